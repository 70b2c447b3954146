/- A part of the proof of this: Payments and locks of a shard come out as they stand on paper (TopPaid): for every input, with the listed package variables as the program's text lays them, TopPaid answers true and its argument reads as it did. -/
import Derived.Test.YtddoimkbjgfjnaaGreatDoorPaid11
namespace Go.Eng
open Go Go.Proofs
set_option maxRecDepth 20000
structure Tx where
  kind : Int
  src : UInt64
  dest : UInt64
  amount : UInt64
  nonce : UInt64
  dst : Int
  deadline : Int
  id : Bts
  member : Int
def z32 : Bts := List.replicate 32 0
theorem z32_len : (bcells z32).length = 32 := rfl
def txCells (t : Tx) (fv : Value) : List Value := iv t.kind :: w6 t.src :: w6 t.dest :: w6 t.amount :: w6 t.nonce :: iv t.dst :: iv t.deadline :: (bcells t.id ++ [iv t.member, fv])
theorem tx_len {t : Tx} {fv : Value} (h : t.id.length = 32) : (txCells t fv).length = 41 := by simp [txCells, bcells_len, h]
theorem tx_one {t : Tx} {fv : Value} (h : oneCell fv = true) : (txCells t fv).all oneCell = true := by
  simp only [txCells, List.all_cons, List.all_append, bcells_one, List.all_nil, h, Bool.and_true]; rfl
theorem zero42 (w : World) : (zeroValue 42).run Tryz.prog w = .ok (.agg (txCells ⟨0, 0, 0, 0, 0, 0, 0, z32, 0⟩ nilS).toArray) w := by rw [Tryz.zeroValue42]; rfl
theorem zero27z (w : World) : (zeroValue 27).run Tryz.prog w = .ok (.agg (bcells z32).toArray) w := zero27 w
theorem c109_1 {σ : Sto} {L : SHeap} {p : Option Addr} {c : Nat} (a b m o : UInt64) : Ctr Tryz.prog 109 #[.agg (txCells ⟨1, a, b, m, o, 0, 0, z32, 0⟩ (.slice p 0 c)).toArray] σ L fun v σ' L' => v = iv 0 ∧ L' = L := by
  refine ctr_enter Tryz.func109 rfl Tryz.ntmps109 (by simp) ?_
  refine go_seq ?_
  refine go_region ?_
  refine snb rfl (n_box rfl (.agg (l := txCells ⟨1, a, b, m, o, 0, 0, z32, 0⟩ _))) ?_
  intro b1
  refine sq rfl (q_assign rfl) ?_
  refine gol_nil ?_
  refine go_seq ?_
  refine go_region ?_
  refine sq rfl (q_loadA (vs := txCells ⟨1, a, b, m, o, 0, 0, z32, 0⟩ (.slice p 0 c)) rfl Tryz.isAgg42 Tryz.sizeOf42 .hd (Part.all (tx_len rfl))) ?_
  refine snb rfl (n_alloc zero42 .agg) ?_
  intro b2
  refine sst rfl (n_storeA rfl rfl (vs := txCells ⟨1, a, b, m, o, 0, 0, z32, 0⟩ (.slice p 0 c)) (tx_one rfl) Tryz.sizeOf42 (tx_len rfl) .hd (PutAt.all rfl)) ?_
  refine gol_nil ?_
  refine go_seq ?_
  refine go_region ?_
  refine sq rfl (q_fieldAddr (off := 0) (o' := 0) rfl Tryz.runUnderlying42 rfl Tryz.sizeOf3 rfl rfl) ?_
  refine sst rfl (n_store rfl rfl rfl Tryz.sizeOf3 .z .hd) ?_
  refine gol_nil ?_
  refine go_seq ?_
  refine go_region ?_
  refine sq rfl (q_assign rfl) ?_
  refine gol_nil ?_
  refine go_seq ?_
  refine go_seq ?_
  refine go_region ?_
  refine sq rfl (q_fieldAddr (off := 0) (o' := 0) rfl Tryz.runUnderlying42 rfl Tryz.sizeOf3 rfl rfl) ?_
  refine sq rfl (q_load rfl Tryz.isAgg3 (.tl .hd) .z) ?_
  refine gol_nil ?_
  refine go_block ?_
  refine go_seq ?_
  refine go_block ?_
  refine go_seq ?_
  refine go_block ?_
  refine go_seq ?_
  refine go_block ?_
  refine go_seq ?_
  refine go_block ?_
  refine go_seq ?_
  refine go_block ?_
  refine go_seq ?_
  refine go_block ?_
  refine go_seq ?_
  refine go_seq ?_
  refine go_seq ?_
  refine go_region ?_
  refine sq rfl (q_eql rfl rfl) ?_
  refine sq rfl (q_assign rfl) ?_
  refine gol_nil ?_
  refine go_condF rfl rfl ?_
  refine go_skip ?_
  refine go_seq ?_
  refine go_seq ?_
  refine go_region ?_
  refine sq rfl (q_eql rfl rfl) ?_
  refine sq rfl (q_assign rfl) ?_
  refine gol_nil ?_
  refine go_condT rfl rfl ?_
  refine go_exit rfl ?_
  refine go_seq ?_
  refine go_region ?_
  refine sq rfl (q_fieldAddr (off := 1) (o' := 1) rfl Tryz.runUnderlying42 rfl Tryz.sizeOf31 rfl rfl) ?_
  refine sst rfl (n_store rfl rfl rfl Tryz.sizeOf31 (.s .z) .hd) ?_
  refine sq rfl (q_fieldAddr (off := 2) (o' := 2) rfl Tryz.runUnderlying42 rfl Tryz.sizeOf31 rfl rfl) ?_
  refine sst rfl (n_store rfl rfl rfl Tryz.sizeOf31 (.s (.s .z)) .hd) ?_
  refine sq rfl (q_fieldAddr (off := 3) (o' := 3) rfl Tryz.runUnderlying42 rfl Tryz.sizeOf31 rfl rfl) ?_
  refine sst rfl (n_store rfl rfl rfl Tryz.sizeOf31 (.s (.s (.s .z))) .hd) ?_
  refine sq rfl (q_fieldAddr (off := 4) (o' := 4) rfl Tryz.runUnderlying42 rfl Tryz.sizeOf31 rfl rfl) ?_
  refine sst rfl (n_store rfl rfl rfl Tryz.sizeOf31 (.s (.s (.s (.s .z)))) .hd) ?_
  refine gol_nil ?_
  refine go_exit rfl ?_
  refine go_seq ?_
  refine go_seq ?_
  refine go_region ?_
  refine sq rfl (q_fieldAddr (off := 40) (o' := 40) rfl Tryz.runUnderlying42 rfl Tryz.sizeOf40 rfl rfl) ?_
  refine sq rfl (q_load rfl Tryz.isAgg40 (.tl .hd) (.s (.s (.s (.s (.s (.s (.s (.app (n := 32) z32_len (.s .z)))))))))) ?_
  refine sq rfl (q_len rfl Tryz.runUnderlying40) ?_
  refine sq rfl (q_move rfl) ?_
  refine sq rfl (q_neq rfl rfl) ?_
  refine sq rfl (q_move rfl) ?_
  refine sqg rfl rfl (q_fieldAddr (off := 1) (o' := 1) rfl Tryz.runUnderlying42 rfl Tryz.sizeOf31 rfl rfl) ?_
  refine sqg rfl rfl (q_load rfl Tryz.isAgg31 .hd (.s .z)) ?_
  refine sqg rfl rfl (q_neq rfl rfl) ?_
  refine sq rfl (q_pick rfl rfl rfl rfl) ?_
  refine sq rfl (q_move rfl) ?_
  refine sqg rfl rfl (q_fieldAddr (off := 2) (o' := 2) rfl Tryz.runUnderlying42 rfl Tryz.sizeOf31 rfl rfl) ?_
  refine sqg rfl rfl (q_load rfl Tryz.isAgg31 .hd (.s (.s .z))) ?_
  refine sqg rfl rfl (q_neq rfl rfl) ?_
  refine sq rfl (q_pick rfl rfl rfl rfl) ?_
  refine sq rfl (q_move rfl) ?_
  refine sqg rfl rfl (q_fieldAddr (off := 3) (o' := 3) rfl Tryz.runUnderlying42 rfl Tryz.sizeOf31 rfl rfl) ?_
  refine sqg rfl rfl (q_load rfl Tryz.isAgg31 .hd (.s (.s (.s .z)))) ?_
  refine sqg rfl rfl (q_neq rfl rfl) ?_
  refine sq rfl (q_pick rfl rfl rfl rfl) ?_
  refine sq rfl (q_move rfl) ?_
  refine sqg rfl rfl (q_fieldAddr (off := 4) (o' := 4) rfl Tryz.runUnderlying42 rfl Tryz.sizeOf31 rfl rfl) ?_
  refine sqg rfl rfl (q_load rfl Tryz.isAgg31 .hd (.s (.s (.s (.s .z))))) ?_
  refine sqg rfl rfl (q_neq rfl rfl) ?_
  refine sq rfl (q_pick rfl rfl rfl rfl) ?_
  refine sq rfl (q_move rfl) ?_
  refine sqg rfl rfl (q_fieldAddr (off := 5) (o' := 5) rfl Tryz.runUnderlying42 rfl Tryz.sizeOf3 rfl rfl) ?_
  refine sqg rfl rfl (q_load rfl Tryz.isAgg3 .hd (.s (.s (.s (.s (.s .z)))))) ?_
  refine sqg rfl rfl (q_neq rfl rfl) ?_
  refine sq rfl (q_pick rfl rfl rfl rfl) ?_
  refine sq rfl (q_move rfl) ?_
  refine sqg rfl rfl (q_fieldAddr (off := 6) (o' := 6) rfl Tryz.runUnderlying42 rfl Tryz.sizeOf2 rfl rfl) ?_
  refine sqg rfl rfl (q_load rfl Tryz.isAgg2 .hd (.s (.s (.s (.s (.s (.s .z))))))) ?_
  refine sqg rfl rfl (q_neq rfl rfl) ?_
  refine sq rfl (q_pick rfl rfl rfl rfl) ?_
  refine sq rfl (q_move rfl) ?_
  refine sqg rfl rfl (q_fieldAddr (off := 7) (o' := 7) rfl Tryz.runUnderlying42 rfl Tryz.sizeOf27 rfl rfl) ?_
  refine sqg rfl rfl (q_loadA (vs := bcells z32) rfl Tryz.isAgg27 Tryz.sizeOf27 .hd (Part.mk (a := [_, _, _, _, _, _, _]) (vs := bcells z32) (b := [_, _]) rfl rfl)) ?_
  refine sqg rfl rfl (q_buildArr (m := 1) (l := bcells z32) .nil zero27z Tryz.runUnderlying27 Tryz.sizeOf5 rfl) ?_
  refine sqg rfl rfl (q_neqAgg (xs := bcells z32) (ys := bcells z32) (r := true) rfl rfl eg27 (fun w => (run_eqDig 9998 z32 z32 rfl rfl w).trans (by rw [decide_eq_true rfl]))) ?_
  refine sq rfl (q_pick rfl rfl rfl rfl) ?_
  refine sq rfl (q_move rfl) ?_
  refine sqg rfl rfl (q_fieldAddr (off := 39) (o' := 39) rfl Tryz.runUnderlying42 rfl Tryz.sizeOf3 rfl rfl) ?_
  refine sqg rfl rfl (q_load rfl Tryz.isAgg3 .hd (.s (.s (.s (.s (.s (.s (.s (.app (n := 32) z32_len .z))))))))) ?_
  refine sqg rfl rfl (q_neq rfl rfl) ?_
  refine sq rfl (q_pick rfl rfl rfl rfl) ?_
  refine gol_nil ?_
  refine go_condF rfl rfl ?_
  refine go_skip ?_
  refine go_seq ?_
  refine go_region ?_
  refine sq rfl (q_assign rfl) ?_
  refine gol_nil ?_
  refine go_drop1 (go_drop1 ?_)
  refine go_ret Tryz.func109 Tryz.results109 rfl rfl rfl (by repeat (first | exact Sto.le_refl _ | assumption | refine Sto.le_trans ?_ (by assumption))) ?_
  exact ⟨rfl, rfl⟩
theorem c109_2 {σ : Sto} {L : SHeap} {p : Option Addr} {c : Nat} (a b m o : UInt64) (d l : Int) : Ctr Tryz.prog 109 #[.agg (txCells ⟨2, a, b, m, o, d, l, z32, 0⟩ (.slice p 0 c)).toArray] σ L fun v σ' L' => v = iv 0 ∧ L' = L := by
  refine ctr_enter Tryz.func109 rfl Tryz.ntmps109 (by simp) ?_
  refine go_seq ?_
  refine go_region ?_
  refine snb rfl (n_box rfl (.agg (l := txCells ⟨2, a, b, m, o, d, l, z32, 0⟩ _))) ?_
  intro b1
  refine sq rfl (q_assign rfl) ?_
  refine gol_nil ?_
  refine go_seq ?_
  refine go_region ?_
  refine sq rfl (q_loadA (vs := txCells ⟨2, a, b, m, o, d, l, z32, 0⟩ (.slice p 0 c)) rfl Tryz.isAgg42 Tryz.sizeOf42 .hd (Part.all (tx_len rfl))) ?_
  refine snb rfl (n_alloc zero42 .agg) ?_
  intro b2
  refine sst rfl (n_storeA rfl rfl (vs := txCells ⟨2, a, b, m, o, d, l, z32, 0⟩ (.slice p 0 c)) (tx_one rfl) Tryz.sizeOf42 (tx_len rfl) .hd (PutAt.all rfl)) ?_
  refine gol_nil ?_
  refine go_seq ?_
  refine go_region ?_
  refine sq rfl (q_fieldAddr (off := 0) (o' := 0) rfl Tryz.runUnderlying42 rfl Tryz.sizeOf3 rfl rfl) ?_
  refine sst rfl (n_store rfl rfl rfl Tryz.sizeOf3 .z .hd) ?_
  refine gol_nil ?_
  refine go_seq ?_
  refine go_region ?_
  refine sq rfl (q_assign rfl) ?_
  refine gol_nil ?_
  refine go_seq ?_
  refine go_seq ?_
  refine go_region ?_
  refine sq rfl (q_fieldAddr (off := 0) (o' := 0) rfl Tryz.runUnderlying42 rfl Tryz.sizeOf3 rfl rfl) ?_
  refine sq rfl (q_load rfl Tryz.isAgg3 (.tl .hd) .z) ?_
  refine gol_nil ?_
  refine go_block ?_
  refine go_seq ?_
  refine go_block ?_
  refine go_seq ?_
  refine go_block ?_
  refine go_seq ?_
  refine go_block ?_
  refine go_seq ?_
  refine go_block ?_
  refine go_seq ?_
  refine go_block ?_
  refine go_seq ?_
  refine go_block ?_
  refine go_seq ?_
  refine go_seq ?_
  refine go_seq ?_
  refine go_region ?_
  refine sq rfl (q_eql rfl rfl) ?_
  refine sq rfl (q_assign rfl) ?_
  refine gol_nil ?_
  refine go_condT rfl rfl ?_
  refine go_exit rfl ?_
  refine go_region ?_
  refine sq rfl (q_fieldAddr (off := 5) (o' := 5) rfl Tryz.runUnderlying42 rfl Tryz.sizeOf3 rfl rfl) ?_
  refine sst rfl (n_store rfl rfl rfl Tryz.sizeOf3 (.s (.s (.s (.s (.s .z))))) .hd) ?_
  refine sq rfl (q_fieldAddr (off := 6) (o' := 6) rfl Tryz.runUnderlying42 rfl Tryz.sizeOf2 rfl rfl) ?_
  refine sst rfl (n_store rfl rfl rfl Tryz.sizeOf2 (.s (.s (.s (.s (.s (.s .z)))))) .hd) ?_
  refine gol_nil ?_
  refine go_inBlock ?_
  refine go_seq ?_
  refine go_region ?_
  refine sq rfl (q_fieldAddr (off := 1) (o' := 1) rfl Tryz.runUnderlying42 rfl Tryz.sizeOf31 rfl rfl) ?_
  refine sst rfl (n_store rfl rfl rfl Tryz.sizeOf31 (.s .z) .hd) ?_
  refine sq rfl (q_fieldAddr (off := 2) (o' := 2) rfl Tryz.runUnderlying42 rfl Tryz.sizeOf31 rfl rfl) ?_
  refine sst rfl (n_store rfl rfl rfl Tryz.sizeOf31 (.s (.s .z)) .hd) ?_
  refine sq rfl (q_fieldAddr (off := 3) (o' := 3) rfl Tryz.runUnderlying42 rfl Tryz.sizeOf31 rfl rfl) ?_
  refine sst rfl (n_store rfl rfl rfl Tryz.sizeOf31 (.s (.s (.s .z))) .hd) ?_
  refine sq rfl (q_fieldAddr (off := 4) (o' := 4) rfl Tryz.runUnderlying42 rfl Tryz.sizeOf31 rfl rfl) ?_
  refine sst rfl (n_store rfl rfl rfl Tryz.sizeOf31 (.s (.s (.s (.s .z)))) .hd) ?_
  refine gol_nil ?_
  refine go_exit rfl ?_
  refine go_seq ?_
  refine go_seq ?_
  refine go_region ?_
  refine sq rfl (q_fieldAddr (off := 40) (o' := 40) rfl Tryz.runUnderlying42 rfl Tryz.sizeOf40 rfl rfl) ?_
  refine sq rfl (q_load rfl Tryz.isAgg40 (.tl .hd) (.s (.s (.s (.s (.s (.s (.s (.app (n := 32) z32_len (.s .z)))))))))) ?_
  refine sq rfl (q_len rfl Tryz.runUnderlying40) ?_
  refine sq rfl (q_move rfl) ?_
  refine sq rfl (q_neq rfl rfl) ?_
  refine sq rfl (q_move rfl) ?_
  refine sqg rfl rfl (q_fieldAddr (off := 1) (o' := 1) rfl Tryz.runUnderlying42 rfl Tryz.sizeOf31 rfl rfl) ?_
  refine sqg rfl rfl (q_load rfl Tryz.isAgg31 .hd (.s .z)) ?_
  refine sqg rfl rfl (q_neq rfl rfl) ?_
  refine sq rfl (q_pick rfl rfl rfl rfl) ?_
  refine sq rfl (q_move rfl) ?_
  refine sqg rfl rfl (q_fieldAddr (off := 2) (o' := 2) rfl Tryz.runUnderlying42 rfl Tryz.sizeOf31 rfl rfl) ?_
  refine sqg rfl rfl (q_load rfl Tryz.isAgg31 .hd (.s (.s .z))) ?_
  refine sqg rfl rfl (q_neq rfl rfl) ?_
  refine sq rfl (q_pick rfl rfl rfl rfl) ?_
  refine sq rfl (q_move rfl) ?_
  refine sqg rfl rfl (q_fieldAddr (off := 3) (o' := 3) rfl Tryz.runUnderlying42 rfl Tryz.sizeOf31 rfl rfl) ?_
  refine sqg rfl rfl (q_load rfl Tryz.isAgg31 .hd (.s (.s (.s .z)))) ?_
  refine sqg rfl rfl (q_neq rfl rfl) ?_
  refine sq rfl (q_pick rfl rfl rfl rfl) ?_
  refine sq rfl (q_move rfl) ?_
  refine sqg rfl rfl (q_fieldAddr (off := 4) (o' := 4) rfl Tryz.runUnderlying42 rfl Tryz.sizeOf31 rfl rfl) ?_
  refine sqg rfl rfl (q_load rfl Tryz.isAgg31 .hd (.s (.s (.s (.s .z))))) ?_
  refine sqg rfl rfl (q_neq rfl rfl) ?_
  refine sq rfl (q_pick rfl rfl rfl rfl) ?_
  refine sq rfl (q_move rfl) ?_
  refine sqg rfl rfl (q_fieldAddr (off := 5) (o' := 5) rfl Tryz.runUnderlying42 rfl Tryz.sizeOf3 rfl rfl) ?_
  refine sqg rfl rfl (q_load rfl Tryz.isAgg3 .hd (.s (.s (.s (.s (.s .z)))))) ?_
  refine sqg rfl rfl (q_neq rfl rfl) ?_
  refine sq rfl (q_pick rfl rfl rfl rfl) ?_
  refine sq rfl (q_move rfl) ?_
  refine sqg rfl rfl (q_fieldAddr (off := 6) (o' := 6) rfl Tryz.runUnderlying42 rfl Tryz.sizeOf2 rfl rfl) ?_
  refine sqg rfl rfl (q_load rfl Tryz.isAgg2 .hd (.s (.s (.s (.s (.s (.s .z))))))) ?_
  refine sqg rfl rfl (q_neq rfl rfl) ?_
  refine sq rfl (q_pick rfl rfl rfl rfl) ?_
  refine sq rfl (q_move rfl) ?_
  refine sqg rfl rfl (q_fieldAddr (off := 7) (o' := 7) rfl Tryz.runUnderlying42 rfl Tryz.sizeOf27 rfl rfl) ?_
  refine sqg rfl rfl (q_loadA (vs := bcells z32) rfl Tryz.isAgg27 Tryz.sizeOf27 .hd (Part.mk (a := [_, _, _, _, _, _, _]) (vs := bcells z32) (b := [_, _]) rfl rfl)) ?_
  refine sqg rfl rfl (q_buildArr (m := 1) (l := bcells z32) .nil zero27z Tryz.runUnderlying27 Tryz.sizeOf5 rfl) ?_
  refine sqg rfl rfl (q_neqAgg (xs := bcells z32) (ys := bcells z32) (r := true) rfl rfl eg27 (fun w => (run_eqDig 9998 z32 z32 rfl rfl w).trans (by rw [decide_eq_true rfl]))) ?_
  refine sq rfl (q_pick rfl rfl rfl rfl) ?_
  refine sq rfl (q_move rfl) ?_
  refine sqg rfl rfl (q_fieldAddr (off := 39) (o' := 39) rfl Tryz.runUnderlying42 rfl Tryz.sizeOf3 rfl rfl) ?_
  refine sqg rfl rfl (q_load rfl Tryz.isAgg3 .hd (.s (.s (.s (.s (.s (.s (.s (.app (n := 32) z32_len .z))))))))) ?_
  refine sqg rfl rfl (q_neq rfl rfl) ?_
  refine sq rfl (q_pick rfl rfl rfl rfl) ?_
  refine gol_nil ?_
  refine go_condF rfl rfl ?_
  refine go_skip ?_
  refine go_seq ?_
  refine go_region ?_
  refine sq rfl (q_assign rfl) ?_
  refine gol_nil ?_
  refine go_drop1 (go_drop1 ?_)
  refine go_ret Tryz.func109 Tryz.results109 rfl rfl rfl (by repeat (first | exact Sto.le_refl _ | assumption | refine Sto.le_trans ?_ (by assumption))) ?_
  exact ⟨rfl, rfl⟩
theorem c109_3 {σ : Sto} {L : SHeap} {p : Option Addr} {c : Nat} {i : Bts} (hi : i.length = 32) : Ctr Tryz.prog 109 #[.agg (txCells ⟨3, 0, 0, 0, 0, 0, 0, i, 0⟩ (.slice p 1 c)).toArray] σ L fun v σ' L' => v = iv 0 ∧ L' = L := by
  refine ctr_enter Tryz.func109 rfl Tryz.ntmps109 (by simp) ?_
  refine go_seq ?_
  refine go_region ?_
  refine snb rfl (n_box rfl (.agg (l := txCells ⟨3, 0, 0, 0, 0, 0, 0, i, 0⟩ _))) ?_
  intro b1
  refine sq rfl (q_assign rfl) ?_
  refine gol_nil ?_
  refine go_seq ?_
  refine go_region ?_
  refine sq rfl (q_loadA (vs := txCells ⟨3, 0, 0, 0, 0, 0, 0, i, 0⟩ (.slice p 1 c)) rfl Tryz.isAgg42 Tryz.sizeOf42 .hd (Part.all (tx_len hi))) ?_
  refine snb rfl (n_alloc zero42 .agg) ?_
  intro b2
  refine sst rfl (n_storeA rfl rfl (vs := txCells ⟨3, 0, 0, 0, 0, 0, 0, i, 0⟩ (.slice p 1 c)) (tx_one rfl) Tryz.sizeOf42 (tx_len hi) .hd (PutAt.all ((tx_len rfl).trans (tx_len hi).symm))) ?_
  refine gol_nil ?_
  refine go_seq ?_
  refine go_region ?_
  refine sq rfl (q_fieldAddr (off := 0) (o' := 0) rfl Tryz.runUnderlying42 rfl Tryz.sizeOf3 rfl rfl) ?_
  refine sst rfl (n_store rfl rfl rfl Tryz.sizeOf3 .z .hd) ?_
  refine gol_nil ?_
  refine go_seq ?_
  refine go_region ?_
  refine sq rfl (q_assign rfl) ?_
  refine gol_nil ?_
  refine go_seq ?_
  refine go_seq ?_
  refine go_region ?_
  refine sq rfl (q_fieldAddr (off := 0) (o' := 0) rfl Tryz.runUnderlying42 rfl Tryz.sizeOf3 rfl rfl) ?_
  refine sq rfl (q_load rfl Tryz.isAgg3 (.tl .hd) .z) ?_
  refine gol_nil ?_
  refine go_block ?_
  refine go_seq ?_
  refine go_block ?_
  refine go_seq ?_
  refine go_block ?_
  refine go_seq ?_
  refine go_block ?_
  refine go_seq ?_
  refine go_block ?_
  refine go_seq ?_
  refine go_block ?_
  refine go_seq ?_
  refine go_block ?_
  refine go_seq ?_
  refine go_seq ?_
  refine go_seq ?_
  refine go_region ?_
  refine sq rfl (q_eql rfl rfl) ?_
  refine sq rfl (q_assign rfl) ?_
  refine gol_nil ?_
  refine go_condF rfl rfl ?_
  refine go_skip ?_
  refine go_seq ?_
  refine go_seq ?_
  refine go_region ?_
  refine sq rfl (q_eql rfl rfl) ?_
  refine sq rfl (q_assign rfl) ?_
  refine gol_nil ?_
  refine go_condF rfl rfl ?_
  refine go_skip ?_
  refine go_seq ?_
  refine go_seq ?_
  refine go_seq ?_
  refine go_region ?_
  refine sq rfl (q_eql rfl rfl) ?_
  refine sq rfl (q_assign rfl) ?_
  refine gol_nil ?_
  refine go_condT rfl rfl ?_
  refine go_skip ?_
  refine go_condT rfl rfl ?_
  refine go_exit rfl ?_
  refine go_seq ?_
  refine go_seq ?_
  refine go_region ?_
  refine sq rfl (q_buildArr (m := 1) (l := bcells z32) .nil zero27z Tryz.runUnderlying27 Tryz.sizeOf5 rfl) ?_
  refine sq rfl (q_fieldAddr (off := 7) (o' := 7) rfl Tryz.runUnderlying42 rfl Tryz.sizeOf27 rfl rfl) ?_
  refine sst rfl (n_storeA rfl rfl (vs := bcells z32) (bcells_one _) Tryz.sizeOf27 rfl .hd ⟨[_, _, _, _, _, _, _], bcells i, [_, _], rfl, rfl, rfl, (by rw [bcells_len, hi]; rfl)⟩) ?_
  refine gol_nil ?_
  refine go_region ?_
  refine sq rfl (q_assign rfl) ?_
  refine gol_nil ?_
  refine go_exit rfl ?_
  refine go_seq ?_
  refine go_seq ?_
  refine go_region ?_
  refine sq rfl (q_fieldAddr (off := 40) (o' := 40) rfl Tryz.runUnderlying42 rfl Tryz.sizeOf40 rfl rfl) ?_
  refine sq rfl (q_load rfl Tryz.isAgg40 (.tl .hd) (.s (.s (.s (.s (.s (.s (.s (.app (n := 32) (by rw [bcells_len, hi]) (.s .z)))))))))) ?_
  refine sq rfl (q_len rfl Tryz.runUnderlying40) ?_
  refine sq rfl (q_move rfl) ?_
  refine sq rfl (q_neq rfl rfl) ?_
  refine sq rfl (q_move rfl) ?_
  refine sqg rfl rfl (q_fieldAddr (off := 1) (o' := 1) rfl Tryz.runUnderlying42 rfl Tryz.sizeOf31 rfl rfl) ?_
  refine sqg rfl rfl (q_load rfl Tryz.isAgg31 .hd (.s .z)) ?_
  refine sqg rfl rfl (q_neq rfl rfl) ?_
  refine sq rfl (q_pick rfl rfl rfl rfl) ?_
  refine sq rfl (q_move rfl) ?_
  refine sqg rfl rfl (q_fieldAddr (off := 2) (o' := 2) rfl Tryz.runUnderlying42 rfl Tryz.sizeOf31 rfl rfl) ?_
  refine sqg rfl rfl (q_load rfl Tryz.isAgg31 .hd (.s (.s .z))) ?_
  refine sqg rfl rfl (q_neq rfl rfl) ?_
  refine sq rfl (q_pick rfl rfl rfl rfl) ?_
  refine sq rfl (q_move rfl) ?_
  refine sqg rfl rfl (q_fieldAddr (off := 3) (o' := 3) rfl Tryz.runUnderlying42 rfl Tryz.sizeOf31 rfl rfl) ?_
  refine sqg rfl rfl (q_load rfl Tryz.isAgg31 .hd (.s (.s (.s .z)))) ?_
  refine sqg rfl rfl (q_neq rfl rfl) ?_
  refine sq rfl (q_pick rfl rfl rfl rfl) ?_
  refine sq rfl (q_move rfl) ?_
  refine sqg rfl rfl (q_fieldAddr (off := 4) (o' := 4) rfl Tryz.runUnderlying42 rfl Tryz.sizeOf31 rfl rfl) ?_
  refine sqg rfl rfl (q_load rfl Tryz.isAgg31 .hd (.s (.s (.s (.s .z))))) ?_
  refine sqg rfl rfl (q_neq rfl rfl) ?_
  refine sq rfl (q_pick rfl rfl rfl rfl) ?_
  refine sq rfl (q_move rfl) ?_
  refine sqg rfl rfl (q_fieldAddr (off := 5) (o' := 5) rfl Tryz.runUnderlying42 rfl Tryz.sizeOf3 rfl rfl) ?_
  refine sqg rfl rfl (q_load rfl Tryz.isAgg3 .hd (.s (.s (.s (.s (.s .z)))))) ?_
  refine sqg rfl rfl (q_neq rfl rfl) ?_
  refine sq rfl (q_pick rfl rfl rfl rfl) ?_
  refine sq rfl (q_move rfl) ?_
  refine sqg rfl rfl (q_fieldAddr (off := 6) (o' := 6) rfl Tryz.runUnderlying42 rfl Tryz.sizeOf2 rfl rfl) ?_
  refine sqg rfl rfl (q_load rfl Tryz.isAgg2 .hd (.s (.s (.s (.s (.s (.s .z))))))) ?_
  refine sqg rfl rfl (q_neq rfl rfl) ?_
  refine sq rfl (q_pick rfl rfl rfl rfl) ?_
  refine sq rfl (q_move rfl) ?_
  refine sqg rfl rfl (q_fieldAddr (off := 7) (o' := 7) rfl Tryz.runUnderlying42 rfl Tryz.sizeOf27 rfl rfl) ?_
  refine sqg rfl rfl (q_loadA (vs := bcells z32) rfl Tryz.isAgg27 Tryz.sizeOf27 .hd (Part.mk (a := [_, _, _, _, _, _, _]) (vs := bcells z32) (b := [_, _]) rfl rfl)) ?_
  refine sqg rfl rfl (q_buildArr (m := 1) (l := bcells z32) .nil zero27z Tryz.runUnderlying27 Tryz.sizeOf5 rfl) ?_
  refine sqg rfl rfl (q_neqAgg (xs := bcells z32) (ys := bcells z32) (r := true) rfl rfl eg27 (fun w => (run_eqDig 9998 z32 z32 rfl rfl w).trans (by rw [decide_eq_true rfl]))) ?_
  refine sq rfl (q_pick rfl rfl rfl rfl) ?_
  refine sq rfl (q_move rfl) ?_
  refine sqg rfl rfl (q_fieldAddr (off := 39) (o' := 39) rfl Tryz.runUnderlying42 rfl Tryz.sizeOf3 rfl rfl) ?_
  refine sqg rfl rfl (q_load rfl Tryz.isAgg3 .hd (.s (.s (.s (.s (.s (.s (.s (.app (n := 32) z32_len .z))))))))) ?_
  refine sqg rfl rfl (q_neq rfl rfl) ?_
  refine sq rfl (q_pick rfl rfl rfl rfl) ?_
  refine gol_nil ?_
  refine go_condF rfl rfl ?_
  refine go_skip ?_
  refine go_seq ?_
  refine go_region ?_
  refine sq rfl (q_assign rfl) ?_
  refine gol_nil ?_
  refine go_drop1 (go_drop1 ?_)
  refine go_ret Tryz.func109 Tryz.results109 rfl rfl rfl (by repeat (first | exact Sto.le_refl _ | assumption | refine Sto.le_trans ?_ (by assumption))) ?_
  exact ⟨rfl, rfl⟩
theorem c109_4 {σ : Sto} {L : SHeap} {p : Option Addr} {c : Nat} {i : Bts} (hi : i.length = 32) : Ctr Tryz.prog 109 #[.agg (txCells ⟨4, 0, 0, 0, 0, 0, 0, i, 0⟩ (.slice p 1 c)).toArray] σ L fun v σ' L' => v = iv 0 ∧ L' = L := by
  refine ctr_enter Tryz.func109 rfl Tryz.ntmps109 (by simp) ?_
  refine go_seq ?_
  refine go_region ?_
  refine snb rfl (n_box rfl (.agg (l := txCells ⟨4, 0, 0, 0, 0, 0, 0, i, 0⟩ _))) ?_
  intro b1
  refine sq rfl (q_assign rfl) ?_
  refine gol_nil ?_
  refine go_seq ?_
  refine go_region ?_
  refine sq rfl (q_loadA (vs := txCells ⟨4, 0, 0, 0, 0, 0, 0, i, 0⟩ (.slice p 1 c)) rfl Tryz.isAgg42 Tryz.sizeOf42 .hd (Part.all (tx_len hi))) ?_
  refine snb rfl (n_alloc zero42 .agg) ?_
  intro b2
  refine sst rfl (n_storeA rfl rfl (vs := txCells ⟨4, 0, 0, 0, 0, 0, 0, i, 0⟩ (.slice p 1 c)) (tx_one rfl) Tryz.sizeOf42 (tx_len hi) .hd (PutAt.all ((tx_len rfl).trans (tx_len hi).symm))) ?_
  refine gol_nil ?_
  refine go_seq ?_
  refine go_region ?_
  refine sq rfl (q_fieldAddr (off := 0) (o' := 0) rfl Tryz.runUnderlying42 rfl Tryz.sizeOf3 rfl rfl) ?_
  refine sst rfl (n_store rfl rfl rfl Tryz.sizeOf3 .z .hd) ?_
  refine gol_nil ?_
  refine go_seq ?_
  refine go_region ?_
  refine sq rfl (q_assign rfl) ?_
  refine gol_nil ?_
  refine go_seq ?_
  refine go_seq ?_
  refine go_region ?_
  refine sq rfl (q_fieldAddr (off := 0) (o' := 0) rfl Tryz.runUnderlying42 rfl Tryz.sizeOf3 rfl rfl) ?_
  refine sq rfl (q_load rfl Tryz.isAgg3 (.tl .hd) .z) ?_
  refine gol_nil ?_
  refine go_block ?_
  refine go_seq ?_
  refine go_block ?_
  refine go_seq ?_
  refine go_block ?_
  refine go_seq ?_
  refine go_block ?_
  refine go_seq ?_
  refine go_block ?_
  refine go_seq ?_
  refine go_block ?_
  refine go_seq ?_
  refine go_block ?_
  refine go_seq ?_
  refine go_seq ?_
  refine go_seq ?_
  refine go_region ?_
  refine sq rfl (q_eql rfl rfl) ?_
  refine sq rfl (q_assign rfl) ?_
  refine gol_nil ?_
  refine go_condF rfl rfl ?_
  refine go_skip ?_
  refine go_seq ?_
  refine go_seq ?_
  refine go_region ?_
  refine sq rfl (q_eql rfl rfl) ?_
  refine sq rfl (q_assign rfl) ?_
  refine gol_nil ?_
  refine go_condF rfl rfl ?_
  refine go_skip ?_
  refine go_seq ?_
  refine go_seq ?_
  refine go_seq ?_
  refine go_region ?_
  refine sq rfl (q_eql rfl rfl) ?_
  refine sq rfl (q_assign rfl) ?_
  refine gol_nil ?_
  refine go_condF rfl rfl ?_
  refine go_seq ?_
  refine go_region ?_
  refine sq rfl (q_eql rfl rfl) ?_
  refine sq rfl (q_assign rfl) ?_
  refine gol_nil ?_
  refine go_condT rfl rfl ?_
  refine go_skip ?_
  refine go_condT rfl rfl ?_
  refine go_exit rfl ?_
  refine go_seq ?_
  refine go_seq ?_
  refine go_region ?_
  refine sq rfl (q_buildArr (m := 1) (l := bcells z32) .nil zero27z Tryz.runUnderlying27 Tryz.sizeOf5 rfl) ?_
  refine sq rfl (q_fieldAddr (off := 7) (o' := 7) rfl Tryz.runUnderlying42 rfl Tryz.sizeOf27 rfl rfl) ?_
  refine sst rfl (n_storeA rfl rfl (vs := bcells z32) (bcells_one _) Tryz.sizeOf27 rfl .hd ⟨[_, _, _, _, _, _, _], bcells i, [_, _], rfl, rfl, rfl, (by rw [bcells_len, hi]; rfl)⟩) ?_
  refine gol_nil ?_
  refine go_region ?_
  refine sq rfl (q_assign rfl) ?_
  refine gol_nil ?_
  refine go_exit rfl ?_
  refine go_seq ?_
  refine go_seq ?_
  refine go_region ?_
  refine sq rfl (q_fieldAddr (off := 40) (o' := 40) rfl Tryz.runUnderlying42 rfl Tryz.sizeOf40 rfl rfl) ?_
  refine sq rfl (q_load rfl Tryz.isAgg40 (.tl .hd) (.s (.s (.s (.s (.s (.s (.s (.app (n := 32) (by rw [bcells_len, hi]) (.s .z)))))))))) ?_
  refine sq rfl (q_len rfl Tryz.runUnderlying40) ?_
  refine sq rfl (q_move rfl) ?_
  refine sq rfl (q_neq rfl rfl) ?_
  refine sq rfl (q_move rfl) ?_
  refine sqg rfl rfl (q_fieldAddr (off := 1) (o' := 1) rfl Tryz.runUnderlying42 rfl Tryz.sizeOf31 rfl rfl) ?_
  refine sqg rfl rfl (q_load rfl Tryz.isAgg31 .hd (.s .z)) ?_
  refine sqg rfl rfl (q_neq rfl rfl) ?_
  refine sq rfl (q_pick rfl rfl rfl rfl) ?_
  refine sq rfl (q_move rfl) ?_
  refine sqg rfl rfl (q_fieldAddr (off := 2) (o' := 2) rfl Tryz.runUnderlying42 rfl Tryz.sizeOf31 rfl rfl) ?_
  refine sqg rfl rfl (q_load rfl Tryz.isAgg31 .hd (.s (.s .z))) ?_
  refine sqg rfl rfl (q_neq rfl rfl) ?_
  refine sq rfl (q_pick rfl rfl rfl rfl) ?_
  refine sq rfl (q_move rfl) ?_
  refine sqg rfl rfl (q_fieldAddr (off := 3) (o' := 3) rfl Tryz.runUnderlying42 rfl Tryz.sizeOf31 rfl rfl) ?_
  refine sqg rfl rfl (q_load rfl Tryz.isAgg31 .hd (.s (.s (.s .z)))) ?_
  refine sqg rfl rfl (q_neq rfl rfl) ?_
  refine sq rfl (q_pick rfl rfl rfl rfl) ?_
  refine sq rfl (q_move rfl) ?_
  refine sqg rfl rfl (q_fieldAddr (off := 4) (o' := 4) rfl Tryz.runUnderlying42 rfl Tryz.sizeOf31 rfl rfl) ?_
  refine sqg rfl rfl (q_load rfl Tryz.isAgg31 .hd (.s (.s (.s (.s .z))))) ?_
  refine sqg rfl rfl (q_neq rfl rfl) ?_
  refine sq rfl (q_pick rfl rfl rfl rfl) ?_
  refine sq rfl (q_move rfl) ?_
  refine sqg rfl rfl (q_fieldAddr (off := 5) (o' := 5) rfl Tryz.runUnderlying42 rfl Tryz.sizeOf3 rfl rfl) ?_
  refine sqg rfl rfl (q_load rfl Tryz.isAgg3 .hd (.s (.s (.s (.s (.s .z)))))) ?_
  refine sqg rfl rfl (q_neq rfl rfl) ?_
  refine sq rfl (q_pick rfl rfl rfl rfl) ?_
  refine sq rfl (q_move rfl) ?_
  refine sqg rfl rfl (q_fieldAddr (off := 6) (o' := 6) rfl Tryz.runUnderlying42 rfl Tryz.sizeOf2 rfl rfl) ?_
  refine sqg rfl rfl (q_load rfl Tryz.isAgg2 .hd (.s (.s (.s (.s (.s (.s .z))))))) ?_
  refine sqg rfl rfl (q_neq rfl rfl) ?_
  refine sq rfl (q_pick rfl rfl rfl rfl) ?_
  refine sq rfl (q_move rfl) ?_
  refine sqg rfl rfl (q_fieldAddr (off := 7) (o' := 7) rfl Tryz.runUnderlying42 rfl Tryz.sizeOf27 rfl rfl) ?_
  refine sqg rfl rfl (q_loadA (vs := bcells z32) rfl Tryz.isAgg27 Tryz.sizeOf27 .hd (Part.mk (a := [_, _, _, _, _, _, _]) (vs := bcells z32) (b := [_, _]) rfl rfl)) ?_
  refine sqg rfl rfl (q_buildArr (m := 1) (l := bcells z32) .nil zero27z Tryz.runUnderlying27 Tryz.sizeOf5 rfl) ?_
  refine sqg rfl rfl (q_neqAgg (xs := bcells z32) (ys := bcells z32) (r := true) rfl rfl eg27 (fun w => (run_eqDig 9998 z32 z32 rfl rfl w).trans (by rw [decide_eq_true rfl]))) ?_
  refine sq rfl (q_pick rfl rfl rfl rfl) ?_
  refine sq rfl (q_move rfl) ?_
  refine sqg rfl rfl (q_fieldAddr (off := 39) (o' := 39) rfl Tryz.runUnderlying42 rfl Tryz.sizeOf3 rfl rfl) ?_
  refine sqg rfl rfl (q_load rfl Tryz.isAgg3 .hd (.s (.s (.s (.s (.s (.s (.s (.app (n := 32) z32_len .z))))))))) ?_
  refine sqg rfl rfl (q_neq rfl rfl) ?_
  refine sq rfl (q_pick rfl rfl rfl rfl) ?_
  refine gol_nil ?_
  refine go_condF rfl rfl ?_
  refine go_skip ?_
  refine go_seq ?_
  refine go_region ?_
  refine sq rfl (q_assign rfl) ?_
  refine gol_nil ?_
  refine go_drop1 (go_drop1 ?_)
  refine go_ret Tryz.func109 Tryz.results109 rfl rfl rfl (by repeat (first | exact Sto.le_refl _ | assumption | refine Sto.le_trans ?_ (by assumption))) ?_
  exact ⟨rfl, rfl⟩
theorem c109_5 {σ : Sto} {L : SHeap} {p : Option Addr} {c : Nat} {i : Bts} (hi : i.length = 32) : Ctr Tryz.prog 109 #[.agg (txCells ⟨5, 0, 0, 0, 0, 0, 0, i, 0⟩ (.slice p 1 c)).toArray] σ L fun v σ' L' => v = iv 0 ∧ L' = L := by
  refine ctr_enter Tryz.func109 rfl Tryz.ntmps109 (by simp) ?_
  refine go_seq ?_
  refine go_region ?_
  refine snb rfl (n_box rfl (.agg (l := txCells ⟨5, 0, 0, 0, 0, 0, 0, i, 0⟩ _))) ?_
  intro b1
  refine sq rfl (q_assign rfl) ?_
  refine gol_nil ?_
  refine go_seq ?_
  refine go_region ?_
  refine sq rfl (q_loadA (vs := txCells ⟨5, 0, 0, 0, 0, 0, 0, i, 0⟩ (.slice p 1 c)) rfl Tryz.isAgg42 Tryz.sizeOf42 .hd (Part.all (tx_len hi))) ?_
  refine snb rfl (n_alloc zero42 .agg) ?_
  intro b2
  refine sst rfl (n_storeA rfl rfl (vs := txCells ⟨5, 0, 0, 0, 0, 0, 0, i, 0⟩ (.slice p 1 c)) (tx_one rfl) Tryz.sizeOf42 (tx_len hi) .hd (PutAt.all ((tx_len rfl).trans (tx_len hi).symm))) ?_
  refine gol_nil ?_
  refine go_seq ?_
  refine go_region ?_
  refine sq rfl (q_fieldAddr (off := 0) (o' := 0) rfl Tryz.runUnderlying42 rfl Tryz.sizeOf3 rfl rfl) ?_
  refine sst rfl (n_store rfl rfl rfl Tryz.sizeOf3 .z .hd) ?_
  refine gol_nil ?_
  refine go_seq ?_
  refine go_region ?_
  refine sq rfl (q_assign rfl) ?_
  refine gol_nil ?_
  refine go_seq ?_
  refine go_seq ?_
  refine go_region ?_
  refine sq rfl (q_fieldAddr (off := 0) (o' := 0) rfl Tryz.runUnderlying42 rfl Tryz.sizeOf3 rfl rfl) ?_
  refine sq rfl (q_load rfl Tryz.isAgg3 (.tl .hd) .z) ?_
  refine gol_nil ?_
  refine go_block ?_
  refine go_seq ?_
  refine go_block ?_
  refine go_seq ?_
  refine go_block ?_
  refine go_seq ?_
  refine go_block ?_
  refine go_seq ?_
  refine go_block ?_
  refine go_seq ?_
  refine go_block ?_
  refine go_seq ?_
  refine go_block ?_
  refine go_seq ?_
  refine go_seq ?_
  refine go_seq ?_
  refine go_region ?_
  refine sq rfl (q_eql rfl rfl) ?_
  refine sq rfl (q_assign rfl) ?_
  refine gol_nil ?_
  refine go_condF rfl rfl ?_
  refine go_skip ?_
  refine go_seq ?_
  refine go_seq ?_
  refine go_region ?_
  refine sq rfl (q_eql rfl rfl) ?_
  refine sq rfl (q_assign rfl) ?_
  refine gol_nil ?_
  refine go_condF rfl rfl ?_
  refine go_skip ?_
  refine go_seq ?_
  refine go_seq ?_
  refine go_seq ?_
  refine go_region ?_
  refine sq rfl (q_eql rfl rfl) ?_
  refine sq rfl (q_assign rfl) ?_
  refine gol_nil ?_
  refine go_condF rfl rfl ?_
  refine go_seq ?_
  refine go_region ?_
  refine sq rfl (q_eql rfl rfl) ?_
  refine sq rfl (q_assign rfl) ?_
  refine gol_nil ?_
  refine go_condF rfl rfl ?_
  refine go_region ?_
  refine sq rfl (q_eql rfl rfl) ?_
  refine sq rfl (q_assign rfl) ?_
  refine gol_nil ?_
  refine go_condT rfl rfl ?_
  refine go_exit rfl ?_
  refine go_seq ?_
  refine go_seq ?_
  refine go_region ?_
  refine sq rfl (q_buildArr (m := 1) (l := bcells z32) .nil zero27z Tryz.runUnderlying27 Tryz.sizeOf5 rfl) ?_
  refine sq rfl (q_fieldAddr (off := 7) (o' := 7) rfl Tryz.runUnderlying42 rfl Tryz.sizeOf27 rfl rfl) ?_
  refine sst rfl (n_storeA rfl rfl (vs := bcells z32) (bcells_one _) Tryz.sizeOf27 rfl .hd ⟨[_, _, _, _, _, _, _], bcells i, [_, _], rfl, rfl, rfl, (by rw [bcells_len, hi]; rfl)⟩) ?_
  refine gol_nil ?_
  refine go_region ?_
  refine sq rfl (q_assign rfl) ?_
  refine gol_nil ?_
  refine go_exit rfl ?_
  refine go_seq ?_
  refine go_seq ?_
  refine go_region ?_
  refine sq rfl (q_fieldAddr (off := 40) (o' := 40) rfl Tryz.runUnderlying42 rfl Tryz.sizeOf40 rfl rfl) ?_
  refine sq rfl (q_load rfl Tryz.isAgg40 (.tl .hd) (.s (.s (.s (.s (.s (.s (.s (.app (n := 32) (by rw [bcells_len, hi]) (.s .z)))))))))) ?_
  refine sq rfl (q_len rfl Tryz.runUnderlying40) ?_
  refine sq rfl (q_move rfl) ?_
  refine sq rfl (q_neq rfl rfl) ?_
  refine sq rfl (q_move rfl) ?_
  refine sqg rfl rfl (q_fieldAddr (off := 1) (o' := 1) rfl Tryz.runUnderlying42 rfl Tryz.sizeOf31 rfl rfl) ?_
  refine sqg rfl rfl (q_load rfl Tryz.isAgg31 .hd (.s .z)) ?_
  refine sqg rfl rfl (q_neq rfl rfl) ?_
  refine sq rfl (q_pick rfl rfl rfl rfl) ?_
  refine sq rfl (q_move rfl) ?_
  refine sqg rfl rfl (q_fieldAddr (off := 2) (o' := 2) rfl Tryz.runUnderlying42 rfl Tryz.sizeOf31 rfl rfl) ?_
  refine sqg rfl rfl (q_load rfl Tryz.isAgg31 .hd (.s (.s .z))) ?_
  refine sqg rfl rfl (q_neq rfl rfl) ?_
  refine sq rfl (q_pick rfl rfl rfl rfl) ?_
  refine sq rfl (q_move rfl) ?_
  refine sqg rfl rfl (q_fieldAddr (off := 3) (o' := 3) rfl Tryz.runUnderlying42 rfl Tryz.sizeOf31 rfl rfl) ?_
  refine sqg rfl rfl (q_load rfl Tryz.isAgg31 .hd (.s (.s (.s .z)))) ?_
  refine sqg rfl rfl (q_neq rfl rfl) ?_
  refine sq rfl (q_pick rfl rfl rfl rfl) ?_
  refine sq rfl (q_move rfl) ?_
  refine sqg rfl rfl (q_fieldAddr (off := 4) (o' := 4) rfl Tryz.runUnderlying42 rfl Tryz.sizeOf31 rfl rfl) ?_
  refine sqg rfl rfl (q_load rfl Tryz.isAgg31 .hd (.s (.s (.s (.s .z))))) ?_
  refine sqg rfl rfl (q_neq rfl rfl) ?_
  refine sq rfl (q_pick rfl rfl rfl rfl) ?_
  refine sq rfl (q_move rfl) ?_
  refine sqg rfl rfl (q_fieldAddr (off := 5) (o' := 5) rfl Tryz.runUnderlying42 rfl Tryz.sizeOf3 rfl rfl) ?_
  refine sqg rfl rfl (q_load rfl Tryz.isAgg3 .hd (.s (.s (.s (.s (.s .z)))))) ?_
  refine sqg rfl rfl (q_neq rfl rfl) ?_
  refine sq rfl (q_pick rfl rfl rfl rfl) ?_
  refine sq rfl (q_move rfl) ?_
  refine sqg rfl rfl (q_fieldAddr (off := 6) (o' := 6) rfl Tryz.runUnderlying42 rfl Tryz.sizeOf2 rfl rfl) ?_
  refine sqg rfl rfl (q_load rfl Tryz.isAgg2 .hd (.s (.s (.s (.s (.s (.s .z))))))) ?_
  refine sqg rfl rfl (q_neq rfl rfl) ?_
  refine sq rfl (q_pick rfl rfl rfl rfl) ?_
  refine sq rfl (q_move rfl) ?_
  refine sqg rfl rfl (q_fieldAddr (off := 7) (o' := 7) rfl Tryz.runUnderlying42 rfl Tryz.sizeOf27 rfl rfl) ?_
  refine sqg rfl rfl (q_loadA (vs := bcells z32) rfl Tryz.isAgg27 Tryz.sizeOf27 .hd (Part.mk (a := [_, _, _, _, _, _, _]) (vs := bcells z32) (b := [_, _]) rfl rfl)) ?_
  refine sqg rfl rfl (q_buildArr (m := 1) (l := bcells z32) .nil zero27z Tryz.runUnderlying27 Tryz.sizeOf5 rfl) ?_
  refine sqg rfl rfl (q_neqAgg (xs := bcells z32) (ys := bcells z32) (r := true) rfl rfl eg27 (fun w => (run_eqDig 9998 z32 z32 rfl rfl w).trans (by rw [decide_eq_true rfl]))) ?_
  refine sq rfl (q_pick rfl rfl rfl rfl) ?_
  refine sq rfl (q_move rfl) ?_
  refine sqg rfl rfl (q_fieldAddr (off := 39) (o' := 39) rfl Tryz.runUnderlying42 rfl Tryz.sizeOf3 rfl rfl) ?_
  refine sqg rfl rfl (q_load rfl Tryz.isAgg3 .hd (.s (.s (.s (.s (.s (.s (.s (.app (n := 32) z32_len .z))))))))) ?_
  refine sqg rfl rfl (q_neq rfl rfl) ?_
  refine sq rfl (q_pick rfl rfl rfl rfl) ?_
  refine gol_nil ?_
  refine go_condF rfl rfl ?_
  refine go_skip ?_
  refine go_seq ?_
  refine go_region ?_
  refine sq rfl (q_assign rfl) ?_
  refine gol_nil ?_
  refine go_drop1 (go_drop1 ?_)
  refine go_ret Tryz.func109 Tryz.results109 rfl rfl rfl (by repeat (first | exact Sto.le_refl _ | assumption | refine Sto.le_trans ?_ (by assumption))) ?_
  exact ⟨rfl, rfl⟩
theorem c109_6 {σ : Sto} {L : SHeap} {p : Option Addr} {c : Nat} : Ctr Tryz.prog 109 #[.agg (txCells ⟨6, 0, 0, 0, 0, 0, 0, z32, 0⟩ (.slice p 1 c)).toArray] σ L fun v σ' L' => v = iv 0 ∧ L' = L := by
  refine ctr_enter Tryz.func109 rfl Tryz.ntmps109 (by simp) ?_
  refine go_seq ?_
  refine go_region ?_
  refine snb rfl (n_box rfl (.agg (l := txCells ⟨6, 0, 0, 0, 0, 0, 0, z32, 0⟩ _))) ?_
  intro b1
  refine sq rfl (q_assign rfl) ?_
  refine gol_nil ?_
  refine go_seq ?_
  refine go_region ?_
  refine sq rfl (q_loadA (vs := txCells ⟨6, 0, 0, 0, 0, 0, 0, z32, 0⟩ (.slice p 1 c)) rfl Tryz.isAgg42 Tryz.sizeOf42 .hd (Part.all (tx_len rfl))) ?_
  refine snb rfl (n_alloc zero42 .agg) ?_
  intro b2
  refine sst rfl (n_storeA rfl rfl (vs := txCells ⟨6, 0, 0, 0, 0, 0, 0, z32, 0⟩ (.slice p 1 c)) (tx_one rfl) Tryz.sizeOf42 (tx_len rfl) .hd (PutAt.all rfl)) ?_
  refine gol_nil ?_
  refine go_seq ?_
  refine go_region ?_
  refine sq rfl (q_fieldAddr (off := 0) (o' := 0) rfl Tryz.runUnderlying42 rfl Tryz.sizeOf3 rfl rfl) ?_
  refine sst rfl (n_store rfl rfl rfl Tryz.sizeOf3 .z .hd) ?_
  refine gol_nil ?_
  refine go_seq ?_
  refine go_region ?_
  refine sq rfl (q_assign rfl) ?_
  refine gol_nil ?_
  refine go_seq ?_
  refine go_seq ?_
  refine go_region ?_
  refine sq rfl (q_fieldAddr (off := 0) (o' := 0) rfl Tryz.runUnderlying42 rfl Tryz.sizeOf3 rfl rfl) ?_
  refine sq rfl (q_load rfl Tryz.isAgg3 (.tl .hd) .z) ?_
  refine gol_nil ?_
  refine go_block ?_
  refine go_seq ?_
  refine go_block ?_
  refine go_seq ?_
  refine go_block ?_
  refine go_seq ?_
  refine go_block ?_
  refine go_seq ?_
  refine go_block ?_
  refine go_seq ?_
  refine go_block ?_
  refine go_seq ?_
  refine go_block ?_
  refine go_seq ?_
  refine go_seq ?_
  refine go_seq ?_
  refine go_region ?_
  refine sq rfl (q_eql rfl rfl) ?_
  refine sq rfl (q_assign rfl) ?_
  refine gol_nil ?_
  refine go_condF rfl rfl ?_
  refine go_skip ?_
  refine go_seq ?_
  refine go_seq ?_
  refine go_region ?_
  refine sq rfl (q_eql rfl rfl) ?_
  refine sq rfl (q_assign rfl) ?_
  refine gol_nil ?_
  refine go_condF rfl rfl ?_
  refine go_skip ?_
  refine go_seq ?_
  refine go_seq ?_
  refine go_seq ?_
  refine go_region ?_
  refine sq rfl (q_eql rfl rfl) ?_
  refine sq rfl (q_assign rfl) ?_
  refine gol_nil ?_
  refine go_condF rfl rfl ?_
  refine go_seq ?_
  refine go_region ?_
  refine sq rfl (q_eql rfl rfl) ?_
  refine sq rfl (q_assign rfl) ?_
  refine gol_nil ?_
  refine go_condF rfl rfl ?_
  refine go_region ?_
  refine sq rfl (q_eql rfl rfl) ?_
  refine sq rfl (q_assign rfl) ?_
  refine gol_nil ?_
  refine go_condF rfl rfl ?_
  refine go_skip ?_
  refine go_seq ?_
  refine go_seq ?_
  refine go_region ?_
  refine sq rfl (q_eql rfl rfl) ?_
  refine sq rfl (q_assign rfl) ?_
  refine gol_nil ?_
  refine go_condT rfl rfl ?_
  refine go_exit rfl ?_
  refine go_seq ?_
  refine go_region ?_
  refine sq rfl (q_assign rfl) ?_
  refine gol_nil ?_
  refine go_exit rfl ?_
  refine go_seq ?_
  refine go_seq ?_
  refine go_region ?_
  refine sq rfl (q_fieldAddr (off := 40) (o' := 40) rfl Tryz.runUnderlying42 rfl Tryz.sizeOf40 rfl rfl) ?_
  refine sq rfl (q_load rfl Tryz.isAgg40 (.tl .hd) (.s (.s (.s (.s (.s (.s (.s (.app (n := 32) z32_len (.s .z)))))))))) ?_
  refine sq rfl (q_len rfl Tryz.runUnderlying40) ?_
  refine sq rfl (q_move rfl) ?_
  refine sq rfl (q_neq rfl rfl) ?_
  refine sq rfl (q_move rfl) ?_
  refine sqg rfl rfl (q_fieldAddr (off := 1) (o' := 1) rfl Tryz.runUnderlying42 rfl Tryz.sizeOf31 rfl rfl) ?_
  refine sqg rfl rfl (q_load rfl Tryz.isAgg31 .hd (.s .z)) ?_
  refine sqg rfl rfl (q_neq rfl rfl) ?_
  refine sq rfl (q_pick rfl rfl rfl rfl) ?_
  refine sq rfl (q_move rfl) ?_
  refine sqg rfl rfl (q_fieldAddr (off := 2) (o' := 2) rfl Tryz.runUnderlying42 rfl Tryz.sizeOf31 rfl rfl) ?_
  refine sqg rfl rfl (q_load rfl Tryz.isAgg31 .hd (.s (.s .z))) ?_
  refine sqg rfl rfl (q_neq rfl rfl) ?_
  refine sq rfl (q_pick rfl rfl rfl rfl) ?_
  refine sq rfl (q_move rfl) ?_
  refine sqg rfl rfl (q_fieldAddr (off := 3) (o' := 3) rfl Tryz.runUnderlying42 rfl Tryz.sizeOf31 rfl rfl) ?_
  refine sqg rfl rfl (q_load rfl Tryz.isAgg31 .hd (.s (.s (.s .z)))) ?_
  refine sqg rfl rfl (q_neq rfl rfl) ?_
  refine sq rfl (q_pick rfl rfl rfl rfl) ?_
  refine sq rfl (q_move rfl) ?_
  refine sqg rfl rfl (q_fieldAddr (off := 4) (o' := 4) rfl Tryz.runUnderlying42 rfl Tryz.sizeOf31 rfl rfl) ?_
  refine sqg rfl rfl (q_load rfl Tryz.isAgg31 .hd (.s (.s (.s (.s .z))))) ?_
  refine sqg rfl rfl (q_neq rfl rfl) ?_
  refine sq rfl (q_pick rfl rfl rfl rfl) ?_
  refine sq rfl (q_move rfl) ?_
  refine sqg rfl rfl (q_fieldAddr (off := 5) (o' := 5) rfl Tryz.runUnderlying42 rfl Tryz.sizeOf3 rfl rfl) ?_
  refine sqg rfl rfl (q_load rfl Tryz.isAgg3 .hd (.s (.s (.s (.s (.s .z)))))) ?_
  refine sqg rfl rfl (q_neq rfl rfl) ?_
  refine sq rfl (q_pick rfl rfl rfl rfl) ?_
  refine sq rfl (q_move rfl) ?_
  refine sqg rfl rfl (q_fieldAddr (off := 6) (o' := 6) rfl Tryz.runUnderlying42 rfl Tryz.sizeOf2 rfl rfl) ?_
  refine sqg rfl rfl (q_load rfl Tryz.isAgg2 .hd (.s (.s (.s (.s (.s (.s .z))))))) ?_
  refine sqg rfl rfl (q_neq rfl rfl) ?_
  refine sq rfl (q_pick rfl rfl rfl rfl) ?_
  refine sq rfl (q_move rfl) ?_
  refine sqg rfl rfl (q_fieldAddr (off := 7) (o' := 7) rfl Tryz.runUnderlying42 rfl Tryz.sizeOf27 rfl rfl) ?_
  refine sqg rfl rfl (q_loadA (vs := bcells z32) rfl Tryz.isAgg27 Tryz.sizeOf27 .hd (Part.mk (a := [_, _, _, _, _, _, _]) (vs := bcells z32) (b := [_, _]) rfl rfl)) ?_
  refine sqg rfl rfl (q_buildArr (m := 1) (l := bcells z32) .nil zero27z Tryz.runUnderlying27 Tryz.sizeOf5 rfl) ?_
  refine sqg rfl rfl (q_neqAgg (xs := bcells z32) (ys := bcells z32) (r := true) rfl rfl eg27 (fun w => (run_eqDig 9998 z32 z32 rfl rfl w).trans (by rw [decide_eq_true rfl]))) ?_
  refine sq rfl (q_pick rfl rfl rfl rfl) ?_
  refine sq rfl (q_move rfl) ?_
  refine sqg rfl rfl (q_fieldAddr (off := 39) (o' := 39) rfl Tryz.runUnderlying42 rfl Tryz.sizeOf3 rfl rfl) ?_
  refine sqg rfl rfl (q_load rfl Tryz.isAgg3 .hd (.s (.s (.s (.s (.s (.s (.s (.app (n := 32) z32_len .z))))))))) ?_
  refine sqg rfl rfl (q_neq rfl rfl) ?_
  refine sq rfl (q_pick rfl rfl rfl rfl) ?_
  refine gol_nil ?_
  refine go_condF rfl rfl ?_
  refine go_skip ?_
  refine go_seq ?_
  refine go_region ?_
  refine sq rfl (q_assign rfl) ?_
  refine gol_nil ?_
  refine go_drop1 (go_drop1 ?_)
  refine go_ret Tryz.func109 Tryz.results109 rfl rfl rfl (by repeat (first | exact Sto.le_refl _ | assumption | refine Sto.le_trans ?_ (by assumption))) ?_
  exact ⟨rfl, rfl⟩
theorem c109_7 {σ : Sto} {L : SHeap} {p : Option Addr} {c : Nat} (u : Int) : Ctr Tryz.prog 109 #[.agg (txCells ⟨7, 0, 0, 0, 0, 0, 0, z32, u⟩ (.slice p 0 c)).toArray] σ L fun v σ' L' => v = iv 0 ∧ L' = L := by
  refine ctr_enter Tryz.func109 rfl Tryz.ntmps109 (by simp) ?_
  refine go_seq ?_
  refine go_region ?_
  refine snb rfl (n_box rfl (.agg (l := txCells ⟨7, 0, 0, 0, 0, 0, 0, z32, u⟩ _))) ?_
  intro b1
  refine sq rfl (q_assign rfl) ?_
  refine gol_nil ?_
  refine go_seq ?_
  refine go_region ?_
  refine sq rfl (q_loadA (vs := txCells ⟨7, 0, 0, 0, 0, 0, 0, z32, u⟩ (.slice p 0 c)) rfl Tryz.isAgg42 Tryz.sizeOf42 .hd (Part.all (tx_len rfl))) ?_
  refine snb rfl (n_alloc zero42 .agg) ?_
  intro b2
  refine sst rfl (n_storeA rfl rfl (vs := txCells ⟨7, 0, 0, 0, 0, 0, 0, z32, u⟩ (.slice p 0 c)) (tx_one rfl) Tryz.sizeOf42 (tx_len rfl) .hd (PutAt.all rfl)) ?_
  refine gol_nil ?_
  refine go_seq ?_
  refine go_region ?_
  refine sq rfl (q_fieldAddr (off := 0) (o' := 0) rfl Tryz.runUnderlying42 rfl Tryz.sizeOf3 rfl rfl) ?_
  refine sst rfl (n_store rfl rfl rfl Tryz.sizeOf3 .z .hd) ?_
  refine gol_nil ?_
  refine go_seq ?_
  refine go_region ?_
  refine sq rfl (q_assign rfl) ?_
  refine gol_nil ?_
  refine go_seq ?_
  refine go_seq ?_
  refine go_region ?_
  refine sq rfl (q_fieldAddr (off := 0) (o' := 0) rfl Tryz.runUnderlying42 rfl Tryz.sizeOf3 rfl rfl) ?_
  refine sq rfl (q_load rfl Tryz.isAgg3 (.tl .hd) .z) ?_
  refine gol_nil ?_
  refine go_block ?_
  refine go_seq ?_
  refine go_block ?_
  refine go_seq ?_
  refine go_block ?_
  refine go_seq ?_
  refine go_block ?_
  refine go_seq ?_
  refine go_block ?_
  refine go_seq ?_
  refine go_block ?_
  refine go_seq ?_
  refine go_block ?_
  refine go_seq ?_
  refine go_seq ?_
  refine go_seq ?_
  refine go_region ?_
  refine sq rfl (q_eql rfl rfl) ?_
  refine sq rfl (q_assign rfl) ?_
  refine gol_nil ?_
  refine go_condF rfl rfl ?_
  refine go_skip ?_
  refine go_seq ?_
  refine go_seq ?_
  refine go_region ?_
  refine sq rfl (q_eql rfl rfl) ?_
  refine sq rfl (q_assign rfl) ?_
  refine gol_nil ?_
  refine go_condF rfl rfl ?_
  refine go_skip ?_
  refine go_seq ?_
  refine go_seq ?_
  refine go_seq ?_
  refine go_region ?_
  refine sq rfl (q_eql rfl rfl) ?_
  refine sq rfl (q_assign rfl) ?_
  refine gol_nil ?_
  refine go_condF rfl rfl ?_
  refine go_seq ?_
  refine go_region ?_
  refine sq rfl (q_eql rfl rfl) ?_
  refine sq rfl (q_assign rfl) ?_
  refine gol_nil ?_
  refine go_condF rfl rfl ?_
  refine go_region ?_
  refine sq rfl (q_eql rfl rfl) ?_
  refine sq rfl (q_assign rfl) ?_
  refine gol_nil ?_
  refine go_condF rfl rfl ?_
  refine go_skip ?_
  refine go_seq ?_
  refine go_seq ?_
  refine go_region ?_
  refine sq rfl (q_eql rfl rfl) ?_
  refine sq rfl (q_assign rfl) ?_
  refine gol_nil ?_
  refine go_condF rfl rfl ?_
  refine go_skip ?_
  refine go_seq ?_
  refine go_seq ?_
  refine go_region ?_
  refine sq rfl (q_eql rfl rfl) ?_
  refine sq rfl (q_assign rfl) ?_
  refine gol_nil ?_
  refine go_condT rfl rfl ?_
  refine go_skip ?_
  refine go_condT rfl rfl ?_
  refine go_exit rfl ?_
  refine go_seq ?_
  refine go_region ?_
  refine sq rfl (q_fieldAddr (off := 39) (o' := 39) rfl Tryz.runUnderlying42 rfl Tryz.sizeOf3 rfl rfl) ?_
  refine sst rfl (n_store rfl rfl rfl Tryz.sizeOf3 (.s (.s (.s (.s (.s (.s (.s (.app (n := 32) z32_len .z)))))))) .hd) ?_
  refine gol_nil ?_
  refine go_exit rfl ?_
  refine go_seq ?_
  refine go_seq ?_
  refine go_region ?_
  refine sq rfl (q_fieldAddr (off := 40) (o' := 40) rfl Tryz.runUnderlying42 rfl Tryz.sizeOf40 rfl rfl) ?_
  refine sq rfl (q_load rfl Tryz.isAgg40 (.tl .hd) (.s (.s (.s (.s (.s (.s (.s (.app (n := 32) z32_len (.s .z)))))))))) ?_
  refine sq rfl (q_len rfl Tryz.runUnderlying40) ?_
  refine sq rfl (q_move rfl) ?_
  refine sq rfl (q_neq rfl rfl) ?_
  refine sq rfl (q_move rfl) ?_
  refine sqg rfl rfl (q_fieldAddr (off := 1) (o' := 1) rfl Tryz.runUnderlying42 rfl Tryz.sizeOf31 rfl rfl) ?_
  refine sqg rfl rfl (q_load rfl Tryz.isAgg31 .hd (.s .z)) ?_
  refine sqg rfl rfl (q_neq rfl rfl) ?_
  refine sq rfl (q_pick rfl rfl rfl rfl) ?_
  refine sq rfl (q_move rfl) ?_
  refine sqg rfl rfl (q_fieldAddr (off := 2) (o' := 2) rfl Tryz.runUnderlying42 rfl Tryz.sizeOf31 rfl rfl) ?_
  refine sqg rfl rfl (q_load rfl Tryz.isAgg31 .hd (.s (.s .z))) ?_
  refine sqg rfl rfl (q_neq rfl rfl) ?_
  refine sq rfl (q_pick rfl rfl rfl rfl) ?_
  refine sq rfl (q_move rfl) ?_
  refine sqg rfl rfl (q_fieldAddr (off := 3) (o' := 3) rfl Tryz.runUnderlying42 rfl Tryz.sizeOf31 rfl rfl) ?_
  refine sqg rfl rfl (q_load rfl Tryz.isAgg31 .hd (.s (.s (.s .z)))) ?_
  refine sqg rfl rfl (q_neq rfl rfl) ?_
  refine sq rfl (q_pick rfl rfl rfl rfl) ?_
  refine sq rfl (q_move rfl) ?_
  refine sqg rfl rfl (q_fieldAddr (off := 4) (o' := 4) rfl Tryz.runUnderlying42 rfl Tryz.sizeOf31 rfl rfl) ?_
  refine sqg rfl rfl (q_load rfl Tryz.isAgg31 .hd (.s (.s (.s (.s .z))))) ?_
  refine sqg rfl rfl (q_neq rfl rfl) ?_
  refine sq rfl (q_pick rfl rfl rfl rfl) ?_
  refine sq rfl (q_move rfl) ?_
  refine sqg rfl rfl (q_fieldAddr (off := 5) (o' := 5) rfl Tryz.runUnderlying42 rfl Tryz.sizeOf3 rfl rfl) ?_
  refine sqg rfl rfl (q_load rfl Tryz.isAgg3 .hd (.s (.s (.s (.s (.s .z)))))) ?_
  refine sqg rfl rfl (q_neq rfl rfl) ?_
  refine sq rfl (q_pick rfl rfl rfl rfl) ?_
  refine sq rfl (q_move rfl) ?_
  refine sqg rfl rfl (q_fieldAddr (off := 6) (o' := 6) rfl Tryz.runUnderlying42 rfl Tryz.sizeOf2 rfl rfl) ?_
  refine sqg rfl rfl (q_load rfl Tryz.isAgg2 .hd (.s (.s (.s (.s (.s (.s .z))))))) ?_
  refine sqg rfl rfl (q_neq rfl rfl) ?_
  refine sq rfl (q_pick rfl rfl rfl rfl) ?_
  refine sq rfl (q_move rfl) ?_
  refine sqg rfl rfl (q_fieldAddr (off := 7) (o' := 7) rfl Tryz.runUnderlying42 rfl Tryz.sizeOf27 rfl rfl) ?_
  refine sqg rfl rfl (q_loadA (vs := bcells z32) rfl Tryz.isAgg27 Tryz.sizeOf27 .hd (Part.mk (a := [_, _, _, _, _, _, _]) (vs := bcells z32) (b := [_, _]) rfl rfl)) ?_
  refine sqg rfl rfl (q_buildArr (m := 1) (l := bcells z32) .nil zero27z Tryz.runUnderlying27 Tryz.sizeOf5 rfl) ?_
  refine sqg rfl rfl (q_neqAgg (xs := bcells z32) (ys := bcells z32) (r := true) rfl rfl eg27 (fun w => (run_eqDig 9998 z32 z32 rfl rfl w).trans (by rw [decide_eq_true rfl]))) ?_
  refine sq rfl (q_pick rfl rfl rfl rfl) ?_
  refine sq rfl (q_move rfl) ?_
  refine sqg rfl rfl (q_fieldAddr (off := 39) (o' := 39) rfl Tryz.runUnderlying42 rfl Tryz.sizeOf3 rfl rfl) ?_
  refine sqg rfl rfl (q_load rfl Tryz.isAgg3 .hd (.s (.s (.s (.s (.s (.s (.s (.app (n := 32) z32_len .z))))))))) ?_
  refine sqg rfl rfl (q_neq rfl rfl) ?_
  refine sq rfl (q_pick rfl rfl rfl rfl) ?_
  refine gol_nil ?_
  refine go_condF rfl rfl ?_
  refine go_skip ?_
  refine go_seq ?_
  refine go_region ?_
  refine sq rfl (q_assign rfl) ?_
  refine gol_nil ?_
  refine go_drop1 (go_drop1 ?_)
  refine go_ret Tryz.func109 Tryz.results109 rfl rfl rfl (by repeat (first | exact Sto.le_refl _ | assumption | refine Sto.le_trans ?_ (by assumption))) ?_
  exact ⟨rfl, rfl⟩
theorem c109_8 {σ : Sto} {L : SHeap} {p : Option Addr} {c : Nat} (u : Int) : Ctr Tryz.prog 109 #[.agg (txCells ⟨8, 0, 0, 0, 0, 0, 0, z32, u⟩ (.slice p 0 c)).toArray] σ L fun v σ' L' => v = iv 0 ∧ L' = L := by
  refine ctr_enter Tryz.func109 rfl Tryz.ntmps109 (by simp) ?_
  refine go_seq ?_
  refine go_region ?_
  refine snb rfl (n_box rfl (.agg (l := txCells ⟨8, 0, 0, 0, 0, 0, 0, z32, u⟩ _))) ?_
  intro b1
  refine sq rfl (q_assign rfl) ?_
  refine gol_nil ?_
  refine go_seq ?_
  refine go_region ?_
  refine sq rfl (q_loadA (vs := txCells ⟨8, 0, 0, 0, 0, 0, 0, z32, u⟩ (.slice p 0 c)) rfl Tryz.isAgg42 Tryz.sizeOf42 .hd (Part.all (tx_len rfl))) ?_
  refine snb rfl (n_alloc zero42 .agg) ?_
  intro b2
  refine sst rfl (n_storeA rfl rfl (vs := txCells ⟨8, 0, 0, 0, 0, 0, 0, z32, u⟩ (.slice p 0 c)) (tx_one rfl) Tryz.sizeOf42 (tx_len rfl) .hd (PutAt.all rfl)) ?_
  refine gol_nil ?_
  refine go_seq ?_
  refine go_region ?_
  refine sq rfl (q_fieldAddr (off := 0) (o' := 0) rfl Tryz.runUnderlying42 rfl Tryz.sizeOf3 rfl rfl) ?_
  refine sst rfl (n_store rfl rfl rfl Tryz.sizeOf3 .z .hd) ?_
  refine gol_nil ?_
  refine go_seq ?_
  refine go_region ?_
  refine sq rfl (q_assign rfl) ?_
  refine gol_nil ?_
  refine go_seq ?_
  refine go_seq ?_
  refine go_region ?_
  refine sq rfl (q_fieldAddr (off := 0) (o' := 0) rfl Tryz.runUnderlying42 rfl Tryz.sizeOf3 rfl rfl) ?_
  refine sq rfl (q_load rfl Tryz.isAgg3 (.tl .hd) .z) ?_
  refine gol_nil ?_
  refine go_block ?_
  refine go_seq ?_
  refine go_block ?_
  refine go_seq ?_
  refine go_block ?_
  refine go_seq ?_
  refine go_block ?_
  refine go_seq ?_
  refine go_block ?_
  refine go_seq ?_
  refine go_block ?_
  refine go_seq ?_
  refine go_block ?_
  refine go_seq ?_
  refine go_seq ?_
  refine go_seq ?_
  refine go_region ?_
  refine sq rfl (q_eql rfl rfl) ?_
  refine sq rfl (q_assign rfl) ?_
  refine gol_nil ?_
  refine go_condF rfl rfl ?_
  refine go_skip ?_
  refine go_seq ?_
  refine go_seq ?_
  refine go_region ?_
  refine sq rfl (q_eql rfl rfl) ?_
  refine sq rfl (q_assign rfl) ?_
  refine gol_nil ?_
  refine go_condF rfl rfl ?_
  refine go_skip ?_
  refine go_seq ?_
  refine go_seq ?_
  refine go_seq ?_
  refine go_region ?_
  refine sq rfl (q_eql rfl rfl) ?_
  refine sq rfl (q_assign rfl) ?_
  refine gol_nil ?_
  refine go_condF rfl rfl ?_
  refine go_seq ?_
  refine go_region ?_
  refine sq rfl (q_eql rfl rfl) ?_
  refine sq rfl (q_assign rfl) ?_
  refine gol_nil ?_
  refine go_condF rfl rfl ?_
  refine go_region ?_
  refine sq rfl (q_eql rfl rfl) ?_
  refine sq rfl (q_assign rfl) ?_
  refine gol_nil ?_
  refine go_condF rfl rfl ?_
  refine go_skip ?_
  refine go_seq ?_
  refine go_seq ?_
  refine go_region ?_
  refine sq rfl (q_eql rfl rfl) ?_
  refine sq rfl (q_assign rfl) ?_
  refine gol_nil ?_
  refine go_condF rfl rfl ?_
  refine go_skip ?_
  refine go_seq ?_
  refine go_seq ?_
  refine go_region ?_
  refine sq rfl (q_eql rfl rfl) ?_
  refine sq rfl (q_assign rfl) ?_
  refine gol_nil ?_
  refine go_condF rfl rfl ?_
  refine go_region ?_
  refine sq rfl (q_eql rfl rfl) ?_
  refine sq rfl (q_assign rfl) ?_
  refine gol_nil ?_
  refine go_condT rfl rfl ?_
  refine go_exit rfl ?_
  refine go_seq ?_
  refine go_region ?_
  refine sq rfl (q_fieldAddr (off := 39) (o' := 39) rfl Tryz.runUnderlying42 rfl Tryz.sizeOf3 rfl rfl) ?_
  refine sst rfl (n_store rfl rfl rfl Tryz.sizeOf3 (.s (.s (.s (.s (.s (.s (.s (.app (n := 32) z32_len .z)))))))) .hd) ?_
  refine gol_nil ?_
  refine go_exit rfl ?_
  refine go_seq ?_
  refine go_seq ?_
  refine go_region ?_
  refine sq rfl (q_fieldAddr (off := 40) (o' := 40) rfl Tryz.runUnderlying42 rfl Tryz.sizeOf40 rfl rfl) ?_
  refine sq rfl (q_load rfl Tryz.isAgg40 (.tl .hd) (.s (.s (.s (.s (.s (.s (.s (.app (n := 32) z32_len (.s .z)))))))))) ?_
  refine sq rfl (q_len rfl Tryz.runUnderlying40) ?_
  refine sq rfl (q_move rfl) ?_
  refine sq rfl (q_neq rfl rfl) ?_
  refine sq rfl (q_move rfl) ?_
  refine sqg rfl rfl (q_fieldAddr (off := 1) (o' := 1) rfl Tryz.runUnderlying42 rfl Tryz.sizeOf31 rfl rfl) ?_
  refine sqg rfl rfl (q_load rfl Tryz.isAgg31 .hd (.s .z)) ?_
  refine sqg rfl rfl (q_neq rfl rfl) ?_
  refine sq rfl (q_pick rfl rfl rfl rfl) ?_
  refine sq rfl (q_move rfl) ?_
  refine sqg rfl rfl (q_fieldAddr (off := 2) (o' := 2) rfl Tryz.runUnderlying42 rfl Tryz.sizeOf31 rfl rfl) ?_
  refine sqg rfl rfl (q_load rfl Tryz.isAgg31 .hd (.s (.s .z))) ?_
  refine sqg rfl rfl (q_neq rfl rfl) ?_
  refine sq rfl (q_pick rfl rfl rfl rfl) ?_
  refine sq rfl (q_move rfl) ?_
  refine sqg rfl rfl (q_fieldAddr (off := 3) (o' := 3) rfl Tryz.runUnderlying42 rfl Tryz.sizeOf31 rfl rfl) ?_
  refine sqg rfl rfl (q_load rfl Tryz.isAgg31 .hd (.s (.s (.s .z)))) ?_
  refine sqg rfl rfl (q_neq rfl rfl) ?_
  refine sq rfl (q_pick rfl rfl rfl rfl) ?_
  refine sq rfl (q_move rfl) ?_
  refine sqg rfl rfl (q_fieldAddr (off := 4) (o' := 4) rfl Tryz.runUnderlying42 rfl Tryz.sizeOf31 rfl rfl) ?_
  refine sqg rfl rfl (q_load rfl Tryz.isAgg31 .hd (.s (.s (.s (.s .z))))) ?_
  refine sqg rfl rfl (q_neq rfl rfl) ?_
  refine sq rfl (q_pick rfl rfl rfl rfl) ?_
  refine sq rfl (q_move rfl) ?_
  refine sqg rfl rfl (q_fieldAddr (off := 5) (o' := 5) rfl Tryz.runUnderlying42 rfl Tryz.sizeOf3 rfl rfl) ?_
  refine sqg rfl rfl (q_load rfl Tryz.isAgg3 .hd (.s (.s (.s (.s (.s .z)))))) ?_
  refine sqg rfl rfl (q_neq rfl rfl) ?_
  refine sq rfl (q_pick rfl rfl rfl rfl) ?_
  refine sq rfl (q_move rfl) ?_
  refine sqg rfl rfl (q_fieldAddr (off := 6) (o' := 6) rfl Tryz.runUnderlying42 rfl Tryz.sizeOf2 rfl rfl) ?_
  refine sqg rfl rfl (q_load rfl Tryz.isAgg2 .hd (.s (.s (.s (.s (.s (.s .z))))))) ?_
  refine sqg rfl rfl (q_neq rfl rfl) ?_
  refine sq rfl (q_pick rfl rfl rfl rfl) ?_
  refine sq rfl (q_move rfl) ?_
  refine sqg rfl rfl (q_fieldAddr (off := 7) (o' := 7) rfl Tryz.runUnderlying42 rfl Tryz.sizeOf27 rfl rfl) ?_
  refine sqg rfl rfl (q_loadA (vs := bcells z32) rfl Tryz.isAgg27 Tryz.sizeOf27 .hd (Part.mk (a := [_, _, _, _, _, _, _]) (vs := bcells z32) (b := [_, _]) rfl rfl)) ?_
  refine sqg rfl rfl (q_buildArr (m := 1) (l := bcells z32) .nil zero27z Tryz.runUnderlying27 Tryz.sizeOf5 rfl) ?_
  refine sqg rfl rfl (q_neqAgg (xs := bcells z32) (ys := bcells z32) (r := true) rfl rfl eg27 (fun w => (run_eqDig 9998 z32 z32 rfl rfl w).trans (by rw [decide_eq_true rfl]))) ?_
  refine sq rfl (q_pick rfl rfl rfl rfl) ?_
  refine sq rfl (q_move rfl) ?_
  refine sqg rfl rfl (q_fieldAddr (off := 39) (o' := 39) rfl Tryz.runUnderlying42 rfl Tryz.sizeOf3 rfl rfl) ?_
  refine sqg rfl rfl (q_load rfl Tryz.isAgg3 .hd (.s (.s (.s (.s (.s (.s (.s (.app (n := 32) z32_len .z))))))))) ?_
  refine sqg rfl rfl (q_neq rfl rfl) ?_
  refine sq rfl (q_pick rfl rfl rfl rfl) ?_
  refine gol_nil ?_
  refine go_condF rfl rfl ?_
  refine go_skip ?_
  refine go_seq ?_
  refine go_region ?_
  refine sq rfl (q_assign rfl) ?_
  refine gol_nil ?_
  refine go_drop1 (go_drop1 ?_)
  refine go_ret Tryz.func109 Tryz.results109 rfl rfl rfl (by repeat (first | exact Sto.le_refl _ | assumption | refine Sto.le_trans ?_ (by assumption))) ?_
  exact ⟨rfl, rfl⟩
end Go.Eng
