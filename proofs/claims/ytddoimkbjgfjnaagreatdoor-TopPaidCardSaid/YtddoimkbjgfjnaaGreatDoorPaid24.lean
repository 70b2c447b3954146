/- A part of the proof of this: Payments and locks of a shard come out as they stand on paper (TopPaid): for every input, with the listed package variables as the program's text lays them, TopPaid answers true and its argument reads as it did. -/
import Derived.Test.YtddoimkbjgfjnaaGreatDoorPaid23
import Derived.Test.YtddoimkbjgfjnaaGreatDoorPaid21
import Derived.Test.YtddoimkbjgfjnaaGreatDoorPaid15
import Derived.Shelf.SlSortCmp.WholeK
import Derived.Ground.SlsfProg
import Derived.Test.YtddoimkbjgfjnaaGreatDoorProg
namespace Go.Eng
open Go Go.Proofs
set_option maxRecDepth 20000
def bankG (len : Int) (times plus : UInt64) : Gen := ⟨7, 2, len, [0, 1, 2, 3, 4], [[], [⟨times * 1 + plus, 50, 0⟩, ⟨times * 2 + plus, 20, 0⟩], [⟨times * 1 + plus, 30, 0⟩, ⟨times * 3 + plus, 10, 0⟩]], z32⟩
theorem c96 {σ : Sto} {L : SHeap} {v : Value} {d : Bts} {xs : List Bts} (hv : Sl σ L v 32 bcells xs) (hd : d.length = 32) (hn : xs.length < 1000000000) : Ctr Tryz.prog 96 #[v, .agg (bcells d).toArray] σ L fun r σ' L' => (∃ n, r = iv n ∧ (0 ≤ n ↔ d ∈ xs)) ∧ σ' = σ ∧ L' = L := by
  obtain ⟨p, c, rfl⟩ := hv.val
  have hc := hv.cells.2.2
  refine ctr_enter Tryz.func96 rfl Tryz.ntmps96 (by simp) ?_
  refine go_seq ?_
  refine go_region ?_
  refine snb rfl (n_box rfl .agg) ?_
  intro b1
  refine sq rfl (q_assign rfl) ?_
  refine gol_nil ?_
  refine go_seq ?_
  refine go_seq ?_
  refine go_region ?_
  refine sq rfl (q_move rfl) ?_
  refine sq rfl (q_len rfl Tryz.runUnderlying48) ?_
  refine sq rfl (q_move rfl) ?_
  refine gol_nil ?_
  refine go_block ?_
  refine go_loop (X := Nat) (fun i => i ≤ xs.length ∧ decide (d ∈ xs) = decide (d ∈ xs.drop i)) (fun i => [(0, .slice p xs.length c), (3, .pointer (some ⟨b1, 0, none⟩)), (7, iv (xs.length : Nat)), (8, iv (i : Nat))]) (fun _ => σ) (fun _ => (b1, .cells (bcells d).toArray 27 (0, 0)) :: L) (fun i => xs.length - i) 0 ⟨Nat.zero_le _, rfl⟩ ⟨rfl, rfl, rfl, rfl, trivial⟩ rfl rfl ?_
  rintro i ⟨hi, hm⟩ next
  refine go_seq ?_
  refine go_region ?_
  refine sq rfl (q_lss (a := (i : Int)) (b := (xs.length : Int)) rfl rfl) ?_
  refine gol_nil ?_
  refine go_seq ?_
  refine go_cond rfl rfl (fun hc0 => ?_) (fun hc0 => ?_)
  ·
    have hlt : i < xs.length := by have := of_decide_eq_true hc0; omega
    rw [List.drop_eq_getElem_cons hlt] at hm
    have hl : xs[i].length = 32 := by have := hv.len xs[i] (List.getElem_mem hlt); rwa [bcells_len] at this
    obtain ⟨b, o, ds, T', fr', rfl, hkn, hpt⟩ := hc.get (by intro e; have := hc.1; rw [e] at this; simp at this; omega)
    have h1 : Part ds.toList (o + i * 32) 32 (bcells xs[i]) := by have := cells_part hpt hlt; rwa [flat_at hv.len hlt] at this
    refine go_skip ?_
    refine go_seq ?_
    refine go_block ?_
    refine go_seq ?_
    refine go_region ?_
    refine sq rfl (q_move rfl) ?_
    refine sq rfl (q_assign rfl) ?_
    refine gol_nil ?_
    refine go_seq ?_
    refine go_draws (n := 19) _ mix rfl (by decide +kernel) (Keep.refl _) ?_
    refine dq 0 rfl rfl rfl rfl (q_loadA rfl Tryz.isAgg27 Tryz.sizeOf27 .hd (Part.all (by rw [bcells_len, hd]))) ?_
    refine dq 1 rfl rfl rfl rfl (q_move rfl) ?_
    refine dq 2 rfl rfl rfl rfl (q_move rfl) ?_
    refine dq 3 rfl rfl rfl rfl (q_indexAddr (j := i) (o' := o + i * 32) rfl rfl Tryz.runUnderlying48 Tryz.sizeOf27 rfl hlt rfl) ?_
    refine dq 4 rfl rfl rfl rfl (q_loadA rfl Tryz.isAgg27 Tryz.sizeOf27 (.tl hkn) h1) ?_
    refine dq 5 rfl rfl rfl rfl (q_eqAgg (r := decide (d = xs[i])) rfl rfl eg27 (run_eqDig _ _ _ hd hl)) ?_
    refine dend rfl ?_
    refine go_cond rfl rfl (fun hc1 => ?_) (fun hc1 => ?_)
    ·
      have he : d = xs[i] := of_decide_eq_true hc1
      refine go_seq ?_
      refine go_region ?_
      refine sq rfl (q_move rfl) ?_
      refine sq rfl (q_assign rfl) ?_
      refine gol_nil ?_
      refine go_drop1 ?_
      refine go_ret Tryz.func96 Tryz.results96 rfl rfl rfl (by repeat (first | exact Sto.le_refl _ | assumption | refine Sto.le_trans ?_ (by assumption))) ?_
      exact ⟨⟨(i : Int), rfl, ⟨fun _ => he ▸ List.getElem_mem hlt, fun _ => by omega⟩⟩, rfl, rfl⟩
    ·
      have he : ¬ d = xs[i] := of_decide_eq_false hc1
      refine go_skip ?_
      refine go_inBlock ?_
      refine go_region ?_
      refine sq rfl (q_add (a := (i : Int)) (b := 1) (c := ((i + 1 : Nat) : Int)) rfl rfl (i64_in (by omega) (by omega))) ?_
      refine sq rfl (q_move rfl) ?_
      refine gol_nil ?_
      refine go_next (next (i + 1) ⟨hlt, ?_⟩ (by omega)) ⟨rfl, rfl, rfl, rfl, trivial⟩
      rw [hm]; exact decide_eq_decide.2 ⟨fun h => (List.mem_cons.1 h).resolve_left he, List.mem_cons_of_mem _⟩
  ·
    have he : i = xs.length := by have := of_decide_eq_false hc0; omega
    subst he
    rw [List.drop_length] at hm
    refine go_exit rfl ?_
    refine go_seq ?_
    refine go_region ?_
    refine sq rfl (q_assign rfl) ?_
    refine gol_nil ?_
    refine go_drop1 ?_
    refine go_ret Tryz.func96 Tryz.results96 rfl rfl rfl (by repeat (first | exact Sto.le_refl _ | assumption | refine Sto.le_trans ?_ (by assumption))) ?_
    exact ⟨⟨-1, rfl, ⟨fun h => absurd h (by decide), fun h => by simp [h] at hm⟩⟩, rfl, rfl⟩
theorem c61 {σ : Sto} {L : SHeap} {v : Value} {d : Bts} {xs : List Bts} (hv : Sl σ [] v 32 bcells xs) (hd : d.length = 32) (hn : xs.length < 1000000000) : Ctr Tryz.prog 61 #[v, .agg (bcells d).toArray] σ L fun r σ' L' => r = .bool (decide (d ∈ xs)) ∧ σ' = σ ∧ L' = L := by
  refine ctr_enter Tryz.func61 rfl Tryz.ntmps61 (by simp) ?_
  refine go_seq ?_
  refine go_region ?_
  refine snb rfl (n_box rfl .agg) ?_
  intro b1
  refine sq rfl (q_assign rfl) ?_
  refine gol_nil ?_
  refine go_seq ?_
  refine go_region ?_
  refine sq rfl (q_move rfl) ?_
  refine sq rfl (q_loadA rfl Tryz.isAgg27 Tryz.sizeOf27 .hd (Part.all (by rw [bcells_len, hd]))) ?_
  refine sn rfl (n_call rfl Tryz.call96 (c96 (hv.more (Keep.nil _)) hd hn)) ?_
  rintro _ σ _ - ⟨⟨n, rfl, hn9⟩, rfl, rfl⟩
  refine sq rfl (q_geq (a := n) (b := 0) rfl rfl) ?_
  refine sq rfl (q_assign rfl) ?_
  refine gol_nil ?_
  refine go_drop1 ?_
  refine go_ret Tryz.func61 Tryz.results61 rfl rfl rfl (by repeat (first | exact Sto.le_refl _ | assumption | refine Sto.le_trans ?_ (by assumption))) ?_
  exact ⟨congrArg Value.bool (decide_eq_decide.2 hn9), rfl, rfl⟩
theorem zero29 (w : World) : (zeroValue 29).run Tryz.prog w = .ok (.agg (genCells ⟨0, 0, 0, [], [], z32⟩ ⟨nilS, nilS⟩).toArray) w := by rw [Tryz.zeroValue29]; rfl
set_option maxHeartbeats 1000000 in
theorem c12 {σ : Sto} {L : SHeap} (len : Int) (times plus : UInt64) : Ctr Tryz.prog 12 #[iv len, w6 times, w6 plus] σ L fun r σ' L' => ∃ gv, r = .agg (genCells (bankG len times plus) gv).toArray ∧ GenR σ' gv (bankG len times plus) ∧ L' = L := by
  refine ctr_enter Tryz.func12 rfl Tryz.ntmps12 (by simp) ?_
  refine go_seq ?_
  refine go_region ?_
  refine snb rfl (n_alloc zero29 .agg) ?_
  intro b1
  refine gol_nil ?_
  refine go_seq ?_
  refine go_region ?_
  refine sq rfl (q_move rfl) ?_
  refine sns rfl (n_buildSlice (sz := 1) (l' := [iv 0, iv 1, iv 2, iv 3, iv 4]) (.cons rfl (.one rfl) rfl (.cons rfl (.one rfl) rfl (.cons rfl (.one rfl) rfl (.cons rfl (.one rfl) rfl (.cons rfl (.one rfl) rfl .nil))))) rfl Tryz.runUnderlying24 Tryz.sizeOf3 Tryz.zeroValue3 rfl rfl) ?_
  intro b2
  refine sq rfl (q_buildS (ns := [1, 1, 1]) (l' := accCells ⟨1, 50, 0⟩) (.put (z := [_]) rfl (.one rfl) rfl rfl (.put (z := [_]) rfl (.one rfl) rfl rfl (.zero (z := [_]) rfl .nil))) zero57 Tryz.runUnderlying57 (places57 Tryz.runUnderlying57) rfl) ?_
  refine sq rfl (q_buildS (ns := [1, 1, 1]) (l' := accCells ⟨2, 20, 0⟩) (.put (z := [_]) rfl (.one rfl) rfl rfl (.put (z := [_]) rfl (.one rfl) rfl rfl (.zero (z := [_]) rfl .nil))) zero57 Tryz.runUnderlying57 (places57 Tryz.runUnderlying57) rfl) ?_
  refine sns rfl (n_buildSlice (sz := 3) (l' := [⟨1, 50, 0⟩, ⟨2, 20, 0⟩].flatMap accCells) (.cons rfl .agg rfl (.cons rfl .agg rfl .nil)) rfl Tryz.runUnderlying46 Tryz.sizeOf57 Tryz.zeroValue57 rfl rfl) ?_
  intro b3
  refine sq rfl (q_buildS (ns := [1, 1, 1]) (l' := accCells ⟨1, 30, 0⟩) (.put (z := [_]) rfl (.one rfl) rfl rfl (.put (z := [_]) rfl (.one rfl) rfl rfl (.zero (z := [_]) rfl .nil))) zero57 Tryz.runUnderlying57 (places57 Tryz.runUnderlying57) rfl) ?_
  refine sq rfl (q_buildS (ns := [1, 1, 1]) (l' := accCells ⟨3, 10, 0⟩) (.put (z := [_]) rfl (.one rfl) rfl rfl (.put (z := [_]) rfl (.one rfl) rfl rfl (.zero (z := [_]) rfl .nil))) zero57 Tryz.runUnderlying57 (places57 Tryz.runUnderlying57) rfl) ?_
  refine sns rfl (n_buildSlice (sz := 3) (l' := [⟨1, 30, 0⟩, ⟨3, 10, 0⟩].flatMap accCells) (.cons rfl .agg rfl (.cons rfl .agg rfl .nil)) rfl Tryz.runUnderlying46 Tryz.sizeOf57 Tryz.zeroValue57 rfl rfl) ?_
  intro b4
  refine sns rfl (n_buildSlice (sz := 1) (l' := [nilS, .slice (some ⟨b3, 0, none⟩) 2 2, .slice (some ⟨b4, 0, none⟩) 2 2]) (.cons rfl (.one rfl) rfl (.cons rfl (.one rfl) rfl (.cons rfl (.one rfl) rfl .nil))) rfl Tryz.runUnderlying25 Tryz.sizeOf46 Tryz.zeroValue46 rfl rfl) ?_
  intro b5
  refine sq rfl (q_buildS (ns := [1, 1, 1, 1, 1, 32]) (l' := genCells ⟨7, 2, len, [0, 1, 2, 3, 4], [], z32⟩ ⟨.slice (some ⟨b2, 0, none⟩) 5 5, .slice (some ⟨b5, 0, none⟩) 3 3⟩) (.put (z := [_]) rfl (.one rfl) rfl rfl (.put (z := [_]) rfl (.one rfl) rfl rfl (.put (z := [_]) rfl (.one rfl) rfl rfl (.put (z := [_]) rfl (.one rfl) rfl rfl (.put (z := [_]) rfl (.one rfl) rfl rfl (.zero (z := bcells z32) rfl .nil)))))) zero29 Tryz.runUnderlying29 (places29 Tryz.runUnderlying29) rfl) ?_
  refine snb rfl (n_alloc zero29 .agg) ?_
  intro b6
  refine sst rfl (n_storeA rfl rfl (vs := genCells ⟨7, 2, len, [0, 1, 2, 3, 4], [], z32⟩ ⟨.slice (some ⟨b2, 0, none⟩) 5 5, .slice (some ⟨b5, 0, none⟩) 3 3⟩) rfl Tryz.sizeOf29 rfl .hd (PutAt.all rfl)) ?_
  refine gol_nil ?_
  refine go_seq ?_
  refine go_seq ?_
  refine go_region ?_
  refine sq rfl (q_fieldAddr (off := 4) (o' := 4) rfl Tryz.runUnderlying29 rfl Tryz.sizeOf25 rfl rfl) ?_
  refine sq rfl (q_load (cs := genCells ⟨7, 2, len, [0, 1, 2, 3, 4], [], z32⟩ ⟨.slice (some ⟨b2, 0, none⟩) 5 5, .slice (some ⟨b5, 0, none⟩) 3 3⟩) rfl Tryz.isAgg25 .hd (.s (.s (.s (.s .z))))) ?_
  refine sq rfl (q_len rfl Tryz.runUnderlying25) ?_
  refine sq rfl (q_move rfl) ?_
  refine gol_nil ?_
  refine go_block ?_
  refine go_loop1 ?_
  refine go_seq ?_
  refine go_region ?_
  refine sq rfl (q_lss (a := 0) (b := 3) rfl rfl) ?_
  rw [show decide ((0 : Int) < 3) = true from decide_eq_true (by decide)]
  refine gol_nil ?_
  refine go_seq ?_
  refine go_condT rfl rfl ?_
  refine go_skip ?_
  refine go_seq ?_
  refine go_block ?_
  refine go_seq ?_
  refine go_region ?_
  refine sq rfl (q_move rfl) ?_
  refine sq rfl (q_assign rfl) ?_
  refine gol_nil ?_
  refine go_seq ?_
  refine go_region ?_
  refine sq rfl (q_fieldAddr (off := 4) (o' := 4) rfl Tryz.runUnderlying29 rfl Tryz.sizeOf25 rfl rfl) ?_
  refine sq rfl (q_load (cs := genCells ⟨7, 2, len, [0, 1, 2, 3, 4], [], z32⟩ ⟨.slice (some ⟨b2, 0, none⟩) 5 5, .slice (some ⟨b5, 0, none⟩) 3 3⟩) rfl Tryz.isAgg25 .hd (.s (.s (.s (.s .z))))) ?_
  refine sq rfl (q_move rfl) ?_
  refine sq rfl (q_indexAddr (j := 0) (o' := 0) rfl rfl Tryz.runUnderlying25 Tryz.sizeOf46 rfl (by decide) rfl) ?_
  refine sq rfl (q_load (cs := [nilS, .slice (some ⟨b3, 0, none⟩) 2 2, .slice (some ⟨b4, 0, none⟩) 2 2]) rfl Tryz.isAgg46 (.tl .hd) .z) ?_
  refine sq rfl (q_len rfl Tryz.runUnderlying46) ?_
  refine sq rfl (q_move rfl) ?_
  refine gol_nil ?_
  refine go_block ?_
  refine go_loop1 ?_
  refine go_seq ?_
  refine go_region ?_
  refine sq rfl (q_lss (a := 0) (b := 0) rfl rfl) ?_
  rw [show decide ((0 : Int) < 0) = false from decide_eq_false (by decide)]
  refine gol_nil ?_
  refine go_seq ?_
  refine go_condF rfl rfl ?_
  refine go_exit rfl ?_
  refine go_inBlock ?_
  refine go_region ?_
  refine sq rfl (q_add (a := 0) (b := 1) (c := 1) rfl rfl (i64_in (by omega) (by omega))) ?_
  refine sq rfl (q_move rfl) ?_
  refine gol_nil ?_
  refine go_inLoop ?_
  refine go_seq ?_
  refine go_region ?_
  refine sq rfl (q_lss (a := 1) (b := 3) rfl rfl) ?_
  rw [show decide ((1 : Int) < 3) = true from decide_eq_true (by decide)]
  refine gol_nil ?_
  refine go_seq ?_
  refine go_condT rfl rfl ?_
  refine go_skip ?_
  refine go_seq ?_
  refine go_block ?_
  refine go_seq ?_
  refine go_region ?_
  refine sq rfl (q_move rfl) ?_
  refine sq rfl (q_assign rfl) ?_
  refine gol_nil ?_
  refine go_seq ?_
  refine go_region ?_
  refine sq rfl (q_fieldAddr (off := 4) (o' := 4) rfl Tryz.runUnderlying29 rfl Tryz.sizeOf25 rfl rfl) ?_
  refine sq rfl (q_load (cs := genCells ⟨7, 2, len, [0, 1, 2, 3, 4], [], z32⟩ ⟨.slice (some ⟨b2, 0, none⟩) 5 5, .slice (some ⟨b5, 0, none⟩) 3 3⟩) rfl Tryz.isAgg25 .hd (.s (.s (.s (.s .z))))) ?_
  refine sq rfl (q_move rfl) ?_
  refine sq rfl (q_indexAddr (j := 1) (o' := 1) rfl rfl Tryz.runUnderlying25 Tryz.sizeOf46 rfl (by decide) rfl) ?_
  refine sq rfl (q_load (cs := [nilS, .slice (some ⟨b3, 0, none⟩) 2 2, .slice (some ⟨b4, 0, none⟩) 2 2]) rfl Tryz.isAgg46 (.tl .hd) (.s .z)) ?_
  refine sq rfl (q_len rfl Tryz.runUnderlying46) ?_
  refine sq rfl (q_move rfl) ?_
  refine gol_nil ?_
  refine go_block ?_
  refine go_loop1 ?_
  refine go_seq ?_
  refine go_region ?_
  refine sq rfl (q_lss (a := 0) (b := 2) rfl rfl) ?_
  rw [show decide ((0 : Int) < 2) = true from decide_eq_true (by decide)]
  refine gol_nil ?_
  refine go_seq ?_
  refine go_condT rfl rfl ?_
  refine go_skip ?_
  refine go_seq ?_
  refine go_block ?_
  refine go_seq ?_
  refine go_region ?_
  refine sq rfl (q_move rfl) ?_
  refine sq rfl (q_assign rfl) ?_
  refine gol_nil ?_
  refine go_draws (n := 59) _ mix rfl (by decide +kernel) (Keep.refl _) ?_
  refine dq 0 rfl rfl rfl rfl (q_fieldAddr (off := 4) (o' := 4) rfl Tryz.runUnderlying29 rfl Tryz.sizeOf25 rfl rfl) ?_
  refine dq 1 rfl rfl rfl rfl (q_load (cs := genCells ⟨7, 2, len, [0, 1, 2, 3, 4], [], z32⟩ ⟨.slice (some ⟨b2, 0, none⟩) 5 5, .slice (some ⟨b5, 0, none⟩) 3 3⟩) rfl Tryz.isAgg25 .hd (.s (.s (.s (.s .z))))) ?_
  refine dq 2 rfl rfl rfl rfl (q_move rfl) ?_
  refine dq 3 rfl rfl rfl rfl (q_indexAddr (j := 1) (o' := 1) rfl rfl Tryz.runUnderlying25 Tryz.sizeOf46 rfl (by decide) rfl) ?_
  refine dq 4 rfl rfl rfl rfl (q_load (cs := [nilS, .slice (some ⟨b3, 0, none⟩) 2 2, .slice (some ⟨b4, 0, none⟩) 2 2]) rfl Tryz.isAgg46 (.tl .hd) (.s .z)) ?_
  refine dq 5 rfl rfl rfl rfl (q_move rfl) ?_
  refine dq 6 rfl rfl rfl rfl (q_move rfl) ?_
  refine dq 7 rfl rfl rfl rfl (q_fieldAddr (off := 4) (o' := 4) rfl Tryz.runUnderlying29 rfl Tryz.sizeOf25 rfl rfl) ?_
  refine dq 8 rfl rfl rfl rfl (q_load (cs := genCells ⟨7, 2, len, [0, 1, 2, 3, 4], [], z32⟩ ⟨.slice (some ⟨b2, 0, none⟩) 5 5, .slice (some ⟨b5, 0, none⟩) 3 3⟩) rfl Tryz.isAgg25 .hd (.s (.s (.s (.s .z))))) ?_
  refine dq 9 rfl rfl rfl rfl (q_move rfl) ?_
  refine dq 10 rfl rfl rfl rfl (q_indexAddr (j := 1) (o' := 1) rfl rfl Tryz.runUnderlying25 Tryz.sizeOf46 rfl (by decide) rfl) ?_
  refine dq 11 rfl rfl rfl rfl (q_load (cs := [nilS, .slice (some ⟨b3, 0, none⟩) 2 2, .slice (some ⟨b4, 0, none⟩) 2 2]) rfl Tryz.isAgg46 (.tl .hd) (.s .z)) ?_
  refine dq 12 rfl rfl rfl rfl (q_move rfl) ?_
  refine dq 13 rfl rfl rfl rfl (q_indexAddr (j := 0) (o' := 0) rfl rfl Tryz.runUnderlying46 Tryz.sizeOf57 rfl (by decide) rfl) ?_
  refine dq 14 rfl rfl rfl rfl (q_fieldAddr (off := 0) (o' := 0) rfl Tryz.runUnderlying57 rfl Tryz.sizeOf31 rfl rfl) ?_
  refine dq 15 rfl rfl rfl rfl (q_load (cs := ([⟨1, 50, 0⟩, ⟨2, 20, 0⟩] : List Acc).flatMap accCells) (v := w6 1) rfl Tryz.isAgg31 (.tl (.tl (.tl .hd))) .z) ?_
  refine dq 16 rfl rfl rfl rfl (q_mul64 (a := times) (b := 1) rfl rfl) ?_
  refine dq 17 rfl rfl rfl rfl (q_move rfl) ?_
  refine dq 18 rfl rfl rfl rfl (q_add64 (a := times * 1) (b := plus) rfl rfl) ?_
  refine dq 19 rfl rfl rfl rfl (q_indexAddr (j := 0) (o' := 0) rfl rfl Tryz.runUnderlying46 Tryz.sizeOf57 rfl (by decide) rfl) ?_
  refine dq 20 rfl rfl rfl rfl (q_fieldAddr (off := 0) (o' := 0) rfl Tryz.runUnderlying57 rfl Tryz.sizeOf31 rfl rfl) ?_
  refine dsta 21 rfl rfl rfl rfl (by decide +kernel) (by decide +kernel) (n_store (cs' := ([⟨times * 1 + plus, 50, 0⟩, ⟨2, 20, 0⟩] : List Acc).flatMap accCells) rfl rfl rfl Tryz.sizeOf31 .z (.tl (.tl (.tl .hd)))) ?_
  refine dend rfl ?_
  refine go_inBlock ?_
  refine go_region ?_
  refine sq rfl (q_add (a := 0) (b := 1) (c := 1) rfl rfl (i64_in (by omega) (by omega))) ?_
  refine sq rfl (q_move rfl) ?_
  refine gol_nil ?_
  refine go_inLoop ?_
  refine go_seq ?_
  refine go_region ?_
  refine sq rfl (q_lss (a := 1) (b := 2) rfl rfl) ?_
  rw [show decide ((1 : Int) < 2) = true from decide_eq_true (by decide)]
  refine gol_nil ?_
  refine go_seq ?_
  refine go_condT rfl rfl ?_
  refine go_skip ?_
  refine go_seq ?_
  refine go_block ?_
  refine go_seq ?_
  refine go_region ?_
  refine sq rfl (q_move rfl) ?_
  refine sq rfl (q_assign rfl) ?_
  refine gol_nil ?_
  refine go_draws (n := 59) _ mix rfl (by decide +kernel) (Keep.refl _) ?_
  refine dq 0 rfl rfl rfl rfl (q_fieldAddr (off := 4) (o' := 4) rfl Tryz.runUnderlying29 rfl Tryz.sizeOf25 rfl rfl) ?_
  refine dq 1 rfl rfl rfl rfl (q_load (cs := genCells ⟨7, 2, len, [0, 1, 2, 3, 4], [], z32⟩ ⟨.slice (some ⟨b2, 0, none⟩) 5 5, .slice (some ⟨b5, 0, none⟩) 3 3⟩) rfl Tryz.isAgg25 .hd (.s (.s (.s (.s .z))))) ?_
  refine dq 2 rfl rfl rfl rfl (q_move rfl) ?_
  refine dq 3 rfl rfl rfl rfl (q_indexAddr (j := 1) (o' := 1) rfl rfl Tryz.runUnderlying25 Tryz.sizeOf46 rfl (by decide) rfl) ?_
  refine dq 4 rfl rfl rfl rfl (q_load (cs := [nilS, .slice (some ⟨b3, 0, none⟩) 2 2, .slice (some ⟨b4, 0, none⟩) 2 2]) rfl Tryz.isAgg46 (.tl .hd) (.s .z)) ?_
  refine dq 5 rfl rfl rfl rfl (q_move rfl) ?_
  refine dq 6 rfl rfl rfl rfl (q_move rfl) ?_
  refine dq 7 rfl rfl rfl rfl (q_fieldAddr (off := 4) (o' := 4) rfl Tryz.runUnderlying29 rfl Tryz.sizeOf25 rfl rfl) ?_
  refine dq 8 rfl rfl rfl rfl (q_load (cs := genCells ⟨7, 2, len, [0, 1, 2, 3, 4], [], z32⟩ ⟨.slice (some ⟨b2, 0, none⟩) 5 5, .slice (some ⟨b5, 0, none⟩) 3 3⟩) rfl Tryz.isAgg25 .hd (.s (.s (.s (.s .z))))) ?_
  refine dq 9 rfl rfl rfl rfl (q_move rfl) ?_
  refine dq 10 rfl rfl rfl rfl (q_indexAddr (j := 1) (o' := 1) rfl rfl Tryz.runUnderlying25 Tryz.sizeOf46 rfl (by decide) rfl) ?_
  refine dq 11 rfl rfl rfl rfl (q_load (cs := [nilS, .slice (some ⟨b3, 0, none⟩) 2 2, .slice (some ⟨b4, 0, none⟩) 2 2]) rfl Tryz.isAgg46 (.tl .hd) (.s .z)) ?_
  refine dq 12 rfl rfl rfl rfl (q_move rfl) ?_
  refine dq 13 rfl rfl rfl rfl (q_indexAddr (j := 1) (o' := 3) rfl rfl Tryz.runUnderlying46 Tryz.sizeOf57 rfl (by decide) rfl) ?_
  refine dq 14 rfl rfl rfl rfl (q_fieldAddr (off := 0) (o' := 3) rfl Tryz.runUnderlying57 rfl Tryz.sizeOf31 rfl rfl) ?_
  refine dq 15 rfl rfl rfl rfl (q_load (cs := ([⟨times * 1 + plus, 50, 0⟩, ⟨2, 20, 0⟩] : List Acc).flatMap accCells) (v := w6 2) rfl Tryz.isAgg31 (.tl (.tl (.tl .hd))) (.s (.s (.s .z)))) ?_
  refine dq 16 rfl rfl rfl rfl (q_mul64 (a := times) (b := 2) rfl rfl) ?_
  refine dq 17 rfl rfl rfl rfl (q_move rfl) ?_
  refine dq 18 rfl rfl rfl rfl (q_add64 (a := times * 2) (b := plus) rfl rfl) ?_
  refine dq 19 rfl rfl rfl rfl (q_indexAddr (j := 1) (o' := 3) rfl rfl Tryz.runUnderlying46 Tryz.sizeOf57 rfl (by decide) rfl) ?_
  refine dq 20 rfl rfl rfl rfl (q_fieldAddr (off := 0) (o' := 3) rfl Tryz.runUnderlying57 rfl Tryz.sizeOf31 rfl rfl) ?_
  refine dsta 21 rfl rfl rfl rfl (by decide +kernel) (by decide +kernel) (n_store (cs' := ([⟨times * 1 + plus, 50, 0⟩, ⟨times * 2 + plus, 20, 0⟩] : List Acc).flatMap accCells) rfl rfl rfl Tryz.sizeOf31 (.s (.s (.s .z))) (.tl (.tl (.tl .hd)))) ?_
  refine dend rfl ?_
  refine go_inBlock ?_
  refine go_region ?_
  refine sq rfl (q_add (a := 1) (b := 1) (c := 2) rfl rfl (i64_in (by omega) (by omega))) ?_
  refine sq rfl (q_move rfl) ?_
  refine gol_nil ?_
  refine go_inLoop ?_
  refine go_seq ?_
  refine go_region ?_
  refine sq rfl (q_lss (a := 2) (b := 2) rfl rfl) ?_
  rw [show decide ((2 : Int) < 2) = false from decide_eq_false (by decide)]
  refine gol_nil ?_
  refine go_seq ?_
  refine go_condF rfl rfl ?_
  refine go_exit rfl ?_
  refine go_inBlock ?_
  refine go_region ?_
  refine sq rfl (q_add (a := 1) (b := 1) (c := 2) rfl rfl (i64_in (by omega) (by omega))) ?_
  refine sq rfl (q_move rfl) ?_
  refine gol_nil ?_
  refine go_inLoop ?_
  refine go_seq ?_
  refine go_region ?_
  refine sq rfl (q_lss (a := 2) (b := 3) rfl rfl) ?_
  rw [show decide ((2 : Int) < 3) = true from decide_eq_true (by decide)]
  refine gol_nil ?_
  refine go_seq ?_
  refine go_condT rfl rfl ?_
  refine go_skip ?_
  refine go_seq ?_
  refine go_block ?_
  refine go_seq ?_
  refine go_region ?_
  refine sq rfl (q_move rfl) ?_
  refine sq rfl (q_assign rfl) ?_
  refine gol_nil ?_
  refine go_seq ?_
  refine go_region ?_
  refine sq rfl (q_fieldAddr (off := 4) (o' := 4) rfl Tryz.runUnderlying29 rfl Tryz.sizeOf25 rfl rfl) ?_
  refine sq rfl (q_load (cs := genCells ⟨7, 2, len, [0, 1, 2, 3, 4], [], z32⟩ ⟨.slice (some ⟨b2, 0, none⟩) 5 5, .slice (some ⟨b5, 0, none⟩) 3 3⟩) rfl Tryz.isAgg25 .hd (.s (.s (.s (.s .z))))) ?_
  refine sq rfl (q_move rfl) ?_
  refine sq rfl (q_indexAddr (j := 2) (o' := 2) rfl rfl Tryz.runUnderlying25 Tryz.sizeOf46 rfl (by decide) rfl) ?_
  refine sq rfl (q_load (cs := [nilS, .slice (some ⟨b3, 0, none⟩) 2 2, .slice (some ⟨b4, 0, none⟩) 2 2]) rfl Tryz.isAgg46 (.tl .hd) (.s (.s .z))) ?_
  refine sq rfl (q_len rfl Tryz.runUnderlying46) ?_
  refine sq rfl (q_move rfl) ?_
  refine gol_nil ?_
  refine go_block ?_
  refine go_loop1 ?_
  refine go_seq ?_
  refine go_region ?_
  refine sq rfl (q_lss (a := 0) (b := 2) rfl rfl) ?_
  rw [show decide ((0 : Int) < 2) = true from decide_eq_true (by decide)]
  refine gol_nil ?_
  refine go_seq ?_
  refine go_condT rfl rfl ?_
  refine go_skip ?_
  refine go_seq ?_
  refine go_block ?_
  refine go_seq ?_
  refine go_region ?_
  refine sq rfl (q_move rfl) ?_
  refine sq rfl (q_assign rfl) ?_
  refine gol_nil ?_
  refine go_draws (n := 59) _ mix rfl (by decide +kernel) (Keep.refl _) ?_
  refine dq 0 rfl rfl rfl rfl (q_fieldAddr (off := 4) (o' := 4) rfl Tryz.runUnderlying29 rfl Tryz.sizeOf25 rfl rfl) ?_
  refine dq 1 rfl rfl rfl rfl (q_load (cs := genCells ⟨7, 2, len, [0, 1, 2, 3, 4], [], z32⟩ ⟨.slice (some ⟨b2, 0, none⟩) 5 5, .slice (some ⟨b5, 0, none⟩) 3 3⟩) rfl Tryz.isAgg25 .hd (.s (.s (.s (.s .z))))) ?_
  refine dq 2 rfl rfl rfl rfl (q_move rfl) ?_
  refine dq 3 rfl rfl rfl rfl (q_indexAddr (j := 2) (o' := 2) rfl rfl Tryz.runUnderlying25 Tryz.sizeOf46 rfl (by decide) rfl) ?_
  refine dq 4 rfl rfl rfl rfl (q_load (cs := [nilS, .slice (some ⟨b3, 0, none⟩) 2 2, .slice (some ⟨b4, 0, none⟩) 2 2]) rfl Tryz.isAgg46 (.tl .hd) (.s (.s .z))) ?_
  refine dq 5 rfl rfl rfl rfl (q_move rfl) ?_
  refine dq 6 rfl rfl rfl rfl (q_move rfl) ?_
  refine dq 7 rfl rfl rfl rfl (q_fieldAddr (off := 4) (o' := 4) rfl Tryz.runUnderlying29 rfl Tryz.sizeOf25 rfl rfl) ?_
  refine dq 8 rfl rfl rfl rfl (q_load (cs := genCells ⟨7, 2, len, [0, 1, 2, 3, 4], [], z32⟩ ⟨.slice (some ⟨b2, 0, none⟩) 5 5, .slice (some ⟨b5, 0, none⟩) 3 3⟩) rfl Tryz.isAgg25 .hd (.s (.s (.s (.s .z))))) ?_
  refine dq 9 rfl rfl rfl rfl (q_move rfl) ?_
  refine dq 10 rfl rfl rfl rfl (q_indexAddr (j := 2) (o' := 2) rfl rfl Tryz.runUnderlying25 Tryz.sizeOf46 rfl (by decide) rfl) ?_
  refine dq 11 rfl rfl rfl rfl (q_load (cs := [nilS, .slice (some ⟨b3, 0, none⟩) 2 2, .slice (some ⟨b4, 0, none⟩) 2 2]) rfl Tryz.isAgg46 (.tl .hd) (.s (.s .z))) ?_
  refine dq 12 rfl rfl rfl rfl (q_move rfl) ?_
  refine dq 13 rfl rfl rfl rfl (q_indexAddr (j := 0) (o' := 0) rfl rfl Tryz.runUnderlying46 Tryz.sizeOf57 rfl (by decide) rfl) ?_
  refine dq 14 rfl rfl rfl rfl (q_fieldAddr (off := 0) (o' := 0) rfl Tryz.runUnderlying57 rfl Tryz.sizeOf31 rfl rfl) ?_
  refine dq 15 rfl rfl rfl rfl (q_load (cs := ([⟨1, 30, 0⟩, ⟨3, 10, 0⟩] : List Acc).flatMap accCells) (v := w6 1) rfl Tryz.isAgg31 (.tl (.tl .hd)) .z) ?_
  refine dq 16 rfl rfl rfl rfl (q_mul64 (a := times) (b := 1) rfl rfl) ?_
  refine dq 17 rfl rfl rfl rfl (q_move rfl) ?_
  refine dq 18 rfl rfl rfl rfl (q_add64 (a := times * 1) (b := plus) rfl rfl) ?_
  refine dq 19 rfl rfl rfl rfl (q_indexAddr (j := 0) (o' := 0) rfl rfl Tryz.runUnderlying46 Tryz.sizeOf57 rfl (by decide) rfl) ?_
  refine dq 20 rfl rfl rfl rfl (q_fieldAddr (off := 0) (o' := 0) rfl Tryz.runUnderlying57 rfl Tryz.sizeOf31 rfl rfl) ?_
  refine dsta 21 rfl rfl rfl rfl (by decide +kernel) (by decide +kernel) (n_store (cs' := ([⟨times * 1 + plus, 30, 0⟩, ⟨3, 10, 0⟩] : List Acc).flatMap accCells) rfl rfl rfl Tryz.sizeOf31 .z (.tl (.tl .hd))) ?_
  refine dend rfl ?_
  refine go_inBlock ?_
  refine go_region ?_
  refine sq rfl (q_add (a := 0) (b := 1) (c := 1) rfl rfl (i64_in (by omega) (by omega))) ?_
  refine sq rfl (q_move rfl) ?_
  refine gol_nil ?_
  refine go_inLoop ?_
  refine go_seq ?_
  refine go_region ?_
  refine sq rfl (q_lss (a := 1) (b := 2) rfl rfl) ?_
  rw [show decide ((1 : Int) < 2) = true from decide_eq_true (by decide)]
  refine gol_nil ?_
  refine go_seq ?_
  refine go_condT rfl rfl ?_
  refine go_skip ?_
  refine go_seq ?_
  refine go_block ?_
  refine go_seq ?_
  refine go_region ?_
  refine sq rfl (q_move rfl) ?_
  refine sq rfl (q_assign rfl) ?_
  refine gol_nil ?_
  refine go_draws (n := 59) _ mix rfl (by decide +kernel) (Keep.refl _) ?_
  refine dq 0 rfl rfl rfl rfl (q_fieldAddr (off := 4) (o' := 4) rfl Tryz.runUnderlying29 rfl Tryz.sizeOf25 rfl rfl) ?_
  refine dq 1 rfl rfl rfl rfl (q_load (cs := genCells ⟨7, 2, len, [0, 1, 2, 3, 4], [], z32⟩ ⟨.slice (some ⟨b2, 0, none⟩) 5 5, .slice (some ⟨b5, 0, none⟩) 3 3⟩) rfl Tryz.isAgg25 .hd (.s (.s (.s (.s .z))))) ?_
  refine dq 2 rfl rfl rfl rfl (q_move rfl) ?_
  refine dq 3 rfl rfl rfl rfl (q_indexAddr (j := 2) (o' := 2) rfl rfl Tryz.runUnderlying25 Tryz.sizeOf46 rfl (by decide) rfl) ?_
  refine dq 4 rfl rfl rfl rfl (q_load (cs := [nilS, .slice (some ⟨b3, 0, none⟩) 2 2, .slice (some ⟨b4, 0, none⟩) 2 2]) rfl Tryz.isAgg46 (.tl .hd) (.s (.s .z))) ?_
  refine dq 5 rfl rfl rfl rfl (q_move rfl) ?_
  refine dq 6 rfl rfl rfl rfl (q_move rfl) ?_
  refine dq 7 rfl rfl rfl rfl (q_fieldAddr (off := 4) (o' := 4) rfl Tryz.runUnderlying29 rfl Tryz.sizeOf25 rfl rfl) ?_
  refine dq 8 rfl rfl rfl rfl (q_load (cs := genCells ⟨7, 2, len, [0, 1, 2, 3, 4], [], z32⟩ ⟨.slice (some ⟨b2, 0, none⟩) 5 5, .slice (some ⟨b5, 0, none⟩) 3 3⟩) rfl Tryz.isAgg25 .hd (.s (.s (.s (.s .z))))) ?_
  refine dq 9 rfl rfl rfl rfl (q_move rfl) ?_
  refine dq 10 rfl rfl rfl rfl (q_indexAddr (j := 2) (o' := 2) rfl rfl Tryz.runUnderlying25 Tryz.sizeOf46 rfl (by decide) rfl) ?_
  refine dq 11 rfl rfl rfl rfl (q_load (cs := [nilS, .slice (some ⟨b3, 0, none⟩) 2 2, .slice (some ⟨b4, 0, none⟩) 2 2]) rfl Tryz.isAgg46 (.tl .hd) (.s (.s .z))) ?_
  refine dq 12 rfl rfl rfl rfl (q_move rfl) ?_
  refine dq 13 rfl rfl rfl rfl (q_indexAddr (j := 1) (o' := 3) rfl rfl Tryz.runUnderlying46 Tryz.sizeOf57 rfl (by decide) rfl) ?_
  refine dq 14 rfl rfl rfl rfl (q_fieldAddr (off := 0) (o' := 3) rfl Tryz.runUnderlying57 rfl Tryz.sizeOf31 rfl rfl) ?_
  refine dq 15 rfl rfl rfl rfl (q_load (cs := ([⟨times * 1 + plus, 30, 0⟩, ⟨3, 10, 0⟩] : List Acc).flatMap accCells) (v := w6 3) rfl Tryz.isAgg31 (.tl (.tl .hd)) (.s (.s (.s .z)))) ?_
  refine dq 16 rfl rfl rfl rfl (q_mul64 (a := times) (b := 3) rfl rfl) ?_
  refine dq 17 rfl rfl rfl rfl (q_move rfl) ?_
  refine dq 18 rfl rfl rfl rfl (q_add64 (a := times * 3) (b := plus) rfl rfl) ?_
  refine dq 19 rfl rfl rfl rfl (q_indexAddr (j := 1) (o' := 3) rfl rfl Tryz.runUnderlying46 Tryz.sizeOf57 rfl (by decide) rfl) ?_
  refine dq 20 rfl rfl rfl rfl (q_fieldAddr (off := 0) (o' := 3) rfl Tryz.runUnderlying57 rfl Tryz.sizeOf31 rfl rfl) ?_
  refine dsta 21 rfl rfl rfl rfl (by decide +kernel) (by decide +kernel) (n_store (cs' := ([⟨times * 1 + plus, 30, 0⟩, ⟨times * 3 + plus, 10, 0⟩] : List Acc).flatMap accCells) rfl rfl rfl Tryz.sizeOf31 (.s (.s (.s .z))) (.tl (.tl .hd))) ?_
  refine dend rfl ?_
  refine go_inBlock ?_
  refine go_region ?_
  refine sq rfl (q_add (a := 1) (b := 1) (c := 2) rfl rfl (i64_in (by omega) (by omega))) ?_
  refine sq rfl (q_move rfl) ?_
  refine gol_nil ?_
  refine go_inLoop ?_
  refine go_seq ?_
  refine go_region ?_
  refine sq rfl (q_lss (a := 2) (b := 2) rfl rfl) ?_
  rw [show decide ((2 : Int) < 2) = false from decide_eq_false (by decide)]
  refine gol_nil ?_
  refine go_seq ?_
  refine go_condF rfl rfl ?_
  refine go_exit rfl ?_
  refine go_inBlock ?_
  refine go_region ?_
  refine sq rfl (q_add (a := 2) (b := 1) (c := 3) rfl rfl (i64_in (by omega) (by omega))) ?_
  refine sq rfl (q_move rfl) ?_
  refine gol_nil ?_
  refine go_inLoop ?_
  refine go_seq ?_
  refine go_region ?_
  refine sq rfl (q_lss (a := 3) (b := 3) rfl rfl) ?_
  rw [show decide ((3 : Int) < 3) = false from decide_eq_false (by decide)]
  refine gol_nil ?_
  refine go_seq ?_
  refine go_condF rfl rfl ?_
  refine go_exit rfl ?_
  refine go_seq ?_
  refine go_region ?_
  refine sq rfl (q_loadA (vs := genCells ⟨7, 2, len, [0, 1, 2, 3, 4], [], z32⟩ ⟨.slice (some ⟨b2, 0, none⟩) 5 5, .slice (some ⟨b5, 0, none⟩) 3 3⟩) rfl Tryz.isAgg29 Tryz.sizeOf29 .hd (Part.all rfl)) ?_
  refine sst rfl (n_storeA rfl rfl (vs := genCells ⟨7, 2, len, [0, 1, 2, 3, 4], [], z32⟩ ⟨.slice (some ⟨b2, 0, none⟩) 5 5, .slice (some ⟨b5, 0, none⟩) 3 3⟩) rfl Tryz.sizeOf29 rfl (.tl (.tl (.tl (.tl (.tl .hd))))) (PutAt.all rfl)) ?_
  refine gol_nil ?_
  refine go_drop1 ?_
  refine go_frz (fun σ1 hle1 hb5 => ?_)
  refine go_frz (fun σ2 hle2 hb4 => ?_)
  refine go_frz (fun σ3 hle3 hb3 => ?_)
  refine go_frz (fun σ4 hle4 hb2 => ?_)
  refine go_retR Tryz.func12 Tryz.results12 rfl (.cellA rfl Tryz.isAgg29 Tryz.sizeOf29 .hd (Part.all rfl) .nil) (.cons _ (List.Sublist.refl _)) (by repeat (first | exact Sto.le_refl _ | assumption | refine Sto.le_trans ?_ (by assumption))) ?_
  refine ⟨⟨.slice (some ⟨b2, 0, none⟩) 5 5, .slice (some ⟨b5, 0, none⟩) 3 3⟩, rfl, ⟨?_, ⟨[nilS, .slice (some ⟨b3, 0, none⟩) 2 2, .slice (some ⟨b4, 0, none⟩) 2 2], ?_, ?_⟩, rfl⟩, rfl⟩
  · exact ⟨⟨_, _, rfl, Nat.le_refl _, Cells.new (.sto hb2) rfl⟩, fun _ _ => rfl⟩
  · exact ⟨⟨_, _, rfl, Nat.le_refl _, Cells.new (.sto (hle4.get (hle3.get (hle2.get hb5)))) rfl⟩, fun _ _ => rfl⟩
  · exact .cons SlO.nilSl (.cons ⟨⟨_, _, rfl, Nat.le_refl _, Cells.new (.sto (hle4.get hb3)) rfl⟩, fun _ _ => rfl⟩ (.cons ⟨⟨_, _, rfl, Nat.le_refl _, Cells.new (.sto (hle4.get (hle3.get hb4))) rfl⟩, fun _ _ => rfl⟩ .nil))
end Go.Eng
namespace Go.Eng
open Go Go.Proofs
set_option maxRecDepth 20000
theorem sliceHi {σ : Sto} {K : SHeap} {b o n c sz m : Nat} {cs : List Value} (h : Cells σ K (.slice (some ⟨b, o, none⟩) n c) n sz cs) : Cells σ K (.slice (some ⟨b, o, none⟩) n m) n sz cs := by
  obtain ⟨h1, p, m', c', he, h2, h3⟩ := h
  cases he
  exact ⟨h1, _, _, _, rfl, h2, h3⟩
theorem zero159 (w : World) : (zeroValue 159).run Tryz.prog w = .ok (.agg [iv 0, iv 0, .map none, .map none, .map none, .map none].toArray) w := by rw [Tryz.zeroValue159]; rfl
theorem c34 {σ : Sto} {L : SHeap} {k b : Int} (hk : 1 ≤ k ∧ k ≤ 12) (hb : 1 ≤ b ∧ b ≤ 65536) : Ctr Tryz.prog 34 #[iv k, iv b] σ L fun r σ' L' => ∃ p, r = .pointer (some ⟨p, 0, none⟩) ∧ L' = L := by
  refine ctr_enter Tryz.func34 rfl Tryz.ntmps34 (by simp) ?_
  refine go_seq ?_
  refine go_region ?_
  refine sq rfl (q_assign rfl) ?_
  refine gol_nil ?_
  refine go_seq ?_
  refine go_seq ?_
  refine go_region ?_
  refine sq rfl (q_move rfl) ?_
  refine sq rfl (q_lss (a := k) (b := 1) rfl rfl) ?_
  rw [show decide (k < 1) = false from decide_eq_false (by omega)]
  refine sq rfl (q_move rfl) ?_
  refine sqg rfl rfl (q_move rfl) ?_
  refine sqg rfl rfl (q_gtr (a := k) (b := 12) rfl rfl) ?_
  rw [show decide ((12 : Int) < k) = false from decide_eq_false (by omega)]
  refine sq rfl (q_pick rfl rfl rfl rfl) ?_
  refine sq rfl (q_move rfl) ?_
  refine sqg rfl rfl (q_move rfl) ?_
  refine sqg rfl rfl (q_lss (a := b) (b := 1) rfl rfl) ?_
  rw [show decide (b < 1) = false from decide_eq_false (by omega)]
  refine sq rfl (q_pick rfl rfl rfl rfl) ?_
  refine sq rfl (q_move rfl) ?_
  refine sqg rfl rfl (q_move rfl) ?_
  refine sqg rfl rfl (q_gtr (a := b) (b := 65536) rfl rfl) ?_
  rw [show decide ((65536 : Int) < b) = false from decide_eq_false (by omega)]
  refine sq rfl (q_pick rfl rfl rfl rfl) ?_
  refine gol_nil ?_
  refine go_condF rfl rfl ?_
  refine go_skip ?_
  refine go_seq ?_
  refine go_region ?_
  refine sq rfl (q_move rfl) ?_
  refine sq rfl (q_move rfl) ?_
  refine sn rfl (n_makeMap (κ := Bts) dv) ?_
  rintro _ σ _ - ⟨m1, rfl, rfl, rfl⟩
  refine sn rfl (n_makeMap (κ := Bts) dv) ?_
  rintro _ σ _ - ⟨m2, rfl, rfl, rfl⟩
  refine sn rfl (n_makeMap (κ := Bts) dv) ?_
  rintro _ σ _ - ⟨m3, rfl, rfl, rfl⟩
  refine sn rfl (n_makeMap (κ := Bts) dv) ?_
  rintro _ σ _ - ⟨m4, rfl, rfl, rfl⟩
  refine sq rfl (q_buildS (ns := [1, 1, 1, 1, 1, 1]) (l' := [iv k, iv b, .map (some m1), .map (some m2), .map (some m3), .map (some m4)]) (.put (z := [_]) rfl (.one rfl) rfl rfl (.put (z := [_]) rfl (.one rfl) rfl rfl (.put (z := [_]) rfl (.one rfl) rfl rfl (.put (z := [_]) rfl (.one rfl) rfl rfl (.put (z := [_]) rfl (.one rfl) rfl rfl (.put (z := [_]) rfl (.one rfl) rfl rfl .nil)))))) zero159 Tryz.runUnderlying159 (places159 Tryz.runUnderlying159) rfl) ?_
  refine snb rfl (n_box rfl (.agg (l := [iv k, iv b, .map (some m1), .map (some m2), .map (some m3), .map (some m4)]))) ?_
  intro b5
  refine sq rfl (q_assign rfl) ?_
  refine gol_nil ?_
  refine go_drop L (.cons _ (.cons _ (.cons _ (.cons _ (.cons _ (List.Sublist.refl _)))))) ?_
  refine go_ret Tryz.func34 Tryz.results34 rfl rfl rfl (by repeat (first | exact Sto.le_refl _ | assumption | refine Sto.le_trans ?_ (by assumption))) ?_
  exact ⟨b5, rfl, rfl⟩
set_option maxHeartbeats 1000000 in
theorem c36 {σ : Sto} {L : SHeap} {T : TypeId} {fr : Nat × Nat} (hK : σ 1 = some (.cells (ucells K256).toArray T fr)) {vr : Value} {g : Gen} {gv : GV} (hgl : (genCells g gv).length = 37) {sv : SV} {st : LSt} {ht : Int} (h : StR σ [] sv st) (hst1 : ¬ st.chain < 1) {N : Nat} (hb : st.le N) (hN : N + 16 ≤ 10000) {tv : Value} {ts : List Pl} (hts : Sl σ [] tv 41 plCells ts) (hn : ts.length ≤ 8) (hn0 : 0 < ts.length) : Ctr Tryz.prog 36 #[vr, .agg (genCells g gv).toArray, .agg (stCells sv).toArray, iv ht, tv] σ L fun r σ' L' => ∃ sv' v, r = .tuple #[.agg (stCells sv').toArray, v] ∧ StR σ' [] sv' (runS st ts) ∧ Sl σ' [] v 1 ic (runE st ts) ∧ L' = L := by
  obtain ⟨qt, cq, rfl, hcq, hcs⟩ := hts.out
  obtain ⟨b9, o9, ds9, T9, fr9, hq9, hkn9, hpt9⟩ := hcs.get (by intro e; have := hcs.1; rw [e] at this; simp at this; omega)
  subst hq9
  refine ctr_enter Tryz.func36 rfl Tryz.ntmps36 (by simp) ?_
  refine go_seq ?_
  refine go_region ?_
  refine snb rfl (n_box rfl (.agg (l := genCells g _))) ?_
  intro b1
  refine snb rfl (n_box rfl (.agg (l := stCells _))) ?_
  intro b2
  refine snb rfl (n_alloc Tryz.zeroValue51 .agg) ?_
  intro b3
  refine sq rfl (q_assign rfl) ?_
  refine gol_nil ?_
  refine go_seq ?_
  refine go_region ?_
  refine sq rfl (q_assign rfl) ?_
  refine gol_nil ?_
  refine go_seq ?_
  refine go_seq ?_
  refine go_region ?_
  refine sq rfl (q_move rfl) ?_
  refine sq rfl (q_move rfl) ?_
  refine sq rfl (q_len rfl Tryz.runUnderlying35) ?_
  refine sq rfl (q_min2 (a := (ts.length : Int)) (b := 8) rfl rfl) ?_
  rw [show (if (8 : Int) < (ts.length : Int) then (8 : Int) else (ts.length : Int)) = (ts.length : Int) from if_neg (by omega)]
  refine sq rfl (q_slice (l := 0) (h := ts.length) (lv := none) (hv := some (iv (ts.length : Nat))) rfl Tryz.runUnderlying35 Tryz.sizeOf42 rfl rfl rfl rfl (Nat.zero_le _) hcq (a' := ⟨b9, o9, none⟩) (by split <;> simp)) ?_
  refine sq rfl (q_len rfl Tryz.runUnderlying35) ?_
  refine sq rfl (q_move rfl) ?_
  refine gol_nil ?_
  refine go_block ?_
  refine go_loop (X := Nat × Sto × SV × Value × SHeap) (fun x => x.1 ≤ ts.length ∧ Sto.le σ x.2.1 ∧ StR x.2.1 [] x.2.2.1 (runS st (ts.take x.1)) ∧ SlO 52 1 x.2.2.2.1 ic (runE st (ts.take x.1)) x.2.2.2.2) (fun x => [(0, vr), (3, iv ht), (6, .pointer (some ⟨b1, 0, none⟩)), (7, .pointer (some ⟨b2, 0, none⟩)), (10, .pointer (some ⟨b3, 0, none⟩)), (12, x.2.2.2.1), (22, .slice (some ⟨b9, o9, none⟩) ts.length (cq - 0)), (23, iv (ts.length : Nat)), (24, iv (x.1 : Nat))]) (fun x => x.2.1) (fun x => (b3, .cells (stCells zSV).toArray 51 (0, 0)) :: (b2, .cells (stCells x.2.2.1).toArray 51 (0, 0)) :: (b1, .cells (genCells g gv).toArray 29 (0, 0)) :: (x.2.2.2.2 ++ L)) (fun x => ts.length - x.1) (0, σ, sv, nilS, []) ⟨Nat.zero_le _, Sto.le_refl _, h, SlO.nil⟩ ⟨rfl, rfl, rfl, rfl, rfl, rfl, rfl, rfl, rfl, trivial⟩ rfl rfl ?_
  rintro ⟨i, σ1, sw, ov, Lo⟩ ⟨hi, hle1, hcr, ho⟩ next
  simp only at hi hle1 hcr ho next ⊢
  have hoe : (runE st (ts.take i)).length = i := by rw [runE_len, List.length_take]; omega
  refine go_seq ?_
  refine go_region ?_
  refine sq rfl (q_lss (a := (i : Int)) (b := (ts.length : Int)) rfl rfl) ?_
  refine gol_nil ?_
  refine go_seq ?_
  refine go_cond rfl rfl (fun hc0 => ?_) (fun hc0 => ?_)
  ·
    have hlt : i < ts.length := by have := of_decide_eq_true hc0; omega
    have h9 : Part ds9.toList (o9 + i * 41) 41 (plCells ts[i]) := by have := cells_part hpt9 hlt; rwa [flat_at (fun x _ => pl_len x) hlt] at this
    have hu9 : Kn σ1 ((b3, .cells (stCells zSV).toArray 51 (0, 0)) :: (b2, .cells (stCells sw).toArray 51 (0, 0)) :: (b1, .cells (genCells g gv).toArray 29 (0, 0)) :: (Lo ++ L)) b9 (.cells ds9 T9 fr9) := (hkn9.up hle1).imp id (fun h => nomatch h)
    have hbi : (runS st (ts.take i)).le (N + 16) := (runS_le hb).up (by rw [List.length_take]; omega)
    refine go_skip ?_
    refine go_seq ?_
    refine go_block ?_
    refine go_seq ?_
    refine go_region ?_
    refine sq rfl (q_indexAddr (j := i) (o' := o9 + i * 41) rfl rfl Tryz.runUnderlying35 Tryz.sizeOf42 rfl hlt rfl) ?_
    refine sq rfl (q_loadA rfl Tryz.isAgg42 Tryz.sizeOf42 hu9 h9) ?_
    refine snb rfl (n_alloc zero42a .agg) ?_
    intro b4
    refine sst rfl (n_storeA rfl rfl (vs := plCells ts[i]) (pl_one _) Tryz.sizeOf42 (pl_len _) .hd (PutAt.all (by rw [pl_len]; rfl))) ?_
    refine gol_nil ?_
    refine go_seq ?_
    refine go_draws (n := 65) [(b4, .cells (plCells ts[i]).toArray 42 (0, 0))] mix rfl (by decide +kernel) (keep1 (by simp)) ?_
    refine dq 0 rfl rfl rfl rfl (q_fieldAddr (off := 40) (o' := 40) rfl Tryz.runUnderlying42 rfl Tryz.sizeOf40 rfl rfl) ?_
    refine dq 1 rfl rfl rfl rfl (q_load (cs := plCells ts[i]) (v := nilS) rfl Tryz.isAgg40 .hd (pl_facts _)) ?_
    refine dq 2 rfl rfl rfl rfl (q_len rfl Tryz.runUnderlying40) ?_
    refine dq 3 rfl rfl rfl rfl (q_eql (a := 0) (b := 1) rfl rfl) ?_
    rw [show decide ((0 : Int) = 1) = false from decide_eq_false (by decide)]
    refine dq 4 rfl rfl rfl rfl (q_move rfl) ?_
    refine dskip 5 rfl rfl rfl (by first | exact .inl rfl | exact .inr rfl) rfl rfl rfl ?_
    refine dskip 6 rfl rfl rfl (by first | exact .inl rfl | exact .inr rfl) rfl rfl rfl ?_
    refine dskip 7 rfl rfl rfl (by first | exact .inl rfl | exact .inr rfl) rfl rfl rfl ?_
    refine dskip 8 rfl rfl rfl (by first | exact .inl rfl | exact .inr rfl) rfl rfl rfl ?_
    refine dskip 9 rfl rfl rfl (by first | exact .inl rfl | exact .inr rfl) rfl rfl rfl ?_
    refine dskip 10 rfl rfl rfl (by first | exact .inl rfl | exact .inr rfl) rfl rfl rfl ?_
    refine dskip 11 rfl rfl rfl (by first | exact .inl rfl | exact .inr rfl) rfl rfl rfl ?_
    refine dskip 12 rfl rfl rfl (by first | exact .inl rfl | exact .inr rfl) rfl rfl rfl ?_
    refine dskip 13 rfl rfl rfl (by first | exact .inl rfl | exact .inr rfl) rfl rfl rfl ?_
    refine dq 14 rfl rfl rfl rfl (q_pick rfl rfl rfl rfl) ?_
    refine dq 15 rfl rfl rfl rfl (q_assign rfl) ?_
    refine dend rfl ?_
    refine go_seq ?_
    refine go_region ?_
    refine sq rfl (q_loadA (vs := genCells g gv) rfl Tryz.isAgg29 Tryz.sizeOf29 (.tl (.tl (.tl .hd))) (Part.all hgl)) ?_
    refine sq rfl (q_loadA (vs := stCells sw) rfl Tryz.isAgg51 Tryz.sizeOf51 (.tl (.tl .hd)) (Part.all rfl)) ?_
    refine sq rfl (q_move rfl) ?_
    refine sq rfl (q_loadA (vs := plCells ts[i]) rfl Tryz.isAgg42 Tryz.sizeOf42 .hd (Part.all (pl_len _))) ?_
    refine sq rfl (q_move rfl) ?_
    refine sn rfl (n_call rfl Tryz.call44 (c44_pl hcr hbi (by omega) (Sto.le.get hle1 hK) (LSt.chain_run hst1 i) ts[i])) ?_
    rintro _ σ2 _ hle2 ⟨sv5, rfl, hone5, hst5, rfl⟩
    refine sq rfl (q_move rfl) ?_
    refine sq rfl (q_extract rfl .z) ?_
    refine sq rfl (q_extract rfl (.s .z)) ?_
    refine snb rfl (n_alloc Tryz.zeroValue51 .agg) ?_
    intro b5
    refine sst rfl (n_storeA rfl rfl (vs := stCells sv5) hone5 Tryz.sizeOf51 rfl .hd (PutAt.all rfl)) ?_
    refine sq rfl (q_assign rfl) ?_
    refine gol_nil ?_
    refine go_seq ?_
    refine go_seq ?_
    refine go_region ?_
    refine sq rfl (q_move rfl) ?_
    refine sq rfl (q_eql (a := plErr (runS st (ts.take i)) ts[i]) (b := 0) rfl rfl) ?_
    rcases Classical.em (plErr (runS st (ts.take i)) ts[i] = 0) with he0 | he0
    ·
      rw [show decide (plErr (runS st (ts.take i)) ts[i] = 0) = true from decide_eq_true he0]
      have hcwn : StR σ2 [] sv5 (runS st (ts.take (i + 1))) := by rw [List.take_succ_eq_append_getElem hlt, runS_snoc]; exact hst5 he0
      refine gol_nil ?_
      refine go_condT rfl rfl ?_
      refine go_region ?_
      refine sq rfl (q_loadA (vs := stCells sv5) rfl Tryz.isAgg51 Tryz.sizeOf51 .hd (Part.all rfl)) ?_
      refine sst rfl (n_storeA rfl rfl (vs := stCells sv5) hone5 Tryz.sizeOf51 rfl (.tl (.tl (.tl .hd))) (PutAt.all rfl)) ?_
      refine gol_nil ?_
      refine go_region ?_
      refine sq rfl (q_move rfl) ?_
      refine sq rfl (q_move rfl) ?_
      refine sns rfl (n_buildSlice (sz := 1) (l := [_]) (.cons rfl (.one rfl) rfl .nil) rfl Tryz.runUnderlying43 Tryz.sizeOf52 Tryz.zeroValue52 rfl rfl) ?_
      intro bq
      refine gol_perm _ (List.perm_append_comm_assoc (_ :: _ :: _ :: _ :: _ :: [_]) Lo _) ?_
      refine sn rfl (n_append (n := i) (m := 1) (Lp := Lo) (L0 := _) (cs := (runE st (ts.take i)).flatMap ic) (new := [iv (plErr (runS st (ts.take i)) ts[i])]) rfl rfl Tryz.runUnderlying43 Tryz.sizeOf52 Tryz.typeInfo52 rfl Tryz.zeroValue52 rfl Tryz.runUnderlying43 (by have := ho.own; rwa [hoe] at this) (Cells.new (n := 1) (sz := 1) (c := 1) (Kn.app Lo .hd) rfl) rfl (by show (2 * (i + 1) + 1000) * 8 ≤ _; omega)) ?_
      rintro v5 σ2 _ - ⟨Lo2, rfl, rfl, hom2⟩
      refine sq rfl (q_assign rfl) ?_
      refine gol_nil ?_
      refine go_inBlock ?_
      refine go_drop (Lo2 ++ (_ :: _ :: _ :: L)) ((List.Sublist.refl _).append (.cons _ (.cons _ (.cons _ (List.Sublist.refl _))))) ?_
      refine go_perm _ (List.perm_append_comm_assoc (_ :: _ :: [_]) Lo2 _).symm ?_
      refine go_region ?_
      refine sq rfl (q_add (a := (i : Int)) (b := 1) (c := ((i + 1 : Nat) : Int)) rfl rfl (i64_in (by omega) (by omega))) ?_
      refine sq rfl (q_move rfl) ?_
      refine gol_nil ?_
      refine go_next (next (i + 1, σ2, _, v5, Lo2) ⟨hlt, Sto.le_trans hle1 hle2, hcwn, ?_⟩ (by simp only; omega)) ⟨rfl, rfl, rfl, rfl, rfl, rfl, rfl, rfl, rfl, trivial⟩
      simp only
      rw [List.take_succ_eq_append_getElem hlt, runE_snoc]
      refine SlO.mk (by rw [List.flatMap_append, List.length_append, hoe]; exact hom2) (fun _ _ => rfl)
    ·
      rw [show decide (plErr (runS st (ts.take i)) ts[i] = 0) = false from decide_eq_false he0]
      have hcwn : StR σ2 [] sw (runS st (ts.take (i + 1))) := by
        rw [List.take_succ_eq_append_getElem hlt, runS_snoc]
        unfold plSt; rw [if_pos he0]
        exact hcr.up hle2
      refine gol_nil ?_
      refine go_condF rfl rfl ?_
      refine go_skip ?_
      refine go_region ?_
      refine sq rfl (q_move rfl) ?_
      refine sq rfl (q_move rfl) ?_
      refine sns rfl (n_buildSlice (sz := 1) (l := [_]) (.cons rfl (.one rfl) rfl .nil) rfl Tryz.runUnderlying43 Tryz.sizeOf52 Tryz.zeroValue52 rfl rfl) ?_
      intro bq
      refine gol_perm _ (List.perm_append_comm_assoc (_ :: _ :: _ :: _ :: _ :: [_]) Lo _) ?_
      refine sn rfl (n_append (n := i) (m := 1) (Lp := Lo) (L0 := _) (cs := (runE st (ts.take i)).flatMap ic) (new := [iv (plErr (runS st (ts.take i)) ts[i])]) rfl rfl Tryz.runUnderlying43 Tryz.sizeOf52 Tryz.typeInfo52 rfl Tryz.zeroValue52 rfl Tryz.runUnderlying43 (by have := ho.own; rwa [hoe] at this) (Cells.new (n := 1) (sz := 1) (c := 1) (Kn.app Lo .hd) rfl) rfl (by show (2 * (i + 1) + 1000) * 8 ≤ _; omega)) ?_
      rintro v5 σ2 _ - ⟨Lo2, rfl, rfl, hom2⟩
      refine sq rfl (q_assign rfl) ?_
      refine gol_nil ?_
      refine go_inBlock ?_
      refine go_drop (Lo2 ++ (_ :: _ :: _ :: L)) ((List.Sublist.refl _).append (.cons _ (.cons _ (.cons _ (List.Sublist.refl _))))) ?_
      refine go_perm _ (List.perm_append_comm_assoc (_ :: _ :: [_]) Lo2 _).symm ?_
      refine go_region ?_
      refine sq rfl (q_add (a := (i : Int)) (b := 1) (c := ((i + 1 : Nat) : Int)) rfl rfl (i64_in (by omega) (by omega))) ?_
      refine sq rfl (q_move rfl) ?_
      refine gol_nil ?_
      refine go_next (next (i + 1, σ2, _, v5, Lo2) ⟨hlt, Sto.le_trans hle1 hle2, hcwn, ?_⟩ (by simp only; omega)) ⟨rfl, rfl, rfl, rfl, rfl, rfl, rfl, rfl, rfl, trivial⟩
      simp only
      rw [List.take_succ_eq_append_getElem hlt, runE_snoc]
      refine SlO.mk (by rw [List.flatMap_append, List.length_append, hoe]; exact hom2) (fun _ _ => rfl)
  ·
    have hie : i = ts.length := by have := of_decide_eq_false hc0; omega
    subst hie
    rw [List.take_length] at ho hcr
    have hbi : (runS st ts).le (N + 16) := (runS_le hb).up (by omega)
    clear next
    refine go_exit rfl ?_
    refine go_seq ?_
    refine go_region ?_
    refine sq rfl (q_loadA (vs := genCells g gv) rfl Tryz.isAgg29 Tryz.sizeOf29 (.tl (.tl .hd)) (Part.all hgl)) ?_
    refine sq rfl (q_loadA (vs := stCells sw) rfl Tryz.isAgg51 Tryz.sizeOf51 (.tl .hd) (Part.all rfl)) ?_
    refine sq rfl (q_move rfl) ?_
    refine sn rfl (n_call rfl Tryz.call46 (c46_shard (g := g) (gv := gv) hcr hbi (by omega) (by rw [runS_chain]; omega) ht)) ?_
    rintro _ σ2 _ hle2 ⟨sv2, rfl, hst2, rfl⟩
    refine sq rfl (q_move rfl) ?_
    refine sst rfl (n_storeA rfl rfl (vs := stCells sv2) hst2.one Tryz.sizeOf51 rfl .hd (PutAt.all rfl)) ?_
    refine sq rfl (q_assign rfl) ?_
    refine gol_nil ?_
    refine go_perm _ (List.perm_append_comm_assoc (_ :: _ :: [_]) Lo _) ?_
    refine go_giveSl ho (by decide) (fun σ5 hle5 hov => ?_)
    refine go_retR Tryz.func36 Tryz.results36 rfl (.cellA rfl Tryz.isAgg51 Tryz.sizeOf51 .hd (Part.all rfl) (.tmp rfl .nil)) (.cons _ (.cons _ (.cons _ (List.Sublist.refl _)))) (by repeat (first | exact Sto.le_refl _ | assumption | refine Sto.le_trans ?_ (by assumption))) ?_
    exact ⟨sv2, ov, rfl, hst2.up hle5, hov, rfl⟩
end Go.Eng
namespace Go.Proofs
open Go.Shelf
def Tryz.sort90_ren : Go.Shelf.Ren := ⟨fun | 6 => 90 | 15 => 119 | 14 => 118 | 28 => 156 | 29 => 157 | 20 => 148 | 21 => 149 | 22 => 150 | 23 => 151 | 24 => 152 | 25 => 153 | 26 => 154 | 27 => 155 | 46 => 187 | 47 => 188 | 48 => 189 | 49 => 190 | 50 => 191 | 57 => 224 | n => n, fun | 22 => 129 | 24 => 179 | 25 => 190 | 3 => 3 | 39 => 207 | 0 => 0 | 53 => 256 | 55 => 31 | 4 => 4 | 46 => 250 | 45 => 249 | 50 => 122 | 5 => 5 | 9 => 9 | 66 => 298 | 70 => 301 | 76 => 330 | 77 => 331 | n => n, fun | n => n⟩
theorem Tryz.sort90 : Go.Proofs.SlLaysF0.n6 Tryz.prog Tryz.sort90_ren := {
  mixed := by kernel_rfl
  f6 := ⟨Tryz.f90.name, by decide, Tryz.func90.trans (congrArg some (by kernel_rfl))⟩
  f14 := ⟨Tryz.f118.name, by decide, Tryz.func118.trans (congrArg some (by kernel_rfl))⟩
  f15 := Tryz.func119.trans (congrArg some (by kernel_rfl))
  f20 := ⟨Tryz.f148.name, by decide, Tryz.func148.trans (congrArg some (by kernel_rfl))⟩
  f21 := ⟨Tryz.f149.name, by decide, Tryz.func149.trans (congrArg some (by kernel_rfl))⟩
  f22 := ⟨Tryz.f150.name, by decide, Tryz.func150.trans (congrArg some (by kernel_rfl))⟩
  f23 := ⟨Tryz.f151.name, by decide, Tryz.func151.trans (congrArg some (by kernel_rfl))⟩
  f24 := ⟨Tryz.f152.name, by decide, Tryz.func152.trans (congrArg some (by kernel_rfl))⟩
  f25 := ⟨Tryz.f153.name, by decide, Tryz.func153.trans (congrArg some (by kernel_rfl))⟩
  f26 := ⟨Tryz.f154.name, by decide, Tryz.func154.trans (congrArg some (by kernel_rfl))⟩
  f27 := ⟨Tryz.f155.name, by decide, Tryz.func155.trans (congrArg some (by kernel_rfl))⟩
  f28 := Tryz.func156.trans (congrArg some (by kernel_rfl))
  f29 := Tryz.func157.trans (congrArg some (by kernel_rfl))
  f46 := ⟨Tryz.f187.name, by decide, Tryz.func187.trans (congrArg some (by kernel_rfl))⟩
  f47 := Tryz.func188.trans (congrArg some (by kernel_rfl))
  f48 := Tryz.func189.trans (congrArg some (by kernel_rfl))
  f49 := ⟨Tryz.f190.name, by decide, Tryz.func190.trans (congrArg some (by kernel_rfl))⟩
  f50 := ⟨Tryz.f191.name, by decide, Tryz.func191.trans (congrArg some (by kernel_rfl))⟩
  f57 := ⟨Tryz.f224.name, by decide, Tryz.func224.trans (congrArg some (by kernel_rfl))⟩
  t0 := Tryz.underlying0
  a0 := Tryz.isAgg0
  z0 := Tryz.sizeOf0
  v0 := Tryz.zeroValue0
  t3 := Tryz.underlying3
  a3 := Tryz.isAgg3
  z3 := Tryz.sizeOf3
  v3 := Tryz.zeroValue3
  t4 := Tryz.underlying4
  a4 := Tryz.isAgg4
  z4 := Tryz.sizeOf4
  v4 := Tryz.zeroValue4
  t5 := Tryz.underlying5
  a5 := Tryz.isAgg5
  z5 := Tryz.sizeOf5
  v5 := Tryz.zeroValue5
  t9 := Tryz.underlying9
  a9 := Tryz.isAgg9
  z9 := Tryz.sizeOf9
  v9 := Tryz.zeroValue9
  t22 := Tryz.underlying129
  a22 := Tryz.isAgg129
  z22 := Tryz.sizeOf129
  v22 := Tryz.zeroValue129
  t25 := Tryz.underlying190
  a25 := Tryz.isAgg190
  z25 := Tryz.sizeOf190
  v25 := Tryz.zeroValue190
  t39 := Tryz.underlying207
  a39 := Tryz.isAgg207
  z39 := Tryz.sizeOf207
  v39 := Tryz.zeroValue207
  t45 := Tryz.underlying249
  a45 := Tryz.isAgg249
  z45 := Tryz.sizeOf249
  v45 := Tryz.zeroValue249
  t46 := Tryz.underlying250
  a46 := Tryz.isAgg250
  z46 := Tryz.sizeOf250
  v46 := Tryz.zeroValue250
  t50 := Tryz.underlying122
  a50 := Tryz.isAgg122
  z50 := Tryz.sizeOf122
  v50 := Tryz.zeroValue122
  t53 := Tryz.underlying256
  a53 := Tryz.isAgg256
  z53 := Tryz.sizeOf256
  v53 := Tryz.zeroValue256
  t55 := Tryz.underlying31
  a55 := Tryz.isAgg31
  z55 := Tryz.sizeOf31
  v55 := Tryz.zeroValue31
  t66 := Tryz.underlying298
  a66 := Tryz.isAgg298
  z66 := Tryz.sizeOf298
  v66 := Tryz.zeroValue298
  t70 := Tryz.underlying301
  a70 := Tryz.isAgg301
  z70 := Tryz.sizeOf301
  v70 := Tryz.zeroValue301
  t76 := Tryz.underlying330
  a76 := Tryz.isAgg330
  z76 := Tryz.sizeOf330
  v76 := Tryz.zeroValue330
  t77 := Tryz.underlying331
  a77 := Tryz.isAgg331
  z77 := Tryz.sizeOf331
  v77 := Tryz.zeroValue331 }
end Go.Proofs
