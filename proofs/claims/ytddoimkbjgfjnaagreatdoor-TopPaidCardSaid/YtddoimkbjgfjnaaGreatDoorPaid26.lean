/- A part of the proof of this: Payments and locks of a shard come out as they stand on paper (TopPaid): for every input, with the listed package variables as the program's text lays them, TopPaid answers true and its argument reads as it did. -/
import Derived.Test.YtddoimkbjgfjnaaGreatDoorPaid22
import Derived.Test.YtddoimkbjgfjnaaGreatDoorPaid25
import Derived.Test.YtddoimkbjgfjnaaGreatDoorPaid21
import Derived.Test.YtddoimkbjgfjnaaGreatDoorPaid14
namespace Go.Eng
open Go Go.Proofs
set_option maxRecDepth 20000
theorem c29 {σ : Sto} {L Lf : SHeap} {p : Nat} {f : Fol} (hf : FolO p f Lf) {sv : SV} {st : LSt} (hs : StR σ [] sv st) (hag : Agree st f) (hna : st.accs.length < 1000000) (hnl : f.locks.length < 1000000) (hnc : st.cons.length < 1000000) : Ctr Tryz.prog 29 #[.pointer (some ⟨p, 0, none⟩), .agg (stCells sv).toArray] σ (Lf ++ L) fun r σ' L' => r = .bool true ∧ L' = Lf ++ L := by
  obtain ⟨mb, es, ck, lv, cv, Ll, Lc, rfl, hp, hl, hc⟩ := hf.out
  obtain ⟨ql, cl, rfl⟩ := hl.val
  obtain ⟨qc, cc, rfl⟩ := hc.val
  obtain ⟨ch, ac, lo, co, re, me⟩ := sv
  obtain ⟨qa, ca, hqa⟩ := hs.acc.val
  obtain ⟨qk, ck2, hqk⟩ := hs.locks.val
  obtain ⟨qd, cd, hqd⟩ := hs.cons.val
  simp only at hqa hqk hqd
  subst hqa hqk hqd
  have hll : st.locks.length = f.locks.length := hag.lks.length_eq
  have hlc : st.cons.length = f.cons.length := hag.cons.length_eq
  refine ctr_enter Tryz.func29 rfl Tryz.ntmps29 (by simp) ?_
  refine go_seq ?_
  refine go_region ?_
  refine snb rfl (n_box rfl (.agg (l := stCells _))) ?_
  intro b1
  refine gol_in ?_
  refine sq rfl (q_assign rfl) ?_
  refine gol_nil ?_
  refine go_seq ?_
  refine go_seq ?_
  refine go_draws (n := 152) _ mix rfl (by decide +kernel) (Keep.refl _) ?_
  refine dq 0 rfl rfl rfl rfl (q_fieldAddr (off := 2) (o' := 2) rfl Tryz.runUnderlying51 rfl Tryz.sizeOf47 rfl rfl) ?_
  refine dq 1 rfl rfl rfl rfl (q_load (cs := stCells _) rfl Tryz.isAgg47 (Kn.app _ .hd) (.s (.s .z))) ?_
  refine dq 2 rfl rfl rfl rfl (q_len rfl Tryz.runUnderlying47) ?_
  refine dq 3 rfl rfl rfl rfl (q_move rfl) ?_
  refine dq 4 rfl rfl rfl rfl (q_nil rfl) ?_
  refine dq 5 rfl rfl rfl rfl (q_fieldAddr (off := 2) (o' := 2) rfl Tryz.runUnderlying140 rfl Tryz.sizeOf47 rfl rfl) ?_
  refine dq 6 rfl rfl rfl rfl (q_load (cs := folCells _ _ _ _) rfl Tryz.isAgg47 .hd (.s (.s .z))) ?_
  refine dq 7 rfl rfl rfl rfl (q_len rfl Tryz.runUnderlying47) ?_
  refine dq 8 rfl rfl rfl rfl (q_neq (a := (st.locks.length : Int)) (b := (f.locks.length : Int)) rfl rfl) ?_
  rw [show decide ((st.locks.length : Int) = (f.locks.length : Int)) = true from decide_eq_true (congrArg Nat.cast hag.lks.length_eq)]
  refine dq 9 rfl rfl rfl rfl (q_move rfl) ?_
  refine dqg 10 rfl rfl rfl rfl rfl rfl (q_fieldAddr (off := 3) (o' := 3) rfl Tryz.runUnderlying51 rfl Tryz.sizeOf48 rfl rfl) ?_
  refine dqg 11 rfl rfl rfl rfl rfl rfl (q_load (cs := stCells _) rfl Tryz.isAgg48 (Kn.app _ .hd) (.s (.s (.s .z)))) ?_
  refine dqg 12 rfl rfl rfl rfl rfl rfl (q_len rfl Tryz.runUnderlying48) ?_
  refine dqg 13 rfl rfl rfl rfl rfl rfl (q_move rfl) ?_
  refine dqg 14 rfl rfl rfl rfl rfl rfl (q_nil rfl) ?_
  refine dqg 15 rfl rfl rfl rfl rfl rfl (q_fieldAddr (off := 3) (o' := 3) rfl Tryz.runUnderlying140 rfl Tryz.sizeOf48 rfl rfl) ?_
  refine dqg 16 rfl rfl rfl rfl rfl rfl (q_load (cs := folCells _ _ _ _) rfl Tryz.isAgg48 .hd (.s (.s (.s .z)))) ?_
  refine dqg 17 rfl rfl rfl rfl rfl rfl (q_len rfl Tryz.runUnderlying48) ?_
  refine dqg 18 rfl rfl rfl rfl rfl rfl (q_neq (a := (st.cons.length : Int)) (b := (f.cons.length : Int)) rfl rfl) ?_
  rw [show decide ((st.cons.length : Int) = (f.cons.length : Int)) = true from decide_eq_true (congrArg Nat.cast hag.cons.length_eq)]
  refine dq 19 rfl rfl rfl rfl (q_pick rfl rfl rfl rfl) ?_
  refine dend rfl ?_
  refine go_condF rfl rfl ?_
  refine go_skip ?_
  refine go_seq ?_
  refine go_seq ?_
  refine go_region ?_
  refine sq rfl (q_move rfl) ?_
  refine sq rfl (q_nil rfl) ?_
  refine sq rfl (q_fieldAddr (off := 1) (o' := 1) rfl Tryz.runUnderlying140 rfl Tryz.sizeOf138 rfl rfl) ?_
  refine sq rfl (q_load (cs := folCells _ _ _ _) rfl Tryz.isAgg138 .hd (.s .z)) ?_
  refine snb rfl (n_range (κ := UInt64) (enc := w6) rfl Tryz.runUnderlying138 (.tl .hd)) ?_
  intro bi
  refine gol_in ?_
  refine gol_nil ?_
  refine go_block ?_
  refine go_loop (X := List Nat × Sto) (fun x => Sto.le σ x.2) (fun _ => [(0, .pointer (some ⟨p, 0, none⟩)), (3, .pointer (some ⟨b1, 0, none⟩)), (38, .pointer (some ⟨bi, 0, none⟩))]) (fun x => x.2) (fun x => ((p, folObj f.chain mb (.slice ql f.locks.length cl) (.slice qc f.cons.length cc)) :: (mb, mobj w6 es ck) :: (Ll ++ Lc)) ++ ((bi, iterObj mb ck x.1) :: (b1, .cells (stCells ⟨ch, .slice qa st.accs.length ca, .slice qk st.locks.length ck2, .slice qd st.cons.length cd, re, me⟩).toArray 51 (0, 0)) :: L)) (fun x => unseen es x.1) ([], σ) (Sto.le_refl _) ⟨rfl, rfl, rfl, trivial⟩ rfl rfl ?_
  rintro ⟨seen, σ1⟩ hle1 next
  simp only at hle1 next ⊢
  refine go_seq ?_
  refine go_region ?_
  refine sn rfl (n_next (es := es) (enc := w6) (seen := seen) (L'' := fun s => ((p, folObj f.chain mb (.slice ql f.locks.length cl) (.slice qc f.cons.length cc)) :: (mb, mobj w6 es ck) :: (Ll ++ Lc)) ++ ((bi, iterObj mb ck s) :: (b1, .cells (stCells ⟨ch, .slice qa st.accs.length ca, .slice qk st.locks.length ck2, .slice qd st.cons.length cd, re, me⟩).toArray 51 (0, 0)) :: L)) rfl hp.ok (.tl .hd) (List.mem_append_right _ List.mem_cons_self) (fun s => Upd.app _ .hd)) ?_
  rintro v9 σ1 _ - (⟨rfl, rfl, rfl, -⟩ | ⟨e, he, hes, rfl, rfl, rfl⟩)
  ·
    refine sq rfl (q_extract rfl .z) ?_
    refine gol_nil ?_
    refine go_seq ?_
    refine go_condF rfl rfl ?_
    refine go_exit rfl ?_
    refine go_seq ?_
    refine go_seq ?_
    refine go_out ?_
    have hs1 := hs.up hle1
    clear hs
    refine go_region ?_
    refine sq rfl (q_fieldAddr (off := 1) (o' := 1) rfl Tryz.runUnderlying51 rfl Tryz.sizeOf46 rfl rfl) ?_
    refine sq rfl (q_load (cs := stCells _) rfl Tryz.isAgg46 (Kn.app _ .hd) (.s .z)) ?_
    refine sq rfl (q_len rfl Tryz.runUnderlying46) ?_
    refine sq rfl (q_move rfl) ?_
    refine gol_nil ?_
    refine go_block ?_
    refine go_loop (X := Nat) (fun i => i ≤ st.accs.length) (fun i => [(0, .pointer (some ⟨p, 0, none⟩)), (3, .pointer (some ⟨b1, 0, none⟩)), (70, iv (st.accs.length : Nat)), (71, iv (i : Nat))]) (fun _ => σ1) (fun _ => ((p, folObj f.chain mb (.slice ql f.locks.length cl) (.slice qc f.cons.length cc)) :: (mb, mobj w6 es ck) :: (Ll ++ Lc)) ++ ((b1, .cells (stCells ⟨ch, .slice qa st.accs.length ca, .slice qk st.locks.length ck2, .slice qd st.cons.length cd, re, me⟩).toArray 51 (0, 0)) :: L)) (fun i => st.accs.length - i) 0 (Nat.zero_le _) ⟨rfl, rfl, rfl, rfl, trivial⟩ rfl rfl ?_
    rintro i hi next
    refine go_seq ?_
    refine go_region ?_
    refine sq rfl (q_lss (a := (i : Int)) (b := (st.accs.length : Int)) rfl rfl) ?_
    refine gol_nil ?_
    refine go_seq ?_
    refine go_cond rfl rfl (fun hc2 => ?_) (fun hc2 => ?_)
    ·
      have hlt : i < st.accs.length := by have := of_decide_eq_true hc2; omega
      have hcs := hs1.acc.cells.2.2
      obtain ⟨b9, o9, ds9, T9, fr9, rfl, hkn9, hpt9⟩ := (hcs).get (by intro e; have := (hcs).1; rw [e] at this; simp at this; omega)
      have h9 : Part ds9.toList (o9 + i * 3) 3 (accCells st.accs[i]) := by have := cells_part hpt9 hlt; rwa [flat_at hs1.acc.len hlt] at this
      have hae := hag.acc_eq (List.getElem_mem hlt)
      generalize st.accs[i] = a at h9 hae
      refine go_skip ?_
      refine go_seq ?_
      refine go_block ?_
      refine go_seq ?_
      refine go_region ?_
      refine sq rfl (q_move rfl) ?_
      refine sq rfl (q_assign rfl) ?_
      refine gol_nil ?_
      refine go_seq ?_
      refine go_region ?_
      refine sq rfl (q_fieldAddr (off := 1) (o' := 1) rfl Tryz.runUnderlying51 rfl Tryz.sizeOf46 rfl rfl) ?_
      refine sq rfl (q_load (cs := stCells _) rfl Tryz.isAgg46 (Kn.app _ .hd) (.s .z)) ?_
      refine sq rfl (q_move rfl) ?_
      refine sq rfl (q_indexAddr (j := i) (o' := o9 + i * 3) rfl rfl Tryz.runUnderlying46 Tryz.sizeOf57 rfl hlt rfl) ?_
      refine sq rfl (q_loadA rfl Tryz.isAgg57 Tryz.sizeOf57 (hkn9.imp id (fun h => nomatch h)) h9) ?_
      refine snb rfl (n_alloc zero57 .agg) ?_
      intro b3
      refine sst rfl (n_storeA rfl rfl (vs := accCells a) rfl Tryz.sizeOf57 rfl .hd (PutAt.all rfl)) ?_
      refine gol_nil ?_
      refine go_seq ?_
      refine go_draws (n := 152) _ mix rfl (by decide +kernel) (Keep.refl _) ?_
      refine dq 0 rfl rfl rfl rfl (q_move rfl) ?_
      refine dq 1 rfl rfl rfl rfl (q_nil rfl) ?_
      refine dq 2 rfl rfl rfl rfl (q_fieldAddr (off := 1) (o' := 1) rfl Tryz.runUnderlying140 rfl Tryz.sizeOf138 rfl rfl) ?_
      refine dq 3 rfl rfl rfl rfl (q_load (cs := folCells _ _ _ _) rfl Tryz.isAgg138 (.tl .hd) (.s .z)) ?_
      refine dq 4 rfl rfl rfl rfl (q_fieldAddr (off := 0) (o' := 0) rfl Tryz.runUnderlying57 rfl Tryz.sizeOf31 rfl rfl) ?_
      refine dq 5 rfl rfl rfl rfl (q_load (cs := accCells a) (v := w6 a.name) rfl Tryz.isAgg31 .hd .z) ?_
      refine dq 6 rfl rfl rfl rfl (q_lookup (es := es) (k := a.name) (r := purV (f.pur a.name)) keyU31 rfl rfl Tryz.runUnderlying138 trivial (fun _ _ => trivial) zero142 (.tl (.tl .hd)) (hp.get _)) ?_
      refine dnb 7 rfl rfl rfl rfl (by decide +kernel) (n_alloc zero142 .agg) (Keep.refl _) ?_
      intro b4
      refine dsta 8 rfl rfl rfl rfl (by decide +kernel) (by decide +kernel) (n_storeA rfl rfl (vs := purCells (f.pur a.name)) rfl Tryz.sizeOf142 rfl .hd (PutAt.all rfl)) ?_
      refine dend rfl ?_
      refine go_seq ?_
      refine go_region ?_
      refine sq rfl (q_fieldAddr (off := 1) (o' := 1) rfl Tryz.runUnderlying57 rfl Tryz.sizeOf31 rfl rfl) ?_
      refine sq rfl (q_load (cs := accCells a) (v := w6 a.bal) rfl Tryz.isAgg31 (.tl .hd) (.s .z)) ?_
      refine sq rfl (q_fieldAddr (off := 0) (o' := 0) rfl Tryz.runUnderlying142 rfl Tryz.sizeOf31 rfl rfl) ?_
      refine sq rfl (q_load (v := w6 (f.pur a.name).bal) rfl Tryz.isAgg31 .hd .z) ?_
      refine sq rfl (q_neq (a := (a.bal.toNat : Int)) (b := ((f.pur a.name).bal.toNat : Int)) rfl rfl) ?_
      rw [show decide ((a.bal.toNat : Int) = ((f.pur a.name).bal.toNat : Int)) = true from decide_eq_true (by rw [hae.1])]
      refine sq rfl (q_move rfl) ?_
      refine sqg rfl rfl (q_fieldAddr (off := 2) (o' := 2) rfl Tryz.runUnderlying57 rfl Tryz.sizeOf31 rfl rfl) ?_
      refine sqg rfl rfl (q_load (cs := accCells a) (v := w6 a.nonce) rfl Tryz.isAgg31 (.tl .hd) (.s (.s .z))) ?_
      refine sqg rfl rfl (q_fieldAddr (off := 1) (o' := 1) rfl Tryz.runUnderlying142 rfl Tryz.sizeOf31 rfl rfl) ?_
      refine sqg rfl rfl (q_load (v := w6 (f.pur a.name).nonce) rfl Tryz.isAgg31 .hd (.s .z)) ?_
      refine sqg rfl rfl (q_neq (a := (a.nonce.toNat : Int)) (b := ((f.pur a.name).nonce.toNat : Int)) rfl rfl) ?_
      rw [show decide ((a.nonce.toNat : Int) = ((f.pur a.name).nonce.toNat : Int)) = true from decide_eq_true (by rw [hae.2])]
      refine sq rfl (q_pick rfl rfl rfl rfl) ?_
      refine gol_nil ?_
      refine go_condF rfl rfl ?_
      refine go_skip ?_
      refine go_inBlock ?_
      refine go_region ?_
      refine sq rfl (q_add (a := (i : Int)) (b := 1) (c := ((i + 1 : Nat) : Int)) rfl rfl (i64_in (by omega) (by omega))) ?_
      refine sq rfl (q_move rfl) ?_
      refine gol_nil ?_
      refine go_drop1 (go_drop1 ?_)
      exact go_next (next (i + 1) hlt (by omega)) ⟨rfl, rfl, rfl, rfl, trivial⟩
    ·
      refine go_exit rfl ?_
      refine go_seq ?_
      refine go_seq ?_
      refine go_region ?_
      refine sq rfl (q_fieldAddr (off := 2) (o' := 2) rfl Tryz.runUnderlying51 rfl Tryz.sizeOf47 rfl rfl) ?_
      refine sq rfl (q_load (cs := stCells _) rfl Tryz.isAgg47 (Kn.app _ .hd) (.s (.s .z))) ?_
      refine sq rfl (q_len rfl Tryz.runUnderlying47) ?_
      refine sq rfl (q_move rfl) ?_
      refine gol_nil ?_
      refine go_block ?_
      refine go_loop (X := Nat) (fun i => i ≤ st.locks.length) (fun i => [(0, .pointer (some ⟨p, 0, none⟩)), (3, .pointer (some ⟨b1, 0, none⟩)), (101, iv (st.locks.length : Nat)), (102, iv (i : Nat))]) (fun _ => σ1) (fun _ => ((p, folObj f.chain mb (.slice ql f.locks.length cl) (.slice qc f.cons.length cc)) :: (mb, mobj w6 es ck) :: (Ll ++ Lc)) ++ ((b1, .cells (stCells ⟨ch, .slice qa st.accs.length ca, .slice qk st.locks.length ck2, .slice qd st.cons.length cd, re, me⟩).toArray 51 (0, 0)) :: L)) (fun i => st.locks.length - i) 0 (Nat.zero_le _) ⟨rfl, rfl, rfl, rfl, trivial⟩ rfl rfl ?_
      rintro i hi next
      refine go_seq ?_
      refine go_region ?_
      refine sq rfl (q_lss (a := (i : Int)) (b := (st.locks.length : Int)) rfl rfl) ?_
      refine gol_nil ?_
      refine go_seq ?_
      refine go_cond rfl rfl (fun hc4 => ?_) (fun hc4 => ?_)
      ·
        have hlt : i < st.locks.length := by have := of_decide_eq_true hc4; omega
        have hcs := hs1.locks.cells.2.2
        obtain ⟨b9, o9, ds9, T9, fr9, rfl, hkn9, hpt9⟩ := (hcs).get (by intro e; have := (hcs).1; rw [e] at this; simp at this; omega)
        have h9 : Part ds9.toList (o9 + i * 38) 38 (lockCells st.locks[i]) := by have := cells_part hpt9 hlt; rwa [flat_at hs1.locks.len hlt] at this
        have hlen : st.locks[i].id.length = 32 := by have := hs1.locks.len _ (List.getElem_mem hlt); simp [lockCells, bcells] at this; omega
        obtain ⟨k, hk, hfl, hfk⟩ := hag.lockAt (List.getElem_mem hlt)
        generalize st.locks[i] = x at h9 hlen hfl hfk
        have h8 : Part ds9.toList (o9 + i * 38 + 0) 32 (bcells x.id) := h9.part (lockCells_head _ ▸ Part.mk (a := []) rfl (by rw [bcells_len, hlen]))
        refine go_skip ?_
        refine go_seq ?_
        refine go_block ?_
        refine go_seq ?_
        refine go_region ?_
        refine sq rfl (q_move rfl) ?_
        refine sq rfl (q_assign rfl) ?_
        refine gol_nil ?_
        refine go_seq ?_
        refine go_region ?_
        refine sq rfl (q_move rfl) ?_
        refine sq rfl (q_fieldAddr (off := 2) (o' := 2) rfl Tryz.runUnderlying51 rfl Tryz.sizeOf47 rfl rfl) ?_
        refine sq rfl (q_load (cs := stCells _) rfl Tryz.isAgg47 (Kn.app _ .hd) (.s (.s .z))) ?_
        refine sq rfl (q_move rfl) ?_
        refine sq rfl (q_indexAddr (j := i) (o' := o9 + i * 38) rfl rfl Tryz.runUnderlying47 Tryz.sizeOf60 rfl hlt rfl) ?_
        refine sq rfl (q_fieldAddr (off := 0) (o' := o9 + i * 38 + 0) rfl Tryz.runUnderlying60 rfl Tryz.sizeOf27 rfl rfl) ?_
        refine sq rfl (q_loadA rfl Tryz.isAgg27 Tryz.sizeOf27 (hkn9.imp id (fun h => nomatch h)) h8) ?_
        refine sn rfl (n_call rfl Tryz.call57 (c57 hf hlen (by omega))) ?_
        rintro _ σ1 _ - ⟨rfl, rfl, rfl⟩
        rw [hfl]
        refine sq rfl (q_assign rfl) ?_
        refine gol_nil ?_
        refine go_seq ?_
        have hsl : Sl σ1 (Ll ++ Lc ++ ((b1, .cells (stCells ⟨ch, .slice qa st.accs.length ca, .slice (some ⟨b9, o9, none⟩) st.locks.length ck2, .slice qd st.cons.length cd, re, me⟩).toArray 51 (0, 0)) :: L)) (.slice ql f.locks.length cl) 38 lockCells f.locks := (hl.slL σ1 Lc (by decide)).more (Keep.appL _ _)
        have hcl := hsl.cells.2.2
        obtain ⟨bL, oL, dsL, TL, frL, rfl, hknL, hptL⟩ := hcl.get (by intro e; have := hcl.1; rw [e] at this; simp at this; omega)
        have hL : Part dsL.toList (oL + k * 38) 38 (lockCells x) := by have := cells_part hptL hk; rwa [flat_at hsl.len hk, hfk] at this
        refine go_draws (n := 152) _ mix rfl (by decide +kernel) (Keep.refl _) ?_
        refine dq 0 rfl rfl rfl rfl (q_move rfl) ?_
        refine dq 1 rfl rfl rfl rfl (q_lss (a := (k : Int)) (b := 0) rfl rfl) ?_
        rw [show decide ((k : Int) < 0) = false from decide_eq_false (by omega)]
        refine dq 2 rfl rfl rfl rfl (q_move rfl) ?_
        refine dqg 3 rfl rfl rfl rfl rfl rfl (q_move rfl) ?_
        refine dqg 4 rfl rfl rfl rfl rfl rfl (q_nil rfl) ?_
        refine dqg 5 rfl rfl rfl rfl rfl rfl (q_fieldAddr (off := 2) (o' := 2) rfl Tryz.runUnderlying140 rfl Tryz.sizeOf47 rfl rfl) ?_
        refine dqg 6 rfl rfl rfl rfl rfl rfl (q_load (cs := folCells _ _ _ _) rfl Tryz.isAgg47 .hd (.s (.s .z))) ?_
        refine dqg 7 rfl rfl rfl rfl rfl rfl (q_move rfl) ?_
        refine dqg 8 rfl rfl rfl rfl rfl rfl (q_indexAddr (j := k) (o' := oL + k * 38) rfl rfl Tryz.runUnderlying47 Tryz.sizeOf60 rfl hk rfl) ?_
        refine dqg 9 rfl rfl rfl rfl rfl rfl (q_loadA rfl Tryz.isAgg60 Tryz.sizeOf60 (.tl (.tl hknL)) hL) ?_
        refine dqg 10 rfl rfl rfl rfl rfl rfl (q_fieldAddr (off := 2) (o' := 2) rfl Tryz.runUnderlying51 rfl Tryz.sizeOf47 rfl rfl) ?_
        refine dqg 11 rfl rfl rfl rfl rfl rfl (q_load (cs := stCells _) rfl Tryz.isAgg47 (Kn.app _ .hd) (.s (.s .z))) ?_
        refine dqg 12 rfl rfl rfl rfl rfl rfl (q_move rfl) ?_
        refine dqg 13 rfl rfl rfl rfl rfl rfl (q_indexAddr (j := i) (o' := o9 + i * 38) rfl rfl Tryz.runUnderlying47 Tryz.sizeOf60 rfl hlt rfl) ?_
        refine dqg 14 rfl rfl rfl rfl rfl rfl (q_loadA rfl Tryz.isAgg60 Tryz.sizeOf60 (hkn9.imp id (fun h => nomatch h)) h9) ?_
        refine dqg 15 rfl rfl rfl rfl rfl rfl (q_neqAgg (r := true) rfl rfl eg60 (fun w => by rw [run_eqLock _ _ _ hlen hlen]; simp)) ?_
        refine dq 16 rfl rfl rfl rfl (q_pick rfl rfl rfl rfl) ?_
        refine dend rfl ?_
        refine go_condF rfl rfl ?_
        refine go_skip ?_
        refine go_inBlock ?_
        refine go_region ?_
        refine sq rfl (q_add (a := (i : Int)) (b := 1) (c := ((i + 1 : Nat) : Int)) rfl rfl (i64_in (by omega) (by omega))) ?_
        refine sq rfl (q_move rfl) ?_
        refine gol_nil ?_
        exact go_next (next (i + 1) hlt (by omega)) ⟨rfl, rfl, rfl, rfl, trivial⟩
      ·
        refine go_exit rfl ?_
        refine go_seq ?_
        refine go_seq ?_
        refine go_region ?_
        refine sq rfl (q_move rfl) ?_
        refine sq rfl (q_nil rfl) ?_
        refine sq rfl (q_fieldAddr (off := 3) (o' := 3) rfl Tryz.runUnderlying140 rfl Tryz.sizeOf48 rfl rfl) ?_
        refine sq rfl (q_load (cs := folCells _ _ _ _) rfl Tryz.isAgg48 .hd (.s (.s (.s .z)))) ?_
        refine sq rfl (q_len rfl Tryz.runUnderlying48) ?_
        refine sq rfl (q_move rfl) ?_
        refine gol_nil ?_
        refine go_block ?_
        refine go_loop (X := Nat) (fun i => i ≤ f.cons.length) (fun i => [(0, .pointer (some ⟨p, 0, none⟩)), (3, .pointer (some ⟨b1, 0, none⟩)), (135, iv (f.cons.length : Nat)), (136, iv (i : Nat))]) (fun _ => σ1) (fun _ => ((p, folObj f.chain mb (.slice ql f.locks.length cl) (.slice qc f.cons.length cc)) :: (mb, mobj w6 es ck) :: (Ll ++ Lc)) ++ ((b1, .cells (stCells ⟨ch, .slice qa st.accs.length ca, .slice qk st.locks.length ck2, .slice qd st.cons.length cd, re, me⟩).toArray 51 (0, 0)) :: L)) (fun i => f.cons.length - i) 0 (Nat.zero_le _) ⟨rfl, rfl, rfl, rfl, trivial⟩ rfl rfl ?_
        rintro i hi next
        refine go_seq ?_
        refine go_region ?_
        refine sq rfl (q_lss (a := (i : Int)) (b := (f.cons.length : Int)) rfl rfl) ?_
        refine gol_nil ?_
        refine go_seq ?_
        refine go_cond rfl rfl (fun hc6 => ?_) (fun hc6 => ?_)
        ·
          have hlt : i < f.cons.length := by have := of_decide_eq_true hc6; omega
          have hsc : Sl σ1 (Ll ++ Lc ++ ((b1, .cells (stCells ⟨ch, .slice qa st.accs.length ca, .slice qk st.locks.length ck2, .slice qd st.cons.length cd, re, me⟩).toArray 51 (0, 0)) :: L)) (.slice qc f.cons.length cc) 32 bcells f.cons := ((hc.sl σ1 (by decide)).more (Keep.app Ll Lc)).more (Keep.appL _ _)
          have hcs := hsc.cells.2.2
          obtain ⟨b9, o9, ds9, T9, fr9, rfl, hkn9, hpt9⟩ := (hcs).get (by intro e; have := (hcs).1; rw [e] at this; simp at this; omega)
          have h9 : Part ds9.toList (o9 + i * 32) 32 (bcells f.cons[i]) := by have := cells_part hpt9 hlt; rwa [flat_at hsc.len hlt] at this
          have hlen : f.cons[i].length = 32 := by have := hsc.len _ (List.getElem_mem hlt); rwa [bcells_len] at this
          have hmem : f.cons[i] ∈ st.cons := hag.cons.mem_iff.2 (List.getElem_mem hlt)
          generalize f.cons[i] = x at h9 hlen hmem
          refine go_skip ?_
          refine go_seq ?_
          refine go_block ?_
          refine go_seq ?_
          refine go_region ?_
          refine sq rfl (q_move rfl) ?_
          refine sq rfl (q_assign rfl) ?_
          refine gol_nil ?_
          refine go_seq ?_
          refine go_draws (n := 152) _ mix rfl (by decide +kernel) (Keep.refl _) ?_
          refine dq 0 rfl rfl rfl rfl (q_fieldAddr (off := 3) (o' := 3) rfl Tryz.runUnderlying51 rfl Tryz.sizeOf48 rfl rfl) ?_
          refine dq 1 rfl rfl rfl rfl (q_load (cs := stCells _) rfl Tryz.isAgg48 (Kn.app _ .hd) (.s (.s (.s .z)))) ?_
          refine dq 2 rfl rfl rfl rfl (q_move rfl) ?_
          refine dq 3 rfl rfl rfl rfl (q_nil rfl) ?_
          refine dq 4 rfl rfl rfl rfl (q_fieldAddr (off := 3) (o' := 3) rfl Tryz.runUnderlying140 rfl Tryz.sizeOf48 rfl rfl) ?_
          refine dq 5 rfl rfl rfl rfl (q_load (cs := folCells _ _ _ _) rfl Tryz.isAgg48 .hd (.s (.s (.s .z)))) ?_
          refine dq 6 rfl rfl rfl rfl (q_move rfl) ?_
          refine dq 7 rfl rfl rfl rfl (q_indexAddr (j := i) (o' := o9 + i * 32) rfl rfl Tryz.runUnderlying48 Tryz.sizeOf27 rfl hlt rfl) ?_
          refine dq 8 rfl rfl rfl rfl (q_loadA rfl Tryz.isAgg27 Tryz.sizeOf27 (.tl (.tl hkn9)) h9) ?_
          refine dn 9 rfl rfl rfl rfl (by decide +kernel) (n_call rfl Tryz.call60 (c60 (hs1.cons.more (Keep.nil _)) hlen (by omega))) (fun _ _ _ _ h => by rw [h.2.2]; exact Keep.refl _) ?_
          rintro _ σ1 _ - ⟨rfl, rfl, rfl⟩
          rw [decide_eq_true hmem]
          refine dq 10 rfl rfl rfl rfl (q_assign rfl) ?_
          refine dend rfl ?_
          refine go_seq ?_
          refine go_region ?_
          refine sq rfl (q_move rfl) ?_
          refine sq rfl (q_not rfl) ?_
          refine gol_nil ?_
          refine go_condF rfl rfl ?_
          refine go_skip ?_
          refine go_inBlock ?_
          refine go_region ?_
          refine sq rfl (q_add (a := (i : Int)) (b := 1) (c := ((i + 1 : Nat) : Int)) rfl rfl (i64_in (by omega) (by omega))) ?_
          refine sq rfl (q_move rfl) ?_
          refine gol_nil ?_
          exact go_next (next (i + 1) hlt (by omega)) ⟨rfl, rfl, rfl, rfl, trivial⟩
        ·
          refine go_exit rfl ?_
          refine go_seq ?_
          refine go_region ?_
          refine sq rfl (q_assign rfl) ?_
          refine gol_nil ?_
          refine go_drop (_ ++ L) ((List.Sublist.refl _).append (List.sublist_cons_self _ _)) ?_
          refine go_ret Tryz.func29 Tryz.results29 rfl rfl rfl (by repeat (first | exact Sto.le_refl _ | assumption | refine Sto.le_trans ?_ (by assumption))) ?_
          exact ⟨rfl, rfl⟩
  ·
    refine sq rfl (q_extract rfl .z) ?_
    refine gol_nil ?_
    refine go_seq ?_
    refine go_condT rfl rfl ?_
    refine go_skip ?_
    refine go_block ?_
    refine go_seq ?_
    refine go_region ?_
    refine sq rfl (q_entry (es := es) (e := e) (seen := seen) rfl hp.ok he (.tl .hd) (Kn.app _ .hd)) ?_
    refine sq rfl (q_extract rfl .z) ?_
    refine sq rfl (q_assign rfl) ?_
    refine gol_nil ?_
    refine go_seq ?_
    refine go_region ?_
    refine sq rfl (q_loadA rfl Tryz.isAgg51 Tryz.sizeOf51 (Kn.app _ (.tl .hd)) (Part.all rfl)) ?_
    refine sq rfl (q_move rfl) ?_
    refine sn rfl (n_call rfl Tryz.call18 (c18 (s := ⟨ch, .slice qa st.accs.length ca, .slice qk st.locks.length ck2, .slice qd st.cons.length cd, re, me⟩) ((hs.up hle1).acc.more (Keep.nil _)) (by omega) e.1)) ?_
    rintro _ σ2 _ hle2 ⟨rfl, rfl⟩
    rw [hag.pur e.1]
    refine snb rfl (n_alloc zero57 .agg) ?_
    intro b3
    refine sst rfl (n_storeA rfl rfl (vs := accCells _) rfl Tryz.sizeOf57 rfl .hd (PutAt.all rfl)) ?_
    refine gol_nil ?_
    refine go_seq ?_
    refine go_draws (n := 152) _ mix rfl (by decide +kernel) (Keep.refl _) ?_
    refine dq 0 rfl rfl rfl rfl (q_fieldAddr (off := 1) (o' := 1) rfl Tryz.runUnderlying57 rfl Tryz.sizeOf31 rfl rfl) ?_
    refine dq 1 rfl rfl rfl rfl (q_load (v := w6 (f.pur e.1).bal) rfl Tryz.isAgg31 .hd (.s .z)) ?_
    refine dq 2 rfl rfl rfl rfl (q_move rfl) ?_
    refine dq 3 rfl rfl rfl rfl (q_nil rfl) ?_
    refine dq 4 rfl rfl rfl rfl (q_fieldAddr (off := 1) (o' := 1) rfl Tryz.runUnderlying140 rfl Tryz.sizeOf138 rfl rfl) ?_
    refine dq 5 rfl rfl rfl rfl (q_load (cs := folCells _ _ _ _) rfl Tryz.isAgg138 (.tl .hd) (.s .z)) ?_
    refine dq 6 rfl rfl rfl rfl (q_move rfl) ?_
    refine dq 7 rfl rfl rfl rfl (q_lookup (es := es) (k := e.1) (r := purV (f.pur e.1)) keyU31 rfl rfl Tryz.runUnderlying138 trivial (fun _ _ => trivial) zero142 (.tl (.tl .hd)) (hp.get _)) ?_
    refine dq 8 rfl rfl rfl rfl (q_field (off := 0) rfl Tryz.runUnderlying142 rfl Tryz.isAgg31 rfl .z) ?_
    refine dq 9 rfl rfl rfl rfl (q_neq (a := ((f.pur e.1).bal.toNat : Int)) (b := ((f.pur e.1).bal.toNat : Int)) rfl rfl) ?_
    rw [show decide (((f.pur e.1).bal.toNat : Int) = ((f.pur e.1).bal.toNat : Int)) = true from decide_eq_true (rfl)]
    refine dq 10 rfl rfl rfl rfl (q_move rfl) ?_
    refine dqg 11 rfl rfl rfl rfl rfl rfl (q_fieldAddr (off := 2) (o' := 2) rfl Tryz.runUnderlying57 rfl Tryz.sizeOf31 rfl rfl) ?_
    refine dqg 12 rfl rfl rfl rfl rfl rfl (q_load (v := w6 (f.pur e.1).nonce) rfl Tryz.isAgg31 .hd (.s (.s .z))) ?_
    refine dqg 13 rfl rfl rfl rfl rfl rfl (q_move rfl) ?_
    refine dqg 14 rfl rfl rfl rfl rfl rfl (q_nil rfl) ?_
    refine dqg 15 rfl rfl rfl rfl rfl rfl (q_fieldAddr (off := 1) (o' := 1) rfl Tryz.runUnderlying140 rfl Tryz.sizeOf138 rfl rfl) ?_
    refine dqg 16 rfl rfl rfl rfl rfl rfl (q_load (cs := folCells _ _ _ _) rfl Tryz.isAgg138 (.tl .hd) (.s .z)) ?_
    refine dqg 17 rfl rfl rfl rfl rfl rfl (q_move rfl) ?_
    refine dqg 18 rfl rfl rfl rfl rfl rfl (q_lookup (es := es) (k := e.1) (r := purV (f.pur e.1)) keyU31 rfl rfl Tryz.runUnderlying138 trivial (fun _ _ => trivial) zero142 (.tl (.tl .hd)) (hp.get _)) ?_
    refine dqg 19 rfl rfl rfl rfl rfl rfl (q_field (off := 1) rfl Tryz.runUnderlying142 rfl Tryz.isAgg31 rfl (.s .z)) ?_
    refine dqg 20 rfl rfl rfl rfl rfl rfl (q_neq (a := ((f.pur e.1).nonce.toNat : Int)) (b := ((f.pur e.1).nonce.toNat : Int)) rfl rfl) ?_
    rw [show decide (((f.pur e.1).nonce.toNat : Int) = ((f.pur e.1).nonce.toNat : Int)) = true from decide_eq_true (rfl)]
    refine dq 21 rfl rfl rfl rfl (q_pick rfl rfl rfl rfl) ?_
    refine dend rfl ?_
    refine go_condF rfl rfl ?_
    refine go_skip ?_
    refine go_inBlock ?_
    refine go_drop1 (go_next (next (seen ++ [e.2.2], σ2) (Sto.le_trans hle1 hle2) (unseen_lt he hes)) ⟨rfl, rfl, rfl, trivial⟩)
end Go.Eng
namespace Go.Eng
open Go Go.Proofs
set_option maxRecDepth 20000
section
variable {α : Type}
theorem pC {l m : List α} (h : ∀ (_ : DecidableEq α) x, l.count x = m.count x) : l.Perm m := by
  classical exact List.perm_iff_count.2 (h _)
theorem pm3 (A B C D : List α) : (A ++ (B ++ (C ++ D))).Perm (C ++ (A ++ (B ++ D))) := pC fun _ x => by simp only [List.count_append]; omega
theorem pm4 (A B C D R : List α) : (A ++ (B ++ (C ++ (D ++ R)))).Perm (D ++ (A ++ (B ++ (C ++ R)))) := pC fun _ x => by simp only [List.count_append]; omega
theorem pm6 (A B C D E F R : List α) : (A ++ (B ++ (C ++ (D ++ (E ++ (F ++ R)))))).Perm (F ++ (A ++ (B ++ (C ++ (D ++ (E ++ R)))))) := pC fun _ x => by simp only [List.count_append]; omega
theorem pmBack (w t g x a f R : List α) : (w ++ (f ++ (t ++ (g ++ (x ++ R))))).Perm (g ++ (f ++ (x ++ (t ++ (w ++ R))))) := pC fun _ x => by simp only [List.count_append]; omega
theorem pmGive (g f x t w R : List α) : (g ++ (f ++ (x ++ (t ++ (w ++ R))))).Perm (t ++ (w ++ (x ++ (g ++ (f ++ R))))) := pC fun _ x => by simp only [List.count_append]; omega
theorem pmOut (f b x g R : List α) : (f ++ (x ++ (g ++ R))).Perm (g ++ (f ++ (x ++ R))) := pC fun _ x => by simp only [List.count_append]; omega
end
theorem c28_pl {σ : Sto} {L Lf : SHeap} {p : Nat} {f : Fol} (hf : FolO p f Lf) {T : TypeId} {fr : Nat × Nat} (hK : σ 1 = some (.cells (ucells K256).toArray T fr)) (hn : f.locks.length < 1000000) (t : Pl) : Ctr Tryz.prog 28 #[.pointer (some ⟨p, 0, none⟩), .agg (plCells t).toArray] σ (Lf ++ L) fun r σ' L' => r = iv (f.err t) ∧ ∃ Lf', L' = Lf' ++ L ∧ FolO p (f.next t) Lf' := by
  cases t with
  | pay a b m o => exact c28_pay hf hK rfl hn a b m o
  | lock a b m o d l => exact c28_lock hf hK rfl hn a b m o d l
theorem c16L {σ : Sto} {L Lx : SHeap} {A : Led} {px : Nat} (hA : LedO σ px A Lx) {c : Nat} (hc4 : c < 4) (hsh : (c : Int) ≤ A.g.shards) {st : LSt} {ht : Int} (hct : A.ch[c]? = some (st, ht)) {N : Nat} (hb : st.le N) (hN : N < 100000000) : Ctr Tryz.prog 16 #[.pointer (some ⟨px, 0, none⟩), iv (c : Nat)] σ (Lx ++ L) fun r σ' L' => ∃ sv', r = .tuple #[.agg (stCells sv').toArray, iv 0] ∧ StR σ' [] sv' st ∧ L' = Lx ++ L := by
  obtain ⟨gv, cvs, pm, es, ck, rfl, hgr, hch, h4, hpast⟩ := hA.out
  have hcl := hch.len
  have hc : c < cvs.length := by omega
  have hca : c < A.ch.length := by omega
  have hce : A.ch[c] = (st, ht) := by rw [List.getElem?_eq_getElem hca] at hct; simpa using hct
  have hst := (hch.get c hca hc).1
  rw [hce] at hst
  exact c16 (L := _ :: _ :: L) .hd hgr.len hc hc4 hst hb hN hsh
theorem pl_cons (st : LSt) (t : Pl) : (plSt st t).cons = st.cons := by
  unfold plSt; split
  · rfl
  · cases t <;> rfl
theorem runS_cons (st : LSt) (ts : List Pl) : (runS st ts).cons = st.cons := by
  induction ts generalizing st with
  | nil => rfl
  | cons x ts ih => exact (ih _).trans (pl_cons _ _)
theorem lockSum_open {A : Led} {xs : List Lck} (h : ∀ l ∈ xs, lockIn A l ↔ l.status = 1) (n : UInt64) : lockSum A n xs = n + sumL xs := by
  induction xs generalizing n with
  | nil => simp [lockSum, sumL]
  | cons x xs ih =>
    have h1 := h x List.mem_cons_self
    show lockSum A (if lockIn A x then n + x.amount else n) xs = _
    rw [ih fun l hl => h l (List.mem_cons_of_mem _ hl), sumL_cons]
    unfold openAmt
    by_cases hs : x.status = 1
    · rw [if_pos (h1.2 hs), if_pos hs, UInt64.add_assoc]
    · rw [if_neg fun e => hs (h1.1 e), if_neg hs]; simp
theorem accSum_eq (n : UInt64) (xs : List Acc) : accSum n xs = n + sumA xs := foldA xs n
noncomputable def paidCh (st : LSt) (i : Int) : List (LSt × Int) := [(genSt (bankG 100 1 0) 0, 0), (st, i), (genSt (bankG 100 1 0) 2, 0), (zeroSt, 0)]
theorem paid_start : (newLed (bankG 100 1 0)).ch = paidCh (genSt (bankG 100 1 0) 1) 0 := rfl
theorem paid_set (st st' : LSt) (i j : Int) : (paidCh st i).set 1 (st', j) = paidCh st' j := rfl
theorem paid_money {A : Led} {st : LSt} {i : Int} (hg : A.g = bankG 100 1 0) (hc : A.ch = paidCh st i) (h0 : st.cons = []) : moneyOf A = sumA st.accs + sumL st.locks + 40 := by
  have hl : ∀ l : Lck, lockIn A l ↔ l.status = 1 := by
    intro l
    refine ⟨fun h => h.1, fun h => ⟨h, fun ⟨⟨h1, h2⟩, h3⟩ => ?_⟩⟩
    rw [hg] at h2
    have h2 : l.dst ≤ 2 := h2
    rw [hc] at h3
    have : l.dst.toNat = 0 ∨ l.dst.toNat = 1 ∨ l.dst.toNat = 2 := by omega
    rcases this with e | e | e <;> rw [e] at h3
    · exact nomatch (show l.id ∈ ([] : List Bts) from h3)
    · have h3 : l.id ∈ st.cons := h3
      rw [h0] at h3; nomatch h3
    · exact nomatch (show l.id ∈ ([] : List Bts) from h3)
  unfold moneyOf
  rw [hc]
  unfold paidCh
  simp only [List.foldl_cons, List.foldl_nil, chSum]
  rw [lockSum_open fun l _ => hl l, lockSum_open fun l _ => hl l, lockSum_open fun l _ => hl l, lockSum_open fun l _ => hl l]
  simp only [accSum_eq]
  have e0 : sumA (genSt (bankG 100 1 0) 0).accs = 0 := rfl
  have e2 : sumA (genSt (bankG 100 1 0) 2).accs = 40 := by decide +kernel
  have e3 : sumA zeroSt.accs = 0 := rfl
  have f0 : sumL (genSt (bankG 100 1 0) 0).locks = 0 := rfl
  have f2 : sumL (genSt (bankG 100 1 0) 2).locks = 0 := rfl
  have f3 : sumL zeroSt.locks = 0 := rfl
  rw [e0, e2, e3, f0, f2, f3]
  simp only [UInt64.zero_add, UInt64.add_zero]
theorem bank_ok : MayOk (bankG 100 1 0) := ⟨by decide, by decide, by decide, by decide, by decide, by decide, by decide, (fun l hl => by
  rcases List.mem_cons.1 hl with rfl | h
  · exact .nil
  · rcases List.mem_cons.1 h with rfl | h
    · exact .cons (fun b hb => by rw [List.mem_singleton.1 hb]; decide +kernel) (.cons (fun _ h => nomatch h) .nil)
    · rw [List.mem_singleton.1 h]
      exact .cons (fun b hb => by rw [List.mem_singleton.1 hb]; decide +kernel) (.cons (fun _ h => nomatch h) .nil)), by decide, by decide +kernel, rfl⟩
theorem pur_none : ∀ {l : List Acc} {f : UInt64 → Purse} {n : UInt64}, (∀ a ∈ l, a.name ≠ n) → l.foldl putP f n = f n := by
  intro l
  induction l with
  | nil => intro f n _; rfl
  | cons x l ih =>
    intro f n h
    rw [List.foldl_cons, ih fun a ha => h a (List.mem_cons_of_mem _ ha)]
    exact if_neg (h x List.mem_cons_self).symm
theorem pur_mem : ∀ {l : List Acc} {f : UInt64 → Purse} {a : Acc}, l.Pairwise (fun a b => a.name ≠ b.name) → a ∈ l → l.foldl putP f a.name = ⟨a.bal, a.nonce⟩ := by
  intro l
  induction l with
  | nil => intro f a _ h; nomatch h
  | cons x l ih =>
    intro f a hr ha
    rw [List.pairwise_cons] at hr
    rw [List.foldl_cons]
    rcases List.mem_cons.1 ha with rfl | h
    · rw [pur_none fun b hb => (hr.1 b hb).symm]
      exact if_pos rfl
    · exact ih hr.2 h
theorem rise_ne {l : List Acc} (h : RiseA l) : l.Pairwise (fun a b => a.name ≠ b.name) := List.Pairwise.imp (fun {a b} hab e => by
  have h1 : cmp64 a.name b.name < 0 := hab
  rw [cmp64_zero.2 e] at h1; exact absurd h1 (by decide)) h
theorem open_acct {l : List Acc} (h : RiseA l) (n : UInt64) : acct l n = ⟨n, (purOf l n).bal, (purOf l n).nonce⟩ := by
  by_cases hn : ∃ a ∈ l, a.name = n
  · obtain ⟨a, ha, rfl⟩ := hn
    rw [acct_mem h ha]
    unfold purOf
    rw [pur_mem (rise_ne h) ha]
  · have hn2 : ∀ a ∈ l, a.name ≠ n := fun a ha e => hn ⟨a, ha, e⟩
    rw [acct_none h hn2]
    unfold purOf
    rw [pur_none hn2]
theorem agree_open {g : Gen} (h : MayOk g) {c : Nat} (hc : c < g.accs.length) : Agree (genSt g c) (openF c g.accs[c]) := by
  have e : (genSt g c).accs = g.accs[c] := by
    show g.accs.getD c [] = _
    rw [List.getD_eq_getElem?_getD, List.getElem?_eq_getElem hc]; rfl
  have hr := h.accs _ (List.getElem_mem hc)
  refine ⟨rfl, by rw [e]; exact hr, fun n => ?_, .nil, .nil, .nil, .nil⟩
  rw [e]; exact open_acct hr n
end Go.Eng
namespace Go.Eng
open Go Go.Proofs
set_option maxRecDepth 20000
structure PX where
  i : Nat
  gi : Nat
  s : Sto
  A : Led
  st : LSt
  f : Fol
  Lf : SHeap
  Lx : SHeap
structure PaidI (σ : Sto) (px p : Nat) (x : PX) : Prop where
  hi : x.i ≤ 12
  hgi : x.gi ≤ 200 * x.i
  hle : Sto.le σ x.s
  hA : LedO x.s px x.A x.Lx
  hg : x.A.g = bankG 100 1 0
  hch : x.A.ch = paidCh x.st x.i
  hag : Agree x.st x.f
  hf : FolO p x.f x.Lf
  hb : x.st.le (1000 + 16 * x.i)
  hc0 : x.st.cons = []
  hc1 : x.st.chain = 1
  hsum : sumA x.st.accs + sumL x.st.locks = 70
structure PY where
  k : Nat
  gi : Nat
  s : Sto
  f : Fol
  Lf : SHeap
  tv : Value
  Lt : SHeap
  wv : Value
  Lw : SHeap
  ts : List Pl
structure PaidJ (σ : Sto) (st : LSt) (base p : Nat) (y : PY) : Prop where
  hk : y.ts.length + y.k ≤ 8
  hgi : y.gi ≤ base + 1 + 20 * y.ts.length
  hle : Sto.le σ y.s
  hag : Agree (runS st y.ts) y.f
  hf : FolO p y.f y.Lf
  ht : SlO 42 41 y.tv plCells y.ts y.Lt
  hw : SlO 52 1 y.wv ic (runE st y.ts) y.Lw
theorem zero39 (w : World) : (zeroValue 39).run Tryz.prog w = .ok (.agg [nilS, iv 0].toArray) w := by rw [Tryz.zeroValue39]; rfl
theorem runS_sum {st : LSt} (hr : RiseA st.accs) {f : Fol} (hag : Agree st f) (ts : List Pl) : sumA (runS st ts).accs + sumL (runS st ts).locks = sumA st.accs + sumL st.locks := by
  induction ts generalizing st f with
  | nil => rfl
  | cons x ts ih => exact (ih (hag.next x).acc (hag.next x)).trans (sum_pl hr x)
theorem paid_sum0 : sumA (genSt (bankG 100 1 0) 1).accs + sumL (genSt (bankG 100 1 0) 1).locks = 70 := by
  show sumA [⟨1, 50, 0⟩, ⟨2, 20, 0⟩] + sumL [] = 70
  decide +kernel
theorem zeroSt_le (N : Nat) : zeroSt.le N := ⟨Nat.zero_le _, Nat.zero_le _, Nat.zero_le _, Nat.zero_le _, Nat.zero_le _, (fun _ h => nomatch h), (fun _ h => nomatch h), (fun _ h => nomatch h)⟩
theorem paid_bnd {st : LSt} {i : Int} (h : st.le 2000) : ∀ c ∈ paidCh st i, c.1.le 2000 := by
  intro c hc
  unfold paidCh at hc
  simp only [List.mem_cons, List.not_mem_nil, or_false] at hc
  rcases hc with rfl | rfl | rfl | rfl
  · exact (genSt_le bank_ok 0).up (by decide)
  · exact h
  · exact (genSt_le bank_ok 2).up (by decide)
  · exact zeroSt_le _
set_option maxHeartbeats 2000000 in
theorem c7 {σ : Sto} {L : SHeap} {T : TypeId} {fr : Nat × Nat} (hK : σ 1 = some (.cells (ucells K256).toArray T fr)) {lv : Value} {xs : Bts} (hgv : Bytes σ lv xs) (hlen : xs.length < 4611686018427387904) : Ctr Tryz.prog 7 #[lv] σ L fun r σ' L' => r = .bool true ∧ L' = L := by
  obtain ⟨ql, cl, rfl, -, -⟩ := hgv.out
  refine ctr_enter Tryz.func7 rfl Tryz.ntmps7 (by simp) ?_
  refine go_seq ?_
  refine go_region ?_
  refine sq rfl (q_assign rfl) ?_
  refine gol_nil ?_
  refine go_seq ?_
  refine go_region ?_
  refine sn rfl (n_call rfl Tryz.call11 (c11 hK)) ?_
  rintro _ σ0 L hle0 ⟨rfl, rfl⟩
  refine sq rfl (q_assign rfl) ?_
  refine gol_nil ?_
  refine go_seq ?_
  refine go_region ?_
  refine sn rfl (n_call rfl Tryz.call12 (c12 100 1 0)) ?_
  rintro _ σ1 L hle1 ⟨gv, rfl, hgr, rfl⟩
  have hgl := hgr.len
  refine snb rfl (n_alloc zero29 .agg) ?_
  intro b1
  refine sst rfl (n_storeA rfl rfl (vs := genCells (bankG 100 1 0) gv) hgr.one Tryz.sizeOf29 hgl .hd (PutAt.all (by rw [hgl]; rfl))) ?_
  refine gol_nil ?_
  refine go_seq ?_
  refine go_region ?_
  refine sq rfl (q_loadA (vs := genCells (bankG 100 1 0) gv) rfl Tryz.isAgg29 Tryz.sizeOf29 .hd (Part.all hgl)) ?_
  refine sn rfl (n_call rfl Tryz.call13 (c13 (hle1.get (hle0.get hK)) hgr bank_ok)) ?_
  rintro _ σ2 _ hle2 ⟨px, Lx, rfl, rfl, hA⟩
  refine sq rfl (q_assign rfl) ?_
  refine gol_nil ?_
  refine go_seq ?_
  refine go_seq ?_
  refine go_region ?_
  refine sq rfl (q_move rfl) ?_
  refine sq rfl (q_eqlNilP rfl rfl Tryz.runUnderlying32) ?_
  refine gol_nil ?_
  refine go_condF rfl rfl ?_
  refine go_skip ?_
  refine go_seq ?_
  refine go_region ?_
  refine sq rfl (q_move rfl) ?_
  refine sq rfl (q_buildS (ns := [1, 1]) (l' := [.slice ql xs.length cl, iv 0]) (.put (z := [_]) rfl (.one rfl) rfl rfl (.zero (z := [_]) rfl .nil)) zero39 Tryz.runUnderlying39 (places39 Tryz.runUnderlying39) rfl) ?_
  refine snb rfl (n_box rfl (.agg (l := [.slice ql xs.length cl, iv 0]))) ?_
  intro pg
  refine sq rfl (q_assign rfl) ?_
  refine gol_nil ?_
  refine go_seq ?_
  refine go_region ?_
  refine sq rfl (q_loadA (vs := genCells (bankG 100 1 0) gv) rfl Tryz.isAgg29 Tryz.sizeOf29 (.tl (Kn.app _ .hd)) (Part.all hgl)) ?_
  refine sn rfl (n_call rfl Tryz.call26 (c26 (g := bankG 100 1 0) (hgr.up hle2) (c := 1) (by decide) (by decide) (by decide))) ?_
  rintro _ σ2 _ - ⟨p, Lf, rfl, rfl, rfl, hf⟩
  refine sq rfl (q_assign rfl) ?_
  refine gol_nil ?_
  refine go_seq ?_
  refine go_region ?_
  refine sns rfl (n_buildSlice (sz := 1) (l' := ([1, 2, 3, 5] : List UInt64).flatMap uc) (.cons rfl (.one rfl) rfl (.cons rfl (.one rfl) rfl (.cons rfl (.one rfl) rfl (.cons rfl (.one rfl) rfl .nil)))) rfl Tryz.runUnderlying34 Tryz.sizeOf31 Tryz.zeroValue31 rfl rfl) ?_
  intro bn
  refine gol_frz (fun σ3 hle3 hbn => ?_)
  have hns : Sl σ3 [] (.slice (some ⟨bn, 0, none⟩) 4 4) 1 uc ([1, 2, 3, 5] : List UInt64) := ⟨⟨_, _, rfl, Nat.le_refl _, Cells.new (.sto hbn) rfl⟩, fun _ _ => rfl⟩
  refine sq rfl (q_assign rfl) ?_
  refine gol_nil ?_
  refine go_seq ?_
  refine go_seq ?_
  refine go_region ?_
  refine sq rfl (q_assign rfl) ?_
  refine gol_nil ?_
  refine go_block ?_
  refine go_drop (Lf ++ (_ :: (Lx ++ L))) ((List.Sublist.refl _).append (.cons_cons _ ((List.Sublist.refl _).append (List.sublist_cons_self _ _)))) ?_
  refine go_perm _ (List.perm_append_comm_assoc Lf [_] (Lx ++ L)) ?_
  refine go_loop (X := PX) (PaidI σ3 px p) (fun x => [(0, .slice ql xs.length cl), (3, .bool true), (5, .pointer (some ⟨px, 0, none⟩)), (6, .pointer (some ⟨pg, 0, none⟩)), (7, .pointer (some ⟨p, 0, none⟩)), (8, .slice (some ⟨bn, 0, none⟩) 4 4), (9, iv (x.i : Nat))]) (fun x => x.s) (fun x => (pg, giverObj (.slice ql xs.length cl) x.gi) :: (x.Lf ++ (x.Lx ++ L))) (fun x => 12 - x.i) ⟨0, 0, σ3, newLed (bankG 100 1 0), genSt (bankG 100 1 0) 1, openF 1 [⟨1, 50, 0⟩, ⟨2, 20, 0⟩], Lf, Lx⟩ ⟨Nat.zero_le _, Nat.zero_le _, Sto.le_refl _, hA.up hle3, rfl, paid_start, agree_open bank_ok (c := 1) (by decide), hf, genSt_le bank_ok 1, rfl, rfl, paid_sum0⟩ ⟨rfl, rfl, rfl, rfl, rfl, rfl, rfl, trivial⟩ rfl rfl ?_
  have hK3 := hle3.get (hle2.get (hle1.get (hle0.get hK)))
  have hgb := (((hgv.up hle0).up hle1).up hle2).up hle3
  rintro ⟨i, gi, σ4, A, st, f, Lf, Lx⟩ ⟨hi, hgi, hle4, hA, hg, hch, hag, hf, hb, hc0, hsc, hsum⟩ next
  simp only at hi hgi hle4 hA hg hch hag hf hb hc0 hsc hsum next ⊢
  refine go_seq ?_
  refine go_seq ?_
  refine go_region ?_
  refine sq rfl (q_move rfl) ?_
  refine sq rfl (q_lss (a := (i : Int)) (b := 12) rfl rfl) ?_
  rcases Classical.em ((i : Int) < 12) with hi12 | hi12
  ·
    rw [show decide ((i : Int) < 12) = true from decide_eq_true hi12]
    refine sq rfl (q_move rfl) ?_
    refine sqg rfl rfl (q_move rfl) ?_
    refine sqg rfl rfl (q_nil rfl) ?_
    refine sqg rfl rfl (q_fieldAddr (off := 1) (o' := 1) rfl Tryz.runUnderlying39 rfl Tryz.sizeOf3 rfl rfl) ?_
    refine sqg rfl rfl (q_load (cs := [.slice ql xs.length cl, iv (gi : Nat)]) (v := iv (gi : Nat)) rfl Tryz.isAgg3 .hd (.s .z)) ?_
    refine sqg rfl rfl (q_move rfl) ?_
    refine sqg rfl rfl (q_len rfl Tryz.runUnderlying22) ?_
    refine sqg rfl rfl (q_lss (a := (gi : Int)) (b := (xs.length : Int)) rfl rfl) ?_
    refine sq rfl (q_pick rfl rfl rfl rfl) ?_
    refine gol_nil ?_
    refine go_cond rfl rfl (fun hc1 => ?_) (fun hc1 => ?_)
    ·
      refine go_skip ?_
      refine go_seq ?_
      refine go_block ?_
      refine go_seq ?_
      refine go_region ?_
      refine sq rfl (q_assign rfl) ?_
      refine gol_nil ?_
      refine go_seq ?_
      refine go_region ?_
      refine sq rfl (q_assign rfl) ?_
      refine gol_nil ?_
      refine go_seq ?_
      refine go_seq ?_
      refine go_region ?_
      refine sq rfl (q_move rfl) ?_
      refine sn rfl (n_call rfl Tryz.call19 (c19 (n := 9) (hgb.up hle4) hlen (by omega) (by omega) (by omega) .hd)) ?_
      rintro _ σ4 _ - ⟨⟨k0, rfl, hk0⟩, rfl, rfl⟩
      refine sq rfl (q_assign rfl) ?_
      refine gol_nil ?_
      refine go_block ?_
      refine go_loop (X := PY) (PaidJ σ4 st gi p) (fun y => [(0, .slice ql xs.length cl), (3, .bool true), (5, .pointer (some ⟨px, 0, none⟩)), (6, .pointer (some ⟨pg, 0, none⟩)), (7, .pointer (some ⟨p, 0, none⟩)), (8, .slice (some ⟨bn, 0, none⟩) 4 4), (9, iv (i : Nat)), (10, y.tv), (11, y.wv), (12, iv (y.k : Nat))]) (fun y => y.s) (fun y => (pg, giverObj (.slice ql xs.length cl) y.gi) :: (y.Lf ++ (Lx ++ (y.Lt ++ (y.Lw ++ L))))) (fun y => y.k) ⟨k0, gi + 1, σ4, f, Lf, nilS, [], nilS, [], []⟩ ⟨by simp only [List.length_nil]; omega, Nat.le_refl _, Sto.le_refl _, hag, hf, SlO.nil, SlO.nil⟩ ⟨rfl, rfl, rfl, rfl, rfl, rfl, rfl, rfl, rfl, rfl, trivial⟩ rfl rfl ?_
      rintro ⟨k, gj, σ5, f', Lf', tv, Lt, wv, Lw, ts⟩ ⟨hk, hgj, hle5, hag', hf', ht, hw⟩ next1
      simp only at hk hgj hle5 hag' hf' ht hw next1 ⊢
      have hi2 : i < 12 := by omega
      have hbr : (runS st ts).le (1000 + 16 * 12) := (runS_le hb).up (by omega)
      have hfl : f'.locks.length < 1000000 := by rw [← hag'.lks.length_eq]; have := hbr.locks; omega
      have hfc : f'.chain = 1 := by rw [← hag'.chain, runS_chain]; exact hsc
      have hwl : (runE st ts).length = ts.length := runE_len _ _
      refine go_seq ?_
      refine go_seq ?_
      refine go_region ?_
      refine sq rfl (q_move rfl) ?_
      refine sq rfl (q_gtr (a := (k : Int)) (b := 0) rfl rfl) ?_
      refine gol_nil ?_
      refine go_cond rfl rfl (fun hc2 => ?_) (fun hc2 => ?_)
      ·
        have hk1 : 0 < k := by have := of_decide_eq_true hc2; omega
        refine go_skip ?_
        refine go_seq ?_
        refine go_block ?_
        refine go_seq ?_
        refine go_region ?_
        refine sq rfl (q_move rfl) ?_
        refine sq rfl (q_move rfl) ?_
        refine sq rfl (q_move rfl) ?_
        refine sn rfl (n_call rfl Tryz.call27 (c27 hf' (((hgb.up hle4).up hle5)) hlen (by omega) ((hns.up hle4).up hle5) (by omega) (by decide) (by decide))) ?_
        rintro _ σ5 _ - ⟨t, gk, rfl, -, -, hgk1, hgk2, rfl, rfl⟩
        refine snb rfl (n_alloc zero42a .agg) ?_
        intro b7
        refine sst rfl (n_storeA rfl rfl (vs := plCells t) (pl_one _) Tryz.sizeOf42 (pl_len _) .hd (PutAt.all (by rw [pl_len]; rfl))) ?_
        refine gol_nil ?_
        refine go_seq ?_
        refine go_region ?_
        refine sq rfl (q_move rfl) ?_
        refine sq rfl (q_loadA (vs := plCells t) rfl Tryz.isAgg42 Tryz.sizeOf42 .hd (Part.all (pl_len _))) ?_
        refine sns rfl (n_buildSlice (sz := 41) (l' := plCells t) (.cons rfl .agg (pl_len t) .nil) rfl Tryz.runUnderlying35 Tryz.sizeOf42 Tryz.zeroValue42 rfl (List.append_nil _)) ?_
        intro bq
        refine gol_perm _ (pm4 [_, _, _] Lf' Lx Lt (Lw ++ L)) ?_
        refine sn rfl (n_append (n := ts.length) (m := 1) (Lp := Lt) (L0 := _) (cs := ts.flatMap plCells) (new := plCells t) rfl rfl Tryz.runUnderlying35 Tryz.sizeOf42 Tryz.typeInfo42 rfl zero42a rfl Tryz.runUnderlying35 ht.own (Cells.new (n := 1) (sz := 41) (c := 1) (Kn.app Lt .hd) (by rw [pl_len])) (pl_one t) (by show (2 * (ts.length + 1) + 1000) * 120 ≤ _; omega)) ?_
        rintro v5 σ5 _ - ⟨Lt2, rfl, rfl, ht2⟩
        refine sq rfl (q_assign rfl) ?_
        refine gol_nil ?_
        refine go_region ?_
        refine sq rfl (q_move rfl) ?_
        refine sq rfl (q_move rfl) ?_
        refine sq rfl (q_loadA (vs := plCells t) rfl Tryz.isAgg42 Tryz.sizeOf42 (Kn.app Lt2 (.tl .hd)) (Part.all (pl_len _))) ?_
        refine gol_perm _ (pm3 Lt2 [_, _, _] Lf' (Lx ++ (Lw ++ L))) ?_
        refine sn rfl (n_call rfl Tryz.call28 (c28_pl hf' (hle5.get (hle4.get hK3)) hfl t)) ?_
        rintro _ σ6 _ hle6 ⟨rfl, Lf2, rfl, hf2⟩
        refine sns rfl (n_buildSlice (sz := 1) (l := [_]) (.cons rfl (.one rfl) rfl .nil) rfl Tryz.runUnderlying43 Tryz.sizeOf52 Tryz.zeroValue52 rfl rfl) ?_
        intro bw
        refine gol_perm _ (pm6 [_] Lf2 Lt2 [_, _, _] Lx Lw L) ?_
        refine sn rfl (n_append (n := ts.length) (m := 1) (Lp := Lw) (L0 := _) (cs := (runE st ts).flatMap ic) (new := [iv (f'.err t)]) rfl rfl Tryz.runUnderlying43 Tryz.sizeOf52 Tryz.typeInfo52 rfl Tryz.zeroValue52 rfl Tryz.runUnderlying43 (by have := hw.own; rwa [hwl] at this) (Cells.new (n := 1) (sz := 1) (c := 1) (Kn.app Lw .hd) rfl) rfl (by show (2 * (ts.length + 1) + 1000) * 8 ≤ _; omega)) ?_
        rintro v6 σ6 _ - ⟨Lw2, rfl, rfl, hw2⟩
        refine sq rfl (q_assign rfl) ?_
        refine gol_nil ?_
        refine go_inBlock ?_
        refine go_drop (Lw2 ++ (Lf2 ++ (Lt2 ++ (_ :: (Lx ++ L))))) ((List.Sublist.refl _).append (.cons _ ((List.Sublist.refl _).append ((List.Sublist.refl _).append (.cons _ (.cons _ (List.Sublist.refl _))))))) ?_
        refine go_perm _ (pmBack Lw2 Lt2 [_] Lx [] Lf2 L) ?_
        refine go_region ?_
        refine sq rfl (q_move rfl) ?_
        refine sq rfl (q_sub (a := (k : Int)) (b := 1) (c := ((k - 1 : Nat) : Int)) rfl rfl (by rw [show ((k - 1 : Nat) : Int) = (k : Int) - 1 by omega]; exact i64_in (by omega) (by omega))) ?_
        refine sq rfl (q_assign rfl) ?_
        refine gol_nil ?_
        refine go_next (next1 ⟨k - 1, gk, σ6, f'.next t, Lf2, v5, Lt2, v6, Lw2, ts ++ [t]⟩ ⟨by simp only [List.length_append, List.length_singleton]; omega, by simp only [List.length_append, List.length_singleton]; omega, Sto.le_trans hle5 hle6, by rw [runS_snoc]; exact hag'.next t, hf2, ?_, ?_⟩ (by simp only; omega)) ⟨rfl, rfl, rfl, rfl, rfl, rfl, rfl, rfl, rfl, rfl, trivial⟩
        · exact SlO.mk (by rw [List.flatMap_append, List.length_append]; simpa using ht2) (fun x _ => pl_len x)
        · refine SlO.mk ?_ (fun _ _ => rfl)
          rw [runE_snoc, hag'.err t, List.flatMap_append, List.length_append, hwl]
          exact hw2
      ·
        clear next1
        refine go_perm _ (pmGive [_] Lf' Lx Lt Lw L) ?_
        refine go_giveSl ht (by decide) (fun σ6 hle6 hts => ?_)
        refine go_giveSl hw (by decide) (fun σ7 hle7 hws => ?_)
        refine go_exit rfl ?_
        refine go_seq ?_
        refine go_region ?_
        refine sq rfl (q_move rfl) ?_
        refine sq rfl (q_move rfl) ?_
        refine sq rfl (q_add (a := (i : Int)) (b := 1) (c := (i : Int) + 1) rfl rfl (i64_in (by omega) (by omega))) ?_
        refine sn rfl (n_call rfl Tryz.call22 (c22 1 ((i : Int) + 1) 100 (by omega) (by omega) (by decide) (by decide))) ?_
        rintro _ σ7 _ - ⟨rfl, rfl, rfl⟩
        refine sq rfl (q_move rfl) ?_
        refine sn rfl (n_call rfl Tryz.call21 (c21 sort90 (hle7.get (hle6.get (hle5.get (hle4.get hK3)))) (c := 1) (st := st) (ht := (i : Int)) (N := 1000 + 16 * i) (((hA.up hle5).up hle6).up hle7) (by decide) (by decide) (by rw [hg]; decide) (hdOf_wf 1 ((i : Int) + 1) 100) (by rw [hch]; rfl) (by rw [hsc]; decide) hb (by omega) (by omega) (by omega) (hts.up hle7) (by omega))) ?_
        rintro _ σ8 _ hle8 ⟨vo, Lx2, A2, rfl, hvo, hg2, hch2, rfl, hA2⟩
        refine sq rfl (q_move rfl) ?_
        refine sq rfl (q_extract rfl .z) ?_
        refine sq rfl (q_extract rfl (.s .z)) ?_
        refine sq rfl (q_assign rfl) ?_
        refine sq rfl (q_assign rfl) ?_
        refine gol_nil ?_
        refine go_seq ?_
        have hch3 : A2.ch = paidCh (runS st ts) ((i : Int) + 1) := by rw [hch2, hch]; rfl
        refine go_region ?_
        refine sq rfl (q_move rfl) ?_
        refine sn rfl (n_call rfl Tryz.call16 (c16L hA2 (c := 1) (by decide) (by rw [hg2, hg]; decide) (st := runS st ts) (ht := (i : Int) + 1) (by rw [hch3]; rfl) hbr (by decide))) ?_
        rintro _ σ9 _ hle9 ⟨sv, rfl, hsv, rfl⟩
        refine sq rfl (q_move rfl) ?_
        refine sq rfl (q_extract rfl .z) ?_
        refine sq rfl (q_extract rfl (.s .z)) ?_
        refine snb rfl (n_alloc Tryz.zeroValue51 .agg) ?_
        intro b8
        refine sst rfl (n_storeA rfl rfl (vs := stCells sv) hsv.one Tryz.sizeOf51 rfl .hd (PutAt.all rfl)) ?_
        refine sq rfl (q_assign rfl) ?_
        refine gol_nil ?_
        refine go_seq ?_
        refine go_perm _ (pm4 [_] Lx2 [_] Lf' L) ?_
        refine go_region ?_
        refine sq rfl (q_move rfl) ?_
        refine sq rfl (q_neq (a := 0) (b := 0) rfl rfl) ?_
        rw [show decide ((0 : Int) = 0) = true from decide_eq_true (rfl)]
        refine sq rfl (q_move rfl) ?_
        refine sqg rfl rfl (q_move rfl) ?_
        refine sqg rfl rfl (q_neq (a := 0) (b := 0) rfl rfl) ?_
        rw [show decide ((0 : Int) = 0) = true from decide_eq_true (rfl)]
        refine sq rfl (q_pick rfl rfl rfl rfl) ?_
        refine sq rfl (q_move rfl) ?_
        refine sqg rfl rfl (q_move rfl) ?_
        refine sqg rfl rfl (q_move rfl) ?_
        refine sng rfl rfl (n_call rfl Tryz.call17 (c17 ((hvo.up hle9).more (Keep.nil _)) (((hws.up hle8).up hle9).more (Keep.nil _)) (by omega))) ?_
        rintro _ σ9 _ - ⟨rfl, rfl, rfl⟩
        refine sqg rfl rfl (q_not rfl) ?_
        refine sq rfl (q_pick rfl rfl rfl rfl) ?_
        refine sq rfl (q_move rfl) ?_
        refine sqg rfl rfl (q_move rfl) ?_
        refine sqg rfl rfl (q_loadA (vs := stCells sv) rfl Tryz.isAgg51 Tryz.sizeOf51 (Kn.app Lf' .hd) (Part.all rfl)) ?_
        refine sng rfl rfl (n_call rfl Tryz.call29 (c29 hf' hsv hag' (by have := hbr.accs; omega) hfl (by rw [runS_cons, hc0]; decide))) ?_
        rintro _ σ10 _ hle10 ⟨rfl, rfl⟩
        refine sqg rfl rfl (q_not rfl) ?_
        refine sq rfl (q_pick rfl rfl rfl rfl) ?_
        refine gol_nil ?_
        refine go_condF rfl rfl ?_
        refine go_skip ?_
        refine go_inBlock ?_
        refine go_drop (Lf' ++ (Lx2 ++ (_ :: L))) ((List.Sublist.refl _).append (.cons _ (List.Sublist.refl _))) ?_
        refine go_perm _ (pmOut Lf' [] Lx2 [_] L) ?_
        refine go_region ?_
        refine sq rfl (q_move rfl) ?_
        refine sq rfl (q_add (a := (i : Int)) (b := 1) (c := ((i + 1 : Nat) : Int)) rfl rfl (i64_in (by omega) (by omega))) ?_
        refine sq rfl (q_assign rfl) ?_
        refine gol_nil ?_
        refine go_next (next ⟨i + 1, gj, σ10, A2, runS st ts, f', Lf', Lx2⟩ ⟨by simp only; omega, by simp only; omega, (by repeat (first | exact Sto.le_refl _ | assumption | refine Sto.le_trans ?_ (by assumption))), (hA2.up hle9).up hle10, by rw [hg2]; exact hg, hch3, hag', hf', (runS_le hb).up (by simp only; omega), by rw [runS_cons]; exact hc0, by rw [runS_chain]; exact hsc, (runS_sum hag.acc hag ts).trans hsum⟩ (by simp only; omega)) ⟨rfl, rfl, rfl, rfl, rfl, rfl, rfl, trivial⟩
    ·
      refine go_exit rfl ?_
      refine go_seq ?_
      refine go_perm _ (pm3 [_] Lf Lx L) ?_
      refine go_region ?_
      refine sq rfl (q_move rfl) ?_
      refine sq rfl (q_move rfl) ?_
      refine sqg rfl rfl (q_move rfl) ?_
      refine sng rfl rfl (n_call rfl Tryz.call30 (c30 hA (by rw [hg]; decide) (N := 2000) (by rw [hch]; exact paid_bnd (hb.up (by omega))) (by decide))) ?_
      rintro _ σ4 _ - ⟨rfl, rfl, rfl⟩
      rw [paid_money hg hch hc0, hsum]
      refine sqg rfl rfl (q_eql (a := 110) (b := 110) rfl rfl) ?_
      rw [show decide ((110 : Int) = 110) = true from decide_eq_true (rfl)]
      refine sq rfl (q_pick rfl rfl rfl rfl) ?_
      refine sq rfl (q_assign rfl) ?_
      refine gol_nil ?_
      refine go_drop L ((List.sublist_append_right Lf L).trans ((List.sublist_cons_self _ _).trans (List.sublist_append_right Lx _))) ?_
      refine go_ret Tryz.func7 Tryz.results7 rfl rfl rfl (by repeat (first | exact Sto.le_refl _ | assumption | refine Sto.le_trans ?_ (by assumption))) ?_
      exact ⟨rfl, rfl⟩
  ·
    rw [show decide ((i : Int) < 12) = false from decide_eq_false hi12]
    refine sq rfl (q_move rfl) ?_
    refine ss rfl rfl ?_
    refine ss rfl rfl ?_
    refine ss rfl rfl ?_
    refine ss rfl rfl ?_
    refine ss rfl rfl ?_
    refine ss rfl rfl ?_
    refine ss rfl rfl ?_
    refine sq rfl (q_pick rfl rfl rfl rfl) ?_
    refine gol_nil ?_
    refine go_condF rfl rfl ?_
    refine go_exit rfl ?_
    refine go_seq ?_
    refine go_perm _ (pm3 [_] Lf Lx L) ?_
    refine go_region ?_
    refine sq rfl (q_move rfl) ?_
    refine sq rfl (q_move rfl) ?_
    refine sqg rfl rfl (q_move rfl) ?_
    refine sng rfl rfl (n_call rfl Tryz.call30 (c30 hA (by rw [hg]; decide) (N := 2000) (by rw [hch]; exact paid_bnd (hb.up (by omega))) (by decide))) ?_
    rintro _ σ4 _ - ⟨rfl, rfl, rfl⟩
    rw [paid_money hg hch hc0, hsum]
    refine sqg rfl rfl (q_eql (a := 110) (b := 110) rfl rfl) ?_
    rw [show decide ((110 : Int) = 110) = true from decide_eq_true (rfl)]
    refine sq rfl (q_pick rfl rfl rfl rfl) ?_
    refine sq rfl (q_assign rfl) ?_
    refine gol_nil ?_
    refine go_drop L ((List.sublist_append_right Lf L).trans ((List.sublist_cons_self _ _).trans (List.sublist_append_right Lx _))) ?_
    refine go_ret Tryz.func7 Tryz.results7 rfl rfl rfl (by repeat (first | exact Sto.le_refl _ | assumption | refine Sto.le_trans ?_ (by assumption))) ?_
    exact ⟨rfl, rfl⟩
end Go.Eng
