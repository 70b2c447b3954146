/- A part of the proof of this: Payments and locks of a shard come out as they stand on paper (TopPaid): for every input, with the listed package variables as the program's text lays them, TopPaid answers true and its argument reads as it did. -/
import Derived.Test.YtddoimkbjgfjnaaGreatDoorPaid18
import Derived.Test.YtddoimkbjgfjnaaGreatDoorPaid06
namespace Go.Eng
open Go Go.Proofs
set_option maxRecDepth 20000
theorem c95 {σ : Sto} {L : SHeap} {v : Value} {xs : List Int} {ts : List Bts} {gid : Nat} (hv : Sl σ [] v 1 ic xs) (hcall : ∀ vs w, (callFunc gid vs).run Tryz.prog w = .ok (.enter gid vs) w) (hts : ts.length = xs.length) (hof : ∀ i, i < xs.length → ∀ σ' L', Sto.le σ σ' → Ctr Tryz.prog gid #[iv (xs.getD i 0)] σ' L' fun v σ2 L2 => Bytes σ2 v (ts.getD i []) ∧ L2 = L') (hlen : (joinB ts).length < 10000000000) : Ctr Tryz.prog 95 #[v, .func (.func gid) #[] #[]] σ L fun v σ' L' => Bytes σ' v (joinB ts) ∧ L' = L := by
  obtain ⟨p, c, rfl⟩ := hv.val
  refine ctr_enter Tryz.func95 rfl Tryz.ntmps95 (by simp) ?_
  refine go_seq ?_
  refine go_region ?_
  refine sq rfl (q_assign rfl) ?_
  refine gol_nil ?_
  refine go_seq ?_
  refine go_region ?_
  refine sq rfl (q_assign rfl) ?_
  refine gol_nil ?_
  refine go_seq ?_
  refine go_seq ?_
  refine go_region ?_
  refine sq rfl (q_move rfl) ?_
  refine sq rfl (q_len rfl Tryz.runUnderlying24) ?_
  refine sq rfl (q_move rfl) ?_
  refine gol_nil ?_
  refine go_block ?_
  refine go_loop (X := Nat × Sto × Value × List Value × SHeap) (fun x => x.1 ≤ xs.length ∧ Sto.le σ x.2.1 ∧ Own 22 1 x.2.2.1 x.1 (x.2.2.2.1.flatMap vc) x.2.2.2.2 ∧ All2 (Bytes x.2.1) x.2.2.2.1 (ts.take x.1)) (fun x => [(1, .func (.func gid) #[] #[]), (5, x.2.2.1), (8, .slice p xs.length c), (9, iv (xs.length : Nat)), (10, iv (x.1 : Nat))]) (fun x => x.2.1) (fun x => x.2.2.2.2 ++ L) (fun x => xs.length - x.1) (0, σ, nilS, [], []) ⟨Nat.zero_le _, Sto.le_refl _, .nil, .nil⟩ ⟨rfl, rfl, rfl, rfl, rfl, trivial⟩ rfl rfl ?_
  rintro ⟨i, σ1, va, us, Lp⟩ ⟨hi, hle1, hown, hall⟩ next
  simp only at hi hle1 hown hall next ⊢
  have hul := hall.len
  rw [List.length_take, hts, Nat.min_eq_left hi] at hul
  refine go_seq ?_
  refine go_region ?_
  refine sq rfl (q_lss (a := (i : Int)) (b := (xs.length : Int)) rfl rfl) ?_
  refine gol_nil ?_
  refine go_seq ?_
  refine go_cond rfl rfl (fun hc0 => ?_) (fun hc0 => ?_)
  ·
    have hlt : i < xs.length := by have := of_decide_eq_true hc0; omega
    have hgd : xs.getD i 0 = xs[i] := by simp [List.getD, List.getElem?_eq_getElem hlt]
    obtain ⟨b9, o9, ds9, T9, fr9, rfl, hkn9, hpt9⟩ := hv.cells.2.2.get (by intro e; have := hv.cells.2.2.1; rw [e] at this; simp at this; omega)
    refine go_skip ?_
    refine go_seq ?_
    refine go_block ?_
    refine go_seq ?_
    refine go_region ?_
    refine sq rfl (q_indexAddr (j := i) (o' := o9 + i) rfl rfl Tryz.runUnderlying24 Tryz.sizeOf3 rfl hlt (by omega)) ?_
    refine sq rfl (q_load (cs := ds9.toList) (v := iv xs[i]) rfl Tryz.isAgg3 ((hkn9.up hle1).imp id (fun h => nomatch h)) (hpt9.at (ic_at hlt))) ?_
    refine sq rfl (q_assign rfl) ?_
    refine gol_nil ?_
    refine go_region ?_
    refine sq rfl (q_move rfl) ?_
    refine sq rfl (q_move rfl) ?_
    refine sq rfl (q_move rfl) ?_
    refine sn rfl (n_callV (fst := []) (cap := []) rfl rfl rfl hcall (by have := hof i hlt σ1 (Lp ++ L) hle1; rw [hgd] at this; exact this)) ?_
    rintro vb σ2 _ hle2 ⟨hb, rfl⟩
    refine sns rfl (n_buildSlice (sz := 1) (l := [vb]) (.cons rfl (.one hb.one) rfl .nil) rfl Tryz.runUnderlying187 Tryz.sizeOf22 Tryz.zeroValue22 rfl rfl) ?_
    intro bv
    refine gol_in ?_
    refine sn rfl (n_append (n := i) (m := 1) (Lp := Lp) (L0 := _) (cs := us.flatMap vc) (new := [vb]) rfl rfl Tryz.runUnderlying187 Tryz.sizeOf22 Tryz.typeInfo22 rfl Tryz.zeroValue22 rfl Tryz.runUnderlying187 hown (Cells.new (n := 1) (sz := 1) (c := 1) (Kn.app Lp .hd) rfl) (by simp [hb.one]) (by have := joinB_ge ts; rw [hts] at this; show (2 * (i + 1) + 1000) * 24 ≤ _; omega)) ?_
    rintro v5 σ2 _ - ⟨Lp', rfl, rfl, hown2⟩
    refine gol_out ?_
    refine sq rfl (q_assign rfl) ?_
    refine gol_nil ?_
    refine go_inBlock ?_
    refine go_region ?_
    refine sq rfl (q_add (a := (i : Int)) (b := 1) (c := ((i + 1 : Nat) : Int)) rfl rfl (i64_in (by omega) (by have := joinB_ge ts; rw [hts] at this; omega))) ?_
    refine sq rfl (q_move rfl) ?_
    refine gol_nil ?_
    refine go_next (next (i + 1, σ2, v5, us ++ [vb], Lp') ⟨hlt, Sto.le_trans hle1 hle2, ?_, ?_⟩ (by simp only; omega)) ⟨rfl, rfl, rfl, rfl, rfl, trivial⟩
    · simp only
      rw [List.flatMap_append]
      exact hown2
    · simp only
      have hit : i < ts.length := by omega
      rw [List.take_succ_eq_append_getElem hit]
      refine all2_snoc (hall.mono fun _ _ h => h.up hle2) ?_
      have : ts.getD i [] = ts[i] := by simp [List.getD, List.getElem?_eq_getElem hit]
      rw [← this]; exact hb
  ·
    have he : i = xs.length := by have := of_decide_eq_false hc0; omega
    subst he
    rw [← hts, List.take_length] at hall
    refine go_exit rfl ?_
    refine go_seq ?_
    refine go_region ?_
    refine sq rfl (q_move rfl) ?_
    refine sn rfl (n_call rfl Tryz.call51 (c51 (Parts.own hown (by rw [hts]) hall) hlen)) ?_
    rintro v6 σ2 _ hle2 ⟨hb6, rfl⟩
    refine sq rfl (q_assign rfl) ?_
    refine gol_nil ?_
    refine go_drop L (List.sublist_append_right _ _) ?_
    refine go_ret Tryz.func95 Tryz.results95 rfl rfl rfl (by repeat (first | exact Sto.le_refl _ | assumption | refine Sto.le_trans ?_ (by assumption))) ?_
    exact ⟨hb6, rfl⟩
theorem c53 {σ : Sto} {L : SHeap} {v : Value} {xs : List Int} (hv : Sl σ [] v 1 ic xs) (hn : xs.length ≤ 10000) : Ctr Tryz.prog 53 #[v] σ L fun v σ' L' => Bytes σ' v (numsB xs) ∧ L' = L := by
  refine ctr_enter Tryz.func53 rfl Tryz.ntmps53 (by simp) ?_
  refine go_seq ?_
  refine go_region ?_
  refine sq rfl (q_assign rfl) ?_
  refine gol_nil ?_
  refine go_seq ?_
  refine go_region ?_
  refine sq rfl (q_move rfl) ?_
  refine sn rfl (n_call rfl Tryz.call95 (c95 (ts := xs.map numB) hv Tryz.call52 (by simp) (fun i hi σ' L' _ => by have : (xs.map numB).getD i [] = numB (xs.getD i 0) := (by simp [List.getD, List.getElem?_eq_getElem hi]); rw [this]; exact c52) (by have := numsB_len xs; unfold numsB at this; omega))) ?_
  rintro v1 σ1 _ hle1 ⟨hb, rfl⟩
  refine sq rfl (q_assign rfl) ?_
  refine gol_nil ?_
  refine go_ret Tryz.func53 Tryz.results53 rfl rfl rfl (by repeat (first | exact Sto.le_refl _ | assumption | refine Sto.le_trans ?_ (by assumption))) ?_
  exact ⟨hb, rfl⟩
theorem c54 {σ : Sto} {L : SHeap} {v : Value} {xs : List Value} {ts : List Bts} {gid : Nat} (hv : Sl σ [] v 1 vc xs) (hcall : ∀ vs w, (callFunc gid vs).run Tryz.prog w = .ok (.enter gid vs) w) (hts : ts.length = xs.length) (hof : ∀ i, i < xs.length → ∀ σ' L', Sto.le σ σ' → Ctr Tryz.prog gid #[xs.getD i nilS] σ' L' fun v σ2 L2 => Bytes σ2 v (ts.getD i []) ∧ L2 = L') (hlen : (joinB ts).length < 10000000000) : Ctr Tryz.prog 54 #[v, .func (.func gid) #[] #[]] σ L fun v σ' L' => Bytes σ' v (joinB ts) ∧ L' = L := by
  obtain ⟨p, c, rfl⟩ := hv.val
  refine ctr_enter Tryz.func54 rfl Tryz.ntmps54 (by simp) ?_
  refine go_seq ?_
  refine go_region ?_
  refine sq rfl (q_assign rfl) ?_
  refine gol_nil ?_
  refine go_seq ?_
  refine go_region ?_
  refine sq rfl (q_assign rfl) ?_
  refine gol_nil ?_
  refine go_seq ?_
  refine go_seq ?_
  refine go_region ?_
  refine sq rfl (q_move rfl) ?_
  refine sq rfl (q_len rfl Tryz.runUnderlying64) ?_
  refine sq rfl (q_move rfl) ?_
  refine gol_nil ?_
  refine go_block ?_
  refine go_loop (X := Nat × Sto × Value × List Value × SHeap) (fun x => x.1 ≤ xs.length ∧ Sto.le σ x.2.1 ∧ Own 22 1 x.2.2.1 x.1 (x.2.2.2.1.flatMap vc) x.2.2.2.2 ∧ All2 (Bytes x.2.1) x.2.2.2.1 (ts.take x.1)) (fun x => [(1, .func (.func gid) #[] #[]), (5, x.2.2.1), (8, .slice p xs.length c), (9, iv (xs.length : Nat)), (10, iv (x.1 : Nat))]) (fun x => x.2.1) (fun x => x.2.2.2.2 ++ L) (fun x => xs.length - x.1) (0, σ, nilS, [], []) ⟨Nat.zero_le _, Sto.le_refl _, .nil, .nil⟩ ⟨rfl, rfl, rfl, rfl, rfl, trivial⟩ rfl rfl ?_
  rintro ⟨i, σ1, va, us, Lp⟩ ⟨hi, hle1, hown, hall⟩ next
  simp only at hi hle1 hown hall next ⊢
  have hul := hall.len
  rw [List.length_take, hts, Nat.min_eq_left hi] at hul
  refine go_seq ?_
  refine go_region ?_
  refine sq rfl (q_lss (a := (i : Int)) (b := (xs.length : Int)) rfl rfl) ?_
  refine gol_nil ?_
  refine go_seq ?_
  refine go_cond rfl rfl (fun hc0 => ?_) (fun hc0 => ?_)
  ·
    have hlt : i < xs.length := by have := of_decide_eq_true hc0; omega
    have hgd : xs.getD i nilS = xs[i] := by simp [List.getD, List.getElem?_eq_getElem hlt]
    obtain ⟨b9, o9, ds9, T9, fr9, rfl, hkn9, hpt9⟩ := hv.cells.2.2.get (by intro e; have := hv.cells.2.2.1; rw [e] at this; simp at this; omega)
    refine go_skip ?_
    refine go_seq ?_
    refine go_block ?_
    refine go_seq ?_
    refine go_region ?_
    refine sq rfl (q_indexAddr (j := i) (o' := o9 + i) rfl rfl Tryz.runUnderlying64 Tryz.sizeOf24 rfl hlt (by omega)) ?_
    refine sq rfl (q_load (cs := ds9.toList) (v := xs[i]) rfl Tryz.isAgg24 ((hkn9.up hle1).imp id (fun h => nomatch h)) (hpt9.at (vc_at hlt))) ?_
    refine sq rfl (q_assign rfl) ?_
    refine gol_nil ?_
    refine go_region ?_
    refine sq rfl (q_move rfl) ?_
    refine sq rfl (q_move rfl) ?_
    refine sq rfl (q_move rfl) ?_
    refine sn rfl (n_callV (fst := []) (cap := []) rfl rfl rfl hcall (by have := hof i hlt σ1 (Lp ++ L) hle1; rw [hgd] at this; exact this)) ?_
    rintro vb σ2 _ hle2 ⟨hb, rfl⟩
    refine sns rfl (n_buildSlice (sz := 1) (l := [vb]) (.cons rfl (.one hb.one) rfl .nil) rfl Tryz.runUnderlying187 Tryz.sizeOf22 Tryz.zeroValue22 rfl rfl) ?_
    intro bv
    refine gol_in ?_
    refine sn rfl (n_append (n := i) (m := 1) (Lp := Lp) (L0 := _) (cs := us.flatMap vc) (new := [vb]) rfl rfl Tryz.runUnderlying187 Tryz.sizeOf22 Tryz.typeInfo22 rfl Tryz.zeroValue22 rfl Tryz.runUnderlying187 hown (Cells.new (n := 1) (sz := 1) (c := 1) (Kn.app Lp .hd) rfl) (by simp [hb.one]) (by have := joinB_ge ts; rw [hts] at this; show (2 * (i + 1) + 1000) * 24 ≤ _; omega)) ?_
    rintro v5 σ2 _ - ⟨Lp', rfl, rfl, hown2⟩
    refine gol_out ?_
    refine sq rfl (q_assign rfl) ?_
    refine gol_nil ?_
    refine go_inBlock ?_
    refine go_region ?_
    refine sq rfl (q_add (a := (i : Int)) (b := 1) (c := ((i + 1 : Nat) : Int)) rfl rfl (i64_in (by omega) (by have := joinB_ge ts; rw [hts] at this; omega))) ?_
    refine sq rfl (q_move rfl) ?_
    refine gol_nil ?_
    refine go_next (next (i + 1, σ2, v5, us ++ [vb], Lp') ⟨hlt, Sto.le_trans hle1 hle2, ?_, ?_⟩ (by simp only; omega)) ⟨rfl, rfl, rfl, rfl, rfl, trivial⟩
    · simp only
      rw [List.flatMap_append]
      exact hown2
    · simp only
      have hit : i < ts.length := by omega
      rw [List.take_succ_eq_append_getElem hit]
      refine all2_snoc (hall.mono fun _ _ h => h.up hle2) ?_
      have : ts.getD i [] = ts[i] := by simp [List.getD, List.getElem?_eq_getElem hit]
      rw [← this]; exact hb
  ·
    have he : i = xs.length := by have := of_decide_eq_false hc0; omega
    subst he
    rw [← hts, List.take_length] at hall
    refine go_exit rfl ?_
    refine go_seq ?_
    refine go_region ?_
    refine sq rfl (q_move rfl) ?_
    refine sn rfl (n_call rfl Tryz.call51 (c51 (Parts.own hown (by rw [hts]) hall) hlen)) ?_
    rintro v6 σ2 _ hle2 ⟨hb6, rfl⟩
    refine sq rfl (q_assign rfl) ?_
    refine gol_nil ?_
    refine go_drop L (List.sublist_append_right _ _) ?_
    refine go_ret Tryz.func54 Tryz.results54 rfl rfl rfl (by repeat (first | exact Sto.le_refl _ | assumption | refine Sto.le_trans ?_ (by assumption))) ?_
    exact ⟨hb6, rfl⟩
theorem c25 {σ : Sto} {L : SHeap} {rv : RV} {r : Rec} (h : RecR σ rv r) (hm : r.mems.length ≤ 10000) (hn : r.seats.length ≤ 10000) (hk : ∀ l ∈ r.seats, l.length ≤ 10000) : Ctr Tryz.prog 25 #[.agg (recCells rv).toArray] σ L fun v σ' L' => Bytes σ' v (recB r) ∧ L' = L := by
  obtain ⟨vs, hs, hall⟩ := h.seats
  have hrl0 := rowsB_len r.seats 10000 hk
  have hm8 : r.seats.length * (16 + 10000 * 16) ≤ 10000 * (16 + 10000 * 16) := Nat.mul_le_mul_right _ hn
  have hrl : (joinB (r.seats.map numsB)).length < 10000000000 := by unfold rowsB at hrl0; omega
  have hml := numsB_len r.mems
  have hjl : (joinB [numB r.epoch, numsB r.mems, rowsB r.seats]).length < 10000000000 := by
    rw [joinB_len]
    have : (numB r.epoch).length = 8 := rfl
    simp only [List.map_cons, List.map_nil, List.sum_cons, List.sum_nil, this]
    omega
  have hofR : ∀ i, i < vs.length → ∀ σ' L', Sto.le σ σ' → Ctr Tryz.prog 53 #[vs.getD i nilS] σ' L' fun v σ2 L2 => Bytes σ2 v ((r.seats.map numsB).getD i []) ∧ L2 = L' := by
    intro i hi σ' L' hle
    have hir : i < r.seats.length := by rw [← hall.len]; exact hi
    have e1 : (r.seats.map numsB).getD i [] = numsB r.seats[i] := by simp [List.getD, List.getElem?_eq_getElem hir]
    have e2 : vs.getD i nilS = vs[i] := by simp [List.getD, List.getElem?_eq_getElem hi]
    rw [e1, e2]
    exact c53 ((hall.get i hir hi).up hle) (hk _ (List.getElem_mem hir))
  refine ctr_enter Tryz.func25 rfl Tryz.ntmps25 (by simp) ?_
  refine go_seq ?_
  refine go_region ?_
  refine snb rfl (n_box rfl (.agg (l := recCells rv))) ?_
  intro b1
  refine sq rfl (q_assign rfl) ?_
  refine gol_nil ?_
  refine go_seq ?_
  refine go_draws (n := 14) _ mix rfl (by decide +kernel) (Keep.refl _) ?_
  refine dq 0 rfl rfl rfl rfl (q_fieldAddr (off := 0) (o' := 0) rfl Tryz.runUnderlying75 rfl Tryz.sizeOf3 rfl rfl) ?_
  refine dq 1 rfl rfl rfl rfl (q_load (cs := recCells rv) (v := iv rv.epoch) rfl Tryz.isAgg3 .hd .z) ?_
  refine dq 3 rfl rfl rfl rfl (q_fieldAddr (off := 1) (o' := 1) rfl Tryz.runUnderlying75 rfl Tryz.sizeOf24 rfl rfl) ?_
  refine dq 4 rfl rfl rfl rfl (q_load (cs := recCells rv) (v := rv.mems) rfl Tryz.isAgg24 .hd (.s .z)) ?_
  refine dq 6 rfl rfl rfl rfl (q_fieldAddr (off := 2) (o' := 2) rfl Tryz.runUnderlying75 rfl Tryz.sizeOf64 rfl rfl) ?_
  refine dq 7 rfl rfl rfl rfl (q_load (cs := recCells rv) (v := rv.seats) rfl Tryz.isAgg64 .hd (.s (.s .z))) ?_
  refine dn 2 rfl rfl rfl rfl (by decide +kernel) (n_call rfl Tryz.call52 c52) (fun _ _ _ _ h => by rw [h.2]; exact Keep.refl _) ?_
  rintro v1 σ1 _ hle1 ⟨hb1, rfl⟩
  refine dn 5 rfl rfl rfl rfl (by decide +kernel) (n_call rfl Tryz.call53 (c53 (h.mems.up hle1) (by omega))) (fun _ _ _ _ h => by rw [h.2]; exact Keep.refl _) ?_
  rintro v2 σ2 _ hle2 ⟨hb2, rfl⟩
  refine dn 8 rfl rfl rfl rfl (by decide +kernel) (n_call rfl Tryz.call54 (c54 (ts := r.seats.map numsB) ((hs.up hle1).up hle2) Tryz.call53 (by rw [List.length_map, hall.len]) (fun i hi σ' L' hle => hofR i hi σ' L' (Sto.le_trans hle1 (Sto.le_trans hle2 hle))) hrl)) (fun _ _ _ _ h => by rw [h.2]; exact Keep.refl _) ?_
  rintro v3 σ3 _ hle3 ⟨hb3, rfl⟩
  refine dns 9 rfl rfl rfl rfl (by decide +kernel) (n_buildSlice (sz := 1) (.cons rfl (.one (by first | rfl | exact Bytes.one (by assumption))) rfl (.cons rfl (.one (by first | rfl | exact Bytes.one (by assumption))) rfl (.cons rfl (.one (by first | rfl | exact Bytes.one (by assumption))) rfl .nil))) rfl Tryz.runUnderlying187 Tryz.sizeOf22 Tryz.zeroValue22 rfl rfl) (Keep.refl _) ?_
  intro bp
  refine dn 10 rfl rfl rfl rfl (by decide +kernel) (n_call rfl Tryz.call51 (c51 (Parts.new (ps := [numB r.epoch, numsB r.mems, rowsB r.seats]) .hd (.cons (by rw [← h.epoch]; exact (hb1.up hle2).up hle3) (.cons (hb2.up hle3) (.cons hb3 .nil))) rfl) hjl)) (fun _ _ _ _ h => by rw [h.2]; exact Keep.cons _ _) ?_
  rintro v4 σ4 _ hle4 ⟨hb4, rfl⟩
  refine dq 11 rfl rfl rfl rfl (q_assign rfl) ?_
  refine dend rfl ?_
  refine go_drop1 (go_drop1 ?_)
  refine go_ret Tryz.func25 Tryz.results25 rfl rfl rfl (by repeat (first | exact Sto.le_refl _ | assumption | refine Sto.le_trans ?_ (by assumption))) ?_
  exact ⟨hb4, rfl⟩
end Go.Eng
namespace Go.Eng
open Go Go.Proofs
set_option maxRecDepth 20000
theorem zero179 (w : World) : (zeroValue 179).run Tryz.prog w = .ok (.agg (bcells z32 ++ [nilS]).toArray) w := by rw [Tryz.zeroValue179]; rfl
theorem ent_len {p : Bts × Value} (h : p.1.length = 32) : (entCells p).length = 33 := by simp [entCells, bcells_len, h]
theorem ent_one {p : Bts × Value} (h : oneCell p.2 = true) : (entCells p).all oneCell = true := by simp [entCells, bcells_one, h]
theorem c85 {σ : Sto} {L Le : SHeap} {bl : Nat} {lv v : Value} {k : Bts} {evs : List (Bts × Value)} (ho : SlO 179 33 lv entCells evs Le) (hk : k.length = 32) (hv : oneCell v = true) (hn : evs.length < 1000000) : Ctr Tryz.prog 85 #[.agg (bcells k).toArray, v, .pointer (some ⟨bl, 0, none⟩)] σ ((bl, .cells [lv].toArray 129 (0, 0)) :: (Le ++ L)) fun r σ' L' => r = .tuple #[] ∧ σ' = σ ∧ ∃ lv' Le', L' = (bl, .cells [lv'].toArray 129 (0, 0)) :: (Le' ++ L) ∧ SlO 179 33 lv' entCells (evs ++ [(k, v)]) Le' := by
  refine ctr_enter Tryz.func85 rfl Tryz.ntmps85 (by simp) ?_
  refine go_seq ?_
  refine go_region ?_
  refine snb rfl (n_box rfl .agg) ?_
  intro b3
  refine gol_nil ?_
  refine go_region ?_
  refine sq rfl (q_load rfl Tryz.isAgg129 (.tl .hd) .z) ?_
  refine sq rfl (q_loadA (vs := bcells k) rfl Tryz.isAgg27 Tryz.sizeOf27 .hd (Part.all (by rw [bcells_len, hk]))) ?_
  refine sq rfl (q_move rfl) ?_
  refine sq rfl (q_buildS (ns := [32, 1]) (l' := entCells (k, v)) (.put (z := bcells z32) rfl .agg (by rw [bcells_len, hk]) rfl (.put (z := [_]) rfl (.one hv) rfl rfl .nil)) zero179 Tryz.runUnderlying179 (places179 Tryz.runUnderlying179) rfl) ?_
  refine sns rfl (n_buildSlice (sz := 33) (l := entCells (k, v) ++ []) (.cons rfl .agg (ent_len hk) .nil) rfl Tryz.runUnderlying129 Tryz.sizeOf179 zero179 rfl rfl) ?_
  intro bv
  refine gol_perm _ (List.perm_append_comm_assoc [_, _, _] Le L) ?_
  refine sn rfl (n_append (n := evs.length) (m := 1) (Lp := Le) (L0 := _) (cs := evs.flatMap entCells) (new := entCells (k, v) ++ []) rfl rfl Tryz.runUnderlying129 Tryz.sizeOf179 Tryz.typeInfo179 rfl zero179 rfl Tryz.runUnderlying129 ho.own (Cells.new (n := 1) (sz := 33) (c := 1) (Kn.app Le .hd) (by rw [List.append_nil]; exact ent_len hk)) (by rw [List.append_nil]; exact ent_one hv) (by show (2 * (evs.length + 1) + 1000) * 56 ≤ _; omega)) ?_
  rintro v5 σ _ - ⟨Le', rfl, rfl, hown2⟩
  refine sst rfl (n_store rfl rfl hown2.oneC Tryz.sizeOf129 .z (Upd.app _ (.tl (.tl .hd)))) ?_
  refine gol_nil ?_
  refine go_drop (Le' ++ ((bl, .cells [v5].toArray 129 (0, 0)) :: L)) ((List.Sublist.refl _).append (.cons _ (.cons _ (List.Sublist.refl _)))) ?_
  refine go_perm _ List.perm_middle ?_
  refine go_end Tryz.func85 Tryz.results85 rfl rfl rfl (by repeat (first | exact Sto.le_refl _ | assumption | refine Sto.le_trans ?_ (by assumption))) ?_
  exact ⟨rfl, rfl, v5, Le', rfl, SlO.snoc hown2 ho.len (ent_len hk)⟩
end Go.Eng
namespace Go.Eng
open Go Go.Proofs
set_option maxRecDepth 20000
def sMembers : Bts := [109, 101, 109, 98, 101, 114, 115]
noncomputable def membersKey : Bts := shaOf [sMembers]
noncomputable def accEnt (a : Acc) : Ent := (accountKey a.name, joinB [be64 a.bal, be64 a.nonce])
noncomputable def lckEnt (x : Lck) : Ent := (lockKey x.id, lockValue x)
noncomputable def conEnt (d : Bts) : Ent := (consumedKey d, [1])
noncomputable def recEnt (r : Rec) : Ent := (recordKey r.epoch, recB r)
noncomputable def memEnt (ms : List Int) : Ent := (membersKey, numsB ms)
noncomputable def rawMap (st : LSt) : List Ent := st.accs.map accEnt ++ (st.locks.map lckEnt ++ (st.cons.map conEnt ++ (st.recs.map recEnt ++ [memEnt st.mems])))
def EntR (σ : Sto) (ev : Bts × Value) (e : Ent) : Prop := ev.1 = e.1 ∧ Bytes σ ev.2 e.2
theorem EntR.up {σ σ' : Sto} {ev : Bts × Value} {e : Ent} (h : EntR σ ev e) (hle : Sto.le σ σ') : EntR σ' ev e := ⟨h.1, h.2.up hle⟩
structure MapOf (st : LSt) (l : List Ent) : Prop where
  perm : l.Perm (rawMap st)
  up : l.Pairwise fun a b => ¬ dcmp b.1 a.1 < 0
def Sort90 : Prop := ∀ (σ : Sto) (L Le : SHeap) (lv : Value) (evs : List (Bts × Value)), SlO 179 33 lv entCells evs Le → evs ≠ [] → (∀ e ∈ evs, e.1.length = 32 ∧ oneCell e.2 = true) → evs.length < 1000000 → Ctr Tryz.prog 90 #[lv, .func (.func 91) #[] #[]] σ (Le ++ L) fun r σ' L' => r = .tuple #[] ∧ Sto.le σ σ' ∧ ∃ Le' evs', L' = Le' ++ L ∧ SlO 179 33 lv entCells evs' Le' ∧ evs'.Perm evs ∧ evs'.Pairwise fun a b => ¬ dcmp b.1 a.1 < 0
theorem permB (p q : Nat × Obj) (A T : SHeap) : (p :: q :: (A ++ T)).Perm (q :: (A ++ (p :: T))) := (List.Perm.swap q p _).trans ((List.perm_middle.symm).cons q)
theorem dropB {p q r : Nat × Obj} {A T : SHeap} : (q :: (A ++ T)).Sublist (q :: (A ++ (p :: r :: T))) := .cons_cons _ ((List.Sublist.refl _).append (.cons _ (.cons _ (List.Sublist.refl _))))
theorem dropB1 {p q : Nat × Obj} {A T : SHeap} : (q :: (A ++ T)).Sublist (q :: (A ++ (p :: T))) := .cons_cons _ ((List.Sublist.refl _).append (.cons _ (List.Sublist.refl _)))
theorem Sto.le.bytes {σ σ' : Sto} {v : Value} {xs : Bts} (h : Sto.le σ σ') (hb : Bytes σ v xs) : Bytes σ' v xs := hb.up h
theorem all2_split {α β : Type} {R : α → β → Prop} {xs1 xs2 : List α} : ∀ {ys : List β}, All2 R (xs1 ++ xs2) ys → ∃ ys1 ys2, ys = ys1 ++ ys2 ∧ All2 R xs1 ys1 ∧ All2 R xs2 ys2 := by
  induction xs1 with
  | nil => intro ys h; exact ⟨[], ys, rfl, .nil, h⟩
  | cons x xs ih =>
    intro ys h
    cases h with
    | cons h hr =>
      obtain ⟨y1, y2, rfl, h1, h2⟩ := ih hr
      exact ⟨_ :: y1, y2, rfl, .cons h h1, h2⟩
theorem all2_perm {α β : Type} {R : α → β → Prop} {xs zs : List α} {ys : List β} (h : All2 R xs ys) (hp : zs.Perm xs) : ∃ ws, All2 R zs ws ∧ ws.Perm ys := by
  induction hp generalizing ys with
  | nil => cases h; exact ⟨[], .nil, .nil⟩
  | cons x _ ih =>
    cases h with
    | cons h hr =>
      obtain ⟨ws, h1, h2⟩ := ih hr
      exact ⟨_ :: ws, .cons h h1, h2.cons _⟩
  | swap x y l =>
    cases h with
    | cons h1 hr =>
      cases hr with
      | cons h2 hr => exact ⟨_ :: _ :: _, .cons h2 (.cons h1 hr), List.Perm.swap _ _ _⟩
  | trans _ _ ih1 ih2 =>
    obtain ⟨ws, h1, h2⟩ := ih2 h
    obtain ⟨us, h3, h4⟩ := ih1 h1
    exact ⟨us, h3, h4.trans h2⟩
theorem all2_pair {α β : Type} {R : α → β → Prop} {S : α → α → Prop} {S' : β → β → Prop} {xs : List α} {ys : List β} (h : All2 R xs ys) (hp : xs.Pairwise S) (hs : ∀ a b x y, R a x → R b y → S a b → S' x y) : ys.Pairwise S' := by
  induction h with
  | nil => exact .nil
  | @cons x y xs ys hxy hr ih =>
    rw [List.pairwise_cons] at hp ⊢
    refine ⟨fun w hw => ?_, ih hp.2⟩
    obtain ⟨i, hi, rfl⟩ := List.mem_iff_getElem.1 hw
    have hi2 : i < xs.length := by rw [hr.len]; exact hi
    exact hs _ _ _ _ hxy (hr.get i hi hi2) (hp.1 _ (List.getElem_mem hi2))
set_option maxHeartbeats 2000000 in
theorem c48 {σ : Sto} {L : SHeap} (hsrt : Sort90) {T : TypeId} {fr : Nat × Nat} (hK : σ 1 = some (.cells (ucells K256).toArray T fr)) {sv : SV} {st : LSt} (h : StR σ [] sv st) (hb : st.le 10000) : Ctr Tryz.prog 48 #[.agg (stCells sv).toArray] σ L fun v σ' L' => ∃ l, EntsR σ' v l ∧ MapOf st l ∧ L' = L := by
  refine ctr_enter Tryz.func48 rfl Tryz.ntmps48 (by simp) ?_
  refine go_seq ?_
  refine go_region ?_
  refine snb rfl (n_box rfl (.agg (l := stCells sv))) ?_
  intro b1
  refine sq rfl (q_assign rfl) ?_
  refine gol_nil ?_
  refine go_seq ?_
  refine go_region ?_
  refine snb rfl (n_alloc Tryz.zeroValue129 (.one rfl)) ?_
  intro bl
  refine gol_nil ?_
  refine go_seq ?_
  refine go_region ?_
  refine sq rfl (q_makeFuncC (xs := []) (vs := []) rfl rfl) ?_
  refine sq rfl (q_assign rfl) ?_
  refine gol_nil ?_
  refine go_seq ?_
  refine go_seq ?_
  obtain ⟨qa, ca, hqa⟩ := h.acc.val
  obtain ⟨qk, ck, hqk⟩ := h.locks.val
  obtain ⟨qd, cd, hqd⟩ := h.cons.val
  obtain ⟨rvs, hrr, hra⟩ := h.recs
  obtain ⟨qr, cr, hqr⟩ := hrr.val
  obtain ⟨qm, cm, hqm⟩ := h.mems.val
  have hrl := hra.len
  have hb1 := hb.accs
  have hb2 := hb.locks
  have hb3 := hb.cons
  have hb4 := hb.recs
  have hb5 := hb.mems
  refine go_region ?_
  refine sq rfl (q_fieldAddr (off := 1) (o' := 1) rfl Tryz.runUnderlying51 rfl Tryz.sizeOf46 rfl rfl) ?_
  refine sq rfl (q_load (cs := stCells sv) rfl Tryz.isAgg46 (.tl .hd) (.s .z)) ?_
  rw [hqa]
  refine sq rfl (q_len rfl Tryz.runUnderlying46) ?_
  refine sq rfl (q_move rfl) ?_
  refine gol_nil ?_
  refine go_block ?_
  refine go_loop (X := Nat × Sto × Value × List (Bts × Value) × SHeap) (fun x => x.1 ≤ st.accs.length ∧ Sto.le σ x.2.1 ∧ SlO 179 33 x.2.2.1 entCells x.2.2.2.1 x.2.2.2.2 ∧ All2 (EntR x.2.1) x.2.2.2.1 ((st.accs.take x.1).map accEnt)) (fun x => [(1, .pointer (some ⟨b1, 0, none⟩)), (3, .pointer (some ⟨bl, 0, none⟩)), (4, .func (.func 85) #[] #[.pointer (some ⟨bl, 0, none⟩)]), (18, .slice qa st.accs.length ca), (19, iv (st.accs.length : Nat)), (20, iv (x.1 : Nat))]) (fun x => x.2.1) (fun x => (bl, .cells [x.2.2.1].toArray 129 (0, 0)) :: (x.2.2.2.2 ++ ((b1, .cells (stCells sv).toArray 51 (0, 0)) :: L))) (fun x => st.accs.length - x.1) (0, σ, nilS, [], []) ⟨Nat.zero_le _, Sto.le_refl _, ⟨.nil, fun _ h => nomatch h⟩, .nil⟩ ⟨rfl, rfl, rfl, rfl, rfl, rfl, trivial⟩ rfl rfl ?_
  rintro ⟨i, σ1, lv, evs, Le⟩ ⟨hi, hle1, ho, hall⟩ next
  simp only at hi hle1 ho hall next ⊢
  have hel := hall.len
  refine go_seq ?_
  refine go_region ?_
  refine sq rfl (q_lss (a := (i : Int)) (b := (st.accs.length : Int)) rfl rfl) ?_
  refine gol_nil ?_
  refine go_seq ?_
  refine go_cond rfl rfl (fun hc0 => ?_) (fun hc0 => ?_)
  ·
    have hlt : i < st.accs.length := by have := of_decide_eq_true hc0; omega
    have hcs : Cells σ [] (.slice qa st.accs.length ca) st.accs.length 3 (st.accs.flatMap accCells) := by have := h.acc; rw [hqa] at this; exact this.cells.2.2
    have hal := h.acc.len
    obtain ⟨b9, o9, ds9, T9, fr9, hq9, hkn9, hpt9⟩ := (hcs).get (by intro e; have := (hcs).1; rw [e] at this; simp at this; omega)
    subst hq9
    have h9 : Part ds9.toList (o9 + i * 3) 3 (accCells st.accs[i]) := by have := cells_part hpt9 hlt; rwa [flat_at hal hlt] at this
    have hu9 : Kn σ1 ((b1, .cells (stCells sv).toArray 51 (0, 0)) :: L) b9 (.cells ds9 T9 fr9) := (hkn9.up hle1).imp id (fun h => nomatch h)
    refine go_skip ?_
    refine go_seq ?_
    refine go_block ?_
    refine go_seq ?_
    refine go_region ?_
    refine sq rfl (q_indexAddr (j := i) (o' := o9 + i * 3) rfl rfl Tryz.runUnderlying46 Tryz.sizeOf57 rfl hlt rfl) ?_
    refine sq rfl (q_loadA rfl Tryz.isAgg57 Tryz.sizeOf57 (.tl (Kn.app _ hu9)) h9) ?_
    refine snb rfl (n_alloc zero57 .agg) ?_
    intro b6
    refine sst rfl (n_storeA rfl rfl (vs := accCells st.accs[i]) rfl Tryz.sizeOf57 rfl .hd (PutAt.all rfl)) ?_
    refine gol_perm _ (permB _ _ _ _) ?_
    refine gol_nil ?_
    refine go_draws (n := 106) [(b6, .cells (accCells st.accs[i]).toArray 57 (0, 0))] mix rfl (by decide +kernel) (keep1 (by simp)) ?_
    refine dq 0 rfl rfl rfl rfl (q_move rfl) ?_
    refine dq 1 rfl rfl rfl rfl (q_fieldAddr (off := 0) (o' := 0) rfl Tryz.runUnderlying57 rfl Tryz.sizeOf31 rfl rfl) ?_
    refine dq 2 rfl rfl rfl rfl (q_load (cs := accCells st.accs[i]) (v := w6 st.accs[i].name) rfl Tryz.isAgg31 .hd .z) ?_
    refine dq 4 rfl rfl rfl rfl (q_fieldAddr (off := 1) (o' := 1) rfl Tryz.runUnderlying57 rfl Tryz.sizeOf31 rfl rfl) ?_
    refine dq 5 rfl rfl rfl rfl (q_load (cs := accCells st.accs[i]) (v := w6 st.accs[i].bal) rfl Tryz.isAgg31 .hd (.s .z)) ?_
    refine dq 7 rfl rfl rfl rfl (q_fieldAddr (off := 2) (o' := 2) rfl Tryz.runUnderlying57 rfl Tryz.sizeOf31 rfl rfl) ?_
    refine dq 8 rfl rfl rfl rfl (q_load (cs := accCells st.accs[i]) (v := w6 st.accs[i].nonce) rfl Tryz.isAgg31 .hd (.s (.s .z))) ?_
    refine dn 3 rfl rfl rfl rfl (by decide +kernel) (n_call rfl Tryz.call86 (c86 (Sto.le.get hle1 hK))) (fun _ _ _ _ h => by rw [h.2]; exact keep1 (by simp)) ?_
    rintro _ σ2 _ hle2 ⟨rfl, rfl⟩
    refine dn 6 rfl rfl rfl rfl (by decide +kernel) (n_call rfl Tryz.call50 c50) (fun _ _ _ _ h => by rw [h.2]; exact keep1 (by simp)) ?_
    rintro v3 σ3 _ hle3 ⟨hb3, rfl⟩
    refine dn 9 rfl rfl rfl rfl (by decide +kernel) (n_call rfl Tryz.call50 c50) (fun _ _ _ _ h => by rw [h.2]; exact keep1 (by simp)) ?_
    rintro v4 σ4 _ hle4 ⟨hb4, rfl⟩
    refine dns 10 rfl rfl rfl rfl (by decide +kernel) (n_buildSlice (sz := 1) (.cons rfl (.one (by first | rfl | exact Bytes.one (by assumption))) rfl (.cons rfl (.one (by first | rfl | exact Bytes.one (by assumption))) rfl .nil)) rfl Tryz.runUnderlying187 Tryz.sizeOf22 Tryz.zeroValue22 rfl rfl) (keep1 (by simp)) ?_
    intro bp
    refine dn 11 rfl rfl rfl rfl (by decide +kernel) (n_call rfl Tryz.call51 (c51 (Parts.new (ps := [be64 st.accs[i].bal, be64 st.accs[i].nonce]) .hd (.cons (hb3.up hle4) (.cons hb4 .nil)) rfl) (by show (24 + 16 : Nat) < _; decide))) (fun _ _ _ _ h => by rw [h.2]; exact keep1 (by simp)) ?_
    rintro v5 σ5 _ hle5 ⟨hb5, rfl⟩
    refine goc_perm _ (permB _ _ _ _) ?_
    refine dn 12 rfl rfl rfl rfl (by decide +kernel) (n_callV (fst := []) (cap := [.pointer (some ⟨bl, 0, none⟩)]) rfl rfl rfl Tryz.call85 (c85 (k := accountKey st.accs[i].name) (v := v5) ho (shaOf_len _) hb5.one (by simp only [List.length_map, List.length_take] at hel; omega))) (by rintro _ _ _ _ ⟨_, _, _, _, rfl, _⟩; exact keep1 (by simp)) ?_
    rintro _ σ5 _ - ⟨rfl, rfl, lv', Le', rfl, ho'⟩
    refine dend rfl ?_
    refine go_inBlock ?_
    refine go_region ?_
    refine sq rfl (q_add (a := (i : Int)) (b := 1) (c := ((i + 1 : Nat) : Int)) rfl rfl (i64_in (by omega) (by omega))) ?_
    refine sq rfl (q_move rfl) ?_
    refine gol_nil ?_
    refine go_drop _ dropB (go_next (next (i + 1, σ5, lv', evs ++ [(accountKey st.accs[i].name, v5)], Le') ⟨hlt, (by repeat (first | exact Sto.le_refl _ | assumption | refine Sto.le_trans ?_ (by assumption))), ho', ?_⟩ (by simp only; omega)) ⟨rfl, rfl, rfl, rfl, rfl, rfl, trivial⟩)
    simp only
    rw [List.take_succ_eq_append_getElem hlt, List.map_append]
    exact all2_snoc (hall.mono fun _ _ h => h.up (by repeat (first | exact Sto.le_refl _ | assumption | refine Sto.le_trans ?_ (by assumption)))) ⟨rfl, hb5⟩
  ·
    have he : i = st.accs.length := by have := of_decide_eq_false hc0; omega
    subst he
    rw [List.take_length] at hall
    refine go_exit rfl ?_
    refine go_seq ?_
    refine go_seq ?_
    refine go_region ?_
    refine sq rfl (q_fieldAddr (off := 2) (o' := 2) rfl Tryz.runUnderlying51 rfl Tryz.sizeOf47 rfl rfl) ?_
    refine sq rfl (q_load (cs := stCells sv) rfl Tryz.isAgg47 (.tl (Kn.app _ .hd)) (.s (.s .z))) ?_
    rw [hqk]
    refine sq rfl (q_len rfl Tryz.runUnderlying47) ?_
    refine sq rfl (q_move rfl) ?_
    refine gol_nil ?_
    refine go_block ?_
    refine go_loop (X := Nat × Sto × Value × List (Bts × Value) × SHeap) (fun x => x.1 ≤ st.locks.length ∧ Sto.le σ x.2.1 ∧ SlO 179 33 x.2.2.1 entCells x.2.2.2.1 x.2.2.2.2 ∧ All2 (EntR x.2.1) x.2.2.2.1 (st.accs.map accEnt ++ (st.locks.take x.1).map lckEnt)) (fun x => [(1, .pointer (some ⟨b1, 0, none⟩)), (3, .pointer (some ⟨bl, 0, none⟩)), (4, .func (.func 85) #[] #[.pointer (some ⟨bl, 0, none⟩)]), (39, .slice qk st.locks.length ck), (40, iv (st.locks.length : Nat)), (41, iv (x.1 : Nat))]) (fun x => x.2.1) (fun x => (bl, .cells [x.2.2.1].toArray 129 (0, 0)) :: (x.2.2.2.2 ++ ((b1, .cells (stCells sv).toArray 51 (0, 0)) :: L))) (fun x => st.locks.length - x.1) (0, σ1, lv, evs, Le) ⟨Nat.zero_le _, hle1, ho, by simp only; rw [List.take_zero, List.map_nil, List.append_nil]; exact hall⟩ ⟨rfl, rfl, rfl, rfl, rfl, rfl, trivial⟩ rfl rfl ?_
    clear hel next hall
    clear ho hi
    rintro ⟨i, σ6, lv, evs, Le⟩ ⟨hi, hle6, ho, hall⟩ next
    simp only at hi hle6 ho hall next ⊢
    have hel := hall.len
    refine go_seq ?_
    refine go_region ?_
    refine sq rfl (q_lss (a := (i : Int)) (b := (st.locks.length : Int)) rfl rfl) ?_
    refine gol_nil ?_
    refine go_seq ?_
    refine go_cond rfl rfl (fun hc1 => ?_) (fun hc1 => ?_)
    ·
      have hlt : i < st.locks.length := by have := of_decide_eq_true hc1; omega
      have hcs : Cells σ [] (.slice qk st.locks.length ck) st.locks.length 38 (st.locks.flatMap lockCells) := by have := h.locks; rw [hqk] at this; exact this.cells.2.2
      have hal := h.locks.len
      have hxl : st.locks[i].id.length = 32 := by have := hal _ (List.getElem_mem hlt); simp [lockCells, bcells] at this; omega
      obtain ⟨b9, o9, ds9, T9, fr9, hq9, hkn9, hpt9⟩ := (hcs).get (by intro e; have := (hcs).1; rw [e] at this; simp at this; omega)
      subst hq9
      have h9 : Part ds9.toList (o9 + i * 38) 38 (lockCells st.locks[i]) := by have := cells_part hpt9 hlt; rwa [flat_at hal hlt] at this
      have hu9 : Kn σ6 ((b1, .cells (stCells sv).toArray 51 (0, 0)) :: L) b9 (.cells ds9 T9 fr9) := (hkn9.up hle6).imp id (fun h => nomatch h)
      refine go_skip ?_
      refine go_seq ?_
      refine go_block ?_
      refine go_seq ?_
      refine go_region ?_
      refine sq rfl (q_indexAddr (j := i) (o' := o9 + i * 38) rfl rfl Tryz.runUnderlying47 Tryz.sizeOf60 rfl hlt rfl) ?_
      refine sq rfl (q_loadA rfl Tryz.isAgg60 Tryz.sizeOf60 (.tl (Kn.app _ hu9)) h9) ?_
      refine snb rfl (n_alloc zero60 .agg) ?_
      intro b6
      refine sst rfl (n_storeA rfl rfl (vs := lockCells st.locks[i]) (lock_one _) Tryz.sizeOf60 (lk_len hxl) .hd (PutAt.all (by rw [lk_len hxl]; rfl))) ?_
      refine gol_perm _ (permB _ _ _ _) ?_
      refine gol_nil ?_
      refine go_draws (n := 106) [(b6, .cells (lockCells st.locks[i]).toArray 60 (0, 0))] mix rfl (by decide +kernel) (keep1 (by simp)) ?_
      refine dq 0 rfl rfl rfl rfl (q_move rfl) ?_
      refine dq 1 rfl rfl rfl rfl (q_fieldAddr (off := 0) (o' := 0) rfl Tryz.runUnderlying60 rfl Tryz.sizeOf27 rfl rfl) ?_
      refine dq 2 rfl rfl rfl rfl (q_loadA (vs := bcells st.locks[i].id) rfl Tryz.isAgg27 Tryz.sizeOf27 .hd (lockCells_head _ ▸ Part.mk (a := []) rfl (by rw [bcells_len, hxl]))) ?_
      refine dq 4 rfl rfl rfl rfl (q_loadA (vs := lockCells st.locks[i]) rfl Tryz.isAgg60 Tryz.sizeOf60 .hd (Part.all (lk_len hxl))) ?_
      refine dn 3 rfl rfl rfl rfl (by decide +kernel) (n_call rfl Tryz.call87 (c87 hxl (Sto.le.get hle6 hK))) (fun _ _ _ _ h => by rw [h.2]; exact keep1 (by simp)) ?_
      rintro _ σ2 _ hle2 ⟨rfl, rfl⟩
      refine dn 5 rfl rfl rfl rfl (by decide +kernel) (n_call rfl Tryz.call88 (c88 hxl)) (fun _ _ _ _ h => by rw [h.2]; exact keep1 (by simp)) ?_
      rintro v5 σ5 _ hle5 ⟨hb5, rfl⟩
      refine dn 6 rfl rfl rfl rfl (by decide +kernel) (n_callV (fst := []) (cap := [.pointer (some ⟨bl, 0, none⟩)]) rfl rfl rfl Tryz.call85 (c85 (k := lockKey st.locks[i].id) (v := v5) ho (shaOf_len _) hb5.one (by simp only [List.length_append, List.length_map, List.length_take] at hel; omega))) (by rintro _ _ _ _ ⟨_, _, _, _, rfl, _⟩; exact keep1 (by simp)) ?_
      rintro _ σ5 _ - ⟨rfl, rfl, lv', Le', rfl, ho'⟩
      refine dend rfl ?_
      refine go_inBlock ?_
      refine go_region ?_
      refine sq rfl (q_add (a := (i : Int)) (b := 1) (c := ((i + 1 : Nat) : Int)) rfl rfl (i64_in (by omega) (by omega))) ?_
      refine sq rfl (q_move rfl) ?_
      refine gol_nil ?_
      refine go_drop _ dropB1 (go_next (next (i + 1, σ5, lv', evs ++ [(lockKey st.locks[i].id, v5)], Le') ⟨hlt, (by repeat (first | exact Sto.le_refl _ | assumption | refine Sto.le_trans ?_ (by assumption))), ho', ?_⟩ (by simp only; omega)) ⟨rfl, rfl, rfl, rfl, rfl, rfl, trivial⟩)
      simp only
      rw [List.take_succ_eq_append_getElem hlt, List.map_append, ← List.append_assoc]
      exact all2_snoc (hall.mono fun _ _ h => h.up (by repeat (first | exact Sto.le_refl _ | assumption | refine Sto.le_trans ?_ (by assumption)))) ⟨rfl, hb5⟩
    ·
      have he : i = st.locks.length := by have := of_decide_eq_false hc1; omega
      subst he
      rw [List.take_length] at hall
      refine go_exit rfl ?_
      refine go_seq ?_
      refine go_seq ?_
      refine go_region ?_
      refine sq rfl (q_fieldAddr (off := 3) (o' := 3) rfl Tryz.runUnderlying51 rfl Tryz.sizeOf48 rfl rfl) ?_
      refine sq rfl (q_load (cs := stCells sv) rfl Tryz.isAgg48 (.tl (Kn.app _ .hd)) (.s (.s (.s .z)))) ?_
      rw [hqd]
      refine sq rfl (q_len rfl Tryz.runUnderlying48) ?_
      refine sq rfl (q_move rfl) ?_
      refine gol_nil ?_
      refine go_block ?_
      refine go_loop (X := Nat × Sto × Value × List (Bts × Value) × SHeap) (fun x => x.1 ≤ st.cons.length ∧ Sto.le σ x.2.1 ∧ SlO 179 33 x.2.2.1 entCells x.2.2.2.1 x.2.2.2.2 ∧ All2 (EntR x.2.1) x.2.2.2.1 ((st.accs.map accEnt ++ st.locks.map lckEnt) ++ (st.cons.take x.1).map conEnt)) (fun x => [(1, .pointer (some ⟨b1, 0, none⟩)), (3, .pointer (some ⟨bl, 0, none⟩)), (4, .func (.func 85) #[] #[.pointer (some ⟨bl, 0, none⟩)]), (54, .slice qd st.cons.length cd), (55, iv (st.cons.length : Nat)), (56, iv (x.1 : Nat))]) (fun x => x.2.1) (fun x => (bl, .cells [x.2.2.1].toArray 129 (0, 0)) :: (x.2.2.2.2 ++ ((b1, .cells (stCells sv).toArray 51 (0, 0)) :: L))) (fun x => st.cons.length - x.1) (0, σ6, lv, evs, Le) ⟨Nat.zero_le _, hle6, ho, by simp only; rw [List.take_zero, List.map_nil, List.append_nil]; exact hall⟩ ⟨rfl, rfl, rfl, rfl, rfl, rfl, trivial⟩ rfl rfl ?_
      clear hel next hall
      clear ho hi
      rintro ⟨i, σ7, lv, evs, Le⟩ ⟨hi, hle7, ho, hall⟩ next
      simp only at hi hle7 ho hall next ⊢
      have hel := hall.len
      refine go_seq ?_
      refine go_region ?_
      refine sq rfl (q_lss (a := (i : Int)) (b := (st.cons.length : Int)) rfl rfl) ?_
      refine gol_nil ?_
      refine go_seq ?_
      refine go_cond rfl rfl (fun hc2 => ?_) (fun hc2 => ?_)
      ·
        have hlt : i < st.cons.length := by have := of_decide_eq_true hc2; omega
        have hcs : Cells σ [] (.slice qd st.cons.length cd) st.cons.length 32 (st.cons.flatMap bcells) := by have := h.cons; rw [hqd] at this; exact this.cells.2.2
        have hal := h.cons.len
        have hxl : st.cons[i].length = 32 := by have := hal _ (List.getElem_mem hlt); rwa [bcells_len] at this
        obtain ⟨b9, o9, ds9, T9, fr9, hq9, hkn9, hpt9⟩ := (hcs).get (by intro e; have := (hcs).1; rw [e] at this; simp at this; omega)
        subst hq9
        have h9 : Part ds9.toList (o9 + i * 32) 32 (bcells st.cons[i]) := by have := cells_part hpt9 hlt; rwa [flat_at hal hlt] at this
        have hu9 : Kn σ7 ((b1, .cells (stCells sv).toArray 51 (0, 0)) :: L) b9 (.cells ds9 T9 fr9) := (hkn9.up hle7).imp id (fun h => nomatch h)
        refine go_skip ?_
        refine go_seq ?_
        refine go_block ?_
        refine go_seq ?_
        refine go_region ?_
        refine sq rfl (q_indexAddr (j := i) (o' := o9 + i * 32) rfl rfl Tryz.runUnderlying48 Tryz.sizeOf27 rfl hlt rfl) ?_
        refine sq rfl (q_loadA rfl Tryz.isAgg27 Tryz.sizeOf27 (.tl (Kn.app _ hu9)) h9) ?_
        refine snb rfl (n_alloc zero27z .agg) ?_
        intro b6
        refine sst rfl (n_storeA rfl rfl (vs := bcells st.cons[i]) (bcells_one _) Tryz.sizeOf27 (by rw [bcells_len, hxl]) .hd (PutAt.all (by rw [bcells_len, bcells_len, hxl]; rfl))) ?_
        refine gol_perm _ (permB _ _ _ _) ?_
        refine gol_nil ?_
        refine go_region ?_
        refine sq rfl (q_move rfl) ?_
        refine sq rfl (q_loadA (vs := bcells st.cons[i]) rfl Tryz.isAgg27 Tryz.sizeOf27 (.tl (Kn.app _ .hd)) (Part.all (by rw [bcells_len, hxl]))) ?_
        refine sn rfl (n_call rfl Tryz.call89 (c89 hxl (Sto.le.get hle7 hK))) ?_
        rintro _ σ2 _ hle2 ⟨rfl, rfl⟩
        refine sns rfl (n_buildSlice (sz := 1) (l' := bcells [1]) (.cons rfl (.one rfl) rfl .nil) rfl Tryz.runUnderlying22 Tryz.sizeOf5 Tryz.zeroValue5 rfl rfl) ?_
        intro bp
        refine gol_frz (fun σ5 hle5 hbp => ?_)
        have hb5 : Bytes σ5 (.slice (some ⟨bp, 0, none⟩) 1 1) [1] := Bytes.blk hbp rfl (Nat.le_refl _)
        refine sn rfl (n_callV (fst := []) (cap := [.pointer (some ⟨bl, 0, none⟩)]) rfl rfl rfl Tryz.call85 (c85 (k := consumedKey st.cons[i]) (v := .slice (some ⟨bp, 0, none⟩) 1 1) ho (shaOf_len _) rfl (by simp only [List.length_append, List.length_map, List.length_take] at hel; omega))) ?_
        rintro _ σ5 _ - ⟨rfl, rfl, lv', Le', rfl, ho'⟩
        refine gol_nil ?_
        refine go_inBlock ?_
        refine go_region ?_
        refine sq rfl (q_add (a := (i : Int)) (b := 1) (c := ((i + 1 : Nat) : Int)) rfl rfl (i64_in (by omega) (by omega))) ?_
        refine sq rfl (q_move rfl) ?_
        refine gol_nil ?_
        refine go_drop _ dropB1 (go_next (next (i + 1, σ5, lv', evs ++ [(consumedKey st.cons[i], .slice (some ⟨bp, 0, none⟩) 1 1)], Le') ⟨hlt, (by repeat (first | exact Sto.le_refl _ | assumption | refine Sto.le_trans ?_ (by assumption))), ho', ?_⟩ (by simp only; omega)) ⟨rfl, rfl, rfl, rfl, rfl, rfl, trivial⟩)
        simp only
        rw [List.take_succ_eq_append_getElem hlt, List.map_append, ← List.append_assoc]
        exact all2_snoc (hall.mono fun _ _ h => h.up (by repeat (first | exact Sto.le_refl _ | assumption | refine Sto.le_trans ?_ (by assumption)))) ⟨rfl, hb5⟩
      ·
        have he : i = st.cons.length := by have := of_decide_eq_false hc2; omega
        subst he
        rw [List.take_length] at hall
        refine go_exit rfl ?_
        refine go_seq ?_
        refine go_seq ?_
        refine go_region ?_
        refine sq rfl (q_fieldAddr (off := 4) (o' := 4) rfl Tryz.runUnderlying51 rfl Tryz.sizeOf49 rfl rfl) ?_
        refine sq rfl (q_load (cs := stCells sv) rfl Tryz.isAgg49 (.tl (Kn.app _ .hd)) (.s (.s (.s (.s .z))))) ?_
        rw [hqr]
        refine sq rfl (q_len rfl Tryz.runUnderlying49) ?_
        refine sq rfl (q_move rfl) ?_
        refine gol_nil ?_
        refine go_block ?_
        refine go_loop (X := Nat × Sto × Value × List (Bts × Value) × SHeap) (fun x => x.1 ≤ st.recs.length ∧ Sto.le σ x.2.1 ∧ SlO 179 33 x.2.2.1 entCells x.2.2.2.1 x.2.2.2.2 ∧ All2 (EntR x.2.1) x.2.2.2.1 (((st.accs.map accEnt ++ st.locks.map lckEnt) ++ st.cons.map conEnt) ++ (st.recs.take x.1).map recEnt)) (fun x => [(1, .pointer (some ⟨b1, 0, none⟩)), (3, .pointer (some ⟨bl, 0, none⟩)), (4, .func (.func 85) #[] #[.pointer (some ⟨bl, 0, none⟩)]), (67, .slice qr rvs.length cr), (68, iv (rvs.length : Nat)), (69, iv (x.1 : Nat))]) (fun x => x.2.1) (fun x => (bl, .cells [x.2.2.1].toArray 129 (0, 0)) :: (x.2.2.2.2 ++ ((b1, .cells (stCells sv).toArray 51 (0, 0)) :: L))) (fun x => st.recs.length - x.1) (0, σ7, lv, evs, Le) ⟨Nat.zero_le _, hle7, ho, by simp only; rw [List.take_zero, List.map_nil, List.append_nil]; exact hall⟩ ⟨rfl, rfl, rfl, rfl, rfl, rfl, trivial⟩ rfl rfl ?_
        clear hel next hall
        clear ho hi
        rintro ⟨i, σ8, lv, evs, Le⟩ ⟨hi, hle8, ho, hall⟩ next
        simp only at hi hle8 ho hall next ⊢
        have hel := hall.len
        refine go_seq ?_
        refine go_region ?_
        refine sq rfl (q_lss (a := (i : Int)) (b := (rvs.length : Int)) rfl rfl) ?_
        refine gol_nil ?_
        refine go_seq ?_
        refine go_cond rfl rfl (fun hc3 => ?_) (fun hc3 => ?_)
        ·
          have hlt : i < st.recs.length := by have := of_decide_eq_true hc3; omega
          have hlr : i < rvs.length := by omega
          have hcs : Cells σ [] (.slice qr rvs.length cr) rvs.length 3 (rvs.flatMap recCells) := by have := hrr; rw [hqr] at this; exact this.cells.2.2
          have hri := hra.get i hlt hlr
          have hxm := List.getElem_mem hlt
          obtain ⟨b9, o9, ds9, T9, fr9, hq9, hkn9, hpt9⟩ := (hcs).get (by intro e; have := (hcs).1; rw [e] at this; simp at this; omega)
          subst hq9
          have h9 : Part ds9.toList (o9 + i * 3) 3 (recCells rvs[i]) := by have := cells_part hpt9 hlr; rwa [flat_at hrr.len hlr] at this
          have hu9 : Kn σ8 ((b1, .cells (stCells sv).toArray 51 (0, 0)) :: L) b9 (.cells ds9 T9 fr9) := (hkn9.up hle8).imp id (fun h => nomatch h)
          have hrone : (recCells rvs[i]).all oneCell = true := by obtain ⟨_, h2, _⟩ := hri.seats; simp [recCells, hri.mems.one, h2.one]; rfl
          refine go_skip ?_
          refine go_seq ?_
          refine go_block ?_
          refine go_seq ?_
          refine go_region ?_
          refine sq rfl (q_indexAddr (j := i) (o' := o9 + i * 3) rfl rfl Tryz.runUnderlying49 Tryz.sizeOf75 rfl hlr rfl) ?_
          refine sq rfl (q_loadA rfl Tryz.isAgg75 Tryz.sizeOf75 (.tl (Kn.app _ hu9)) h9) ?_
          refine snb rfl (n_alloc Tryz.zeroValue75 .agg) ?_
          intro b6
          refine sst rfl (n_storeA rfl rfl (vs := recCells rvs[i]) hrone Tryz.sizeOf75 rfl .hd (PutAt.all rfl)) ?_
          refine gol_perm _ (permB _ _ _ _) ?_
          refine gol_nil ?_
          refine go_draws (n := 106) [(b6, .cells (recCells rvs[i]).toArray 75 (0, 0))] mix rfl (by decide +kernel) (keep1 (by simp)) ?_
          refine dq 0 rfl rfl rfl rfl (q_move rfl) ?_
          refine dq 1 rfl rfl rfl rfl (q_fieldAddr (off := 0) (o' := 0) rfl Tryz.runUnderlying75 rfl Tryz.sizeOf3 rfl rfl) ?_
          refine dq 2 rfl rfl rfl rfl (q_load (cs := recCells rvs[i]) (v := iv rvs[i].epoch) rfl Tryz.isAgg3 .hd .z) ?_
          refine dq 4 rfl rfl rfl rfl (q_loadA (vs := recCells rvs[i]) rfl Tryz.isAgg75 Tryz.sizeOf75 .hd (Part.all rfl)) ?_
          refine dn 3 rfl rfl rfl rfl (by decide +kernel) (n_call rfl Tryz.call24 (c24 (Sto.le.get hle8 hK))) (fun _ _ _ _ h => by rw [h.2]; exact keep1 (by simp)) ?_
          rintro _ σ2 _ hle2 ⟨rfl, rfl⟩
          refine dn 5 rfl rfl rfl rfl (by decide +kernel) (n_call rfl Tryz.call25 (c25 ((hri.up hle8).up hle2) (hb.rm _ hxm) (hb.rs _ hxm) (hb.rk _ hxm))) (fun _ _ _ _ h => by rw [h.2]; exact keep1 (by simp)) ?_
          rintro v5 σ5 _ hle5 ⟨hb5, rfl⟩
          refine dn 6 rfl rfl rfl rfl (by decide +kernel) (n_callV (fst := []) (cap := [.pointer (some ⟨bl, 0, none⟩)]) rfl rfl rfl Tryz.call85 (c85 (k := recordKey rvs[i].epoch) (v := v5) ho (shaOf_len _) hb5.one (by simp only [List.length_append, List.length_map, List.length_take] at hel; omega))) (by rintro _ _ _ _ ⟨_, _, _, _, rfl, _⟩; exact keep1 (by simp)) ?_
          rintro _ σ5 _ - ⟨rfl, rfl, lv', Le', rfl, ho'⟩
          refine dend rfl ?_
          refine go_inBlock ?_
          refine go_region ?_
          refine sq rfl (q_add (a := (i : Int)) (b := 1) (c := ((i + 1 : Nat) : Int)) rfl rfl (i64_in (by omega) (by omega))) ?_
          refine sq rfl (q_move rfl) ?_
          refine gol_nil ?_
          refine go_drop _ dropB1 (go_next (next (i + 1, σ5, lv', evs ++ [(recordKey rvs[i].epoch, v5)], Le') ⟨hlt, (by repeat (first | exact Sto.le_refl _ | assumption | refine Sto.le_trans ?_ (by assumption))), ho', ?_⟩ (by simp only; omega)) ⟨rfl, rfl, rfl, rfl, rfl, rfl, trivial⟩)
          simp only
          rw [List.take_succ_eq_append_getElem hlt, List.map_append, ← List.append_assoc]
          exact all2_snoc (hall.mono fun _ _ h => h.up (by repeat (first | exact Sto.le_refl _ | assumption | refine Sto.le_trans ?_ (by assumption)))) ⟨by rw [hri.epoch]; rfl, hb5⟩
        ·
          have he : i = st.recs.length := by have := of_decide_eq_false hc3; omega
          subst he
          rw [List.take_length] at hall
          clear next
          refine go_exit rfl ?_
          refine go_seq ?_
          refine go_region ?_
          refine sq rfl (q_assign rfl) ?_
          refine gol_nil ?_
          refine go_seq ?_
          refine go_seq ?_
          refine go_region ?_
          refine sq rfl (q_fieldAddr (off := 5) (o' := 5) rfl Tryz.runUnderlying51 rfl Tryz.sizeOf24 rfl rfl) ?_
          refine sq rfl (q_load (cs := stCells sv) rfl Tryz.isAgg24 (.tl (Kn.app _ .hd)) (.s (.s (.s (.s (.s .z)))))) ?_
          rw [hqm]
          refine sq rfl (q_len rfl Tryz.runUnderlying24) ?_
          refine sq rfl (q_move rfl) ?_
          refine gol_nil ?_
          refine go_block ?_
          refine go_loop (X := Nat × Sto × Value × List Value × SHeap) (fun x => x.1 ≤ st.mems.length ∧ Sto.le σ8 x.2.1 ∧ Own 22 1 x.2.2.1 x.1 (x.2.2.2.1.flatMap vc) x.2.2.2.2 ∧ All2 (Bytes x.2.1) x.2.2.2.1 ((st.mems.take x.1).map numB)) (fun x => [(3, .pointer (some ⟨bl, 0, none⟩)), (4, .func (.func 85) #[] #[.pointer (some ⟨bl, 0, none⟩)]), (13, x.2.2.1), (82, .slice qm st.mems.length cm), (83, iv (st.mems.length : Nat)), (84, iv (x.1 : Nat))]) (fun x => x.2.1) (fun x => (bl, .cells [lv].toArray 129 (0, 0)) :: (Le ++ (x.2.2.2.2 ++ ((b1, .cells (stCells sv).toArray 51 (0, 0)) :: L)))) (fun x => st.mems.length - x.1) (0, σ8, nilS, [], []) ⟨Nat.zero_le _, Sto.le_refl _, .nil, .nil⟩ ⟨rfl, rfl, rfl, rfl, rfl, rfl, trivial⟩ rfl rfl ?_
          rintro ⟨j, σ9, mv, us, Lm⟩ ⟨hj, hle9, hom, hallm⟩ next
          simp only at hj hle9 hom hallm next ⊢
          have hum := hallm.len
          rw [List.length_map, List.length_take, Nat.min_eq_left hj] at hum
          refine go_seq ?_
          refine go_region ?_
          refine sq rfl (q_lss (a := (j : Int)) (b := (st.mems.length : Int)) rfl rfl) ?_
          refine gol_nil ?_
          refine go_seq ?_
          refine go_cond rfl rfl (fun hc4 => ?_) (fun hc4 => ?_)
          ·
            have hlt : j < st.mems.length := by have := of_decide_eq_true hc4; omega
            have hcs : Cells σ [] (.slice qm st.mems.length cm) st.mems.length 1 (st.mems.flatMap ic) := by have := h.mems; rw [hqm] at this; exact this.cells.2.2
            obtain ⟨b9, o9, ds9, T9, fr9, hq9, hkn9, hpt9⟩ := (hcs).get (by intro e; have := (hcs).1; rw [e] at this; simp at this; omega)
            subst hq9
            have hu9 : Kn σ9 ((b1, .cells (stCells sv).toArray 51 (0, 0)) :: L) b9 (.cells ds9 T9 fr9) := ((hkn9.up hle8).up hle9).imp id (fun h => nomatch h)
            refine go_skip ?_
            refine go_seq ?_
            refine go_block ?_
            refine go_seq ?_
            refine go_region ?_
            refine sq rfl (q_indexAddr (j := j) (o' := o9 + j) rfl rfl Tryz.runUnderlying24 Tryz.sizeOf3 rfl hlt (by omega)) ?_
            refine sq rfl (q_load (cs := ds9.toList) (v := iv st.mems[j]) rfl Tryz.isAgg3 (.tl (Kn.app _ (Kn.app _ hu9))) (hpt9.at (ic_at hlt))) ?_
            refine sq rfl (q_assign rfl) ?_
            refine gol_nil ?_
            refine go_region ?_
            refine sq rfl (q_move rfl) ?_
            refine sq rfl (q_move rfl) ?_
            refine sq rfl (q_conv (m := ((u64i st.mems[j]).toNat : Int)) rfl Tryz.runUnderlying3 Tryz.runUnderlying31 (conv_int_64 _)) ?_
            refine sn rfl (n_call rfl Tryz.call50 (c50 (x := u64i st.mems[j]))) ?_
            rintro vb σ2 _ hle2 ⟨hvb, rfl⟩
            refine sns rfl (n_buildSlice (sz := 1) (l := [vb]) (.cons rfl (.one hvb.one) rfl .nil) rfl Tryz.runUnderlying187 Tryz.sizeOf22 Tryz.zeroValue22 rfl rfl) ?_
            intro bv
            refine gol_perm _ (List.perm_append_comm_assoc (_ :: _ :: Le) Lm _) ?_
            refine sn rfl (n_append (n := j) (m := 1) (Lp := Lm) (L0 := _) (cs := us.flatMap vc) (new := [vb]) rfl rfl Tryz.runUnderlying187 Tryz.sizeOf22 Tryz.typeInfo22 rfl Tryz.zeroValue22 rfl Tryz.runUnderlying187 hom (Cells.new (n := 1) (sz := 1) (c := 1) (Kn.app Lm .hd) rfl) (by simp [hvb.one]) (by have := hb.mems; show (2 * (j + 1) + 1000) * 24 ≤ _; omega)) ?_
            rintro v5 σ2 _ - ⟨Lm', rfl, rfl, hom2⟩
            refine sq rfl (q_assign rfl) ?_
            refine gol_nil ?_
            refine go_inBlock ?_
            refine go_drop (Lm' ++ ((bl, .cells [lv].toArray 129 (0, 0)) :: (Le ++ ((b1, .cells (stCells sv).toArray 51 (0, 0)) :: L)))) ((List.Sublist.refl _).append (List.sublist_cons_self _ _)) ?_
            refine go_perm _ (List.perm_append_comm_assoc (_ :: Le) Lm' _).symm ?_
            refine go_region ?_
            refine sq rfl (q_add (a := (j : Int)) (b := 1) (c := ((j + 1 : Nat) : Int)) rfl rfl (i64_in (by omega) (by have := hb.mems; omega))) ?_
            refine sq rfl (q_move rfl) ?_
            refine gol_nil ?_
            refine go_next (next (j + 1, σ2, v5, us ++ [vb], Lm') ⟨hlt, Sto.le_trans hle9 hle2, ?_, ?_⟩ (by simp only; omega)) ⟨rfl, rfl, rfl, rfl, rfl, rfl, trivial⟩
            · simp only
              rw [List.flatMap_append]
              exact hom2
            · simp only
              rw [List.take_succ_eq_append_getElem hlt, List.map_append]
              exact all2_snoc (hallm.mono fun _ _ h => h.up hle2) hvb
          ·
            have he : j = st.mems.length := by have := of_decide_eq_false hc4; omega
            subst he
            rw [List.take_length] at hallm
            refine go_exit rfl ?_
            refine go_seq ?_
            refine go_region ?_
            refine sq rfl (q_move rfl) ?_
            refine sns rfl (n_buildSlice (sz := 1) (l' := bcells [109, 101, 109, 98, 101, 114, 115]) (.cons rfl (.one rfl) rfl (.cons rfl (.one rfl) rfl (.cons rfl (.one rfl) rfl (.cons rfl (.one rfl) rfl (.cons rfl (.one rfl) rfl (.cons rfl (.one rfl) rfl (.cons rfl (.one rfl) rfl .nil))))))) rfl Tryz.runUnderlying22 Tryz.sizeOf5 Tryz.zeroValue5 rfl rfl) ?_
            intro b10
            refine smark rfl rfl Tryz.runUnderlying22 Tryz.runUnderlying5 rfl ?_
            intro σm0 hlm0 hbm0
            refine sns rfl (n_buildSlice (sz := 1) (l := [_]) (.cons rfl (.one rfl) rfl .nil) rfl Tryz.runUnderlying187 Tryz.sizeOf22 Tryz.zeroValue22 rfl rfl) ?_
            intro bq
            refine sn rfl (n_call rfl Tryz.call49 (c49 (ps := [sMembers]) (Parts.new .hd (.cons hbm0 .nil) rfl) (by decide) (Sto.le.get hlm0 (hle9.get (hle8.get hK))))) ?_
            rintro _ σ3 _ hle3 ⟨rfl, rfl⟩
            refine sq rfl (q_move rfl) ?_
            refine sn rfl (n_call rfl Tryz.call51 (c51 (ps := st.mems.map numB) ((Parts.own (L := []) hom (by simp) (hallm.mono fun _ _ h => (h.up hlm0).up hle3)).more (fun _ _ h => .tail _ (.tail _ (List.mem_append_right _ (List.mem_append_left _ (by simpa using h)))))) (by have h1 := numsB_len st.mems; have h2 := hb.mems; unfold numsB at h1; omega))) ?_
            rintro v5 σ5 _ hle5 ⟨hb5, rfl⟩
            refine gol_perm _ (permB _ _ _ _) ?_
            refine sn rfl (n_callV (fst := []) (cap := [.pointer (some ⟨bl, 0, none⟩)]) rfl rfl rfl Tryz.call85 (c85 (k := membersKey) (v := v5) ho (shaOf_len _) hb5.one (by simp only [List.length_append, List.length_map, List.length_take] at hel; omega))) ?_
            rintro _ σ5 _ - ⟨rfl, rfl, lv', Le', rfl, ho'⟩
            refine gol_nil ?_
            refine go_seq ?_
            have hall2 : All2 (EntR σ5) (evs ++ [(membersKey, v5)]) (rawMap st) := by
              have := all2_snoc (hall.mono (R' := EntR σ5) fun _ _ h => h.up (by repeat (first | exact Sto.le_refl _ | assumption | refine Sto.le_trans ?_ (by assumption)))) (show EntR σ5 (membersKey, v5) (memEnt st.mems) from ⟨rfl, hb5⟩)
              simpa [rawMap] using this
            have hel2 := hall2.len
            have hne2 : evs ++ [(membersKey, v5)] ≠ [] := by simp
            generalize evs ++ [(membersKey, v5)] = es2 at ho' hall2 hel2 hne2
            have hgood : ∀ e ∈ es2, e.1.length = 32 ∧ oneCell e.2 = true := fun e he => by
              obtain ⟨y, _, hy⟩ := all2_mem hall2 he
              have h33 := ho'.len e he
              simp [entCells, bcells_len] at h33
              exact ⟨h33, hy.2.one⟩
            refine go_perm _ List.perm_middle.symm ?_
            refine go_region ?_
            refine sq rfl (q_load rfl Tryz.isAgg129 (Kn.app _ .hd) .z) ?_
            refine sn rfl (n_call rfl Tryz.call90 (hsrt _ _ _ _ _ ho' hne2 hgood (by rw [hel2]; simp only [rawMap, List.length_append, List.length_map, List.length_cons, List.length_nil]; have h1 := hb.accs; have h2 := hb.locks; have h3 := hb.cons; have h4 := hb.recs; omega))) ?_
            rintro _ σ10 _ hle10 ⟨rfl, -, Le2, es3, rfl, ho3, hper, hup⟩
            refine gol_nil ?_
            refine go_seq ?_
            refine go_region ?_
            refine sq rfl (q_load rfl Tryz.isAgg129 (Kn.app _ .hd) .z) ?_
            refine sq rfl (q_assign rfl) ?_
            refine gol_nil ?_
            refine go_giveSl ho3 (by decide) (fun σ11 hle11 hs3 => ?_)
            refine go_drop L (.cons _ (.cons _ (((List.sublist_cons_self _ _).trans (List.sublist_append_right _ _))))) ?_
            refine go_ret Tryz.func48 Tryz.results48 rfl rfl rfl (by repeat (first | exact Sto.le_refl _ | assumption | refine Sto.le_trans ?_ (by assumption))) ?_
            obtain ⟨l, hl1, hl2⟩ := all2_perm (hall2.mono (R' := EntR σ11) fun _ _ h => (h.up hle10).up hle11) hper
            refine ⟨l, ⟨es3, hs3, hl1.mono fun _ _ h => h, ?_⟩, ⟨hl2, ?_⟩, rfl⟩
            · rintro rfl
              have := hl2.length_eq
              simp [rawMap] at this
            · exact all2_pair hl1 hup fun a b x y h1 h2 hx => by rw [← h1.1, ← h2.1]; exact hx
end Go.Eng
