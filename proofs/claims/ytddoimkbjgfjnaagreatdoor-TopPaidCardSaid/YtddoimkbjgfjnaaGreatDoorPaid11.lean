/- A part of the proof of this: Payments and locks of a shard come out as they stand on paper (TopPaid): for every input, with the listed package variables as the program's text lays them, TopPaid answers true and its argument reads as it did. -/
import Derived.Test.YtddoimkbjgfjnaaGreatDoorPaid10
namespace Go.Eng
open Go Go.Proofs
set_option maxRecDepth 20000
theorem Keep.c2 (p q : Nat × Obj) (L : SHeap) : Keep L (p :: q :: L) := (Keep.cons _ _).trans (Keep.cons _ _)
theorem all2_take_succ {α β : Type} {R : α → β → Prop} {xs : List α} {ys : List β} {x : α} (h : All2 R xs (ys.take xs.length)) (hlt : xs.length < ys.length) (hx : R x ys[xs.length]) : All2 R (xs ++ [x]) (ys.take (xs ++ [x]).length) := by
  rw [List.length_append, List.length_singleton, List.take_succ_eq_append_getElem hlt]
  generalize ys[xs.length] = y at hx
  generalize ys.take xs.length = zs at h
  clear hlt
  induction h with
  | nil => exact .cons hx .nil
  | cons h _ ih => exact .cons h ih
theorem Own.get {T sz n : Nat} {p : Option Addr} {m c : Nat} {cs : List Value} {Lp : SHeap} (h : Own T sz (.slice p m c) n cs Lp) (hn : 0 < n) : ∃ b junk, p = some ⟨b, 0, none⟩ ∧ Lp = [(b, .cells (cs ++ junk).toArray T (0, 0))] ∧ cs.length = n * sz ∧ (cs ++ junk).length = c * sz := by
  cases h with
  | nil => omega
  | mk h1 h2 => exact ⟨_, _, rfl, rfl, h1, h2⟩
theorem SlO.mk' {α : Type} {T sz n b c : Nat} {f : α → List Value} {xs : List α} {junk l : List Value} (hl : l = xs.flatMap f ++ junk) (hn : xs.length = n) (hlen : ∀ x ∈ xs, (f x).length = sz) (hc : l.length = c * sz) : SlO T sz (.slice (some ⟨b, 0, none⟩) n c) f xs [(b, .cells l.toArray T (0, 0))] := by
  subst hl hn
  exact ⟨.mk (flat_len hlen) hc, hlen⟩
theorem st_one (s : SV) (h1 : oneCell s.acc = true) (h2 : oneCell s.locks = true) (h3 : oneCell s.cons = true) (h4 : oneCell s.recs = true) (h5 : oneCell s.mems = true) : (stCells s).all oneCell = true := by
  simp only [stCells, List.all_cons, List.all_nil, h1, h2, h3, h4, h5, Bool.and_true]; rfl
theorem at_mid {a r j : List Value} {x : Value} {i : Nat} (h : a.length = i) : At (a ++ (x :: r) ++ j) i x := by subst h; rw [List.append_assoc]; exact .of (by simp)
theorem set_mid {a r j : List Value} {x v : Value} {i : Nat} (h : a.length = i) : SetAt (a ++ (x :: r) ++ j) i v (a ++ (v :: r) ++ j) := by
  subst h
  have := SetAt.app (n := a.length) (l := a) rfl (SetAt.z (a := x) (v := v) (l := r ++ j))
  simpa using this
theorem recs_one {σ : Sto} {rvs : List RV} {rs : List Rec} (h : All2 (RecR σ) rvs rs) : (rvs.flatMap recCells).all oneCell = true := by
  induction h with
  | nil => rfl
  | @cons a b _ _ h _ ih =>
    obtain ⟨vs, h1, _⟩ := h.seats
    simp only [List.flatMap_cons, List.all_append, ih, Bool.and_true]
    simp [recCells, h.mems.one, h1.one]; rfl
theorem vals_one {R : Value → List Int → Prop} {vs : List Value} {ls : List (List Int)} (h : All2 R vs ls) (hr : ∀ v l, R v l → oneCell v = true) : (vs.flatMap vc).all oneCell = true := by
  induction h with
  | nil => rfl
  | cons h _ ih => simp only [List.flatMap_cons, List.all_append, ih, Bool.and_true, vc, List.all_cons, List.all_nil, hr _ _ h]
theorem lock_one (l : Lck) : (lockCells l).all oneCell = true := by rw [lockCells, List.all_append, bcells_one]; rfl
theorem c42 {σ : Sto} {L : SHeap} {sv : SV} {st : LSt} {N : Nat} (h : StR σ L sv st) (hb : st.le N) (hN : N < 100000000) : Ctr Tryz.prog 42 #[.agg (stCells sv).toArray] σ L fun v σ' L' => ∃ sv' L1 L2 L3 L4 L5, v = .agg (stCells sv').toArray ∧ StO σ' sv' st L1 L2 L3 L4 L5 ∧ L' = L1 ++ (L2 ++ (L3 ++ (L4 ++ (L5 ++ L)))) := by
  obtain ⟨ch, ac, lo, co, re, me⟩ := sv
  obtain ⟨hch, hac, hlo, hco, ⟨rvs, hre, hrv⟩, hme⟩ := h
  simp only at hch hac hlo hco hre hme
  obtain ⟨pa, ca, rfl⟩ := hac.val
  obtain ⟨pb, cb, rfl⟩ := hlo.val
  obtain ⟨pc, cc, rfl⟩ := hco.val
  obtain ⟨pd, cd, rfl⟩ := hre.val
  obtain ⟨pe, ce, rfl⟩ := hme.val
  have ba := hb.accs
  have bb := hb.locks
  have bc := hb.cons
  have bd := hb.recs
  have be := hb.mems
  have bl := hrv.len
  refine ctr_enter Tryz.func42 rfl Tryz.ntmps42 (by simp) ?_
  refine go_seq ?_
  refine go_region ?_
  refine snb rfl (n_box rfl (.agg (l := stCells _))) ?_
  intro b1
  refine snb rfl (n_alloc Tryz.zeroValue51 .agg) ?_
  intro b2
  refine gol_nil ?_
  refine go_seq ?_
  refine go_draws (n := 66) _ mix rfl (by decide +kernel) (Keep.refl _) ?_
  refine dq 0 rfl rfl rfl rfl (q_fieldAddr (off := 1) (o' := 1) rfl Tryz.runUnderlying51 rfl Tryz.sizeOf46 rfl rfl) ?_
  refine dq 1 rfl rfl rfl rfl (q_load rfl Tryz.isAgg46 (.tl .hd) (.s .z)) ?_
  refine dq 3 rfl rfl rfl rfl (q_fieldAddr (off := 2) (o' := 2) rfl Tryz.runUnderlying51 rfl Tryz.sizeOf47 rfl rfl) ?_
  refine dq 4 rfl rfl rfl rfl (q_load rfl Tryz.isAgg47 (.tl .hd) (.s (.s .z))) ?_
  refine dq 6 rfl rfl rfl rfl (q_fieldAddr (off := 3) (o' := 3) rfl Tryz.runUnderlying51 rfl Tryz.sizeOf48 rfl rfl) ?_
  refine dq 7 rfl rfl rfl rfl (q_load rfl Tryz.isAgg48 (.tl .hd) (.s (.s (.s .z)))) ?_
  refine dq 9 rfl rfl rfl rfl (q_fieldAddr (off := 5) (o' := 5) rfl Tryz.runUnderlying51 rfl Tryz.sizeOf24 rfl rfl) ?_
  refine dq 10 rfl rfl rfl rfl (q_load rfl Tryz.isAgg24 (.tl .hd) (.s (.s (.s (.s (.s .z)))))) ?_
  refine dn 2 rfl rfl rfl rfl (by decide +kernel) (n_call rfl Tryz.call40 (c40 (hac.cells.2.2.more (Keep.c2 _ _ _)) (flat_one _ (fun _ => rfl)) (by omega))) (fun _ _ _ _ ⟨_, _, _, e, _⟩ => by rw [e]; exact Keep.app _ _) ?_
  rintro va σ _ - ⟨La, ma, rfl, rfl, rfl, hoa⟩
  refine dq 12 rfl rfl rfl rfl (q_fieldAddr (off := 1) (o' := 1) rfl Tryz.runUnderlying51 rfl Tryz.sizeOf46 rfl rfl) ?_
  refine dn 5 rfl rfl rfl rfl (by decide +kernel) (n_call rfl Tryz.call69 (c69 (hlo.cells.2.2.more ((Keep.c2 _ _ _).trans (Keep.app _ _))) (flat_one _ lock_one) (by omega))) (fun _ _ _ _ ⟨_, _, _, e, _⟩ => by rw [e]; exact (Keep.app _ _).trans (Keep.app _ _)) ?_
  rintro vb σ _ - ⟨Lb, mb, rfl, rfl, rfl, hob⟩
  refine dn 8 rfl rfl rfl rfl (by decide +kernel) (n_call rfl Tryz.call70 (c70 (hco.cells.2.2.more (((Keep.c2 _ _ _).trans (Keep.app _ _)).trans (Keep.app _ _))) (flat_one _ bcells_one) (by omega))) (fun _ _ _ _ ⟨_, _, _, e, _⟩ => by rw [e]; exact ((Keep.app _ _).trans (Keep.app _ _)).trans (Keep.app _ _)) ?_
  rintro vc' σ _ - ⟨Lc, mc, rfl, rfl, rfl, hoc⟩
  refine dn 11 rfl rfl rfl rfl (by decide +kernel) (n_call rfl Tryz.call38 (c38 (hme.cells.2.2.more ((((Keep.c2 _ _ _).trans (Keep.app _ _)).trans (Keep.app _ _)).trans (Keep.app _ _))) (flat_one _ (fun _ => rfl)) (by omega))) (fun _ _ _ _ ⟨_, _, _, e, _⟩ => by rw [e]; exact (((Keep.app _ _).trans (Keep.app _ _)).trans (Keep.app _ _)).trans (Keep.app _ _)) ?_
  rintro vd σ _ - ⟨Ld, md, rfl, rfl, rfl, hod⟩
  refine dsta 13 rfl rfl rfl rfl (by decide +kernel) (by decide +kernel) (n_store rfl rfl hoa.oneC Tryz.sizeOf46 (.s .z) (.app _ (.app _ (.app _ (.app _ (.tl .hd)))))) ?_
  refine dq 14 rfl rfl rfl rfl (q_fieldAddr (off := 2) (o' := 2) rfl Tryz.runUnderlying51 rfl Tryz.sizeOf47 rfl rfl) ?_
  refine dsta 15 rfl rfl rfl rfl (by decide +kernel) (by decide +kernel) (n_store rfl rfl hob.oneC Tryz.sizeOf47 (.s (.s .z)) (.app _ (.app _ (.app _ (.app _ (.tl .hd)))))) ?_
  refine dq 16 rfl rfl rfl rfl (q_fieldAddr (off := 3) (o' := 3) rfl Tryz.runUnderlying51 rfl Tryz.sizeOf48 rfl rfl) ?_
  refine dsta 17 rfl rfl rfl rfl (by decide +kernel) (by decide +kernel) (n_store rfl rfl hoc.oneC Tryz.sizeOf48 (.s (.s (.s .z))) (.app _ (.app _ (.app _ (.app _ (.tl .hd)))))) ?_
  refine dq 18 rfl rfl rfl rfl (q_fieldAddr (off := 5) (o' := 5) rfl Tryz.runUnderlying51 rfl Tryz.sizeOf24 rfl rfl) ?_
  refine dsta 19 rfl rfl rfl rfl (by decide +kernel) (by decide +kernel) (n_store rfl rfl hod.oneC Tryz.sizeOf24 (.s (.s (.s (.s (.s .z))))) (.app _ (.app _ (.app _ (.app _ (.tl .hd)))))) ?_
  refine dend rfl ?_
  refine go_seq ?_
  refine go_region ?_
  refine sq rfl (q_fieldAddr (off := 4) (o' := 4) rfl Tryz.runUnderlying51 rfl Tryz.sizeOf49 rfl rfl) ?_
  refine sq rfl (q_load rfl Tryz.isAgg49 (.app _ (.app _ (.app _ (.app _ (.tl .hd))))) (.s (.s (.s (.s .z))))) ?_
  refine sn rfl (n_call rfl Tryz.call71 (c71 (hre.cells.2.2.more (((((Keep.c2 _ _ _).trans (Keep.app _ _)).trans (Keep.app _ _)).trans (Keep.app _ _)).trans (Keep.app _ _))) (recs_one hrv) (by omega))) ?_
  rintro ve σ _ - ⟨Le, me, rfl, rfl, rfl, hoe⟩
  refine sq rfl (q_fieldAddr (off := 4) (o' := 4) rfl Tryz.runUnderlying51 rfl Tryz.sizeOf49 rfl rfl) ?_
  refine sst rfl (n_store rfl rfl hoe.oneC Tryz.sizeOf49 (.s (.s (.s (.s .z)))) (.app _ (.app _ (.app _ (.app _ (.app _ (.tl .hd))))))) ?_
  refine gol_nil ?_
  refine go_seq ?_
  refine go_seq ?_
  refine go_region ?_
  obtain ⟨pe, ce, rfl⟩ := hoe.val
  refine sq rfl (q_fieldAddr (off := 4) (o' := 4) rfl Tryz.runUnderlying51 rfl Tryz.sizeOf49 rfl rfl) ?_
  refine sq rfl (q_load rfl Tryz.isAgg49 (.app _ (.app _ (.app _ (.app _ (.app _ (.tl .hd)))))) (.s (.s (.s (.s .z))))) ?_
  refine sq rfl (q_len rfl Tryz.runUnderlying49) ?_
  refine sq rfl (q_move rfl) ?_
  refine gol_nil ?_
  refine go_block ?_
  refine go_loop (X := List RV × Sto × SHeap) (fun x => x.1.length ≤ rvs.length ∧ All2 (RecR x.2.1) x.1 (st.recs.take x.1.length) ∧ SlO 75 3 (.slice pe rvs.length ce) recCells (x.1 ++ rvs.drop x.1.length) x.2.2 ∧ Sto.le σ x.2.1) (fun x => [(1, .pointer (some ⟨b1, 0, none⟩)), (2, .pointer (some ⟨b2, 0, none⟩)), (27, .slice pe rvs.length ce), (28, .int .i64 (rvs.length : Int)), (29, .int .i64 (x.1.length : Int))]) (fun x => x.2.1) (fun x => x.2.2 ++ (Ld ++ (Lc ++ (Lb ++ (La ++ _))))) (fun x => rvs.length - x.1.length) ([], σ, Le) ⟨Nat.zero_le _, .nil, ⟨hoe, hre.len⟩, Sto.le_refl _⟩ ⟨rfl, rfl, rfl, rfl, rfl, trivial⟩ rfl rfl ?_
  rintro ⟨dv, σ1, Le⟩ ⟨hk, hdn, hsl, hle1⟩ next
  simp only at hk hdn hsl hle1 next ⊢
  clear hoe
  refine go_seq ?_
  refine go_region ?_
  refine sq rfl (q_lss rfl rfl) ?_
  refine gol_nil ?_
  refine go_seq ?_
  refine go_cond rfl rfl (fun hc0 => ?_) (fun hc0 => ?_)
  ·
    have hlt : dv.length < rvs.length := by have := of_decide_eq_true hc0; omega
    have hlr : dv.length < st.recs.length := by rw [← hrv.len]; exact hlt
    obtain ⟨eo, es⟩ := hsl
    generalize hcs : (dv ++ rvs.drop dv.length).flatMap recCells = cs at eo
    have hll : (dv ++ rvs.drop dv.length).length = rvs.length := by simp; omega
    rw [hll] at eo
    obtain ⟨be, junk, rfl, rfl, hn, hcap⟩ := eo.get (by omega)
    subst hcs
    have hcell : (dv ++ rvs.drop dv.length).flatMap recCells = dv.flatMap recCells ++ (recCells rvs[dv.length] ++ (rvs.drop (dv.length + 1)).flatMap recCells) := by rw [List.flatMap_append, List.drop_eq_getElem_cons hlt, List.flatMap_cons]
    have hdl : (dv.flatMap recCells).length = dv.length * 3 := flat_len (fun _ _ => rfl)
    rw [hcell]
    have hrr := (hrv.get dv.length hlr hlt).up hle1
    generalize rvs[dv.length] = rv at hrr hcell
    generalize hrec : st.recs[dv.length] = rec at hrr
    obtain ⟨re, rm, rs⟩ := rv
    obtain ⟨h1, h2, svs, h3, h4⟩ := hrr
    simp only at h1 h2 h3
    obtain ⟨pm, cm, rfl⟩ := h2.val
    obtain ⟨ps, cs, rfl⟩ := h3.val
    have hb1 : rec.mems.length ≤ N := hb.rm rec (hrec ▸ List.getElem_mem _)
    have hb2 : rec.seats.length ≤ N := hb.rs rec (hrec ▸ List.getElem_mem _)
    have hb3 : ∀ l ∈ rec.seats, l.length ≤ N := hb.rk rec (hrec ▸ List.getElem_mem _)
    have hsv : svs.length = rec.seats.length := h4.len
    refine go_skip ?_
    refine go_seq ?_
    refine go_block ?_
    refine go_seq ?_
    refine go_region ?_
    refine sq rfl (q_move rfl) ?_
    refine sq rfl (q_indexAddr (j := dv.length) (o' := 0 + dv.length * 3) rfl rfl Tryz.runUnderlying49 Tryz.sizeOf75 rfl hlt rfl) ?_
    refine sq rfl (q_loadA (vs := [iv re, .slice pm rec.mems.length cm, .slice ps svs.length cs]) rfl Tryz.isAgg75 Tryz.sizeOf75 .hd (by rw [List.append_assoc, List.append_assoc]; exact Part.mk (by omega) rfl)) ?_
    refine snb rfl (n_alloc Tryz.zeroValue75 .agg) ?_
    intro b4
    refine sq rfl (q_assign rfl) ?_
    refine sst rfl (n_storeA rfl rfl (vs := [iv re, .slice pm rec.mems.length cm, .slice ps svs.length cs]) rfl Tryz.sizeOf75 rfl .hd (PutAt.all rfl)) ?_
    refine gol_nil ?_
    refine go_seq ?_
    refine go_draws (n := 66) _ mix rfl (by decide +kernel) (Keep.refl _) ?_
    refine dq 0 rfl rfl rfl rfl (q_fieldAddr (off := 1) (o' := 1) rfl Tryz.runUnderlying75 rfl Tryz.sizeOf24 rfl rfl) ?_
    refine dq 1 rfl rfl rfl rfl (q_load rfl Tryz.isAgg24 .hd (.s .z)) ?_
    refine dq 3 rfl rfl rfl rfl (q_fieldAddr (off := 2) (o' := 2) rfl Tryz.runUnderlying75 rfl Tryz.sizeOf64 rfl rfl) ?_
    refine dq 4 rfl rfl rfl rfl (q_load rfl Tryz.isAgg64 .hd (.s (.s .z))) ?_
    refine dn 2 rfl rfl rfl rfl (by decide +kernel) (n_call rfl Tryz.call38 (c38 (h2.cells.2.2.more (fun _ _ h => absurd h List.not_mem_nil)) (flat_one _ (fun _ => rfl)) (by omega))) (fun _ _ _ _ ⟨_, _, _, e, _⟩ => by rw [e]; exact Keep.app _ _) ?_
    rintro vm σ1 _ - ⟨Lm, mm, rfl, rfl, rfl, hom⟩
    refine dq 6 rfl rfl rfl rfl (q_fieldAddr (off := 1) (o' := 1) rfl Tryz.runUnderlying75 rfl Tryz.sizeOf24 rfl rfl) ?_
    refine dn 5 rfl rfl rfl rfl (by decide +kernel) (n_call rfl Tryz.call72 (c72 (h3.cells.2.2.more (fun _ _ h => absurd h List.not_mem_nil)) (vals_one h4 (fun _ _ h => h.one)) (by omega))) (fun _ _ _ _ ⟨_, _, _, e, _⟩ => by rw [e]; exact (Keep.app _ _).trans (Keep.app _ _)) ?_
    rintro vs σ1 _ - ⟨Ls, ms, rfl, rfl, rfl, hos⟩
    refine dsta 7 rfl rfl rfl rfl (by decide +kernel) (by decide +kernel) (n_store rfl rfl hom.oneC Tryz.sizeOf24 (.s .z) (.app _ (.app _ .hd))) ?_
    refine dq 8 rfl rfl rfl rfl (q_fieldAddr (off := 2) (o' := 2) rfl Tryz.runUnderlying75 rfl Tryz.sizeOf64 rfl rfl) ?_
    refine dsta 9 rfl rfl rfl rfl (by decide +kernel) (by decide +kernel) (n_store rfl rfl hos.oneC Tryz.sizeOf64 (.s (.s .z)) (.app _ (.app _ .hd))) ?_
    refine dend rfl ?_
    refine go_seq ?_
    refine go_seq ?_
    refine go_region ?_
    obtain ⟨ps', cs', rfl⟩ := hos.val
    refine sq rfl (q_fieldAddr (off := 2) (o' := 2) rfl Tryz.runUnderlying75 rfl Tryz.sizeOf64 rfl rfl) ?_
    refine sq rfl (q_load rfl Tryz.isAgg64 (.app _ (.app _ .hd)) (.s (.s .z))) ?_
    refine sq rfl (q_len rfl Tryz.runUnderlying64) ?_
    refine sq rfl (q_move rfl) ?_
    refine gol_nil ?_
    refine go_block ?_
    refine go_loop (X := List Value × Sto × SHeap) (fun x => x.1.length ≤ svs.length ∧ All2 (fun v l => Sl x.2.1 [] v 1 ic l) x.1 (rec.seats.take x.1.length) ∧ SlO 24 1 (.slice ps' svs.length cs') vc (x.1 ++ svs.drop x.1.length) x.2.2 ∧ Sto.le σ1 x.2.1) (fun x => [(1, .pointer (some ⟨b1, 0, none⟩)), (2, .pointer (some ⟨b2, 0, none⟩)), (3, .int .i64 (dv.length : Int)), (4, .pointer (some ⟨b4, 0, none⟩)), (27, .slice (some ⟨be, 0, none⟩) rvs.length ce), (28, .int .i64 (rvs.length : Int)), (29, .int .i64 (dv.length : Int)), (44, .int .i64 (svs.length : Int)), (45, .int .i64 (x.1.length : Int))]) (fun x => x.2.1) (fun x => x.2.2 ++ (Lm ++ _)) (fun x => svs.length - x.1.length) ([], σ1, Ls) ⟨Nat.zero_le _, .nil, ⟨hos, h3.len⟩, Sto.le_refl _⟩ ⟨rfl, rfl, rfl, rfl, rfl, rfl, rfl, rfl, rfl, trivial⟩ rfl rfl ?_
    rintro ⟨dj, σ2, Lj⟩ ⟨hj, hdj, hsj, hle2⟩ next2
    simp only at hj hdj hsj hle2 next2 ⊢
    clear hos
    refine go_seq ?_
    refine go_region ?_
    refine sq rfl (q_lss rfl rfl) ?_
    refine gol_nil ?_
    refine go_seq ?_
    refine go_cond rfl rfl (fun hc1 => ?_) (fun hc1 => ?_)
    ·
      have hlj : dj.length < svs.length := by have := of_decide_eq_true hc1; omega
      have hlq : dj.length < rec.seats.length := by omega
      obtain ⟨jo, js⟩ := hsj
      generalize hcs : (dj ++ svs.drop dj.length).flatMap vc = cj at jo
      have hll2 : (dj ++ svs.drop dj.length).length = svs.length := by simp; omega
      rw [hll2] at jo
      obtain ⟨bj, junkj, rfl, rfl, hnj, hcj⟩ := jo.get (by omega)
      subst hcs
      have hcell2 : (dj ++ svs.drop dj.length).flatMap vc = dj.flatMap vc ++ (vc svs[dj.length] ++ (svs.drop (dj.length + 1)).flatMap vc) := by rw [List.flatMap_append, List.drop_eq_getElem_cons hlj, List.flatMap_cons]
      have hdl2 : (dj.flatMap vc).length = dj.length := by rw [flat_len (sz := 1) (fun _ _ => rfl), Nat.mul_one]
      rw [hcell2]
      have hsr := (h4.get dj.length hlq hlj).up hle2
      generalize svs[dj.length] = sv at hsr hcell2
      obtain ⟨pq, cq, rfl⟩ := hsr.val
      have hb4 := hb3 _ (List.getElem_mem hlq)
      refine go_skip ?_
      refine go_seq ?_
      refine go_block ?_
      refine go_seq ?_
      refine go_region ?_
      refine sq rfl (q_move rfl) ?_
      refine sq rfl (q_assign rfl) ?_
      refine gol_nil ?_
      refine go_draws (n := 66) _ mix rfl (by decide +kernel) (Keep.refl _) ?_
      refine dq 0 rfl rfl rfl rfl (q_fieldAddr (off := 2) (o' := 2) rfl Tryz.runUnderlying75 rfl Tryz.sizeOf64 rfl rfl) ?_
      refine dq 1 rfl rfl rfl rfl (q_load rfl Tryz.isAgg64 (.app _ (.app _ .hd)) (.s (.s .z))) ?_
      refine dq 2 rfl rfl rfl rfl (q_move rfl) ?_
      refine dq 3 rfl rfl rfl rfl (q_fieldAddr (off := 2) (o' := 2) rfl Tryz.runUnderlying75 rfl Tryz.sizeOf64 rfl rfl) ?_
      refine dq 4 rfl rfl rfl rfl (q_load rfl Tryz.isAgg64 (.app _ (.app _ .hd)) (.s (.s .z))) ?_
      refine dq 5 rfl rfl rfl rfl (q_move rfl) ?_
      refine dq 6 rfl rfl rfl rfl (q_indexAddr (j := dj.length) (o' := dj.length) rfl rfl Tryz.runUnderlying64 Tryz.sizeOf24 rfl hlj (by omega)) ?_
      refine dq 7 rfl rfl rfl rfl (q_load (v := .slice pq _ cq) rfl Tryz.isAgg24 .hd (at_mid hdl2)) ?_
      refine dn 8 rfl rfl rfl rfl (by decide +kernel) (n_call rfl Tryz.call38 (c38 (hsr.cells.2.2.more (fun _ _ h => absurd h List.not_mem_nil)) (flat_one _ (fun _ => rfl)) (by omega))) (fun _ _ _ _ ⟨_, _, _, e, _⟩ => by rw [e]; exact Keep.app _ _) ?_
      rintro vq σ2 _ - ⟨Lq, mq, rfl, rfl, rfl, hoq⟩
      refine dq 9 rfl rfl rfl rfl (q_indexAddr (j := dj.length) (o' := dj.length) rfl rfl Tryz.runUnderlying64 Tryz.sizeOf24 rfl hlj (by omega)) ?_
      refine dsta 10 rfl rfl rfl rfl (by decide +kernel) (by decide +kernel) (n_store rfl rfl hoq.oneC Tryz.sizeOf24 (set_mid hdl2) (.app _ .hd)) ?_
      refine dend rfl ?_
      refine go_inBlock ?_
      refine go_giveSl (f := ic) (xs := rec.seats[dj.length]) ⟨hoq, fun _ _ => rfl⟩ (by decide) fun σ3 hle3 hq3 => ?_
      refine go_region ?_
      refine sq rfl (q_add rfl rfl (i64_in (by omega) (by omega))) ?_
      refine sq rfl (q_move rfl) ?_
      refine gol_nil ?_
      refine go_next (next2 (dj ++ [vq], σ3, [(bj, _)]) ⟨by simp; omega, all2_take_succ (hdj.mono fun _ _ h => h.up hle3) hlq hq3, .mk' (junk := junkj) (by simp [vc]) (by simp; omega) (fun _ _ => rfl) (by rw [hcell2] at hcj; simp [vc] at hcj ⊢; omega), Sto.le_trans hle2 hle3⟩ (by simp; omega)) ⟨rfl, rfl, rfl, rfl, rfl, rfl, rfl, rfl, by simp only [List.length_append, List.length_singleton]; rfl, trivial⟩
    ·
      have hendj : dj.length = svs.length := by have := of_decide_eq_false hc1; omega
      rw [hendj, List.drop_length, List.append_nil] at hsj
      rw [hendj, hsv, List.take_length] at hdj
      refine go_exit rfl ?_
      refine go_giveSl (σ := σ2) hsj (by decide) fun σ3 hle3 hs3 => ?_
      refine go_giveSl (f := ic) (xs := rec.mems) ⟨hom, fun _ _ => rfl⟩ (by decide) fun σ4 hle4 hm4 => ?_
      refine go_region ?_
      refine sq rfl (q_fieldAddr (off := 4) (o' := 4) rfl Tryz.runUnderlying51 rfl Tryz.sizeOf49 rfl rfl) ?_
      refine sq rfl (q_load rfl Tryz.isAgg49 (.tl (.app _ (.app _ (.app _ (.app _ (.app _ (.tl .hd))))))) (.s (.s (.s (.s .z))))) ?_
      refine sq rfl (q_move rfl) ?_
      refine sq rfl (q_loadA (vs := [iv re, vm, .slice ps' svs.length cs']) rfl Tryz.isAgg75 Tryz.sizeOf75 .hd (Part.all rfl)) ?_
      refine sq rfl (q_indexAddr (j := dv.length) (o' := 0 + dv.length * 3) rfl rfl Tryz.runUnderlying49 Tryz.sizeOf75 rfl hlt rfl) ?_
      refine sst rfl (n_storeA rfl rfl (vs := [iv re, vm, .slice ps' svs.length cs']) (by simp only [List.all_cons, List.all_nil, hom.oneC, Bool.and_true]; rfl) Tryz.sizeOf75 rfl (.tl .hd) ⟨dv.flatMap recCells, recCells ⟨re, .slice pm rec.mems.length cm, .slice ps svs.length cs⟩, (rvs.drop (dv.length + 1)).flatMap recCells ++ junk, by rw [List.append_assoc, List.append_assoc], rfl, by omega, rfl⟩) ?_
      refine gol_nil ?_
      refine go_inBlock ?_
      refine go_region ?_
      refine sq rfl (q_add rfl rfl (i64_in (by omega) (by omega))) ?_
      refine sq rfl (q_move rfl) ?_
      refine gol_nil ?_
      have hle24 := Sto.le_trans hle2 (Sto.le_trans hle3 hle4)
      refine go_drop1 ?_
      refine go_next (next (dv ++ [⟨re, vm, .slice ps' svs.length cs'⟩], σ4, [(be, _)]) ⟨by simp; omega, all2_take_succ (hdn.mono fun _ _ h => h.up hle24) hlr (hrec ▸ ⟨h1, hm4, dj, hs3.up hle4, hdj.mono fun _ _ h => h.up (Sto.le_trans hle3 hle4)⟩), .mk' (junk := junk) (by simp [recCells]) (by simp; omega) (fun _ _ => rfl) (by rw [hcell] at hcap; simp [recCells] at hcap ⊢; omega), Sto.le_trans hle1 (Sto.le_trans hle2 (Sto.le_trans hle3 hle4))⟩ (by simp; omega)) ⟨rfl, rfl, rfl, rfl, by simp only [List.length_append, List.length_singleton]; rfl, trivial⟩
  ·
    have hend : dv.length = rvs.length := by have := of_decide_eq_false hc0; omega
    rw [hend, List.drop_length, List.append_nil] at hsl
    rw [hend, hrv.len, List.take_length] at hdn
    refine go_exit rfl ?_
    refine go_seq ?_
    refine go_region ?_
    refine sq rfl (q_loadA (vs := stCells ⟨ch, va, vb, vc', .slice pe rvs.length ce, vd⟩) rfl Tryz.isAgg51 Tryz.sizeOf51 (.app _ (.app _ (.app _ (.app _ (.app _ (.tl .hd)))))) (Part.all rfl)) ?_
    refine sst rfl (n_storeA rfl rfl (vs := stCells ⟨ch, va, vb, vc', .slice pe rvs.length ce, vd⟩) (st_one _ hoa.oneC hob.oneC hoc.oneC rfl hod.oneC) Tryz.sizeOf51 rfl (.app _ (.app _ (.app _ (.app _ (.app _ .hd))))) (PutAt.all rfl)) ?_
    refine gol_nil ?_
    refine go_retR Tryz.func42 Tryz.results42 rfl (.cellA rfl Tryz.isAgg51 Tryz.sizeOf51 (.app _ (.app _ (.app _ (.app _ (.app _ .hd))))) (Part.all rfl) .nil) ((List.Sublist.refl _).append ((List.Sublist.refl _).append ((List.Sublist.refl _).append ((List.Sublist.refl _).append ((List.Sublist.refl _).append (.cons _ (.cons _ (List.Sublist.refl _)))))))) (by repeat (first | exact Sto.le_refl _ | assumption | refine Sto.le_trans ?_ (by assumption))) ?_
    exact ⟨⟨ch, va, vb, vc', .slice pe rvs.length ce, vd⟩, Le, Ld, Lc, Lb, La, rfl, ⟨hch, ⟨hoa, hac.len⟩, ⟨hob, hlo.len⟩, ⟨hoc, hco.len⟩, ⟨_, hsl, hdn⟩, ⟨hod, hme.len⟩⟩, rfl⟩
end Go.Eng
namespace Go.Eng
open Go Go.Proofs
set_option maxRecDepth 20000
theorem Upd.sg {L : SHeap} {b : Nat} {o o' : Obj} : Upd ([(b, o)] ++ L) b o o' ([(b, o')] ++ L) := .hd
theorem Kn.sg {σ : Sto} {L : SHeap} {b : Nat} {o : Obj} : Kn σ ([(b, o)] ++ L) b o := .hd
theorem perm5 (A B C D X T : SHeap) : (A ++ (B ++ (C ++ (D ++ (X ++ T))))).Perm (X ++ (A ++ (B ++ (C ++ (D ++ T))))) := by
  have h1 : (D ++ (X ++ T)).Perm (X ++ (D ++ T)) := List.perm_append_comm_assoc D X T
  have h2 := (h1.append_left C).trans (List.perm_append_comm_assoc C X _)
  have h3 := (h2.append_left B).trans (List.perm_append_comm_assoc B X _)
  exact (h3.append_left A).trans (List.perm_append_comm_assoc A X _)
theorem perm4 (A B C X T : SHeap) : (A ++ (B ++ (C ++ (X ++ T)))).Perm (X ++ (A ++ (B ++ (C ++ T)))) := by
  have h2 := (List.perm_append_comm_assoc C X T)
  have h3 := (h2.append_left B).trans (List.perm_append_comm_assoc B X _)
  exact (h3.append_left A).trans (List.perm_append_comm_assoc A X _)
theorem set_flat {α : Type} (f : α → List Value) {xs : List α} {i : Nat} (a : α) (hi : i < xs.length) : (xs.set i a).flatMap f = (xs.take i).flatMap f ++ (f a ++ (xs.drop (i + 1)).flatMap f) := by
  rw [List.set_eq_take_append_cons_drop, if_pos hi, List.flatMap_append, List.flatMap_cons]
theorem accHas_lt {xs : List Acc} {n : UInt64} (h : accHas xs n = true) : accIx xs n < xs.length := by simp only [accHas, Bool.and_eq_true, decide_eq_true_eq] at h; exact h.1
theorem setAcc_len (xs : List Acc) (a : Acc) : (setAcc xs a).length ≤ xs.length + 1 := by
  have := accIx_le xs a.name
  unfold setAcc; split <;> simp; omega
theorem LSt.le.up {a : LSt} {N M : Nat} (h : a.le N) (hm : N ≤ M) : a.le M := ⟨Nat.le_trans h.accs hm, Nat.le_trans h.locks hm, Nat.le_trans h.cons hm, Nat.le_trans h.recs hm, Nat.le_trans h.mems hm, fun r hr => Nat.le_trans (h.rm r hr) hm, fun r hr => Nat.le_trans (h.rs r hr) hm, fun r hr l hl => Nat.le_trans (h.rk r hr l hl) hm⟩
theorem LSt.le.accs' {a : LSt} {N : Nat} (h : a.le N) {xs : List Acc} (hx : xs.length ≤ N) : LSt.le { a with accs := xs } N := ⟨hx, h.locks, h.cons, h.recs, h.mems, h.rm, h.rs, h.rk⟩
def stSet (st : LSt) (a : Acc) : LSt := { st with accs := setAcc st.accs a }
theorem stSet_le {st : LSt} {a : Acc} {N : Nat} (h : st.le N) : (stSet st a).le (N + 1) := (h.up (Nat.le_succ N)).accs' (Nat.le_trans (setAcc_len _ _) (by have := h.accs; omega))
theorem c138 {σ : Sto} {L : SHeap} {sv : SV} {st : LSt} {a : Acc} {N : Nat} (h : StR σ L sv st) (hb : st.le N) (hN : N < 90000000) : Ctr Tryz.prog 138 #[.agg (stCells sv).toArray, .agg (accCells a).toArray] σ L fun v σ' L' => ∃ sv' L1 L2 L3 L4 L5, v = .agg (stCells sv').toArray ∧ StO σ' sv' (stSet st a) L1 L2 L3 L4 L5 ∧ L' = L1 ++ (L2 ++ (L3 ++ (L4 ++ (L5 ++ L)))) := by
  refine ctr_enter Tryz.func138 rfl Tryz.ntmps138 (by simp) ?_
  refine go_seq ?_
  refine go_region ?_
  refine snb rfl (n_box rfl (.agg (l := stCells _))) ?_
  intro b1
  refine snb rfl (n_box rfl (.agg (l := accCells a))) ?_
  intro b2
  refine snb rfl (n_alloc Tryz.zeroValue51 .agg) ?_
  intro b3
  refine gol_nil ?_
  refine go_seq ?_
  refine go_region ?_
  refine sq rfl (q_loadA (vs := stCells sv) rfl Tryz.isAgg51 Tryz.sizeOf51 (.tl (.tl .hd)) (Part.all rfl)) ?_
  refine sn rfl (n_call rfl Tryz.call42 (c42 (h.more ((Keep.c2 _ _ _).trans (Keep.cons _ _))) hb (by omega))) ?_
  rintro v1 σ1 _ hle1 ⟨⟨ch, ac, lo, co, re, me⟩, L1, L2, L3, L4, L5, rfl, ho, rfl⟩
  obtain ⟨pa, ca, hva⟩ := ho.acc.val
  simp only at hva
  subst hva
  refine sst rfl (n_storeA rfl rfl (vs := stCells _) ho.one Tryz.sizeOf51 rfl (.app _ (.app _ (.app _ (.app _ (.app _ (.tl (.tl .hd))))))) (PutAt.all rfl)) ?_
  refine gol_nil ?_
  refine go_seq ?_
  refine go_region ?_
  refine sq rfl (q_loadA (vs := stCells ⟨ch, .slice pa st.accs.length ca, lo, co, re, me⟩) rfl Tryz.isAgg51 Tryz.sizeOf51 (.app _ (.app _ (.app _ (.app _ (.app _ (.tl (.tl .hd))))))) (Part.all rfl)) ?_
  refine sq rfl (q_fieldAddr (off := 0) (o' := 0) rfl Tryz.runUnderlying57 rfl Tryz.sizeOf31 rfl rfl) ?_
  refine sq rfl (q_load (v := w6 a.name) rfl Tryz.isAgg31 (.app _ (.app _ (.app _ (.app _ (.app _ (.tl .hd)))))) .z) ?_
  refine sn rfl (n_call rfl Tryz.call43 (c43 (ho.st _).acc (by have := hb.accs; omega) a.name)) ?_
  rintro v2 σ2 _ hle2 ⟨rfl, rfl⟩
  replace ho := ho.up hle2
  refine sq rfl (q_move rfl) ?_
  refine sq rfl (q_extract rfl .z) ?_
  refine sq rfl (q_extract rfl (.s .z)) ?_
  refine sq rfl (q_assign rfl) ?_
  refine sq rfl (q_assign rfl) ?_
  refine gol_nil ?_
  refine go_seq ?_
  refine go_seq ?_
  refine go_region ?_
  refine sq rfl (q_move rfl) ?_
  refine gol_nil ?_
  refine go_cond rfl rfl (fun hc0 => ?_) (fun hc0 => ?_)
  ·
    have hh : accHas st.accs a.name = true := hc0
    have hix := accHas_lt hh
    obtain ⟨ba, junk, rfl, rfl, hn, hcap⟩ := ho.acc.own.get (by omega)
    have hfs := flat_split (f := accCells) hix
    have hfl := flat_take_len (f := accCells) (sz := 3) (fun _ _ => rfl) (Nat.le_of_lt hix)
    rw [hfs]
    refine go_region ?_
    refine sq rfl (q_fieldAddr (off := 1) (o' := 1) rfl Tryz.runUnderlying51 rfl Tryz.sizeOf46 rfl rfl) ?_
    refine sq rfl (q_load rfl Tryz.isAgg46 (.app _ (.app _ (.app _ (.app _ (.app _ (.tl (.tl .hd))))))) (.s .z)) ?_
    refine sq rfl (q_move rfl) ?_
    refine sq rfl (q_loadA (vs := accCells a) rfl Tryz.isAgg57 Tryz.sizeOf57 (.app _ (.app _ (.app _ (.app _ (.app _ (.tl .hd)))))) (Part.all rfl)) ?_
    refine sq rfl (q_indexAddr (j := accIx st.accs a.name) (o' := 0 + accIx st.accs a.name * 3) rfl rfl Tryz.runUnderlying46 Tryz.sizeOf57 rfl hix rfl) ?_
    refine sst rfl (n_storeA rfl rfl (vs := accCells a) rfl Tryz.sizeOf57 rfl (.app _ (.app _ (.app _ (.app _ .sg)))) ⟨(st.accs.take (accIx st.accs a.name)).flatMap accCells, accCells st.accs[accIx st.accs a.name], (st.accs.drop (accIx st.accs a.name + 1)).flatMap accCells ++ junk, by rw [List.append_assoc, List.append_assoc], rfl, by omega, rfl⟩) ?_
    refine gol_nil ?_
    refine go_seq ?_
    refine go_region ?_
    refine sq rfl (q_loadA (vs := stCells ⟨ch, .slice (some ⟨ba, 0, none⟩) st.accs.length ca, lo, co, re, me⟩) rfl Tryz.isAgg51 Tryz.sizeOf51 (.app _ (.app _ (.app _ (.app _ (.app _ (.tl (.tl .hd))))))) (Part.all rfl)) ?_
    refine sst rfl (n_storeA rfl rfl (vs := stCells ⟨ch, .slice (some ⟨ba, 0, none⟩) st.accs.length ca, lo, co, re, me⟩) (st_one _ rfl ho.locks.oneC ho.cons.oneC (let ⟨_, h, _⟩ := ho.recs; h.oneC) ho.mems.oneC) Tryz.sizeOf51 rfl (.app _ (.app _ (.app _ (.app _ (.app _ .hd))))) (PutAt.all rfl)) ?_
    refine gol_nil ?_
    refine go_retR Tryz.func138 Tryz.results138 rfl (.cellA rfl Tryz.isAgg51 Tryz.sizeOf51 (.app _ (.app _ (.app _ (.app _ (.app _ .hd))))) (Part.all rfl) .nil) ((List.Sublist.refl _).append ((List.Sublist.refl _).append ((List.Sublist.refl _).append ((List.Sublist.refl _).append ((List.Sublist.refl _).append (.cons _ (.cons _ (.cons _ (List.Sublist.refl _))))))))) (by repeat (first | exact Sto.le_refl _ | assumption | refine Sto.le_trans ?_ (by assumption))) ?_
    refine ⟨_, L1, L2, L3, L4, [(ba, _)], rfl, ⟨ho.chain, ?_, ho.locks, ho.cons, ho.recs, ho.mems⟩, rfl⟩
    refine .mk' (junk := junk) (by rw [stSet, setAcc, if_pos hh, set_flat _ _ hix]; simp only [List.append_assoc]) (by rw [stSet, setAcc, if_pos hh]; simp) (fun _ _ => rfl) ?_
    rw [hfs] at hcap
    simp [accCells] at hcap ⊢; omega
  ·
    have hh : ¬ accHas st.accs a.name = true := Bool.eq_false_iff.1 hc0
    have hix := accIx_le st.accs a.name
    have hfl := flat_take_len (f := accCells) (sz := 3) (fun _ _ => rfl) hix
    refine go_region ?_
    refine sq rfl (q_fieldAddr (off := 1) (o' := 1) rfl Tryz.runUnderlying51 rfl Tryz.sizeOf46 rfl rfl) ?_
    refine sq rfl (q_load rfl Tryz.isAgg46 (.app _ (.app _ (.app _ (.app _ (.app _ (.tl (.tl .hd))))))) (.s .z)) ?_
    refine sq rfl (q_move rfl) ?_
    refine sq rfl (q_loadA (vs := accCells a) rfl Tryz.isAgg57 Tryz.sizeOf57 (.app _ (.app _ (.app _ (.app _ (.app _ (.tl .hd)))))) (Part.all rfl)) ?_
    refine sns rfl (n_buildSlice (sz := 3) (.cons rfl .agg rfl .nil) rfl Tryz.runUnderlying46 Tryz.sizeOf57 Tryz.zeroValue57 rfl rfl) ?_
    intro bv
    refine gol_perm _ ((perm5 L1 L2 L3 L4 L5 _).cons _) ?_
    refine sn rfl (n_call rfl Tryz.call174 (c174 (L0 := L1 ++ (L2 ++ (L3 ++ (L4 ++ _)))) (Lp := L5) (el := accCells a) ho.acc.own (flat_cut st.accs (accIx st.accs a.name)) hfl rfl hix rfl (flat_one _ (fun _ => rfl)) (by have := hb.accs; omega))) ?_
    rintro v3 σ3 _ - ⟨L5', rfl, rfl, ho5⟩
    refine gol_perm _ (perm5 L1 L2 L3 L4 L5' _).symm ?_
    refine sq rfl (q_fieldAddr (off := 1) (o' := 1) rfl Tryz.runUnderlying51 rfl Tryz.sizeOf46 rfl rfl) ?_
    refine sst rfl (n_store rfl rfl ho5.oneC Tryz.sizeOf46 (.s .z) (.app _ (.app _ (.app _ (.app _ (.app _ (.tl (.tl .hd)))))))) ?_
    refine gol_nil ?_
    refine go_seq ?_
    refine go_region ?_
    refine sq rfl (q_loadA (vs := stCells ⟨ch, v3, lo, co, re, me⟩) rfl Tryz.isAgg51 Tryz.sizeOf51 (.app _ (.app _ (.app _ (.app _ (.app _ (.tl (.tl .hd))))))) (Part.all rfl)) ?_
    refine sst rfl (n_storeA rfl rfl (vs := stCells ⟨ch, v3, lo, co, re, me⟩) (st_one _ ho5.oneC ho.locks.oneC ho.cons.oneC (let ⟨_, h, _⟩ := ho.recs; h.oneC) ho.mems.oneC) Tryz.sizeOf51 rfl (.app _ (.app _ (.app _ (.app _ (.app _ .hd))))) (PutAt.all rfl)) ?_
    refine gol_nil ?_
    refine go_retR Tryz.func138 Tryz.results138 rfl (.cellA rfl Tryz.isAgg51 Tryz.sizeOf51 (.app _ (.app _ (.app _ (.app _ (.app _ .hd))))) (Part.all rfl) .nil) ((List.Sublist.refl _).append ((List.Sublist.refl _).append ((List.Sublist.refl _).append ((List.Sublist.refl _).append ((List.Sublist.refl _).append (.cons _ (.cons _ (.cons _ (List.Sublist.refl _))))))))) (by repeat (first | exact Sto.le_refl _ | assumption | refine Sto.le_trans ?_ (by assumption))) ?_
    refine ⟨⟨ch, v3, lo, co, re, me⟩, L1, L2, L3, L4, L5', rfl, ⟨ho.chain, ⟨?_, fun _ _ => rfl⟩, ho.locks, ho.cons, ho.recs, ho.mems⟩, rfl⟩
    have e : setAcc st.accs a = st.accs.take (accIx st.accs a.name) ++ a :: st.accs.drop (accIx st.accs a.name) := by rw [setAcc, if_neg hh]
    have e2 : (setAcc st.accs a).length = st.accs.length + 1 := by rw [e]; simp; omega
    show Own 57 3 v3 (setAcc st.accs a).length ((setAcc st.accs a).flatMap accCells) L5'
    rw [e2, e, List.flatMap_append, List.flatMap_cons]
    exact ho5
end Go.Eng
namespace Go.Eng
open Go Go.Proofs
set_option maxRecDepth 20000
def nilS : Value := .slice none 0 0
def zSV : SV := ⟨0, nilS, nilS, nilS, nilS, nilS⟩
def takeErr (a : Acc) (amount nonce : UInt64) : Int := if amount = 0 ∨ 4611686018427387904 < amount.toNat then 23 else if a.nonce ≠ nonce then 21 else if a.bal < amount then 22 else 0
def takeSt (st : LSt) (name amount : UInt64) : LSt := stSet st ⟨(acct st.accs name).name, (acct st.accs name).bal - amount, (acct st.accs name).nonce + 1⟩
def giveSt (st : LSt) (name amount : UInt64) : LSt := stSet st ⟨(acct st.accs name).name, (acct st.accs name).bal + amount, (acct st.accs name).nonce⟩
theorem eq64I {a b : UInt64} : ((a.toNat : Int) = (b.toNat : Int)) ↔ a = b := ⟨fun h => UInt64.toNat_inj.1 (by omega), fun h => by rw [h]⟩
theorem u64z {a : UInt64} (h : (a.toNat : Int) = 0) : a = 0 := UInt64.toNat_inj.1 (by have : (0 : UInt64).toNat = 0 := rfl; omega)
theorem acct_name (xs : List Acc) (n : UInt64) : (acct xs n).name = n := by
  unfold acct
  split
  · rename_i h
    simp only [accHas, Bool.and_eq_true, decide_eq_true_eq] at h
    exact cmp64_zero.1 h.2
  · rfl
theorem c110 {σ : Sto} {L : SHeap} {sv : SV} {st : LSt} {N : Nat} (h : StR σ L sv st) (hb : st.le N) (hN : N < 90000000) (name amount nonce : UInt64) : Ctr Tryz.prog 110 #[.agg (stCells sv).toArray, w6 name, w6 amount, w6 nonce] σ L fun v σ' L' => (takeErr (acct st.accs name) amount nonce ≠ 0 ∧ v = .tuple #[.agg (stCells zSV).toArray, iv (takeErr (acct st.accs name) amount nonce)] ∧ L' = L) ∨ (takeErr (acct st.accs name) amount nonce = 0 ∧ ∃ sv' L1 L2 L3 L4 L5, v = .tuple #[.agg (stCells sv').toArray, iv 0] ∧ StO σ' sv' (takeSt st name amount) L1 L2 L3 L4 L5 ∧ L' = L1 ++ (L2 ++ (L3 ++ (L4 ++ (L5 ++ L))))) := by
  refine ctr_enter Tryz.func110 rfl Tryz.ntmps110 (by simp) ?_
  refine go_seq ?_
  refine go_region ?_
  refine snb rfl (n_box rfl (.agg (l := stCells _))) ?_
  intro b1
  refine snb rfl (n_alloc Tryz.zeroValue51 .agg) ?_
  intro b2
  refine sq rfl (q_assign rfl) ?_
  refine gol_nil ?_
  refine go_seq ?_
  refine go_region ?_
  refine sq rfl (q_loadA (vs := stCells sv) rfl Tryz.isAgg51 Tryz.sizeOf51 (.tl .hd) (Part.all rfl)) ?_
  refine sq rfl (q_move rfl) ?_
  refine sn rfl (n_call rfl Tryz.call18 (c18 (h.more (Keep.c2 _ _ _)).acc (by have := hb.accs; omega) name)) ?_
  rintro v1 σ1 _ hle1 ⟨rfl, rfl⟩
  refine snb rfl (n_alloc Tryz.zeroValue57 .agg) ?_
  intro b3
  refine sst rfl (n_storeA rfl rfl (vs := accCells (acct st.accs name)) rfl Tryz.sizeOf57 rfl .hd (PutAt.all rfl)) ?_
  refine gol_nil ?_
  refine go_seq ?_
  refine go_block ?_
  refine go_seq ?_
  rcases Classical.em (amount = 0) with h0 | h0
  ·
    have hd : decide ((amount.toNat : Int) = 0) = true := decide_eq_true (by rw [h0]; rfl)
    refine go_region ?_
    refine sq rfl (q_move rfl) ?_
    refine sq rfl (q_eql (a := (amount.toNat : Int)) (b := 0) rfl rfl) ?_
    rw [hd]
    refine sq rfl (q_move rfl) ?_
    refine ss rfl rfl ?_
    refine ss rfl rfl ?_
    refine sq rfl (q_pick rfl rfl rfl rfl) ?_
    refine sq rfl (q_assign rfl) ?_
    refine gol_nil ?_
    refine go_condT rfl rfl ?_
    refine go_seq ?_
    refine go_region ?_
    refine sq rfl (q_buildS (ns := [1, 1, 1, 1, 1, 1]) (.zero (z := [_]) rfl (.zero (z := [_]) rfl (.zero (z := [_]) rfl (.zero (z := [_]) rfl (.zero (z := [_]) rfl (.zero (z := [_]) rfl .nil)))))) Tryz.zeroValue51 Tryz.runUnderlying51 (places51 Tryz.runUnderlying51) rfl) ?_
    refine sst rfl (n_storeA rfl rfl (vs := stCells zSV) rfl Tryz.sizeOf51 rfl (.tl .hd) (PutAt.all rfl)) ?_
    refine sq rfl (q_assign rfl) ?_
    refine gol_nil ?_
    have EE : takeErr (acct st.accs name) amount nonce = 23 := by rw [takeErr, if_pos (.inl h0)]
    refine go_retR Tryz.func110 Tryz.results110 rfl (.cellA rfl Tryz.isAgg51 Tryz.sizeOf51 (.tl .hd) (Part.all rfl) (.tmp rfl .nil)) (.cons _ (.cons _ (.cons _ (List.Sublist.refl _)))) (by repeat (first | exact Sto.le_refl _ | assumption | refine Sto.le_trans ?_ (by assumption))) ?_
    exact Or.inl ⟨by rw [EE]; decide, by rw [EE]; rfl, rfl⟩
  ·
    have hd : decide ((amount.toNat : Int) = 0) = false := decide_eq_false (fun h => h0 (u64z h))
    refine go_region ?_
    refine sq rfl (q_move rfl) ?_
    refine sq rfl (q_eql (a := (amount.toNat : Int)) (b := 0) rfl rfl) ?_
    rw [hd]
    refine sq rfl (q_move rfl) ?_
    refine sqg rfl rfl (q_move rfl) ?_
    refine sqg rfl rfl (q_gtr (a := (amount.toNat : Int)) (b := 4611686018427387904) rfl rfl) ?_
    refine sq rfl (q_pick rfl rfl rfl rfl) ?_
    refine sq rfl (q_assign rfl) ?_
    refine gol_nil ?_
    refine go_cond rfl rfl (fun hc0 => ?_) (fun hc0 => ?_)
    ·
      have h1 : 4611686018427387904 < amount.toNat := by have := of_decide_eq_true hc0; omega
      refine go_seq ?_
      refine go_region ?_
      refine sq rfl (q_buildS (ns := [1, 1, 1, 1, 1, 1]) (.zero (z := [_]) rfl (.zero (z := [_]) rfl (.zero (z := [_]) rfl (.zero (z := [_]) rfl (.zero (z := [_]) rfl (.zero (z := [_]) rfl .nil)))))) Tryz.zeroValue51 Tryz.runUnderlying51 (places51 Tryz.runUnderlying51) rfl) ?_
      refine sst rfl (n_storeA rfl rfl (vs := stCells zSV) rfl Tryz.sizeOf51 rfl (.tl .hd) (PutAt.all rfl)) ?_
      refine sq rfl (q_assign rfl) ?_
      refine gol_nil ?_
      have EE : takeErr (acct st.accs name) amount nonce = 23 := by rw [takeErr, if_pos (.inr h1)]
      refine go_retR Tryz.func110 Tryz.results110 rfl (.cellA rfl Tryz.isAgg51 Tryz.sizeOf51 (.tl .hd) (Part.all rfl) (.tmp rfl .nil)) (.cons _ (.cons _ (.cons _ (List.Sublist.refl _)))) (by repeat (first | exact Sto.le_refl _ | assumption | refine Sto.le_trans ?_ (by assumption))) ?_
      exact Or.inl ⟨by rw [EE]; decide, by rw [EE]; rfl, rfl⟩
    ·
      have h1 : ¬ 4611686018427387904 < amount.toNat := by have := of_decide_eq_false hc0; omega
      have h01 : ¬ (amount = 0 ∨ 4611686018427387904 < amount.toNat) := fun h => h.elim h0 h1
      refine go_seq ?_
      refine go_region ?_
      refine sq rfl (q_fieldAddr (off := 2) (o' := 2) rfl Tryz.runUnderlying57 rfl Tryz.sizeOf31 rfl rfl) ?_
      refine sq rfl (q_load (v := w6 (acct st.accs name).nonce) rfl Tryz.isAgg31 .hd (.s (.s .z))) ?_
      refine sq rfl (q_move rfl) ?_
      refine sq rfl (q_neq (a := ((acct st.accs name).nonce.toNat : Int)) (b := (nonce.toNat : Int)) rfl rfl) ?_
      refine sq rfl (q_assign rfl) ?_
      refine gol_nil ?_
      refine go_cond rfl rfl (fun hc1 => ?_) (fun hc1 => ?_)
      ·
        have h2 : (acct st.accs name).nonce ≠ nonce := fun e => by simp [e] at hc1
        refine go_seq ?_
        refine go_region ?_
        refine sq rfl (q_buildS (ns := [1, 1, 1, 1, 1, 1]) (.zero (z := [_]) rfl (.zero (z := [_]) rfl (.zero (z := [_]) rfl (.zero (z := [_]) rfl (.zero (z := [_]) rfl (.zero (z := [_]) rfl .nil)))))) Tryz.zeroValue51 Tryz.runUnderlying51 (places51 Tryz.runUnderlying51) rfl) ?_
        refine sst rfl (n_storeA rfl rfl (vs := stCells zSV) rfl Tryz.sizeOf51 rfl (.tl .hd) (PutAt.all rfl)) ?_
        refine sq rfl (q_assign rfl) ?_
        refine gol_nil ?_
        have EE : takeErr (acct st.accs name) amount nonce = 21 := by rw [takeErr, if_neg h01, if_pos h2]
        refine go_retR Tryz.func110 Tryz.results110 rfl (.cellA rfl Tryz.isAgg51 Tryz.sizeOf51 (.tl .hd) (Part.all rfl) (.tmp rfl .nil)) (.cons _ (.cons _ (.cons _ (List.Sublist.refl _)))) (by repeat (first | exact Sto.le_refl _ | assumption | refine Sto.le_trans ?_ (by assumption))) ?_
        exact Or.inl ⟨by rw [EE]; decide, by rw [EE]; rfl, rfl⟩
      ·
        have h2 : ¬ (acct st.accs name).nonce ≠ nonce := fun e => by
            have : ¬ ((acct st.accs name).nonce.toNat : Int) = nonce.toNat := fun h => e (eq64I.1 h)
            simp [this] at hc1
        refine go_seq ?_
        refine go_region ?_
        refine sq rfl (q_fieldAddr (off := 1) (o' := 1) rfl Tryz.runUnderlying57 rfl Tryz.sizeOf31 rfl rfl) ?_
        refine sq rfl (q_load (v := w6 (acct st.accs name).bal) rfl Tryz.isAgg31 .hd (.s .z)) ?_
        refine sq rfl (q_move rfl) ?_
        refine sq rfl (q_lss (a := ((acct st.accs name).bal.toNat : Int)) (b := (amount.toNat : Int)) rfl rfl) ?_
        refine sq rfl (q_assign rfl) ?_
        refine gol_nil ?_
        refine go_cond rfl rfl (fun hc2 => ?_) (fun hc2 => ?_)
        ·
          have h3 : (acct st.accs name).bal < amount := of_decide_eq_true ((dec_lt64 _ _).symm.trans hc2)
          refine go_seq ?_
          refine go_region ?_
          refine sq rfl (q_buildS (ns := [1, 1, 1, 1, 1, 1]) (.zero (z := [_]) rfl (.zero (z := [_]) rfl (.zero (z := [_]) rfl (.zero (z := [_]) rfl (.zero (z := [_]) rfl (.zero (z := [_]) rfl .nil)))))) Tryz.zeroValue51 Tryz.runUnderlying51 (places51 Tryz.runUnderlying51) rfl) ?_
          refine sst rfl (n_storeA rfl rfl (vs := stCells zSV) rfl Tryz.sizeOf51 rfl (.tl .hd) (PutAt.all rfl)) ?_
          refine sq rfl (q_assign rfl) ?_
          refine gol_nil ?_
          have EE : takeErr (acct st.accs name) amount nonce = 22 := by rw [takeErr, if_neg h01, if_neg h2, if_pos h3]
          refine go_retR Tryz.func110 Tryz.results110 rfl (.cellA rfl Tryz.isAgg51 Tryz.sizeOf51 (.tl .hd) (Part.all rfl) (.tmp rfl .nil)) (.cons _ (.cons _ (.cons _ (List.Sublist.refl _)))) (by repeat (first | exact Sto.le_refl _ | assumption | refine Sto.le_trans ?_ (by assumption))) ?_
          exact Or.inl ⟨by rw [EE]; decide, by rw [EE]; rfl, rfl⟩
        ·
          have h3 : ¬ (acct st.accs name).bal < amount := of_decide_eq_false ((dec_lt64 _ _).symm.trans hc2)
          refine go_skip ?_
          refine go_inBlock ?_
          refine go_seq ?_
          refine go_region ?_
          refine sq rfl (q_fieldAddr (off := 1) (o' := 1) rfl Tryz.runUnderlying57 rfl Tryz.sizeOf31 rfl rfl) ?_
          refine sq rfl (q_load (v := w6 (acct st.accs name).bal) rfl Tryz.isAgg31 .hd (.s .z)) ?_
          refine sq rfl (q_move rfl) ?_
          refine sq rfl (q_sub64 (a := (acct st.accs name).bal) (b := amount) rfl rfl) ?_
          refine sq rfl (q_fieldAddr (off := 1) (o' := 1) rfl Tryz.runUnderlying57 rfl Tryz.sizeOf31 rfl rfl) ?_
          refine sst rfl (n_store (v := w6 ((acct st.accs name).bal - amount)) rfl rfl rfl Tryz.sizeOf31 (.s .z) .hd) ?_
          refine gol_nil ?_
          refine go_seq ?_
          refine go_region ?_
          refine sq rfl (q_fieldAddr (off := 2) (o' := 2) rfl Tryz.runUnderlying57 rfl Tryz.sizeOf31 rfl rfl) ?_
          refine sq rfl (q_load (v := w6 (acct st.accs name).nonce) rfl Tryz.isAgg31 .hd (.s (.s .z))) ?_
          refine sq rfl (q_add64 (a := (acct st.accs name).nonce) (b := 1) rfl rfl) ?_
          refine sq rfl (q_fieldAddr (off := 2) (o' := 2) rfl Tryz.runUnderlying57 rfl Tryz.sizeOf31 rfl rfl) ?_
          refine sst rfl (n_store (v := w6 ((acct st.accs name).nonce + 1)) rfl rfl rfl Tryz.sizeOf31 (.s (.s .z)) .hd) ?_
          refine gol_nil ?_
          refine go_seq ?_
          refine go_region ?_
          refine sq rfl (q_loadA (vs := stCells sv) rfl Tryz.isAgg51 Tryz.sizeOf51 (.tl (.tl .hd)) (Part.all rfl)) ?_
          refine sq rfl (q_loadA (vs := accCells ⟨(acct st.accs name).name, (acct st.accs name).bal - amount, (acct st.accs name).nonce + 1⟩) rfl Tryz.isAgg57 Tryz.sizeOf57 .hd (Part.all rfl)) ?_
          refine sn rfl (n_call rfl Tryz.call138 (c138 ((h.up hle1).more ((Keep.c2 _ _ _).trans (Keep.cons _ _))) hb hN)) ?_
          rintro v2 σ2 _ hle2 ⟨sv', L1, L2, L3, L4, L5, rfl, ho, rfl⟩
          refine sst rfl (n_storeA rfl rfl (vs := stCells _) ho.one Tryz.sizeOf51 rfl (.app _ (.app _ (.app _ (.app _ (.app _ (.tl .hd)))))) (PutAt.all rfl)) ?_
          refine sq rfl (q_assign rfl) ?_
          refine gol_nil ?_
          refine go_retR Tryz.func110 Tryz.results110 rfl (.cellA rfl Tryz.isAgg51 Tryz.sizeOf51 (.app _ (.app _ (.app _ (.app _ (.app _ (.tl .hd)))))) (Part.all rfl) (.tmp rfl .nil)) ((List.Sublist.refl _).append ((List.Sublist.refl _).append ((List.Sublist.refl _).append ((List.Sublist.refl _).append ((List.Sublist.refl _).append (.cons _ (.cons _ (.cons _ (List.Sublist.refl _))))))))) (by repeat (first | exact Sto.le_refl _ | assumption | refine Sto.le_trans ?_ (by assumption))) ?_
          exact Or.inr ⟨by rw [takeErr, if_neg h01, if_neg h2, if_neg h3], _, L1, L2, L3, L4, L5, rfl, ho, rfl⟩
theorem c111 {σ : Sto} {L : SHeap} {sv : SV} {st : LSt} {N : Nat} (h : StR σ L sv st) (hb : st.le N) (hN : N < 90000000) (name amount : UInt64) : Ctr Tryz.prog 111 #[.agg (stCells sv).toArray, w6 name, w6 amount] σ L fun v σ' L' => ∃ sv' L1 L2 L3 L4 L5, v = .agg (stCells sv').toArray ∧ StO σ' sv' (giveSt st name amount) L1 L2 L3 L4 L5 ∧ L' = L1 ++ (L2 ++ (L3 ++ (L4 ++ (L5 ++ L)))) := by
  refine ctr_enter Tryz.func111 rfl Tryz.ntmps111 (by simp) ?_
  refine go_seq ?_
  refine go_region ?_
  refine snb rfl (n_box rfl (.agg (l := stCells _))) ?_
  intro b1
  refine snb rfl (n_alloc Tryz.zeroValue51 .agg) ?_
  intro b2
  refine gol_nil ?_
  refine go_seq ?_
  refine go_region ?_
  refine sq rfl (q_loadA (vs := stCells sv) rfl Tryz.isAgg51 Tryz.sizeOf51 (.tl .hd) (Part.all rfl)) ?_
  refine sq rfl (q_move rfl) ?_
  refine sn rfl (n_call rfl Tryz.call18 (c18 (h.more (Keep.c2 _ _ _)).acc (by have := hb.accs; omega) name)) ?_
  rintro v1 σ1 _ hle1 ⟨rfl, rfl⟩
  refine snb rfl (n_alloc Tryz.zeroValue57 .agg) ?_
  intro b3
  refine sst rfl (n_storeA rfl rfl (vs := accCells (acct st.accs name)) rfl Tryz.sizeOf57 rfl .hd (PutAt.all rfl)) ?_
  refine gol_nil ?_
  refine go_seq ?_
  refine go_region ?_
  refine sq rfl (q_fieldAddr (off := 1) (o' := 1) rfl Tryz.runUnderlying57 rfl Tryz.sizeOf31 rfl rfl) ?_
  refine sq rfl (q_load (v := w6 (acct st.accs name).bal) rfl Tryz.isAgg31 .hd (.s .z)) ?_
  refine sq rfl (q_move rfl) ?_
  refine sq rfl (q_add64 (a := (acct st.accs name).bal) (b := amount) rfl rfl) ?_
  refine sq rfl (q_fieldAddr (off := 1) (o' := 1) rfl Tryz.runUnderlying57 rfl Tryz.sizeOf31 rfl rfl) ?_
  refine sst rfl (n_store (v := w6 ((acct st.accs name).bal + amount)) rfl rfl rfl Tryz.sizeOf31 (.s .z) .hd) ?_
  refine gol_nil ?_
  refine go_seq ?_
  refine go_region ?_
  refine sq rfl (q_loadA (vs := stCells sv) rfl Tryz.isAgg51 Tryz.sizeOf51 (.tl (.tl .hd)) (Part.all rfl)) ?_
  refine sq rfl (q_loadA (vs := accCells ⟨(acct st.accs name).name, (acct st.accs name).bal + amount, (acct st.accs name).nonce⟩) rfl Tryz.isAgg57 Tryz.sizeOf57 .hd (Part.all rfl)) ?_
  refine sn rfl (n_call rfl Tryz.call138 (c138 ((h.up hle1).more ((Keep.c2 _ _ _).trans (Keep.cons _ _))) hb hN)) ?_
  rintro v2 σ2 _ hle2 ⟨sv', L1, L2, L3, L4, L5, rfl, ho, rfl⟩
  refine sst rfl (n_storeA rfl rfl (vs := stCells _) ho.one Tryz.sizeOf51 rfl (.app _ (.app _ (.app _ (.app _ (.app _ (.tl .hd)))))) (PutAt.all rfl)) ?_
  refine gol_nil ?_
  refine go_retR Tryz.func111 Tryz.results111 rfl (.cellA rfl Tryz.isAgg51 Tryz.sizeOf51 (.app _ (.app _ (.app _ (.app _ (.app _ (.tl .hd)))))) (Part.all rfl) .nil) ((List.Sublist.refl _).append ((List.Sublist.refl _).append ((List.Sublist.refl _).append ((List.Sublist.refl _).append ((List.Sublist.refl _).append (.cons _ (.cons _ (.cons _ (List.Sublist.refl _))))))))) (by repeat (first | exact Sto.le_refl _ | assumption | refine Sto.le_trans ?_ (by assumption))) ?_
  exact ⟨_, L1, L2, L3, L4, L5, rfl, ho, rfl⟩
end Go.Eng
