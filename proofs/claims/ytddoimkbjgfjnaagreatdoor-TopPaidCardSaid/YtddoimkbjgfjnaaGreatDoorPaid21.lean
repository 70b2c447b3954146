/- A part of the proof of this: Payments and locks of a shard come out as they stand on paper (TopPaid): for every input, with the listed package variables as the program's text lays them, TopPaid answers true and its argument reads as it did. -/
import Derived.Test.YtddoimkbjgfjnaaGreatDoorPaid15
import Derived.Test.YtddoimkbjgfjnaaGreatDoorPaid10
import Derived.Test.YtddoimkbjgfjnaaGreatDoorPaid11
namespace Go.Eng
open Go Go.Proofs
set_option maxRecDepth 20000
theorem eq64dec {a b : UInt64} : decide ((a.toNat : Int) = (b.toNat : Int)) = decide (a = b) := decide_eq_decide.2 eq64I
theorem c19 {σ : Sto} {L L' : SHeap} {p i n : Nat} {lv : Value} {xs : Bts} (hb : Bytes σ lv xs) (hl : xs.length < 4611686018427387904) (hi : i < 4611686018427387904) (hn0 : 0 < n) (hn : n ≤ 256) (hu : Upd L p (giverObj lv i) (giverObj lv (i + 1)) L') : Ctr Tryz.prog 19 #[.pointer (some ⟨p, 0, none⟩), iv n] σ L fun v σ' L2 => (∃ m : Nat, v = iv m ∧ m < n) ∧ σ' = σ ∧ L2 = L' := by
  obtain ⟨q, c, rfl, hlc, hx⟩ := hb.out
  have hku : Kn σ L' p (giverObj (.slice q xs.length c) (i + 1)) := .inr hu.memR
  refine ctr_enter Tryz.func19 rfl Tryz.ntmps19 (by simp) ?_
  refine go_seq ?_
  refine go_region ?_
  refine sq rfl (q_assign rfl) ?_
  refine gol_nil ?_
  refine go_seq ?_
  refine go_region ?_
  refine sq rfl (q_move rfl) ?_
  refine sq rfl (q_nil rfl) ?_
  refine sq rfl (q_fieldAddr (off := 1) (o' := 1) rfl Tryz.runUnderlying39 rfl Tryz.sizeOf3 rfl rfl) ?_
  refine sq rfl (q_load (v := iv (i : Nat)) rfl Tryz.isAgg3 (.inr hu.mem) (.s .z)) ?_
  refine sq rfl (q_add (c := ((i + 1 : Nat) : Int)) rfl rfl (i64_in (by omega) (by omega))) ?_
  refine sq rfl (q_nil rfl) ?_
  refine sq rfl (q_fieldAddr (off := 1) (o' := 1) rfl Tryz.runUnderlying39 rfl Tryz.sizeOf3 rfl rfl) ?_
  refine sst rfl (n_store rfl rfl rfl Tryz.sizeOf3 (.s .z) hu) ?_
  refine gol_nil ?_
  refine go_seq ?_
  refine go_seq ?_
  refine go_draws (n := 36) _ mix rfl (by decide +kernel) (Keep.refl _) ?_
  refine dq 0 rfl rfl rfl rfl (q_move rfl) ?_
  refine dq 1 rfl rfl rfl rfl (q_nil rfl) ?_
  refine dq 2 rfl rfl rfl rfl (q_fieldAddr (off := 1) (o' := 1) rfl Tryz.runUnderlying39 rfl Tryz.sizeOf3 rfl rfl) ?_
  refine dq 3 rfl rfl rfl rfl (q_load (v := iv (i + 1 : Nat)) rfl Tryz.isAgg3 hku (.s .z)) ?_
  refine dq 4 rfl rfl rfl rfl (q_move rfl) ?_
  refine dq 5 rfl rfl rfl rfl (q_nil rfl) ?_
  refine dq 6 rfl rfl rfl rfl (q_fieldAddr (off := 0) (o' := 0) rfl Tryz.runUnderlying39 rfl Tryz.sizeOf22 rfl rfl) ?_
  refine dq 7 rfl rfl rfl rfl (q_load rfl Tryz.isAgg22 hku .z) ?_
  refine dq 8 rfl rfl rfl rfl (q_len rfl Tryz.runUnderlying22) ?_
  refine dq 9 rfl rfl rfl rfl (q_gtr rfl rfl) ?_
  refine dend rfl ?_
  refine go_cond rfl rfl (fun hc0 => ?_) (fun hc0 => ?_)
  ·
    refine go_seq ?_
    refine go_region ?_
    refine sq rfl (q_assign rfl) ?_
    refine gol_nil ?_
    refine go_ret Tryz.func19 Tryz.results19 rfl rfl rfl (by repeat (first | exact Sto.le_refl _ | assumption | refine Sto.le_trans ?_ (by assumption))) ?_
    exact ⟨⟨0, rfl, hn0⟩, rfl, rfl⟩
  ·
    have hlt : i < xs.length := by
      have := of_decide_eq_false hc0
      omega
    obtain ⟨b, o, ds, T', fr', hp, hkn, hpt⟩ := hx.get (by intro e; have := congrArg List.length e; rw [bcells_len] at this; simp at this; rw [this] at hlt; simp at hlt)
    subst hp
    refine go_skip ?_
    refine go_seq ?_
    refine go_draws (n := 36) _ mix rfl (by decide +kernel) (Keep.refl _) ?_
    refine dq 0 rfl rfl rfl rfl (q_move rfl) ?_
    refine dq 1 rfl rfl rfl rfl (q_nil rfl) ?_
    refine dq 2 rfl rfl rfl rfl (q_fieldAddr (off := 0) (o' := 0) rfl Tryz.runUnderlying39 rfl Tryz.sizeOf22 rfl rfl) ?_
    refine dq 3 rfl rfl rfl rfl (q_load rfl Tryz.isAgg22 hku .z) ?_
    refine dq 4 rfl rfl rfl rfl (q_move rfl) ?_
    refine dq 5 rfl rfl rfl rfl (q_nil rfl) ?_
    refine dq 6 rfl rfl rfl rfl (q_fieldAddr (off := 1) (o' := 1) rfl Tryz.runUnderlying39 rfl Tryz.sizeOf3 rfl rfl) ?_
    refine dq 7 rfl rfl rfl rfl (q_load (v := iv (i + 1 : Nat)) rfl Tryz.isAgg3 hku (.s .z)) ?_
    refine dq 8 rfl rfl rfl rfl (q_sub (c := (i : Int)) rfl rfl (by rw [show ((i + 1 : Nat) : Int) - 1 = i by omega]; exact i64_in (by omega) (by omega))) ?_
    refine dq 9 rfl rfl rfl rfl (q_indexAddr (j := i) (o' := o + i) rfl rfl Tryz.runUnderlying22 Tryz.sizeOf5 rfl hlt (by omega)) ?_
    refine dq 10 rfl rfl rfl rfl (q_load (cs := ds.toList) (v := bv xs[i]) rfl Tryz.isAgg5 (hkn.imp id (fun h => nomatch h)) (hpt.at (bcells_at hlt))) ?_
    refine dq 11 rfl rfl rfl rfl (q_conv (m := (xs[i].toNat : Int)) rfl Tryz.runUnderlying5 Tryz.runUnderlying3 (i64_in (by omega) (by have := xs[i].toNat_lt; omega))) ?_
    refine dq 12 rfl rfl rfl rfl (q_move rfl) ?_
    refine dq 13 rfl rfl rfl rfl (q_rem (c := ((xs[i].toNat % n : Nat) : Int)) rfl rfl (by omega) (by rw [Int.tmod_eq_emod_of_nonneg (by omega)]; omega)) ?_
    refine dq 14 rfl rfl rfl rfl (q_assign rfl) ?_
    refine dend rfl ?_
    refine go_ret Tryz.func19 Tryz.results19 rfl rfl rfl (by repeat (first | exact Sto.le_refl _ | assumption | refine Sto.le_trans ?_ (by assumption))) ?_
    exact ⟨⟨_, rfl, Nat.mod_lt _ hn0⟩, rfl, rfl⟩
theorem c22 {σ : Sto} {L : SHeap} (c h l : Int) (h1 : 1 ≤ h) (h2 : h ≤ 1000000) (l1 : 1 ≤ l) (l2 : l ≤ 1000000) : Ctr Tryz.prog 22 #[iv c, iv h, iv l] σ L fun v σ' L' => v = .agg (hdrCells (hdOf c h l)).toArray ∧ σ' = σ ∧ L' = L := by
  refine ctr_enter Tryz.func22 rfl Tryz.ntmps22 (by simp) ?_
  refine go_seq ?_
  refine go_region ?_
  refine snb rfl (n_alloc zero71 .agg) ?_
  intro b1
  refine gol_nil ?_
  refine go_seq ?_
  refine go_region ?_
  refine sq rfl (q_move rfl) ?_
  refine sq rfl (q_move rfl) ?_
  refine sq rfl (q_sub (a := h) (b := 1) (c := h - 1) rfl rfl (i64_in (by omega) (by omega))) ?_
  refine sq rfl (q_move rfl) ?_
  refine sq rfl (q_quo (a := h - 1) (b := l) (c := (h - 1).tdiv l) rfl rfl (by omega) (ep_wrap h1 h2 l1)) ?_
  refine sq rfl (q_move rfl) ?_
  refine sq rfl (q_move rfl) ?_
  refine sq rfl (q_buildS (ns := [1, 1, 1, 1, 32, 32, 32, 1]) (l' := hdrCells (hdOf c h l)) (.put (z := [_]) rfl (.one rfl) rfl rfl (.put (z := [_]) rfl (.one rfl) rfl rfl (.put (z := [_]) rfl (.one rfl) rfl rfl (.put (z := [_]) rfl (.one rfl) rfl rfl (.zero (z := bcells z32) rfl (.zero (z := bcells z32) rfl (.zero (z := bcells z32) rfl (.zero (z := [_]) rfl .nil)))))))) zero71 Tryz.runUnderlying71 (places71 Tryz.runUnderlying71) rfl) ?_
  refine sst rfl (n_storeA rfl rfl (vs := hdrCells (hdOf c h l)) (hdr_one _) Tryz.sizeOf71 rfl .hd (PutAt.all rfl)) ?_
  refine gol_nil ?_
  refine go_retR Tryz.func22 Tryz.results22 rfl (.cellA rfl Tryz.isAgg71 Tryz.sizeOf71 .hd (Part.all rfl) .nil) (.cons _ (List.Sublist.refl _)) (by repeat (first | exact Sto.le_refl _ | assumption | refine Sto.le_trans ?_ (by assumption))) ?_
  exact ⟨rfl, rfl, rfl⟩
theorem c17 {σ : Sto} {L : SHeap} {v w : Value} {xs : List Int} (hv : Sl σ L v 1 ic xs) (hw : Sl σ L w 1 ic xs) (hn : xs.length < 1000000000) : Ctr Tryz.prog 17 #[v, w] σ L fun r σ' L' => r = .bool true ∧ σ' = σ ∧ L' = L := by
  obtain ⟨p, c, rfl⟩ := hv.val
  obtain ⟨q, e, rfl⟩ := hw.val
  have hc := hv.cells.2.2
  have hd := hw.cells.2.2
  refine ctr_enter Tryz.func17 rfl Tryz.ntmps17 (by simp) ?_
  refine go_seq ?_
  refine go_region ?_
  refine sq rfl (q_assign rfl) ?_
  refine gol_nil ?_
  refine go_seq ?_
  refine go_seq ?_
  refine go_region ?_
  refine sq rfl (q_move rfl) ?_
  refine sq rfl (q_len rfl Tryz.runUnderlying43) ?_
  refine sq rfl (q_move rfl) ?_
  refine sq rfl (q_len rfl Tryz.runUnderlying43) ?_
  refine sq rfl (q_neq (a := (xs.length : Int)) (b := (xs.length : Int)) rfl rfl) ?_
  rw [show decide ((xs.length : Int) = (xs.length : Int)) = true from decide_eq_true (rfl)]
  refine gol_nil ?_
  refine go_condF rfl rfl ?_
  refine go_skip ?_
  refine go_seq ?_
  refine go_seq ?_
  refine go_region ?_
  refine sq rfl (q_move rfl) ?_
  refine sq rfl (q_len rfl Tryz.runUnderlying43) ?_
  refine sq rfl (q_move rfl) ?_
  refine gol_nil ?_
  refine go_block ?_
  refine go_loop (X := Nat) (fun i => i ≤ xs.length) (fun i => [(0, .slice p xs.length c), (1, .slice q xs.length e), (12, iv (xs.length : Nat)), (13, iv (i : Nat))]) (fun _ => σ) (fun _ => L) (fun i => xs.length - i) 0 (Nat.zero_le _) ⟨rfl, rfl, rfl, rfl, trivial⟩ rfl rfl ?_
  rintro i hi next
  refine go_seq ?_
  refine go_region ?_
  refine sq rfl (q_lss (a := (i : Int)) (b := (xs.length : Int)) rfl rfl) ?_
  refine gol_nil ?_
  refine go_seq ?_
  refine go_cond rfl rfl (fun hc1 => ?_) (fun hc1 => ?_)
  ·
    have hlt : i < xs.length := by have := of_decide_eq_true hc1; omega
    obtain ⟨b, o, ds, T', fr', rfl, hkn, hpt⟩ := hc.get (by intro e; have := hc.1; rw [e] at this; simp at this; omega)
    obtain ⟨b2, o2, ds2, T2, fr2, rfl, hkn2, hpt2⟩ := hd.get (by intro e; have := hd.1; rw [e] at this; simp at this; omega)
    have h1 : At ds.toList (o + i) (iv xs[i]) := by have := hpt.at (ic_at hlt); exact this
    have h2 : At ds2.toList (o2 + i) (iv xs[i]) := by have := hpt2.at (ic_at hlt); exact this
    refine go_skip ?_
    refine go_seq ?_
    refine go_block ?_
    refine go_seq ?_
    refine go_region ?_
    refine sq rfl (q_move rfl) ?_
    refine sq rfl (q_assign rfl) ?_
    refine gol_nil ?_
    refine go_seq ?_
    refine go_draws (n := 26) _ mix rfl (by decide +kernel) (Keep.refl _) ?_
    refine dq 0 rfl rfl rfl rfl (q_move rfl) ?_
    refine dq 1 rfl rfl rfl rfl (q_move rfl) ?_
    refine dq 2 rfl rfl rfl rfl (q_indexAddr (j := i) (o' := o + i) rfl rfl Tryz.runUnderlying43 Tryz.sizeOf52 rfl hlt (by omega)) ?_
    refine dq 3 rfl rfl rfl rfl (q_load (cs := ds.toList) (v := iv xs[i]) rfl Tryz.isAgg52 hkn h1) ?_
    refine dq 4 rfl rfl rfl rfl (q_move rfl) ?_
    refine dq 5 rfl rfl rfl rfl (q_move rfl) ?_
    refine dq 6 rfl rfl rfl rfl (q_indexAddr (j := i) (o' := o2 + i) rfl rfl Tryz.runUnderlying43 Tryz.sizeOf52 rfl hlt (by omega)) ?_
    refine dq 7 rfl rfl rfl rfl (q_load (cs := ds2.toList) (v := iv xs[i]) rfl Tryz.isAgg52 hkn2 h2) ?_
    refine dq 8 rfl rfl rfl rfl (q_neq (a := xs[i]) (b := xs[i]) rfl rfl) ?_
    rw [show decide (xs[i] = xs[i]) = true from decide_eq_true (rfl)]
    refine dend rfl ?_
    refine go_condF rfl rfl ?_
    refine go_skip ?_
    refine go_inBlock ?_
    refine go_region ?_
    refine sq rfl (q_add (a := (i : Int)) (b := 1) (c := ((i + 1 : Nat) : Int)) rfl rfl (i64_in (by omega) (by omega))) ?_
    refine sq rfl (q_move rfl) ?_
    refine gol_nil ?_
    exact go_next (next (i + 1) hlt (by omega)) ⟨rfl, rfl, rfl, rfl, trivial⟩
  ·
    refine go_exit rfl ?_
    refine go_seq ?_
    refine go_region ?_
    refine sq rfl (q_assign rfl) ?_
    refine gol_nil ?_
    refine go_ret Tryz.func17 Tryz.results17 rfl rfl rfl (by repeat (first | exact Sto.le_refl _ | assumption | refine Sto.le_trans ?_ (by assumption))) ?_
    exact ⟨rfl, rfl, rfl⟩
theorem c60 {σ : Sto} {L : SHeap} {v : Value} {d : Bts} {xs : List Bts} (hv : Sl σ L v 32 bcells xs) (hd : d.length = 32) (hn : xs.length < 1000000000) : Ctr Tryz.prog 60 #[v, .agg (bcells d).toArray] σ L fun r σ' L' => r = .bool (decide (d ∈ xs)) ∧ σ' = σ ∧ L' = L := by
  obtain ⟨p, c, rfl⟩ := hv.val
  have hc := hv.cells.2.2
  refine ctr_enter Tryz.func60 rfl Tryz.ntmps60 (by simp) ?_
  refine go_seq ?_
  refine go_region ?_
  refine snb rfl (n_box rfl .agg) ?_
  intro b1
  refine sq rfl (q_assign rfl) ?_
  refine gol_nil ?_
  refine go_seq ?_
  refine go_seq ?_
  refine go_region ?_
  refine sq rfl (q_move rfl) ?_
  refine sq rfl (q_len rfl Tryz.runUnderlying48) ?_
  refine sq rfl (q_move rfl) ?_
  refine gol_nil ?_
  refine go_block ?_
  refine go_loop (X := Nat) (fun i => i ≤ xs.length ∧ decide (d ∈ xs) = decide (d ∈ xs.drop i)) (fun i => [(0, .slice p xs.length c), (3, .pointer (some ⟨b1, 0, none⟩)), (7, iv (xs.length : Nat)), (8, iv (i : Nat))]) (fun _ => σ) (fun _ => (b1, .cells (bcells d).toArray 27 (0, 0)) :: L) (fun i => xs.length - i) 0 ⟨Nat.zero_le _, rfl⟩ ⟨rfl, rfl, rfl, rfl, trivial⟩ rfl rfl ?_
  rintro i ⟨hi, hm⟩ next
  refine go_seq ?_
  refine go_region ?_
  refine sq rfl (q_lss (a := (i : Int)) (b := (xs.length : Int)) rfl rfl) ?_
  refine gol_nil ?_
  refine go_seq ?_
  refine go_cond rfl rfl (fun hc0 => ?_) (fun hc0 => ?_)
  ·
    have hlt : i < xs.length := by have := of_decide_eq_true hc0; omega
    rw [List.drop_eq_getElem_cons hlt] at hm
    have hl : xs[i].length = 32 := by have := hv.len xs[i] (List.getElem_mem hlt); rwa [bcells_len] at this
    obtain ⟨b, o, ds, T', fr', rfl, hkn, hpt⟩ := hc.get (by intro e; have := hc.1; rw [e] at this; simp at this; omega)
    have h1 : Part ds.toList (o + i * 32) 32 (bcells xs[i]) := by have := cells_part hpt hlt; rwa [flat_at hv.len hlt] at this
    refine go_skip ?_
    refine go_seq ?_
    refine go_block ?_
    refine go_seq ?_
    refine go_region ?_
    refine sq rfl (q_move rfl) ?_
    refine sq rfl (q_assign rfl) ?_
    refine gol_nil ?_
    refine go_seq ?_
    refine go_draws (n := 18) _ mix rfl (by decide +kernel) (Keep.refl _) ?_
    refine dq 0 rfl rfl rfl rfl (q_move rfl) ?_
    refine dq 1 rfl rfl rfl rfl (q_move rfl) ?_
    refine dq 2 rfl rfl rfl rfl (q_indexAddr (j := i) (o' := o + i * 32) rfl rfl Tryz.runUnderlying48 Tryz.sizeOf27 rfl hlt rfl) ?_
    refine dq 3 rfl rfl rfl rfl (q_loadA rfl Tryz.isAgg27 Tryz.sizeOf27 (.tl hkn) h1) ?_
    refine dq 4 rfl rfl rfl rfl (q_loadA rfl Tryz.isAgg27 Tryz.sizeOf27 .hd (Part.all (by rw [bcells_len, hd]))) ?_
    refine dq 5 rfl rfl rfl rfl (q_eqAgg (r := decide (xs[i] = d)) rfl rfl eg27 (run_eqDig _ _ _ hl hd)) ?_
    refine dend rfl ?_
    refine go_cond rfl rfl (fun hc1 => ?_) (fun hc1 => ?_)
    ·
      have he : xs[i] = d := of_decide_eq_true hc1
      refine go_seq ?_
      refine go_region ?_
      refine sq rfl (q_assign rfl) ?_
      refine gol_nil ?_
      refine go_drop1 ?_
      refine go_ret Tryz.func60 Tryz.results60 rfl rfl rfl (by repeat (first | exact Sto.le_refl _ | assumption | refine Sto.le_trans ?_ (by assumption))) ?_
      exact ⟨by rw [hm, decide_eq_true (List.mem_cons.2 (.inl he.symm))]; rfl, rfl, rfl⟩
    ·
      have he : ¬ xs[i] = d := of_decide_eq_false hc1
      refine go_skip ?_
      refine go_inBlock ?_
      refine go_region ?_
      refine sq rfl (q_add (a := (i : Int)) (b := 1) (c := ((i + 1 : Nat) : Int)) rfl rfl (i64_in (by omega) (by omega))) ?_
      refine sq rfl (q_move rfl) ?_
      refine gol_nil ?_
      refine go_next (next (i + 1) ⟨hlt, ?_⟩ (by omega)) ⟨rfl, rfl, rfl, rfl, trivial⟩
      rw [hm]; exact decide_eq_decide.2 ⟨fun h => (List.mem_cons.1 h).resolve_left (fun e => he e.symm), List.mem_cons_of_mem _⟩
  ·
    have he : i = xs.length := by have := of_decide_eq_false hc0; omega
    subst he
    rw [List.drop_length] at hm
    refine go_exit rfl ?_
    refine go_seq ?_
    refine go_region ?_
    refine sq rfl (q_assign rfl) ?_
    refine gol_nil ?_
    refine go_drop1 ?_
    refine go_ret Tryz.func60 Tryz.results60 rfl rfl rfl (by repeat (first | exact Sto.le_refl _ | assumption | refine Sto.le_trans ?_ (by assumption))) ?_
    exact ⟨by rw [hm]; rfl, rfl, rfl⟩
theorem c57 {σ : Sto} {L Lf : SHeap} {p : Nat} {f : Fol} (hf : FolO p f Lf) {d : Bts} (hd : d.length = 32) (hn : f.locks.length < 1000000000) : Ctr Tryz.prog 57 #[.pointer (some ⟨p, 0, none⟩), .agg (bcells d).toArray] σ (Lf ++ L) fun r σ' L' => r = iv (f.lock d) ∧ σ' = σ ∧ L' = Lf ++ L := by
  obtain ⟨mb, es, ck, lv, cv, Ll, Lc, rfl, hp, hl, hc⟩ := hf.out
  obtain ⟨q, c, rfl⟩ := hl.val
  have hs : Sl σ (Ll ++ Lc ++ L) (.slice q f.locks.length c) 38 lockCells f.locks := ((hl.slL σ Lc (by decide)).more (Keep.appL _ _))
  have hcs := hs.cells.2.2
  refine ctr_enter Tryz.func57 rfl Tryz.ntmps57 (by simp) ?_
  refine go_seq ?_
  refine go_region ?_
  refine snb rfl (n_box rfl .agg) ?_
  intro b1
  refine sq rfl (q_assign rfl) ?_
  refine gol_nil ?_
  refine go_seq ?_
  refine go_seq ?_
  refine go_region ?_
  refine sq rfl (q_move rfl) ?_
  refine sq rfl (q_nil rfl) ?_
  refine sq rfl (q_fieldAddr (off := 2) (o' := 2) rfl Tryz.runUnderlying140 rfl Tryz.sizeOf47 rfl rfl) ?_
  refine sq rfl (q_load (cs := folCells _ _ _ _) rfl Tryz.isAgg47 (.tl .hd) (.s (.s .z))) ?_
  refine sq rfl (q_len rfl Tryz.runUnderlying47) ?_
  refine sq rfl (q_move rfl) ?_
  refine gol_nil ?_
  refine go_block ?_
  refine go_loop (X := Nat) (fun i => i ≤ f.locks.length ∧ f.lock d = lkAt (f.locks.drop i) d i) (fun i => [(0, .pointer (some ⟨p, 0, none⟩)), (3, .pointer (some ⟨b1, 0, none⟩)), (10, iv (f.locks.length : Nat)), (11, iv (i : Nat))]) (fun _ => σ) (fun _ => (b1, .cells (bcells d).toArray 27 (0, 0)) :: (p, folObj f.chain mb (.slice q f.locks.length c) cv) :: (mb, mobj w6 es ck) :: (Ll ++ Lc) ++ L) (fun i => f.locks.length - i) 0 ⟨Nat.zero_le _, rfl⟩ ⟨rfl, rfl, rfl, rfl, trivial⟩ rfl rfl ?_
  rintro i ⟨hi, hm⟩ next
  refine go_seq ?_
  refine go_region ?_
  refine sq rfl (q_lss (a := (i : Int)) (b := (f.locks.length : Int)) rfl rfl) ?_
  refine gol_nil ?_
  refine go_seq ?_
  refine go_cond rfl rfl (fun hc0 => ?_) (fun hc0 => ?_)
  ·
    have hlt : i < f.locks.length := by have := of_decide_eq_true hc0; omega
    rw [List.drop_eq_getElem_cons hlt, lkAt] at hm
    have hlen : f.locks[i].id.length = 32 := by have := hl.len f.locks[i] (List.getElem_mem hlt); simp [lockCells, bcells] at this; omega
    obtain ⟨b, o, ds, T', fr', rfl, hkn, hpt⟩ := hcs.get (by intro e; have := hcs.1; rw [e] at this; simp at this; omega)
    have h1 : Part ds.toList (o + i * 38) 38 (lockCells f.locks[i]) := by have := cells_part hpt hlt; rwa [flat_at hl.len hlt] at this
    have h2 : Part ds.toList (o + i * 38 + 0) 32 (bcells f.locks[i].id) := h1.part (lockCells_head _ ▸ Part.mk (a := []) rfl (by rw [bcells_len, hlen]))
    refine go_skip ?_
    refine go_seq ?_
    refine go_block ?_
    refine go_seq ?_
    refine go_region ?_
    refine sq rfl (q_move rfl) ?_
    refine sq rfl (q_assign rfl) ?_
    refine gol_nil ?_
    refine go_seq ?_
    refine go_draws (n := 26) _ mix rfl (by decide +kernel) (Keep.refl _) ?_
    refine dq 0 rfl rfl rfl rfl (q_move rfl) ?_
    refine dq 1 rfl rfl rfl rfl (q_nil rfl) ?_
    refine dq 2 rfl rfl rfl rfl (q_fieldAddr (off := 2) (o' := 2) rfl Tryz.runUnderlying140 rfl Tryz.sizeOf47 rfl rfl) ?_
    refine dq 3 rfl rfl rfl rfl (q_load (cs := folCells _ _ _ _) rfl Tryz.isAgg47 (.tl .hd) (.s (.s .z))) ?_
    refine dq 4 rfl rfl rfl rfl (q_move rfl) ?_
    refine dq 5 rfl rfl rfl rfl (q_indexAddr (j := i) (o' := o + i * 38) rfl rfl Tryz.runUnderlying47 Tryz.sizeOf60 rfl hlt rfl) ?_
    refine dq 6 rfl rfl rfl rfl (q_fieldAddr (off := 0) (o' := o + i * 38 + 0) rfl Tryz.runUnderlying60 rfl Tryz.sizeOf27 rfl rfl) ?_
    refine dq 7 rfl rfl rfl rfl (q_loadA rfl Tryz.isAgg27 Tryz.sizeOf27 (.tl (.tl (.tl hkn))) h2) ?_
    refine dq 8 rfl rfl rfl rfl (q_loadA rfl Tryz.isAgg27 Tryz.sizeOf27 .hd (Part.all (by rw [bcells_len, hd]))) ?_
    refine dq 9 rfl rfl rfl rfl (q_eqAgg (r := decide (f.locks[i].id = d)) rfl rfl eg27 (run_eqDig _ _ _ hlen hd)) ?_
    refine dend rfl ?_
    refine go_cond rfl rfl (fun hc1 => ?_) (fun hc1 => ?_)
    ·
      have he : f.locks[i].id = d := of_decide_eq_true hc1
      rw [if_pos he] at hm
      refine go_seq ?_
      refine go_region ?_
      refine sq rfl (q_move rfl) ?_
      refine sq rfl (q_assign rfl) ?_
      refine gol_nil ?_
      refine go_drop1 ?_
      refine go_ret Tryz.func57 Tryz.results57 rfl rfl rfl (by repeat (first | exact Sto.le_refl _ | assumption | refine Sto.le_trans ?_ (by assumption))) ?_
      exact ⟨by rw [hm]; rfl, rfl, rfl⟩
    ·
      have he : ¬ f.locks[i].id = d := of_decide_eq_false hc1
      rw [if_neg he] at hm
      refine go_skip ?_
      refine go_inBlock ?_
      refine go_region ?_
      refine sq rfl (q_add (a := (i : Int)) (b := 1) (c := ((i + 1 : Nat) : Int)) rfl rfl (i64_in (by omega) (by omega))) ?_
      refine sq rfl (q_move rfl) ?_
      refine gol_nil ?_
      exact go_next (next (i + 1) ⟨hlt, hm⟩ (by omega)) ⟨rfl, rfl, rfl, rfl, trivial⟩
  ·
    have he : i = f.locks.length := by have := of_decide_eq_false hc0; omega
    subst he
    rw [List.drop_length] at hm
    refine go_exit rfl ?_
    refine go_seq ?_
    refine go_region ?_
    refine sq rfl (q_assign rfl) ?_
    refine gol_nil ?_
    refine go_drop1 ?_
    refine go_ret Tryz.func57 Tryz.results57 rfl rfl rfl (by repeat (first | exact Sto.le_refl _ | assumption | refine Sto.le_trans ?_ (by assumption))) ?_
    exact ⟨by rw [hm]; rfl, rfl, rfl⟩
theorem c55 {σ : Sto} {L Lf : SHeap} {p : Nat} {f : Fol} (hf : FolO p f Lf) {x : Tx} {fv : Value} (hx : x.id.length = 32) (hfv : oneCell fv = true) : Ctr Tryz.prog 55 #[.pointer (some ⟨p, 0, none⟩), .agg (txCells x fv).toArray] σ (Lf ++ L) fun r σ' L' => r = iv (f.spends x.src x.amount x.nonce) ∧ σ' = σ ∧ L' = Lf ++ L := by
  obtain ⟨mb, es, ck, lv, cv, Ll, Lc, rfl, hp, hl, hc⟩ := hf.out
  refine ctr_enter Tryz.func55 rfl Tryz.ntmps55 (by simp) ?_
  refine go_seq ?_
  refine go_region ?_
  refine snb rfl (n_box rfl (.agg (l := txCells x fv))) ?_
  intro b1
  refine sq rfl (q_assign rfl) ?_
  refine gol_nil ?_
  refine go_seq ?_
  refine go_draws (n := 34) _ mix rfl (by decide +kernel) (Keep.refl _) ?_
  refine dq 0 rfl rfl rfl rfl (q_move rfl) ?_
  refine dq 1 rfl rfl rfl rfl (q_nil rfl) ?_
  refine dq 2 rfl rfl rfl rfl (q_fieldAddr (off := 1) (o' := 1) rfl Tryz.runUnderlying140 rfl Tryz.sizeOf138 rfl rfl) ?_
  refine dq 3 rfl rfl rfl rfl (q_load (cs := folCells _ _ _ _) rfl Tryz.isAgg138 (.tl .hd) (.s .z)) ?_
  refine dq 4 rfl rfl rfl rfl (q_fieldAddr (off := 1) (o' := 1) rfl Tryz.runUnderlying42 rfl Tryz.sizeOf31 rfl rfl) ?_
  refine dq 5 rfl rfl rfl rfl (q_load (cs := txCells x fv) (v := w6 x.src) rfl Tryz.isAgg31 .hd (.s .z)) ?_
  refine dq 6 rfl rfl rfl rfl (q_lookup (es := es) (k := x.src) (r := purV (f.pur x.src)) keyU31 rfl rfl Tryz.runUnderlying138 trivial (fun _ _ => trivial) zero142 (.tl (.tl .hd)) (hp.get _)) ?_
  refine dnb 7 rfl rfl rfl rfl (by decide +kernel) (n_alloc zero142 .agg) (Keep.refl _) ?_
  intro b2
  refine dsta 8 rfl rfl rfl rfl (by decide +kernel) (by decide +kernel) (n_storeA rfl rfl (vs := purCells (f.pur x.src)) rfl Tryz.sizeOf142 rfl .hd (PutAt.all rfl)) ?_
  refine dend rfl ?_
  refine go_seq ?_
  refine go_block ?_
  refine go_seq ?_
  refine go_region ?_
  refine sq rfl (q_fieldAddr (off := 3) (o' := 3) rfl Tryz.runUnderlying42 rfl Tryz.sizeOf31 rfl rfl) ?_
  refine sq rfl (q_load (cs := txCells x fv) (v := w6 x.amount) rfl Tryz.isAgg31 (.tl .hd) (.s (.s (.s .z)))) ?_
  refine sq rfl (q_eql (a := (x.amount.toNat : Int)) (b := 0) rfl rfl) ?_
  rcases Classical.em ((x.amount.toNat : Int) = 0) with h1 | h1
  ·
    rw [show decide ((x.amount.toNat : Int) = 0) = true from decide_eq_true h1]
    refine sq rfl (q_move rfl) ?_
    refine ss rfl rfl ?_
    refine ss rfl rfl ?_
    refine ss rfl rfl ?_
    refine sq rfl (q_pick rfl rfl rfl rfl) ?_
    refine sq rfl (q_assign rfl) ?_
    refine gol_nil ?_
    refine go_condT rfl rfl ?_
    refine go_seq ?_
    refine go_region ?_
    refine sq rfl (q_assign rfl) ?_
    refine gol_nil ?_
    refine go_drop1 (go_drop1 ?_)
    refine go_ret Tryz.func55 Tryz.results55 rfl rfl rfl (by repeat (first | exact Sto.le_refl _ | assumption | refine Sto.le_trans ?_ (by assumption))) ?_
    exact ⟨by rw [Fol.spends, if_pos (.inl (u64z h1))]; rfl, rfl, rfl⟩
  ·
    rw [show decide ((x.amount.toNat : Int) = 0) = false from decide_eq_false h1]
    refine sq rfl (q_move rfl) ?_
    refine sqg rfl rfl (q_fieldAddr (off := 3) (o' := 3) rfl Tryz.runUnderlying42 rfl Tryz.sizeOf31 rfl rfl) ?_
    refine sqg rfl rfl (q_load (cs := txCells x fv) (v := w6 x.amount) rfl Tryz.isAgg31 (.tl .hd) (.s (.s (.s .z)))) ?_
    refine sqg rfl rfl (q_gtr (a := (x.amount.toNat : Int)) (b := 4611686018427387904) rfl rfl) ?_
    refine sq rfl (q_pick rfl rfl rfl rfl) ?_
    refine sq rfl (q_assign rfl) ?_
    refine gol_nil ?_
    refine go_cond rfl rfl (fun hc0 => ?_) (fun hc0 => ?_)
    ·
      have h2 : 4611686018427387904 < x.amount.toNat := by have := of_decide_eq_true hc0; omega
      refine go_seq ?_
      refine go_region ?_
      refine sq rfl (q_assign rfl) ?_
      refine gol_nil ?_
      refine go_drop1 (go_drop1 ?_)
      refine go_ret Tryz.func55 Tryz.results55 rfl rfl rfl (by repeat (first | exact Sto.le_refl _ | assumption | refine Sto.le_trans ?_ (by assumption))) ?_
      exact ⟨by rw [Fol.spends, if_pos (.inr h2)]; rfl, rfl, rfl⟩
    ·
      have h2 : ¬ (x.amount = 0 ∨ 4611686018427387904 < x.amount.toNat) := by
        have := of_decide_eq_false hc0
        rintro (h | h)
        · rw [h] at h1; exact h1 rfl
        · omega
      refine go_seq ?_
      refine go_region ?_
      refine sq rfl (q_fieldAddr (off := 4) (o' := 4) rfl Tryz.runUnderlying42 rfl Tryz.sizeOf31 rfl rfl) ?_
      refine sq rfl (q_load (cs := txCells x fv) (v := w6 x.nonce) rfl Tryz.isAgg31 (.tl .hd) (.s (.s (.s (.s .z))))) ?_
      refine sq rfl (q_fieldAddr (off := 1) (o' := 1) rfl Tryz.runUnderlying142 rfl Tryz.sizeOf31 rfl rfl) ?_
      refine sq rfl (q_load (v := w6 (f.pur x.src).nonce) rfl Tryz.isAgg31 .hd (.s .z)) ?_
      refine sq rfl (q_neq (a := (x.nonce.toNat : Int)) (b := ((f.pur x.src).nonce.toNat : Int)) rfl rfl) ?_
      refine sq rfl (q_assign rfl) ?_
      refine gol_nil ?_
      refine go_cond rfl rfl (fun hc1 => ?_) (fun hc1 => ?_)
      ·
        have h3 : x.nonce ≠ (f.pur x.src).nonce := fun e => by rw [e] at hc1; simp at hc1
        refine go_seq ?_
        refine go_region ?_
        refine sq rfl (q_assign rfl) ?_
        refine gol_nil ?_
        refine go_drop1 (go_drop1 ?_)
        refine go_ret Tryz.func55 Tryz.results55 rfl rfl rfl (by repeat (first | exact Sto.le_refl _ | assumption | refine Sto.le_trans ?_ (by assumption))) ?_
        exact ⟨by rw [Fol.spends, if_neg h2, if_pos h3]; rfl, rfl, rfl⟩
      ·
        have h3 : ¬ x.nonce ≠ (f.pur x.src).nonce := fun e => e (eq64I.1 (by simpa using hc1))
        refine go_seq ?_
        refine go_region ?_
        refine sq rfl (q_fieldAddr (off := 0) (o' := 0) rfl Tryz.runUnderlying142 rfl Tryz.sizeOf31 rfl rfl) ?_
        refine sq rfl (q_load (v := w6 (f.pur x.src).bal) rfl Tryz.isAgg31 .hd .z) ?_
        refine sq rfl (q_fieldAddr (off := 3) (o' := 3) rfl Tryz.runUnderlying42 rfl Tryz.sizeOf31 rfl rfl) ?_
        refine sq rfl (q_load (cs := txCells x fv) (v := w6 x.amount) rfl Tryz.isAgg31 (.tl .hd) (.s (.s (.s .z)))) ?_
        refine sq rfl (q_lss (a := ((f.pur x.src).bal.toNat : Int)) (b := (x.amount.toNat : Int)) rfl rfl) ?_
        refine sq rfl (q_assign rfl) ?_
        refine gol_nil ?_
        refine go_cond rfl rfl (fun hc2 => ?_) (fun hc2 => ?_)
        ·
          have h4 : (f.pur x.src).bal < x.amount := UInt64.lt_iff_toNat_lt.2 (by have := of_decide_eq_true hc2; omega)
          refine go_seq ?_
          refine go_region ?_
          refine sq rfl (q_assign rfl) ?_
          refine gol_nil ?_
          refine go_drop1 (go_drop1 ?_)
          refine go_ret Tryz.func55 Tryz.results55 rfl rfl rfl (by repeat (first | exact Sto.le_refl _ | assumption | refine Sto.le_trans ?_ (by assumption))) ?_
          exact ⟨by rw [Fol.spends, if_neg h2, if_neg h3, if_pos h4]; rfl, rfl, rfl⟩
        ·
          have h4 : ¬ (f.pur x.src).bal < x.amount := fun h => by have := UInt64.lt_iff_toNat_lt.1 h; have := of_decide_eq_false hc2; omega
          refine go_skip ?_
          refine go_inBlock ?_
          refine go_seq ?_
          refine go_region ?_
          refine sq rfl (q_assign rfl) ?_
          refine gol_nil ?_
          refine go_drop1 (go_drop1 ?_)
          refine go_ret Tryz.func55 Tryz.results55 rfl rfl rfl (by repeat (first | exact Sto.le_refl _ | assumption | refine Sto.le_trans ?_ (by assumption))) ?_
          exact ⟨by rw [Fol.spends, if_neg h2, if_neg h3, if_neg h4]; rfl, rfl, rfl⟩
theorem c58 {σ : Sto} {L Lf : SHeap} {p : Nat} {f : Fol} (hf : FolO p f Lf) {x : Tx} {fv : Value} (hx : x.id.length = 32) (hfv : oneCell fv = true) : Ctr Tryz.prog 58 #[.pointer (some ⟨p, 0, none⟩), .agg (txCells x fv).toArray] σ (Lf ++ L) fun r σ' L' => r = .tuple #[] ∧ σ' = σ ∧ ∃ Lf', L' = Lf' ++ L ∧ FolO p (f.takes x.src x.amount) Lf' := by
  obtain ⟨mb, es, ck, lv, cv, Ll, Lc, rfl, hp, hl, hc⟩ := hf.out
  refine ctr_enter Tryz.func58 rfl Tryz.ntmps58 (by simp) ?_
  refine go_seq ?_
  refine go_region ?_
  refine snb rfl (n_box rfl (.agg (l := txCells x fv))) ?_
  intro b1
  refine gol_nil ?_
  refine go_seq ?_
  refine go_draws (n := 29) _ mix rfl (by decide +kernel) (Keep.refl _) ?_
  refine dq 0 rfl rfl rfl rfl (q_move rfl) ?_
  refine dq 1 rfl rfl rfl rfl (q_nil rfl) ?_
  refine dq 2 rfl rfl rfl rfl (q_fieldAddr (off := 1) (o' := 1) rfl Tryz.runUnderlying140 rfl Tryz.sizeOf138 rfl rfl) ?_
  refine dq 3 rfl rfl rfl rfl (q_load (cs := folCells _ _ _ _) rfl Tryz.isAgg138 (.tl .hd) (.s .z)) ?_
  refine dq 4 rfl rfl rfl rfl (q_fieldAddr (off := 1) (o' := 1) rfl Tryz.runUnderlying42 rfl Tryz.sizeOf31 rfl rfl) ?_
  refine dq 5 rfl rfl rfl rfl (q_load (cs := txCells x fv) (v := w6 x.src) rfl Tryz.isAgg31 .hd (.s .z)) ?_
  refine dq 6 rfl rfl rfl rfl (q_lookup (es := es) (k := x.src) (r := purV (f.pur x.src)) keyU31 rfl rfl Tryz.runUnderlying138 trivial (fun _ _ => trivial) zero142 (.tl (.tl .hd)) (hp.get _)) ?_
  refine dnb 7 rfl rfl rfl rfl (by decide +kernel) (n_alloc zero142 .agg) (Keep.refl _) ?_
  intro b2
  refine dsta 8 rfl rfl rfl rfl (by decide +kernel) (by decide +kernel) (n_storeA rfl rfl (vs := purCells (f.pur x.src)) rfl Tryz.sizeOf142 rfl .hd (PutAt.all rfl)) ?_
  refine dend rfl ?_
  refine go_seq ?_
  refine go_region ?_
  refine sq rfl (q_fieldAddr (off := 0) (o' := 0) rfl Tryz.runUnderlying142 rfl Tryz.sizeOf31 rfl rfl) ?_
  refine sq rfl (q_load (v := w6 (f.pur x.src).bal) rfl Tryz.isAgg31 .hd .z) ?_
  refine sq rfl (q_fieldAddr (off := 3) (o' := 3) rfl Tryz.runUnderlying42 rfl Tryz.sizeOf31 rfl rfl) ?_
  refine sq rfl (q_load (cs := txCells x fv) (v := w6 x.amount) rfl Tryz.isAgg31 (.tl .hd) (.s (.s (.s .z)))) ?_
  refine sq rfl (q_sub64 (a := (f.pur x.src).bal) (b := x.amount) rfl rfl) ?_
  refine sq rfl (q_fieldAddr (off := 0) (o' := 0) rfl Tryz.runUnderlying142 rfl Tryz.sizeOf31 rfl rfl) ?_
  refine sst rfl (n_store rfl rfl rfl Tryz.sizeOf31 .z .hd) ?_
  refine gol_nil ?_
  refine go_seq ?_
  refine go_region ?_
  refine sq rfl (q_fieldAddr (off := 1) (o' := 1) rfl Tryz.runUnderlying142 rfl Tryz.sizeOf31 rfl rfl) ?_
  refine sq rfl (q_load (v := w6 (f.pur x.src).nonce) rfl Tryz.isAgg31 .hd (.s .z)) ?_
  refine sq rfl (q_add64 (a := (f.pur x.src).nonce) (b := 1) rfl rfl) ?_
  refine sq rfl (q_fieldAddr (off := 1) (o' := 1) rfl Tryz.runUnderlying142 rfl Tryz.sizeOf31 rfl rfl) ?_
  refine sst rfl (n_store rfl rfl rfl Tryz.sizeOf31 (.s .z) .hd) ?_
  refine gol_nil ?_
  refine go_draws (n := 29) _ mix rfl (by decide +kernel) (Keep.refl _) ?_
  refine dq 0 rfl rfl rfl rfl (q_move rfl) ?_
  refine dq 1 rfl rfl rfl rfl (q_nil rfl) ?_
  refine dq 2 rfl rfl rfl rfl (q_fieldAddr (off := 1) (o' := 1) rfl Tryz.runUnderlying140 rfl Tryz.sizeOf138 rfl rfl) ?_
  refine dq 3 rfl rfl rfl rfl (q_load (cs := folCells _ _ _ _) rfl Tryz.isAgg138 (.tl (.tl .hd)) (.s .z)) ?_
  refine dq 4 rfl rfl rfl rfl (q_fieldAddr (off := 1) (o' := 1) rfl Tryz.runUnderlying42 rfl Tryz.sizeOf31 rfl rfl) ?_
  refine dq 5 rfl rfl rfl rfl (q_load (cs := txCells x fv) (v := w6 x.src) rfl Tryz.isAgg31 (.tl .hd) (.s .z)) ?_
  refine dq 6 rfl rfl rfl rfl (q_loadA (vs := purCells ⟨(f.pur x.src).bal - x.amount, (f.pur x.src).nonce + 1⟩) rfl Tryz.isAgg142 Tryz.sizeOf142 .hd (Part.all rfl)) ?_
  refine dna0 7 rfl rfl rfl rfl (by decide +kernel) (by decide +kernel) (n_mapSet (es := es) (k := x.src) (v := purV ⟨(f.pur x.src).bal - x.amount, (f.pur x.src).nonce + 1⟩) keyU31 rfl rfl rfl Tryz.runUnderlying138 trivial (fun _ _ => trivial) (.tl (.tl (.tl .hd)))) ?_
  rintro _ _ _ - ⟨rfl, rfl⟩
  refine dend rfl ?_
  refine go_drop1 (go_drop1 ?_)
  refine go_end Tryz.func58 Tryz.results58 rfl rfl rfl (by repeat (first | exact Sto.le_refl _ | assumption | refine Sto.le_trans ?_ (by assumption))) ?_
  exact ⟨rfl, rfl, _, rfl, .mk' (f := f.takes x.src x.amount) (hp.set _ _) hl hc⟩
theorem c59 {σ : Sto} {L Lf : SHeap} {p : Nat} {f : Fol} (hf : FolO p f Lf) (n m : UInt64) : Ctr Tryz.prog 59 #[.pointer (some ⟨p, 0, none⟩), w6 n, w6 m] σ (Lf ++ L) fun r σ' L' => r = .tuple #[] ∧ σ' = σ ∧ ∃ Lf', L' = Lf' ++ L ∧ FolO p (f.adds n m) Lf' := by
  obtain ⟨mb, es, ck, lv, cv, Ll, Lc, rfl, hp, hl, hc⟩ := hf.out
  refine ctr_enter Tryz.func59 rfl Tryz.ntmps59 (by simp) ?_
  refine go_seq ?_
  refine go_region ?_
  refine sq rfl (q_move rfl) ?_
  refine sq rfl (q_nil rfl) ?_
  refine sq rfl (q_fieldAddr (off := 1) (o' := 1) rfl Tryz.runUnderlying140 rfl Tryz.sizeOf138 rfl rfl) ?_
  refine sq rfl (q_load (cs := folCells _ _ _ _) rfl Tryz.isAgg138 .hd (.s .z)) ?_
  refine sq rfl (q_move rfl) ?_
  refine sq rfl (q_lookup (es := es) (k := n) (r := purV (f.pur n)) keyU31 rfl rfl Tryz.runUnderlying138 trivial (fun _ _ => trivial) zero142 (.tl .hd) (hp.get _)) ?_
  refine snb rfl (n_alloc zero142 .agg) ?_
  intro b1
  refine sst rfl (n_storeA rfl rfl (vs := purCells (f.pur n)) rfl Tryz.sizeOf142 rfl .hd (PutAt.all rfl)) ?_
  refine gol_nil ?_
  refine go_seq ?_
  refine go_region ?_
  refine sq rfl (q_fieldAddr (off := 0) (o' := 0) rfl Tryz.runUnderlying142 rfl Tryz.sizeOf31 rfl rfl) ?_
  refine sq rfl (q_load (v := w6 (f.pur n).bal) rfl Tryz.isAgg31 .hd .z) ?_
  refine sq rfl (q_move rfl) ?_
  refine sq rfl (q_add64 (a := (f.pur n).bal) (b := m) rfl rfl) ?_
  refine sq rfl (q_fieldAddr (off := 0) (o' := 0) rfl Tryz.runUnderlying142 rfl Tryz.sizeOf31 rfl rfl) ?_
  refine sst rfl (n_store rfl rfl rfl Tryz.sizeOf31 .z .hd) ?_
  refine gol_nil ?_
  refine go_draws (n := 24) _ mix rfl (by decide +kernel) (Keep.refl _) ?_
  refine dq 0 rfl rfl rfl rfl (q_move rfl) ?_
  refine dq 1 rfl rfl rfl rfl (q_nil rfl) ?_
  refine dq 2 rfl rfl rfl rfl (q_fieldAddr (off := 1) (o' := 1) rfl Tryz.runUnderlying140 rfl Tryz.sizeOf138 rfl rfl) ?_
  refine dq 3 rfl rfl rfl rfl (q_load (cs := folCells _ _ _ _) rfl Tryz.isAgg138 (.tl .hd) (.s .z)) ?_
  refine dq 4 rfl rfl rfl rfl (q_move rfl) ?_
  refine dq 5 rfl rfl rfl rfl (q_loadA (vs := purCells ⟨(f.pur n).bal + m, (f.pur n).nonce⟩) rfl Tryz.isAgg142 Tryz.sizeOf142 .hd (Part.all rfl)) ?_
  refine dna0 6 rfl rfl rfl rfl (by decide +kernel) (by decide +kernel) (n_mapSet (es := es) (k := n) (v := purV ⟨(f.pur n).bal + m, (f.pur n).nonce⟩) keyU31 rfl rfl rfl Tryz.runUnderlying138 trivial (fun _ _ => trivial) (.tl (.tl .hd))) ?_
  rintro _ _ _ - ⟨rfl, rfl⟩
  refine dend rfl ?_
  refine go_drop1 ?_
  refine go_end Tryz.func59 Tryz.results59 rfl rfl rfl (by repeat (first | exact Sto.le_refl _ | assumption | refine Sto.le_trans ?_ (by assumption))) ?_
  exact ⟨rfl, rfl, _, rfl, .mk' (f := f.adds n m) (hp.set _ _) hl hc⟩
end Go.Eng
namespace Go.Eng
open Go Go.Proofs
set_option maxRecDepth 20000
theorem c26 {σ : Sto} {L : SHeap} {g : Gen} {gv : GV} (hg : GenR σ gv g) {c : Nat} (hc : c < g.accs.length) (hn : g.accs[c].length < 1000000) (hn2 : g.accs.length < 1000000) : Ctr Tryz.prog 26 #[.agg (genCells g gv).toArray, iv (c : Nat)] σ L fun r σ' L' => ∃ p Lf, r = .pointer (some ⟨p, 0, none⟩) ∧ σ' = σ ∧ L' = Lf ++ L ∧ FolO p (openF c g.accs[c]) Lf := by
  obtain ⟨mv, av⟩ := gv
  obtain ⟨vs, h1, h2⟩ := hg.accs
  have hsd := hg.seed
  simp only at h1
  obtain ⟨pv, cv, rfl⟩ := h1.val
  have hcv : c < vs.length := by rw [h2.len]; exact hc
  have hs := h2.get c hc hcv
  obtain ⟨pa, ca, hav⟩ := hs.val
  obtain ⟨bo, oo, ds, T', fr', rfl, hkn, hpt⟩ := h1.cells.2.2.get (by intro e; have := h1.cells.2.2.1; rw [e] at this; simp at this; omega)
  have hat : At ds.toList (oo + c) vs[c] := hpt.at (vc_at hcv)
  rw [hav] at hat hs
  have hcs := hs.cells.2.2
  refine ctr_enter Tryz.func26 rfl Tryz.ntmps26 (by simp) ?_
  refine go_seq ?_
  refine go_region ?_
  refine snb rfl (n_box rfl (.agg (l := genCells _ _))) ?_
  intro b1
  refine sq rfl (q_assign rfl) ?_
  refine gol_nil ?_
  refine go_seq ?_
  refine go_region ?_
  refine sq rfl (q_move rfl) ?_
  refine sn rfl (n_makeMap (κ := UInt64) w6) ?_
  rintro _ σ _ - ⟨bm, rfl, rfl, rfl⟩
  refine sq rfl (q_buildS (ns := [1, 1, 1, 1]) (.put (z := [_]) rfl (.one rfl) rfl rfl (.put (z := [_]) rfl (.one rfl) rfl rfl (.zero (z := [_]) rfl (.zero (z := [_]) rfl .nil)))) zero140 Tryz.runUnderlying140 (places140 Tryz.runUnderlying140) rfl) ?_
  refine snb rfl (n_box rfl (.agg (l := folCells (c : Nat) bm nilS nilS))) ?_
  intro b2
  refine sq rfl (q_assign rfl) ?_
  refine gol_nil ?_
  refine go_seq ?_
  refine go_seq ?_
  refine go_region ?_
  refine sq rfl (q_fieldAddr (off := 4) (o' := 4) rfl Tryz.runUnderlying29 rfl Tryz.sizeOf25 rfl rfl) ?_
  refine sq rfl (q_load (cs := genCells _ _) rfl Tryz.isAgg25 (.tl (.tl .hd)) (.s (.s (.s (.s .z))))) ?_
  refine sq rfl (q_move rfl) ?_
  refine sq rfl (q_indexAddr (j := c) (o' := oo + c) rfl rfl Tryz.runUnderlying25 Tryz.sizeOf46 rfl hcv (by omega)) ?_
  refine sq rfl (q_load (cs := ds.toList) (v := .slice pa g.accs[c].length ca) rfl Tryz.isAgg46 (.tl (.tl (.tl (hkn.imp id (fun h => nomatch h))))) hat) ?_
  refine sq rfl (q_len rfl Tryz.runUnderlying46) ?_
  refine sq rfl (q_move rfl) ?_
  refine gol_nil ?_
  refine go_block ?_
  refine go_drop _ (List.Sublist.cons_cons _ (List.Sublist.cons_cons _ (List.sublist_cons_self _ _))) ?_
  refine go_loop (X := Nat × Ents UInt64 × Nat) (fun x => x.1 ≤ g.accs[c].length ∧ PurM x.2.1 x.2.2 (purOf (g.accs[c].take x.1))) (fun x => [(5, .pointer (some ⟨b2, 0, none⟩)), (16, .slice pa g.accs[c].length ca), (17, iv (g.accs[c].length : Nat)), (18, iv (x.1 : Nat))]) (fun _ => σ) (fun x => (b2, folObj (c : Nat) bm nilS nilS) :: (bm, mobj w6 x.2.1 x.2.2) :: L) (fun x => g.accs[c].length - x.1) (0, [], 0) ⟨Nat.zero_le _, .nil _⟩ ⟨rfl, rfl, rfl, rfl, trivial⟩ rfl rfl ?_
  rintro ⟨i, es, ck⟩ ⟨hi, hp⟩ next
  simp only at hi hp next ⊢
  refine go_seq ?_
  refine go_region ?_
  refine sq rfl (q_lss (a := (i : Int)) (b := (g.accs[c].length : Int)) rfl rfl) ?_
  refine gol_nil ?_
  refine go_seq ?_
  refine go_cond rfl rfl (fun hc0 => ?_) (fun hc0 => ?_)
  ·
    have hlt : i < g.accs[c].length := by have := of_decide_eq_true hc0; omega
    obtain ⟨b9, o9, ds9, T9, fr9, rfl, hkn9, hpt9⟩ := hcs.get (by intro e; have := hcs.1; rw [e] at this; simp at this; omega)
    have h9 : Part ds9.toList (o9 + i * 3) 3 (accCells g.accs[c][i]) := by have := cells_part hpt9 hlt; rwa [flat_at hs.len hlt] at this
    generalize hai : g.accs[c][i] = a at h9
    refine go_skip ?_
    refine go_seq ?_
    refine go_block ?_
    refine go_seq ?_
    refine go_region ?_
    refine sq rfl (q_indexAddr (j := i) (o' := o9 + i * 3) rfl rfl Tryz.runUnderlying46 Tryz.sizeOf57 rfl hlt rfl) ?_
    refine sq rfl (q_loadA rfl Tryz.isAgg57 Tryz.sizeOf57 (.tl (.tl (hkn9.imp id (fun h => nomatch h)))) h9) ?_
    refine snb rfl (n_alloc zero57 .agg) ?_
    intro b3
    refine sst rfl (n_storeA rfl rfl (vs := accCells a) rfl Tryz.sizeOf57 rfl .hd (PutAt.all rfl)) ?_
    refine gol_nil ?_
    refine go_draws (n := 35) _ mix rfl (by decide +kernel) (Keep.refl _) ?_
    refine dq 0 rfl rfl rfl rfl (q_move rfl) ?_
    refine dq 1 rfl rfl rfl rfl (q_nil rfl) ?_
    refine dq 2 rfl rfl rfl rfl (q_fieldAddr (off := 1) (o' := 1) rfl Tryz.runUnderlying140 rfl Tryz.sizeOf138 rfl rfl) ?_
    refine dq 3 rfl rfl rfl rfl (q_load (cs := folCells _ _ _ _) rfl Tryz.isAgg138 (.tl .hd) (.s .z)) ?_
    refine dq 4 rfl rfl rfl rfl (q_fieldAddr (off := 0) (o' := 0) rfl Tryz.runUnderlying57 rfl Tryz.sizeOf31 rfl rfl) ?_
    refine dq 5 rfl rfl rfl rfl (q_load (cs := accCells a) (v := w6 a.name) rfl Tryz.isAgg31 .hd .z) ?_
    refine dq 6 rfl rfl rfl rfl (q_fieldAddr (off := 1) (o' := 1) rfl Tryz.runUnderlying57 rfl Tryz.sizeOf31 rfl rfl) ?_
    refine dq 7 rfl rfl rfl rfl (q_load (cs := accCells a) (v := w6 a.bal) rfl Tryz.isAgg31 .hd (.s .z)) ?_
    refine dq 8 rfl rfl rfl rfl (q_fieldAddr (off := 2) (o' := 2) rfl Tryz.runUnderlying57 rfl Tryz.sizeOf31 rfl rfl) ?_
    refine dq 9 rfl rfl rfl rfl (q_load (cs := accCells a) (v := w6 a.nonce) rfl Tryz.isAgg31 .hd (.s (.s .z))) ?_
    refine dq 10 rfl rfl rfl rfl (q_buildS (ns := [1, 1]) (l' := purCells ⟨a.bal, a.nonce⟩) (.put (z := [_]) rfl (.one rfl) rfl rfl (.put (z := [_]) rfl (.one rfl) rfl rfl .nil)) zero142 Tryz.runUnderlying142 (places142 Tryz.runUnderlying142) rfl) ?_
    refine dna0 11 rfl rfl rfl rfl (by decide +kernel) (by decide +kernel) (n_mapSet (es := es) (k := a.name) (v := purV ⟨a.bal, a.nonce⟩) keyU31 rfl rfl rfl Tryz.runUnderlying138 trivial (fun _ _ => trivial) (.tl (.tl .hd))) ?_
    rintro _ _ _ - ⟨rfl, rfl⟩
    refine dend rfl ?_
    refine go_inBlock ?_
    refine go_region ?_
    refine sq rfl (q_add (a := (i : Int)) (b := 1) (c := ((i + 1 : Nat) : Int)) rfl rfl (i64_in (by omega) (by omega))) ?_
    refine sq rfl (q_move rfl) ?_
    refine gol_nil ?_
    refine go_drop1 (go_next (next (i + 1, mset es a.name (purV ⟨a.bal, a.nonce⟩) ck, mclock es a.name ck) ⟨hlt, ?_⟩ (by simp only; omega)) ⟨rfl, rfl, rfl, rfl, trivial⟩)
    simp only
    rw [List.take_succ_eq_append_getElem hlt, purOf_snoc, hai]
    exact hp.set _ _
  ·
    have he : i = g.accs[c].length := by have := of_decide_eq_false hc0; omega
    subst he
    rw [List.take_length] at hp
    refine go_exit rfl ?_
    refine go_seq ?_
    refine go_region ?_
    refine sq rfl (q_move rfl) ?_
    refine sq rfl (q_assign rfl) ?_
    refine gol_nil ?_
    refine go_ret Tryz.func26 Tryz.results26 rfl rfl rfl (by repeat (first | exact Sto.le_refl _ | assumption | refine Sto.le_trans ?_ (by assumption))) ?_
    exact ⟨b2, _, rfl, rfl, rfl, .mk' (f := openF (c : Nat) g.accs[c]) (Ll := []) (Lc := []) hp .nil .nil⟩
end Go.Eng
