/- A part of the proof of this: Payments and locks of a shard come out as they stand on paper (TopPaid): for every input, with the listed package variables as the program's text lays them, TopPaid answers true and its argument reads as it did. -/
import Derived.Test.YtddoimkbjgfjnaaGreatDoorPaid17
import Derived.Test.YtddoimkbjgfjnaaGreatDoorPaid14
import Derived.Test.YtddoimkbjgfjnaaGreatDoorPaid15
namespace Go.Eng
open Go Go.Proofs
set_option maxRecDepth 20000
noncomputable def genSt (g : Gen) (c : Nat) : LSt := ⟨c, g.accs.getD c [], [], [], [recOf g 0 g.members, recOf g 1 g.members], if c = 0 then g.members else []⟩
theorem SlO.nilSl {α : Type} {σ : Sto} {K : SHeap} {sz : Nat} {f : α → List Value} : Sl σ K nilS sz f ([] : List α) := ⟨⟨none, 0, rfl, Nat.le_refl _, ⟨by simp, _, _, _, rfl, Nat.le_refl _, .inl rfl⟩⟩, fun _ h => nomatch h⟩
set_option maxHeartbeats 1000000 in
theorem c35 {σ : Sto} {L : SHeap} {T : TypeId} {fr : Nat × Nat} (hK : σ 1 = some (.cells (ucells K256).toArray T fr)) {g : Gen} {gv : GV} (hg : GenR σ gv g) (h : MayOk g) {c : Nat} (hcs : (c : Int) ≤ g.shards) : Ctr Tryz.prog 35 #[.agg (genCells g gv).toArray, iv (c : Nat)] σ L fun v σ' L' => ∃ sv, v = .tuple #[.agg (stCells sv).toArray, iv 0] ∧ StR σ' [] sv (genSt g c) ∧ L' = L := by
  have hgl := hg.len
  have hmm := h.mem
  have hm := hg.mems
  have hsd := h.seed
  have hc : c < g.accs.length := by have := h.acc; omega
  have hfw := h.few _ (List.getElem_mem hc)
  obtain ⟨mv, av⟩ := gv
  obtain ⟨vs, h1, h2⟩ := hg.accs
  simp only at h1 hm
  obtain ⟨pm, cm, rfl⟩ := hm.val
  obtain ⟨pa, ca, rfl⟩ := h1.val
  have hcv : c < vs.length := by rw [h2.len]; exact hc
  have hs := h2.get c hc hcv
  obtain ⟨pl, cl, hav⟩ := hs.val
  obtain ⟨bo, oo, ds, T', fr', rfl, hkn, hpt⟩ := h1.cells.2.2.get (by intro e; have := h1.cells.2.2.1; rw [e] at this; simp at this; omega)
  have hat : At ds.toList (oo + c) vs[c] := hpt.at (vc_at hcv)
  rw [hav] at hat hs
  refine ctr_enter Tryz.func35 rfl Tryz.ntmps35 (by simp) ?_
  refine go_seq ?_
  refine go_region ?_
  refine snb rfl (n_box rfl (.agg (l := genCells g _))) ?_
  intro b1
  refine snb rfl (n_alloc Tryz.zeroValue51 .agg) ?_
  intro b2
  refine sq rfl (q_assign rfl) ?_
  refine gol_nil ?_
  refine go_seq ?_
  refine go_seq ?_
  refine go_region ?_
  refine sq rfl (q_loadA (vs := genCells g _) rfl Tryz.isAgg29 Tryz.sizeOf29 (.tl .hd) (Part.all hgl)) ?_
  refine sn rfl (n_call rfl Tryz.call37 (c37 hg h)) ?_
  rintro _ σ _ - ⟨rfl, rfl, rfl⟩
  refine sq rfl (q_not rfl) ?_
  refine sq rfl (q_move rfl) ?_
  refine sqg rfl rfl (q_move rfl) ?_
  refine sqg rfl rfl (q_lss (a := (c : Int)) (b := 0) rfl rfl) ?_
  rw [show decide ((c : Int) < 0) = false from decide_eq_false (by omega)]
  refine sq rfl (q_pick rfl rfl rfl rfl) ?_
  refine sq rfl (q_move rfl) ?_
  refine sqg rfl rfl (q_move rfl) ?_
  refine sqg rfl rfl (q_fieldAddr (off := 1) (o' := 1) rfl Tryz.runUnderlying29 rfl Tryz.sizeOf3 rfl rfl) ?_
  refine sqg rfl rfl (q_load (cs := genCells g _) (v := iv g.shards) rfl Tryz.isAgg3 (.tl .hd) (.s .z)) ?_
  refine sqg rfl rfl (q_gtr (a := (c : Int)) (b := g.shards) rfl rfl) ?_
  rw [show decide ((c : Int) > g.shards) = false from decide_eq_false (by omega)]
  refine sq rfl (q_pick rfl rfl rfl rfl) ?_
  refine gol_nil ?_
  refine go_condF rfl rfl ?_
  refine go_skip ?_
  refine go_seq ?_
  refine go_meet (Sto × Value × RV × RV × Nat × Nat) (fun x => Sto.le σ x.1 ∧ Sl x.1 [] x.2.1 3 accCells g.accs[c] ∧ RecR x.1 x.2.2.1 (recOf g 0 g.members) ∧ RecR x.1 x.2.2.2.1 (recOf g 1 g.members) ∧ x.1 x.2.2.2.2.1 = some (.cells ([x.2.2.1, x.2.2.2.1].flatMap recCells).toArray 75 (0, 0))) (fun x => [(1, iv (c : Nat)), (2, .pointer (some ⟨b1, 0, none⟩)), (4, .pointer (some ⟨b2, 0, none⟩)), (5, iv 0), (6, .pointer (some ⟨x.2.2.2.2.2, 0, none⟩))]) (fun x => x.1) (fun x => (x.2.2.2.2.2, .cells (stCells ⟨(c : Nat), x.2.1, nilS, nilS, .slice (some ⟨x.2.2.2.2.1, 0, none⟩) 2 2, nilS⟩).toArray 51 (0, 0)) :: (b2, .cells (stCells zSV).toArray 51 (0, 0)) :: (b1, .cells (genCells g ⟨.slice pm g.members.length cm, .slice (some ⟨bo, oo, none⟩) vs.length ca⟩).toArray 29 (0, 0)) :: L) (fun meet => ?_) ?_
  ·
    refine go_draws (n := 45) [(b1, .cells (genCells g ⟨.slice pm g.members.length cm, .slice (some ⟨bo, oo, none⟩) vs.length ca⟩).toArray 29 (0, 0))] mix rfl (by decide +kernel) (keep1 (by simp)) ?_
    refine dq 0 rfl rfl rfl rfl (q_move rfl) ?_
    refine dq 1 rfl rfl rfl rfl (q_fieldAddr (off := 4) (o' := 4) rfl Tryz.runUnderlying29 rfl Tryz.sizeOf25 rfl rfl) ?_
    refine dq 2 rfl rfl rfl rfl (q_load (cs := genCells g _) rfl Tryz.isAgg25 .hd (.s (.s (.s (.s .z))))) ?_
    refine dq 3 rfl rfl rfl rfl (q_move rfl) ?_
    refine dq 4 rfl rfl rfl rfl (q_indexAddr (j := c) (o' := oo + c) rfl rfl Tryz.runUnderlying25 Tryz.sizeOf46 rfl hcv (by omega)) ?_
    refine dq 5 rfl rfl rfl rfl (q_load (cs := ds.toList) (v := .slice pl g.accs[c].length cl) rfl Tryz.isAgg46 (hkn.imp id (fun h => nomatch h)) hat) ?_
    refine dq 7 rfl rfl rfl rfl (q_loadA (vs := genCells g _) rfl Tryz.isAgg29 Tryz.sizeOf29 .hd (Part.all hgl)) ?_
    refine dq 8 rfl rfl rfl rfl (q_fieldAddr (off := 3) (o' := 3) rfl Tryz.runUnderlying29 rfl Tryz.sizeOf24 rfl rfl) ?_
    refine dq 9 rfl rfl rfl rfl (q_load (cs := genCells g _) rfl Tryz.isAgg24 .hd (.s (.s (.s .z)))) ?_
    refine dq 11 rfl rfl rfl rfl (q_loadA (vs := genCells g _) rfl Tryz.isAgg29 Tryz.sizeOf29 .hd (Part.all hgl)) ?_
    refine dq 12 rfl rfl rfl rfl (q_fieldAddr (off := 3) (o' := 3) rfl Tryz.runUnderlying29 rfl Tryz.sizeOf24 rfl rfl) ?_
    refine dq 13 rfl rfl rfl rfl (q_load (cs := genCells g _) rfl Tryz.isAgg24 .hd (.s (.s (.s .z)))) ?_
    refine d2 6 17 rfl rfl rfl (by decide +kernel) rfl rfl (n_call rfl Tryz.call40 (c40 (hs.cells.2.2.more (Keep.nil _)) (flat_one _ (fun _ => rfl)) (by omega))) (n_alloc Tryz.zeroValue51 .agg) (by rintro _ _ _ _ ⟨Lp, _, _, rfl, _⟩; exact Keep.trans (keep1 (by simp)) (Keep.app _ _)) (fun _ _ _ _ ⟨_, _, _, e3⟩ => by subst e3; exact fun b o hb => List.mem_cons_of_mem _ ((keep1 (by simp)) b o hb)) ?_ ?_
    ·
      rintro v6 σ9 _ - ⟨Lp, m9, e9, rfl, hm9, hown⟩
      obtain rfl := e9.symm
      subst hm9
      refine goc_giveSl (SlO.mk hown hs.len) (by decide) (keep1 (by simp)) (fun σ6 hle6 hs6 => ?_)
      refine d2 10 17 rfl rfl rfl (by decide +kernel) rfl rfl (n_call rfl Tryz.call66 (c66 (hle6.get hK) hsd (hm.up hle6) (by omega) h.mem.2 h.rise 0)) (n_alloc Tryz.zeroValue51 .agg) (by rintro _ _ _ _ ⟨_, _, _, rfl⟩; exact keep1 (by simp)) (fun _ _ _ _ ⟨_, _, _, e3⟩ => by subst e3; exact fun b o hb => List.mem_cons_of_mem _ ((keep1 (by simp)) b o hb)) ?_ ?_
      ·
        rintro _ σ7 _ hle7 ⟨rv0, rfl, hr0, rfl⟩
        refine d2 14 17 rfl rfl rfl (by decide +kernel) rfl rfl (n_call rfl Tryz.call66 (c66 (hle7.get (hle6.get hK)) hsd ((hm.up hle6).up hle7) (by omega) h.mem.2 h.rise 1)) (n_alloc Tryz.zeroValue51 .agg) (by rintro _ _ _ _ ⟨_, _, _, rfl⟩; exact keep1 (by simp)) (fun _ _ _ _ ⟨_, _, _, e3⟩ => by subst e3; exact fun b o hb => List.mem_cons_of_mem _ ((keep1 (by simp)) b o hb)) ?_ ?_
        ·
          rintro _ σ8 _ hle8 ⟨rv1, rfl, hr1, rfl⟩
          refine d2 15 17 rfl rfl rfl (by decide +kernel) rfl rfl (n_buildSlice (sz := 3) (l' := [rv0, rv1].flatMap recCells) (.cons rfl .agg rfl (.cons rfl .agg rfl .nil)) rfl Tryz.runUnderlying49 Tryz.sizeOf75 Tryz.zeroValue75 rfl rfl) (n_alloc Tryz.zeroValue51 .agg) (fun _ _ _ _ ⟨_, _, _, e3⟩ => by subst e3; exact fun b o hb => List.mem_cons_of_mem _ ((keep1 (by simp)) b o hb)) (fun _ _ _ _ ⟨_, _, _, e3⟩ => by subst e3; exact fun b o hb => List.mem_cons_of_mem _ ((keep1 (by simp)) b o hb)) ?_ ?_
          ·
            rintro _ σ9 _ - ⟨br, rfl, e9, rfl⟩
            obtain rfl := e9.symm
            refine goc_frz (keep1 (by simp)) (fun σ9 hle9 hbr => ?_)
            refine dq 16 rfl rfl rfl rfl (q_buildS (ns := [1, 1, 1, 1, 1, 1]) (l' := stCells ⟨(c : Nat), v6, nilS, nilS, .slice (some ⟨br, 0, none⟩) 2 2, nilS⟩) (.put (z := [_]) rfl (.one rfl) rfl rfl (.put (z := [_]) rfl (.one hs6.one) rfl rfl (.zero (z := [_]) rfl (.zero (z := [_]) rfl (.put (z := [_]) rfl (.one rfl) rfl rfl (.zero (z := [_]) rfl .nil)))))) Tryz.zeroValue51 Tryz.runUnderlying51 (places51 Tryz.runUnderlying51) rfl) ?_
            refine dnb 17 rfl rfl rfl rfl (by decide +kernel) (n_alloc Tryz.zeroValue51 .agg) (keep1 (by simp)) ?_
            intro b6
            refine dst 18 rfl rfl rfl rfl (by decide +kernel) (n_storeA rfl rfl (vs := stCells _) (st_one _ hs6.one rfl rfl rfl rfl) Tryz.sizeOf51 rfl .hd (PutAt.all rfl)) (keep1 (by simp)) ?_
            refine dend rfl ?_
            exact go_next (meet (σ9, v6, rv0, rv1, br, b6) ⟨Sto.le_trans hle6 (Sto.le_trans hle7 (Sto.le_trans hle8 hle9)), ((hs6.up hle7).up hle8).up hle9, (hr0.up hle8).up hle9, hr1.up hle9, hbr⟩) ⟨rfl, rfl, rfl, rfl, rfl, trivial⟩
          ·
            rintro _ σ9 _ - ⟨b6, rfl, e9, rfl⟩
            obtain rfl := e9.symm
            refine dns 15 rfl rfl rfl rfl (by decide +kernel) (n_buildSlice (sz := 3) (l' := [rv0, rv1].flatMap recCells) (.cons rfl .agg rfl (.cons rfl .agg rfl .nil)) rfl Tryz.runUnderlying49 Tryz.sizeOf75 Tryz.zeroValue75 rfl rfl) (keep1 (by simp)) ?_
            intro br
            refine goc_frz (keep1 (by simp)) (fun σ9 hle9 hbr => ?_)
            refine dq 16 rfl rfl rfl rfl (q_buildS (ns := [1, 1, 1, 1, 1, 1]) (l' := stCells ⟨(c : Nat), v6, nilS, nilS, .slice (some ⟨br, 0, none⟩) 2 2, nilS⟩) (.put (z := [_]) rfl (.one rfl) rfl rfl (.put (z := [_]) rfl (.one hs6.one) rfl rfl (.zero (z := [_]) rfl (.zero (z := [_]) rfl (.put (z := [_]) rfl (.one rfl) rfl rfl (.zero (z := [_]) rfl .nil)))))) Tryz.zeroValue51 Tryz.runUnderlying51 (places51 Tryz.runUnderlying51) rfl) ?_
            refine dst 18 rfl rfl rfl rfl (by decide +kernel) (n_storeA rfl rfl (vs := stCells _) (st_one _ hs6.one rfl rfl rfl rfl) Tryz.sizeOf51 rfl .hd (PutAt.all rfl)) (keep1 (by simp)) ?_
            refine dend rfl ?_
            exact go_next (meet (σ9, v6, rv0, rv1, br, b6) ⟨Sto.le_trans hle6 (Sto.le_trans hle7 (Sto.le_trans hle8 hle9)), ((hs6.up hle7).up hle8).up hle9, (hr0.up hle8).up hle9, hr1.up hle9, hbr⟩) ⟨rfl, rfl, rfl, rfl, rfl, trivial⟩
        ·
          rintro _ σ9 _ - ⟨b6, rfl, e9, rfl⟩
          obtain rfl := e9.symm
          refine dn 14 rfl rfl rfl rfl (by decide +kernel) (n_call rfl Tryz.call66 (c66 (hle7.get (hle6.get hK)) hsd ((hm.up hle6).up hle7) (by omega) h.mem.2 h.rise 1)) (by rintro _ _ _ _ ⟨_, _, _, rfl⟩; exact keep1 (by simp)) ?_
          rintro _ σ8 _ hle8 ⟨rv1, rfl, hr1, rfl⟩
          refine dns 15 rfl rfl rfl rfl (by decide +kernel) (n_buildSlice (sz := 3) (l' := [rv0, rv1].flatMap recCells) (.cons rfl .agg rfl (.cons rfl .agg rfl .nil)) rfl Tryz.runUnderlying49 Tryz.sizeOf75 Tryz.zeroValue75 rfl rfl) (keep1 (by simp)) ?_
          intro br
          refine goc_frz (keep1 (by simp)) (fun σ9 hle9 hbr => ?_)
          refine dq 16 rfl rfl rfl rfl (q_buildS (ns := [1, 1, 1, 1, 1, 1]) (l' := stCells ⟨(c : Nat), v6, nilS, nilS, .slice (some ⟨br, 0, none⟩) 2 2, nilS⟩) (.put (z := [_]) rfl (.one rfl) rfl rfl (.put (z := [_]) rfl (.one hs6.one) rfl rfl (.zero (z := [_]) rfl (.zero (z := [_]) rfl (.put (z := [_]) rfl (.one rfl) rfl rfl (.zero (z := [_]) rfl .nil)))))) Tryz.zeroValue51 Tryz.runUnderlying51 (places51 Tryz.runUnderlying51) rfl) ?_
          refine dst 18 rfl rfl rfl rfl (by decide +kernel) (n_storeA rfl rfl (vs := stCells _) (st_one _ hs6.one rfl rfl rfl rfl) Tryz.sizeOf51 rfl .hd (PutAt.all rfl)) (keep1 (by simp)) ?_
          refine dend rfl ?_
          exact go_next (meet (σ9, v6, rv0, rv1, br, b6) ⟨Sto.le_trans hle6 (Sto.le_trans hle7 (Sto.le_trans hle8 hle9)), ((hs6.up hle7).up hle8).up hle9, (hr0.up hle8).up hle9, hr1.up hle9, hbr⟩) ⟨rfl, rfl, rfl, rfl, rfl, trivial⟩
      ·
        rintro _ σ9 _ - ⟨b6, rfl, e9, rfl⟩
        obtain rfl := e9.symm
        refine dn 10 rfl rfl rfl rfl (by decide +kernel) (n_call rfl Tryz.call66 (c66 (hle6.get hK) hsd (hm.up hle6) (by omega) h.mem.2 h.rise 0)) (by rintro _ _ _ _ ⟨_, _, _, rfl⟩; exact keep1 (by simp)) ?_
        rintro _ σ7 _ hle7 ⟨rv0, rfl, hr0, rfl⟩
        refine dn 14 rfl rfl rfl rfl (by decide +kernel) (n_call rfl Tryz.call66 (c66 (hle7.get (hle6.get hK)) hsd ((hm.up hle6).up hle7) (by omega) h.mem.2 h.rise 1)) (by rintro _ _ _ _ ⟨_, _, _, rfl⟩; exact keep1 (by simp)) ?_
        rintro _ σ8 _ hle8 ⟨rv1, rfl, hr1, rfl⟩
        refine dns 15 rfl rfl rfl rfl (by decide +kernel) (n_buildSlice (sz := 3) (l' := [rv0, rv1].flatMap recCells) (.cons rfl .agg rfl (.cons rfl .agg rfl .nil)) rfl Tryz.runUnderlying49 Tryz.sizeOf75 Tryz.zeroValue75 rfl rfl) (keep1 (by simp)) ?_
        intro br
        refine goc_frz (keep1 (by simp)) (fun σ9 hle9 hbr => ?_)
        refine dq 16 rfl rfl rfl rfl (q_buildS (ns := [1, 1, 1, 1, 1, 1]) (l' := stCells ⟨(c : Nat), v6, nilS, nilS, .slice (some ⟨br, 0, none⟩) 2 2, nilS⟩) (.put (z := [_]) rfl (.one rfl) rfl rfl (.put (z := [_]) rfl (.one hs6.one) rfl rfl (.zero (z := [_]) rfl (.zero (z := [_]) rfl (.put (z := [_]) rfl (.one rfl) rfl rfl (.zero (z := [_]) rfl .nil)))))) Tryz.zeroValue51 Tryz.runUnderlying51 (places51 Tryz.runUnderlying51) rfl) ?_
        refine dst 18 rfl rfl rfl rfl (by decide +kernel) (n_storeA rfl rfl (vs := stCells _) (st_one _ hs6.one rfl rfl rfl rfl) Tryz.sizeOf51 rfl .hd (PutAt.all rfl)) (keep1 (by simp)) ?_
        refine dend rfl ?_
        exact go_next (meet (σ9, v6, rv0, rv1, br, b6) ⟨Sto.le_trans hle6 (Sto.le_trans hle7 (Sto.le_trans hle8 hle9)), ((hs6.up hle7).up hle8).up hle9, (hr0.up hle8).up hle9, hr1.up hle9, hbr⟩) ⟨rfl, rfl, rfl, rfl, rfl, trivial⟩
    ·
      rintro _ σ9 _ - ⟨b6, rfl, e9, rfl⟩
      obtain rfl := e9.symm
      refine dn 6 rfl rfl rfl rfl (by decide +kernel) (n_call rfl Tryz.call40 (c40 (hs.cells.2.2.more (Keep.nil _)) (flat_one _ (fun _ => rfl)) (by omega))) (by rintro _ _ _ _ ⟨Lp, _, _, rfl, _⟩; exact Keep.trans (keep1 (by simp)) (Keep.app _ _)) ?_
      rintro v6 σ9 _ - ⟨Lp, m9, e9, rfl, hm9, hown⟩
      obtain rfl := e9.symm
      subst hm9
      refine goc_giveSl (SlO.mk hown hs.len) (by decide) (keep1 (by simp)) (fun σ6 hle6 hs6 => ?_)
      refine dn 10 rfl rfl rfl rfl (by decide +kernel) (n_call rfl Tryz.call66 (c66 (hle6.get hK) hsd (hm.up hle6) (by omega) h.mem.2 h.rise 0)) (by rintro _ _ _ _ ⟨_, _, _, rfl⟩; exact keep1 (by simp)) ?_
      rintro _ σ7 _ hle7 ⟨rv0, rfl, hr0, rfl⟩
      refine dn 14 rfl rfl rfl rfl (by decide +kernel) (n_call rfl Tryz.call66 (c66 (hle7.get (hle6.get hK)) hsd ((hm.up hle6).up hle7) (by omega) h.mem.2 h.rise 1)) (by rintro _ _ _ _ ⟨_, _, _, rfl⟩; exact keep1 (by simp)) ?_
      rintro _ σ8 _ hle8 ⟨rv1, rfl, hr1, rfl⟩
      refine dns 15 rfl rfl rfl rfl (by decide +kernel) (n_buildSlice (sz := 3) (l' := [rv0, rv1].flatMap recCells) (.cons rfl .agg rfl (.cons rfl .agg rfl .nil)) rfl Tryz.runUnderlying49 Tryz.sizeOf75 Tryz.zeroValue75 rfl rfl) (keep1 (by simp)) ?_
      intro br
      refine goc_frz (keep1 (by simp)) (fun σ9 hle9 hbr => ?_)
      refine dq 16 rfl rfl rfl rfl (q_buildS (ns := [1, 1, 1, 1, 1, 1]) (l' := stCells ⟨(c : Nat), v6, nilS, nilS, .slice (some ⟨br, 0, none⟩) 2 2, nilS⟩) (.put (z := [_]) rfl (.one rfl) rfl rfl (.put (z := [_]) rfl (.one hs6.one) rfl rfl (.zero (z := [_]) rfl (.zero (z := [_]) rfl (.put (z := [_]) rfl (.one rfl) rfl rfl (.zero (z := [_]) rfl .nil)))))) Tryz.zeroValue51 Tryz.runUnderlying51 (places51 Tryz.runUnderlying51) rfl) ?_
      refine dst 18 rfl rfl rfl rfl (by decide +kernel) (n_storeA rfl rfl (vs := stCells _) (st_one _ hs6.one rfl rfl rfl rfl) Tryz.sizeOf51 rfl .hd (PutAt.all rfl)) (keep1 (by simp)) ?_
      refine dend rfl ?_
      exact go_next (meet (σ9, v6, rv0, rv1, br, b6) ⟨Sto.le_trans hle6 (Sto.le_trans hle7 (Sto.le_trans hle8 hle9)), ((hs6.up hle7).up hle8).up hle9, (hr0.up hle8).up hle9, hr1.up hle9, hbr⟩) ⟨rfl, rfl, rfl, rfl, rfl, trivial⟩
  ·
    rintro ⟨σ1, v6, rv0, rv1, br, b6⟩ ⟨hle1, hs6, hr0, hr1, hbr⟩
    simp only at hle1 hs6 hr0 hr1 hbr ⊢
    have hrs : Sl σ1 [] (.slice (some ⟨br, 0, none⟩) 2 2) 3 recCells [rv0, rv1] := ⟨⟨_, _, rfl, Nat.le_refl _, Cells.new (.sto hbr) rfl⟩, fun _ _ => rfl⟩
    have hga : g.accs.getD c [] = g.accs[c] := by simp [List.getD, List.getElem?_eq_getElem hc]
    refine go_seq ?_
    refine go_seq ?_
    refine go_region ?_
    refine sq rfl (q_move rfl) ?_
    refine sq rfl (q_eql (a := (c : Int)) (b := 0) rfl rfl) ?_
    rcases Classical.em ((c : Int) = 0) with hc0 | hc0
    ·
      rw [show decide ((c : Int) = 0) = true from decide_eq_true hc0]
      refine gol_nil ?_
      refine go_condT rfl rfl ?_
      refine go_region ?_
      refine sq rfl (q_fieldAddr (off := 3) (o' := 3) rfl Tryz.runUnderlying29 rfl Tryz.sizeOf24 rfl rfl) ?_
      refine sq rfl (q_load (cs := genCells g _) rfl Tryz.isAgg24 (.tl (.tl .hd)) (.s (.s (.s .z)))) ?_
      refine sn rfl (n_call rfl Tryz.call38 (c38 ((hm.up hle1).cells.2.2.more (Keep.nil _)) (flat_one _ (fun _ => rfl)) (by have := h.mem; omega))) ?_
      rintro v5 σ1 _ - ⟨Lp, m9, rfl, rfl, hm9, hown⟩
      subst hm9
      refine sq rfl (q_fieldAddr (off := 5) (o' := 5) rfl Tryz.runUnderlying51 rfl Tryz.sizeOf24 rfl rfl) ?_
      refine sst rfl (n_store rfl rfl hown.oneC Tryz.sizeOf24 (.s (.s (.s (.s (.s .z))))) (Upd.app _ .hd)) ?_
      refine gol_nil ?_
      refine go_seq ?_
      refine go_giveSl (SlO.mk (f := ic) hown (fun _ _ => rfl)) (by decide) (fun σ2 hle2 hmr => ?_)
      refine go_region ?_
      refine sq rfl (q_loadA (vs := stCells ⟨(c : Nat), v6, nilS, nilS, .slice (some ⟨br, 0, none⟩) 2 2, v5⟩) rfl Tryz.isAgg51 Tryz.sizeOf51 .hd (Part.all rfl)) ?_
      refine sst rfl (n_storeA rfl rfl (vs := stCells _) (st_one _ hs6.one rfl rfl rfl hmr.one) Tryz.sizeOf51 rfl (.tl .hd) (PutAt.all rfl)) ?_
      refine sq rfl (q_assign rfl) ?_
      refine gol_nil ?_
      refine go_retR Tryz.func35 Tryz.results35 rfl (.cellA rfl Tryz.isAgg51 Tryz.sizeOf51 (.tl .hd) (Part.all rfl) (.tmp rfl .nil)) (.cons _ (.cons _ (.cons _ (List.Sublist.refl _)))) (by repeat (first | exact Sto.le_refl _ | assumption | refine Sto.le_trans ?_ (by assumption))) ?_
      refine ⟨_, rfl, ⟨rfl, by show Sl _ _ _ _ _ (g.accs.getD c []); rw [hga]; exact hs6.up hle2, SlO.nilSl, SlO.nilSl, ⟨[rv0, rv1], hrs.up hle2, .cons (hr0.up hle2) (.cons (hr1.up hle2) .nil)⟩, ?_⟩, rfl⟩
      have : c = 0 := by omega
      show Sl _ _ _ _ _ (if c = 0 then g.members else [])
      rw [if_pos this]; exact hmr
    ·
      rw [show decide ((c : Int) = 0) = false from decide_eq_false hc0]
      refine gol_nil ?_
      refine go_condF rfl rfl ?_
      refine go_skip ?_
      refine go_seq ?_
      refine go_region ?_
      refine sq rfl (q_loadA (vs := stCells ⟨(c : Nat), v6, nilS, nilS, .slice (some ⟨br, 0, none⟩) 2 2, nilS⟩) rfl Tryz.isAgg51 Tryz.sizeOf51 .hd (Part.all rfl)) ?_
      refine sst rfl (n_storeA rfl rfl (vs := stCells _) (st_one _ hs6.one rfl rfl rfl rfl) Tryz.sizeOf51 rfl (.tl .hd) (PutAt.all rfl)) ?_
      refine sq rfl (q_assign rfl) ?_
      refine gol_nil ?_
      refine go_retR Tryz.func35 Tryz.results35 rfl (.cellA rfl Tryz.isAgg51 Tryz.sizeOf51 (.tl .hd) (Part.all rfl) (.tmp rfl .nil)) (.cons _ (.cons _ (.cons _ (List.Sublist.refl _)))) (by repeat (first | exact Sto.le_refl _ | assumption | refine Sto.le_trans ?_ (by assumption))) ?_
      refine ⟨_, rfl, ⟨rfl, by show Sl _ _ _ _ _ (g.accs.getD c []); rw [hga]; exact hs6, SlO.nilSl, SlO.nilSl, ⟨[rv0, rv1], hrs, .cons hr0 (.cons hr1 .nil)⟩, ?_⟩, rfl⟩
      have : ¬ c = 0 := by omega
      show Sl _ _ _ _ _ (if c = 0 then g.members else [])
      rw [if_neg this]; exact SlO.nilSl
end Go.Eng
namespace Go.Eng
open Go
def natB (k : Bts) : Nat := k.foldl (fun n c => n * 256 + c.toNat) 0
theorem natB_app (xs : Bts) : ∀ (ys : Bts) (n : Nat), (xs ++ ys).foldl (fun n c => n * 256 + c.toNat) n = ys.foldl (fun n c => n * 256 + c.toNat) (xs.foldl (fun n c => n * 256 + c.toNat) n) := fun ys n => by rw [List.foldl_append]
theorem natB_from (ys : Bts) : ∀ n : Nat, ys.foldl (fun n c => n * 256 + c.toNat) n = n * 256 ^ ys.length + natB ys := by
  induction ys with
  | nil => intro n; simp [natB]
  | cons y ys ih =>
    intro n
    simp only [natB, List.foldl_cons, List.length_cons]
    rw [ih, ih (0 * 256 + y.toNat), Nat.pow_succ]
    generalize 256 ^ ys.length = q
    grind
theorem natB_cons (x : UInt8) (xs : Bts) : natB (x :: xs) = x.toNat * 256 ^ xs.length + natB xs := by
  have := natB_from xs (0 * 256 + x.toNat)
  rw [Nat.zero_mul, Nat.zero_add] at this
  exact (show natB (x :: xs) = _ by unfold natB; simp only [List.foldl_cons, Nat.zero_mul, Nat.zero_add]).trans this
theorem natB_lt (xs : Bts) : natB xs < 256 ^ xs.length := by
  induction xs with
  | nil => simp [natB]
  | cons x xs ih =>
    rw [natB_cons, List.length_cons, Nat.pow_succ]
    have := x.toNat_lt
    have h2 : x.toNat * 256 ^ xs.length ≤ 255 * 256 ^ xs.length := Nat.mul_le_mul_right _ (by omega)
    omega
theorem natB_cmp : ∀ {a b : Bts}, a.length = b.length → (dcmp a b < 0 ↔ natB a < natB b)
  | [], [], _ => by simp [dcmp, Go.Lib.compareBytes, natB]
  | x :: a, y :: b, h => by
    have hl : a.length = b.length := by simpa using h
    have ih := natB_cmp hl
    have h1 := natB_lt a
    have h2 := natB_lt b
    rw [natB_cons, natB_cons, hl]
    rw [hl] at h1
    unfold dcmp at *
    rw [Go.Lib.compareBytes]
    by_cases hxy : x < y
    · rw [if_pos hxy]
      have : x.toNat + 1 ≤ y.toNat := UInt8.lt_iff_toNat_lt.1 hxy
      have h3 : (x.toNat + 1) * 256 ^ b.length ≤ y.toNat * 256 ^ b.length := Nat.mul_le_mul_right _ this
      rw [Nat.add_mul] at h3
      exact ⟨fun _ => by omega, fun _ => by decide⟩
    · rw [if_neg hxy]
      by_cases hyx : y < x
      · rw [if_pos hyx]
        have : y.toNat + 1 ≤ x.toNat := UInt8.lt_iff_toNat_lt.1 hyx
        have h3 : (y.toNat + 1) * 256 ^ b.length ≤ x.toNat * 256 ^ b.length := Nat.mul_le_mul_right _ this
        rw [Nat.add_mul] at h3
        exact ⟨fun h => by simp at h, fun _ => by omega⟩
      · rw [if_neg hyx, ih]
        have : x = y := UInt8.le_antisymm (UInt8.not_lt.1 hyx) (UInt8.not_lt.1 hxy)
        subst this
        omega
theorem natB_at : ∀ {a : Bts} {i : Nat}, i < a.length → (a.getD i 0).toNat = natB a / 256 ^ (a.length - 1 - i) % 256
  | x :: a, 0, _ => by
    rw [natB_cons]
    have h1 := natB_lt a
    have hx := x.toNat_lt
    have hp : 0 < 256 ^ a.length := Nat.pow_pos (by decide)
    have : (x.toNat * 256 ^ a.length + natB a) / 256 ^ a.length = x.toNat := by
      rw [Nat.mul_comm, Nat.mul_add_div hp, Nat.div_eq_of_lt h1, Nat.add_zero]
    show x.toNat = _
    simp only [List.length_cons, Nat.add_sub_cancel, Nat.sub_zero]
    rw [this]; omega
  | x :: a, i + 1, h => by
    have h' : i < a.length := by simpa using h
    have ih := natB_at h'
    rw [List.getD_cons_succ, ih, natB_cons]
    have e : (x :: a).length - 1 - (i + 1) = a.length - 1 - i := by simp; omega
    rw [e]
    have e2 : 256 ^ a.length = 256 ^ (a.length - 1 - i) * (256 * 256 ^ i) := by
      rw [show 256 * 256 ^ i = 256 ^ (i + 1) by rw [Nat.pow_succ, Nat.mul_comm], ← Nat.pow_add]; congr 1; omega
    have hp : 0 < 256 ^ (a.length - 1 - i) := Nat.pow_pos (by decide)
    rw [e2, Nat.mul_left_comm, Nat.mul_add_div hp, Nat.mul_left_comm, Nat.mul_add_mod]
def bitN (k : Bts) (d : Nat) : Nat := natB k / 2 ^ (255 - d) % 2
theorem bitN_eq {k : Bts} (hk : k.length = 32) {d : Nat} (hd : d < 256) : (k.getD (d / 8) 0).toNat / 2 ^ (7 - d % 8) % 2 = bitN k d := by
  rw [natB_at (by omega), hk]
  unfold bitN
  have e : 255 - d = (32 - 1 - d / 8) * 8 + (7 - d % 8) := by omega
  have e2 : (256 : Nat) ^ (32 - 1 - d / 8) = 2 ^ ((32 - 1 - d / 8) * 8) := by rw [show (256 : Nat) = 2 ^ 8 from rfl, ← Nat.pow_mul]; congr 1; omega
  rw [e, Nat.pow_add, ← Nat.div_div_eq_div_mul, e2]
  generalize natB k / 2 ^ ((32 - 1 - d / 8) * 8) = x
  have h7 : 7 - d % 8 ≤ 7 := by omega
  generalize 7 - d % 8 = r at h7
  have : r = 0 ∨ r = 1 ∨ r = 2 ∨ r = 3 ∨ r = 4 ∨ r = 5 ∨ r = 6 ∨ r = 7 := by omega
  rcases this with rfl | rfl | rfl | rfl | rfl | rfl | rfl | rfl <;> omega
abbrev Ent := Bts × Bts
def sEmpty : Bts := [101, 109, 112, 116, 121]
def sLeaf : Bts := [108, 101, 97, 102]
def sBranch : Bts := [98, 114, 97, 110, 99, 104]
def cutE (l : List Ent) (d : Nat) : Nat := bsr (fun i => (bitN (l.getD i ([], [])).1 d : Int) - 1) 0 l.length
noncomputable def textF : Nat → List Ent → Nat → Bts
  | _, [], _ => joinB [sEmpty]
  | _, [e], _ => joinB [sLeaf, e.1, e.2]
  | 0, _ :: _ :: _, _ => []
  | f + 1, a :: b :: l, d => joinB [sBranch, shaSum (textF f ((a :: b :: l).take (cutE (a :: b :: l) d)) (d + 1)), shaSum (textF f ((a :: b :: l).drop (cutE (a :: b :: l) d)) (d + 1))]
structure Tri (l : List Ent) (d : Nat) : Prop where
  len : ∀ e ∈ l, e.1.length = 32
  up : l.Pairwise fun a b => natB a.1 < natB b.1
  same : ∀ a ∈ l, ∀ b ∈ l, natB a.1 / 2 ^ (256 - d) = natB b.1 / 2 ^ (256 - d)
  le : d ≤ 256
theorem Tri.deep {l : List Ent} {d : Nat} (h : Tri l d) (hl : 1 < l.length) : d < 256 := by
  have hp := List.pairwise_iff_getElem.1 h.up 0 1 (by omega) hl (by decide)
  have hs := h.same l[0] (List.getElem_mem _) l[1] (List.getElem_mem _)
  rcases Nat.lt_or_ge d 256 with h' | h'
  · exact h'
  · have := h.le
    have : d = 256 := by omega
    subst this
    simp at hs; omega
theorem half {x y d : Nat} (hd : d < 256) (h : x / 2 ^ (256 - d) = y / 2 ^ (256 - d)) (hb : x / 2 ^ (255 - d) % 2 = y / 2 ^ (255 - d) % 2) : x / 2 ^ (256 - (d + 1)) = y / 2 ^ (256 - (d + 1)) := by
  have e : 256 - d = 255 - d + 1 := by omega
  rw [e, Nat.pow_succ, ← Nat.div_div_eq_div_mul, ← Nat.div_div_eq_div_mul] at h
  have e2 : 256 - (d + 1) = 255 - d := by omega
  rw [e2]; omega
theorem Tri.mono {l : List Ent} {d : Nat} (h : Tri l d) (hd : d < 256) : l.Pairwise fun a b => bitN a.1 d ≤ bitN b.1 d := by
  refine List.pairwise_iff_getElem.2 fun i j hi hj hij => ?_
  have hp := List.pairwise_iff_getElem.1 h.up i j hi hj hij
  have hs := h.same l[i] (List.getElem_mem _) l[j] (List.getElem_mem _)
  have e : 256 - d = 255 - d + 1 := by omega
  rw [e, Nat.pow_succ, ← Nat.div_div_eq_div_mul, ← Nat.div_div_eq_div_mul] at hs
  have := Nat.div_le_div_right (c := 2 ^ (255 - d)) (Nat.le_of_lt hp)
  unfold bitN; omega
theorem Tri.cut {l : List Ent} {d : Nat} (h : Tri l d) (hd : d < 256) : (∀ e ∈ l.take (cutE l d), bitN e.1 d = 0) ∧ (∀ e ∈ l.drop (cutE l d), bitN e.1 d = 1) := by
  have hm := h.mono hd
  have hb : ∀ e : Ent, bitN e.1 d = 0 ∨ bitN e.1 d = 1 := fun e => by unfold bitN; omega
  obtain ⟨h1, h2⟩ := bs_split (α := Ent) (fun e => (bitN e.1 d : Int) - 1) l (hm.imp fun h hlt => by omega)
  exact ⟨fun e he => by have := h1 e he; have := hb e; omega, fun e he => by have := h2 e he; have := hb e; omega⟩
theorem Tri.take {l : List Ent} {d : Nat} (h : Tri l d) (hd : d < 256) : Tri (l.take (cutE l d)) (d + 1) :=
  ⟨fun e he => h.len e (List.mem_of_mem_take he), h.up.sublist (List.take_sublist _ _), fun a ha b hb => half hd (h.same a (List.mem_of_mem_take ha) b (List.mem_of_mem_take hb)) (((h.cut hd).1 a ha).trans ((h.cut hd).1 b hb).symm), hd⟩
theorem Tri.drop {l : List Ent} {d : Nat} (h : Tri l d) (hd : d < 256) : Tri (l.drop (cutE l d)) (d + 1) :=
  ⟨fun e he => h.len e (List.mem_of_mem_drop he), h.up.sublist (List.drop_sublist _ _), fun a ha b hb => half hd (h.same a (List.mem_of_mem_drop ha) b (List.mem_of_mem_drop hb)) (((h.cut hd).2 a ha).trans ((h.cut hd).2 b hb).symm), hd⟩
end Go.Eng
namespace Go.Eng
open Go Go.Proofs
def chCells (c : SV × Int) : List Value := stCells c.1 ++ [iv c.2]
def ledCells (g : Gen) (gv : GV) (cvs : List (SV × Int)) (pm : Nat) : List Value := genCells g gv ++ (cvs.flatMap chCells ++ [.map (some pm)])
def ledObj (g : Gen) (gv : GV) (cvs : List (SV × Int)) (pm : Nat) : Obj := .cells (ledCells g gv cvs pm).toArray 119 (0, 0)
def zeroSt : LSt := ⟨0, [], [], [], [], []⟩
theorem zeroSt_r (σ : Sto) (K : SHeap) : StR σ K zSV zeroSt := ⟨rfl, SlO.nilSl, SlO.nilSl, SlO.nilSl, ⟨[], SlO.nilSl, .nil⟩, SlO.nilSl⟩
def entCells (p : Bts × Value) : List Value := bcells p.1 ++ [p.2]
def EntsR (σ : Sto) (v : Value) (l : List Ent) : Prop := ∃ evs : List (Bts × Value), Sl σ [] v 33 entCells evs ∧ All2 (fun ev e => ev.1 = e.1 ∧ Bytes σ ev.2 e.2) evs l ∧ l ≠ []
theorem EntsR.up {σ σ' : Sto} {v : Value} {l : List Ent} (h : EntsR σ v l) (hle : Sto.le σ σ') : EntsR σ' v l := by
  obtain ⟨evs, h1, h2, h3⟩ := h
  exact ⟨evs, h1.up hle, h2.mono fun _ _ h => ⟨h.1, h.2.up hle⟩, h3⟩
structure PastR (σ : Sto) (es : Ents Bts) (pf : Bts → Option (List Ent)) : Prop where
  key : ∀ e ∈ es, e.1.length = 32
  some : ∀ k l, pf k = some l → ∃ v, mget es k = some v ∧ EntsR σ v l
  none : ∀ k, pf k = none → mget es k = none
theorem PastR.up {σ σ' : Sto} {es : Ents Bts} {pf : Bts → Option (List Ent)} (h : PastR σ es pf) (hle : Sto.le σ σ') : PastR σ' es pf :=
  ⟨h.key, fun k l hk => let ⟨v, h1, h2⟩ := h.some k l hk; ⟨v, h1, h2.up hle⟩, h.none⟩
structure Led where
  g : Gen
  ch : List (LSt × Int)
  past : Bts → Option (List Ent)
def ChR (σ : Sto) (cv : SV × Int) (c : LSt × Int) : Prop := StR σ [] cv.1 c.1 ∧ cv.2 = c.2
theorem ChR.up {σ σ' : Sto} {cv : SV × Int} {c : LSt × Int} (h : ChR σ cv c) (hle : Sto.le σ σ') : ChR σ' cv c := ⟨h.1.up hle, h.2⟩
structure LedO (σ : Sto) (px : Nat) (A : Led) (Lx : SHeap) : Prop where
  out : ∃ gv cvs pm es ck, Lx = [(px, ledObj A.g gv cvs pm), (pm, mobj dv es ck)] ∧ GenR σ gv A.g ∧ All2 (ChR σ) cvs A.ch ∧ A.ch.length = 4 ∧ PastR σ es A.past
theorem LedO.up {σ σ' : Sto} {px : Nat} {A : Led} {Lx : SHeap} (h : LedO σ px A Lx) (hle : Sto.le σ σ') : LedO σ' px A Lx := by
  obtain ⟨gv, cvs, pm, es, ck, h1, h2, h3, h4, h5⟩ := h.out
  exact ⟨gv, cvs, pm, es, ck, h1, h2.up hle, h3.mono fun _ _ h => h.up hle, h4, h5.up hle⟩
theorem ch_len (cvs : List (SV × Int)) : (cvs.flatMap chCells).length = cvs.length * 7 := flat_len (f := chCells) (sz := 7) (fun _ _ => rfl)
section
variable {g : Gen} {gv : GV} {cvs : List (SV × Int)} {pm i : Nat}
theorem led_len (hg : (genCells g gv).length = 37) (hc : cvs.length = 4) : (ledCells g gv cvs pm).length = 66 := by
  unfold ledCells; rw [List.length_append, List.length_append, hg, ch_len, hc]; rfl
theorem led_split (hi : i < cvs.length) : ledCells g gv cvs pm = (genCells g gv ++ (cvs.take i).flatMap chCells) ++ (stCells cvs[i].1 ++ ([iv cvs[i].2] ++ ((cvs.drop (i + 1)).flatMap chCells ++ [.map (some pm)]))) := by
  unfold ledCells
  rw [flat_split (f := chCells) hi]
  simp [chCells]
theorem led_pre (hg : (genCells g gv).length = 37) (hi : i < cvs.length) : (genCells g gv ++ (cvs.take i).flatMap chCells).length = 37 + i * 7 + 0 := by
  rw [List.length_append, hg, ch_len, List.length_take, Nat.min_eq_left (Nat.le_of_lt hi)]; rfl
theorem led_st (hg : (genCells g gv).length = 37) (hi : i < cvs.length) : Part (ledCells g gv cvs pm) (37 + i * 7 + 0) 6 (stCells cvs[i].1) := by
  rw [led_split hi]; exact Part.mk (led_pre hg hi) rfl
theorem led_ht (hg : (genCells g gv).length = 37) (hi : i < cvs.length) : At (ledCells g gv cvs pm) (37 + i * 7 + 6) (iv cvs[i].2) := by
  rw [led_split hi, ← List.append_assoc]
  refine At.app (n := 37 + i * 7 + 6) (i := 0) ?_ .z
  rw [List.length_append, led_pre hg hi]; rfl
theorem led_map (hg : (genCells g gv).length = 37) (hc : cvs.length = 4) : At (ledCells g gv cvs pm) 65 (.map (some pm)) := by
  unfold ledCells
  rw [← List.append_assoc]
  exact At.app (n := 65) (i := 0) (by rw [List.length_append, hg, ch_len, hc]) .z
theorem led_gen : Part (ledCells g gv cvs pm) 0 37 (genCells g gv) ↔ (genCells g gv).length = 37 := by
  constructor
  · intro h; have := h.1; rw [← this, List.length_take, List.length_drop]; have := h.2; omega
  · intro h; exact Part.mk (a := []) rfl h
theorem led_put (hg : (genCells g gv).length = 37) (hi : i < cvs.length) (sv : SV) : PutAt (ledCells g gv cvs pm) (37 + i * 7 + 0) (stCells sv) (ledCells g gv (cvs.set i (sv, cvs[i].2)) pm) := by
  have hi' : i < (cvs.set i (sv, cvs[i].2)).length := by rw [List.length_set]; exact hi
  have e : ledCells g gv (cvs.set i (sv, cvs[i].2)) pm = (genCells g gv ++ (cvs.take i).flatMap chCells) ++ (stCells sv ++ ([iv cvs[i].2] ++ ((cvs.drop (i + 1)).flatMap chCells ++ [.map (some pm)]))) := by
    rw [led_split hi', List.take_set_of_le (Nat.le_refl _), List.drop_set_of_lt (Nat.lt_succ_self _)]
    simp
  rw [led_split hi, e]
  exact PutAt.mid (led_pre hg hi) rfl
theorem led_put_ht (hg : (genCells g gv).length = 37) (hi : i < cvs.length) (h : Int) : SetAt (ledCells g gv cvs pm) (37 + i * 7 + 6) (iv h) (ledCells g gv (cvs.set i (cvs[i].1, h)) pm) := by
  have hi' : i < (cvs.set i (cvs[i].1, h)).length := by rw [List.length_set]; exact hi
  have e : ledCells g gv (cvs.set i (cvs[i].1, h)) pm = ((genCells g gv ++ (cvs.take i).flatMap chCells) ++ stCells cvs[i].1) ++ (iv h :: ((cvs.drop (i + 1)).flatMap chCells ++ [.map (some pm)])) := by
    rw [led_split hi', List.take_set_of_le (Nat.le_refl _), List.drop_set_of_lt (Nat.lt_succ_self _)]
    simp
  have e2 : ledCells g gv cvs pm = ((genCells g gv ++ (cvs.take i).flatMap chCells) ++ stCells cvs[i].1) ++ (iv cvs[i].2 :: ((cvs.drop (i + 1)).flatMap chCells ++ [.map (some pm)])) := by
    rw [led_split hi]; simp
  rw [e, e2]
  refine SetAt.app (n := 37 + i * 7 + 6) (i := 0) ?_ .z
  rw [List.length_append, led_pre hg hi]; rfl
end
theorem all2_set {α β : Type} {R : α → β → Prop} {xs : List α} {ys : List β} (h : All2 R xs ys) (i : Nat) {x : α} {y : β} (hx : R x y) : All2 R (xs.set i x) (ys.set i y) := by
  induction h generalizing i with
  | nil => exact .nil
  | cons h hr ih =>
    cases i with
    | zero => exact .cons hx hr
    | succ i => exact .cons h (ih i)
noncomputable def newCh (g : Gen) (n : Nat) : List (LSt × Int) := (List.range 4).map fun c => (if c < n then genSt g c else zeroSt, 0)
theorem newCh_len (g : Gen) (n : Nat) : (newCh g n).length = 4 := by simp [newCh]
theorem newCh_succ (g : Gen) (n : Nat) : newCh g (n + 1) = (newCh g n).set n (genSt g n, 0) := by
  have h4 : List.range 4 = [0, 1, 2, 3] := rfl
  unfold newCh
  rw [h4]
  match n with
  | 0 => rfl
  | 1 => rfl
  | 2 => rfl
  | 3 => rfl
  | m + 4 => simp [show (0 : Nat) < m + 4 by omega, show (1 : Nat) < m + 4 by omega, show (2 : Nat) < m + 4 by omega, show (3 : Nat) < m + 4 by omega, show (0 : Nat) < m + 4 + 1 by omega, show (1 : Nat) < m + 4 + 1 by omega, show (2 : Nat) < m + 4 + 1 by omega, show (3 : Nat) < m + 4 + 1 by omega]
noncomputable def newLed (g : Gen) : Led := ⟨g, newCh g (g.shards + 1).toNat, fun _ => none⟩
theorem all2_zero (σ : Sto) (g : Gen) : All2 (ChR σ) (List.replicate 4 (zSV, 0)) (newCh g 0) := .cons ⟨zeroSt_r _ _, rfl⟩ (.cons ⟨zeroSt_r _ _, rfl⟩ (.cons ⟨zeroSt_r _ _, rfl⟩ (.cons ⟨zeroSt_r _ _, rfl⟩ .nil)))
end Go.Eng
namespace Go.Eng
open Go Go.Proofs
theorem vc_flat (xs : List Value) : xs.flatMap vc = xs := by
  induction xs with
  | nil => rfl
  | cons x xs ih => rw [List.flatMap_cons, ih]; rfl
theorem Parts.own {σ : Sto} {L Lp : SHeap} {v : Value} {n : Nat} {us : List Value} {ps : List Bts} {T : TypeId} (h : Own T 1 v n (us.flatMap vc) Lp) (hn : ps.length = n) (hall : All2 (Bytes σ) us ps) : Parts σ (Lp ++ L) v ps := by
  subst hn
  have hc := h.cells σ L
  obtain ⟨p, c, rfl⟩ := h.val
  rw [vc_flat] at hc
  exact ⟨⟨p, c, us, rfl, hc, hall⟩⟩
def numB (x : Int) : Bts := be64 (u64i x)
def numsB (xs : List Int) : Bts := joinB (xs.map numB)
def rowsB (ls : List (List Int)) : Bts := joinB (ls.map numsB)
def recB (r : Rec) : Bts := joinB [numB r.epoch, numsB r.mems, rowsB r.seats]
theorem joinB_len (ps : List Bts) : (joinB ps).length = 8 + (ps.map fun p => 8 + p.length).sum := by
  have h8 : ∀ x, (be64 x).length = 8 := fun _ => rfl
  unfold joinB
  rw [List.length_append, h8, List.length_flatten, List.map_map]
  congr 2
  exact List.map_congr_left fun p _ => by simp [h8]
theorem sum_le {α : Type} (f : α → Nat) (xs : List α) (b : Nat) (h : ∀ x ∈ xs, f x ≤ b) : (xs.map f).sum ≤ xs.length * b := by
  induction xs with
  | nil => simp
  | cons x xs ih =>
    have h1 := h x List.mem_cons_self
    have h2 := ih fun y hy => h y (List.mem_cons_of_mem _ hy)
    rw [List.map_cons, List.sum_cons, List.length_cons, Nat.add_mul]; omega
theorem numsB_len (xs : List Int) : (numsB xs).length ≤ 8 + xs.length * 16 := by
  unfold numsB
  rw [joinB_len, List.map_map]
  have := sum_le ((fun p : Bts => 8 + p.length) ∘ numB) xs 16 (fun x _ => Nat.le_refl 16)
  omega
theorem rowsB_len (ls : List (List Int)) (b : Nat) (h : ∀ l ∈ ls, l.length ≤ b) : (rowsB ls).length ≤ 8 + ls.length * (16 + b * 16) := by
  unfold rowsB
  rw [joinB_len, List.map_map]
  have := sum_le ((fun p : Bts => 8 + p.length) ∘ numsB) ls (16 + b * 16) (fun l hl => by
    have h1 := numsB_len l
    have h2 : l.length * 16 ≤ b * 16 := Nat.mul_le_mul_right _ (h l hl)
    show 8 + (numsB l).length ≤ _
    omega)
  omega
end Go.Eng
namespace Go.Eng
open Go Go.Proofs
set_option maxRecDepth 20000
theorem zero119 (w : World) : (zeroValue 119).run Tryz.prog w = .ok (.agg (genCells ⟨0, 0, 0, [], [], z32⟩ ⟨nilS, nilS⟩ ++ ((List.replicate 4 (zSV, (0 : Int))).flatMap chCells ++ [Value.map none])).toArray) w := by rw [Tryz.zeroValue119]; rfl
theorem vc_set {xs : List Value} {junk : List Value} {i : Nat} {v : Value} (h : i < xs.length) : SetAt (xs.flatMap vc ++ junk) i v ((xs.set i v).flatMap vc ++ junk) := by
  have e : ∀ xs : List Value, xs.flatMap vc = xs := fun xs => by induction xs with
    | nil => rfl
    | cons x xs ih => rw [List.flatMap_cons, ih]; rfl
  rw [e, e]
  have := SetAt.of (l := xs ++ junk) (i := i) (v := v) (by rw [List.length_append]; omega)
  rw [List.set_append_left _ _ h] at this
  exact this
theorem flat_vals {vs : List Value} (h : ∀ v ∈ vs, oneCell v = true) : (vs.flatMap vc).all oneCell = true := by
  induction vs with
  | nil => rfl
  | cons x xs ih =>
    rw [List.flatMap_cons, List.all_append, ih fun v hv => h v (List.mem_cons_of_mem _ hv)]
    simp [vc, h x List.mem_cons_self]
theorem all2_mem {α β : Type} {R : α → β → Prop} {xs : List α} {ys : List β} (h : All2 R xs ys) {x : α} (hx : x ∈ xs) : ∃ y ∈ ys, R x y := by
  induction h with
  | nil => cases hx
  | cons h _ ih =>
    rcases List.mem_cons.1 hx with rfl | hx
    · exact ⟨_, List.mem_cons_self, h⟩
    · obtain ⟨y, hy, hr⟩ := ih hx; exact ⟨y, List.mem_cons_of_mem _ hy, hr⟩
set_option maxHeartbeats 1000000 in
theorem c13 {σ : Sto} {L : SHeap} {T : TypeId} {fr : Nat × Nat} (hK : σ 1 = some (.cells (ucells K256).toArray T fr)) {g : Gen} {gv : GV} (hg : GenR σ gv g) (h : MayOk g) : Ctr Tryz.prog 13 #[.agg (genCells g gv).toArray] σ L fun v σ' L' => ∃ px Lx, v = .pointer (some ⟨px, 0, none⟩) ∧ L' = Lx ++ L ∧ LedO σ' px (newLed g) Lx := by
  have hgl := hg.len
  have hmm := h.mem
  have hsh := h.sh
  have hal := h.acc
  have hm := hg.mems
  obtain ⟨mv, av⟩ := gv
  obtain ⟨vs, h1, h2⟩ := hg.accs
  simp only at h1 hm
  obtain ⟨pm, cm, rfl⟩ := hm.val
  obtain ⟨pa, ca, rfl⟩ := h1.val
  have hvl := h2.len
  have hv1 : ∀ v ∈ vs, oneCell v = true := fun v hv => let ⟨_, _, h⟩ := all2_mem h2 hv; h.one
  refine ctr_enter Tryz.func13 rfl Tryz.ntmps13 (by simp) ?_
  refine go_seq ?_
  refine go_region ?_
  refine snb rfl (n_box rfl (.agg (l := genCells g _))) ?_
  intro b1
  refine sq rfl (q_assign rfl) ?_
  refine gol_nil ?_
  refine go_seq ?_
  refine go_seq ?_
  refine go_region ?_
  refine sq rfl (q_loadA (vs := genCells g _) rfl Tryz.isAgg29 Tryz.sizeOf29 .hd (Part.all hgl)) ?_
  refine sn rfl (n_call rfl Tryz.call37 (c37 hg h)) ?_
  rintro _ σ _ - ⟨rfl, rfl, rfl⟩
  refine sq rfl (q_not rfl) ?_
  refine gol_nil ?_
  refine go_condF rfl rfl ?_
  refine go_skip ?_
  refine go_seq ?_
  refine go_region ?_
  refine sq rfl (q_fieldAddr (off := 3) (o' := 3) rfl Tryz.runUnderlying29 rfl Tryz.sizeOf24 rfl rfl) ?_
  refine sq rfl (q_load (cs := genCells g _) rfl Tryz.isAgg24 .hd (.s (.s (.s .z)))) ?_
  refine sn rfl (n_call rfl Tryz.call38 (c38 (hm.cells.2.2.more (Keep.nil _)) (flat_one _ (fun _ => rfl)) (by omega))) ?_
  rintro v5 σ _ - ⟨Lp, m9, rfl, rfl, hm9, hown⟩
  subst hm9
  refine sq rfl (q_fieldAddr (off := 3) (o' := 3) rfl Tryz.runUnderlying29 rfl Tryz.sizeOf24 rfl rfl) ?_
  refine sst rfl (n_store rfl rfl hown.oneC Tryz.sizeOf24 (cs' := genCells g ⟨v5, _⟩) (.s (.s (.s .z))) (Upd.app _ .hd)) ?_
  refine gol_nil ?_
  refine go_seq ?_
  refine go_giveSl (SlO.mk (f := ic) hown (fun _ _ => rfl)) (by decide) (fun σ1 hle1 hm1 => ?_)
  refine go_region ?_
  refine sq rfl (q_fieldAddr (off := 4) (o' := 4) rfl Tryz.runUnderlying29 rfl Tryz.sizeOf25 rfl rfl) ?_
  refine sq rfl (q_load (cs := genCells g _) rfl Tryz.isAgg25 .hd (.s (.s (.s (.s .z))))) ?_
  refine sn rfl (n_call rfl Tryz.call39 (c39 ((h1.up hle1).cells.2.2.more (Keep.nil _)) (flat_vals hv1) (by omega))) ?_
  rintro v6 σ1 _ - ⟨Lp, m9, rfl, rfl, hm9, hown2⟩
  subst hm9
  refine sq rfl (q_fieldAddr (off := 4) (o' := 4) rfl Tryz.runUnderlying29 rfl Tryz.sizeOf25 rfl rfl) ?_
  refine sst rfl (n_store rfl rfl hown2.oneC Tryz.sizeOf25 (cs' := genCells g ⟨v5, v6⟩) (.s (.s (.s (.s .z)))) (Upd.app _ .hd)) ?_
  refine gol_nil ?_
  refine go_seq ?_
  refine go_seq ?_
  obtain ⟨p6, c6, rfl⟩ := hown2.val
  obtain ⟨bo, junk, rfl, hLp, hl6, hc6⟩ := hown2.get (by omega)
  subst hLp
  refine go_region ?_
  refine sq rfl (q_fieldAddr (off := 4) (o' := 4) rfl Tryz.runUnderlying29 rfl Tryz.sizeOf25 rfl rfl) ?_
  refine sq rfl (q_load (cs := genCells g _) rfl Tryz.isAgg25 (.tl .hd) (.s (.s (.s (.s .z))))) ?_
  refine sq rfl (q_len rfl Tryz.runUnderlying25) ?_
  refine sq rfl (q_move rfl) ?_
  refine gol_nil ?_
  refine go_block ?_
  refine go_loop (X := Nat × Sto × List Value) (fun x => x.1 ≤ g.accs.length ∧ Sto.le σ1 x.2.1 ∧ x.2.2.length = vs.length ∧ All2 (fun v l => Sl x.2.1 [] v 3 accCells l) x.2.2 g.accs) (fun x => [(1, .pointer (some ⟨b1, 0, none⟩)), (19, iv (vs.length : Nat)), (20, iv (x.1 : Nat))]) (fun x => x.2.1) (fun x => (bo, .cells (x.2.2.flatMap vc ++ junk).toArray 46 (0, 0)) :: (b1, .cells (genCells g ⟨v5, .slice (some ⟨bo, 0, none⟩) vs.length c6⟩).toArray 29 (0, 0)) :: L) (fun x => g.accs.length - x.1) (0, σ1, vs) ⟨Nat.zero_le _, Sto.le_refl _, rfl, h2.mono fun _ _ h => h.up hle1⟩ ⟨rfl, rfl, rfl, trivial⟩ rfl rfl ?_
  rintro ⟨i, σ2, us⟩ ⟨hi, hle2, hul, hall⟩ next
  simp only at hi hle2 hul hall next ⊢
  refine go_seq ?_
  refine go_region ?_
  refine sq rfl (q_lss (a := (i : Int)) (b := (vs.length : Int)) rfl rfl) ?_
  refine gol_nil ?_
  refine go_seq ?_
  refine go_cond rfl rfl (fun hc1 => ?_) (fun hc1 => ?_)
  ·
    have hlt : i < g.accs.length := by have := of_decide_eq_true hc1; omega
    have hlu : i < us.length := by omega
    have hs := hall.get i hlt hlu
    have hfw := h.few _ (List.getElem_mem hlt)
    obtain ⟨pl, cl, hvl⟩ := hs.val
    have hat : At (us.flatMap vc ++ junk) i us[i] := (vc_at hlu).left
    rw [hvl] at hat hs
    refine go_skip ?_
    refine go_seq ?_
    refine go_block ?_
    refine go_seq ?_
    refine go_region ?_
    refine sq rfl (q_move rfl) ?_
    refine sq rfl (q_assign rfl) ?_
    refine gol_nil ?_
    refine go_draws (n := 58) [(bo, .cells (us.flatMap vc ++ junk).toArray 46 (0, 0)), (b1, .cells (genCells g ⟨v5, .slice (some ⟨bo, 0, none⟩) vs.length c6⟩).toArray 29 (0, 0))] mix rfl (by decide +kernel) (keep2 (by simp) (by simp)) ?_
    refine dq 0 rfl rfl rfl rfl (q_fieldAddr (off := 4) (o' := 4) rfl Tryz.runUnderlying29 rfl Tryz.sizeOf25 rfl rfl) ?_
    refine dq 1 rfl rfl rfl rfl (q_load (cs := genCells g _) rfl Tryz.isAgg25 (.tl .hd) (.s (.s (.s (.s .z))))) ?_
    refine dq 2 rfl rfl rfl rfl (q_move rfl) ?_
    refine dq 3 rfl rfl rfl rfl (q_fieldAddr (off := 4) (o' := 4) rfl Tryz.runUnderlying29 rfl Tryz.sizeOf25 rfl rfl) ?_
    refine dq 4 rfl rfl rfl rfl (q_load (cs := genCells g _) rfl Tryz.isAgg25 (.tl .hd) (.s (.s (.s (.s .z))))) ?_
    refine dq 5 rfl rfl rfl rfl (q_move rfl) ?_
    refine dq 6 rfl rfl rfl rfl (q_indexAddr (j := i) (o' := i) rfl rfl Tryz.runUnderlying25 Tryz.sizeOf46 rfl (by omega) (by omega)) ?_
    refine dq 7 rfl rfl rfl rfl (q_load (v := .slice pl g.accs[i].length cl) rfl Tryz.isAgg46 .hd hat) ?_
    refine dn 8 rfl rfl rfl rfl (by decide +kernel) (n_call rfl Tryz.call40 (c40 (hs.cells.2.2.more (Keep.nil _)) (flat_one _ (fun _ => rfl)) (by omega))) (by rintro _ _ _ _ ⟨Lp, _, _, rfl, _⟩; exact Keep.trans (keep2 (by simp) (by simp)) (Keep.app _ _)) ?_
    rintro v7 σ9 _ - ⟨Lp, m9, e9, rfl, hm9, hown3⟩
    obtain rfl := e9.symm
    subst hm9
    refine goc_giveSl (SlO.mk hown3 hs.len) (by decide) (keep2 (by simp) (by simp)) (fun σ3 hle3 hs3 => ?_)
    refine dq 9 rfl rfl rfl rfl (q_indexAddr (j := i) (o' := i) rfl rfl Tryz.runUnderlying25 Tryz.sizeOf46 rfl (by omega) (by omega)) ?_
    refine dsta 10 rfl rfl rfl rfl (by decide +kernel) (by decide +kernel) (n_store rfl rfl hs3.one Tryz.sizeOf46 (vc_set hlu) .hd) ?_
    refine dend rfl ?_
    refine go_inBlock ?_
    refine go_region ?_
    refine sq rfl (q_add (a := (i : Int)) (b := 1) (c := ((i + 1 : Nat) : Int)) rfl rfl (i64_in (by omega) (by omega))) ?_
    refine sq rfl (q_move rfl) ?_
    refine gol_nil ?_
    refine go_next (next (i + 1, σ3, us.set i v7) ⟨hlt, Sto.le_trans hle2 hle3, by simp only [List.length_set]; exact hul, ?_⟩ (by simp only; omega)) ⟨rfl, rfl, rfl, trivial⟩
    have := all2_set (hall.mono fun _ _ h => h.up hle3) i (x := v7) (y := g.accs[i]) hs3
    rwa [List.set_getElem_self] at this
  ·
    refine go_exit rfl ?_
    refine go_seq ?_
    refine go_giveSl (T := 46) (f := vc) (xs := us) (v := .slice (some ⟨bo, 0, none⟩) vs.length c6) (Lp := [_]) (SlO.mk' rfl hul (fun _ _ => rfl) (by simp only [List.length_append] at hc6 ⊢; rw [flat_len (f := vc) (sz := 1) (xs := us) (fun _ _ => rfl), hul, ← hl6]; exact hc6)) (by decide) (fun σ3 hle3 has => ?_)
    have hgr : GenR σ3 ⟨v5, .slice (some ⟨bo, 0, none⟩) vs.length c6⟩ g := ⟨(hm1.up hle2).up hle3, ⟨us, has, hall.mono fun _ _ h => h.up hle3⟩, h.seed⟩
    clear hown2 hown
    generalize Value.slice (some ⟨bo, 0, none⟩) vs.length c6 = v6 at hgr ⊢
    have hgl2 := hgr.len
    refine go_region ?_
    refine sq rfl (q_loadA (vs := genCells g ⟨v5, v6⟩) rfl Tryz.isAgg29 Tryz.sizeOf29 .hd (Part.all hgl2)) ?_
    refine sn rfl (n_makeMap (κ := Bts) dv) ?_
    rintro _ σ3 _ - ⟨bm, rfl, rfl, rfl⟩
    refine sq rfl (q_buildS (ns := [37, 28, 1]) (l' := ledCells g ⟨v5, v6⟩ (List.replicate 4 (zSV, 0)) bm) (.put (z := genCells ⟨0, 0, 0, [], [], z32⟩ ⟨nilS, nilS⟩) rfl .agg hgl2 rfl (.zero (z := (List.replicate 4 (zSV, (0 : Int))).flatMap chCells) rfl (.put (z := [_]) rfl (.one rfl) rfl rfl .nil))) zero119 Tryz.runUnderlying119 (places119 Tryz.runUnderlying119) rfl) ?_
    refine snb rfl (n_box rfl (.agg (l := ledCells g ⟨v5, v6⟩ (List.replicate 4 (zSV, 0)) bm))) ?_
    intro px
    refine sq rfl (q_assign rfl) ?_
    refine gol_nil ?_
    refine go_seq ?_
    refine go_seq ?_
    refine go_region ?_
    refine sq rfl (q_fieldAddr (off := 1) (o' := 1) rfl Tryz.runUnderlying29 rfl Tryz.sizeOf3 rfl rfl) ?_
    refine sq rfl (q_load (cs := genCells g _) (v := iv g.shards) rfl Tryz.isAgg3 (.tl (.tl .hd)) (.s .z)) ?_
    refine sq rfl (q_add (a := g.shards) (b := 1) (c := (((g.shards + 1).toNat : Nat) : Int)) rfl rfl (by rw [Int.toNat_of_nonneg (by omega)]; exact i64_in (by omega) (by omega))) ?_
    refine sq rfl (q_move rfl) ?_
    refine gol_nil ?_
    refine go_block ?_
    refine go_loop (X := Nat × Sto × List (SV × Int)) (fun x => x.1 ≤ (g.shards + 1).toNat ∧ Sto.le σ3 x.2.1 ∧ All2 (ChR x.2.1) x.2.2 (newCh g x.1)) (fun x => [(1, .pointer (some ⟨b1, 0, none⟩)), (4, .pointer (some ⟨px, 0, none⟩)), (40, iv ((g.shards + 1).toNat : Nat)), (41, iv (x.1 : Nat))]) (fun x => x.2.1) (fun x => (px, ledObj g ⟨v5, v6⟩ x.2.2 bm) :: (bm, mobj dv ([] : Ents Bts) 0) :: (b1, .cells (genCells g ⟨v5, v6⟩).toArray 29 (0, 0)) :: L) (fun x => (g.shards + 1).toNat - x.1) (0, σ3, List.replicate 4 (zSV, 0)) ⟨Nat.zero_le _, Sto.le_refl _, all2_zero _ _⟩ ⟨rfl, rfl, rfl, rfl, trivial⟩ rfl rfl ?_
    rintro ⟨j, σ4, cvs⟩ ⟨hj, hle4, hch⟩ next
    simp only at hj hle4 hch next ⊢
    have hcl := hch.len
    rw [newCh_len] at hcl
    refine go_seq ?_
    refine go_region ?_
    refine sq rfl (q_lss (a := (j : Int)) (b := ((g.shards + 1).toNat : Int)) rfl rfl) ?_
    refine gol_nil ?_
    refine go_seq ?_
    refine go_cond rfl rfl (fun hc2 => ?_) (fun hc2 => ?_)
    ·
      have hlt : j < (g.shards + 1).toNat := by have := of_decide_eq_true hc2; omega
      have hj4 : j < cvs.length := by omega
      refine go_skip ?_
      refine go_seq ?_
      refine go_block ?_
      refine go_seq ?_
      refine go_region ?_
      refine sq rfl (q_move rfl) ?_
      refine sq rfl (q_assign rfl) ?_
      refine gol_nil ?_
      refine go_draws (n := 58) [(b1, .cells (genCells g ⟨v5, v6⟩).toArray 29 (0, 0))] mix rfl (by decide +kernel) (keep1 (by simp)) ?_
      refine dq 0 rfl rfl rfl rfl (q_move rfl) ?_
      refine dq 1 rfl rfl rfl rfl (q_move rfl) ?_
      refine dq 2 rfl rfl rfl rfl (q_loadA (vs := genCells g ⟨v5, v6⟩) rfl Tryz.isAgg29 Tryz.sizeOf29 .hd (Part.all hgl2)) ?_
      refine dq 3 rfl rfl rfl rfl (q_move rfl) ?_
      refine dq 8 rfl rfl rfl rfl (q_nil rfl) ?_
      refine dq 9 rfl rfl rfl rfl (q_fieldAddr (off := 37) (o' := 37) rfl Tryz.runUnderlying119 rfl Tryz.sizeOf117 rfl rfl) ?_
      refine dn 4 rfl rfl rfl rfl (by decide +kernel) (n_call rfl Tryz.call35 (c35 (Sto.le.get hle4 (hle3.get (hle2.get (hle1.get hK)))) (hgr.up hle4) h (c := j) (by omega))) (by rintro _ _ _ _ ⟨_, _, _, rfl⟩; exact keep1 (by simp)) ?_
      rintro _ σ5 _ hle5 ⟨sv, rfl, hst, rfl⟩
      refine dq 5 rfl rfl rfl rfl (q_move rfl) ?_
      refine dq 6 rfl rfl rfl rfl (q_extract rfl .z) ?_
      refine dq 7 rfl rfl rfl rfl (q_extract rfl (.s .z)) ?_
      refine dq 10 rfl rfl rfl rfl (q_indexAddrA (j := j) (o' := 37 + j * 7) rfl rfl Tryz.runUnderlying117 Tryz.sizeOf116 rfl (by omega) rfl) ?_
      refine dq 11 rfl rfl rfl rfl (q_fieldAddr (off := 0) (o' := 37 + j * 7 + 0) rfl Tryz.runUnderlying116 rfl Tryz.sizeOf51 rfl rfl) ?_
      refine dst 12 rfl rfl rfl rfl (by decide +kernel) (n_storeA rfl rfl (vs := stCells sv) hst.one Tryz.sizeOf51 rfl .hd (led_put hgl2 hj4 sv)) (keep1 (by simp)) ?_
      refine dend rfl ?_
      refine go_inBlock ?_
      refine go_region ?_
      refine sq rfl (q_add (a := (j : Int)) (b := 1) (c := ((j + 1 : Nat) : Int)) rfl rfl (i64_in (by omega) (by omega))) ?_
      refine sq rfl (q_move rfl) ?_
      refine gol_nil ?_
      refine go_next (next (j + 1, σ5, cvs.set j (sv, cvs[j].2)) ⟨hlt, Sto.le_trans hle4 hle5, ?_⟩ (by simp only; omega)) ⟨rfl, rfl, rfl, rfl, trivial⟩
      simp only
      rw [newCh_succ]
      refine all2_set (hch.mono fun _ _ h => h.up hle5) j ⟨hst, ?_⟩
      have hjn : j < (newCh g j).length := by rw [newCh_len]; omega
      have := (hch.get j hjn hj4).2
      simpa [newCh] using this
    ·
      have he : j = (g.shards + 1).toNat := by have := of_decide_eq_false hc2; omega
      subst he
      refine go_exit rfl ?_
      refine go_seq ?_
      refine go_region ?_
      refine sq rfl (q_move rfl) ?_
      refine sq rfl (q_assign rfl) ?_
      refine gol_nil ?_
      refine go_drop _ (List.Sublist.cons_cons _ (List.Sublist.cons_cons _ (List.sublist_cons_self _ _))) ?_
      refine go_ret Tryz.func13 Tryz.results13 rfl rfl rfl (by repeat (first | exact Sto.le_refl _ | assumption | refine Sto.le_trans ?_ (by assumption))) ?_
      exact ⟨px, _, rfl, rfl, ⟨⟨v5, v6⟩, cvs, bm, [], 0, rfl, hgr.up hle4, hch, newCh_len _ _, ⟨(fun _ h => nomatch h), (fun _ _ h => nomatch h), fun _ _ => rfl⟩⟩⟩
end Go.Eng
