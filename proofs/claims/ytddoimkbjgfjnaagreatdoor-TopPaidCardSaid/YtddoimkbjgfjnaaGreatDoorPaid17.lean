/- A part of the proof of this: Payments and locks of a shard come out as they stand on paper (TopPaid): for every input, with the listed package variables as the program's text lays them, TopPaid answers true and its argument reads as it did. -/
import Derived.Test.YtddoimkbjgfjnaaGreatDoorPaid16
import Derived.Test.YtddoimkbjgfjnaaGreatDoorPaid07
import Derived.Test.YtddoimkbjgfjnaaGreatDoorPaid11
import Derived.Test.YtddoimkbjgfjnaaGreatDoorPaid15
import Derived.Test.YtddoimkbjgfjnaaGreatDoorPaid08
namespace Go.Eng
open Go Go.Proofs
set_option maxRecDepth 20000
theorem c131 {σ : Sto} {L : SHeap} {T : TypeId} {fr : Nat × Nat} (hK : σ 1 = some (.cells (ucells K256).toArray T fr)) {bg be bc : Nat} {g : Gen} {gv : GV} {tg te tc : TypeId} {ep ch : Int} (hg : σ bg = some (.cells (genCells g gv).toArray tg (0, 0))) (hsd : g.seed.length = 32) (he : σ be = some (.cells [iv ep].toArray te (0, 0))) (hc : σ bc = some (.cells [iv ch].toArray tc (0, 0))) {bf tf : Nat} (hf : σ bf = some (.cells [.func (.func 127) #[] #[.pointer (some ⟨bg, 0, none⟩), .pointer (some ⟨be, 0, none⟩), .pointer (some ⟨bc, 0, none⟩)]].toArray tf (0, 0))) (a b : Int) : Ctr Tryz.prog 131 #[iv a, iv b, .pointer (some ⟨bf, 0, none⟩)] σ L fun v σ' L' => v = iv (dcmp (rankB g.seed ep ch a) (rankB g.seed ep ch b)) ∧ L' = L := by
  refine ctr_enter Tryz.func131 rfl Tryz.ntmps131 (by simp) ?_
  refine go_seq ?_
  refine go_region ?_
  refine sq rfl (q_assign rfl) ?_
  refine gol_nil ?_
  refine go_seq ?_
  refine go_draws (n := 13) [] mix rfl (by decide +kernel) (Keep.nil _) ?_
  refine dq 0 rfl rfl rfl rfl (q_load rfl Tryz.isAgg135 (.sto hf) .z) ?_
  refine dq 1 rfl rfl rfl rfl (q_move rfl) ?_
  refine dq 3 rfl rfl rfl rfl (q_load rfl Tryz.isAgg135 (.sto hf) .z) ?_
  refine dq 4 rfl rfl rfl rfl (q_move rfl) ?_
  refine dn 2 rfl rfl rfl rfl (by decide +kernel) (n_callV (fst := []) (cap := [.pointer (some ⟨bg, 0, none⟩), .pointer (some ⟨be, 0, none⟩), .pointer (some ⟨bc, 0, none⟩)]) rfl rfl rfl Tryz.call127 (c127 hK hg hsd he hc a)) (fun _ _ _ _ _ => Keep.nil _) ?_
  rintro va σ1 _ hle1 ⟨hba, rfl⟩
  obtain ⟨pa, ca, rfl, hla, hca⟩ := hba.out
  refine dn 5 rfl rfl rfl rfl (by decide +kernel) (n_callV (fst := []) (cap := [.pointer (some ⟨bg, 0, none⟩), .pointer (some ⟨be, 0, none⟩), .pointer (some ⟨bc, 0, none⟩)]) rfl rfl rfl Tryz.call127 (c127 (hle1.get hK) (hle1.get hg) hsd (hle1.get he) (hle1.get hc) b)) (fun _ _ _ _ _ => Keep.nil _) ?_
  rintro vb σ2 _ hle2 ⟨hbb, rfl⟩
  obtain ⟨pb, cb, rfl, hlb, hcb⟩ := hbb.out
  refine dn 6 rfl rfl rfl rfl (by decide +kernel) (n_call rfl Tryz.call120 (c120 ((hca.up hle2).more (Keep.nil _)) (hcb.more (Keep.nil _)))) (fun _ _ _ _ _ => Keep.nil _) ?_
  rintro _ σ3 _ - ⟨rfl, rfl, rfl⟩
  refine dq 7 rfl rfl rfl rfl (q_assign rfl) ?_
  refine dend rfl ?_
  refine go_ret Tryz.func131 Tryz.results131 rfl rfl rfl (by repeat (first | exact Sto.le_refl _ | assumption | refine Sto.le_trans ?_ (by assumption))) ?_
  exact ⟨rfl, rfl⟩
theorem seats_len {seed : Bts} {ep ch : Int} {ms : List Int} : (seatsOf seed ep ch ms).length = min ms.length 4 := by rw [seatsOf, List.length_take, insS_len]; exact Nat.min_comm _ _
theorem seats_part {seed : Bts} {ep ch : Int} {ms : List Int} {junk : List Value} : Part ((insS (fun a b => decide (dcmp (rankB seed ep ch a) (rankB seed ep ch b) < 0)) ms).flatMap ic ++ junk) 0 (min ms.length 4 * 1) ((seatsOf seed ep ch ms).flatMap ic) := by
  have e0 : insS (rankLt seed ep ch) ms = insS (fun a b => decide (dcmp (rankB seed ep ch a) (rankB seed ep ch b) < 0)) ms := rfl
  have h1 : (seatsOf seed ep ch ms).flatMap ic = ((insS (fun a b => decide (dcmp (rankB seed ep ch a) (rankB seed ep ch b) < 0)) ms).flatMap ic).take (min ms.length 4) := by
    rw [ic_map, ic_map, seatsOf, List.map_take, e0, List.take_eq_take_iff, List.length_map, insS_len]; omega
  have h2 : (insS (fun a b => decide (dcmp (rankB seed ep ch a) (rankB seed ep ch b) < 0)) ms).length = ms.length := insS_len _ _
  refine ⟨?_, ?_⟩
  · rw [List.drop_zero, Nat.mul_one, h1, List.take_append_of_le_length (by rw [ic_map, List.length_map, h2]; omega)]
  · rw [List.length_append, ic_map, List.length_map, h2]; omega
theorem c103 {σ : Sto} {L : SHeap} {T : TypeId} {fr : Nat × Nat} (hK : σ 1 = some (.cells (ucells K256).toArray T fr)) {g : Gen} {gv : GV} (hsd : g.seed.length = 32) {mv : Value} {ms : List Int} (hm : Sl σ [] mv 1 ic ms) (hm1 : 0 < ms.length) (hm2 : ms.length ≤ 12) (hr : ms.Pairwise (· < ·)) (ep ch : Int) : Ctr Tryz.prog 103 #[.agg (genCells g gv).toArray, iv ep, iv ch, mv] σ L fun v σ' L' => Sl σ' [] v 1 ic (seatsOf g.seed ep ch ms) ∧ L' = L := by
  obtain ⟨pm, cm, rfl⟩ := hm.val
  have hcap0 := flat_len (f := ic) (sz := 1) (xs := ms) (fun _ _ => rfl)
  refine ctr_enter Tryz.func103 rfl Tryz.ntmps103 (by simp) ?_
  refine go_seq ?_
  refine go_region ?_
  refine snb rfl (n_box rfl (.agg (l := genCells g gv))) ?_
  intro bg
  refine gol_frz (fun σ1 hle1 hbg => ?_)
  refine snb rfl (n_box rfl (.one rfl)) ?_
  intro be
  refine gol_frz (fun σ2 hle2 hbe => ?_)
  refine snb rfl (n_box rfl (.one rfl)) ?_
  intro bc
  refine gol_frz (fun σ3 hle3 hbc => ?_)
  refine sq rfl (q_assign rfl) ?_
  refine gol_nil ?_
  refine go_seq ?_
  refine go_region ?_
  refine sq rfl (q_makeFuncC (xs := []) (vs := []) rfl rfl) ?_
  refine snb rfl (n_alloc Tryz.zeroValue135 (.one rfl)) ?_
  intro bf
  refine sst rfl (n_store rfl rfl rfl Tryz.sizeOf135 .z .hd) ?_
  refine gol_nil ?_
  refine go_seq ?_
  refine go_frz (fun σ4 hle4 hbf => ?_)
  have hl4 : Sto.le σ σ4 := (by repeat (first | exact Sto.le_refl _ | assumption | refine Sto.le_trans ?_ (by assumption)))
  refine go_region ?_
  refine sq rfl (q_move rfl) ?_
  refine sn rfl (n_call rfl Tryz.call38 (c38 ((hm.up hl4).cells.2.2.more (Keep.nil _)) (flat_one _ (fun _ => rfl)) (by omega))) ?_
  rintro v9 σ4 _ - ⟨Lp, m9, rfl, rfl, hm9, hown⟩
  subst hm9
  obtain ⟨p9, cap0, rfl⟩ := hown.val
  obtain ⟨bd, junk, rfl, hLp, hlen9, hcap9⟩ := hown.get hm1
  subst hLp
  rw [List.singleton_append]
  refine sq rfl (q_assign rfl) ?_
  refine gol_nil ?_
  refine go_seq ?_
  refine go_region ?_
  refine sq rfl (q_move rfl) ?_
  refine sn rfl (n_call rfl Tryz.call129 (c129 (xs := ms) .hd rfl (by omega) (rise_lt hr))) ?_
  rintro _ σ5 _ hle5 ⟨rfl, rfl⟩
  have hl5 : Sto.le σ4 σ5 := hle5
  refine gol_nil ?_
  refine go_seq ?_
  refine go_region ?_
  refine sq rfl (q_move rfl) ?_
  refine sq rfl (q_makeFuncC (xs := []) (vs := []) rfl rfl) ?_
  refine sn rfl (n_call rfl Tryz.call130 (c130 (cap := [.pointer (some ⟨bf, 0, none⟩)]) (cf := fun a b => dcmp (rankB g.seed ep ch a) (rankB g.seed ep ch b)) rfl (by omega) Tryz.call131 (fun a b σ' L' hle => (c131 (Sto.le.get (Sto.le_trans hl4 (Sto.le_trans hl5 hle)) hK) (Sto.le.get (Sto.le_trans hle2 (Sto.le_trans hle3 (Sto.le_trans hle4 (Sto.le_trans hl5 hle)))) hbg) hsd (Sto.le.get (Sto.le_trans hle3 (Sto.le_trans hle4 (Sto.le_trans hl5 hle))) hbe) (Sto.le.get (Sto.le_trans hle4 (Sto.le_trans hl5 hle)) hbc) (Sto.le.get (Sto.le_trans hl5 hle) hbf) a b).mono fun v σ2 L2 _ h => h))) ?_
  rintro _ σ6 _ hle6 ⟨rfl, rfl⟩
  refine gol_nil ?_
  refine go_seq ?_
  refine go_region ?_
  refine sq rfl (q_move rfl) ?_
  refine sq rfl (q_move rfl) ?_
  refine sq rfl (q_len rfl Tryz.runUnderlying24) ?_
  refine sq rfl (q_min2 rfl rfl) ?_
  refine sq rfl (q_move rfl) ?_
  refine sq rfl (q_len rfl Tryz.runUnderlying24) ?_
  refine sq rfl (q_min2 rfl rfl) ?_
  refine sq rfl (q_slice3 (h := min ms.length 4) (m := min ms.length 4) rfl Tryz.runUnderlying24 Tryz.sizeOf3 (congrArg some (congrArg (Value.int .i64) (by split <;> omega))) (congrArg some (congrArg (Value.int .i64) (by split <;> omega))) (Nat.le_refl _) (by simp only [List.length_append, hcap0] at hcap9; omega)) ?_
  refine sq rfl (q_assign rfl) ?_
  refine gol_nil ?_
  refine go_frz (fun σ7 hle7 hbd => ?_)
  refine go_ret Tryz.func103 Tryz.results103 rfl rfl rfl (by repeat (first | exact Sto.le_refl _ | assumption | refine Sto.le_trans ?_ (by assumption))) ?_
  refine ⟨⟨⟨some ⟨bd, 0, none⟩, min ms.length 4, ?_, ?_, ?_⟩, fun _ _ => rfl⟩, rfl⟩
  all_goals rw [seats_len]
  · rfl
  · exact Nat.le_refl _
  · exact ⟨by rw [flat_len (f := ic) (sz := 1) (fun _ _ => rfl), seats_len], _, _, _, rfl, Nat.le_refl _, .inr ⟨bd, 0, _, _, _, rfl, .sto hbd, seats_part⟩⟩
def nseat (g : Gen) : Nat := min (g.shards + 1).toNat 4
noncomputable def seatRows (g : Gen) (ep : Int) (ms : List Int) : List (List Int) := (List.range (nseat g)).map fun c => seatsOf g.seed ep (c : Nat) ms
noncomputable def recOf (g : Gen) (ep : Int) (ms : List Int) : Rec := ⟨ep, ms, seatRows g ep ms⟩
theorem seatRows_len (g : Gen) (ep : Int) (ms : List Int) : (seatRows g ep ms).length = nseat g := by simp [seatRows]
theorem seatRows_get {g : Gen} {ep : Int} {ms : List Int} {c : Nat} (h : c < (seatRows g ep ms).length) : (seatRows g ep ms)[c] = seatsOf g.seed ep (c : Nat) ms := by simp [seatRows]
theorem all2_snoc {α β : Type} {R : α → β → Prop} {xs : List α} {ys : List β} {x : α} {y : β} (h : All2 R xs ys) (hx : R x y) : All2 R (xs ++ [x]) (ys ++ [y]) := by
  induction h with
  | nil => exact .cons hx .nil
  | cons h _ ih => exact .cons h ih
theorem c66 {σ : Sto} {L : SHeap} {T : TypeId} {fr : Nat × Nat} (hK : σ 1 = some (.cells (ucells K256).toArray T fr)) {g : Gen} {gv : GV} (hsd : g.seed.length = 32) {mv : Value} {ms : List Int} (hm : Sl σ [] mv 1 ic ms) (hm1 : 0 < ms.length) (hm2 : ms.length ≤ 12) (hr : ms.Pairwise (· < ·)) (ep : Int) : Ctr Tryz.prog 66 #[.agg (genCells g gv).toArray, iv ep, mv] σ L fun v σ' L' => ∃ rv, v = .agg (recCells rv).toArray ∧ RecR σ' rv (recOf g ep ms) ∧ L' = L := by
  obtain ⟨pm, cm, rfl⟩ := hm.val
  have hgl : (genCells g gv).length = 37 := by simp [genCells, bcells_len, hsd]
  refine ctr_enter Tryz.func66 rfl Tryz.ntmps66 (by simp) ?_
  refine go_seq ?_
  refine go_region ?_
  refine snb rfl (n_box rfl (.agg (l := genCells g gv))) ?_
  intro b1
  refine snb rfl (n_alloc Tryz.zeroValue75 .agg) ?_
  intro b2
  refine gol_nil ?_
  refine go_seq ?_
  refine go_region ?_
  refine sq rfl (q_move rfl) ?_
  refine sq rfl (q_move rfl) ?_
  refine sn rfl (n_call rfl Tryz.call38 (c38 (hm.cells.2.2.more (Keep.nil _)) (flat_one _ (fun _ => rfl)) (by omega))) ?_
  rintro v9 σ _ - ⟨Lp, m9, rfl, rfl, hm9, hown⟩
  subst hm9
  obtain ⟨pr, cr, rfl⟩ := hown.val
  refine sq rfl (q_buildS (ns := [1, 1, 1]) (l' := [iv ep, .slice pr ms.length cr, nilS]) (.put (z := [_]) rfl (.one rfl) rfl rfl (.put (z := [_]) rfl (.one rfl) rfl rfl (.zero (z := [_]) rfl .nil))) Tryz.zeroValue75 Tryz.runUnderlying75 (places75 Tryz.runUnderlying75) rfl) ?_
  refine snb rfl (n_alloc Tryz.zeroValue75 .agg) ?_
  intro b3
  refine gol_perm _ (List.perm_middle.symm) ?_
  refine sst rfl (n_storeA rfl rfl (vs := [iv ep, .slice pr ms.length cr, nilS]) rfl Tryz.sizeOf75 rfl (Upd.app _ .hd) (PutAt.all rfl)) ?_
  refine gol_nil ?_
  refine go_seq ?_
  refine go_seq ?_
  refine go_giveSl (SlO.mk (f := ic) hown (fun _ _ => rfl)) (by decide) (fun σ1 hle1 hmr => ?_)
  refine go_region ?_
  refine sq rfl (q_assign rfl) ?_
  refine gol_nil ?_
  refine go_block ?_
  refine go_loop (X := Nat × Sto × Value × List Value × SHeap) (fun x => x.1 ≤ nseat g ∧ Sto.le σ1 x.2.1 ∧ Own 24 1 x.2.2.1 x.1 (x.2.2.2.1.flatMap vc) x.2.2.2.2 ∧ All2 (fun v l => Sl x.2.1 [] v 1 ic l) x.2.2.2.1 ((seatRows g ep ms).take x.1)) (fun x => [(3, .pointer (some ⟨b1, 0, none⟩)), (1, iv ep), (2, .slice pm ms.length cm), (6, .pointer (some ⟨b2, 0, none⟩)), (7, .pointer (some ⟨b3, 0, none⟩)), (8, iv (x.1 : Nat))]) (fun x => x.2.1) (fun x => x.2.2.2.2 ++ ((b3, .cells [iv ep, .slice pr ms.length cr, x.2.2.1].toArray 75 (0, 0)) :: (b2, .cells [iv 0, nilS, nilS].toArray 75 (0, 0)) :: (b1, .cells (genCells g gv).toArray 29 (0, 0)) :: L)) (fun x => nseat g - x.1) (0, σ1, nilS, [], []) ⟨Nat.zero_le _, Sto.le_refl _, .nil, .nil⟩ ⟨rfl, rfl, rfl, rfl, rfl, rfl, trivial⟩ rfl rfl ?_
  rintro ⟨c, σ2, v, vs, Lv⟩ ⟨hc, hle2, hov, hall⟩ next
  simp only at hc hle2 hov hall next ⊢
  have hvl := hall.len
  rw [List.length_take, seatRows_len, Nat.min_eq_left hc] at hvl
  obtain ⟨pv, cv, rfl⟩ := hov.val
  refine go_seq ?_
  refine go_seq ?_
  refine go_region ?_
  refine sq rfl (q_move rfl) ?_
  refine sq rfl (q_fieldAddr (off := 1) (o' := 1) rfl Tryz.runUnderlying29 rfl Tryz.sizeOf3 rfl rfl) ?_
  refine sq rfl (q_load (cs := genCells g gv) (v := iv g.shards) rfl Tryz.isAgg3 (Kn.app _ (.tl (.tl .hd))) (.s .z)) ?_
  refine sq rfl (q_leq (a := (c : Int)) (b := g.shards) rfl rfl) ?_
  rcases Classical.em ((c : Int) ≤ g.shards) with h1 | h1
  ·
    rw [show decide ((c : Int) ≤ g.shards) = true from decide_eq_true h1]
    refine sq rfl (q_move rfl) ?_
    refine sqg rfl rfl (q_move rfl) ?_
    refine sqg rfl rfl (q_lss (a := (c : Int)) (b := 4) rfl rfl) ?_
    refine sq rfl (q_pick rfl rfl rfl rfl) ?_
    refine gol_nil ?_
    refine go_cond rfl rfl (fun hc0 => ?_) (fun hc0 => ?_)
    ·
      have hlt : c < nseat g := by have := of_decide_eq_true hc0; unfold nseat; omega
      have hcr : c < (seatRows g ep ms).length := by rw [seatRows_len]; exact hlt
      refine go_skip ?_
      refine go_seq ?_
      refine go_block ?_
      refine go_draws (n := 34) [(b3, .cells [iv ep, .slice pr ms.length cr, .slice pv c cv].toArray 75 (0, 0)), (b1, .cells (genCells g gv).toArray 29 (0, 0))] mix rfl (by decide +kernel) (keep2 (by simp) (by simp)) ?_
      refine dq 0 rfl rfl rfl rfl (q_fieldAddr (off := 2) (o' := 2) rfl Tryz.runUnderlying75 rfl Tryz.sizeOf64 rfl rfl) ?_
      refine dq 1 rfl rfl rfl rfl (q_load (cs := [iv ep, .slice pr ms.length cr, .slice pv c cv]) rfl Tryz.isAgg64 .hd (.s (.s .z))) ?_
      refine dq 2 rfl rfl rfl rfl (q_loadA (vs := genCells g gv) rfl Tryz.isAgg29 Tryz.sizeOf29 (.tl .hd) (Part.all hgl)) ?_
      refine dq 3 rfl rfl rfl rfl (q_move rfl) ?_
      refine dq 4 rfl rfl rfl rfl (q_move rfl) ?_
      refine dq 5 rfl rfl rfl rfl (q_move rfl) ?_
      refine dn 6 rfl rfl rfl rfl (by decide +kernel) (n_call rfl Tryz.call103 (c103 (Sto.le.get hle2 (hle1.get hK)) hsd ((hm.up hle1).up hle2) hm1 hm2 hr ep (c : Nat))) (fun _ _ _ _ h => by rw [h.2]; exact keep2 (by simp) (by simp)) ?_
      rintro v4 σ3 _ hle3 ⟨hv4, rfl⟩
      refine dns 7 rfl rfl rfl rfl (by decide +kernel) (n_buildSlice (sz := 1) (l := [v4]) (.cons rfl (.one hv4.one) rfl .nil) rfl Tryz.runUnderlying64 Tryz.sizeOf24 Tryz.zeroValue24 rfl rfl) (keep2 (by simp) (by simp)) ?_
      intro bv
      refine goc_perm _ (List.perm_middle.symm) ?_
      refine dn 8 rfl rfl rfl rfl (by decide +kernel) (n_append (n := c) (m := 1) (Lp := Lv) (L0 := _) (cs := vs.flatMap vc) (new := [v4]) rfl rfl Tryz.runUnderlying64 Tryz.sizeOf24 Tryz.typeInfo24 rfl Tryz.zeroValue24 rfl Tryz.runUnderlying64 hov (Cells.new (n := 1) (sz := 1) (c := 1) (Kn.app Lv .hd) rfl) (by simp [hv4.one]) (by unfold nseat at hlt; show (2 * (c + 1) + 1000) * 24 ≤ _; omega)) (by rintro _ _ _ - ⟨Lp', rfl, rfl, _⟩; exact keep2 (by simp) (by simp)) ?_
      rintro v5 σ3 _ - ⟨Lv', rfl, rfl, hov2⟩
      refine dq 9 rfl rfl rfl rfl (q_fieldAddr (off := 2) (o' := 2) rfl Tryz.runUnderlying75 rfl Tryz.sizeOf64 rfl rfl) ?_
      refine dsta 10 rfl rfl rfl rfl (by decide +kernel) (by decide +kernel) (n_store rfl rfl hov2.oneC Tryz.sizeOf64 (.s (.s .z)) (Upd.app _ (.tl .hd))) ?_
      refine dend rfl ?_
      refine go_inBlock ?_
      refine go_out ?_
      refine go_region ?_
      refine sq rfl (q_move rfl) ?_
      refine sq rfl (q_add (a := (c : Int)) (b := 1) (c := ((c + 1 : Nat) : Int)) rfl rfl (i64_in (by omega) (by unfold nseat at hlt; omega))) ?_
      refine sq rfl (q_assign rfl) ?_
      refine gol_nil ?_
      refine go_next (next (c + 1, σ3, v5, vs ++ [v4], Lv') ⟨hlt, Sto.le_trans hle2 hle3, ?_, ?_⟩ (by simp only; omega)) ⟨rfl, rfl, rfl, rfl, rfl, rfl, trivial⟩
      · simp only
        rw [List.flatMap_append]
        exact hov2
      · simp only
        rw [List.take_succ_eq_append_getElem hcr]
        refine all2_snoc (hall.mono fun _ _ h => h.up hle3) ?_
        rw [seatRows_get]; exact hv4
    ·
      have he : c = nseat g := by have := of_decide_eq_false hc0; unfold nseat at *; omega
      refine go_exit rfl ?_
      refine go_seq ?_
      refine go_region ?_
      refine sq rfl (q_loadA (vs := [iv ep, .slice pr ms.length cr, .slice pv c cv]) rfl Tryz.isAgg75 Tryz.sizeOf75 (Kn.app _ .hd) (Part.all rfl)) ?_
      refine sst rfl (n_storeA rfl rfl (vs := [iv ep, .slice pr ms.length cr, .slice pv c cv]) rfl Tryz.sizeOf75 rfl (Upd.app _ (.tl .hd)) (PutAt.all rfl)) ?_
      refine gol_nil ?_
      subst he
      refine go_giveSl (SlO.mk (f := vc) (xs := vs) (by rw [hvl]; exact hov) (fun _ _ => rfl)) (by decide) (fun σ3 hle3 hsv => ?_)
      refine go_retR Tryz.func66 Tryz.results66 rfl (.cellA rfl Tryz.isAgg75 Tryz.sizeOf75 (.tl .hd) (Part.all rfl) .nil) (.cons _ (.cons _ (.cons _ (List.Sublist.refl _)))) (by repeat (first | exact Sto.le_refl _ | assumption | refine Sto.le_trans ?_ (by assumption))) ?_
      refine ⟨⟨ep, .slice pr ms.length cr, .slice pv (nseat g) cv⟩, rfl, ⟨rfl, (hmr.up hle2).up hle3, vs, hsv, ?_⟩, rfl⟩
      have := hall.mono (R' := fun v l => Sl σ3 [] v 1 ic l) fun _ _ h => h.up hle3
      rwa [← seatRows_len g ep ms, List.take_length] at this
  ·
    rw [show decide ((c : Int) ≤ g.shards) = false from decide_eq_false h1]
    have he : c = nseat g := by unfold nseat at *; omega
    refine sq rfl (q_move rfl) ?_
    refine ss rfl rfl ?_
    refine ss rfl rfl ?_
    refine sq rfl (q_pick rfl rfl rfl rfl) ?_
    refine gol_nil ?_
    refine go_condF rfl rfl ?_
    refine go_exit rfl ?_
    refine go_seq ?_
    refine go_region ?_
    refine sq rfl (q_loadA (vs := [iv ep, .slice pr ms.length cr, .slice pv c cv]) rfl Tryz.isAgg75 Tryz.sizeOf75 (Kn.app _ .hd) (Part.all rfl)) ?_
    refine sst rfl (n_storeA rfl rfl (vs := [iv ep, .slice pr ms.length cr, .slice pv c cv]) rfl Tryz.sizeOf75 rfl (Upd.app _ (.tl .hd)) (PutAt.all rfl)) ?_
    refine gol_nil ?_
    subst he
    refine go_giveSl (SlO.mk (f := vc) (xs := vs) (by rw [hvl]; exact hov) (fun _ _ => rfl)) (by decide) (fun σ3 hle3 hsv => ?_)
    refine go_retR Tryz.func66 Tryz.results66 rfl (.cellA rfl Tryz.isAgg75 Tryz.sizeOf75 (.tl .hd) (Part.all rfl) .nil) (.cons _ (.cons _ (.cons _ (List.Sublist.refl _)))) (by repeat (first | exact Sto.le_refl _ | assumption | refine Sto.le_trans ?_ (by assumption))) ?_
    refine ⟨⟨ep, .slice pr ms.length cr, .slice pv (nseat g) cv⟩, rfl, ⟨rfl, (hmr.up hle2).up hle3, vs, hsv, ?_⟩, rfl⟩
    have := hall.mono (R' := fun v l => Sl σ3 [] v 1 ic l) fun _ _ h => h.up hle3
    rwa [← seatRows_len g ep ms, List.take_length] at this
end Go.Eng
namespace Go.Eng
open Go Go.Proofs
set_option maxRecDepth 20000
theorem c37 {σ : Sto} {L : SHeap} {g : Gen} {gv : GV} (hg : GenR σ gv g) (h : MayOk g) : Ctr Tryz.prog 37 #[.agg (genCells g gv).toArray] σ L fun v σ' L' => v = .bool true ∧ σ' = σ ∧ L' = L := by
  obtain ⟨mv, av⟩ := gv
  have hm := hg.mems
  obtain ⟨vs, h1, h2⟩ := hg.accs
  simp only at hm h1
  obtain ⟨pm, cm, rfl⟩ := hm.val
  obtain ⟨pa, ca, rfl⟩ := h1.val
  refine ctr_enter Tryz.func37 rfl Tryz.ntmps37 (by simp) ?_
  refine go_seq ?_
  refine go_region ?_
  refine snb rfl (n_box rfl (.agg (l := genCells g _))) ?_
  intro b1
  refine sq rfl (q_assign rfl) ?_
  refine gol_nil ?_
  refine go_seq ?_
  refine go_seq ?_
  refine go_region ?_
  refine sq rfl (q_fieldAddr (off := 0) (o' := 0) rfl Tryz.runUnderlying29 rfl Tryz.sizeOf3 rfl rfl) ?_
  refine sq rfl (q_load (cs := genCells g _) (v := iv g.validators) rfl Tryz.isAgg3 .hd .z) ?_
  refine sq rfl (q_lss (a := g.validators) (b := 4) rfl rfl) ?_
  rw [show decide (g.validators < 4) = false from decide_eq_false (by have := h.val; omega)]
  refine sq rfl (q_move rfl) ?_
  refine sqg rfl rfl (q_fieldAddr (off := 0) (o' := 0) rfl Tryz.runUnderlying29 rfl Tryz.sizeOf3 rfl rfl) ?_
  refine sqg rfl rfl (q_load (cs := genCells g _) (v := iv g.validators) rfl Tryz.isAgg3 .hd .z) ?_
  refine sqg rfl rfl (q_gtr (a := g.validators) (b := 12) rfl rfl) ?_
  rw [show decide (g.validators > 12) = false from decide_eq_false (by have := h.val; omega)]
  refine sq rfl (q_pick rfl rfl rfl rfl) ?_
  refine sq rfl (q_move rfl) ?_
  refine sqg rfl rfl (q_fieldAddr (off := 1) (o' := 1) rfl Tryz.runUnderlying29 rfl Tryz.sizeOf3 rfl rfl) ?_
  refine sqg rfl rfl (q_load (cs := genCells g _) (v := iv g.shards) rfl Tryz.isAgg3 .hd (.s .z)) ?_
  refine sqg rfl rfl (q_lss (a := g.shards) (b := 1) rfl rfl) ?_
  rw [show decide (g.shards < 1) = false from decide_eq_false (by have := h.sh; omega)]
  refine sq rfl (q_pick rfl rfl rfl rfl) ?_
  refine sq rfl (q_move rfl) ?_
  refine sqg rfl rfl (q_fieldAddr (off := 1) (o' := 1) rfl Tryz.runUnderlying29 rfl Tryz.sizeOf3 rfl rfl) ?_
  refine sqg rfl rfl (q_load (cs := genCells g _) (v := iv g.shards) rfl Tryz.isAgg3 .hd (.s .z)) ?_
  refine sqg rfl rfl (q_geq (a := g.shards) (b := 4) rfl rfl) ?_
  rw [show decide (g.shards ≥ 4) = false from decide_eq_false (by have := h.sh; omega)]
  refine sq rfl (q_pick rfl rfl rfl rfl) ?_
  refine sq rfl (q_move rfl) ?_
  refine sqg rfl rfl (q_fieldAddr (off := 2) (o' := 2) rfl Tryz.runUnderlying29 rfl Tryz.sizeOf2 rfl rfl) ?_
  refine sqg rfl rfl (q_load (cs := genCells g _) (v := iv g.length) rfl Tryz.isAgg2 .hd (.s (.s .z))) ?_
  refine sqg rfl rfl (q_lss (a := g.length) (b := 4) rfl rfl) ?_
  rw [show decide (g.length < 4) = false from decide_eq_false (by have := h.len; omega)]
  refine sq rfl (q_pick rfl rfl rfl rfl) ?_
  refine sq rfl (q_move rfl) ?_
  refine sqg rfl rfl (q_fieldAddr (off := 2) (o' := 2) rfl Tryz.runUnderlying29 rfl Tryz.sizeOf2 rfl rfl) ?_
  refine sqg rfl rfl (q_load (cs := genCells g _) (v := iv g.length) rfl Tryz.isAgg2 .hd (.s (.s .z))) ?_
  refine sqg rfl rfl (q_gtr (a := g.length) (b := 1048576) rfl rfl) ?_
  rw [show decide (g.length > 1048576) = false from decide_eq_false (by have := h.len; omega)]
  refine sq rfl (q_pick rfl rfl rfl rfl) ?_
  refine sq rfl (q_move rfl) ?_
  refine sqg rfl rfl (q_fieldAddr (off := 3) (o' := 3) rfl Tryz.runUnderlying29 rfl Tryz.sizeOf24 rfl rfl) ?_
  refine sqg rfl rfl (q_load (cs := genCells g _) rfl Tryz.isAgg24 .hd (.s (.s (.s .z)))) ?_
  refine sqg rfl rfl (q_len rfl Tryz.runUnderlying24) ?_
  refine sqg rfl rfl (q_lss (a := (g.members.length : Int)) (b := 4) rfl rfl) ?_
  rw [show decide ((g.members.length : Int) < 4) = false from decide_eq_false (by have := h.mem; omega)]
  refine sq rfl (q_pick rfl rfl rfl rfl) ?_
  refine sq rfl (q_move rfl) ?_
  refine sqg rfl rfl (q_fieldAddr (off := 4) (o' := 4) rfl Tryz.runUnderlying29 rfl Tryz.sizeOf25 rfl rfl) ?_
  refine sqg rfl rfl (q_load (cs := genCells g _) rfl Tryz.isAgg25 .hd (.s (.s (.s (.s .z))))) ?_
  refine sqg rfl rfl (q_len rfl Tryz.runUnderlying25) ?_
  refine sqg rfl rfl (q_fieldAddr (off := 1) (o' := 1) rfl Tryz.runUnderlying29 rfl Tryz.sizeOf3 rfl rfl) ?_
  refine sqg rfl rfl (q_load (cs := genCells g _) (v := iv g.shards) rfl Tryz.isAgg3 .hd (.s .z)) ?_
  refine sqg rfl rfl (q_add (a := g.shards) (b := 1) (c := g.shards + 1) rfl rfl (i64_in (by have := h.sh; omega) (by have := h.sh; omega))) ?_
  refine sqg rfl rfl (q_neq (a := (vs.length : Int)) (b := g.shards + 1) rfl rfl) ?_
  rw [show decide ((vs.length : Int) = g.shards + 1) = true from decide_eq_true (by rw [h2.len]; exact h.acc)]
  refine sq rfl (q_pick rfl rfl rfl rfl) ?_
  refine gol_nil ?_
  refine go_condF rfl rfl ?_
  refine go_skip ?_
  refine go_seq ?_
  refine go_seq ?_
  refine go_region ?_
  refine sq rfl (q_fieldAddr (off := 3) (o' := 3) rfl Tryz.runUnderlying29 rfl Tryz.sizeOf24 rfl rfl) ?_
  refine sq rfl (q_load (cs := genCells g _) rfl Tryz.isAgg24 .hd (.s (.s (.s .z)))) ?_
  refine sq rfl (q_len rfl Tryz.runUnderlying24) ?_
  refine sq rfl (q_move rfl) ?_
  refine gol_nil ?_
  refine go_block ?_
  refine go_loop (X := Nat) (fun i => i ≤ g.members.length) (fun i => [(1, .pointer (some ⟨b1, 0, none⟩)), (56, .slice pm g.members.length cm), (57, iv (g.members.length : Nat)), (58, iv (i : Nat))]) (fun _ => σ) (fun _ => (b1, .cells (genCells g ⟨.slice pm g.members.length cm, .slice pa vs.length ca⟩).toArray 29 (0, 0)) :: L) (fun i => g.members.length - i) 0 (Nat.zero_le _) ⟨rfl, rfl, rfl, rfl, trivial⟩ rfl rfl ?_
  rintro i hi next
  refine go_seq ?_
  refine go_region ?_
  refine sq rfl (q_lss (a := (i : Int)) (b := (g.members.length : Int)) rfl rfl) ?_
  refine gol_nil ?_
  refine go_seq ?_
  refine go_cond rfl rfl (fun hc1 => ?_) (fun hc1 => ?_)
  ·
    have hml := h.mem
    have hlt : i < g.members.length := by have := of_decide_eq_true hc1; omega
    obtain ⟨b9, o9, ds9, T9, fr9, rfl, hkn9, hpt9⟩ := hm.cells.2.2.get (by intro e; have := hm.cells.2.2.1; rw [e] at this; simp at this; omega)
    have ha : ∀ j (hj : j < g.members.length), At ds9.toList (o9 + j) (iv g.members[j]) := fun j hj => hpt9.at (ic_at hj)
    have hm0 := h.mems g.members[i] (List.getElem_mem hlt)
    have hu : ∀ K, Kn σ K b9 (.cells ds9 T9 fr9) := fun K => hkn9.imp id (fun h => nomatch h)
    refine go_skip ?_
    refine go_seq ?_
    refine go_block ?_
    refine go_seq ?_
    refine go_region ?_
    refine sq rfl (q_move rfl) ?_
    refine sq rfl (q_indexAddr (j := i) (o' := o9 + i) rfl rfl Tryz.runUnderlying24 Tryz.sizeOf3 rfl hlt (by omega)) ?_
    refine sq rfl (q_load (cs := ds9.toList) (v := iv g.members[i]) rfl Tryz.isAgg3 (hu _) (ha i hlt)) ?_
    refine sq rfl (q_assign rfl) ?_
    refine sq rfl (q_assign rfl) ?_
    refine gol_nil ?_
    refine go_seq ?_
    refine go_region ?_
    refine sq rfl (q_move rfl) ?_
    refine sq rfl (q_lss (a := g.members[i]) (b := 0) rfl rfl) ?_
    rw [show decide (g.members[i] < 0) = false from decide_eq_false (by omega)]
    refine sq rfl (q_move rfl) ?_
    refine sqg rfl rfl (q_move rfl) ?_
    refine sqg rfl rfl (q_fieldAddr (off := 0) (o' := 0) rfl Tryz.runUnderlying29 rfl Tryz.sizeOf3 rfl rfl) ?_
    refine sqg rfl rfl (q_load (cs := genCells g _) (v := iv g.validators) rfl Tryz.isAgg3 .hd .z) ?_
    refine sqg rfl rfl (q_geq (a := g.members[i]) (b := g.validators) rfl rfl) ?_
    rw [show decide (g.members[i] ≥ g.validators) = false from decide_eq_false (by omega)]
    refine sq rfl (q_pick rfl rfl rfl rfl) ?_
    refine sq rfl (q_move rfl) ?_
    refine sqg rfl rfl (q_move rfl) ?_
    refine sqg rfl rfl (q_gtr (a := (i : Int)) (b := 0) rfl rfl) ?_
    rcases Classical.em ((i : Int) > 0) with hi0 | hi0
    ·
      rw [show decide ((i : Int) > 0) = true from decide_eq_true hi0]
      refine sqg rfl rfl (q_move rfl) ?_
      refine sqg rfl rfl (q_fieldAddr (off := 3) (o' := 3) rfl Tryz.runUnderlying29 rfl Tryz.sizeOf24 rfl rfl) ?_
      refine sqg rfl rfl (q_load (cs := genCells g _) rfl Tryz.isAgg24 .hd (.s (.s (.s .z)))) ?_
      refine sqg rfl rfl (q_move rfl) ?_
      refine sqg rfl rfl (q_sub (a := (i : Int)) (b := 1) (c := ((i - 1 : Nat) : Int)) rfl rfl (by rw [show (i : Int) - 1 = ((i - 1 : Nat) : Int) by omega]; exact i64_in (by omega) (by omega))) ?_
      refine sqg rfl rfl (q_indexAddr (j := i - 1) (o' := o9 + (i - 1)) rfl rfl Tryz.runUnderlying24 Tryz.sizeOf3 rfl (by omega) (by omega)) ?_
      refine sqg rfl rfl (q_load (cs := ds9.toList) (v := iv g.members[i - 1]) rfl Tryz.isAgg3 (hu _) (ha (i - 1) (by omega))) ?_
      refine sqg rfl rfl (q_move rfl) ?_
      refine sqg rfl rfl (q_geq (a := g.members[i - 1]) (b := g.members[i]) rfl rfl) ?_
      rw [show decide (g.members[i - 1] ≥ g.members[i]) = false from decide_eq_false (by have := List.pairwise_iff_getElem.1 h.rise (i - 1) i (by omega) hlt (by omega); omega)]
      refine sqg rfl rfl (q_pick rfl rfl rfl rfl) ?_
      refine sq rfl (q_pick rfl rfl rfl rfl) ?_
      refine gol_nil ?_
      refine go_condF rfl rfl ?_
      refine go_skip ?_
      refine go_inBlock ?_
      refine go_region ?_
      refine sq rfl (q_add (a := (i : Int)) (b := 1) (c := ((i + 1 : Nat) : Int)) rfl rfl (i64_in (by omega) (by have := h.mem; omega))) ?_
      refine sq rfl (q_move rfl) ?_
      refine gol_nil ?_
      exact go_next (next (i + 1) hlt (by omega)) ⟨rfl, rfl, rfl, rfl, trivial⟩
    ·
      rw [show decide ((i : Int) > 0) = false from decide_eq_false hi0]
      refine sqg rfl rfl (q_move rfl) ?_
      refine ss rfl rfl ?_
      refine ss rfl rfl ?_
      refine ss rfl rfl ?_
      refine ss rfl rfl ?_
      refine ss rfl rfl ?_
      refine ss rfl rfl ?_
      refine ss rfl rfl ?_
      refine ss rfl rfl ?_
      refine sqg rfl rfl (q_pick rfl rfl rfl rfl) ?_
      refine sq rfl (q_pick rfl rfl rfl rfl) ?_
      refine gol_nil ?_
      refine go_condF rfl rfl ?_
      refine go_skip ?_
      refine go_inBlock ?_
      refine go_region ?_
      refine sq rfl (q_add (a := (i : Int)) (b := 1) (c := ((i + 1 : Nat) : Int)) rfl rfl (i64_in (by omega) (by have := h.mem; omega))) ?_
      refine sq rfl (q_move rfl) ?_
      refine gol_nil ?_
      exact go_next (next (i + 1) hlt (by omega)) ⟨rfl, rfl, rfl, rfl, trivial⟩
  ·
    refine go_exit rfl ?_
    refine go_seq ?_
    refine go_region ?_
    refine sq rfl (q_assign rfl) ?_
    refine sq rfl (q_assign rfl) ?_
    refine gol_nil ?_
    refine go_seq ?_
    refine go_seq ?_
    refine go_region ?_
    refine sq rfl (q_fieldAddr (off := 4) (o' := 4) rfl Tryz.runUnderlying29 rfl Tryz.sizeOf25 rfl rfl) ?_
    refine sq rfl (q_load (cs := genCells g _) rfl Tryz.isAgg25 .hd (.s (.s (.s (.s .z))))) ?_
    refine sq rfl (q_len rfl Tryz.runUnderlying25) ?_
    refine sq rfl (q_move rfl) ?_
    refine gol_nil ?_
    refine go_block ?_
    have hnl : g.accs.length ≤ 4 := by have := h.acc; have := h.sh; omega
    refine go_loop (X := Nat × UInt64) (fun x => x.1 ≤ g.accs.length ∧ x.2.toNat = sumNN (g.accs.take x.1)) (fun x => [(1, .pointer (some ⟨b1, 0, none⟩)), (5, w6 x.2), (6, w6 0), (87, .slice pa vs.length ca), (88, iv (vs.length : Nat)), (89, iv (x.1 : Nat))]) (fun _ => σ) (fun _ => (b1, .cells (genCells g ⟨.slice pm g.members.length cm, .slice pa vs.length ca⟩).toArray 29 (0, 0)) :: L) (fun x => g.accs.length - x.1) (0, 0) ⟨Nat.zero_le _, rfl⟩ ⟨rfl, rfl, rfl, rfl, rfl, rfl, trivial⟩ rfl rfl ?_
    rintro ⟨i, n⟩ ⟨hi, hn⟩ next
    simp only at hi hn next ⊢
    refine go_seq ?_
    refine go_region ?_
    refine sq rfl (q_lss (a := (i : Int)) (b := (vs.length : Int)) rfl rfl) ?_
    refine gol_nil ?_
    refine go_seq ?_
    refine go_cond rfl rfl (fun hc2 => ?_) (fun hc2 => ?_)
    ·
      have hlt : i < g.accs.length := by have := of_decide_eq_true hc2; rw [h2.len] at this; omega
      have hlv : i < vs.length := by rw [h2.len]; exact hlt
      have hs := h2.get i hlt hlv
      have hra := h.accs _ (List.getElem_mem hlt)
      have hfw := h.few _ (List.getElem_mem hlt)
      have hst := sumNN_take hlt
      have hsl := sumNN_le g.accs (i + 1)
      have hsum := h.sum
      obtain ⟨pl, cl, hvl⟩ := hs.val
      obtain ⟨b9, o9, ds9, T9, fr9, rfl, hkn9, hpt9⟩ := h1.cells.2.2.get (by intro e; have := h1.cells.2.2.1; rw [e] at this; simp at this; omega)
      have hat : At ds9.toList (o9 + i) vs[i] := hpt9.at (vc_at hlv)
      rw [hvl] at hat hs
      generalize g.accs[i] = al at hs hra hfw hst hat hvl
      have hcs := hs.cells.2.2
      refine go_skip ?_
      refine go_seq ?_
      refine go_block ?_
      refine go_seq ?_
      refine go_region ?_
      refine sq rfl (q_indexAddr (j := i) (o' := o9 + i) rfl rfl Tryz.runUnderlying25 Tryz.sizeOf46 rfl hlv (by omega)) ?_
      refine sq rfl (q_load (cs := ds9.toList) (v := .slice pl al.length cl) rfl Tryz.isAgg46 (.tl (hkn9.imp id (fun h => nomatch h))) hat) ?_
      refine sq rfl (q_assign rfl) ?_
      refine gol_nil ?_
      refine go_seq ?_
      refine go_region ?_
      refine sq rfl (q_move rfl) ?_
      refine sq rfl (q_len rfl Tryz.runUnderlying46) ?_
      refine sq rfl (q_move rfl) ?_
      refine gol_nil ?_
      refine go_block ?_
      refine go_loop (X := Nat × UInt64) (fun x => x.1 ≤ al.length ∧ x.2.toNat = n.toNat + sumN (al.take x.1)) (fun x => [(1, .pointer (some ⟨b1, 0, none⟩)), (5, w6 x.2), (6, w6 0), (8, .slice pl al.length cl), (87, .slice (some ⟨b9, o9, none⟩) vs.length ca), (88, iv (vs.length : Nat)), (89, iv (i : Nat)), (93, .slice pl al.length cl), (94, iv (al.length : Nat)), (95, iv (x.1 : Nat))]) (fun _ => σ) (fun _ => (b1, .cells (genCells g ⟨.slice pm g.members.length cm, .slice (some ⟨b9, o9, none⟩) vs.length ca⟩).toArray 29 (0, 0)) :: L) (fun x => al.length - x.1) (0, n) ⟨Nat.zero_le _, rfl⟩ ⟨rfl, rfl, rfl, rfl, rfl, rfl, rfl, rfl, rfl, rfl, trivial⟩ rfl rfl ?_
      rintro ⟨k, m⟩ ⟨hk, hm2⟩ next2
      simp only at hk hm2 next2 ⊢
      refine go_seq ?_
      refine go_region ?_
      refine sq rfl (q_lss (a := (k : Int)) (b := (al.length : Int)) rfl rfl) ?_
      refine gol_nil ?_
      refine go_seq ?_
      refine go_cond rfl rfl (fun hc3 => ?_) (fun hc3 => ?_)
      ·
        have hkl : k < al.length := by have := of_decide_eq_true hc3; omega
        have hst2 := sumN_take hkl
        have hsl2 := sumN_le al (k + 1)
        obtain ⟨b8, o8, ds8, T8, fr8, rfl, hkn8, hpt8⟩ := hcs.get (by intro e; have := hcs.1; rw [e] at this; simp at this; omega)
        have ha : ∀ j (hj : j < al.length), Part ds8.toList (o8 + j * 3) 3 (accCells al[j]) := fun j hj => by have := cells_part hpt8 hj; rwa [flat_at hs.len hj] at this
        have ha0 : ∀ j (hj : j < al.length), At ds8.toList (o8 + j * 3 + 0) (w6 al[j].name) := fun j hj => (ha j hj).at .z
        refine go_skip ?_
        refine go_seq ?_
        refine go_block ?_
        refine go_seq ?_
        refine go_region ?_
        refine sq rfl (q_move rfl) ?_
        refine sq rfl (q_indexAddr (j := k) (o' := o8 + k * 3) rfl rfl Tryz.runUnderlying46 Tryz.sizeOf57 rfl hkl rfl) ?_
        refine sq rfl (q_loadA rfl Tryz.isAgg57 Tryz.sizeOf57 (.tl (hkn8.imp id (fun h => nomatch h))) (ha k hkl)) ?_
        refine snb rfl (n_alloc zero57 .agg) ?_
        intro b3
        refine sq rfl (q_assign rfl) ?_
        refine sst rfl (n_storeA rfl rfl (vs := accCells al[k]) rfl Tryz.sizeOf57 rfl .hd (PutAt.all rfl)) ?_
        refine gol_nil ?_
        refine go_seq ?_
        refine go_seq ?_
        refine go_draws (n := 131) _ mix rfl (by decide +kernel) (Keep.refl _) ?_
        refine dq 0 rfl rfl rfl rfl (q_move rfl) ?_
        refine dq 1 rfl rfl rfl rfl (q_gtr (a := (k : Int)) (b := 0) rfl rfl) ?_
        rcases Classical.em ((k : Int) > 0) with hk0 | hk0
        ·
          rw [show decide ((k : Int) > 0) = true from decide_eq_true hk0]
          refine dq 2 rfl rfl rfl rfl (q_move rfl) ?_
          refine dqg 3 rfl rfl rfl rfl rfl rfl (q_move rfl) ?_
          refine dqg 4 rfl rfl rfl rfl rfl rfl (q_move rfl) ?_
          refine dqg 5 rfl rfl rfl rfl rfl rfl (q_sub (a := (k : Int)) (b := 1) (c := ((k - 1 : Nat) : Int)) rfl rfl (by rw [show (k : Int) - 1 = ((k - 1 : Nat) : Int) by omega]; exact i64_in (by omega) (by omega))) ?_
          refine dqg 6 rfl rfl rfl rfl rfl rfl (q_indexAddr (j := k - 1) (o' := o8 + (k - 1) * 3) rfl rfl Tryz.runUnderlying46 Tryz.sizeOf57 rfl (by omega) rfl) ?_
          refine dqg 7 rfl rfl rfl rfl rfl rfl (q_fieldAddr (off := 0) (o' := o8 + (k - 1) * 3 + 0) rfl Tryz.runUnderlying57 rfl Tryz.sizeOf31 rfl rfl) ?_
          refine dqg 8 rfl rfl rfl rfl rfl rfl (q_load (cs := ds8.toList) (v := w6 al[k - 1].name) rfl Tryz.isAgg31 (.tl (.tl (hkn8.imp id (fun h => nomatch h)))) (ha0 (k - 1) (by omega))) ?_
          refine dqg 9 rfl rfl rfl rfl rfl rfl (q_fieldAddr (off := 0) (o' := 0) rfl Tryz.runUnderlying57 rfl Tryz.sizeOf31 rfl rfl) ?_
          refine dqg 10 rfl rfl rfl rfl rfl rfl (q_load (cs := accCells al[k]) (v := w6 al[k].name) rfl Tryz.isAgg31 .hd .z) ?_
          have hx : al[k - 1].name < al[k].name := cmp64_lt.1 (List.pairwise_iff_getElem.1 hra (k - 1) k (by omega) hkl (by omega))
          have hx2 := UInt64.lt_iff_toNat_lt.1 hx
          refine dqg 11 rfl rfl rfl rfl rfl rfl (q_geq (a := (al[k - 1].name.toNat : Int)) (b := (al[k].name.toNat : Int)) rfl rfl) ?_
          rw [show decide ((al[k - 1].name.toNat : Int) ≥ (al[k].name.toNat : Int)) = false from decide_eq_false (by omega)]
          refine dq 12 rfl rfl rfl rfl (q_pick rfl rfl rfl rfl) ?_
          refine dend rfl ?_
          refine go_condF rfl rfl ?_
          refine go_skip ?_
          refine go_seq ?_
          refine go_region ?_
          refine sq rfl (q_assign rfl) ?_
          refine gol_nil ?_
          refine go_seq ?_
          refine go_region ?_
          refine sq rfl (q_move rfl) ?_
          refine sq rfl (q_fieldAddr (off := 1) (o' := 1) rfl Tryz.runUnderlying57 rfl Tryz.sizeOf31 rfl rfl) ?_
          refine sq rfl (q_load (cs := accCells al[k]) (v := w6 al[k].bal) rfl Tryz.isAgg31 .hd (.s .z)) ?_
          refine sq rfl (q_add64c (a := m) (b := al[k].bal) rfl rfl rfl) ?_
          have hov : (m.toNat + al[k].bal.toNat) / 18446744073709551616 = 0 := Nat.div_eq_of_lt (by omega)
          rw [hov]
          refine sq rfl (q_move rfl) ?_
          refine sq rfl (q_extract rfl .z) ?_
          refine sq rfl (q_extract rfl (.s .z)) ?_
          refine sq rfl (q_assign rfl) ?_
          refine sq rfl (q_assign rfl) ?_
          refine gol_nil ?_
          refine go_region ?_
          refine sq rfl (q_move rfl) ?_
          refine sq rfl (q_move rfl) ?_
          refine sq rfl (q_add64 (a := 0) (b := 0) rfl rfl) ?_
          refine sq rfl (q_assign rfl) ?_
          refine gol_nil ?_
          refine go_inBlock ?_
          refine go_region ?_
          refine sq rfl (q_add (a := (k : Int)) (b := 1) (c := ((k + 1 : Nat) : Int)) rfl rfl (i64_in (by omega) (by omega))) ?_
          refine sq rfl (q_move rfl) ?_
          refine gol_nil ?_
          refine go_drop1 (go_next (next2 (k + 1, m + al[k].bal) ⟨hkl, ?_⟩ (by simp only; omega)) ⟨rfl, rfl, rfl, rfl, rfl, rfl, rfl, rfl, rfl, rfl, trivial⟩)
          simp only
          rw [UInt64.toNat_add, Nat.mod_eq_of_lt (by omega), hst2]; omega
        ·
          rw [show decide ((k : Int) > 0) = false from decide_eq_false hk0]
          refine dq 2 rfl rfl rfl rfl (q_move rfl) ?_
          refine dskip 3 rfl rfl rfl (by first | exact .inl rfl | exact .inr rfl) rfl rfl rfl ?_
          refine dskip 4 rfl rfl rfl (by first | exact .inl rfl | exact .inr rfl) rfl rfl rfl ?_
          refine dskip 5 rfl rfl rfl (by first | exact .inl rfl | exact .inr rfl) rfl rfl rfl ?_
          refine dskip 6 rfl rfl rfl (by first | exact .inl rfl | exact .inr rfl) rfl rfl rfl ?_
          refine dskip 7 rfl rfl rfl (by first | exact .inl rfl | exact .inr rfl) rfl rfl rfl ?_
          refine dskip 8 rfl rfl rfl (by first | exact .inl rfl | exact .inr rfl) rfl rfl rfl ?_
          refine dskip 9 rfl rfl rfl (by first | exact .inl rfl | exact .inr rfl) rfl rfl rfl ?_
          refine dskip 10 rfl rfl rfl (by first | exact .inl rfl | exact .inr rfl) rfl rfl rfl ?_
          refine dskip 11 rfl rfl rfl (by first | exact .inl rfl | exact .inr rfl) rfl rfl rfl ?_
          refine dq 12 rfl rfl rfl rfl (q_pick rfl rfl rfl rfl) ?_
          refine dend rfl ?_
          refine go_condF rfl rfl ?_
          refine go_skip ?_
          refine go_seq ?_
          refine go_region ?_
          refine sq rfl (q_assign rfl) ?_
          refine gol_nil ?_
          refine go_seq ?_
          refine go_region ?_
          refine sq rfl (q_move rfl) ?_
          refine sq rfl (q_fieldAddr (off := 1) (o' := 1) rfl Tryz.runUnderlying57 rfl Tryz.sizeOf31 rfl rfl) ?_
          refine sq rfl (q_load (cs := accCells al[k]) (v := w6 al[k].bal) rfl Tryz.isAgg31 .hd (.s .z)) ?_
          refine sq rfl (q_add64c (a := m) (b := al[k].bal) rfl rfl rfl) ?_
          have hov : (m.toNat + al[k].bal.toNat) / 18446744073709551616 = 0 := Nat.div_eq_of_lt (by omega)
          rw [hov]
          refine sq rfl (q_move rfl) ?_
          refine sq rfl (q_extract rfl .z) ?_
          refine sq rfl (q_extract rfl (.s .z)) ?_
          refine sq rfl (q_assign rfl) ?_
          refine sq rfl (q_assign rfl) ?_
          refine gol_nil ?_
          refine go_region ?_
          refine sq rfl (q_move rfl) ?_
          refine sq rfl (q_move rfl) ?_
          refine sq rfl (q_add64 (a := 0) (b := 0) rfl rfl) ?_
          refine sq rfl (q_assign rfl) ?_
          refine gol_nil ?_
          refine go_inBlock ?_
          refine go_region ?_
          refine sq rfl (q_add (a := (k : Int)) (b := 1) (c := ((k + 1 : Nat) : Int)) rfl rfl (i64_in (by omega) (by omega))) ?_
          refine sq rfl (q_move rfl) ?_
          refine gol_nil ?_
          refine go_drop1 (go_next (next2 (k + 1, m + al[k].bal) ⟨hkl, ?_⟩ (by simp only; omega)) ⟨rfl, rfl, rfl, rfl, rfl, rfl, rfl, rfl, rfl, rfl, trivial⟩)
          simp only
          rw [UInt64.toNat_add, Nat.mod_eq_of_lt (by omega), hst2]; omega
      ·
        have he : k = al.length := by have := of_decide_eq_false hc3; omega
        subst he
        rw [List.take_length] at hm2
        refine go_exit rfl ?_
        refine go_inBlock ?_
        refine go_region ?_
        refine sq rfl (q_add (a := (i : Int)) (b := 1) (c := ((i + 1 : Nat) : Int)) rfl rfl (i64_in (by omega) (by omega))) ?_
        refine sq rfl (q_move rfl) ?_
        refine gol_nil ?_
        refine go_next (next (i + 1, m) ⟨hlt, by simp only; omega⟩ (by simp only; omega)) ⟨rfl, rfl, rfl, rfl, rfl, rfl, trivial⟩
    ·
      have he : i = g.accs.length := by have := of_decide_eq_false hc2; rw [h2.len] at this; omega
      subst he
      rw [List.take_length] at hn
      refine go_exit rfl ?_
      refine go_seq ?_
      refine go_region ?_
      refine sq rfl (q_move rfl) ?_
      refine sq rfl (q_eql (a := 0) (b := 0) rfl rfl) ?_
      rw [show decide ((0 : Int) = 0) = true from decide_eq_true (rfl)]
      refine sq rfl (q_move rfl) ?_
      refine sqg rfl rfl (q_move rfl) ?_
      refine sqg rfl rfl (q_leq (a := (n.toNat : Int)) (b := 4611686018427387904) rfl rfl) ?_
      rw [show decide ((n.toNat : Int) ≤ 4611686018427387904) = true from decide_eq_true (by have := h.sum; omega)]
      refine sq rfl (q_pick rfl rfl rfl rfl) ?_
      refine sq rfl (q_assign rfl) ?_
      refine gol_nil ?_
      refine go_drop1 ?_
      refine go_ret Tryz.func37 Tryz.results37 rfl rfl rfl (by repeat (first | exact Sto.le_refl _ | assumption | refine Sto.le_trans ?_ (by assumption))) ?_
      exact ⟨rfl, rfl, rfl⟩
end Go.Eng
