/- A part of the proof of this: Payments and locks of a shard come out as they stand on paper (TopPaid): for every input, with the listed package variables as the program's text lays them, TopPaid answers true and its argument reads as it did. -/
import Derived.Test.YtddoimkbjgfjnaaGreatDoorPaid15
import Derived.Test.YtddoimkbjgfjnaaGreatDoorPaid06
namespace Go.Eng
open Go Go.Proofs
set_option maxRecDepth 20000
theorem c127 {σ : Sto} {L : SHeap} {T : TypeId} {fr : Nat × Nat} (hK : σ 1 = some (.cells (ucells K256).toArray T fr)) {bg be bc : Nat} {g : Gen} {gv : GV} {tg te tc : TypeId} {ep ch : Int} (hg : σ bg = some (.cells (genCells g gv).toArray tg (0, 0))) (hsd : g.seed.length = 32) (he : σ be = some (.cells [iv ep].toArray te (0, 0))) (hc : σ bc = some (.cells [iv ch].toArray tc (0, 0))) (m : Int) : Ctr Tryz.prog 127 #[iv m, .pointer (some ⟨bg, 0, none⟩), .pointer (some ⟨be, 0, none⟩), .pointer (some ⟨bc, 0, none⟩)] σ L fun v σ' L' => Bytes σ' v (rankB g.seed ep ch m) ∧ L' = L := by
  have hbG : Bytes σ (.slice (some ⟨bg, 5, none⟩) 32 32) g.seed := ⟨_, _, by rw [hsd], by omega, by rw [hsd]; exact ⟨by rw [bcells_len, hsd], _, _, _, rfl, Nat.le_refl _, .inr ⟨bg, 5, _, _, _, rfl, .sto hg, gen_seed hsd⟩⟩⟩
  refine ctr_enter Tryz.func127 rfl Tryz.ntmps127 (by simp) ?_
  refine go_seq ?_
  refine go_region ?_
  refine sq rfl (q_assign rfl) ?_
  refine gol_nil ?_
  refine go_seq ?_
  refine go_meet (Sto × Nat) (fun x => Sto.le σ x.1) (fun x => [(6, .pointer (some ⟨x.2, 0, none⟩))]) (fun x => x.1) (fun x => (x.2, .cells (bcells (rankB g.seed ep ch m)).toArray 27 (0, 0)) :: L) (fun meet => ?_) ?_
  ·
    refine go_draws (n := 20) [] mix rfl (by decide +kernel) (Keep.nil _) ?_
    refine dq 2 rfl rfl rfl rfl (q_fieldAddr (off := 5) rfl Tryz.runUnderlying29 rfl Tryz.sizeOf27 rfl rfl) ?_
    refine dq 3 rfl rfl rfl rfl (q_sliceArr (n := 32) (l := 0) (h := 32) rfl Tryz.runUnderlying27 Tryz.sizeOf5 rfl rfl rfl rfl (by decide) (by decide) (by rfl)) ?_
    refine dq 4 rfl rfl rfl rfl (q_load (v := iv ep) rfl Tryz.isAgg3 (.sto he) .z) ?_
    refine dq 6 rfl rfl rfl rfl (q_load (v := iv ch) rfl Tryz.isAgg3 (.sto hc) .z) ?_
    refine dq 8 rfl rfl rfl rfl (q_move rfl) ?_
    refine goc_meet (Sto × Value × Value × Value × Nat × Nat) (fun x => Sto.le σ x.1 ∧ Bytes x.1 (.slice (some ⟨x.2.2.2.2.1, 0, none⟩) 4 4) sSeat ∧ Bytes x.1 x.2.1 (be64 (u64i ep)) ∧ Bytes x.1 x.2.2.1 (be64 (u64i ch)) ∧ Bytes x.1 x.2.2.2.1 (be64 (u64i m))) (fun x => [(16, x.2.2.2.1), (15, iv m), (14, x.2.2.1), (13, iv ch), (12, x.2.1), (11, iv ep), (10, .slice (some ⟨bg, 5, none⟩) 32 32), (9, .pointer (some ⟨bg, 5, none⟩)), (8, .slice (some ⟨x.2.2.2.2.1, 0, none⟩) 4 4), (7, .slice (some ⟨x.2.2.2.2.1, 0, none⟩) 4 4), (6, .pointer (some ⟨x.2.2.2.2.2, 0, none⟩))] ++ [(5, .slice none 0 0), (0, iv m), (1, .pointer (some ⟨bg, 0, none⟩)), (2, .pointer (some ⟨be, 0, none⟩)), (3, .pointer (some ⟨bc, 0, none⟩))]) [0, 1, 2, 3, 4, 5, 6, 7, 8, 9, 12] (fun x => x.1) (fun x => (x.2.2.2.2.2, .cells (bcells z32).toArray 27 (0, 0)) :: L) (fun mB => ?_) ?_
    rotate_left
    ·
      rintro ⟨σ5, vE, vC, vM, bs, bd⟩ ⟨hle5, hbS, hbE, hbC, hbM⟩
      simp only at hle5 hbS hbE hbC hbM ⊢
      refine dns 10 rfl rfl rfl rfl (by decide +kernel) (n_buildSlice (sz := 1) (.cons rfl (.one (by first | rfl | exact Bytes.one (by assumption))) rfl (.cons rfl (.one (by first | rfl | exact Bytes.one (by assumption))) rfl (.cons rfl (.one (by first | rfl | exact Bytes.one (by assumption))) rfl (.cons rfl (.one (by first | rfl | exact Bytes.one (by assumption))) rfl (.cons rfl (.one (by first | rfl | exact Bytes.one (by assumption))) rfl .nil))))) rfl Tryz.runUnderlying187 Tryz.sizeOf22 Tryz.zeroValue22 rfl rfl) (Keep.nil _) ?_
      intro bp
      refine dn 11 rfl rfl rfl rfl (by decide +kernel) (n_call rfl Tryz.call49 (c49 (ps := [sSeat, g.seed, be64 (u64i ep), be64 (u64i ch), be64 (u64i m)]) (Parts.new .hd (.cons (by first | assumption | exact Bytes.up (by assumption) (by repeat (first | exact Sto.le_refl _ | assumption | refine Sto.le_trans ?_ (by assumption)))) (.cons (by first | assumption | exact Bytes.up (by assumption) (by repeat (first | exact Sto.le_refl _ | assumption | refine Sto.le_trans ?_ (by assumption)))) (.cons (by first | assumption | exact Bytes.up (by assumption) (by repeat (first | exact Sto.le_refl _ | assumption | refine Sto.le_trans ?_ (by assumption)))) (.cons (by first | assumption | exact Bytes.up (by assumption) (by repeat (first | exact Sto.le_refl _ | assumption | refine Sto.le_trans ?_ (by assumption)))) (.cons (by first | assumption | exact Bytes.up (by assumption) (by repeat (first | exact Sto.le_refl _ | assumption | refine Sto.le_trans ?_ (by assumption)))) .nil))))) rfl) (seat_len hsd _ _ _) (Sto.le.get (show Sto.le σ _ from (by repeat (first | exact Sto.le_refl _ | assumption | refine Sto.le_trans ?_ (by assumption)))) hK))) (fun _ _ _ _ _ => Keep.nil _) ?_
      rintro _ σF _ hleF ⟨rfl, rfl⟩
      refine dst 13 rfl rfl rfl rfl (by decide +kernel) (n_storeA rfl rfl (bcells_one _) Tryz.sizeOf27 (dlen _) (.tl .hd) (PutAt.all (dlen0.trans (dlen _).symm))) (Keep.nil _) ?_
      refine dend rfl ?_
      first | exact go_drop1 (go_next (meet (σF, bd) (by repeat (first | exact Sto.le_refl _ | assumption | refine Sto.le_trans ?_ (by assumption)))) ⟨rfl, trivial⟩) | exact go_drop _ (List.Sublist.cons_cons _ (List.sublist_cons_self _ _)) (go_next (meet (σF, bd) (by repeat (first | exact Sto.le_refl _ | assumption | refine Sto.le_trans ?_ (by assumption)))) ⟨rfl, trivial⟩)
    refine goc_meet (Sto × Value × Value × Value × Nat) (fun x => Sto.le σ x.1 ∧ Bytes x.1 (.slice (some ⟨x.2.2.2.2, 0, none⟩) 4 4) sSeat ∧ Bytes x.1 x.2.1 (be64 (u64i ep)) ∧ Bytes x.1 x.2.2.1 (be64 (u64i ch)) ∧ Bytes x.1 x.2.2.2.1 (be64 (u64i m))) (fun x => [(16, x.2.2.2.1), (15, iv m), (14, x.2.2.1), (13, iv ch), (12, x.2.1), (11, iv ep), (10, .slice (some ⟨bg, 5, none⟩) 32 32), (9, .pointer (some ⟨bg, 5, none⟩)), (8, .slice (some ⟨x.2.2.2.2, 0, none⟩) 4 4), (7, .slice (some ⟨x.2.2.2.2, 0, none⟩) 4 4)] ++ [(5, .slice none 0 0), (0, iv m), (1, .pointer (some ⟨bg, 0, none⟩)), (2, .pointer (some ⟨be, 0, none⟩)), (3, .pointer (some ⟨bc, 0, none⟩))]) [0, 1, 2, 3, 4, 5, 6, 7, 8, 9] (fun x => x.1) (fun x => L) (fun mA => ?_) ?_
    rotate_left
    ·
      rintro ⟨σ5, vE, vC, vM, bs⟩ ⟨hle5, hbS, hbE, hbC, hbM⟩
      simp only at hle5 hbS hbE hbC hbM ⊢
      refine d2 10 12 rfl rfl rfl (by decide +kernel) rfl rfl (n_buildSlice (sz := 1) (.cons rfl (.one (by first | rfl | exact Bytes.one (by assumption))) rfl (.cons rfl (.one (by first | rfl | exact Bytes.one (by assumption))) rfl (.cons rfl (.one (by first | rfl | exact Bytes.one (by assumption))) rfl (.cons rfl (.one (by first | rfl | exact Bytes.one (by assumption))) rfl (.cons rfl (.one (by first | rfl | exact Bytes.one (by assumption))) rfl .nil))))) rfl Tryz.runUnderlying187 Tryz.sizeOf22 Tryz.zeroValue22 rfl rfl) (n_alloc zero27z .agg) (fun _ _ _ _ ⟨_, _, _, e3⟩ => by subst e3; exact fun b o hb => List.mem_cons_of_mem _ ((Keep.nil _) b o hb)) (fun _ _ _ _ ⟨_, _, _, e3⟩ => by subst e3; exact fun b o hb => List.mem_cons_of_mem _ ((Keep.nil _) b o hb)) ?_ ?_
      ·
        rintro _ σ9 _ - ⟨bp, rfl, e9, rfl⟩
        obtain rfl := e9.symm
        refine d2 11 12 rfl rfl rfl (by decide +kernel) rfl rfl (n_call rfl Tryz.call49 (c49 (ps := [sSeat, g.seed, be64 (u64i ep), be64 (u64i ch), be64 (u64i m)]) (Parts.new .hd (.cons (by first | assumption | exact Bytes.up (by assumption) (by repeat (first | exact Sto.le_refl _ | assumption | refine Sto.le_trans ?_ (by assumption)))) (.cons (by first | assumption | exact Bytes.up (by assumption) (by repeat (first | exact Sto.le_refl _ | assumption | refine Sto.le_trans ?_ (by assumption)))) (.cons (by first | assumption | exact Bytes.up (by assumption) (by repeat (first | exact Sto.le_refl _ | assumption | refine Sto.le_trans ?_ (by assumption)))) (.cons (by first | assumption | exact Bytes.up (by assumption) (by repeat (first | exact Sto.le_refl _ | assumption | refine Sto.le_trans ?_ (by assumption)))) (.cons (by first | assumption | exact Bytes.up (by assumption) (by repeat (first | exact Sto.le_refl _ | assumption | refine Sto.le_trans ?_ (by assumption)))) .nil))))) rfl) (seat_len hsd _ _ _) (Sto.le.get (show Sto.le σ _ from (by repeat (first | exact Sto.le_refl _ | assumption | refine Sto.le_trans ?_ (by assumption)))) hK))) (n_alloc zero27z .agg) (fun _ _ _ _ _ => Keep.nil _) (fun _ _ _ _ ⟨_, _, _, e3⟩ => by subst e3; exact fun b o hb => List.mem_cons_of_mem _ ((Keep.nil _) b o hb)) ?_ ?_
        ·
          rintro _ σF _ hleF ⟨rfl, rfl⟩
          refine dnb 12 rfl rfl rfl rfl (by decide +kernel) (n_alloc zero27z .agg) (Keep.nil _) ?_
          intro bd
          refine dst 13 rfl rfl rfl rfl (by decide +kernel) (n_storeA rfl rfl (bcells_one _) Tryz.sizeOf27 (dlen _) .hd (PutAt.all (dlen0.trans (dlen _).symm))) (Keep.nil _) ?_
          refine dend rfl ?_
          first | exact go_drop1 (go_next (meet (σF, bd) (by repeat (first | exact Sto.le_refl _ | assumption | refine Sto.le_trans ?_ (by assumption)))) ⟨rfl, trivial⟩) | exact go_drop _ (List.Sublist.cons_cons _ (List.sublist_cons_self _ _)) (go_next (meet (σF, bd) (by repeat (first | exact Sto.le_refl _ | assumption | refine Sto.le_trans ?_ (by assumption)))) ⟨rfl, trivial⟩)
        ·
          rintro _ σ9 _ - ⟨bd, rfl, e9, rfl⟩
          obtain rfl := e9.symm
          refine dn 11 rfl rfl rfl rfl (by decide +kernel) (n_call rfl Tryz.call49 (c49 (ps := [sSeat, g.seed, be64 (u64i ep), be64 (u64i ch), be64 (u64i m)]) (Parts.new (.tl .hd) (.cons (by first | assumption | exact Bytes.up (by assumption) (by repeat (first | exact Sto.le_refl _ | assumption | refine Sto.le_trans ?_ (by assumption)))) (.cons (by first | assumption | exact Bytes.up (by assumption) (by repeat (first | exact Sto.le_refl _ | assumption | refine Sto.le_trans ?_ (by assumption)))) (.cons (by first | assumption | exact Bytes.up (by assumption) (by repeat (first | exact Sto.le_refl _ | assumption | refine Sto.le_trans ?_ (by assumption)))) (.cons (by first | assumption | exact Bytes.up (by assumption) (by repeat (first | exact Sto.le_refl _ | assumption | refine Sto.le_trans ?_ (by assumption)))) (.cons (by first | assumption | exact Bytes.up (by assumption) (by repeat (first | exact Sto.le_refl _ | assumption | refine Sto.le_trans ?_ (by assumption)))) .nil))))) rfl) (seat_len hsd _ _ _) (Sto.le.get (show Sto.le σ _ from (by repeat (first | exact Sto.le_refl _ | assumption | refine Sto.le_trans ?_ (by assumption)))) hK))) (fun _ _ _ _ _ => Keep.nil _) ?_
          rintro _ σF _ hleF ⟨rfl, rfl⟩
          refine dst 13 rfl rfl rfl rfl (by decide +kernel) (n_storeA rfl rfl (bcells_one _) Tryz.sizeOf27 (dlen _) .hd (PutAt.all (dlen0.trans (dlen _).symm))) (Keep.nil _) ?_
          refine dend rfl ?_
          first | exact go_drop1 (go_next (meet (σF, bd) (by repeat (first | exact Sto.le_refl _ | assumption | refine Sto.le_trans ?_ (by assumption)))) ⟨rfl, trivial⟩) | exact go_drop _ (List.Sublist.cons_cons _ (List.sublist_cons_self _ _)) (go_next (meet (σF, bd) (by repeat (first | exact Sto.le_refl _ | assumption | refine Sto.le_trans ?_ (by assumption)))) ⟨rfl, trivial⟩)
      ·
        rintro _ σ9 _ - ⟨bd, rfl, e9, rfl⟩
        obtain rfl := e9.symm
        exact goc_eqv (mB (_, vE, vC, vM, bs, bd) ⟨(by repeat (first | exact Sto.le_refl _ | assumption | refine Sto.le_trans ?_ (by assumption))), (by first | assumption | exact Bytes.up (by assumption) (by repeat (first | exact Sto.le_refl _ | assumption | refine Sto.le_trans ?_ (by assumption)))), (by first | assumption | exact Bytes.up (by assumption) (by repeat (first | exact Sto.le_refl _ | assumption | refine Sto.le_trans ?_ (by assumption)))), (by first | assumption | exact Bytes.up (by assumption) (by repeat (first | exact Sto.le_refl _ | assumption | refine Sto.le_trans ?_ (by assumption)))), (by first | assumption | exact Bytes.up (by assumption) (by repeat (first | exact Sto.le_refl _ | assumption | refine Sto.le_trans ?_ (by assumption))))⟩) ⟨rfl, rfl, rfl, rfl, rfl, rfl, rfl, rfl, rfl, rfl, rfl, rfl, rfl, rfl, rfl, rfl, trivial⟩ ⟨rfl, rfl, rfl, rfl, rfl, rfl, rfl, rfl, rfl, rfl, rfl, rfl, rfl, rfl, rfl, rfl, trivial⟩ rfl
    refine d3 0 5 12 rfl rfl rfl rfl (by decide +kernel) rfl rfl rfl (n_buildSlice (sz := 1) (l' := bcells [115, 101, 97, 116]) (.cons rfl (.one rfl) rfl (.cons rfl (.one rfl) rfl (.cons rfl (.one rfl) rfl (.cons rfl (.one rfl) rfl .nil)))) rfl Tryz.runUnderlying22 Tryz.sizeOf5 Tryz.zeroValue5 rfl rfl) (n_call rfl Tryz.call128 c128) (n_alloc zero27z .agg) (fun _ _ _ _ ⟨_, _, _, e3⟩ => by subst e3; exact fun b o hb => List.mem_cons_of_mem _ ((Keep.nil _) b o hb)) (fun _ _ _ _ _ => Keep.nil _) (fun _ _ _ _ ⟨_, _, _, e3⟩ => by subst e3; exact fun b o hb => List.mem_cons_of_mem _ ((Keep.nil _) b o hb)) ?_ ?_ ?_
    ·
      rintro _ σ9 _ - ⟨bs, rfl, e9, rfl⟩
      obtain rfl := e9.symm
      refine d3 1 5 12 rfl rfl rfl rfl (by decide +kernel) rfl rfl rfl (n_markF (xs := sSeat) rfl Tryz.runUnderlying22 Tryz.runUnderlying5 rfl .hd) (n_call rfl Tryz.call128 c128) (n_alloc zero27z .agg) (fun _ _ _ _ _ => Keep.nil _) (fun _ _ _ _ _ => Keep.nil _) (fun _ _ _ _ ⟨_, _, _, e3⟩ => by subst e3; exact fun b o hb => List.mem_cons_of_mem _ ((Keep.nil _) b o hb)) ?_ ?_ ?_
      ·
        rintro _ σS _ hleS ⟨rfl, hbS, rfl⟩
        refine d2 5 12 rfl rfl rfl (by decide +kernel) rfl rfl (n_call rfl Tryz.call128 c128) (n_alloc zero27z .agg) (fun _ _ _ _ _ => Keep.nil _) (fun _ _ _ _ ⟨_, _, _, e3⟩ => by subst e3; exact fun b o hb => List.mem_cons_of_mem _ ((Keep.nil _) b o hb)) ?_ ?_
        ·
          rintro vE σE _ hleE ⟨hbE, rfl⟩
          refine d2 7 12 rfl rfl rfl (by decide +kernel) rfl rfl (n_call rfl Tryz.call128 c128) (n_alloc zero27z .agg) (fun _ _ _ _ _ => Keep.nil _) (fun _ _ _ _ ⟨_, _, _, e3⟩ => by subst e3; exact fun b o hb => List.mem_cons_of_mem _ ((Keep.nil _) b o hb)) ?_ ?_
          ·
            rintro vC σC _ hleC ⟨hbC, rfl⟩
            refine d2 9 12 rfl rfl rfl (by decide +kernel) rfl rfl (n_call rfl Tryz.call128 c128) (n_alloc zero27z .agg) (fun _ _ _ _ _ => Keep.nil _) (fun _ _ _ _ ⟨_, _, _, e3⟩ => by subst e3; exact fun b o hb => List.mem_cons_of_mem _ ((Keep.nil _) b o hb)) ?_ ?_
            ·
              rintro vM σM _ hleM ⟨hbM, rfl⟩
              exact goc_eqv (mA (_, vE, vC, vM, bs) ⟨(by repeat (first | exact Sto.le_refl _ | assumption | refine Sto.le_trans ?_ (by assumption))), (by first | assumption | exact Bytes.up (by assumption) (by repeat (first | exact Sto.le_refl _ | assumption | refine Sto.le_trans ?_ (by assumption)))), (by first | assumption | exact Bytes.up (by assumption) (by repeat (first | exact Sto.le_refl _ | assumption | refine Sto.le_trans ?_ (by assumption)))), (by first | assumption | exact Bytes.up (by assumption) (by repeat (first | exact Sto.le_refl _ | assumption | refine Sto.le_trans ?_ (by assumption)))), (by first | assumption | exact Bytes.up (by assumption) (by repeat (first | exact Sto.le_refl _ | assumption | refine Sto.le_trans ?_ (by assumption))))⟩) ⟨rfl, rfl, rfl, rfl, rfl, rfl, rfl, rfl, rfl, rfl, rfl, rfl, rfl, rfl, rfl, trivial⟩ ⟨rfl, rfl, rfl, rfl, rfl, rfl, rfl, rfl, rfl, rfl, rfl, rfl, rfl, rfl, rfl, trivial⟩ rfl
            ·
              rintro _ σ9 _ - ⟨bd, rfl, e9, rfl⟩
              obtain rfl := e9.symm
              refine dn 9 rfl rfl rfl rfl (by decide +kernel) (n_call rfl Tryz.call128 c128) (fun _ _ _ _ _ => Keep.nil _) ?_
              rintro vM σM _ hleM ⟨hbM, rfl⟩
              exact goc_eqv (mB (_, vE, vC, vM, bs, bd) ⟨(by repeat (first | exact Sto.le_refl _ | assumption | refine Sto.le_trans ?_ (by assumption))), (by first | assumption | exact Bytes.up (by assumption) (by repeat (first | exact Sto.le_refl _ | assumption | refine Sto.le_trans ?_ (by assumption)))), (by first | assumption | exact Bytes.up (by assumption) (by repeat (first | exact Sto.le_refl _ | assumption | refine Sto.le_trans ?_ (by assumption)))), (by first | assumption | exact Bytes.up (by assumption) (by repeat (first | exact Sto.le_refl _ | assumption | refine Sto.le_trans ?_ (by assumption)))), (by first | assumption | exact Bytes.up (by assumption) (by repeat (first | exact Sto.le_refl _ | assumption | refine Sto.le_trans ?_ (by assumption))))⟩) ⟨rfl, rfl, rfl, rfl, rfl, rfl, rfl, rfl, rfl, rfl, rfl, rfl, rfl, rfl, rfl, rfl, trivial⟩ ⟨rfl, rfl, rfl, rfl, rfl, rfl, rfl, rfl, rfl, rfl, rfl, rfl, rfl, rfl, rfl, rfl, trivial⟩ rfl
          ·
            rintro _ σ9 _ - ⟨bd, rfl, e9, rfl⟩
            obtain rfl := e9.symm
            refine dn 7 rfl rfl rfl rfl (by decide +kernel) (n_call rfl Tryz.call128 c128) (fun _ _ _ _ _ => Keep.nil _) ?_
            rintro vC σC _ hleC ⟨hbC, rfl⟩
            refine dn 9 rfl rfl rfl rfl (by decide +kernel) (n_call rfl Tryz.call128 c128) (fun _ _ _ _ _ => Keep.nil _) ?_
            rintro vM σM _ hleM ⟨hbM, rfl⟩
            exact goc_eqv (mB (_, vE, vC, vM, bs, bd) ⟨(by repeat (first | exact Sto.le_refl _ | assumption | refine Sto.le_trans ?_ (by assumption))), (by first | assumption | exact Bytes.up (by assumption) (by repeat (first | exact Sto.le_refl _ | assumption | refine Sto.le_trans ?_ (by assumption)))), (by first | assumption | exact Bytes.up (by assumption) (by repeat (first | exact Sto.le_refl _ | assumption | refine Sto.le_trans ?_ (by assumption)))), (by first | assumption | exact Bytes.up (by assumption) (by repeat (first | exact Sto.le_refl _ | assumption | refine Sto.le_trans ?_ (by assumption)))), (by first | assumption | exact Bytes.up (by assumption) (by repeat (first | exact Sto.le_refl _ | assumption | refine Sto.le_trans ?_ (by assumption))))⟩) ⟨rfl, rfl, rfl, rfl, rfl, rfl, rfl, rfl, rfl, rfl, rfl, rfl, rfl, rfl, rfl, rfl, trivial⟩ ⟨rfl, rfl, rfl, rfl, rfl, rfl, rfl, rfl, rfl, rfl, rfl, rfl, rfl, rfl, rfl, rfl, trivial⟩ rfl
        ·
          rintro _ σ9 _ - ⟨bd, rfl, e9, rfl⟩
          obtain rfl := e9.symm
          refine dn 5 rfl rfl rfl rfl (by decide +kernel) (n_call rfl Tryz.call128 c128) (fun _ _ _ _ _ => Keep.nil _) ?_
          rintro vE σE _ hleE ⟨hbE, rfl⟩
          refine dn 7 rfl rfl rfl rfl (by decide +kernel) (n_call rfl Tryz.call128 c128) (fun _ _ _ _ _ => Keep.nil _) ?_
          rintro vC σC _ hleC ⟨hbC, rfl⟩
          refine dn 9 rfl rfl rfl rfl (by decide +kernel) (n_call rfl Tryz.call128 c128) (fun _ _ _ _ _ => Keep.nil _) ?_
          rintro vM σM _ hleM ⟨hbM, rfl⟩
          exact goc_eqv (mB (_, vE, vC, vM, bs, bd) ⟨(by repeat (first | exact Sto.le_refl _ | assumption | refine Sto.le_trans ?_ (by assumption))), (by first | assumption | exact Bytes.up (by assumption) (by repeat (first | exact Sto.le_refl _ | assumption | refine Sto.le_trans ?_ (by assumption)))), (by first | assumption | exact Bytes.up (by assumption) (by repeat (first | exact Sto.le_refl _ | assumption | refine Sto.le_trans ?_ (by assumption)))), (by first | assumption | exact Bytes.up (by assumption) (by repeat (first | exact Sto.le_refl _ | assumption | refine Sto.le_trans ?_ (by assumption)))), (by first | assumption | exact Bytes.up (by assumption) (by repeat (first | exact Sto.le_refl _ | assumption | refine Sto.le_trans ?_ (by assumption))))⟩) ⟨rfl, rfl, rfl, rfl, rfl, rfl, rfl, rfl, rfl, rfl, rfl, rfl, rfl, rfl, rfl, rfl, trivial⟩ ⟨rfl, rfl, rfl, rfl, rfl, rfl, rfl, rfl, rfl, rfl, rfl, rfl, rfl, rfl, rfl, rfl, trivial⟩ rfl
      ·
        rintro vE σE _ hleE ⟨hbE, rfl⟩
        refine d3 1 7 12 rfl rfl rfl rfl (by decide +kernel) rfl rfl rfl (n_markF (xs := sSeat) rfl Tryz.runUnderlying22 Tryz.runUnderlying5 rfl .hd) (n_call rfl Tryz.call128 c128) (n_alloc zero27z .agg) (fun _ _ _ _ _ => Keep.nil _) (fun _ _ _ _ _ => Keep.nil _) (fun _ _ _ _ ⟨_, _, _, e3⟩ => by subst e3; exact fun b o hb => List.mem_cons_of_mem _ ((Keep.nil _) b o hb)) ?_ ?_ ?_
        ·
          rintro _ σS _ hleS ⟨rfl, hbS, rfl⟩
          refine d2 7 12 rfl rfl rfl (by decide +kernel) rfl rfl (n_call rfl Tryz.call128 c128) (n_alloc zero27z .agg) (fun _ _ _ _ _ => Keep.nil _) (fun _ _ _ _ ⟨_, _, _, e3⟩ => by subst e3; exact fun b o hb => List.mem_cons_of_mem _ ((Keep.nil _) b o hb)) ?_ ?_
          ·
            rintro vC σC _ hleC ⟨hbC, rfl⟩
            refine d2 9 12 rfl rfl rfl (by decide +kernel) rfl rfl (n_call rfl Tryz.call128 c128) (n_alloc zero27z .agg) (fun _ _ _ _ _ => Keep.nil _) (fun _ _ _ _ ⟨_, _, _, e3⟩ => by subst e3; exact fun b o hb => List.mem_cons_of_mem _ ((Keep.nil _) b o hb)) ?_ ?_
            ·
              rintro vM σM _ hleM ⟨hbM, rfl⟩
              exact goc_eqv (mA (_, vE, vC, vM, bs) ⟨(by repeat (first | exact Sto.le_refl _ | assumption | refine Sto.le_trans ?_ (by assumption))), (by first | assumption | exact Bytes.up (by assumption) (by repeat (first | exact Sto.le_refl _ | assumption | refine Sto.le_trans ?_ (by assumption)))), (by first | assumption | exact Bytes.up (by assumption) (by repeat (first | exact Sto.le_refl _ | assumption | refine Sto.le_trans ?_ (by assumption)))), (by first | assumption | exact Bytes.up (by assumption) (by repeat (first | exact Sto.le_refl _ | assumption | refine Sto.le_trans ?_ (by assumption)))), (by first | assumption | exact Bytes.up (by assumption) (by repeat (first | exact Sto.le_refl _ | assumption | refine Sto.le_trans ?_ (by assumption))))⟩) ⟨rfl, rfl, rfl, rfl, rfl, rfl, rfl, rfl, rfl, rfl, rfl, rfl, rfl, rfl, rfl, trivial⟩ ⟨rfl, rfl, rfl, rfl, rfl, rfl, rfl, rfl, rfl, rfl, rfl, rfl, rfl, rfl, rfl, trivial⟩ rfl
            ·
              rintro _ σ9 _ - ⟨bd, rfl, e9, rfl⟩
              obtain rfl := e9.symm
              refine dn 9 rfl rfl rfl rfl (by decide +kernel) (n_call rfl Tryz.call128 c128) (fun _ _ _ _ _ => Keep.nil _) ?_
              rintro vM σM _ hleM ⟨hbM, rfl⟩
              exact goc_eqv (mB (_, vE, vC, vM, bs, bd) ⟨(by repeat (first | exact Sto.le_refl _ | assumption | refine Sto.le_trans ?_ (by assumption))), (by first | assumption | exact Bytes.up (by assumption) (by repeat (first | exact Sto.le_refl _ | assumption | refine Sto.le_trans ?_ (by assumption)))), (by first | assumption | exact Bytes.up (by assumption) (by repeat (first | exact Sto.le_refl _ | assumption | refine Sto.le_trans ?_ (by assumption)))), (by first | assumption | exact Bytes.up (by assumption) (by repeat (first | exact Sto.le_refl _ | assumption | refine Sto.le_trans ?_ (by assumption)))), (by first | assumption | exact Bytes.up (by assumption) (by repeat (first | exact Sto.le_refl _ | assumption | refine Sto.le_trans ?_ (by assumption))))⟩) ⟨rfl, rfl, rfl, rfl, rfl, rfl, rfl, rfl, rfl, rfl, rfl, rfl, rfl, rfl, rfl, rfl, trivial⟩ ⟨rfl, rfl, rfl, rfl, rfl, rfl, rfl, rfl, rfl, rfl, rfl, rfl, rfl, rfl, rfl, rfl, trivial⟩ rfl
          ·
            rintro _ σ9 _ - ⟨bd, rfl, e9, rfl⟩
            obtain rfl := e9.symm
            refine dn 7 rfl rfl rfl rfl (by decide +kernel) (n_call rfl Tryz.call128 c128) (fun _ _ _ _ _ => Keep.nil _) ?_
            rintro vC σC _ hleC ⟨hbC, rfl⟩
            refine dn 9 rfl rfl rfl rfl (by decide +kernel) (n_call rfl Tryz.call128 c128) (fun _ _ _ _ _ => Keep.nil _) ?_
            rintro vM σM _ hleM ⟨hbM, rfl⟩
            exact goc_eqv (mB (_, vE, vC, vM, bs, bd) ⟨(by repeat (first | exact Sto.le_refl _ | assumption | refine Sto.le_trans ?_ (by assumption))), (by first | assumption | exact Bytes.up (by assumption) (by repeat (first | exact Sto.le_refl _ | assumption | refine Sto.le_trans ?_ (by assumption)))), (by first | assumption | exact Bytes.up (by assumption) (by repeat (first | exact Sto.le_refl _ | assumption | refine Sto.le_trans ?_ (by assumption)))), (by first | assumption | exact Bytes.up (by assumption) (by repeat (first | exact Sto.le_refl _ | assumption | refine Sto.le_trans ?_ (by assumption)))), (by first | assumption | exact Bytes.up (by assumption) (by repeat (first | exact Sto.le_refl _ | assumption | refine Sto.le_trans ?_ (by assumption))))⟩) ⟨rfl, rfl, rfl, rfl, rfl, rfl, rfl, rfl, rfl, rfl, rfl, rfl, rfl, rfl, rfl, rfl, trivial⟩ ⟨rfl, rfl, rfl, rfl, rfl, rfl, rfl, rfl, rfl, rfl, rfl, rfl, rfl, rfl, rfl, rfl, trivial⟩ rfl
        ·
          rintro vC σC _ hleC ⟨hbC, rfl⟩
          refine d3 1 9 12 rfl rfl rfl rfl (by decide +kernel) rfl rfl rfl (n_markF (xs := sSeat) rfl Tryz.runUnderlying22 Tryz.runUnderlying5 rfl .hd) (n_call rfl Tryz.call128 c128) (n_alloc zero27z .agg) (fun _ _ _ _ _ => Keep.nil _) (fun _ _ _ _ _ => Keep.nil _) (fun _ _ _ _ ⟨_, _, _, e3⟩ => by subst e3; exact fun b o hb => List.mem_cons_of_mem _ ((Keep.nil _) b o hb)) ?_ ?_ ?_
          ·
            rintro _ σS _ hleS ⟨rfl, hbS, rfl⟩
            refine d2 9 12 rfl rfl rfl (by decide +kernel) rfl rfl (n_call rfl Tryz.call128 c128) (n_alloc zero27z .agg) (fun _ _ _ _ _ => Keep.nil _) (fun _ _ _ _ ⟨_, _, _, e3⟩ => by subst e3; exact fun b o hb => List.mem_cons_of_mem _ ((Keep.nil _) b o hb)) ?_ ?_
            ·
              rintro vM σM _ hleM ⟨hbM, rfl⟩
              exact goc_eqv (mA (_, vE, vC, vM, bs) ⟨(by repeat (first | exact Sto.le_refl _ | assumption | refine Sto.le_trans ?_ (by assumption))), (by first | assumption | exact Bytes.up (by assumption) (by repeat (first | exact Sto.le_refl _ | assumption | refine Sto.le_trans ?_ (by assumption)))), (by first | assumption | exact Bytes.up (by assumption) (by repeat (first | exact Sto.le_refl _ | assumption | refine Sto.le_trans ?_ (by assumption)))), (by first | assumption | exact Bytes.up (by assumption) (by repeat (first | exact Sto.le_refl _ | assumption | refine Sto.le_trans ?_ (by assumption)))), (by first | assumption | exact Bytes.up (by assumption) (by repeat (first | exact Sto.le_refl _ | assumption | refine Sto.le_trans ?_ (by assumption))))⟩) ⟨rfl, rfl, rfl, rfl, rfl, rfl, rfl, rfl, rfl, rfl, rfl, rfl, rfl, rfl, rfl, trivial⟩ ⟨rfl, rfl, rfl, rfl, rfl, rfl, rfl, rfl, rfl, rfl, rfl, rfl, rfl, rfl, rfl, trivial⟩ rfl
            ·
              rintro _ σ9 _ - ⟨bd, rfl, e9, rfl⟩
              obtain rfl := e9.symm
              refine dn 9 rfl rfl rfl rfl (by decide +kernel) (n_call rfl Tryz.call128 c128) (fun _ _ _ _ _ => Keep.nil _) ?_
              rintro vM σM _ hleM ⟨hbM, rfl⟩
              exact goc_eqv (mB (_, vE, vC, vM, bs, bd) ⟨(by repeat (first | exact Sto.le_refl _ | assumption | refine Sto.le_trans ?_ (by assumption))), (by first | assumption | exact Bytes.up (by assumption) (by repeat (first | exact Sto.le_refl _ | assumption | refine Sto.le_trans ?_ (by assumption)))), (by first | assumption | exact Bytes.up (by assumption) (by repeat (first | exact Sto.le_refl _ | assumption | refine Sto.le_trans ?_ (by assumption)))), (by first | assumption | exact Bytes.up (by assumption) (by repeat (first | exact Sto.le_refl _ | assumption | refine Sto.le_trans ?_ (by assumption)))), (by first | assumption | exact Bytes.up (by assumption) (by repeat (first | exact Sto.le_refl _ | assumption | refine Sto.le_trans ?_ (by assumption))))⟩) ⟨rfl, rfl, rfl, rfl, rfl, rfl, rfl, rfl, rfl, rfl, rfl, rfl, rfl, rfl, rfl, rfl, trivial⟩ ⟨rfl, rfl, rfl, rfl, rfl, rfl, rfl, rfl, rfl, rfl, rfl, rfl, rfl, rfl, rfl, rfl, trivial⟩ rfl
          ·
            rintro vM σM _ hleM ⟨hbM, rfl⟩
            refine d2 1 12 rfl rfl rfl (by decide +kernel) rfl rfl (n_markF (xs := sSeat) rfl Tryz.runUnderlying22 Tryz.runUnderlying5 rfl .hd) (n_alloc zero27z .agg) (fun _ _ _ _ _ => Keep.nil _) (fun _ _ _ _ ⟨_, _, _, e3⟩ => by subst e3; exact fun b o hb => List.mem_cons_of_mem _ ((Keep.nil _) b o hb)) ?_ ?_
            ·
              rintro _ σS _ hleS ⟨rfl, hbS, rfl⟩
              exact goc_eqv (mA (_, vE, vC, vM, bs) ⟨(by repeat (first | exact Sto.le_refl _ | assumption | refine Sto.le_trans ?_ (by assumption))), (by first | assumption | exact Bytes.up (by assumption) (by repeat (first | exact Sto.le_refl _ | assumption | refine Sto.le_trans ?_ (by assumption)))), (by first | assumption | exact Bytes.up (by assumption) (by repeat (first | exact Sto.le_refl _ | assumption | refine Sto.le_trans ?_ (by assumption)))), (by first | assumption | exact Bytes.up (by assumption) (by repeat (first | exact Sto.le_refl _ | assumption | refine Sto.le_trans ?_ (by assumption)))), (by first | assumption | exact Bytes.up (by assumption) (by repeat (first | exact Sto.le_refl _ | assumption | refine Sto.le_trans ?_ (by assumption))))⟩) ⟨rfl, rfl, rfl, rfl, rfl, rfl, rfl, rfl, rfl, rfl, rfl, rfl, rfl, rfl, rfl, trivial⟩ ⟨rfl, rfl, rfl, rfl, rfl, rfl, rfl, rfl, rfl, rfl, rfl, rfl, rfl, rfl, rfl, trivial⟩ rfl
            ·
              rintro _ σ9 _ - ⟨bd, rfl, e9, rfl⟩
              obtain rfl := e9.symm
              refine dn 1 rfl rfl rfl rfl (by decide +kernel) (n_markF (xs := sSeat) rfl Tryz.runUnderlying22 Tryz.runUnderlying5 rfl (.tl .hd)) (fun _ _ _ _ _ => Keep.nil _) ?_
              rintro _ σS _ hleS ⟨rfl, hbS, rfl⟩
              exact goc_eqv (mB (_, vE, vC, vM, bs, bd) ⟨(by repeat (first | exact Sto.le_refl _ | assumption | refine Sto.le_trans ?_ (by assumption))), (by first | assumption | exact Bytes.up (by assumption) (by repeat (first | exact Sto.le_refl _ | assumption | refine Sto.le_trans ?_ (by assumption)))), (by first | assumption | exact Bytes.up (by assumption) (by repeat (first | exact Sto.le_refl _ | assumption | refine Sto.le_trans ?_ (by assumption)))), (by first | assumption | exact Bytes.up (by assumption) (by repeat (first | exact Sto.le_refl _ | assumption | refine Sto.le_trans ?_ (by assumption)))), (by first | assumption | exact Bytes.up (by assumption) (by repeat (first | exact Sto.le_refl _ | assumption | refine Sto.le_trans ?_ (by assumption))))⟩) ⟨rfl, rfl, rfl, rfl, rfl, rfl, rfl, rfl, rfl, rfl, rfl, rfl, rfl, rfl, rfl, rfl, trivial⟩ ⟨rfl, rfl, rfl, rfl, rfl, rfl, rfl, rfl, rfl, rfl, rfl, rfl, rfl, rfl, rfl, rfl, trivial⟩ rfl
          ·
            rintro _ σ9 _ - ⟨bd, rfl, e9, rfl⟩
            obtain rfl := e9.symm
            refine d2 1 9 rfl rfl rfl (by decide +kernel) rfl rfl (n_markF (xs := sSeat) rfl Tryz.runUnderlying22 Tryz.runUnderlying5 rfl (.tl .hd)) (n_call rfl Tryz.call128 c128) (fun _ _ _ _ _ => Keep.nil _) (fun _ _ _ _ _ => Keep.nil _) ?_ ?_
            ·
              rintro _ σS _ hleS ⟨rfl, hbS, rfl⟩
              refine dn 9 rfl rfl rfl rfl (by decide +kernel) (n_call rfl Tryz.call128 c128) (fun _ _ _ _ _ => Keep.nil _) ?_
              rintro vM σM _ hleM ⟨hbM, rfl⟩
              exact goc_eqv (mB (_, vE, vC, vM, bs, bd) ⟨(by repeat (first | exact Sto.le_refl _ | assumption | refine Sto.le_trans ?_ (by assumption))), (by first | assumption | exact Bytes.up (by assumption) (by repeat (first | exact Sto.le_refl _ | assumption | refine Sto.le_trans ?_ (by assumption)))), (by first | assumption | exact Bytes.up (by assumption) (by repeat (first | exact Sto.le_refl _ | assumption | refine Sto.le_trans ?_ (by assumption)))), (by first | assumption | exact Bytes.up (by assumption) (by repeat (first | exact Sto.le_refl _ | assumption | refine Sto.le_trans ?_ (by assumption)))), (by first | assumption | exact Bytes.up (by assumption) (by repeat (first | exact Sto.le_refl _ | assumption | refine Sto.le_trans ?_ (by assumption))))⟩) ⟨rfl, rfl, rfl, rfl, rfl, rfl, rfl, rfl, rfl, rfl, rfl, rfl, rfl, rfl, rfl, rfl, trivial⟩ ⟨rfl, rfl, rfl, rfl, rfl, rfl, rfl, rfl, rfl, rfl, rfl, rfl, rfl, rfl, rfl, rfl, trivial⟩ rfl
            ·
              rintro vM σM _ hleM ⟨hbM, rfl⟩
              refine dn 1 rfl rfl rfl rfl (by decide +kernel) (n_markF (xs := sSeat) rfl Tryz.runUnderlying22 Tryz.runUnderlying5 rfl (.tl .hd)) (fun _ _ _ _ _ => Keep.nil _) ?_
              rintro _ σS _ hleS ⟨rfl, hbS, rfl⟩
              exact goc_eqv (mB (_, vE, vC, vM, bs, bd) ⟨(by repeat (first | exact Sto.le_refl _ | assumption | refine Sto.le_trans ?_ (by assumption))), (by first | assumption | exact Bytes.up (by assumption) (by repeat (first | exact Sto.le_refl _ | assumption | refine Sto.le_trans ?_ (by assumption)))), (by first | assumption | exact Bytes.up (by assumption) (by repeat (first | exact Sto.le_refl _ | assumption | refine Sto.le_trans ?_ (by assumption)))), (by first | assumption | exact Bytes.up (by assumption) (by repeat (first | exact Sto.le_refl _ | assumption | refine Sto.le_trans ?_ (by assumption)))), (by first | assumption | exact Bytes.up (by assumption) (by repeat (first | exact Sto.le_refl _ | assumption | refine Sto.le_trans ?_ (by assumption))))⟩) ⟨rfl, rfl, rfl, rfl, rfl, rfl, rfl, rfl, rfl, rfl, rfl, rfl, rfl, rfl, rfl, rfl, trivial⟩ ⟨rfl, rfl, rfl, rfl, rfl, rfl, rfl, rfl, rfl, rfl, rfl, rfl, rfl, rfl, rfl, rfl, trivial⟩ rfl
        ·
          rintro _ σ9 _ - ⟨bd, rfl, e9, rfl⟩
          obtain rfl := e9.symm
          refine d2 1 7 rfl rfl rfl (by decide +kernel) rfl rfl (n_markF (xs := sSeat) rfl Tryz.runUnderlying22 Tryz.runUnderlying5 rfl (.tl .hd)) (n_call rfl Tryz.call128 c128) (fun _ _ _ _ _ => Keep.nil _) (fun _ _ _ _ _ => Keep.nil _) ?_ ?_
          ·
            rintro _ σS _ hleS ⟨rfl, hbS, rfl⟩
            refine dn 7 rfl rfl rfl rfl (by decide +kernel) (n_call rfl Tryz.call128 c128) (fun _ _ _ _ _ => Keep.nil _) ?_
            rintro vC σC _ hleC ⟨hbC, rfl⟩
            refine dn 9 rfl rfl rfl rfl (by decide +kernel) (n_call rfl Tryz.call128 c128) (fun _ _ _ _ _ => Keep.nil _) ?_
            rintro vM σM _ hleM ⟨hbM, rfl⟩
            exact goc_eqv (mB (_, vE, vC, vM, bs, bd) ⟨(by repeat (first | exact Sto.le_refl _ | assumption | refine Sto.le_trans ?_ (by assumption))), (by first | assumption | exact Bytes.up (by assumption) (by repeat (first | exact Sto.le_refl _ | assumption | refine Sto.le_trans ?_ (by assumption)))), (by first | assumption | exact Bytes.up (by assumption) (by repeat (first | exact Sto.le_refl _ | assumption | refine Sto.le_trans ?_ (by assumption)))), (by first | assumption | exact Bytes.up (by assumption) (by repeat (first | exact Sto.le_refl _ | assumption | refine Sto.le_trans ?_ (by assumption)))), (by first | assumption | exact Bytes.up (by assumption) (by repeat (first | exact Sto.le_refl _ | assumption | refine Sto.le_trans ?_ (by assumption))))⟩) ⟨rfl, rfl, rfl, rfl, rfl, rfl, rfl, rfl, rfl, rfl, rfl, rfl, rfl, rfl, rfl, rfl, trivial⟩ ⟨rfl, rfl, rfl, rfl, rfl, rfl, rfl, rfl, rfl, rfl, rfl, rfl, rfl, rfl, rfl, rfl, trivial⟩ rfl
          ·
            rintro vC σC _ hleC ⟨hbC, rfl⟩
            refine d2 1 9 rfl rfl rfl (by decide +kernel) rfl rfl (n_markF (xs := sSeat) rfl Tryz.runUnderlying22 Tryz.runUnderlying5 rfl (.tl .hd)) (n_call rfl Tryz.call128 c128) (fun _ _ _ _ _ => Keep.nil _) (fun _ _ _ _ _ => Keep.nil _) ?_ ?_
            ·
              rintro _ σS _ hleS ⟨rfl, hbS, rfl⟩
              refine dn 9 rfl rfl rfl rfl (by decide +kernel) (n_call rfl Tryz.call128 c128) (fun _ _ _ _ _ => Keep.nil _) ?_
              rintro vM σM _ hleM ⟨hbM, rfl⟩
              exact goc_eqv (mB (_, vE, vC, vM, bs, bd) ⟨(by repeat (first | exact Sto.le_refl _ | assumption | refine Sto.le_trans ?_ (by assumption))), (by first | assumption | exact Bytes.up (by assumption) (by repeat (first | exact Sto.le_refl _ | assumption | refine Sto.le_trans ?_ (by assumption)))), (by first | assumption | exact Bytes.up (by assumption) (by repeat (first | exact Sto.le_refl _ | assumption | refine Sto.le_trans ?_ (by assumption)))), (by first | assumption | exact Bytes.up (by assumption) (by repeat (first | exact Sto.le_refl _ | assumption | refine Sto.le_trans ?_ (by assumption)))), (by first | assumption | exact Bytes.up (by assumption) (by repeat (first | exact Sto.le_refl _ | assumption | refine Sto.le_trans ?_ (by assumption))))⟩) ⟨rfl, rfl, rfl, rfl, rfl, rfl, rfl, rfl, rfl, rfl, rfl, rfl, rfl, rfl, rfl, rfl, trivial⟩ ⟨rfl, rfl, rfl, rfl, rfl, rfl, rfl, rfl, rfl, rfl, rfl, rfl, rfl, rfl, rfl, rfl, trivial⟩ rfl
            ·
              rintro vM σM _ hleM ⟨hbM, rfl⟩
              refine dn 1 rfl rfl rfl rfl (by decide +kernel) (n_markF (xs := sSeat) rfl Tryz.runUnderlying22 Tryz.runUnderlying5 rfl (.tl .hd)) (fun _ _ _ _ _ => Keep.nil _) ?_
              rintro _ σS _ hleS ⟨rfl, hbS, rfl⟩
              exact goc_eqv (mB (_, vE, vC, vM, bs, bd) ⟨(by repeat (first | exact Sto.le_refl _ | assumption | refine Sto.le_trans ?_ (by assumption))), (by first | assumption | exact Bytes.up (by assumption) (by repeat (first | exact Sto.le_refl _ | assumption | refine Sto.le_trans ?_ (by assumption)))), (by first | assumption | exact Bytes.up (by assumption) (by repeat (first | exact Sto.le_refl _ | assumption | refine Sto.le_trans ?_ (by assumption)))), (by first | assumption | exact Bytes.up (by assumption) (by repeat (first | exact Sto.le_refl _ | assumption | refine Sto.le_trans ?_ (by assumption)))), (by first | assumption | exact Bytes.up (by assumption) (by repeat (first | exact Sto.le_refl _ | assumption | refine Sto.le_trans ?_ (by assumption))))⟩) ⟨rfl, rfl, rfl, rfl, rfl, rfl, rfl, rfl, rfl, rfl, rfl, rfl, rfl, rfl, rfl, rfl, trivial⟩ ⟨rfl, rfl, rfl, rfl, rfl, rfl, rfl, rfl, rfl, rfl, rfl, rfl, rfl, rfl, rfl, rfl, trivial⟩ rfl
      ·
        rintro _ σ9 _ - ⟨bd, rfl, e9, rfl⟩
        obtain rfl := e9.symm
        refine d2 1 5 rfl rfl rfl (by decide +kernel) rfl rfl (n_markF (xs := sSeat) rfl Tryz.runUnderlying22 Tryz.runUnderlying5 rfl (.tl .hd)) (n_call rfl Tryz.call128 c128) (fun _ _ _ _ _ => Keep.nil _) (fun _ _ _ _ _ => Keep.nil _) ?_ ?_
        ·
          rintro _ σS _ hleS ⟨rfl, hbS, rfl⟩
          refine dn 5 rfl rfl rfl rfl (by decide +kernel) (n_call rfl Tryz.call128 c128) (fun _ _ _ _ _ => Keep.nil _) ?_
          rintro vE σE _ hleE ⟨hbE, rfl⟩
          refine dn 7 rfl rfl rfl rfl (by decide +kernel) (n_call rfl Tryz.call128 c128) (fun _ _ _ _ _ => Keep.nil _) ?_
          rintro vC σC _ hleC ⟨hbC, rfl⟩
          refine dn 9 rfl rfl rfl rfl (by decide +kernel) (n_call rfl Tryz.call128 c128) (fun _ _ _ _ _ => Keep.nil _) ?_
          rintro vM σM _ hleM ⟨hbM, rfl⟩
          exact goc_eqv (mB (_, vE, vC, vM, bs, bd) ⟨(by repeat (first | exact Sto.le_refl _ | assumption | refine Sto.le_trans ?_ (by assumption))), (by first | assumption | exact Bytes.up (by assumption) (by repeat (first | exact Sto.le_refl _ | assumption | refine Sto.le_trans ?_ (by assumption)))), (by first | assumption | exact Bytes.up (by assumption) (by repeat (first | exact Sto.le_refl _ | assumption | refine Sto.le_trans ?_ (by assumption)))), (by first | assumption | exact Bytes.up (by assumption) (by repeat (first | exact Sto.le_refl _ | assumption | refine Sto.le_trans ?_ (by assumption)))), (by first | assumption | exact Bytes.up (by assumption) (by repeat (first | exact Sto.le_refl _ | assumption | refine Sto.le_trans ?_ (by assumption))))⟩) ⟨rfl, rfl, rfl, rfl, rfl, rfl, rfl, rfl, rfl, rfl, rfl, rfl, rfl, rfl, rfl, rfl, trivial⟩ ⟨rfl, rfl, rfl, rfl, rfl, rfl, rfl, rfl, rfl, rfl, rfl, rfl, rfl, rfl, rfl, rfl, trivial⟩ rfl
        ·
          rintro vE σE _ hleE ⟨hbE, rfl⟩
          refine d2 1 7 rfl rfl rfl (by decide +kernel) rfl rfl (n_markF (xs := sSeat) rfl Tryz.runUnderlying22 Tryz.runUnderlying5 rfl (.tl .hd)) (n_call rfl Tryz.call128 c128) (fun _ _ _ _ _ => Keep.nil _) (fun _ _ _ _ _ => Keep.nil _) ?_ ?_
          ·
            rintro _ σS _ hleS ⟨rfl, hbS, rfl⟩
            refine dn 7 rfl rfl rfl rfl (by decide +kernel) (n_call rfl Tryz.call128 c128) (fun _ _ _ _ _ => Keep.nil _) ?_
            rintro vC σC _ hleC ⟨hbC, rfl⟩
            refine dn 9 rfl rfl rfl rfl (by decide +kernel) (n_call rfl Tryz.call128 c128) (fun _ _ _ _ _ => Keep.nil _) ?_
            rintro vM σM _ hleM ⟨hbM, rfl⟩
            exact goc_eqv (mB (_, vE, vC, vM, bs, bd) ⟨(by repeat (first | exact Sto.le_refl _ | assumption | refine Sto.le_trans ?_ (by assumption))), (by first | assumption | exact Bytes.up (by assumption) (by repeat (first | exact Sto.le_refl _ | assumption | refine Sto.le_trans ?_ (by assumption)))), (by first | assumption | exact Bytes.up (by assumption) (by repeat (first | exact Sto.le_refl _ | assumption | refine Sto.le_trans ?_ (by assumption)))), (by first | assumption | exact Bytes.up (by assumption) (by repeat (first | exact Sto.le_refl _ | assumption | refine Sto.le_trans ?_ (by assumption)))), (by first | assumption | exact Bytes.up (by assumption) (by repeat (first | exact Sto.le_refl _ | assumption | refine Sto.le_trans ?_ (by assumption))))⟩) ⟨rfl, rfl, rfl, rfl, rfl, rfl, rfl, rfl, rfl, rfl, rfl, rfl, rfl, rfl, rfl, rfl, trivial⟩ ⟨rfl, rfl, rfl, rfl, rfl, rfl, rfl, rfl, rfl, rfl, rfl, rfl, rfl, rfl, rfl, rfl, trivial⟩ rfl
          ·
            rintro vC σC _ hleC ⟨hbC, rfl⟩
            refine d2 1 9 rfl rfl rfl (by decide +kernel) rfl rfl (n_markF (xs := sSeat) rfl Tryz.runUnderlying22 Tryz.runUnderlying5 rfl (.tl .hd)) (n_call rfl Tryz.call128 c128) (fun _ _ _ _ _ => Keep.nil _) (fun _ _ _ _ _ => Keep.nil _) ?_ ?_
            ·
              rintro _ σS _ hleS ⟨rfl, hbS, rfl⟩
              refine dn 9 rfl rfl rfl rfl (by decide +kernel) (n_call rfl Tryz.call128 c128) (fun _ _ _ _ _ => Keep.nil _) ?_
              rintro vM σM _ hleM ⟨hbM, rfl⟩
              exact goc_eqv (mB (_, vE, vC, vM, bs, bd) ⟨(by repeat (first | exact Sto.le_refl _ | assumption | refine Sto.le_trans ?_ (by assumption))), (by first | assumption | exact Bytes.up (by assumption) (by repeat (first | exact Sto.le_refl _ | assumption | refine Sto.le_trans ?_ (by assumption)))), (by first | assumption | exact Bytes.up (by assumption) (by repeat (first | exact Sto.le_refl _ | assumption | refine Sto.le_trans ?_ (by assumption)))), (by first | assumption | exact Bytes.up (by assumption) (by repeat (first | exact Sto.le_refl _ | assumption | refine Sto.le_trans ?_ (by assumption)))), (by first | assumption | exact Bytes.up (by assumption) (by repeat (first | exact Sto.le_refl _ | assumption | refine Sto.le_trans ?_ (by assumption))))⟩) ⟨rfl, rfl, rfl, rfl, rfl, rfl, rfl, rfl, rfl, rfl, rfl, rfl, rfl, rfl, rfl, rfl, trivial⟩ ⟨rfl, rfl, rfl, rfl, rfl, rfl, rfl, rfl, rfl, rfl, rfl, rfl, rfl, rfl, rfl, rfl, trivial⟩ rfl
            ·
              rintro vM σM _ hleM ⟨hbM, rfl⟩
              refine dn 1 rfl rfl rfl rfl (by decide +kernel) (n_markF (xs := sSeat) rfl Tryz.runUnderlying22 Tryz.runUnderlying5 rfl (.tl .hd)) (fun _ _ _ _ _ => Keep.nil _) ?_
              rintro _ σS _ hleS ⟨rfl, hbS, rfl⟩
              exact goc_eqv (mB (_, vE, vC, vM, bs, bd) ⟨(by repeat (first | exact Sto.le_refl _ | assumption | refine Sto.le_trans ?_ (by assumption))), (by first | assumption | exact Bytes.up (by assumption) (by repeat (first | exact Sto.le_refl _ | assumption | refine Sto.le_trans ?_ (by assumption)))), (by first | assumption | exact Bytes.up (by assumption) (by repeat (first | exact Sto.le_refl _ | assumption | refine Sto.le_trans ?_ (by assumption)))), (by first | assumption | exact Bytes.up (by assumption) (by repeat (first | exact Sto.le_refl _ | assumption | refine Sto.le_trans ?_ (by assumption)))), (by first | assumption | exact Bytes.up (by assumption) (by repeat (first | exact Sto.le_refl _ | assumption | refine Sto.le_trans ?_ (by assumption))))⟩) ⟨rfl, rfl, rfl, rfl, rfl, rfl, rfl, rfl, rfl, rfl, rfl, rfl, rfl, rfl, rfl, rfl, trivial⟩ ⟨rfl, rfl, rfl, rfl, rfl, rfl, rfl, rfl, rfl, rfl, rfl, rfl, rfl, rfl, rfl, rfl, trivial⟩ rfl
    ·
      rintro vE σE _ hleE ⟨hbE, rfl⟩
      refine d3 0 7 12 rfl rfl rfl rfl (by decide +kernel) rfl rfl rfl (n_buildSlice (sz := 1) (l' := bcells [115, 101, 97, 116]) (.cons rfl (.one rfl) rfl (.cons rfl (.one rfl) rfl (.cons rfl (.one rfl) rfl (.cons rfl (.one rfl) rfl .nil)))) rfl Tryz.runUnderlying22 Tryz.sizeOf5 Tryz.zeroValue5 rfl rfl) (n_call rfl Tryz.call128 c128) (n_alloc zero27z .agg) (fun _ _ _ _ ⟨_, _, _, e3⟩ => by subst e3; exact fun b o hb => List.mem_cons_of_mem _ ((Keep.nil _) b o hb)) (fun _ _ _ _ _ => Keep.nil _) (fun _ _ _ _ ⟨_, _, _, e3⟩ => by subst e3; exact fun b o hb => List.mem_cons_of_mem _ ((Keep.nil _) b o hb)) ?_ ?_ ?_
      ·
        rintro _ σ9 _ - ⟨bs, rfl, e9, rfl⟩
        obtain rfl := e9.symm
        refine d3 1 7 12 rfl rfl rfl rfl (by decide +kernel) rfl rfl rfl (n_markF (xs := sSeat) rfl Tryz.runUnderlying22 Tryz.runUnderlying5 rfl .hd) (n_call rfl Tryz.call128 c128) (n_alloc zero27z .agg) (fun _ _ _ _ _ => Keep.nil _) (fun _ _ _ _ _ => Keep.nil _) (fun _ _ _ _ ⟨_, _, _, e3⟩ => by subst e3; exact fun b o hb => List.mem_cons_of_mem _ ((Keep.nil _) b o hb)) ?_ ?_ ?_
        ·
          rintro _ σS _ hleS ⟨rfl, hbS, rfl⟩
          refine d2 7 12 rfl rfl rfl (by decide +kernel) rfl rfl (n_call rfl Tryz.call128 c128) (n_alloc zero27z .agg) (fun _ _ _ _ _ => Keep.nil _) (fun _ _ _ _ ⟨_, _, _, e3⟩ => by subst e3; exact fun b o hb => List.mem_cons_of_mem _ ((Keep.nil _) b o hb)) ?_ ?_
          ·
            rintro vC σC _ hleC ⟨hbC, rfl⟩
            refine d2 9 12 rfl rfl rfl (by decide +kernel) rfl rfl (n_call rfl Tryz.call128 c128) (n_alloc zero27z .agg) (fun _ _ _ _ _ => Keep.nil _) (fun _ _ _ _ ⟨_, _, _, e3⟩ => by subst e3; exact fun b o hb => List.mem_cons_of_mem _ ((Keep.nil _) b o hb)) ?_ ?_
            ·
              rintro vM σM _ hleM ⟨hbM, rfl⟩
              exact goc_eqv (mA (_, vE, vC, vM, bs) ⟨(by repeat (first | exact Sto.le_refl _ | assumption | refine Sto.le_trans ?_ (by assumption))), (by first | assumption | exact Bytes.up (by assumption) (by repeat (first | exact Sto.le_refl _ | assumption | refine Sto.le_trans ?_ (by assumption)))), (by first | assumption | exact Bytes.up (by assumption) (by repeat (first | exact Sto.le_refl _ | assumption | refine Sto.le_trans ?_ (by assumption)))), (by first | assumption | exact Bytes.up (by assumption) (by repeat (first | exact Sto.le_refl _ | assumption | refine Sto.le_trans ?_ (by assumption)))), (by first | assumption | exact Bytes.up (by assumption) (by repeat (first | exact Sto.le_refl _ | assumption | refine Sto.le_trans ?_ (by assumption))))⟩) ⟨rfl, rfl, rfl, rfl, rfl, rfl, rfl, rfl, rfl, rfl, rfl, rfl, rfl, rfl, rfl, trivial⟩ ⟨rfl, rfl, rfl, rfl, rfl, rfl, rfl, rfl, rfl, rfl, rfl, rfl, rfl, rfl, rfl, trivial⟩ rfl
            ·
              rintro _ σ9 _ - ⟨bd, rfl, e9, rfl⟩
              obtain rfl := e9.symm
              refine dn 9 rfl rfl rfl rfl (by decide +kernel) (n_call rfl Tryz.call128 c128) (fun _ _ _ _ _ => Keep.nil _) ?_
              rintro vM σM _ hleM ⟨hbM, rfl⟩
              exact goc_eqv (mB (_, vE, vC, vM, bs, bd) ⟨(by repeat (first | exact Sto.le_refl _ | assumption | refine Sto.le_trans ?_ (by assumption))), (by first | assumption | exact Bytes.up (by assumption) (by repeat (first | exact Sto.le_refl _ | assumption | refine Sto.le_trans ?_ (by assumption)))), (by first | assumption | exact Bytes.up (by assumption) (by repeat (first | exact Sto.le_refl _ | assumption | refine Sto.le_trans ?_ (by assumption)))), (by first | assumption | exact Bytes.up (by assumption) (by repeat (first | exact Sto.le_refl _ | assumption | refine Sto.le_trans ?_ (by assumption)))), (by first | assumption | exact Bytes.up (by assumption) (by repeat (first | exact Sto.le_refl _ | assumption | refine Sto.le_trans ?_ (by assumption))))⟩) ⟨rfl, rfl, rfl, rfl, rfl, rfl, rfl, rfl, rfl, rfl, rfl, rfl, rfl, rfl, rfl, rfl, trivial⟩ ⟨rfl, rfl, rfl, rfl, rfl, rfl, rfl, rfl, rfl, rfl, rfl, rfl, rfl, rfl, rfl, rfl, trivial⟩ rfl
          ·
            rintro _ σ9 _ - ⟨bd, rfl, e9, rfl⟩
            obtain rfl := e9.symm
            refine dn 7 rfl rfl rfl rfl (by decide +kernel) (n_call rfl Tryz.call128 c128) (fun _ _ _ _ _ => Keep.nil _) ?_
            rintro vC σC _ hleC ⟨hbC, rfl⟩
            refine dn 9 rfl rfl rfl rfl (by decide +kernel) (n_call rfl Tryz.call128 c128) (fun _ _ _ _ _ => Keep.nil _) ?_
            rintro vM σM _ hleM ⟨hbM, rfl⟩
            exact goc_eqv (mB (_, vE, vC, vM, bs, bd) ⟨(by repeat (first | exact Sto.le_refl _ | assumption | refine Sto.le_trans ?_ (by assumption))), (by first | assumption | exact Bytes.up (by assumption) (by repeat (first | exact Sto.le_refl _ | assumption | refine Sto.le_trans ?_ (by assumption)))), (by first | assumption | exact Bytes.up (by assumption) (by repeat (first | exact Sto.le_refl _ | assumption | refine Sto.le_trans ?_ (by assumption)))), (by first | assumption | exact Bytes.up (by assumption) (by repeat (first | exact Sto.le_refl _ | assumption | refine Sto.le_trans ?_ (by assumption)))), (by first | assumption | exact Bytes.up (by assumption) (by repeat (first | exact Sto.le_refl _ | assumption | refine Sto.le_trans ?_ (by assumption))))⟩) ⟨rfl, rfl, rfl, rfl, rfl, rfl, rfl, rfl, rfl, rfl, rfl, rfl, rfl, rfl, rfl, rfl, trivial⟩ ⟨rfl, rfl, rfl, rfl, rfl, rfl, rfl, rfl, rfl, rfl, rfl, rfl, rfl, rfl, rfl, rfl, trivial⟩ rfl
        ·
          rintro vC σC _ hleC ⟨hbC, rfl⟩
          refine d3 1 9 12 rfl rfl rfl rfl (by decide +kernel) rfl rfl rfl (n_markF (xs := sSeat) rfl Tryz.runUnderlying22 Tryz.runUnderlying5 rfl .hd) (n_call rfl Tryz.call128 c128) (n_alloc zero27z .agg) (fun _ _ _ _ _ => Keep.nil _) (fun _ _ _ _ _ => Keep.nil _) (fun _ _ _ _ ⟨_, _, _, e3⟩ => by subst e3; exact fun b o hb => List.mem_cons_of_mem _ ((Keep.nil _) b o hb)) ?_ ?_ ?_
          ·
            rintro _ σS _ hleS ⟨rfl, hbS, rfl⟩
            refine d2 9 12 rfl rfl rfl (by decide +kernel) rfl rfl (n_call rfl Tryz.call128 c128) (n_alloc zero27z .agg) (fun _ _ _ _ _ => Keep.nil _) (fun _ _ _ _ ⟨_, _, _, e3⟩ => by subst e3; exact fun b o hb => List.mem_cons_of_mem _ ((Keep.nil _) b o hb)) ?_ ?_
            ·
              rintro vM σM _ hleM ⟨hbM, rfl⟩
              exact goc_eqv (mA (_, vE, vC, vM, bs) ⟨(by repeat (first | exact Sto.le_refl _ | assumption | refine Sto.le_trans ?_ (by assumption))), (by first | assumption | exact Bytes.up (by assumption) (by repeat (first | exact Sto.le_refl _ | assumption | refine Sto.le_trans ?_ (by assumption)))), (by first | assumption | exact Bytes.up (by assumption) (by repeat (first | exact Sto.le_refl _ | assumption | refine Sto.le_trans ?_ (by assumption)))), (by first | assumption | exact Bytes.up (by assumption) (by repeat (first | exact Sto.le_refl _ | assumption | refine Sto.le_trans ?_ (by assumption)))), (by first | assumption | exact Bytes.up (by assumption) (by repeat (first | exact Sto.le_refl _ | assumption | refine Sto.le_trans ?_ (by assumption))))⟩) ⟨rfl, rfl, rfl, rfl, rfl, rfl, rfl, rfl, rfl, rfl, rfl, rfl, rfl, rfl, rfl, trivial⟩ ⟨rfl, rfl, rfl, rfl, rfl, rfl, rfl, rfl, rfl, rfl, rfl, rfl, rfl, rfl, rfl, trivial⟩ rfl
            ·
              rintro _ σ9 _ - ⟨bd, rfl, e9, rfl⟩
              obtain rfl := e9.symm
              refine dn 9 rfl rfl rfl rfl (by decide +kernel) (n_call rfl Tryz.call128 c128) (fun _ _ _ _ _ => Keep.nil _) ?_
              rintro vM σM _ hleM ⟨hbM, rfl⟩
              exact goc_eqv (mB (_, vE, vC, vM, bs, bd) ⟨(by repeat (first | exact Sto.le_refl _ | assumption | refine Sto.le_trans ?_ (by assumption))), (by first | assumption | exact Bytes.up (by assumption) (by repeat (first | exact Sto.le_refl _ | assumption | refine Sto.le_trans ?_ (by assumption)))), (by first | assumption | exact Bytes.up (by assumption) (by repeat (first | exact Sto.le_refl _ | assumption | refine Sto.le_trans ?_ (by assumption)))), (by first | assumption | exact Bytes.up (by assumption) (by repeat (first | exact Sto.le_refl _ | assumption | refine Sto.le_trans ?_ (by assumption)))), (by first | assumption | exact Bytes.up (by assumption) (by repeat (first | exact Sto.le_refl _ | assumption | refine Sto.le_trans ?_ (by assumption))))⟩) ⟨rfl, rfl, rfl, rfl, rfl, rfl, rfl, rfl, rfl, rfl, rfl, rfl, rfl, rfl, rfl, rfl, trivial⟩ ⟨rfl, rfl, rfl, rfl, rfl, rfl, rfl, rfl, rfl, rfl, rfl, rfl, rfl, rfl, rfl, rfl, trivial⟩ rfl
          ·
            rintro vM σM _ hleM ⟨hbM, rfl⟩
            refine d2 1 12 rfl rfl rfl (by decide +kernel) rfl rfl (n_markF (xs := sSeat) rfl Tryz.runUnderlying22 Tryz.runUnderlying5 rfl .hd) (n_alloc zero27z .agg) (fun _ _ _ _ _ => Keep.nil _) (fun _ _ _ _ ⟨_, _, _, e3⟩ => by subst e3; exact fun b o hb => List.mem_cons_of_mem _ ((Keep.nil _) b o hb)) ?_ ?_
            ·
              rintro _ σS _ hleS ⟨rfl, hbS, rfl⟩
              exact goc_eqv (mA (_, vE, vC, vM, bs) ⟨(by repeat (first | exact Sto.le_refl _ | assumption | refine Sto.le_trans ?_ (by assumption))), (by first | assumption | exact Bytes.up (by assumption) (by repeat (first | exact Sto.le_refl _ | assumption | refine Sto.le_trans ?_ (by assumption)))), (by first | assumption | exact Bytes.up (by assumption) (by repeat (first | exact Sto.le_refl _ | assumption | refine Sto.le_trans ?_ (by assumption)))), (by first | assumption | exact Bytes.up (by assumption) (by repeat (first | exact Sto.le_refl _ | assumption | refine Sto.le_trans ?_ (by assumption)))), (by first | assumption | exact Bytes.up (by assumption) (by repeat (first | exact Sto.le_refl _ | assumption | refine Sto.le_trans ?_ (by assumption))))⟩) ⟨rfl, rfl, rfl, rfl, rfl, rfl, rfl, rfl, rfl, rfl, rfl, rfl, rfl, rfl, rfl, trivial⟩ ⟨rfl, rfl, rfl, rfl, rfl, rfl, rfl, rfl, rfl, rfl, rfl, rfl, rfl, rfl, rfl, trivial⟩ rfl
            ·
              rintro _ σ9 _ - ⟨bd, rfl, e9, rfl⟩
              obtain rfl := e9.symm
              refine dn 1 rfl rfl rfl rfl (by decide +kernel) (n_markF (xs := sSeat) rfl Tryz.runUnderlying22 Tryz.runUnderlying5 rfl (.tl .hd)) (fun _ _ _ _ _ => Keep.nil _) ?_
              rintro _ σS _ hleS ⟨rfl, hbS, rfl⟩
              exact goc_eqv (mB (_, vE, vC, vM, bs, bd) ⟨(by repeat (first | exact Sto.le_refl _ | assumption | refine Sto.le_trans ?_ (by assumption))), (by first | assumption | exact Bytes.up (by assumption) (by repeat (first | exact Sto.le_refl _ | assumption | refine Sto.le_trans ?_ (by assumption)))), (by first | assumption | exact Bytes.up (by assumption) (by repeat (first | exact Sto.le_refl _ | assumption | refine Sto.le_trans ?_ (by assumption)))), (by first | assumption | exact Bytes.up (by assumption) (by repeat (first | exact Sto.le_refl _ | assumption | refine Sto.le_trans ?_ (by assumption)))), (by first | assumption | exact Bytes.up (by assumption) (by repeat (first | exact Sto.le_refl _ | assumption | refine Sto.le_trans ?_ (by assumption))))⟩) ⟨rfl, rfl, rfl, rfl, rfl, rfl, rfl, rfl, rfl, rfl, rfl, rfl, rfl, rfl, rfl, rfl, trivial⟩ ⟨rfl, rfl, rfl, rfl, rfl, rfl, rfl, rfl, rfl, rfl, rfl, rfl, rfl, rfl, rfl, rfl, trivial⟩ rfl
          ·
            rintro _ σ9 _ - ⟨bd, rfl, e9, rfl⟩
            obtain rfl := e9.symm
            refine d2 1 9 rfl rfl rfl (by decide +kernel) rfl rfl (n_markF (xs := sSeat) rfl Tryz.runUnderlying22 Tryz.runUnderlying5 rfl (.tl .hd)) (n_call rfl Tryz.call128 c128) (fun _ _ _ _ _ => Keep.nil _) (fun _ _ _ _ _ => Keep.nil _) ?_ ?_
            ·
              rintro _ σS _ hleS ⟨rfl, hbS, rfl⟩
              refine dn 9 rfl rfl rfl rfl (by decide +kernel) (n_call rfl Tryz.call128 c128) (fun _ _ _ _ _ => Keep.nil _) ?_
              rintro vM σM _ hleM ⟨hbM, rfl⟩
              exact goc_eqv (mB (_, vE, vC, vM, bs, bd) ⟨(by repeat (first | exact Sto.le_refl _ | assumption | refine Sto.le_trans ?_ (by assumption))), (by first | assumption | exact Bytes.up (by assumption) (by repeat (first | exact Sto.le_refl _ | assumption | refine Sto.le_trans ?_ (by assumption)))), (by first | assumption | exact Bytes.up (by assumption) (by repeat (first | exact Sto.le_refl _ | assumption | refine Sto.le_trans ?_ (by assumption)))), (by first | assumption | exact Bytes.up (by assumption) (by repeat (first | exact Sto.le_refl _ | assumption | refine Sto.le_trans ?_ (by assumption)))), (by first | assumption | exact Bytes.up (by assumption) (by repeat (first | exact Sto.le_refl _ | assumption | refine Sto.le_trans ?_ (by assumption))))⟩) ⟨rfl, rfl, rfl, rfl, rfl, rfl, rfl, rfl, rfl, rfl, rfl, rfl, rfl, rfl, rfl, rfl, trivial⟩ ⟨rfl, rfl, rfl, rfl, rfl, rfl, rfl, rfl, rfl, rfl, rfl, rfl, rfl, rfl, rfl, rfl, trivial⟩ rfl
            ·
              rintro vM σM _ hleM ⟨hbM, rfl⟩
              refine dn 1 rfl rfl rfl rfl (by decide +kernel) (n_markF (xs := sSeat) rfl Tryz.runUnderlying22 Tryz.runUnderlying5 rfl (.tl .hd)) (fun _ _ _ _ _ => Keep.nil _) ?_
              rintro _ σS _ hleS ⟨rfl, hbS, rfl⟩
              exact goc_eqv (mB (_, vE, vC, vM, bs, bd) ⟨(by repeat (first | exact Sto.le_refl _ | assumption | refine Sto.le_trans ?_ (by assumption))), (by first | assumption | exact Bytes.up (by assumption) (by repeat (first | exact Sto.le_refl _ | assumption | refine Sto.le_trans ?_ (by assumption)))), (by first | assumption | exact Bytes.up (by assumption) (by repeat (first | exact Sto.le_refl _ | assumption | refine Sto.le_trans ?_ (by assumption)))), (by first | assumption | exact Bytes.up (by assumption) (by repeat (first | exact Sto.le_refl _ | assumption | refine Sto.le_trans ?_ (by assumption)))), (by first | assumption | exact Bytes.up (by assumption) (by repeat (first | exact Sto.le_refl _ | assumption | refine Sto.le_trans ?_ (by assumption))))⟩) ⟨rfl, rfl, rfl, rfl, rfl, rfl, rfl, rfl, rfl, rfl, rfl, rfl, rfl, rfl, rfl, rfl, trivial⟩ ⟨rfl, rfl, rfl, rfl, rfl, rfl, rfl, rfl, rfl, rfl, rfl, rfl, rfl, rfl, rfl, rfl, trivial⟩ rfl
        ·
          rintro _ σ9 _ - ⟨bd, rfl, e9, rfl⟩
          obtain rfl := e9.symm
          refine d2 1 7 rfl rfl rfl (by decide +kernel) rfl rfl (n_markF (xs := sSeat) rfl Tryz.runUnderlying22 Tryz.runUnderlying5 rfl (.tl .hd)) (n_call rfl Tryz.call128 c128) (fun _ _ _ _ _ => Keep.nil _) (fun _ _ _ _ _ => Keep.nil _) ?_ ?_
          ·
            rintro _ σS _ hleS ⟨rfl, hbS, rfl⟩
            refine dn 7 rfl rfl rfl rfl (by decide +kernel) (n_call rfl Tryz.call128 c128) (fun _ _ _ _ _ => Keep.nil _) ?_
            rintro vC σC _ hleC ⟨hbC, rfl⟩
            refine dn 9 rfl rfl rfl rfl (by decide +kernel) (n_call rfl Tryz.call128 c128) (fun _ _ _ _ _ => Keep.nil _) ?_
            rintro vM σM _ hleM ⟨hbM, rfl⟩
            exact goc_eqv (mB (_, vE, vC, vM, bs, bd) ⟨(by repeat (first | exact Sto.le_refl _ | assumption | refine Sto.le_trans ?_ (by assumption))), (by first | assumption | exact Bytes.up (by assumption) (by repeat (first | exact Sto.le_refl _ | assumption | refine Sto.le_trans ?_ (by assumption)))), (by first | assumption | exact Bytes.up (by assumption) (by repeat (first | exact Sto.le_refl _ | assumption | refine Sto.le_trans ?_ (by assumption)))), (by first | assumption | exact Bytes.up (by assumption) (by repeat (first | exact Sto.le_refl _ | assumption | refine Sto.le_trans ?_ (by assumption)))), (by first | assumption | exact Bytes.up (by assumption) (by repeat (first | exact Sto.le_refl _ | assumption | refine Sto.le_trans ?_ (by assumption))))⟩) ⟨rfl, rfl, rfl, rfl, rfl, rfl, rfl, rfl, rfl, rfl, rfl, rfl, rfl, rfl, rfl, rfl, trivial⟩ ⟨rfl, rfl, rfl, rfl, rfl, rfl, rfl, rfl, rfl, rfl, rfl, rfl, rfl, rfl, rfl, rfl, trivial⟩ rfl
          ·
            rintro vC σC _ hleC ⟨hbC, rfl⟩
            refine d2 1 9 rfl rfl rfl (by decide +kernel) rfl rfl (n_markF (xs := sSeat) rfl Tryz.runUnderlying22 Tryz.runUnderlying5 rfl (.tl .hd)) (n_call rfl Tryz.call128 c128) (fun _ _ _ _ _ => Keep.nil _) (fun _ _ _ _ _ => Keep.nil _) ?_ ?_
            ·
              rintro _ σS _ hleS ⟨rfl, hbS, rfl⟩
              refine dn 9 rfl rfl rfl rfl (by decide +kernel) (n_call rfl Tryz.call128 c128) (fun _ _ _ _ _ => Keep.nil _) ?_
              rintro vM σM _ hleM ⟨hbM, rfl⟩
              exact goc_eqv (mB (_, vE, vC, vM, bs, bd) ⟨(by repeat (first | exact Sto.le_refl _ | assumption | refine Sto.le_trans ?_ (by assumption))), (by first | assumption | exact Bytes.up (by assumption) (by repeat (first | exact Sto.le_refl _ | assumption | refine Sto.le_trans ?_ (by assumption)))), (by first | assumption | exact Bytes.up (by assumption) (by repeat (first | exact Sto.le_refl _ | assumption | refine Sto.le_trans ?_ (by assumption)))), (by first | assumption | exact Bytes.up (by assumption) (by repeat (first | exact Sto.le_refl _ | assumption | refine Sto.le_trans ?_ (by assumption)))), (by first | assumption | exact Bytes.up (by assumption) (by repeat (first | exact Sto.le_refl _ | assumption | refine Sto.le_trans ?_ (by assumption))))⟩) ⟨rfl, rfl, rfl, rfl, rfl, rfl, rfl, rfl, rfl, rfl, rfl, rfl, rfl, rfl, rfl, rfl, trivial⟩ ⟨rfl, rfl, rfl, rfl, rfl, rfl, rfl, rfl, rfl, rfl, rfl, rfl, rfl, rfl, rfl, rfl, trivial⟩ rfl
            ·
              rintro vM σM _ hleM ⟨hbM, rfl⟩
              refine dn 1 rfl rfl rfl rfl (by decide +kernel) (n_markF (xs := sSeat) rfl Tryz.runUnderlying22 Tryz.runUnderlying5 rfl (.tl .hd)) (fun _ _ _ _ _ => Keep.nil _) ?_
              rintro _ σS _ hleS ⟨rfl, hbS, rfl⟩
              exact goc_eqv (mB (_, vE, vC, vM, bs, bd) ⟨(by repeat (first | exact Sto.le_refl _ | assumption | refine Sto.le_trans ?_ (by assumption))), (by first | assumption | exact Bytes.up (by assumption) (by repeat (first | exact Sto.le_refl _ | assumption | refine Sto.le_trans ?_ (by assumption)))), (by first | assumption | exact Bytes.up (by assumption) (by repeat (first | exact Sto.le_refl _ | assumption | refine Sto.le_trans ?_ (by assumption)))), (by first | assumption | exact Bytes.up (by assumption) (by repeat (first | exact Sto.le_refl _ | assumption | refine Sto.le_trans ?_ (by assumption)))), (by first | assumption | exact Bytes.up (by assumption) (by repeat (first | exact Sto.le_refl _ | assumption | refine Sto.le_trans ?_ (by assumption))))⟩) ⟨rfl, rfl, rfl, rfl, rfl, rfl, rfl, rfl, rfl, rfl, rfl, rfl, rfl, rfl, rfl, rfl, trivial⟩ ⟨rfl, rfl, rfl, rfl, rfl, rfl, rfl, rfl, rfl, rfl, rfl, rfl, rfl, rfl, rfl, rfl, trivial⟩ rfl
      ·
        rintro vC σC _ hleC ⟨hbC, rfl⟩
        refine d3 0 9 12 rfl rfl rfl rfl (by decide +kernel) rfl rfl rfl (n_buildSlice (sz := 1) (l' := bcells [115, 101, 97, 116]) (.cons rfl (.one rfl) rfl (.cons rfl (.one rfl) rfl (.cons rfl (.one rfl) rfl (.cons rfl (.one rfl) rfl .nil)))) rfl Tryz.runUnderlying22 Tryz.sizeOf5 Tryz.zeroValue5 rfl rfl) (n_call rfl Tryz.call128 c128) (n_alloc zero27z .agg) (fun _ _ _ _ ⟨_, _, _, e3⟩ => by subst e3; exact fun b o hb => List.mem_cons_of_mem _ ((Keep.nil _) b o hb)) (fun _ _ _ _ _ => Keep.nil _) (fun _ _ _ _ ⟨_, _, _, e3⟩ => by subst e3; exact fun b o hb => List.mem_cons_of_mem _ ((Keep.nil _) b o hb)) ?_ ?_ ?_
        ·
          rintro _ σ9 _ - ⟨bs, rfl, e9, rfl⟩
          obtain rfl := e9.symm
          refine d3 1 9 12 rfl rfl rfl rfl (by decide +kernel) rfl rfl rfl (n_markF (xs := sSeat) rfl Tryz.runUnderlying22 Tryz.runUnderlying5 rfl .hd) (n_call rfl Tryz.call128 c128) (n_alloc zero27z .agg) (fun _ _ _ _ _ => Keep.nil _) (fun _ _ _ _ _ => Keep.nil _) (fun _ _ _ _ ⟨_, _, _, e3⟩ => by subst e3; exact fun b o hb => List.mem_cons_of_mem _ ((Keep.nil _) b o hb)) ?_ ?_ ?_
          ·
            rintro _ σS _ hleS ⟨rfl, hbS, rfl⟩
            refine d2 9 12 rfl rfl rfl (by decide +kernel) rfl rfl (n_call rfl Tryz.call128 c128) (n_alloc zero27z .agg) (fun _ _ _ _ _ => Keep.nil _) (fun _ _ _ _ ⟨_, _, _, e3⟩ => by subst e3; exact fun b o hb => List.mem_cons_of_mem _ ((Keep.nil _) b o hb)) ?_ ?_
            ·
              rintro vM σM _ hleM ⟨hbM, rfl⟩
              exact goc_eqv (mA (_, vE, vC, vM, bs) ⟨(by repeat (first | exact Sto.le_refl _ | assumption | refine Sto.le_trans ?_ (by assumption))), (by first | assumption | exact Bytes.up (by assumption) (by repeat (first | exact Sto.le_refl _ | assumption | refine Sto.le_trans ?_ (by assumption)))), (by first | assumption | exact Bytes.up (by assumption) (by repeat (first | exact Sto.le_refl _ | assumption | refine Sto.le_trans ?_ (by assumption)))), (by first | assumption | exact Bytes.up (by assumption) (by repeat (first | exact Sto.le_refl _ | assumption | refine Sto.le_trans ?_ (by assumption)))), (by first | assumption | exact Bytes.up (by assumption) (by repeat (first | exact Sto.le_refl _ | assumption | refine Sto.le_trans ?_ (by assumption))))⟩) ⟨rfl, rfl, rfl, rfl, rfl, rfl, rfl, rfl, rfl, rfl, rfl, rfl, rfl, rfl, rfl, trivial⟩ ⟨rfl, rfl, rfl, rfl, rfl, rfl, rfl, rfl, rfl, rfl, rfl, rfl, rfl, rfl, rfl, trivial⟩ rfl
            ·
              rintro _ σ9 _ - ⟨bd, rfl, e9, rfl⟩
              obtain rfl := e9.symm
              refine dn 9 rfl rfl rfl rfl (by decide +kernel) (n_call rfl Tryz.call128 c128) (fun _ _ _ _ _ => Keep.nil _) ?_
              rintro vM σM _ hleM ⟨hbM, rfl⟩
              exact goc_eqv (mB (_, vE, vC, vM, bs, bd) ⟨(by repeat (first | exact Sto.le_refl _ | assumption | refine Sto.le_trans ?_ (by assumption))), (by first | assumption | exact Bytes.up (by assumption) (by repeat (first | exact Sto.le_refl _ | assumption | refine Sto.le_trans ?_ (by assumption)))), (by first | assumption | exact Bytes.up (by assumption) (by repeat (first | exact Sto.le_refl _ | assumption | refine Sto.le_trans ?_ (by assumption)))), (by first | assumption | exact Bytes.up (by assumption) (by repeat (first | exact Sto.le_refl _ | assumption | refine Sto.le_trans ?_ (by assumption)))), (by first | assumption | exact Bytes.up (by assumption) (by repeat (first | exact Sto.le_refl _ | assumption | refine Sto.le_trans ?_ (by assumption))))⟩) ⟨rfl, rfl, rfl, rfl, rfl, rfl, rfl, rfl, rfl, rfl, rfl, rfl, rfl, rfl, rfl, rfl, trivial⟩ ⟨rfl, rfl, rfl, rfl, rfl, rfl, rfl, rfl, rfl, rfl, rfl, rfl, rfl, rfl, rfl, rfl, trivial⟩ rfl
          ·
            rintro vM σM _ hleM ⟨hbM, rfl⟩
            refine d2 1 12 rfl rfl rfl (by decide +kernel) rfl rfl (n_markF (xs := sSeat) rfl Tryz.runUnderlying22 Tryz.runUnderlying5 rfl .hd) (n_alloc zero27z .agg) (fun _ _ _ _ _ => Keep.nil _) (fun _ _ _ _ ⟨_, _, _, e3⟩ => by subst e3; exact fun b o hb => List.mem_cons_of_mem _ ((Keep.nil _) b o hb)) ?_ ?_
            ·
              rintro _ σS _ hleS ⟨rfl, hbS, rfl⟩
              exact goc_eqv (mA (_, vE, vC, vM, bs) ⟨(by repeat (first | exact Sto.le_refl _ | assumption | refine Sto.le_trans ?_ (by assumption))), (by first | assumption | exact Bytes.up (by assumption) (by repeat (first | exact Sto.le_refl _ | assumption | refine Sto.le_trans ?_ (by assumption)))), (by first | assumption | exact Bytes.up (by assumption) (by repeat (first | exact Sto.le_refl _ | assumption | refine Sto.le_trans ?_ (by assumption)))), (by first | assumption | exact Bytes.up (by assumption) (by repeat (first | exact Sto.le_refl _ | assumption | refine Sto.le_trans ?_ (by assumption)))), (by first | assumption | exact Bytes.up (by assumption) (by repeat (first | exact Sto.le_refl _ | assumption | refine Sto.le_trans ?_ (by assumption))))⟩) ⟨rfl, rfl, rfl, rfl, rfl, rfl, rfl, rfl, rfl, rfl, rfl, rfl, rfl, rfl, rfl, trivial⟩ ⟨rfl, rfl, rfl, rfl, rfl, rfl, rfl, rfl, rfl, rfl, rfl, rfl, rfl, rfl, rfl, trivial⟩ rfl
            ·
              rintro _ σ9 _ - ⟨bd, rfl, e9, rfl⟩
              obtain rfl := e9.symm
              refine dn 1 rfl rfl rfl rfl (by decide +kernel) (n_markF (xs := sSeat) rfl Tryz.runUnderlying22 Tryz.runUnderlying5 rfl (.tl .hd)) (fun _ _ _ _ _ => Keep.nil _) ?_
              rintro _ σS _ hleS ⟨rfl, hbS, rfl⟩
              exact goc_eqv (mB (_, vE, vC, vM, bs, bd) ⟨(by repeat (first | exact Sto.le_refl _ | assumption | refine Sto.le_trans ?_ (by assumption))), (by first | assumption | exact Bytes.up (by assumption) (by repeat (first | exact Sto.le_refl _ | assumption | refine Sto.le_trans ?_ (by assumption)))), (by first | assumption | exact Bytes.up (by assumption) (by repeat (first | exact Sto.le_refl _ | assumption | refine Sto.le_trans ?_ (by assumption)))), (by first | assumption | exact Bytes.up (by assumption) (by repeat (first | exact Sto.le_refl _ | assumption | refine Sto.le_trans ?_ (by assumption)))), (by first | assumption | exact Bytes.up (by assumption) (by repeat (first | exact Sto.le_refl _ | assumption | refine Sto.le_trans ?_ (by assumption))))⟩) ⟨rfl, rfl, rfl, rfl, rfl, rfl, rfl, rfl, rfl, rfl, rfl, rfl, rfl, rfl, rfl, rfl, trivial⟩ ⟨rfl, rfl, rfl, rfl, rfl, rfl, rfl, rfl, rfl, rfl, rfl, rfl, rfl, rfl, rfl, rfl, trivial⟩ rfl
          ·
            rintro _ σ9 _ - ⟨bd, rfl, e9, rfl⟩
            obtain rfl := e9.symm
            refine d2 1 9 rfl rfl rfl (by decide +kernel) rfl rfl (n_markF (xs := sSeat) rfl Tryz.runUnderlying22 Tryz.runUnderlying5 rfl (.tl .hd)) (n_call rfl Tryz.call128 c128) (fun _ _ _ _ _ => Keep.nil _) (fun _ _ _ _ _ => Keep.nil _) ?_ ?_
            ·
              rintro _ σS _ hleS ⟨rfl, hbS, rfl⟩
              refine dn 9 rfl rfl rfl rfl (by decide +kernel) (n_call rfl Tryz.call128 c128) (fun _ _ _ _ _ => Keep.nil _) ?_
              rintro vM σM _ hleM ⟨hbM, rfl⟩
              exact goc_eqv (mB (_, vE, vC, vM, bs, bd) ⟨(by repeat (first | exact Sto.le_refl _ | assumption | refine Sto.le_trans ?_ (by assumption))), (by first | assumption | exact Bytes.up (by assumption) (by repeat (first | exact Sto.le_refl _ | assumption | refine Sto.le_trans ?_ (by assumption)))), (by first | assumption | exact Bytes.up (by assumption) (by repeat (first | exact Sto.le_refl _ | assumption | refine Sto.le_trans ?_ (by assumption)))), (by first | assumption | exact Bytes.up (by assumption) (by repeat (first | exact Sto.le_refl _ | assumption | refine Sto.le_trans ?_ (by assumption)))), (by first | assumption | exact Bytes.up (by assumption) (by repeat (first | exact Sto.le_refl _ | assumption | refine Sto.le_trans ?_ (by assumption))))⟩) ⟨rfl, rfl, rfl, rfl, rfl, rfl, rfl, rfl, rfl, rfl, rfl, rfl, rfl, rfl, rfl, rfl, trivial⟩ ⟨rfl, rfl, rfl, rfl, rfl, rfl, rfl, rfl, rfl, rfl, rfl, rfl, rfl, rfl, rfl, rfl, trivial⟩ rfl
            ·
              rintro vM σM _ hleM ⟨hbM, rfl⟩
              refine dn 1 rfl rfl rfl rfl (by decide +kernel) (n_markF (xs := sSeat) rfl Tryz.runUnderlying22 Tryz.runUnderlying5 rfl (.tl .hd)) (fun _ _ _ _ _ => Keep.nil _) ?_
              rintro _ σS _ hleS ⟨rfl, hbS, rfl⟩
              exact goc_eqv (mB (_, vE, vC, vM, bs, bd) ⟨(by repeat (first | exact Sto.le_refl _ | assumption | refine Sto.le_trans ?_ (by assumption))), (by first | assumption | exact Bytes.up (by assumption) (by repeat (first | exact Sto.le_refl _ | assumption | refine Sto.le_trans ?_ (by assumption)))), (by first | assumption | exact Bytes.up (by assumption) (by repeat (first | exact Sto.le_refl _ | assumption | refine Sto.le_trans ?_ (by assumption)))), (by first | assumption | exact Bytes.up (by assumption) (by repeat (first | exact Sto.le_refl _ | assumption | refine Sto.le_trans ?_ (by assumption)))), (by first | assumption | exact Bytes.up (by assumption) (by repeat (first | exact Sto.le_refl _ | assumption | refine Sto.le_trans ?_ (by assumption))))⟩) ⟨rfl, rfl, rfl, rfl, rfl, rfl, rfl, rfl, rfl, rfl, rfl, rfl, rfl, rfl, rfl, rfl, trivial⟩ ⟨rfl, rfl, rfl, rfl, rfl, rfl, rfl, rfl, rfl, rfl, rfl, rfl, rfl, rfl, rfl, rfl, trivial⟩ rfl
        ·
          rintro vM σM _ hleM ⟨hbM, rfl⟩
          refine d2 0 12 rfl rfl rfl (by decide +kernel) rfl rfl (n_buildSlice (sz := 1) (l' := bcells [115, 101, 97, 116]) (.cons rfl (.one rfl) rfl (.cons rfl (.one rfl) rfl (.cons rfl (.one rfl) rfl (.cons rfl (.one rfl) rfl .nil)))) rfl Tryz.runUnderlying22 Tryz.sizeOf5 Tryz.zeroValue5 rfl rfl) (n_alloc zero27z .agg) (fun _ _ _ _ ⟨_, _, _, e3⟩ => by subst e3; exact fun b o hb => List.mem_cons_of_mem _ ((Keep.nil _) b o hb)) (fun _ _ _ _ ⟨_, _, _, e3⟩ => by subst e3; exact fun b o hb => List.mem_cons_of_mem _ ((Keep.nil _) b o hb)) ?_ ?_
          ·
            rintro _ σ9 _ - ⟨bs, rfl, e9, rfl⟩
            obtain rfl := e9.symm
            refine d2 1 12 rfl rfl rfl (by decide +kernel) rfl rfl (n_markF (xs := sSeat) rfl Tryz.runUnderlying22 Tryz.runUnderlying5 rfl .hd) (n_alloc zero27z .agg) (fun _ _ _ _ _ => Keep.nil _) (fun _ _ _ _ ⟨_, _, _, e3⟩ => by subst e3; exact fun b o hb => List.mem_cons_of_mem _ ((Keep.nil _) b o hb)) ?_ ?_
            ·
              rintro _ σS _ hleS ⟨rfl, hbS, rfl⟩
              exact goc_eqv (mA (_, vE, vC, vM, bs) ⟨(by repeat (first | exact Sto.le_refl _ | assumption | refine Sto.le_trans ?_ (by assumption))), (by first | assumption | exact Bytes.up (by assumption) (by repeat (first | exact Sto.le_refl _ | assumption | refine Sto.le_trans ?_ (by assumption)))), (by first | assumption | exact Bytes.up (by assumption) (by repeat (first | exact Sto.le_refl _ | assumption | refine Sto.le_trans ?_ (by assumption)))), (by first | assumption | exact Bytes.up (by assumption) (by repeat (first | exact Sto.le_refl _ | assumption | refine Sto.le_trans ?_ (by assumption)))), (by first | assumption | exact Bytes.up (by assumption) (by repeat (first | exact Sto.le_refl _ | assumption | refine Sto.le_trans ?_ (by assumption))))⟩) ⟨rfl, rfl, rfl, rfl, rfl, rfl, rfl, rfl, rfl, rfl, rfl, rfl, rfl, rfl, rfl, trivial⟩ ⟨rfl, rfl, rfl, rfl, rfl, rfl, rfl, rfl, rfl, rfl, rfl, rfl, rfl, rfl, rfl, trivial⟩ rfl
            ·
              rintro _ σ9 _ - ⟨bd, rfl, e9, rfl⟩
              obtain rfl := e9.symm
              refine dn 1 rfl rfl rfl rfl (by decide +kernel) (n_markF (xs := sSeat) rfl Tryz.runUnderlying22 Tryz.runUnderlying5 rfl (.tl .hd)) (fun _ _ _ _ _ => Keep.nil _) ?_
              rintro _ σS _ hleS ⟨rfl, hbS, rfl⟩
              exact goc_eqv (mB (_, vE, vC, vM, bs, bd) ⟨(by repeat (first | exact Sto.le_refl _ | assumption | refine Sto.le_trans ?_ (by assumption))), (by first | assumption | exact Bytes.up (by assumption) (by repeat (first | exact Sto.le_refl _ | assumption | refine Sto.le_trans ?_ (by assumption)))), (by first | assumption | exact Bytes.up (by assumption) (by repeat (first | exact Sto.le_refl _ | assumption | refine Sto.le_trans ?_ (by assumption)))), (by first | assumption | exact Bytes.up (by assumption) (by repeat (first | exact Sto.le_refl _ | assumption | refine Sto.le_trans ?_ (by assumption)))), (by first | assumption | exact Bytes.up (by assumption) (by repeat (first | exact Sto.le_refl _ | assumption | refine Sto.le_trans ?_ (by assumption))))⟩) ⟨rfl, rfl, rfl, rfl, rfl, rfl, rfl, rfl, rfl, rfl, rfl, rfl, rfl, rfl, rfl, rfl, trivial⟩ ⟨rfl, rfl, rfl, rfl, rfl, rfl, rfl, rfl, rfl, rfl, rfl, rfl, rfl, rfl, rfl, rfl, trivial⟩ rfl
          ·
            rintro _ σ9 _ - ⟨bd, rfl, e9, rfl⟩
            obtain rfl := e9.symm
            refine dns 0 rfl rfl rfl rfl (by decide +kernel) (n_buildSlice (sz := 1) (l' := bcells [115, 101, 97, 116]) (.cons rfl (.one rfl) rfl (.cons rfl (.one rfl) rfl (.cons rfl (.one rfl) rfl (.cons rfl (.one rfl) rfl .nil)))) rfl Tryz.runUnderlying22 Tryz.sizeOf5 Tryz.zeroValue5 rfl rfl) (Keep.nil _) ?_
            intro bs
            refine dn 1 rfl rfl rfl rfl (by decide +kernel) (n_markF (xs := sSeat) rfl Tryz.runUnderlying22 Tryz.runUnderlying5 rfl .hd) (fun _ _ _ _ _ => Keep.nil _) ?_
            rintro _ σS _ hleS ⟨rfl, hbS, rfl⟩
            exact goc_eqv (mB (_, vE, vC, vM, bs, bd) ⟨(by repeat (first | exact Sto.le_refl _ | assumption | refine Sto.le_trans ?_ (by assumption))), (by first | assumption | exact Bytes.up (by assumption) (by repeat (first | exact Sto.le_refl _ | assumption | refine Sto.le_trans ?_ (by assumption)))), (by first | assumption | exact Bytes.up (by assumption) (by repeat (first | exact Sto.le_refl _ | assumption | refine Sto.le_trans ?_ (by assumption)))), (by first | assumption | exact Bytes.up (by assumption) (by repeat (first | exact Sto.le_refl _ | assumption | refine Sto.le_trans ?_ (by assumption)))), (by first | assumption | exact Bytes.up (by assumption) (by repeat (first | exact Sto.le_refl _ | assumption | refine Sto.le_trans ?_ (by assumption))))⟩) ⟨rfl, rfl, rfl, rfl, rfl, rfl, rfl, rfl, rfl, rfl, rfl, rfl, rfl, rfl, rfl, rfl, trivial⟩ ⟨rfl, rfl, rfl, rfl, rfl, rfl, rfl, rfl, rfl, rfl, rfl, rfl, rfl, rfl, rfl, rfl, trivial⟩ rfl
        ·
          rintro _ σ9 _ - ⟨bd, rfl, e9, rfl⟩
          obtain rfl := e9.symm
          refine d2 0 9 rfl rfl rfl (by decide +kernel) rfl rfl (n_buildSlice (sz := 1) (l' := bcells [115, 101, 97, 116]) (.cons rfl (.one rfl) rfl (.cons rfl (.one rfl) rfl (.cons rfl (.one rfl) rfl (.cons rfl (.one rfl) rfl .nil)))) rfl Tryz.runUnderlying22 Tryz.sizeOf5 Tryz.zeroValue5 rfl rfl) (n_call rfl Tryz.call128 c128) (fun _ _ _ _ ⟨_, _, _, e3⟩ => by subst e3; exact fun b o hb => List.mem_cons_of_mem _ ((Keep.nil _) b o hb)) (fun _ _ _ _ _ => Keep.nil _) ?_ ?_
          ·
            rintro _ σ9 _ - ⟨bs, rfl, e9, rfl⟩
            obtain rfl := e9.symm
            refine d2 1 9 rfl rfl rfl (by decide +kernel) rfl rfl (n_markF (xs := sSeat) rfl Tryz.runUnderlying22 Tryz.runUnderlying5 rfl .hd) (n_call rfl Tryz.call128 c128) (fun _ _ _ _ _ => Keep.nil _) (fun _ _ _ _ _ => Keep.nil _) ?_ ?_
            ·
              rintro _ σS _ hleS ⟨rfl, hbS, rfl⟩
              refine dn 9 rfl rfl rfl rfl (by decide +kernel) (n_call rfl Tryz.call128 c128) (fun _ _ _ _ _ => Keep.nil _) ?_
              rintro vM σM _ hleM ⟨hbM, rfl⟩
              exact goc_eqv (mB (_, vE, vC, vM, bs, bd) ⟨(by repeat (first | exact Sto.le_refl _ | assumption | refine Sto.le_trans ?_ (by assumption))), (by first | assumption | exact Bytes.up (by assumption) (by repeat (first | exact Sto.le_refl _ | assumption | refine Sto.le_trans ?_ (by assumption)))), (by first | assumption | exact Bytes.up (by assumption) (by repeat (first | exact Sto.le_refl _ | assumption | refine Sto.le_trans ?_ (by assumption)))), (by first | assumption | exact Bytes.up (by assumption) (by repeat (first | exact Sto.le_refl _ | assumption | refine Sto.le_trans ?_ (by assumption)))), (by first | assumption | exact Bytes.up (by assumption) (by repeat (first | exact Sto.le_refl _ | assumption | refine Sto.le_trans ?_ (by assumption))))⟩) ⟨rfl, rfl, rfl, rfl, rfl, rfl, rfl, rfl, rfl, rfl, rfl, rfl, rfl, rfl, rfl, rfl, trivial⟩ ⟨rfl, rfl, rfl, rfl, rfl, rfl, rfl, rfl, rfl, rfl, rfl, rfl, rfl, rfl, rfl, rfl, trivial⟩ rfl
            ·
              rintro vM σM _ hleM ⟨hbM, rfl⟩
              refine dn 1 rfl rfl rfl rfl (by decide +kernel) (n_markF (xs := sSeat) rfl Tryz.runUnderlying22 Tryz.runUnderlying5 rfl .hd) (fun _ _ _ _ _ => Keep.nil _) ?_
              rintro _ σS _ hleS ⟨rfl, hbS, rfl⟩
              exact goc_eqv (mB (_, vE, vC, vM, bs, bd) ⟨(by repeat (first | exact Sto.le_refl _ | assumption | refine Sto.le_trans ?_ (by assumption))), (by first | assumption | exact Bytes.up (by assumption) (by repeat (first | exact Sto.le_refl _ | assumption | refine Sto.le_trans ?_ (by assumption)))), (by first | assumption | exact Bytes.up (by assumption) (by repeat (first | exact Sto.le_refl _ | assumption | refine Sto.le_trans ?_ (by assumption)))), (by first | assumption | exact Bytes.up (by assumption) (by repeat (first | exact Sto.le_refl _ | assumption | refine Sto.le_trans ?_ (by assumption)))), (by first | assumption | exact Bytes.up (by assumption) (by repeat (first | exact Sto.le_refl _ | assumption | refine Sto.le_trans ?_ (by assumption))))⟩) ⟨rfl, rfl, rfl, rfl, rfl, rfl, rfl, rfl, rfl, rfl, rfl, rfl, rfl, rfl, rfl, rfl, trivial⟩ ⟨rfl, rfl, rfl, rfl, rfl, rfl, rfl, rfl, rfl, rfl, rfl, rfl, rfl, rfl, rfl, rfl, trivial⟩ rfl
          ·
            rintro vM σM _ hleM ⟨hbM, rfl⟩
            refine dns 0 rfl rfl rfl rfl (by decide +kernel) (n_buildSlice (sz := 1) (l' := bcells [115, 101, 97, 116]) (.cons rfl (.one rfl) rfl (.cons rfl (.one rfl) rfl (.cons rfl (.one rfl) rfl (.cons rfl (.one rfl) rfl .nil)))) rfl Tryz.runUnderlying22 Tryz.sizeOf5 Tryz.zeroValue5 rfl rfl) (Keep.nil _) ?_
            intro bs
            refine dn 1 rfl rfl rfl rfl (by decide +kernel) (n_markF (xs := sSeat) rfl Tryz.runUnderlying22 Tryz.runUnderlying5 rfl .hd) (fun _ _ _ _ _ => Keep.nil _) ?_
            rintro _ σS _ hleS ⟨rfl, hbS, rfl⟩
            exact goc_eqv (mB (_, vE, vC, vM, bs, bd) ⟨(by repeat (first | exact Sto.le_refl _ | assumption | refine Sto.le_trans ?_ (by assumption))), (by first | assumption | exact Bytes.up (by assumption) (by repeat (first | exact Sto.le_refl _ | assumption | refine Sto.le_trans ?_ (by assumption)))), (by first | assumption | exact Bytes.up (by assumption) (by repeat (first | exact Sto.le_refl _ | assumption | refine Sto.le_trans ?_ (by assumption)))), (by first | assumption | exact Bytes.up (by assumption) (by repeat (first | exact Sto.le_refl _ | assumption | refine Sto.le_trans ?_ (by assumption)))), (by first | assumption | exact Bytes.up (by assumption) (by repeat (first | exact Sto.le_refl _ | assumption | refine Sto.le_trans ?_ (by assumption))))⟩) ⟨rfl, rfl, rfl, rfl, rfl, rfl, rfl, rfl, rfl, rfl, rfl, rfl, rfl, rfl, rfl, rfl, trivial⟩ ⟨rfl, rfl, rfl, rfl, rfl, rfl, rfl, rfl, rfl, rfl, rfl, rfl, rfl, rfl, rfl, rfl, trivial⟩ rfl
      ·
        rintro _ σ9 _ - ⟨bd, rfl, e9, rfl⟩
        obtain rfl := e9.symm
        refine d2 0 7 rfl rfl rfl (by decide +kernel) rfl rfl (n_buildSlice (sz := 1) (l' := bcells [115, 101, 97, 116]) (.cons rfl (.one rfl) rfl (.cons rfl (.one rfl) rfl (.cons rfl (.one rfl) rfl (.cons rfl (.one rfl) rfl .nil)))) rfl Tryz.runUnderlying22 Tryz.sizeOf5 Tryz.zeroValue5 rfl rfl) (n_call rfl Tryz.call128 c128) (fun _ _ _ _ ⟨_, _, _, e3⟩ => by subst e3; exact fun b o hb => List.mem_cons_of_mem _ ((Keep.nil _) b o hb)) (fun _ _ _ _ _ => Keep.nil _) ?_ ?_
        ·
          rintro _ σ9 _ - ⟨bs, rfl, e9, rfl⟩
          obtain rfl := e9.symm
          refine d2 1 7 rfl rfl rfl (by decide +kernel) rfl rfl (n_markF (xs := sSeat) rfl Tryz.runUnderlying22 Tryz.runUnderlying5 rfl .hd) (n_call rfl Tryz.call128 c128) (fun _ _ _ _ _ => Keep.nil _) (fun _ _ _ _ _ => Keep.nil _) ?_ ?_
          ·
            rintro _ σS _ hleS ⟨rfl, hbS, rfl⟩
            refine dn 7 rfl rfl rfl rfl (by decide +kernel) (n_call rfl Tryz.call128 c128) (fun _ _ _ _ _ => Keep.nil _) ?_
            rintro vC σC _ hleC ⟨hbC, rfl⟩
            refine dn 9 rfl rfl rfl rfl (by decide +kernel) (n_call rfl Tryz.call128 c128) (fun _ _ _ _ _ => Keep.nil _) ?_
            rintro vM σM _ hleM ⟨hbM, rfl⟩
            exact goc_eqv (mB (_, vE, vC, vM, bs, bd) ⟨(by repeat (first | exact Sto.le_refl _ | assumption | refine Sto.le_trans ?_ (by assumption))), (by first | assumption | exact Bytes.up (by assumption) (by repeat (first | exact Sto.le_refl _ | assumption | refine Sto.le_trans ?_ (by assumption)))), (by first | assumption | exact Bytes.up (by assumption) (by repeat (first | exact Sto.le_refl _ | assumption | refine Sto.le_trans ?_ (by assumption)))), (by first | assumption | exact Bytes.up (by assumption) (by repeat (first | exact Sto.le_refl _ | assumption | refine Sto.le_trans ?_ (by assumption)))), (by first | assumption | exact Bytes.up (by assumption) (by repeat (first | exact Sto.le_refl _ | assumption | refine Sto.le_trans ?_ (by assumption))))⟩) ⟨rfl, rfl, rfl, rfl, rfl, rfl, rfl, rfl, rfl, rfl, rfl, rfl, rfl, rfl, rfl, rfl, trivial⟩ ⟨rfl, rfl, rfl, rfl, rfl, rfl, rfl, rfl, rfl, rfl, rfl, rfl, rfl, rfl, rfl, rfl, trivial⟩ rfl
          ·
            rintro vC σC _ hleC ⟨hbC, rfl⟩
            refine d2 1 9 rfl rfl rfl (by decide +kernel) rfl rfl (n_markF (xs := sSeat) rfl Tryz.runUnderlying22 Tryz.runUnderlying5 rfl .hd) (n_call rfl Tryz.call128 c128) (fun _ _ _ _ _ => Keep.nil _) (fun _ _ _ _ _ => Keep.nil _) ?_ ?_
            ·
              rintro _ σS _ hleS ⟨rfl, hbS, rfl⟩
              refine dn 9 rfl rfl rfl rfl (by decide +kernel) (n_call rfl Tryz.call128 c128) (fun _ _ _ _ _ => Keep.nil _) ?_
              rintro vM σM _ hleM ⟨hbM, rfl⟩
              exact goc_eqv (mB (_, vE, vC, vM, bs, bd) ⟨(by repeat (first | exact Sto.le_refl _ | assumption | refine Sto.le_trans ?_ (by assumption))), (by first | assumption | exact Bytes.up (by assumption) (by repeat (first | exact Sto.le_refl _ | assumption | refine Sto.le_trans ?_ (by assumption)))), (by first | assumption | exact Bytes.up (by assumption) (by repeat (first | exact Sto.le_refl _ | assumption | refine Sto.le_trans ?_ (by assumption)))), (by first | assumption | exact Bytes.up (by assumption) (by repeat (first | exact Sto.le_refl _ | assumption | refine Sto.le_trans ?_ (by assumption)))), (by first | assumption | exact Bytes.up (by assumption) (by repeat (first | exact Sto.le_refl _ | assumption | refine Sto.le_trans ?_ (by assumption))))⟩) ⟨rfl, rfl, rfl, rfl, rfl, rfl, rfl, rfl, rfl, rfl, rfl, rfl, rfl, rfl, rfl, rfl, trivial⟩ ⟨rfl, rfl, rfl, rfl, rfl, rfl, rfl, rfl, rfl, rfl, rfl, rfl, rfl, rfl, rfl, rfl, trivial⟩ rfl
            ·
              rintro vM σM _ hleM ⟨hbM, rfl⟩
              refine dn 1 rfl rfl rfl rfl (by decide +kernel) (n_markF (xs := sSeat) rfl Tryz.runUnderlying22 Tryz.runUnderlying5 rfl .hd) (fun _ _ _ _ _ => Keep.nil _) ?_
              rintro _ σS _ hleS ⟨rfl, hbS, rfl⟩
              exact goc_eqv (mB (_, vE, vC, vM, bs, bd) ⟨(by repeat (first | exact Sto.le_refl _ | assumption | refine Sto.le_trans ?_ (by assumption))), (by first | assumption | exact Bytes.up (by assumption) (by repeat (first | exact Sto.le_refl _ | assumption | refine Sto.le_trans ?_ (by assumption)))), (by first | assumption | exact Bytes.up (by assumption) (by repeat (first | exact Sto.le_refl _ | assumption | refine Sto.le_trans ?_ (by assumption)))), (by first | assumption | exact Bytes.up (by assumption) (by repeat (first | exact Sto.le_refl _ | assumption | refine Sto.le_trans ?_ (by assumption)))), (by first | assumption | exact Bytes.up (by assumption) (by repeat (first | exact Sto.le_refl _ | assumption | refine Sto.le_trans ?_ (by assumption))))⟩) ⟨rfl, rfl, rfl, rfl, rfl, rfl, rfl, rfl, rfl, rfl, rfl, rfl, rfl, rfl, rfl, rfl, trivial⟩ ⟨rfl, rfl, rfl, rfl, rfl, rfl, rfl, rfl, rfl, rfl, rfl, rfl, rfl, rfl, rfl, rfl, trivial⟩ rfl
        ·
          rintro vC σC _ hleC ⟨hbC, rfl⟩
          refine d2 0 9 rfl rfl rfl (by decide +kernel) rfl rfl (n_buildSlice (sz := 1) (l' := bcells [115, 101, 97, 116]) (.cons rfl (.one rfl) rfl (.cons rfl (.one rfl) rfl (.cons rfl (.one rfl) rfl (.cons rfl (.one rfl) rfl .nil)))) rfl Tryz.runUnderlying22 Tryz.sizeOf5 Tryz.zeroValue5 rfl rfl) (n_call rfl Tryz.call128 c128) (fun _ _ _ _ ⟨_, _, _, e3⟩ => by subst e3; exact fun b o hb => List.mem_cons_of_mem _ ((Keep.nil _) b o hb)) (fun _ _ _ _ _ => Keep.nil _) ?_ ?_
          ·
            rintro _ σ9 _ - ⟨bs, rfl, e9, rfl⟩
            obtain rfl := e9.symm
            refine d2 1 9 rfl rfl rfl (by decide +kernel) rfl rfl (n_markF (xs := sSeat) rfl Tryz.runUnderlying22 Tryz.runUnderlying5 rfl .hd) (n_call rfl Tryz.call128 c128) (fun _ _ _ _ _ => Keep.nil _) (fun _ _ _ _ _ => Keep.nil _) ?_ ?_
            ·
              rintro _ σS _ hleS ⟨rfl, hbS, rfl⟩
              refine dn 9 rfl rfl rfl rfl (by decide +kernel) (n_call rfl Tryz.call128 c128) (fun _ _ _ _ _ => Keep.nil _) ?_
              rintro vM σM _ hleM ⟨hbM, rfl⟩
              exact goc_eqv (mB (_, vE, vC, vM, bs, bd) ⟨(by repeat (first | exact Sto.le_refl _ | assumption | refine Sto.le_trans ?_ (by assumption))), (by first | assumption | exact Bytes.up (by assumption) (by repeat (first | exact Sto.le_refl _ | assumption | refine Sto.le_trans ?_ (by assumption)))), (by first | assumption | exact Bytes.up (by assumption) (by repeat (first | exact Sto.le_refl _ | assumption | refine Sto.le_trans ?_ (by assumption)))), (by first | assumption | exact Bytes.up (by assumption) (by repeat (first | exact Sto.le_refl _ | assumption | refine Sto.le_trans ?_ (by assumption)))), (by first | assumption | exact Bytes.up (by assumption) (by repeat (first | exact Sto.le_refl _ | assumption | refine Sto.le_trans ?_ (by assumption))))⟩) ⟨rfl, rfl, rfl, rfl, rfl, rfl, rfl, rfl, rfl, rfl, rfl, rfl, rfl, rfl, rfl, rfl, trivial⟩ ⟨rfl, rfl, rfl, rfl, rfl, rfl, rfl, rfl, rfl, rfl, rfl, rfl, rfl, rfl, rfl, rfl, trivial⟩ rfl
            ·
              rintro vM σM _ hleM ⟨hbM, rfl⟩
              refine dn 1 rfl rfl rfl rfl (by decide +kernel) (n_markF (xs := sSeat) rfl Tryz.runUnderlying22 Tryz.runUnderlying5 rfl .hd) (fun _ _ _ _ _ => Keep.nil _) ?_
              rintro _ σS _ hleS ⟨rfl, hbS, rfl⟩
              exact goc_eqv (mB (_, vE, vC, vM, bs, bd) ⟨(by repeat (first | exact Sto.le_refl _ | assumption | refine Sto.le_trans ?_ (by assumption))), (by first | assumption | exact Bytes.up (by assumption) (by repeat (first | exact Sto.le_refl _ | assumption | refine Sto.le_trans ?_ (by assumption)))), (by first | assumption | exact Bytes.up (by assumption) (by repeat (first | exact Sto.le_refl _ | assumption | refine Sto.le_trans ?_ (by assumption)))), (by first | assumption | exact Bytes.up (by assumption) (by repeat (first | exact Sto.le_refl _ | assumption | refine Sto.le_trans ?_ (by assumption)))), (by first | assumption | exact Bytes.up (by assumption) (by repeat (first | exact Sto.le_refl _ | assumption | refine Sto.le_trans ?_ (by assumption))))⟩) ⟨rfl, rfl, rfl, rfl, rfl, rfl, rfl, rfl, rfl, rfl, rfl, rfl, rfl, rfl, rfl, rfl, trivial⟩ ⟨rfl, rfl, rfl, rfl, rfl, rfl, rfl, rfl, rfl, rfl, rfl, rfl, rfl, rfl, rfl, rfl, trivial⟩ rfl
          ·
            rintro vM σM _ hleM ⟨hbM, rfl⟩
            refine dns 0 rfl rfl rfl rfl (by decide +kernel) (n_buildSlice (sz := 1) (l' := bcells [115, 101, 97, 116]) (.cons rfl (.one rfl) rfl (.cons rfl (.one rfl) rfl (.cons rfl (.one rfl) rfl (.cons rfl (.one rfl) rfl .nil)))) rfl Tryz.runUnderlying22 Tryz.sizeOf5 Tryz.zeroValue5 rfl rfl) (Keep.nil _) ?_
            intro bs
            refine dn 1 rfl rfl rfl rfl (by decide +kernel) (n_markF (xs := sSeat) rfl Tryz.runUnderlying22 Tryz.runUnderlying5 rfl .hd) (fun _ _ _ _ _ => Keep.nil _) ?_
            rintro _ σS _ hleS ⟨rfl, hbS, rfl⟩
            exact goc_eqv (mB (_, vE, vC, vM, bs, bd) ⟨(by repeat (first | exact Sto.le_refl _ | assumption | refine Sto.le_trans ?_ (by assumption))), (by first | assumption | exact Bytes.up (by assumption) (by repeat (first | exact Sto.le_refl _ | assumption | refine Sto.le_trans ?_ (by assumption)))), (by first | assumption | exact Bytes.up (by assumption) (by repeat (first | exact Sto.le_refl _ | assumption | refine Sto.le_trans ?_ (by assumption)))), (by first | assumption | exact Bytes.up (by assumption) (by repeat (first | exact Sto.le_refl _ | assumption | refine Sto.le_trans ?_ (by assumption)))), (by first | assumption | exact Bytes.up (by assumption) (by repeat (first | exact Sto.le_refl _ | assumption | refine Sto.le_trans ?_ (by assumption))))⟩) ⟨rfl, rfl, rfl, rfl, rfl, rfl, rfl, rfl, rfl, rfl, rfl, rfl, rfl, rfl, rfl, rfl, trivial⟩ ⟨rfl, rfl, rfl, rfl, rfl, rfl, rfl, rfl, rfl, rfl, rfl, rfl, rfl, rfl, rfl, rfl, trivial⟩ rfl
    ·
      rintro _ σ9 _ - ⟨bd, rfl, e9, rfl⟩
      obtain rfl := e9.symm
      refine d2 0 5 rfl rfl rfl (by decide +kernel) rfl rfl (n_buildSlice (sz := 1) (l' := bcells [115, 101, 97, 116]) (.cons rfl (.one rfl) rfl (.cons rfl (.one rfl) rfl (.cons rfl (.one rfl) rfl (.cons rfl (.one rfl) rfl .nil)))) rfl Tryz.runUnderlying22 Tryz.sizeOf5 Tryz.zeroValue5 rfl rfl) (n_call rfl Tryz.call128 c128) (fun _ _ _ _ ⟨_, _, _, e3⟩ => by subst e3; exact fun b o hb => List.mem_cons_of_mem _ ((Keep.nil _) b o hb)) (fun _ _ _ _ _ => Keep.nil _) ?_ ?_
      ·
        rintro _ σ9 _ - ⟨bs, rfl, e9, rfl⟩
        obtain rfl := e9.symm
        refine d2 1 5 rfl rfl rfl (by decide +kernel) rfl rfl (n_markF (xs := sSeat) rfl Tryz.runUnderlying22 Tryz.runUnderlying5 rfl .hd) (n_call rfl Tryz.call128 c128) (fun _ _ _ _ _ => Keep.nil _) (fun _ _ _ _ _ => Keep.nil _) ?_ ?_
        ·
          rintro _ σS _ hleS ⟨rfl, hbS, rfl⟩
          refine dn 5 rfl rfl rfl rfl (by decide +kernel) (n_call rfl Tryz.call128 c128) (fun _ _ _ _ _ => Keep.nil _) ?_
          rintro vE σE _ hleE ⟨hbE, rfl⟩
          refine dn 7 rfl rfl rfl rfl (by decide +kernel) (n_call rfl Tryz.call128 c128) (fun _ _ _ _ _ => Keep.nil _) ?_
          rintro vC σC _ hleC ⟨hbC, rfl⟩
          refine dn 9 rfl rfl rfl rfl (by decide +kernel) (n_call rfl Tryz.call128 c128) (fun _ _ _ _ _ => Keep.nil _) ?_
          rintro vM σM _ hleM ⟨hbM, rfl⟩
          exact goc_eqv (mB (_, vE, vC, vM, bs, bd) ⟨(by repeat (first | exact Sto.le_refl _ | assumption | refine Sto.le_trans ?_ (by assumption))), (by first | assumption | exact Bytes.up (by assumption) (by repeat (first | exact Sto.le_refl _ | assumption | refine Sto.le_trans ?_ (by assumption)))), (by first | assumption | exact Bytes.up (by assumption) (by repeat (first | exact Sto.le_refl _ | assumption | refine Sto.le_trans ?_ (by assumption)))), (by first | assumption | exact Bytes.up (by assumption) (by repeat (first | exact Sto.le_refl _ | assumption | refine Sto.le_trans ?_ (by assumption)))), (by first | assumption | exact Bytes.up (by assumption) (by repeat (first | exact Sto.le_refl _ | assumption | refine Sto.le_trans ?_ (by assumption))))⟩) ⟨rfl, rfl, rfl, rfl, rfl, rfl, rfl, rfl, rfl, rfl, rfl, rfl, rfl, rfl, rfl, rfl, trivial⟩ ⟨rfl, rfl, rfl, rfl, rfl, rfl, rfl, rfl, rfl, rfl, rfl, rfl, rfl, rfl, rfl, rfl, trivial⟩ rfl
        ·
          rintro vE σE _ hleE ⟨hbE, rfl⟩
          refine d2 1 7 rfl rfl rfl (by decide +kernel) rfl rfl (n_markF (xs := sSeat) rfl Tryz.runUnderlying22 Tryz.runUnderlying5 rfl .hd) (n_call rfl Tryz.call128 c128) (fun _ _ _ _ _ => Keep.nil _) (fun _ _ _ _ _ => Keep.nil _) ?_ ?_
          ·
            rintro _ σS _ hleS ⟨rfl, hbS, rfl⟩
            refine dn 7 rfl rfl rfl rfl (by decide +kernel) (n_call rfl Tryz.call128 c128) (fun _ _ _ _ _ => Keep.nil _) ?_
            rintro vC σC _ hleC ⟨hbC, rfl⟩
            refine dn 9 rfl rfl rfl rfl (by decide +kernel) (n_call rfl Tryz.call128 c128) (fun _ _ _ _ _ => Keep.nil _) ?_
            rintro vM σM _ hleM ⟨hbM, rfl⟩
            exact goc_eqv (mB (_, vE, vC, vM, bs, bd) ⟨(by repeat (first | exact Sto.le_refl _ | assumption | refine Sto.le_trans ?_ (by assumption))), (by first | assumption | exact Bytes.up (by assumption) (by repeat (first | exact Sto.le_refl _ | assumption | refine Sto.le_trans ?_ (by assumption)))), (by first | assumption | exact Bytes.up (by assumption) (by repeat (first | exact Sto.le_refl _ | assumption | refine Sto.le_trans ?_ (by assumption)))), (by first | assumption | exact Bytes.up (by assumption) (by repeat (first | exact Sto.le_refl _ | assumption | refine Sto.le_trans ?_ (by assumption)))), (by first | assumption | exact Bytes.up (by assumption) (by repeat (first | exact Sto.le_refl _ | assumption | refine Sto.le_trans ?_ (by assumption))))⟩) ⟨rfl, rfl, rfl, rfl, rfl, rfl, rfl, rfl, rfl, rfl, rfl, rfl, rfl, rfl, rfl, rfl, trivial⟩ ⟨rfl, rfl, rfl, rfl, rfl, rfl, rfl, rfl, rfl, rfl, rfl, rfl, rfl, rfl, rfl, rfl, trivial⟩ rfl
          ·
            rintro vC σC _ hleC ⟨hbC, rfl⟩
            refine d2 1 9 rfl rfl rfl (by decide +kernel) rfl rfl (n_markF (xs := sSeat) rfl Tryz.runUnderlying22 Tryz.runUnderlying5 rfl .hd) (n_call rfl Tryz.call128 c128) (fun _ _ _ _ _ => Keep.nil _) (fun _ _ _ _ _ => Keep.nil _) ?_ ?_
            ·
              rintro _ σS _ hleS ⟨rfl, hbS, rfl⟩
              refine dn 9 rfl rfl rfl rfl (by decide +kernel) (n_call rfl Tryz.call128 c128) (fun _ _ _ _ _ => Keep.nil _) ?_
              rintro vM σM _ hleM ⟨hbM, rfl⟩
              exact goc_eqv (mB (_, vE, vC, vM, bs, bd) ⟨(by repeat (first | exact Sto.le_refl _ | assumption | refine Sto.le_trans ?_ (by assumption))), (by first | assumption | exact Bytes.up (by assumption) (by repeat (first | exact Sto.le_refl _ | assumption | refine Sto.le_trans ?_ (by assumption)))), (by first | assumption | exact Bytes.up (by assumption) (by repeat (first | exact Sto.le_refl _ | assumption | refine Sto.le_trans ?_ (by assumption)))), (by first | assumption | exact Bytes.up (by assumption) (by repeat (first | exact Sto.le_refl _ | assumption | refine Sto.le_trans ?_ (by assumption)))), (by first | assumption | exact Bytes.up (by assumption) (by repeat (first | exact Sto.le_refl _ | assumption | refine Sto.le_trans ?_ (by assumption))))⟩) ⟨rfl, rfl, rfl, rfl, rfl, rfl, rfl, rfl, rfl, rfl, rfl, rfl, rfl, rfl, rfl, rfl, trivial⟩ ⟨rfl, rfl, rfl, rfl, rfl, rfl, rfl, rfl, rfl, rfl, rfl, rfl, rfl, rfl, rfl, rfl, trivial⟩ rfl
            ·
              rintro vM σM _ hleM ⟨hbM, rfl⟩
              refine dn 1 rfl rfl rfl rfl (by decide +kernel) (n_markF (xs := sSeat) rfl Tryz.runUnderlying22 Tryz.runUnderlying5 rfl .hd) (fun _ _ _ _ _ => Keep.nil _) ?_
              rintro _ σS _ hleS ⟨rfl, hbS, rfl⟩
              exact goc_eqv (mB (_, vE, vC, vM, bs, bd) ⟨(by repeat (first | exact Sto.le_refl _ | assumption | refine Sto.le_trans ?_ (by assumption))), (by first | assumption | exact Bytes.up (by assumption) (by repeat (first | exact Sto.le_refl _ | assumption | refine Sto.le_trans ?_ (by assumption)))), (by first | assumption | exact Bytes.up (by assumption) (by repeat (first | exact Sto.le_refl _ | assumption | refine Sto.le_trans ?_ (by assumption)))), (by first | assumption | exact Bytes.up (by assumption) (by repeat (first | exact Sto.le_refl _ | assumption | refine Sto.le_trans ?_ (by assumption)))), (by first | assumption | exact Bytes.up (by assumption) (by repeat (first | exact Sto.le_refl _ | assumption | refine Sto.le_trans ?_ (by assumption))))⟩) ⟨rfl, rfl, rfl, rfl, rfl, rfl, rfl, rfl, rfl, rfl, rfl, rfl, rfl, rfl, rfl, rfl, trivial⟩ ⟨rfl, rfl, rfl, rfl, rfl, rfl, rfl, rfl, rfl, rfl, rfl, rfl, rfl, rfl, rfl, rfl, trivial⟩ rfl
      ·
        rintro vE σE _ hleE ⟨hbE, rfl⟩
        refine d2 0 7 rfl rfl rfl (by decide +kernel) rfl rfl (n_buildSlice (sz := 1) (l' := bcells [115, 101, 97, 116]) (.cons rfl (.one rfl) rfl (.cons rfl (.one rfl) rfl (.cons rfl (.one rfl) rfl (.cons rfl (.one rfl) rfl .nil)))) rfl Tryz.runUnderlying22 Tryz.sizeOf5 Tryz.zeroValue5 rfl rfl) (n_call rfl Tryz.call128 c128) (fun _ _ _ _ ⟨_, _, _, e3⟩ => by subst e3; exact fun b o hb => List.mem_cons_of_mem _ ((Keep.nil _) b o hb)) (fun _ _ _ _ _ => Keep.nil _) ?_ ?_
        ·
          rintro _ σ9 _ - ⟨bs, rfl, e9, rfl⟩
          obtain rfl := e9.symm
          refine d2 1 7 rfl rfl rfl (by decide +kernel) rfl rfl (n_markF (xs := sSeat) rfl Tryz.runUnderlying22 Tryz.runUnderlying5 rfl .hd) (n_call rfl Tryz.call128 c128) (fun _ _ _ _ _ => Keep.nil _) (fun _ _ _ _ _ => Keep.nil _) ?_ ?_
          ·
            rintro _ σS _ hleS ⟨rfl, hbS, rfl⟩
            refine dn 7 rfl rfl rfl rfl (by decide +kernel) (n_call rfl Tryz.call128 c128) (fun _ _ _ _ _ => Keep.nil _) ?_
            rintro vC σC _ hleC ⟨hbC, rfl⟩
            refine dn 9 rfl rfl rfl rfl (by decide +kernel) (n_call rfl Tryz.call128 c128) (fun _ _ _ _ _ => Keep.nil _) ?_
            rintro vM σM _ hleM ⟨hbM, rfl⟩
            exact goc_eqv (mB (_, vE, vC, vM, bs, bd) ⟨(by repeat (first | exact Sto.le_refl _ | assumption | refine Sto.le_trans ?_ (by assumption))), (by first | assumption | exact Bytes.up (by assumption) (by repeat (first | exact Sto.le_refl _ | assumption | refine Sto.le_trans ?_ (by assumption)))), (by first | assumption | exact Bytes.up (by assumption) (by repeat (first | exact Sto.le_refl _ | assumption | refine Sto.le_trans ?_ (by assumption)))), (by first | assumption | exact Bytes.up (by assumption) (by repeat (first | exact Sto.le_refl _ | assumption | refine Sto.le_trans ?_ (by assumption)))), (by first | assumption | exact Bytes.up (by assumption) (by repeat (first | exact Sto.le_refl _ | assumption | refine Sto.le_trans ?_ (by assumption))))⟩) ⟨rfl, rfl, rfl, rfl, rfl, rfl, rfl, rfl, rfl, rfl, rfl, rfl, rfl, rfl, rfl, rfl, trivial⟩ ⟨rfl, rfl, rfl, rfl, rfl, rfl, rfl, rfl, rfl, rfl, rfl, rfl, rfl, rfl, rfl, rfl, trivial⟩ rfl
          ·
            rintro vC σC _ hleC ⟨hbC, rfl⟩
            refine d2 1 9 rfl rfl rfl (by decide +kernel) rfl rfl (n_markF (xs := sSeat) rfl Tryz.runUnderlying22 Tryz.runUnderlying5 rfl .hd) (n_call rfl Tryz.call128 c128) (fun _ _ _ _ _ => Keep.nil _) (fun _ _ _ _ _ => Keep.nil _) ?_ ?_
            ·
              rintro _ σS _ hleS ⟨rfl, hbS, rfl⟩
              refine dn 9 rfl rfl rfl rfl (by decide +kernel) (n_call rfl Tryz.call128 c128) (fun _ _ _ _ _ => Keep.nil _) ?_
              rintro vM σM _ hleM ⟨hbM, rfl⟩
              exact goc_eqv (mB (_, vE, vC, vM, bs, bd) ⟨(by repeat (first | exact Sto.le_refl _ | assumption | refine Sto.le_trans ?_ (by assumption))), (by first | assumption | exact Bytes.up (by assumption) (by repeat (first | exact Sto.le_refl _ | assumption | refine Sto.le_trans ?_ (by assumption)))), (by first | assumption | exact Bytes.up (by assumption) (by repeat (first | exact Sto.le_refl _ | assumption | refine Sto.le_trans ?_ (by assumption)))), (by first | assumption | exact Bytes.up (by assumption) (by repeat (first | exact Sto.le_refl _ | assumption | refine Sto.le_trans ?_ (by assumption)))), (by first | assumption | exact Bytes.up (by assumption) (by repeat (first | exact Sto.le_refl _ | assumption | refine Sto.le_trans ?_ (by assumption))))⟩) ⟨rfl, rfl, rfl, rfl, rfl, rfl, rfl, rfl, rfl, rfl, rfl, rfl, rfl, rfl, rfl, rfl, trivial⟩ ⟨rfl, rfl, rfl, rfl, rfl, rfl, rfl, rfl, rfl, rfl, rfl, rfl, rfl, rfl, rfl, rfl, trivial⟩ rfl
            ·
              rintro vM σM _ hleM ⟨hbM, rfl⟩
              refine dn 1 rfl rfl rfl rfl (by decide +kernel) (n_markF (xs := sSeat) rfl Tryz.runUnderlying22 Tryz.runUnderlying5 rfl .hd) (fun _ _ _ _ _ => Keep.nil _) ?_
              rintro _ σS _ hleS ⟨rfl, hbS, rfl⟩
              exact goc_eqv (mB (_, vE, vC, vM, bs, bd) ⟨(by repeat (first | exact Sto.le_refl _ | assumption | refine Sto.le_trans ?_ (by assumption))), (by first | assumption | exact Bytes.up (by assumption) (by repeat (first | exact Sto.le_refl _ | assumption | refine Sto.le_trans ?_ (by assumption)))), (by first | assumption | exact Bytes.up (by assumption) (by repeat (first | exact Sto.le_refl _ | assumption | refine Sto.le_trans ?_ (by assumption)))), (by first | assumption | exact Bytes.up (by assumption) (by repeat (first | exact Sto.le_refl _ | assumption | refine Sto.le_trans ?_ (by assumption)))), (by first | assumption | exact Bytes.up (by assumption) (by repeat (first | exact Sto.le_refl _ | assumption | refine Sto.le_trans ?_ (by assumption))))⟩) ⟨rfl, rfl, rfl, rfl, rfl, rfl, rfl, rfl, rfl, rfl, rfl, rfl, rfl, rfl, rfl, rfl, trivial⟩ ⟨rfl, rfl, rfl, rfl, rfl, rfl, rfl, rfl, rfl, rfl, rfl, rfl, rfl, rfl, rfl, rfl, trivial⟩ rfl
        ·
          rintro vC σC _ hleC ⟨hbC, rfl⟩
          refine d2 0 9 rfl rfl rfl (by decide +kernel) rfl rfl (n_buildSlice (sz := 1) (l' := bcells [115, 101, 97, 116]) (.cons rfl (.one rfl) rfl (.cons rfl (.one rfl) rfl (.cons rfl (.one rfl) rfl (.cons rfl (.one rfl) rfl .nil)))) rfl Tryz.runUnderlying22 Tryz.sizeOf5 Tryz.zeroValue5 rfl rfl) (n_call rfl Tryz.call128 c128) (fun _ _ _ _ ⟨_, _, _, e3⟩ => by subst e3; exact fun b o hb => List.mem_cons_of_mem _ ((Keep.nil _) b o hb)) (fun _ _ _ _ _ => Keep.nil _) ?_ ?_
          ·
            rintro _ σ9 _ - ⟨bs, rfl, e9, rfl⟩
            obtain rfl := e9.symm
            refine d2 1 9 rfl rfl rfl (by decide +kernel) rfl rfl (n_markF (xs := sSeat) rfl Tryz.runUnderlying22 Tryz.runUnderlying5 rfl .hd) (n_call rfl Tryz.call128 c128) (fun _ _ _ _ _ => Keep.nil _) (fun _ _ _ _ _ => Keep.nil _) ?_ ?_
            ·
              rintro _ σS _ hleS ⟨rfl, hbS, rfl⟩
              refine dn 9 rfl rfl rfl rfl (by decide +kernel) (n_call rfl Tryz.call128 c128) (fun _ _ _ _ _ => Keep.nil _) ?_
              rintro vM σM _ hleM ⟨hbM, rfl⟩
              exact goc_eqv (mB (_, vE, vC, vM, bs, bd) ⟨(by repeat (first | exact Sto.le_refl _ | assumption | refine Sto.le_trans ?_ (by assumption))), (by first | assumption | exact Bytes.up (by assumption) (by repeat (first | exact Sto.le_refl _ | assumption | refine Sto.le_trans ?_ (by assumption)))), (by first | assumption | exact Bytes.up (by assumption) (by repeat (first | exact Sto.le_refl _ | assumption | refine Sto.le_trans ?_ (by assumption)))), (by first | assumption | exact Bytes.up (by assumption) (by repeat (first | exact Sto.le_refl _ | assumption | refine Sto.le_trans ?_ (by assumption)))), (by first | assumption | exact Bytes.up (by assumption) (by repeat (first | exact Sto.le_refl _ | assumption | refine Sto.le_trans ?_ (by assumption))))⟩) ⟨rfl, rfl, rfl, rfl, rfl, rfl, rfl, rfl, rfl, rfl, rfl, rfl, rfl, rfl, rfl, rfl, trivial⟩ ⟨rfl, rfl, rfl, rfl, rfl, rfl, rfl, rfl, rfl, rfl, rfl, rfl, rfl, rfl, rfl, rfl, trivial⟩ rfl
            ·
              rintro vM σM _ hleM ⟨hbM, rfl⟩
              refine dn 1 rfl rfl rfl rfl (by decide +kernel) (n_markF (xs := sSeat) rfl Tryz.runUnderlying22 Tryz.runUnderlying5 rfl .hd) (fun _ _ _ _ _ => Keep.nil _) ?_
              rintro _ σS _ hleS ⟨rfl, hbS, rfl⟩
              exact goc_eqv (mB (_, vE, vC, vM, bs, bd) ⟨(by repeat (first | exact Sto.le_refl _ | assumption | refine Sto.le_trans ?_ (by assumption))), (by first | assumption | exact Bytes.up (by assumption) (by repeat (first | exact Sto.le_refl _ | assumption | refine Sto.le_trans ?_ (by assumption)))), (by first | assumption | exact Bytes.up (by assumption) (by repeat (first | exact Sto.le_refl _ | assumption | refine Sto.le_trans ?_ (by assumption)))), (by first | assumption | exact Bytes.up (by assumption) (by repeat (first | exact Sto.le_refl _ | assumption | refine Sto.le_trans ?_ (by assumption)))), (by first | assumption | exact Bytes.up (by assumption) (by repeat (first | exact Sto.le_refl _ | assumption | refine Sto.le_trans ?_ (by assumption))))⟩) ⟨rfl, rfl, rfl, rfl, rfl, rfl, rfl, rfl, rfl, rfl, rfl, rfl, rfl, rfl, rfl, rfl, trivial⟩ ⟨rfl, rfl, rfl, rfl, rfl, rfl, rfl, rfl, rfl, rfl, rfl, rfl, rfl, rfl, rfl, rfl, trivial⟩ rfl
          ·
            rintro vM σM _ hleM ⟨hbM, rfl⟩
            refine dns 0 rfl rfl rfl rfl (by decide +kernel) (n_buildSlice (sz := 1) (l' := bcells [115, 101, 97, 116]) (.cons rfl (.one rfl) rfl (.cons rfl (.one rfl) rfl (.cons rfl (.one rfl) rfl (.cons rfl (.one rfl) rfl .nil)))) rfl Tryz.runUnderlying22 Tryz.sizeOf5 Tryz.zeroValue5 rfl rfl) (Keep.nil _) ?_
            intro bs
            refine dn 1 rfl rfl rfl rfl (by decide +kernel) (n_markF (xs := sSeat) rfl Tryz.runUnderlying22 Tryz.runUnderlying5 rfl .hd) (fun _ _ _ _ _ => Keep.nil _) ?_
            rintro _ σS _ hleS ⟨rfl, hbS, rfl⟩
            exact goc_eqv (mB (_, vE, vC, vM, bs, bd) ⟨(by repeat (first | exact Sto.le_refl _ | assumption | refine Sto.le_trans ?_ (by assumption))), (by first | assumption | exact Bytes.up (by assumption) (by repeat (first | exact Sto.le_refl _ | assumption | refine Sto.le_trans ?_ (by assumption)))), (by first | assumption | exact Bytes.up (by assumption) (by repeat (first | exact Sto.le_refl _ | assumption | refine Sto.le_trans ?_ (by assumption)))), (by first | assumption | exact Bytes.up (by assumption) (by repeat (first | exact Sto.le_refl _ | assumption | refine Sto.le_trans ?_ (by assumption)))), (by first | assumption | exact Bytes.up (by assumption) (by repeat (first | exact Sto.le_refl _ | assumption | refine Sto.le_trans ?_ (by assumption))))⟩) ⟨rfl, rfl, rfl, rfl, rfl, rfl, rfl, rfl, rfl, rfl, rfl, rfl, rfl, rfl, rfl, rfl, trivial⟩ ⟨rfl, rfl, rfl, rfl, rfl, rfl, rfl, rfl, rfl, rfl, rfl, rfl, rfl, rfl, rfl, rfl, trivial⟩ rfl
  ·
    rintro ⟨σ1, bd⟩ hle1
    simp only at hle1 ⊢
    refine go_frz (fun σ2 hle2 hbd => ?_)
    refine go_seq ?_
    refine go_region ?_
    refine sq rfl (q_sliceArr (n := 32) (l := 0) (h := 32) rfl Tryz.runUnderlying27 Tryz.sizeOf5 rfl rfl rfl rfl (by decide) (by decide) (by rfl)) ?_
    refine sq rfl (q_assign rfl) ?_
    refine gol_nil ?_
    refine go_ret Tryz.func127 Tryz.results127 rfl rfl rfl (by repeat (first | exact Sto.le_refl _ | assumption | refine Sto.le_trans ?_ (by assumption))) ?_
    exact ⟨Bytes.blk hbd (rank_len _ _ _ _) (by decide), rfl⟩
end Go.Eng
