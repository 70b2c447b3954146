/- A part of the proof of this: Payments and locks of a shard come out as they stand on paper (TopPaid): for every input, with the listed package variables as the program's text lays them, TopPaid answers true and its argument reads as it did. -/
import Derived.Test.YtddoimkbjgfjnaaGreatDoorPaid19
import Derived.Test.YtddoimkbjgfjnaaGreatDoorPaid14
import Derived.Test.YtddoimkbjgfjnaaGreatDoorPaid13
import Derived.Test.YtddoimkbjgfjnaaGreatDoorPaid11
import Derived.Test.YtddoimkbjgfjnaaGreatDoorPaid15
namespace Go.Eng
open Go Go.Proofs
set_option maxRecDepth 20000
theorem c41 {σ : Sto} {L : SHeap} {g : Gen} {gv : GV} {cvs : List (SV × Int)} {px pm : Nat} (hkn : Kn σ L px (ledObj g gv cvs pm)) (n : Int) : Ctr Tryz.prog 41 #[.pointer (some ⟨px, 0, none⟩), iv n] σ L fun r σ' L' => r = .bool (decide (0 ≤ n ∧ n ≤ g.shards)) ∧ σ' = σ ∧ L' = L := by
  refine ctr_enter Tryz.func41 rfl Tryz.ntmps41 (by simp) ?_
  refine go_seq ?_
  refine go_region ?_
  refine sq rfl (q_assign rfl) ?_
  refine gol_nil ?_
  refine go_seq ?_
  refine go_region ?_
  refine sq rfl (q_move rfl) ?_
  refine sq rfl (q_geq (a := n) (b := 0) rfl rfl) ?_
  rcases Classical.em (n ≥ 0) with h0 | h0
  ·
    rw [show decide (n ≥ 0) = true from decide_eq_true h0]
    refine sq rfl (q_move rfl) ?_
    refine sqg rfl rfl (q_move rfl) ?_
    refine sqg rfl rfl (q_move rfl) ?_
    refine sqg rfl rfl (q_nil rfl) ?_
    refine sqg rfl rfl (q_fieldAddr (off := 0) (o' := 0) rfl Tryz.runUnderlying119 rfl Tryz.sizeOf29 rfl rfl) ?_
    refine sqg rfl rfl (q_fieldAddr (off := 1) (o' := 1) rfl Tryz.runUnderlying29 rfl Tryz.sizeOf3 rfl rfl) ?_
    refine sqg rfl rfl (q_load (cs := ledCells g gv cvs pm) (v := iv g.shards) rfl Tryz.isAgg3 hkn (.s .z)) ?_
    refine sqg rfl rfl (q_leq (a := n) (b := g.shards) rfl rfl) ?_
    refine sq rfl (q_pick rfl rfl rfl rfl) ?_
    refine sq rfl (q_assign rfl) ?_
    refine gol_nil ?_
    refine go_ret Tryz.func41 Tryz.results41 rfl rfl rfl (by repeat (first | exact Sto.le_refl _ | assumption | refine Sto.le_trans ?_ (by assumption))) ?_
    exact ⟨congrArg Value.bool (by simp [h0]), rfl, rfl⟩
  ·
    rw [show decide (n ≥ 0) = false from decide_eq_false h0]
    refine sq rfl (q_move rfl) ?_
    refine ss rfl rfl ?_
    refine ss rfl rfl ?_
    refine ss rfl rfl ?_
    refine ss rfl rfl ?_
    refine ss rfl rfl ?_
    refine ss rfl rfl ?_
    refine ss rfl rfl ?_
    refine sq rfl (q_pick rfl rfl rfl rfl) ?_
    refine sq rfl (q_assign rfl) ?_
    refine gol_nil ?_
    refine go_ret Tryz.func41 Tryz.results41 rfl rfl rfl (by repeat (first | exact Sto.le_refl _ | assumption | refine Sto.le_trans ?_ (by assumption))) ?_
    exact ⟨congrArg Value.bool (by simp [h0]), rfl, rfl⟩
theorem c16 {σ : Sto} {L : SHeap} {g : Gen} {gv : GV} {cvs : List (SV × Int)} {px pm : Nat} (hkn : Kn σ L px (ledObj g gv cvs pm)) (hgl : (genCells g gv).length = 37) {c : Nat} (hc : c < cvs.length) (hc4 : c < 4) {st : LSt} {N : Nat} (hst : StR σ [] cvs[c].1 st) (hb : st.le N) (hN : N < 100000000) (hsh : (c : Int) ≤ g.shards) : Ctr Tryz.prog 16 #[.pointer (some ⟨px, 0, none⟩), iv (c : Nat)] σ L fun r σ' L' => ∃ sv', r = .tuple #[.agg (stCells sv').toArray, iv 0] ∧ StR σ' [] sv' st ∧ L' = L := by
  refine ctr_enter Tryz.func16 rfl Tryz.ntmps16 (by simp) ?_
  refine go_seq ?_
  refine go_region ?_
  refine snb rfl (n_alloc Tryz.zeroValue51 .agg) ?_
  intro b1
  refine sq rfl (q_assign rfl) ?_
  refine gol_nil ?_
  refine go_seq ?_
  refine go_seq ?_
  refine go_region ?_
  refine sq rfl (q_move rfl) ?_
  refine sq rfl (q_move rfl) ?_
  refine sn rfl (n_call rfl Tryz.call41 (c41 (.tl hkn) (c : Int))) ?_
  rintro _ σ _ - ⟨rfl, rfl, rfl⟩
  rw [show decide (0 ≤ (c : Int) ∧ (c : Int) ≤ g.shards) = true from decide_eq_true ⟨by omega, hsh⟩]
  refine sq rfl (q_not rfl) ?_
  refine gol_nil ?_
  refine go_condF rfl rfl ?_
  refine go_skip ?_
  refine go_seq ?_
  refine go_region ?_
  refine sq rfl (q_move rfl) ?_
  refine sq rfl (q_move rfl) ?_
  refine sq rfl (q_nil rfl) ?_
  refine sq rfl (q_fieldAddr (off := 37) (o' := 37) rfl Tryz.runUnderlying119 rfl Tryz.sizeOf117 rfl rfl) ?_
  refine sq rfl (q_indexAddrA (j := c) (o' := 37 + c * 7) rfl rfl Tryz.runUnderlying117 Tryz.sizeOf116 rfl (by omega) rfl) ?_
  refine sq rfl (q_fieldAddr (off := 0) (o' := 37 + c * 7 + 0) rfl Tryz.runUnderlying116 rfl Tryz.sizeOf51 rfl rfl) ?_
  refine sq rfl (q_loadA (vs := stCells cvs[c].1) rfl Tryz.isAgg51 Tryz.sizeOf51 (.tl hkn) (led_st hgl hc)) ?_
  refine sn rfl (n_call rfl Tryz.call42 (c42 (hst.more (Keep.nil _)) hb hN)) ?_
  rintro _ σ1 _ hle1 ⟨sv1, L1, L2, L3, L4, L5, rfl, ho, rfl⟩
  refine sst rfl (n_storeA rfl rfl (vs := stCells sv1) ho.one Tryz.sizeOf51 rfl (Upd.app _ (Upd.app _ (Upd.app _ (Upd.app _ (Upd.app _ .hd))))) (PutAt.all rfl)) ?_
  refine sq rfl (q_assign rfl) ?_
  refine gol_nil ?_
  refine go_giveSt ho (fun σ2 hle2 hr => ?_)
  refine go_retR Tryz.func16 Tryz.results16 rfl (.cellA rfl Tryz.isAgg51 Tryz.sizeOf51 .hd (Part.all rfl) (.tmp rfl .nil)) (.cons _ (List.Sublist.refl _)) (by repeat (first | exact Sto.le_refl _ | assumption | refine Sto.le_trans ?_ (by assumption))) ?_
  exact ⟨sv1, rfl, hr, rfl⟩
theorem c46_shard {σ : Sto} {L : SHeap} {g : Gen} {gv : GV} {sv : SV} {st : LSt} {N : Nat} (h : StR σ [] sv st) (hb : st.le N) (hN : N < 100000000) (hch : ¬ st.chain = 0) (ht : Int) : Ctr Tryz.prog 46 #[.agg (genCells g gv).toArray, .agg (stCells sv).toArray, iv ht] σ L fun r σ' L' => ∃ sv', r = .agg (stCells sv').toArray ∧ StR σ' [] sv' st ∧ L' = L := by
  refine ctr_enter Tryz.func46 rfl Tryz.ntmps46 (by simp) ?_
  refine go_seq ?_
  refine go_region ?_
  refine snb rfl (n_box rfl (.agg (l := genCells g _))) ?_
  intro b1
  refine snb rfl (n_box rfl (.agg (l := stCells _))) ?_
  intro b2
  refine snb rfl (n_alloc Tryz.zeroValue51 .agg) ?_
  intro b3
  refine gol_nil ?_
  refine go_seq ?_
  refine go_region ?_
  refine sq rfl (q_loadA (vs := stCells sv) rfl Tryz.isAgg51 Tryz.sizeOf51 (.tl .hd) (Part.all rfl)) ?_
  refine sn rfl (n_call rfl Tryz.call42 (c42 (h.more (Keep.nil _)) hb hN)) ?_
  rintro _ σ1 _ hle1 ⟨sv1, L1, L2, L3, L4, L5, rfl, ho, rfl⟩
  refine sst rfl (n_storeA rfl rfl (vs := stCells sv1) ho.one Tryz.sizeOf51 rfl (Upd.app _ (Upd.app _ (Upd.app _ (Upd.app _ (Upd.app _ (.tl .hd)))))) (PutAt.all rfl)) ?_
  refine gol_nil ?_
  refine go_seq ?_
  refine go_giveSt ho (fun σ2 hle2 hr => ?_)
  obtain ⟨rvs, hrr, hra⟩ := hr.recs
  obtain ⟨qr, cr, hqr⟩ := hrr.val
  have hch1 := hr.chain
  refine go_region ?_
  refine sq rfl (q_fieldAddr (off := 4) (o' := 4) rfl Tryz.runUnderlying51 rfl Tryz.sizeOf49 rfl rfl) ?_
  refine sq rfl (q_load (cs := stCells sv1) rfl Tryz.isAgg49 (.tl .hd) (.s (.s (.s (.s .z))))) ?_
  rw [hqr]
  refine sq rfl (q_len rfl Tryz.runUnderlying49) ?_
  refine sq rfl (q_assign rfl) ?_
  refine gol_nil ?_
  refine go_seq ?_
  refine go_seq ?_
  refine go_draws (n := 64) _ mix rfl (by decide +kernel) (Keep.refl _) ?_
  refine dq 0 rfl rfl rfl rfl (q_fieldAddr (off := 0) (o' := 0) rfl Tryz.runUnderlying51 rfl Tryz.sizeOf3 rfl rfl) ?_
  refine dq 1 rfl rfl rfl rfl (q_load (cs := stCells sv1) (v := iv sv1.chain) rfl Tryz.isAgg3 (.tl .hd) .z) ?_
  refine dq 2 rfl rfl rfl rfl (q_neq (a := sv1.chain) (b := 0) rfl rfl) ?_
  rw [show decide (sv1.chain = 0) = false from decide_eq_false (by rw [hch1]; exact hch)]
  refine dq 3 rfl rfl rfl rfl (q_move rfl) ?_
  refine dskip 4 rfl rfl rfl (by first | exact .inl rfl | exact .inr rfl) rfl rfl rfl ?_
  refine dskip 5 rfl rfl rfl (by first | exact .inl rfl | exact .inr rfl) rfl rfl rfl ?_
  refine dq 6 rfl rfl rfl rfl (q_pick rfl rfl rfl rfl) ?_
  refine dq 7 rfl rfl rfl rfl (q_move rfl) ?_
  refine dskip 8 rfl rfl rfl (by first | exact .inl rfl | exact .inr rfl) rfl rfl rfl ?_
  refine dskip 9 rfl rfl rfl (by first | exact .inl rfl | exact .inr rfl) rfl rfl rfl ?_
  refine dq 10 rfl rfl rfl rfl (q_pick rfl rfl rfl rfl) ?_
  refine dq 11 rfl rfl rfl rfl (q_move rfl) ?_
  refine dskip 12 rfl rfl rfl (by first | exact .inl rfl | exact .inr rfl) rfl rfl rfl ?_
  refine dskip 13 rfl rfl rfl (by first | exact .inl rfl | exact .inr rfl) rfl rfl rfl ?_
  refine dskip 14 rfl rfl rfl (by first | exact .inl rfl | exact .inr rfl) rfl rfl rfl ?_
  refine dskip 15 rfl rfl rfl (by first | exact .inl rfl | exact .inr rfl) rfl rfl rfl ?_
  refine dskip 16 rfl rfl rfl (by first | exact .inl rfl | exact .inr rfl) rfl rfl rfl ?_
  refine dq 17 rfl rfl rfl rfl (q_pick rfl rfl rfl rfl) ?_
  refine dq 18 rfl rfl rfl rfl (q_move rfl) ?_
  refine dskip 19 rfl rfl rfl (by first | exact .inl rfl | exact .inr rfl) rfl rfl rfl ?_
  refine dskip 20 rfl rfl rfl (by first | exact .inl rfl | exact .inr rfl) rfl rfl rfl ?_
  refine dskip 21 rfl rfl rfl (by first | exact .inl rfl | exact .inr rfl) rfl rfl rfl ?_
  refine dskip 22 rfl rfl rfl (by first | exact .inl rfl | exact .inr rfl) rfl rfl rfl ?_
  refine dskip 23 rfl rfl rfl (by first | exact .inl rfl | exact .inr rfl) rfl rfl rfl ?_
  refine dskip 24 rfl rfl rfl (by first | exact .inl rfl | exact .inr rfl) rfl rfl rfl ?_
  refine dskip 25 rfl rfl rfl (by first | exact .inl rfl | exact .inr rfl) rfl rfl rfl ?_
  refine dskip 26 rfl rfl rfl (by first | exact .inl rfl | exact .inr rfl) rfl rfl rfl ?_
  refine dskip 27 rfl rfl rfl (by first | exact .inl rfl | exact .inr rfl) rfl rfl rfl ?_
  refine dskip 28 rfl rfl rfl (by first | exact .inl rfl | exact .inr rfl) rfl rfl rfl ?_
  refine dskip 29 rfl rfl rfl (by first | exact .inl rfl | exact .inr rfl) rfl rfl rfl ?_
  refine dskip 30 rfl rfl rfl (by first | exact .inl rfl | exact .inr rfl) rfl rfl rfl ?_
  refine dq 31 rfl rfl rfl rfl (q_pick rfl rfl rfl rfl) ?_
  refine dend rfl ?_
  refine go_condT rfl rfl ?_
  refine go_seq ?_
  refine go_region ?_
  refine sq rfl (q_loadA (vs := stCells sv1) rfl Tryz.isAgg51 Tryz.sizeOf51 (.tl .hd) (Part.all rfl)) ?_
  refine sst rfl (n_storeA rfl rfl (vs := stCells sv1) hr.one Tryz.sizeOf51 rfl .hd (PutAt.all rfl)) ?_
  refine gol_nil ?_
  refine go_retR Tryz.func46 Tryz.results46 rfl (.cellA rfl Tryz.isAgg51 Tryz.sizeOf51 .hd (Part.all rfl) .nil) (.cons _ (.cons _ (.cons _ (List.Sublist.refl _)))) (by repeat (first | exact Sto.le_refl _ | assumption | refine Sto.le_trans ?_ (by assumption))) ?_
  exact ⟨sv1, rfl, hr, rfl⟩
end Go.Eng
namespace Go.Eng
open Go Go.Proofs Go.Instr
set_option maxRecDepth 20000
def DoPost (e : Int) (st' : LSt) (L : SHeap) (v : Value) (σ' : Sto) (L' : SHeap) : Prop :=
  L' = L ∧ ((e ≠ 0 ∧ v = .tuple #[.agg (stCells zSV).toArray, iv e]) ∨ (e = 0 ∧ ∃ sv', v = .tuple #[.agg (stCells sv').toArray, iv 0] ∧ StR σ' [] sv' st'))
def RawPost (e : Int) (st' : LSt) (Y : SHeap) (v : Value) (σ' : Sto) (L' : SHeap) : Prop :=
  (e ≠ 0 ∧ v = .tuple #[.agg (stCells zSV).toArray, iv e] ∧ Y.Sublist L') ∨
  (e = 0 ∧ ∃ sv' M1 M2 M3 M4 M5 Z, v = .tuple #[.agg (stCells sv').toArray, iv 0] ∧ StO σ' sv' st' M1 M2 M3 M4 M5 ∧ L' = M1 ++ (M2 ++ (M3 ++ (M4 ++ (M5 ++ Z)))) ∧ Y.Sublist Z)
theorem permIn5 (p : Nat × Obj) (A B C D X T : SHeap) : (p :: (A ++ (B ++ (C ++ (D ++ (X ++ T)))))).Perm (A ++ (B ++ (C ++ (D ++ (X ++ p :: T))))) := by
  refine List.perm_middle.symm.trans (List.Perm.append_left A ?_)
  refine List.perm_middle.symm.trans (List.Perm.append_left B ?_)
  refine List.perm_middle.symm.trans (List.Perm.append_left C ?_)
  refine List.perm_middle.symm.trans (List.Perm.append_left D ?_)
  exact List.perm_middle.symm
theorem Keep.u5 (A B C D X L : SHeap) : Keep L (A ++ (B ++ (C ++ (D ++ (X ++ L))))) := fun _ _ h => List.mem_append_right _ (List.mem_append_right _ (List.mem_append_right _ (List.mem_append_right _ (List.mem_append_right _ h))))
def fnV (g : Nat) (dv : Value) : Value := .func (.func g) #[dv] #[]
def kindsE (dv : Value) : Ents Int := [(2, fnV 143 dv, 0), (3, fnV 144 dv, 1), (4, fnV 145 dv, 2), (5, fnV 146 dv, 3), (6, fnV 147 dv, 4)]
theorem keyI3 : KeyOk Tryz.prog 3 iv (fun _ => True) := keyI (by kernel_rfl)
section
variable {κ : Type} [DecidableEq κ] {P : Program} {E : Env} {σ : Sto} {K L L' : SHeap} {d : Option Tmp} {ty : TypeId} {pos : String} {af : Array Edge} {g : Option (Nat × Bool)}
theorem n_mapIns {T kt et b ck : Nat} {enc : κ → Value} {good : κ → Prop} {x y z : Operand} {es : Ents κ} {k : κ} {v : Value} (hok : KeyOk P kt enc good) (hx : E.op x = some (.map (some b))) (hy : E.op y = some (enc k)) (hv : E.op z = some v) (hU : ∀ w, (underlying T).run P w = .ok (.map kt et) w)
    (hk : good k) (hg : ∀ e ∈ es, good e.1) (hu : Upd L b (mobj enc es ck) (mobj enc (mset es k v ck) (mclock es k ck)) L') :
    Noisy P E.ev ⟨d, .insert T x y z, ty, pos, af, g⟩ σ L fun _ σ' L2 => σ' = σ ∧ L2 = L' := fun w hst => n_mapSet (d := d) (ty := ty) (pos := pos) (af := af) (g := g) hok hx hy hv hU hk hg hu w hst
theorem q_makeFunc {f : Nat} {xs : List Operand} {vs : List Value} (hx : E.ops xs = some vs) : Quiet P E.ev ⟨d, .makeFunc (.func f) xs.toArray #[], ty, pos, af, g⟩ K σ (.func (.func f) vs.toArray #[]) := by
  intro σ' w L' _ _ _
  have := Env.ops_ev hx
  simp [execOp, this, Instr.makeFunc]
end
end Go.Eng
namespace Go.Eng
open Go Go.Proofs
set_option maxRecDepth 20000
theorem c115 {σ : Sto} {L : SHeap} {sv : SV} {ht : Int} {x : Tx} {fv : Value} {r : Bool} (hx : x.id.length = 32) : Ctr Tryz.prog 115 #[.agg (doCells sv ht x fv r).toArray] σ L fun v σ' L' => ∃ bm, v = .map (some bm) ∧ σ' = σ ∧ L' = (bm, mobj iv (kindsE (.agg (doCells sv ht x fv r).toArray)) 5) :: L := by
  have hlen : (doCells sv ht x fv r).length = 49 := by simp [doCells, stCells, tx_len hx]
  refine ctr_enter Tryz.func115 rfl Tryz.ntmps115 (by simp) ?_
  refine go_seq ?_
  refine go_region ?_
  refine snb rfl (n_box rfl (.agg (l := doCells sv ht x fv r))) ?_
  intro b1
  refine sq rfl (q_assign rfl) ?_
  refine gol_nil ?_
  refine go_seq ?_
  refine go_region ?_
  refine sn rfl (n_makeMap (κ := Int) iv) ?_
  rintro _ σ _ - ⟨bm, rfl, rfl, rfl⟩
  refine sq rfl (q_loadA (vs := doCells sv ht x fv r) rfl Tryz.isAgg219 Tryz.sizeOf219 (.tl .hd) (Part.all hlen)) ?_
  refine sq rfl (q_makeFunc rfl) ?_
  refine sn0 rfl (n_mapIns (κ := Int) (es := []) (ck := 0) (k := 2) (v := fnV 143 (.agg (doCells sv ht x fv r).toArray)) keyI3 rfl rfl rfl Tryz.runUnderlying217 trivial (fun _ _ => trivial) .hd) ?_
  rintro _ σ _ - ⟨rfl, rfl⟩
  refine sq rfl (q_loadA (vs := doCells sv ht x fv r) rfl Tryz.isAgg219 Tryz.sizeOf219 (.tl .hd) (Part.all hlen)) ?_
  refine sq rfl (q_makeFunc rfl) ?_
  refine sn0 rfl (n_mapIns (κ := Int) (es := [(2, fnV 143 (.agg (doCells sv ht x fv r).toArray), 0)]) (ck := 1) (k := 3) (v := fnV 144 (.agg (doCells sv ht x fv r).toArray)) keyI3 rfl rfl rfl Tryz.runUnderlying217 trivial (fun _ _ => trivial) .hd) ?_
  rintro _ σ _ - ⟨rfl, rfl⟩
  refine sq rfl (q_loadA (vs := doCells sv ht x fv r) rfl Tryz.isAgg219 Tryz.sizeOf219 (.tl .hd) (Part.all hlen)) ?_
  refine sq rfl (q_makeFunc rfl) ?_
  refine sn0 rfl (n_mapIns (κ := Int) (es := [(2, fnV 143 (.agg (doCells sv ht x fv r).toArray), 0), (3, fnV 144 (.agg (doCells sv ht x fv r).toArray), 1)]) (ck := 2) (k := 4) (v := fnV 145 (.agg (doCells sv ht x fv r).toArray)) keyI3 rfl rfl rfl Tryz.runUnderlying217 trivial (fun _ _ => trivial) .hd) ?_
  rintro _ σ _ - ⟨rfl, rfl⟩
  refine sq rfl (q_loadA (vs := doCells sv ht x fv r) rfl Tryz.isAgg219 Tryz.sizeOf219 (.tl .hd) (Part.all hlen)) ?_
  refine sq rfl (q_makeFunc rfl) ?_
  refine sn0 rfl (n_mapIns (κ := Int) (es := [(2, fnV 143 (.agg (doCells sv ht x fv r).toArray), 0), (3, fnV 144 (.agg (doCells sv ht x fv r).toArray), 1), (4, fnV 145 (.agg (doCells sv ht x fv r).toArray), 2)]) (ck := 3) (k := 5) (v := fnV 146 (.agg (doCells sv ht x fv r).toArray)) keyI3 rfl rfl rfl Tryz.runUnderlying217 trivial (fun _ _ => trivial) .hd) ?_
  rintro _ σ _ - ⟨rfl, rfl⟩
  refine sq rfl (q_loadA (vs := doCells sv ht x fv r) rfl Tryz.isAgg219 Tryz.sizeOf219 (.tl .hd) (Part.all hlen)) ?_
  refine sq rfl (q_makeFunc rfl) ?_
  refine sn0 rfl (n_mapIns (κ := Int) (es := [(2, fnV 143 (.agg (doCells sv ht x fv r).toArray), 0), (3, fnV 144 (.agg (doCells sv ht x fv r).toArray), 1), (4, fnV 145 (.agg (doCells sv ht x fv r).toArray), 2), (5, fnV 146 (.agg (doCells sv ht x fv r).toArray), 3)]) (ck := 4) (k := 6) (v := fnV 147 (.agg (doCells sv ht x fv r).toArray)) keyI3 rfl rfl rfl Tryz.runUnderlying217 trivial (fun _ _ => trivial) .hd) ?_
  rintro _ σ _ - ⟨rfl, rfl⟩
  refine sq rfl (q_move rfl) ?_
  refine sq rfl (q_assign rfl) ?_
  refine gol_nil ?_
  refine go_drop _ (List.Sublist.cons_cons _ (List.sublist_cons_self _ _)) ?_
  refine go_ret Tryz.func115 Tryz.results115 rfl rfl rfl (by repeat (first | exact Sto.le_refl _ | assumption | refine Sto.le_trans ?_ (by assumption))) ?_
  exact ⟨bm, rfl, rfl, rfl⟩
theorem zero219 (w : World) : (zeroValue 219).run Tryz.prog w = .ok (.agg (doCells zSV 0 ⟨0, 0, 0, 0, 0, 0, 0, z32, 0⟩ nilS false).toArray) w := by rw [Tryz.zeroValue219]; rfl
theorem c78 {σ : Sto} {L : SHeap} {sv : SV} {st st' : LSt} {N gid : Nat} {e ht : Int} {x : Tx} {fv : Value} {r : Bool} (h : StR σ L sv st) (hb : st.le N) (hN : N < 100000000) (hx : x.id.length = 32)
    (hget : ∀ dv, mget (kindsE dv) x.kind = some (fnV gid dv)) (hform : ∀ σ L, Ctr Tryz.prog 109 #[.agg (txCells x fv).toArray] σ L fun v σ' L' => v = iv 0 ∧ L' = L) (hcall : ∀ vs w, (callFunc gid vs).run Tryz.prog w = .ok (.enter gid vs) w)
    (hdo : ∀ σ' sv' L1 L2 L3 L4 L5 Y, Sto.le σ σ' → StO σ' sv' st L1 L2 L3 L4 L5 → Ctr Tryz.prog gid #[.agg (doCells sv' ht x fv r).toArray] σ' (L1 ++ (L2 ++ (L3 ++ (L4 ++ (L5 ++ Y))))) (RawPost e st' Y)) : Ctr Tryz.prog 78 #[.agg (stCells sv).toArray, iv ht, .agg (txCells x fv).toArray, .bool r] σ L (DoPost e st' L) := by
  refine ctr_enter Tryz.func78 rfl Tryz.ntmps78 (by simp) ?_
  refine go_seq ?_
  refine go_region ?_
  refine snb rfl (n_box rfl (.agg (l := stCells _))) ?_
  intro b1
  refine snb rfl (n_box rfl (.agg (l := txCells x fv))) ?_
  intro b2
  refine snb rfl (n_alloc Tryz.zeroValue51 .agg) ?_
  intro b3
  refine sq rfl (q_assign rfl) ?_
  refine gol_nil ?_
  refine go_seq ?_
  refine go_draws (n := 47) [(b2, .cells (txCells x fv).toArray 42 (0, 0)), (b1, .cells (stCells sv).toArray 51 (0, 0))] mix rfl (by decide +kernel) (keep2 (List.mem_cons_of_mem _ List.mem_cons_self) (List.mem_cons_of_mem _ (List.mem_cons_of_mem _ List.mem_cons_self))) ?_
  refine dq 0 rfl rfl rfl rfl (q_loadA (vs := stCells sv) rfl Tryz.isAgg51 Tryz.sizeOf51 (.tl .hd) (Part.all rfl)) ?_
  refine dq 2 rfl rfl rfl rfl (q_move rfl) ?_
  refine dq 3 rfl rfl rfl rfl (q_loadA (vs := txCells x fv) rfl Tryz.isAgg42 Tryz.sizeOf42 .hd (Part.all (tx_len hx))) ?_
  refine dq 4 rfl rfl rfl rfl (q_move rfl) ?_
  refine dq 7 rfl rfl rfl rfl (q_fieldAddr (off := 0) (o' := 0) rfl Tryz.runUnderlying42 rfl Tryz.sizeOf3 rfl rfl) ?_
  refine dq 8 rfl rfl rfl rfl (q_load (cs := txCells x fv) (v := iv x.kind) rfl Tryz.isAgg3 .hd .z) ?_
  refine dn 1 rfl rfl rfl rfl (by decide +kernel) (n_call rfl Tryz.call42 (c42 (h.more ((Keep.c2 _ _ _).trans (Keep.cons _ _))) hb hN)) (by rintro _ _ _ _ ⟨_, L1, L2, L3, L4, L5, rfl, _, rfl⟩; exact Keep.trans (keep2 (List.mem_cons_of_mem _ List.mem_cons_self) (List.mem_cons_of_mem _ (List.mem_cons_of_mem _ List.mem_cons_self))) (Keep.u5 _ _ _ _ _ _)) ?_
  rintro _ σ1 _ hle1 ⟨sv1, L1, L2, L3, L4, L5, rfl, ho, rfl⟩
  refine dq 5 rfl rfl rfl rfl (q_buildS (ns := [6, 1, 41, 1]) (l' := doCells sv1 ht x fv r) (.put (z := stCells zSV) rfl .agg rfl rfl (.put (z := [_]) rfl (.one rfl) rfl rfl (.put (z := txCells ⟨0, 0, 0, 0, 0, 0, 0, z32, 0⟩ nilS) rfl .agg (tx_len hx) rfl (.put (z := [_]) rfl (.one rfl) rfl rfl .nil)))) zero219 Tryz.runUnderlying219 (places219 Tryz.runUnderlying219) rfl) ?_
  refine dn 6 rfl rfl rfl rfl (by decide +kernel) (n_call rfl Tryz.call115 (c115 hx)) (by rintro _ _ _ _ ⟨_, rfl, rfl, rfl⟩; exact Keep.trans (Keep.trans (keep2 (List.mem_cons_of_mem _ List.mem_cons_self) (List.mem_cons_of_mem _ (List.mem_cons_of_mem _ List.mem_cons_self))) (Keep.u5 _ _ _ _ _ _)) (Keep.cons _ _)) ?_
  rintro _ σ1 _ - ⟨bm, rfl, rfl, rfl⟩
  refine goc_keep [(bm, mobj iv (kindsE (.agg (doCells sv1 ht x fv r).toArray)) 5), (b2, .cells (txCells x fv).toArray 42 (0, 0)), (b1, .cells (stCells sv).toArray 51 (0, 0))] (Keep.cons _ _) (keep3 List.mem_cons_self (List.mem_cons_of_mem _ (Keep.u5 _ _ _ _ _ _ _ _ (List.mem_cons_of_mem _ List.mem_cons_self))) (List.mem_cons_of_mem _ (Keep.u5 _ _ _ _ _ _ _ _ (List.mem_cons_of_mem _ (List.mem_cons_of_mem _ List.mem_cons_self))))) ?_
  refine dq 9 rfl rfl rfl rfl (q_lookupOk (κ := Int) (es := kindsE (.agg (doCells sv1 ht x fv r).toArray)) (k := x.kind) (r := fnV gid (.agg (doCells sv1 ht x fv r).toArray)) (t := true) keyI3 rfl rfl Tryz.runUnderlying217 trivial (fun _ _ => trivial) Tryz.zeroValue215 .hd (by rw [hget]; rfl) (by rw [hget]; rfl)) ?_
  refine dq 10 rfl rfl rfl rfl (q_move rfl) ?_
  refine dq 11 rfl rfl rfl rfl (q_extract rfl .z) ?_
  refine dq 12 rfl rfl rfl rfl (q_extract rfl (.s .z)) ?_
  refine dq 13 rfl rfl rfl rfl (q_assign rfl) ?_
  refine dq 14 rfl rfl rfl rfl (q_assign rfl) ?_
  refine dend rfl ?_
  refine go_seq ?_
  refine go_seq ?_
  refine go_perm _ (permIn5 _ _ _ _ _ _ _) ?_
  refine go_region ?_
  refine sq rfl (q_move rfl) ?_
  refine sq rfl (q_not rfl) ?_
  refine gol_nil ?_
  refine go_condF rfl rfl ?_
  refine go_skip ?_
  refine go_seq ?_
  refine go_seq ?_
  refine go_region ?_
  refine sq rfl (q_loadA (vs := txCells x fv) rfl Tryz.isAgg42 Tryz.sizeOf42 (.app _ (.app _ (.app _ (.app _ (.app _ (.tl (.tl .hd))))))) (Part.all (tx_len hx))) ?_
  refine sn rfl (n_call rfl Tryz.call109 (hform _ _)) ?_
  rintro _ σ2 _ hle2 ⟨rfl, rfl⟩
  refine sq rfl (q_assign rfl) ?_
  refine gol_nil ?_
  refine go_seq ?_
  refine go_region ?_
  refine sq rfl (q_move rfl) ?_
  refine sq rfl (q_neq (a := 0) (b := 0) rfl rfl) ?_
  rw [show decide ((0 : Int) = 0) = true from decide_eq_true (rfl)]
  refine gol_nil ?_
  refine go_condF rfl rfl ?_
  refine go_skip ?_
  refine go_seq ?_
  refine go_region ?_
  refine sq rfl (q_move rfl) ?_
  refine sn rfl (n_callV (fst := [(.agg (doCells sv1 ht x fv r).toArray)]) (cap := []) rfl rfl rfl hcall (hdo σ2 sv1 L1 L2 L3 L4 L5 _ (Sto.le_trans hle1 hle2) (ho.up hle2))) ?_
  rintro v9 σ3 L9 hle3 (⟨hne, rfl, hsub⟩ | ⟨hez, sv2, M1, M2, M3, M4, M5, Z, rfl, ho2, rfl, hsub⟩)
  ·
    refine gol_drop _ hsub ?_
    refine sq rfl (q_move rfl) ?_
    refine sq rfl (q_extract rfl .z) ?_
    refine sq rfl (q_extract rfl (.s .z)) ?_
    refine snb rfl (n_alloc Tryz.zeroValue51 .agg) ?_
    intro b4
    refine sst rfl (n_storeA rfl rfl (vs := stCells zSV) rfl Tryz.sizeOf51 rfl .hd (PutAt.all rfl)) ?_
    refine sq rfl (q_assign rfl) ?_
    refine gol_nil ?_
    refine go_seq ?_
    refine go_seq ?_
    refine go_region ?_
    refine sq rfl (q_move rfl) ?_
    refine sq rfl (q_neq (a := e) (b := 0) rfl rfl) ?_
    rw [show decide (e = 0) = false from decide_eq_false (hne)]
    refine gol_nil ?_
    refine go_condT rfl rfl ?_
    refine go_seq ?_
    refine go_region ?_
    refine sq rfl (q_buildS (ns := [1, 1, 1, 1, 1, 1]) (.zero (z := [_]) rfl (.zero (z := [_]) rfl (.zero (z := [_]) rfl (.zero (z := [_]) rfl (.zero (z := [_]) rfl (.zero (z := [_]) rfl .nil)))))) Tryz.zeroValue51 Tryz.runUnderlying51 (places51 Tryz.runUnderlying51) rfl) ?_
    refine sq rfl (q_move rfl) ?_
    refine sst rfl (n_storeA rfl rfl (vs := stCells zSV) rfl Tryz.sizeOf51 rfl (.tl (.tl .hd)) (PutAt.all rfl)) ?_
    refine sq rfl (q_assign rfl) ?_
    refine gol_nil ?_
    refine go_retR Tryz.func78 Tryz.results78 rfl (.cellA rfl Tryz.isAgg51 Tryz.sizeOf51 (.tl (.tl .hd)) (Part.all rfl) (.tmp rfl .nil)) (.cons _ (.cons _ (.cons _ (.cons _ (.cons _ (List.Sublist.refl _)))))) (by repeat (first | exact Sto.le_refl _ | assumption | refine Sto.le_trans ?_ (by assumption))) ?_
    exact ⟨rfl, .inl ⟨hne, rfl⟩⟩
  ·
    refine sq rfl (q_move rfl) ?_
    refine sq rfl (q_extract rfl .z) ?_
    refine sq rfl (q_extract rfl (.s .z)) ?_
    refine snb rfl (n_alloc Tryz.zeroValue51 .agg) ?_
    intro b4
    refine sst rfl (n_storeA rfl rfl (vs := stCells sv2) ho2.one Tryz.sizeOf51 rfl .hd (PutAt.all rfl)) ?_
    refine sq rfl (q_assign rfl) ?_
    refine gol_nil ?_
    refine go_seq ?_
    refine go_seq ?_
    refine go_perm _ (permIn5 _ _ _ _ _ _ _) ?_
    refine go_giveSt ho2 (fun σ4 hle4 hr => ?_)
    refine go_drop _ (hsub.cons_cons _) ?_
    refine go_region ?_
    refine sq rfl (q_move rfl) ?_
    refine sq rfl (q_neq (a := 0) (b := 0) rfl rfl) ?_
    rw [show decide ((0 : Int) = 0) = true from decide_eq_true (rfl)]
    refine gol_nil ?_
    refine go_condF rfl rfl ?_
    refine go_skip ?_
    refine go_seq ?_
    refine go_region ?_
    refine sq rfl (q_loadA (vs := stCells sv2) rfl Tryz.isAgg51 Tryz.sizeOf51 .hd (Part.all rfl)) ?_
    refine sst rfl (n_storeA rfl rfl (vs := stCells sv2) hr.one Tryz.sizeOf51 rfl (.tl (.tl .hd)) (PutAt.all rfl)) ?_
    refine sq rfl (q_assign rfl) ?_
    refine gol_nil ?_
    refine go_retR Tryz.func78 Tryz.results78 rfl (.cellA rfl Tryz.isAgg51 Tryz.sizeOf51 (.tl (.tl .hd)) (Part.all rfl) (.tmp rfl .nil)) (.cons _ (.cons _ (.cons _ (.cons _ (.cons _ (List.Sublist.refl _)))))) (by repeat (first | exact Sto.le_refl _ | assumption | refine Sto.le_trans ?_ (by assumption))) ?_
    exact ⟨rfl, .inr ⟨hez, sv2, rfl, hr⟩⟩
end Go.Eng
namespace Go.Eng
open Go Go.Proofs
set_option maxRecDepth 20000
theorem subU5 (A B C D X L : SHeap) : L.Sublist (A ++ (B ++ (C ++ (D ++ (X ++ L))))) :=
  ((((List.sublist_append_right X L).trans (List.sublist_append_right D _)).trans (List.sublist_append_right C _)).trans (List.sublist_append_right B _)).trans (List.sublist_append_right A _)
theorem lock_raw {σ : Sto} {st : LSt} {N : Nat} {p : Option Addr} {c : Nat} {T : TypeId} {fr : Nat × Nat} (hK : σ 1 = some (.cells (ucells K256).toArray T fr)) (hb : st.le N) (hN : N < 80000000) (h1 : ¬ st.chain < 1) (a b m o : UInt64) (d l ht : Int) (r : Bool)
    (σ' : Sto) (sv' : SV) (L1 L2 L3 L4 L5 Y : SHeap) (hle : Sto.le σ σ') (ho : StO σ' sv' st L1 L2 L3 L4 L5) : Ctr Tryz.prog 143 #[.agg (doCells sv' ht (lockTx a b m o d l) (.slice p 0 c) r).toArray] σ' (L1 ++ (L2 ++ (L3 ++ (L4 ++ (L5 ++ Y))))) (RawPost (lockErr st a m o d l) (lockSt st a b m o d l) Y) := by
  refine (c143 (hle.get hK) (ho.st Y) hb hN h1 a b m o d l ht r).mono fun v σ2 L' _ h => ?_
  rcases h with ⟨hne, rfl, rfl⟩ | ⟨hez, sv2, M1, M2, M3, M4, M5, rfl, ho2, rfl⟩
  · exact .inl ⟨hne, rfl, subU5 _ _ _ _ _ _⟩
  · exact .inr ⟨hez, sv2, M1, M2, M3, M4, M5, _, rfl, ho2, rfl, subU5 _ _ _ _ _ _⟩
theorem c44_pay {σ : Sto} {L : SHeap} {gc : List Value} {sv : SV} {st : LSt} {N : Nat} {ht : Int} {r : Bool} (h : StR σ L sv st) (hb : st.le N) (hN : N < 80000000) {p : Option Addr} {c : Nat} (a b m o : UInt64) : Ctr Tryz.prog 44 #[.agg gc.toArray, .agg (stCells sv).toArray, iv ht, .agg (txCells (payTx a b m o) (.slice p 0 c)).toArray, .bool r] σ L (DoPost (takeErr (acct st.accs a) m o) (paySt st a b m) L) := by
  generalize hfv : Value.slice p 0 c = fv
  subst hfv
  refine ctr_enter Tryz.func44 rfl Tryz.ntmps44 (by simp) ?_
  refine go_seq ?_
  refine go_region ?_
  refine snb rfl (n_box rfl (.agg (l := gc))) ?_
  intro b1
  refine snb rfl (n_box rfl (.agg (l := stCells _))) ?_
  intro b2
  refine snb rfl (n_box rfl (.agg (l := txCells (payTx a b m o) (.slice p 0 c)))) ?_
  intro b3
  refine snb rfl (n_alloc Tryz.zeroValue51 .agg) ?_
  intro b4
  refine sq rfl (q_assign rfl) ?_
  refine gol_nil ?_
  refine go_seq ?_
  refine go_seq ?_
  refine go_region ?_
  refine sq rfl (q_fieldAddr (off := 0) (o' := 0) rfl Tryz.runUnderlying42 rfl Tryz.sizeOf3 rfl rfl) ?_
  refine sq rfl (q_load (cs := txCells (payTx a b m o) (.slice p 0 c)) (v := iv (payTx a b m o).kind) rfl Tryz.isAgg3 (.tl .hd) .z) ?_
  refine gol_nil ?_
  refine go_block ?_
  refine go_seq ?_
  refine go_region ?_
  refine sq rfl (q_eql (a := 1) (b := 1) rfl rfl) ?_
  rw [show decide ((1 : Int) = 1) = true from decide_eq_true (rfl)]
  refine sq rfl (q_assign rfl) ?_
  refine gol_nil ?_
  refine go_condT rfl rfl ?_
  refine go_seq ?_
  refine go_region ?_
  refine sq rfl (q_loadA (vs := stCells sv) rfl Tryz.isAgg51 Tryz.sizeOf51 (.tl (.tl .hd)) (Part.all rfl)) ?_
  refine sq rfl (q_loadA (vs := txCells (payTx a b m o) (.slice p 0 c)) rfl Tryz.isAgg42 Tryz.sizeOf42 (.tl .hd) (Part.all (tx_len rfl))) ?_
  refine sn rfl (n_call rfl Tryz.call76 (c76 (h.more ((Keep.c2 _ _ _).trans (Keep.c2 _ _ _))) hb hN a b m o)) ?_
  rintro v9 σ1 _ hle1 (⟨hne, rfl, rfl⟩ | ⟨hez, sv2, M1, M2, M3, M4, M5, rfl, ho2, rfl⟩)
  ·
    refine sq rfl (q_extract rfl .z) ?_
    refine sq rfl (q_extract rfl (.s .z)) ?_
    refine sst rfl (n_storeA rfl rfl (vs := stCells zSV) rfl Tryz.sizeOf51 rfl .hd (PutAt.all rfl)) ?_
    refine sq rfl (q_assign rfl) ?_
    refine gol_nil ?_
    refine go_retR Tryz.func44 Tryz.results44 rfl (.cellA rfl Tryz.isAgg51 Tryz.sizeOf51 .hd (Part.all rfl) (.tmp rfl .nil)) (.cons _ (.cons _ (.cons _ (.cons _ (List.Sublist.refl _))))) (by repeat (first | exact Sto.le_refl _ | assumption | refine Sto.le_trans ?_ (by assumption))) ?_
    exact ⟨rfl, .inl ⟨hne, rfl⟩⟩
  ·
    refine sq rfl (q_extract rfl .z) ?_
    refine sq rfl (q_extract rfl (.s .z)) ?_
    refine sst rfl (n_storeA rfl rfl (vs := stCells sv2) ho2.one Tryz.sizeOf51 rfl (.app _ (.app _ (.app _ (.app _ (.app _ .hd))))) (PutAt.all rfl)) ?_
    refine sq rfl (q_assign rfl) ?_
    refine gol_nil ?_
    refine go_giveSt ho2 (fun σ4 hle4 hr => ?_)
    refine go_retR Tryz.func44 Tryz.results44 rfl (.cellA rfl Tryz.isAgg51 Tryz.sizeOf51 .hd (Part.all rfl) (.tmp rfl .nil)) (.cons _ (.cons _ (.cons _ (.cons _ (List.Sublist.refl _))))) (by repeat (first | exact Sto.le_refl _ | assumption | refine Sto.le_trans ?_ (by assumption))) ?_
    exact ⟨rfl, .inr ⟨hez, sv2, rfl, hr⟩⟩
theorem c44_br {σ : Sto} {L : SHeap} {gc : List Value} {sv : SV} {st' : LSt} {ht e : Int} {r : Bool} {x : Tx} {fv : Value} (hx : x.id.length = 32) (hk1 : ¬ x.kind = 1) (hk7 : ¬ x.kind = 7) (hk8 : ¬ x.kind = 8) (hdo : ∀ L, Ctr Tryz.prog 78 #[.agg (stCells sv).toArray, iv ht, .agg (txCells x fv).toArray, .bool r] σ L (DoPost e st' L)) : Ctr Tryz.prog 44 #[.agg gc.toArray, .agg (stCells sv).toArray, iv ht, .agg (txCells x fv).toArray, .bool r] σ L (DoPost e st' L) := by
  refine ctr_enter Tryz.func44 rfl Tryz.ntmps44 (by simp) ?_
  refine go_seq ?_
  refine go_region ?_
  refine snb rfl (n_box rfl (.agg (l := gc))) ?_
  intro b1
  refine snb rfl (n_box rfl (.agg (l := stCells _))) ?_
  intro b2
  refine snb rfl (n_box rfl (.agg (l := txCells (x) fv))) ?_
  intro b3
  refine snb rfl (n_alloc Tryz.zeroValue51 .agg) ?_
  intro b4
  refine sq rfl (q_assign rfl) ?_
  refine gol_nil ?_
  refine go_seq ?_
  refine go_seq ?_
  refine go_region ?_
  refine sq rfl (q_fieldAddr (off := 0) (o' := 0) rfl Tryz.runUnderlying42 rfl Tryz.sizeOf3 rfl rfl) ?_
  refine sq rfl (q_load (cs := txCells (x) fv) (v := iv (x).kind) rfl Tryz.isAgg3 (.tl .hd) .z) ?_
  refine gol_nil ?_
  refine go_block ?_
  refine go_seq ?_
  refine go_region ?_
  refine sq rfl (q_eql (a := x.kind) (b := 1) rfl rfl) ?_
  rw [show decide (x.kind = 1) = false from decide_eq_false (hk1)]
  refine sq rfl (q_assign rfl) ?_
  refine gol_nil ?_
  refine go_condF rfl rfl ?_
  refine go_seq ?_
  refine go_seq ?_
  refine go_region ?_
  refine sq rfl (q_eql (a := x.kind) (b := 7) rfl rfl) ?_
  rw [show decide (x.kind = 7) = false from decide_eq_false (hk7)]
  refine sq rfl (q_assign rfl) ?_
  refine gol_nil ?_
  refine go_condF rfl rfl ?_
  refine go_region ?_
  refine sq rfl (q_eql (a := x.kind) (b := 8) rfl rfl) ?_
  rw [show decide (x.kind = 8) = false from decide_eq_false (hk8)]
  refine sq rfl (q_assign rfl) ?_
  refine gol_nil ?_
  refine go_condF rfl rfl ?_
  refine go_skip ?_
  refine go_inBlock ?_
  refine go_seq ?_
  refine go_region ?_
  refine sq rfl (q_loadA (vs := stCells sv) rfl Tryz.isAgg51 Tryz.sizeOf51 (.tl (.tl .hd)) (Part.all rfl)) ?_
  refine sq rfl (q_move rfl) ?_
  refine sq rfl (q_loadA (vs := txCells (x) fv) rfl Tryz.isAgg42 Tryz.sizeOf42 (.tl .hd) (Part.all (tx_len hx))) ?_
  refine sq rfl (q_move rfl) ?_
  refine sn rfl (n_call rfl Tryz.call78 (hdo _)) ?_
  rintro v9 σ1 _ hle1 ⟨rfl, h9⟩
  rcases h9 with ⟨hne, rfl⟩ | ⟨hez, sv2, rfl, hr⟩
  ·
    refine sq rfl (q_extract rfl .z) ?_
    refine sq rfl (q_extract rfl (.s .z)) ?_
    refine sst rfl (n_storeA rfl rfl (vs := stCells zSV) rfl Tryz.sizeOf51 rfl .hd (PutAt.all rfl)) ?_
    refine sq rfl (q_assign rfl) ?_
    refine gol_nil ?_
    refine go_retR Tryz.func44 Tryz.results44 rfl (.cellA rfl Tryz.isAgg51 Tryz.sizeOf51 .hd (Part.all rfl) (.tmp rfl .nil)) (.cons _ (.cons _ (.cons _ (.cons _ (List.Sublist.refl _))))) (by repeat (first | exact Sto.le_refl _ | assumption | refine Sto.le_trans ?_ (by assumption))) ?_
    exact ⟨rfl, .inl ⟨hne, rfl⟩⟩
  ·
    refine sq rfl (q_extract rfl .z) ?_
    refine sq rfl (q_extract rfl (.s .z)) ?_
    refine sst rfl (n_storeA rfl rfl (vs := stCells sv2) hr.one Tryz.sizeOf51 rfl .hd (PutAt.all rfl)) ?_
    refine sq rfl (q_assign rfl) ?_
    refine gol_nil ?_
    refine go_retR Tryz.func44 Tryz.results44 rfl (.cellA rfl Tryz.isAgg51 Tryz.sizeOf51 .hd (Part.all rfl) (.tmp rfl .nil)) (.cons _ (.cons _ (.cons _ (.cons _ (List.Sublist.refl _))))) (by repeat (first | exact Sto.le_refl _ | assumption | refine Sto.le_trans ?_ (by assumption))) ?_
    exact ⟨rfl, .inr ⟨hez, sv2, rfl, hr⟩⟩
theorem c44_lock {σ : Sto} {L : SHeap} {gc : List Value} {sv : SV} {st : LSt} {N : Nat} {ht : Int} {r : Bool} (h : StR σ [] sv st) (hb : st.le N) (hN : N < 80000000) {p : Option Addr} {c : Nat} {T : TypeId} {fr : Nat × Nat} (hK : σ 1 = some (.cells (ucells K256).toArray T fr)) (h1 : ¬ st.chain < 1) (a b m o : UInt64) (d l : Int) :
    Ctr Tryz.prog 44 #[.agg gc.toArray, .agg (stCells sv).toArray, iv ht, .agg (txCells (lockTx a b m o d l) (.slice p 0 c)).toArray, .bool r] σ L (DoPost (lockErr st a m o d l) (lockSt st a b m o d l) L) :=
  c44_br (x := lockTx a b m o d l) rfl (show ¬ (2 : Int) = 1 by decide) (show ¬ (2 : Int) = 7 by decide) (show ¬ (2 : Int) = 8 by decide) fun L => c78 (gid := 143) (h.more (Keep.nil _)) hb (by omega) rfl (fun _ => rfl) (fun _ _ => c109_2 a b m o d l) Tryz.call143 (lock_raw hK hb hN h1 a b m o d l ht r)
end Go.Eng
