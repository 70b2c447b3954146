/- A part of the proof of this: Payments and locks of a shard come out as they stand on paper (TopPaid): for every input, with the listed package variables as the program's text lays them, TopPaid answers true and its argument reads as it did. -/
import Derived.Test.YtddoimkbjgfjnaaGreatDoorPaid20
import Derived.Test.YtddoimkbjgfjnaaGreatDoorPaid22
namespace Go.Eng
open Go Go.Proofs Go.Instr
set_option maxRecDepth 20000
def plCells (t : Pl) : List Value := txCells t.tx nilS
theorem pl_id (t : Pl) : t.tx.id = z32 := by cases t <;> rfl
theorem pl_len (t : Pl) : (plCells t).length = 41 := tx_len (by rw [pl_id]; rfl)
theorem pl_one (t : Pl) : (plCells t).all oneCell = true := tx_one rfl
theorem pl_facts (t : Pl) : At (plCells t) 40 nilS := by cases t <;> exact At.of (i := 40) rfl
noncomputable def runS (st : LSt) (ts : List Pl) : LSt := ts.foldl plSt st
noncomputable def runE : LSt → List Pl → List Int
  | _, [] => []
  | st, t :: ts => plErr st t :: runE (plSt st t) ts
theorem runS_snoc (st : LSt) (ts : List Pl) (t : Pl) : runS st (ts ++ [t]) = plSt (runS st ts) t := by simp [runS]
theorem runE_snoc (st : LSt) (ts : List Pl) (t : Pl) : runE st (ts ++ [t]) = runE st ts ++ [plErr (runS st ts) t] := by
  induction ts generalizing st with
  | nil => rfl
  | cons x ts ih => simp only [List.cons_append, runE, ih]; rfl
theorem runE_len (st : LSt) (ts : List Pl) : (runE st ts).length = ts.length := by
  induction ts generalizing st with
  | nil => rfl
  | cons x ts ih => simp only [runE, List.length_cons, ih]
theorem runS_chain (st : LSt) (ts : List Pl) : (runS st ts).chain = st.chain := by
  induction ts generalizing st with
  | nil => rfl
  | cons x ts ih => exact (ih _).trans (pl_chain _ _)
theorem addLock_le {st : LSt} {x : Lck} {N : Nat} (h : st.le N) : (addLock st x).le (N + 1) := by
  have h2 := h.up (Nat.le_succ N)
  refine ⟨h2.accs, ?_, h2.cons, h2.recs, h2.mems, h2.rm, h2.rs, h2.rk⟩
  have h1 := h.locks
  simp only [addLock, List.length_append, List.length_cons, List.length_take, List.length_drop]
  omega
theorem pl_le {st : LSt} {t : Pl} {N : Nat} (h : st.le N) : (plSt st t).le (N + 2) := by
  unfold plSt
  split
  · exact h.up (by omega)
  · cases t with
    | pay a b m o => exact stSet_le (stSet_le h)
    | lock a b m o d l => exact addLock_le (stSet_le h)
theorem runS_le {st : LSt} {ts : List Pl} {N : Nat} (h : st.le N) : (runS st ts).le (N + 2 * ts.length) := by
  induction ts generalizing st N with
  | nil => exact h
  | cons x ts ih => exact (ih (pl_le h)).up (by simp only [List.length_cons]; omega)
theorem c44_pl {σ : Sto} {L : SHeap} {gc : List Value} {sv : SV} {st : LSt} {N : Nat} {ht : Int} {r : Bool} (h : StR σ [] sv st) (hb : st.le N) (hN : N < 80000000) {T : TypeId} {fr : Nat × Nat} (hK : σ 1 = some (.cells (ucells K256).toArray T fr)) (h1 : ¬ st.chain < 1) (t : Pl) :
    Ctr Tryz.prog 44 #[.agg gc.toArray, .agg (stCells sv).toArray, iv ht, .agg (plCells t).toArray, .bool r] σ L fun v σ' L' => ∃ sv', v = .tuple #[.agg (stCells sv').toArray, iv (plErr st t)] ∧ (stCells sv').all oneCell = true ∧ (plErr st t = 0 → StR σ' [] sv' (plSt st t)) ∧ L' = L := by
  cases t with
  | pay a b m o =>
    refine (c44_pay (r := r) (h.more (Keep.nil _)) hb hN a b m o).mono ?_
    rintro v σ' _ - ⟨rfl, (⟨hne, rfl⟩ | ⟨hez, sv', rfl, hs⟩)⟩
    · exact ⟨zSV, rfl, rfl, fun e => absurd e hne, rfl⟩
    · have e0 : plErr st (.pay a b m o) = 0 := hez
      refine ⟨sv', by rw [e0], hs.one, fun _ => ?_, rfl⟩
      unfold plSt; rw [if_neg (by simp [e0])]; exact hs
  | lock a b m o d l =>
    refine (c44_lock (r := r) h hb hN hK h1 a b m o d l).mono ?_
    rintro v σ' _ - ⟨rfl, (⟨hne, rfl⟩ | ⟨hez, sv', rfl, hs⟩)⟩
    · exact ⟨zSV, rfl, rfl, fun e => absurd e hne, rfl⟩
    · have e0 : plErr st (.lock a b m o d l) = 0 := hez
      refine ⟨sv', by rw [e0], hs.one, fun _ => ?_, rfl⟩
      unfold plSt; rw [if_neg (by simp [e0])]; exact hs
theorem mset_key {κ : Type} [DecidableEq κ] {es : Ents κ} {k : κ} {v : Value} {ck : Nat} {good : κ → Prop} (hk : good k) (hg : ∀ e ∈ es, good e.1) : ∀ e ∈ mset es k v ck, good e.1 := by
  intro e he
  unfold mset at he
  split at he
  · rename_i i u h
    obtain ⟨j, hj, rfl⟩ := List.mem_iff_getElem.1 he
    rw [List.getElem_modify]
    split
    · obtain ⟨m, n, h1, h2⟩ := assoc_spec h
      have hj2 : j < es.length := by simpa using hj
      exact hg (es[j]) (List.getElem_mem hj2)
    · exact hg _ (List.getElem_mem _)
  · rcases List.mem_append.1 he with h | h
    · exact hg _ h
    · simp at h; rw [h]; exact hk
theorem PastR.put {σ : Sto} {es : Ents Bts} {pf : Bts → Option (List Ent)} (h : PastR σ es pf) {d : Bts} (hd : d.length = 32) {v : Value} {l : List Ent} (hv : EntsR σ v l) (ck : Nat) :
    PastR σ (mset es d v ck) (fun k => if k = d then Option.some l else pf k) := by
  refine ⟨mset_key (good := fun d : Bts => d.length = 32) hd h.key, fun k l' hk => ?_, fun k hk => ?_⟩
  · by_cases e : k = d
    · simp only [if_pos e, Option.some.injEq] at hk
      subst hk
      exact ⟨v, by rw [mget_set, if_pos e], hv⟩
    · simp only [if_neg e] at hk
      obtain ⟨u, h1, h2⟩ := h.some k l' hk
      exact ⟨u, by rw [mget_set, if_neg e]; exact h1, h2⟩
  · by_cases e : k = d
    · simp only [if_pos e] at hk; nomatch hk
    · simp only [if_neg e] at hk
      rw [mget_set, if_neg e]; exact h.none k hk
theorem PastR.look {σ : Sto} {es : Ents Bts} {pf : Bts → Option (List Ent)} (h : PastR σ es pf) (d : Bts) : ∃ p n c, (mget es d).getD nilS = .slice p n c ∧ (p.isNone = true ↔ pf d = Option.none) := by
  cases hp : pf d with
  | none => exact ⟨Option.none, 0, 0, by rw [h.none d hp]; rfl, by simp⟩
  | some l =>
    obtain ⟨v, h1, evs, h2, h3, h4⟩ := h.some d l hp
    obtain ⟨p, c, rfl⟩ := h2.val
    refine ⟨p, evs.length, c, by rw [h1]; rfl, ?_⟩
    have hl : evs.length ≠ 0 := fun e => h4 (by have := h3.len; rw [e] at this; exact List.length_eq_zero_iff.1 this.symm)
    have hne : evs.flatMap entCells ≠ [] := by
      cases evs with
      | nil => simp at hl
      | cons x _ => simp [entCells]
    obtain ⟨b, o, ds, T, fr, hq, _⟩ := h2.cells.2.2.get hne
    subst hq
    simp
section
variable {P : Program} {E : Env} {σ : Sto} {K : SHeap} {d : Option Tmp} {ty : TypeId} {pos : String} {af : Array Edge} {g : Option (Nat × Bool)}
theorem q_eqlNil {T T2 a : TypeId} {x y : Operand} {p : Option Addr} {n c m c' : Nat} (hx : E.op x = some (.slice p n c)) (hy : E.op y = some (.slice none m c')) (hU : ∀ w, (underlying T).run P w = .ok (.slice a) w) :
    Quiet P E.ev ⟨d, .binOp .eql T x y T2, ty, pos, af, g⟩ K σ (.bool p.isNone) := by
  intro σ' w L' _ _ _
  have h : ∀ w, (Op.equalIn 10000 T (.slice p n c) (.slice none m c')).run P w = .ok p.isNone w := fun w => by
    show (Op.equalIn (9999 + 1) T _ _).run P w = _
    rw [Op.equalIn]
    cases p <;> simp [Sem.run_bind, hU]
  have h2 : (Op.equal T (.slice p n c) (.slice none m c')).run P w = .ok p.isNone w := h w
  simp [execOp, Env.op_ev hx, Env.op_ev hy, eqGuard, binOp, h2]
theorem q_eqlNilP {T T2 a : TypeId} {x y : Operand} {p : Option Addr} (hx : E.op x = some (.pointer p)) (hy : E.op y = some (.pointer none)) (hU : ∀ w, (underlying T).run P w = .ok (.pointer a) w) :
    Quiet P E.ev ⟨d, .binOp .eql T x y T2, ty, pos, af, g⟩ K σ (.bool p.isNone) := by
  intro σ' w L' _ _ _
  have h : ∀ w, (Op.equalIn 10000 T (.pointer p) (.pointer none)).run P w = .ok p.isNone w := fun w => by
    show (Op.equalIn (9999 + 1) T _ _).run P w = _
    rw [Op.equalIn]
    cases p <;> simp [Sem.run_bind, hU]
  have h2 : (Op.equal T (.pointer p) (.pointer none)).run P w = .ok p.isNone w := h w
  simp [execOp, Env.op_ev hx, Env.op_ev hy, eqGuard, binOp, h2]
end
end Go.Eng
namespace Go.Eng
open Go Go.Proofs
set_option maxRecDepth 20000
theorem zero42a (w : World) : (zeroValue 42).run Tryz.prog w = .ok (.agg (txCells ⟨0, 0, 0, 0, 0, 0, 0, z32, 0⟩ nilS).toArray) w := by rw [Tryz.zeroValue42]; rfl
theorem get_set {α : Type} {l : List α} {i : Nat} {x : α} (h : i < (l.set i x).length) : (l.set i x)[i] = x := by simp
theorem LSt.chain_run {st : LSt} {ts : List Pl} (h : ¬ st.chain < 1) (k : Nat) : ¬ (runS st (ts.take k)).chain < 1 := by rw [runS_chain]; exact h
set_option maxHeartbeats 1000000 in
theorem c21 {σ : Sto} {L Lx : SHeap} (hsrt : Sort90) {T : TypeId} {fr : Nat × Nat} (hK : σ 1 = some (.cells (ucells K256).toArray T fr)) {A : Led} {px : Nat} (hA : LedO σ px A Lx) {c : Nat} (hc1 : 1 ≤ c) (hc4 : c < 4) (hsh : (c : Int) ≤ A.g.shards) {st : LSt} {ht ep vw pr : Int} {pa txr ro : Bts} (hw : Hdr.wf (Hdr.mk (c : Nat) ep (ht + 1) vw pa txr ro pr)) (hct : A.ch[c]? = some (st, ht)) (hst1 : ¬ st.chain < 1) {N : Nat} (hb : st.le N) (hN : N + 16 ≤ 10000) (hh1 : 0 ≤ ht) (hh2 : ht < 1000000) {tv : Value} {ts : List Pl} (hts : Sl σ [] tv 41 plCells ts) (hn : ts.length ≤ 8) : Ctr Tryz.prog 21 #[.pointer (some ⟨px, 0, none⟩), .agg (hdrCells (Hdr.mk (c : Nat) ep (ht + 1) vw pa txr ro pr)).toArray, tv] σ (Lx ++ L) fun r σ' L' => ∃ v Lx' A', r = .tuple #[v, iv 0] ∧ Sl σ' [] v 1 ic (runE st ts) ∧ A'.g = A.g ∧ A'.ch = A.ch.set c (runS st ts, ht + 1) ∧ L' = Lx' ++ L ∧ LedO σ' px A' Lx' := by
  obtain ⟨gv, cvs, pm, es, ck, rfl, hgr, hch, h4, hpast⟩ := hA.out
  have hgl := hgr.len
  have hcl := hch.len
  have hc : c < cvs.length := by omega
  have hca : c < A.ch.length := by omega
  have hce : A.ch[c] = (st, ht) := by rw [List.getElem?_eq_getElem hca] at hct; simpa using hct
  have hself : A.ch.set c (runS st (ts.take 0), ht) = A.ch := by
    show A.ch.set c (st, ht) = A.ch
    rw [← hce]; exact List.set_getElem_self hca
  have hcht : cvs[c].2 = ht := by have := (hch.get c hca hc).2; rw [hce] at this; exact this
  obtain ⟨qt, cq, rfl⟩ := hts.val
  have hcs := hts.cells.2.2
  show Ctr _ _ _ _ ((px, ledObj A.g gv cvs pm) :: (pm, mobj dv es ck) :: L) _
  refine ctr_enter Tryz.func21 rfl Tryz.ntmps21 (by simp) ?_
  refine go_seq ?_
  refine go_region ?_
  refine snb rfl (n_box rfl (.agg (l := hdrCells (Hdr.mk (c : Nat) ep (ht + 1) vw pa txr ro pr)))) ?_
  intro b1
  refine sq rfl (q_assign rfl) ?_
  refine sq rfl (q_assign rfl) ?_
  refine gol_nil ?_
  refine go_seq ?_
  refine go_block ?_
  refine go_seq ?_
  refine go_region ?_
  refine sq rfl (q_move rfl) ?_
  refine sq rfl (q_fieldAddr (off := 0) (o' := 0) rfl Tryz.runUnderlying71 rfl Tryz.sizeOf3 rfl rfl) ?_
  refine sq rfl (q_load (cs := hdrCells (Hdr.mk (c : Nat) ep (ht + 1) vw pa txr ro pr)) (v := iv (c : Nat)) rfl Tryz.isAgg3 .hd .z) ?_
  refine sn rfl (n_call rfl Tryz.call41 (c41 (.tl .hd) (c : Int))) ?_
  rintro _ σ _ - ⟨rfl, rfl, rfl⟩
  rw [show decide (0 ≤ (c : Int) ∧ (c : Int) ≤ A.g.shards) = true from decide_eq_true ⟨by omega, hsh⟩]
  refine sq rfl (q_not rfl) ?_
  refine sq rfl (q_assign rfl) ?_
  refine gol_nil ?_
  refine go_condF rfl rfl ?_
  refine go_seq ?_
  refine go_draws (n := 131) [(b1, .cells (hdrCells (Hdr.mk (c : Nat) ep (ht + 1) vw pa txr ro pr)).toArray 71 (0, 0)), (px, ledObj A.g gv cvs pm)] mix rfl (by decide +kernel) (keep2 (by simp) (by simp)) ?_
  refine dq 0 rfl rfl rfl rfl (q_fieldAddr (off := 2) (o' := 2) rfl Tryz.runUnderlying71 rfl Tryz.sizeOf2 rfl rfl) ?_
  refine dq 1 rfl rfl rfl rfl (q_load (cs := hdrCells (Hdr.mk (c : Nat) ep (ht + 1) vw pa txr ro pr)) (v := iv (ht + 1)) rfl Tryz.isAgg2 .hd (.s (.s .z))) ?_
  refine dq 2 rfl rfl rfl rfl (q_move rfl) ?_
  refine dq 3 rfl rfl rfl rfl (q_fieldAddr (off := 0) (o' := 0) rfl Tryz.runUnderlying71 rfl Tryz.sizeOf3 rfl rfl) ?_
  refine dq 4 rfl rfl rfl rfl (q_load (cs := hdrCells (Hdr.mk (c : Nat) ep (ht + 1) vw pa txr ro pr)) (v := iv (c : Nat)) rfl Tryz.isAgg3 .hd .z) ?_
  refine dq 5 rfl rfl rfl rfl (q_nil rfl) ?_
  refine dq 6 rfl rfl rfl rfl (q_fieldAddr (off := 37) (o' := 37) rfl Tryz.runUnderlying119 rfl Tryz.sizeOf117 rfl rfl) ?_
  refine dq 7 rfl rfl rfl rfl (q_indexAddrA (j := c) (o' := 37 + c * 7) rfl rfl Tryz.runUnderlying117 Tryz.sizeOf116 rfl hc4 rfl) ?_
  refine dq 8 rfl rfl rfl rfl (q_fieldAddr (off := 6) (o' := 37 + c * 7 + 6) rfl Tryz.runUnderlying116 rfl Tryz.sizeOf2 rfl rfl) ?_
  refine dq 9 rfl rfl rfl rfl (q_load (cs := ledCells A.g gv cvs pm) (v := iv cvs[c].2) rfl Tryz.isAgg2 (.tl .hd) (led_ht hgl hc)) ?_
  refine dq 10 rfl rfl rfl rfl (q_add (a := cvs[c].2) (b := 1) (c := ht + 1) rfl rfl (by rw [hcht]; exact i64_in (by omega) (by omega))) ?_
  refine dq 11 rfl rfl rfl rfl (q_neq (a := ht + 1) (b := ht + 1) rfl rfl) ?_
  rw [show decide (ht + 1 = ht + 1) = true from decide_eq_true (rfl)]
  refine dq 12 rfl rfl rfl rfl (q_assign rfl) ?_
  refine dend rfl ?_
  refine go_condF rfl rfl ?_
  refine go_seq ?_
  refine go_region ?_
  refine sq rfl (q_move rfl) ?_
  refine sq rfl (q_len rfl Tryz.runUnderlying35) ?_
  refine sq rfl (q_gtr (a := (ts.length : Int)) (b := 8) rfl rfl) ?_
  rw [show decide ((8 : Int) < (ts.length : Int)) = false from decide_eq_false (by omega)]
  refine sq rfl (q_assign rfl) ?_
  refine gol_nil ?_
  refine go_condF rfl rfl ?_
  refine go_skip ?_
  refine go_inBlock ?_
  refine go_seq ?_
  refine go_draws (n := 131) [(b1, .cells (hdrCells (Hdr.mk (c : Nat) ep (ht + 1) vw pa txr ro pr)).toArray 71 (0, 0)), (px, ledObj A.g gv cvs pm)] mix rfl (by decide +kernel) (keep2 (by simp) (by simp)) ?_
  refine dq 0 rfl rfl rfl rfl (q_move rfl) ?_
  refine dq 1 rfl rfl rfl rfl (q_fieldAddr (off := 0) (o' := 0) rfl Tryz.runUnderlying71 rfl Tryz.sizeOf3 rfl rfl) ?_
  refine dq 2 rfl rfl rfl rfl (q_load (cs := hdrCells (Hdr.mk (c : Nat) ep (ht + 1) vw pa txr ro pr)) (v := iv (c : Nat)) rfl Tryz.isAgg3 .hd .z) ?_
  refine dq 3 rfl rfl rfl rfl (q_nil rfl) ?_
  refine dq 4 rfl rfl rfl rfl (q_fieldAddr (off := 37) (o' := 37) rfl Tryz.runUnderlying119 rfl Tryz.sizeOf117 rfl rfl) ?_
  refine dq 5 rfl rfl rfl rfl (q_indexAddrA (j := c) (o' := 37 + c * 7) rfl rfl Tryz.runUnderlying117 Tryz.sizeOf116 rfl hc4 rfl) ?_
  refine dq 6 rfl rfl rfl rfl (q_assign rfl) ?_
  refine dend rfl ?_
  refine go_seq ?_
  refine go_region ?_
  refine sq rfl (q_assign rfl) ?_
  refine gol_nil ?_
  refine go_seq ?_
  refine go_seq ?_
  refine go_region ?_
  refine sq rfl (q_move rfl) ?_
  refine sq rfl (q_len rfl Tryz.runUnderlying35) ?_
  refine sq rfl (q_move rfl) ?_
  refine gol_nil ?_
  refine go_block ?_
  refine go_loop (X := Nat × Sto × List (SV × Int) × Value × SHeap) (fun x => x.1 ≤ ts.length ∧ Sto.le σ x.2.1 ∧ All2 (ChR x.2.1) x.2.2.1 (A.ch.set c (runS st (ts.take x.1), ht)) ∧ SlO 52 1 x.2.2.2.1 ic (runE st (ts.take x.1)) x.2.2.2.2) (fun x => [(0, .pointer (some ⟨px, 0, none⟩)), (4, .pointer (some ⟨b1, 0, none⟩)), (8, .pointer (some ⟨px, 37 + c * 7, none⟩)), (9, x.2.2.2.1), (44, .slice qt ts.length cq), (45, iv (ts.length : Nat)), (46, iv (x.1 : Nat))]) (fun x => x.2.1) (fun x => (b1, .cells (hdrCells (Hdr.mk (c : Nat) ep (ht + 1) vw pa txr ro pr)).toArray 71 (0, 0)) :: (px, ledObj A.g gv x.2.2.1 pm) :: (pm, mobj dv es ck) :: (x.2.2.2.2 ++ L)) (fun x => ts.length - x.1) (0, σ, cvs, nilS, []) ⟨Nat.zero_le _, Sto.le_refl _, by simp only; rw [show A.ch.set c (runS st (ts.take 0), ht) = A.ch from hself]; exact hch, SlO.nil⟩ ⟨rfl, rfl, rfl, rfl, rfl, rfl, rfl, trivial⟩ rfl rfl ?_
  rintro ⟨i, σ1, cw, ov, Lo⟩ ⟨hi, hle1, hcw, ho⟩ next
  simp only at hi hle1 hcw ho next ⊢
  have hwl := hcw.len
  rw [List.length_set, h4] at hwl
  have hcw4 : c < cw.length := by omega
  have hcl : c < (A.ch.set c (runS st (ts.take i), ht)).length := by rw [List.length_set]; omega
  have hcr := hcw.get c hcl hcw4
  rw [get_set hcl] at hcr
  have hoe : (runE st (ts.take i)).length = i := by rw [runE_len, List.length_take]; omega
  refine go_seq ?_
  refine go_region ?_
  refine sq rfl (q_lss (a := (i : Int)) (b := (ts.length : Int)) rfl rfl) ?_
  refine gol_nil ?_
  refine go_seq ?_
  refine go_cond rfl rfl (fun hc3 => ?_) (fun hc3 => ?_)
  ·
    have hlt : i < ts.length := by have := of_decide_eq_true hc3; omega
    obtain ⟨b9, o9, ds9, T9, fr9, hq9, hkn9, hpt9⟩ := hcs.get (by intro e; have := hcs.1; rw [e] at this; simp at this; omega)
    subst hq9
    have h9 : Part ds9.toList (o9 + i * 41) 41 (plCells ts[i]) := by have := cells_part hpt9 hlt; rwa [flat_at (fun x _ => pl_len x) hlt] at this
    have hu9 : Kn σ1 ((b1, .cells (hdrCells (Hdr.mk (c : Nat) ep (ht + 1) vw pa txr ro pr)).toArray 71 (0, 0)) :: (px, ledObj A.g gv cw pm) :: (pm, mobj dv es ck) :: (Lo ++ L)) b9 (.cells ds9 T9 fr9) := (hkn9.up hle1).imp id (fun h => nomatch h)
    have hbi : (runS st (ts.take i)).le (N + 16) := (runS_le hb).up (by rw [List.length_take]; omega)
    refine go_skip ?_
    refine go_seq ?_
    refine go_block ?_
    refine go_seq ?_
    refine go_region ?_
    refine sq rfl (q_indexAddr (j := i) (o' := o9 + i * 41) rfl rfl Tryz.runUnderlying35 Tryz.sizeOf42 rfl hlt rfl) ?_
    refine sq rfl (q_loadA rfl Tryz.isAgg42 Tryz.sizeOf42 hu9 h9) ?_
    refine snb rfl (n_alloc zero42a .agg) ?_
    intro b2
    refine sst rfl (n_storeA rfl rfl (vs := plCells ts[i]) (pl_one _) Tryz.sizeOf42 (pl_len _) .hd (PutAt.all (by rw [pl_len]; rfl))) ?_
    refine gol_nil ?_
    refine go_seq ?_
    refine go_draws (n := 131) [(b2, .cells (plCells ts[i]).toArray 42 (0, 0)), (b1, .cells (hdrCells (Hdr.mk (c : Nat) ep (ht + 1) vw pa txr ro pr)).toArray 71 (0, 0)), (px, ledObj A.g gv cw pm)] mix rfl (by decide +kernel) (keep3 (by simp) (by simp) (by simp)) ?_
    refine dq 0 rfl rfl rfl rfl (q_move rfl) ?_
    refine dq 1 rfl rfl rfl rfl (q_nil rfl) ?_
    refine dq 2 rfl rfl rfl rfl (q_fieldAddr (off := 0) (o' := 0) rfl Tryz.runUnderlying119 rfl Tryz.sizeOf29 rfl rfl) ?_
    refine dq 3 rfl rfl rfl rfl (q_loadA (vs := genCells A.g gv) rfl Tryz.isAgg29 Tryz.sizeOf29 (.tl (.tl .hd)) (led_gen.2 hgl)) ?_
    refine dq 4 rfl rfl rfl rfl (q_move rfl) ?_
    refine dq 5 rfl rfl rfl rfl (q_nil rfl) ?_
    refine dq 6 rfl rfl rfl rfl (q_fieldAddr (off := 0) (o' := 37 + c * 7 + 0) rfl Tryz.runUnderlying116 rfl Tryz.sizeOf51 rfl rfl) ?_
    refine dq 7 rfl rfl rfl rfl (q_loadA (vs := stCells cw[c].1) rfl Tryz.isAgg51 Tryz.sizeOf51 (.tl (.tl .hd)) (led_st hgl hcw4)) ?_
    refine dq 8 rfl rfl rfl rfl (q_fieldAddr (off := 2) (o' := 2) rfl Tryz.runUnderlying71 rfl Tryz.sizeOf2 rfl rfl) ?_
    refine dq 9 rfl rfl rfl rfl (q_load (cs := hdrCells (Hdr.mk (c : Nat) ep (ht + 1) vw pa txr ro pr)) (v := iv (ht + 1)) rfl Tryz.isAgg2 (.tl .hd) (.s (.s .z))) ?_
    refine dq 10 rfl rfl rfl rfl (q_loadA (vs := plCells ts[i]) rfl Tryz.isAgg42 Tryz.sizeOf42 .hd (Part.all (pl_len _))) ?_
    refine dq 11 rfl rfl rfl rfl (q_fieldAddr (off := 40) (o' := 40) rfl Tryz.runUnderlying42 rfl Tryz.sizeOf40 rfl rfl) ?_
    refine dq 12 rfl rfl rfl rfl (q_load (cs := plCells ts[i]) (v := nilS) rfl Tryz.isAgg40 .hd (pl_facts _)) ?_
    refine dq 13 rfl rfl rfl rfl (q_len rfl Tryz.runUnderlying40) ?_
    refine dq 14 rfl rfl rfl rfl (q_eql (a := 0) (b := 1) rfl rfl) ?_
    rw [show decide ((0 : Int) = 1) = false from decide_eq_false (by decide)]
    refine dq 15 rfl rfl rfl rfl (q_move rfl) ?_
    refine dskip 16 rfl rfl rfl (by first | exact .inl rfl | exact .inr rfl) rfl rfl rfl ?_
    refine dskip 17 rfl rfl rfl (by first | exact .inl rfl | exact .inr rfl) rfl rfl rfl ?_
    refine dskip 18 rfl rfl rfl (by first | exact .inl rfl | exact .inr rfl) rfl rfl rfl ?_
    refine dskip 19 rfl rfl rfl (by first | exact .inl rfl | exact .inr rfl) rfl rfl rfl ?_
    refine dskip 20 rfl rfl rfl (by first | exact .inl rfl | exact .inr rfl) rfl rfl rfl ?_
    refine dskip 21 rfl rfl rfl (by first | exact .inl rfl | exact .inr rfl) rfl rfl rfl ?_
    refine dskip 22 rfl rfl rfl (by first | exact .inl rfl | exact .inr rfl) rfl rfl rfl ?_
    refine dskip 23 rfl rfl rfl (by first | exact .inl rfl | exact .inr rfl) rfl rfl rfl ?_
    refine dq 24 rfl rfl rfl rfl (q_pick rfl rfl rfl rfl) ?_
    refine d2 25 29 rfl rfl rfl (by decide +kernel) rfl rfl (n_call rfl Tryz.call44 (c44_pl hcr.1 hbi (by omega) (Sto.le.get hle1 hK) (LSt.chain_run hst1 i) ts[i])) (n_alloc Tryz.zeroValue51 .agg) (by rintro _ _ _ _ ⟨_, _, _, _, rfl⟩; exact keep3 (by simp) (by simp) (by simp)) (fun _ _ _ _ ⟨_, _, _, e3⟩ => by subst e3; exact fun b o hb => List.mem_cons_of_mem _ ((keep3 (by simp) (by simp) (by simp)) b o hb)) ?_ ?_
    ·
      rintro _ σ2 _ hle2 ⟨sv5, rfl, hone5, hst5, rfl⟩
      refine dq 26 rfl rfl rfl rfl (q_move rfl) ?_
      refine dq 27 rfl rfl rfl rfl (q_extract rfl .z) ?_
      refine dq 28 rfl rfl rfl rfl (q_extract rfl (.s .z)) ?_
      refine dnb 29 rfl rfl rfl rfl (by decide +kernel) (n_alloc Tryz.zeroValue51 .agg) (keep3 (by simp) (by simp) (by simp)) ?_
      intro b3
      refine dst 30 rfl rfl rfl rfl (by decide +kernel) (n_storeA rfl rfl (vs := stCells sv5) hone5 Tryz.sizeOf51 rfl .hd (PutAt.all rfl)) (keep3 (by simp) (by simp) (by simp)) ?_
      refine dq 31 rfl rfl rfl rfl (q_assign rfl) ?_
      refine dend rfl ?_
      refine go_seq ?_
      refine go_seq ?_
      refine go_region ?_
      refine sq rfl (q_move rfl) ?_
      refine sq rfl (q_eql (a := plErr (runS st (ts.take i)) ts[i]) (b := 0) rfl rfl) ?_
      rcases Classical.em (plErr (runS st (ts.take i)) ts[i] = 0) with he0 | he0
      ·
        rw [show decide (plErr (runS st (ts.take i)) ts[i] = 0) = true from decide_eq_true he0]
        have hcwn : All2 (ChR σ2) (cw.set c (sv5, cw[c].2)) (A.ch.set c (runS st (ts.take (i + 1)), ht)) := by
          have := all2_set (hcw.mono fun _ _ h => h.up hle2) c (x := (sv5, cw[c].2)) (y := (runS st (ts.take (i + 1)), ht)) ⟨by rw [List.take_succ_eq_append_getElem hlt, runS_snoc]; exact hst5 he0, hcr.2⟩
          rwa [List.set_set] at this
        refine gol_nil ?_
        refine go_condT rfl rfl ?_
        refine go_region ?_
        refine sq rfl (q_move rfl) ?_
        refine sq rfl (q_loadA (vs := stCells sv5) rfl Tryz.isAgg51 Tryz.sizeOf51 .hd (Part.all rfl)) ?_
        refine sq rfl (q_nil rfl) ?_
        refine sq rfl (q_fieldAddr (off := 0) (o' := 37 + c * 7 + 0) rfl Tryz.runUnderlying116 rfl Tryz.sizeOf51 rfl rfl) ?_
        refine sst rfl (n_storeA rfl rfl (vs := stCells sv5) hone5 Tryz.sizeOf51 rfl (.tl (.tl (.tl .hd))) (led_put hgl hcw4 sv5)) ?_
        refine gol_nil ?_
        refine go_region ?_
        refine sq rfl (q_move rfl) ?_
        refine sq rfl (q_move rfl) ?_
        refine sns rfl (n_buildSlice (sz := 1) (l := [_]) (.cons rfl (.one rfl) rfl .nil) rfl Tryz.runUnderlying43 Tryz.sizeOf52 Tryz.zeroValue52 rfl rfl) ?_
        intro bq
        refine gol_perm _ (List.perm_append_comm_assoc (_ :: _ :: _ :: _ :: _ :: [_]) Lo _) ?_
        refine sn rfl (n_append (n := i) (m := 1) (Lp := Lo) (L0 := _) (cs := (runE st (ts.take i)).flatMap ic) (new := [iv (plErr (runS st (ts.take i)) ts[i])]) rfl rfl Tryz.runUnderlying43 Tryz.sizeOf52 Tryz.typeInfo52 rfl Tryz.zeroValue52 rfl Tryz.runUnderlying43 (by have := ho.own; rwa [hoe] at this) (Cells.new (n := 1) (sz := 1) (c := 1) (Kn.app Lo .hd) rfl) rfl (by show (2 * (i + 1) + 1000) * 8 ≤ _; omega)) ?_
        rintro v5 σ2 _ - ⟨Lo2, rfl, rfl, hom2⟩
        refine sq rfl (q_assign rfl) ?_
        refine gol_nil ?_
        refine go_inBlock ?_
        refine go_drop (Lo2 ++ (_ :: _ :: _ :: L)) ((List.Sublist.refl _).append (.cons _ (.cons _ (.cons _ (List.Sublist.refl _))))) ?_
        refine go_perm _ (List.perm_append_comm_assoc (_ :: _ :: [_]) Lo2 _).symm ?_
        refine go_region ?_
        refine sq rfl (q_add (a := (i : Int)) (b := 1) (c := ((i + 1 : Nat) : Int)) rfl rfl (i64_in (by omega) (by omega))) ?_
        refine sq rfl (q_move rfl) ?_
        refine gol_nil ?_
        refine go_next (next (i + 1, σ2, _, v5, Lo2) ⟨hlt, Sto.le_trans hle1 hle2, hcwn, ?_⟩ (by simp only; omega)) ⟨rfl, rfl, rfl, rfl, rfl, rfl, rfl, trivial⟩
        simp only
        rw [List.take_succ_eq_append_getElem hlt, runE_snoc]
        refine SlO.mk (by rw [List.flatMap_append, List.length_append, hoe]; exact hom2) (fun _ _ => rfl)
      ·
        rw [show decide (plErr (runS st (ts.take i)) ts[i] = 0) = false from decide_eq_false he0]
        have hcwn : All2 (ChR σ2) cw (A.ch.set c (runS st (ts.take (i + 1)), ht)) := by
          rw [List.take_succ_eq_append_getElem hlt, runS_snoc]
          unfold plSt; rw [if_pos he0]
          exact hcw.mono fun _ _ h => h.up hle2
        refine gol_nil ?_
        refine go_condF rfl rfl ?_
        refine go_skip ?_
        refine go_region ?_
        refine sq rfl (q_move rfl) ?_
        refine sq rfl (q_move rfl) ?_
        refine sns rfl (n_buildSlice (sz := 1) (l := [_]) (.cons rfl (.one rfl) rfl .nil) rfl Tryz.runUnderlying43 Tryz.sizeOf52 Tryz.zeroValue52 rfl rfl) ?_
        intro bq
        refine gol_perm _ (List.perm_append_comm_assoc (_ :: _ :: _ :: _ :: _ :: [_]) Lo _) ?_
        refine sn rfl (n_append (n := i) (m := 1) (Lp := Lo) (L0 := _) (cs := (runE st (ts.take i)).flatMap ic) (new := [iv (plErr (runS st (ts.take i)) ts[i])]) rfl rfl Tryz.runUnderlying43 Tryz.sizeOf52 Tryz.typeInfo52 rfl Tryz.zeroValue52 rfl Tryz.runUnderlying43 (by have := ho.own; rwa [hoe] at this) (Cells.new (n := 1) (sz := 1) (c := 1) (Kn.app Lo .hd) rfl) rfl (by show (2 * (i + 1) + 1000) * 8 ≤ _; omega)) ?_
        rintro v5 σ2 _ - ⟨Lo2, rfl, rfl, hom2⟩
        refine sq rfl (q_assign rfl) ?_
        refine gol_nil ?_
        refine go_inBlock ?_
        refine go_drop (Lo2 ++ (_ :: _ :: _ :: L)) ((List.Sublist.refl _).append (.cons _ (.cons _ (.cons _ (List.Sublist.refl _))))) ?_
        refine go_perm _ (List.perm_append_comm_assoc (_ :: _ :: [_]) Lo2 _).symm ?_
        refine go_region ?_
        refine sq rfl (q_add (a := (i : Int)) (b := 1) (c := ((i + 1 : Nat) : Int)) rfl rfl (i64_in (by omega) (by omega))) ?_
        refine sq rfl (q_move rfl) ?_
        refine gol_nil ?_
        refine go_next (next (i + 1, σ2, _, v5, Lo2) ⟨hlt, Sto.le_trans hle1 hle2, hcwn, ?_⟩ (by simp only; omega)) ⟨rfl, rfl, rfl, rfl, rfl, rfl, rfl, trivial⟩
        simp only
        rw [List.take_succ_eq_append_getElem hlt, runE_snoc]
        refine SlO.mk (by rw [List.flatMap_append, List.length_append, hoe]; exact hom2) (fun _ _ => rfl)
    ·
      rintro _ σ9 _ - ⟨b3, rfl, e9, rfl⟩
      obtain rfl := e9.symm
      refine dn 25 rfl rfl rfl rfl (by decide +kernel) (n_call rfl Tryz.call44 (c44_pl hcr.1 hbi (by omega) (Sto.le.get hle1 hK) (LSt.chain_run hst1 i) ts[i])) (by rintro _ _ _ _ ⟨_, _, _, _, rfl⟩; exact keep3 (by simp) (by simp) (by simp)) ?_
      rintro _ σ2 _ hle2 ⟨sv5, rfl, hone5, hst5, rfl⟩
      refine dq 26 rfl rfl rfl rfl (q_move rfl) ?_
      refine dq 27 rfl rfl rfl rfl (q_extract rfl .z) ?_
      refine dq 28 rfl rfl rfl rfl (q_extract rfl (.s .z)) ?_
      refine dst 30 rfl rfl rfl rfl (by decide +kernel) (n_storeA rfl rfl (vs := stCells sv5) hone5 Tryz.sizeOf51 rfl .hd (PutAt.all rfl)) (keep3 (by simp) (by simp) (by simp)) ?_
      refine dq 31 rfl rfl rfl rfl (q_assign rfl) ?_
      refine dend rfl ?_
      refine go_seq ?_
      refine go_seq ?_
      refine go_region ?_
      refine sq rfl (q_move rfl) ?_
      refine sq rfl (q_eql (a := plErr (runS st (ts.take i)) ts[i]) (b := 0) rfl rfl) ?_
      rcases Classical.em (plErr (runS st (ts.take i)) ts[i] = 0) with he0 | he0
      ·
        rw [show decide (plErr (runS st (ts.take i)) ts[i] = 0) = true from decide_eq_true he0]
        have hcwn : All2 (ChR σ2) (cw.set c (sv5, cw[c].2)) (A.ch.set c (runS st (ts.take (i + 1)), ht)) := by
          have := all2_set (hcw.mono fun _ _ h => h.up hle2) c (x := (sv5, cw[c].2)) (y := (runS st (ts.take (i + 1)), ht)) ⟨by rw [List.take_succ_eq_append_getElem hlt, runS_snoc]; exact hst5 he0, hcr.2⟩
          rwa [List.set_set] at this
        refine gol_nil ?_
        refine go_condT rfl rfl ?_
        refine go_region ?_
        refine sq rfl (q_move rfl) ?_
        refine sq rfl (q_loadA (vs := stCells sv5) rfl Tryz.isAgg51 Tryz.sizeOf51 .hd (Part.all rfl)) ?_
        refine sq rfl (q_nil rfl) ?_
        refine sq rfl (q_fieldAddr (off := 0) (o' := 37 + c * 7 + 0) rfl Tryz.runUnderlying116 rfl Tryz.sizeOf51 rfl rfl) ?_
        refine sst rfl (n_storeA rfl rfl (vs := stCells sv5) hone5 Tryz.sizeOf51 rfl (.tl (.tl (.tl .hd))) (led_put hgl hcw4 sv5)) ?_
        refine gol_nil ?_
        refine go_region ?_
        refine sq rfl (q_move rfl) ?_
        refine sq rfl (q_move rfl) ?_
        refine sns rfl (n_buildSlice (sz := 1) (l := [_]) (.cons rfl (.one rfl) rfl .nil) rfl Tryz.runUnderlying43 Tryz.sizeOf52 Tryz.zeroValue52 rfl rfl) ?_
        intro bq
        refine gol_perm _ (List.perm_append_comm_assoc (_ :: _ :: _ :: _ :: _ :: [_]) Lo _) ?_
        refine sn rfl (n_append (n := i) (m := 1) (Lp := Lo) (L0 := _) (cs := (runE st (ts.take i)).flatMap ic) (new := [iv (plErr (runS st (ts.take i)) ts[i])]) rfl rfl Tryz.runUnderlying43 Tryz.sizeOf52 Tryz.typeInfo52 rfl Tryz.zeroValue52 rfl Tryz.runUnderlying43 (by have := ho.own; rwa [hoe] at this) (Cells.new (n := 1) (sz := 1) (c := 1) (Kn.app Lo .hd) rfl) rfl (by show (2 * (i + 1) + 1000) * 8 ≤ _; omega)) ?_
        rintro v5 σ2 _ - ⟨Lo2, rfl, rfl, hom2⟩
        refine sq rfl (q_assign rfl) ?_
        refine gol_nil ?_
        refine go_inBlock ?_
        refine go_drop (Lo2 ++ (_ :: _ :: _ :: L)) ((List.Sublist.refl _).append (.cons _ (.cons _ (.cons _ (List.Sublist.refl _))))) ?_
        refine go_perm _ (List.perm_append_comm_assoc (_ :: _ :: [_]) Lo2 _).symm ?_
        refine go_region ?_
        refine sq rfl (q_add (a := (i : Int)) (b := 1) (c := ((i + 1 : Nat) : Int)) rfl rfl (i64_in (by omega) (by omega))) ?_
        refine sq rfl (q_move rfl) ?_
        refine gol_nil ?_
        refine go_next (next (i + 1, σ2, _, v5, Lo2) ⟨hlt, Sto.le_trans hle1 hle2, hcwn, ?_⟩ (by simp only; omega)) ⟨rfl, rfl, rfl, rfl, rfl, rfl, rfl, trivial⟩
        simp only
        rw [List.take_succ_eq_append_getElem hlt, runE_snoc]
        refine SlO.mk (by rw [List.flatMap_append, List.length_append, hoe]; exact hom2) (fun _ _ => rfl)
      ·
        rw [show decide (plErr (runS st (ts.take i)) ts[i] = 0) = false from decide_eq_false he0]
        have hcwn : All2 (ChR σ2) cw (A.ch.set c (runS st (ts.take (i + 1)), ht)) := by
          rw [List.take_succ_eq_append_getElem hlt, runS_snoc]
          unfold plSt; rw [if_pos he0]
          exact hcw.mono fun _ _ h => h.up hle2
        refine gol_nil ?_
        refine go_condF rfl rfl ?_
        refine go_skip ?_
        refine go_region ?_
        refine sq rfl (q_move rfl) ?_
        refine sq rfl (q_move rfl) ?_
        refine sns rfl (n_buildSlice (sz := 1) (l := [_]) (.cons rfl (.one rfl) rfl .nil) rfl Tryz.runUnderlying43 Tryz.sizeOf52 Tryz.zeroValue52 rfl rfl) ?_
        intro bq
        refine gol_perm _ (List.perm_append_comm_assoc (_ :: _ :: _ :: _ :: _ :: [_]) Lo _) ?_
        refine sn rfl (n_append (n := i) (m := 1) (Lp := Lo) (L0 := _) (cs := (runE st (ts.take i)).flatMap ic) (new := [iv (plErr (runS st (ts.take i)) ts[i])]) rfl rfl Tryz.runUnderlying43 Tryz.sizeOf52 Tryz.typeInfo52 rfl Tryz.zeroValue52 rfl Tryz.runUnderlying43 (by have := ho.own; rwa [hoe] at this) (Cells.new (n := 1) (sz := 1) (c := 1) (Kn.app Lo .hd) rfl) rfl (by show (2 * (i + 1) + 1000) * 8 ≤ _; omega)) ?_
        rintro v5 σ2 _ - ⟨Lo2, rfl, rfl, hom2⟩
        refine sq rfl (q_assign rfl) ?_
        refine gol_nil ?_
        refine go_inBlock ?_
        refine go_drop (Lo2 ++ (_ :: _ :: _ :: L)) ((List.Sublist.refl _).append (.cons _ (.cons _ (.cons _ (List.Sublist.refl _))))) ?_
        refine go_perm _ (List.perm_append_comm_assoc (_ :: _ :: [_]) Lo2 _).symm ?_
        refine go_region ?_
        refine sq rfl (q_add (a := (i : Int)) (b := 1) (c := ((i + 1 : Nat) : Int)) rfl rfl (i64_in (by omega) (by omega))) ?_
        refine sq rfl (q_move rfl) ?_
        refine gol_nil ?_
        refine go_next (next (i + 1, σ2, _, v5, Lo2) ⟨hlt, Sto.le_trans hle1 hle2, hcwn, ?_⟩ (by simp only; omega)) ⟨rfl, rfl, rfl, rfl, rfl, rfl, rfl, trivial⟩
        simp only
        rw [List.take_succ_eq_append_getElem hlt, runE_snoc]
        refine SlO.mk (by rw [List.flatMap_append, List.length_append, hoe]; exact hom2) (fun _ _ => rfl)
  ·
    have hie : i = ts.length := by have := of_decide_eq_false hc3; omega
    subst hie
    rw [List.take_length] at hcw ho hcr
    have hbi : (runS st ts).le (N + 16) := (runS_le hb).up (by omega)
    clear next
    refine go_exit rfl ?_
    refine go_seq ?_
    refine go_draws (n := 131) [(b1, .cells (hdrCells (Hdr.mk (c : Nat) ep (ht + 1) vw pa txr ro pr)).toArray 71 (0, 0)), (px, ledObj A.g gv cw pm)] mix rfl (by decide +kernel) (keep2 (by simp) (by simp)) ?_
    refine dq 0 rfl rfl rfl rfl (q_move rfl) ?_
    refine dq 1 rfl rfl rfl rfl (q_move rfl) ?_
    refine dq 2 rfl rfl rfl rfl (q_nil rfl) ?_
    refine dq 3 rfl rfl rfl rfl (q_fieldAddr (off := 0) (o' := 0) rfl Tryz.runUnderlying119 rfl Tryz.sizeOf29 rfl rfl) ?_
    refine dq 4 rfl rfl rfl rfl (q_loadA (vs := genCells A.g gv) rfl Tryz.isAgg29 Tryz.sizeOf29 (.tl .hd) (led_gen.2 hgl)) ?_
    refine dq 5 rfl rfl rfl rfl (q_move rfl) ?_
    refine dq 6 rfl rfl rfl rfl (q_nil rfl) ?_
    refine dq 7 rfl rfl rfl rfl (q_fieldAddr (off := 0) (o' := 37 + c * 7 + 0) rfl Tryz.runUnderlying116 rfl Tryz.sizeOf51 rfl rfl) ?_
    refine dq 8 rfl rfl rfl rfl (q_loadA (vs := stCells cw[c].1) rfl Tryz.isAgg51 Tryz.sizeOf51 (.tl .hd) (led_st hgl hcw4)) ?_
    refine dq 9 rfl rfl rfl rfl (q_fieldAddr (off := 2) (o' := 2) rfl Tryz.runUnderlying71 rfl Tryz.sizeOf2 rfl rfl) ?_
    refine dq 10 rfl rfl rfl rfl (q_load (cs := hdrCells (Hdr.mk (c : Nat) ep (ht + 1) vw pa txr ro pr)) (v := iv (ht + 1)) rfl Tryz.isAgg2 .hd (.s (.s .z))) ?_
    refine dn 11 rfl rfl rfl rfl (by decide +kernel) (n_call rfl Tryz.call46 (c46_shard (g := A.g) (gv := gv) hcr.1 hbi (by omega) (by rw [runS_chain]; omega) (ht + 1))) (by rintro _ _ _ _ ⟨_, _, _, rfl⟩; exact keep2 (by simp) (by simp)) ?_
    rintro _ σ2 _ hle2 ⟨sv2, rfl, hst2, rfl⟩
    refine dq 12 rfl rfl rfl rfl (q_nil rfl) ?_
    refine dq 13 rfl rfl rfl rfl (q_fieldAddr (off := 0) (o' := 37 + c * 7 + 0) rfl Tryz.runUnderlying116 rfl Tryz.sizeOf51 rfl rfl) ?_
    refine dsta 14 rfl rfl rfl rfl (by decide +kernel) (by decide +kernel) (n_storeA rfl rfl (vs := stCells sv2) hst2.one Tryz.sizeOf51 rfl (.tl .hd) (led_put hgl hcw4 sv2)) ?_
    refine dend rfl ?_
    refine go_seq ?_
    have hw2 : c < (cw.set c (sv2, cw[c].2)).length := by rw [List.length_set]; exact hcw4
    have hwe : (cw.set c (sv2, cw[c].2))[c].2 = ht := by rw [get_set]; exact hcr.2
    refine go_region ?_
    refine sq rfl (q_move rfl) ?_
    refine sq rfl (q_nil rfl) ?_
    refine sq rfl (q_fieldAddr (off := 6) (o' := 37 + c * 7 + 6) rfl Tryz.runUnderlying116 rfl Tryz.sizeOf2 rfl rfl) ?_
    refine sq rfl (q_load (cs := ledCells A.g gv (cw.set c (sv2, cw[c].2)) pm) (v := iv (cw.set c (sv2, cw[c].2))[c].2) rfl Tryz.isAgg2 (.tl .hd) (led_ht hgl hw2)) ?_
    refine sq rfl (q_add (b := 1) (c := ht + 1) rfl rfl (by rw [hwe]; exact i64_in (by omega) (by omega))) ?_
    refine sq rfl (q_nil rfl) ?_
    refine sq rfl (q_fieldAddr (off := 6) (o' := 37 + c * 7 + 6) rfl Tryz.runUnderlying116 rfl Tryz.sizeOf2 rfl rfl) ?_
    refine sst rfl (n_store rfl rfl rfl Tryz.sizeOf2 (led_put_ht hgl hw2 (ht + 1)) (.tl .hd)) ?_
    have hcwn : All2 (ChR σ2) ((cw.set c (sv2, cw[c].2)).set c ((cw.set c (sv2, cw[c].2))[c].1, ht + 1)) (A.ch.set c (runS st ts, ht + 1)) := by
      have := all2_set (hcw.mono fun _ _ h => h.up hle2) c (x := (sv2, ht + 1)) (y := (runS st ts, ht + 1)) ⟨hst2, rfl⟩
      rw [List.set_set] at this
      rw [get_set, List.set_set]
      exact this
    generalize (cw.set c (sv2, cw[c].2)).set c ((cw.set c (sv2, cw[c].2))[c].1, ht + 1) = cz at hcwn ⊢
    have hzl := hcwn.len
    rw [List.length_set, h4] at hzl
    have hz4 : c < cz.length := by omega
    refine gol_nil ?_
    refine go_seq ?_
    refine go_seq ?_
    refine go_region ?_
    refine sq rfl (q_loadA (vs := hdrCells (Hdr.mk (c : Nat) ep (ht + 1) vw pa txr ro pr)) rfl Tryz.isAgg71 Tryz.sizeOf71 .hd (Part.all (hdr_len hw))) ?_
    refine sn rfl (n_call rfl Tryz.call47 (c47 hw (hle2.get (hle1.get hK)))) ?_
    rintro _ σ3 _ hle3 ⟨rfl, rfl⟩
    have hdl : (hdrDig (Hdr.mk (c : Nat) ep (ht + 1) vw pa txr ro pr)).length = 32 := shaOf_len _
    refine snb rfl (n_alloc zero27z .agg) ?_
    intro b4
    refine sst rfl (n_storeA rfl rfl (vs := bcells (hdrDig (Hdr.mk (c : Nat) ep (ht + 1) vw pa txr ro pr))) (bcells_one _) Tryz.sizeOf27 (by rw [bcells_len, hdl]) .hd (PutAt.all (by rw [bcells_len, bcells_len, hdl]; rfl))) ?_
    refine gol_nil ?_
    refine go_seq ?_
    obtain ⟨pl, nl, cl, hlk, hlk2⟩ := hpast.look (hdrDig (Hdr.mk (c : Nat) ep (ht + 1) vw pa txr ro pr))
    refine go_draws (n := 131) [(b4, .cells (bcells (hdrDig (Hdr.mk (c : Nat) ep (ht + 1) vw pa txr ro pr))).toArray 27 (0, 0)), (px, ledObj A.g gv cz pm), (pm, mobj dv es ck)] mix rfl (by decide +kernel) (keep3 (by simp [ledObj]) (by simp [ledObj]) (by simp [ledObj])) ?_
    refine dq 0 rfl rfl rfl rfl (q_move rfl) ?_
    refine dq 1 rfl rfl rfl rfl (q_nil rfl) ?_
    refine dq 2 rfl rfl rfl rfl (q_fieldAddr (off := 65) (o' := 65) rfl Tryz.runUnderlying119 rfl Tryz.sizeOf114 rfl rfl) ?_
    refine dq 3 rfl rfl rfl rfl (q_load (v := .map (some pm)) rfl Tryz.isAgg114 (.tl .hd) (led_map hgl hzl)) ?_
    refine dq 4 rfl rfl rfl rfl (q_loadA (vs := bcells (hdrDig (Hdr.mk (c : Nat) ep (ht + 1) vw pa txr ro pr))) rfl Tryz.isAgg27 Tryz.sizeOf27 .hd (Part.all (by rw [bcells_len, hdl]))) ?_
    refine dq 5 rfl rfl rfl rfl (q_lookup (κ := Bts) (enc := dv) (es := es) (k := hdrDig (Hdr.mk (c : Nat) ep (ht + 1) vw pa txr ro pr)) (r := .slice pl nl cl) keyD rfl rfl Tryz.runUnderlying114 hdl hpast.key Tryz.zeroValue129 (.tl (.tl .hd)) hlk) ?_
    refine dq 6 rfl rfl rfl rfl (q_eqlNil rfl rfl Tryz.runUnderlying129) ?_
    refine dend rfl ?_
    refine go_cond rfl rfl (fun hc4 => ?_) (fun hc4 => ?_)
    ·
      have hpn := hlk2.1 hc4
      refine go_draws (n := 131) [(b4, .cells (bcells (hdrDig (Hdr.mk (c : Nat) ep (ht + 1) vw pa txr ro pr))).toArray 27 (0, 0)), (px, ledObj A.g gv cz pm), (pm, mobj dv es ck)] mix rfl (by decide +kernel) (keep3 (by simp [ledObj]) (by simp [ledObj]) (by simp [ledObj])) ?_
      refine dq 0 rfl rfl rfl rfl (q_move rfl) ?_
      refine dq 1 rfl rfl rfl rfl (q_nil rfl) ?_
      refine dq 2 rfl rfl rfl rfl (q_fieldAddr (off := 65) (o' := 65) rfl Tryz.runUnderlying119 rfl Tryz.sizeOf114 rfl rfl) ?_
      refine dq 3 rfl rfl rfl rfl (q_load (v := .map (some pm)) rfl Tryz.isAgg114 (.tl .hd) (led_map hgl hzl)) ?_
      refine dq 4 rfl rfl rfl rfl (q_loadA (vs := bcells (hdrDig (Hdr.mk (c : Nat) ep (ht + 1) vw pa txr ro pr))) rfl Tryz.isAgg27 Tryz.sizeOf27 .hd (Part.all (by rw [bcells_len, hdl]))) ?_
      refine dq 5 rfl rfl rfl rfl (q_move rfl) ?_
      refine dq 6 rfl rfl rfl rfl (q_nil rfl) ?_
      refine dq 7 rfl rfl rfl rfl (q_fieldAddr (off := 0) (o' := 37 + c * 7 + 0) rfl Tryz.runUnderlying116 rfl Tryz.sizeOf51 rfl rfl) ?_
      refine dq 8 rfl rfl rfl rfl (q_loadA (vs := stCells cz[c].1) rfl Tryz.isAgg51 Tryz.sizeOf51 (.tl .hd) (led_st hgl hz4)) ?_
      have hzr := hcwn.get c (by rw [List.length_set]; omega) hz4
      rw [get_set] at hzr
      refine dn 9 rfl rfl rfl rfl (by decide +kernel) (n_call rfl Tryz.call48 (c48 hsrt (hle3.get (hle2.get (hle1.get hK))) (hzr.1.up hle3) (hbi.up hN))) (by rintro _ _ _ _ ⟨_, _, _, rfl⟩; exact keep3 (by simp [ledObj]) (by simp [ledObj]) (by simp [ledObj])) ?_
      rintro _ σ4 _ hle4 ⟨lm, hlm, -, rfl⟩
      refine dna0 10 rfl rfl rfl rfl (by decide +kernel) (by decide +kernel) (n_mapSet (κ := Bts) (enc := dv) (es := es) (k := hdrDig (Hdr.mk (c : Nat) ep (ht + 1) vw pa txr ro pr)) keyD rfl rfl rfl Tryz.runUnderlying114 hdl hpast.key (.tl (.tl (.tl .hd)))) ?_
      rintro _ σ4 _ - ⟨rfl, rfl⟩
      refine dend rfl ?_
      refine go_seq ?_
      refine go_perm _ (List.perm_append_comm_assoc (_ :: _ :: _ :: [_]) Lo _) ?_
      refine go_giveSl ho (by decide) (fun σ5 hle5 hov => ?_)
      refine go_drop (_ :: _ :: L) (.cons _ (.cons _ (List.Sublist.refl _))) ?_
      refine go_region ?_
      refine sq rfl (q_move rfl) ?_
      refine sq rfl (q_assign rfl) ?_
      refine sq rfl (q_assign rfl) ?_
      refine gol_nil ?_
      refine go_ret Tryz.func21 Tryz.results21 rfl rfl rfl (by repeat (first | exact Sto.le_refl _ | assumption | refine Sto.le_trans ?_ (by assumption))) ?_
      refine ⟨ov, _, ⟨A.g, A.ch.set c (runS st ts, ht + 1), fun k => if k = hdrDig (Hdr.mk (c : Nat) ep (ht + 1) vw pa txr ro pr) then some lm else A.past k⟩, rfl, hov, rfl, rfl, rfl, ⟨⟨gv, cz, pm, _, _, rfl, ((((hgr.up hle1).up hle2).up hle3).up hle4).up hle5, ((hcwn.mono fun _ _ h => h.up hle3).mono fun _ _ h => h.up hle4).mono fun _ _ h => h.up hle5, by rw [List.length_set]; exact h4, PastR.put (hpast.up (by repeat (first | exact Sto.le_refl _ | assumption | refine Sto.le_trans ?_ (by assumption)))) hdl (hlm.up hle5) _⟩⟩⟩
    ·
      refine go_skip ?_
      refine go_seq ?_
      refine go_perm _ (List.perm_append_comm_assoc (_ :: _ :: _ :: [_]) Lo _) ?_
      refine go_giveSl ho (by decide) (fun σ5 hle5 hov => ?_)
      refine go_drop (_ :: _ :: L) (.cons _ (.cons _ (List.Sublist.refl _))) ?_
      refine go_region ?_
      refine sq rfl (q_move rfl) ?_
      refine sq rfl (q_assign rfl) ?_
      refine sq rfl (q_assign rfl) ?_
      refine gol_nil ?_
      refine go_ret Tryz.func21 Tryz.results21 rfl rfl rfl (by repeat (first | exact Sto.le_refl _ | assumption | refine Sto.le_trans ?_ (by assumption))) ?_
      refine ⟨ov, _, ⟨A.g, A.ch.set c (runS st ts, ht + 1), A.past⟩, rfl, hov, rfl, rfl, rfl, ⟨⟨gv, cz, pm, _, _, rfl, (((hgr.up hle1).up hle2).up hle3).up hle5, (hcwn.mono fun _ _ h => h.up hle3).mono fun _ _ h => h.up hle5, by rw [List.length_set]; exact h4, hpast.up (by repeat (first | exact Sto.le_refl _ | assumption | refine Sto.le_trans ?_ (by assumption)))⟩⟩⟩
end Go.Eng
