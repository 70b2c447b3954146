/- A part of the proof of this: Payments and locks of a shard come out as they stand on paper (TopPaid): for every input, with the listed package variables as the program's text lays them, TopPaid answers true and its argument reads as it did. -/
import Derived.Test.YtddoimkbjgfjnaaGreatDoorPaid12
import Derived.Test.YtddoimkbjgfjnaaGreatDoorPaid04
import Derived.MapKept
import Derived.Laws.NewFold
namespace Go.Eng
open Go Go.Proofs
set_option maxRecDepth 20000
def payTx (a b m o : UInt64) : Tx := ⟨1, a, b, m, o, 0, 0, z32, 0⟩
def paySt (st : LSt) (a b m : UInt64) : LSt := giveSt (takeSt st a m) b m
theorem drop5 {A B C D X L : SHeap} {p q r : Nat × Obj} : L.Sublist (A ++ (B ++ (C ++ (D ++ (X ++ (p :: q :: r :: L)))))) :=
  ((((((((List.sublist_cons_self r L).cons q).cons p).trans (List.sublist_append_right X _)).trans (List.sublist_append_right D _)).trans (List.sublist_append_right C _)).trans (List.sublist_append_right B _)).trans (List.sublist_append_right A _))
theorem c76 {σ : Sto} {L : SHeap} {sv : SV} {st : LSt} {N : Nat} {p : Option Addr} {c : Nat} (h : StR σ L sv st) (hb : st.le N) (hN : N < 80000000) (a b m o : UInt64) : Ctr Tryz.prog 76 #[.agg (stCells sv).toArray, .agg (txCells (payTx a b m o) (.slice p 0 c)).toArray] σ L fun v σ' L' => (takeErr (acct st.accs a) m o ≠ 0 ∧ v = .tuple #[.agg (stCells zSV).toArray, iv (takeErr (acct st.accs a) m o)] ∧ L' = L) ∨ (takeErr (acct st.accs a) m o = 0 ∧ ∃ sv' L1 L2 L3 L4 L5, v = .tuple #[.agg (stCells sv').toArray, iv 0] ∧ StO σ' sv' (paySt st a b m) L1 L2 L3 L4 L5 ∧ L' = L1 ++ (L2 ++ (L3 ++ (L4 ++ (L5 ++ L))))) := by
  refine ctr_enter Tryz.func76 rfl Tryz.ntmps76 (by simp) ?_
  refine go_seq ?_
  refine go_region ?_
  refine snb rfl (n_box rfl (.agg (l := stCells _))) ?_
  intro b1
  refine snb rfl (n_box rfl (.agg (l := txCells (payTx a b m o) _))) ?_
  intro b2
  refine snb rfl (n_alloc Tryz.zeroValue51 .agg) ?_
  intro b3
  refine sq rfl (q_assign rfl) ?_
  refine gol_nil ?_
  refine go_seq ?_
  refine go_seq ?_
  refine go_region ?_
  refine sq rfl (q_fieldAddr (off := 0) (o' := 0) rfl Tryz.runUnderlying42 rfl Tryz.sizeOf3 rfl rfl) ?_
  refine sq rfl (q_load (v := iv 1) rfl Tryz.isAgg3 (.tl .hd) .z) ?_
  refine sq rfl (q_neq rfl rfl) ?_
  refine gol_nil ?_
  refine go_condF rfl rfl ?_
  refine go_skip ?_
  refine go_seq ?_
  refine go_seq ?_
  refine go_region ?_
  refine sq rfl (q_loadA (vs := txCells (payTx a b m o) (.slice p 0 c)) rfl Tryz.isAgg42 Tryz.sizeOf42 (.tl .hd) (Part.all (tx_len rfl))) ?_
  refine sn rfl (n_call rfl Tryz.call109 (c109_1 a b m o)) ?_
  rintro v1 σ1 _ hle1 ⟨rfl, rfl⟩
  refine sq rfl (q_assign rfl) ?_
  refine gol_nil ?_
  refine go_seq ?_
  refine go_region ?_
  refine sq rfl (q_move rfl) ?_
  refine sq rfl (q_neq rfl rfl) ?_
  refine gol_nil ?_
  refine go_condF rfl rfl ?_
  refine go_skip ?_
  refine go_seq ?_
  refine go_region ?_
  refine sq rfl (q_loadA (vs := stCells sv) rfl Tryz.isAgg51 Tryz.sizeOf51 (.tl (.tl .hd)) (Part.all rfl)) ?_
  refine sq rfl (q_fieldAddr (off := 1) (o' := 1) rfl Tryz.runUnderlying42 rfl Tryz.sizeOf31 rfl rfl) ?_
  refine sq rfl (q_load (v := w6 a) rfl Tryz.isAgg31 (.tl .hd) (.s .z)) ?_
  refine sq rfl (q_fieldAddr (off := 3) (o' := 3) rfl Tryz.runUnderlying42 rfl Tryz.sizeOf31 rfl rfl) ?_
  refine sq rfl (q_load (v := w6 m) rfl Tryz.isAgg31 (.tl .hd) (.s (.s (.s .z)))) ?_
  refine sq rfl (q_fieldAddr (off := 4) (o' := 4) rfl Tryz.runUnderlying42 rfl Tryz.sizeOf31 rfl rfl) ?_
  refine sq rfl (q_load (v := w6 o) rfl Tryz.isAgg31 (.tl .hd) (.s (.s (.s (.s .z))))) ?_
  refine sn rfl (n_call rfl Tryz.call110 (c110 ((h.up hle1).more ((Keep.c2 _ _ _).trans (Keep.cons _ _))) hb (by omega) a m o)) ?_
  rintro v2 σ2 _ hle2 (⟨hne, rfl, rfl⟩ | ⟨hez, sv', L1, L2, L3, L4, L5, rfl, ho, rfl⟩)
  ·
    refine sq rfl (q_move rfl) ?_
    refine sq rfl (q_extract rfl .z) ?_
    refine sq rfl (q_extract rfl (.s .z)) ?_
    refine sst rfl (n_storeA rfl rfl (vs := stCells zSV) rfl Tryz.sizeOf51 rfl (.tl (.tl .hd)) (PutAt.all rfl)) ?_
    refine sq rfl (q_assign rfl) ?_
    refine gol_nil ?_
    refine go_seq ?_
    refine go_seq ?_
    refine go_region ?_
    refine sq rfl (q_move rfl) ?_
    refine sq rfl (q_neq (a := takeErr (acct st.accs a) m o) (b := 0) rfl rfl) ?_
    refine gol_nil ?_
    have hd : (!decide (takeErr (acct st.accs a) m o = 0)) = true := by simp [hne]
    refine go_cond rfl rfl (fun hc2 => ?_) (fun hc2 => ?_)
    ·
      refine go_seq ?_
      refine go_region ?_
      refine sq rfl (q_buildS (ns := [1, 1, 1, 1, 1, 1]) (.zero (z := [_]) rfl (.zero (z := [_]) rfl (.zero (z := [_]) rfl (.zero (z := [_]) rfl (.zero (z := [_]) rfl (.zero (z := [_]) rfl .nil)))))) Tryz.zeroValue51 Tryz.runUnderlying51 (places51 Tryz.runUnderlying51) rfl) ?_
      refine sq rfl (q_move rfl) ?_
      refine sst rfl (n_storeA rfl rfl (vs := stCells zSV) rfl Tryz.sizeOf51 rfl .hd (PutAt.all rfl)) ?_
      refine sq rfl (q_assign rfl) ?_
      refine gol_nil ?_
      refine go_retR Tryz.func76 Tryz.results76 rfl (.cellA rfl Tryz.isAgg51 Tryz.sizeOf51 .hd (Part.all rfl) (.tmp rfl .nil)) (.cons _ (.cons _ (.cons _ (List.Sublist.refl _)))) (by repeat (first | exact Sto.le_refl _ | assumption | refine Sto.le_trans ?_ (by assumption))) ?_
      exact Or.inl ⟨hne, rfl, rfl⟩
    ·
      exact absurd (by simpa using hc2) hne
  ·
    refine sq rfl (q_move rfl) ?_
    refine sq rfl (q_extract rfl .z) ?_
    refine sq rfl (q_extract rfl (.s .z)) ?_
    refine sst rfl (n_storeA rfl rfl (vs := stCells _) ho.one Tryz.sizeOf51 rfl (.app _ (.app _ (.app _ (.app _ (.app _ (.tl (.tl .hd))))))) (PutAt.all rfl)) ?_
    refine sq rfl (q_assign rfl) ?_
    refine gol_nil ?_
    refine go_seq ?_
    refine go_seq ?_
    refine go_region ?_
    refine sq rfl (q_move rfl) ?_
    refine sq rfl (q_neq (a := 0) (b := 0) rfl rfl) ?_
    refine gol_nil ?_
    refine go_condF rfl rfl ?_
    refine go_skip ?_
    refine go_seq ?_
    refine go_region ?_
    refine sq rfl (q_loadA (vs := stCells sv') rfl Tryz.isAgg51 Tryz.sizeOf51 (.app _ (.app _ (.app _ (.app _ (.app _ (.tl (.tl .hd))))))) (Part.all rfl)) ?_
    refine sq rfl (q_fieldAddr (off := 2) (o' := 2) rfl Tryz.runUnderlying42 rfl Tryz.sizeOf31 rfl rfl) ?_
    refine sq rfl (q_load (v := w6 b) rfl Tryz.isAgg31 (.app _ (.app _ (.app _ (.app _ (.app _ (.tl .hd)))))) (.s (.s .z))) ?_
    refine sq rfl (q_fieldAddr (off := 3) (o' := 3) rfl Tryz.runUnderlying42 rfl Tryz.sizeOf31 rfl rfl) ?_
    refine sq rfl (q_load (v := w6 m) rfl Tryz.isAgg31 (.app _ (.app _ (.app _ (.app _ (.app _ (.tl .hd)))))) (.s (.s (.s .z)))) ?_
    refine sn rfl (n_call rfl Tryz.call111 (c111 (ho.st _) (stSet_le hb) (by omega) b m)) ?_
    rintro v3 σ3 _ hle3 ⟨sv3, M1, M2, M3, M4, M5, rfl, hm, rfl⟩
    refine sst rfl (n_storeA rfl rfl (vs := stCells _) hm.one Tryz.sizeOf51 rfl (.app _ (.app _ (.app _ (.app _ (.app _ (.app _ (.app _ (.app _ (.app _ (.app _ .hd)))))))))) (PutAt.all rfl)) ?_
    refine sq rfl (q_assign rfl) ?_
    refine gol_nil ?_
    refine go_retR Tryz.func76 Tryz.results76 rfl (.cellA rfl Tryz.isAgg51 Tryz.sizeOf51 (.app _ (.app _ (.app _ (.app _ (.app _ (.app _ (.app _ (.app _ (.app _ (.app _ .hd)))))))))) (Part.all rfl) (.tmp rfl .nil)) ((List.Sublist.refl _).append ((List.Sublist.refl _).append ((List.Sublist.refl _).append ((List.Sublist.refl _).append ((List.Sublist.refl _).append drop5))))) (by repeat (first | exact Sto.le_refl _ | assumption | refine Sto.le_trans ?_ (by assumption))) ?_
    exact Or.inr ⟨hez, _, M1, M2, M3, M4, M5, rfl, hm, rfl⟩
end Go.Eng
namespace Go.Eng
open Go Go.Proofs Go.Instr
set_option maxRecDepth 20000
section
variable {κ : Type} [DecidableEq κ]
abbrev Ents (κ : Type) := List (κ × Value × Nat)
def toE (enc : κ → Value) (e : κ × Value × Nat) : MapEntry := ⟨enc e.1, e.2.1, e.2.2⟩
def assoc : Ents κ → κ → Nat → Option (Nat × Value)
  | [], _, _ => none
  | e :: es, k, i => if k = e.1 then some (i, e.2.1) else assoc es k (i + 1)
def mget (es : Ents κ) (k : κ) : Option Value := (assoc es k 0).map (·.2)
def mset (es : Ents κ) (k : κ) (v : Value) (ck : Nat) : Ents κ := match assoc es k 0 with
  | some (i, _) => es.modify i fun e => (e.1, v, e.2.2)
  | none => es ++ [(k, v, ck)]
def mclock (es : Ents κ) (k : κ) (ck : Nat) : Nat := if (assoc es k 0).isSome then ck else ck + 1
def mobj (enc : κ → Value) (es : Ents κ) (ck : Nat) : Obj := .map (es.map (toE enc)).toArray ck
theorem assoc_spec {es : Ents κ} {k : κ} {i j : Nat} {v : Value} (h : assoc es k i = some (j, v)) : ∃ m n, j = i + m ∧ es[m]? = some (k, v, n) := by
  induction es generalizing i with
  | nil => simp [assoc] at h
  | cons e es ih =>
    rw [assoc] at h
    split at h
    · rename_i hk
      simp only [Option.some.injEq, Prod.mk.injEq] at h
      exact ⟨0, e.2.2, by omega, by simp [hk, ← h.2]⟩
    · obtain ⟨m, n, h1, h2⟩ := ih h
      exact ⟨m + 1, n, by omega, by simpa using h2⟩
structure KeyOk (P : Program) (kt : TypeId) (enc : κ → Value) (good : κ → Prop) : Prop where
  check : ∀ k b w, good k → (checkKey b 10000 kt (enc k)).run P w = .ok () w
  find : ∀ k (es : Ents κ) w, good k → (∀ e ∈ es, good e.1) → (findKey kt (enc k) (es.map (toE enc))).run P w = .ok (assoc es k 0) w
  same : ∀ k, good k → sameBits 10000 (enc k) (enc k) = true
section ops
variable {P : Program} {E : Env} {σ : Sto} {K L L' : SHeap} {d : Option Tmp} {ty : TypeId} {pos : String} {af : Array Edge} {g : Option (Nat × Bool)}
theorem n_makeMap {T : TypeId} (enc : κ → Value) : Noisy P E.ev ⟨d, .makeMap T none, ty, pos, af, g⟩ σ L fun v σ' L' => ∃ b, v = .map (some b) ∧ σ' = σ ∧ L' = (b, mobj enc ([] : Ents κ) 0) :: L := by
  intro w hst
  refine .inl ⟨.map (some w.heap.size), w.alloc (.map #[] 0), ?_, σ, (w.heap.size, .map #[] 0) :: L, Sto.le_refl _, hst.push _, w.heap.size, rfl, rfl, rfl⟩
  simp [execOp, Instr.makeMap, newObj, Sem.run]
theorem q_lookup {T kt et b ck : Nat} {enc : κ → Value} {good : κ → Prop} {x y : Operand} {es : Ents κ} {k : κ} {z r : Value} (hok : KeyOk P kt enc good) (hx : E.op x = some (.map (some b))) (hy : E.op y = some (enc k)) (hU : ∀ w, (underlying T).run P w = .ok (.map kt et) w)
    (hk : good k) (hg : ∀ e ∈ es, good e.1) (hz : ∀ w, (zeroValue et).run P w = .ok z w) (hkn : Kn σ K b (mobj enc es ck)) (hr : (mget es k).getD z = r) : Quiet P E.ev ⟨d, .lookup T x y false, ty, pos, af, g⟩ K σ r := by
  intro σ' w L' h1 h2 h3
  have hh := hkn.heap h1 h2 h3
  subst hr
  have e1 : (getObj b).run P w = .ok (mobj enc es ck) w := by
    simp only [getObj, Sem.run, hh]; rfl
  simp only [execOp, Env.op_ev hx, Env.op_ev hy, Instr.lookup, Sem.run_bind, hU, Result.andThen_ok, e1, mobj]
  simp [hok.check k _ w hk, hok.find k es w hk hg]
  cases hm : assoc es k 0 with
  | none => simp [hz, mget, hm]
  | some p => simp [mget, hm]
theorem q_lookupOk {T kt et b ck : Nat} {enc : κ → Value} {good : κ → Prop} {x y : Operand} {es : Ents κ} {k : κ} {z r : Value} {t : Bool} (hok : KeyOk P kt enc good) (hx : E.op x = some (.map (some b))) (hy : E.op y = some (enc k)) (hU : ∀ w, (underlying T).run P w = .ok (.map kt et) w)
    (hk : good k) (hg : ∀ e ∈ es, good e.1) (hz : ∀ w, (zeroValue et).run P w = .ok z w) (hkn : Kn σ K b (mobj enc es ck)) (hr : (mget es k).getD z = r) (ht : (mget es k).isSome = t) : Quiet P E.ev ⟨d, .lookup T x y true, ty, pos, af, g⟩ K σ (.tuple #[r, .bool t]) := by
  intro σ' w L' h1 h2 h3
  have hh := hkn.heap h1 h2 h3
  subst hr ht
  have e1 : (getObj b).run P w = .ok (mobj enc es ck) w := by
    simp only [getObj, Sem.run, hh]; rfl
  simp only [execOp, Env.op_ev hx, Env.op_ev hy, Instr.lookup, Sem.run_bind, hU, Result.andThen_ok, e1, mobj]
  simp [hok.check k _ w hk, hok.find k es w hk hg]
  cases hm : assoc es k 0 with
  | none => simp [hz, mget, hm]
  | some p => simp [mget, hm]
theorem n_mapSet {T kt et b ck : Nat} {enc : κ → Value} {good : κ → Prop} {x y z : Operand} {es : Ents κ} {k : κ} {v : Value} (hok : KeyOk P kt enc good) (hx : E.op x = some (.map (some b))) (hy : E.op y = some (enc k)) (hv : E.op z = some v) (hU : ∀ w, (underlying T).run P w = .ok (.map kt et) w)
    (hk : good k) (hg : ∀ e ∈ es, good e.1) (hu : Upd L b (mobj enc es ck) (mobj enc (mset es k v ck) (mclock es k ck)) L') :
    Noisy P E.ev ⟨d, .mapUpdate T x y z, ty, pos, af, g⟩ σ L fun _ σ' L2 => σ' = σ ∧ L2 = L' := by
  intro w hst
  have hb := hst.own _ _ hu.mem
  have e1 : (getObj b).run P w = .ok (mobj enc es ck) w := by
    simp only [getObj, Sem.run, hb]; rfl
  have hset : ∀ o : Obj, (setObj b o).run P w = .ok () { w with heap := w.heap.setIfInBounds b o } := fun o => by
    simp only [setObj, Sem.run, hb]; rfl
  have hlt : b < w.heap.size := (Array.getElem?_eq_some_iff.1 hb).1
  refine .inr (.inl ⟨{ w with heap := w.heap.setIfInBounds b (mobj enc (mset es k v ck) (mclock es k ck)) }, ?_, σ, L', Sto.le_refl _, ?_, rfl, rfl⟩)
  · simp only [execOp, Env.op_ev hx, Env.op_ev hy, Env.op_ev hv, Instr.mapUpdate, Sem.run_bind, hU, Result.andThen_ok, e1, mobj]
    simp only [hok.check k _ w hk, hok.find k es w hk hg, Result.andThen_ok]
    cases hm : assoc es k 0 with
    | none =>
      simp only [hset, Result.andThen_ok, Sem.run_pure]
      simp [mset, mclock, hm, toE]
    | some p =>
      obtain ⟨i, u⟩ := p
      obtain ⟨m, n, hi, hget⟩ := assoc_spec hm
      have him : i = m := by omega
      subst him
      have hkey : ((((es.map (toE enc)).toArray[i]?).map (·.key)).getD (enc k)) = enc k := by simp [hget, toE]
      have hkts : (keyThatStays (enc k) (enc k)).run P w = .ok (enc k) w := by simp [keyThatStays, hok.same k hk]
      simp only [hkey, Sem.run_bind, hkts, hset, Result.andThen_ok, Sem.run_pure]
      have e2 : ((es.map (toE enc)).toArray.modify i fun e => { e with key := enc k, val := v }) = ((es.modify i fun e => (e.1, v, e.2.2)).map (toE enc)).toArray := by
        apply Array.toList_inj.1
        apply List.ext_getElem?
        intro q
        simp only [Array.toList_modify, List.getElem?_modify, List.getElem?_map]
        by_cases hq : i = q
        · subst hq; simp [hget, toE]
        · simp [hq]
      simp [mset, mclock, hm, e2]
  · exact hst.upd hu (by simp [hlt]) (fun j hj => by simp [Array.getElem?_setIfInBounds_ne (Ne.symm hj)]) ⟨rfl, rfl, rfl, Nat.le_refl _⟩
end ops
end
end Go.Eng
namespace Go.Eng
open Go Go.Proofs Go.Instr
set_option maxRecDepth 20000
theorem keyU {P : Program} {kt : TypeId} (hU : P.underlying kt = some (.int .u64)) : KeyOk P kt w6 (fun _ => True) := by
  refine ⟨fun k b w _ => MapKept.run_checkKey hU (by simp [MapKept.IsKey, w6]) b 9999, fun k es w _ _ => ?_, fun k _ => by simp [sameBits, w6]⟩
  have h : ∀ (es : Ents UInt64) i, findNow (.int .u64) (w6 k) (es.map (toE w6)) i = some (assoc es k i) := by
    intro es
    induction es with
    | nil => intro i; rfl
    | cons e es ih =>
      intro i
      simp only [List.map_cons, findNow, assoc, toE, w6, sameNow, if_true]
      by_cases hk : k = e.1
      · simp [hk]
      · have hne : ((k.toNat : Int) == (e.1.toNat : Int)) = false := by
          rw [beq_eq_false_iff_ne]; exact fun h => hk (eq64I.1 h)
        simp only [hne, if_neg hk]
        exact ih (i + 1)
  simp [findKey, run_underlying hU, h]
theorem keyI {P : Program} {kt : TypeId} (hU : P.underlying kt = some (.int .i64)) : KeyOk P kt iv (fun _ => True) := by
  refine ⟨fun k b w _ => MapKept.run_checkKey hU (by simp [MapKept.IsKey, iv]) b 9999, fun k es w _ _ => ?_, fun k _ => by simp [sameBits, iv]⟩
  have h : ∀ (es : Ents Int) i, findNow (.int .i64) (iv k) (es.map (toE iv)) i = some (assoc es k i) := by
    intro es
    induction es with
    | nil => intro i; rfl
    | cons e es ih =>
      intro i
      simp only [List.map_cons, findNow, assoc, toE, iv, sameNow, if_true]
      by_cases hk : k = e.1
      · simp [hk]
      · have hne : (k == e.1) = false := by rw [beq_eq_false_iff_ne]; exact hk
        simp only [hne, if_neg hk]
        exact ih (i + 1)
  simp [findKey, run_underlying hU, h]
def dv (d : Bts) : Value := .agg (bcells d).toArray
theorem sameBits_bytes (d : Bts) (n : Nat) : (((bcells d).zip (bcells d)).all fun (x, y) => sameBits n x y) = true := by
  induction d with
  | nil => rfl
  | cons b d ih =>
    simp only [bcells, List.map_cons, List.zip_cons_cons, List.all_cons] at ih ⊢
    rw [ih]; simp [bv, sameBits]
theorem keyD : KeyOk Tryz.prog 27 dv (fun d => d.length = 32) := by
  have u27 : Tryz.prog.underlying 27 = some (.array 32 5) := by kernel_rfl
  have u5 : Tryz.prog.underlying 5 = some (.int .u8) := by kernel_rfl
  refine ⟨fun k b w hk => ?_, fun k es w hk hg => ?_, fun k _ => ?_⟩
  · have h5 : ∀ i, i < 32 → (part 5 (bcells k).toArray (i * 1)).run Tryz.prog w = .ok (bv (k.getD i 0)) w := fun i hi => run_part_plain w pk5 (by simp [bcells, List.getD, hk, hi])
    have hc : ∀ i, (checkKey b 9999 5 (bv (k.getD i 0))).run Tryz.prog w = .ok () w := fun i => MapKept.run_checkKey u5 (by simp [MapKept.IsKey, bv]) b 9998
    show (checkKey b (9999 + 1) 27 (dv k)).run Tryz.prog w = .ok () w
    rw [checkKey, dv]
    simp only [Sem.run_bind, run_underlying u27, Result.andThen_ok]
    simp only [Std.Legacy.Range.forIn_eq_forIn_range', Std.Legacy.Range.size, Nat.sub_zero, Nat.add_one_sub_one, Nat.div_one]
    have key : ∀ (m s : Nat), s + m ≤ 32 → (forIn (List.range' s m) PUnit.unit fun i (_ : PUnit) => (do
        checkKey b 9999 5 (← part 5 (bcells k).toArray (i * (← sizeOf 5)))
        pure (ForInStep.yield PUnit.unit) : Sem (ForInStep PUnit))).run Tryz.prog w = .ok PUnit.unit w := by
      intro m
      induction m with
      | zero => intro s _; simp
      | succ m ih =>
        intro s hs
        rw [List.range'_succ, List.forIn_cons]
        simp only [Sem.run_bind, Tryz.sizeOf5, Result.andThen_ok, h5 s (by omega), hc, Sem.run_pure]
        exact ih (s + 1) (by omega)
    rw [key 32 0 (by omega)]; rfl
  · have h : ∀ (es : Ents Bts) i, (∀ e ∈ es, e.1.length = 32) → (findAsking 27 (dv k) (es.map (toE dv)) i).run Tryz.prog w = .ok (assoc es k i) w := by
      intro es
      induction es with
      | nil => intro i _; rfl
      | cons e es ih =>
        intro i hg
        have he := run_eqDig 9998 k e.1 hk (hg e List.mem_cons_self) w
        have he' : (Op.equal 27 (dv k) (dv e.1)).run Tryz.prog w = .ok (decide (k = e.1)) w := he
        simp only [List.map_cons, findAsking, assoc, toE, Sem.run_bind, he', Result.andThen_ok]
        by_cases hke : k = e.1
        · simp [hke]
        · simp only [hke, decide_false, Bool.false_eq_true, if_false]
          exact ih (i + 1) fun x hx => hg x (List.mem_cons_of_mem _ hx)
    simp only [findKey, Sem.run_bind, run_underlying u27, Result.andThen_ok]
    cases es with
    | nil => rfl
    | cons e es => exact h (e :: es) 0 hg
  · show sameBits (9999 + 1) (dv k) (dv k) = true
    simp only [dv, sameBits, BEq.rfl, Bool.true_and]
    exact sameBits_bytes k 9999
end Go.Eng
namespace Go.Eng
open Go
set_option maxRecDepth 20000
section
variable {c : Cx} {l : List Oper} {k : List Item} {E0 E : Env} {V : List Nat} {σ : Sto} {L K : SHeap}
theorem god_any (hc : chk l = true) (hd : l.all (dstOk c.n) = true) (i : Nat) (hil : i < l.length) (hV : V.elem i = false)
    (hcand : ∀ q, q < l.length → q ∉ V → (∀ m ∈ depsAt l q, m ∈ V) → ∃ (o : Oper) (Q : Value → Sto → SHeap → Prop), l[q]? = some o ∧ (match o.guard with | none => True | some (g, want) => ∃ d, dstAt l g = some d ∧ E.get d = some (.bool want)) ∧ opOk c.n E o = true ∧
      Noisy c.P E.ev o σ L Q ∧ (∀ v σ' L', Sto.le σ σ' → Q v σ' L' → Keep K L') ∧ ∀ v σ' L', Sto.le σ σ' → Q v σ' L' → GoD c l k E0 (E.putO o.dst v) (q :: V) σ' L' K) : GoD c l k E0 E V σ L K := by
  have hc := chk_spec hc
  have hV : i ∉ V := by simpa using hV
  intro fuel
  induction fuel with
  | zero =>
    intro listed t a w hi hu
    exact absurd (hi.sub i (all_listed0 (by omega) i hil)) hV
  | succ fuel ih =>
    intro listed t a w hi hu
    rw [lin_succ]
    cases hr : (Region.ready .any l.toArray listed)[t % (Region.ready .any l.toArray listed).length]? with
    | none => exact absurd (hi.sub i (all_listed hc hi.size (ready_get hr) i hil)) hV
    | some q =>
      obtain ⟨h1, h2, h3⟩ := (mem_ready hi.size).1 (List.mem_of_getElem? hr)
      have hlt := unl_set hi.size h1 h2
      by_cases hqV : q ∈ V
      · exact run_prom hc hd hi hqV h2 h3 fun a' w' hi' => ih _ _ _ _ hi' (by omega)
      · obtain ⟨o, Q, ho, hgd, hok, hn, hkeep, h⟩ := hcand q h1 hqV fun m hm => hi.sub m (h3 m hm)
        have hdeps : ∀ j ∈ depsAt l q, j ∈ V := fun j hj => hi.sub j (h3 j hj)
        have hdi : dstAt l q = o.dst := by simp [dstAt, ho]
        have hok' := hok
        simp only [opOk, Bool.and_eq_true, List.all_eq_true] at hok
        obtain ⟨⟨hsel, hhas⟩, _⟩ := hok
        have hops : l.toArray[q]? = some o := by simpa using ho
        have hlk : ∀ (t' : Tmp) (y : Value), t' ∈ looks l o → E.get t' = some y → a.tmps[t']? = some y := fun t' y hm hy =>
          look_now hc hi ho h2 h3 hm (x := y) (fun _ => hy) fun hno => by
            rw [← hi.same t' fun j hjV hjt => ?_]
            · exact hy
            · have hne : q ≠ j := fun e => hqV (e ▸ hjV)
              rcases hc.look q o j t' ho hne hjt hm with h | h
              · exact hno ⟨j, h, hjt⟩
              · exact hqV (hi.vclosed j hjV q h)
        have hw : Region.wanted o (yielded l.toArray a.tmps) = true := by
          unfold Region.wanted
          cases hg : o.guard with
          | none => rfl
          | some gw =>
            obtain ⟨g, want⟩ := gw
            rw [hg] at hgd
            obtain ⟨d, e1, e2⟩ := hgd
            have hm : d ∈ looks l o := by unfold looks; rw [hg]; simp [e1]
            have hd2 := hlk d _ hm e2
            simp only []
            unfold yielded
            unfold dstAt at e1
            cases hlg : l[g]? with
            | none => simp [hlg] at e1
            | some p => simp only [hlg] at e1; simp [hlg, e1, hd2]
        have hev : execOp a.eval o = execOp E.ev o := by
          refine exec_congr o hsel fun x hx => ?_
          cases x with
          | tmp t' =>
            have hh := hhas _ hx
            simp only [Env.has] at hh
            obtain ⟨y, hy⟩ := Option.isSome_iff_exists.1 hh
            have := hlk t' y (by unfold looks; exact List.mem_append_left _ (List.mem_filterMap.2 ⟨_, hx, rfl⟩)) hy
            simp [Act.eval, Env.ev, Array.getD_eq_getD_getElem?, this, hy]
          | _ => rfl
        refine arr_does hops hw (Q := fun v w' => ∃ σ' L', Sto.le σ σ' ∧ St σ' w' L' ∧ Q v σ' L') ?_ ?_
        · have := hn w hi.st
          unfold Does at *; rw [hev]; exact this
        · rintro v w' ⟨σ', L', g1, g2, g3⟩
          refine h v σ' L' g1 g3 fuel _ _ _ w' (inv_done hc hd hi h1 h2 h3 ho (fun j => List.mem_cons) ?_ ?_ ?_ g2 (hkeep v σ' L' g1 g3) rfl) (by omega)
          · intro d hd; simp [hd, Env.putO, Env.get_cons]
          · intro t ht
            rw [hdi] at ht
            cases hdst : o.dst with
            | none => rfl
            | some d =>
              have : d ≠ t := fun e => ht (by rw [hdst, e])
              simp only [Env.putO, Env.get_cons, if_neg this]
          · intro p hp hpq hpl hprom
            obtain ⟨o', ρ, x, e1, e2, e3, e4, e5, e6, e7⟩ := hprom.out
            have hdp : dstAt l p = o'.dst := by simp [dstAt, e1]
            have hE : ∀ t, dstAt l q ≠ some t → (E.putO o.dst v).get t = E.get t := fun t ht => by
              rw [hdi] at ht
              cases hdst : o.dst with
              | none => rfl
              | some d =>
                have : d ≠ t := fun e => ht (by rw [hdst, e])
                simp only [Env.putO, Env.get_cons, if_neg this]
            refine ⟨o', ρ, x, e1, e2, fun d hd => ?_, ?_, e5, fun t ht hj => ?_, e7⟩
            · rw [hE d (hc.dst p q d hpq (by rw [hdp]; exact hd))]; exact e3 d hd
            · rcases e4 with ⟨hq', hg'⟩ | h'
              · exact .inl ⟨fun σ2 w2 L2 hle hk hs => hq' σ2 w2 L2 (Sto.le_trans g1 hle) hk hs, hg'⟩
              · exact .inr h'
            · have hj' := hj
              obtain ⟨j, hjd, hjt⟩ := hj
              have hji : j ≠ q := fun e => hqV (e ▸ hi.vclosed p hp j hjd)
              rw [hE t (hc.dst j q t hji hjt)]; exact e6 t ht hj'
end
section
variable {c : Cx} {l : List Oper} {k : List Item} {E0 E : Env} {V : List Nat} {σ : Sto} {L K : SHeap} {d d' : Option Tmp} {op op' : Op} {ty ty' : TypeId} {pos pos' : String} {af af' : Array Edge}
theorem d2 (i j : Nat) (hi : l[i]? = some ⟨d, op, ty, pos, af, none⟩) (hj : l[j]? = some ⟨d', op', ty', pos', af', none⟩) (hV : V.elem i = false)
    (honly : (List.range l.length).all (fun q => Nat.beq q i || Nat.beq q j || V.elem q || !((depsAt l q).all V.elem)) = true)
    (hoki : opOk c.n E ⟨d, op, ty, pos, af, none⟩ = true) (hokj : opOk c.n E ⟨d', op', ty', pos', af', none⟩ = true) {Q Q' : Value → Sto → SHeap → Prop}
    (hni : Noisy c.P E.ev ⟨d, op, ty, pos, af, none⟩ σ L Q) (hnj : Noisy c.P E.ev ⟨d', op', ty', pos', af', none⟩ σ L Q')
    (hki : ∀ v σ' L', Sto.le σ σ' → Q v σ' L' → Keep K L') (hkj : ∀ v σ' L', Sto.le σ σ' → Q' v σ' L' → Keep K L')
    (h1 : ∀ v σ' L', Sto.le σ σ' → Q v σ' L' → GoC c l k E0 (E.putO d v) (i :: V) σ' L' K) (h2 : ∀ v σ' L', Sto.le σ σ' → Q' v σ' L' → GoC c l k E0 (E.putO d' v) (j :: V) σ' L' K) : GoC c l k E0 E V σ L K := by
  intro hc hd
  have hil : i < l.length := by
    rcases Nat.lt_or_ge i l.length with h | h
    · exact h
    · simp [List.getElem?_eq_none h] at hi
  refine god_any hc hd i hil hV fun q hql hqV hqd => ?_
  have := (List.all_eq_true.1 honly) q (by simpa using hql)
  simp only [Bool.or_eq_true] at this
  rcases this with ((h | h) | h) | h
  · have := Nat.eq_of_beq_eq_true h
    subst this
    exact ⟨_, Q, hi, trivial, hoki, hni, hki, fun v σ' L' a b => h1 v σ' L' a b hc hd⟩
  · have := Nat.eq_of_beq_eq_true h
    subst this
    exact ⟨_, Q', hj, trivial, hokj, hnj, hkj, fun v σ' L' a b => h2 v σ' L' a b hc hd⟩
  · exact absurd (by simpa using h) hqV
  · simp only [Bool.not_eq_true'] at h
    exfalso
    have h2 : (depsAt l q).all V.elem = true := List.all_eq_true.2 fun m hm => by simpa using hqd m hm
    rw [h2] at h; cases h
end
theorem goc_keep {c : Cx} {l : List Oper} {k : List Item} {E0 E : Env} {V : List Nat} {σ : Sto} {L K : SHeap} (K2 : SHeap) (h1 : Keep K K2) (h2 : Keep K2 L) (h : GoC c l k E0 E V σ L K2) : GoC c l k E0 E V σ L K := by
  intro hc hd fuel listed t a w hi hu
  refine h hc hd fuel listed t a w ⟨hi.size, hi.sub, hi.closed, hi.vclosed, hi.vlt, fun q hq hn => ?_, hi.n, hi.done, hi.old, hi.same, hi.defers, hi.st, h2⟩ hu
  obtain ⟨o', ρ, x, e1, e2, e3, e4, e5, e6, e7⟩ := (hi.prom q hq hn).out
  refine ⟨o', ρ, x, e1, e2, e3, ?_, e5, e6, e7⟩
  rcases e4 with ⟨hq', hg'⟩ | h'
  · exact .inl ⟨fun σ2 w2 L2 hle hk hs => hq' σ2 w2 L2 hle (fun b o hb => hk b o (h1 b o hb)) hs, hg'⟩
  · exact .inr h'
theorem goc_perm {c : Cx} {l : List Oper} {k : List Item} {E0 E : Env} {V : List Nat} {σ : Sto} {L K : SHeap} (L' : SHeap) (hp : L.Perm L') (h : GoC c l k E0 E V σ L' K) : GoC c l k E0 E V σ L K :=
  fun hc hd fuel listed t a w hi hu => h hc hd fuel listed t a w ⟨hi.size, hi.sub, hi.closed, hi.vclosed, hi.vlt, hi.prom, hi.n, hi.done, hi.old, hi.same, hi.defers, hi.st.perm hp, fun b o hb => hp.mem_iff.1 (hi.keep b o hb)⟩ hu
section
variable {c : Cx} {l : List Oper} {k : List Item} {E0 E : Env} {V : List Nat} {σ : Sto} {L K : SHeap} {d d' d'' : Option Tmp} {op op' op'' : Op} {ty ty' ty'' : TypeId} {pos pos' pos'' : String} {af af' af'' : Array Edge}
theorem d3 (i j m : Nat) (hi : l[i]? = some ⟨d, op, ty, pos, af, none⟩) (hj : l[j]? = some ⟨d', op', ty', pos', af', none⟩) (hm : l[m]? = some ⟨d'', op'', ty'', pos'', af'', none⟩) (hV : V.elem i = false)
    (honly : (List.range l.length).all (fun q => Nat.beq q i || Nat.beq q j || Nat.beq q m || V.elem q || !((depsAt l q).all V.elem)) = true)
    (hoki : opOk c.n E ⟨d, op, ty, pos, af, none⟩ = true) (hokj : opOk c.n E ⟨d', op', ty', pos', af', none⟩ = true) (hokm : opOk c.n E ⟨d'', op'', ty'', pos'', af'', none⟩ = true) {Q Q' Q'' : Value → Sto → SHeap → Prop}
    (hni : Noisy c.P E.ev ⟨d, op, ty, pos, af, none⟩ σ L Q) (hnj : Noisy c.P E.ev ⟨d', op', ty', pos', af', none⟩ σ L Q') (hnm : Noisy c.P E.ev ⟨d'', op'', ty'', pos'', af'', none⟩ σ L Q'')
    (hki : ∀ v σ' L', Sto.le σ σ' → Q v σ' L' → Keep K L') (hkj : ∀ v σ' L', Sto.le σ σ' → Q' v σ' L' → Keep K L') (hkm : ∀ v σ' L', Sto.le σ σ' → Q'' v σ' L' → Keep K L')
    (h1 : ∀ v σ' L', Sto.le σ σ' → Q v σ' L' → GoC c l k E0 (E.putO d v) (i :: V) σ' L' K) (h2 : ∀ v σ' L', Sto.le σ σ' → Q' v σ' L' → GoC c l k E0 (E.putO d' v) (j :: V) σ' L' K)
    (h3 : ∀ v σ' L', Sto.le σ σ' → Q'' v σ' L' → GoC c l k E0 (E.putO d'' v) (m :: V) σ' L' K) : GoC c l k E0 E V σ L K := by
  intro hc hd
  have hil : i < l.length := by
    rcases Nat.lt_or_ge i l.length with h | h
    · exact h
    · simp [List.getElem?_eq_none h] at hi
  refine god_any hc hd i hil hV fun q hql hqV hqd => ?_
  have := (List.all_eq_true.1 honly) q (by simpa using hql)
  simp only [Bool.or_eq_true] at this
  rcases this with (((h | h) | h) | h) | h
  · have := Nat.eq_of_beq_eq_true h
    subst this
    exact ⟨_, Q, hi, trivial, hoki, hni, hki, fun v σ' L' a b => h1 v σ' L' a b hc hd⟩
  · have := Nat.eq_of_beq_eq_true h
    subst this
    exact ⟨_, Q', hj, trivial, hokj, hnj, hkj, fun v σ' L' a b => h2 v σ' L' a b hc hd⟩
  · have := Nat.eq_of_beq_eq_true h
    subst this
    exact ⟨_, Q'', hm, trivial, hokm, hnm, hkm, fun v σ' L' a b => h3 v σ' L' a b hc hd⟩
  · exact absurd (by simpa using h) hqV
  · simp only [Bool.not_eq_true'] at h
    exfalso
    have h2 : (depsAt l q).all V.elem = true := List.all_eq_true.2 fun m hm => by simpa using hqd m hm
    rw [h2] at h; cases h
end
section
variable {c : Cx} {l : List Oper} {k : List Item} {E0 E : Env} {V : List Nat} {σ : Sto} {L K : SHeap} {d d' : Tmp} {op op' : Op} {ty ty' : TypeId} {pos pos' : String} {af af' : Array Edge}
theorem dql (i : Nat) (ho : l[i]? = some ⟨some d, op, ty, pos, af, none⟩) (hV : V.elem i = false) (hdeps : (depsAt l i).all V.elem = true) (hok : opOk c.n E ⟨some d, op, ty, pos, af, none⟩ = true)
    (honly : (List.range l.length).all (fun j => Nat.beq j i || V.elem j || !((depsAt l j).all V.elem)) = true) {v : Value} (hq : Quiet c.P E.ev ⟨some d, op, ty, pos, af, none⟩ L σ v) (hk : Keep K L)
    (h : GoC c l k E0 ((d, v) :: E) (i :: V) σ L K) : GoC c l k E0 E V σ L K :=
  dn i ho hV hdeps hok honly hq.noisy (fun _ _ _ _ ⟨_, _, e⟩ => by rw [e]; exact hk) (fun _ _ _ _ ⟨e1, e2, e3⟩ => by subst e1 e2 e3; exact h)
theorem d2q (i j : Nat) (hi : l[i]? = some ⟨some d, op, ty, pos, af, none⟩) (hj : l[j]? = some ⟨some d', op', ty', pos', af', none⟩) (hV : V.elem i = false)
    (honly : (List.range l.length).all (fun q => Nat.beq q i || Nat.beq q j || V.elem q || !((depsAt l q).all V.elem)) = true)
    (hoki : opOk c.n E ⟨some d, op, ty, pos, af, none⟩ = true) (hokj : opOk c.n E ⟨some d', op', ty', pos', af', none⟩ = true) {v v' : Value}
    (hni : Quiet c.P E.ev ⟨some d, op, ty, pos, af, none⟩ L σ v) (hnj : Quiet c.P E.ev ⟨some d', op', ty', pos', af', none⟩ L σ v') (hk : Keep K L)
    (h1 : GoC c l k E0 ((d, v) :: E) (i :: V) σ L K) (h2 : GoC c l k E0 ((d', v') :: E) (j :: V) σ L K) : GoC c l k E0 E V σ L K :=
  d2 i j hi hj hV honly hoki hokj hni.noisy hnj.noisy (fun _ _ _ _ ⟨_, _, e⟩ => by rw [e]; exact hk) (fun _ _ _ _ ⟨_, _, e⟩ => by rw [e]; exact hk)
    (fun _ _ _ _ ⟨e1, e2, e3⟩ => by subst e1 e2 e3; exact h1) (fun _ _ _ _ ⟨e1, e2, e3⟩ => by subst e1 e2 e3; exact h2)
end
theorem goc_frz {c : Cx} {l : List Oper} {k : List Item} {E0 E : Env} {V : List Nat} {σ : Sto} {L K : SHeap} {b : Nat} {o : Obj} (hk : Keep K L) (h : ∀ σ', Sto.le σ σ' → σ' b = some o → GoC c l k E0 E V σ' L K) : GoC c l k E0 E V σ ((b, o) :: L) K := by
  intro hc hd fuel listed t a w hi hu
  have hle : Sto.le σ (σ.add b o) := Sto.le_add (hi.st.off b o List.mem_cons_self)
  refine h (σ.add b o) hle (Sto.add_get _ _ _) hc hd fuel listed t a w ⟨hi.size, hi.sub, hi.closed, hi.vclosed, hi.vlt, fun q hq hn => ?_, hi.n, hi.done, hi.old, hi.same, hi.defers, hi.st.freeze, hk⟩ hu
  obtain ⟨o', ρ, x, e1, e2, e3, e4, e5, e6, e7⟩ := (hi.prom q hq hn).out
  refine ⟨o', ρ, x, e1, e2, e3, ?_, e5, e6, e7⟩
  rcases e4 with ⟨hq', hg'⟩ | h'
  · exact .inl ⟨fun σ2 w2 L2 hle2 hk hs => hq' σ2 w2 L2 (Sto.le_trans hle hle2) hk hs, hg'⟩
  · exact .inr h'
theorem goc_meet {c : Cx} {l : List Oper} {k : List Item} {E0 E : Env} {V : List Nat} {σ : Sto} {L K : SHeap} (X : Type) (pre : X → Prop) (Ex : X → Env) (Vx : List Nat) (σx : X → Sto) (Lx : X → SHeap)
    (h1 : (∀ x, pre x → GoC c l k E0 (Ex x) Vx (σx x) (Lx x) K) → GoC c l k E0 E V σ L K) (h2 : ∀ x, pre x → GoC c l k E0 (Ex x) Vx (σx x) (Lx x) K) : GoC c l k E0 E V σ L K := h1 h2
theorem goc_eqv {c : Cx} {l : List Oper} {k : List Item} {E0 E E' : Env} {V V' : List Nat} {σ : Sto} {L K : SHeap} (h : GoC c l k E0 E' V' σ L K) (h1 : Env.Sub E E') (h2 : Env.Sub E' E) (h3 : (V.all V'.elem && V'.all V.elem) = true) : GoC c l k E0 E V σ L K := by
  have hE : ∀ t, E.get t = E'.get t := fun t => by
    cases e : E.get t with
    | some v => exact (h1.get t v e).symm
    | none =>
      cases e' : E'.get t with
      | none => rfl
      | some v => rw [h2.get t v e'] at e; cases e
  rw [Bool.and_eq_true, List.all_eq_true, List.all_eq_true] at h3
  have hV : ∀ j, j ∈ V ↔ j ∈ V' := fun j => ⟨fun hj => by simpa using h3.1 j hj, fun hj => by simpa using h3.2 j hj⟩
  intro hc hd fuel listed t a w hi hu
  refine h hc hd fuel listed t a w ⟨hi.size, fun j hj => (hV j).1 (hi.sub j hj), hi.closed, fun j hj m hm => (hV m).1 (hi.vclosed j ((hV j).2 hj) m hm), fun j hj => hi.vlt j ((hV j).2 hj), fun q hq hn => ?_, hi.n, fun j hj t v ht hv => hi.done j hj t v ht (by rw [hE]; exact hv), hi.old, fun t ht => ?_, hi.defers, hi.st, hi.keep⟩ hu
  · obtain ⟨o', ρ, x, e1, e2, e3, e4, e5, e6, e7⟩ := (hi.prom q ((hV q).2 hq) hn).out
    exact ⟨o', ρ, x, e1, e2, fun d hd => by rw [← hE]; exact e3 d hd, e4, e5, fun t ht hj => by rw [← hE]; exact e6 t ht hj, e7⟩
  · rw [← hE]; exact hi.same t fun j hj => ht j ((hV j).1 hj)
theorem go_meet {c : Cx} {it : Item} {k : List Item} {E : Env} {σ : Sto} {L : SHeap} (X : Type) (pre : X → Prop) (Ex : X → Env) (σx : X → Sto) (Lx : X → SHeap)
    (h1 : (∀ x, pre x → Go c k (Ex x) (σx x) (Lx x)) → Go c (it :: k) E σ L) (h2 : ∀ x, pre x → Go c k (Ex x) (σx x) (Lx x)) : Go c (it :: k) E σ L := h1 h2
theorem go_meet2 {c : Cx} {i1 i2 : Item} {k : List Item} {E : Env} {σ : Sto} {L : SHeap} (X : Type) (pre : X → Prop) (Ex : X → Env) (σx : X → Sto) (Lx : X → SHeap)
    (h1 : (∀ x, pre x → Go c k (Ex x) (σx x) (Lx x)) → Go c (i1 :: i2 :: k) E σ L) (h2 : ∀ x, pre x → Go c k (Ex x) (σx x) (Lx x)) : Go c (i1 :: i2 :: k) E σ L := h1 h2
theorem go_meet3 {c : Cx} {i1 i2 i3 : Item} {k : List Item} {E : Env} {σ : Sto} {L : SHeap} (X : Type) (pre : X → Prop) (Ex : X → Env) (σx : X → Sto) (Lx : X → SHeap)
    (h1 : (∀ x, pre x → Go c k (Ex x) (σx x) (Lx x)) → Go c (i1 :: i2 :: i3 :: k) E σ L) (h2 : ∀ x, pre x → Go c k (Ex x) (σx x) (Lx x)) : Go c (i1 :: i2 :: i3 :: k) E σ L := h1 h2
end Go.Eng
namespace Go.Eng
open Go Go.Proofs Go.Instr
set_option maxRecDepth 20000
structure EOk {κ : Type} (es : Ents κ) (ck : Nat) : Prop where
  nodup : (es.map (·.2.2)).Nodup
  lt : ∀ e ∈ es, e.2.2 < ck
theorem EOk.nil {κ : Type} (ck : Nat) : EOk ([] : Ents κ) ck := ⟨List.nodup_nil, fun _ h => nomatch h⟩
def iterObj (m ck : Nat) (seen : List Nat) : Obj := .mapIter (some m) ck seen.toArray ck
section
variable {κ : Type} [DecidableEq κ]
theorem modify_stamps (es : Ents κ) (i : Nat) (v : Value) : ((es.modify i fun e => (e.1, v, e.2.2)).map (·.2.2)) = es.map (·.2.2) := by
  apply List.ext_getElem?
  intro q
  simp only [List.getElem?_map, List.getElem?_modify]
  by_cases h : i = q
  · subst h; cases es[i]? <;> simp
  · simp [h]
theorem EOk.set {es : Ents κ} {ck : Nat} (h : EOk es ck) (k : κ) (v : Value) : EOk (mset es k v ck) (mclock es k ck) := by
  unfold mset mclock
  cases hm : assoc es k 0 with
  | none =>
    refine ⟨?_, fun e he => ?_⟩
    · simp only [List.map_append, List.map_cons, List.map_nil]
      refine List.nodup_append.2 ⟨h.nodup, by simp, fun a ha b hb => ?_⟩
      obtain ⟨e, he, rfl⟩ := List.mem_map.1 ha
      have := h.lt e he
      simp at hb; omega
    · simp only [Option.isSome_none, Bool.false_eq_true, ↓reduceIte]
      rcases List.mem_append.1 he with he | he
      · have := h.lt e he; omega
      · simp at he; subst he; simp
  | some p =>
    refine ⟨by simp only; rw [modify_stamps]; exact h.nodup, fun e he => ?_⟩
    simp only [Option.isSome_some, ↓reduceIte]
    have : e.2.2 ∈ es.map (·.2.2) := by rw [← modify_stamps es p.1 v]; exact List.mem_map.2 ⟨e, he, rfl⟩
    obtain ⟨e', he', heq⟩ := List.mem_map.1 this
    rw [← heq]; exact h.lt e' he'
theorem assoc_some {es : Ents κ} {k : κ} {i : Nat} : (assoc es k i).isSome = true ↔ ∃ e ∈ es, e.1 = k := by
  induction es generalizing i with
  | nil => simp [assoc]
  | cons e es ih =>
    rw [assoc]
    split
    · rename_i h; simp [h]
    · rename_i h
      rw [ih]
      constructor
      · rintro ⟨x, hx, e1⟩; exact ⟨x, List.mem_cons_of_mem _ hx, e1⟩
      · rintro ⟨x, hx, e1⟩
        rcases List.mem_cons.1 hx with rfl | hx
        · exact absurd e1.symm h
        · exact ⟨x, hx, e1⟩
theorem assoc_map {es : Ents κ} {k : κ} {i j : Nat} : (assoc es k i).map (·.2) = (assoc es k j).map (·.2) := by
  induction es generalizing i j with
  | nil => rfl
  | cons e es ih =>
    rw [assoc, assoc]
    split
    · rfl
    · exact ih
theorem mget_nil (k : κ) : mget ([] : Ents κ) k = none := rfl
theorem mget_cons (e : κ × Value × Nat) (es : Ents κ) (k : κ) : mget (e :: es) k = if k = e.1 then some e.2.1 else mget es k := by
  unfold mget
  rw [assoc]
  split
  · rfl
  · exact assoc_map
theorem mget_app (es : Ents κ) (e : κ × Value × Nat) (k : κ) : mget (es ++ [e]) k = (mget es k).or (if k = e.1 then some e.2.1 else none) := by
  induction es with
  | nil => simp [mget_cons, mget_nil]
  | cons x es ih => rw [List.cons_append, mget_cons, mget_cons, ih]; split <;> rfl
theorem mget_modify {es : Ents κ} {k : κ} {v u : Value} {j i : Nat} (h : assoc es k i = some (j, u)) (x : κ) : mget (es.modify (j - i) fun e => (e.1, v, e.2.2)) x = if x = k then some v else mget es x := by
  induction es generalizing i j with
  | nil => simp [assoc] at h
  | cons e es ih =>
    rw [assoc] at h
    split at h
    · rename_i hk
      simp only [Option.some.injEq, Prod.mk.injEq] at h
      rw [← h.1, Nat.sub_self, List.modify_zero_cons, mget_cons, mget_cons]
      simp only [← hk]
      split <;> rfl
    · rename_i hk
      obtain ⟨m, n, hj, _⟩ := assoc_spec h
      have := ih h
      rw [show j - i = (j - (i + 1)) + 1 by omega, List.modify_succ_cons, mget_cons, this, mget_cons]
      by_cases hx : x = e.1
      · rw [if_pos hx, if_pos hx, if_neg (fun e2 => hk (e2.symm.trans hx))]
      · rw [if_neg hx, if_neg hx]
theorem mget_set (es : Ents κ) (k : κ) (v : Value) (ck : Nat) (x : κ) : mget (mset es k v ck) x = if x = k then some v else mget es x := by
  unfold mset
  cases hm : assoc es k 0 with
  | none =>
    simp only
    rw [mget_app]
    by_cases hx : x = k
    · subst hx
      have : mget es x = none := by unfold mget; rw [hm]; rfl
      simp [this]
    · simp only [if_neg hx]
      cases mget es x <;> rfl
  | some p =>
    obtain ⟨j, u⟩ := p
    have := mget_modify (v := v) hm x
    rwa [Nat.sub_zero] at this
theorem mem_mset {es : Ents κ} {k : κ} {v : Value} {ck : Nat} {e : κ × Value × Nat} (h : e ∈ mset es k v ck) : e.1 = k ∨ ∃ x ∈ es, x.1 = e.1 := by
  unfold mset at h
  cases hm : assoc es k 0 with
  | none =>
    rw [hm] at h
    rcases List.mem_append.1 h with h | h
    · exact .inr ⟨e, h, rfl⟩
    · simp at h; subst h; exact .inl rfl
  | some p =>
    rw [hm] at h
    have h : e ∈ es.modify p.1 fun e => (e.1, v, e.2.2) := h
    obtain ⟨q, hq, rfl⟩ := List.mem_iff_getElem.1 h
    rw [List.length_modify] at hq
    rw [List.getElem_modify]
    split
    · exact .inr ⟨es[q], List.getElem_mem hq, rfl⟩
    · exact .inr ⟨es[q], List.getElem_mem hq, rfl⟩
end
section ops
variable {κ : Type} [DecidableEq κ] {P : Program} {E : Env} {σ : Sto} {K L L' : SHeap} {L'' : List Nat → SHeap} {d : Option Tmp} {ty : TypeId} {pos : String} {af : Array Edge} {g : Option (Nat × Bool)}
theorem n_range {T kt et m ck : Nat} {enc : κ → Value} {x : Operand} {es : Ents κ} (hx : E.op x = some (.map (some m))) (hU : ∀ w, (underlying T).run P w = .ok (.map kt et) w) (hkn : Kn σ L m (mobj enc es ck)) :
    Noisy P E.ev ⟨d, .range T x, ty, pos, af, g⟩ σ L (New σ L (iterObj m ck [])) := by
  intro w hst
  have hh := hkn.heap (Sto.le_refl _) (Keep.refl _) hst
  refine .inl ⟨.pointer (some ⟨w.heap.size, 0, none⟩), w.alloc (iterObj m ck []), ?_, σ, _, Sto.le_refl _, hst.push _, w.heap.size, rfl, rfl, rfl⟩
  have e1 : (getObj m).run P w = .ok (mobj enc es ck) w := by simp only [getObj, Sem.run, hh]; rfl
  simp only [execOp, Env.op_ev hx, Instr.range, Sem.run_bind, hU, Result.andThen_ok, e1, mobj, Sem.run_pure]
  simp [newObj, Sem.run, iterObj]
theorem n_next {m ck r : Nat} {enc : κ → Value} {x : Operand} {es : Ents κ} {seen : List Nat} {rt : TypeId} (hx : E.op x = some (.pointer (some ⟨r, 0, none⟩))) (hok : EOk es ck) (hkn : Kn σ L m (mobj enc es ck)) (hit : (r, iterObj m ck seen) ∈ L)
    (hu : ∀ s, Upd L r (iterObj m ck seen) (iterObj m ck s) (L'' s)) :
    Noisy P E.ev ⟨d, .next x false, rt, pos, af, g⟩ σ L fun v σ' L2 => (v = .tuple #[.bool false] ∧ σ' = σ ∧ L2 = L ∧ ∀ e ∈ es, e.2.2 ∈ seen) ∨
      ∃ e, e ∈ es ∧ e.2.2 ∉ seen ∧ v = .tuple #[.bool true, enc e.1, e.2.1] ∧ σ' = σ ∧ L2 = L'' (seen ++ [e.2.2]) := by
  intro w hst
  have hh := hkn.heap (Sto.le_refl _) (Keep.refl _) hst
  have hr := hst.own _ _ hit
  have e1 : (getObj m).run P w = .ok (mobj enc es ck) w := by simp only [getObj, Sem.run, hh]; rfl
  have e2 : (getObj r).run P w = .ok (iterObj m ck seen) w := by simp only [getObj, Sem.run, hr]; rfl
  have hchoose : ∀ n, 0 < n → ∃ i w1, i < n ∧ (choose (.mapNext n)).run P w = .ok i w1 ∧ St σ w1 L ∧ w1.heap = w.heap := fun n hn => by
    rw [run_choose_drew]
    split
    · exact ⟨0, w, hn, rfl, hst, rfl⟩
    · exact ⟨_, w.drew, Nat.mod_lt _ hn, rfl, hst.draw 1, rfl⟩
  have hborn : (es.map (toE enc)).toArray.all (fun e => decide (e.born < ck)) = true := by
    simp only [List.all_toArray, List.all_map, List.all_eq_true, Function.comp, toE]
    exact fun e he => decide_eq_true (hok.lt e he)
  generalize hleft : (es.map (toE enc)).toArray.filter (fun e => !seen.toArray.contains e.born) = left
  have hleft2 : ∀ e ∈ left, e.born < ck ∧ e.born ∉ seen ∧ ∃ x ∈ es, e = toE enc x := fun e he => by
    rw [← hleft, Array.mem_filter] at he
    obtain ⟨h1, h2⟩ := he
    simp only [List.mem_toArray, List.mem_map] at h1
    obtain ⟨x, hx, rfl⟩ := h1
    exact ⟨hok.lt x hx, by simpa using h2, x, hx, rfl⟩
  have hold : left.filter (fun e => decide (e.born < ck)) = left := by
    apply Array.filter_eq_self.2
    intro e he
    simpa using (hleft2 e he).1
  have hnew : left.filter (fun e => decide (e.born ≥ ck)) = #[] := by
    apply Array.filter_eq_empty_iff.2
    intro e he
    have := (hleft2 e he).1
    simp; omega
  have hbad : (!seen.toArray.isEmpty && !(es.map (toE enc)).toArray.isEmpty && (es.map (toE enc)).toArray.all (fun e => decide (e.born ≥ ck))) = false := by
    cases es with
    | nil => simp
    | cons x xs =>
      have := hok.lt x List.mem_cons_self
      have h2 : decide ((toE enc x).born ≥ ck) = false := decide_eq_false (by show ¬ x.2.2 ≥ ck; omega)
      simp [h2]
  generalize hcs : (if left.isEmpty = true then #[none] else #[]) ++ left.map some = cs
  have hcn : 0 < cs.size := by
    rw [← hcs]
    by_cases h : left.isEmpty = true
    · simp only [if_pos h, Array.size_append]; simp; omega
    · simp only [h]
      have : left.size ≠ 0 := fun e => h (by simpa [Array.isEmpty] using e)
      simp; omega
  obtain ⟨i, w1, hi, hrun, hst1, hheap⟩ := hchoose cs.size hcn
  have hci : cs[i]? = some cs[i] := Array.getElem?_eq_getElem hi
  have hmem : cs[i] ∈ cs := Array.getElem_mem hi
  have hset : ∀ o : Obj, (setObj r o).run P w1 = .ok () { w1 with heap := w1.heap.setIfInBounds r o } := fun o => by
    simp only [setObj, Sem.run, hheap, hr]; rfl
  have hex : (Instr.next (.pointer (some ⟨r, 0, none⟩)) false rt).run P w = (match cs[i] with
      | some e => .ok (Value.tuple #[.bool true, e.key, e.val]) { w1 with heap := w1.heap.setIfInBounds r (iterObj m ck (seen ++ [e.born])) }
      | none => .ok (Value.tuple #[.bool false]) w1) := by
    simp only [Instr.next, Sem.run_bind, e2, Result.andThen_ok, iterObj, e1, mobj]
    simp only [hbad, Bool.false_eq_true, ↓reduceIte, hleft, hold, hnew, Array.append_empty, Sem.run_bind, hcs, hrun, Result.andThen_ok, hci]
    cases cs[i] with
    | none => simp
    | some e => simp [hset, iterObj]
  have hv : (execOp E.ev ⟨d, .next x false, rt, pos, af, g⟩).run P w = ((Instr.next (.pointer (some ⟨r, 0, none⟩)) false rt).run P w).andThen fun v w' => .ok (.value v) w' := by
    simp [execOp, Env.op_ev hx]
  cases hc : cs[i] with
  | none =>
    refine .inl ⟨.tuple #[.bool false], w1, ?_, σ, L, Sto.le_refl _, hst1, .inl ⟨rfl, rfl, rfl, fun e he => ?_⟩⟩
    · rw [hv, hex, hc]; rfl
    · have : left.isEmpty = true := by
        refine Classical.byContradiction fun h => ?_
        rw [hc, ← hcs, if_neg h] at hmem
        simp at hmem
      have h5 : toE enc e ∉ left := fun h => by
        rw [Array.isEmpty_iff.1 this] at h; simp at h
      refine Classical.byContradiction fun hn => h5 ?_
      rw [← hleft, Array.mem_filter]
      refine ⟨by simp only [List.mem_toArray]; exact List.mem_map.2 ⟨e, he, rfl⟩, ?_⟩
      have : (toE enc e).born ∉ seen := hn
      simpa using this
  | some e =>
    have he : e ∈ left := by
      rw [hc, ← hcs] at hmem
      rcases Array.mem_append.1 hmem with h | h
      · split at h <;> simp at h
      · simpa using h
    obtain ⟨_, h2, y, hy, rfl⟩ := hleft2 e he
    have hlt : r < w1.heap.size := by rw [hheap]; exact (Array.getElem?_eq_some_iff.1 hr).1
    refine .inl ⟨.tuple #[.bool true, enc y.1, y.2.1], { w1 with heap := w1.heap.setIfInBounds r (iterObj m ck (seen ++ [y.2.2])) }, ?_, σ, L'' (seen ++ [y.2.2]), Sto.le_refl _, ?_, .inr ⟨y, hy, h2, rfl, rfl, rfl⟩⟩
    · rw [hv, hex, hc]; rfl
    · exact hst1.upd (hu _) (by simp [hlt]) (fun j hj => by simp [Array.getElem?_setIfInBounds_ne (Ne.symm hj)]) ⟨rfl, rfl, rfl, Nat.le_refl _⟩
theorem q_entry {m ck r : Nat} {enc : κ → Value} {x : Operand} {es : Ents κ} {seen : List Nat} {e : κ × Value × Nat} (hx : E.op x = some (.pointer (some ⟨r, 0, none⟩))) (hok : EOk es ck) (he : e ∈ es) (hkn : Kn σ K m (mobj enc es ck)) (hit : Kn σ K r (iterObj m ck (seen ++ [e.2.2]))) :
    Quiet P E.ev ⟨d, .entry x, ty, pos, af, g⟩ K σ (.tuple #[enc e.1, e.2.1]) := by
  intro σ' w L' h1 h2 h3
  have hh := hkn.heap h1 h2 h3
  have hr := hit.heap h1 h2 h3
  have e1 : (getObj m).run P w = .ok (mobj enc es ck) w := by simp only [getObj, Sem.run, hh]; rfl
  have e2 : (getObj r).run P w = .ok (iterObj m ck (seen ++ [e.2.2])) w := by simp only [getObj, Sem.run, hr]; rfl
  have hback : (seen ++ [e.2.2]).toArray.back? = some e.2.2 := by simp
  have hfind : (es.map (toE enc)).toArray.find? (fun x => x.born == e.2.2) = some (toE enc e) := by
    rw [List.find?_toArray]
    have key : ∀ es : Ents κ, (es.map (·.2.2)).Nodup → e ∈ es → (es.map (toE enc)).find? (fun x => x.born == e.2.2) = some (toE enc e) := by
      intro es
      induction es with
      | nil => intro _ h; cases h
      | cons y es ih =>
        intro hn hm
        rw [List.map_cons, List.nodup_cons] at hn
        rw [List.map_cons, List.find?_cons]
        rcases List.mem_cons.1 hm with rfl | hm
        · simp [toE]
        · have hne : ((toE enc y).born == e.2.2) = false := by
            have : y.2.2 ≠ e.2.2 := fun h => hn.1 (h ▸ List.mem_map.2 ⟨e, hm, rfl⟩)
            simpa [toE] using this
          rw [hne]; exact ih hn.2 hm
    exact key es hok.nodup he
  simp only [execOp, Env.op_ev hx, Instr.entry, Sem.run_bind, e2, Result.andThen_ok, iterObj, hback, e1, mobj, hfind, toE]
  simp
end ops
end Go.Eng
