/- A part of the proof of this: Payments and locks of a shard come out as they stand on paper (TopPaid): for every input, with the listed package variables as the program's text lays them, TopPaid answers true and its argument reads as it did. -/
import Derived.Test.YtddoimkbjgfjnaaGreatDoorPaid02
namespace Go.Eng
open Go
theorem St.lt {σ : Sto} {w : World} {L : SHeap} (h : St σ w L) : σ w.heap.size = none ∧ ∀ b o, (b, o) ∈ L → b ≠ w.heap.size := by
  refine ⟨?_, fun b o hb e => ?_⟩
  · cases hs : σ w.heap.size with
    | none => rfl
    | some o => have := h.sto _ _ hs; simp at this
  · have := h.own b o hb; subst e; simp at this
theorem St.push {σ : Sto} {w : World} {L : SHeap} (h : St σ w L) (o : Obj) : St σ { w with heap := w.heap.push o } ((w.heap.size, o) :: L) := by
  obtain ⟨h1, h2⟩ := h.lt
  have old : ∀ (b : Nat) (x : Obj), w.heap[b]? = some x → (w.heap.push o)[b]? = some x := fun b x hb => by
    have hlt : b < w.heap.size := by
      rcases Nat.lt_or_ge b w.heap.size with h | h
      · exact h
      · simp [Array.getElem?_eq_none h] at hb
    rw [Array.getElem?_push_lt hlt, ← hb, Array.getElem?_eq_getElem hlt]
  refine ⟨h.amb.trans ⟨rfl, rfl, rfl, Nat.le_refl _⟩, fun b x hb => old b x (h.sto b x hb), fun b x hb => ?_, ?_, fun b x hb => ?_⟩
  · rcases List.mem_cons.1 hb with e | hb
    · cases e; simp
    · exact old b x (h.own b x hb)
  · simp only [List.map_cons, List.nodup_cons]
    exact ⟨fun hm => by obtain ⟨⟨b, x⟩, hb, e⟩ := List.mem_map.1 hm; exact h2 b x hb e, h.nodup⟩
  · rcases List.mem_cons.1 hb with e | hb
    · cases e; exact h1
    · exact h.off b x hb
theorem St.draw {σ : Sto} {w : World} {L : SHeap} (h : St σ w L) (n : Nat) : St σ { w with drawn := w.drawn + n } L := ⟨⟨h.amb.tape, h.amb.os, h.amb.output, Nat.le_trans h.amb.drawn (Nat.le_add_right _ _)⟩, h.sto, h.own, h.nodup, h.off⟩
inductive Upd : SHeap → Nat → Obj → Obj → SHeap → Prop where
  | hd {b o o' L} : Upd ((b, o) :: L) b o o' ((b, o') :: L)
  | tl {p b o o' L L'} : Upd L b o o' L' → Upd (p :: L) b o o' (p :: L')
theorem Upd.mem {L L' : SHeap} {b : Nat} {o o' : Obj} (h : Upd L b o o' L') : (b, o) ∈ L := by
  induction h with
  | hd => exact List.mem_cons_self
  | tl _ ih => exact List.mem_cons_of_mem _ ih
theorem Upd.keys {L L' : SHeap} {b : Nat} {o o' : Obj} (h : Upd L b o o' L') : L'.map (·.1) = L.map (·.1) := by
  induction h with
  | hd => rfl
  | tl _ ih => simp [ih]
theorem Upd.mem' {L L' : SHeap} {b : Nat} {o o' : Obj} (h : Upd L b o o' L') (hn : (L.map (·.1)).Nodup) : ∀ i x, (i, x) ∈ L' → (i = b ∧ x = o') ∨ (i ≠ b ∧ (i, x) ∈ L) := by
  induction h with
  | @hd b o o' L =>
    intro i x hm
    rcases List.mem_cons.1 hm with e | hm'
    · cases e; exact .inl ⟨rfl, rfl⟩
    · refine .inr ⟨fun e => ?_, List.mem_cons_of_mem _ hm'⟩
      subst e
      exact (List.nodup_cons.1 hn).1 (List.mem_map.2 ⟨(i, x), hm', rfl⟩)
  | @tl p b o o' L L' hu ih =>
    intro i x hm
    rcases List.mem_cons.1 hm with e | hm
    · subst e
      refine .inr ⟨fun e => ?_, List.mem_cons_self⟩
      subst e
      exact (List.nodup_cons.1 hn).1 (List.mem_map.2 ⟨_, hu.mem, rfl⟩)
    · rcases ih (List.nodup_cons.1 hn).2 i x hm with h | h
      · exact .inl h
      · exact .inr ⟨h.1, List.mem_cons_of_mem _ h.2⟩
theorem St.upd {σ : Sto} {w w' : World} {L L' : SHeap} {b : Nat} {o o' : Obj} (h : St σ w L) (hu : Upd L b o o' L') (hb : w'.heap[b]? = some o') (hold : ∀ i, i ≠ b → w'.heap[i]? = w.heap[i]?) (hamb : Amb w w') : St σ w' L' := by
  have hoff := h.off b o hu.mem
  refine ⟨h.amb.trans hamb, fun i x hi => ?_, fun i x hi => ?_, by rw [hu.keys]; exact h.nodup, fun i x hi => ?_⟩
  · rw [hold i (fun e => by subst e; rw [hoff] at hi; cases hi)]; exact h.sto i x hi
  · rcases hu.mem' h.nodup i x hi with ⟨rfl, rfl⟩ | ⟨hne, hm⟩
    · exact hb
    · rw [hold i hne]; exact h.own i x hm
  · rcases hu.mem' h.nodup i x hi with ⟨rfl, rfl⟩ | ⟨_, hm⟩
    · exact hoff
    · exact h.off i x hm
inductive SetAt : List Value → Nat → Value → List Value → Prop where
  | z {a v l} : SetAt (a :: l) 0 v (v :: l)
  | s {a l i v l'} : SetAt l i v l' → SetAt (a :: l) (i + 1) v (a :: l')
theorem SetAt.spec {l l' : List Value} {i : Nat} {v : Value} (h : SetAt l i v l') : l' = l.set i v ∧ i < l.length := by
  induction h with
  | z => simp
  | s _ ih => simp [ih.1, ih.2]
theorem SetAt.of {l : List Value} {i : Nat} {v : Value} (h : i < l.length) : SetAt l i v (l.set i v) := by
  induction l generalizing i with
  | nil => simp at h
  | cons a l ih =>
    cases i with
    | zero => exact .z
    | succ i => exact .s (ih (by simpa using h))
theorem SetAt.app {l m m' : List Value} {n i : Nat} {v : Value} (hn : l.length = n) (h : SetAt m i v m') : SetAt (l ++ m) (n + i) v (l ++ m') := by
  subst hn
  obtain ⟨rfl, hi⟩ := h.spec
  have : l ++ m.set i v = (l ++ m).set (l.length + i) v := by rw [List.set_append_right _ _ (by omega)]; simp
  rw [this]; exact .of (by simp; omega)
theorem SetAt.left {l m l' : List Value} {i : Nat} {v : Value} (h : SetAt l i v l') : SetAt (l ++ m) i v (l' ++ m) := by
  obtain ⟨rfl, hi⟩ := h.spec
  have : l.set i v ++ m = (l ++ m).set i v := by rw [List.set_append_left _ _ hi]
  rw [this]; exact .of (by simp; omega)
def PutAt (l : List Value) (i : Nat) (vs l' : List Value) : Prop := ∃ a m b, l = a ++ (m ++ b) ∧ l' = a ++ (vs ++ b) ∧ a.length = i ∧ m.length = vs.length
def oneCell (v : Value) : Bool := match v with | .agg _ | .tuple _ => false | _ => true
def Thaw (cs : Array Value) (fr : Nat × Nat) : Prop := ∀ i, i < cs.size → ¬ (fr.1 ≤ i ∧ i < fr.2)
theorem Thaw.zero {cs : Array Value} : Thaw cs (0, 0) := fun i _ h => by simp at h
def setFrom (cs : Array Value) (o : Nat) : List Value → Array Value
  | [] => cs
  | v :: vs => setFrom (cs.setIfInBounds o v) (o + 1) vs
theorem setFrom_size (vs : List Value) : ∀ (cs : Array Value) (o : Nat), (setFrom cs o vs).size = cs.size := by
  induction vs with
  | nil => intro cs o; rfl
  | cons v vs ih => intro cs o; simp [setFrom, ih]
theorem setFrom_toList (vs : List Value) : ∀ (cs : Array Value) (o : Nat), o + vs.length ≤ cs.size → (setFrom cs o vs).toList = cs.toList.take o ++ vs ++ cs.toList.drop (o + vs.length) := by
  induction vs with
  | nil => intro cs o h; simp [setFrom]
  | cons v vs ih =>
    intro cs o h
    simp only [List.length_cons] at h
    rw [setFrom, ih _ _ (by simp; omega)]
    simp only [Array.toList_setIfInBounds]
    have hlt : o < cs.toList.length := by simp only [Array.length_toList]; omega
    have e1 : (cs.toList.set o v).take (o + 1) = cs.toList.take o ++ [v] := by
      rw [List.take_succ_eq_append_getElem (by simpa only [List.length_set] using hlt), List.take_set_of_le (Nat.le_refl _)]
      simp
    rw [e1, List.drop_set_of_lt (by omega)]
    have e2 : o + 1 + vs.length = o + (v :: vs).length := by simp; omega
    rw [e2]; simp
theorem setCell_heap {w : World} {b o : Nat} {cs : Array Value} {t : TypeId} {fr : Nat × Nat} {v : Value} (h : w.heap[b]? = some (.cells cs t fr)) :
    (w.setCell ⟨b, o, none⟩ v).heap[b]? = some (.cells (cs.setIfInBounds o v) t fr) ∧ ∀ i, i ≠ b → (w.setCell ⟨b, o, none⟩ v).heap[i]? = w.heap[i]? := by
  refine ⟨?_, fun i hi => ?_⟩
  · simp [World.setCell, Array.getElem?_modify, h]
  · simp [World.setCell, Array.getElem?_modify, Ne.symm hi]
theorem run_storeRow {P : Program} {b : Nat} {t : TypeId} {fr : Nat × Nat} (o : Nat) (vs : List Value) : ∀ (i : Nat) (w : World) (cs : Array Value), w.heap[b]? = some (.cells cs t fr) → vs.all oneCell = true → o + i + vs.length ≤ cs.size → Thaw cs fr →
    ∃ w', (storeCells ⟨b, o, none⟩ vs i).run P w = .ok () w' ∧ w'.heap[b]? = some (.cells (setFrom cs (o + i) vs) t fr) ∧ (∀ j, j ≠ b → w'.heap[j]? = w.heap[j]?) ∧ Amb w w' := by
  induction vs with
  | nil => intro i w cs h _ _ _; exact ⟨w, by simp [storeCells], by simpa [setFrom] using h, fun _ _ => rfl, .refl _⟩
  | cons v vs ih =>
    intro i w cs h hall hn hth
    simp only [List.all_cons, Bool.and_eq_true] at hall
    simp only [List.length_cons] at hn
    have ha : (Addr.mk b o none).add i = ⟨b, o + i, none⟩ := by unfold Addr.add; split <;> simp_all
    have hlt : o + i < cs.size := by omega
    have hcell : w.cell? ⟨b, o + i, none⟩ = some cs[o + i] := by rw [cell_of h]; exact Array.getElem?_eq_getElem hlt
    have hfr : w.frozen? ⟨b, o + i, none⟩ = false := by
      have := hth (o + i) hlt
      simp only [World.frozen?, h]
      simp; omega
    obtain ⟨h1, h2⟩ := setCell_heap (o := o + i) (v := v) h
    obtain ⟨w', h3, h4, h5, h6⟩ := ih (i + 1) (w.setCell ⟨b, o + i, none⟩ v) (cs.setIfInBounds (o + i) v) h1 hall.2 (by simp; omega) (by intro j hj; exact hth j (by simpa using hj))
    refine ⟨w', ?_, ?_, fun j hj => by rw [h5 j hj, h2 j hj], (Amb.setCell _ _ _).trans h6⟩
    · have hv : v.oneCell' = true := by have := hall.1; cases v <;> simp_all [oneCell, Value.oneCell']
      have hs : (store ⟨b, o + i, none⟩ v).run P w = .ok () (w.setCell ⟨b, o + i, none⟩ v) := by rw [run_store _ _ _ _ _ hv, hcell]; simp [hfr]
      simp [storeCells, ha, hs, h3]
    · rw [setFrom]; exact h4
section ops
variable {P : Program} {E : Env} {σ : Sto} {L L' : SHeap} {d : Option Tmp} {ty : TypeId} {pos : String} {af : Array Edge} {g : Option (Nat × Bool)}
theorem n_store {T t b o : Nat} {x y : Operand} {cs cs' : List Value} {v : Value} (hx : E.op x = some (.pointer (some ⟨b, o, none⟩))) (hy : E.op y = some v) (hv : oneCell v = true)
    (hS : ∀ w, (sizeOf T).run P w = .ok 1 w) (hc : SetAt cs o v cs') (hu : Upd L b (.cells cs.toArray t (0, 0)) (.cells cs'.toArray t (0, 0)) L') :
    Noisy P E.ev ⟨d, .store T x y, ty, pos, af, g⟩ σ L fun _ σ' L2 => σ' = σ ∧ L2 = L' := by
  intro w hst
  have hb := hst.own _ _ hu.mem
  obtain ⟨hc, hlt⟩ := hc.spec
  obtain ⟨w', h1, h2, h3, h4'⟩ := run_storeRow (P := P) o [v] 0 w cs.toArray hb (by simp [hv]) (by simp; omega) Thaw.zero
  refine .inr (.inl ⟨w', ?_, σ, L', Sto.le_refl _, ?_, rfl, rfl⟩)
  · have hcells : v.cells = #[v] := by cases v <;> simp_all [oneCell, Value.cells]
    simp only [execOp, Env.op_ev hx, Env.op_ev hy, Instr.storeAt, Instr.sureAddr, storeVar]
    simp [hcells, hS, h1]
  · refine hst.upd hu ?_ h3 h4'
    rw [h2]; simp [setFrom, hc]
theorem n_storeA {T t b o n : Nat} {x y : Operand} {cs cs' vs : List Value} (hx : E.op x = some (.pointer (some ⟨b, o, none⟩))) (hy : E.op y = some (.agg vs.toArray)) (hv : vs.all oneCell = true)
    (hS : ∀ w, (sizeOf T).run P w = .ok n w) (hn : vs.length = n) (hu : Upd L b (.cells cs.toArray t (0, 0)) (.cells cs'.toArray t (0, 0)) L') (hc : PutAt cs o vs cs') :
    Noisy P E.ev ⟨d, .store T x y, ty, pos, af, g⟩ σ L fun _ σ' L2 => σ' = σ ∧ L2 = L' := by
  intro w hst
  have hb := hst.own _ _ hu.mem
  obtain ⟨a, m, z, e1, e2, e3, e4⟩ := hc
  obtain ⟨w', h1, h2, h3, h4'⟩ := run_storeRow (P := P) o vs 0 w cs.toArray hb hv (by simp [e1, e3, e4]) Thaw.zero
  refine .inr (.inl ⟨w', ?_, σ, L', Sto.le_refl _, ?_, rfl, rfl⟩)
  · simp only [execOp, Env.op_ev hx, Env.op_ev hy, Instr.storeAt, Instr.sureAddr, storeVar]
    simp [Value.cells, hS, hn, h1]
  · refine hst.upd hu ?_ h3 h4'
    rw [h2]
    have h4 := setFrom_toList vs cs.toArray o (by simp [e1, e3, e4])
    have : (setFrom cs.toArray (o + 0) vs) = cs'.toArray := by
      apply Array.toList_inj.1
      rw [Nat.add_zero, h4]
      subst e1 e2 e3
      simp [← e4]
    rw [this]
inductive CellsOf : Value → List Value → Prop where
  | agg {l : List Value} : CellsOf (.agg l.toArray) l
  | one {v} (h : oneCell v = true) : CellsOf v [v]
theorem CellsOf.spec {v : Value} {l : List Value} (h : CellsOf v l) : v.cells = l.toArray := by
  cases h with
  | agg => rfl
  | one h => cases v <;> simp_all [oneCell, Value.cells]
def New (σ : Sto) (L : SHeap) (o : Obj) (v : Value) (σ' : Sto) (L' : SHeap) : Prop := ∃ b, v = .pointer (some ⟨b, 0, none⟩) ∧ σ' = σ ∧ L' = (b, o) :: L
theorem n_box {T : Nat} {x : Operand} {v : Value} {cs : List Value} (hx : E.op x = some v) (hv : CellsOf v cs) : Noisy P E.ev ⟨d, .box T x, ty, pos, af, g⟩ σ L (New σ L (.cells cs.toArray T (0, 0))) := by
  intro w hst
  have hv := hv.spec
  refine .inl ⟨_, _, ?_, σ, _, Sto.le_refl _, hst.push _, w.heap.size, rfl, rfl, rfl⟩
  simp [execOp, Env.op_ev hx, Instr.box, newVar, newRow, hv]
theorem n_alloc {T : Nat} {z : Value} {cs : List Value} (hz : ∀ w, (zeroValue T).run P w = .ok z w) (hv : CellsOf z cs) : Noisy P E.ev ⟨d, .alloc T, ty, pos, af, g⟩ σ L (New σ L (.cells cs.toArray T (0, 0))) := by
  intro w hst
  have hv := hv.spec
  refine .inl ⟨_, _, ?_, σ, _, Sto.le_refl _, hst.push _, w.heap.size, rfl, rfl, rfl⟩
  simp [execOp, Instr.alloc, hz, newVar, newRow, hv]
def Env.ops (E : Env) : List Operand → Option (List Value)
  | [] => some []
  | x :: xs => match E.op x, E.ops xs with
    | some v, some vs => some (v :: vs)
    | _, _ => none
theorem Env.ops_ev {E : Env} : ∀ {xs : List Operand} {vs : List Value}, E.ops xs = some vs → xs.map E.ev = vs := by
  intro xs
  induction xs with
  | nil => intro vs h; simp [Env.ops] at h; subst h; rfl
  | cons x xs ih =>
    intro vs h
    simp only [Env.ops] at h
    cases hx : E.op x with
    | none => simp [hx] at h
    | some v =>
      cases hxs : E.ops xs with
      | none => simp [hx, hxs] at h
      | some us => simp only [hx, hxs, Option.some.injEq] at h; subst h; simp [Env.op_ev hx, ih hxs]
theorem n_call {gid : FuncId} {args : List Operand} {vs : List Value} {ats : Array TypeId} {Q : Value → Sto → SHeap → Prop} (hvs : E.ops args = some vs)
    (hcall : ∀ vs w, (callFunc gid vs).run P w = .ok (.enter gid vs) w) (hc : Ctr P gid vs.toArray σ L Q) : Noisy P E.ev ⟨d, .call ⟨.value (.func gid), args.toArray, ats⟩, ty, pos, af, g⟩ σ L Q := by
  intro w hst
  refine .inr (.inr ⟨gid, vs.toArray, w, ?_, ?_⟩)
  · have := Env.ops_ev hvs
    simp [execOp, resolve, Deferred.ofValue, Env.ev, invoke, this, hcall]
  · exact (hc w hst).mono fun e w' ⟨v, he, σ', L', h1, h2, h3⟩ => ⟨v, he, σ', L', h1, h2, h3⟩
theorem n_callV {gid : FuncId} {f : Operand} {args : List Operand} {vs us : List Value} {fst cap : List Value} {ats : Array TypeId} {Q : Value → Sto → SHeap → Prop} (hf : E.op f = some (.func (.func gid) fst.toArray cap.toArray)) (hvs : E.ops args = some vs)
    (hus : fst ++ vs ++ cap = us)
    (hcall : ∀ vs w, (callFunc gid vs).run P w = .ok (.enter gid vs) w) (hc : Ctr P gid us.toArray σ L Q) : Noisy P E.ev ⟨d, .call ⟨.value f, args.toArray, ats⟩, ty, pos, af, g⟩ σ L Q := by
  intro w hst
  subst hus
  refine .inr (.inr ⟨gid, (fst ++ vs ++ cap).toArray, w, ?_, ?_⟩)
  · have := Env.ops_ev hvs
    simp [execOp, resolve, Deferred.ofValue, Env.op_ev hf, invoke, this, hcall]
  · exact (hc w hst).mono fun e w' ⟨v, he, σ', L', h1, h2, h3⟩ => ⟨v, he, σ', L', h1, h2, h3⟩
end ops
end Go.Eng
namespace Go.Eng
open Go
theorem i64_in {n : Int} (h1 : -9223372036854775808 ≤ n) (h2 : n ≤ 9223372036854775807) : IntKind.i64.wrap n = n := by
  have e : IntKind.i64.wrap n = if n % 18446744073709551616 ≥ 9223372036854775808 then n % 18446744073709551616 - 18446744073709551616 else n % 18446744073709551616 := by
    simp only [IntKind.wrap, IntKind.bits, IntKind.signed, Bool.true_and]
    by_cases h : n % 18446744073709551616 ≥ 9223372036854775808
    · rw [if_pos h]; exact if_pos (by simpa using h)
    · rw [if_neg h]; exact if_neg (by simpa using h)
  rw [e]
  split <;> omega
theorem u64_in {n : Int} (h1 : 0 ≤ n) (h2 : n ≤ 18446744073709551615) : IntKind.u64.wrap n = n := by
  simp only [IntKind.wrap, IntKind.bits, IntKind.signed]
  simp; omega
theorem u32_in {n : Int} (h1 : 0 ≤ n) (h2 : n ≤ 4294967295) : IntKind.u32.wrap n = n := by
  simp only [IntKind.wrap, IntKind.bits, IntKind.signed]
  simp; omega
theorem u8_in {n : Int} (h1 : 0 ≤ n) (h2 : n ≤ 255) : IntKind.u8.wrap n = n := by
  simp only [IntKind.wrap, IntKind.bits, IntKind.signed]
  simp; omega
theorem u64_mod (n : Int) : IntKind.u64.wrap n = n % 18446744073709551616 := by
  simp [IntKind.wrap, IntKind.bits, IntKind.signed]
theorem u32_mod (n : Int) : IntKind.u32.wrap n = n % 4294967296 := by
  simp [IntKind.wrap, IntKind.bits, IntKind.signed]
theorem u8_mod (n : Int) : IntKind.u8.wrap n = n % 256 := by
  simp [IntKind.wrap, IntKind.bits, IntKind.signed]
section ops
variable {P : Program} {E : Env} {K : SHeap} {σ : Sto} {d : Option Tmp} {ty : TypeId} {pos : String} {af : Array Edge} {g : Option (Nat × Bool)}
theorem q_rem {T T2 : TypeId} {x y : Operand} {k : IntKind} {a b c : Int} (hx : E.op x = some (.int k a)) (hy : E.op y = some (.int k b)) (hb : b ≠ 0) (hc : a.tmod b = c) :
    Quiet P E.ev ⟨d, .binOp .rem T x y T2, ty, pos, af, g⟩ K σ (.int k c) := q_int hx hy fun w => by simp [binOp, Op.intDiv, hb, hc]
theorem q_quo {T T2 : TypeId} {x y : Operand} {k : IntKind} {a b c : Int} (hx : E.op x = some (.int k a)) (hy : E.op y = some (.int k b)) (hb : b ≠ 0) (hc : k.wrap (a.tdiv b) = c) :
    Quiet P E.ev ⟨d, .binOp .quo T x y T2, ty, pos, af, g⟩ K σ (.int k c) := q_int hx hy fun w => by simp [binOp, Op.intDiv, hb, hc]
theorem q_shr {T T2 : TypeId} {x y : Operand} {k k' : IntKind} {a b c : Int} (hx : E.op x = some (.int k a)) (hy : E.op y = some (.int k' b)) (hb : 0 ≤ b) (hc : a.fdiv (2 ^ (min b.toNat k.bits)) = c) :
    Quiet P E.ev ⟨d, .binOp .shr T x y T2, ty, pos, af, g⟩ K σ (.int k c) := by
  intro σ' w L' _ _ _
  simp [execOp, Env.op_ev hx, Env.op_ev hy, eqGuard, binOp, Op.shift, Int.not_lt.2 hb, hc]
theorem q_shl {T T2 : TypeId} {x y : Operand} {k k' : IntKind} {a b c : Int} (hx : E.op x = some (.int k a)) (hy : E.op y = some (.int k' b)) (hb : 0 ≤ b) (hc : k.wrap (a * 2 ^ (min b.toNat k.bits)) = c) :
    Quiet P E.ev ⟨d, .binOp .shl T x y T2, ty, pos, af, g⟩ K σ (.int k c) := by
  intro σ' w L' _ _ _
  simp [execOp, Env.op_ev hx, Env.op_ev hy, eqGuard, binOp, Op.shift, Int.not_lt.2 hb, hc]
theorem q_neg {T : TypeId} {x : Operand} {k : IntKind} {a c : Int} (hx : E.op x = some (.int k a)) (hc : k.wrap (0 - a) = c) : Quiet P E.ev ⟨d, .unOp .neg T x, ty, pos, af, g⟩ K σ (.int k c) := by
  intro σ' w L' _ _ _
  simp only [execOp, Env.op_ev hx, Op.unary, Op.intArith, hc]; rfl
end ops
end Go.Eng
namespace Go.Eng
open Go
theorem go_next {c : Cx} {todo : List Item} {E E' : Env} {σ : Sto} {L : SHeap} (h : Go c todo E' σ L) (hs : Env.Sub E' E) : Go c todo E σ L := go_env E' hs h
section
variable {c : Cx} {ops : Array Oper} {l : List Oper} {k : List Item} {E : Env} {σ : Sto} {L : SHeap} {d : Tmp} {op : Op} {ty : TypeId} {pos : String} {af : Array Edge} {g : Option (Nat × Bool)}
theorem sq (hok : opOk c.n E ⟨some d, op, ty, pos, af, none⟩ = true) {v : Value} (hq : Quiet c.P E.ev ⟨some d, op, ty, pos, af, none⟩ L σ v)
    (h : GoL c ops l k ((d, v) :: E) σ L) : GoL c ops (⟨some d, op, ty, pos, af, none⟩ :: l) k E σ L := gol_q rfl hok hq h
theorem sn (hok : opOk c.n E ⟨some d, op, ty, pos, af, none⟩ = true) {Q : Value → Sto → SHeap → Prop} (hn : Noisy c.P E.ev ⟨some d, op, ty, pos, af, none⟩ σ L Q)
    (h : ∀ v σ' L', Sto.le σ σ' → Q v σ' L' → GoL c ops l k ((d, v) :: E) σ' L') : GoL c ops (⟨some d, op, ty, pos, af, none⟩ :: l) k E σ L := gol_n rfl hok hn h
theorem sn0 (hok : opOk c.n E ⟨none, op, ty, pos, af, none⟩ = true) {Q : Value → Sto → SHeap → Prop} (hn : Noisy c.P E.ev ⟨none, op, ty, pos, af, none⟩ σ L Q)
    (h : ∀ v σ' L', Sto.le σ σ' → Q v σ' L' → GoL c ops l k E σ' L') : GoL c ops (⟨none, op, ty, pos, af, none⟩ :: l) k E σ L := gol_n rfl hok hn h
theorem sqg (hgd : wants ops E ⟨some d, op, ty, pos, af, g⟩ = some true) (hok : opOk c.n E ⟨some d, op, ty, pos, af, g⟩ = true) {v : Value} (hq : Quiet c.P E.ev ⟨some d, op, ty, pos, af, g⟩ L σ v)
    (h : GoL c ops l k ((d, v) :: E) σ L) : GoL c ops (⟨some d, op, ty, pos, af, g⟩ :: l) k E σ L := gol_qg hgd hok hq h
theorem sng (hgd : wants ops E ⟨some d, op, ty, pos, af, g⟩ = some true) (hok : opOk c.n E ⟨some d, op, ty, pos, af, g⟩ = true) {Q : Value → Sto → SHeap → Prop} (hn : Noisy c.P E.ev ⟨some d, op, ty, pos, af, g⟩ σ L Q)
    (h : ∀ v σ' L', Sto.le σ σ' → Q v σ' L' → GoL c ops l k ((d, v) :: E) σ' L') : GoL c ops (⟨some d, op, ty, pos, af, g⟩ :: l) k E σ L := gol_ng hgd hok hn h
theorem ss (hgd : wants ops E ⟨some d, op, ty, pos, af, g⟩ = some false) (hok : dstOk c.n ⟨some d, op, ty, pos, af, g⟩ = true)
    (h : GoL c ops l k ((d, undef) :: E) σ L) : GoL c ops (⟨some d, op, ty, pos, af, g⟩ :: l) k E σ L := gol_skip hgd hok h
theorem sqc {j : Nat} {want b : Bool} {p : Oper} {t : Tmp} (hp : ops[j]? = some p) (hd : p.dst = some t) (hb : E.get t = some (.bool b)) (hok : opOk c.n E ⟨some d, op, ty, pos, af, some (j, want)⟩ = true) {v : Value}
    (hq : (b == want) = true → Quiet c.P E.ev ⟨some d, op, ty, pos, af, some (j, want)⟩ L σ v)
    (h : GoL c ops l k ((d, bif b == want then v else undef) :: E) σ L) : GoL c ops (⟨some d, op, ty, pos, af, some (j, want)⟩ :: l) k E σ L := gol_qc rfl hp hd hb hok hq h
end
section
variable {c : Cx} {l : List Oper} {k : List Item} {E0 E : Env} {V : List Nat} {σ : Sto} {L K : SHeap} {d : Tmp} {op : Op} {ty : TypeId} {pos : String} {af : Array Edge} {g : Option (Nat × Bool)}
def GoC (c : Cx) (l : List Oper) (k : List Item) (E0 E : Env) (V : List Nat) (σ : Sto) (L K : SHeap) : Prop := chk l = true → l.all (dstOk c.n) = true → GoD c l k E0 E V σ L K
theorem go_draws {id : Nat} {n : Nat} (K : SHeap) (hmix : c.P.follows .mixedOrders = true) (hcn : c.n = n) (hck : (chk l && l.all (dstOk n)) = true) (hk : Keep K L) (h : GoC c l k E E [] σ L K) :
    Go c (.code (.region id l.toArray true) :: k) E σ L := by
  subst hcn
  simp only [Bool.and_eq_true] at hck
  exact go_draw K hmix hk (h hck.1 hck.2)
theorem dq (i : Nat) (ho : l[i]? = some ⟨some d, op, ty, pos, af, none⟩) (hV : V.elem i = false) (hdeps : (depsAt l i).all V.elem = true) (hok : opOk c.n E ⟨some d, op, ty, pos, af, none⟩ = true) {v : Value}
    (hq : Quiet c.P E.ev ⟨some d, op, ty, pos, af, none⟩ K σ v) (h : GoC c l k E0 ((d, v) :: E) (i :: V) σ L K) : GoC c l k E0 E V σ L K :=
  fun hc hd => god_q hc i ho rfl hV hdeps hok hq (h hc hd)
theorem dqc (i : Nat) {v : Value} {j : Nat} {want b : Bool} {t : Tmp} (ho : l[i]? = some ⟨some d, op, ty, pos, af, some (j, want)⟩) (hdt : dstAt l j = some t) (hb : E.get t = some (.bool b))
    (hV : V.elem i = false) (hdeps : (depsAt l i).all V.elem = true) (hok : opOk c.n E ⟨some d, op, ty, pos, af, some (j, want)⟩ = true)
    (hq : (b == want) = true → Quiet c.P E.ev ⟨some d, op, ty, pos, af, some (j, want)⟩ K σ v) (h : GoC c l k E0 ((d, bif b == want then v else undef) :: E) (i :: V) σ L K) : GoC c l k E0 E V σ L K :=
  fun hc hd => god_qc hc i ho rfl hdt hb hV hdeps hok hq (h hc hd)
theorem dskip (i : Nat) {j : Nat} {want : Bool} {t : Tmp} {u : Value} (ho : l[i]? = some ⟨some d, op, ty, pos, af, some (j, want)⟩) (hdt : dstAt l j = some t) (hb : E.get t = some u) (hu : u = .bool (!want) ∨ u = undef)
    (hV : V.elem i = false) (hdeps : (depsAt l i).all V.elem = true) (hok : opOk c.n E ⟨some d, op, ty, pos, af, some (j, want)⟩ = true)
    (h : GoC c l k E0 ((d, undef) :: E) (i :: V) σ L K) : GoC c l k E0 E V σ L K :=
  fun hc hd => god_skip hc i ho rfl hdt hb hu hV hdeps hok (h hc hd)
theorem dqg (i : Nat) {v : Value} {j : Nat} {want : Bool} {t : Tmp} (ho : l[i]? = some ⟨some d, op, ty, pos, af, some (j, want)⟩) (hdt : dstAt l j = some t) (hb : E.get t = some (.bool want))
    (hV : V.elem i = false) (hdeps : (depsAt l i).all V.elem = true) (hok : opOk c.n E ⟨some d, op, ty, pos, af, some (j, want)⟩ = true)
    (hq : Quiet c.P E.ev ⟨some d, op, ty, pos, af, some (j, want)⟩ K σ v) (h : GoC c l k E0 ((d, v) :: E) (i :: V) σ L K) : GoC c l k E0 E V σ L K :=
  fun hc hd => god_qc hc i ho rfl hdt hb hV hdeps hok (fun _ => hq) (by simpa [Env.putO] using h hc hd)
theorem dn (i : Nat) (ho : l[i]? = some ⟨some d, op, ty, pos, af, none⟩) (hV : V.elem i = false) (hdeps : (depsAt l i).all V.elem = true) (hok : opOk c.n E ⟨some d, op, ty, pos, af, none⟩ = true)
    (honly : (List.range l.length).all (fun j => Nat.beq j i || V.elem j || !((depsAt l j).all V.elem)) = true)
    {Q : Value → Sto → SHeap → Prop} (hn : Noisy c.P E.ev ⟨some d, op, ty, pos, af, none⟩ σ L Q) (hkeep : ∀ v σ' L', Sto.le σ σ' → Q v σ' L' → Keep K L')
    (h : ∀ v σ' L', Sto.le σ σ' → Q v σ' L' → GoC c l k E0 ((d, v) :: E) (i :: V) σ' L' K) : GoC c l k E0 E V σ L K :=
  fun hc hd => god_n hc hd i ho trivial hV hdeps hok honly hn hkeep fun v σ' L' h1 h2 => h v σ' L' h1 h2 hc hd
theorem dn0 (i : Nat) (ho : l[i]? = some ⟨none, op, ty, pos, af, none⟩) (hV : V.elem i = false) (hdeps : (depsAt l i).all V.elem = true) (hok : opOk c.n E ⟨none, op, ty, pos, af, none⟩ = true)
    (honly : (List.range l.length).all (fun j => Nat.beq j i || V.elem j || !((depsAt l j).all V.elem)) = true)
    {Q : Value → Sto → SHeap → Prop} (hn : Noisy c.P E.ev ⟨none, op, ty, pos, af, none⟩ σ L Q) (hkeep : ∀ v σ' L', Sto.le σ σ' → Q v σ' L' → Keep K L')
    (h : ∀ v σ' L', Sto.le σ σ' → Q v σ' L' → GoC c l k E0 E (i :: V) σ' L' K) : GoC c l k E0 E V σ L K :=
  fun hc hd => god_n hc hd i ho trivial hV hdeps hok honly hn hkeep fun v σ' L' h1 h2 => h v σ' L' h1 h2 hc hd
theorem dna (i : Nat) (ho : l[i]? = some ⟨some d, op, ty, pos, af, none⟩) (hV : V.elem i = false) (hdeps : (depsAt l i).all V.elem = true) (hok : opOk c.n E ⟨some d, op, ty, pos, af, none⟩ = true)
    (honly : (List.range l.length).all (fun j => Nat.beq j i || V.elem j || !((depsAt l j).all V.elem)) = true) (hanc : V.all (fun j => (anc l i).testBit j) = true)
    {Q : Value → Sto → SHeap → Prop} (hn : Noisy c.P E.ev ⟨some d, op, ty, pos, af, none⟩ σ L Q)
    (h : ∀ v σ' L', Sto.le σ σ' → Q v σ' L' → GoC c l k E0 ((d, v) :: E) (i :: V) σ' L' L') : GoC c l k E0 E V σ L K :=
  fun hc hd => god_na hc hd i ho trivial hV hdeps hok honly hanc hn fun v σ' L' h1 h2 => h v σ' L' h1 h2 hc hd
theorem dna0 (i : Nat) (ho : l[i]? = some ⟨none, op, ty, pos, af, none⟩) (hV : V.elem i = false) (hdeps : (depsAt l i).all V.elem = true) (hok : opOk c.n E ⟨none, op, ty, pos, af, none⟩ = true)
    (honly : (List.range l.length).all (fun j => Nat.beq j i || V.elem j || !((depsAt l j).all V.elem)) = true) (hanc : V.all (fun j => (anc l i).testBit j) = true)
    {Q : Value → Sto → SHeap → Prop} (hn : Noisy c.P E.ev ⟨none, op, ty, pos, af, none⟩ σ L Q)
    (h : ∀ v σ' L', Sto.le σ σ' → Q v σ' L' → GoC c l k E0 E (i :: V) σ' L' L') : GoC c l k E0 E V σ L K :=
  fun hc hd => god_na hc hd i ho trivial hV hdeps hok honly hanc hn fun v σ' L' h1 h2 => h v σ' L' h1 h2 hc hd
theorem dng (i : Nat) {j : Nat} {want : Bool} {t : Tmp} (ho : l[i]? = some ⟨some d, op, ty, pos, af, some (j, want)⟩) (hdt : dstAt l j = some t) (hb : E.get t = some (.bool want)) (hV : V.elem i = false) (hdeps : (depsAt l i).all V.elem = true) (hok : opOk c.n E ⟨some d, op, ty, pos, af, some (j, want)⟩ = true)
    (honly : (List.range l.length).all (fun j => Nat.beq j i || V.elem j || !((depsAt l j).all V.elem)) = true)
    {Q : Value → Sto → SHeap → Prop} (hn : Noisy c.P E.ev ⟨some d, op, ty, pos, af, some (j, want)⟩ σ L Q) (hkeep : ∀ v σ' L', Sto.le σ σ' → Q v σ' L' → Keep K L')
    (h : ∀ v σ' L', Sto.le σ σ' → Q v σ' L' → GoC c l k E0 ((d, v) :: E) (i :: V) σ' L' K) : GoC c l k E0 E V σ L K :=
  fun hc hd => god_n hc hd i ho ⟨t, hdt, hb⟩ hV hdeps hok honly hn hkeep fun v σ' L' h1 h2 => h v σ' L' h1 h2 hc hd
theorem dend (hV : (List.range l.length).all V.elem = true) (h : Go c k E σ L) : GoC c l k E0 E V σ L K := fun hc hd => god_end hc hd hV h
end
end Go.Eng
namespace Go.Eng
open Go Go.Builtin
section
variable {c : Cx} {ops : Array Oper} {l : List Oper} {k : List Item} {E : Env} {σ : Sto} {L L2 : SHeap} {d : Tmp} {op : Op} {ty : TypeId} {pos : String} {af : Array Edge} {g : Option (Nat × Bool)}
theorem sst (hok : opOk c.n E ⟨none, op, ty, pos, af, none⟩ = true) (hn : Noisy c.P E.ev ⟨none, op, ty, pos, af, none⟩ σ L fun _ σ' L' => σ' = σ ∧ L' = L2)
    (h : GoL c ops l k E σ L2) : GoL c ops (⟨none, op, ty, pos, af, none⟩ :: l) k E σ L := sn0 hok hn fun _ _ _ _ ⟨e1, e2⟩ => by subst e1 e2; exact h
theorem snb {o : Obj} (hok : opOk c.n E ⟨some d, op, ty, pos, af, none⟩ = true) (hn : Noisy c.P E.ev ⟨some d, op, ty, pos, af, none⟩ σ L (New σ L o))
    (h : ∀ b, GoL c ops l k ((d, .pointer (some ⟨b, 0, none⟩)) :: E) σ ((b, o) :: L)) : GoL c ops (⟨some d, op, ty, pos, af, none⟩ :: l) k E σ L :=
  sn hok hn fun _ _ _ _ ⟨b, e1, e2, e3⟩ => by subst e1 e2 e3; exact h b
end
section
variable {c : Cx} {l : List Oper} {k : List Item} {E0 E : Env} {V : List Nat} {σ : Sto} {L L2 K : SHeap} {d : Tmp} {op : Op} {ty : TypeId} {pos : String} {af : Array Edge}
theorem dst (i : Nat) (ho : l[i]? = some ⟨none, op, ty, pos, af, none⟩) (hV : V.elem i = false) (hdeps : (depsAt l i).all V.elem = true) (hok : opOk c.n E ⟨none, op, ty, pos, af, none⟩ = true)
    (honly : (List.range l.length).all (fun j => Nat.beq j i || V.elem j || !((depsAt l j).all V.elem)) = true)
    (hn : Noisy c.P E.ev ⟨none, op, ty, pos, af, none⟩ σ L fun _ σ' L' => σ' = σ ∧ L' = L2) (hkeep : Keep K L2)
    (h : GoC c l k E0 E (i :: V) σ L2 K) : GoC c l k E0 E V σ L K :=
  dn0 i ho hV hdeps hok honly hn (fun _ _ _ _ ⟨_, e2⟩ => by subst e2; exact hkeep) fun _ _ _ _ ⟨e1, e2⟩ => by subst e1 e2; exact h
theorem dsta (i : Nat) (ho : l[i]? = some ⟨none, op, ty, pos, af, none⟩) (hV : V.elem i = false) (hdeps : (depsAt l i).all V.elem = true) (hok : opOk c.n E ⟨none, op, ty, pos, af, none⟩ = true)
    (honly : (List.range l.length).all (fun j => Nat.beq j i || V.elem j || !((depsAt l j).all V.elem)) = true) (hanc : V.all (fun j => (anc l i).testBit j) = true)
    (hn : Noisy c.P E.ev ⟨none, op, ty, pos, af, none⟩ σ L fun _ σ' L' => σ' = σ ∧ L' = L2)
    (h : GoC c l k E0 E (i :: V) σ L2 L2) : GoC c l k E0 E V σ L K :=
  dna0 i ho hV hdeps hok honly hanc hn fun _ _ _ _ ⟨e1, e2⟩ => by subst e1 e2; exact h
theorem dnb {o : Obj} (i : Nat) (ho : l[i]? = some ⟨some d, op, ty, pos, af, none⟩) (hV : V.elem i = false) (hdeps : (depsAt l i).all V.elem = true) (hok : opOk c.n E ⟨some d, op, ty, pos, af, none⟩ = true)
    (honly : (List.range l.length).all (fun j => Nat.beq j i || V.elem j || !((depsAt l j).all V.elem)) = true)
    (hn : Noisy c.P E.ev ⟨some d, op, ty, pos, af, none⟩ σ L (New σ L o)) (hkeep : Keep K L)
    (h : ∀ b, GoC c l k E0 ((d, .pointer (some ⟨b, 0, none⟩)) :: E) (i :: V) σ ((b, o) :: L) K) : GoC c l k E0 E V σ L K :=
  dn i ho hV hdeps hok honly hn (fun _ _ _ _ ⟨_, _, _, e3⟩ => by subst e3; exact fun b o hb => List.mem_cons_of_mem _ (hkeep b o hb)) fun _ _ _ _ ⟨b, e1, e2, e3⟩ => by subst e1 e2 e3; exact h b
end
inductive Pick (E : Env) : List Nat → Env → Prop where
  | nil : Pick E [] []
  | cons {t ts v E'} (h : E.get t = some v) (hr : Pick E ts E') : Pick E (t :: ts) ((t, v) :: E')
theorem Pick.sub {E E' : Env} {ts : List Nat} (h : Pick E ts E') : Env.Sub E' E := by
  induction h with
  | nil => trivial
  | cons h _ ih => exact ⟨h, ih⟩
theorem go_pick {c : Cx} {todo : List Item} {E E' : Env} {σ : Sto} {L : SHeap} (ts : List Nat) (hp : Pick E ts E') (h : Go c todo E' σ L) : Go c todo E σ L := go_env E' hp.sub h
def Cells (σ : Sto) (K : SHeap) (v : Value) (n sz : Nat) (cs : List Value) : Prop :=
  cs.length = n * sz ∧ (∃ p m c, v = .slice p m c ∧ n ≤ m ∧ (cs = [] ∨ ∃ b o ds T fr, p = some ⟨b, o, none⟩ ∧ Kn σ K b (.cells ds T fr) ∧ Part ds.toList o (n * sz) cs))
theorem firstCells_run {P : Program} {σ σ' : Sto} {K L : SHeap} {v : Value} {n sz : Nat} {cs : List Value} {w : World} (h : Cells σ K v n sz cs) (hle : Sto.le σ σ') (hk : Keep K L) (hst : St σ' w L) :
    (firstCells sz n v).run P w = .ok cs.toArray w := by
  obtain ⟨hlen, p, m, c, rfl, hnm, hc⟩ := h
  rcases hc with rfl | ⟨b, o, ds, T, fr, rfl, hkn, hp⟩
  · have h0 : n * sz = 0 := by simpa using hlen.symm
    cases p with
    | none => simp [firstCells]
    | some a => simp [firstCells, h0, loadCells, loadCellsFrom]
  · have hb := hkn.heap hle hk hst
    have hsz : o + n * sz ≤ ds.size := by simpa using hp.2
    have := run_loadRow (P := P) hb o (n * sz) 0 #[] (by omega)
    have ha := hp.arr
    rw [Array.toArray_toList] at ha
    simp only [Nat.add_zero, Array.empty_append] at this
    simp [firstCells, loadCells, this, ha]
inductive Own (T sz : Nat) : Value → Nat → List Value → SHeap → Prop where
  | nil : Own T sz (.slice none 0 0) 0 [] []
  | mk {b n c : Nat} {cs junk : List Value} (hn : cs.length = n * sz) (hc : (cs ++ junk).length = c * sz) : Own T sz (.slice (some ⟨b, 0, none⟩) n c) n cs [(b, .cells (cs ++ junk).toArray T (0, 0))]
theorem Own.len {T sz n : Nat} {v : Value} {cs : List Value} {Lp : SHeap} (h : Own T sz v n cs Lp) : cs.length = n * sz := by
  cases h with
  | nil => simp
  | mk h _ => exact h
theorem Own.cells {T sz n : Nat} {v : Value} {cs : List Value} {Lp : SHeap} (σ : Sto) (L0 : SHeap) (h : Own T sz v n cs Lp) : Cells σ (Lp ++ L0) v n sz cs := by
  cases h with
  | nil => exact ⟨by simp, _, _, _, rfl, Nat.le_refl _, .inl rfl⟩
  | @mk b n c cs junk hn hc =>
    exact ⟨hn, _, _, _, rfl, Nat.le_refl _, .inr ⟨b, 0, _, T, (0, 0), rfl, .hd, by
      have := Part.mk (a := []) (vs := cs) (b := junk) (i := 0) (n := n * sz) rfl hn
      simpa using this⟩⟩
theorem nextcap_le (n c : Nat) (h : c < n) : nextslicecap n c ≤ 2 * n + 1000 := by
  unfold nextslicecap
  split
  · omega
  · split
    · omega
    · have key : ∀ r x, x ≤ 2 * n + 192 → growBy n r x ≤ 2 * n + 192 := by
        intro r
        induction r with
        | zero => intro x hx; simpa [growBy] using hx
        | succ r ih =>
          intro x hx
          simp only [growBy]
          split
          · exact hx
          · exact ih _ (by omega)
      have := key 4 c (by omega)
      omega
theorem zeroCells_size (z : Array Value) (n : Nat) : (zeroCells z n).size = n * z.size := by simp [zeroCells]
theorem run_append {P : Program} {σ : Sto} {L0 Lp : SHeap} {w : World} {ts T sz n m : Nat} {v : Value} {cs new : List Value} {z : Value} {at_ e ty : TypeId}
    (hst : St σ w (Lp ++ L0)) (hT : ∀ w, (underlying ts).run P w = .ok (.slice T) w) (hS : ∀ w, (sizeOf T).run P w = .ok sz w) {i : TypeInfo} (hi : ∀ w, (typeInfo T).run P w = .ok i w) (hb0 : 0 < i.bytes)
    (hz : ∀ w, (zeroValue T).run P w = .ok z w) (hzs : z.cells.size = sz) (hx : ∀ w, (underlying at_).run P w = .ok (.slice e) w)
    (hown : Own T sz v n cs Lp) {px : Option Addr} {cx : Nat} (hnew : Cells σ (Lp ++ L0) (.slice px m cx) m sz new) (hone : new.all oneCell = true) (hroom : (2 * (n + m) + 1000) * i.bytes ≤ 281474976710656) :
    ∃ w' v' Lp', (append_ #[ts, at_] ty #[v, .slice px m cx]).run P w = .ok v' w' ∧ Own T sz v' (n + m) (cs ++ new) Lp' ∧ St σ w' (Lp' ++ L0) := by
  have hfc : (firstCells sz m (.slice px m cx)).run P w = .ok new.toArray w := firstCells_run hnew (Sto.le_refl _) (Keep.refl _) hst
  have hlen : new.length = m * sz := hnew.1
  have grow : ∀ (p : Option Addr) (cap : Nat), v = .slice p n cap → cap < n + m →
      ∃ w' v' Lp', (append_ #[ts, at_] ty #[v, .slice px m cx]).run P w = .ok v' w' ∧ Own T sz v' (n + m) (cs ++ new) Lp' ∧ St σ w' (Lp' ++ L0) := by
    intro p cap hv hcap
    subst hv
    have hst1 : St σ { w with drawn := w.drawn + 1 } (Lp ++ L0) := hst.draw 1
    have hfc1 := firstCells_run (P := P) hnew (Sto.le_refl _) (Keep.refl _) hst1
    have hfo1 := firstCells_run (P := P) (hown.cells σ L0) (Sto.le_refl _) (Keep.refl _) hst1
    have hnc : n + m ≤ (Question.appendCap (n + m) cap T).cut (w.tape w.drawn (Question.appendCap (n + m) cap T)) := by simp only [Question.cut]; omega
    generalize hnce : (Question.appendCap (n + m) cap T).cut (w.tape w.drawn (Question.appendCap (n + m) cap T)) = nc at hnc
    refine ⟨{ { w with drawn := w.drawn + 1 } with heap := w.heap.push (.cells ((cs ++ new) ++ (zeroCells z.cells (nc - (n + m))).toList).toArray T (0, 0)) }, .slice (some ⟨w.heap.size, 0, none⟩) (n + m) nc, [(w.heap.size, .cells ((cs ++ new) ++ (zeroCells z.cells (nc - (n + m))).toList).toArray T (0, 0))], ?_, ?_, ?_⟩
    · have hforced : (Question.appendCap (n + m) cap T).forced = false := rfl
      have hns : ¬ 281474976710656 < nextslicecap (n + m) cap * i.bytes := Nat.not_lt.2 (Nat.le_trans (Nat.mul_le_mul_right _ (nextcap_le _ _ hcap)) hroom)
      have hb0' : i.bytes ≠ 0 := by omega
      have hle : ¬ n + m ≤ cap := by omega
      have ha : cs.toArray ++ (new.toArray ++ zeroCells z.cells (nc - (n + m))) = (cs ++ (new ++ (zeroCells z.cells (nc - (n + m))).toList)).toArray := by
        apply Array.toList_inj.1; simp
      have e1 : Sem.run P (firstCells sz n (.slice p n cap)) w.drew = .ok cs.toArray w.drew := hfo1
      have e2 : Sem.run P (firstCells sz m (.slice px m cx)) w.drew = .ok new.toArray w.drew := hfc1
      simp only [append_, List.getElem?_toArray, List.getElem?_cons_zero, List.getElem?_cons_succ, Sem.run_bind, hT, hS, hx, Result.andThen_ok, Sem.run_pure]
      simp [lenOf, hle, hi, hns, hb0', hforced, hnce, hz, newRow]
      rw [e1, Result.andThen_ok, e2, Result.andThen_ok, ha]
      rfl
    · exact .mk (by simp [hown.len, hlen, Nat.add_mul]) (by simp only [List.length_append, hown.len, hlen, Array.length_toList, zeroCells_size, hzs]; rw [← Nat.add_mul, ← Nat.add_mul]; congr 1; omega)
    · exact (hst1.drop (List.sublist_append_right Lp L0)).push _
  cases hown with
  | nil =>
    by_cases hm : m = 0
    · subst hm
      have hn0 : new = [] := by simpa using hlen
      subst hn0
      refine ⟨w, .slice none 0 0, [], ?_, by simpa using Own.nil, hst⟩
      simp only [append_, List.getElem?_toArray, List.getElem?_cons_zero, List.getElem?_cons_succ, Sem.run_bind, hT, hS, hx, Result.andThen_ok, Sem.run_pure]
      simp [lenOf, hfc]
    · exact grow none 0 rfl (by omega)
  | @mk b n c cs junk hn hc =>
    by_cases hcap : n + m ≤ c
    · have hb := hst.own b _ (List.mem_append_left _ List.mem_cons_self)
      have hjl : m * sz ≤ junk.length := by
        have h1 : n * sz + m * sz ≤ c * sz := by rw [← Nat.add_mul]; exact Nat.mul_le_mul_right _ hcap
        simp only [List.length_append] at hc; omega
      obtain ⟨w', h1, h2, h3, h4'⟩ := run_storeRow (P := P) (n * sz) new 0 w _ hb hone (by simp; omega) Thaw.zero
      have h4 := setFrom_toList new (cs ++ junk).toArray (n * sz) (by simp; omega)
      have h5 : setFrom (cs ++ junk).toArray (n * sz) new = (cs ++ new ++ junk.drop (m * sz)).toArray := by
        apply Array.toList_inj.1
        rw [h4]
        simp [← hn, hlen]
      rw [Nat.add_zero, h5] at h2
      have hadd : (Addr.mk b 0 none).add (n * sz) = ⟨b, n * sz, none⟩ := by unfold Addr.add; split <;> simp_all
      refine ⟨w', .slice (some ⟨b, 0, none⟩) (n + m) c, [(b, .cells (cs ++ new ++ junk.drop (m * sz)).toArray T (0, 0))], ?_, ?_, ?_⟩
      · simp only [append_, List.getElem?_toArray, List.getElem?_cons_zero, List.getElem?_cons_succ, Sem.run_bind, hT, hS, hx, Result.andThen_ok, Sem.run_pure]
        simp [lenOf, hcap, hfc, hadd, h1]
      · refine .mk (by simp [hn, hlen, Nat.add_mul]) ?_
        simp only [List.length_append, List.length_drop, hn, hlen] at hc ⊢; omega
      · exact hst.upd .hd h2 h3 h4'
    · exact grow _ c rfl (by omega)
section
variable {P : Program} {E : Env} {σ : Sto} {L0 Lp : SHeap} {d : Option Tmp} {ty : TypeId} {pos : String} {af : Array Edge} {g : Option (Nat × Bool)}
theorem n_append {ts T sz n m : Nat} {x y : Operand} {v : Value} {cs new : List Value} {z : Value} {at_ e : TypeId} {px : Option Addr} {cx : Nat} {i : TypeInfo} (hx : E.op x = some v) (hy : E.op y = some (.slice px m cx))
    (hT : ∀ w, (underlying ts).run P w = .ok (.slice T) w) (hS : ∀ w, (sizeOf T).run P w = .ok sz w) (hi : ∀ w, (typeInfo T).run P w = .ok i w) (hb0 : Nat.blt 0 i.bytes = true)
    (hz : ∀ w, (zeroValue T).run P w = .ok z w) (hzs : z.cells.size = sz) (ha : ∀ w, (underlying at_).run P w = .ok (.slice e) w)
    (hown : Own T sz v n cs Lp) (hnew : Cells σ (Lp ++ L0) (.slice px m cx) m sz new) (hone : new.all oneCell = true) (hroom : (2 * (n + m) + 1000) * i.bytes ≤ 281474976710656) :
    Noisy P E.ev ⟨d, .call ⟨.builtin .append, #[x, y], #[ts, at_]⟩, ty, pos, af, g⟩ σ (Lp ++ L0) fun v' σ' L' => ∃ Lp', σ' = σ ∧ L' = Lp' ++ L0 ∧ Own T sz v' (n + m) (cs ++ new) Lp' := by
  intro w hst
  obtain ⟨w', v', Lp', h1, h2, h3⟩ := run_append (ty := ty) hst hT hS hi (Nat.le_of_ble_eq_true hb0) hz hzs ha hown hnew hone hroom
  refine .inl ⟨v', w', ?_, σ, _, Sto.le_refl _, h3, Lp', rfl, rfl, h2⟩
  simp [execOp, Env.op_ev hx, Env.op_ev hy, resolve, invoke, builtin, h1]
end
end Go.Eng
namespace Go.Eng
open Go Go.Builtin
theorem foldset (vs : List Value) : ∀ (cs : Array Value) (off j : Nat), (vs.zipIdx j).foldl (fun cs (p : Value × Nat) => cs.setIfInBounds (off + p.2) p.1) cs = setFrom cs (off + j) vs := by
  induction vs with
  | nil => intro cs off j; rfl
  | cons v vs ih => intro cs off j; simp only [List.zipIdx_cons, List.foldl_cons, setFrom]; rw [ih]; congr 1
theorem foldsetA (vs cs : Array Value) (off : Nat) : (vs.zipIdx.foldl (fun cs (p : Value × Nat) => cs.setIfInBounds (off + p.2) p.1) cs) = setFrom cs off vs.toList := by
  rw [← Array.foldl_toList, Array.toList_zipIdx, foldset]; simp
inductive PartsOf (E : Env) : List (Nat × Operand) → List (Nat × List Value) → Prop where
  | nil : PartsOf E [] []
  | cons {i x v cs ps qs} (hx : E.op x = some v) (hc : CellsOf v cs) (hr : PartsOf E ps qs) : PartsOf E ((i, x) :: ps) ((i, cs) :: qs)
def putL (l : List Value) (off : Nat) (vs : List Value) : List Value := l.take off ++ vs ++ l.drop (off + vs.length)
def fillL (place : Nat → Option (Nat × Nat)) : List Value → List (Nat × List Value) → Option (List Value)
  | cells, [] => some cells
  | cells, (i, vs) :: rest => match place i with
    | none => none
    | some (off, size) => bif Nat.beq vs.length size && Nat.ble (off + vs.length) cells.length then fillL place (putL cells off vs) rest else none
theorem fill_run {E : Env} {place : Nat → Option (Nat × Nat)} {ps : List (Nat × Operand)} {qs : List (Nat × List Value)} (h : PartsOf E ps qs) : ∀ (cells l : List Value), fillL place cells qs = some l →
    Instr.fill place cells.toArray (ps.map fun (i, x) => (i, E.ev x)) = some l.toArray := by
  induction h with
  | nil => intro cells l h; simp [fillL] at h; subst h; rfl
  | @cons i x v cs ps qs hx hc _ ih =>
    intro cells l h
    simp only [fillL] at h
    cases hp : place i with
    | none => simp [hp] at h
    | some p =>
      obtain ⟨off, size⟩ := p
      simp only [hp] at h
      cases hb : Nat.beq cs.length size && Nat.ble (off + cs.length) cells.length with
      | false => simp [hb] at h
      | true =>
        rw [hb] at h
        simp only [cond_true] at h
        simp only [Bool.and_eq_true] at hb
        have h1 := Nat.eq_of_beq_eq_true hb.1
        have h2 := Nat.le_of_ble_eq_true hb.2
        have hcells : (E.ev x).cells = cs.toArray := by rw [Env.op_ev hx]; exact hc.spec
        have hgo := ih (putL cells off cs) l h
        have hset : setFrom cells.toArray off cs = (putL cells off cs).toArray := by
          apply Array.toList_inj.1
          rw [setFrom_toList cs cells.toArray off (by simpa using h2)]
          simp [putL]
        simp only [List.map_cons, Instr.fill, hp, hcells]
        rw [if_neg (by simp; omega)]
        have hf := foldsetA cs.toArray cells.toArray off
        rw [hset] at hf
        rw [← hgo]
        exact congrArg (fun c => Instr.fill place c (ps.map fun (i, x) => (i, E.ev x))) hf
section
variable {P : Program} {E : Env} {K : SHeap} {σ : Sto} {L : SHeap} {d : Option Tmp} {ty : TypeId} {pos : String} {af : Array Edge} {g : Option (Nat × Bool)}
theorem q_build {T : TypeId} {ps : List (Nat × Operand)} {qs : List (Nat × List Value)} {fs : Array Field} {places : List (Nat × Nat)} {zero l : List Value} (hps : PartsOf E ps qs)
    (hz : ∀ w, (zeroValue T).run P w = .ok (.agg zero.toArray) w) (hU : ∀ w, (underlying T).run P w = .ok (.struct fs) w)
    (hpl : ∀ w, (fs.mapM (m := Sem) fun f => do pure (f.offset, ← sizeOf f.type)).run P w = .ok places.toArray w)
    (hf : fillL (fun i : Nat => places[i]?) zero qs = some l) : Quiet P E.ev ⟨d, .build T ps.toArray, ty, pos, af, g⟩ K σ (.agg l.toArray) := by
  intro σ' w L' _ _ _
  have hfill := fill_run hps zero l hf
  have hpl := hpl w
  simp only [execOp, Instr.build, Sem.run_bind, hz, hU, Result.andThen_ok, Value.cells, hpl]
  have : (fun i : Nat => (places.toArray : Array (Nat × Nat))[i]?) = fun i : Nat => places[i]? := by funext i; simp
  simp only [this]
  simp [hfill]
theorem q_buildArr {T e n m : Nat} {ps : List (Nat × Operand)} {qs : List (Nat × List Value)} {zero l : List Value} (hps : PartsOf E ps qs)
    (hz : ∀ w, (zeroValue T).run P w = .ok (.agg zero.toArray) w) (hU : ∀ w, (underlying T).run P w = .ok (.array n e) w) (hS : ∀ w, (sizeOf e).run P w = .ok m w)
    (hf : fillL (fun i => some (i * m, m)) zero qs = some l) : Quiet P E.ev ⟨d, .build T ps.toArray, ty, pos, af, g⟩ K σ (.agg l.toArray) := by
  intro σ' w L' _ _ _
  have hfill := fill_run hps zero l hf
  simp only [execOp, Instr.build, Sem.run_bind, hz, hU, Result.andThen_ok, Value.cells]
  simp [hS, hfill]
inductive RowOf (E : Env) (sz : Nat) : Nat → List (Nat × Operand) → List Value → Prop where
  | nil {i} : RowOf E sz i [] []
  | cons {i x v cs ps l} (hx : E.op x = some v) (hc : CellsOf v cs) (hn : cs.length = sz) (hr : RowOf E sz (i + 1) ps l) : RowOf E sz i ((i, x) :: ps) (cs ++ l)
theorem RowOf.len {E : Env} {sz i : Nat} {ps : List (Nat × Operand)} {l : List Value} (h : RowOf E sz i ps l) : l.length = ps.length * sz := by
  induction h with
  | nil => simp
  | cons _ _ hn _ ih => simp [hn, ih, Nat.add_mul]; omega
theorem RowOf.fill {E : Env} {sz i : Nat} {ps : List (Nat × Operand)} {l : List Value} (h : RowOf E sz i ps l) : ∀ (a z : List Value), a.length = i * sz → z.length = ps.length * sz →
    Instr.fill (fun i => some (i * sz, sz)) (a ++ z).toArray (ps.map fun (i, x) => (i, E.ev x)) = some (a ++ l).toArray := by
  induction h with
  | nil => intro a z _ hz; have : z = [] := by simpa using hz
           subst this; rfl
  | @cons i x v cs ps l hx hc hn hr ih =>
    intro a z ha hz
    simp only [List.length_cons, Nat.add_mul, Nat.one_mul] at hz
    have hcells : (E.ev x).cells = cs.toArray := by rw [Env.op_ev hx]; exact hc.spec
    have hset : setFrom (a ++ z).toArray (i * sz) cs = ((a ++ cs) ++ z.drop sz).toArray := by
      apply Array.toList_inj.1
      rw [setFrom_toList cs (a ++ z).toArray (i * sz) (by simp [ha, hn]; omega)]
      simp only []
      rw [List.take_append_of_le_length (by omega), List.take_of_length_le (by omega), ← ha, hn, List.drop_append]
      simp
    have := ih (a ++ cs) (z.drop sz) (by simp [ha, hn, Nat.add_mul]) (by simp; omega)
    simp only [List.map_cons, Instr.fill, hcells]
    rw [if_neg (by simp [hn, ha]; omega)]
    have hf := foldsetA cs.toArray (a ++ z).toArray (i * sz)
    rw [hset] at hf
    rw [← List.append_assoc, ← this]
    exact congrArg (fun c => Instr.fill (fun i => some (i * sz, sz)) c (ps.map fun (i, x) => (i, E.ev x))) hf
theorem q_buildRow {T e n m : Nat} {ps : List (Nat × Operand)} {zero l l' : List Value} (hps : RowOf E m 0 ps l)
    (hz : ∀ w, (zeroValue T).run P w = .ok (.agg zero.toArray) w) (hU : ∀ w, (underlying T).run P w = .ok (.array n e) w) (hS : ∀ w, (sizeOf e).run P w = .ok m w)
    (hn : zero.length = ps.length * m) (hl : l = l') : Quiet P E.ev ⟨d, .build T ps.toArray, ty, pos, af, g⟩ K σ (.agg l'.toArray) := by
  intro σ' w L' _ _ _
  subst hl
  have hfill := hps.fill [] zero (by simp) hn
  simp only [List.nil_append] at hfill
  simp only [execOp, Instr.build, Sem.run_bind, hz, hU, Result.andThen_ok, Value.cells]
  have key2 : Instr.fill (fun i => some (i * m, m)) zero.toArray (ps.map fun x => (x.1, E.ev x.2)) = some l.toArray := hfill
  simp [hS, key2]
inductive FieldsOf (E : Env) : Nat → List Nat → List (Nat × Operand) → List Value → List Value → Prop where
  | nil {i} : FieldsOf E i [] [] [] []
  | put {i n ns x v cs ps z zs l} (hx : E.op x = some v) (hc : CellsOf v cs) (hn : cs.length = n) (hz : z.length = n) (hr : FieldsOf E (i + 1) ns ps zs l) : FieldsOf E i (n :: ns) ((i, x) :: ps) (z ++ zs) (cs ++ l)
  | zero {i n ns ps z zs l} (hz : z.length = n) (hr : FieldsOf E (i + 1) ns ps zs l) : FieldsOf E i (n :: ns) ps (z ++ zs) (z ++ l)
def mkPlaces : Nat → List Nat → List (Nat × Nat)
  | _, [] => []
  | o, n :: ns => (o, n) :: mkPlaces (o + n) ns
theorem FieldsOf.fill {E : Env} {i : Nat} {ns : List Nat} {ps : List (Nat × Operand)} {zs l : List Value} (h : FieldsOf E i ns ps zs l) : ∀ (place : Nat → Option (Nat × Nat)) (a : List Value) (o : Nat), a.length = o →
    (∀ j, place (i + j) = (mkPlaces o ns)[j]?) → Instr.fill place (a ++ zs).toArray (ps.map fun x => (x.1, E.ev x.2)) = some (a ++ l).toArray := by
  induction h with
  | nil => intro place a o _ _; rfl
  | @put i n ns x v cs ps z zs l hx hc hn hz _ ih =>
    intro place a o ha hp
    have hcells : (E.ev x).cells = cs.toArray := by rw [Env.op_ev hx]; exact hc.spec
    have h0 : place i = some (o, n) := by have := hp 0; simpa [mkPlaces] using this
    have hset : setFrom (a ++ (z ++ zs)).toArray o cs = ((a ++ cs) ++ zs).toArray := by
      apply Array.toList_inj.1
      rw [setFrom_toList cs (a ++ (z ++ zs)).toArray o (by simp [ha, hn, hz])]
      simp only []
      rw [List.take_append_of_le_length (by omega), List.take_of_length_le (by omega), ← ha, hn, ← hz]
      simp
    have := ih place (a ++ cs) (o + n) (by simp [ha, hn]) (fun j => by have := hp (j + 1); rw [show i + 1 + j = i + (j + 1) by omega, this]; simp [mkPlaces])
    simp only [List.map_cons, Instr.fill, h0, hcells]
    rw [if_neg (by simp [hn, ha, hz])]
    have hf := foldsetA cs.toArray (a ++ (z ++ zs)).toArray o
    rw [hset] at hf
    rw [show a ++ (cs ++ l) = a ++ cs ++ l from (List.append_assoc _ _ _).symm, ← this]
    exact congrArg (fun c => Instr.fill place c (ps.map fun x => (x.1, E.ev x.2))) hf
  | @zero i n ns ps z zs l hz _ ih =>
    intro place a o ha hp
    have := ih place (a ++ z) (o + n) (by simp [ha, hz]) (fun j => by have := hp (j + 1); rw [show i + 1 + j = i + (j + 1) by omega, this]; simp [mkPlaces])
    rw [← List.append_assoc, ← List.append_assoc, this]
theorem q_buildS {T : TypeId} {ps : List (Nat × Operand)} {fs : Array Field} {ns : List Nat} {zero l l' : List Value} (hps : FieldsOf E 0 ns ps zero l)
    (hz : ∀ w, (zeroValue T).run P w = .ok (.agg zero.toArray) w) (hU : ∀ w, (underlying T).run P w = .ok (.struct fs) w)
    (hpl : ∀ w, (fs.mapM (m := Sem) fun f => do pure (f.offset, ← sizeOf f.type)).run P w = .ok (mkPlaces 0 ns).toArray w)
    (hl : l = l') : Quiet P E.ev ⟨d, .build T ps.toArray, ty, pos, af, g⟩ K σ (.agg l'.toArray) := by
  intro σ' w L' _ _ _
  subst hl
  have hfill := hps.fill (fun i : Nat => (mkPlaces 0 ns)[i]?) [] 0 rfl (fun j => by simp)
  have hpl := hpl w
  simp only [execOp, Instr.build, Sem.run_bind, hz, hU, Result.andThen_ok, Value.cells, hpl]
  have : (fun i : Nat => ((mkPlaces 0 ns).toArray : Array (Nat × Nat))[i]?) = fun i : Nat => (mkPlaces 0 ns)[i]? := by funext i; simp
  simp only [this]
  simp only [List.nil_append] at hfill
  simp [hfill]
def NewSlice (σ : Sto) (L : SHeap) (o : Obj) (n : Nat) (v : Value) (σ' : Sto) (L' : SHeap) : Prop := ∃ b, v = .slice (some ⟨b, 0, none⟩) n n ∧ σ' = σ ∧ L' = (b, o) :: L
theorem n_buildSlice {T e n sz : Nat} {ps : List (Nat × Operand)} {l : List Value} {z : Value} (hps : RowOf E sz 0 ps l) (hn : ps.length = n) (hU : ∀ w, (underlying T).run P w = .ok (.slice e) w) (hS : ∀ w, (sizeOf e).run P w = .ok sz w)
    (hz : ∀ w, (zeroValue e).run P w = .ok z w) (hsmall : Nat.ble (n * sz) 16777216 = true) {l' : List Value} (hl : l = l') :
    Noisy P E.ev ⟨d, .buildSlice T n ps.toArray, ty, pos, af, g⟩ σ L (NewSlice σ L (.cells l'.toArray e (0, 0)) n) := by
  intro w hst
  subst hn hl
  refine .inl ⟨_, _, ?_, σ, _, Sto.le_refl _, hst.push _, w.heap.size, rfl, rfl, rfl⟩
  have hle := Nat.le_of_ble_eq_true hsmall
  have hns : ¬ 16777216 < ps.length * sz := by omega
  have key : ∀ za : Array Value, za.size = ps.length * sz → Instr.fill (fun i => some (i * sz, sz)) za (ps.map fun (i, x) => (i, E.ev x)) = some l.toArray := fun za hza => by
    have := hps.fill [] za.toList (by simp) (by simpa using hza)
    simpa using this
  simp only [execOp, Instr.buildSlice, Sem.run_bind, hU, hS, Result.andThen_ok]
  simp [hns]
  have key2 : ∀ za : Array Value, za.size = ps.length * sz → Instr.fill (fun i => some (i * sz, sz)) za (ps.map fun x => (x.1, E.ev x.2)) = some l.toArray := key
  split
  · rename_i h0
    rw [key2 _ (by simp)]
    simp [newRow]
  · rw [hz, Result.andThen_ok, key2 _ (by simp)]
    simp [newRow]
theorem q_slice {T e b o n cap m : Nat} {x : Operand} {lo hi : Option Operand} {l h : Nat} {lv hv : Option Value} {a' : Addr} (hx : E.op x = some (.slice (some ⟨b, o, none⟩) n cap)) (hU : ∀ w, (underlying T).run P w = .ok (.slice e) w)
    (hS : ∀ w, (sizeOf e).run P w = .ok m w) (hlo : lo.map E.ev = lv) (hhi : hi.map E.ev = hv) (hl : match lv with | none => l = 0 | some v => v = .int .i64 (l : Int)) (hh : match hv with | none => h = n | some v => v = .int .i64 (h : Int)) (hlh : l ≤ h) (hhc : h ≤ cap)
    (ha : (if cap = l then ⟨b, o, none⟩ else ⟨b, o + l * m, none⟩ : Addr) = a') : Quiet P E.ev ⟨d, .slice T x lo hi none, ty, pos, af, g⟩ K σ (.slice (some a') (h - l) (cap - l)) := by
  intro σ' w L' _ _ _
  subst ha
  have hadd : (Addr.mk b o none).add (l * m) = ⟨b, o + l * m, none⟩ := by unfold Addr.add; split <;> simp_all
  have hadd0 : (Addr.mk b o none).add 0 = ⟨b, o, none⟩ := rfl
  simp only [execOp, Env.op_ev hx, Instr.sliceAt, Sem.run_bind, hU, Result.andThen_ok, hlo, hhi, Option.map_none]
  by_cases hcl : cap = l
  · cases lv with
    | none =>
      cases hv with
      | none => subst hl; subst hh; simp [Instr.slice, hU, Instr.sliceBounds, hS, hcl]
      | some v => simp only at hh; subst hh; subst hl; simp [Instr.slice, hU, Instr.sliceBounds, hS, Instr.sliceBound, asIntOf, hhc, hcl]; omega
    | some u =>
      simp only at hl; subst hl
      cases hv with
      | none => simp only at hh; subst hh; simp [Instr.slice, hU, Instr.sliceBounds, hS, Instr.sliceBound, asIntOf, hlh, hcl]
      | some v => simp only at hh; subst hh; simp [Instr.slice, hU, Instr.sliceBounds, hS, Instr.sliceBound, asIntOf, hlh, hhc, hcl]; intro hlt; omega
  · cases lv with
    | none =>
      cases hv with
      | none => subst hl; subst hh; simp [Instr.slice, hU, Instr.sliceBounds, hS, hcl, hadd0]
      | some v => simp only at hh; subst hh; subst hl; simp [Instr.slice, hU, Instr.sliceBounds, hS, Instr.sliceBound, asIntOf, hhc, hcl, hadd0]
    | some u =>
      simp only at hl; subst hl
      cases hv with
      | none => simp only at hh; subst hh; simp [Instr.slice, hU, Instr.sliceBounds, hS, Instr.sliceBound, asIntOf, hlh, hcl, hadd]
      | some v => simp only at hh; subst hh; simp [Instr.slice, hU, Instr.sliceBounds, hS, Instr.sliceBound, asIntOf, hlh, hhc, hcl, hadd]
end
section
variable {c : Cx} {ops : Array Oper} {l : List Oper} {k : List Item} {E E0 : Env} {V : List Nat} {σ : Sto} {L K : SHeap} {d : Tmp} {op : Op} {ty : TypeId} {pos : String} {af : Array Edge}
theorem sns {o : Obj} {n : Nat} (hok : opOk c.n E ⟨some d, op, ty, pos, af, none⟩ = true) (hn : Noisy c.P E.ev ⟨some d, op, ty, pos, af, none⟩ σ L (NewSlice σ L o n))
    (h : ∀ b, GoL c ops l k ((d, .slice (some ⟨b, 0, none⟩) n n) :: E) σ ((b, o) :: L)) : GoL c ops (⟨some d, op, ty, pos, af, none⟩ :: l) k E σ L :=
  sn hok hn fun _ _ _ _ ⟨b, e1, e2, e3⟩ => by subst e1 e2 e3; exact h b
theorem dns {o : Obj} {n : Nat} (i : Nat) (ho : l[i]? = some ⟨some d, op, ty, pos, af, none⟩) (hV : V.elem i = false) (hdeps : (depsAt l i).all V.elem = true) (hok : opOk c.n E ⟨some d, op, ty, pos, af, none⟩ = true)
    (honly : (List.range l.length).all (fun j => Nat.beq j i || V.elem j || !((depsAt l j).all V.elem)) = true)
    (hn : Noisy c.P E.ev ⟨some d, op, ty, pos, af, none⟩ σ L (NewSlice σ L o n)) (hkeep : Keep K L)
    (h : ∀ b, GoC c l k E0 ((d, .slice (some ⟨b, 0, none⟩) n n) :: E) (i :: V) σ ((b, o) :: L) K) : GoC c l k E0 E V σ L K :=
  dn i ho hV hdeps hok honly hn (fun _ _ _ _ ⟨_, _, _, e3⟩ => by subst e3; exact fun b o hb => List.mem_cons_of_mem _ (hkeep b o hb)) fun _ _ _ _ ⟨b, e1, e2, e3⟩ => by subst e1 e2 e3; exact h b
end
end Go.Eng
