/- A part of the proof of this: Payments and locks of a shard come out as they stand on paper (TopPaid): for every input, with the listed package variables as the program's text lays them, TopPaid answers true and its argument reads as it did. -/
import Derived.Test.YtddoimkbjgfjnaaGreatDoorPaid01
namespace Go.Eng
open Go
def depsOf (o : Oper) : List Nat := (o.after.toList.filter (Region.binds .any ·)).map (·.on)
def depsAt (l : List Oper) (i : Nat) : List Nat := match l[i]? with | some o => depsOf o | none => []
def dstAt (l : List Oper) (i : Nat) : Option Tmp := match l[i]? with | some o => o.dst | none => none
def tmpOf : Operand → Option Tmp
  | .tmp t => some t
  | _ => none
def looks (l : List Oper) (o : Oper) : List Tmp :=
  (opnds o.op).filterMap tmpOf ++ (match o.guard with | some (g, _) => (dstAt l g).toList | none => [])
def chk (l : List Oper) : Bool :=
  (List.range l.length).all fun i =>
    match l[i]? with
    | none => true
    | some o =>
      (depsOf o).all (Nat.blt · i) &&
      (List.range l.length).all fun j =>
        Nat.beq i j ||
        match dstAt l j with
        | none => true
        | some t => (!((looks l o).elem t) || (depsOf o).elem j || (depsAt l j).elem i) && !(o.dst == some t)
structure Chk (l : List Oper) : Prop where
  lt : ∀ i j, i < l.length → j ∈ depsAt l i → j < i
  look : ∀ i o j t, l[i]? = some o → i ≠ j → dstAt l j = some t → t ∈ looks l o → j ∈ depsAt l i ∨ i ∈ depsAt l j
  dst : ∀ i j t, i ≠ j → dstAt l i = some t → dstAt l j ≠ some t
theorem chk_spec {l : List Oper} (h : chk l = true) : Chk l := by
  unfold chk at h
  simp only [List.all_eq_true, List.mem_range] at h
  have hi : ∀ i o, l[i]? = some o → i < l.length := fun i o ho => by
    rcases Nat.lt_or_ge i l.length with h | h
    · exact h
    · simp [List.getElem?_eq_none h] at ho
  have hdl : ∀ j t, dstAt l j = some t → j < l.length := fun j t hj => by
    unfold dstAt at hj
    cases ho : l[j]? with
    | none => simp [ho] at hj
    | some o => exact hi j o ho
  refine ⟨fun i j hil hj => ?_, fun i o j t ho hne hd ht => ?_, fun i j t hne hd1 hd2 => ?_⟩
  · have := h i hil
    cases ho : l[i]? with
    | none => simp [depsAt, ho] at hj
    | some o =>
      simp only [ho, Bool.and_eq_true, List.all_eq_true] at this
      simp only [depsAt, ho] at hj
      have := this.1 j hj
      simp [Nat.blt] at this; omega
  · have := h i (hi i o ho)
    simp only [ho, Bool.and_eq_true, List.all_eq_true, List.mem_range] at this
    have := this.2 j (hdl j t hd)
    have hb : Nat.beq i j = false := by
      cases hb : Nat.beq i j with
      | false => rfl
      | true => exact absurd (Nat.eq_of_beq_eq_true hb) hne
    simp only [hb, hd, Bool.false_or, Bool.and_eq_true, Bool.or_eq_true, Bool.not_eq_true', List.elem_eq_mem, decide_eq_true_eq, decide_eq_false_iff_not] at this
    simp only [depsAt, ho]
    rcases this.1 with (h1 | h1) | h1
    · exact absurd ht h1
    · exact .inl h1
    · exact .inr h1
  · have hil := hdl i t hd1
    have := h i hil
    cases ho : l[i]? with
    | none => simp [dstAt, ho] at hd1
    | some o =>
      simp only [ho, Bool.and_eq_true, List.all_eq_true, List.mem_range] at this
      have := this.2 j (hdl j t hd2)
      have hb : Nat.beq i j = false := by
        cases hb : Nat.beq i j with
        | false => rfl
        | true => exact absurd (Nat.eq_of_beq_eq_true hb) hne
      simp only [dstAt, ho] at hd1
      simp [hb, hd2, hd1] at this
theorem lin_succ (ops : Array Oper) (fuel t : Nat) (listed : Array Bool) :
    Region.linearise.go .any ops (fuel + 1) t listed [] =
      match (Region.ready .any ops listed)[t % (Region.ready .any ops listed).length]? with
      | some i => i :: Region.linearise.go .any ops fuel (t / (Region.ready .any ops listed).length) (listed.setIfInBounds i true) []
      | none => [] := by
  simp only [Region.linearise.go]
  change (match (Region.ready .any ops listed)[t % (Region.ready .any ops listed).length]? with
    | some i => Region.linearise.go .any ops fuel (t / (Region.ready .any ops listed).length) (listed.setIfInBounds i true) [i]
    | none => [].reverse) = _
  cases (Region.ready .any ops listed)[t % (Region.ready .any ops listed).length]? with
  | none => rfl
  | some i => simp only []; rw [linearise_go_acc]; rfl
def isL (listed : Array Bool) (i : Nat) : Prop := listed[i]? = some true
instance (listed : Array Bool) (i : Nat) : Decidable (isL listed i) := inferInstanceAs (Decidable (listed[i]? = some true))
theorem mem_ready {l : List Oper} {listed : Array Bool} (hs : listed.size = l.length) {i : Nat} :
    i ∈ Region.ready .any l.toArray listed ↔ i < l.length ∧ ¬ isL listed i ∧ ∀ j ∈ depsAt l i, isL listed j := by
  unfold Region.ready
  simp only [List.mem_filter, List.mem_range, List.size_toArray, Bool.and_eq_true, Bool.not_eq_true', isL]
  constructor
  · rintro ⟨hi, h1, h2⟩
    refine ⟨hi, fun hl => ?_, fun j hj => ?_⟩
    · simp [Array.getD_eq_getD_getElem?, hl] at h1
    · cases ho : l[i]? with
      | none => simp [depsAt, ho] at hj
      | some o =>
        simp only [List.getElem?_toArray, ho, Option.map_some, Option.getD_some] at h2
        simp only [depsAt, ho, depsOf, List.mem_map, List.mem_filter] at hj
        obtain ⟨e, ⟨he, hb⟩, rfl⟩ := hj
        rw [← Array.all_toList, List.all_eq_true] at h2
        have := h2 e he
        simp only [hb, Bool.not_true, Bool.false_or, Array.getD_eq_getD_getElem?] at this
        cases hx : listed[e.on]? with
        | none => simp [hx] at this
        | some b => simp [hx] at this; rw [this]
  · rintro ⟨hi, h1, h2⟩
    refine ⟨hi, ?_, ?_⟩
    · have hlt : i < listed.size := by omega
      simp only [Array.getD_eq_getD_getElem?, Array.getElem?_eq_getElem hlt, Option.getD_some] at h1 ⊢
      cases hb : listed[i] with
      | false => rfl
      | true => simp [hb] at h1
    · have ho : l[i]? = some l[i] := List.getElem?_eq_getElem hi
      simp only [List.getElem?_toArray, ho, Option.map_some, Option.getD_some]
      rw [← Array.all_toList, List.all_eq_true]
      intro e he
      cases hb : Region.binds .any e with
      | false => rfl
      | true =>
        have := h2 e.on (by simp only [depsAt, ho, depsOf, List.mem_map, List.mem_filter]; exact ⟨e, ⟨he, hb⟩, rfl⟩)
        have this : listed[e.on]? = some true := this
        simp [Array.getD_eq_getD_getElem?, this]
def unl (l : List Oper) (listed : Array Bool) : Nat := (List.range l.length).countP fun i => decide (¬ isL listed i)
theorem isL_set {listed : Array Bool} {i j : Nat} (hi : i < listed.size) : isL (listed.setIfInBounds i true) j ↔ j = i ∨ isL listed j := by
  unfold isL
  by_cases h : i = j
  · subst h; simp [hi]
  · rw [Array.getElem?_setIfInBounds_ne h]
    constructor
    · exact .inr
    · rintro (e | e)
      · exact absurd e.symm h
      · exact e
theorem countP_lt {p q : Nat → Bool} (l : List Nat) (i : Nat) (hi : i ∈ l) (hp : p i = true) (hq : q i = false) (h : ∀ j, q j = true → p j = true) : l.countP q < l.countP p := by
  induction l with
  | nil => simp at hi
  | cons x l ih =>
    rcases List.mem_cons.1 hi with rfl | hi
    · have := List.countP_mono_left (l := l) (fun j _ => h j)
      simp only [List.countP_cons, hp, hq]; simp; omega
    · have := ih hi
      cases hx : q x with
      | false => simp only [List.countP_cons, hx]; cases p x <;> simp <;> omega
      | true => simp only [List.countP_cons, hx, h x hx]; simp; omega
theorem unl_set {l : List Oper} {listed : Array Bool} {i : Nat} (hs : listed.size = l.length) (hi : i < l.length) (hn : ¬ isL listed i) :
    unl l (listed.setIfInBounds i true) < unl l listed := by
  refine countP_lt _ i (by simpa using hi) (by simpa using hn) ?_ ?_
  · simp only [isL_set (show i < listed.size by omega)]; simp
  · intro j
    simp only [isL_set (show i < listed.size by omega), decide_eq_true_eq]
    exact fun h1 h2 => h1 (.inr h2)
theorem all_listed {l : List Oper} {listed : Array Bool} (hc : Chk l) (hs : listed.size = l.length) (hr : Region.ready .any l.toArray listed = []) :
    ∀ i, i < l.length → isL listed i := by
  intro i
  induction i using Nat.strongRecOn with
  | _ i ih =>
    intro hi
    refine Classical.byContradiction fun hn => ?_
    have : i ∈ Region.ready .any l.toArray listed := (mem_ready hs).2 ⟨hi, hn, fun j hj => ih j (hc.lt i j hi hj) (by have := hc.lt i j hi hj; omega)⟩
    rw [hr] at this; simp at this
theorem all_listed0 {l : List Oper} {listed : Array Bool} (h : unl l listed = 0) : ∀ i, i < l.length → isL listed i := by
  intro i hi
  unfold unl at h
  rw [List.countP_eq_zero] at h
  have := h i (by simpa using hi)
  simpa using this
def QStep (P : Program) (l : List Oper) (ρ : Operand → Value) (o : Oper) (K : SHeap) (σ : Sto) (v : Value) : Prop :=
  (Quiet P ρ o K σ v ∧ match o.guard with
    | none => True
    | some (g, want) => ∃ d, dstAt l g = some d ∧ ρ (.tmp d) = .bool want) ∨
  (v = undef ∧ ∃ g want d, o.guard = some (g, want) ∧ dstAt l g = some d ∧ (ρ (.tmp d) = .bool (!want) ∨ ρ (.tmp d) = undef))
structure Prom (P : Program) (l : List Oper) (E0 E : Env) (K : SHeap) (σ : Sto) (q : Nat) : Prop where
  out : ∃ o ρ v, l[q]? = some o ∧ notSelect o.op = true ∧ (∀ d, o.dst = some d → E.get d = some v) ∧ QStep P l ρ o K σ v ∧
    (∀ x ∈ opnds o.op, ∀ a : Act, tmpOf x = none → ρ x = a.eval x) ∧
    (∀ t ∈ looks l o, (∃ j ∈ depsAt l q, dstAt l j = some t) → E.get t = some (ρ (.tmp t))) ∧
    (∀ t ∈ looks l o, (¬ ∃ j ∈ depsAt l q, dstAt l j = some t) → E0.get t = some (ρ (.tmp t)))
structure Inv (c : Cx) (l : List Oper) (E0 E : Env) (V : List Nat) (σ : Sto) (L K : SHeap) (listed : Array Bool) (a : Act) (w : World) : Prop where
  size : listed.size = l.length
  sub : ∀ j, isL listed j → j ∈ V
  closed : ∀ j, isL listed j → ∀ i ∈ depsAt l j, isL listed i
  vclosed : ∀ j ∈ V, ∀ i ∈ depsAt l j, i ∈ V
  vlt : ∀ j ∈ V, j < l.length
  prom : ∀ q ∈ V, ¬ isL listed q → Prom c.P l E0 E K σ q
  n : a.tmps.size = c.n
  done : ∀ j, isL listed j → ∀ t v, dstAt l j = some t → E.get t = some v → a.tmps[t]? = some v
  old : ∀ t v, (∀ j, dstAt l j = some t → ¬ isL listed j) → E0.get t = some v → a.tmps[t]? = some v
  same : ∀ t, (∀ j ∈ V, dstAt l j ≠ some t) → E.get t = E0.get t
  defers : a.defers = []
  st : St σ w L
  keep : Keep K L
def GoD (c : Cx) (l : List Oper) (k : List Item) (E0 E : Env) (V : List Nat) (σ : Sto) (L K : SHeap) : Prop :=
  ∀ fuel listed t a w, Inv c l E0 E V σ L K listed a w → unl l listed ≤ fuel → Arr c.P c.f c.R (.inRegion l.toArray (Region.linearise.go .any l.toArray fuel t listed []) :: k) a w
def dmask (l : List Oper) (i : Nat) : Nat := (depsAt l i).foldl (fun m j => m ||| 2 ^ j) 0
def ancM (l : List Oper) : Nat → Nat → Nat
  | 0, m => m
  | j + 1, m => ancM l j (if m.testBit j then m ||| dmask l j else m)
def anc (l : List Oper) (i : Nat) : Nat := ancM l i (dmask l i)
theorem foldmask (ds : List Nat) : ∀ (m b : Nat), (ds.foldl (fun m j => m ||| 2 ^ j) m).testBit b = true → m.testBit b = true ∨ b ∈ ds := by
  induction ds with
  | nil => intro m b h; exact .inl h
  | cons d ds ih =>
    intro m b h
    rcases ih _ b h with h | h
    · rw [Nat.testBit_or, Bool.or_eq_true] at h
      rcases h with h | h
      · exact .inl h
      · rw [Nat.testBit_two_pow] at h
        simp at h
        exact .inr (by simp [h])
    · exact .inr (List.mem_cons_of_mem _ h)
theorem dmask_mem {l : List Oper} {i b : Nat} (h : (dmask l i).testBit b = true) : b ∈ depsAt l i := by
  rcases foldmask _ _ _ h with h | h
  · simp at h
  · exact h
theorem ancM_listed {l : List Oper} {listed : Array Bool} (hcl : ∀ j, isL listed j → ∀ i ∈ depsAt l j, isL listed i) : ∀ (j m : Nat), (∀ b, m.testBit b = true → isL listed b) → ∀ b, (ancM l j m).testBit b = true → isL listed b := by
  intro j
  induction j with
  | zero => intro m h b hb; exact h b hb
  | succ j ih =>
    intro m h b hb
    refine ih _ (fun x hx => ?_) b hb
    split at hx
    · rename_i hj
      rw [Nat.testBit_or, Bool.or_eq_true] at hx
      rcases hx with hx | hx
      · exact h x hx
      · exact hcl j (h j hj) x (dmask_mem hx)
    · exact h x hx
section draw
variable {c : Cx} {l : List Oper} {k : List Item} {E0 E : Env} {V : List Nat} {σ : Sto} {L K : SHeap}
theorem dst_lt {n : Nat} (hd : l.all (dstOk n) = true) {j : Nat} {t : Tmp} (h : dstAt l j = some t) : t < n := by
  unfold dstAt at h
  cases ho : l[j]? with
  | none => simp [ho] at h
  | some o =>
    simp only [ho] at h
    have := (List.all_eq_true.1 hd) o (List.mem_of_getElem? ho)
    simp only [dstOk, h] at this
    exact Nat.le_of_ble_eq_true this
theorem inv_done {listed : Array Bool} {a a' : Act} {w w' : World} {σ' : Sto} {L' : SHeap} {E' : Env} {V' : List Nat} {i : Nat} {o : Oper} {v : Value}
    (hc : Chk l) (hd : l.all (dstOk c.n) = true) (hi : Inv c l E0 E V σ L K listed a w) (hil : i < l.length) (hni : ¬ isL listed i) (hdeps : ∀ j ∈ depsAt l i, isL listed j)
    (ho : l[i]? = some o) (hV : ∀ j, j ∈ V' ↔ j = i ∨ j ∈ V) (hv : ∀ d, o.dst = some d → E'.get d = some v) (hE : ∀ t, dstAt l i ≠ some t → E'.get t = E.get t)
    {K' : SHeap} (hprom : ∀ q ∈ V, q ≠ i → ¬ isL listed q → Prom c.P l E0 E K σ q → Prom c.P l E0 E' K' σ' q) (hst : St σ' w' L') (hk : Keep K' L') (ha : a' = a.put o.dst v) :
    Inv c l E0 E' V' σ' L' K' (listed.setIfInBounds i true) a' w' := by
  have hset : ∀ j, isL (listed.setIfInBounds i true) j ↔ j = i ∨ isL listed j := fun j => isL_set (by have := hi.size; omega)
  have hdi : dstAt l i = o.dst := by simp [dstAt, ho]
  subst ha
  have hput : ∀ t, o.dst ≠ some t → (a.put o.dst v).tmps[t]? = a.tmps[t]? := fun t ht => by
    cases hdst : o.dst with
    | none => rfl
    | some d =>
      have : d ≠ t := fun e => ht (by rw [hdst, e])
      simp [Act.put, Array.getElem?_setIfInBounds_ne this]
  refine ⟨by simp [hi.size], fun j hj => (hV j).2 (((hset j).1 hj).imp id (hi.sub j)), fun j hj m hm => ?_, fun j hj m hm => ?_, fun j hj => ?_, fun q hq hn => ?_, ?_, fun j hj t x ht hx => ?_, fun t x hno hx => ?_, fun t ht => ?_, ?_, hst, hk⟩
  · rcases (hset j).1 hj with rfl | hj
    · exact (hset m).2 (.inr (hdeps m hm))
    · exact (hset m).2 (.inr (hi.closed j hj m hm))
  · rcases (hV j).1 hj with rfl | hj
    · exact (hV m).2 (.inr (hi.sub m (hdeps m hm)))
    · exact (hV m).2 (.inr (hi.vclosed j hj m hm))
  · rcases (hV j).1 hj with rfl | hj
    · exact hil
    · exact hi.vlt j hj
  · have hne : q ≠ i := fun e => hn ((hset q).2 (.inl e))
    rcases (hV q).1 hq with e | hq
    · exact absurd e hne
    · exact hprom q hq hne (fun hl => hn ((hset q).2 (.inr hl))) (hi.prom q hq fun hl => hn ((hset q).2 (.inr hl)))
  · cases hdst : o.dst <;> simp [Act.put, hi.n]
  · by_cases hji : j = i
    · subst hji
      rw [hdi] at ht
      have := hv t ht
      rw [this] at hx; cases hx
      have hlt : t < a.tmps.size := by rw [hi.n]; exact dst_lt hd (by rw [hdi]; exact ht)
      simp [ht, Act.put, hlt]
    · have hjl : isL listed j := ((hset j).1 hj).resolve_left hji
      have hne : dstAt l i ≠ some t := hc.dst j i t hji ht
      rw [hput t (by rw [← hdi]; exact hne)]
      exact hi.done j hjl t x ht (by rw [← hE t hne]; exact hx)
  · have hne : dstAt l i ≠ some t := fun e => hno i e ((hset i).2 (.inl rfl))
    rw [hput t (by rw [← hdi]; exact hne)]
    exact hi.old t x (fun j hj hl => hno j hj ((hset j).2 (.inr hl))) hx
  · rw [hE t (ht i ((hV i).2 (.inl rfl)))]
    exact hi.same t fun j hj => ht j ((hV j).2 (.inr hj))
  · rw [put_defers]; exact hi.defers
theorem look_now {listed : Array Bool} {a : Act} {w : World} {i : Nat} {o : Oper} (hc : Chk l) (hi : Inv c l E0 E V σ L K listed a w) (ho : l[i]? = some o) (hni : ¬ isL listed i)
    (hdeps : ∀ j ∈ depsAt l i, isL listed j) {t : Tmp} (ht : t ∈ looks l o) {x : Value}
    (h1 : (∃ j ∈ depsAt l i, dstAt l j = some t) → E.get t = some x) (h2 : (¬ ∃ j ∈ depsAt l i, dstAt l j = some t) → E0.get t = some x) : a.tmps[t]? = some x := by
  by_cases hj : ∃ j ∈ depsAt l i, dstAt l j = some t
  · have hx := h1 hj
    obtain ⟨j, hj, hjt⟩ := hj
    exact hi.done j (hdeps j hj) t x hjt hx
  · refine hi.old t x (fun j hjt hjl => ?_) (h2 hj)
    by_cases hij : i = j
    · subst hij; exact hni hjl
    · rcases hc.look i o j t ho hij hjt ht with h | h
      · exact hj ⟨j, h, hjt⟩
      · exact hni (hi.closed j hjl i h)
theorem run_prom {listed : Array Bool} {a : Act} {w : World} {q fuel t : Nat} (hc : Chk l) (hd : l.all (dstOk c.n) = true) (hi : Inv c l E0 E V σ L K listed a w) (hq : q ∈ V) (hnq : ¬ isL listed q)
    (hdeps : ∀ j ∈ depsAt l q, isL listed j)
    (hnext : ∀ a' w', Inv c l E0 E V σ L K (listed.setIfInBounds q true) a' w' → Arr c.P c.f c.R (.inRegion l.toArray (Region.linearise.go .any l.toArray fuel t (listed.setIfInBounds q true) []) :: k) a' w') :
    Arr c.P c.f c.R (.inRegion l.toArray (q :: Region.linearise.go .any l.toArray fuel t (listed.setIfInBounds q true) []) :: k) a w := by
  obtain ⟨o, ρ, v, ho, hsel, hdst, hstep, hconst, hin, hout⟩ := (hi.prom q hq hnq).out
  have hlook : ∀ t ∈ looks l o, a.tmps[t]? = some (ρ (.tmp t)) := fun t ht => look_now hc hi ho hnq hdeps ht (hin t ht) (hout t ht)
  have hops : l.toArray[q]? = some o := by simpa using ho
  have hinv : Inv c l E0 E V σ L K (listed.setIfInBounds q true) (a.put o.dst v) w :=
    inv_done hc hd hi (hi.vlt q hq) hnq hdeps ho (fun j => ⟨.inr, fun h => h.elim (fun e => e ▸ hq) id⟩) hdst (fun _ _ => rfl) (fun _ _ _ _ h => h) hi.st hi.keep rfl
  have hgd : ∀ g want d, o.guard = some (g, want) → dstAt l g = some d → yielded l.toArray a.tmps g = match ρ (.tmp d) with | .bool b => some b | _ => none := by
    intro g want d hg hgd
    have hm : d ∈ looks l o := by unfold looks; rw [hg]; simp [hgd]
    have := hlook d hm
    unfold yielded
    unfold dstAt at hgd
    cases hlg : l[g]? with
    | none => simp [hlg] at hgd
    | some p => simp only [hlg] at hgd; simp only [List.getElem?_toArray, hlg, Option.bind_some, hgd, this]; cases ρ (.tmp d) <;> rfl
  rcases hstep with ⟨hquiet, hguard⟩ | ⟨rfl, g, want, d, hg, hgdst, hval⟩
  · have hw : Region.wanted o (yielded l.toArray a.tmps) = true := by
      unfold Region.wanted
      cases hg : o.guard with
      | none => rfl
      | some gw =>
        obtain ⟨g, want⟩ := gw
        rw [hg] at hguard
        obtain ⟨d, h1, h2⟩ := hguard
        simp only []
        rw [hgd g want d hg h1, h2]
        simp
    have hev : execOp a.eval o = execOp ρ o := by
      refine exec_congr o hsel fun x hx => ?_
      cases hx' : tmpOf x with
      | none => exact (hconst x hx a hx').symm
      | some t =>
        cases x with
        | tmp t' =>
          have : t' ∈ looks l o := by unfold looks; exact List.mem_append_left _ (List.mem_filterMap.2 ⟨_, hx, rfl⟩)
          simp [Act.eval, Array.getD_eq_getD_getElem?, hlook t' this]
        | _ => simp [tmpOf] at hx'
    refine arr_does hops hw (Q := fun v' w' => v' = v ∧ w' = w) (.inl ⟨v, w, ?_, rfl, rfl⟩) ?_
    · rw [hev]; exact hquiet σ w L (Sto.le_refl _) hi.keep hi.st
    · rintro v' w' ⟨rfl, rfl⟩; exact hnext _ _ hinv
  · refine arr_skip hops ?_ (hnext _ _ hinv)
    unfold Region.wanted
    rw [hg]
    simp only []
    rw [hgd g want d hg hgdst]
    rcases hval with h | h <;> rw [h] <;> cases want <;> rfl
theorem ready_get {ops : Array Oper} {listed : Array Bool} {t : Nat} (h : (Region.ready .any ops listed)[t % (Region.ready .any ops listed).length]? = none) : Region.ready .any ops listed = [] := by
  cases hr : Region.ready .any ops listed with
  | nil => rfl
  | cons x xs =>
    rw [hr] at h
    have hlt : t % (x :: xs).length < (x :: xs).length := Nat.mod_lt _ (by simp)
    simp at h
    simp at hlt
    omega
theorem god_end (hc : chk l = true) (hd : l.all (dstOk c.n) = true) (hV : (List.range l.length).all V.elem = true) (h : Go c k E σ L) : GoD c l k E0 E V σ L K := by
  have hc := chk_spec hc
  have hV : ∀ i, i < l.length → i ∈ V := fun i hi => by
    have := (List.all_eq_true.1 hV) i (by simpa using hi)
    simpa using this
  have fin : ∀ listed a w, Inv c l E0 E V σ L K listed a w → (∀ i, i < l.length → isL listed i) → Arr c.P c.f c.R (.inRegion l.toArray [] :: k) a w := by
    intro listed a w hi hall
    refine Arr.step (fun _ => step_region_end) (h a w hi.defers ⟨hi.n, fun t v ht => ?_⟩ hi.st)
    by_cases hj : ∃ j ∈ V, dstAt l j = some t
    · obtain ⟨j, hj, hjt⟩ := hj
      exact hi.done j (hall j (hi.vlt j hj)) t v hjt ht
    · refine hi.old t v (fun j hjt hl => hj ⟨j, hi.sub j hl, hjt⟩) ?_
      rw [← hi.same t fun j hj' hjt => hj ⟨j, hj', hjt⟩]; exact ht
  intro fuel
  induction fuel with
  | zero => intro listed t a w hi hu; simp only [Region.linearise.go]; exact fin listed a w hi (all_listed0 (by omega))
  | succ fuel ih =>
    intro listed t a w hi hu
    rw [lin_succ]
    cases hr : (Region.ready .any l.toArray listed)[t % (Region.ready .any l.toArray listed).length]? with
    | none => exact fin listed a w hi (all_listed hc hi.size (ready_get hr))
    | some q =>
      obtain ⟨h1, h2, h3⟩ := (mem_ready hi.size).1 (List.mem_of_getElem? hr)
      refine run_prom hc hd hi (hV q h1) h2 h3 fun a' w' hi' => ih _ _ _ _ hi' ?_
      have := unl_set hi.size h1 h2; omega
theorem god_q' (hc : chk l = true) (i : Nat) {o : Oper} {v : Value} (ho : l[i]? = some o) (hV : V.elem i = false) (hdeps : (depsAt l i).all V.elem = true) (hok : opOk c.n E o = true)
    (hgk : (match o.guard with | some (g, _) => (match dstAt l g with | some d => E.has (.tmp d) | none => false) | none => true) = true)
    (hq : QStep c.P l E.ev o K σ v) (h : GoD c l k E0 (E.putO o.dst v) (i :: V) σ L K) : GoD c l k E0 E V σ L K := by
  have hc := chk_spec hc
  have hV : i ∉ V := by simpa using hV
  have hdeps : ∀ j ∈ depsAt l i, j ∈ V := fun j hj => by simpa using (List.all_eq_true.1 hdeps) j hj
  have hil : i < l.length := by
    rcases Nat.lt_or_ge i l.length with h | h
    · exact h
    · simp [List.getElem?_eq_none h] at ho
  have hdi : dstAt l i = o.dst := by simp [dstAt, ho]
  simp only [opOk, Bool.and_eq_true, List.all_eq_true] at hok
  obtain ⟨⟨hsel, hhas⟩, _⟩ := hok
  intro fuel listed t a w hi hu
  have hni : ¬ isL listed i := fun hl => hV (hi.sub i hl)
  have hE : ∀ t, dstAt l i ≠ some t → (E.putO o.dst v).get t = E.get t := fun t ht => by
    rw [hdi] at ht
    cases hdst : o.dst with
    | none => rfl
    | some d =>
      have : d ≠ t := fun e => ht (by rw [hdst, e])
      simp only [Env.putO, Env.get_cons, if_neg this]
  have hEi : ∀ d, o.dst = some d → (E.putO o.dst v).get d = some v := fun d hd => by simp [hd, Env.putO, Env.get_cons]
  refine h fuel listed t a w ⟨hi.size, fun j hj => List.mem_cons_of_mem _ (hi.sub j hj), hi.closed, ?_, ?_, fun q hq hn => ?_, hi.n, fun j hj t x ht hx => ?_, hi.old, fun t ht => ?_, hi.defers, hi.st, hi.keep⟩ hu
  · intro j hj m hm
    rcases List.mem_cons.1 hj with rfl | hj
    · exact List.mem_cons_of_mem _ (hdeps m hm)
    · exact List.mem_cons_of_mem _ (hi.vclosed j hj m hm)
  · intro j hj
    rcases List.mem_cons.1 hj with rfl | hj
    · exact hil
    · exact hi.vlt j hj
  · rcases List.mem_cons.1 hq with rfl | hq
    · have hgetev : ∀ t ∈ looks l o, E.get t = some (E.ev (.tmp t)) := by
        intro t ht
        have hh : E.has (.tmp t) = true := by
          unfold looks at ht
          rcases List.mem_append.1 ht with ht | ht
          · obtain ⟨x, hx, hxt⟩ := List.mem_filterMap.1 ht
            cases x with
            | tmp t' => simp only [tmpOf, Option.some.injEq] at hxt; subst hxt; exact hhas _ hx
            | _ => simp [tmpOf] at hxt
          · cases hg : o.guard with
            | none => simp [hg] at ht
            | some gw =>
              obtain ⟨g, want⟩ := gw
              simp only [hg] at ht hgk
              cases hdg : dstAt l g with
              | none => simp [hdg] at ht
              | some d => simp only [hdg, Option.toList_some, List.mem_singleton] at ht hgk; subst ht; exact hgk
        simp only [Env.has] at hh
        cases hg : E.get t with
        | none => simp [hg] at hh
        | some x => simp [Env.ev, hg]
      refine ⟨o, E.ev, v, ho, hsel, hEi, ‹_›, fun x _ a hx => ?_, fun t ht hj => ?_, fun t ht hj => ?_⟩
      · cases x <;> first | rfl | simp [tmpOf] at hx
      · obtain ⟨j, hj, hjt⟩ := hj
        have hji : j ≠ q := fun e => hV (e ▸ hdeps j hj)
        rw [hE t (hc.dst j q t hji hjt)]
        exact hgetev t ht
      · rw [← hi.same t ?_]
        · exact hgetev t ht
        · intro j hjV hjt
          have hne : q ≠ j := fun e => hV (e ▸ hjV)
          rcases hc.look q o j t ho hne hjt ht with h | h
          · exact hj ⟨j, h, hjt⟩
          · exact hV (hi.vclosed j hjV q h)
    · obtain ⟨o', ρ, x, h1, h2, h3, h4, h5, h6, h7⟩ := (hi.prom q hq hn).out
      have hqi : q ≠ i := fun e => hV (e ▸ hq)
      have hdq : dstAt l q = o'.dst := by simp [dstAt, h1]
      refine ⟨o', ρ, x, h1, h2, fun d hd => ?_, h4, h5, fun t ht hj => ?_, h7⟩
      · rw [hE d (hc.dst q i d hqi (by rw [hdq]; exact hd))]; exact h3 d hd
      · have hj' := hj
        obtain ⟨j, hjd, hjt⟩ := hj
        have hji : j ≠ i := fun e => hV (e ▸ hi.vclosed q hq j hjd)
        rw [hE t (hc.dst j i t hji hjt)]; exact h6 t ht hj'
  · have hji : j ≠ i := fun e => hni (e ▸ hj)
    rw [hE t (hc.dst j i t hji ht)] at hx
    exact hi.done j hj t x ht hx
  · rw [hE t (ht i List.mem_cons_self)]
    exact hi.same t fun j hj => ht j (List.mem_cons_of_mem _ hj)
theorem god_n (hc : chk l = true) (hd : l.all (dstOk c.n) = true) (i : Nat) {o : Oper} (ho : l[i]? = some o) (hgd : match o.guard with | none => True | some (g, want) => ∃ d, dstAt l g = some d ∧ E.get d = some (.bool want)) (hV : V.elem i = false) (hdeps : (depsAt l i).all V.elem = true) (hok : opOk c.n E o = true)
    (honly : (List.range l.length).all (fun j => Nat.beq j i || V.elem j || !((depsAt l j).all V.elem)) = true)
    {Q : Value → Sto → SHeap → Prop} (hn : Noisy c.P E.ev o σ L Q) (hkeep : ∀ v σ' L', Sto.le σ σ' → Q v σ' L' → Keep K L')
    (h : ∀ v σ' L', Sto.le σ σ' → Q v σ' L' → GoD c l k E0 (E.putO o.dst v) (i :: V) σ' L' K) : GoD c l k E0 E V σ L K := by
  have hc := chk_spec hc
  have hV : i ∉ V := by simpa using hV
  have hdeps : ∀ j ∈ depsAt l i, j ∈ V := fun j hj => by simpa using (List.all_eq_true.1 hdeps) j hj
  have hil : i < l.length := by
    rcases Nat.lt_or_ge i l.length with h | h
    · exact h
    · simp [List.getElem?_eq_none h] at ho
  have honly : ∀ j, j < l.length → j ∉ V → (∀ m ∈ depsAt l j, m ∈ V) → j = i := by
    intro j hj hjV hjd
    have := (List.all_eq_true.1 honly) j (by simpa using hj)
    simp only [Bool.or_eq_true] at this
    rcases this with (h | h) | h
    · exact Nat.eq_of_beq_eq_true h
    · exact absurd (by simpa using h) hjV
    · simp only [Bool.not_eq_true'] at h
      exfalso
      have h2 : (depsAt l j).all V.elem = true := List.all_eq_true.2 fun m hm => by simpa using hjd m hm
      rw [h2] at h; cases h
  have hdi : dstAt l i = o.dst := by simp [dstAt, ho]
  have hok' := hok
  simp only [opOk, Bool.and_eq_true, List.all_eq_true] at hok
  obtain ⟨⟨hsel, hhas⟩, _⟩ := hok
  intro fuel
  induction fuel with
  | zero =>
    intro listed t a w hi hu
    exact absurd (hi.sub i (all_listed0 (by omega) i hil)) hV
  | succ fuel ih =>
    intro listed t a w hi hu
    rw [lin_succ]
    cases hr : (Region.ready .any l.toArray listed)[t % (Region.ready .any l.toArray listed).length]? with
    | none => exact absurd (hi.sub i (all_listed hc hi.size (ready_get hr) i hil)) hV
    | some q =>
      obtain ⟨h1, h2, h3⟩ := (mem_ready hi.size).1 (List.mem_of_getElem? hr)
      have hlt := unl_set hi.size h1 h2
      by_cases hqV : q ∈ V
      · exact run_prom hc hd hi hqV h2 h3 fun a' w' hi' => ih _ _ _ _ hi' (by omega)
      · have hqi := honly q h1 hqV fun m hm => hi.sub m (h3 m hm)
        subst hqi
        have hops : l.toArray[q]? = some o := by simpa using ho
        have hlk : ∀ (t' : Tmp) (y : Value), t' ∈ looks l o → E.get t' = some y → a.tmps[t']? = some y := fun t' y hm hy =>
          look_now hc hi ho h2 h3 hm (x := y) (fun _ => hy) fun hno => by
            rw [← hi.same t' fun j hjV hjt => ?_]
            · exact hy
            · have hne : q ≠ j := fun e => hqV (e ▸ hjV)
              rcases hc.look q o j t' ho hne hjt hm with h | h
              · exact hno ⟨j, h, hjt⟩
              · exact hqV (hi.vclosed j hjV q h)
        have hw : Region.wanted o (yielded l.toArray a.tmps) = true := by
          unfold Region.wanted
          cases hg : o.guard with
          | none => rfl
          | some gw =>
            obtain ⟨g, want⟩ := gw
            rw [hg] at hgd
            obtain ⟨d, e1, e2⟩ := hgd
            have hm : d ∈ looks l o := by unfold looks; rw [hg]; simp [e1]
            have hd2 := hlk d _ hm e2
            simp only []
            unfold yielded
            unfold dstAt at e1
            cases hlg : l[g]? with
            | none => simp [hlg] at e1
            | some p => simp only [hlg] at e1; simp [hlg, e1, hd2]
        have hev : execOp a.eval o = execOp E.ev o := by
          refine exec_congr o hsel fun x hx => ?_
          cases x with
          | tmp t' =>
            have hh := hhas _ hx
            simp only [Env.has] at hh
            obtain ⟨y, hy⟩ := Option.isSome_iff_exists.1 hh
            have := hlk t' y (by unfold looks; exact List.mem_append_left _ (List.mem_filterMap.2 ⟨_, hx, rfl⟩)) hy
            simp [Act.eval, Env.ev, Array.getD_eq_getD_getElem?, this, hy]
          | _ => rfl
        refine arr_does hops hw (Q := fun v w' => ∃ σ' L', Sto.le σ σ' ∧ St σ' w' L' ∧ Q v σ' L') ?_ ?_
        · have := hn w hi.st
          unfold Does at *; rw [hev]; exact this
        · rintro v w' ⟨σ', L', g1, g2, g3⟩
          refine h v σ' L' g1 g3 fuel _ _ _ w' (inv_done hc hd hi h1 h2 h3 ho (fun j => List.mem_cons) ?_ ?_ ?_ g2 (hkeep v σ' L' g1 g3) rfl) (by omega)
          · intro d hd; simp [hd, Env.putO, Env.get_cons]
          · intro t ht
            rw [hdi] at ht
            cases hdst : o.dst with
            | none => rfl
            | some d =>
              have : d ≠ t := fun e => ht (by rw [hdst, e])
              simp only [Env.putO, Env.get_cons, if_neg this]
          · intro p hp hpq hpl hprom
            obtain ⟨o', ρ, x, e1, e2, e3, e4, e5, e6, e7⟩ := hprom.out
            have hdp : dstAt l p = o'.dst := by simp [dstAt, e1]
            have hE : ∀ t, dstAt l q ≠ some t → (E.putO o.dst v).get t = E.get t := fun t ht => by
              rw [hdi] at ht
              cases hdst : o.dst with
              | none => rfl
              | some d =>
                have : d ≠ t := fun e => ht (by rw [hdst, e])
                simp only [Env.putO, Env.get_cons, if_neg this]
            refine ⟨o', ρ, x, e1, e2, fun d hd => ?_, ?_, e5, fun t ht hj => ?_, e7⟩
            · rw [hE d (hc.dst p q d hpq (by rw [hdp]; exact hd))]; exact e3 d hd
            · rcases e4 with ⟨hq', hg'⟩ | h'
              · exact .inl ⟨fun σ2 w2 L2 hle hk hs => hq' σ2 w2 L2 (Sto.le_trans g1 hle) hk hs, hg'⟩
              · exact .inr h'
            · have hj' := hj
              obtain ⟨j, hjd, hjt⟩ := hj
              have hji : j ≠ q := fun e => hqV (e ▸ hi.vclosed p hp j hjd)
              rw [hE t (hc.dst j q t hji hjt)]; exact e6 t ht hj'
theorem god_na (hc : chk l = true) (hd : l.all (dstOk c.n) = true) (i : Nat) {o : Oper} (ho : l[i]? = some o) (hgd : match o.guard with | none => True | some (g, want) => ∃ d, dstAt l g = some d ∧ E.get d = some (.bool want)) (hV : V.elem i = false) (hdeps : (depsAt l i).all V.elem = true) (hok : opOk c.n E o = true)
    (honly : (List.range l.length).all (fun j => Nat.beq j i || V.elem j || !((depsAt l j).all V.elem)) = true)
    (hanc : V.all (fun j => (anc l i).testBit j) = true)
    {Q : Value → Sto → SHeap → Prop} (hn : Noisy c.P E.ev o σ L Q)
    (h : ∀ v σ' L', Sto.le σ σ' → Q v σ' L' → GoD c l k E0 (E.putO o.dst v) (i :: V) σ' L' L') : GoD c l k E0 E V σ L K := by
  have hc := chk_spec hc
  have hV : i ∉ V := by simpa using hV
  have hdeps : ∀ j ∈ depsAt l i, j ∈ V := fun j hj => by simpa using (List.all_eq_true.1 hdeps) j hj
  have hil : i < l.length := by
    rcases Nat.lt_or_ge i l.length with h | h
    · exact h
    · simp [List.getElem?_eq_none h] at ho
  have honly : ∀ j, j < l.length → j ∉ V → (∀ m ∈ depsAt l j, m ∈ V) → j = i := by
    intro j hj hjV hjd
    have := (List.all_eq_true.1 honly) j (by simpa using hj)
    simp only [Bool.or_eq_true] at this
    rcases this with (h | h) | h
    · exact Nat.eq_of_beq_eq_true h
    · exact absurd (by simpa using h) hjV
    · simp only [Bool.not_eq_true'] at h
      exfalso
      have h2 : (depsAt l j).all V.elem = true := List.all_eq_true.2 fun m hm => by simpa using hjd m hm
      rw [h2] at h; cases h
  have hdi : dstAt l i = o.dst := by simp [dstAt, ho]
  have hok' := hok
  simp only [opOk, Bool.and_eq_true, List.all_eq_true] at hok
  obtain ⟨⟨hsel, hhas⟩, _⟩ := hok
  intro fuel
  induction fuel with
  | zero =>
    intro listed t a w hi hu
    exact absurd (hi.sub i (all_listed0 (by omega) i hil)) hV
  | succ fuel ih =>
    intro listed t a w hi hu
    rw [lin_succ]
    cases hr : (Region.ready .any l.toArray listed)[t % (Region.ready .any l.toArray listed).length]? with
    | none => exact absurd (hi.sub i (all_listed hc hi.size (ready_get hr) i hil)) hV
    | some q =>
      obtain ⟨h1, h2, h3⟩ := (mem_ready hi.size).1 (List.mem_of_getElem? hr)
      have hlt := unl_set hi.size h1 h2
      by_cases hqV : q ∈ V
      · exact run_prom hc hd hi hqV h2 h3 fun a' w' hi' => ih _ _ _ _ hi' (by omega)
      · have hqi := honly q h1 hqV fun m hm => hi.sub m (h3 m hm)
        subst hqi
        have hops : l.toArray[q]? = some o := by simpa using ho
        have hlk : ∀ (t' : Tmp) (y : Value), t' ∈ looks l o → E.get t' = some y → a.tmps[t']? = some y := fun t' y hm hy =>
          look_now hc hi ho h2 h3 hm (x := y) (fun _ => hy) fun hno => by
            rw [← hi.same t' fun j hjV hjt => ?_]
            · exact hy
            · have hne : q ≠ j := fun e => hqV (e ▸ hjV)
              rcases hc.look q o j t' ho hne hjt hm with h | h
              · exact hno ⟨j, h, hjt⟩
              · exact hqV (hi.vclosed j hjV q h)
        have hw : Region.wanted o (yielded l.toArray a.tmps) = true := by
          unfold Region.wanted
          cases hg : o.guard with
          | none => rfl
          | some gw =>
            obtain ⟨g, want⟩ := gw
            rw [hg] at hgd
            obtain ⟨d, e1, e2⟩ := hgd
            have hm : d ∈ looks l o := by unfold looks; rw [hg]; simp [e1]
            have hd2 := hlk d _ hm e2
            simp only []
            unfold yielded
            unfold dstAt at e1
            cases hlg : l[g]? with
            | none => simp [hlg] at e1
            | some p => simp only [hlg] at e1; simp [hlg, e1, hd2]
        have hev : execOp a.eval o = execOp E.ev o := by
          refine exec_congr o hsel fun x hx => ?_
          cases x with
          | tmp t' =>
            have hh := hhas _ hx
            simp only [Env.has] at hh
            obtain ⟨y, hy⟩ := Option.isSome_iff_exists.1 hh
            have := hlk t' y (by unfold looks; exact List.mem_append_left _ (List.mem_filterMap.2 ⟨_, hx, rfl⟩)) hy
            simp [Act.eval, Env.ev, Array.getD_eq_getD_getElem?, this, hy]
          | _ => rfl
        refine arr_does hops hw (Q := fun v w' => ∃ σ' L', Sto.le σ σ' ∧ St σ' w' L' ∧ Q v σ' L') ?_ ?_
        · have := hn w hi.st
          unfold Does at *; rw [hev]; exact this
        · rintro v w' ⟨σ', L', g1, g2, g3⟩
          refine h v σ' L' g1 g3 fuel _ _ _ w' (inv_done hc hd hi h1 h2 h3 ho (fun j => List.mem_cons) ?_ ?_ ?_ g2 (Keep.refl _) rfl) (by omega)
          · intro d hd; simp [hd, Env.putO, Env.get_cons]
          · intro t ht
            rw [hdi] at ht
            cases hdst : o.dst with
            | none => rfl
            | some d =>
              have : d ≠ t := fun e => ht (by rw [hdst, e])
              simp only [Env.putO, Env.get_cons, if_neg this]
          · intro p hp hpq hpl hprom
            refine absurd ?_ hpl
            have hm := (List.all_eq_true.1 hanc) p hp
            exact ancM_listed hi.closed _ _ (fun b hb => h3 b (dmask_mem hb)) p hm
theorem god_q (hc : chk l = true) (i : Nat) {o : Oper} {v : Value} (ho : l[i]? = some o) (hg : o.guard = none) (hV : V.elem i = false) (hdeps : (depsAt l i).all V.elem = true) (hok : opOk c.n E o = true)
    (hq : Quiet c.P E.ev o K σ v) (h : GoD c l k E0 (E.putO o.dst v) (i :: V) σ L K) : GoD c l k E0 E V σ L K :=
  god_q' hc i ho hV hdeps hok (by rw [hg]) (.inl ⟨hq, by rw [hg]; trivial⟩) h
theorem god_qc (hc : chk l = true) (i : Nat) {o : Oper} {v : Value} {g : Nat} {want b : Bool} {d : Tmp} (ho : l[i]? = some o) (hg : o.guard = some (g, want)) (hd : dstAt l g = some d) (hb : E.get d = some (.bool b))
    (hV : V.elem i = false) (hdeps : (depsAt l i).all V.elem = true) (hok : opOk c.n E o = true)
    (hq : (b == want) = true → Quiet c.P E.ev o K σ v) (h : GoD c l k E0 (E.putO o.dst (bif b == want then v else undef)) (i :: V) σ L K) : GoD c l k E0 E V σ L K := by
  refine god_q' hc i ho hV hdeps hok (by rw [hg]; simp only []; rw [hd]; simp [Env.has, hb]) ?_ h
  cases hbw : (b == want) with
  | true =>
    refine .inl ⟨hq hbw, ?_⟩
    rw [hg]
    have : b = want := by simpa using hbw
    exact ⟨d, hd, by simp [Env.ev, hb, this]⟩
  | false =>
    refine .inr ⟨rfl, g, want, d, hg, hd, .inl ?_⟩
    have : b = !want := by cases b <;> cases want <;> simp_all
    simp [Env.ev, hb, this]
theorem god_skip (hc : chk l = true) (i : Nat) {o : Oper} {g : Nat} {want : Bool} {d : Tmp} {u : Value} (ho : l[i]? = some o) (hg : o.guard = some (g, want)) (hd : dstAt l g = some d) (hb : E.get d = some u) (hu : u = .bool (!want) ∨ u = undef)
    (hV : V.elem i = false) (hdeps : (depsAt l i).all V.elem = true) (hok : opOk c.n E o = true)
    (h : GoD c l k E0 (E.putO o.dst undef) (i :: V) σ L K) : GoD c l k E0 E V σ L K := by
  refine god_q' hc i ho hV hdeps hok (by rw [hg]; simp only []; rw [hd]; simp [Env.has, hb]) (.inr ⟨rfl, g, want, d, hg, hd, ?_⟩) h
  simp [Env.ev, hb, hu]
theorem go_draw {id : Nat} {l : List Oper} (K : SHeap) (hmix : c.P.follows .mixedOrders = true) (hk : Keep K L) (h : GoD c l k E E [] σ L K) : Go c (.code (.region id l.toArray true) :: k) E σ L := by
  intro a w hd hr hst
  refine Arr.step (fun _ => step_region_draw) ?_
  simp only [Region.schedule, hmix, Bool.true_or, if_true]
  have hnl : ∀ j, ¬ isL (Array.replicate l.toArray.size false) j := fun j hj => by
    unfold isL at hj
    rw [Array.getElem?_replicate] at hj
    split at hj <;> simp at hj
  refine h l.toArray.size _ _ a _ ⟨by simp, fun j hj => absurd hj (hnl j), fun j hj => absurd hj (hnl j), fun j hj => by simp at hj, fun j hj => by simp at hj, fun j hj => by simp at hj, hr.1,
    fun j hj => absurd hj (hnl j), fun t v _ ht => hr.2 t v ht, fun _ _ => rfl, hd, ⟨⟨hst.amb.tape, hst.amb.os, hst.amb.output, Nat.le_succ_of_le hst.amb.drawn⟩, hst.sto, hst.own, hst.nodup, hst.off⟩, hk⟩ ?_
  unfold unl
  refine Nat.le_trans List.countP_le_length ?_
  simp
end draw
end Go.Eng
namespace Go.Eng
open Go
def Env.op (E : Env) : Operand → Option Value
  | .tmp t => E.get t
  | .const v => some v
  | .global g => some (.pointer (some ⟨g, 0, none⟩))
  | .func f => some (.func (.func f) #[] #[])
theorem Env.op_ev {E : Env} {x : Operand} {v : Value} (h : E.op x = some v) : E.ev x = v := by
  cases x <;> simp [Env.op, Env.ev] at * <;> simp [h]
def Kn (σ : Sto) (K : SHeap) (b : Nat) (o : Obj) : Prop := σ b = some o ∨ (b, o) ∈ K
theorem Kn.sto {σ : Sto} {K : SHeap} {b : Nat} {o : Obj} (h : σ b = some o) : Kn σ K b o := .inl h
theorem Kn.hd {σ : Sto} {K : SHeap} {b : Nat} {o : Obj} : Kn σ ((b, o) :: K) b o := .inr List.mem_cons_self
theorem Kn.tl {σ : Sto} {K : SHeap} {b : Nat} {o : Obj} {p : Nat × Obj} (h : Kn σ K b o) : Kn σ (p :: K) b o := h.imp id (List.mem_cons_of_mem _)
theorem Kn.up {σ σ' : Sto} {K : SHeap} {b : Nat} {o : Obj} (h : Kn σ K b o) (hle : Sto.le σ σ') : Kn σ' K b o := h.imp hle.get id
theorem Kn.heap {σ σ' : Sto} {K L : SHeap} {w : World} {b : Nat} {o : Obj} (h : Kn σ K b o) (hle : Sto.le σ σ') (hk : Keep K L) (hst : St σ' w L) : w.heap[b]? = some o := by
  rcases h with h | h
  · exact hst.sto b o (hle.get h)
  · exact hst.own b o (hk b o h)
inductive At : List Value → Nat → Value → Prop where
  | z {v l} : At (v :: l) 0 v
  | s {a l i v} : At l i v → At (a :: l) (i + 1) v
theorem At.get {l : List Value} {i : Nat} {v : Value} (h : At l i v) : l[i]? = some v := by
  induction h with
  | z => rfl
  | s _ ih => simpa using ih
theorem At.of {l : List Value} {i : Nat} {v : Value} (h : l[i]? = some v) : At l i v := by
  induction l generalizing i with
  | nil => simp at h
  | cons a l ih =>
    cases i with
    | zero => simp at h; subst h; exact .z
    | succ i => exact .s (ih (by simpa using h))
theorem At.app {l m : List Value} {n i : Nat} {v : Value} (hn : l.length = n) (h : At m i v) : At (l ++ m) (n + i) v :=
  .of (by subst hn; rw [List.getElem?_append_right (by omega)]; simpa using h.get)
theorem At.left {l m : List Value} {i : Nat} {v : Value} (h : At l i v) : At (l ++ m) i v :=
  .of (by
    have := h.get
    have hlt : i < l.length := by
      rcases Nat.lt_or_ge i l.length with h | h
      · exact h
      · simp [List.getElem?_eq_none h] at this
    rw [List.getElem?_append_left hlt]; exact this)
def Part (l : List Value) (i n : Nat) (vs : List Value) : Prop := (l.drop i).take n = vs ∧ i + n ≤ l.length
theorem Part.mk {a vs b : List Value} {i n : Nat} (hi : a.length = i) (hn : vs.length = n) : Part (a ++ (vs ++ b)) i n vs := by
  subst hi hn; exact ⟨by simp, by simp⟩
theorem Part.arr {l vs : List Value} {i n : Nat} (h : Part l i n vs) : l.toArray.extract i (i + n) = vs.toArray := by
  obtain ⟨h1, _⟩ := h
  subst h1
  simp [List.extract_toArray, List.extract]
section ops
variable {P : Program} {E : Env} {K : SHeap} {σ : Sto} {d : Option Tmp} {ty : TypeId} {pos : String} {af : Array Edge} {g : Option (Nat × Bool)}
theorem q_move {x : Operand} {v : Value} (hx : E.op x = some v) : Quiet P E.ev ⟨d, .move x, ty, pos, af, g⟩ K σ v := by
  intro σ' w L' _ _ _; simp [execOp, Env.op_ev hx]
theorem q_assign {x : Operand} {v : Value} (hx : E.op x = some v) : Quiet P E.ev ⟨d, .assign x, ty, pos, af, g⟩ K σ v := by
  intro σ' w L' _ _ _; simp [execOp, Env.op_ev hx]
theorem q_pick {c a b : Operand} {t : Bool} {u v x : Value} (hc : E.op c = some (.bool t)) (ha : E.op a = some u) (hb : E.op b = some v) (hx : (bif t then u else v) = x) :
    Quiet P E.ev ⟨d, .pick c a b, ty, pos, af, g⟩ K σ x := by
  intro σ' w L' _ _ _
  subst hx
  cases t <;> simp [execOp, Env.op_ev hc, Env.op_ev ha, Env.op_ev hb, asBool]
theorem q_nil {x : Operand} {a : Addr} (hx : E.op x = some (.pointer (some a))) : Quiet P E.ev ⟨d, .nilCheck x, ty, pos, af, g⟩ K σ (.pointer (some a)) := by
  intro σ' w L' _ _ _; simp [execOp, Env.op_ev hx]
theorem q_nilF {x : Operand} {n : Nat} {f c : Array Value} (hx : E.op x = some (.func (.func n) f c)) : Quiet P E.ev ⟨d, .nilCheck x, ty, pos, af, g⟩ K σ (.func (.func n) f c) := by
  intro σ' w L' _ _ _; simp [execOp, Env.op_ev hx]
theorem q_not {x : Operand} {b : Bool} {t : TypeId} (hx : E.op x = some (.bool b)) : Quiet P E.ev ⟨d, .unOp .not t x, ty, pos, af, g⟩ K σ (.bool (!b)) := by
  intro σ' w L' _ _ _; simp [execOp, Env.op_ev hx, Op.unary]
theorem q_extract {x : Operand} {i : Nat} {vs : List Value} {v : Value} (hx : E.op x = some (.tuple vs.toArray)) (hv : At vs i v) : Quiet P E.ev ⟨d, .extract x i, ty, pos, af, g⟩ K σ v := by
  intro σ' w L' _ _ _; simp [execOp, Env.op_ev hx, Instr.extract, hv.get]
theorem q_field {T n off : Nat} {x : Operand} {fs : Array Field} {f : Field} {cs : List Value} {v : Value} (hx : E.op x = some (.agg cs.toArray)) (hU : ∀ w, (underlying T).run P w = .ok (.struct fs) w)
    (hf : fs[n]? = some f) (hA : ∀ w, (isAgg f.type).run P w = .ok false w) (ho : f.offset = off) (hv : At cs off v) : Quiet P E.ev ⟨d, .field T x n, ty, pos, af, g⟩ K σ v := by
  intro σ' w L' _ _ _; subst ho; simp [execOp, Env.op_ev hx, Instr.field, hU, hf, asAgg, part, hA, hv.get]
theorem q_fieldA {T n m off : Nat} {x : Operand} {fs : Array Field} {f : Field} {cs vs : List Value} (hx : E.op x = some (.agg cs.toArray)) (hU : ∀ w, (underlying T).run P w = .ok (.struct fs) w)
    (hf : fs[n]? = some f) (hA : ∀ w, (isAgg f.type).run P w = .ok true w) (hS : ∀ w, (sizeOf f.type).run P w = .ok m w) (ho : f.offset = off) (hv : Part cs off m vs) :
    Quiet P E.ev ⟨d, .field T x n, ty, pos, af, g⟩ K σ (.agg vs.toArray) := by
  intro σ' w L' _ _ _; subst ho; simp only [← hv.arr]; simp [execOp, Env.op_ev hx, Instr.field, hU, hf, asAgg, part, hA, hS]
theorem q_fieldAddr {T n m b o off o' : Nat} {x : Operand} {fs : Array Field} {f : Field} (hx : E.op x = some (.pointer (some ⟨b, o, none⟩))) (hU : ∀ w, (underlying T).run P w = .ok (.struct fs) w)
    (hf : fs[n]? = some f) (hS : ∀ w, (sizeOf f.type).run P w = .ok (m + 1) w) (hoff : f.offset = off) (ho : o + off = o') : Quiet P E.ev ⟨d, .fieldAddr T x n, ty, pos, af, g⟩ K σ (.pointer (some ⟨b, o', none⟩)) := by
  intro σ' w L' _ _ _
  subst hoff ho
  have : (Addr.mk b o none).add f.offset = ⟨b, o + f.offset, none⟩ := by unfold Addr.add; split <;> simp_all
  simp [execOp, Env.op_ev hx, Instr.fieldAt, hU, hf, Instr.sureAddr, fieldPlace, hS, this]
theorem cell_of {w : World} {b o : Nat} {cs : Array Value} {t : TypeId} {fr : Nat × Nat} (h : w.heap[b]? = some (.cells cs t fr)) : w.cell? ⟨b, o, none⟩ = cs[o]? := by
  simp [World.cell?, h]
theorem q_load {T b o : Nat} {x : Operand} {cs : List Value} {t : TypeId} {fr : Nat × Nat} {v : Value} (hx : E.op x = some (.pointer (some ⟨b, o, none⟩))) (hA : ∀ w, (isAgg T).run P w = .ok false w)
    (hk : Kn σ K b (.cells cs.toArray t fr)) (hv : At cs o v) : Quiet P E.ev ⟨d, .load T x, ty, pos, af, g⟩ K σ v := by
  intro σ' w L' hle hkp hst
  have := cell_of (o := o) (hk.heap hle hkp hst)
  simp [execOp, Env.op_ev hx, Instr.loadAt, Instr.sureAddr, loadVar, hA, this, hv.get]
theorem run_loadRow {w : World} {b : Nat} {cs : Array Value} {t : TypeId} {fr : Nat × Nat} (h : w.heap[b]? = some (.cells cs t fr)) (o : Nat) : ∀ (n i : Nat) (acc : Array Value), o + i + n ≤ cs.size →
    (loadCellsFrom ⟨b, o, none⟩ i n acc).run P w = .ok (acc ++ cs.extract (o + i) (o + i + n)) w := by
  intro n
  induction n with
  | zero => intro i acc _; simp [loadCellsFrom]; omega
  | succ n ih =>
    intro i acc hn
    have ha : (Addr.mk b o none).add i = ⟨b, o + i, none⟩ := by unfold Addr.add; split <;> simp_all
    have hlt : o + i < cs.size := by omega
    simp only [loadCellsFrom, ha, Sem.run_bind, run_load, cell_of h, Array.getElem?_eq_getElem hlt, Result.andThen_ok]
    rw [ih (i + 1) _ (by omega)]
    have : cs.extract (o + i) (o + i + (n + 1)) = #[cs[o + i]] ++ cs.extract (o + (i + 1)) (o + (i + 1) + n) := by
      apply Array.ext_getElem?
      intro k
      rw [Array.getElem?_append, Array.getElem?_extract]
      rcases k with _ | k
      · rw [if_pos (by omega), if_pos (by simp)]; simp [Array.getElem?_eq_getElem hlt]
      · have e1 : (#[cs[o + i]] : Array Value).size = 1 := rfl
        rw [e1, if_neg (show ¬ k + 1 < 1 by omega), Array.getElem?_extract]
        simp only [Nat.add_sub_cancel]
        by_cases hk : k < n
        · rw [if_pos (by omega), if_pos (by omega)]; congr 1; omega
        · rw [if_neg (by omega), if_neg (by omega)]
    rw [this]
    simp
theorem run_loadVarA {w : World} {T b o n : Nat} {cs : Array Value} {t : TypeId} {fr : Nat × Nat} (h : w.heap[b]? = some (.cells cs t fr)) (hA : ∀ w, (isAgg T).run P w = .ok true w)
    (hS : ∀ w, (sizeOf T).run P w = .ok n w) (hn : o + n ≤ cs.size) : (loadVar T ⟨b, o, none⟩).run P w = .ok (.agg (cs.extract o (o + n))) w := by
  have := run_loadRow (P := P) h o n 0 #[] (by omega)
  simp only [Nat.add_zero, Array.empty_append] at this
  simp [loadVar, hA, hS, loadCells, this]
theorem q_loadA {T b o n : Nat} {x : Operand} {cs vs : List Value} {t : TypeId} {fr : Nat × Nat} (hx : E.op x = some (.pointer (some ⟨b, o, none⟩))) (hA : ∀ w, (isAgg T).run P w = .ok true w)
    (hS : ∀ w, (sizeOf T).run P w = .ok n w) (hk : Kn σ K b (.cells cs.toArray t fr)) (hv : Part cs o n vs) : Quiet P E.ev ⟨d, .load T x, ty, pos, af, g⟩ K σ (.agg vs.toArray) := by
  intro σ' w L' hle hkp hst
  have := run_loadVarA (P := P) (T := T) (o := o) (n := n) (hk.heap hle hkp hst) hA hS (by simpa using hv.2)
  rw [hv.arr] at this
  simp [execOp, Env.op_ev hx, Instr.loadAt, Instr.sureAddr, this]
theorem q_indexAddr {T e b o n cap m : Nat} {x y : Operand} {i : Int} {j : Nat} {k : IntKind} (hx : E.op x = some (.slice (some ⟨b, o, none⟩) n cap)) (hy : E.op y = some (.int k i)) (hU : ∀ w, (underlying T).run P w = .ok (.slice e) w)
    (hS : ∀ w, (sizeOf e).run P w = .ok m w) (hi : i = (j : Int)) (hj : j < n) {o' : Nat} (ho : o + j * m = o') : Quiet P E.ev ⟨d, .indexAddr T x y, ty, pos, af, g⟩ K σ (.pointer (some ⟨b, o', none⟩)) := by
  intro σ' w L' _ _ _
  subst hi ho
  have : (Addr.mk b o none).add (j * m) = ⟨b, o + j * m, none⟩ := by unfold Addr.add; split <;> simp_all
  simp [execOp, Env.op_ev hx, Env.op_ev hy, Instr.indexAt, asIntOf, hU, hS, hj, this]
theorem q_indexAddrA {T e b o n m : Nat} {x y : Operand} {i : Int} {j : Nat} {k : IntKind} (hx : E.op x = some (.pointer (some ⟨b, o, none⟩))) (hy : E.op y = some (.int k i)) (hU : ∀ w, (underlying T).run P w = .ok (.array n e) w)
    (hS : ∀ w, (sizeOf e).run P w = .ok m w) (hi : i = (j : Int)) (hj : j < n) {o' : Nat} (ho : o + j * m = o') : Quiet P E.ev ⟨d, .indexAddr T x y, ty, pos, af, g⟩ K σ (.pointer (some ⟨b, o', none⟩)) := by
  intro σ' w L' _ _ _
  subst hi ho
  have : (Addr.mk b o none).add (j * m) = ⟨b, o + j * m, none⟩ := by unfold Addr.add; split <;> simp_all
  simp [execOp, Env.op_ev hx, Env.op_ev hy, Instr.indexAt, asIntOf, hU, hS, hj, this, Instr.sureAddr]
theorem q_int {op : BinOp} {T T2 : TypeId} {x y : Operand} {k : IntKind} {a b : Int} {v : Value} (hx : E.op x = some (.int k a)) (hy : E.op y = some (.int k b))
    (hop : ∀ w, (binOp op T (.int k a) (.int k b)).run P w = .ok v w) : Quiet P E.ev ⟨d, .binOp op T x y T2, ty, pos, af, g⟩ K σ v := by
  intro σ' w L' _ _ _
  cases op <;> simp [execOp, Env.op_ev hx, Env.op_ev hy, eqGuard, hop]
theorem q_add {T T2 : TypeId} {x y : Operand} {k : IntKind} {a b c : Int} (hx : E.op x = some (.int k a)) (hy : E.op y = some (.int k b)) (hc : k.wrap (a + b) = c) :
    Quiet P E.ev ⟨d, .binOp .add T x y T2, ty, pos, af, g⟩ K σ (.int k c) := q_int hx hy fun w => by simp [binOp, Op.intArith, hc]
theorem q_sub {T T2 : TypeId} {x y : Operand} {k : IntKind} {a b c : Int} (hx : E.op x = some (.int k a)) (hy : E.op y = some (.int k b)) (hc : k.wrap (a - b) = c) :
    Quiet P E.ev ⟨d, .binOp .sub T x y T2, ty, pos, af, g⟩ K σ (.int k c) := q_int hx hy fun w => by simp [binOp, Op.intArith, hc]
theorem q_mul {T T2 : TypeId} {x y : Operand} {k : IntKind} {a b c : Int} (hx : E.op x = some (.int k a)) (hy : E.op y = some (.int k b)) (hc : k.wrap (a * b) = c) :
    Quiet P E.ev ⟨d, .binOp .mul T x y T2, ty, pos, af, g⟩ K σ (.int k c) := q_int hx hy fun w => by simp [binOp, Op.intArith, hc]
theorem q_cmp {op : BinOp} {T T2 : TypeId} {x y : Operand} {k : IntKind} {a b : Int} {v : Bool} (hx : E.op x = some (.int k a)) (hy : E.op y = some (.int k b)) (hv : ∀ w, (binOp op T (.int k a) (.int k b)).run P w = .ok (.bool v) w) :
    Quiet P E.ev ⟨d, .binOp op T x y T2, ty, pos, af, g⟩ K σ (.bool v) := q_int hx hy hv
theorem q_lss {T T2 : TypeId} {x y : Operand} {k : IntKind} {a b : Int} (hx : E.op x = some (.int k a)) (hy : E.op y = some (.int k b)) :
    Quiet P E.ev ⟨d, .binOp .lss T x y T2, ty, pos, af, g⟩ K σ (.bool (decide (a < b))) := q_int hx hy fun w => by simp [binOp, Op.intCmp]
theorem q_leq {T T2 : TypeId} {x y : Operand} {k : IntKind} {a b : Int} (hx : E.op x = some (.int k a)) (hy : E.op y = some (.int k b)) :
    Quiet P E.ev ⟨d, .binOp .leq T x y T2, ty, pos, af, g⟩ K σ (.bool (decide (a ≤ b))) := q_int hx hy fun w => by simp [binOp, Op.intCmp]
theorem q_gtr {T T2 : TypeId} {x y : Operand} {k : IntKind} {a b : Int} (hx : E.op x = some (.int k a)) (hy : E.op y = some (.int k b)) :
    Quiet P E.ev ⟨d, .binOp .gtr T x y T2, ty, pos, af, g⟩ K σ (.bool (decide (b < a))) := q_int hx hy fun w => by simp [binOp, Op.intCmp]
theorem q_geq {T T2 : TypeId} {x y : Operand} {k : IntKind} {a b : Int} (hx : E.op x = some (.int k a)) (hy : E.op y = some (.int k b)) :
    Quiet P E.ev ⟨d, .binOp .geq T x y T2, ty, pos, af, g⟩ K σ (.bool (decide (b ≤ a))) := q_int hx hy fun w => by simp [binOp, Op.intCmp]
theorem q_eql {T T2 : TypeId} {x y : Operand} {k : IntKind} {a b : Int} (hx : E.op x = some (.int k a)) (hy : E.op y = some (.int k b)) :
    Quiet P E.ev ⟨d, .binOp .eql T x y T2, ty, pos, af, g⟩ K σ (.bool (decide (a = b))) := q_int hx hy fun w => by simp [binOp, Op.intCmp]; rfl
theorem q_neq {T T2 : TypeId} {x y : Operand} {k : IntKind} {a b : Int} (hx : E.op x = some (.int k a)) (hy : E.op y = some (.int k b)) :
    Quiet P E.ev ⟨d, .binOp .neq T x y T2, ty, pos, af, g⟩ K σ (.bool (!decide (a = b))) := q_int hx hy fun w => by simp [binOp, Op.intCmp, bne]; rfl
theorem q_conv {S D : TypeId} {x : Operand} {k k' : IntKind} {n m : Int} {u : TypeDesc} (hx : E.op x = some (.int k n)) (hS : ∀ w, (underlying S).run P w = .ok u w) (hD : ∀ w, (underlying D).run P w = .ok (.int k') w) (hm : k'.wrap n = m) :
    Quiet P E.ev ⟨d, .convert S D x, ty, pos, af, g⟩ K σ (.int k' m) := by
  intro σ' w L' _ _ _
  simp [execOp, Env.op_ev hx, convert, hS, hD, Conv.intToInt, hm]
theorem q_len {T a : TypeId} {x : Operand} {p : Option Addr} {n c : Nat} (hx : E.op x = some (.slice p n c)) (hU : ∀ w, (underlying T).run P w = .ok (.slice a) w) :
    Quiet P E.ev ⟨d, .call ⟨.builtin .len, #[x], #[T]⟩, ty, pos, af, g⟩ K σ (.int .i64 n) := by
  intro σ' w L' _ _ _
  simp [execOp, Env.op_ev hx, resolve, invoke, builtin, Builtin.len_, hU, goInt]
end ops
end Go.Eng
