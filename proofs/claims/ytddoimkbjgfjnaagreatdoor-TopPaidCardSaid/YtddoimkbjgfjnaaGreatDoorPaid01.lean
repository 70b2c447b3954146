/- A part of the proof of this: Payments and locks of a shard come out as they stand on paper (TopPaid): for every input, with the listed package variables as the program's text lays them, TopPaid answers true and its argument reads as it did. -/
import Derived.Orders
import Derived.WalkKit
namespace Go.Eng
open Go
abbrev Env := List (Nat × Value)
def Env.get : Env → Nat → Option Value
  | [], _ => none
  | (i, v) :: E, t => bif Nat.beq i t then some v else Env.get E t
def Env.ev (E : Env) : Operand → Value
  | .tmp t => (E.get t).getD undef
  | .const v => v
  | .global g => .pointer (some ⟨g, 0, none⟩)
  | .func f => .func (.func f) #[] #[]
def Env.has (E : Env) : Operand → Bool
  | .tmp t => (E.get t).isSome
  | _ => true
def Env.putO (E : Env) (d : Option Tmp) (v : Value) : Env :=
  match d with
  | some d => (d, v) :: E
  | none => E
def Env.Sub : Env → Env → Prop
  | [], _ => True
  | (t, v) :: E, E' => E'.get t = some v ∧ Env.Sub E E'
theorem Env.get_cons (i : Nat) (v : Value) (E : Env) (t : Nat) : Env.get ((i, v) :: E) t = if i = t then some v else E.get t := by
  by_cases h : i = t
  · subst h; simp [Env.get]
  · have : Nat.beq i t = false := by
      cases hb : Nat.beq i t with
      | false => rfl
      | true => exact absurd (Nat.eq_of_beq_eq_true hb) h
    simp only [Env.get, this, cond_false, if_neg h]
theorem Env.Sub.get {E E' : Env} (h : Env.Sub E E') : ∀ t v, E.get t = some v → E'.get t = some v := by
  induction E with
  | nil => intro t v hh; simp [Env.get] at hh
  | cons p E ih =>
    obtain ⟨i, x⟩ := p
    intro t v hh
    rw [Env.get_cons] at hh
    split at hh
    · rename_i hi; subst hi; cases hh; exact h.1
    · exact ih h.2 t v hh
def Rel (n : Nat) (E : Env) (tmps : Array Value) : Prop := tmps.size = n ∧ ∀ t v, E.get t = some v → tmps[t]? = some v
theorem Rel.sub {n : Nat} {E E' : Env} {tmps : Array Value} (h : Rel n E' tmps) (hs : ∀ t v, E.get t = some v → E'.get t = some v) : Rel n E tmps :=
  ⟨h.1, fun t v hh => h.2 t v (hs t v hh)⟩
theorem Rel.put {n : Nat} {E : Env} {tmps : Array Value} (h : Rel n E tmps) {d : Nat} (hd : d < n) (v : Value) : Rel n ((d, v) :: E) (tmps.setIfInBounds d v) := by
  refine ⟨by simp [h.1], fun t x hh => ?_⟩
  rw [Env.get_cons] at hh
  split at hh
  · rename_i e; subst e; cases hh; simp [h.1, hd]
  · rename_i e; rw [Array.getElem?_setIfInBounds_ne e]; exact h.2 t x hh
theorem Rel.ev {n : Nat} {E : Env} {a : Act} (h : Rel n E a.tmps) (x : Operand) (hx : E.has x = true) : a.eval x = E.ev x := by
  cases x with
  | tmp t =>
    cases hg : E.get t with
    | none => simp [Env.has, hg] at hx
    | some v =>
      have := h.2 t v hg
      simp [Act.eval, Env.ev, hg, Array.getD_eq_getD_getElem?, this]
  | const v => rfl
  | global g => rfl
  | func f => rfl
structure Sto where
  blk : Nat → Option Obj
  amb : World
instance : CoeFun Sto (fun _ => Nat → Option Obj) := ⟨Sto.blk⟩
structure Sto.le (σ τ : Sto) : Prop where
  amb : τ.amb = σ.amb
  blk : ∀ b o, σ b = some o → τ b = some o
theorem Sto.le_refl (σ : Sto) : Sto.le σ σ := ⟨rfl, fun _ _ h => h⟩
theorem Sto.le_trans {σ τ υ : Sto} (h : Sto.le σ τ) (h' : Sto.le τ υ) : Sto.le σ υ := ⟨h'.amb.trans h.amb, fun b o hh => h'.blk b o (h.blk b o hh)⟩
theorem Sto.le.get {σ τ : Sto} (h : Sto.le σ τ) {b : Nat} {o : Obj} (hb : σ b = some o) : τ b = some o := h.blk b o hb
structure Amb (a w : World) : Prop where
  tape : w.tape = a.tape
  os : w.os = a.os
  output : w.output = a.output
  drawn : a.drawn ≤ w.drawn
theorem Amb.refl (w : World) : Amb w w := ⟨rfl, rfl, rfl, Nat.le_refl _⟩
theorem Amb.trans {a b c : World} (h : Amb a b) (h' : Amb b c) : Amb a c := ⟨h'.tape.trans h.tape, h'.os.trans h.os, h'.output.trans h.output, Nat.le_trans h.drawn h'.drawn⟩
theorem Amb.setCell (w : World) (p : Addr) (v : Value) : Amb w (w.setCell p v) := ⟨rfl, rfl, rfl, Nat.le_refl _⟩
theorem Amb.freeze (w : World) (p : Addr) (n : Nat) : Amb w (w.freeze p n) := by unfold World.freeze; split <;> exact ⟨rfl, rfl, rfl, Nat.le_refl _⟩
abbrev SHeap := List (Nat × Obj)
structure St (σ : Sto) (w : World) (L : SHeap) : Prop where
  amb : Amb σ.amb w
  sto : ∀ b o, σ b = some o → w.heap[b]? = some o
  own : ∀ b o, (b, o) ∈ L → w.heap[b]? = some o
  nodup : (L.map (·.1)).Nodup
  off : ∀ b o, (b, o) ∈ L → σ b = none
def base (f : FuncId) : Frame := { (default : Frame) with fn := f, kind := .normal }
def Arr (P : Program) (f : FuncId) (R : Ending → World → Prop) (todo : List Item) (a : Act) (w : World) : Prop :=
  ∀ cs, ∃ e w' fr, R e w' ∧ Comes P (lone ((base f).at a todo) cs w) (lone fr cs w') e ∧ fr.fn = f ∧ fr.leaving P w' e
theorem Arr.step {P : Program} {f : FuncId} {R : Ending → World → Prop} {todo todo' : List Item} {a a' : Act} {w w' : World}
    (h : ∀ cs, step P (lone ((base f).at a todo) cs w) = .next (lone ((base f).at a' todo') cs w')) (hn : Arr P f R todo' a' w') : Arr P f R todo a w := by
  intro cs
  obtain ⟨e, w2, fr, hR, hc, h1, h2⟩ := hn cs
  exact ⟨e, w2, fr, hR, .of_steps (.one (h cs)) hc, h1, h2⟩
def Does (P : Program) (ρ : Operand → Value) (o : Oper) (w : World) (Q : Value → World → Prop) : Prop :=
  (∃ v w', (execOp ρ o).run P w = .ok (.value v) w' ∧ Q v w') ∨
  (∃ w', (execOp ρ o).run P w = .ok .skip w' ∧ Q undef w') ∨
  (∃ g vs w', (execOp ρ o).run P w = .ok (.enter g vs) w' ∧ Calls P g vs w' fun e w'' => ∃ v, e = .returned v ∧ Q v w'')
theorem Does.mono {P : Program} {ρ : Operand → Value} {o : Oper} {w : World} {Q Q' : Value → World → Prop} (h : Does P ρ o w Q) (hq : ∀ v w, Q v w → Q' v w) : Does P ρ o w Q' := by
  rcases h with ⟨v, w', h1, h2⟩ | ⟨w', h1, h2⟩ | ⟨g, vs, w', h1, h2⟩
  · exact .inl ⟨v, w', h1, hq _ _ h2⟩
  · exact .inr (.inl ⟨w', h1, hq _ _ h2⟩)
  · exact .inr (.inr ⟨g, vs, w', h1, h2.mono fun e w'' ⟨v, he, hQ⟩ => ⟨v, he, hq _ _ hQ⟩⟩)
section arr
variable {P : Program} {f : FuncId} {R : Ending → World → Prop} {ops : Array Oper} {i : Nat} {rest : List Nat} {k : List Item} {a : Act} {w : World} {o : Oper}
theorem finish_base (ho : ops[i]? = some o) (v : Value) :
    ((base f).at a (.inRegion ops (i :: rest) :: k)).finish v = (base f).at (a.put o.dst v) (.inRegion ops rest :: k) := by
  rw [Frame.finish_at, ho]; rfl
theorem arr_does (ho : ops[i]? = some o) (hw : Region.wanted o (yielded ops a.tmps) = true) {Q : Value → World → Prop}
    (h : Does P a.eval o w Q) (hn : ∀ v w', Q v w' → Arr P f R (.inRegion ops rest :: k) (a.put o.dst v) w') :
    Arr P f R (.inRegion ops (i :: rest) :: k) a w := by
  rcases h with ⟨v, w', hr, hq⟩ | ⟨w', hr, hq⟩ | ⟨g, vs, w', hr, hcall⟩
  · refine Arr.step (fun cs => step_lone_go ?_) (hn v w' hq)
    rw [stepG_op ho hw, ← finish_base ho]; simp [stepG.apply, hr]
  · refine Arr.step (fun cs => step_lone_go ?_) (hn undef w' hq)
    rw [stepG_op ho hw, ← finish_base ho]; simp [stepG.apply, hr]
  · intro cs
    obtain ⟨e, w2, fr, ⟨v, rfl, hq⟩, hsteps, _, hleave⟩ := hcall ((base f).at a (.inRegion ops (i :: rest) :: k) :: cs)
    have henter : step P (lone ((base f).at a (.inRegion ops (i :: rest) :: k)) cs w) =
        .next (lone (Frame.enter P g vs .normal) ((base f).at a (.inRegion ops (i :: rest) :: k) :: cs) w') :=
      step_lone_go (by rw [stepG_op ho hw]; simp [stepG.apply, hr, Frame.at])
    obtain ⟨e, w3, fr', hR, hc, h1, h2⟩ := hn v w2 hq cs
    refine ⟨e, w3, fr', hR, .of_steps (.head henter (hsteps.trans (.one ?_))) hc, h1, h2⟩
    rw [← finish_base ho]; exact step_leave_returned hleave
theorem arr_skip (ho : ops[i]? = some o) (hw : Region.wanted o (yielded ops a.tmps) = false)
    (hn : Arr P f R (.inRegion ops rest :: k) (a.put o.dst undef) w) : Arr P f R (.inRegion ops (i :: rest) :: k) a w := by
  refine Arr.step (fun cs => ?_) hn
  have := step_op_skip (P := P) (b := base f) (a := a) (k := k) (cs := cs) (w := w) (ops := ops) (i := i) (rest := rest) (by simp [ho, hw])
  simpa [ho] using this
end arr
structure Cx where
  P : Program
  f : FuncId
  n : Nat
  R : Ending → World → Prop
def Go (c : Cx) (todo : List Item) (E : Env) (σ : Sto) (L : SHeap) : Prop :=
  ∀ a w, a.defers = [] → Rel c.n E a.tmps → St σ w L → Arr c.P c.f c.R todo a w
section control
variable {c : Cx} {E : Env} {σ : Sto} {L : SHeap} {k : List Item}
theorem go_skip (h : Go c k E σ L) : Go c (.code .skip :: k) E σ L := fun a w hd hr hs => Arr.step (fun _ => step_skip) (h a w hd hr hs)
theorem go_inBlock {id : Nat} (h : Go c k E σ L) : Go c (.inBlock id :: k) E σ L := fun a w hd hr hs => Arr.step (fun _ => step_inBlock) (h a w hd hr hs)
theorem go_seq {x y : Code} (h : Go c (.code x :: .code y :: k) E σ L) : Go c (.code (.seq x y) :: k) E σ L := fun a w hd hr hs => Arr.step (fun _ => step_seq) (h a w hd hr hs)
theorem go_block {id : Nat} {x : Code} (h : Go c (.code x :: .inBlock id :: k) E σ L) : Go c (.code (.block id x) :: k) E σ L := fun a w hd hr hs => Arr.step (fun _ => step_block) (h a w hd hr hs)
theorem go_exit {id : Nat} {k' : List Item} (he : exitTo id k = some k') (h : Go c k' E σ L) : Go c (.code (.exit id) :: k) E σ L := fun a w hd hr hs => Arr.step (fun _ => step_exit he) (h a w hd hr hs)
theorem go_inLoop {x : Code} (h : Go c (.code x :: .inLoop x :: k) E σ L) : Go c (.inLoop x :: k) E σ L := fun a w hd hr hs => Arr.step (fun _ => step_inLoop) (h a w hd hr hs)
theorem go_loop1 {x : Code} (h : Go c (.code x :: .inLoop x :: k) E σ L) : Go c (.code (.loop x) :: k) E σ L := fun a w hd hr hs => Arr.step (fun _ => step_loop) (h a w hd hr hs)
theorem go_scope {x : Code} (h : Go c (.code x :: .inScope x :: k) E σ L) : Go c (.code (.scope x) :: k) E σ L :=
  fun a w hd hr hs => Arr.step (fun _ => step_lone_go (by simp [stepG, stepG.exec, Frame.at])) (h a w hd hr hs)
theorem go_inScope {x : Code} (h : Go c k E σ L) : Go c (.inScope x :: k) E σ L :=
  fun a w hd hr hs => Arr.step (fun _ => step_lone_go (by simp [stepG, stepG.exec, Frame.at])) (h a w hd hr hs)
theorem go_label {l : Nat} (h : Go c k E σ L) : Go c (.code (.label l) :: k) E σ L := fun a w hd hr hs => Arr.step (fun _ => step_label) (h a w hd hr hs)
theorem go_cond {x : Operand} {p q : Code} {b : Bool} (hx : E.has x = true) (hb : E.ev x = .bool b) (ht : b = true → Go c (.code p :: k) E σ L) (hf : b = false → Go c (.code q :: k) E σ L) :
    Go c (.code (.cond x p q) :: k) E σ L := by
  intro a w hd hr hs
  have he : a.eval x = .bool b := by rw [hr.ev x hx, hb]
  refine Arr.step (fun _ => step_cond he) ?_
  cases b
  · exact hf rfl a w hd hr hs
  · exact ht rfl a w hd hr hs
theorem go_condT {x : Operand} {p q : Code} (hx : E.has x = true) (hb : E.ev x = .bool true) (h : Go c (.code p :: k) E σ L) : Go c (.code (.cond x p q) :: k) E σ L :=
  go_cond hx hb (fun _ => h) (fun h => by simp at h)
theorem go_condF {x : Operand} {p q : Code} (hx : E.has x = true) (hb : E.ev x = .bool false) (h : Go c (.code q :: k) E σ L) : Go c (.code (.cond x p q) :: k) E σ L :=
  go_cond hx hb (fun h => by simp at h) (fun _ => h)
theorem go_env {todo : List Item} (E' : Env) (hs : Env.Sub E' E) (h : Go c todo E' σ L) : Go c todo E σ L :=
  fun a w hd hr hst => h a w hd (hr.sub hs.get) hst
theorem go_sto {todo : List Item} (σ' : Sto) (hs : Sto.le σ' σ) (hoff : ∀ b o, (b, o) ∈ L → σ' b = none) (h : Go c todo E σ' L) : Go c todo E σ L :=
  fun a w hd hr hst => h a w hd hr ⟨by rw [← hs.amb]; exact hst.amb, fun b o hb => hst.sto b o (hs.get hb), hst.own, hst.nodup, hoff⟩
theorem St.perm {w : World} {L' : SHeap} (h : St σ w L) (hp : L.Perm L') : St σ w L' :=
  ⟨h.amb, h.sto, fun b o hb => h.own b o (hp.mem_iff.2 hb), (hp.map (·.1)).nodup_iff.1 h.nodup, fun b o hb => h.off b o (hp.mem_iff.2 hb)⟩
theorem St.drop {w : World} {L' : SHeap} (h : St σ w L) (hp : L'.Sublist L) : St σ w L' :=
  ⟨h.amb, h.sto, fun b o hb => h.own b o (hp.subset hb), (hp.map (·.1)).nodup h.nodup, fun b o hb => h.off b o (hp.subset hb)⟩
theorem go_perm {todo : List Item} (L' : SHeap) (hp : L.Perm L') (h : Go c todo E σ L') : Go c todo E σ L :=
  fun a w hd hr hst => h a w hd hr (hst.perm hp)
theorem go_drop {todo : List Item} (L' : SHeap) (hp : L'.Sublist L) (h : Go c todo E σ L') : Go c todo E σ L :=
  fun a w hd hr hst => h a w hd hr (hst.drop hp)
def Sto.add (σ : Sto) (b : Nat) (o : Obj) : Sto := ⟨fun i => if i = b then some o else σ i, σ.amb⟩
theorem Sto.add_get (σ : Sto) (b : Nat) (o : Obj) : σ.add b o b = some o := by simp [Sto.add]
theorem Sto.le_add {σ : Sto} {b : Nat} {o : Obj} (h : σ b = none) : Sto.le σ (σ.add b o) := by
  refine ⟨rfl, fun i x hi => ?_⟩
  unfold Sto.add
  show (if i = b then some o else σ i) = some x
  by_cases e : i = b
  · subst e; rw [h] at hi; cases hi
  · simp [e, hi]
theorem St.freeze {w : World} {b : Nat} {o : Obj} (h : St σ w ((b, o) :: L)) : St (σ.add b o) w L := by
  refine ⟨h.amb, fun i x hi => ?_, fun i x hi => h.own i x (List.mem_cons_of_mem _ hi), (List.nodup_cons.1 h.nodup).2, fun i x hi => ?_⟩
  · replace hi : (if i = b then some o else σ i) = some x := hi
    split at hi
    · rename_i e; subst e; cases hi; exact h.own _ _ List.mem_cons_self
    · exact h.sto i x hi
  · have hne : i ≠ b := by
      intro e; subst e
      exact (List.nodup_cons.1 h.nodup).1 (List.mem_map.2 ⟨(i, x), hi, rfl⟩)
    show (if i = b then some o else σ i) = none
    simp [hne, h.off i x (List.mem_cons_of_mem _ hi)]
theorem go_freeze {todo : List Item} {b : Nat} {o : Obj} (h : Sto.le σ (σ.add b o) → Go c todo E (σ.add b o) L) : Go c todo E σ ((b, o) :: L) :=
  fun a w hd hr hst => h (Sto.le_add (hst.off b o List.mem_cons_self)) a w hd hr hst.freeze
theorem go_loop {x : Code} {X : Type} (pre : X → Prop) (Ex : X → Env) (σx : X → Sto) (Lx : X → SHeap) (μ : X → Nat) (x0 : X) (h0 : pre x0)
    (hE : Env.Sub (Ex x0) E) (hσ : σ = σx x0) (hL : L = Lx x0)
    (round : ∀ y, pre y → (∀ z, pre z → μ z < μ y → Go c (.inLoop x :: k) (Ex z) (σx z) (Lx z)) → Go c (.code x :: .inLoop x :: k) (Ex y) (σx y) (Lx y)) :
    Go c (.code (.loop x) :: k) E σ L := by
  subst hσ hL
  refine go_loop1 (go_env (Ex x0) hE ?_)
  have key : ∀ m y, μ y = m → pre y → Go c (.code x :: .inLoop x :: k) (Ex y) (σx y) (Lx y) := by
    intro m
    induction m using Nat.strongRecOn with
    | _ m ih =>
      intro y hm hy
      refine round y hy fun z hz hlt => go_inLoop (ih (μ z) (hm ▸ hlt) z rfl hz)
  exact key _ x0 rfl h0
end control
def Ctr (P : Program) (g : FuncId) (vs : Array Value) (σ : Sto) (L : SHeap) (Q : Value → Sto → SHeap → Prop) : Prop :=
  ∀ w, St σ w L → Calls P g vs w fun e w' => ∃ v, e = .returned v ∧ ∃ σ' L', Sto.le σ σ' ∧ St σ' w' L' ∧ Q v σ' L'
theorem Ctr.mono {P : Program} {g : FuncId} {vs : Array Value} {σ : Sto} {L : SHeap} {Q Q' : Value → Sto → SHeap → Prop} (h : Ctr P g vs σ L Q)
    (hq : ∀ v σ' L', Sto.le σ σ' → Q v σ' L' → Q' v σ' L') : Ctr P g vs σ L Q' :=
  fun w hw => (h w hw).mono fun _ _ ⟨v, he, σ', L', h1, h2, h3⟩ => ⟨v, he, σ', L', h1, h2, hq _ _ _ h1 h3⟩
def envOf : Nat → List Value → Env
  | _, [] => []
  | i, v :: vs => (i, v) :: envOf (i + 1) vs
theorem envOf_get (vs : List Value) : ∀ (i t : Nat) (v : Value), (envOf i vs).get t = some v → i ≤ t ∧ vs[t - i]? = some v := by
  induction vs with
  | nil => intro i t v h; simp [envOf, Env.get] at h
  | cons x vs ih =>
    intro i t v h
    rw [envOf, Env.get_cons] at h
    split at h
    · rename_i e; subst e; cases h; simp
    · rename_i e
      obtain ⟨h1, h2⟩ := ih (i + 1) t v h
      refine ⟨by omega, ?_⟩
      obtain ⟨m, rfl⟩ : ∃ m, t = i + 1 + m := ⟨t - (i + 1), by omega⟩
      rw [show i + 1 + m - i = m + 1 by omega]
      rw [show i + 1 + m - (i + 1) = m by omega] at h2
      simpa using h2
def ctrR (σ : Sto) (Q : Value → Sto → SHeap → Prop) : Ending → World → Prop :=
  fun e w' => ∃ v, e = .returned v ∧ ∃ σ' L', Sto.le σ σ' ∧ St σ' w' L' ∧ Q v σ' L'
theorem ctr_enter {P : Program} {f : FuncId} {fn : Func} {body : Code} {vs : Array Value} {σ : Sto} {L : SHeap} {Q : Value → Sto → SHeap → Prop} {n : Nat}
    (hf : P.funcs[f]? = some fn) (hb : fn.body = some body) (hn : fn.ntmps = n) (hvs : vs.size ≤ n)
    (h : Go ⟨P, f, n, ctrR σ Q⟩ [.code body] (envOf 0 vs.toList) σ L) : Ctr P f vs σ L Q := by
  intro w hw cs
  have henter : Frame.enter P f vs .normal = (base f).at { tmps := vs ++ Array.replicate (fn.ntmps - vs.size) undef, defers := [] } [.code body] := by
    simp [Frame.enter, Frame.at, hf, hb, base]
  rw [henter]
  refine h _ w rfl ⟨by simp; omega, fun t v ht => ?_⟩ hw cs
  obtain ⟨_, h2⟩ := envOf_get _ _ _ _ ht
  simp only [Nat.sub_zero, Array.getElem?_toList] at h2
  have hlt : t < vs.size := by
    rcases Nat.lt_or_ge t vs.size with h | h
    · exact h
    · simp [Array.getElem?_eq_none h] at h2
  simp [Array.getElem?_append, hlt] at h2 ⊢
  exact h2
theorem arr_ret {P : Program} {f : FuncId} {fn : Func} {R : Ending → World → Prop} {k : List Item} {a : Act} {w : World} {v : Value}
    (hf : P.funcs[f]? = some fn) (hd : a.defers = []) (hr : (results fn a.tmps).run P w = .ok v w) (hR : R (.returned v) w) :
    Arr P f R (.code .ret :: k) a w := by
  intro cs
  exact ⟨.returned v, w, _, hR, .one step_ret, rfl, rfl, hd, rfl, fn, hf, hr⟩
theorem arr_end {P : Program} {f : FuncId} {fn : Func} {R : Ending → World → Prop} {a : Act} {w : World} {v : Value}
    (hf : P.funcs[f]? = some fn) (hd : a.defers = []) (hr : (results fn a.tmps).run P w = .ok v w) (hR : R (.returned v) w) :
    Arr P f R [] a w := by
  intro cs
  exact ⟨.returned v, w, _, hR, .one step_end, rfl, rfl, hd, rfl, fn, hf, hr⟩
def resTmps : List ResultVar → Option (List Tmp)
  | [] => some []
  | .tmp t :: r => (resTmps r).map (t :: ·)
  | _ => none
def resVal (E : Env) : List Tmp → Value
  | [t] => E.ev (.tmp t)
  | ts => .tuple (ts.map fun t => E.ev (.tmp t)).toArray
theorem run_results {P : Program} {fn : Func} {n : Nat} {E : Env} {tmps : Array Value} {w : World} (hr : Rel n E tmps)
    {rs : List ResultVar} (hrs : fn.results = rs.toArray) {ts : List Tmp} (ht : resTmps rs = some ts) (hh : ts.all (fun t => E.has (.tmp t)) = true) :
    (results fn tmps).run P w = .ok (resVal E ts) w := by
  have hev : ∀ t, E.has (.tmp t) = true → tmps.getD t undef = E.ev (.tmp t) := fun t h => by
    have := Rel.ev (a := { tmps := tmps, defers := [] }) hr (.tmp t) h
    simpa [Act.eval] using this
  have key : ∀ (g : ResultVar → Sem Value), (∀ t, g (.tmp t) = pure (tmps.getD t undef)) → ∀ (rs : List ResultVar) (ts : List Tmp), resTmps rs = some ts → ts.all (fun t => E.has (.tmp t)) = true →
      rs.mapM (m := Sem) g = pure (ts.map fun t => E.ev (.tmp t)) := by
    intro g hg rs
    induction rs with
    | nil => intro ts h _; simp [resTmps] at h; subst h; simp
    | cons r rs ih =>
      intro ts h hall
      cases r with
      | cell a t => simp [resTmps] at h
      | tmp t =>
        simp only [resTmps, Option.map_eq_some_iff] at h
        obtain ⟨ts', h', rfl⟩ := h
        simp only [List.all_cons, Bool.and_eq_true] at hall
        rw [List.mapM_cons, ih ts' h' hall.2, hg, hev t hall.1]
        simp
  unfold results
  rw [hrs, List.mapM_toArray, key _ (fun _ => rfl) rs ts ht hh]
  match ts with
  | [] => simp [resVal]
  | [t] => simp [resVal]
  | t :: u :: ts => simp [resVal]
theorem go_ret {c : Cx} {E : Env} {σ σ0 : Sto} {L : SHeap} {k : List Item} {fn : Func} {Q : Value → Sto → SHeap → Prop} (hf : c.P.funcs[c.f]? = some fn) {rs : List ResultVar} (hrs : fn.results = rs.toArray)
    {ts : List Tmp} (ht : resTmps rs = some ts) (hh : ts.all (fun t => E.has (.tmp t)) = true) (hR : c.R = ctrR σ0 Q)
    (hle : Sto.le σ0 σ) (hQ : Q (resVal E ts) σ L) : Go c (.code .ret :: k) E σ L := by
  intro a w hd hr hst
  refine arr_ret hf hd (run_results hr hrs ht hh) ?_
  rw [hR]
  exact ⟨_, rfl, σ, L, hle, hst, hQ⟩
theorem go_end {c : Cx} {E : Env} {σ σ0 : Sto} {L : SHeap} {fn : Func} {Q : Value → Sto → SHeap → Prop} (hf : c.P.funcs[c.f]? = some fn) {rs : List ResultVar} (hrs : fn.results = rs.toArray)
    {ts : List Tmp} (ht : resTmps rs = some ts) (hh : ts.all (fun t => E.has (.tmp t)) = true) (hR : c.R = ctrR σ0 Q)
    (hle : Sto.le σ0 σ) (hQ : Q (resVal E ts) σ L) : Go c [] E σ L := by
  intro a w hd hr hst
  refine arr_end hf hd (run_results hr hrs ht hh) ?_
  rw [hR]
  exact ⟨_, rfl, σ, L, hle, hst, hQ⟩
end Go.Eng
namespace Go.Eng
open Go
def Keep (K L : SHeap) : Prop := ∀ b o, (b, o) ∈ K → (b, o) ∈ L
theorem Keep.refl (K : SHeap) : Keep K K := fun _ _ h => h
def Quiet (P : Program) (ρ : Operand → Value) (o : Oper) (K : SHeap) (σ : Sto) (v : Value) : Prop :=
  ∀ σ' w L', Sto.le σ σ' → Keep K L' → St σ' w L' → (execOp ρ o).run P w = .ok (.value v) w
def Noisy (P : Program) (ρ : Operand → Value) (o : Oper) (σ : Sto) (L : SHeap) (Q : Value → Sto → SHeap → Prop) : Prop :=
  ∀ w, St σ w L → Does P ρ o w fun v w' => ∃ σ' L', Sto.le σ σ' ∧ St σ' w' L' ∧ Q v σ' L'
theorem Quiet.noisy {P : Program} {ρ : Operand → Value} {o : Oper} {L : SHeap} {σ : Sto} {v : Value} (h : Quiet P ρ o L σ v) :
    Noisy P ρ o σ L fun v' σ' L' => v' = v ∧ σ' = σ ∧ L' = L :=
  fun w hw => .inl ⟨v, w, h σ w L (Sto.le_refl _) (Keep.refl _) hw, σ, L, Sto.le_refl _, hw, rfl, rfl, rfl⟩
def opnds : Op → List Operand
  | .alloc _ | .ready _ | .waits _ => []
  | .move x | .assign x | .box _ x | .load _ x | .nilCheck x | .unOp _ _ x | .convert _ _ x | .sliceToArrayPointer _ x | .makeInterface _ x
  | .makeChan _ x | .fieldAddr _ x _ | .field _ x _ | .range _ x | .next x _ | .entry x | .typeAssert x _ _ _ | .extract x _ | .panic x | .recv _ x _ => [x]
  | .pick c a b => [c, a, b]
  | .build _ ps | .buildSlice _ _ ps => ps.toList.map (·.2)
  | .store _ a v | .binOp _ _ a v _ | .makeSlice _ a v | .indexAddr _ a v | .index _ a v | .lookup _ a v _ | .mapEntry _ a v | .send a v => [a, v]
  | .makeFunc _ first captured => first.toList ++ captured.toList
  | .makeMap _ r => r.toList
  | .slice _ x l h m => x :: (l.toList ++ h.toList ++ m.toList)
  | .mapUpdate _ m k v | .entryStore _ m k v | .insert _ m k v => [m, k, v]
  | .call c | .go c | .defer c => (match c.callee with | .value f => [f] | .invoke r _ => [r] | .builtin _ => []) ++ c.args.toList
  | .select _ _ => []
def notSelect : Op → Bool
  | .select _ _ => false
  | _ => true
theorem exec_congr {ρ ρ' : Operand → Value} (o : Oper) (hs : notSelect o.op = true) (h : ∀ x ∈ opnds o.op, ρ x = ρ' x) : execOp ρ o = execOp ρ' o := by
  refine execOp_congr o (fun cs b e => by rw [e] at hs; simp [notSelect] at hs) fun x hx => h x ?_
  obtain ⟨dst, op, type, pos, after, guard⟩ := o
  cases op <;> simp only [Op.operands, opnds, Go.Call.operands] at hx ⊢ <;> first | (simp [notSelect] at hs; done) | (simp at hx; done) | (simpa using hx) | skip
  all_goals (split at hx <;> simp_all)
def opOk (n : Nat) (E : Env) (o : Oper) : Bool :=
  notSelect o.op && (opnds o.op).all E.has && (match o.dst with | some d => Nat.blt d n | none => true)
theorem opOk_ev {n : Nat} {E : Env} {o : Oper} (h : opOk n E o = true) {a : Act} (hr : Rel n E a.tmps) : execOp a.eval o = execOp E.ev o := by
  simp only [opOk, Bool.and_eq_true, List.all_eq_true] at h
  exact exec_congr o h.1.1 fun x hx => hr.ev x (h.1.2 x hx)
theorem opOk_put {n : Nat} {E : Env} {o : Oper} (h : opOk n E o = true) {a : Act} (hr : Rel n E a.tmps) (v : Value) : Rel n (E.putO o.dst v) (a.put o.dst v).tmps := by
  simp only [opOk, Bool.and_eq_true] at h
  have hd := h.2
  cases ho : o.dst with
  | none => exact hr
  | some d =>
    rw [ho] at hd
    exact hr.put (by simp [Nat.blt] at hd; omega) v
theorem put_defers {a : Act} {d : Option Tmp} {v : Value} : (a.put d v).defers = a.defers := by cases d <;> rfl
section seq
variable {c : Cx} {ops : Array Oper} {l : List Oper} {o : Oper} {k : List Item} {E : Env} {σ : Sto} {L : SHeap}
def GoL (c : Cx) (ops : Array Oper) (l : List Oper) (k : List Item) (E : Env) (σ : Sto) (L : SHeap) : Prop :=
  ∀ is : List Nat, is.map (fun i => ops[i]?) = l.map some → Go c (.inRegion ops is :: k) E σ L
theorem go_region {id : Nat} {l : List Oper} (h : GoL c l.toArray l k E σ L) : Go c (.code (.region id l.toArray false) :: k) E σ L := by
  intro a w hd hr hst
  refine Arr.step (fun _ => step_region) (h (List.range l.toArray.size) ?_ a w hd hr hst)
  apply List.ext_getElem?
  intro i
  simp only [List.getElem?_map, List.size_toArray]
  by_cases hi : i < l.length
  · simp [hi]
  · rw [List.getElem?_eq_none (by simpa using hi), List.getElem?_eq_none (by simpa using hi)]; rfl
theorem gol_nil (h : Go c k E σ L) : GoL c ops [] k E σ L := by
  intro is his
  have : is = [] := by simpa using his
  subst this
  exact fun a w hd hr hst => Arr.step (fun _ => step_region_end) (h a w hd hr hst)
theorem split_is {is : List Nat} (his : is.map (fun i => ops[i]?) = (o :: l).map some) : ∃ i js, is = i :: js ∧ ops[i]? = some o ∧ js.map (fun i => ops[i]?) = l.map some := by
  cases is with
  | nil => simp at his
  | cons i js => simp only [List.map_cons, List.cons.injEq] at his; exact ⟨i, js, rfl, his.1, his.2⟩
theorem gol_n (hg : o.guard = none) (hok : opOk c.n E o = true) {Q : Value → Sto → SHeap → Prop} (hn : Noisy c.P E.ev o σ L Q)
    (h : ∀ v σ' L', Sto.le σ σ' → Q v σ' L' → GoL c ops l k (E.putO o.dst v) σ' L') : GoL c ops (o :: l) k E σ L := by
  intro is his
  obtain ⟨i, js, rfl, ho, hjs⟩ := split_is his
  intro a w hd hr hst
  have hw : Region.wanted o (yielded ops a.tmps) = true := by simp [Region.wanted, hg]
  have hdo := hn w hst
  have hev := opOk_ev hok hr
  refine arr_does ho hw (Q := fun v w' => ∃ σ' L', Sto.le σ σ' ∧ St σ' w' L' ∧ Q v σ' L') ?_ ?_
  · unfold Does at *; rw [hev]; exact hdo
  · rintro v w' ⟨σ', L', h1, h2, h3⟩
    exact h v σ' L' h1 h3 js hjs _ w' (by rw [put_defers]; exact hd) (opOk_put hok hr v) h2
theorem gol_q (hg : o.guard = none) (hok : opOk c.n E o = true) {v : Value} (hq : Quiet c.P E.ev o L σ v)
    (h : GoL c ops l k (E.putO o.dst v) σ L) : GoL c ops (o :: l) k E σ L :=
  gol_n hg hok hq.noisy fun v' σ' L' _ ⟨e1, e2, e3⟩ => by subst e1 e2 e3; exact h
def wants (ops : Array Oper) (E : Env) (o : Oper) : Option Bool :=
  match o.guard with
  | none => some true
  | some (j, want) =>
    match ops[j]? with
    | some p =>
      match p.dst with
      | some d =>
        match E.get d with
        | some (.bool b) => some (b == want)
        | some (.tuple _) => some false
        | _ => none
      | none => some false
    | none => some false
theorem wants_spec {n : Nat} {b : Bool} {a : Act} (hr : Rel n E a.tmps) (h : wants ops E o = some b) : Region.wanted o (yielded ops a.tmps) = b := by
  unfold wants at h
  unfold Region.wanted
  cases hg : o.guard with
  | none => simp [hg] at h; simp [← h]
  | some g =>
    obtain ⟨j, want⟩ := g
    simp only [hg] at h ⊢
    unfold yielded
    cases hj : ops[j]? with
    | none => simp [hj] at h; simp [← h]
    | some p =>
      cases hp : p.dst with
      | none => simp [hj, hp] at h; simp [hp, ← h]
      | some d =>
        cases hd : E.get d with
        | none => simp [hj, hp, hd] at h
        | some x =>
          have := hr.2 d x hd
          cases x <;> simp [hj, hp, hd] at h <;> simp [hp, this, ← h]
theorem gol_ng (hgd : wants ops E o = some true) (hok : opOk c.n E o = true) {Q : Value → Sto → SHeap → Prop} (hn : Noisy c.P E.ev o σ L Q)
    (h : ∀ v σ' L', Sto.le σ σ' → Q v σ' L' → GoL c ops l k (E.putO o.dst v) σ' L') : GoL c ops (o :: l) k E σ L := by
  intro is his
  obtain ⟨i, js, rfl, ho, hjs⟩ := split_is his
  intro a w hd hr hst
  have hdo := hn w hst
  have hev := opOk_ev hok hr
  refine arr_does ho (wants_spec hr hgd) (Q := fun v w' => ∃ σ' L', Sto.le σ σ' ∧ St σ' w' L' ∧ Q v σ' L') ?_ ?_
  · unfold Does at *; rw [hev]; exact hdo
  · rintro v w' ⟨σ', L', h1, h2, h3⟩
    exact h v σ' L' h1 h3 js hjs _ w' (by rw [put_defers]; exact hd) (opOk_put hok hr v) h2
theorem gol_qg (hgd : wants ops E o = some true) (hok : opOk c.n E o = true) {v : Value} (hq : Quiet c.P E.ev o L σ v)
    (h : GoL c ops l k (E.putO o.dst v) σ L) : GoL c ops (o :: l) k E σ L :=
  gol_ng hgd hok hq.noisy fun v' σ' L' _ ⟨e1, e2, e3⟩ => by subst e1 e2 e3; exact h
def dstOk (n : Nat) (o : Oper) : Bool := match o.dst with | some d => Nat.blt d n | none => true
theorem gol_skip (hgd : wants ops E o = some false) (hok : dstOk c.n o = true) (h : GoL c ops l k (E.putO o.dst undef) σ L) : GoL c ops (o :: l) k E σ L := by
  intro is his
  obtain ⟨i, js, rfl, ho, hjs⟩ := split_is his
  intro a w hd hr hst
  refine arr_skip ho (wants_spec hr hgd) (h js hjs _ w (by rw [put_defers]; exact hd) ?_ hst)
  cases hdst : o.dst with
  | none => exact hr
  | some d =>
    simp only [dstOk, hdst] at hok
    exact hr.put (by simp [Nat.blt] at hok; omega) undef
theorem gol_qc {j : Nat} {want b : Bool} {p : Oper} {d : Tmp} (hg : o.guard = some (j, want)) (hp : ops[j]? = some p) (hd : p.dst = some d) (hb : E.get d = some (.bool b))
    (hok : opOk c.n E o = true) {v : Value} (hq : (b == want) = true → Quiet c.P E.ev o L σ v)
    (h : GoL c ops l k (E.putO o.dst (bif b == want then v else undef)) σ L) : GoL c ops (o :: l) k E σ L := by
  have hw : wants ops E o = some (b == want) := by simp [wants, hg, hp, hd, hb]
  cases hbw : (b == want) with
  | true =>
    rw [hbw] at hw h
    exact gol_qg hw hok (hq hbw) h
  | false =>
    rw [hbw] at hw h
    refine gol_skip hw ?_ h
    simp only [opOk, Bool.and_eq_true] at hok
    exact hok.2
end seq
end Go.Eng
