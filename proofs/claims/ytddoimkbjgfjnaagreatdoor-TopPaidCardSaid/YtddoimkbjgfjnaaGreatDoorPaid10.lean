/- A part of the proof of this: Payments and locks of a shard come out as they stand on paper (TopPaid): for every input, with the listed package variables as the program's text lays them, TopPaid answers true and its argument reads as it did. -/
import Derived.Test.YtddoimkbjgfjnaaGreatDoorPaid09
import Derived.ChangeKeysEq
namespace Go.Eng
open Go Go.Proofs
theorem Kn.app {σ : Sto} {K : SHeap} {b : Nat} {o : Obj} (Lp : SHeap) (h : Kn σ K b o) : Kn σ (Lp ++ K) b o := h.imp id (List.mem_append_right _)
theorem Upd.app {L L' : SHeap} {b : Nat} {o o' : Obj} (Lp : SHeap) (h : Upd L b o o' L') : Upd (Lp ++ L) b o o' (Lp ++ L') := by
  induction Lp with
  | nil => exact h
  | cons p Lp ih => exact .tl ih
theorem Keep.app (Lp L : SHeap) : Keep L (Lp ++ L) := fun _ _ h => List.mem_append_right _ h
theorem Keep.appL (Lp L : SHeap) : Keep Lp (Lp ++ L) := fun _ _ h => List.mem_append_left _ h
theorem Keep.cons (p : Nat × Obj) (L : SHeap) : Keep L (p :: L) := fun _ _ h => List.mem_cons_of_mem _ h
theorem Keep.trans {A B C : SHeap} (h : Keep A B) (h' : Keep B C) : Keep A C := fun _ _ x => h' _ _ (h _ _ x)
structure Acc where
  name : UInt64
  bal : UInt64
  nonce : UInt64
deriving Inhabited
def accCells (a : Acc) : List Value := [w6 a.name, w6 a.bal, w6 a.nonce]
instance : Inhabited Lck := ⟨⟨[], 0, 0, 0, 0, 0, 0⟩⟩
structure Sl {α : Type} (σ : Sto) (K : SHeap) (v : Value) (sz : Nat) (f : α → List Value) (xs : List α) : Prop where
  out : ∃ p c, v = .slice p xs.length c ∧ xs.length ≤ c ∧ Cells σ K v xs.length sz (xs.flatMap f)
  len : ∀ x ∈ xs, (f x).length = sz
structure SlO {α : Type} (T : TypeId) (sz : Nat) (v : Value) (f : α → List Value) (xs : List α) (Lp : SHeap) : Prop where
  own : Own T sz v xs.length (xs.flatMap f) Lp
  len : ∀ x ∈ xs, (f x).length = sz
theorem flat_len {α : Type} {f : α → List Value} {xs : List α} {sz : Nat} (h : ∀ x ∈ xs, (f x).length = sz) : (xs.flatMap f).length = xs.length * sz := by
  induction xs with
  | nil => simp
  | cons x xs ih => simp only [List.flatMap_cons, List.length_append, List.length_cons, h x List.mem_cons_self, ih (fun y hy => h y (List.mem_cons_of_mem _ hy)), Nat.add_mul]; omega
theorem flat_one {α : Type} {f : α → List Value} (xs : List α) (h : ∀ x, (f x).all oneCell = true) : (xs.flatMap f).all oneCell = true := by
  induction xs with
  | nil => rfl
  | cons x xs ih => simp only [List.flatMap_cons, List.all_append, h x, ih, Bool.and_self]
theorem flat_split {α : Type} {f : α → List Value} {xs : List α} {i : Nat} (hi : i < xs.length) : xs.flatMap f = (xs.take i).flatMap f ++ (f xs[i] ++ (xs.drop (i + 1)).flatMap f) := by
  rw [← List.flatMap_cons, ← List.flatMap_append, ← List.drop_eq_getElem_cons hi, List.take_append_drop]
theorem flat_cut {α : Type} {f : α → List Value} (xs : List α) (i : Nat) : xs.flatMap f = (xs.take i).flatMap f ++ (xs.drop i).flatMap f := by
  rw [← List.flatMap_append, List.take_append_drop]
theorem flat_take_len {α : Type} {f : α → List Value} {xs : List α} {sz i : Nat} (h : ∀ x ∈ xs, (f x).length = sz) (hi : i ≤ xs.length) : ((xs.take i).flatMap f).length = i * sz := by
  rw [flat_len (fun x hx => h x (List.mem_of_mem_take hx)), List.length_take, Nat.min_eq_left hi]
theorem flat_at {α : Type} {f : α → List Value} {xs : List α} {sz i : Nat} (h : ∀ x ∈ xs, (f x).length = sz) (hi : i < xs.length) : ((xs.flatMap f).drop (i * sz)).take sz = f xs[i] := by
  have h1 := flat_take_len h (Nat.le_of_lt hi)
  have h2 := h xs[i] (List.getElem_mem hi)
  rw [flat_split hi, ← h1, List.drop_left, ← h2, List.take_left]
theorem Sl.cells {α : Type} {σ : Sto} {K : SHeap} {p : Option Addr} {n c sz : Nat} {f : α → List Value} {xs : List α} (h : Sl σ K (.slice p n c) sz f xs) : n = xs.length ∧ n ≤ c ∧ Cells σ K (.slice p n c) n sz (xs.flatMap f) := by
  obtain ⟨p', c', e, h2, h3⟩ := h.out
  cases e
  exact ⟨rfl, h2, h3⟩
theorem Sl.up {α : Type} {σ σ' : Sto} {K : SHeap} {v : Value} {sz : Nat} {f : α → List Value} {xs : List α} (h : Sl σ K v sz f xs) (hle : Sto.le σ σ') : Sl σ' K v sz f xs :=
  ⟨let ⟨p, c, h1, h2, h3⟩ := h.out; ⟨p, c, h1, h2, h3.up hle⟩, h.len⟩
theorem Sl.more {α : Type} {σ : Sto} {K K' : SHeap} {v : Value} {sz : Nat} {f : α → List Value} {xs : List α} (h : Sl σ K v sz f xs) (hk : Keep K K') : Sl σ K' v sz f xs :=
  ⟨let ⟨p, c, h1, h2, h3⟩ := h.out; ⟨p, c, h1, h2, h3.more hk⟩, h.len⟩
theorem Sl.val {α : Type} {σ : Sto} {K : SHeap} {v : Value} {sz : Nat} {f : α → List Value} {xs : List α} (h : Sl σ K v sz f xs) : ∃ p c, v = .slice p xs.length c := let ⟨p, c, h1, _⟩ := h.out; ⟨p, c, h1⟩
theorem Sl.one {α : Type} {σ : Sto} {K : SHeap} {v : Value} {sz : Nat} {f : α → List Value} {xs : List α} (h : Sl σ K v sz f xs) : oneCell v = true := by obtain ⟨p, c, rfl⟩ := h.val; rfl
theorem Own.cap {T sz n : Nat} {p : Option Addr} {m c : Nat} {cs : List Value} {Lp : SHeap} (h : Own T sz (.slice p m c) n cs Lp) (hsz : 0 < sz) : m = n ∧ n ≤ c := by
  cases h with
  | nil => exact ⟨rfl, Nat.le_refl _⟩
  | mk hn hc =>
    refine ⟨rfl, ?_⟩
    simp only [List.length_append, hn] at hc
    exact Nat.le_of_mul_le_mul_right (by omega : n * sz ≤ c * sz) hsz
theorem Own.oneC {T sz n : Nat} {v : Value} {cs : List Value} {Lp : SHeap} (h : Own T sz v n cs Lp) : oneCell v = true := by obtain ⟨p, c, rfl⟩ := h.val; rfl
theorem SlO.val {α : Type} {T sz : Nat} {v : Value} {f : α → List Value} {xs : List α} {Lp : SHeap} (h : SlO T sz v f xs Lp) : ∃ p c, v = .slice p xs.length c := h.own.val
theorem SlO.oneC {α : Type} {T sz : Nat} {v : Value} {f : α → List Value} {xs : List α} {Lp : SHeap} (h : SlO T sz v f xs Lp) : oneCell v = true := by obtain ⟨p, c, rfl⟩ := h.val; rfl
theorem SlO.sl {α : Type} {T sz : Nat} {v : Value} {f : α → List Value} {xs : List α} {Lp : SHeap} (σ : Sto) (h : SlO T sz v f xs Lp) (hsz : 0 < sz) : Sl σ Lp v sz f xs := by
  obtain ⟨p, c, rfl⟩ := h.val
  refine ⟨⟨p, c, rfl, (h.own.cap hsz).2, ?_⟩, h.len⟩
  have := h.own.cells σ []
  rwa [List.append_nil] at this
theorem SlO.slL {α : Type} {T sz : Nat} {v : Value} {f : α → List Value} {xs : List α} {Lp : SHeap} (σ : Sto) (L : SHeap) (h : SlO T sz v f xs Lp) (hsz : 0 < sz) : Sl σ (Lp ++ L) v sz f xs := (h.sl σ hsz).more (Keep.appL _ _)
theorem go_giveSl {α : Type} {c : Cx} {todo : List Item} {E : Env} {σ : Sto} {L0 Lp : SHeap} {T sz : Nat} {v : Value} {f : α → List Value} {xs : List α} (hown : SlO T sz v f xs Lp) (hsz : 0 < sz)
    (h : ∀ σ', Sto.le σ σ' → Sl σ' [] v sz f xs → Go c todo E σ' L0) : Go c todo E σ (Lp ++ L0) :=
  go_give hown.own (fun σ' hle ⟨p, m, hv, hm⟩ hc => h σ' hle ⟨⟨p, m, hv, hm, hc⟩, hown.len⟩) hsz
structure Rec where
  epoch : Int
  mems : List Int
  seats : List (List Int)
deriving Inhabited
structure LSt where
  chain : Int
  accs : List Acc
  locks : List Lck
  cons : List Bts
  recs : List Rec
  mems : List Int
structure RV where
  epoch : Int
  mems : Value
  seats : Value
def recCells (r : RV) : List Value := [iv r.epoch, r.mems, r.seats]
def ic (n : Int) : List Value := [iv n]
def vc (v : Value) : List Value := [v]
structure RecR (σ : Sto) (rv : RV) (r : Rec) : Prop where
  epoch : rv.epoch = r.epoch
  mems : Sl σ [] rv.mems 1 ic r.mems
  seats : ∃ vs, Sl σ [] rv.seats 1 vc vs ∧ All2 (fun v l => Sl σ [] v 1 ic l) vs r.seats
theorem RecR.up {σ σ' : Sto} {rv : RV} {r : Rec} (h : RecR σ rv r) (hle : Sto.le σ σ') : RecR σ' rv r :=
  ⟨h.epoch, h.mems.up hle, let ⟨vs, h1, h2⟩ := h.seats; ⟨vs, h1.up hle, h2.mono fun _ _ h => h.up hle⟩⟩
structure SV where
  chain : Int
  acc : Value
  locks : Value
  cons : Value
  recs : Value
  mems : Value
def stCells (s : SV) : List Value := [iv s.chain, s.acc, s.locks, s.cons, s.recs, s.mems]
structure StR (σ : Sto) (K : SHeap) (s : SV) (a : LSt) : Prop where
  chain : s.chain = a.chain
  acc : Sl σ K s.acc 3 accCells a.accs
  locks : Sl σ K s.locks 38 lockCells a.locks
  cons : Sl σ K s.cons 32 bcells a.cons
  recs : ∃ rvs, Sl σ K s.recs 3 recCells rvs ∧ All2 (RecR σ) rvs a.recs
  mems : Sl σ K s.mems 1 ic a.mems
theorem StR.up {σ σ' : Sto} {K : SHeap} {s : SV} {a : LSt} (h : StR σ K s a) (hle : Sto.le σ σ') : StR σ' K s a :=
  ⟨h.chain, h.acc.up hle, h.locks.up hle, h.cons.up hle, let ⟨vs, h1, h2⟩ := h.recs; ⟨vs, h1.up hle, h2.mono fun _ _ h => h.up hle⟩, h.mems.up hle⟩
theorem StR.more {σ : Sto} {K K' : SHeap} {s : SV} {a : LSt} (h : StR σ K s a) (hk : Keep K K') : StR σ K' s a :=
  ⟨h.chain, h.acc.more hk, h.locks.more hk, h.cons.more hk, let ⟨vs, h1, h2⟩ := h.recs; ⟨vs, h1.more hk, h2⟩, h.mems.more hk⟩
theorem StR.one {σ : Sto} {K : SHeap} {s : SV} {a : LSt} (h : StR σ K s a) : (stCells s).all oneCell = true := by
  obtain ⟨vs, h1, _⟩ := h.recs
  simp [stCells, h.acc.one, h.locks.one, h.cons.one, h1.one, h.mems.one]; rfl
structure StO (σ : Sto) (s : SV) (a : LSt) (L1 L2 L3 L4 L5 : SHeap) : Prop where
  chain : s.chain = a.chain
  acc : SlO 57 3 s.acc accCells a.accs L5
  locks : SlO 60 38 s.locks lockCells a.locks L4
  cons : SlO 27 32 s.cons bcells a.cons L3
  recs : ∃ rvs, SlO 75 3 s.recs recCells rvs L1 ∧ All2 (RecR σ) rvs a.recs
  mems : SlO 3 1 s.mems ic a.mems L2
theorem StO.up {σ σ' : Sto} {L1 L2 L3 L4 L5 : SHeap} {s : SV} {a : LSt} (h : StO σ s a L1 L2 L3 L4 L5) (hle : Sto.le σ σ') : StO σ' s a L1 L2 L3 L4 L5 :=
  ⟨h.chain, h.acc, h.locks, h.cons, let ⟨vs, h1, h2⟩ := h.recs; ⟨vs, h1, h2.mono fun _ _ h => h.up hle⟩, h.mems⟩
theorem Keep.m2 (A B C : SHeap) : Keep (B ++ C) (A ++ (B ++ C)) := Keep.app _ _
theorem StO.st {σ : Sto} {L1 L2 L3 L4 L5 : SHeap} {s : SV} {a : LSt} (h : StO σ s a L1 L2 L3 L4 L5) (L : SHeap) : StR σ (L1 ++ (L2 ++ (L3 ++ (L4 ++ (L5 ++ L))))) s a :=
  ⟨h.chain, ((((h.acc.slL _ _ (by decide)).more (Keep.app _ _)).more (Keep.app _ _)).more (Keep.app _ _)).more (Keep.app _ _),
    (((h.locks.slL _ _ (by decide)).more (Keep.app _ _)).more (Keep.app _ _)).more (Keep.app _ _), ((h.cons.slL _ _ (by decide)).more (Keep.app _ _)).more (Keep.app _ _),
    let ⟨vs, h1, h2⟩ := h.recs; ⟨vs, h1.slL _ _ (by decide), h2⟩, (h.mems.slL _ _ (by decide)).more (Keep.app _ _)⟩
theorem StO.one {σ : Sto} {L1 L2 L3 L4 L5 : SHeap} {s : SV} {a : LSt} (h : StO σ s a L1 L2 L3 L4 L5) : (stCells s).all oneCell = true := (h.st []).one
theorem go_giveSt {c : Cx} {todo : List Item} {E : Env} {σ : Sto} {L1 L2 L3 L4 L5 L0 : SHeap} {s : SV} {a : LSt} (h : StO σ s a L1 L2 L3 L4 L5)
    (hg : ∀ σ', Sto.le σ σ' → StR σ' [] s a → Go c todo E σ' L0) : Go c todo E σ (L1 ++ (L2 ++ (L3 ++ (L4 ++ (L5 ++ L0))))) := by
  obtain ⟨rvs, h4, h4'⟩ := h.recs
  refine go_giveSl h4 (by decide) fun σ1 e1 g1 => ?_
  refine go_giveSl h.mems (by decide) fun σ2 e2 g2 => ?_
  refine go_giveSl h.cons (by decide) fun σ3 e3 g3 => ?_
  refine go_giveSl h.locks (by decide) fun σ4 e4 g4 => ?_
  refine go_giveSl h.acc (by decide) fun σ5 e5 g5 => ?_
  have e45 := Sto.le_trans e4 e5
  have e35 := Sto.le_trans e3 e45
  have e25 := Sto.le_trans e2 e35
  have e15 := Sto.le_trans e1 e25
  exact hg σ5 e15 ⟨h.chain, g5, g4.up e5, g3.up e45, ⟨rvs, g1.up e25, h4'.mono fun _ _ h => h.up e15⟩, g2.up e35⟩
structure LSt.le (a : LSt) (N : Nat) : Prop where
  accs : a.accs.length ≤ N
  locks : a.locks.length ≤ N
  cons : a.cons.length ≤ N
  recs : a.recs.length ≤ N
  mems : a.mems.length ≤ N
  rm : ∀ r ∈ a.recs, r.mems.length ≤ N
  rs : ∀ r ∈ a.recs, r.seats.length ≤ N
  rk : ∀ r ∈ a.recs, ∀ l ∈ r.seats, l.length ≤ N
def cmp64 (a b : UInt64) : Int := if a < b then -1 else if b < a then 1 else 0
theorem cmp64_zero {a b : UInt64} : cmp64 a b = 0 ↔ a = b := by
  unfold cmp64
  split
  · rename_i h; constructor
    · intro h'; cases h'
    · intro e; subst e; exact absurd h (UInt64.lt_irrefl _)
  · split
    · rename_i h; constructor
      · intro h'; cases h'
      · intro e; subst e; exact absurd h (UInt64.lt_irrefl _)
    · rename_i h1 h2; exact ⟨fun _ => UInt64.le_antisymm (UInt64.not_lt.1 h2) (UInt64.not_lt.1 h1), fun _ => rfl⟩
def accIx (xs : List Acc) (name : UInt64) : Nat := bsr (fun i => cmp64 (xs.getD i default).name name) 0 xs.length
def accHas (xs : List Acc) (name : UInt64) : Bool := decide (accIx xs name < xs.length) && decide (cmp64 (xs.getD (accIx xs name) default).name name = 0)
def acct (xs : List Acc) (name : UInt64) : Acc := if accHas xs name then xs.getD (accIx xs name) default else ⟨name, 0, 0⟩
def setAcc (xs : List Acc) (a : Acc) : List Acc := if accHas xs a.name then xs.set (accIx xs a.name) a else xs.take (accIx xs a.name) ++ a :: xs.drop (accIx xs a.name)
theorem accIx_le (xs : List Acc) (name : UInt64) : accIx xs name ≤ xs.length := (bsr_le _ _ _ (Nat.zero_le _)).2
def dcmp (a b : Bts) : Int := Go.Lib.compareBytes a b
def lockIx (xs : List Lck) (id : Bts) : Nat := bsr (fun i => dcmp (xs.getD i default).id id) 0 xs.length
def lockHas (xs : List Lck) (id : Bts) : Bool := decide (lockIx xs id < xs.length) && decide (dcmp (xs.getD (lockIx xs id) default).id id = 0)
theorem lockIx_le (xs : List Lck) (id : Bts) : lockIx xs id ≤ xs.length := (bsr_le _ _ _ (Nat.zero_le _)).2
def digIx (xs : List Bts) (id : Bts) : Nat := bsr (fun i => dcmp (xs.getD i default) id) 0 xs.length
def digHas (xs : List Bts) (id : Bts) : Bool := decide (digIx xs id < xs.length) && decide (dcmp (xs.getD (digIx xs id) default) id = 0)
end Go.Eng
namespace Go.Eng
open Go Go.Proofs
set_option maxRecDepth 20000
theorem getD_eq {α : Type} {xs : List α} {i : Nat} {d : α} (h : i < xs.length) : xs.getD i d = xs[i] := by simp [List.getD, h]
theorem dec_lt64 (a b : UInt64) : decide ((a.toNat : Int) < (b.toNat : Int)) = decide (a < b) := decide_eq_decide.2 (by rw [UInt64.lt_iff_toNat_lt]; omega)
theorem c108 {σ : Sto} {L : SHeap} (a : UInt64) : Ctr Tryz.prog 108 #[w6 a] σ L fun v σ' L' => v = .bool false ∧ L' = L := by
  refine ctr_enter Tryz.func108 rfl Tryz.ntmps108 (by simp) ?_
  refine go_seq ?_
  refine go_region ?_
  refine sq rfl (q_assign rfl) ?_
  refine gol_nil ?_
  refine go_seq ?_
  refine go_region ?_
  refine sq rfl (q_move rfl) ?_
  refine sq rfl (q_move rfl) ?_
  refine sq rfl (q_neq (a := (a.toNat : Int)) (b := (a.toNat : Int)) rfl rfl) ?_
  refine sq rfl (q_assign rfl) ?_
  refine gol_nil ?_
  refine go_ret Tryz.func108 Tryz.results108 rfl rfl rfl (by repeat (first | exact Sto.le_refl _ | assumption | refine Sto.le_trans ?_ (by assumption))) ?_
  exact ⟨congrArg Value.bool (by simp), rfl⟩
theorem c175 {σ : Sto} {L : SHeap} (a : Int) : Ctr Tryz.prog 175 #[iv a] σ L fun v σ' L' => v = .bool false ∧ L' = L := by
  refine ctr_enter Tryz.func175 rfl Tryz.ntmps175 (by simp) ?_
  refine go_seq ?_
  refine go_region ?_
  refine sq rfl (q_assign rfl) ?_
  refine gol_nil ?_
  refine go_seq ?_
  refine go_region ?_
  refine sq rfl (q_move rfl) ?_
  refine sq rfl (q_move rfl) ?_
  refine sq rfl (q_neq (a := a) (b := a) rfl rfl) ?_
  refine sq rfl (q_assign rfl) ?_
  refine gol_nil ?_
  refine go_ret Tryz.func175 Tryz.results175 rfl rfl rfl (by repeat (first | exact Sto.le_refl _ | assumption | refine Sto.le_trans ?_ (by assumption))) ?_
  exact ⟨congrArg Value.bool (by simp), rfl⟩
theorem c140 {σ : Sto} {L : SHeap} (a : Int) : Ctr Tryz.prog 140 #[iv a] σ L fun v σ' L' => v = .bool false ∧ L' = L := by
  refine ctr_enter Tryz.func140 rfl Tryz.ntmps140 (by simp) ?_
  refine go_seq ?_
  refine go_region ?_
  refine sq rfl (q_assign rfl) ?_
  refine gol_nil ?_
  refine go_seq ?_
  refine go_region ?_
  refine sq rfl (q_move rfl) ?_
  refine sq rfl (q_move rfl) ?_
  refine sq rfl (q_neq (a := a) (b := a) rfl rfl) ?_
  refine sq rfl (q_assign rfl) ?_
  refine gol_nil ?_
  refine go_ret Tryz.func140 Tryz.results140 rfl rfl rfl (by repeat (first | exact Sto.le_refl _ | assumption | refine Sto.le_trans ?_ (by assumption))) ?_
  exact ⟨congrArg Value.bool (by simp), rfl⟩
theorem c75 {σ : Sto} {L : SHeap} (a b : UInt64) : Ctr Tryz.prog 75 #[w6 a, w6 b] σ L fun v σ' L' => v = iv (cmp64 a b) ∧ L' = L := by
  refine ctr_enter Tryz.func75 rfl Tryz.ntmps75 (by simp) ?_
  refine go_seq ?_
  refine go_region ?_
  refine sq rfl (q_assign rfl) ?_
  refine gol_nil ?_
  refine go_seq ?_
  refine go_region ?_
  refine sq rfl (q_move rfl) ?_
  refine sn rfl (n_call rfl Tryz.call108 (c108 a)) ?_
  rintro v1 σ1 _ hle1 ⟨rfl, rfl⟩
  refine sq rfl (q_assign rfl) ?_
  refine gol_nil ?_
  refine go_seq ?_
  refine go_region ?_
  refine sq rfl (q_move rfl) ?_
  refine sn rfl (n_call rfl Tryz.call108 (c108 b)) ?_
  rintro v2 σ2 _ hle2 ⟨rfl, rfl⟩
  refine sq rfl (q_assign rfl) ?_
  refine gol_nil ?_
  refine go_seq ?_
  refine go_seq ?_
  refine go_region ?_
  refine sq rfl (q_move rfl) ?_
  refine gol_nil ?_
  refine go_condF rfl rfl ?_
  refine go_skip ?_
  refine go_seq ?_
  refine go_seq ?_
  refine go_region ?_
  refine sq rfl (q_move rfl) ?_
  refine gol_nil ?_
  refine go_condF rfl rfl ?_
  refine go_skip ?_
  refine go_seq ?_
  refine go_seq ?_
  refine go_region ?_
  refine sq rfl (q_move rfl) ?_
  refine sq rfl (q_move rfl) ?_
  refine sq rfl (q_lss (a := (a.toNat : Int)) (b := (b.toNat : Int)) rfl rfl) ?_
  refine gol_nil ?_
  refine go_cond rfl rfl (fun hc2 => ?_) (fun hc2 => ?_)
  ·
    have h1 : a < b := by have := of_decide_eq_true ((dec_lt64 a b).symm.trans hc2); exact this
    refine go_seq ?_
    refine go_region ?_
    refine sq rfl (q_assign rfl) ?_
    refine gol_nil ?_
    refine go_ret Tryz.func75 Tryz.results75 rfl rfl rfl (by repeat (first | exact Sto.le_refl _ | assumption | refine Sto.le_trans ?_ (by assumption))) ?_
    exact ⟨by rw [cmp64, if_pos h1]; rfl, rfl⟩
  ·
    have h1 : ¬ a < b := by have := of_decide_eq_false ((dec_lt64 a b).symm.trans hc2); exact this
    refine go_skip ?_
    refine go_seq ?_
    refine go_seq ?_
    refine go_region ?_
    refine sq rfl (q_move rfl) ?_
    refine sq rfl (q_move rfl) ?_
    refine sq rfl (q_gtr (a := (a.toNat : Int)) (b := (b.toNat : Int)) rfl rfl) ?_
    refine gol_nil ?_
    refine go_cond rfl rfl (fun hc3 => ?_) (fun hc3 => ?_)
    ·
      have h2 : b < a := by have := of_decide_eq_true ((dec_lt64 b a).symm.trans hc3); exact this
      refine go_seq ?_
      refine go_region ?_
      refine sq rfl (q_assign rfl) ?_
      refine gol_nil ?_
      refine go_ret Tryz.func75 Tryz.results75 rfl rfl rfl (by repeat (first | exact Sto.le_refl _ | assumption | refine Sto.le_trans ?_ (by assumption))) ?_
      exact ⟨by rw [cmp64, if_neg h1, if_pos h2]; rfl, rfl⟩
    ·
      have h2 : ¬ b < a := by have := of_decide_eq_false ((dec_lt64 b a).symm.trans hc3); exact this
      refine go_skip ?_
      refine go_seq ?_
      refine go_region ?_
      refine sq rfl (q_assign rfl) ?_
      refine gol_nil ?_
      refine go_ret Tryz.func75 Tryz.results75 rfl rfl rfl (by repeat (first | exact Sto.le_refl _ | assumption | refine Sto.le_trans ?_ (by assumption))) ?_
      exact ⟨by rw [cmp64, if_neg h1, if_neg h2]; rfl, rfl⟩
theorem c74 {σ : Sto} {L : SHeap} (a : Acc) (n : UInt64) : Ctr Tryz.prog 74 #[.agg (accCells a).toArray, w6 n] σ L fun v σ' L' => v = iv (cmp64 a.name n) ∧ L' = L := by
  refine ctr_enter Tryz.func74 rfl Tryz.ntmps74 (by simp) ?_
  refine go_seq ?_
  refine go_region ?_
  refine snb rfl (n_box rfl .agg) ?_
  intro b1
  refine sq rfl (q_assign rfl) ?_
  refine gol_nil ?_
  refine go_seq ?_
  refine go_region ?_
  refine sq rfl (q_fieldAddr (off := 0) (o' := 0) rfl Tryz.runUnderlying57 rfl Tryz.sizeOf31 rfl rfl) ?_
  refine sq rfl (q_load rfl Tryz.isAgg31 .hd .z) ?_
  refine sq rfl (q_move rfl) ?_
  refine sn rfl (n_call rfl Tryz.call75 (c75 a.name n)) ?_
  rintro v1 σ1 _ hle1 ⟨rfl, rfl⟩
  refine sq rfl (q_assign rfl) ?_
  refine gol_nil ?_
  refine go_drop1 ?_
  refine go_ret Tryz.func74 Tryz.results74 rfl rfl rfl (by repeat (first | exact Sto.le_refl _ | assumption | refine Sto.le_trans ?_ (by assumption))) ?_
  exact ⟨rfl, rfl⟩
theorem c120 {σ : Sto} {L : SHeap} {pa pb : Option Addr} {na nb ca cb : Nat} {xs ys : Bts} (ha : Cells σ L (.slice pa na ca) na 1 (bcells xs)) (hb : Cells σ L (.slice pb nb cb) nb 1 (bcells ys)) : Ctr Tryz.prog 120 #[.slice pa na ca, .slice pb nb cb] σ L fun v σ' L' => v = iv (dcmp xs ys) ∧ σ' = σ ∧ L' = L := by
  refine ctr_enter Tryz.func120 rfl Tryz.ntmps120 (by simp) ?_
  refine go_seq ?_
  refine go_region ?_
  refine sq rfl (q_assign rfl) ?_
  refine gol_nil ?_
  refine go_seq ?_
  refine go_region ?_
  refine sq rfl (q_move rfl) ?_
  refine sq rfl (q_move rfl) ?_
  refine sq rfl (q_compare rfl rfl ha hb) ?_
  refine sq rfl (q_assign rfl) ?_
  refine gol_nil ?_
  refine go_ret Tryz.func120 Tryz.results120 rfl rfl rfl (by repeat (first | exact Sto.le_refl _ | assumption | refine Sto.le_trans ?_ (by assumption))) ?_
  exact ⟨rfl, rfl, rfl⟩
theorem c92 {σ : Sto} {L : SHeap} {a b : Bts} (ha : a.length = 32) (hb : b.length = 32) : Ctr Tryz.prog 92 #[.agg (bcells a).toArray, .agg (bcells b).toArray] σ L fun v σ' L' => v = iv (dcmp a b) ∧ L' = L := by
  refine ctr_enter Tryz.func92 rfl Tryz.ntmps92 (by simp) ?_
  refine go_seq ?_
  refine go_region ?_
  refine snb rfl (n_box rfl .agg) ?_
  intro b1
  refine snb rfl (n_box rfl .agg) ?_
  intro b2
  refine sq rfl (q_assign rfl) ?_
  refine gol_nil ?_
  refine go_seq ?_
  refine go_draws (n := 8) _ mix rfl (by decide +kernel) (Keep.refl _) ?_
  refine dq 0 rfl rfl rfl rfl (q_sliceArr (n := 32) (l := 0) (h := 32) rfl Tryz.runUnderlying27 Tryz.sizeOf5 rfl rfl rfl rfl (by decide) (by decide) (by rfl)) ?_
  refine dq 1 rfl rfl rfl rfl (q_sliceArr (n := 32) (l := 0) (h := 32) rfl Tryz.runUnderlying27 Tryz.sizeOf5 rfl rfl rfl rfl (by decide) (by decide) (by rfl)) ?_
  refine dna 2 rfl rfl rfl rfl (by decide +kernel) (by decide +kernel) (n_call rfl Tryz.call120 (c120 (xs := a) (ys := b) (.new (.tl .hd) (by rw [bcells_len, ha])) (.new .hd (by rw [bcells_len, hb])))) ?_
  rintro v1 σ1 _ hle1 ⟨rfl, rfl, rfl⟩
  refine dq 3 rfl rfl rfl rfl (q_assign rfl) ?_
  refine dend rfl ?_
  refine go_drop1 (go_drop1 ?_)
  refine go_ret Tryz.func92 Tryz.results92 rfl rfl rfl (by repeat (first | exact Sto.le_refl _ | assumption | refine Sto.le_trans ?_ (by assumption))) ?_
  exact ⟨rfl, rfl⟩
theorem c183 {σ : Sto} {L : SHeap} {a b : Bts} (ha : a.length = 32) (hb : b.length = 32) : Ctr Tryz.prog 183 #[.agg (bcells a).toArray, .agg (bcells b).toArray] σ L fun v σ' L' => v = iv (dcmp a b) ∧ L' = L := by
  refine ctr_enter Tryz.func183 rfl Tryz.ntmps183 (by simp) ?_
  refine go_seq ?_
  refine go_region ?_
  refine snb rfl (n_box rfl .agg) ?_
  intro b1
  refine snb rfl (n_box rfl .agg) ?_
  intro b2
  refine sq rfl (q_assign rfl) ?_
  refine gol_nil ?_
  refine go_seq ?_
  refine go_draws (n := 8) _ mix rfl (by decide +kernel) (Keep.refl _) ?_
  refine dq 0 rfl rfl rfl rfl (q_sliceArr (n := 32) (l := 0) (h := 32) rfl Tryz.runUnderlying27 Tryz.sizeOf5 rfl rfl rfl rfl (by decide) (by decide) (by rfl)) ?_
  refine dq 1 rfl rfl rfl rfl (q_sliceArr (n := 32) (l := 0) (h := 32) rfl Tryz.runUnderlying27 Tryz.sizeOf5 rfl rfl rfl rfl (by decide) (by decide) (by rfl)) ?_
  refine dna 2 rfl rfl rfl rfl (by decide +kernel) (by decide +kernel) (n_call rfl Tryz.call120 (c120 (xs := a) (ys := b) (.new (.tl .hd) (by rw [bcells_len, ha])) (.new .hd (by rw [bcells_len, hb])))) ?_
  rintro v1 σ1 _ hle1 ⟨rfl, rfl, rfl⟩
  refine dq 3 rfl rfl rfl rfl (q_assign rfl) ?_
  refine dend rfl ?_
  refine go_drop1 (go_drop1 ?_)
  refine go_ret Tryz.func183 Tryz.results183 rfl rfl rfl (by repeat (first | exact Sto.le_refl _ | assumption | refine Sto.le_trans ?_ (by assumption))) ?_
  exact ⟨rfl, rfl⟩
theorem c91 {σ : Sto} {L : SHeap} {a b : Bts} {u v : Value} (ha : a.length = 32) (hb : b.length = 32) : Ctr Tryz.prog 91 #[.agg (bcells a ++ [u]).toArray, .agg (bcells b ++ [v]).toArray] σ L fun v σ' L' => v = iv (dcmp a b) ∧ L' = L := by
  refine ctr_enter Tryz.func91 rfl Tryz.ntmps91 (by simp) ?_
  refine go_seq ?_
  refine go_region ?_
  refine snb rfl (n_box rfl .agg) ?_
  intro b1
  refine snb rfl (n_box rfl .agg) ?_
  intro b2
  refine sq rfl (q_assign rfl) ?_
  refine gol_nil ?_
  refine go_seq ?_
  refine go_region ?_
  refine sq rfl (q_fieldAddr (off := 0) (o' := 0) rfl Tryz.runUnderlying179 rfl Tryz.sizeOf27 rfl rfl) ?_
  refine sq rfl (q_loadA rfl Tryz.isAgg27 Tryz.sizeOf27 (.tl .hd) (Part.mk (a := []) (vs := bcells a) (b := [u]) rfl (by rw [bcells_len, ha]))) ?_
  refine sq rfl (q_fieldAddr (off := 0) (o' := 0) rfl Tryz.runUnderlying179 rfl Tryz.sizeOf27 rfl rfl) ?_
  refine sq rfl (q_loadA rfl Tryz.isAgg27 Tryz.sizeOf27 .hd (Part.mk (a := []) (vs := bcells b) (b := [v]) rfl (by rw [bcells_len, hb]))) ?_
  refine sn rfl (n_call rfl Tryz.call92 (c92 ha hb)) ?_
  rintro v1 σ1 _ hle1 ⟨rfl, rfl⟩
  refine sq rfl (q_assign rfl) ?_
  refine gol_nil ?_
  refine go_drop1 (go_drop1 ?_)
  refine go_ret Tryz.func91 Tryz.results91 rfl rfl rfl (by repeat (first | exact Sto.le_refl _ | assumption | refine Sto.le_trans ?_ (by assumption))) ?_
  exact ⟨rfl, rfl⟩
theorem lockCells_head (l : Lck) : lockCells l = [] ++ (bcells l.id ++ [w6 l.src, w6 l.dest, w6 l.amount, iv l.dst, iv l.deadline, iv l.status]) := rfl
theorem c214 {σ : Sto} {L : SHeap} {a : Lck} {b : Bts} (ha : a.id.length = 32) (hb : b.length = 32) : Ctr Tryz.prog 214 #[.agg (lockCells a).toArray, .agg (bcells b).toArray] σ L fun v σ' L' => v = iv (dcmp a.id b) ∧ L' = L := by
  refine ctr_enter Tryz.func214 rfl Tryz.ntmps214 (by simp) ?_
  refine go_seq ?_
  refine go_region ?_
  refine snb rfl (n_box rfl .agg) ?_
  intro b1
  refine snb rfl (n_box rfl .agg) ?_
  intro b2
  refine sq rfl (q_assign rfl) ?_
  refine gol_nil ?_
  refine go_seq ?_
  refine go_draws (n := 9) _ mix rfl (by decide +kernel) (Keep.refl _) ?_
  refine dq 0 rfl rfl rfl rfl (q_fieldAddr (off := 0) (o' := 0) rfl Tryz.runUnderlying60 rfl Tryz.sizeOf27 rfl rfl) ?_
  refine dq 1 rfl rfl rfl rfl (q_sliceArr (n := 32) (l := 0) (h := 32) rfl Tryz.runUnderlying27 Tryz.sizeOf5 rfl rfl rfl rfl (by decide) (by decide) (by rfl)) ?_
  refine dq 2 rfl rfl rfl rfl (q_sliceArr (n := 32) (l := 0) (h := 32) rfl Tryz.runUnderlying27 Tryz.sizeOf5 rfl rfl rfl rfl (by decide) (by decide) (by rfl)) ?_
  refine dna 3 rfl rfl rfl rfl (by decide +kernel) (by decide +kernel) (n_call rfl Tryz.call120 (c120 (xs := a.id) (ys := b) ⟨by rw [bcells_len, ha], _, _, _, rfl, by decide, .inr ⟨_, 0, _, _, _, rfl, .tl .hd, lockCells_head a ▸ Part.mk (a := []) rfl (by rw [bcells_len, ha])⟩⟩ (.new .hd (by rw [bcells_len, hb])))) ?_
  rintro v1 σ1 _ hle1 ⟨rfl, rfl, rfl⟩
  refine dq 4 rfl rfl rfl rfl (q_assign rfl) ?_
  refine dend rfl ?_
  refine go_drop1 (go_drop1 ?_)
  refine go_ret Tryz.func214 Tryz.results214 rfl rfl rfl (by repeat (first | exact Sto.le_refl _ | assumption | refine Sto.le_trans ?_ (by assumption))) ?_
  exact ⟨rfl, rfl⟩
theorem c43 {σ : Sto} {L : SHeap} {s : SV} {xs : List Acc} (h : Sl σ L s.acc 3 accCells xs) (hn : xs.length < 100000000) (n : UInt64) : Ctr Tryz.prog 43 #[.agg (stCells s).toArray, w6 n] σ L fun v σ' L' => v = .tuple #[iv (accIx xs n), .bool (accHas xs n)] ∧ L' = L := by
  obtain ⟨ch, ac, lo, co, re, me⟩ := s
  have hs : Sl σ L ac 3 accCells xs := h
  clear h
  obtain ⟨p, c, rfl⟩ := hs.val
  refine ctr_enter Tryz.func43 rfl Tryz.ntmps43 (by simp) ?_
  refine go_seq ?_
  refine go_region ?_
  refine snb rfl (n_box rfl (.agg (l := stCells _))) ?_
  intro b1
  refine sq rfl (q_assign rfl) ?_
  refine sq rfl (q_assign rfl) ?_
  refine gol_nil ?_
  refine go_seq ?_
  refine go_region ?_
  refine sq rfl (q_fieldAddr (off := 1) (o' := 1) rfl Tryz.runUnderlying51 rfl Tryz.sizeOf46 rfl rfl) ?_
  refine sq rfl (q_load rfl Tryz.isAgg46 .hd (.s .z)) ?_
  refine sq rfl (q_move rfl) ?_
  refine sn rfl (n_call rfl Tryz.call73 (c73 (cf := fun i => cmp64 (xs.getD i default).name n) (hs.cells.2.2.more (Keep.cons _ _)) (by omega) Tryz.call74 (fun i hi Lx σ' hle => by rw [flat_at hs.len hi, getD_eq hi]; exact (c74 xs[i] n).mono fun v σ' L' _ h => h))) ?_
  rintro v1 σ1 _ hle1 ⟨rfl, rfl⟩
  refine sq rfl (q_extract rfl .z) ?_
  refine sq rfl (q_extract rfl (.s .z)) ?_
  refine sq rfl (q_assign rfl) ?_
  refine sq rfl (q_assign rfl) ?_
  refine gol_nil ?_
  refine go_drop1 ?_
  refine go_ret Tryz.func43 Tryz.results43 rfl rfl rfl (by repeat (first | exact Sto.le_refl _ | assumption | refine Sto.le_trans ?_ (by assumption))) ?_
  exact ⟨rfl, rfl⟩
theorem c178 {σ : Sto} {L : SHeap} {v : Value} {xs : List Lck} (h : Sl σ L v 38 lockCells xs) (hn : xs.length < 100000000) {d : Bts} (hd : d.length = 32) : Ctr Tryz.prog 178 #[v, .agg (bcells d).toArray] σ L fun v σ' L' => v = .tuple #[iv (lockIx xs d), .bool (lockHas xs d)] ∧ L' = L := by
  obtain ⟨p, c, rfl⟩ := h.val
  refine ctr_enter Tryz.func178 rfl Tryz.ntmps178 (by simp) ?_
  refine go_seq ?_
  refine go_region ?_
  refine snb rfl (n_box rfl .agg) ?_
  intro b1
  refine sq rfl (q_assign rfl) ?_
  refine sq rfl (q_assign rfl) ?_
  refine gol_nil ?_
  refine go_seq ?_
  refine go_region ?_
  refine sq rfl (q_move rfl) ?_
  refine sq rfl (q_loadA rfl Tryz.isAgg27 Tryz.sizeOf27 .hd (Part.all (by rw [bcells_len, hd]))) ?_
  refine sn rfl (n_call rfl Tryz.call213 (c213 hd (cf := fun i => dcmp (xs.getD i default).id d) (h.cells.2.2.more (Keep.cons _ _)) (by omega) Tryz.call214 (fun i hi Lx σ' hle => by rw [flat_at h.len hi, getD_eq hi]; exact (c214 (by have := h.len _ (List.getElem_mem hi); simp [lockCells, bcells] at this; omega) hd).mono fun v σ' L' _ h => h))) ?_
  rintro v1 σ1 _ hle1 ⟨rfl, rfl⟩
  refine sq rfl (q_extract rfl .z) ?_
  refine sq rfl (q_extract rfl (.s .z)) ?_
  refine sq rfl (q_assign rfl) ?_
  refine sq rfl (q_assign rfl) ?_
  refine gol_nil ?_
  refine go_drop1 ?_
  refine go_ret Tryz.func178 Tryz.results178 rfl rfl rfl (by repeat (first | exact Sto.le_refl _ | assumption | refine Sto.le_trans ?_ (by assumption))) ?_
  exact ⟨rfl, rfl⟩
theorem c18 {σ : Sto} {L : SHeap} {s : SV} {xs : List Acc} (h : Sl σ L s.acc 3 accCells xs) (hn : xs.length < 100000000) (n : UInt64) : Ctr Tryz.prog 18 #[.agg (stCells s).toArray, w6 n] σ L fun v σ' L' => v = .agg (accCells (acct xs n)).toArray ∧ L' = L := by
  obtain ⟨ch, ac, lo, co, re, me⟩ := s
  have hs : Sl σ L ac 3 accCells xs := h
  clear h
  obtain ⟨p, c, rfl⟩ := hs.val
  refine ctr_enter Tryz.func18 rfl Tryz.ntmps18 (by simp) ?_
  refine go_seq ?_
  refine go_region ?_
  refine snb rfl (n_box rfl (.agg (l := stCells _))) ?_
  intro b1
  refine snb rfl (n_alloc Tryz.zeroValue57 .agg) ?_
  intro b2
  refine gol_nil ?_
  refine go_seq ?_
  refine go_seq ?_
  refine go_region ?_
  refine sq rfl (q_loadA rfl Tryz.isAgg51 Tryz.sizeOf51 (.tl .hd) (Part.all rfl)) ?_
  refine sq rfl (q_move rfl) ?_
  refine sn rfl (n_call rfl Tryz.call43 (c43 ((hs.more (Keep.cons _ _)).more (Keep.cons _ _)) hn n)) ?_
  rintro v1 σ1 _ hle1 ⟨rfl, rfl⟩
  refine sq rfl (q_move rfl) ?_
  refine sq rfl (q_extract rfl .z) ?_
  refine sq rfl (q_extract rfl (.s .z)) ?_
  refine sq rfl (q_assign rfl) ?_
  refine sq rfl (q_assign rfl) ?_
  refine gol_nil ?_
  refine go_seq ?_
  refine go_region ?_
  refine sq rfl (q_move rfl) ?_
  refine gol_nil ?_
  refine go_cond rfl rfl (fun hc0 => ?_) (fun hc0 => ?_)
  ·
    have hh : accHas xs n = true := hc0
    have hix : accIx xs n < xs.length := by simp only [accHas, Bool.and_eq_true, decide_eq_true_eq] at hh; exact hh.1
    obtain ⟨b, o, ds, T', fr', rfl, hkn, hpt⟩ := hs.cells.2.2.get (by intro e; have := flat_len hs.len; rw [e] at this; simp at this; omega)
    refine go_seq ?_
    refine go_region ?_
    refine sq rfl (q_fieldAddr (off := 1) (o' := 1) rfl Tryz.runUnderlying51 rfl Tryz.sizeOf46 rfl rfl) ?_
    refine sq rfl (q_load rfl Tryz.isAgg46 (.tl .hd) (.s .z)) ?_
    refine sq rfl (q_move rfl) ?_
    refine sq rfl (q_indexAddr (j := accIx xs n) (o' := o + accIx xs n * 3) rfl rfl Tryz.runUnderlying46 Tryz.sizeOf57 rfl hix rfl) ?_
    refine sq rfl (q_loadA (vs := accCells xs[accIx xs n]) rfl Tryz.isAgg57 Tryz.sizeOf57 (.tl (.tl (hkn.up hle1))) (by have := cells_part hpt hix; rwa [flat_at hs.len hix] at this)) ?_
    refine sst rfl (n_storeA rfl rfl (vs := accCells _) rfl Tryz.sizeOf57 rfl .hd (PutAt.all rfl)) ?_
    refine gol_nil ?_
    refine go_retR Tryz.func18 Tryz.results18 rfl (.cellA rfl Tryz.isAgg57 Tryz.sizeOf57 .hd (Part.all rfl) .nil) (.cons _ (.cons _ (List.Sublist.refl _))) (by repeat (first | exact Sto.le_refl _ | assumption | refine Sto.le_trans ?_ (by assumption))) ?_
    exact ⟨by rw [acct, if_pos hh, getD_eq hix]; rfl, rfl⟩
  ·
    refine go_skip ?_
    refine go_seq ?_
    refine go_region ?_
    refine sq rfl (q_move rfl) ?_
    refine sq rfl (q_buildS (ns := [1, 1, 1]) (.put (z := [_]) rfl (.one rfl) rfl rfl (.zero (z := [_]) rfl (.zero (z := [_]) rfl .nil))) Tryz.zeroValue57 Tryz.runUnderlying57 (places57 Tryz.runUnderlying57) rfl) ?_
    refine sst rfl (n_storeA rfl rfl (vs := [w6 n, w6 0, w6 0]) rfl Tryz.sizeOf57 rfl .hd (PutAt.all rfl)) ?_
    refine gol_nil ?_
    refine go_retR Tryz.func18 Tryz.results18 rfl (.cellA rfl Tryz.isAgg57 Tryz.sizeOf57 .hd (Part.all rfl) .nil) (.cons _ (.cons _ (List.Sublist.refl _))) (by repeat (first | exact Sto.le_refl _ | assumption | refine Sto.le_trans ?_ (by assumption))) ?_
    exact ⟨by have hh : ¬ accHas xs n = true := Bool.eq_false_iff.1 hc0
              rw [acct, if_neg hh]; rfl, rfl⟩
end Go.Eng
namespace Go.Eng
open Go Go.Proofs
set_option maxRecDepth 20000
deriving instance DecidableEq for Acc
deriving instance DecidableEq for Lck
theorem pk5 : Tryz.prog.plainKey 5 = true := by kernel_rfl
theorem co5 : Tryz.prog.cellsOf 5 = 1 := by kernel_rfl
theorem if5 : ∃ i, Tryz.prog.info? 5 = some i := info_of_underlying (by kernel_rfl : Tryz.prog.underlying 5 = some (.int .u8))
theorem run_eqBytes (d n : Nat) (a b : Bts) (ha : a.length = n) (hb : b.length = n) (w : World) : ∀ (m k : Nat), k + m = n →
    (Op.eqItems (d + 1) 5 1 (bcells a).toArray (bcells b).toArray (List.range' k m)).run Tryz.prog w = .ok (decide (a.drop k = b.drop k)) w := by
  intro m
  induction m with
  | zero =>
    intro k hk
    have h1 : a.drop k = [] := List.drop_eq_nil_of_le (by omega)
    have h2 : b.drop k = [] := List.drop_eq_nil_of_le (by omega)
    simp [Op.eqItems, h1, h2]
  | succ m ih =>
    intro k hk
    have hka : k < a.length := by omega
    have hkb : k < b.length := by omega
    have e1 : (part 5 (bcells a).toArray (k * 1)).run Tryz.prog w = .ok (bv a[k]) w := run_part_plain w pk5 (by simp [bcells, hka])
    have e2 : (part 5 (bcells b).toArray (k * 1)).run Tryz.prog w = .ok (bv b[k]) w := run_part_plain w pk5 (by simp [bcells, hkb])
    have e3 : (Op.equalIn (d + 1) 5 (bv a[k]) (bv b[k])).run Tryz.prog w = .ok (((a[k].toNat : Int)) == (b[k].toNat : Int)) w := run_equalIn_int w d 5 .u8 .u8 _ _ (by kernel_rfl)
    rw [List.range'_succ]
    simp only [Op.eqItems, Sem.run_bind, e1, e2, e3, Result.andThen_ok]
    have hd : decide (a.drop k = b.drop k) = (decide (a[k] = b[k]) && decide (a.drop (k + 1) = b.drop (k + 1))) := by
      rw [List.drop_eq_getElem_cons hka, List.drop_eq_getElem_cons hkb]
      simp only [List.cons.injEq, Bool.decide_and]
    rw [hd]
    by_cases hab : a[k] = b[k]
    · have := ih (k + 1) (by omega)
      simp [hab, this]
    · have h' : ¬ (a[k].toNat : Int) = (b[k].toNat : Int) := fun h => hab (UInt8.toNat_inj.1 (by omega))
      have h'' : ((a[k].toNat : Int) == (b[k].toNat : Int)) = false := by simpa using h'
      simp [h'', hab]
theorem run_eqDig (d : Nat) (a b : Bts) (ha : a.length = 32) (hb : b.length = 32) (w : World) : (Op.equalIn (d + 2) 27 (.agg (bcells a).toArray) (.agg (bcells b).toArray)).run Tryz.prog w = .ok (decide (a = b)) w := by
  obtain ⟨i, hi⟩ := if5
  rw [run_equalIn_array w (d + 1) (n := 32) (i := i) _ _ (by kernel_rfl) hi, co5, List.range_eq_range']
  exact run_eqBytes d 32 a b ha hb w 32 0 rfl
theorem run_part64 {T off : Nat} {cs : List Value} {x : UInt64} (hp : Tryz.prog.plainKey T = true) (h : cs[off]? = some (w6 x)) (w : World) : (part T cs.toArray off).run Tryz.prog w = .ok (w6 x) w := run_part_plain w hp (by simpa using h)
theorem run_partI {T off : Nat} {cs : List Value} {x : Int} (hp : Tryz.prog.plainKey T = true) (h : cs[off]? = some (iv x)) (w : World) : (part T cs.toArray off).run Tryz.prog w = .ok (iv x) w := run_part_plain w hp (by simpa using h)
theorem run_eq64 (d : Nat) (x y : UInt64) (w : World) : (Op.equalIn (d + 1) 31 (w6 x) (w6 y)).run Tryz.prog w = .ok (decide (x = y)) w := by
  rw [w6, w6, run_equalIn_int w d 31 .u64 .u64 _ _ (by kernel_rfl)]
  congr 1
  by_cases h : x = y
  · simp [h]
  · have : ¬ (x.toNat : Int) = y.toNat := fun e => h (UInt64.toNat_inj.1 (by omega))
    simpa [h] using this
theorem run_eqI (d T : Nat) (x y : Int) (w : World) (h : Tryz.prog.underlying T = some (.int .i64)) : (Op.equalIn (d + 1) T (iv x) (iv y)).run Tryz.prog w = .ok (decide (x = y)) w := by
  rw [iv, iv, run_equalIn_int w d T .i64 .i64 _ _ h]
  congr 1
theorem pk31 : Tryz.prog.plainKey 31 = true := by kernel_rfl
theorem pk3 : Tryz.prog.plainKey 3 = true := by kernel_rfl
theorem pk2 : Tryz.prog.plainKey 2 = true := by kernel_rfl
theorem fo57 : ∃ a b c, (Tryz.prog.fieldsOf 57).toList = [a, b, c] ∧ (a.name ≠ "_" ∧ a.type = 31 ∧ a.offset = 0) ∧ (b.name ≠ "_" ∧ b.type = 31 ∧ b.offset = 1) ∧ (c.name ≠ "_" ∧ c.type = 31 ∧ c.offset = 2) := ⟨_, _, _, rfl, ⟨by decide, rfl, rfl⟩, ⟨by decide, rfl, rfl⟩, ⟨by decide, rfl, rfl⟩⟩
theorem field_run {P : Program} {d : Nat} {xs ys : Array Value} {f : Field} {fs : List Field} {u v : Value} {r : Bool} {w : World} (hn : f.name ≠ "_") (hu : (part f.type xs f.offset).run P w = .ok u w) (hv : (part f.type ys f.offset).run P w = .ok v w)
    (hr : (Op.equalIn d f.type u v).run P w = .ok r w) : (Op.eqFields d xs ys (f :: fs)).run P w = if r then (Op.eqFields d xs ys fs).run P w else .ok false w := by
  simp only [Op.eqFields, ne_eq, hn, not_false_eq_true, if_true, Sem.run_bind, hu, hv, hr, Result.andThen_ok, Sem.run_ite, Sem.run_pure]
  cases r <;> simp
theorem run_eqAcc (d : Nat) (a b : Acc) (w : World) : (Op.equalIn (d + 2) 57 (.agg (accCells a).toArray) (.agg (accCells b).toArray)).run Tryz.prog w = .ok (decide (a = b)) w := by
  rw [run_equalIn_agg w (d + 1) 57 _ _ (by kernel_rfl) (by kernel_rfl)]
  obtain ⟨f1, f2, f3, e, ⟨n1, t1, o1⟩, ⟨n2, t2, o2⟩, ⟨n3, t3, o3⟩⟩ := fo57
  rw [e]
  have p (x : Acc) : (part 31 (accCells x).toArray 0).run Tryz.prog w = .ok (w6 x.name) w := run_part64 pk31 rfl w
  have q (x : Acc) : (part 31 (accCells x).toArray 1).run Tryz.prog w = .ok (w6 x.bal) w := run_part64 pk31 rfl w
  have r (x : Acc) : (part 31 (accCells x).toArray 2).run Tryz.prog w = .ok (w6 x.nonce) w := run_part64 pk31 rfl w
  rw [field_run n1 (by rw [t1, o1]; exact p a) (by rw [t1, o1]; exact p b) (by rw [t1]; exact run_eq64 d _ _ w),
    field_run n2 (by rw [t2, o2]; exact q a) (by rw [t2, o2]; exact q b) (by rw [t2]; exact run_eq64 d _ _ w),
    field_run n3 (by rw [t3, o3]; exact r a) (by rw [t3, o3]; exact r b) (by rw [t3]; exact run_eq64 d _ _ w), Op.eqFields]
  obtain ⟨a1, a2, a3⟩ := a
  obtain ⟨b1, b2, b3⟩ := b
  by_cases h1 : a1 = b1 <;> by_cases h2 : a2 = b2 <;> by_cases h3 : a3 = b3 <;> simp [h1, h2, h3]
theorem fo60 : ∃ a b c e f g h, (Tryz.prog.fieldsOf 60).toList = [a, b, c, e, f, g, h] ∧ (a.name ≠ "_" ∧ a.type = 27 ∧ a.offset = 0) ∧ (b.name ≠ "_" ∧ b.type = 31 ∧ b.offset = 32) ∧ (c.name ≠ "_" ∧ c.type = 31 ∧ c.offset = 33) ∧ (e.name ≠ "_" ∧ e.type = 31 ∧ e.offset = 34) ∧
    (f.name ≠ "_" ∧ f.type = 3 ∧ f.offset = 35) ∧ (g.name ≠ "_" ∧ g.type = 2 ∧ g.offset = 36) ∧ (h.name ≠ "_" ∧ h.type = 3 ∧ h.offset = 37) :=
  ⟨_, _, _, _, _, _, _, rfl, ⟨by decide, rfl, rfl⟩, ⟨by decide, rfl, rfl⟩, ⟨by decide, rfl, rfl⟩, ⟨by decide, rfl, rfl⟩, ⟨by decide, rfl, rfl⟩, ⟨by decide, rfl, rfl⟩, ⟨by decide, rfl, rfl⟩⟩
theorem lock_cell {l : Lck} (h : l.id.length = 32) (i : Nat) : (lockCells l)[32 + i]? = [w6 l.src, w6 l.dest, w6 l.amount, iv l.dst, iv l.deadline, iv l.status][i]? := by
  have hl : (bcells l.id).length = 32 := by rw [bcells_len, h]
  rw [lockCells, List.getElem?_append_right (by omega), hl, Nat.add_sub_cancel_left]
theorem run_partDig {T off : Nat} {cs : List Value} {x : Bts} (hA : ∀ w, (isAgg T).run Tryz.prog w = .ok true w) (hS : ∀ w, (sizeOf T).run Tryz.prog w = .ok 32 w) (h : Part cs off 32 (bcells x)) (w : World) : (part T cs.toArray off).run Tryz.prog w = .ok (.agg (bcells x).toArray) w := by
  have := h.arr
  have h2 := h.2
  simp [part, hA, hS]
  simp at this
  simp [this, h2]
theorem run_eqLock (d : Nat) (a b : Lck) (ha : a.id.length = 32) (hb : b.id.length = 32) (w : World) : (Op.equalIn (d + 3) 60 (.agg (lockCells a).toArray) (.agg (lockCells b).toArray)).run Tryz.prog w = .ok (decide (a = b)) w := by
  rw [run_equalIn_agg w (d + 2) 60 _ _ (by kernel_rfl) (by kernel_rfl)]
  obtain ⟨f1, f2, f3, f4, f5, f6, f7, e, ⟨n1, t1, o1⟩, ⟨n2, t2, o2⟩, ⟨n3, t3, o3⟩, ⟨n4, t4, o4⟩, ⟨n5, t5, o5⟩, ⟨n6, t6, o6⟩, ⟨n7, t7, o7⟩⟩ := fo60
  rw [e]
  have p1 (x : Lck) (hx : x.id.length = 32) : (part 27 (lockCells x).toArray 0).run Tryz.prog w = .ok (.agg (bcells x.id).toArray) w := run_partDig Tryz.isAgg27 Tryz.sizeOf27 (Part.mk (a := []) rfl (by rw [bcells_len, hx])) w
  have p2 (x : Lck) (hx : x.id.length = 32) : (part 31 (lockCells x).toArray 32).run Tryz.prog w = .ok (w6 x.src) w := run_part64 pk31 (lock_cell hx 0) w
  have p3 (x : Lck) (hx : x.id.length = 32) : (part 31 (lockCells x).toArray 33).run Tryz.prog w = .ok (w6 x.dest) w := run_part64 pk31 (lock_cell hx 1) w
  have p4 (x : Lck) (hx : x.id.length = 32) : (part 31 (lockCells x).toArray 34).run Tryz.prog w = .ok (w6 x.amount) w := run_part64 pk31 (lock_cell hx 2) w
  have p5 (x : Lck) (hx : x.id.length = 32) : (part 3 (lockCells x).toArray 35).run Tryz.prog w = .ok (iv x.dst) w := run_partI pk3 (lock_cell hx 3) w
  have p6 (x : Lck) (hx : x.id.length = 32) : (part 2 (lockCells x).toArray 36).run Tryz.prog w = .ok (iv x.deadline) w := run_partI pk2 (lock_cell hx 4) w
  have p7 (x : Lck) (hx : x.id.length = 32) : (part 3 (lockCells x).toArray 37).run Tryz.prog w = .ok (iv x.status) w := run_partI pk3 (lock_cell hx 5) w
  have u3 : Tryz.prog.underlying 3 = some (.int .i64) := by kernel_rfl
  have u2 : Tryz.prog.underlying 2 = some (.int .i64) := by kernel_rfl
  rw [field_run n1 (by rw [t1, o1]; exact p1 a ha) (by rw [t1, o1]; exact p1 b hb) (by rw [t1]; exact run_eqDig d _ _ ha hb w),
    field_run n2 (by rw [t2, o2]; exact p2 a ha) (by rw [t2, o2]; exact p2 b hb) (by rw [t2]; exact run_eq64 (d + 1) _ _ w),
    field_run n3 (by rw [t3, o3]; exact p3 a ha) (by rw [t3, o3]; exact p3 b hb) (by rw [t3]; exact run_eq64 (d + 1) _ _ w),
    field_run n4 (by rw [t4, o4]; exact p4 a ha) (by rw [t4, o4]; exact p4 b hb) (by rw [t4]; exact run_eq64 (d + 1) _ _ w),
    field_run n5 (by rw [t5, o5]; exact p5 a ha) (by rw [t5, o5]; exact p5 b hb) (by rw [t5]; exact run_eqI (d + 1) 3 _ _ w u3),
    field_run n6 (by rw [t6, o6]; exact p6 a ha) (by rw [t6, o6]; exact p6 b hb) (by rw [t6]; exact run_eqI (d + 1) 2 _ _ w u2),
    field_run n7 (by rw [t7, o7]; exact p7 a ha) (by rw [t7, o7]; exact p7 b hb) (by rw [t7]; exact run_eqI (d + 1) 3 _ _ w u3), Op.eqFields]
  obtain ⟨a1, a2, a3, a4, a5, a6, a7⟩ := a
  obtain ⟨b1, b2, b3, b4, b5, b6, b7⟩ := b
  simp only
  by_cases h1 : a1 = b1
  case neg => simp [h1]
  by_cases h2 : a2 = b2
  case neg => simp [h1, h2]
  by_cases h3 : a3 = b3
  case neg => simp [h1, h2, h3]
  by_cases h4 : a4 = b4
  case neg => simp [h1, h2, h3, h4]
  by_cases h5 : a5 = b5
  case neg => simp [h1, h2, h3, h4, h5]
  by_cases h6 : a6 = b6
  case neg => simp [h1, h2, h3, h4, h5, h6]
  by_cases h7 : a7 = b7
  case neg => simp [h1, h2, h3, h4, h5, h6, h7]
  simp [h1, h2, h3, h4, h5, h6, h7]
section
variable {E : Env} {σ : Sto} {K : SHeap} {d : Option Tmp} {ty : TypeId} {pos : String} {af : Array Edge} {g : Option (Nat × Bool)}
theorem q_eqAgg {T T2 : TypeId} {x y : Operand} {xs ys : List Value} {r : Bool} (hx : E.op x = some (.agg xs.toArray)) (hy : E.op y = some (.agg ys.toArray)) (hg : Tryz.prog.eqGuardType Tryz.prog.depth T = false)
    (h : ∀ w, (Op.equalIn 10000 T (.agg xs.toArray) (.agg ys.toArray)).run Tryz.prog w = .ok r w) : Quiet Tryz.prog E.ev ⟨d, .binOp .eql T x y T2, ty, pos, af, g⟩ K σ (.bool r) := by
  intro σ' w L' _ _ _
  simp [execOp, Env.op_ev hx, Env.op_ev hy, run_eqGuard_agg w .eql T x y _ _ hg, run_eql_struct, h]
theorem q_neqAgg {T T2 : TypeId} {x y : Operand} {xs ys : List Value} {r : Bool} (hx : E.op x = some (.agg xs.toArray)) (hy : E.op y = some (.agg ys.toArray)) (hg : Tryz.prog.eqGuardType Tryz.prog.depth T = false)
    (h : ∀ w, (Op.equalIn 10000 T (.agg xs.toArray) (.agg ys.toArray)).run Tryz.prog w = .ok r w) : Quiet Tryz.prog E.ev ⟨d, .binOp .neq T x y T2, ty, pos, af, g⟩ K σ (.bool (!r)) := by
  intro σ' w L' _ _ _
  simp [execOp, Env.op_ev hx, Env.op_ev hy, run_eqGuard_agg w .neq T x y _ _ hg, run_neq_struct, h]
theorem eg27 : Tryz.prog.eqGuardType Tryz.prog.depth 27 = false := by kernel_rfl
theorem eg57 : Tryz.prog.eqGuardType Tryz.prog.depth 57 = false := by kernel_rfl
theorem eg60 : Tryz.prog.eqGuardType Tryz.prog.depth 60 = false := by kernel_rfl
end
end Go.Eng
