/- A part of the proof of this: Payments and locks of a shard come out as they stand on paper (TopPaid): for every input, with the listed package variables as the program's text lays them, TopPaid answers true and its argument reads as it did. -/
import Derived.Test.YtddoimkbjgfjnaaGreatDoorPaid10
import Derived.Test.YtddoimkbjgfjnaaGreatDoorPaid11
import Derived.Test.YtddoimkbjgfjnaaGreatDoorPaid13
namespace Go.Eng
open Go
theorem dcmp_zero : ∀ {a b : Bts}, dcmp a b = 0 ↔ a = b
  | [], [] => by simp [dcmp, Go.Lib.compareBytes]
  | [], _ :: _ => by simp [dcmp, Go.Lib.compareBytes]
  | _ :: _, [] => by simp [dcmp, Go.Lib.compareBytes]
  | x :: a, y :: b => by
    have ih := dcmp_zero (a := a) (b := b)
    unfold dcmp at *
    rw [Go.Lib.compareBytes]
    split
    · rename_i h; constructor
      · intro h'; cases h'
      · intro e; cases e; exact absurd h (UInt8.lt_irrefl _)
    · split
      · rename_i h; constructor
        · intro h'; cases h'
        · intro e; cases e; exact absurd h (UInt8.lt_irrefl _)
      · rename_i h1 h2
        have : x = y := UInt8.le_antisymm (UInt8.not_lt.1 h2) (UInt8.not_lt.1 h1)
        rw [ih, this]; simp
theorem dcmp_trans : ∀ {a b c : Bts}, dcmp a b < 0 → dcmp b c < 0 → dcmp a c < 0
  | [], [], _, h, _ => by simp [dcmp, Go.Lib.compareBytes] at h
  | [], _ :: _, [], _, h => by simp [dcmp, Go.Lib.compareBytes] at h
  | [], _ :: _, _ :: _, _, _ => by simp [dcmp, Go.Lib.compareBytes]
  | _ :: _, [], _, h, _ => by simp [dcmp, Go.Lib.compareBytes] at h
  | _ :: _, _ :: _, [], _, h => by simp [dcmp, Go.Lib.compareBytes] at h
  | x :: a, y :: b, z :: c, h1, h2 => by
    have ih := dcmp_trans (a := a) (b := b) (c := c)
    unfold dcmp at *
    rw [Go.Lib.compareBytes] at *
    by_cases hxy : x < y
    · by_cases hyz : y < z
      · rw [if_pos (UInt8.lt_trans hxy hyz)]; decide
      · rw [if_neg hyz] at h2
        by_cases hzy : z < y
        · rw [if_pos hzy] at h2; cases h2
        · have : y = z := UInt8.le_antisymm (UInt8.not_lt.1 hzy) (UInt8.not_lt.1 hyz)
          subst this; rw [if_pos hxy]; decide
    · rw [if_neg hxy] at h1
      by_cases hyx : y < x
      · rw [if_pos hyx] at h1; cases h1
      · rw [if_neg hyx] at h1
        have : x = y := UInt8.le_antisymm (UInt8.not_lt.1 hyx) (UInt8.not_lt.1 hxy)
        subst this
        by_cases hyz : x < z
        · rw [if_pos hyz]; decide
        · rw [if_neg hyz] at h2 ⊢
          by_cases hzy : z < x
          · rw [if_pos hzy] at h2; cases h2
          · rw [if_neg hzy] at h2 ⊢; exact ih h1 h2
theorem dcmp_flip : ∀ {a b : Bts}, dcmp a b = - dcmp b a
  | [], [] => rfl
  | [], _ :: _ => rfl
  | _ :: _, [] => rfl
  | x :: a, y :: b => by
    have ih := dcmp_flip (a := a) (b := b)
    unfold dcmp at *
    rw [Go.Lib.compareBytes, Go.Lib.compareBytes]
    by_cases hxy : x < y
    · have : ¬ y < x := fun h => UInt8.lt_irrefl _ (UInt8.lt_trans hxy h)
      simp [hxy, this]
    · by_cases hyx : y < x
      · simp [hxy, hyx]
      · simp [hxy, hyx, ih]
theorem dcmp_cases (a b : Bts) : dcmp a b < 0 ∨ a = b ∨ dcmp b a < 0 := by
  have h1 := dcmp_flip (a := a) (b := b)
  have h2 := dcmp_zero (a := a) (b := b)
  rcases Int.lt_trichotomy (dcmp a b) 0 with h | h | h
  · exact .inl h
  · exact .inr (.inl (h2.1 h))
  · exact .inr (.inr (by omega))
theorem bs_split {α : Type} [Inhabited α] (c : α → Int) (xs : List α) (hm : xs.Pairwise fun a b => c b < 0 → c a < 0) :
    (∀ x ∈ xs.take (bsr (fun i => c (xs.getD i default)) 0 xs.length), c x < 0) ∧ (∀ x ∈ xs.drop (bsr (fun i => c (xs.getD i default)) 0 xs.length), ¬ c x < 0) := by
  have hp := List.pairwise_iff_getElem.1 hm
  have hg : ∀ i (hi : i < xs.length), xs.getD i default = xs[i] := fun i hi => by simp [List.getD, List.getElem?_eq_getElem hi]
  obtain ⟨h1, h2⟩ := bsr_spec (fun i => c (xs.getD i default)) xs.length (fun a b hab hb hc => by
    rcases Nat.lt_or_ge a b with h | h
    · have := hp a b (by omega) hb h
      rw [hg b hb] at hc; rw [hg a (by omega)]; exact this hc
    · have : a = b := by omega
      subst this; exact hc) 0 xs.length (Nat.zero_le _) (Nat.le_refl _) (fun a ha => absurd ha (Nat.not_lt_zero _)) (fun b hb hb' => absurd hb' (by omega))
  refine ⟨fun x hx => ?_, fun x hx => ?_⟩
  · obtain ⟨i, hi, rfl⟩ := List.mem_iff_getElem.1 hx
    rw [List.length_take] at hi
    have := h1 i (by omega)
    rw [hg i (by omega)] at this
    rw [List.getElem_take]; exact this
  · obtain ⟨i, hi, rfl⟩ := List.mem_iff_getElem.1 hx
    rw [List.length_drop] at hi
    have := h2 (bsr (fun i => c (xs.getD i default)) 0 xs.length + i) (by omega) (by omega)
    rw [hg _ (by omega)] at this
    rw [List.getElem_drop]; exact this
structure Keyed (α κ : Type) [Inhabited α] where
  key : α → κ
  cmp : κ → κ → Int
  zero : ∀ a b, cmp a b = 0 ↔ a = b
  flip : ∀ a b, cmp a b = - cmp b a
  trans : ∀ a b c, cmp a b < 0 → cmp b c < 0 → cmp a c < 0
section
variable {α κ : Type} [Inhabited α] (K : Keyed α κ)
def Keyed.Rise (xs : List α) : Prop := xs.Pairwise fun a b => K.cmp (K.key a) (K.key b) < 0
def Keyed.ix (xs : List α) (k : κ) : Nat := bsr (fun i => K.cmp (K.key (xs.getD i default)) k) 0 xs.length
def Keyed.has (xs : List α) (k : κ) : Bool := decide (K.ix xs k < xs.length) && decide (K.cmp (K.key (xs.getD (K.ix xs k) default)) k = 0)
variable {K}
theorem Keyed.self (k : κ) : K.cmp k k = 0 := (K.zero k k).2 rfl
theorem Keyed.Rise.split {xs : List α} (h : K.Rise xs) (k : κ) : (∀ x ∈ xs.take (K.ix xs k), K.cmp (K.key x) k < 0) ∧ (∀ x ∈ xs.drop (K.ix xs k), ¬ K.cmp (K.key x) k < 0) :=
  bs_split (fun x => K.cmp (K.key x) k) xs (List.Pairwise.imp (fun h1 h2 => K.trans _ _ _ h1 h2) h)
theorem Keyed.ix_le (xs : List α) (k : κ) : K.ix xs k ≤ xs.length := (bsr_le _ _ _ (Nat.zero_le _)).2
theorem Keyed.Rise.mem {xs : List α} (h : K.Rise xs) {x : α} (hx : x ∈ xs) : K.ix xs (K.key x) < xs.length ∧ xs.getD (K.ix xs (K.key x)) default = x ∧ K.has xs (K.key x) = true := by
  obtain ⟨h1, h2⟩ := h.split (K.key x)
  have hix : K.ix xs (K.key x) ≤ xs.length := Keyed.ix_le _ _
  generalize hi : K.ix xs (K.key x) = i at *
  have hx' : x ∈ xs.drop i := by
    have : x ∈ xs.take i ++ xs.drop i := by rw [List.take_append_drop]; exact hx
    rcases List.mem_append.1 this with h' | h'
    · have := h1 x h'; rw [Keyed.self] at this; exact absurd this (by decide)
    · exact h'
  have hlt : i < xs.length := by
    rcases Nat.lt_or_ge i xs.length with h' | h'
    · exact h'
    · rw [List.drop_eq_nil_of_le h'] at hx'; cases hx'
  have hg : xs.getD i default = xs[i] := by simp [List.getD, List.getElem?_eq_getElem hlt]
  have he : xs[i] = x := by
    rw [List.drop_eq_getElem_cons hlt] at hx' h2
    rcases List.mem_cons.1 hx' with e | hm
    · exact e.symm
    · have hp : (xs.drop i).Pairwise fun a b => K.cmp (K.key a) (K.key b) < 0 := h.sublist (List.drop_sublist _ _)
      rw [List.drop_eq_getElem_cons hlt] at hp
      have := (List.pairwise_cons.1 hp).1 x hm
      exact absurd this (h2 _ List.mem_cons_self)
  refine ⟨hlt, hg.trans he, ?_⟩
  unfold Keyed.has
  rw [hi, hg, he, Keyed.self]; simp [hlt]
theorem Keyed.has_iff {xs : List α} (h : K.Rise xs) (k : κ) : K.has xs k = true ↔ ∃ x ∈ xs, K.key x = k := by
  constructor
  · intro hh
    unfold Keyed.has at hh
    simp only [Bool.and_eq_true, decide_eq_true_eq] at hh
    obtain ⟨h1, h2⟩ := hh
    refine ⟨xs[K.ix xs k], List.getElem_mem h1, ?_⟩
    have hg : xs.getD (K.ix xs k) default = xs[K.ix xs k] := by simp [List.getD, List.getElem?_eq_getElem h1]
    rw [hg] at h2
    exact (K.zero _ _).1 h2
  · rintro ⟨x, hx, rfl⟩
    exact (h.mem hx).2.2
theorem Keyed.Rise.ins {xs : List α} (h : K.Rise xs) (x : α) (hn : K.has xs (K.key x) = false) : K.Rise (xs.take (K.ix xs (K.key x)) ++ x :: xs.drop (K.ix xs (K.key x))) := by
  obtain ⟨h1, h2⟩ := h.split (K.key x)
  have hne : ∀ y ∈ xs, K.key y ≠ K.key x := fun y hy e => by
    have := (Keyed.has_iff h (K.key x)).2 ⟨y, hy, e⟩
    rw [hn] at this; cases this
  generalize K.ix xs (K.key x) = i at *
  have h3 : ∀ y ∈ xs.drop i, K.cmp (K.key x) (K.key y) < 0 := fun y hy => by
    have a1 := h2 y hy
    have a2 : K.cmp (K.key y) (K.key x) ≠ 0 := fun e => hne y (List.mem_of_mem_drop hy) ((K.zero _ _).1 e)
    have a3 := K.flip (K.key x) (K.key y)
    omega
  refine List.pairwise_append.2 ⟨h.sublist (List.take_sublist _ _), List.pairwise_cons.2 ⟨h3, h.sublist (List.drop_sublist _ _)⟩, fun a ha b hb => ?_⟩
  rcases List.mem_cons.1 hb with rfl | hb
  · exact h1 a ha
  · exact K.trans _ _ _ (h1 a ha) (h3 b hb)
theorem Keyed.Rise.set {xs : List α} (h : K.Rise xs) (x : α) (hn : K.has xs (K.key x) = true) : K.Rise (xs.set (K.ix xs (K.key x)) x) := by
  obtain ⟨y, hy, he⟩ := (Keyed.has_iff h _).1 hn
  have hm := h.mem hy
  rw [he] at hm
  obtain ⟨hlt, hg, _⟩ := hm
  have hp := List.pairwise_iff_getElem.1 h
  have hg2 : xs[K.ix xs (K.key x)] = y := by rw [← hg]; simp [List.getD, List.getElem?_eq_getElem hlt]
  generalize K.ix xs (K.key x) = i at *
  refine List.pairwise_iff_getElem.2 fun a b ha hb hab => ?_
  rw [List.length_set] at ha hb
  have := hp a b ha hb hab
  have hk : ∀ j (hj : j < xs.length), K.key ((xs.set i x)[j]'(by rw [List.length_set]; exact hj)) = K.key xs[j] := fun j hj => by
    rw [List.getElem_set]
    split
    · rename_i e; subst e; rw [hg2, he]
    · rfl
  rw [hk a ha, hk b hb]; exact this
theorem Keyed.Rise.uniq {xs : List α} (h : K.Rise xs) {x y : α} (hx : x ∈ xs) (hy : y ∈ xs) (he : K.key x = K.key y) : x = y := by
  have h1 := (h.mem hx).2.1
  have h2 := (h.mem hy).2.1
  rw [he] at h1
  exact h1.symm.trans h2
end
theorem cmp64_flip (a b : UInt64) : cmp64 a b = - cmp64 b a := by
  unfold cmp64
  by_cases h1 : a < b
  · have : ¬ b < a := fun h => UInt64.lt_irrefl _ (UInt64.lt_trans h1 h)
    simp [h1, this]
  · by_cases h2 : b < a <;> simp [h1, h2]
theorem cmp64_lt {a b : UInt64} : cmp64 a b < 0 ↔ a < b := by
  unfold cmp64
  by_cases h1 : a < b
  · simp [h1]
  · by_cases h2 : b < a <;> simp [h1, h2]
def kAcc : Keyed Acc UInt64 := ⟨Acc.name, cmp64, fun _ _ => cmp64_zero, cmp64_flip, fun _ _ _ h1 h2 => cmp64_lt.2 (UInt64.lt_trans (cmp64_lt.1 h1) (cmp64_lt.1 h2))⟩
def kLck : Keyed Lck Bts := ⟨Lck.id, dcmp, fun _ _ => dcmp_zero, fun _ _ => dcmp_flip, fun _ _ _ => dcmp_trans⟩
def kDig : Keyed Bts Bts := ⟨fun d => d, dcmp, fun _ _ => dcmp_zero, fun _ _ => dcmp_flip, fun _ _ _ => dcmp_trans⟩
abbrev RiseA (xs : List Acc) : Prop := kAcc.Rise xs
abbrev RiseL (xs : List Lck) : Prop := kLck.Rise xs
abbrev RiseD (xs : List Bts) : Prop := kDig.Rise xs
theorem accIx_k (xs : List Acc) (n : UInt64) : accIx xs n = kAcc.ix xs n := rfl
theorem accHas_k (xs : List Acc) (n : UInt64) : accHas xs n = kAcc.has xs n := rfl
theorem lockIx_k (xs : List Lck) (n : Bts) : lockIx xs n = kLck.ix xs n := rfl
theorem lockHas_k (xs : List Lck) (n : Bts) : lockHas xs n = kLck.has xs n := rfl
theorem digIx_k (xs : List Bts) (n : Bts) : digIx xs n = kDig.ix xs n := rfl
theorem digHas_k (xs : List Bts) (n : Bts) : digHas xs n = kDig.has xs n := rfl
theorem accHas_iff {xs : List Acc} (h : RiseA xs) (n : UInt64) : accHas xs n = true ↔ ∃ a ∈ xs, a.name = n := Keyed.has_iff (K := kAcc) h n
theorem lockHas_iff {xs : List Lck} (h : RiseL xs) (n : Bts) : lockHas xs n = true ↔ ∃ a ∈ xs, a.id = n := Keyed.has_iff (K := kLck) h n
theorem digHas_iff {xs : List Bts} (h : RiseD xs) (n : Bts) : digHas xs n = true ↔ n ∈ xs :=
  (Keyed.has_iff (K := kDig) h n).trans ⟨fun ⟨x, hx, e⟩ => by rw [← (show x = n from e)]; exact hx, fun hx => ⟨n, hx, rfl⟩⟩
theorem acct_mem {xs : List Acc} (h : RiseA xs) {a : Acc} (ha : a ∈ xs) : acct xs a.name = a := by
  obtain ⟨_, h2, h3⟩ := Keyed.Rise.mem (K := kAcc) h ha
  unfold acct
  rw [if_pos (show accHas xs a.name = true from h3)]; exact h2
theorem acct_none {xs : List Acc} (h : RiseA xs) {n : UInt64} (hn : ∀ a ∈ xs, a.name ≠ n) : acct xs n = ⟨n, 0, 0⟩ := by
  unfold acct
  rw [if_neg]
  intro hh
  obtain ⟨a, ha, e⟩ := (accHas_iff h n).1 hh
  exact hn a ha e
theorem setAcc_rise {xs : List Acc} (h : RiseA xs) (a : Acc) : RiseA (setAcc xs a) := by
  unfold setAcc
  split
  · rename_i hh; exact Keyed.Rise.set (K := kAcc) h a hh
  · rename_i hh; exact Keyed.Rise.ins (K := kAcc) h a (Bool.eq_false_iff.2 hh)
theorem mem_setAcc {xs : List Acc} (h : RiseA xs) (a x : Acc) : x ∈ setAcc xs a ↔ x = a ∨ (x ∈ xs ∧ x.name ≠ a.name) := by
  have hr := setAcc_rise h a
  unfold setAcc at *
  split
  · rename_i hh
    obtain ⟨y, hy, he⟩ := (accHas_iff h _).1 hh
    obtain ⟨hlt, hg, _⟩ := Keyed.Rise.mem (K := kAcc) h hy
    rw [if_pos hh] at hr
    have hlt' : accIx xs a.name < xs.length := by rw [← he]; exact hlt
    have hg' : xs[accIx xs a.name] = y := by
      have : xs.getD (accIx xs y.name) default = y := hg
      rw [he] at this; rw [← this]; simp [List.getD, List.getElem?_eq_getElem hlt']
    constructor
    · intro hx
      rcases List.mem_or_eq_of_mem_set hx with hx | hx
      · by_cases e : x.name = a.name
        · left
          have : a ∈ xs.set (accIx xs a.name) a := List.mem_set hlt' a
          exact Keyed.Rise.uniq (K := kAcc) hr (by assumption) this e
        · exact .inr ⟨hx, e⟩
      · exact .inl hx
    · rintro (rfl | ⟨hx, hne⟩)
      · exact List.mem_set hlt' x
      · obtain ⟨j, hj, rfl⟩ := List.mem_iff_getElem.1 hx
        have hij : accIx xs a.name ≠ j := fun e => by
          subst e; rw [hg'] at hne; exact hne he
        refine List.mem_iff_getElem.2 ⟨j, by rw [List.length_set]; exact hj, ?_⟩
        rw [List.getElem_set_ne hij]
  · rename_i hh
    have hno : ∀ y ∈ xs, y.name ≠ a.name := fun y hy e => hh ((accHas_iff h _).2 ⟨y, hy, e⟩)
    rw [List.mem_append, List.mem_cons]
    constructor
    · rintro (hx | rfl | hx)
      · have := List.mem_of_mem_take hx; exact .inr ⟨this, hno x this⟩
      · exact .inl rfl
      · have := List.mem_of_mem_drop hx; exact .inr ⟨this, hno x this⟩
    · rintro (rfl | ⟨hx, _⟩)
      · exact .inr (.inl rfl)
      · rw [← List.take_append_drop (accIx xs a.name) xs] at hx
        rcases List.mem_append.1 hx with hx | hx
        · exact .inl hx
        · exact .inr (.inr hx)
theorem acct_set {xs : List Acc} (h : RiseA xs) (a : Acc) (n : UInt64) : acct (setAcc xs a) n = if n = a.name then a else acct xs n := by
  have hr := setAcc_rise h a
  split
  · rename_i e; subst e
    exact acct_mem hr ((mem_setAcc h a a).2 (.inl rfl))
  · rename_i hne
    by_cases hx : ∃ x ∈ xs, x.name = n
    · obtain ⟨x, hx, rfl⟩ := hx
      rw [acct_mem h hx, acct_mem hr ((mem_setAcc h a x).2 (.inr ⟨hx, hne⟩))]
    · have hx' : ∀ x ∈ xs, x.name ≠ n := fun x hm e => hx ⟨x, hm, e⟩
      rw [acct_none h hx', acct_none hr]
      intro x hm e
      rcases (mem_setAcc h a x).1 hm with rfl | ⟨hm, _⟩
      · exact hne e.symm
      · exact hx' x hm e
def sumA (xs : List Acc) : UInt64 := xs.foldl (fun n a => n + a.bal) 0
theorem foldA (xs : List Acc) : ∀ n : UInt64, xs.foldl (fun n a => n + a.bal) n = n + sumA xs := by
  induction xs with
  | nil => intro n; simp [sumA]
  | cons a xs ih => intro n; simp only [sumA, List.foldl_cons]; rw [ih, ih (0 + a.bal)]; simp [UInt64.add_assoc]
theorem sumA_nil : sumA [] = 0 := rfl
theorem sumA_cons (a : Acc) (xs : List Acc) : sumA (a :: xs) = a.bal + sumA xs := by simp only [sumA, List.foldl_cons]; rw [foldA]; simp [sumA]
theorem sumA_app (xs ys : List Acc) : sumA (xs ++ ys) = sumA xs + sumA ys := by
  induction xs with
  | nil => simp [sumA_nil]
  | cons a xs ih => rw [List.cons_append, sumA_cons, sumA_cons, ih, UInt64.add_assoc]
theorem sumA_set {xs : List Acc} (h : RiseA xs) (a : Acc) : sumA (setAcc xs a) + (acct xs a.name).bal = sumA xs + a.bal := by
  unfold setAcc
  split
  · rename_i hh
    have hlt := accHas_lt hh
    have he : acct xs a.name = xs[accIx xs a.name] := by unfold acct; rw [if_pos hh]; simp [List.getD, List.getElem?_eq_getElem hlt]
    rw [he, List.set_eq_take_append_cons_drop, if_pos hlt]
    conv => rhs; rw [← List.take_append_drop (accIx xs a.name) xs, List.drop_eq_getElem_cons hlt]
    rw [sumA_app, sumA_app, sumA_cons, sumA_cons]
    grind
  · rename_i hh
    have he : acct xs a.name = ⟨a.name, 0, 0⟩ := by unfold acct; rw [if_neg hh]
    rw [he, sumA_app, sumA_cons]
    conv => rhs; rw [← List.take_append_drop (accIx xs a.name) xs, sumA_app]
    grind
end Go.Eng
namespace Go.Eng
open Go Go.Proofs
set_option maxRecDepth 20000
def doCells (sv : SV) (h : Int) (t : Tx) (fv : Value) (r : Bool) : List Value := stCells sv ++ (iv h :: (txCells t fv ++ [.bool r]))
def lockTx (a b m o : UInt64) (d l : Int) : Tx := ⟨2, a, b, m, o, d, l, z32, 0⟩
noncomputable def lockErr (st : LSt) (a m o : UInt64) (d l : Int) : Int :=
  if st.chain < 1 ∨ d < 1 ∨ 4 ≤ d ∨ d = st.chain then 9 else if l < 1 ∨ 1099511627776 < l then 24 else
  if takeErr (acct st.accs a) m o ≠ 0 then takeErr (acct st.accs a) m o else if lockHas st.locks (lockId st.chain a o) then 26 else 0
noncomputable def newLock (st : LSt) (a b m o : UInt64) (d l : Int) : Lck := ⟨lockId st.chain a o, a, b, m, d, l, 1⟩
def addLock (st : LSt) (x : Lck) : LSt := { st with locks := st.locks.take (lockIx st.locks x.id) ++ x :: st.locks.drop (lockIx st.locks x.id) }
noncomputable def lockSt (st : LSt) (a b m o : UInt64) (d l : Int) : LSt := addLock (takeSt st a m) (newLock st a b m o d l)
theorem c177 {σ : Sto} {L : SHeap} (e : Int) : Ctr Tryz.prog 177 #[iv e] σ L fun v σ' L' => v = .tuple #[.agg (stCells zSV).toArray, iv e] ∧ L' = L := by
  refine ctr_enter Tryz.func177 rfl Tryz.ntmps177 (by simp) ?_
  refine go_seq ?_
  refine go_region ?_
  refine snb rfl (n_alloc Tryz.zeroValue51 .agg) ?_
  intro b1
  refine sq rfl (q_assign rfl) ?_
  refine gol_nil ?_
  refine go_seq ?_
  refine go_region ?_
  refine sq rfl (q_buildS (ns := [1, 1, 1, 1, 1, 1]) (.zero (z := [_]) rfl (.zero (z := [_]) rfl (.zero (z := [_]) rfl (.zero (z := [_]) rfl (.zero (z := [_]) rfl (.zero (z := [_]) rfl .nil)))))) Tryz.zeroValue51 Tryz.runUnderlying51 (places51 Tryz.runUnderlying51) rfl) ?_
  refine sq rfl (q_move rfl) ?_
  refine sst rfl (n_storeA rfl rfl (vs := stCells zSV) rfl Tryz.sizeOf51 rfl .hd (PutAt.all rfl)) ?_
  refine sq rfl (q_assign rfl) ?_
  refine gol_nil ?_
  refine go_retR Tryz.func177 Tryz.results177 rfl (.cellA rfl Tryz.isAgg51 Tryz.sizeOf51 .hd (Part.all rfl) (.tmp rfl .nil)) (.cons _ (List.Sublist.refl _)) (by repeat (first | exact Sto.le_refl _ | assumption | refine Sto.le_trans ?_ (by assumption))) ?_
  exact ⟨rfl, rfl⟩
theorem lockHas_lt {xs : List Lck} {n : Bts} (h : lockHas xs n = true) : lockIx xs n < xs.length := by simp only [lockHas, Bool.and_eq_true, decide_eq_true_eq] at h; exact h.1
theorem perm4c (p q : Nat × Obj) (A B C X T : SHeap) : (p :: q :: (A ++ (B ++ (C ++ (X ++ T))))).Perm (X ++ (p :: q :: (A ++ (B ++ (C ++ T))))) :=
  (((perm4 A B C X T).cons q).cons p).trans (((List.perm_middle (a := q)).symm.cons p).trans (List.perm_middle (a := p)).symm)
theorem lockId_len (c : Int) (a o : UInt64) : (lockId c a o).length = 32 := shaOf_len _
theorem zero60 (w : World) : (zeroValue 60).run Tryz.prog w = .ok (.agg (bcells z32 ++ [w6 0, w6 0, w6 0, iv 0, iv 0, iv 0]).toArray) w := by rw [Tryz.zeroValue60]; rfl
theorem lk_len {x : Lck} (h : x.id.length = 32) : (lockCells x).length = 38 := by simp [lockCells, bcells_len, h]
theorem c143 {σ : Sto} {L : SHeap} {sv : SV} {st : LSt} {N : Nat} {p : Option Addr} {c : Nat} {T : TypeId} {fr : Nat × Nat} (hK : σ 1 = some (.cells (ucells K256).toArray T fr)) (h : StR σ L sv st) (hb : st.le N) (hN : N < 80000000) (h1 : ¬ st.chain < 1) (a b m o : UInt64) (d l ht : Int) (r : Bool) : Ctr Tryz.prog 143 #[.agg (doCells sv ht (lockTx a b m o d l) (.slice p 0 c) r).toArray] σ L fun v σ' L' => (lockErr st a m o d l ≠ 0 ∧ v = .tuple #[.agg (stCells zSV).toArray, iv (lockErr st a m o d l)] ∧ L' = L) ∨ (lockErr st a m o d l = 0 ∧ ∃ sv' L1 L2 L3 L4 L5, v = .tuple #[.agg (stCells sv').toArray, iv 0] ∧ StO σ' sv' (lockSt st a b m o d l) L1 L2 L3 L4 L5 ∧ L' = L1 ++ (L2 ++ (L3 ++ (L4 ++ (L5 ++ L))))) := by
  have hd1 : decide (st.chain < 1) = false := decide_eq_false h1
  refine ctr_enter Tryz.func143 rfl Tryz.ntmps143 (by simp) ?_
  refine go_seq ?_
  refine go_region ?_
  refine snb rfl (n_box rfl (.agg (l := doCells sv ht (lockTx a b m o d l) (.slice p 0 c) r))) ?_
  intro b1
  refine snb rfl (n_alloc Tryz.zeroValue51 .agg) ?_
  intro b2
  refine sq rfl (q_assign rfl) ?_
  refine gol_nil ?_
  refine go_seq ?_
  refine go_region ?_
  refine sq rfl (q_fieldAddr (off := 7) (o' := 7) rfl Tryz.runUnderlying219 rfl Tryz.sizeOf42 rfl rfl) ?_
  refine sq rfl (q_loadA (vs := txCells (lockTx a b m o d l) (.slice p 0 c)) rfl Tryz.isAgg42 Tryz.sizeOf42 (.tl .hd) (Part.mk (a := stCells sv ++ [iv ht]) (vs := txCells (lockTx a b m o d l) (.slice p 0 c)) (b := [.bool r]) rfl (tx_len rfl))) ?_
  refine snb rfl (n_alloc zero42 .agg) ?_
  intro b3
  refine sst rfl (n_storeA rfl rfl (vs := txCells (lockTx a b m o d l) (.slice p 0 c)) (tx_one rfl) Tryz.sizeOf42 (tx_len rfl) .hd (PutAt.all rfl)) ?_
  refine gol_nil ?_
  refine go_seq ?_
  refine go_block ?_
  refine go_seq ?_
  refine go_region ?_
  refine sq rfl (q_fieldAddr (off := 0) (o' := 0) rfl Tryz.runUnderlying219 rfl Tryz.sizeOf51 rfl rfl) ?_
  refine sq rfl (q_fieldAddr (off := 0) (o' := 0) rfl Tryz.runUnderlying51 rfl Tryz.sizeOf3 rfl rfl) ?_
  refine sq rfl (q_load (v := iv st.chain) rfl Tryz.isAgg3 (.tl (.tl .hd)) (h.chain ▸ (.z : At (stCells sv ++ _) 0 (iv sv.chain)))) ?_
  refine sq rfl (q_lss (a := st.chain) (b := 1) rfl rfl) ?_
  rw [hd1]
  refine sq rfl (q_move rfl) ?_
  refine sqg rfl rfl (q_fieldAddr (off := 5) (o' := 5) rfl Tryz.runUnderlying42 rfl Tryz.sizeOf3 rfl rfl) ?_
  refine sqg rfl rfl (q_load (v := iv d) rfl Tryz.isAgg3 .hd (.s (.s (.s (.s (.s .z)))))) ?_
  refine sqg rfl rfl (q_lss (a := d) (b := 1) rfl rfl) ?_
  refine sq rfl (q_pick rfl rfl rfl (x := .bool (decide (d < 1))) rfl) ?_
  rcases Classical.em (d < 1) with h2 | h2
  ·
    have hd2 : decide (d < 1) = true := decide_eq_true h2
    have h9 : st.chain < 1 ∨ d < 1 ∨ 4 ≤ d ∨ d = st.chain := .inr (.inl h2)
    rw [hd2]
    refine sq rfl (q_move rfl) ?_
    refine ss rfl rfl ?_
    refine ss rfl rfl ?_
    refine ss rfl rfl ?_
    refine sq rfl (q_pick rfl rfl rfl rfl) ?_
    refine sq rfl (q_move rfl) ?_
    refine ss rfl rfl ?_
    refine ss rfl rfl ?_
    refine ss rfl rfl ?_
    refine ss rfl rfl ?_
    refine ss rfl rfl ?_
    refine ss rfl rfl ?_
    refine sq rfl (q_pick rfl rfl rfl rfl) ?_
    refine sq rfl (q_assign rfl) ?_
    refine gol_nil ?_
    refine go_condT rfl rfl ?_
    refine go_seq ?_
    refine go_region ?_
    refine sn rfl (n_call rfl Tryz.call177 (c177 9)) ?_
    rintro v2 σ2 _ hle2 ⟨rfl, rfl⟩
    refine sq rfl (q_extract rfl .z) ?_
    refine sq rfl (q_extract rfl (.s .z)) ?_
    refine sst rfl (n_storeA rfl rfl (vs := stCells zSV) rfl Tryz.sizeOf51 rfl (.tl .hd) (PutAt.all rfl)) ?_
    refine sq rfl (q_assign rfl) ?_
    refine gol_nil ?_
    have EE : lockErr st a m o d l = 9 := by rw [lockErr, if_pos h9]
    refine go_retR Tryz.func143 Tryz.results143 rfl (.cellA rfl Tryz.isAgg51 Tryz.sizeOf51 (.tl .hd) (Part.all rfl) (.tmp rfl .nil)) (.cons _ (.cons _ (.cons _ (List.Sublist.refl _)))) (by repeat (first | exact Sto.le_refl _ | assumption | refine Sto.le_trans ?_ (by assumption))) ?_
    exact Or.inl ⟨by rw [EE]; decide, by rw [EE]; rfl, rfl⟩
  ·
    have hd2 : decide (d < 1) = false := decide_eq_false h2
    rw [hd2]
    refine sq rfl (q_move rfl) ?_
    refine sqg rfl rfl (q_fieldAddr (off := 5) (o' := 5) rfl Tryz.runUnderlying42 rfl Tryz.sizeOf3 rfl rfl) ?_
    refine sqg rfl rfl (q_load (v := iv d) rfl Tryz.isAgg3 .hd (.s (.s (.s (.s (.s .z)))))) ?_
    refine sqg rfl rfl (q_geq (a := d) (b := 4) rfl rfl) ?_
    refine sq rfl (q_pick rfl rfl rfl (x := .bool (decide (d ≥ 4))) rfl) ?_
    rcases Classical.em (4 ≤ d) with h3 | h3
    ·
      have hd3 : decide (d ≥ 4) = true := decide_eq_true h3
      have h9 : st.chain < 1 ∨ d < 1 ∨ 4 ≤ d ∨ d = st.chain := .inr (.inr (.inl h3))
      rw [hd3]
      refine sq rfl (q_move rfl) ?_
      refine ss rfl rfl ?_
      refine ss rfl rfl ?_
      refine ss rfl rfl ?_
      refine ss rfl rfl ?_
      refine ss rfl rfl ?_
      refine ss rfl rfl ?_
      refine sq rfl (q_pick rfl rfl rfl rfl) ?_
      refine sq rfl (q_assign rfl) ?_
      refine gol_nil ?_
      refine go_condT rfl rfl ?_
      refine go_seq ?_
      refine go_region ?_
      refine sn rfl (n_call rfl Tryz.call177 (c177 9)) ?_
      rintro v2 σ2 _ hle2 ⟨rfl, rfl⟩
      refine sq rfl (q_extract rfl .z) ?_
      refine sq rfl (q_extract rfl (.s .z)) ?_
      refine sst rfl (n_storeA rfl rfl (vs := stCells zSV) rfl Tryz.sizeOf51 rfl (.tl .hd) (PutAt.all rfl)) ?_
      refine sq rfl (q_assign rfl) ?_
      refine gol_nil ?_
      have EE : lockErr st a m o d l = 9 := by rw [lockErr, if_pos h9]
      refine go_retR Tryz.func143 Tryz.results143 rfl (.cellA rfl Tryz.isAgg51 Tryz.sizeOf51 (.tl .hd) (Part.all rfl) (.tmp rfl .nil)) (.cons _ (.cons _ (.cons _ (List.Sublist.refl _)))) (by repeat (first | exact Sto.le_refl _ | assumption | refine Sto.le_trans ?_ (by assumption))) ?_
      exact Or.inl ⟨by rw [EE]; decide, by rw [EE]; rfl, rfl⟩
    ·
      have hd3 : decide (d ≥ 4) = false := decide_eq_false h3
      rw [hd3]
      refine sq rfl (q_move rfl) ?_
      refine sqg rfl rfl (q_fieldAddr (off := 5) (o' := 5) rfl Tryz.runUnderlying42 rfl Tryz.sizeOf3 rfl rfl) ?_
      refine sqg rfl rfl (q_load (v := iv d) rfl Tryz.isAgg3 .hd (.s (.s (.s (.s (.s .z)))))) ?_
      refine sqg rfl rfl (q_fieldAddr (off := 0) (o' := 0) rfl Tryz.runUnderlying219 rfl Tryz.sizeOf51 rfl rfl) ?_
      refine sqg rfl rfl (q_fieldAddr (off := 0) (o' := 0) rfl Tryz.runUnderlying51 rfl Tryz.sizeOf3 rfl rfl) ?_
      refine sqg rfl rfl (q_load (v := iv st.chain) rfl Tryz.isAgg3 (.tl (.tl .hd)) (h.chain ▸ (.z : At (stCells sv ++ _) 0 (iv sv.chain)))) ?_
      refine sqg rfl rfl (q_eql (a := d) (b := st.chain) rfl rfl) ?_
      refine sq rfl (q_pick rfl rfl rfl (x := .bool (decide (d = st.chain))) rfl) ?_
      refine sq rfl (q_assign rfl) ?_
      refine gol_nil ?_
      refine go_cond rfl rfl (fun hc0 => ?_) (fun hc0 => ?_)
      ·
        have h9 : st.chain < 1 ∨ d < 1 ∨ 4 ≤ d ∨ d = st.chain := .inr (.inr (.inr (of_decide_eq_true hc0)))
        refine go_seq ?_
        refine go_region ?_
        refine sn rfl (n_call rfl Tryz.call177 (c177 9)) ?_
        rintro v2 σ2 _ hle2 ⟨rfl, rfl⟩
        refine sq rfl (q_extract rfl .z) ?_
        refine sq rfl (q_extract rfl (.s .z)) ?_
        refine sst rfl (n_storeA rfl rfl (vs := stCells zSV) rfl Tryz.sizeOf51 rfl (.tl .hd) (PutAt.all rfl)) ?_
        refine sq rfl (q_assign rfl) ?_
        refine gol_nil ?_
        have EE : lockErr st a m o d l = 9 := by rw [lockErr, if_pos h9]
        refine go_retR Tryz.func143 Tryz.results143 rfl (.cellA rfl Tryz.isAgg51 Tryz.sizeOf51 (.tl .hd) (Part.all rfl) (.tmp rfl .nil)) (.cons _ (.cons _ (.cons _ (List.Sublist.refl _)))) (by repeat (first | exact Sto.le_refl _ | assumption | refine Sto.le_trans ?_ (by assumption))) ?_
        exact Or.inl ⟨by rw [EE]; decide, by rw [EE]; rfl, rfl⟩
      ·
        have h9 : ¬ (st.chain < 1 ∨ d < 1 ∨ 4 ≤ d ∨ d = st.chain) := fun h => h.elim h1 fun h => h.elim h2 fun h => h.elim h3 (of_decide_eq_false hc0)
        refine go_seq ?_
        refine go_region ?_
        refine sq rfl (q_fieldAddr (off := 6) (o' := 6) rfl Tryz.runUnderlying42 rfl Tryz.sizeOf2 rfl rfl) ?_
        refine sq rfl (q_load (v := iv l) rfl Tryz.isAgg2 .hd (.s (.s (.s (.s (.s (.s .z))))))) ?_
        refine sq rfl (q_lss (a := l) (b := 1) rfl rfl) ?_
        rcases Classical.em (l < 1) with h4 | h4
        ·
          have hd4 : decide (l < 1) = true := decide_eq_true h4
          rw [hd4]
          refine sq rfl (q_move rfl) ?_
          refine ss rfl rfl ?_
          refine ss rfl rfl ?_
          refine ss rfl rfl ?_
          refine sq rfl (q_pick rfl rfl rfl rfl) ?_
          refine sq rfl (q_assign rfl) ?_
          refine gol_nil ?_
          refine go_condT rfl rfl ?_
          refine go_seq ?_
          refine go_region ?_
          refine sn rfl (n_call rfl Tryz.call177 (c177 24)) ?_
          rintro v2 σ2 _ hle2 ⟨rfl, rfl⟩
          refine sq rfl (q_extract rfl .z) ?_
          refine sq rfl (q_extract rfl (.s .z)) ?_
          refine sst rfl (n_storeA rfl rfl (vs := stCells zSV) rfl Tryz.sizeOf51 rfl (.tl .hd) (PutAt.all rfl)) ?_
          refine sq rfl (q_assign rfl) ?_
          refine gol_nil ?_
          have EE : lockErr st a m o d l = 24 := by rw [lockErr, if_neg h9, if_pos (.inl h4)]
          refine go_retR Tryz.func143 Tryz.results143 rfl (.cellA rfl Tryz.isAgg51 Tryz.sizeOf51 (.tl .hd) (Part.all rfl) (.tmp rfl .nil)) (.cons _ (.cons _ (.cons _ (List.Sublist.refl _)))) (by repeat (first | exact Sto.le_refl _ | assumption | refine Sto.le_trans ?_ (by assumption))) ?_
          exact Or.inl ⟨by rw [EE]; decide, by rw [EE]; rfl, rfl⟩
        ·
          have hd4 : decide (l < 1) = false := decide_eq_false h4
          rw [hd4]
          refine sq rfl (q_move rfl) ?_
          refine sqg rfl rfl (q_fieldAddr (off := 6) (o' := 6) rfl Tryz.runUnderlying42 rfl Tryz.sizeOf2 rfl rfl) ?_
          refine sqg rfl rfl (q_load (v := iv l) rfl Tryz.isAgg2 .hd (.s (.s (.s (.s (.s (.s .z))))))) ?_
          refine sqg rfl rfl (q_gtr (a := l) (b := 1099511627776) rfl rfl) ?_
          refine sq rfl (q_pick rfl rfl rfl rfl) ?_
          refine sq rfl (q_assign rfl) ?_
          refine gol_nil ?_
          refine go_cond rfl rfl (fun hc1 => ?_) (fun hc1 => ?_)
          ·
            have h5 : 1099511627776 < l := of_decide_eq_true hc1
            refine go_seq ?_
            refine go_region ?_
            refine sn rfl (n_call rfl Tryz.call177 (c177 24)) ?_
            rintro v2 σ2 _ hle2 ⟨rfl, rfl⟩
            refine sq rfl (q_extract rfl .z) ?_
            refine sq rfl (q_extract rfl (.s .z)) ?_
            refine sst rfl (n_storeA rfl rfl (vs := stCells zSV) rfl Tryz.sizeOf51 rfl (.tl .hd) (PutAt.all rfl)) ?_
            refine sq rfl (q_assign rfl) ?_
            refine gol_nil ?_
            have EE : lockErr st a m o d l = 24 := by rw [lockErr, if_neg h9, if_pos (.inr h5)]
            refine go_retR Tryz.func143 Tryz.results143 rfl (.cellA rfl Tryz.isAgg51 Tryz.sizeOf51 (.tl .hd) (Part.all rfl) (.tmp rfl .nil)) (.cons _ (.cons _ (.cons _ (List.Sublist.refl _)))) (by repeat (first | exact Sto.le_refl _ | assumption | refine Sto.le_trans ?_ (by assumption))) ?_
            exact Or.inl ⟨by rw [EE]; decide, by rw [EE]; rfl, rfl⟩
          ·
            have h5 : ¬ 1099511627776 < l := of_decide_eq_false hc1
            have h24 : ¬ (l < 1 ∨ 1099511627776 < l) := fun h => h.elim h4 h5
            refine go_skip ?_
            refine go_inBlock ?_
            refine go_seq ?_
            refine go_region ?_
            refine sq rfl (q_fieldAddr (off := 0) (o' := 0) rfl Tryz.runUnderlying219 rfl Tryz.sizeOf51 rfl rfl) ?_
            refine sq rfl (q_loadA (vs := stCells sv) rfl Tryz.isAgg51 Tryz.sizeOf51 (.tl (.tl .hd)) (Part.mk (a := []) (vs := stCells sv) (b := _) rfl rfl)) ?_
            refine sq rfl (q_fieldAddr (off := 1) (o' := 1) rfl Tryz.runUnderlying42 rfl Tryz.sizeOf31 rfl rfl) ?_
            refine sq rfl (q_load (v := w6 a) rfl Tryz.isAgg31 .hd (.s .z)) ?_
            refine sq rfl (q_fieldAddr (off := 3) (o' := 3) rfl Tryz.runUnderlying42 rfl Tryz.sizeOf31 rfl rfl) ?_
            refine sq rfl (q_load (v := w6 m) rfl Tryz.isAgg31 .hd (.s (.s (.s .z)))) ?_
            refine sq rfl (q_fieldAddr (off := 4) (o' := 4) rfl Tryz.runUnderlying42 rfl Tryz.sizeOf31 rfl rfl) ?_
            refine sq rfl (q_load (v := w6 o) rfl Tryz.isAgg31 .hd (.s (.s (.s (.s .z))))) ?_
            refine sn rfl (n_call rfl Tryz.call110 (c110 (h.more ((Keep.c2 _ _ _).trans (Keep.cons _ _))) hb (by omega) a m o)) ?_
            rintro v2 σ2 _ hle2 (⟨hne, rfl, rfl⟩ | ⟨hez, sv', L1, L2, L3, L4, L5, rfl, ho, rfl⟩)
            ·
              refine sq rfl (q_move rfl) ?_
              refine sq rfl (q_extract rfl .z) ?_
              refine sq rfl (q_extract rfl (.s .z)) ?_
              refine snb rfl (n_alloc Tryz.zeroValue51 .agg) ?_
              intro b4
              refine sst rfl (n_storeA rfl rfl (vs := stCells zSV) rfl Tryz.sizeOf51 rfl .hd (PutAt.all rfl)) ?_
              refine sq rfl (q_assign rfl) ?_
              refine gol_nil ?_
              refine go_seq ?_
              refine go_seq ?_
              refine go_region ?_
              refine sq rfl (q_move rfl) ?_
              refine sq rfl (q_neq (a := takeErr (acct st.accs a) m o) (b := 0) rfl rfl) ?_
              refine gol_nil ?_
              refine go_cond rfl rfl (fun hc2 => ?_) (fun hc2 => ?_)
              ·
                refine go_seq ?_
                refine go_region ?_
                refine sq rfl (q_move rfl) ?_
                refine sn rfl (n_call rfl Tryz.call177 (c177 (takeErr (acct st.accs a) m o))) ?_
                rintro v2 σ2 _ hle2 ⟨rfl, rfl⟩
                refine sq rfl (q_extract rfl .z) ?_
                refine sq rfl (q_extract rfl (.s .z)) ?_
                refine sst rfl (n_storeA rfl rfl (vs := stCells zSV) rfl Tryz.sizeOf51 rfl (.tl (.tl .hd)) (PutAt.all rfl)) ?_
                refine sq rfl (q_assign rfl) ?_
                refine gol_nil ?_
                have EE : lockErr st a m o d l = takeErr (acct st.accs a) m o := by rw [lockErr, if_neg h9, if_neg h24, if_pos hne]
                refine go_retR Tryz.func143 Tryz.results143 rfl (.cellA rfl Tryz.isAgg51 Tryz.sizeOf51 (.tl (.tl .hd)) (Part.all rfl) (.tmp rfl .nil)) (.cons _ (.cons _ (.cons _ (.cons _ (List.Sublist.refl _))))) (by repeat (first | exact Sto.le_refl _ | assumption | refine Sto.le_trans ?_ (by assumption))) ?_
                exact Or.inl ⟨by rw [EE]; exact hne, by rw [EE]; rfl, rfl⟩
              ·
                exact absurd (by simpa using hc2) hne
            ·
              obtain ⟨ch, ac, lo, co, re, me⟩ := sv'
              obtain ⟨pl, cl, hlv⟩ := ho.locks.val
              simp only at hlv
              subst hlv
              refine sq rfl (q_move rfl) ?_
              refine sq rfl (q_extract rfl .z) ?_
              refine sq rfl (q_extract rfl (.s .z)) ?_
              refine snb rfl (n_alloc Tryz.zeroValue51 .agg) ?_
              intro b4
              refine sst rfl (n_storeA rfl rfl (vs := stCells _) ho.one Tryz.sizeOf51 rfl .hd (PutAt.all rfl)) ?_
              refine sq rfl (q_assign rfl) ?_
              refine gol_nil ?_
              refine go_seq ?_
              refine go_seq ?_
              refine go_region ?_
              refine sq rfl (q_move rfl) ?_
              refine sq rfl (q_neq (a := 0) (b := 0) rfl rfl) ?_
              refine gol_nil ?_
              refine go_condF rfl rfl ?_
              refine go_skip ?_
              refine go_seq ?_
              refine go_region ?_
              refine sq rfl (q_fieldAddr (off := 0) (o' := 0) rfl Tryz.runUnderlying219 rfl Tryz.sizeOf51 rfl rfl) ?_
              refine sq rfl (q_fieldAddr (off := 0) (o' := 0) rfl Tryz.runUnderlying51 rfl Tryz.sizeOf3 rfl rfl) ?_
              refine sq rfl (q_load (v := iv st.chain) rfl Tryz.isAgg3 (.tl (.app _ (.app _ (.app _ (.app _ (.app _ (.tl (.tl .hd)))))))) (h.chain ▸ (.z : At (stCells sv ++ _) 0 (iv sv.chain)))) ?_
              refine sq rfl (q_fieldAddr (off := 1) (o' := 1) rfl Tryz.runUnderlying42 rfl Tryz.sizeOf31 rfl rfl) ?_
              refine sq rfl (q_load (v := w6 a) rfl Tryz.isAgg31 (.tl (.app _ (.app _ (.app _ (.app _ (.app _ .hd)))))) (.s .z)) ?_
              refine sq rfl (q_fieldAddr (off := 4) (o' := 4) rfl Tryz.runUnderlying42 rfl Tryz.sizeOf31 rfl rfl) ?_
              refine sq rfl (q_load (v := w6 o) rfl Tryz.isAgg31 (.tl (.app _ (.app _ (.app _ (.app _ (.app _ .hd)))))) (.s (.s (.s (.s .z))))) ?_
              refine sn rfl (n_call rfl Tryz.call56 (c56 (T := T) (fr := fr) (hle2.get hK))) ?_
              rintro v4 σ4 _ hle4 ⟨rfl, rfl⟩
              replace ho := ho.up hle4
              refine snb rfl (n_alloc zero27z .agg) ?_
              intro b5
              refine sst rfl (n_storeA rfl rfl (vs := bcells (lockId st.chain a o)) (bcells_one _) Tryz.sizeOf27 (by rw [bcells_len, lockId_len]) .hd (PutAt.all (by rw [bcells_len, bcells_len, lockId_len]; rfl))) ?_
              refine gol_nil ?_
              refine go_seq ?_
              refine go_region ?_
              refine sq rfl (q_fieldAddr (off := 2) (o' := 2) rfl Tryz.runUnderlying51 rfl Tryz.sizeOf47 rfl rfl) ?_
              refine sq rfl (q_load rfl Tryz.isAgg47 (.tl .hd) (.s (.s .z))) ?_
              refine sq rfl (q_loadA (vs := bcells (lockId st.chain a o)) rfl Tryz.isAgg27 Tryz.sizeOf27 .hd (Part.all (by rw [bcells_len, lockId_len]))) ?_
              refine sn rfl (n_call rfl Tryz.call178 (c178 ((ho.st _).locks.more (Keep.c2 _ _ _)) (by have := hb.locks; exact Nat.lt_of_le_of_lt this (by omega)) (lockId_len _ _ _))) ?_
              rintro v5 σ5 _ hle5 ⟨rfl, rfl⟩
              replace ho := ho.up hle5
              refine sq rfl (q_move rfl) ?_
              refine sq rfl (q_extract rfl .z) ?_
              refine sq rfl (q_extract rfl (.s .z)) ?_
              refine sq rfl (q_assign rfl) ?_
              refine sq rfl (q_assign rfl) ?_
              refine gol_nil ?_
              refine go_seq ?_
              refine go_seq ?_
              refine go_region ?_
              refine sq rfl (q_move rfl) ?_
              refine gol_nil ?_
              refine go_cond rfl rfl (fun hc3 => ?_) (fun hc3 => ?_)
              ·
                have hh : lockHas st.locks (lockId st.chain a o) = true := hc3
                refine go_seq ?_
                refine go_region ?_
                refine sn rfl (n_call rfl Tryz.call177 (c177 26)) ?_
                rintro v6 σ6 _ hle6 ⟨rfl, rfl⟩
                refine sq rfl (q_extract rfl .z) ?_
                refine sq rfl (q_extract rfl (.s .z)) ?_
                refine sst rfl (n_storeA rfl rfl (vs := stCells zSV) rfl Tryz.sizeOf51 rfl (.tl (.tl (.app _ (.app _ (.app _ (.app _ (.app _ (.tl .hd)))))))) (PutAt.all rfl)) ?_
                refine sq rfl (q_assign rfl) ?_
                refine gol_nil ?_
                have EE : lockErr st a m o d l = 26 := by rw [lockErr, if_neg h9, if_neg h24, if_neg (fun h => h hez), if_pos hh]
                refine go_retR Tryz.func143 Tryz.results143 rfl (.cellA rfl Tryz.isAgg51 Tryz.sizeOf51 (.tl (.tl (.app _ (.app _ (.app _ (.app _ (.app _ (.tl .hd)))))))) (Part.all rfl) (.tmp rfl .nil)) (.cons _ (.cons _ drop5)) (by repeat (first | exact Sto.le_refl _ | assumption | refine Sto.le_trans ?_ (by assumption))) ?_
                exact Or.inl ⟨by rw [EE]; decide, by rw [EE]; rfl, rfl⟩
              ·
                have hh : ¬ lockHas st.locks (lockId st.chain a o) = true := Bool.eq_false_iff.1 hc3
                have hix := lockIx_le st.locks (lockId st.chain a o)
                have hlen : ∀ x ∈ st.locks, (lockCells x).length = 38 := ho.locks.len
                have hfl := flat_take_len (f := lockCells) (sz := 38) hlen hix
                refine go_skip ?_
                refine go_seq ?_
                refine go_region ?_
                refine sq rfl (q_fieldAddr (off := 2) (o' := 2) rfl Tryz.runUnderlying51 rfl Tryz.sizeOf47 rfl rfl) ?_
                refine sq rfl (q_load rfl Tryz.isAgg47 (.tl .hd) (.s (.s .z))) ?_
                refine sq rfl (q_move rfl) ?_
                refine sq rfl (q_loadA (vs := bcells (lockId st.chain a o)) rfl Tryz.isAgg27 Tryz.sizeOf27 .hd (Part.all (by rw [bcells_len, lockId_len]))) ?_
                refine sq rfl (q_fieldAddr (off := 1) (o' := 1) rfl Tryz.runUnderlying42 rfl Tryz.sizeOf31 rfl rfl) ?_
                refine sq rfl (q_load (v := w6 a) rfl Tryz.isAgg31 (.tl (.tl (.app _ (.app _ (.app _ (.app _ (.app _ .hd))))))) (.s .z)) ?_
                refine sq rfl (q_fieldAddr (off := 2) (o' := 2) rfl Tryz.runUnderlying42 rfl Tryz.sizeOf31 rfl rfl) ?_
                refine sq rfl (q_load (v := w6 b) rfl Tryz.isAgg31 (.tl (.tl (.app _ (.app _ (.app _ (.app _ (.app _ .hd))))))) (.s (.s .z))) ?_
                refine sq rfl (q_fieldAddr (off := 3) (o' := 3) rfl Tryz.runUnderlying42 rfl Tryz.sizeOf31 rfl rfl) ?_
                refine sq rfl (q_load (v := w6 m) rfl Tryz.isAgg31 (.tl (.tl (.app _ (.app _ (.app _ (.app _ (.app _ .hd))))))) (.s (.s (.s .z)))) ?_
                refine sq rfl (q_fieldAddr (off := 5) (o' := 5) rfl Tryz.runUnderlying42 rfl Tryz.sizeOf3 rfl rfl) ?_
                refine sq rfl (q_load (v := iv d) rfl Tryz.isAgg3 (.tl (.tl (.app _ (.app _ (.app _ (.app _ (.app _ .hd))))))) (.s (.s (.s (.s (.s .z)))))) ?_
                refine sq rfl (q_fieldAddr (off := 6) (o' := 6) rfl Tryz.runUnderlying42 rfl Tryz.sizeOf2 rfl rfl) ?_
                refine sq rfl (q_load (v := iv l) rfl Tryz.isAgg2 (.tl (.tl (.app _ (.app _ (.app _ (.app _ (.app _ .hd))))))) (.s (.s (.s (.s (.s (.s .z))))))) ?_
                refine sq rfl (q_buildS (ns := [32, 1, 1, 1, 1, 1, 1]) (l' := lockCells (newLock st a b m o d l)) (.put (z := bcells z32) rfl .agg (by rw [bcells_len, lockId_len]) rfl (.put (z := [_]) rfl (.one rfl) rfl rfl (.put (z := [_]) rfl (.one rfl) rfl rfl (.put (z := [_]) rfl (.one rfl) rfl rfl (.put (z := [_]) rfl (.one rfl) rfl rfl (.put (z := [_]) rfl (.one rfl) rfl rfl (.put (z := [_]) rfl (.one rfl) rfl rfl .nil))))))) zero60 Tryz.runUnderlying60 (places60 Tryz.runUnderlying60) rfl) ?_
                refine sns rfl (n_buildSlice (sz := 38) (l := lockCells (newLock st a b m o d l) ++ []) (.cons rfl .agg (lk_len (lockId_len _ _ _)) .nil) rfl Tryz.runUnderlying47 Tryz.sizeOf60 zero60 rfl rfl) ?_
                intro bv
                refine gol_perm _ ((perm4c _ _ L1 L2 L3 L4 _).cons _) ?_
                refine sn rfl (n_call rfl Tryz.call179 (c179 (i := lockIx st.locks (lockId st.chain a o)) (L0 := _) (Lp := L4) (el := lockCells (newLock st a b m o d l) ++ []) ho.locks.own (flat_cut st.locks (lockIx st.locks (lockId st.chain a o))) hfl (by rw [List.append_nil]; exact lk_len (lockId_len _ _ _)) hix (by rw [List.append_nil]; exact lock_one _) (flat_one _ lock_one) (by have := hb.locks; exact Nat.lt_of_le_of_lt this (by omega)))) ?_
                rintro v6 σ6 _ - ⟨L4', rfl, rfl, ho4⟩
                refine gol_perm _ (perm4c _ _ L1 L2 L3 L4' _).symm ?_
                refine sq rfl (q_fieldAddr (off := 2) (o' := 2) rfl Tryz.runUnderlying51 rfl Tryz.sizeOf47 rfl rfl) ?_
                refine sst rfl (n_store rfl rfl ho4.oneC Tryz.sizeOf47 (.s (.s .z)) (.tl .hd)) ?_
                refine gol_nil ?_
                refine go_seq ?_
                refine go_region ?_
                refine sq rfl (q_loadA (vs := stCells ⟨ch, ac, v6, co, re, me⟩) rfl Tryz.isAgg51 Tryz.sizeOf51 (.tl .hd) (Part.all rfl)) ?_
                refine sst rfl (n_storeA rfl rfl (vs := stCells ⟨ch, ac, v6, co, re, me⟩) (st_one _ ho.acc.oneC ho4.oneC ho.cons.oneC (let ⟨_, h, _⟩ := ho.recs; h.oneC) ho.mems.oneC) Tryz.sizeOf51 rfl (.tl (.tl (.app _ (.app _ (.app _ (.app _ (.app _ (.tl .hd)))))))) (PutAt.all rfl)) ?_
                refine sq rfl (q_assign rfl) ?_
                refine gol_nil ?_
                refine go_retR Tryz.func143 Tryz.results143 rfl (.cellA rfl Tryz.isAgg51 Tryz.sizeOf51 (.tl (.tl (.app _ (.app _ (.app _ (.app _ (.app _ (.tl .hd)))))))) (Part.all rfl) (.tmp rfl .nil)) (.cons _ (.cons _ ((List.Sublist.refl _).append ((List.Sublist.refl _).append ((List.Sublist.refl _).append ((List.Sublist.refl _).append ((List.Sublist.refl _).append (.cons _ (.cons _ (.cons _ (List.Sublist.refl _))))))))))) (by repeat (first | exact Sto.le_refl _ | assumption | refine Sto.le_trans ?_ (by assumption))) ?_
                refine Or.inr ⟨by rw [lockErr, if_neg h9, if_neg h24, if_neg (fun h => h hez), if_neg hh], ⟨ch, ac, v6, co, re, me⟩, L1, L2, L3, L4', L5, rfl, ⟨ho.chain, ho.acc, ⟨?_, ?_⟩, ho.cons, ho.recs, ho.mems⟩, rfl⟩
                · have e2 : (lockSt st a b m o d l).locks = st.locks.take (lockIx st.locks (lockId st.chain a o)) ++ newLock st a b m o d l :: st.locks.drop (lockIx st.locks (lockId st.chain a o)) := rfl
                  have e3 : (lockSt st a b m o d l).locks.length = st.locks.length + 1 := by rw [e2]; simp; omega
                  show Own 60 38 v6 (lockSt st a b m o d l).locks.length ((lockSt st a b m o d l).locks.flatMap lockCells) L4'
                  rw [e3, e2, List.flatMap_append, List.flatMap_cons]
                  rw [List.append_nil] at ho4
                  exact ho4
                · intro x hx
                  rcases List.mem_append.1 hx with hx | hx
                  · exact hlen x (List.mem_of_mem_take hx)
                  · rcases List.mem_cons.1 hx with rfl | hx
                    · exact lk_len (lockId_len _ _ _)
                    · exact hlen x (List.mem_of_mem_drop hx)
end Go.Eng
namespace Go.Eng
open Go
structure Purse where
  bal : UInt64
  nonce : UInt64
structure Fol where
  chain : Int
  pur : UInt64 → Purse
  locks : List Lck
  cons : List Bts
def Fol.spends (f : Fol) (a m o : UInt64) : Int :=
  if m = 0 ∨ 4611686018427387904 < m.toNat then 23 else if o ≠ (f.pur a).nonce then 21 else if (f.pur a).bal < m then 22 else 0
def Fol.put (f : Fol) (n : UInt64) (p : Purse) : Fol := { f with pur := fun k => if k = n then p else f.pur k }
def Fol.adds (f : Fol) (n m : UInt64) : Fol := f.put n ⟨(f.pur n).bal + m, (f.pur n).nonce⟩
def Fol.takes (f : Fol) (a m : UInt64) : Fol := f.put a ⟨(f.pur a).bal - m, (f.pur a).nonce + 1⟩
def lkAt : List Lck → Bts → Nat → Int
  | [], _, _ => -1
  | l :: ls, id, i => if l.id = id then (i : Int) else lkAt ls id (i + 1)
def Fol.lock (f : Fol) (id : Bts) : Int := lkAt f.locks id 0
inductive Pl where
  | pay (a b m o : UInt64)
  | lock (a b m o : UInt64) (d l : Int)
def Pl.src : Pl → UInt64
  | .pay a _ _ _ => a
  | .lock a _ _ _ _ _ => a
def Pl.dest : Pl → UInt64
  | .pay _ b _ _ => b
  | .lock _ b _ _ _ _ => b
def Pl.amount : Pl → UInt64
  | .pay _ _ m _ => m
  | .lock _ _ m _ _ _ => m
def Pl.nonce : Pl → UInt64
  | .pay _ _ _ o => o
  | .lock _ _ _ o _ _ => o
def Pl.tx : Pl → Tx
  | .pay a b m o => payTx a b m o
  | .lock a b m o d l => lockTx a b m o d l
noncomputable def Fol.err (f : Fol) : Pl → Int
  | .pay a _ m o => f.spends a m o
  | .lock a _ m o d l => if f.chain < 1 ∨ d < 1 ∨ 4 ≤ d ∨ d = f.chain then 9 else if l < 1 ∨ 1099511627776 < l then 24 else
      if f.spends a m o ≠ 0 then f.spends a m o else if 0 ≤ f.lock (lockId f.chain a o) then 26 else 0
noncomputable def Fol.next (f : Fol) : Pl → Fol
  | .pay a b m o => if f.spends a m o ≠ 0 then f else (f.takes a m).adds b m
  | .lock a b m o d l => if f.err (.lock a b m o d l) ≠ 0 then f else Fol.takes { f with locks := f.locks ++ [Lck.mk (lockId f.chain a o) a b m d l 1] } a m
noncomputable def plErr (st : LSt) : Pl → Int
  | .pay a _ m o => takeErr (acct st.accs a) m o
  | .lock a _ m o d l => lockErr st a m o d l
noncomputable def plSt (st : LSt) (t : Pl) : LSt := if plErr st t ≠ 0 then st else match t with
  | .pay a b m _ => paySt st a b m
  | .lock a b m o d l => lockSt st a b m o d l
structure Agree (st : LSt) (f : Fol) : Prop where
  chain : st.chain = f.chain
  acc : RiseA st.accs
  pur : ∀ n, acct st.accs n = ⟨n, (f.pur n).bal, (f.pur n).nonce⟩
  lock : RiseL st.locks
  lks : st.locks.Perm f.locks
  con : RiseD st.cons
  cons : st.cons.Perm f.cons
theorem lkAt_neg {ls : List Lck} {id : Bts} {i : Nat} : 0 ≤ lkAt ls id i ↔ ∃ l ∈ ls, l.id = id := by
  induction ls generalizing i with
  | nil => simp [lkAt]
  | cons l ls ih =>
    rw [lkAt]
    split
    · rename_i h
      exact ⟨fun _ => ⟨l, List.mem_cons_self, h⟩, fun _ => by omega⟩
    · rename_i h
      rw [ih]
      constructor
      · rintro ⟨x, hx, e⟩; exact ⟨x, List.mem_cons_of_mem _ hx, e⟩
      · rintro ⟨x, hx, e⟩
        rcases List.mem_cons.1 hx with rfl | hx
        · exact absurd e h
        · exact ⟨x, hx, e⟩
section
variable {st : LSt} {f : Fol}
theorem Agree.spends (h : Agree st f) (a m o : UInt64) : takeErr (acct st.accs a) m o = f.spends a m o := by
  rw [h.pur]
  unfold takeErr Fol.spends
  by_cases h1 : m = 0 ∨ 4611686018427387904 < m.toNat
  · rw [if_pos h1, if_pos h1]
  · rw [if_neg h1, if_neg h1]
    by_cases h2 : (f.pur a).nonce = o
    · simp only [h2]
    · rw [if_pos h2, if_pos (fun h => h2 h.symm)]
theorem Agree.set (h : Agree st f) (a : Acc) : Agree (stSet st a) (f.put a.name ⟨a.bal, a.nonce⟩) :=
  ⟨h.chain, setAcc_rise h.acc a, fun n => by
    show acct (setAcc st.accs a) n = _
    rw [acct_set h.acc]
    unfold Fol.put
    by_cases e : n = a.name
    · subst e; simp
    · simp only [if_neg e]; exact h.pur n, h.lock, h.lks, h.con, h.cons⟩
theorem Agree.take (h : Agree st f) (a m : UInt64) : Agree (takeSt st a m) (f.takes a m) := by
  have := h.set ⟨(acct st.accs a).name, (acct st.accs a).bal - m, (acct st.accs a).nonce + 1⟩
  rw [h.pur a] at this
  unfold takeSt
  rw [h.pur a]
  exact this
theorem Agree.give (h : Agree st f) (a m : UInt64) : Agree (giveSt st a m) (f.adds a m) := by
  have := h.set ⟨(acct st.accs a).name, (acct st.accs a).bal + m, (acct st.accs a).nonce⟩
  rw [h.pur a] at this
  unfold giveSt
  rw [h.pur a]
  exact this
theorem Agree.has (h : Agree st f) (id : Bts) : lockHas st.locks id = true ↔ 0 ≤ f.lock id := by
  rw [lockHas_iff h.lock, Fol.lock, lkAt_neg]
  exact ⟨fun ⟨x, hx, e⟩ => ⟨x, h.lks.mem_iff.1 hx, e⟩, fun ⟨x, hx, e⟩ => ⟨x, h.lks.mem_iff.2 hx, e⟩⟩
theorem Agree.err (h : Agree st f) (t : Pl) : plErr st t = f.err t := by
  cases t with
  | pay a b m o => exact h.spends a m o
  | lock a b m o d l =>
    simp only [plErr, lockErr, Fol.err, h.chain, h.spends]
    by_cases hh : lockHas st.locks (lockId f.chain a o) = true
    · rw [if_pos hh, if_pos ((h.has _).1 hh)]
    · rw [if_neg hh, if_neg (fun e => hh ((h.has _).2 e))]
theorem Agree.addLock (h : Agree st f) (x : Lck) (hn : lockHas st.locks x.id = false) : Agree (addLock st x) { f with locks := f.locks ++ [x] } :=
  ⟨h.chain, h.acc, h.pur, Keyed.Rise.ins (K := kLck) h.lock x hn, by
    show (st.locks.take _ ++ x :: st.locks.drop _).Perm (f.locks ++ [x])
    refine List.perm_middle.trans ?_
    rw [List.take_append_drop]
    exact (h.lks.cons x).trans (List.perm_append_comm (l₁ := [x])), h.con, h.cons⟩
theorem Agree.next (h : Agree st f) (t : Pl) : Agree (plSt st t) (f.next t) := by
  unfold plSt
  have he := h.err t
  split
  · rename_i h0
    rw [he] at h0
    cases t with
    | pay a b m o => simp only [Fol.next]; rw [if_pos (by simpa [Fol.err] using h0)]; exact h
    | lock a b m o d l => simp only [Fol.next]; rw [if_pos h0]; exact h
  · rename_i h0
    have h0 : plErr st t = 0 := Classical.byContradiction fun e => h0 e
    cases t with
    | pay a b m o =>
      rw [he] at h0
      simp only [Fol.next]; rw [if_neg (fun e => e (by simpa [Fol.err] using h0))]
      exact (h.take a m).give b m
    | lock a b m o d l =>
      have h1 := h0
      rw [he] at h1
      simp only [Fol.next]; rw [if_neg (fun e => e h1)]
      have hl : lockHas st.locks (lockId st.chain a o) = false := by
        simp only [plErr, lockErr] at h0
        split at h0
        · cases h0
        · split at h0
          · cases h0
          · split at h0
            · rename_i hx; exact absurd h0 hx
            · split at h0
              · cases h0
              · rename_i hx; simpa using hx
      have e2 := (h.take a m).addLock ⟨lockId f.chain a o, a, b, m, d, l, 1⟩ (by rw [← h.chain]; exact hl)
      have e3 : lockSt st a b m o d l = Go.Eng.addLock (takeSt st a m) ⟨lockId f.chain a o, a, b, m, d, l, 1⟩ := by rw [← h.chain]; rfl
      rw [e3]
      exact e2
end
def openAmt (l : Lck) : UInt64 := if l.status = 1 then l.amount else 0
def sumL (xs : List Lck) : UInt64 := xs.foldr (fun l n => openAmt l + n) 0
theorem sumL_app (xs ys : List Lck) : sumL (xs ++ ys) = sumL xs + sumL ys := by
  induction xs with
  | nil => simp [sumL]
  | cons a xs ih => simp only [sumL, List.cons_append, List.foldr_cons] at *; rw [ih, UInt64.add_assoc]
theorem sumL_cons (x : Lck) (xs : List Lck) : sumL (x :: xs) = openAmt x + sumL xs := rfl
theorem sumA_set' {xs : List Acc} (h : RiseA xs) (a : Acc) : sumA (setAcc xs a) = sumA xs + a.bal - (acct xs a.name).bal := by
  rw [← sumA_set h a]; grind
theorem sum_take {st : LSt} (h : RiseA st.accs) (a m : UInt64) : sumA (takeSt st a m).accs = sumA st.accs - m := by
  show sumA (setAcc st.accs _) = _
  rw [sumA_set' h]
  simp only [acct_name]
  grind
theorem sum_give {st : LSt} (h : RiseA st.accs) (a m : UInt64) : sumA (giveSt st a m).accs = sumA st.accs + m := by
  show sumA (setAcc st.accs _) = _
  rw [sumA_set' h]
  simp only [acct_name]
  grind
theorem sum_addLock (st : LSt) (x : Lck) : sumL (addLock st x).locks = sumL st.locks + openAmt x := by
  show sumL (st.locks.take _ ++ x :: st.locks.drop _) = _
  rw [sumL_app, sumL_cons]
  conv => rhs; rw [← List.take_append_drop (lockIx st.locks x.id) st.locks, sumL_app]
  grind
theorem sum_pl {st : LSt} (h : RiseA st.accs) (t : Pl) : sumA (plSt st t).accs + sumL (plSt st t).locks = sumA st.accs + sumL st.locks := by
  unfold plSt
  split
  · rfl
  · cases t with
    | pay a b m o =>
      show sumA (giveSt (takeSt st a m) b m).accs + sumL st.locks = _
      rw [sum_give (setAcc_rise h _), sum_take h]
      grind
    | lock a b m o d l =>
      show sumA (takeSt st a m).accs + sumL (addLock (takeSt st a m) (newLock st a b m o d l)).locks = _
      rw [sum_addLock, sum_take h]
      show _ + (sumL st.locks + m) = _
      grind
theorem pl_chain (st : LSt) (t : Pl) : (plSt st t).chain = st.chain := by
  unfold plSt
  split
  · rfl
  · cases t <;> rfl
end Go.Eng
