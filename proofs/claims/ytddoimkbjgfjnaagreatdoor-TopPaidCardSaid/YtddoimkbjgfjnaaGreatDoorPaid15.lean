/- A part of the proof of this: Payments and locks of a shard come out as they stand on paper (TopPaid): for every input, with the listed package variables as the program's text lays them, TopPaid answers true and its argument reads as it did. -/
import Derived.Test.YtddoimkbjgfjnaaGreatDoorPaid13
import Derived.Test.YtddoimkbjgfjnaaGreatDoorPaid14
import Derived.Test.YtddoimkbjgfjnaaGreatDoorPaid10
namespace Go.Eng
open Go Go.Proofs
theorem Upd.memR {L L' : SHeap} {b : Nat} {o o' : Obj} (h : Upd L b o o' L') : (b, o') ∈ L' := by
  induction h with
  | hd => exact List.mem_cons_self
  | tl _ ih => exact List.mem_cons_of_mem _ ih
inductive Del : SHeap → Nat → Obj → SHeap → Prop where
  | hd {b o L} : Del ((b, o) :: L) b o L
  | tl {p b o L L'} : Del L b o L' → Del (p :: L) b o (p :: L')
theorem Del.perm {L L' : SHeap} {b : Nat} {o : Obj} (h : Del L b o L') : L.Perm ((b, o) :: L') := by
  induction h with
  | hd => exact List.Perm.refl _
  | tl _ ih => exact (ih.cons _).trans (List.Perm.swap _ _ _)
theorem Del.upd {L L' : SHeap} {b : Nat} {o : Obj} (h : Del L b o L') (o' : Obj) : ∃ L2, Upd L b o o' L2 ∧ Del L2 b o' L' := by
  induction h with
  | hd => exact ⟨_, .hd, .hd⟩
  | tl _ ih => obtain ⟨L2, h1, h2⟩ := ih; exact ⟨_, .tl h1, .tl h2⟩
theorem n_markF {P : Program} {E : Env} {σ : Sto} {L L' : SHeap} {d : Option Tmp} {ty : TypeId} {pos : String} {af : Array Edge} {g : Option (Nat × Bool)} {T b n : Nat} {x : Operand} {xs : Bts} {t : TypeId} (hx : E.op x = some (.slice (some ⟨b, 0, none⟩) n n)) (hU : ∀ w, (underlying T).run P w = .ok (.slice 5) w) (hB : ∀ w, (underlying 5).run P w = .ok (.int .u8) w)
    (hn : xs.length = n) (hd : Del L b (.cells (bcells xs).toArray t (0, 0)) L') : Noisy P E.ev ⟨d, .convert T T x, ty, pos, af, g⟩ σ L fun v σ' L2 => v = .slice (some ⟨b, 0, none⟩) n n ∧ Bytes σ' v xs ∧ L2 = L' := by
  obtain ⟨L2, hu, hd2⟩ := hd.upd (.cells (bcells xs).toArray t ((bcells xs).length, (bcells xs).length + 1))
  intro w hst
  refine Does.mono (n_mark hx hU hB hu w hst) ?_
  rintro v w' ⟨σ', L3, hle, hst', rfl, rfl, rfl⟩
  have h2 := (hst'.perm hd2.perm)
  exact ⟨_, L', Sto.le_add (h2.off b _ List.mem_cons_self), h2.freeze, rfl, .blk (Sto.add_get _ _ _) hn (Nat.le_refl _), rfl⟩
def giverObj (lv : Value) (n : Nat) : Obj := .cells [lv, iv (n : Nat)].toArray 39 (0, 0)
def purCells (p : Purse) : List Value := [w6 p.bal, w6 p.nonce]
def purV (p : Purse) : Value := .agg (purCells p).toArray
def folCells (chain : Int) (mb : Nat) (lv cv : Value) : List Value := [iv chain, .map (some mb), lv, cv]
def folObj (chain : Int) (mb : Nat) (lv cv : Value) : Obj := .cells (folCells chain mb lv cv).toArray 140 (0, 0)
structure PurM (es : Ents UInt64) (ck : Nat) (f : UInt64 → Purse) : Prop where
  ok : EOk es ck
  get : ∀ k, (mget es k).getD (purV ⟨0, 0⟩) = purV (f k)
  key : ∀ e ∈ es, True
theorem PurM.set {es : Ents UInt64} {ck : Nat} {f : UInt64 → Purse} (h : PurM es ck f) (k : UInt64) (p : Purse) : PurM (mset es k (purV p) ck) (mclock es k ck) (fun x => if x = k then p else f x) :=
  ⟨h.ok.set k _, fun x => by
    rw [mget_set]
    by_cases e : x = k
    · simp [e]
    · simp only [if_neg e]; exact h.get x, fun _ _ => trivial⟩
structure FolO (p : Nat) (f : Fol) (Lf : SHeap) : Prop where
  out : ∃ mb es ck lv cv Ll Lc, Lf = (p, folObj f.chain mb lv cv) :: (mb, mobj w6 es ck) :: (Ll ++ Lc) ∧ PurM es ck f.pur ∧ SlO 60 38 lv lockCells f.locks Ll ∧ SlO 27 32 cv bcells f.cons Lc
theorem FolO.mk' {p mb ck : Nat} {es : Ents UInt64} {lv cv : Value} {Ll Lc : SHeap} {f : Fol} (h1 : PurM es ck f.pur) (h2 : SlO 60 38 lv lockCells f.locks Ll) (h3 : SlO 27 32 cv bcells f.cons Lc) :
    FolO p f ((p, folObj f.chain mb lv cv) :: (mb, mobj w6 es ck) :: (Ll ++ Lc)) := ⟨mb, es, ck, lv, cv, Ll, Lc, rfl, h1, h2, h3⟩
theorem zero142 (w : World) : (zeroValue 142).run Tryz.prog w = .ok (.agg (purCells ⟨0, 0⟩).toArray) w := by rw [Tryz.zeroValue142]; rfl
theorem pur_one (p : Purse) : (purCells p).all oneCell = true := rfl
theorem txCells_one {x : Tx} {fv : Value} (h : oneCell fv = true) : (txCells x fv).all oneCell = true := tx_one h
theorem keyU31 : KeyOk Tryz.prog 31 w6 (fun _ => True) := keyU (by kernel_rfl)
theorem ic_at {xs : List Int} {i : Nat} (h : i < xs.length) : At (xs.flatMap ic) i (iv xs[i]) := .of (by
  have e : ∀ xs : List Int, xs.flatMap ic = xs.map iv := fun xs => by induction xs with
    | nil => rfl
    | cons x xs ih => rw [List.flatMap_cons, ih]; rfl
  rw [e]; simp [h])
theorem hdr_one (h : Hdr) : (hdrCells h).all oneCell = true := by
  simp only [hdrCells, List.all_cons, List.all_append, bcells_one]; rfl
def uc (u : UInt64) : List Value := [w6 u]
theorem uc_at {xs : List UInt64} {i : Nat} (h : i < xs.length) : At (xs.flatMap uc) i (w6 xs[i]) := .of (by
  have e : ∀ xs : List UInt64, xs.flatMap uc = xs.map w6 := fun xs => by induction xs with
    | nil => rfl
    | cons x xs ih => rw [List.flatMap_cons, ih]; rfl
  rw [e]; simp [h])
theorem keep1 {x : Nat × Obj} {L : SHeap} (h : x ∈ L) : Keep [x] L := fun b o hb => by rw [List.mem_singleton] at hb; rw [hb]; exact h
theorem keep2 {x y : Nat × Obj} {L : SHeap} (h : x ∈ L) (h2 : y ∈ L) : Keep [x, y] L := fun b o hb => by
  rcases List.mem_cons.1 hb with hb | hb
  · rw [hb]; exact h
  · rw [List.mem_singleton.1 hb]; exact h2
theorem keep3 {x y z : Nat × Obj} {L : SHeap} (h : x ∈ L) (h2 : y ∈ L) (h3 : z ∈ L) : Keep [x, y, z] L := fun b o hb => by
  rcases List.mem_cons.1 hb with hb | hb
  · rw [hb]; exact h
  · exact keep2 h2 h3 b o hb
theorem FolO.kn {p : Nat} {f : Fol} {Lf : SHeap} (h : FolO p f Lf) (σ : Sto) (L : SHeap) : ∃ mb lv cv, Kn σ (Lf ++ L) p (folObj f.chain mb lv cv) := by
  obtain ⟨mb, es, ck, lv, cv, Ll, Lc, rfl, _⟩ := h.out
  exact ⟨mb, lv, cv, .hd⟩
theorem permF (p m : Nat × Obj) (A B T : SHeap) : ((p :: m :: (A ++ B)) ++ T).Perm (A ++ (p :: m :: (B ++ T))) := by
  rw [List.cons_append, List.cons_append, List.append_assoc]
  exact ((List.perm_middle (a := m)).symm.cons p).trans (List.perm_middle (a := p)).symm
theorem dropM {A L : SHeap} {p q : Nat × Obj} : (A ++ L).Sublist (A ++ (p :: q :: L)) := (List.Sublist.refl _).append (.cons _ (.cons _ (List.Sublist.refl _)))
theorem SlO.snoc {α : Type} {T sz : Nat} {v : Value} {f : α → List Value} {xs : List α} {x : α} {Lp : SHeap} (h : Own T sz v (xs.length + 1) (xs.flatMap f ++ (f x ++ [])) Lp) (hl : ∀ y ∈ xs, (f y).length = sz) (hx : (f x).length = sz) : SlO T sz v f (xs ++ [x]) Lp := by
  refine ⟨?_, fun y hy => ?_⟩
  · rw [List.flatMap_append, List.length_append]
    exact h
  · rcases List.mem_append.1 hy with hy | hy
    · exact hl y hy
    · rw [List.mem_singleton.1 hy]; exact hx
theorem lkAt_get {ls : List Lck} {l : Lck} (hm : l ∈ ls) (hu : ∀ x ∈ ls, x.id = l.id → x = l) (i : Nat) : ∃ k, ∃ h : k < ls.length, lkAt ls l.id i = ((i + k : Nat) : Int) ∧ ls[k] = l := by
  induction ls generalizing i with
  | nil => cases hm
  | cons x xs ih =>
    rw [lkAt]
    by_cases h : x.id = l.id
    · rw [if_pos h]
      exact ⟨0, by simp, rfl, hu x List.mem_cons_self h⟩
    · rw [if_neg h]
      have hm2 : l ∈ xs := by
        rcases List.mem_cons.1 hm with rfl | hm
        · exact absurd rfl h
        · exact hm
      obtain ⟨k, hk, h1, h2⟩ := ih hm2 (fun y hy => hu y (List.mem_cons_of_mem _ hy)) (i + 1)
      exact ⟨k + 1, by simp; omega, by rw [h1]; congr 1; omega, by simpa using h2⟩
theorem Agree.lockAt {st : LSt} {f : Fol} (h : Agree st f) {l : Lck} (hm : l ∈ st.locks) : ∃ k, ∃ hk : k < f.locks.length, f.lock l.id = (k : Int) ∧ f.locks[k] = l := by
  obtain ⟨k, hk, h1, h2⟩ := lkAt_get (h.lks.mem_iff.1 hm) (fun x hx e => Keyed.Rise.uniq (K := kLck) h.lock (h.lks.mem_iff.2 hx) hm e) 0
  exact ⟨k, hk, by rw [Fol.lock, h1]; congr 1; omega, h2⟩
def unseen {κ : Type} (es : Ents κ) (seen : List Nat) : Nat := (es.map (·.2.2)).countP fun n => decide (n ∉ seen)
theorem unseen_lt {κ : Type} {es : Ents κ} {seen : List Nat} {e : κ × Value × Nat} (he : e ∈ es) (hn : e.2.2 ∉ seen) : unseen es (seen ++ [e.2.2]) < unseen es seen :=
  countP_lt _ e.2.2 (List.mem_map.2 ⟨e, he, rfl⟩) (by simpa using hn) (by simp) (fun j hj => by
    simp only [decide_eq_true_eq, List.mem_append, List.mem_singleton, not_or] at hj ⊢; exact hj.1)
theorem Agree.acc_eq {st : LSt} {f : Fol} (h : Agree st f) {a : Acc} (hm : a ∈ st.accs) : a.bal = (f.pur a.name).bal ∧ a.nonce = (f.pur a.name).nonce := by
  have := (acct_mem h.acc hm).symm.trans (h.pur a.name)
  exact ⟨congrArg Acc.bal this, congrArg Acc.nonce this⟩
theorem goc_giveSl {α : Type} {c : Cx} {l : List Oper} {k : List Item} {E0 E : Env} {V : List Nat} {σ : Sto} {L0 Lp K : SHeap} {T sz : Nat} {v : Value} {f : α → List Value} {xs : List α} (hown : SlO T sz v f xs Lp) (hsz : 0 < sz) (hk : Keep K L0)
    (h : ∀ σ', Sto.le σ σ' → Sl σ' [] v sz f xs → GoC c l k E0 E V σ' L0 K) : GoC c l k E0 E V σ (Lp ++ L0) K := by
  obtain ⟨ho, hl⟩ := hown
  generalize hcs : xs.flatMap f = cs at ho
  generalize hnn : xs.length = n at ho
  cases ho with
  | nil =>
    have h0 : xs = [] := List.length_eq_zero_iff.1 hnn
    subst h0
    exact h σ (Sto.le_refl _) ⟨⟨none, 0, rfl, Nat.le_refl _, ⟨by simp, _, _, _, rfl, Nat.le_refl _, .inl rfl⟩⟩, hl⟩
  | @mk b n k2 cs junk hn hc =>
    refine goc_frz hk fun σ' hle hb => h σ' hle ⟨⟨some ⟨b, 0, none⟩, k2, by rw [hnn], ?_, ?_⟩, hl⟩
    · simp only [List.length_append, hn] at hc
      rw [hnn]; exact Nat.le_of_mul_le_mul_right (by omega : n * sz ≤ k2 * sz) hsz
    · rw [hcs, hnn]
      refine ⟨hn, _, _, _, rfl, Nat.le_refl _, .inr ⟨b, 0, _, T, (0, 0), rfl, .sto hb, ?_⟩⟩
      have := Part.mk (a := []) (vs := cs) (b := junk) (i := 0) (n := n * sz) rfl hn
      simpa using this
def hdOf (chain height length : Int) : Hdr := ⟨chain, (height - 1).tdiv length, height, height, z32, z32, z32, 0⟩
theorem ep_wrap {h l : Int} (h1 : 1 ≤ h) (h2 : h ≤ 1000000) (l1 : 1 ≤ l) : IntKind.i64.wrap ((h - 1).tdiv l) = (h - 1).tdiv l := by
  have hq : (h - 1).tdiv l = (h - 1) / l := Int.tdiv_eq_ediv_of_nonneg (by omega)
  have h3 : 0 ≤ (h - 1) / l := Int.ediv_nonneg (by omega) (by omega)
  have h4 : (h - 1) / l ≤ h - 1 := Int.ediv_le_self _ (by omega)
  rw [hq]; exact i64_in (by omega) (by omega)
theorem hdOf_wf (chain height length : Int) : (hdOf chain height length).wf := ⟨rfl, rfl, rfl⟩
theorem zero71 (w : World) : (zeroValue 71).run Tryz.prog w = .ok (.agg (hdrCells ⟨0, 0, 0, 0, z32, z32, z32, 0⟩).toArray) w := by rw [Tryz.zeroValue71]; rfl
end Go.Eng
namespace Go.Eng
open Go Go.Proofs Go.Instr
set_option maxRecDepth 20000
section
variable {P : Program} {E : Env} {σ : Sto} {K : SHeap} {d : Option Tmp} {ty : TypeId} {pos : String} {af : Array Edge} {g : Option (Nat × Bool)}
theorem q_indexS {T : TypeId} {x y : Operand} {s : ByteArray} {k : IntKind} {i : Int} {j : Nat} {b : UInt8} (hx : E.op x = some (.string s)) (hy : E.op y = some (.int k i)) (hU : ∀ w, (underlying T).run P w = .ok .string w) (hi : i = (j : Int)) (hb : s[j]? = some b) :
    Quiet P E.ev ⟨d, .index T x y, ty, pos, af, g⟩ K σ (.int .u8 (b.toNat : Nat)) := by
  intro σ' w L' _ _ _
  subst hi
  simp [execOp, Env.op_ev hx, Env.op_ev hy, Instr.index, asIntOf, hU, hb]
end
theorem bget {s : ByteArray} {j : Nat} (h : j < s.size) : s[j]? = some (s[j]'h) := getElem?_pos s j h
theorem str_get {s : ByteArray} {j : Nat} (h : j < s.size) : ∃ b : UInt8, s[j]? = some b := ⟨s[j], by rw [getElem?_pos s j h]⟩
def swapL (xs : List Int) (i j : Nat) : List Int := (xs.set i (xs.getD j 0)).set j (xs.getD i 0)
def insJ (lt : Int → Int → Bool) : List Int → Nat → List Int
  | xs, 0 => xs
  | xs, j + 1 => if lt (xs.getD (j + 1) 0) (xs.getD j 0) then insJ lt (swapL xs (j + 1) j) j else xs
def insI (lt : Int → Int → Bool) (xs : List Int) : Nat → List Int
  | 0 => xs
  | k + 1 => insJ lt (insI lt xs k) (k + 1)
theorem swapL_len (xs : List Int) (i j : Nat) : (swapL xs i j).length = xs.length := by simp [swapL]
theorem insJ_len (lt : Int → Int → Bool) : ∀ (j : Nat) (xs : List Int), (insJ lt xs j).length = xs.length := by
  intro j
  induction j with
  | zero => intro xs; rfl
  | succ j ih => intro xs; rw [insJ]; split <;> simp [ih, swapL_len]
theorem insI_len (lt : Int → Int → Bool) (xs : List Int) (k : Nat) : (insI lt xs k).length = xs.length := by
  induction k with
  | zero => rfl
  | succ k ih => rw [insI, insJ_len, ih]
theorem swapL_perm {xs : List Int} {j : Nat} (h : j + 1 < xs.length) : (swapL xs (j + 1) j).Perm xs := by
  have e : xs = xs.take j ++ (xs[j] :: xs[j + 1] :: xs.drop (j + 2)) := by
    rw [← List.drop_eq_getElem_cons h, ← List.drop_eq_getElem_cons (by omega), List.take_append_drop]
  have e2 : swapL xs (j + 1) j = xs.take j ++ (xs[j + 1] :: xs[j] :: xs.drop (j + 2)) := by
    unfold swapL
    apply List.ext_getElem?
    intro i
    have g1 : xs.getD (j + 1) 0 = xs[j + 1] := by simp [List.getD, List.getElem?_eq_getElem h]
    have g2 : xs.getD j 0 = xs[j] := by simp [List.getD, List.getElem?_eq_getElem (show j < xs.length by omega)]
    rw [g1, g2]
    have hl : (xs.take j).length = j := by simp; omega
    rcases Nat.lt_trichotomy i j with hi | hi | hi
    · rw [List.getElem?_set_ne (by omega), List.getElem?_set_ne (by omega), List.getElem?_append_left (by omega), List.getElem?_take_of_lt hi]
    · subst hi
      rw [List.getElem?_append_right (by omega), hl, Nat.sub_self]
      rw [List.getElem?_set_self (by rw [List.length_set]; omega)]; rfl
    · rw [List.getElem?_append_right (by omega), hl]
      rw [List.getElem?_set_ne (by omega)]
      rcases Nat.lt_or_ge (j + 1) i with h2 | h2
      · rw [List.getElem?_set_ne (by omega)]
        obtain ⟨m, rfl⟩ : ∃ m, i = j + 2 + m := ⟨i - (j + 2), by omega⟩
        rw [show j + 2 + m - j = m + 2 by omega]
        simp
      · have : i = j + 1 := by omega
        subst this
        rw [show j + 1 - j = 1 by omega, List.getElem?_set_self (by omega)]; rfl
  rw [e2]
  conv => rhs; rw [e]
  exact List.Perm.append_left _ (List.Perm.swap _ _ _)
theorem insJ_perm (lt : Int → Int → Bool) : ∀ (j : Nat) (xs : List Int), j < xs.length → (insJ lt xs j).Perm xs := by
  intro j
  induction j with
  | zero => intro xs _; exact List.Perm.refl _
  | succ j ih =>
    intro xs h
    rw [insJ]
    split
    · exact (ih _ (by rw [swapL_len]; omega)).trans (swapL_perm h)
    · exact List.Perm.refl _
theorem insI_perm (lt : Int → Int → Bool) (xs : List Int) (k : Nat) (h : k < xs.length) : (insI lt xs k).Perm xs := by
  induction k with
  | zero => exact List.Perm.refl _
  | succ k ih => rw [insI]; exact (insJ_perm lt _ _ (by rw [insI_len]; exact h)).trans (ih (by omega))
def insS (lt : Int → Int → Bool) (xs : List Int) : List Int := insI lt xs (xs.length - 1)
theorem insS_perm (lt : Int → Int → Bool) (xs : List Int) : (insS lt xs).Perm xs := by
  unfold insS
  rcases Nat.eq_zero_or_pos xs.length with h | h
  · rw [h]; exact List.Perm.refl _
  · exact insI_perm lt xs _ (by omega)
theorem insS_len (lt : Int → Int → Bool) (xs : List Int) : (insS lt xs).length = xs.length := insI_len _ _ _
theorem ic_map (xs : List Int) : xs.flatMap ic = xs.map iv := by
  induction xs with
  | nil => rfl
  | cons x xs ih => rw [List.flatMap_cons, ih]; rfl
theorem ic_get {xs : List Int} {junk : List Value} {i : Nat} (h : i < xs.length) : At (xs.flatMap ic ++ junk) i (iv (xs.getD i 0)) := by
  have := (ic_at h).left (m := junk)
  have g : xs.getD i 0 = xs[i] := by simp [List.getD, List.getElem?_eq_getElem h]
  rw [g]; exact this
theorem ic_set {xs : List Int} {junk : List Value} {i : Nat} {v : Int} (h : i < xs.length) : SetAt (xs.flatMap ic ++ junk) i (iv v) ((xs.set i v).flatMap ic ++ junk) := by
  rw [ic_map, ic_map]
  have h2 : i < (xs.map iv).length := by simpa using h
  have := SetAt.of (l := xs.map iv ++ junk) (i := i) (v := iv v) (by rw [List.length_append]; omega)
  rw [List.set_append_left _ _ h2, ← List.map_set] at this
  exact this
end Go.Eng
namespace Go.Eng
open Go Go.Proofs
structure Gen where
  validators : Int
  shards : Int
  length : Int
  members : List Int
  accs : List (List Acc)
  seed : Bts
structure GV where
  mems : Value
  accs : Value
def genCells (g : Gen) (v : GV) : List Value := iv g.validators :: iv g.shards :: iv g.length :: v.mems :: v.accs :: bcells g.seed
structure GenR (σ : Sto) (v : GV) (g : Gen) : Prop where
  mems : Sl σ [] v.mems 1 ic g.members
  accs : ∃ vs, Sl σ [] v.accs 1 vc vs ∧ All2 (fun v l => Sl σ [] v 3 accCells l) vs g.accs
  seed : g.seed.length = 32
theorem GenR.up {σ σ' : Sto} {v : GV} {g : Gen} (h : GenR σ v g) (hle : Sto.le σ σ') : GenR σ' v g :=
  ⟨h.mems.up hle, let ⟨vs, h1, h2⟩ := h.accs; ⟨vs, h1.up hle, h2.mono fun _ _ h => h.up hle⟩, h.seed⟩
theorem GenR.one {σ : Sto} {v : GV} {g : Gen} (h : GenR σ v g) : (genCells g v).all oneCell = true := by
  obtain ⟨vs, h1, _⟩ := h.accs
  simp only [genCells, List.all_cons, h.mems.one, h1.one, bcells_one]; rfl
theorem GenR.len {σ : Sto} {v : GV} {g : Gen} (h : GenR σ v g) : (genCells g v).length = 37 := by simp [genCells, bcells_len, h.seed]
def putP (f : UInt64 → Purse) (a : Acc) : UInt64 → Purse := fun k => if k = a.name then ⟨a.bal, a.nonce⟩ else f k
def purOf (l : List Acc) : UInt64 → Purse := l.foldl putP fun _ => ⟨0, 0⟩
theorem purOf_snoc (l : List Acc) (a : Acc) : purOf (l ++ [a]) = putP (purOf l) a := by simp [purOf]
def openF (chain : Int) (l : List Acc) : Fol := ⟨chain, purOf l, [], []⟩
theorem vc_at {xs : List Value} {i : Nat} (h : i < xs.length) : At (xs.flatMap vc) i xs[i] := .of (by
  have e : ∀ xs : List Value, xs.flatMap vc = xs := fun xs => by induction xs with
    | nil => rfl
    | cons x xs ih => rw [List.flatMap_cons, ih]; rfl
  rw [e]; simp [h])
theorem SlO.nil {α : Type} {T sz : Nat} {f : α → List Value} : SlO T sz nilS f [] [] := ⟨.nil, fun _ h => nomatch h⟩
theorem zero57 (w : World) : (zeroValue 57).run Tryz.prog w = .ok (.agg (accCells ⟨0, 0, 0⟩).toArray) w := by rw [Tryz.zeroValue57]; rfl
theorem zero140 (w : World) : (zeroValue 140).run Tryz.prog w = .ok (.agg [iv 0, .map none, nilS, nilS].toArray) w := by rw [Tryz.zeroValue140]; rfl
theorem PurM.nil (ck : Nat) : PurM ([] : Ents UInt64) ck (fun _ => ⟨0, 0⟩) := ⟨.nil _, fun _ => rfl, fun _ _ => trivial⟩
end Go.Eng
namespace Go.Eng
open Go Go.Proofs
def sSeat : Bts := [115, 101, 97, 116]
noncomputable def rankB (seed : Bts) (epoch chain m : Int) : Bts := shaOf [sSeat, seed, be64 (u64i epoch), be64 (u64i chain), be64 (u64i m)]
theorem seat_len {seed : Bts} (h : seed.length = 32) (a b c : UInt64) : (joinB [sSeat, seed, be64 a, be64 b, be64 c]).length < 10000000000 := by
  have l1 : ∀ x, (be64 x).length = 8 := fun _ => rfl
  have l0 : sSeat.length = 4 := rfl
  simp [joinB, h, l1, l0]
noncomputable def rankLt (seed : Bts) (epoch chain : Int) (a b : Int) : Bool := decide (dcmp (rankB seed epoch chain a) (rankB seed epoch chain b) < 0)
noncomputable def seatsOf (seed : Bts) (epoch chain : Int) (ms : List Int) : List Int := (insS (rankLt seed epoch chain) ms).take 4
theorem rank_len (seed : Bts) (e c m : Int) : (rankB seed e c m).length = 32 := shaOf_len _
theorem gen_seed {g : Gen} {v : GV} (h : g.seed.length = 32) : Part (genCells g v) 5 32 (bcells g.seed) := by
  have := Part.mk (a := [iv g.validators, iv g.shards, iv g.length, v.mems, v.accs]) (vs := bcells g.seed) (b := []) (i := 5) (n := 32) rfl (by rw [bcells_len, h])
  rwa [List.append_nil] at this
section
variable {P : Program} {E : Env} {σ : Sto} {K : SHeap} {d : Option Tmp} {ty : TypeId} {pos : String} {af : Array Edge} {g : Option (Nat × Bool)}
theorem q_slice3 {T e b o n cap m sz : Nat} {x hi mx : Operand} {h : Nat} (hx : E.op x = some (.slice (some ⟨b, o, none⟩) n cap)) (hU : ∀ w, (underlying T).run P w = .ok (.slice e) w)
    (hS : ∀ w, (sizeOf e).run P w = .ok sz w) (hh : E.op hi = some (.int .i64 (h : Int))) (hm : E.op mx = some (.int .i64 (m : Int))) (h1 : h ≤ m) (h2 : m ≤ cap) :
    Quiet P E.ev ⟨d, .slice T x none (some hi) (some mx), ty, pos, af, g⟩ K σ (.slice (some ⟨b, o, none⟩) h m) := by
  intro σ' w L' _ _ _
  have hadd0 : (Addr.mk b o none).add 0 = ⟨b, o, none⟩ := rfl
  simp [execOp, Env.op_ev hx, Env.op_ev hh, Env.op_ev hm, Instr.sliceAt, Instr.slice, hU, Instr.sliceBounds, hS, Instr.sliceBound, asIntOf, h1, h2, hadd0]
theorem q_min2 {k : IntKind} {a b : Int} {x y : Operand} {ats : Array TypeId} (hx : E.op x = some (.int k a)) (hy : E.op y = some (.int k b)) :
    Quiet P E.ev ⟨d, .call ⟨.builtin .min, #[x, y], ats⟩, ty, pos, af, g⟩ K σ (.int k (if b < a then b else a)) := by
  intro σ' w L' _ _ _
  simp [execOp, Env.op_ev hx, Env.op_ev hy, resolve, invoke, builtin, Go.Builtin.min_, Go.Builtin.min2]
theorem q_makeFuncC {f : Nat} {xs ys : List Operand} {vs us : List Value} (hx : E.ops xs = some vs) (hy : E.ops ys = some us) : Quiet P E.ev ⟨d, .makeFunc (.func f) xs.toArray ys.toArray, ty, pos, af, g⟩ K σ (.func (.func f) vs.toArray us.toArray) := by
  intro σ' w L' _ _ _
  have h1 := Env.ops_ev hx
  have h2 := Env.ops_ev hy
  simp [execOp, h1, h2, Instr.makeFunc]
end
theorem rise_lt {xs : List Int} (h : xs.Pairwise (· < ·)) : ∀ i, i + 1 < xs.length → ¬ xs.getD (i + 1) 0 < xs.getD i 0 := fun i hi => by
  have := List.pairwise_iff_getElem.1 h i (i + 1) (by omega) hi (by omega)
  have g1 : xs.getD (i + 1) 0 = xs[i + 1] := by simp [List.getD, List.getElem?_eq_getElem hi]
  have g2 : xs.getD i 0 = xs[i] := by simp [List.getD, List.getElem?_eq_getElem (show i < xs.length by omega)]
  rw [g1, g2]; omega
end Go.Eng
namespace Go.Eng
open Go Go.Proofs
def sumN (l : List Acc) : Nat := (l.map fun a => a.bal.toNat).sum
def sumNN (l : List (List Acc)) : Nat := (l.map sumN).sum
structure MayOk (g : Gen) : Prop where
  val : 4 ≤ g.validators ∧ g.validators ≤ 12
  sh : 1 ≤ g.shards ∧ g.shards < 4
  len : 4 ≤ g.length ∧ g.length ≤ 1048576
  mem : 4 ≤ g.members.length ∧ g.members.length ≤ 12
  acc : (g.accs.length : Int) = g.shards + 1
  mems : ∀ m ∈ g.members, 0 ≤ m ∧ m < g.validators
  rise : g.members.Pairwise (· < ·)
  accs : ∀ l ∈ g.accs, RiseA l
  few : ∀ l ∈ g.accs, l.length < 1000
  sum : sumNN g.accs ≤ 4611686018427387904
  seed : g.seed.length = 32
theorem sumN_app (a b : List Acc) : sumN (a ++ b) = sumN a + sumN b := by unfold sumN; rw [List.map_append, List.sum_append]
theorem sumNN_app (a b : List (List Acc)) : sumNN (a ++ b) = sumNN a + sumNN b := by unfold sumNN; rw [List.map_append, List.sum_append]
theorem sumN_one (a : Acc) : sumN [a] = a.bal.toNat := by unfold sumN; simp
theorem sumNN_one (a : List Acc) : sumNN [a] = sumN a := by unfold sumNN; simp
theorem sumN_take {l : List Acc} {i : Nat} (h : i < l.length) : sumN (l.take (i + 1)) = sumN (l.take i) + l[i].bal.toNat := by
  rw [List.take_succ_eq_append_getElem h, sumN_app, sumN_one]
theorem sumNN_take {l : List (List Acc)} {i : Nat} (h : i < l.length) : sumNN (l.take (i + 1)) = sumNN (l.take i) + sumN l[i] := by
  rw [List.take_succ_eq_append_getElem h, sumNN_app, sumNN_one]
theorem sumN_le (l : List Acc) (i : Nat) : sumN (l.take i) ≤ sumN l := by
  conv => rhs; rw [← List.take_append_drop i l, sumN_app]
  exact Nat.le_add_right _ _
theorem sumNN_le (l : List (List Acc)) (i : Nat) : sumNN (l.take i) ≤ sumNN l := by
  conv => rhs; rw [← List.take_append_drop i l, sumNN_app]
  exact Nat.le_add_right _ _
end Go.Eng
namespace Go.Eng
open Go Go.Proofs
set_option maxRecDepth 20000
theorem c139 {σ : Sto} {L : SHeap} (a b : Int) : Ctr Tryz.prog 139 #[iv a, iv b] σ L fun v σ' L' => v = .bool (decide (a < b)) ∧ L' = L := by
  refine ctr_enter Tryz.func139 rfl Tryz.ntmps139 (by simp) ?_
  refine go_seq ?_
  refine go_region ?_
  refine sq rfl (q_assign rfl) ?_
  refine gol_nil ?_
  refine go_seq ?_
  refine go_region ?_
  refine sq rfl (q_move rfl) ?_
  refine sn rfl (n_call rfl Tryz.call175 (c175 a)) ?_
  rintro v1 σ1 _ hle1 ⟨rfl, rfl⟩
  refine sq rfl (q_move rfl) ?_
  refine ss rfl rfl ?_
  refine ss rfl rfl ?_
  refine ss rfl rfl ?_
  refine sq rfl (q_pick rfl rfl rfl rfl) ?_
  refine sq rfl (q_move rfl) ?_
  refine sqg rfl rfl (q_move rfl) ?_
  refine sqg rfl rfl (q_move rfl) ?_
  refine sqg rfl rfl (q_lss (a := a) (b := b) rfl rfl) ?_
  refine sq rfl (q_pick rfl rfl rfl rfl) ?_
  refine sq rfl (q_assign rfl) ?_
  refine gol_nil ?_
  refine go_ret Tryz.func139 Tryz.results139 rfl rfl rfl (by repeat (first | exact Sto.le_refl _ | assumption | refine Sto.le_trans ?_ (by assumption))) ?_
  exact ⟨rfl, rfl⟩
theorem shr_lt {x : UInt64} {k m : Nat} (hk : k < 64) (h : x.toNat < 2 ^ k * m) : (x >>> UInt64.ofNat k).toNat < m := by
  have e : (UInt64.ofNat k).toNat % 64 = k := by rw [UInt64.toNat_ofNat_of_lt' (Nat.lt_trans hk (by decide)), Nat.mod_eq_of_lt hk]
  rw [UInt64.toNat_shiftRight, e, Nat.shiftRight_eq_div_pow]
  exact Nat.div_lt_of_lt_mul h
theorem wrapI (n : Int) : ∃ m : Int, IntKind.i64.wrap n = m := ⟨_, rfl⟩
theorem c157 {σ : Sto} {L : SHeap} (x : UInt64) : Ctr Tryz.prog 157 #[w6 x] σ L fun v σ' L' => (∃ l : Int, v = iv l) ∧ σ' = σ ∧ L' = L := by
  refine ctr_enter Tryz.func157 rfl Tryz.ntmps157 (by simp) ?_
  refine go_seq ?_
  refine go_region ?_
  refine sq rfl (q_assign rfl) ?_
  refine gol_nil ?_
  refine go_seq ?_
  refine go_seq ?_
  refine go_region ?_
  refine sq rfl (q_move rfl) ?_
  refine sq rfl (q_geq (a := (x.toNat : Int)) (b := 4294967296) rfl rfl) ?_
  refine gol_nil ?_
  refine go_meet (UInt64 × Int) (fun x => x.1.toNat < 4294967296) (fun x => [(0, w6 x.1), (2, iv x.2)]) (fun _ => σ) (fun _ => L) (fun meet => ?_) ?_
  ·
    refine go_cond rfl rfl (fun hc0 => ?_) (fun hc0 => ?_)
    ·
      have hA : (x >>> UInt64.ofNat 32).toNat < 4294967296 := shr_lt (by decide) (by have := x.toNat_lt; omega)
      refine go_seq ?_
      refine go_region ?_
      refine sq rfl (q_move rfl) ?_
      refine sq rfl (q_shr64 (a := x) (n := 32) rfl rfl (by decide)) ?_
      refine sq rfl (q_assign rfl) ?_
      refine gol_nil ?_
      refine go_region ?_
      refine sq rfl (q_assign rfl) ?_
      refine gol_nil ?_
      first | exact go_next (meet (_, _) hA) ⟨rfl, rfl, trivial⟩ | exact go_next (meet (_, _) hB) ⟨rfl, rfl, trivial⟩
    ·
      have hB : x.toNat < 4294967296 := by have := of_decide_eq_false hc0; omega
      refine go_skip ?_
      first | exact go_next (meet (_, _) hA) ⟨rfl, rfl, trivial⟩ | exact go_next (meet (_, _) hB) ⟨rfl, rfl, trivial⟩
  ·
    rintro ⟨x, q⟩ hx
    simp only at hx ⊢
    refine go_seq ?_
    refine go_seq ?_
    refine go_region ?_
    refine sq rfl (q_move rfl) ?_
    refine sq rfl (q_geq (a := (x.toNat : Int)) (b := 65536) rfl rfl) ?_
    refine gol_nil ?_
    refine go_meet (UInt64 × Int) (fun x => x.1.toNat < 65536) (fun x => [(0, w6 x.1), (2, iv x.2)]) (fun _ => σ) (fun _ => L) (fun meet => ?_) ?_
    ·
      refine go_cond rfl rfl (fun hc1 => ?_) (fun hc1 => ?_)
      ·
        have hA : (x >>> UInt64.ofNat 16).toNat < 65536 := shr_lt (by decide) (by have := x.toNat_lt; omega)
        refine go_seq ?_
        refine go_region ?_
        refine sq rfl (q_move rfl) ?_
        refine sq rfl (q_shr64 (a := x) (n := 16) rfl rfl (by decide)) ?_
        refine sq rfl (q_assign rfl) ?_
        refine gol_nil ?_
        refine go_region ?_
        refine sq rfl (q_move rfl) ?_
        refine sq rfl (q_add (c := IntKind.i64.wrap (q + 16)) rfl rfl rfl) ?_
        refine sq rfl (q_assign rfl) ?_
        refine gol_nil ?_
        first | exact go_next (meet (_, _) hA) ⟨rfl, rfl, trivial⟩ | exact go_next (meet (_, _) hB) ⟨rfl, rfl, trivial⟩
      ·
        have hB : x.toNat < 65536 := by have := of_decide_eq_false hc1; omega
        refine go_skip ?_
        first | exact go_next (meet (_, _) hA) ⟨rfl, rfl, trivial⟩ | exact go_next (meet (_, _) hB) ⟨rfl, rfl, trivial⟩
    ·
      rintro ⟨x, q⟩ hx
      simp only at hx ⊢
      refine go_seq ?_
      refine go_seq ?_
      refine go_region ?_
      refine sq rfl (q_move rfl) ?_
      refine sq rfl (q_geq (a := (x.toNat : Int)) (b := 256) rfl rfl) ?_
      refine gol_nil ?_
      refine go_meet (UInt64 × Int) (fun x => x.1.toNat < 256) (fun x => [(0, w6 x.1), (2, iv x.2)]) (fun _ => σ) (fun _ => L) (fun meet => ?_) ?_
      ·
        refine go_cond rfl rfl (fun hc2 => ?_) (fun hc2 => ?_)
        ·
          have hA : (x >>> UInt64.ofNat 8).toNat < 256 := shr_lt (by decide) (by have := x.toNat_lt; omega)
          refine go_seq ?_
          refine go_region ?_
          refine sq rfl (q_move rfl) ?_
          refine sq rfl (q_shr64 (a := x) (n := 8) rfl rfl (by decide)) ?_
          refine sq rfl (q_assign rfl) ?_
          refine gol_nil ?_
          refine go_region ?_
          refine sq rfl (q_move rfl) ?_
          refine sq rfl (q_add (c := IntKind.i64.wrap (q + 8)) rfl rfl rfl) ?_
          refine sq rfl (q_assign rfl) ?_
          refine gol_nil ?_
          first | exact go_next (meet (_, _) hA) ⟨rfl, rfl, trivial⟩ | exact go_next (meet (_, _) hB) ⟨rfl, rfl, trivial⟩
        ·
          have hB : x.toNat < 256 := by have := of_decide_eq_false hc2; omega
          refine go_skip ?_
          first | exact go_next (meet (_, _) hA) ⟨rfl, rfl, trivial⟩ | exact go_next (meet (_, _) hB) ⟨rfl, rfl, trivial⟩
      ·
        rintro ⟨x, q⟩ hx
        simp only at hx ⊢
        refine go_seq ?_
        refine go_region ?_
        refine sq rfl (q_move rfl) ?_
        refine sq rfl (q_move rfl) ?_
        refine sq rfl (q_conv (m := (x.toNat : Int)) rfl Tryz.runUnderlying31 Tryz.runUnderlying5 (u8_in (by omega) (by omega))) ?_
        refine sq rfl (q_indexS (j := x.toNat) rfl rfl Tryz.runUnderlying9 rfl (bget (Nat.lt_of_lt_of_eq hx (by rfl)))) ?_
        refine sq rfl (q_conv rfl Tryz.runUnderlying5 Tryz.runUnderlying3 rfl) ?_
        refine sq rfl (q_add rfl rfl rfl) ?_
        refine sq rfl (q_assign rfl) ?_
        refine gol_nil ?_
        refine go_ret Tryz.func157 Tryz.results157 rfl rfl rfl (by repeat (first | exact Sto.le_refl _ | assumption | refine Sto.le_trans ?_ (by assumption))) ?_
        exact ⟨⟨_, rfl⟩, rfl, rfl⟩
theorem c119 {σ : Sto} {L : SHeap} (x : UInt64) : Ctr Tryz.prog 119 #[w6 x] σ L fun v σ' L' => (∃ l : Int, v = iv l) ∧ σ' = σ ∧ L' = L := by
  refine ctr_enter Tryz.func119 rfl Tryz.ntmps119 (by simp) ?_
  refine go_seq ?_
  refine go_region ?_
  refine sq rfl (q_assign rfl) ?_
  refine gol_nil ?_
  refine go_seq ?_
  refine go_condF rfl rfl ?_
  refine go_skip ?_
  refine go_seq ?_
  refine go_region ?_
  refine sq rfl (q_move rfl) ?_
  refine sn rfl (n_call rfl Tryz.call157 (c157 x)) ?_
  rintro _ σ _ - ⟨⟨l, rfl⟩, rfl, rfl⟩
  refine sq rfl (q_assign rfl) ?_
  refine gol_nil ?_
  refine go_ret Tryz.func119 Tryz.results119 rfl rfl rfl (by repeat (first | exact Sto.le_refl _ | assumption | refine Sto.le_trans ?_ (by assumption))) ?_
  exact ⟨⟨_, rfl⟩, rfl, rfl⟩
theorem c195 {σ : Sto} {L : SHeap} {bd n c : Nat} {xs : List Int} {junk : List Value} (hk : Kn σ L bd (.cells (xs.flatMap ic ++ junk).toArray 3 (0, 0))) (hn : xs.length = n) (hn2 : n < 1000000) (hs : ∀ i, i + 1 < n → ¬ xs.getD (i + 1) 0 < xs.getD i 0) : Ctr Tryz.prog 195 #[(.slice (some ⟨bd, 0, none⟩) n c), iv 0, iv (n : Nat)] σ L fun v σ' L' => v = .tuple #[] ∧ L' = L := by
  refine ctr_enter Tryz.func195 rfl Tryz.ntmps195 (by simp) ?_
  refine go_seq ?_
  refine go_region ?_
  refine sq rfl (q_move rfl) ?_
  refine sq rfl (q_add (a := 0) (b := 1) (c := ((0 + 1 : Nat) : Int)) rfl rfl (i64_in (by decide) (by decide))) ?_
  refine sq rfl (q_assign rfl) ?_
  refine gol_nil ?_
  refine go_block ?_
  refine go_loop (X := Nat × Sto) (fun x => x.1 ≤ n ∧ Sto.le σ x.2) (fun x => [(0, (.slice (some ⟨bd, 0, none⟩) n c)), (1, iv 0), (2, iv (n : Nat)), (6, iv (x.1 + 1 : Nat))]) (fun x => x.2) (fun _ => L) (fun x => n - x.1) (0, σ) ⟨Nat.zero_le _, Sto.le_refl _⟩ ⟨rfl, rfl, rfl, rfl, trivial⟩ rfl rfl ?_
  rintro ⟨k, σ1⟩ ⟨hkn, hle1⟩ next
  simp only at hkn hle1 next ⊢
  refine go_seq ?_
  refine go_seq ?_
  refine go_region ?_
  refine sq rfl (q_move rfl) ?_
  refine sq rfl (q_move rfl) ?_
  refine sq rfl (q_lss (a := ((k + 1 : Nat) : Int)) (b := (n : Int)) rfl rfl) ?_
  refine gol_nil ?_
  refine go_cond rfl rfl (fun hc0 => ?_) (fun hc0 => ?_)
  ·
    have hlt : k + 1 < n := by have := of_decide_eq_true hc0; omega
    refine go_skip ?_
    refine go_seq ?_
    refine go_block ?_
    refine go_seq ?_
    refine go_region ?_
    refine sq rfl (q_move rfl) ?_
    refine sq rfl (q_assign rfl) ?_
    refine gol_nil ?_
    refine go_block ?_
    refine go_loop1 ?_
    refine go_seq ?_
    refine go_seq ?_
    refine go_draws (n := 49) _ mix rfl (by decide +kernel) (Keep.refl _) ?_
    refine dq 0 rfl rfl rfl rfl (q_move rfl) ?_
    refine dq 1 rfl rfl rfl rfl (q_move rfl) ?_
    refine dq 2 rfl rfl rfl rfl (q_gtr (a := ((k + 1 : Nat) : Int)) (b := 0) rfl rfl) ?_
    rw [show decide (((k + 1 : Nat) : Int) > 0) = true from decide_eq_true (by omega)]
    refine dq 3 rfl rfl rfl rfl (q_move rfl) ?_
    refine dqg 4 rfl rfl rfl rfl rfl rfl (q_move rfl) ?_
    refine dqg 5 rfl rfl rfl rfl rfl rfl (q_move rfl) ?_
    refine dqg 6 rfl rfl rfl rfl rfl rfl (q_indexAddr (j := k + 1) (o' := k + 1) rfl rfl Tryz.runUnderlying24 Tryz.sizeOf3 rfl (by omega) (by omega)) ?_
    refine dqg 7 rfl rfl rfl rfl rfl rfl (q_load (v := iv (xs.getD (k + 1) 0)) rfl Tryz.isAgg3 (hk.up hle1) (ic_get (by omega))) ?_
    refine dqg 8 rfl rfl rfl rfl rfl rfl (q_move rfl) ?_
    refine dqg 9 rfl rfl rfl rfl rfl rfl (q_move rfl) ?_
    refine dqg 10 rfl rfl rfl rfl rfl rfl (q_sub (a := ((k + 1 : Nat) : Int)) (b := 1) (c := (k : Int)) rfl rfl (by rw [show ((k + 1 : Nat) : Int) - 1 = k by omega]; exact i64_in (by omega) (by omega))) ?_
    refine dqg 11 rfl rfl rfl rfl rfl rfl (q_indexAddr (j := k) (o' := k) rfl rfl Tryz.runUnderlying24 Tryz.sizeOf3 rfl (by omega) (by omega)) ?_
    refine dqg 12 rfl rfl rfl rfl rfl rfl (q_load (v := iv (xs.getD (k) 0)) rfl Tryz.isAgg3 (hk.up hle1) (ic_get (by omega))) ?_
    refine dng 13 rfl rfl rfl rfl rfl rfl (by decide +kernel) (n_call rfl Tryz.call139 (c139 _ _)) (fun _ _ _ _ h => by rw [h.2]; exact Keep.refl _) ?_
    rintro _ σ2 _ hle2 ⟨rfl, rfl⟩
    rw [decide_eq_false (hs k hlt)]
    refine dq 14 rfl rfl rfl rfl (q_pick rfl rfl rfl rfl) ?_
    refine dend rfl ?_
    refine go_condF rfl rfl ?_
    refine go_exit rfl ?_
    refine go_inBlock ?_
    refine go_region ?_
    refine sq rfl (q_move rfl) ?_
    refine sq rfl (q_add (a := ((k + 1 : Nat) : Int)) (b := 1) (c := ((k + 1 + 1 : Nat) : Int)) rfl rfl (i64_in (by omega) (by omega))) ?_
    refine sq rfl (q_assign rfl) ?_
    refine gol_nil ?_
    exact go_next (next (k + 1, σ2) ⟨by simp only; omega, Sto.le_trans hle1 hle2⟩ (by simp only; omega)) ⟨rfl, rfl, rfl, rfl, trivial⟩
  ·
    refine go_exit rfl ?_
    refine go_end Tryz.func195 Tryz.results195 rfl rfl rfl (by repeat (first | exact Sto.le_refl _ | assumption | refine Sto.le_trans ?_ (by assumption))) ?_
    exact ⟨rfl, rfl⟩
theorem c164 {σ : Sto} {L : SHeap} {bd n c : Nat} {xs : List Int} {junk : List Value} (hk : Kn σ L bd (.cells (xs.flatMap ic ++ junk).toArray 3 (0, 0))) (hn : xs.length = n) (hn2 : n ≤ 12) (hs : ∀ i, i + 1 < n → ¬ xs.getD (i + 1) 0 < xs.getD i 0) (l : Int) : Ctr Tryz.prog 164 #[(.slice (some ⟨bd, 0, none⟩) n c), iv 0, iv (n : Nat), iv l] σ L fun v σ' L' => v = .tuple #[] ∧ L' = L := by
  refine ctr_enter Tryz.func164 rfl Tryz.ntmps164 (by simp) ?_
  refine go_seq ?_
  refine go_region ?_
  refine sq rfl (q_assign rfl) ?_
  refine gol_nil ?_
  refine go_seq ?_
  refine go_region ?_
  refine sq rfl (q_assign rfl) ?_
  refine gol_nil ?_
  refine go_block ?_
  refine go_loop1 ?_
  refine go_block ?_
  refine go_seq ?_
  refine go_region ?_
  refine sq rfl (q_move rfl) ?_
  refine sq rfl (q_move rfl) ?_
  refine sq rfl (q_sub (a := (n : Int)) (b := 0) (c := (n : Int)) rfl rfl (by rw [Int.sub_zero]; exact i64_in (by omega) (by omega))) ?_
  refine sq rfl (q_assign rfl) ?_
  refine gol_nil ?_
  refine go_seq ?_
  refine go_seq ?_
  refine go_region ?_
  refine sq rfl (q_move rfl) ?_
  refine sq rfl (q_leq (a := (n : Int)) (b := 12) rfl rfl) ?_
  rw [show decide ((n : Int) ≤ 12) = true from decide_eq_true (by omega)]
  refine gol_nil ?_
  refine go_condT rfl rfl ?_
  refine go_seq ?_
  refine go_region ?_
  refine sq rfl (q_move rfl) ?_
  refine sq rfl (q_move rfl) ?_
  refine sq rfl (q_move rfl) ?_
  refine sn rfl (n_call rfl Tryz.call195 (c195 hk hn (by omega) hs)) ?_
  rintro _ σ1 _ hle1 ⟨rfl, rfl⟩
  refine gol_nil ?_
  refine go_ret Tryz.func164 Tryz.results164 rfl rfl rfl (by repeat (first | exact Sto.le_refl _ | assumption | refine Sto.le_trans ?_ (by assumption))) ?_
  exact ⟨rfl, rfl⟩
theorem c129 {σ : Sto} {L : SHeap} {bd n c : Nat} {xs : List Int} {junk : List Value} (hk : Kn σ L bd (.cells (xs.flatMap ic ++ junk).toArray 3 (0, 0))) (hn : xs.length = n) (hn2 : n ≤ 12) (hs : ∀ i, i + 1 < n → ¬ xs.getD (i + 1) 0 < xs.getD i 0) : Ctr Tryz.prog 129 #[(.slice (some ⟨bd, 0, none⟩) n c)] σ L fun v σ' L' => v = .tuple #[] ∧ L' = L := by
  refine ctr_enter Tryz.func129 rfl Tryz.ntmps129 (by simp) ?_
  refine go_seq ?_
  refine go_region ?_
  refine sq rfl (q_move rfl) ?_
  refine sq rfl (q_len rfl Tryz.runUnderlying24) ?_
  refine sq rfl (q_assign rfl) ?_
  refine gol_nil ?_
  refine go_region ?_
  refine sq rfl (q_move rfl) ?_
  refine sq rfl (q_move rfl) ?_
  refine sq rfl (q_move rfl) ?_
  refine sq rfl (q_conv (m := ((UInt64.ofNat n).toNat : Int)) rfl Tryz.runUnderlying3 Tryz.runUnderlying207 (by rw [UInt64.toNat_ofNat_of_lt' (show n < 18446744073709551616 by omega)]; exact u64_in (by omega) (by omega))) ?_
  refine sn rfl (n_call rfl Tryz.call119 (c119 (UInt64.ofNat n))) ?_
  rintro _ σ _ - ⟨⟨l, rfl⟩, rfl, rfl⟩
  refine sn rfl (n_call rfl Tryz.call164 (c164 hk hn hn2 hs l)) ?_
  rintro _ σ1 _ hle1 ⟨rfl, rfl⟩
  refine gol_nil ?_
  refine go_end Tryz.func129 Tryz.results129 rfl rfl rfl (by repeat (first | exact Sto.le_refl _ | assumption | refine Sto.le_trans ?_ (by assumption))) ?_
  exact ⟨rfl, rfl⟩
theorem c203 {σ : Sto} {L : SHeap} {bd n c gid : Nat} {xs : List Int} {junk cap : List Value} {cf : Int → Int → Int} (hn : xs.length = n) (hn2 : n ≤ 12) (hcall : ∀ vs w, (callFunc gid vs).run Tryz.prog w = .ok (.enter gid vs) w) (hcmp : ∀ a b σ' L', Sto.le σ σ' → Ctr Tryz.prog gid (iv a :: iv b :: cap).toArray σ' L' fun v σ2 L2 => v = iv (cf a b) ∧ L2 = L') : Ctr Tryz.prog 203 #[(.slice (some ⟨bd, 0, none⟩) n c), iv 0, iv (n : Nat), (.func (.func gid) #[] cap.toArray)] σ ((bd, .cells ((xs).flatMap ic ++ junk).toArray 3 (0, 0)) :: L) fun v σ' L' => v = .tuple #[] ∧ L' = (bd, .cells ((insS (fun a b => decide (cf a b < 0)) xs).flatMap ic ++ junk).toArray 3 (0, 0)) :: L := by
  obtain ⟨lt, hlt0⟩ : ∃ lt : Int → Int → Bool, lt = (fun a b => decide (cf a b < 0)) := ⟨_, rfl⟩
  rw [← hlt0]
  have hltv : ∀ a b, decide (cf a b < 0) = lt a b := fun a b => by rw [hlt0]
  refine ctr_enter Tryz.func203 rfl Tryz.ntmps203 (by simp) ?_
  refine go_seq ?_
  refine go_region ?_
  refine sq rfl (q_move rfl) ?_
  refine sq rfl (q_add (a := 0) (b := 1) (c := ((0 + 1 : Nat) : Int)) rfl rfl (i64_in (by decide) (by decide))) ?_
  refine sq rfl (q_assign rfl) ?_
  refine gol_nil ?_
  refine go_block ?_
  refine go_loop (X := Nat × Sto) (fun x => x.1 ≤ n - 1 ∧ Sto.le σ x.2) (fun x => [(0, (.slice (some ⟨bd, 0, none⟩) n c)), (1, iv 0), (2, iv (n : Nat)), (3, (.func (.func gid) #[] cap.toArray)), (8, iv (x.1 + 1 : Nat))]) (fun x => x.2) (fun x => (bd, .cells ((insI lt xs x.1).flatMap ic ++ junk).toArray 3 (0, 0)) :: L) (fun x => n - x.1) (0, σ) ⟨Nat.zero_le _, Sto.le_refl _⟩ ⟨rfl, rfl, rfl, rfl, rfl, trivial⟩ rfl rfl ?_
  rintro ⟨k, σ1⟩ ⟨hkn, hle1⟩ next
  simp only at hkn hle1 next ⊢
  refine go_seq ?_
  refine go_seq ?_
  refine go_region ?_
  refine sq rfl (q_move rfl) ?_
  refine sq rfl (q_move rfl) ?_
  refine sq rfl (q_lss (a := ((k + 1 : Nat) : Int)) (b := (n : Int)) rfl rfl) ?_
  refine gol_nil ?_
  refine go_cond rfl rfl (fun hc0 => ?_) (fun hc0 => ?_)
  ·
    have hlt : k + 1 < n := by have := of_decide_eq_true hc0; omega
    refine go_skip ?_
    refine go_seq ?_
    refine go_block ?_
    refine go_seq ?_
    refine go_region ?_
    refine sq rfl (q_move rfl) ?_
    refine sq rfl (q_assign rfl) ?_
    refine gol_nil ?_
    refine go_block ?_
    refine go_loop (X := Nat × List Int × Sto) (fun x => x.1 ≤ k + 1 ∧ x.2.1.length = n ∧ insJ lt x.2.1 x.1 = insI lt xs (k + 1) ∧ Sto.le σ x.2.2) (fun x => [(0, (.slice (some ⟨bd, 0, none⟩) n c)), (1, iv 0), (2, iv (n : Nat)), (3, (.func (.func gid) #[] cap.toArray)), (8, iv (k + 1 : Nat)), (9, iv (x.1 : Nat))]) (fun x => x.2.2) (fun x => (bd, .cells ((x.2.1).flatMap ic ++ junk).toArray 3 (0, 0)) :: L) (fun x => x.1) (k + 1, insI lt xs k, σ1) ⟨Nat.le_refl _, by simp only; rw [insI_len, hn], rfl, hle1⟩ ⟨rfl, rfl, rfl, rfl, rfl, rfl, trivial⟩ rfl rfl ?_
    rintro ⟨j, ys, σ2⟩ ⟨hjk, hyn, hins, hle2⟩ next2
    simp only at hjk hyn hins hle2 next2 ⊢
    have hjn : j < ys.length := by omega
    refine go_seq ?_
    refine go_seq ?_
    refine go_draws (n := 53) _ mix rfl (by decide +kernel) (Keep.refl _) ?_
    refine dq 0 rfl rfl rfl rfl (q_move rfl) ?_
    refine dq 1 rfl rfl rfl rfl (q_move rfl) ?_
    refine dq 2 rfl rfl rfl rfl (q_gtr (a := (j : Int)) (b := 0) rfl rfl) ?_
    rcases Classical.em ((j : Int) > 0) with hj | hj
    ·
      rw [show decide ((j : Int) > 0) = true from decide_eq_true hj]
      obtain ⟨m, rfl⟩ : ∃ m, j = m + 1 := ⟨j - 1, by omega⟩
      rw [insJ] at hins
      refine dq 3 rfl rfl rfl rfl (q_move rfl) ?_
      refine dqg 4 rfl rfl rfl rfl rfl rfl (q_move rfl) ?_
      refine dqg 5 rfl rfl rfl rfl rfl rfl (q_move rfl) ?_
      refine dqg 6 rfl rfl rfl rfl rfl rfl (q_move rfl) ?_
      refine dqg 7 rfl rfl rfl rfl rfl rfl (q_indexAddr (j := m + 1) (o' := m + 1) rfl rfl Tryz.runUnderlying24 Tryz.sizeOf3 rfl (by omega) (by omega)) ?_
      refine dqg 8 rfl rfl rfl rfl rfl rfl (q_load (v := iv (ys.getD (m + 1) 0)) rfl Tryz.isAgg3 .hd (ic_get (by omega))) ?_
      refine dqg 9 rfl rfl rfl rfl rfl rfl (q_move rfl) ?_
      refine dqg 10 rfl rfl rfl rfl rfl rfl (q_move rfl) ?_
      refine dqg 11 rfl rfl rfl rfl rfl rfl (q_sub (a := ((m + 1 : Nat) : Int)) (b := 1) (c := (m : Int)) rfl rfl (by rw [show ((m + 1 : Nat) : Int) - 1 = m by omega]; exact i64_in (by omega) (by omega))) ?_
      refine dqg 12 rfl rfl rfl rfl rfl rfl (q_indexAddr (j := m) (o' := m) rfl rfl Tryz.runUnderlying24 Tryz.sizeOf3 rfl (by omega) (by omega)) ?_
      refine dqg 13 rfl rfl rfl rfl rfl rfl (q_load (v := iv (ys.getD (m) 0)) rfl Tryz.isAgg3 .hd (ic_get (by omega))) ?_
      refine dng 14 rfl rfl rfl rfl rfl rfl (by decide +kernel) (n_callV (fst := []) rfl rfl rfl hcall (hcmp _ _ _ _ hle2)) (fun _ _ _ _ h => by rw [h.2]; exact Keep.refl _) ?_
      rintro _ σ3 _ hle3 ⟨rfl, rfl⟩
      refine dqg 15 rfl rfl rfl rfl rfl rfl (q_lss (a := cf (ys.getD (m + 1) 0) (ys.getD m 0)) (b := 0) rfl rfl) ?_
      refine dq 16 rfl rfl rfl rfl (q_pick rfl rfl rfl rfl) ?_
      refine dend rfl ?_
      refine go_cond rfl rfl (fun hc1 => ?_) (fun hc1 => ?_)
      ·
        have hl : lt (ys.getD (m + 1) 0) (ys.getD m 0) = true := (hltv _ _).symm.trans hc1
        rw [if_pos hl] at hins
        refine go_skip ?_
        refine go_seq ?_
        refine go_block ?_
        refine go_draws (n := 53) [] mix rfl (by decide +kernel) (Keep.nil _) ?_
        refine dq 0 rfl rfl rfl rfl (q_move rfl) ?_
        refine dq 1 rfl rfl rfl rfl (q_move rfl) ?_
        refine dq 2 rfl rfl rfl rfl (q_move rfl) ?_
        refine dq 3 rfl rfl rfl rfl (q_move rfl) ?_
        refine dq 4 rfl rfl rfl rfl (q_sub (a := ((m + 1 : Nat) : Int)) (b := 1) (c := (m : Int)) rfl rfl (by rw [show ((m + 1 : Nat) : Int) - 1 = m by omega]; exact i64_in (by omega) (by omega))) ?_
        refine dq 5 rfl rfl rfl rfl (q_move rfl) ?_
        refine dq 6 rfl rfl rfl rfl (q_move rfl) ?_
        refine dq 7 rfl rfl rfl rfl (q_sub (a := ((m + 1 : Nat) : Int)) (b := 1) (c := (m : Int)) rfl rfl (by rw [show ((m + 1 : Nat) : Int) - 1 = m by omega]; exact i64_in (by omega) (by omega))) ?_
        refine dq 8 rfl rfl rfl rfl (q_indexAddr (j := m) (o' := m) rfl rfl Tryz.runUnderlying24 Tryz.sizeOf3 rfl (by omega) (by omega)) ?_
        refine dq 10 rfl rfl rfl rfl (q_move rfl) ?_
        refine dq 11 rfl rfl rfl rfl (q_move rfl) ?_
        refine dq 12 rfl rfl rfl rfl (q_indexAddr (j := m + 1) (o' := m + 1) rfl rfl Tryz.runUnderlying24 Tryz.sizeOf3 rfl (by omega) (by omega)) ?_
        refine d2q 9 13 rfl rfl rfl (by decide +kernel) rfl rfl (q_load (v := iv (ys.getD (m) 0)) rfl Tryz.isAgg3 .hd (ic_get (by omega))) (q_load (v := iv (ys.getD (m + 1) 0)) rfl Tryz.isAgg3 .hd (ic_get (by omega))) (Keep.nil _) ?_ ?_
        ·
          refine dql 13 rfl rfl rfl rfl (by decide +kernel) (q_load (v := iv (ys.getD (m + 1) 0)) rfl Tryz.isAgg3 .hd (ic_get (by omega))) (Keep.nil _) ?_
          refine dq 14 rfl rfl rfl rfl (q_indexAddr (j := m + 1) (o' := m + 1) rfl rfl Tryz.runUnderlying24 Tryz.sizeOf3 rfl (by omega) (by omega)) ?_
          refine dst 15 rfl rfl rfl rfl (by decide +kernel) (n_store rfl rfl rfl Tryz.sizeOf3 (ic_set (by omega)) .hd) (Keep.nil _) ?_
          refine dq 16 rfl rfl rfl rfl (q_indexAddr (j := m) (o' := m) rfl rfl Tryz.runUnderlying24 Tryz.sizeOf3 rfl (by omega) (by omega)) ?_
          refine dst 17 rfl rfl rfl rfl (by decide +kernel) (n_store rfl rfl rfl Tryz.sizeOf3 (ic_set (by rw [List.length_set]; omega)) .hd) (Keep.nil _) ?_
          refine dend rfl ?_
          refine go_inBlock ?_
          refine go_region ?_
          refine sq rfl (q_move rfl) ?_
          refine sq rfl (q_sub (a := ((m + 1 : Nat) : Int)) (b := 1) (c := (m : Int)) rfl rfl (by rw [show ((m + 1 : Nat) : Int) - 1 = m by omega]; exact i64_in (by omega) (by omega))) ?_
          refine sq rfl (q_assign rfl) ?_
          refine gol_nil ?_
          exact go_next (next2 (m, swapL ys (m + 1) m, σ3) ⟨by simp only; omega, by simp only; rw [swapL_len]; exact hyn, hins, Sto.le_trans hle2 hle3⟩ (by simp only; omega)) ⟨rfl, rfl, rfl, rfl, rfl, rfl, trivial⟩
        ·
          refine dql 9 rfl rfl rfl rfl (by decide +kernel) (q_load (v := iv (ys.getD (m) 0)) rfl Tryz.isAgg3 .hd (ic_get (by omega))) (Keep.nil _) ?_
          refine dq 14 rfl rfl rfl rfl (q_indexAddr (j := m + 1) (o' := m + 1) rfl rfl Tryz.runUnderlying24 Tryz.sizeOf3 rfl (by omega) (by omega)) ?_
          refine dst 15 rfl rfl rfl rfl (by decide +kernel) (n_store rfl rfl rfl Tryz.sizeOf3 (ic_set (by omega)) .hd) (Keep.nil _) ?_
          refine dq 16 rfl rfl rfl rfl (q_indexAddr (j := m) (o' := m) rfl rfl Tryz.runUnderlying24 Tryz.sizeOf3 rfl (by omega) (by omega)) ?_
          refine dst 17 rfl rfl rfl rfl (by decide +kernel) (n_store rfl rfl rfl Tryz.sizeOf3 (ic_set (by rw [List.length_set]; omega)) .hd) (Keep.nil _) ?_
          refine dend rfl ?_
          refine go_inBlock ?_
          refine go_region ?_
          refine sq rfl (q_move rfl) ?_
          refine sq rfl (q_sub (a := ((m + 1 : Nat) : Int)) (b := 1) (c := (m : Int)) rfl rfl (by rw [show ((m + 1 : Nat) : Int) - 1 = m by omega]; exact i64_in (by omega) (by omega))) ?_
          refine sq rfl (q_assign rfl) ?_
          refine gol_nil ?_
          exact go_next (next2 (m, swapL ys (m + 1) m, σ3) ⟨by simp only; omega, by simp only; rw [swapL_len]; exact hyn, hins, Sto.le_trans hle2 hle3⟩ (by simp only; omega)) ⟨rfl, rfl, rfl, rfl, rfl, rfl, trivial⟩
      ·
        have hl : ¬ lt (ys.getD (m + 1) 0) (ys.getD m 0) = true := fun e => by rw [← hltv] at e; rw [e] at hc1; cases hc1
        rw [if_neg hl] at hins
        subst hins
        refine go_exit rfl ?_
        refine go_inBlock ?_
        refine go_region ?_
        refine sq rfl (q_move rfl) ?_
        refine sq rfl (q_add (a := ((k + 1 : Nat) : Int)) (b := 1) (c := ((k + 1 + 1 : Nat) : Int)) rfl rfl (i64_in (by omega) (by omega))) ?_
        refine sq rfl (q_assign rfl) ?_
        refine gol_nil ?_
        exact go_next (next (k + 1, σ3) ⟨by simp only; omega, Sto.le_trans hle2 hle3⟩ (by simp only; omega)) ⟨rfl, rfl, rfl, rfl, rfl, trivial⟩
    ·
      rw [show decide ((j : Int) > 0) = false from decide_eq_false hj]
      have hj0 : j = 0 := by omega
      subst hj0
      rw [insJ] at hins
      subst hins
      refine dq 3 rfl rfl rfl rfl (q_move rfl) ?_
      refine dskip 4 rfl rfl rfl (by first | exact .inl rfl | exact .inr rfl) rfl rfl rfl ?_
      refine dskip 5 rfl rfl rfl (by first | exact .inl rfl | exact .inr rfl) rfl rfl rfl ?_
      refine dskip 6 rfl rfl rfl (by first | exact .inl rfl | exact .inr rfl) rfl rfl rfl ?_
      refine dskip 7 rfl rfl rfl (by first | exact .inl rfl | exact .inr rfl) rfl rfl rfl ?_
      refine dskip 8 rfl rfl rfl (by first | exact .inl rfl | exact .inr rfl) rfl rfl rfl ?_
      refine dskip 9 rfl rfl rfl (by first | exact .inl rfl | exact .inr rfl) rfl rfl rfl ?_
      refine dskip 10 rfl rfl rfl (by first | exact .inl rfl | exact .inr rfl) rfl rfl rfl ?_
      refine dskip 11 rfl rfl rfl (by first | exact .inl rfl | exact .inr rfl) rfl rfl rfl ?_
      refine dskip 12 rfl rfl rfl (by first | exact .inl rfl | exact .inr rfl) rfl rfl rfl ?_
      refine dskip 13 rfl rfl rfl (by first | exact .inl rfl | exact .inr rfl) rfl rfl rfl ?_
      refine dskip 14 rfl rfl rfl (by first | exact .inl rfl | exact .inr rfl) rfl rfl rfl ?_
      refine dskip 15 rfl rfl rfl (by first | exact .inl rfl | exact .inr rfl) rfl rfl rfl ?_
      refine dq 16 rfl rfl rfl rfl (q_pick rfl rfl rfl rfl) ?_
      refine dend rfl ?_
      refine go_condF rfl rfl ?_
      refine go_exit rfl ?_
      refine go_inBlock ?_
      refine go_region ?_
      refine sq rfl (q_move rfl) ?_
      refine sq rfl (q_add (a := ((k + 1 : Nat) : Int)) (b := 1) (c := ((k + 1 + 1 : Nat) : Int)) rfl rfl (i64_in (by omega) (by omega))) ?_
      refine sq rfl (q_assign rfl) ?_
      refine gol_nil ?_
      exact go_next (next (k + 1, σ2) ⟨by simp only; omega, hle2⟩ (by simp only; omega)) ⟨rfl, rfl, rfl, rfl, rfl, trivial⟩
  ·
    have he : k = n - 1 := by have := of_decide_eq_false hc0; omega
    subst he
    refine go_exit rfl ?_
    refine go_end Tryz.func203 Tryz.results203 rfl rfl rfl (by repeat (first | exact Sto.le_refl _ | assumption | refine Sto.le_trans ?_ (by assumption))) ?_
    exact ⟨rfl, by rw [insS, hn]⟩
theorem c165 {σ : Sto} {L : SHeap} {bd n c gid : Nat} {xs : List Int} {junk cap : List Value} {cf : Int → Int → Int} (hn : xs.length = n) (hn2 : n ≤ 12) (hcall : ∀ vs w, (callFunc gid vs).run Tryz.prog w = .ok (.enter gid vs) w) (hcmp : ∀ a b σ' L', Sto.le σ σ' → Ctr Tryz.prog gid (iv a :: iv b :: cap).toArray σ' L' fun v σ2 L2 => v = iv (cf a b) ∧ L2 = L') : Ctr Tryz.prog 165 #[(.slice (some ⟨bd, 0, none⟩) n c), iv (n : Nat), (.func (.func gid) #[] cap.toArray)] σ ((bd, .cells ((xs).flatMap ic ++ junk).toArray 3 (0, 0)) :: L) fun v σ' L' => v = .tuple #[] ∧ L' = (bd, .cells ((insS (fun a b => decide (cf a b < 0)) xs).flatMap ic ++ junk).toArray 3 (0, 0)) :: L := by
  refine ctr_enter Tryz.func165 rfl Tryz.ntmps165 (by simp) ?_
  refine go_seq ?_
  refine go_region ?_
  refine sq rfl (q_assign rfl) ?_
  refine gol_nil ?_
  refine go_seq ?_
  refine go_region ?_
  refine sq rfl (q_move rfl) ?_
  refine sq rfl (q_assign rfl) ?_
  refine sq rfl (q_assign rfl) ?_
  refine gol_nil ?_
  refine go_seq ?_
  refine go_block ?_
  refine go_loop1 ?_
  refine go_seq ?_
  refine go_seq ?_
  refine go_region ?_
  refine sq rfl (q_move rfl) ?_
  refine sq rfl (q_move rfl) ?_
  refine sq rfl (q_leq (a := 20) (b := (n : Int)) rfl rfl) ?_
  rw [show decide ((20 : Int) ≤ (n : Int)) = false from decide_eq_false (by omega)]
  refine gol_nil ?_
  refine go_condF rfl rfl ?_
  refine go_exit rfl ?_
  refine go_seq ?_
  refine go_region ?_
  refine sq rfl (q_move rfl) ?_
  refine sq rfl (q_move rfl) ?_
  refine sq rfl (q_move rfl) ?_
  refine sq rfl (q_move rfl) ?_
  refine sn rfl (n_call rfl Tryz.call203 (c203 hn hn2 hcall hcmp)) ?_
  rintro _ σ1 _ hle1 ⟨rfl, rfl⟩
  refine gol_nil ?_
  refine go_block ?_
  refine go_loop1 ?_
  refine go_seq ?_
  refine go_seq ?_
  refine go_region ?_
  refine sq rfl (q_move rfl) ?_
  refine sq rfl (q_move rfl) ?_
  refine sq rfl (q_lss (a := 20) (b := (n : Int)) rfl rfl) ?_
  rw [show decide ((20 : Int) < (n : Int)) = false from decide_eq_false (by omega)]
  refine gol_nil ?_
  refine go_condF rfl rfl ?_
  refine go_exit rfl ?_
  refine go_end Tryz.func165 Tryz.results165 rfl rfl rfl (by repeat (first | exact Sto.le_refl _ | assumption | refine Sto.le_trans ?_ (by assumption))) ?_
  exact ⟨rfl, rfl⟩
theorem c130 {σ : Sto} {L : SHeap} {bd n c gid : Nat} {xs : List Int} {junk cap : List Value} {cf : Int → Int → Int} (hn : xs.length = n) (hn2 : n ≤ 12) (hcall : ∀ vs w, (callFunc gid vs).run Tryz.prog w = .ok (.enter gid vs) w) (hcmp : ∀ a b σ' L', Sto.le σ σ' → Ctr Tryz.prog gid (iv a :: iv b :: cap).toArray σ' L' fun v σ2 L2 => v = iv (cf a b) ∧ L2 = L') : Ctr Tryz.prog 130 #[(.slice (some ⟨bd, 0, none⟩) n c), (.func (.func gid) #[] cap.toArray)] σ ((bd, .cells ((xs).flatMap ic ++ junk).toArray 3 (0, 0)) :: L) fun v σ' L' => v = .tuple #[] ∧ L' = (bd, .cells ((insS (fun a b => decide (cf a b < 0)) xs).flatMap ic ++ junk).toArray 3 (0, 0)) :: L := by
  refine ctr_enter Tryz.func130 rfl Tryz.ntmps130 (by simp) ?_
  refine go_region ?_
  refine sq rfl (q_move rfl) ?_
  refine sq rfl (q_move rfl) ?_
  refine sq rfl (q_len rfl Tryz.runUnderlying24) ?_
  refine sq rfl (q_move rfl) ?_
  refine sn rfl (n_call rfl Tryz.call165 (c165 hn hn2 hcall hcmp)) ?_
  rintro _ σ1 _ hle1 ⟨rfl, rfl⟩
  refine gol_nil ?_
  refine go_end Tryz.func130 Tryz.results130 rfl rfl rfl (by repeat (first | exact Sto.le_refl _ | assumption | refine Sto.le_trans ?_ (by assumption))) ?_
  exact ⟨rfl, rfl⟩
end Go.Eng
