/- A part of the proof of this: Payments and locks of a shard come out as they stand on paper (TopPaid): for every input, with the listed package variables as the program's text lays them, TopPaid answers true and its argument reads as it did. -/
import Derived.Test.YtddoimkbjgfjnaaGreatDoorPaid03
import Derived.Lib.SliceRun
import Derived.Test.YtddoimkbjgfjnaaGreatDoorProg
namespace Go.Eng
open Go
theorem ofInt32 (x : UInt32) : BitVec.ofInt 32 (x.toNat : Int) = x.toBitVec := by
  apply BitVec.eq_of_toNat_eq
  rw [BitVec.ofInt_natCast, BitVec.toNat_ofNat]
  exact Nat.mod_eq_of_lt x.toNat_lt
theorem ofInt64 (x : UInt64) : BitVec.ofInt 64 (x.toNat : Int) = x.toBitVec := by
  apply BitVec.eq_of_toNat_eq
  rw [BitVec.ofInt_natCast, BitVec.toNat_ofNat]
  exact Nat.mod_eq_of_lt x.toNat_lt
theorem w32 (x : UInt32) : IntKind.u32.wrap (x.toNat : Int) = (x.toNat : Int) := u32_in (by omega) (by have := x.toNat_lt; omega)
theorem w64 (x : UInt64) : IntKind.u64.wrap (x.toNat : Int) = (x.toNat : Int) := u64_in (by omega) (by have := x.toNat_lt; omega)
theorem fdiv_nat (a b : Nat) : (a : Int).fdiv (b : Int) = ((a / b : Nat) : Int) := by
  rw [Int.fdiv_eq_ediv_of_nonneg _ (by omega)]; rfl
section ops
variable {P : Program} {E : Env} {K : SHeap} {σ : Sto} {d : Option Tmp} {ty : TypeId} {pos : String} {af : Array Edge} {g : Option (Nat × Bool)} {T T2 : TypeId} {x y : Operand}
theorem q_add32 {a b : UInt32} (hx : E.op x = some (.int .u32 a.toNat)) (hy : E.op y = some (.int .u32 b.toNat)) : Quiet P E.ev ⟨d, .binOp .add T x y T2, ty, pos, af, g⟩ K σ (.int .u32 (a + b).toNat) :=
  q_add hx hy (by rw [u32_mod, UInt32.toNat_add]; omega)
theorem q_add64 {a b : UInt64} (hx : E.op x = some (.int .u64 a.toNat)) (hy : E.op y = some (.int .u64 b.toNat)) : Quiet P E.ev ⟨d, .binOp .add T x y T2, ty, pos, af, g⟩ K σ (.int .u64 (a + b).toNat) :=
  q_add hx hy (by rw [u64_mod, UInt64.toNat_add]; omega)
theorem q_sub64 {a b : UInt64} (hx : E.op x = some (.int .u64 a.toNat)) (hy : E.op y = some (.int .u64 b.toNat)) : Quiet P E.ev ⟨d, .binOp .sub T x y T2, ty, pos, af, g⟩ K σ (.int .u64 (a - b).toNat) :=
  q_sub hx hy (by rw [u64_mod, UInt64.toNat_sub]; have := a.toNat_lt; have := b.toNat_lt; omega)
theorem q_mul64 {a b : UInt64} (hx : E.op x = some (.int .u64 a.toNat)) (hy : E.op y = some (.int .u64 b.toNat)) : Quiet P E.ev ⟨d, .binOp .mul T x y T2, ty, pos, af, g⟩ K σ (.int .u64 (a * b).toNat) :=
  q_mul hx hy (by rw [u64_mod, UInt64.toNat_mul, ← Int.natCast_mul]; omega)
theorem q_xor32 {a b : UInt32} (hx : E.op x = some (.int .u32 a.toNat)) (hy : E.op y = some (.int .u32 b.toNat)) : Quiet P E.ev ⟨d, .binOp .xor T x y T2, ty, pos, af, g⟩ K σ (.int .u32 (a ^^^ b).toNat) :=
  q_int hx hy fun w => by
    have h1 := ofInt32 a; have h2 := ofInt32 b
    simp only [binOp, Op.intBits, IntKind.bits, h1, h2, ne_eq, not_true_eq_false, ↓reduceIte]
    exact congrArg (fun n => Result.ok (Value.int .u32 n) w) (w32 (a ^^^ b))
theorem q_and32 {a b : UInt32} (hx : E.op x = some (.int .u32 a.toNat)) (hy : E.op y = some (.int .u32 b.toNat)) : Quiet P E.ev ⟨d, .binOp .and T x y T2, ty, pos, af, g⟩ K σ (.int .u32 (a &&& b).toNat) :=
  q_int hx hy fun w => by
    have h1 := ofInt32 a; have h2 := ofInt32 b
    simp only [binOp, Op.intBits, IntKind.bits, h1, h2, ne_eq, not_true_eq_false, ↓reduceIte]
    exact congrArg (fun n => Result.ok (Value.int .u32 n) w) (w32 (a &&& b))
theorem q_or32 {a b : UInt32} (hx : E.op x = some (.int .u32 a.toNat)) (hy : E.op y = some (.int .u32 b.toNat)) : Quiet P E.ev ⟨d, .binOp .or T x y T2, ty, pos, af, g⟩ K σ (.int .u32 (a ||| b).toNat) :=
  q_int hx hy fun w => by
    have h1 := ofInt32 a; have h2 := ofInt32 b
    simp only [binOp, Op.intBits, IntKind.bits, h1, h2, ne_eq, not_true_eq_false, ↓reduceIte]
    exact congrArg (fun n => Result.ok (Value.int .u32 n) w) (w32 (a ||| b))
theorem q_or64 {a b : UInt64} (hx : E.op x = some (.int .u64 a.toNat)) (hy : E.op y = some (.int .u64 b.toNat)) : Quiet P E.ev ⟨d, .binOp .or T x y T2, ty, pos, af, g⟩ K σ (.int .u64 (a ||| b).toNat) :=
  q_int hx hy fun w => by
    have h1 := ofInt64 a; have h2 := ofInt64 b
    simp only [binOp, Op.intBits, IntKind.bits, h1, h2, ne_eq, not_true_eq_false, ↓reduceIte]
    exact congrArg (fun n => Result.ok (Value.int .u64 n) w) (w64 (a ||| b))
theorem q_and64 {a b : UInt64} (hx : E.op x = some (.int .u64 a.toNat)) (hy : E.op y = some (.int .u64 b.toNat)) : Quiet P E.ev ⟨d, .binOp .and T x y T2, ty, pos, af, g⟩ K σ (.int .u64 (a &&& b).toNat) :=
  q_int hx hy fun w => by
    have h1 := ofInt64 a; have h2 := ofInt64 b
    simp only [binOp, Op.intBits, IntKind.bits, h1, h2, ne_eq, not_true_eq_false, ↓reduceIte]
    exact congrArg (fun n => Result.ok (Value.int .u64 n) w) (w64 (a &&& b))
theorem q_not32 {a : UInt32} (hx : E.op x = some (.int .u32 a.toNat)) : Quiet P E.ev ⟨d, .unOp .xor T x, ty, pos, af, g⟩ K σ (.int .u32 (~~~ a).toNat) := by
  intro σ' w L' _ _ _
  have h1 := ofInt32 a
  have h2 : BitVec.ofInt 32 (IntKind.u32.max) = BitVec.allOnes 32 := by decide
  have h3 : (BitVec.allOnes 32 ^^^ a.toBitVec) = (~~~ a).toBitVec := by rw [BitVec.allOnes_xor]; rfl
  simp only [execOp, Env.op_ev hx, Op.unary, Op.intBits, IntKind.bits, IntKind.signed, Bool.false_eq_true, ↓reduceIte, h1, h2, h3, Sem.run_bind, Sem.run_pure, Result.andThen_ok]
  exact congrArg (fun n => Result.ok (Next.value (Value.int .u32 n)) w) (w32 (~~~ a))
theorem q_shr32 {a : UInt32} {k' : IntKind} {n : Nat} (hx : E.op x = some (.int .u32 a.toNat)) (hy : E.op y = some (.int k' (n : Int))) (hn : n < 32) : Quiet P E.ev ⟨d, .binOp .shr T x y T2, ty, pos, af, g⟩ K σ (.int .u32 (a >>> UInt32.ofNat n).toNat) :=
  q_shr hx hy (by omega) (by
    have e : min ((n : Int)).toNat (IntKind.bits .u32) = n := by simp [IntKind.bits]; omega
    rw [e]
    have : ((2 : Int) ^ n) = ((2 ^ n : Nat) : Int) := by simp
    rw [this, fdiv_nat, UInt32.toNat_shiftRight, Nat.shiftRight_eq_div_pow]
    congr 3; simp; omega)
theorem q_shr64 {a : UInt64} {k' : IntKind} {n : Nat} (hx : E.op x = some (.int .u64 a.toNat)) (hy : E.op y = some (.int k' (n : Int))) (hn : n < 64) : Quiet P E.ev ⟨d, .binOp .shr T x y T2, ty, pos, af, g⟩ K σ (.int .u64 (a >>> UInt64.ofNat n).toNat) :=
  q_shr hx hy (by omega) (by
    have e : min ((n : Int)).toNat (IntKind.bits .u64) = n := by simp [IntKind.bits]; omega
    rw [e]
    have : ((2 : Int) ^ n) = ((2 ^ n : Nat) : Int) := by simp
    rw [this, fdiv_nat, UInt64.toNat_shiftRight, Nat.shiftRight_eq_div_pow]
    congr 3; simp; omega)
theorem q_shl32 {a : UInt32} {k' : IntKind} {n : Nat} (hx : E.op x = some (.int .u32 a.toNat)) (hy : E.op y = some (.int k' (n : Int))) (hn : n < 32) : Quiet P E.ev ⟨d, .binOp .shl T x y T2, ty, pos, af, g⟩ K σ (.int .u32 (a <<< UInt32.ofNat n).toNat) :=
  q_shl hx hy (by omega) (by
    have e : min ((n : Int)).toNat (IntKind.bits .u32) = n := by simp [IntKind.bits]; omega
    rw [e, u32_mod]
    have : ((2 : Int) ^ n) = ((2 ^ n : Nat) : Int) := by simp
    rw [this, ← Int.natCast_mul, UInt32.toNat_shiftLeft, Nat.shiftLeft_eq]
    have e2 : (UInt32.ofNat n).toNat % 32 = n := by simp; omega
    rw [e2]; omega)
theorem q_shl64 {a : UInt64} {k' : IntKind} {n : Nat} (hx : E.op x = some (.int .u64 a.toNat)) (hy : E.op y = some (.int k' (n : Int))) (hn : n < 64) : Quiet P E.ev ⟨d, .binOp .shl T x y T2, ty, pos, af, g⟩ K σ (.int .u64 (a <<< UInt64.ofNat n).toNat) :=
  q_shl hx hy (by omega) (by
    have e : min ((n : Int)).toNat (IntKind.bits .u64) = n := by simp [IntKind.bits]; omega
    rw [e, u64_mod]
    have : ((2 : Int) ^ n) = ((2 ^ n : Nat) : Int) := by simp
    rw [this, ← Int.natCast_mul, UInt64.toNat_shiftLeft, Nat.shiftLeft_eq]
    have e2 : (UInt64.ofNat n).toNat % 64 = n := by simp; omega
    rw [e2]; omega)
theorem conv_64_8 (a : UInt64) : IntKind.u8.wrap (a.toNat : Int) = (a.toUInt8.toNat : Int) := by rw [u8_mod, UInt64.toNat_toUInt8]; omega
theorem conv_32_8 (a : UInt32) : IntKind.u8.wrap (a.toNat : Int) = (a.toUInt8.toNat : Int) := by rw [u8_mod, UInt32.toNat_toUInt8]; omega
theorem conv_8_32 (a : UInt8) : IntKind.u32.wrap (a.toNat : Int) = (a.toUInt32.toNat : Int) := by rw [u32_mod, UInt8.toNat_toUInt32]; have := a.toNat_lt; omega
theorem conv_8_64 (a : UInt8) : IntKind.u64.wrap (a.toNat : Int) = (a.toUInt64.toNat : Int) := by rw [u64_mod, UInt8.toNat_toUInt64]; have := a.toNat_lt; omega
theorem conv_i_64 (n : Nat) : IntKind.u64.wrap (n : Int) = ((UInt64.ofNat n).toNat : Int) := by rw [u64_mod, UInt64.toNat_ofNat']; omega
theorem conv_64_i (a : UInt64) (h : a.toNat < 9223372036854775808) : IntKind.i64.wrap (a.toNat : Int) = (a.toNat : Int) := i64_in (by omega) (by omega)
theorem q_sliceArr {T e b o n m : Nat} {x : Operand} {lo hi : Option Operand} {l h : Nat} {lv hv : Option Value} {a' : Addr} (hx : E.op x = some (.pointer (some ⟨b, o, none⟩))) (hU : ∀ w, (underlying T).run P w = .ok (.array n e) w)
    (hS : ∀ w, (sizeOf e).run P w = .ok m w) (hlo : lo.map E.ev = lv) (hhi : hi.map E.ev = hv) (hl : match lv with | none => l = 0 | some v => v = .int .i64 (l : Int)) (hh : match hv with | none => h = n | some v => v = .int .i64 (h : Int)) (hlh : l ≤ h) (hhc : h ≤ n)
    (ha : (if n = l then ⟨b, o, none⟩ else ⟨b, o + l * m, none⟩ : Addr) = a') : Quiet P E.ev ⟨d, .slice T x lo hi none, ty, pos, af, g⟩ K σ (.slice (some a') (h - l) (n - l)) := by
  intro σ' w L' _ _ _
  subst ha
  have hadd : (Addr.mk b o none).add (l * m) = ⟨b, o + l * m, none⟩ := by unfold Addr.add; split <;> simp_all
  have hadd0 : (Addr.mk b o none).add 0 = ⟨b, o, none⟩ := rfl
  simp only [execOp, Env.op_ev hx, Instr.sliceAt, Sem.run_bind, hU, Result.andThen_ok, hlo, hhi, Option.map_none, Instr.sureAddr, Sem.run_pure]
  by_cases hcl : n = l
  · cases lv with
    | none =>
      cases hv with
      | none => subst hl; subst hh; simp [Instr.sliceBounds, hS, hcl]
      | some v => simp only at hh; subst hh; subst hl; simp [Instr.sliceBounds, hS, Instr.sliceBound, asIntOf, hhc, hcl]; omega
    | some u =>
      simp only at hl; subst hl
      cases hv with
      | none => simp only at hh; subst hh; simp [Instr.sliceBounds, hS, Instr.sliceBound, asIntOf, hcl]
      | some v => simp only at hh; subst hh; simp [Instr.sliceBounds, hS, Instr.sliceBound, asIntOf, hlh, hcl]; intro hlt; omega
  · cases lv with
    | none =>
      cases hv with
      | none => subst hl; subst hh; simp [Instr.sliceBounds, hS, hcl, hadd0]
      | some v => simp only at hh; subst hh; subst hl; simp [Instr.sliceBounds, hS, Instr.sliceBound, asIntOf, hhc, hcl, hadd0]
    | some u =>
      simp only at hl; subst hl
      cases hv with
      | none => simp only at hh; subst hh; simp [Instr.sliceBounds, hS, Instr.sliceBound, asIntOf, hlh, hcl, hadd]
      | some v => simp only at hh; subst hh; simp [Instr.sliceBounds, hS, Instr.sliceBound, asIntOf, hlh, hhc, hcl, hadd]
end ops
section
variable {P : Program} {E : Env} {σ : Sto} {L L' : SHeap} {d : Option Tmp} {ty : TypeId} {pos : String} {af : Array Edge} {g : Option (Nat × Bool)}
theorem n_copy {T e T2 sz b o dn dc n m cx t : Nat} {x y : Operand} {px : Option Addr} {cs cs' new : List Value} (hx : E.op x = some (.slice (some ⟨b, o, none⟩) dn dc)) (hy : E.op y = some (.slice px m cx))
    (hU : ∀ w, (underlying T).run P w = .ok (.slice e) w) (hS : ∀ w, (sizeOf e).run P w = .ok sz w) (hn : Nat.min m dn = n) (hnew : Cells σ L (.slice px m cx) n sz new) (hone : new.all oneCell = true)
    (hu : Upd L b (.cells cs.toArray t (0, 0)) (.cells cs'.toArray t (0, 0)) L') (hc : PutAt cs o new cs') :
    Noisy P E.ev ⟨d, .call ⟨.builtin .copy, #[x, y], #[T, T2]⟩, ty, pos, af, g⟩ σ L fun v σ' L2 => σ' = σ ∧ L2 = L' ∧ v = .int .i64 (n : Int) := by
  intro w hst
  have hb := hst.own _ _ hu.mem
  have hfc := firstCells_run (P := P) hnew (Sto.le_refl _) (Keep.refl _) hst
  obtain ⟨a, mm, z, e1, e2, e3, e4⟩ := hc
  obtain ⟨w', h1, h2, h3, h4'⟩ := run_storeRow (P := P) o new 0 w cs.toArray hb hone (by simp [e1, e3, e4]) Thaw.zero
  refine .inl ⟨_, w', ?_, σ, L', Sto.le_refl _, ?_, rfl, rfl, rfl⟩
  · simp only [execOp, resolve, Sem.run_bind, Sem.run_pure, Result.andThen_ok, invoke, builtin, Builtin.copy_, List.map_toArray, List.map_cons, List.map_nil, Env.op_ev hx, Env.op_ev hy]
    simp [hU, hS, Builtin.lenOf, hn, hfc, h1, goInt]
  · refine hst.upd hu ?_ h3 h4'
    rw [h2]
    have h4 := setFrom_toList new cs.toArray o (by simp [e1, e3, e4])
    have : (setFrom cs.toArray (o + 0) new) = cs'.toArray := by
      apply Array.toList_inj.1
      rw [Nat.add_zero, h4]
      subst e1 e2 e3
      simp [← e4]
    rw [this]
end
end Go.Eng
namespace Go.Eng
open Go
inductive ResOf (P : Program) (E : Env) (σ : Sto) (L : SHeap) : List ResultVar → List Value → Prop where
  | nil : ResOf P E σ L [] []
  | tmp {t v rs vs} (h : E.get t = some v) (hr : ResOf P E σ L rs vs) : ResOf P E σ L (.tmp t :: rs) (v :: vs)
  | cellA {t T b o n cs ws T' fr rs vs} (h : E.get t = some (.pointer (some ⟨b, o, none⟩))) (hA : ∀ w, (isAgg T).run P w = .ok true w) (hS : ∀ w, (sizeOf T).run P w = .ok n w)
      (hk : Kn σ L b (.cells (cs : List Value).toArray T' fr)) (hp : Part cs o n ws) (hr : ResOf P E σ L rs vs) : ResOf P E σ L (.cell t T :: rs) (.agg ws.toArray :: vs)
  | cell {t T b o cs v T' fr rs vs} (h : E.get t = some (.pointer (some ⟨b, o, none⟩))) (hA : ∀ w, (isAgg T).run P w = .ok false w)
      (hk : Kn σ L b (.cells (cs : List Value).toArray T' fr)) (hp : At cs o v) (hr : ResOf P E σ L rs vs) : ResOf P E σ L (.cell t T :: rs) (v :: vs)
def tupOf : List Value → Value
  | [v] => v
  | vs => .tuple vs.toArray
theorem run_resOf {P : Program} {E : Env} {σ : Sto} {L : SHeap} {rs : List ResultVar} {vs : List Value} {n : Nat} {tmps : Array Value} {w : World} (h : ResOf P E σ L rs vs) (hr : Rel n E tmps) (hst : St σ w L) {g : ResultVar → Sem Value}
    (hg1 : ∀ t, g (.tmp t) = pure (tmps.getD t undef)) (hg2 : ∀ a t, g (.cell a t) = (do loadVar t (← asAddr (tmps.getD a undef)))) : (rs.mapM (m := Sem) g).run P w = .ok vs w := by
  have hev : ∀ t v, E.get t = some v → tmps.getD t undef = v := fun t v h => by
    have := hr.2 t v h
    simp [Array.getD_eq_getD_getElem?, this]
  induction h with
  | nil => simp
  | tmp h _ ih => rw [List.mapM_cons, hg1, hev _ _ h]; simp [ih]
  | @cellA t T b o n cs ws T' fr rs vs h hA hS hk hp _ ih =>
    have hh := hk.heap (Sto.le_refl _) (Keep.refl _) hst
    have := run_loadVarA (P := P) (T := T) (o := o) (n := n) hh hA hS (by simpa using hp.2)
    rw [hp.arr] at this
    rw [List.mapM_cons, hg2, hev _ _ h]; simp [asAddr, this, ih]
  | @cell t T b o cs v T' fr rs vs h hA hk hp _ ih =>
    have hh := cell_of (o := o) (hk.heap (Sto.le_refl _) (Keep.refl _) hst)
    rw [List.mapM_cons, hg2, hev _ _ h]; simp [asAddr, loadVar, hA, hh, hp.get, ih]
theorem run_resOf' {P : Program} {E : Env} {σ : Sto} {L : SHeap} {rs : List ResultVar} {vs : List Value} {n : Nat} {tmps : Array Value} {w : World} {fn : Func} (h : ResOf P E σ L rs vs) (hr : Rel n E tmps) (hst : St σ w L) (hrs : fn.results = rs.toArray) :
    (results fn tmps).run P w = .ok (tupOf vs) w := by
  unfold results
  rw [hrs, List.mapM_toArray]
  simp only [Sem.run_bind, Sem.run_map]
  rw [run_resOf h hr hst (fun _ => rfl) (fun _ _ => rfl)]
  match vs with
  | [] => simp [tupOf]
  | [v] => simp [tupOf]
  | u :: v :: vs => simp [tupOf]
theorem go_retR {c : Cx} {E : Env} {σ σ0 : Sto} {L : SHeap} {k : List Item} {fn : Func} {Q : Value → Sto → SHeap → Prop} (hf : c.P.funcs[c.f]? = some fn) {rs : List ResultVar} (hrs : fn.results = rs.toArray)
    (hR : c.R = ctrR σ0 Q) {vs : List Value} (hv : ResOf c.P E σ L rs vs) {L' : SHeap} (hs : L'.Sublist L) (hle : Sto.le σ0 σ) (hQ : Q (tupOf vs) σ L') : Go c (.code .ret :: k) E σ L := by
  intro a w hd hr hst
  refine arr_ret hf hd (run_resOf' hv hr hst hrs) ?_
  rw [hR]
  exact ⟨_, rfl, σ, L', hle, hst.drop hs, hQ⟩
theorem go_endR {c : Cx} {E : Env} {σ σ0 : Sto} {L : SHeap} {fn : Func} {Q : Value → Sto → SHeap → Prop} (hf : c.P.funcs[c.f]? = some fn) {rs : List ResultVar} (hrs : fn.results = rs.toArray)
    (hR : c.R = ctrR σ0 Q) {vs : List Value} (hv : ResOf c.P E σ L rs vs) {L' : SHeap} (hs : L'.Sublist L) (hle : Sto.le σ0 σ) (hQ : Q (tupOf vs) σ L') : Go c [] E σ L := by
  intro a w hd hr hst
  refine arr_end hf hd (run_resOf' hv hr hst hrs) ?_
  rw [hR]
  exact ⟨_, rfl, σ, L', hle, hst.drop hs, hQ⟩
section
variable {P : Program} {E : Env} {σ : Sto} {K L L' : SHeap} {d : Option Tmp} {ty : TypeId} {pos : String} {af : Array Edge} {g : Option (Nat × Bool)}
theorem q_indexV {T e n : Nat} {x y : Operand} {k : IntKind} {i : Int} {j : Nat} {cs : List Value} {v : Value} (hx : E.op x = some (.agg cs.toArray)) (hy : E.op y = some (.int k i)) (hU : ∀ w, (underlying T).run P w = .ok (.array n e) w)
    (hS : ∀ w, (sizeOf e).run P w = .ok 1 w) (hA : ∀ w, (isAgg e).run P w = .ok false w) (hi : i = (j : Int)) (hj : j < n) (hv : At cs j v) : Quiet P E.ev ⟨d, .index T x y, ty, pos, af, g⟩ K σ v := by
  intro σ' w L' _ _ _
  subst hi
  simp [execOp, Env.op_ev hx, Env.op_ev hy, Instr.index, asIntOf, hU, hS, hA, hj, part, hv.get]
theorem n_mark {T b n c : Nat} {x : Operand} {cs : List Value} {t : TypeId} (hx : E.op x = some (.slice (some ⟨b, 0, none⟩) n c)) (hU : ∀ w, (underlying T).run P w = .ok (.slice 5) w) (hB : ∀ w, (underlying 5).run P w = .ok (.int .u8) w)
    (hu : Upd L b (.cells cs.toArray t (0, 0)) (.cells cs.toArray t (cs.length, cs.length + 1)) L') :
    Noisy P E.ev ⟨d, .convert T T x, ty, pos, af, g⟩ σ L fun v σ' L2 => σ' = σ ∧ L2 = L' ∧ v = .slice (some ⟨b, 0, none⟩) n c := by
  intro w hst
  have hb := hst.own _ _ hu.mem
  have hfr : (w.freeze ⟨b, cs.length, none⟩ 1).heap[b]? = some (.cells cs.toArray t (cs.length, cs.length + 1)) ∧ ∀ i, i ≠ b → (w.freeze ⟨b, cs.length, none⟩ 1).heap[i]? = w.heap[i]? := by
    refine ⟨?_, fun i hi => ?_⟩
    · simp [World.freeze, Array.getElem?_modify, hb]
    · simp [World.freeze, Array.getElem?_modify, Ne.symm hi]
  refine .inl ⟨_, w.freeze ⟨b, cs.length, none⟩ 1, ?_, σ, L', Sto.le_refl _, hst.upd hu hfr.1 hfr.2 (Amb.freeze _ _ _), rfl, rfl, rfl⟩
  simp [execOp, Env.op_ev hx, convert, hU, hB, markStringish, World.shape?, hb]
theorem n_makeSlice {T e n c : Nat} {x y : Operand} {z : Value} {i : TypeInfo} (hx : E.op x = some (.int .i64 (n : Int))) (hy : E.op y = some (.int .i64 (c : Int))) (hU : ∀ w, (underlying T).run P w = .ok (.slice e) w) (hi : ∀ w, (typeInfo e).run P w = .ok i w)
    (hS : ∀ w, (sizeOf e).run P w = .ok 1 w) (hz : ∀ w, (zeroValue e).run P w = .ok z w) (hone : oneCell z = true) (hnc : n ≤ c) (hroom : ((i.bytes * c : Nat) : Int) ≤ 281474976710656) (hc : c < 9223372036854775808) :
    Noisy P E.ev ⟨d, .makeSlice T x y, ty, pos, af, g⟩ σ L fun v σ' L' => ∃ Lp, σ' = σ ∧ L' = Lp ++ L ∧ Own e 1 v n (List.replicate n z) Lp := by
  intro w hst
  have hn1 : IntKind.i64.wrap (n : Int) = n := i64_in (by omega) (by omega)
  have hc1 : IntKind.i64.wrap (c : Int) = c := i64_in (by omega) (by omega)
  have hcells : z.cells = #[z] := by cases z <;> simp_all [oneCell, Value.cells]
  have hb0 : ¬ (281474976710656 : Int) < i.bytes * (c : Int) := by rw [← Int.natCast_mul]; omega
  have hb1 : ¬ (281474976710656 : Int) < i.bytes * (n : Int) := by
    have h2 : i.bytes * n ≤ i.bytes * c := Nat.mul_le_mul_left _ hnc
    rw [← Int.natCast_mul]; omega
  have hnn : ¬ (c : Int) < n := by omega
  have key : ∀ za : Array Value, (c ≠ 0 → za = #[z]) → (Array.range c).map (fun j => za[j % za.size]!) = (List.replicate n z ++ List.replicate (c - n) z).toArray := by
    intro za hza
    apply Array.ext
    · simp; omega
    · intro j h1 h2
      have hc0 : c ≠ 0 := by simp at h1; omega
      have hz1 := hza hc0
      subst hz1
      simp only [List.getElem_toArray, Array.getElem_map, List.replicate_append_replicate, List.getElem_replicate]
      simp [Nat.mod_one]
  refine .inl ⟨.slice (some ⟨w.heap.size, 0, none⟩) n c, { w with heap := w.heap.push (.cells (List.replicate n z ++ List.replicate (c - n) z).toArray e (0, 0)) }, ?_, σ, _, Sto.le_refl _, hst.push _, [_], rfl, rfl, ?_⟩
  · simp only [execOp, Env.op_ev hx, Env.op_ev hy, Instr.makeSlice, asInt, asIntOf, Sem.run_bind, Sem.run_pure, Result.andThen_ok, hU, hi, hS, hn1, hc1, Sem.run_ite]
    have e1 : (decide ((c : Int) < 0) || decide (i.bytes * (c : Int) > 2 ^ 48)) = false := by
      rw [Bool.or_eq_false_iff]; exact ⟨decide_eq_false (by omega), decide_eq_false hb0⟩
    have e2 : (decide ((n : Int) < 0) || decide ((n : Int) > c)) = false := by
      rw [Bool.or_eq_false_iff]; exact ⟨decide_eq_false (by omega), decide_eq_false (by omega)⟩
    simp only [e1, Bool.false_or, e2, Bool.false_eq_true, ↓reduceIte, run_askRoom, Result.andThen_ok, Int.toNat_natCast, Nat.mul_one]
    by_cases h0 : c = 0
    · subst h0
      have hn0 : n = 0 := by omega
      subst hn0
      have e0 : (Array.range 0) = #[] := rfl
      simp [newRow, e0]
    · simp only [h0, ↓reduceIte, hz, Result.andThen_ok, hcells]
      rw [key _ (fun _ => rfl)]
      simp [newRow]
  · exact .mk (by simp) (by simp; omega)
theorem q_eqNil {T T2 e n c : Nat} {x y : Operand} {p : Option Addr} (hx : E.op x = some (.slice p n c)) (hy : E.op y = some (.slice none 0 0)) (hU : P.underlying T = some (.slice e)) :
    Quiet P E.ev ⟨d, .binOp .eql T x y T2, ty, pos, af, g⟩ K σ (.bool p.isNone) := by
  intro σ' w L' _ _ _
  have := Lib.run_eql_slice_nil (P := P) w T e p n c 0 0 hU
  simp [execOp, eqGuard, Env.op_ev hx, Env.op_ev hy, this]
end
end Go.Eng
namespace Go.Eng
open Go Go.Proofs
theorem mix : Tryz.prog.follows .mixedOrders = true := by kernel_rfl
abbrev Bts := List UInt8
def bv (b : UInt8) : Value := .int .u8 (b.toNat : Int)
def bcells (xs : Bts) : List Value := xs.map bv
theorem bcells_len (xs : Bts) : (bcells xs).length = xs.length := by simp [bcells]
theorem bcells_app (xs ys : Bts) : bcells (xs ++ ys) = bcells xs ++ bcells ys := by simp [bcells]
theorem bcells_one (xs : Bts) : (bcells xs).all oneCell = true := by simp [bcells, oneCell, bv]
theorem bcells_at {xs : Bts} {i : Nat} (h : i < xs.length) : At (bcells xs) i (bv xs[i]) := .of (by simp [bcells, h])
structure Bytes (σ : Sto) (v : Value) (xs : Bts) : Prop where
  out : ∃ p c, v = .slice p xs.length c ∧ xs.length ≤ c ∧ Cells σ [] v xs.length 1 (bcells xs)
theorem Cells.up {σ σ' : Sto} {K : SHeap} {v : Value} {n sz : Nat} {cs : List Value} (h : Cells σ K v n sz cs) (hle : Sto.le σ σ') : Cells σ' K v n sz cs := by
  obtain ⟨h1, p, m, c, h2, h3, h4⟩ := h
  refine ⟨h1, p, m, c, h2, h3, ?_⟩
  rcases h4 with h4 | ⟨b, o, ds, T, fr, h5, h6, h7⟩
  · exact .inl h4
  · exact .inr ⟨b, o, ds, T, fr, h5, h6.up hle, h7⟩
theorem Cells.more {σ : Sto} {K K' : SHeap} {v : Value} {n sz : Nat} {cs : List Value} (h : Cells σ K v n sz cs) (hk : Keep K K') : Cells σ K' v n sz cs := by
  obtain ⟨h1, p, m, c, h2, h3, h4⟩ := h
  refine ⟨h1, p, m, c, h2, h3, ?_⟩
  rcases h4 with h4 | ⟨b, o, ds, T, fr, h5, h6, h7⟩
  · exact .inl h4
  · exact .inr ⟨b, o, ds, T, fr, h5, h6.imp id (hk b _), h7⟩
theorem Keep.nil (K : SHeap) : Keep [] K := fun _ _ h => by simp at h
theorem Bytes.up {σ σ' : Sto} {v : Value} {xs : Bts} (h : Bytes σ v xs) (hle : Sto.le σ σ') : Bytes σ' v xs :=
  ⟨let ⟨p, c, h1, h2, h3⟩ := h.out; ⟨p, c, h1, h2, h3.up hle⟩⟩
theorem own_one {T n : Nat} {v : Value} {cs : List Value} {Lp : SHeap} (h : Own T 1 v (n + 1) cs Lp) : ∃ b c junk, v = .slice (some ⟨b, 0, none⟩) (n + 1) c ∧ Lp = [(b, .cells (cs ++ junk).toArray T (0, 0))] ∧ (cs ++ junk).length = c * 1 := by
  cases h with
  | mk hn hc => exact ⟨_, _, _, rfl, rfl, hc⟩
theorem Own.val {T sz n : Nat} {v : Value} {cs : List Value} {Lp : SHeap} (h : Own T sz v n cs Lp) : ∃ p c, v = .slice p n c := by
  cases h with
  | nil => exact ⟨_, _, rfl⟩
  | mk _ _ => exact ⟨_, _, rfl⟩
theorem Bytes.one {σ : Sto} {v : Value} {xs : Bts} (h : Bytes σ v xs) : oneCell v = true := by obtain ⟨p, c, rfl, _⟩ := h.out; rfl
theorem go_give {c : Cx} {todo : List Item} {E : Env} {σ : Sto} {L0 Lp : SHeap} {T sz n : Nat} {v : Value} {cs : List Value} (hown : Own T sz v n cs Lp)
    (h : ∀ σ', Sto.le σ σ' → (∃ p m, v = .slice p n m ∧ n ≤ m) → Cells σ' [] v n sz cs → Go c todo E σ' L0) (hsz : 0 < sz) : Go c todo E σ (Lp ++ L0) := by
  cases hown with
  | nil => exact h σ (Sto.le_refl _) ⟨none, 0, rfl, Nat.le_refl _⟩ ⟨by simp, _, _, _, rfl, Nat.le_refl _, .inl rfl⟩
  | @mk b n k cs junk hn hc =>
    refine go_freeze fun hle => h _ hle ⟨_, _, rfl, ?_⟩ ⟨hn, _, _, _, rfl, Nat.le_refl _, .inr ⟨b, 0, _, T, (0, 0), rfl, .sto (Sto.add_get _ _ _), ?_⟩⟩
    · simp only [List.length_append, hn] at hc
      exact Nat.le_of_mul_le_mul_right (by omega : n * sz ≤ k * sz) hsz
    · have := Part.mk (a := []) (vs := cs) (b := junk) (i := 0) (n := n * sz) rfl hn
      simpa using this
section
variable {c : Cx} {ops : Array Oper} {l : List Oper} {k : List Item} {E E0 : Env} {σ : Sto} {L L' Lp L0 K : SHeap} {V : List Nat} {p : Nat × Obj}
theorem gol_perm (L' : SHeap) (hp : L.Perm L') (h : GoL c ops l k E σ L') : GoL c ops l k E σ L :=
  fun is his => go_perm L' hp (h is his)
theorem gol_drop (L' : SHeap) (hp : L'.Sublist L) (h : GoL c ops l k E σ L') : GoL c ops l k E σ L :=
  fun is his => go_drop L' hp (h is his)
theorem gol_in (h : GoL c ops l k E σ (Lp ++ p :: L0)) : GoL c ops l k E σ (p :: (Lp ++ L0)) := gol_perm _ List.perm_middle.symm h
theorem gol_out (h : GoL c ops l k E σ (Lp ++ L0)) : GoL c ops l k E σ (Lp ++ p :: L0) := gol_drop _ ((List.Sublist.refl _).append (List.sublist_cons_self _ _)) h
theorem go_out (h : Go c k E σ (Lp ++ L0)) : Go c k E σ (Lp ++ p :: L0) := go_drop _ ((List.Sublist.refl _).append (List.sublist_cons_self _ _)) h
theorem go_drop1 (h : Go c k E σ L) : Go c k E σ (p :: L) := go_drop _ (List.sublist_cons_self _ _) h
theorem gol_drop1 (h : GoL c ops l k E σ L) : GoL c ops l k E σ (p :: L) := gol_drop _ (List.sublist_cons_self _ _) h
end
theorem Cells.new {σ : Sto} {K : SHeap} {b n sz c : Nat} {l : List Value} {T : TypeId} {fr : Nat × Nat} (h : Kn σ K b (.cells l.toArray T fr)) (hl : l.length = n * sz) : Cells σ K (.slice (some ⟨b, 0, none⟩) n c) n sz l :=
  ⟨hl, _, _, _, rfl, Nat.le_refl _, .inr ⟨b, 0, _, T, fr, rfl, h, by
    have := Part.mk (a := []) (vs := l) (b := []) (i := 0) (n := n * sz) rfl hl
    simpa using this⟩⟩
theorem Cells.get {σ : Sto} {K : SHeap} {p : Option Addr} {m c n sz : Nat} {cs : List Value} (h : Cells σ K (.slice p m c) n sz cs) (hne : cs ≠ []) :
    ∃ b o ds T fr, p = some ⟨b, o, none⟩ ∧ Kn σ K b (.cells ds T fr) ∧ Part ds.toList o (n * sz) cs := by
  obtain ⟨h1, p', m', c', h2, h3, h4⟩ := h
  cases h2
  exact h4.resolve_left hne
theorem cells_nil {σ : Sto} {K : SHeap} {n c sz : Nat} {cs : List Value} (h : Cells σ K (.slice none n c) n sz cs) (hsz : 0 < sz) : n = 0 ∧ cs = [] := by
  have h0 : cs = [] := Classical.byContradiction fun hne => by
    obtain ⟨b, o, ds, T, fr, h1, _⟩ := h.get hne
    cases h1
  have := h.1
  rw [h0] at this
  simp only [List.length_nil] at this
  refine ⟨?_, h0⟩
  rcases Nat.mul_eq_zero.1 this.symm with e | e
  · exact e
  · omega
theorem Part.at {l vs : List Value} {o n i : Nat} {v : Value} (h : Part l o n vs) (hv : At vs i v) : At l (o + i) v := by
  obtain ⟨h1, h2⟩ := h
  have := hv.get
  subst h1
  refine .of ?_
  rw [List.getElem?_take] at this
  split at this
  · simpa [List.getElem?_drop] using this
  · simp at this
theorem Part.part {l vs us : List Value} {o n i m : Nat} (h : Part l o n vs) (hv : Part vs i m us) : Part l (o + i) m us := by
  obtain ⟨h1, h2⟩ := h
  obtain ⟨h3, h4⟩ := hv
  subst h1
  refine ⟨?_, ?_⟩
  · rw [← h3, List.drop_take, List.take_take, List.drop_drop]
    simp only [List.length_take, List.length_drop] at h4
    congr 1; omega
  · simp only [List.length_take, List.length_drop] at h4; omega
theorem Part.all {vs : List Value} {n : Nat} (h : vs.length = n) : Part vs 0 n vs := by subst h; exact ⟨by simp, by simp⟩
theorem PutAt.all {m vs : List Value} (h : m.length = vs.length) : PutAt m 0 vs vs := ⟨[], m, [], (List.append_nil _).symm, (List.append_nil _).symm, rfl, h⟩
theorem PutAt.mid {a m b vs : List Value} {i : Nat} (ha : a.length = i) (h : m.length = vs.length) : PutAt (a ++ (m ++ b)) i vs (a ++ (vs ++ b)) := ⟨a, m, b, rfl, rfl, ha, h⟩
theorem cells_part {l cs : List Value} {o n sz i : Nat} (h : Part l o (n * sz) cs) (hi : i < n) : Part l (o + i * sz) sz ((cs.drop (i * sz)).take sz) := by
  have hl : cs.length = n * sz := by obtain ⟨h1, h2⟩ := h; rw [← h1]; simp; omega
  have h3 : (i + 1) * sz ≤ n * sz := Nat.mul_le_mul_right _ hi
  rw [Nat.add_mul] at h3
  exact h.part ⟨rfl, by omega⟩
section
variable {c : Cx} {ops : Array Oper} {l : List Oper} {k : List Item} {E E0 : Env} {V : List Nat} {σ : Sto} {L K : SHeap} {d : Tmp} {ty : TypeId} {pos : String} {af : Array Edge}
theorem gol_freeze {b : Nat} {o : Obj} (h : Sto.le σ (σ.add b o) → GoL c ops l k E (σ.add b o) L) : GoL c ops l k E σ ((b, o) :: L) :=
  fun is his a w hd hr hst => h (Sto.le_add (hst.off b o List.mem_cons_self)) is his a w hd hr hst.freeze
theorem gol_frz {b : Nat} {o : Obj} (h : ∀ σ', Sto.le σ σ' → σ' b = some o → GoL c ops l k E σ' L) : GoL c ops l k E σ ((b, o) :: L) := gol_freeze fun hle => h _ hle (Sto.add_get _ _ _)
theorem go_frz {b : Nat} {o : Obj} (h : ∀ σ', Sto.le σ σ' → σ' b = some o → Go c k E σ' L) : Go c k E σ ((b, o) :: L) := go_freeze fun hle => h _ hle (Sto.add_get _ _ _)
theorem Bytes.blk {σ : Sto} {b n m : Nat} {xs : Bts} {T : TypeId} {fr : Nat × Nat} (h : σ b = some (.cells (bcells xs).toArray T fr)) (hn : xs.length = n) (hm : n ≤ m) : Bytes σ (.slice (some ⟨b, 0, none⟩) n m) xs := by
  subst hn
  exact ⟨_, _, rfl, hm, Cells.new (.sto h) (by rw [bcells_len, Nat.mul_one])⟩
theorem smark {T b n : Nat} {x : Operand} {xs : Bts} {t : TypeId} (hok : opOk c.n E ⟨some d, .convert T T x, ty, pos, af, none⟩ = true) (hx : E.op x = some (.slice (some ⟨b, 0, none⟩) n n)) (hU : ∀ w, (underlying T).run c.P w = .ok (.slice 5) w) (hB : ∀ w, (underlying 5).run c.P w = .ok (.int .u8) w)
    (hn : xs.length = n) (h : ∀ σ', Sto.le σ σ' → Bytes σ' (.slice (some ⟨b, 0, none⟩) n n) xs → GoL c ops l k ((d, .slice (some ⟨b, 0, none⟩) n n) :: E) σ' L) :
    GoL c ops (⟨some d, .convert T T x, ty, pos, af, none⟩ :: l) k E σ ((b, .cells (bcells xs).toArray t (0, 0)) :: L) :=
  sn hok (n_mark hx hU hB .hd) fun v σ' L' _ ⟨e1, e2, e3⟩ => by
    subst e1 e2 e3
    exact gol_freeze fun hle => h _ hle (.blk (Sto.add_get _ _ _) hn (Nat.le_refl _))
end
def be64 (x : UInt64) : Bts := [(x >>> 56).toUInt8, (x >>> 48).toUInt8, (x >>> 40).toUInt8, (x >>> 32).toUInt8, (x >>> 24).toUInt8, (x >>> 16).toUInt8, (x >>> 8).toUInt8, x.toUInt8]
def be32 (x : UInt32) : Bts := [(x >>> 24).toUInt8, (x >>> 16).toUInt8, (x >>> 8).toUInt8, x.toUInt8]
end Go.Eng
namespace Go.Eng
open Go
def K256 : List UInt32 := [
  0x428a2f98, 0x71374491, 0xb5c0fbcf, 0xe9b5dba5, 0x3956c25b, 0x59f111f1, 0x923f82a4, 0xab1c5ed5,
  0xd807aa98, 0x12835b01, 0x243185be, 0x550c7dc3, 0x72be5d74, 0x80deb1fe, 0x9bdc06a7, 0xc19bf174,
  0xe49b69c1, 0xefbe4786, 0x0fc19dc6, 0x240ca1cc, 0x2de92c6f, 0x4a7484aa, 0x5cb0a9dc, 0x76f988da,
  0x983e5152, 0xa831c66d, 0xb00327c8, 0xbf597fc7, 0xc6e00bf3, 0xd5a79147, 0x06ca6351, 0x14292967,
  0x27b70a85, 0x2e1b2138, 0x4d2c6dfc, 0x53380d13, 0x650a7354, 0x766a0abb, 0x81c2c92e, 0x92722c85,
  0xa2bfe8a1, 0xa81a664b, 0xc24b8b70, 0xc76c51a3, 0xd192e819, 0xd6990624, 0xf40e3585, 0x106aa070,
  0x19a4c116, 0x1e376c08, 0x2748774c, 0x34b0bcb5, 0x391c0cb3, 0x4ed8aa4a, 0x5b9cca4f, 0x682e6ff3,
  0x748f82ee, 0x78a5636f, 0x84c87814, 0x8cc70208, 0x90befffa, 0xa4506ceb, 0xbef9a3f7, 0xc67178f2]
def rotr (x : UInt32) (n : Nat) : UInt32 := (x <<< UInt32.ofNat (32 - n)) ||| (x >>> UInt32.ofNat n)
def fold32 (l : Bts) : UInt32 := l.foldl (fun n c => n <<< UInt32.ofNat 8 ||| c.toUInt32) 0
def fold64 (l : Bts) : UInt64 := l.foldl (fun n c => n <<< UInt64.ofNat 8 ||| c.toUInt64) 0
theorem fold32_succ {l : Bts} {k : Nat} (h : k < l.length) : fold32 (l.take (k + 1)) = fold32 (l.take k) <<< UInt32.ofNat 8 ||| l[k].toUInt32 := by
  rw [List.take_succ_eq_append_getElem h]; unfold fold32; rw [List.foldl_append]; rfl
theorem fold64_succ {l : Bts} {k : Nat} (h : k < l.length) : fold64 (l.take (k + 1)) = fold64 (l.take k) <<< UInt64.ofNat 8 ||| l[k].toUInt64 := by
  rw [List.take_succ_eq_append_getElem h]; unfold fold64; rw [List.foldl_append]; rfl
def wordAt (rest : Bts) (t : Nat) : UInt32 := fold32 ((rest.drop (4 * t)).take 4)
def nextW (rest : Bts) (ws : List UInt32) : UInt32 :=
  let t := ws.length
  if t < 16 then wordAt rest t else
    let x := ws.getD (t - 15) 0
    let y := ws.getD (t - 2) 0
    ws.getD (t - 16) 0 + (rotr x 7 ^^^ rotr x 18 ^^^ x >>> UInt32.ofNat 3) + ws.getD (t - 7) 0 + (rotr y 17 ^^^ rotr y 19 ^^^ y >>> UInt32.ofNat 10)
def sched (rest : Bts) : Nat → List UInt32
  | 0 => []
  | t + 1 => sched rest t ++ [nextW rest (sched rest t)]
theorem sched_len (rest : Bts) (t : Nat) : (sched rest t).length = t := by
  induction t with
  | zero => rfl
  | succ t ih => simp [sched, ih]
structure S8 where
  a : UInt32
  b : UInt32
  c : UInt32
  d : UInt32
  e : UInt32
  f : UInt32
  g : UInt32
  h : UInt32
def S8.list (s : S8) : List UInt32 := [s.a, s.b, s.c, s.d, s.e, s.f, s.g, s.h]
def S8.t1 (s : S8) (k w : UInt32) : UInt32 := s.h + (rotr s.e 6 ^^^ rotr s.e 11 ^^^ rotr s.e 25) + (s.e &&& s.f ^^^ ~~~ s.e &&& s.g) + k + w
def S8.t2 (s : S8) : UInt32 := (rotr s.a 2 ^^^ rotr s.a 13 ^^^ rotr s.a 22) + (s.a &&& s.b ^^^ s.a &&& s.c ^^^ s.b &&& s.c)
def S8.rnd (s : S8) (k w : UInt32) : S8 := ⟨s.t1 k w + s.t2, s.a, s.b, s.c, s.d + s.t1 k w, s.e, s.f, s.g⟩
def S8.rounds (s : S8) (ws : List UInt32) : Nat → S8
  | 0 => s
  | t + 1 => (s.rounds ws t).rnd (K256.getD t 0) (ws.getD t 0)
def S8.plus (s v : S8) : S8 := ⟨s.a + v.a, s.b + v.b, s.c + v.c, s.d + v.d, s.e + v.e, s.f + v.f, s.g + v.g, s.h + v.h⟩
def S8.block (s : S8) (rest : Bts) : S8 := s.plus (s.rounds (sched rest 64) 64)
def S8.init : S8 := ⟨0x6a09e667, 0xbb67ae85, 0x3c6ef372, 0xa54ff53a, 0x510e527f, 0x9b05688c, 0x1f83d9ab, 0x5be0cd19⟩
def uv (x : UInt32) : Value := .int .u32 (x.toNat : Int)
def ucells (xs : List UInt32) : List Value := xs.map uv
theorem ucells_len (xs : List UInt32) : (ucells xs).length = xs.length := by simp [ucells]
theorem ucells_one (xs : List UInt32) : (ucells xs).all oneCell = true := by simp [ucells, oneCell, uv]
theorem ucells_at {xs : List UInt32} {i : Nat} (h : i < xs.length) : At (ucells xs) i (uv (xs.getD i 0)) := .of (by simp [ucells, h])
def hashObj (s : S8) (rest : Bts) (n : UInt64) : Obj := .cells (ucells s.list ++ (bcells rest ++ [Value.int .u64 (n.toNat : Int)])).toArray 261 (0, 0)
theorem zero303 (w : World) : (zeroValue 303).run Go.Proofs.Tryz.prog w = .ok (.agg (ucells (List.replicate 64 0)).toArray) w := by rw [Go.Proofs.Tryz.zeroValue303]; rfl
theorem zero258 (w : World) : (zeroValue 258).run Go.Proofs.Tryz.prog w = .ok (.agg (ucells (List.replicate 8 0)).toArray) w := by rw [Go.Proofs.Tryz.zeroValue258]; rfl
theorem zero27 (w : World) : (zeroValue 27).run Go.Proofs.Tryz.prog w = .ok (.agg (bcells (List.replicate 32 0)).toArray) w := by rw [Go.Proofs.Tryz.zeroValue27]; rfl
theorem zero261 (w : World) : (zeroValue 261).run Go.Proofs.Tryz.prog w = .ok (.agg (ucells (List.replicate 8 0) ++ (bcells (List.replicate 64 0) ++ [Value.int .u64 0])).toArray) w := by rw [Go.Proofs.Tryz.zeroValue261]; rfl
end Go.Eng
namespace Go.Eng
open Go Go.Proofs
set_option maxRecDepth 20000
theorem c94 {σ : Sto} {L0 Lp : SHeap} {v : Value} {xs : Bts} {x : UInt64} (hown : Own 5 1 v xs.length (bcells xs) Lp) (hlen : xs.length < 1000000000000) : Ctr Tryz.prog 94 #[v, .int .u64 (x.toNat : Int)] σ (Lp ++ L0) fun v' σ' L' => σ' = σ ∧ ∃ Lp', L' = Lp' ++ L0 ∧ Own 5 1 v' (xs.length + 8) (bcells (xs ++ be64 x)) Lp' := by
  refine ctr_enter Tryz.func94 rfl Tryz.ntmps94 (by simp) ?_
  refine go_seq ?_
  refine go_region ?_
  refine sq rfl (q_assign rfl) ?_
  refine gol_nil ?_
  refine go_seq ?_
  refine go_region ?_
  refine sq rfl (q_move rfl) ?_
  refine sq rfl (q_move rfl) ?_
  refine sq rfl (q_shr64 (n := 56) rfl rfl (by decide)) ?_
  refine sq rfl (q_conv rfl Tryz.runUnderlying31 Tryz.runUnderlying5 (conv_64_8 _)) ?_
  refine sq rfl (q_move rfl) ?_
  refine sq rfl (q_shr64 (n := 48) rfl rfl (by decide)) ?_
  refine sq rfl (q_conv rfl Tryz.runUnderlying31 Tryz.runUnderlying5 (conv_64_8 _)) ?_
  refine sq rfl (q_move rfl) ?_
  refine sq rfl (q_shr64 (n := 40) rfl rfl (by decide)) ?_
  refine sq rfl (q_conv rfl Tryz.runUnderlying31 Tryz.runUnderlying5 (conv_64_8 _)) ?_
  refine sq rfl (q_move rfl) ?_
  refine sq rfl (q_shr64 (n := 32) rfl rfl (by decide)) ?_
  refine sq rfl (q_conv rfl Tryz.runUnderlying31 Tryz.runUnderlying5 (conv_64_8 _)) ?_
  refine sq rfl (q_move rfl) ?_
  refine sq rfl (q_shr64 (n := 24) rfl rfl (by decide)) ?_
  refine sq rfl (q_conv rfl Tryz.runUnderlying31 Tryz.runUnderlying5 (conv_64_8 _)) ?_
  refine sq rfl (q_move rfl) ?_
  refine sq rfl (q_shr64 (n := 16) rfl rfl (by decide)) ?_
  refine sq rfl (q_conv rfl Tryz.runUnderlying31 Tryz.runUnderlying5 (conv_64_8 _)) ?_
  refine sq rfl (q_move rfl) ?_
  refine sq rfl (q_shr64 (n := 8) rfl rfl (by decide)) ?_
  refine sq rfl (q_conv rfl Tryz.runUnderlying31 Tryz.runUnderlying5 (conv_64_8 _)) ?_
  refine sq rfl (q_move rfl) ?_
  refine sq rfl (q_conv rfl Tryz.runUnderlying31 Tryz.runUnderlying5 (conv_64_8 _)) ?_
  refine sns rfl (n_buildSlice (sz := 1) (.cons rfl (.one rfl) rfl (.cons rfl (.one rfl) rfl (.cons rfl (.one rfl) rfl (.cons rfl (.one rfl) rfl (.cons rfl (.one rfl) rfl (.cons rfl (.one rfl) rfl (.cons rfl (.one rfl) rfl (.cons rfl (.one rfl) rfl .nil)))))))) rfl Tryz.runUnderlying22 Tryz.sizeOf5 Tryz.zeroValue5 rfl rfl) ?_
  intro b1
  refine gol_in ?_
  refine sn rfl (n_append rfl rfl Tryz.runUnderlying22 Tryz.sizeOf5 Tryz.typeInfo5 rfl Tryz.zeroValue5 rfl Tryz.runUnderlying22 hown (Cells.new (.inr (List.mem_append_right _ List.mem_cons_self)) rfl) (by simp [oneCell]) (by show (2 * (xs.length + 8) + 1000) * 1 ≤ _; omega)) ?_
  rintro v2 σ2 L2 - ⟨Lp', rfl, rfl, hown'⟩
  refine gol_out ?_
  refine sq rfl (q_assign rfl) ?_
  refine gol_nil ?_
  refine go_ret Tryz.func94 Tryz.results94 rfl rfl rfl (by repeat (first | exact Sto.le_refl _ | assumption | refine Sto.le_trans ?_ (by assumption))) ?_
  refine ⟨rfl, Lp', rfl, ?_⟩
  rw [bcells_app]; exact hown'
theorem c192 {σ : Sto} {L : SHeap} {p : Option Addr} {m c : Nat} {xs : Bts} (hx : Cells σ L (.slice p m c) 4 1 (bcells xs)) (hm : 4 ≤ m) (hc : m ≤ c) : Ctr Tryz.prog 192 #[.slice p m c] σ L fun v' σ' L' => σ' = σ ∧ L' = L ∧ v' = .int .u32 ((fold32 xs).toNat : Int) := by
  have hl : xs.length = 4 := by have := hx.1; rw [bcells_len] at this; omega
  obtain ⟨b, o, ds, T, fr, rfl, hk, hp⟩ := hx.get (by intro h; rw [← bcells_len, h] at hl; simp at hl)
  refine ctr_enter Tryz.func192 rfl Tryz.ntmps192 (by simp) ?_
  refine go_seq ?_
  refine go_region ?_
  refine sq rfl (q_assign rfl) ?_
  refine gol_nil ?_
  refine go_seq ?_
  refine go_region ?_
  refine sq rfl (q_assign rfl) ?_
  refine gol_nil ?_
  refine go_seq ?_
  refine go_seq ?_
  refine go_region ?_
  refine sq rfl (q_move rfl) ?_
  refine sq rfl (q_slice (l := 0) (h := 4) (lv := none) (hv := some (.int .i64 4)) rfl Tryz.runUnderlying22 Tryz.sizeOf5 rfl rfl rfl rfl (by omega) (by omega) rfl) ?_
  refine sq rfl (q_len rfl Tryz.runUnderlying22) ?_
  refine sq rfl (q_move rfl) ?_
  refine gol_nil ?_
  refine go_block ?_
  refine go_loop (X := Nat) (fun k => k ≤ 4) (fun k => [(3, .int .u32 ((fold32 (xs.take k)).toNat : Int)), (7, .slice (some (if c = 0 then ⟨b, o, none⟩ else ⟨b, o + 0 * 1, none⟩)) (4 - 0) (c - 0)), (8, .int .i64 4), (9, .int .i64 (k : Int))]) (fun _ => σ) (fun _ => L) (fun k => 4 - k) 0 (by omega) ⟨by simp only [List.take_zero]; rfl, rfl, rfl, rfl, trivial⟩ rfl rfl ?_
  intro k hk4 next
  rw [show (if c = 0 then (⟨b, o, none⟩ : Addr) else ⟨b, o + 0 * 1, none⟩) = ⟨b, o, none⟩ by simp] at *
  refine go_seq ?_
  refine go_region ?_
  refine sq rfl (q_lss rfl rfl) ?_
  refine gol_nil ?_
  refine go_seq ?_
  refine go_cond rfl rfl (fun hc0 => ?_) (fun hc0 => ?_)
  ·
    have hlt : k < xs.length := by simp at hc0; omega
    refine go_skip ?_
    refine go_seq ?_
    refine go_block ?_
    refine go_seq ?_
    refine go_region ?_
    refine sq rfl (q_indexAddr (j := k) rfl rfl Tryz.runUnderlying22 Tryz.sizeOf5 rfl (by omega) rfl) ?_
    refine sq rfl (q_load (cs := ds.toList) (v := bv xs[k]) rfl Tryz.isAgg5 hk (by rw [Nat.mul_one]; exact hp.at (bcells_at hlt))) ?_
    refine sq rfl (q_assign rfl) ?_
    refine gol_nil ?_
    refine go_region ?_
    refine sq rfl (q_move rfl) ?_
    refine sq rfl (q_shl32 (n := 8) rfl rfl (by decide)) ?_
    refine sq rfl (q_move rfl) ?_
    refine sq rfl (q_conv rfl Tryz.runUnderlying5 Tryz.runUnderlying256 (conv_8_32 _)) ?_
    refine sq rfl (q_or32 rfl rfl) ?_
    refine sq rfl (q_assign rfl) ?_
    refine gol_nil ?_
    refine go_inBlock ?_
    refine go_region ?_
    refine sq rfl (q_add rfl rfl (i64_in (by omega) (by omega))) ?_
    refine sq rfl (q_move rfl) ?_
    refine gol_nil ?_
    refine go_next (next (k + 1) (by omega) (by omega)) ⟨?_, rfl, rfl, rfl, trivial⟩
    rw [fold32_succ hlt]; rfl
  ·
    have hk4' : k = 4 := by simp at hc0; omega
    subst hk4'
    rw [List.take_of_length_le (by omega)]
    refine go_exit rfl ?_
    refine go_seq ?_
    refine go_region ?_
    refine sq rfl (q_move rfl) ?_
    refine sq rfl (q_assign rfl) ?_
    refine gol_nil ?_
    refine go_ret Tryz.func192 Tryz.results192 rfl rfl rfl (by repeat (first | exact Sto.le_refl _ | assumption | refine Sto.le_trans ?_ (by assumption))) ?_
    exact ⟨rfl, rfl, rfl⟩
theorem c208 {σ : Sto} {L : SHeap} {p : Option Addr} {m c : Nat} {xs : Bts} (hx : Cells σ L (.slice p m c) 8 1 (bcells xs)) (hm : 8 ≤ m) (hc : m ≤ c) : Ctr Tryz.prog 208 #[.slice p m c] σ L fun v' σ' L' => σ' = σ ∧ L' = L ∧ v' = .int .u64 ((fold64 xs).toNat : Int) := by
  have hl : xs.length = 8 := by have := hx.1; rw [bcells_len] at this; omega
  obtain ⟨b, o, ds, T, fr, rfl, hk, hp⟩ := hx.get (by intro h; rw [← bcells_len, h] at hl; simp at hl)
  refine ctr_enter Tryz.func208 rfl Tryz.ntmps208 (by simp) ?_
  refine go_seq ?_
  refine go_region ?_
  refine sq rfl (q_assign rfl) ?_
  refine gol_nil ?_
  refine go_seq ?_
  refine go_region ?_
  refine sq rfl (q_assign rfl) ?_
  refine gol_nil ?_
  refine go_seq ?_
  refine go_seq ?_
  refine go_region ?_
  refine sq rfl (q_move rfl) ?_
  refine sq rfl (q_slice (l := 0) (h := 8) (lv := none) (hv := some (.int .i64 8)) rfl Tryz.runUnderlying22 Tryz.sizeOf5 rfl rfl rfl rfl (by omega) (by omega) rfl) ?_
  refine sq rfl (q_len rfl Tryz.runUnderlying22) ?_
  refine sq rfl (q_move rfl) ?_
  refine gol_nil ?_
  refine go_block ?_
  refine go_loop (X := Nat) (fun k => k ≤ 8) (fun k => [(3, .int .u64 ((fold64 (xs.take k)).toNat : Int)), (7, .slice (some (if c = 0 then ⟨b, o, none⟩ else ⟨b, o + 0 * 1, none⟩)) (8 - 0) (c - 0)), (8, .int .i64 8), (9, .int .i64 (k : Int))]) (fun _ => σ) (fun _ => L) (fun k => 8 - k) 0 (by omega) ⟨by simp only [List.take_zero]; rfl, rfl, rfl, rfl, trivial⟩ rfl rfl ?_
  intro k hk4 next
  rw [show (if c = 0 then (⟨b, o, none⟩ : Addr) else ⟨b, o + 0 * 1, none⟩) = ⟨b, o, none⟩ by simp] at *
  refine go_seq ?_
  refine go_region ?_
  refine sq rfl (q_lss rfl rfl) ?_
  refine gol_nil ?_
  refine go_seq ?_
  refine go_cond rfl rfl (fun hc0 => ?_) (fun hc0 => ?_)
  ·
    have hlt : k < xs.length := by simp at hc0; omega
    refine go_skip ?_
    refine go_seq ?_
    refine go_block ?_
    refine go_seq ?_
    refine go_region ?_
    refine sq rfl (q_indexAddr (j := k) rfl rfl Tryz.runUnderlying22 Tryz.sizeOf5 rfl (by omega) rfl) ?_
    refine sq rfl (q_load (cs := ds.toList) (v := bv xs[k]) rfl Tryz.isAgg5 hk (by rw [Nat.mul_one]; exact hp.at (bcells_at hlt))) ?_
    refine sq rfl (q_assign rfl) ?_
    refine gol_nil ?_
    refine go_region ?_
    refine sq rfl (q_move rfl) ?_
    refine sq rfl (q_shl64 (n := 8) rfl rfl (by decide)) ?_
    refine sq rfl (q_move rfl) ?_
    refine sq rfl (q_conv rfl Tryz.runUnderlying5 Tryz.runUnderlying31 (conv_8_64 _)) ?_
    refine sq rfl (q_or64 rfl rfl) ?_
    refine sq rfl (q_assign rfl) ?_
    refine gol_nil ?_
    refine go_inBlock ?_
    refine go_region ?_
    refine sq rfl (q_add rfl rfl (i64_in (by omega) (by omega))) ?_
    refine sq rfl (q_move rfl) ?_
    refine gol_nil ?_
    refine go_next (next (k + 1) (by omega) (by omega)) ⟨?_, rfl, rfl, rfl, trivial⟩
    rw [fold64_succ hlt]; rfl
  ·
    have hk4' : k = 8 := by simp at hc0; omega
    subst hk4'
    rw [List.take_of_length_le (by omega)]
    refine go_exit rfl ?_
    refine go_seq ?_
    refine go_region ?_
    refine sq rfl (q_move rfl) ?_
    refine sq rfl (q_assign rfl) ?_
    refine gol_nil ?_
    refine go_ret Tryz.func208 Tryz.results208 rfl rfl rfl (by repeat (first | exact Sto.le_refl _ | assumption | refine Sto.le_trans ?_ (by assumption))) ?_
    exact ⟨rfl, rfl, rfl⟩
theorem c160 {σ : Sto} {L0 : SHeap} {b o m c : Nat} {T : TypeId} {pre mid post : List Value} {x : UInt32} (ho : pre.length = o) (hm : mid.length = 4) (h4 : 4 ≤ m) : Ctr Tryz.prog 160 #[.slice (some ⟨b, o, none⟩) m c, .int .u32 (x.toNat : Int)] σ ((b, .cells (pre ++ (mid ++ post)).toArray T (0, 0)) :: L0) fun _ σ' L' => σ' = σ ∧ L' = (b, .cells (pre ++ (bcells (be32 x) ++ post)).toArray T (0, 0)) :: L0 := by
  refine ctr_enter Tryz.func160 rfl Tryz.ntmps160 (by simp) ?_
  refine go_seq ?_
  refine go_region ?_
  refine sq rfl (q_move rfl) ?_
  refine gol_nil ?_
  refine go_block ?_
  refine go_loop (X := Nat) (fun k => k ≤ 4) (fun k => [(0, .slice (some ⟨b, o, none⟩) m c), (1, .int .u32 (x.toNat : Int)), (5, .int .i64 (k : Int))]) (fun _ => σ) (fun k => (b, .cells (pre ++ (bcells ((be32 x).take k) ++ (mid.drop k ++ post))).toArray T (0, 0)) :: L0) (fun k => 4 - k) 0 (by omega) ⟨rfl, rfl, rfl, trivial⟩ rfl rfl ?_
  intro k hk4 next
  refine go_seq ?_
  refine go_region ?_
  refine sq rfl (q_lss rfl rfl) ?_
  refine gol_nil ?_
  refine go_seq ?_
  refine go_cond rfl rfl (fun hc0 => ?_) (fun hc0 => ?_)
  ·
    have hlt : k < 4 := by simp at hc0; omega
    have hx8 : (24 : Int) - 8 * (k : Int) = ((24 - 8 * k : Nat) : Int) := by omega
    refine go_skip ?_
    refine go_seq ?_
    refine go_block ?_
    refine go_seq ?_
    refine go_region ?_
    refine sq rfl (q_move rfl) ?_
    refine sq rfl (q_assign rfl) ?_
    refine gol_nil ?_
    refine go_region ?_
    refine sq rfl (q_move rfl) ?_
    refine sq rfl (q_move rfl) ?_
    refine sq rfl (q_move rfl) ?_
    refine sq rfl (q_move rfl) ?_
    refine sq rfl (q_mul rfl rfl (i64_in (by omega) (by omega))) ?_
    refine sq rfl (q_sub rfl rfl (i64_in (by omega) (by omega))) ?_
    refine sq rfl (q_shr32 (n := 24 - 8 * k) rfl (congrArg (fun i => some (Value.int .i64 i)) hx8) (by omega)) ?_
    refine sq rfl (q_conv rfl Tryz.runUnderlying256 Tryz.runUnderlying5 (conv_32_8 _)) ?_
    refine sq rfl (q_indexAddr (j := k) rfl rfl Tryz.runUnderlying22 Tryz.sizeOf5 rfl (by omega) rfl) ?_
    obtain ⟨y, hy⟩ : ∃ y, mid.drop k = y :: mid.drop (k + 1) := ⟨mid[k]'(by omega), List.drop_eq_getElem_cons (by omega)⟩
    rw [hy]
    refine sst rfl (n_store rfl rfl rfl Tryz.sizeOf5 (by rw [Nat.mul_one]; exact SetAt.app ho (by rw [List.cons_append]; exact SetAt.app (i := 0) (n := k) (by simp [bcells, be32]; omega) .z)) .hd) ?_
    refine gol_nil ?_
    refine go_inBlock ?_
    refine go_region ?_
    refine sq rfl (q_add rfl rfl (i64_in (by omega) (by omega))) ?_
    refine sq rfl (q_move rfl) ?_
    refine gol_nil ?_
    rw [show bcells (List.take k (be32 x)) ++ (Value.int .u8 ((x >>> UInt32.ofNat (24 - 8 * k)).toUInt8.toNat : Int) :: (List.drop (k + 1) mid ++ post)) = bcells (List.take (k + 1) (be32 x)) ++ (mid.drop (k + 1) ++ post) from ?_]
    · exact go_next (next (k + 1) (by omega) (by omega)) ⟨rfl, rfl, rfl, trivial⟩
    · obtain rfl | rfl | rfl | rfl : k = 0 ∨ k = 1 ∨ k = 2 ∨ k = 3 := by omega
      all_goals simp [be32, bcells, bv]
  ·
    have hk4' : k = 4 := by simp at hc0; omega
    subst hk4'
    rw [show mid.drop 4 = [] by simp [hm]]
    refine go_exit rfl ?_
    refine go_end Tryz.func160 Tryz.results160 rfl rfl rfl (by repeat (first | exact Sto.le_refl _ | assumption | refine Sto.le_trans ?_ (by assumption))) ?_
    exact ⟨rfl, rfl⟩
theorem rot_s : ∀ n : Fin 32, n.val ≠ 0 → ((0 - UInt64.ofNat n.val) &&& 31) = UInt64.ofNat (32 - n.val) := by decide +kernel
theorem rot_s2 : ∀ n : Fin 32, n.val ≠ 0 → (32 - UInt64.ofNat (32 - n.val)) = UInt64.ofNat n.val := by decide +kernel
theorem c225 {σ : Sto} {L : SHeap} {x : UInt32} {n : Nat} (h1 : 1 ≤ n) (h2 : n ≤ 31) : Ctr Tryz.prog 225 #[.int .u32 (x.toNat : Int), .int .i64 (-(n : Int))] σ L fun v' σ' L' => σ' = σ ∧ L' = L ∧ v' = .int .u32 ((rotr x n).toNat : Int) := by
  have hs := rot_s ⟨n, by omega⟩ (by simp; omega)
  have hs2 := rot_s2 ⟨n, by omega⟩ (by simp; omega)
  simp only at hs hs2
  have hm : IntKind.u64.wrap (-(n : Int)) = ((0 - UInt64.ofNat n).toNat : Int) := by rw [u64_mod, UInt64.toNat_sub, UInt64.toNat_ofNat']; simp; omega
  have e1 : (UInt64.ofNat (32 - n)).toNat = 32 - n := by rw [UInt64.toNat_ofNat']; omega
  have e2 : (UInt64.ofNat n).toNat = n := by rw [UInt64.toNat_ofNat']; omega
  refine ctr_enter Tryz.func225 rfl Tryz.ntmps225 (by simp) ?_
  refine go_seq ?_
  refine go_region ?_
  refine sq rfl (q_assign rfl) ?_
  refine gol_nil ?_
  refine go_seq ?_
  refine go_region ?_
  refine sq rfl (q_move rfl) ?_
  refine sq rfl (q_conv rfl Tryz.runUnderlying3 Tryz.runUnderlying207 hm) ?_
  refine sq rfl (q_and64 (b := 31) rfl rfl) ?_
  rw [hs]
  refine sq rfl (q_assign rfl) ?_
  refine gol_nil ?_
  refine go_seq ?_
  refine go_region ?_
  refine sq rfl (q_move rfl) ?_
  refine sq rfl (q_move rfl) ?_
  refine sq rfl (q_shl32 rfl rfl (by rw [e1]; omega)) ?_
  refine sq rfl (q_move rfl) ?_
  refine sq rfl (q_move rfl) ?_
  refine sq rfl (q_sub64 (a := 32) rfl rfl) ?_
  rw [hs2, e1]
  refine sq rfl (q_shr32 rfl rfl (by rw [e2]; omega)) ?_
  rw [e2]
  refine sq rfl (q_or32 rfl rfl) ?_
  refine sq rfl (q_assign rfl) ?_
  refine gol_nil ?_
  refine go_ret Tryz.func225 Tryz.results225 rfl rfl rfl (by repeat (first | exact Sto.le_refl _ | assumption | refine Sto.le_trans ?_ (by assumption))) ?_
  exact ⟨rfl, rfl, rfl⟩
theorem c193 {σ : Sto} {L : SHeap} {x : UInt32} {n : Nat} (h1 : 1 ≤ n) (h2 : n ≤ 31) : Ctr Tryz.prog 193 #[.int .u32 (x.toNat : Int), .int .i64 (n : Int)] σ L fun v' σ' L' => σ' = σ ∧ L' = L ∧ v' = .int .u32 ((rotr x n).toNat : Int) := by
  refine ctr_enter Tryz.func193 rfl Tryz.ntmps193 (by simp) ?_
  refine go_seq ?_
  refine go_region ?_
  refine sq rfl (q_assign rfl) ?_
  refine gol_nil ?_
  refine go_seq ?_
  refine go_region ?_
  refine sq rfl (q_move rfl) ?_
  refine sq rfl (q_move rfl) ?_
  refine sq rfl (q_neg (c := -(n : Int)) rfl (by rw [show (0 : Int) - n = -n by omega]; exact i64_in (by omega) (by omega))) ?_
  refine sn rfl (n_call rfl Tryz.call225 (c225 h1 h2)) ?_
  rintro v1 _ _ - ⟨rfl, rfl, rfl⟩
  refine sq rfl (q_assign rfl) ?_
  refine gol_nil ?_
  refine go_ret Tryz.func193 Tryz.results193 rfl rfl rfl (by repeat (first | exact Sto.le_refl _ | assumption | refine Sto.le_trans ?_ (by assumption))) ?_
  exact ⟨rfl, rfl, rfl⟩
end Go.Eng
