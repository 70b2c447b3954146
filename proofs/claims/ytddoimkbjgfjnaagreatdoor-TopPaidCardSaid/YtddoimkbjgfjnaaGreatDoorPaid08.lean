/- A part of the proof of this: Payments and locks of a shard come out as they stand on paper (TopPaid): for every input, with the listed package variables as the program's text lays them, TopPaid answers true and its argument reads as it did. -/
import Derived.Test.YtddoimkbjgfjnaaGreatDoorPaid07
import Derived.Laws.Externs
import Derived.Lib.Bytealg
import Derived.Lib.Overlaps
namespace Go.Eng
open Go Go.Proofs Go.Builtin
section
variable {P : Program} {E : Env} {σ : Sto} {K L : SHeap} {d : Option Tmp} {ty : TypeId} {pos : String} {af : Array Edge} {g : Option (Nat × Bool)}
theorem q_ext {gid : FuncId} {fn : Func} {e : Array Value → Sem Value} {args : List Operand} {vs : List Value} {ats : Array TypeId} {v : Value} (hvs : E.ops args = some vs) (hf : P.funcs[gid]? = some fn) (hname : (fn.name == "runtime.NumGoroutine") = false)
    (hb : fn.body.isNone = true) (hn : Extern.findNext fn = none) (he : Extern.find fn = some e) (hr : ∀ σ' w L', Sto.le σ σ' → Keep K L' → St σ' w L' → (e vs.toArray).run P w = .ok v w) :
    Quiet P E.ev ⟨d, .call ⟨.value (.func gid), args.toArray, ats⟩, ty, pos, af, g⟩ K σ v := by
  intro σ' w L' h1 h2 h3
  have := Env.ops_ev hvs
  simp only [execOp, resolve, Deferred.ofValue, Env.ev, invoke, List.map_toArray, this]
  simp [run_callFunc_extern hf hname hb hn he, hr σ' w L' h1 h2 h3]
theorem q_cap {T a : TypeId} {x : Operand} {p : Option Addr} {n c : Nat} (hx : E.op x = some (.slice p n c)) (hU : ∀ w, (underlying T).run P w = .ok (.slice a) w) :
    Quiet P E.ev ⟨d, .call ⟨.builtin .cap, #[x], #[T]⟩, ty, pos, af, g⟩ K σ (.int .i64 (c : Int)) := by
  intro σ' w L' _ _ _
  simp [execOp, Env.op_ev hx, resolve, invoke, builtin, cap_, hU, goInt]
theorem cells_load {P : Program} {w : World} {b : Nat} {cs : Array Value} {t : TypeId} {fr : Nat × Nat} (h : w.heap[b]? = some (.cells cs t fr)) (xs : Bts) : ∀ (o : Nat) (acc : ByteArray), Part cs.toList o xs.length (bcells xs) →
    (Extern.Bytes.loadBytes ⟨b, o, none⟩ xs.length acc).run P w = .ok ⟨acc.data ++ xs.toArray⟩ w := by
  induction xs with
  | nil => intro o acc _; simp [Extern.Bytes.loadBytes]
  | cons x xs ih =>
    intro o acc hp
    have h0 : cs[o]? = some (bv x) := by
      have := (hp.at (i := 0) (v := bv x) (.of rfl)).get
      simpa using this
    have hp' : Part cs.toList (o + 1) xs.length (bcells xs) := by
      refine hp.part ⟨?_, ?_⟩
      · simp only [bcells, List.map_cons, List.drop_succ_cons, List.drop_zero]
        rw [List.take_of_length_le (by simp)]
      · simp [bcells]; omega
    have hc := cell_of (o := o) h
    have hadd : (Addr.mk b o none).add 1 = ⟨b, o + 1, none⟩ := rfl
    have hx : (bv x) = .int .u8 (x.toNat : Int) := rfl
    rw [List.length_cons, Extern.Bytes.loadBytes]
    simp only [Sem.run_bind, run_load, hc, h0, hx, Result.andThen_ok, hadd, Int.toNat_natCast]
    rw [ih (o + 1) _ hp']
    congr 1
    cases acc with | mk d => simp [ByteArray.push]
theorem run_bytesOf {P : Program} {σ σ' : Sto} {K L' : SHeap} {w : World} {p : Option Addr} {n c : Nat} {xs : Bts} (h : Cells σ K (.slice p n c) n 1 (bcells xs)) (hle : Sto.le σ σ') (hk : Keep K L') (hst : St σ' w L') :
    (Extern.Bytes.bytesOf (.slice p n c)).run P w = .ok ⟨xs.toArray⟩ w := by
  have hn : n = xs.length := by have := h.1; rw [bcells_len] at this; omega
  subst hn
  cases xs with
  | nil =>
    cases p with
    | none => rfl
    | some a => rfl
  | cons x xs =>
    obtain ⟨b, o, ds, T, fr, rfl, hkn, hp⟩ := h.get (by simp [bcells])
    have := cells_load (P := P) (hkn.heap hle hk hst) (x :: xs) o .empty (by simpa using hp)
    simp only [Extern.Bytes.bytesOf]
    rw [this]
    simp
theorem hf158 : Extern.findNext Tryz.f158 = none := by kernel_rfl
theorem he158 : Extern.find Tryz.f158 = some Extern.BytealgCompare.compare := by kernel_rfl
theorem q_compare {x y : Operand} {pa pb : Option Addr} {ca cb na nb : Nat} {xs ys : Bts} {ats : Array TypeId} (hx : E.op x = some (.slice pa na ca)) (hy : E.op y = some (.slice pb nb cb))
    (ha : Cells σ K (.slice pa na ca) na 1 (bcells xs)) (hb : Cells σ K (.slice pb nb cb) nb 1 (bcells ys)) :
    Quiet Tryz.prog E.ev ⟨d, .call ⟨.value (.func 158), #[x, y], ats⟩, ty, pos, af, g⟩ K σ (.int .i64 (Go.Lib.compareBytes xs ys)) :=
  q_ext (args := [x, y]) (vs := [.slice pa na ca, .slice pb nb cb]) (by simp only [Env.ops, hx, hy]) Tryz.func158 rfl rfl hf158 he158 fun σ' w L' h1 h2 h3 => by
    show Sem.run Tryz.prog (do pure (goInt (Extern.BytealgCompare.cmp (← Extern.Bytes.bytesOf (.slice pa na ca)) (← Extern.Bytes.bytesOf (.slice pb nb cb))))) w = _
    simp only [Sem.run_bind, run_bytesOf ha h1 h2 h3, run_bytesOf hb h1 h2 h3, Result.andThen_ok, Go.Lib.cmp_eq, Sem.run_pure, goInt]
theorem hf68 : Extern.findNext Tryz.f68 = none := by kernel_rfl
def add64e : Array Value → Sem Value := fun args => do
  let (x, y, c) ← Extern.MathBitsCarry.three "Add64" args
  pure (Extern.MathBitsCarry.pair ((x + y + c) % Extern.MathBitsCarry.m64) ((x + y + c) / Extern.MathBitsCarry.m64))
theorem he68 : Extern.find Tryz.f68 = some add64e := by kernel_rfl
theorem run_add64 (x y : UInt64) (w : World) : (add64e #[.int .u64 (x.toNat : Int), .int .u64 (y.toNat : Int), .int .u64 0]).run Tryz.prog w = .ok (.tuple #[.int .u64 ((x + y).toNat : Int), .int .u64 (((x.toNat + y.toNat) / 18446744073709551616 : Nat) : Int)]) w := by
  have e1 : (x + y).toNat = (x.toNat + y.toNat) % 18446744073709551616 := by rw [UInt64.toNat_add]
  have e2 : (Extern.MathBitsCarry.three "Add64" #[.int .u64 (x.toNat : Int), .int .u64 (y.toNat : Int), .int .u64 0]).run Tryz.prog w = .ok (x.toNat, y.toNat, 0) w := rfl
  have e3 : Extern.MathBitsCarry.m64 = 18446744073709551616 := rfl
  simp only [add64e, Sem.run_bind, e2, Result.andThen_ok, Sem.run_pure, Extern.MathBitsCarry.pair, e1, e3, Nat.add_zero, Int.ofNat_eq_natCast]
theorem q_add64c {x y z : Operand} {a b : UInt64} {ats : Array TypeId} (hx : E.op x = some (.int .u64 (a.toNat : Int))) (hy : E.op y = some (.int .u64 (b.toNat : Int))) (hz : E.op z = some (.int .u64 0)) :
    Quiet Tryz.prog E.ev ⟨d, .call ⟨.value (.func 68), #[x, y, z], ats⟩, ty, pos, af, g⟩ K σ (.tuple #[.int .u64 ((a + b).toNat : Int), .int .u64 (((a.toNat + b.toNat) / 18446744073709551616 : Nat) : Int)]) := by
  exact q_ext (args := [x, y, z]) (vs := [.int .u64 (a.toNat : Int), .int .u64 (b.toNat : Int), .int .u64 0]) (by simp only [Env.ops, hx, hy, hz]) Tryz.func68 rfl rfl hf68 he68 fun σ' w L' h1 h2 h3 => run_add64 a b w
theorem q_overlaps {gid : FuncId} {fn : Func} {T e sz : Nat} {x y : Operand} {ats : Array TypeId} {b b' o o' n c n' c' : Nat} {cs cs' : Array Value} {t t' : TypeId} (hf : P.funcs[gid]? = some fn) (hname : (fn.name == "runtime.NumGoroutine") = false)
    (hb : fn.body.isNone = true) (hn : Extern.findNext fn = none) (he : Extern.find fn = some (Extern.SlicesOverlaps.overlaps #[T, T] #[4])) (hU : P.underlying T = some (.slice e)) (hS : ∀ w, (sizeOf e).run P w = .ok sz w)
    (hx : E.op x = some (.slice (some ⟨b, o, none⟩) n c)) (hy : E.op y = some (.slice (some ⟨b', o', none⟩) n' c')) (hne : b ≠ b') (hk : Kn σ K b (.cells cs t (0, 0))) (hk' : Kn σ K b' (.cells cs' t' (0, 0))) (hpos : cs'.size ≠ 0) :
    Quiet P E.ev ⟨d, .call ⟨.value (.func gid), #[x, y], ats⟩, ty, pos, af, g⟩ K σ (.bool false) :=
  q_ext (args := [x, y]) (vs := [.slice (some ⟨b, o, none⟩) n c, .slice (some ⟨b', o', none⟩) n' c']) (by simp only [Env.ops, hx, hy]) hf hname hb hn he fun σ' w L' h1 h2 h3 => by
    have hh := hk.heap h1 h2 h3
    have hh' := hk'.heap h1 h2 h3
    exact Go.Lib.run_overlaps_apart w T 4 e hU sz hS ⟨b, o, none⟩ ⟨b', o', none⟩ n c n' c' hne t t' cs.size cs'.size (by simp [World.shape?, hh]) (by simp [World.shape?, hh']) hpos (by simp [World.frozen?, hh]) (by simp [World.frozen?, hh])
theorem n_appendMake {ts T sz n m c b N : Nat} {x y : Operand} {cs ds : List Value} {z : Value} {at_ : TypeId} {k : IntKind} {i : TypeInfo} {t : TypeId} {fr : Nat × Nat} (hx : E.op x = some (.slice (some ⟨b, 0, none⟩) n c)) (hy : E.op y = some (.int .i64 (m : Int)))
    (hT : ∀ w, (underlying ts).run P w = .ok (.slice T) w) (hS : ∀ w, (sizeOf T).run P w = .ok sz w) (hi : ∀ w, (typeInfo T).run P w = .ok i w) (hb0 : Nat.blt 0 i.bytes = true)
    (hz : ∀ w, (zeroValue T).run P w = .ok z w) (hzs : z.cells.size = sz) (ha : ∀ w, (underlying at_).run P w = .ok (.int k) w)
    (hkn : Kn σ L b (.cells ds.toArray t fr)) (hp : Part ds 0 (n * sz) cs) (hgt : c < n + m) (hroom : (2 * (n + m) + 1000) * i.bytes ≤ 281474976710656) (hm : 0 < m) (hN : n + m = N) (hsz : Nat.blt 0 sz = true) :
    Noisy P E.ev ⟨d, .call ⟨.builtin .append, #[x, y], #[ts, at_]⟩, ty, pos, af, g⟩ σ L fun v' σ' L' => ∃ b' c' zs junk, σ' = σ ∧ L' = (b', .cells (cs ++ (zs ++ junk)).toArray T (0, 0)) :: L ∧ v' = .slice (some ⟨b', 0, none⟩) N c' ∧ zs.length = m * sz ∧ (cs ++ (zs ++ junk)).length = c' * sz ∧ N ≤ c' := by
  subst hN
  intro w hst
  replace hsz : 0 < sz := Nat.le_of_ble_eq_true hsz
  have hb0' : 0 < i.bytes := Nat.le_of_ble_eq_true hb0
  have hst1 : St σ { w with drawn := w.drawn + 1 } L := hst.draw 1
  have hcells : Cells σ L (.slice (some ⟨b, 0, none⟩) n c) n sz cs := ⟨by rw [← hp.1]; have := hp.2; simp; omega, _, _, _, rfl, Nat.le_refl _, .inr ⟨b, 0, ds.toArray, t, fr, rfl, hkn, by simpa using hp⟩⟩
  have hfo1 := firstCells_run (P := P) hcells (Sto.le_refl _) (Keep.refl _) hst1
  have hmn : m ≤ 281474976710656 := by
    have : 2 * m * 1 ≤ (2 * (n + m) + 1000) * i.bytes := Nat.mul_le_mul (by omega) hb0'
    omega
  have hw1 : IntKind.i64.wrap (m : Int) = m := i64_in (by omega) (by omega)
  have hmb : ¬ (281474976710656 : Int) < (m : Int) * i.bytes := by
    have : m * i.bytes ≤ (2 * (n + m) + 1000) * i.bytes := Nat.mul_le_mul_right _ (by omega)
    rw [← Int.natCast_mul]; omega
  have hnc : n + m ≤ (Question.appendCap (n + m) c T).cut (w.tape w.drawn (Question.appendCap (n + m) c T)) := by simp only [Question.cut]; omega
  generalize hnce : (Question.appendCap (n + m) c T).cut (w.tape w.drawn (Question.appendCap (n + m) c T)) = nc at hnc
  refine .inl ⟨.slice (some ⟨w.heap.size, 0, none⟩) (n + m) nc, { { w with drawn := w.drawn + 1 } with heap := w.heap.push (.cells (cs ++ ((zeroCells z.cells m).toList ++ (zeroCells z.cells (nc - (n + m))).toList)).toArray T (0, 0)) }, ?_, σ, _, Sto.le_refl _, hst1.push _, w.heap.size, nc, (zeroCells z.cells m).toList, (zeroCells z.cells (nc - (n + m))).toList, rfl, rfl, rfl, ?_, ?_, hnc⟩
  · have hforced : (Question.appendCap (n + m) c T).forced = false := rfl
    have hns : ¬ 281474976710656 < nextslicecap (n + m) c * i.bytes := Nat.not_lt.2 (Nat.le_trans (Nat.mul_le_mul_right _ (nextcap_le _ _ hgt)) hroom)
    have hns' : ¬ (281474976710656 : Int) < (nextslicecap (n + m) c * i.bytes : Nat) := by omega
    have hle : ¬ n + m ≤ c := by omega
    have hbig : ¬ ((n + m : Nat) : Int) > IntKind.i64.max := by
      have : 2 * (n + m) * 1 ≤ (2 * (n + m) + 1000) * i.bytes := Nat.mul_le_mul (by omega) hb0'
      have e : IntKind.i64.max = 9223372036854775807 := rfl
      rw [e]; omega
    have hmsz : ¬ m * sz = 0 := by
      intro h0
      rcases Nat.mul_eq_zero.1 h0 with h | h <;> omega
    have e1 : Sem.run P (firstCells sz n (.slice (some ⟨b, 0, none⟩) n c)) w.drew = .ok cs.toArray w.drew := hfo1
    have ha' : cs.toArray ++ (zeroCells z.cells m ++ zeroCells z.cells (nc - (n + m))) = (cs ++ ((zeroCells z.cells m).toList ++ (zeroCells z.cells (nc - (n + m))).toList)).toArray := by
      apply Array.toList_inj.1; simp
    simp only [execOp, Env.op_ev hx, Env.op_ev hy, resolve, invoke, builtin, List.map_toArray, List.map_cons, List.map_nil, Sem.run_bind, Sem.run_pure, Result.andThen_ok, append_, List.getElem?_toArray, List.getElem?_cons_zero, List.getElem?_cons_succ, hT, hS, ha, asInt, asIntOf, hw1]
    have hm0 : ¬ (m : Int) < 0 := by omega
    have hbig' : ¬ (9223372036854775807 : Int) < (n : Int) + (m : Int) := by simpa [IntKind.max, IntKind.bits, IntKind.signed] using hbig
    simp [hi, hmb, hle, hbig', hns, hforced, hnce, hz, newRow, hmsz, hw1, hm0, hS]
    rw [e1, Result.andThen_ok, ha']; rfl
  · simp [zeroCells_size, hzs]
  · simp only [List.length_append, hcells.1, Array.length_toList, zeroCells_size, hzs]; rw [← Nat.add_mul, ← Nat.add_mul]; congr 1; omega
theorem q_sliceNil {T e m : Nat} {x lo : Operand} (hx : E.op x = some (.slice none 0 0)) (hU : ∀ w, (underlying T).run P w = .ok (.slice e) w)
    (hS : ∀ w, (sizeOf e).run P w = .ok m w) (hlo : E.op lo = some (.int .i64 0)) : Quiet P E.ev ⟨d, .slice T x (some lo) none none, ty, pos, af, g⟩ K σ (.slice none 0 0) := by
  intro σ' w L' _ _ _
  simp [execOp, Env.op_ev hx, Env.op_ev hlo, Instr.sliceAt, hU, Instr.slice, Instr.sliceBounds, hS, Instr.sliceBound, asIntOf]
end
end Go.Eng
