/- A part of the proof of this: Payments and locks of a shard come out as they stand on paper (TopPaid): for every input, with the listed package variables as the program's text lays them, TopPaid answers true and its argument reads as it did. -/
import Derived.Test.YtddoimkbjgfjnaaGreatDoorPaid05
namespace Go.Eng
open Go Go.Proofs
set_option maxRecDepth 20000
def dgTo (s : S8) (i : Nat) : Bts := ((s.list.take i).map be32).flatten
theorem dgTo_len (s : S8) {i : Nat} (h : i ≤ 8) : (dgTo s i).length = 4 * i := by
  obtain rfl | rfl | rfl | rfl | rfl | rfl | rfl | rfl | rfl : i = 0 ∨ i = 1 ∨ i = 2 ∨ i = 3 ∨ i = 4 ∨ i = 5 ∨ i = 6 ∨ i = 7 ∨ i = 8 := by omega
  all_goals rfl
theorem dgTo_succ (s : S8) {i : Nat} (h : i < 8) : dgTo s (i + 1) = dgTo s i ++ be32 (s.list.getD i 0) := by
  obtain rfl | rfl | rfl | rfl | rfl | rfl | rfl | rfl : i = 0 ∨ i = 1 ∨ i = 2 ∨ i = 3 ∨ i = 4 ∨ i = 5 ∨ i = 6 ∨ i = 7 := by omega
  all_goals simp [dgTo, S8.list]
theorem dgTo_all (s : S8) : dgTo s 8 = digestOf s := by simp [dgTo, S8.list, digestOf]
theorem zero4 {i : Nat} (h : i < 8) : bcells (List.replicate (32 - 4 * i) 0) = bcells (List.replicate 4 0) ++ bcells (List.replicate (32 - 4 * (i + 1)) 0) := by
  rw [← bcells_app, List.replicate_append_replicate]; congr 2; omega
theorem abs_sum {m : Bts} {s : S8} {rest : Bts} (h : Abs (m ++ padOf m.length) s rest) : digestOf s = shaSum m := by rw [shaSum_eq, h.st]; rfl
theorem pad_dec {n k : Nat} (hk : k ≤ padLen n) : (n + (1 + k)) % 64 = 56 ↔ k = padLen n := by unfold padLen at *; omega
theorem c123 {σ : Sto} {L0 : SHeap} {h : Nat} {s : S8} {rest m : Bts} (ha : Abs m s rest) (hlen : m.length < 100000000000000000) {T : TypeId} {fr : Nat × Nat} (hK : σ 1 = some (.cells (ucells K256).toArray T fr)) : Ctr Tryz.prog 123 #[.pointer (some ⟨h, 0, none⟩)] σ ((h, hashObj s rest (UInt64.ofNat m.length)) :: L0) fun v σ' L' => v = .agg (bcells (shaSum m)).toArray ∧ L' = (h, hashObj s rest (UInt64.ofNat m.length)) :: L0 := by
  refine ctr_enter Tryz.func123 rfl Tryz.ntmps123 (by simp) ?_
  refine go_seq ?_
  refine go_region ?_
  refine snb rfl (n_alloc zero27 .agg) ?_
  intro b1
  refine gol_nil ?_
  refine go_seq ?_
  refine go_region ?_
  refine sq rfl (q_move rfl) ?_
  refine sq rfl (q_nil rfl) ?_
  refine sq rfl (q_loadA rfl Tryz.isAgg261 Tryz.sizeOf261 (.tl .hd) (Part.mk (a := []) (b := []) (vs := ucells s.list ++ (bcells rest ++ [Value.int .u64 ((UInt64.ofNat m.length).toNat : Int)])) rfl (by simp [ucells, S8.list, bcells, ha.len]) |> fun h => by simpa using h)) ?_
  refine snb rfl (n_alloc zero261 .agg) ?_
  intro b2
  refine sst rfl (n_storeA rfl rfl (by simp [ucells, S8.list, bcells, oneCell, uv, bv]) Tryz.sizeOf261 (by simp [ucells, S8.list, bcells, ha.len]) .hd (PutAt.all (by simp [ucells, S8.list, bcells, ha.len]))) ?_
  refine gol_nil ?_
  refine go_seq ?_
  refine go_region ?_
  refine sn rfl (n_makeSlice (n := 1) (c := 72) rfl rfl Tryz.runUnderlying22 Tryz.typeInfo5 Tryz.sizeOf5 Tryz.zeroValue5 rfl (by decide) (by decide) (by decide)) ?_
  rintro v σ _ - ⟨Lp, rfl, rfl, hown⟩
  refine sq rfl (q_assign rfl) ?_
  refine gol_nil ?_
  refine go_seq ?_
  obtain ⟨b3, c72, junk, hv, rfl, hcap⟩ := own_one hown
  subst hv
  refine go_region ?_
  refine sq rfl (q_move rfl) ?_
  refine sq rfl (q_indexAddr (j := 0) (o' := 0) rfl rfl Tryz.runUnderlying22 Tryz.sizeOf5 rfl (by decide) rfl) ?_
  refine sst rfl (n_store rfl rfl rfl Tryz.sizeOf5 .z .hd) ?_
  refine gol_nil ?_
  refine go_seq ?_
  refine go_block ?_
  refine go_loop (X := Nat × Value × SHeap) (fun x => x.1 ≤ padLen m.length ∧ Own 5 1 x.2.1 (1 + x.1) (bcells (0x80 :: List.replicate x.1 0)) x.2.2) (fun x => [(0, .pointer (some ⟨h, 0, none⟩)), (2, .pointer (some ⟨b1, 0, none⟩)), (3, .pointer (some ⟨b2, 0, none⟩)), (4, x.2.1)]) (fun _ => σ) (fun x => x.2.2 ++ (b2, hashObj s rest (UInt64.ofNat m.length)) :: (b1, .cells (bcells (List.replicate 32 0)).toArray 27 (0, 0)) :: (h, hashObj s rest (UInt64.ofNat m.length)) :: L0) (fun x => padLen m.length - x.1) (0, .slice (some ⟨b3, 0, none⟩) 1 c72, [(b3, .cells ([bv 0x80] ++ junk).toArray 5 (0, 0))]) ⟨Nat.zero_le _, .mk rfl (by have := hcap; simp [bcells] at this ⊢; omega)⟩ ⟨rfl, rfl, rfl, rfl, trivial⟩ rfl rfl ?_
  rintro ⟨k, v, Lp⟩ ⟨hk, hown⟩ next
  simp only at hk hown next ⊢
  obtain ⟨p, c, rfl⟩ := hown.val
  have hm64 : (UInt64.ofNat m.length).toNat = m.length := by rw [UInt64.toNat_ofNat']; omega
  refine go_seq ?_
  refine go_seq ?_
  refine go_region ?_
  refine sq rfl (q_fieldAddr (off := 72) (o' := 72) rfl Tryz.runUnderlying261 rfl Tryz.sizeOf31 rfl rfl) ?_
  refine sq rfl (q_load rfl Tryz.isAgg31 (.inr (List.mem_append_right _ List.mem_cons_self)) (At.app (n := 8) (i := 64) rfl (At.app (n := 64) (i := 0) (by simp [bcells_len, ha.len]) .z))) ?_
  refine sq rfl (q_move rfl) ?_
  refine sq rfl (q_len rfl Tryz.runUnderlying22) ?_
  refine sq rfl (q_conv rfl Tryz.runUnderlying3 Tryz.runUnderlying31 (conv_i_64 _)) ?_
  refine sq rfl (q_add64 rfl rfl) ?_
  have hr : (UInt64.ofNat m.length + UInt64.ofNat (1 + k)).toNat = m.length + (1 + k) := by rw [← UInt64.ofNat_add, UInt64.toNat_ofNat', Nat.mod_eq_of_lt]; have : padLen m.length < 64 := Nat.mod_lt _ (by decide); omega
  refine sq rfl (q_rem (b := 64) (c := (((m.length + (1 + k)) % 64 : Nat) : Int)) rfl rfl (by decide) (by rw [hr]; rfl)) ?_
  refine sq rfl (q_neq rfl rfl) ?_
  refine gol_nil ?_
  refine go_cond rfl rfl (fun hc0 => ?_) (fun hc0 => ?_)
  ·
    have hlt : k < padLen m.length := by
      have h1 : ¬ (m.length + (1 + k)) % 64 = 56 := by simp at hc0; omega
      have := mt (pad_dec hk).2 h1; omega
    refine go_skip ?_
    refine go_block ?_
    refine go_region ?_
    refine sq rfl (q_move rfl) ?_
    refine sns rfl (n_buildSlice (sz := 1) (l' := bcells [0]) (.cons rfl (.one rfl) rfl .nil) rfl Tryz.runUnderlying22 Tryz.sizeOf5 Tryz.zeroValue5 rfl rfl) ?_
    intro b4
    refine gol_in ?_
    refine sn rfl (n_append rfl rfl Tryz.runUnderlying22 Tryz.sizeOf5 Tryz.typeInfo5 rfl Tryz.zeroValue5 rfl Tryz.runUnderlying22 hown (Cells.new (.inr (List.mem_append_right _ List.mem_cons_self)) rfl) (bcells_one _) (by show (2 * (1 + k + 1) + 1000) * 1 ≤ _; have : padLen m.length < 64 := Nat.mod_lt _ (by decide); omega)) ?_
    rintro v2 σ _ - ⟨Lp', rfl, rfl, hown'⟩
    refine gol_out ?_
    refine sq rfl (q_assign rfl) ?_
    refine gol_nil ?_
    refine go_inBlock ?_
    refine go_next (next (k + 1, v2, Lp') ⟨hlt, ?_⟩ (by simp only; omega)) ⟨rfl, rfl, rfl, rfl, trivial⟩
    rw [List.replicate_succ']
    have : bcells (0x80 :: (List.replicate k 0 ++ [0])) = bcells (0x80 :: List.replicate k 0) ++ [bv 0] := by simp [bcells]
    rw [this]; exact hown'
  ·
    have hk' : k = padLen m.length := (pad_dec hk).1 (by simp at hc0; omega)
    subst hk'
    refine go_exit rfl ?_
    refine go_seq ?_
    refine go_region ?_
    refine sq rfl (q_move rfl) ?_
    refine sq rfl (q_move rfl) ?_
    refine sq rfl (q_nil rfl) ?_
    refine sq rfl (q_fieldAddr (off := 72) (o' := 72) rfl Tryz.runUnderlying261 rfl Tryz.sizeOf31 rfl rfl) ?_
    refine sq rfl (q_load rfl Tryz.isAgg31 (.inr (List.mem_append_right _ (.tail _ (.tail _ List.mem_cons_self)))) (At.app (n := 8) (i := 64) rfl (At.app (n := 64) (i := 0) (by simp [bcells_len, ha.len]) .z))) ?_
    refine sq rfl (q_mul64 (a := 8) rfl rfl) ?_
    rw [show (8 : UInt64) * UInt64.ofNat m.length = UInt64.ofNat (8 * m.length) from (UInt64.ofNat_mul 8 m.length).symm]
    refine sn rfl (n_call rfl Tryz.call94 (c94 (xs := 0x80 :: List.replicate (padLen m.length) 0) (x := UInt64.ofNat (8 * m.length)) (by simpa [Nat.add_comm] using hown) (by have : padLen m.length < 64 := Nat.mod_lt _ (by decide); simp; omega))) ?_
    rintro v3 σ _ - ⟨rfl, Lp', rfl, hown'⟩
    refine sq rfl (q_assign rfl) ?_
    refine gol_nil ?_
    refine go_seq ?_
    refine go_give hown' (fun σ2 hle2 hs hcl => ?_) (by decide)
    have hK := hle2.get hK
    obtain ⟨p3, c3, rfl, hlc3⟩ := hs
    have hpad : Bytes σ2 (.slice p3 ((0x80 :: List.replicate (padLen m.length) 0 : Bts).length + 8) c3) (padOf m.length) := by
      have hpl : (padOf m.length).length = (0x80 :: List.replicate (padLen m.length) 0 : Bts).length + 8 := by simp [padOf, be64]
      exact ⟨p3, c3, by rw [hpl], by rw [hpl]; exact hlc3, by rw [hpl]; exact hcl⟩
    refine go_region ?_
    refine sq rfl (q_move rfl) ?_
    refine sn rfl (n_call rfl Tryz.call122 (c122 (m := m) ha hpad (by have : padLen m.length < 64 := Nat.mod_lt _ (by decide); have : (padOf m.length).length = 1 + padLen m.length + 8 := (by simp [padOf, be64] <;> omega); omega) hK)) ?_
    rintro _ σ2 _ - ⟨rfl, s2, rest2, ha2, rfl⟩
    refine gol_nil ?_
    refine go_seq ?_
    refine go_region ?_
    refine snb rfl (n_alloc zero27 .agg) ?_
    intro b4
    refine gol_nil ?_
    refine go_seq ?_
    refine go_seq ?_
    refine go_region ?_
    refine sq rfl (q_fieldAddr (off := 0) (o' := 0) rfl Tryz.runUnderlying261 rfl Tryz.sizeOf258 rfl rfl) ?_
    refine sq rfl (q_loadA rfl Tryz.isAgg258 Tryz.sizeOf258 (.tl .hd) (Part.mk (a := []) (vs := ucells s2.list) rfl rfl)) ?_
    refine sq rfl (q_move rfl) ?_
    refine gol_nil ?_
    refine go_block ?_
    refine go_loop (X := Nat) (fun i => i ≤ 8) (fun i => [(2, .pointer (some ⟨b1, 0, none⟩)), (5, .pointer (some ⟨b4, 0, none⟩)), (35, .agg (ucells s2.list).toArray), (36, .int .i64 (i : Int))]) (fun _ => σ2) (fun i => (b4, .cells (bcells (dgTo s2 i) ++ bcells (List.replicate (32 - 4 * i) 0)).toArray 27 (0, 0)) :: (b2, hashObj s2 rest2 (UInt64.ofNat (m ++ padOf m.length).length)) :: (b1, .cells (bcells (List.replicate 32 0)).toArray 27 (0, 0)) :: (h, hashObj s rest (UInt64.ofNat m.length)) :: L0) (fun i => 8 - i) 0 (by omega) ⟨rfl, rfl, rfl, rfl, trivial⟩ rfl rfl ?_
    intro i hi8 next
    refine go_seq ?_
    refine go_region ?_
    refine sq rfl (q_lss rfl rfl) ?_
    refine gol_nil ?_
    refine go_seq ?_
    refine go_cond rfl rfl (fun hc1 => ?_) (fun hc1 => ?_)
    ·
      have hlt : i < 8 := by simp at hc1; omega
      rw [zero4 hlt]
      refine go_skip ?_
      refine go_seq ?_
      refine go_block ?_
      refine go_seq ?_
      refine go_region ?_
      refine sq rfl (q_move rfl) ?_
      refine sq rfl (q_indexV (j := i) rfl rfl Tryz.runUnderlying258 Tryz.sizeOf256 Tryz.isAgg256 rfl hlt (s8_at hlt)) ?_
      refine sq rfl (q_assign rfl) ?_
      refine sq rfl (q_assign rfl) ?_
      refine gol_nil ?_
      refine go_region ?_
      refine sq rfl (q_move rfl) ?_
      refine sq rfl (q_mul rfl rfl (i64_in (by omega) (by omega))) ?_
      refine sq rfl (q_sliceArr (l := 4 * i) (h := 32) (n := 32) (a' := ⟨b4, 0 + 4 * i * 1, none⟩) (hv := none) rfl Tryz.runUnderlying27 Tryz.sizeOf5 rfl rfl rfl rfl (by omega) (by omega) (if_neg (by omega))) ?_
      refine sq rfl (q_move rfl) ?_
      refine sn rfl (n_call rfl Tryz.call160 (c160 (x := s2.list.getD i 0) (by rw [bcells_len, dgTo_len _ (by omega)]; omega) rfl (by omega))) ?_
      rintro _ σ2 _ - ⟨rfl, rfl⟩
      refine gol_nil ?_
      refine go_inBlock ?_
      refine go_region ?_
      refine sq rfl (q_add rfl rfl (i64_in (by omega) (by omega))) ?_
      refine sq rfl (q_move rfl) ?_
      refine gol_nil ?_
      rw [← List.append_assoc, ← bcells_app, ← dgTo_succ _ hlt]
      exact go_next (next (i + 1) (by omega) (by omega)) ⟨rfl, rfl, rfl, rfl, trivial⟩
    ·
      have hi : i = 8 := by simp at hc1; omega
      subst hi
      rw [show bcells (dgTo s2 8) ++ bcells (List.replicate (32 - 4 * 8) 0) = bcells (digestOf s2) by rw [dgTo_all]; exact List.append_nil _]
      refine go_exit rfl ?_
      refine go_seq ?_
      refine go_region ?_
      refine sq rfl (q_loadA rfl Tryz.isAgg27 Tryz.sizeOf27 .hd (Part.all rfl)) ?_
      refine sst rfl (n_storeA rfl rfl (bcells_one _) Tryz.sizeOf27 rfl (.tl (.tl .hd)) (PutAt.all rfl)) ?_
      refine gol_nil ?_
      refine go_retR Tryz.func123 Tryz.results123 rfl (.cellA rfl Tryz.isAgg27 Tryz.sizeOf27 (.tl (.tl .hd)) (Part.all rfl) .nil) (.cons _ (.cons _ (.cons _ (List.Sublist.refl _)))) (by repeat (first | exact Sto.le_refl _ | assumption | refine Sto.le_trans ?_ (by assumption))) ?_
      exact ⟨by rw [← abs_sum ha2]; rfl, rfl⟩
theorem c93 {σ : Sto} {L : SHeap} {v : Value} {m : Bts} (hx : Bytes σ v m) (hlen : m.length < 100000000000000000) {T : TypeId} {fr : Nat × Nat} (hK : σ 1 = some (.cells (ucells K256).toArray T fr)) : Ctr Tryz.prog 93 #[v] σ L fun v σ' L' => v = .agg (bcells (shaSum m)).toArray ∧ L' = L := by
  refine ctr_enter Tryz.func93 rfl Tryz.ntmps93 (by simp) ?_
  refine go_seq ?_
  refine go_region ?_
  refine snb rfl (n_alloc zero27 .agg) ?_
  intro b1
  refine gol_nil ?_
  refine go_seq ?_
  refine go_region ?_
  refine sn rfl (n_call rfl Tryz.call121 c121) ?_
  rintro _ σ _ - ⟨b2, rfl, rfl, rfl⟩
  refine sq rfl (q_assign rfl) ?_
  refine gol_nil ?_
  refine go_seq ?_
  refine go_region ?_
  refine sq rfl (q_move rfl) ?_
  refine sq rfl (q_move rfl) ?_
  refine sn rfl (n_call rfl Tryz.call122 (c122 (m := []) Abs.init hx (by simp; omega) hK)) ?_
  rintro _ σ _ - ⟨rfl, s, rest, ha, rfl⟩
  rw [List.nil_append] at ha
  refine gol_nil ?_
  refine go_seq ?_
  refine go_region ?_
  refine sq rfl (q_move rfl) ?_
  refine sn rfl (n_call rfl Tryz.call123 (c123 (m := m) ha hlen hK)) ?_
  rintro _ σ2 _ hle2 ⟨rfl, rfl⟩
  refine sst rfl (n_storeA rfl rfl (bcells_one _) Tryz.sizeOf27 (dlenS _) (.tl .hd) (PutAt.all (dlen0.trans (dlenS _).symm))) ?_
  refine gol_nil ?_
  refine go_retR Tryz.func93 Tryz.results93 rfl (.cellA rfl Tryz.isAgg27 Tryz.sizeOf27 (.tl .hd) (Part.all (dlenS _)) .nil) (.cons _ (.cons _ (List.Sublist.refl _))) (by repeat (first | exact Sto.le_refl _ | assumption | refine Sto.le_trans ?_ (by assumption))) ?_
  exact ⟨rfl, rfl⟩
theorem c50 {σ : Sto} {L : SHeap} {x : UInt64} : Ctr Tryz.prog 50 #[.int .u64 (x.toNat : Int)] σ L fun v σ' L' => Bytes σ' v (be64 x) ∧ L' = L := by
  refine ctr_enter Tryz.func50 rfl Tryz.ntmps50 (by simp) ?_
  refine go_seq ?_
  refine go_region ?_
  refine sq rfl (q_assign rfl) ?_
  refine gol_nil ?_
  refine go_seq ?_
  refine go_region ?_
  refine sq rfl (q_move rfl) ?_
  refine sn rfl (n_call rfl Tryz.call94 (c94 (Lp := []) (xs := []) (x := x) .nil (by decide))) ?_
  rintro v σ _ - ⟨rfl, Lp, rfl, hown⟩
  refine sq rfl (q_assign rfl) ?_
  refine gol_nil ?_
  refine go_give hown (fun σ2 hle hs hcl => ?_) (by decide)
  obtain ⟨p, c, rfl, hlc⟩ := hs
  refine go_ret Tryz.func50 Tryz.results50 rfl rfl rfl (by repeat (first | exact Sto.le_refl _ | assumption | refine Sto.le_trans ?_ (by assumption))) ?_
  exact ⟨⟨p, c, rfl, hlc, hcl⟩, rfl⟩
end Go.Eng
namespace Go.Eng
open Go
inductive All2 {α β : Type} (R : α → β → Prop) : List α → List β → Prop where
  | nil : All2 R [] []
  | cons {a b xs ys} (h : R a b) (hr : All2 R xs ys) : All2 R (a :: xs) (b :: ys)
theorem All2.len {α β : Type} {R : α → β → Prop} {xs : List α} {ys : List β} (h : All2 R xs ys) : xs.length = ys.length := by
  induction h with
  | nil => rfl
  | cons _ _ ih => simp [ih]
theorem All2.get {α β : Type} {R : α → β → Prop} {xs : List α} {ys : List β} (h : All2 R xs ys) : ∀ (i : Nat) (hb : i < ys.length) (ha : i < xs.length), R xs[i] ys[i] := by
  induction h with
  | nil => intro i hb; simp at hb
  | cons h _ ih =>
    intro i hb ha
    cases i with
    | zero => exact h
    | succ i => exact ih i (by simpa using hb) (by simpa using ha)
theorem All2.mono {α β : Type} {R R' : α → β → Prop} {xs : List α} {ys : List β} (h : All2 R xs ys) (hr : ∀ a b, R a b → R' a b) : All2 R' xs ys := by
  induction h with
  | nil => exact .nil
  | cons h _ ih => exact .cons (hr _ _ h) ih
structure Parts (σ : Sto) (L : SHeap) (v : Value) (ps : List Bts) : Prop where
  out : ∃ p c vs, v = .slice p ps.length c ∧ Cells σ L v ps.length 1 vs ∧ All2 (Bytes σ) vs ps
theorem Parts.new {σ : Sto} {L : SHeap} {b n c : Nat} {vs : List Value} {ps : List Bts} {T : TypeId} {fr : Nat × Nat} (h : Kn σ L b (.cells vs.toArray T fr)) (hall : All2 (Bytes σ) vs ps) (hn : ps.length = n) : Parts σ L (.slice (some ⟨b, 0, none⟩) n c) ps := by
  subst hn
  exact ⟨_, _, vs, rfl, .new h (by rw [hall.len]; omega), hall⟩
theorem Parts.more {σ : Sto} {K K' : SHeap} {v : Value} {ps : List Bts} (h : Parts σ K v ps) (hk : Keep K K') : Parts σ K' v ps :=
  ⟨let ⟨p, c, vs, h1, h2, h3⟩ := h.out; ⟨p, c, vs, h1, h2.more hk, h3⟩⟩
def iv (n : Int) : Value := .int .i64 n
def u64i (n : Int) : UInt64 := UInt64.ofNat (n % 18446744073709551616).toNat
theorem conv_int_64 (n : Int) : IntKind.u64.wrap n = ((u64i n).toNat : Int) := by
  rw [u64_mod, u64i, UInt64.toNat_ofNat']; omega
structure Hdr where
  chain : Int
  epoch : Int
  height : Int
  view : Int
  parent : Bts
  txs : Bts
  root : Bts
  proposer : Int
structure Hdr.wf (h : Hdr) : Prop where
  parent : h.parent.length = 32
  txs : h.txs.length = 32
  root : h.root.length = 32
def hdrCells (h : Hdr) : List Value := iv h.chain :: iv h.epoch :: iv h.height :: iv h.view :: (bcells h.parent ++ (bcells h.txs ++ (bcells h.root ++ [iv h.proposer])))
def headerB (h : Hdr) : Bts := joinB [be64 (u64i h.chain), be64 (u64i h.epoch), be64 (u64i h.height), be64 (u64i h.view), h.parent, h.txs, h.root, be64 (u64i h.proposer)]
def sBlock : Bts := [98, 108, 111, 99, 107]
noncomputable def hdrDig (h : Hdr) : Bts := shaOf [sBlock, headerB h]
def sAccount : Bts := [97, 99, 99, 111, 117, 110, 116]
def sLock : Bts := [108, 111, 99, 107]
def sConsumed : Bts := [99, 111, 110, 115, 117, 109, 101, 100]
def sRecord : Bts := [114, 101, 99, 111, 114, 100]
noncomputable def accountKey (n : UInt64) : Bts := shaOf [sAccount, be64 n]
noncomputable def lockKey (id : Bts) : Bts := shaOf [sLock, id]
noncomputable def consumedKey (id : Bts) : Bts := shaOf [sConsumed, id]
noncomputable def recordKey (e : Int) : Bts := shaOf [sRecord, be64 (u64i e)]
noncomputable def lockId (chain : Int) (from_ nonce : UInt64) : Bts := shaOf [sLock, be64 (u64i chain), be64 from_, be64 nonce]
def w6 (x : UInt64) : Value := .int .u64 (x.toNat : Int)
structure Lck where
  id : Bts
  src : UInt64
  dest : UInt64
  amount : UInt64
  dst : Int
  deadline : Int
  status : Int
def lockCells (l : Lck) : List Value := bcells l.id ++ [w6 l.src, w6 l.dest, w6 l.amount, iv l.dst, iv l.deadline, iv l.status]
def lockValue (l : Lck) : Bts := joinB [be64 l.src, be64 l.dest, be64 l.amount, be64 (u64i l.dst), be64 (u64i l.deadline), be64 (u64i l.status)]
def joinTo (ps : List Bts) (k : Nat) : Bts := be64 (UInt64.ofNat ps.length) ++ ((ps.take k).map fun p => be64 (UInt64.ofNat p.length) ++ p).flatten
theorem joinTo_all (ps : List Bts) : joinTo ps ps.length = joinB ps := by simp [joinTo, joinB]
theorem joinTo_succ {ps : List Bts} {k : Nat} (h : k < ps.length) : joinTo ps (k + 1) = joinTo ps k ++ be64 (UInt64.ofNat ps[k].length) ++ ps[k] := by
  simp only [joinTo, List.take_succ_eq_append_getElem h, List.map_append, List.flatten_append, List.map_cons, List.map_nil, List.flatten_cons, List.flatten_nil, List.append_nil, List.append_assoc]
theorem joinTo_le (ps : List Bts) (k : Nat) : (joinTo ps k).length ≤ (joinB ps).length := by
  have : joinB ps = joinTo ps k ++ ((ps.drop k).map fun p => be64 (UInt64.ofNat p.length) ++ p).flatten := by
    simp only [joinTo, joinB, List.append_assoc]
    rw [← List.flatten_append, ← List.map_append, List.take_append_drop]
  rw [this]; simp
theorem flat_ge (ps : List Bts) : 8 * ps.length ≤ ((ps.map fun p => be64 (UInt64.ofNat p.length) ++ p).flatten).length := by
  induction ps with
  | nil => simp
  | cons p ps ih => simp only [List.map_cons, List.flatten_cons, List.length_append, List.length_cons]; have : (be64 (UInt64.ofNat p.length)).length = 8 := rfl; omega
theorem joinB_ge (ps : List Bts) : 8 * ps.length ≤ (joinB ps).length := by
  have := flat_ge ps
  simp only [joinB, List.length_append]; omega
end Go.Eng
namespace Go.Eng
open Go Go.Proofs
set_option maxRecDepth 20000
theorem c51 {σ : Sto} {L : SHeap} {v : Value} {ps : List Bts} (hps : Parts σ L v ps) (hlen : (joinB ps).length < 10000000000) : Ctr Tryz.prog 51 #[v] σ L fun v' σ' L' => Bytes σ' v' (joinB ps) ∧ L' = L := by
  obtain ⟨p, c, vs, rfl, hcells, hall⟩ := hps.out
  refine ctr_enter Tryz.func51 rfl Tryz.ntmps51 (by simp) ?_
  refine go_seq ?_
  refine go_region ?_
  refine sq rfl (q_assign rfl) ?_
  refine gol_nil ?_
  refine go_seq ?_
  refine go_region ?_
  refine sq rfl (q_move rfl) ?_
  refine sq rfl (q_len rfl Tryz.runUnderlying187) ?_
  refine sq rfl (q_conv rfl Tryz.runUnderlying3 Tryz.runUnderlying31 (conv_i_64 _)) ?_
  refine sn rfl (n_call rfl Tryz.call94 (c94 (Lp := []) (xs := []) (x := UInt64.ofNat ps.length) .nil (by decide))) ?_
  rintro v1 σ _ - ⟨rfl, Lp1, rfl, hown1⟩
  refine sq rfl (q_assign rfl) ?_
  refine gol_nil ?_
  refine go_seq ?_
  refine go_seq ?_
  refine go_region ?_
  refine sq rfl (q_move rfl) ?_
  refine sq rfl (q_len rfl Tryz.runUnderlying187) ?_
  refine sq rfl (q_move rfl) ?_
  refine gol_nil ?_
  refine go_block ?_
  refine go_loop (X := Nat × Value × SHeap) (fun x => x.1 ≤ ps.length ∧ Own 5 1 x.2.1 (joinTo ps x.1).length (bcells (joinTo ps x.1)) x.2.2) (fun x => [(3, x.2.1), (10, .slice p ps.length c), (11, .int .i64 (ps.length : Int)), (12, .int .i64 (x.1 : Int))]) (fun _ => σ) (fun x => x.2.2 ++ L) (fun x => ps.length - x.1) (0, v1, Lp1) ⟨Nat.zero_le _, by simpa [joinTo, be64] using hown1⟩ ⟨rfl, rfl, rfl, rfl, trivial⟩ rfl rfl ?_
  rintro ⟨k, v, Lp⟩ ⟨hk, hown⟩ next
  simp only at hk hown next ⊢
  have hle1 := joinTo_le ps k
  have hge := joinB_ge ps
  refine go_seq ?_
  refine go_region ?_
  refine sq rfl (q_lss rfl rfl) ?_
  refine gol_nil ?_
  refine go_seq ?_
  refine go_cond rfl rfl (fun hc0 => ?_) (fun hc0 => ?_)
  ·
    have hlt : k < ps.length := by simp at hc0; omega
    have hlv : k < vs.length := by rw [hall.len]; exact hlt
    obtain ⟨b, o, ds, T', fr', rfl, hkn, hp⟩ := hcells.get (by intro e; rw [e] at hlv; simp at hlv)
    obtain ⟨pk, ck, hvk, hlk, hck⟩ := (hall.get k hlt hlv).out
    have hle2 := joinTo_le ps (k + 1)
    have hjs := congrArg List.length (joinTo_succ hlt)
    simp only [List.length_append] at hjs
    have h8 : (be64 (UInt64.ofNat ps[k].length)).length = 8 := rfl
    refine go_skip ?_
    refine go_seq ?_
    refine go_block ?_
    refine go_seq ?_
    refine go_region ?_
    refine sq rfl (q_indexAddr (j := k) (o' := o + k) rfl rfl Tryz.runUnderlying187 Tryz.sizeOf22 rfl hlt (by omega)) ?_
    refine sq rfl (q_load (cs := ds.toList) (v := vs[k]) rfl Tryz.isAgg22 (hkn.imp id (List.mem_append_right _)) (hp.at (.of (List.getElem?_eq_getElem hlv)))) ?_
    refine sq rfl (q_assign rfl) ?_
    refine gol_nil ?_
    refine go_seq ?_
    rw [hvk]
    refine go_region ?_
    refine sq rfl (q_move rfl) ?_
    refine sq rfl (q_move rfl) ?_
    refine sq rfl (q_len rfl Tryz.runUnderlying22) ?_
    refine sq rfl (q_conv rfl Tryz.runUnderlying3 Tryz.runUnderlying31 (conv_i_64 _)) ?_
    refine sn rfl (n_call rfl Tryz.call94 (c94 (xs := joinTo ps k) (x := UInt64.ofNat ps[k].length) hown (by omega))) ?_
    rintro v2 σ _ - ⟨rfl, Lp2, rfl, hown2⟩
    refine sq rfl (q_assign rfl) ?_
    refine gol_nil ?_
    refine go_region ?_
    refine sq rfl (q_move rfl) ?_
    refine sq rfl (q_move rfl) ?_
    refine sn rfl (n_append (n := (joinTo ps k).length + 8) (m := ps[k].length) (new := bcells ps[k]) rfl rfl Tryz.runUnderlying22 Tryz.sizeOf5 Tryz.typeInfo5 rfl Tryz.zeroValue5 rfl Tryz.runUnderlying22 hown2 (by rw [hvk] at hck; exact hck.more (Keep.nil _)) (bcells_one _) (by show (2 * ((joinTo ps k).length + 8 + ps[k].length) + 1000) * 1 ≤ _; omega)) ?_
    rintro v3 σ _ - ⟨Lp3, rfl, rfl, hown3⟩
    refine sq rfl (q_assign rfl) ?_
    refine gol_nil ?_
    refine go_inBlock ?_
    refine go_region ?_
    refine sq rfl (q_add rfl rfl (i64_in (by omega) (by omega))) ?_
    refine sq rfl (q_move rfl) ?_
    refine gol_nil ?_
    refine go_next (next (k + 1, v3, Lp3) ⟨hlt, ?_⟩ (by simp only; omega)) ⟨rfl, rfl, rfl, rfl, trivial⟩
    simp only
    rw [joinTo_succ hlt, bcells_app, List.length_append, List.length_append, h8]; exact hown3
  ·
    have hk' : k = ps.length := by simp at hc0; omega
    subst hk'
    rw [joinTo_all] at hown
    refine go_exit rfl ?_
    refine go_seq ?_
    refine go_region ?_
    refine sq rfl (q_move rfl) ?_
    refine sq rfl (q_assign rfl) ?_
    refine gol_nil ?_
    refine go_give hown (fun σ2 hle hs hcl => ?_) (by decide)
    obtain ⟨p3, c3, rfl, hlc3⟩ := hs
    refine go_ret Tryz.func51 Tryz.results51 rfl rfl rfl (by repeat (first | exact Sto.le_refl _ | assumption | refine Sto.le_trans ?_ (by assumption))) ?_
    exact ⟨⟨p3, c3, rfl, hlc3, hcl⟩, rfl⟩
theorem c49 {σ : Sto} {L : SHeap} {v : Value} {ps : List Bts} (hps : Parts σ L v ps) (hlen : (joinB ps).length < 10000000000) {T : TypeId} {fr : Nat × Nat} (hK : σ 1 = some (.cells (ucells K256).toArray T fr)) : Ctr Tryz.prog 49 #[v] σ L fun v' σ' L' => v' = .agg (bcells (shaOf ps)).toArray ∧ L' = L := by
  refine ctr_enter Tryz.func49 rfl Tryz.ntmps49 (by simp) ?_
  refine go_seq ?_
  refine go_region ?_
  refine snb rfl (n_alloc zero27 .agg) ?_
  intro b1
  refine gol_nil ?_
  refine go_seq ?_
  refine go_region ?_
  refine sq rfl (q_move rfl) ?_
  refine sn rfl (n_call rfl Tryz.call51 (c51 (hps.more (fun _ _ h => List.mem_cons_of_mem _ h)) hlen)) ?_
  rintro v1 σ1 _ hle1 ⟨hb, rfl⟩
  have hK := hle1.get hK
  refine sn rfl (n_call rfl Tryz.call93 (c93 hb (by omega) hK)) ?_
  rintro _ σ2 _ hle2 ⟨rfl, rfl⟩
  refine sst rfl (n_storeA rfl rfl (bcells_one _) Tryz.sizeOf27 (dlen _) .hd (PutAt.all (dlen0.trans (dlen _).symm))) ?_
  refine gol_nil ?_
  refine go_retR Tryz.func49 Tryz.results49 rfl (.cellA rfl Tryz.isAgg27 Tryz.sizeOf27 .hd (Part.all (dlen _)) .nil) (.cons _ (List.Sublist.refl _)) (by repeat (first | exact Sto.le_refl _ | assumption | refine Sto.le_trans ?_ (by assumption))) ?_
  exact ⟨rfl, rfl⟩
theorem c52 {σ : Sto} {L : SHeap} {n : Int} : Ctr Tryz.prog 52 #[.int .i64 n] σ L fun v σ' L' => Bytes σ' v (be64 (u64i n)) ∧ L' = L := by
  refine ctr_enter Tryz.func52 rfl Tryz.ntmps52 (by simp) ?_
  refine go_seq ?_
  refine go_region ?_
  refine sq rfl (q_assign rfl) ?_
  refine gol_nil ?_
  refine go_seq ?_
  refine go_region ?_
  refine sq rfl (q_move rfl) ?_
  refine sq rfl (q_conv rfl Tryz.runUnderlying3 Tryz.runUnderlying31 (conv_int_64 _)) ?_
  refine sn rfl (n_call rfl Tryz.call94 (c94 (Lp := []) (xs := []) (x := u64i n) .nil (by decide))) ?_
  rintro v σ _ - ⟨rfl, Lp, rfl, hown⟩
  refine sq rfl (q_assign rfl) ?_
  refine gol_nil ?_
  refine go_give hown (fun σ2 hle hs hcl => ?_) (by decide)
  obtain ⟨p, c, rfl, hlc⟩ := hs
  refine go_ret Tryz.func52 Tryz.results52 rfl rfl rfl (by repeat (first | exact Sto.le_refl _ | assumption | refine Sto.le_trans ?_ (by assumption))) ?_
  exact ⟨⟨p, c, rfl, hlc, hcl⟩, rfl⟩
theorem c116 {σ : Sto} {L : SHeap} {n : Int} : Ctr Tryz.prog 116 #[.int .i64 n] σ L fun v σ' L' => Bytes σ' v (be64 (u64i n)) ∧ L' = L := by
  refine ctr_enter Tryz.func116 rfl Tryz.ntmps116 (by simp) ?_
  refine go_seq ?_
  refine go_region ?_
  refine sq rfl (q_assign rfl) ?_
  refine gol_nil ?_
  refine go_seq ?_
  refine go_region ?_
  refine sq rfl (q_move rfl) ?_
  refine sq rfl (q_conv rfl Tryz.runUnderlying2 Tryz.runUnderlying31 (conv_int_64 _)) ?_
  refine sn rfl (n_call rfl Tryz.call94 (c94 (Lp := []) (xs := []) (x := u64i n) .nil (by decide))) ?_
  rintro v σ _ - ⟨rfl, Lp, rfl, hown⟩
  refine sq rfl (q_assign rfl) ?_
  refine gol_nil ?_
  refine go_give hown (fun σ2 hle hs hcl => ?_) (by decide)
  obtain ⟨p, c, rfl, hlc⟩ := hs
  refine go_ret Tryz.func116 Tryz.results116 rfl rfl rfl (by repeat (first | exact Sto.le_refl _ | assumption | refine Sto.le_trans ?_ (by assumption))) ?_
  exact ⟨⟨p, c, rfl, hlc, hcl⟩, rfl⟩
theorem c128 {σ : Sto} {L : SHeap} {n : Int} : Ctr Tryz.prog 128 #[.int .i64 n] σ L fun v σ' L' => Bytes σ' v (be64 (u64i n)) ∧ L' = L := by
  refine ctr_enter Tryz.func128 rfl Tryz.ntmps128 (by simp) ?_
  refine go_seq ?_
  refine go_region ?_
  refine sq rfl (q_assign rfl) ?_
  refine gol_nil ?_
  refine go_seq ?_
  refine go_region ?_
  refine sq rfl (q_move rfl) ?_
  refine sq rfl (q_conv rfl Tryz.runUnderlying3 Tryz.runUnderlying31 (conv_int_64 _)) ?_
  refine sn rfl (n_call rfl Tryz.call94 (c94 (Lp := []) (xs := []) (x := u64i n) .nil (by decide))) ?_
  rintro v σ _ - ⟨rfl, Lp, rfl, hown⟩
  refine sq rfl (q_assign rfl) ?_
  refine gol_nil ?_
  refine go_give hown (fun σ2 hle hs hcl => ?_) (by decide)
  obtain ⟨p, c, rfl, hlc⟩ := hs
  refine go_ret Tryz.func128 Tryz.results128 rfl rfl rfl (by repeat (first | exact Sto.le_refl _ | assumption | refine Sto.le_trans ?_ (by assumption))) ?_
  exact ⟨⟨p, c, rfl, hlc, hcl⟩, rfl⟩
theorem c117 {σ : Sto} {L : SHeap} {d : Bts} (hd : d.length = 32) : Ctr Tryz.prog 117 #[.agg (bcells d).toArray] σ L fun v σ' L' => Bytes σ' v d ∧ L' = L := by
  refine ctr_enter Tryz.func117 rfl Tryz.ntmps117 (by simp) ?_
  refine go_seq ?_
  refine go_region ?_
  refine snb rfl (n_box rfl .agg) ?_
  intro b1
  refine sq rfl (q_assign rfl) ?_
  refine gol_nil ?_
  refine go_seq ?_
  refine go_freeze fun hle => ?_
  refine go_region ?_
  refine sq rfl (q_sliceArr (l := 0) (h := 32) (n := 32) (a' := ⟨b1, 0, none⟩) (lv := none) (hv := none) rfl Tryz.runUnderlying27 Tryz.sizeOf5 rfl rfl rfl rfl (by decide) (by decide) rfl) ?_
  refine sq rfl (q_assign rfl) ?_
  refine gol_nil ?_
  refine go_ret Tryz.func117 Tryz.results117 rfl rfl rfl (by repeat (first | exact Sto.le_refl _ | assumption | refine Sto.le_trans ?_ (by assumption))) ?_
  refine ⟨⟨some ⟨b1, 0, none⟩, 32, by rw [hd]; rfl, by omega, ?_⟩, rfl⟩
  rw [hd]; exact Cells.new (.sto (Sto.add_get _ _ _)) (by rw [bcells_len, hd])
theorem hdr_len {h : Hdr} (hw : h.wf) : (hdrCells h).length = 101 := by simp [hdrCells, bcells_len, hw.parent, hw.txs, hw.root]
theorem hdr_prop {h : Hdr} (hw : h.wf) : At (hdrCells h) 100 (iv h.proposer) := by
  have := At.app (l := iv h.chain :: iv h.epoch :: iv h.height :: iv h.view :: (bcells h.parent ++ (bcells h.txs ++ bcells h.root))) (m := [iv h.proposer]) (n := 100) (i := 0) (v := iv h.proposer) (by simp [bcells_len, hw.parent, hw.txs, hw.root]) .z
  simpa [hdrCells] using this
theorem c84 {σ : Sto} {L : SHeap} {h : Hdr} (hw : h.wf) : Ctr Tryz.prog 84 #[.agg (hdrCells h).toArray] σ L fun v σ' L' => Bytes σ' v (headerB h) ∧ L' = L := by
  refine ctr_enter Tryz.func84 rfl Tryz.ntmps84 (by simp) ?_
  refine go_seq ?_
  refine go_region ?_
  refine snb rfl (n_box rfl .agg) ?_
  intro b1
  refine sq rfl (q_assign rfl) ?_
  refine gol_nil ?_
  refine go_seq ?_
  refine go_draws (n := 29) _ mix rfl (by decide +kernel) (Keep.refl _) ?_
  refine dq 0 rfl rfl rfl rfl (q_fieldAddr (off := 0) (o' := 0) rfl Tryz.runUnderlying71 rfl Tryz.sizeOf3 rfl rfl) ?_
  refine dq 1 rfl rfl rfl rfl (q_load (cs := hdrCells h) (v := iv h.chain) rfl Tryz.isAgg3 .hd .z) ?_
  refine dq 3 rfl rfl rfl rfl (q_fieldAddr (off := 1) (o' := 1) rfl Tryz.runUnderlying71 rfl Tryz.sizeOf3 rfl rfl) ?_
  refine dq 4 rfl rfl rfl rfl (q_load (cs := hdrCells h) (v := iv h.epoch) rfl Tryz.isAgg3 .hd (.s .z)) ?_
  refine dq 6 rfl rfl rfl rfl (q_fieldAddr (off := 2) (o' := 2) rfl Tryz.runUnderlying71 rfl Tryz.sizeOf2 rfl rfl) ?_
  refine dq 7 rfl rfl rfl rfl (q_load (cs := hdrCells h) (v := iv h.height) rfl Tryz.isAgg2 .hd (.s (.s .z))) ?_
  refine dq 9 rfl rfl rfl rfl (q_fieldAddr (off := 3) (o' := 3) rfl Tryz.runUnderlying71 rfl Tryz.sizeOf2 rfl rfl) ?_
  refine dq 10 rfl rfl rfl rfl (q_load (cs := hdrCells h) (v := iv h.view) rfl Tryz.isAgg2 .hd (.s (.s (.s .z)))) ?_
  refine dq 12 rfl rfl rfl rfl (q_fieldAddr (off := 4) (o' := 4) rfl Tryz.runUnderlying71 rfl Tryz.sizeOf27 rfl rfl) ?_
  refine dq 13 rfl rfl rfl rfl (q_loadA (cs := hdrCells h) rfl Tryz.isAgg27 Tryz.sizeOf27 .hd (Part.mk (a := [iv h.chain, iv h.epoch, iv h.height, iv h.view]) (vs := bcells h.parent) rfl (by rw [bcells_len, hw.parent]))) ?_
  refine dq 15 rfl rfl rfl rfl (q_fieldAddr (off := 36) (o' := 36) rfl Tryz.runUnderlying71 rfl Tryz.sizeOf27 rfl rfl) ?_
  refine dq 16 rfl rfl rfl rfl (q_loadA (cs := hdrCells h) rfl Tryz.isAgg27 Tryz.sizeOf27 .hd (Part.mk (a := iv h.chain :: iv h.epoch :: iv h.height :: iv h.view :: bcells h.parent) (vs := bcells h.txs) (i := 36) (n := 32) (b := bcells h.root ++ [iv h.proposer]) (by simp [bcells_len, hw.parent]) (by rw [bcells_len, hw.txs]) |> fun h => by simpa [hdrCells] using h)) ?_
  refine dq 18 rfl rfl rfl rfl (q_fieldAddr (off := 68) (o' := 68) rfl Tryz.runUnderlying71 rfl Tryz.sizeOf27 rfl rfl) ?_
  refine dq 19 rfl rfl rfl rfl (q_loadA (cs := hdrCells h) rfl Tryz.isAgg27 Tryz.sizeOf27 .hd (Part.mk (a := iv h.chain :: iv h.epoch :: iv h.height :: iv h.view :: (bcells h.parent ++ bcells h.txs)) (vs := bcells h.root) (i := 68) (n := 32) (b := [iv h.proposer]) (by simp [bcells_len, hw.parent, hw.txs]) (by rw [bcells_len, hw.root]) |> fun h => by simpa [hdrCells] using h)) ?_
  refine dq 21 rfl rfl rfl rfl (q_fieldAddr (off := 100) (o' := 100) rfl Tryz.runUnderlying71 rfl Tryz.sizeOf3 rfl rfl) ?_
  refine dq 22 rfl rfl rfl rfl (q_load (cs := hdrCells h) (v := iv h.proposer) rfl Tryz.isAgg3 .hd (hdr_prop hw)) ?_
  refine dn 2 rfl rfl rfl rfl (by decide +kernel) (n_call rfl Tryz.call52 c52) (fun _ _ _ _ h => by rw [h.2]; exact Keep.refl _) ?_
  rintro v0 σ0 _ hle0 ⟨hb0, rfl⟩
  refine dn 5 rfl rfl rfl rfl (by decide +kernel) (n_call rfl Tryz.call52 c52) (fun _ _ _ _ h => by rw [h.2]; exact Keep.refl _) ?_
  rintro v1 σ1 _ hle1 ⟨hb1, rfl⟩
  refine dn 8 rfl rfl rfl rfl (by decide +kernel) (n_call rfl Tryz.call116 c116) (fun _ _ _ _ h => by rw [h.2]; exact Keep.refl _) ?_
  rintro v2 σ2 _ hle2 ⟨hb2, rfl⟩
  refine dn 11 rfl rfl rfl rfl (by decide +kernel) (n_call rfl Tryz.call116 c116) (fun _ _ _ _ h => by rw [h.2]; exact Keep.refl _) ?_
  rintro v3 σ3 _ hle3 ⟨hb3, rfl⟩
  refine dn 14 rfl rfl rfl rfl (by decide +kernel) (n_call rfl Tryz.call117 (c117 hw.parent)) (fun _ _ _ _ h => by rw [h.2]; exact Keep.refl _) ?_
  rintro v4 σ4 _ hle4 ⟨hb4, rfl⟩
  refine dn 17 rfl rfl rfl rfl (by decide +kernel) (n_call rfl Tryz.call117 (c117 hw.txs)) (fun _ _ _ _ h => by rw [h.2]; exact Keep.refl _) ?_
  rintro v5 σ5 _ hle5 ⟨hb5, rfl⟩
  refine dn 20 rfl rfl rfl rfl (by decide +kernel) (n_call rfl Tryz.call117 (c117 hw.root)) (fun _ _ _ _ h => by rw [h.2]; exact Keep.refl _) ?_
  rintro v6 σ6 _ hle6 ⟨hb6, rfl⟩
  refine dn 23 rfl rfl rfl rfl (by decide +kernel) (n_call rfl Tryz.call52 c52) (fun _ _ _ _ h => by rw [h.2]; exact Keep.refl _) ?_
  rintro v7 σ7 _ hle7 ⟨hb7, rfl⟩
  refine dns 24 rfl rfl rfl rfl (by decide +kernel) (n_buildSlice (sz := 1) (.cons rfl (.one (by first | rfl | exact Bytes.one (by assumption))) rfl (.cons rfl (.one (by first | rfl | exact Bytes.one (by assumption))) rfl (.cons rfl (.one (by first | rfl | exact Bytes.one (by assumption))) rfl (.cons rfl (.one (by first | rfl | exact Bytes.one (by assumption))) rfl (.cons rfl (.one (by first | rfl | exact Bytes.one (by assumption))) rfl (.cons rfl (.one (by first | rfl | exact Bytes.one (by assumption))) rfl (.cons rfl (.one (by first | rfl | exact Bytes.one (by assumption))) rfl (.cons rfl (.one (by first | rfl | exact Bytes.one (by assumption))) rfl .nil)))))))) rfl Tryz.runUnderlying187 Tryz.sizeOf22 Tryz.zeroValue22 rfl rfl) (Keep.refl _) ?_
  intro b9
  refine dn 25 rfl rfl rfl rfl (by decide +kernel) (n_call rfl Tryz.call51 (c51 (ps := [be64 (u64i h.chain), be64 (u64i h.epoch), be64 (u64i h.height), be64 (u64i h.view), h.parent, h.txs, h.root, be64 (u64i h.proposer)]) (Parts.new .hd (.cons (hb0.up (Sto.le_trans hle1 (Sto.le_trans hle2 (Sto.le_trans hle3 (Sto.le_trans hle4 (Sto.le_trans hle5 (Sto.le_trans hle6 hle7))))))) (.cons (hb1.up (Sto.le_trans hle2 (Sto.le_trans hle3 (Sto.le_trans hle4 (Sto.le_trans hle5 (Sto.le_trans hle6 hle7)))))) (.cons (hb2.up (Sto.le_trans hle3 (Sto.le_trans hle4 (Sto.le_trans hle5 (Sto.le_trans hle6 hle7))))) (.cons (hb3.up (Sto.le_trans hle4 (Sto.le_trans hle5 (Sto.le_trans hle6 hle7)))) (.cons (hb4.up (Sto.le_trans hle5 (Sto.le_trans hle6 hle7))) (.cons (hb5.up (Sto.le_trans hle6 hle7)) (.cons (hb6.up hle7) (.cons hb7 .nil)))))))) rfl) (by simp [joinB, be64, hw.parent, hw.txs, hw.root]))) (fun _ _ _ _ h => by rw [h.2]; exact fun _ _ h => List.mem_cons_of_mem _ h) ?_
  rintro v9 σ9 _ hle9 ⟨hb9, rfl⟩
  refine dq 26 rfl rfl rfl rfl (q_assign rfl) ?_
  refine dend rfl ?_
  refine go_drop1 (go_drop1 ?_)
  refine go_ret Tryz.func84 Tryz.results84 rfl rfl rfl (by repeat (first | exact Sto.le_refl _ | assumption | refine Sto.le_trans ?_ (by assumption))) ?_
  exact ⟨hb9, rfl⟩
theorem c86 {σ : Sto} {L : SHeap} {n : UInt64} {T : TypeId} {fr : Nat × Nat} (hK : σ 1 = some (.cells (ucells K256).toArray T fr)) : Ctr Tryz.prog 86 #[.int .u64 (n.toNat : Int)] σ L fun v σ' L' => v = .agg (bcells (accountKey n)).toArray ∧ L' = L := by
  refine ctr_enter Tryz.func86 rfl Tryz.ntmps86 (by simp) ?_
  refine go_seq ?_
  refine go_region ?_
  refine snb rfl (n_alloc zero27 .agg) ?_
  intro b1
  refine gol_nil ?_
  refine go_seq ?_
  refine go_region ?_
  refine sns rfl (n_buildSlice (sz := 1) (l' := bcells sAccount) (.cons rfl (.one rfl) rfl (.cons rfl (.one rfl) rfl (.cons rfl (.one rfl) rfl (.cons rfl (.one rfl) rfl (.cons rfl (.one rfl) rfl (.cons rfl (.one rfl) rfl (.cons rfl (.one rfl) rfl .nil))))))) rfl Tryz.runUnderlying22 Tryz.sizeOf5 Tryz.zeroValue5 rfl rfl) ?_
  intro b2
  refine smark rfl rfl Tryz.runUnderlying22 Tryz.runUnderlying5 rfl ?_
  intro σm0 hlm0 hbm0
  refine sq rfl (q_move rfl) ?_
  refine sn rfl (n_call rfl Tryz.call50 c50) ?_
  rintro v1 σ1 _ hle1 ⟨hb1, rfl⟩
  refine sns rfl (n_buildSlice (sz := 1) (.cons rfl (.one (by first | rfl | exact Bytes.one (by assumption))) rfl (.cons rfl (.one (by first | rfl | exact Bytes.one (by assumption))) rfl .nil)) rfl Tryz.runUnderlying187 Tryz.sizeOf22 Tryz.zeroValue22 rfl rfl) ?_
  intro b3
  refine sn rfl (n_call rfl Tryz.call49 (c49 (ps := [sAccount, be64 n]) (Parts.new .hd (.cons (by first | assumption | exact Bytes.up (by assumption) (by repeat (first | exact Sto.le_refl _ | assumption | refine Sto.le_trans ?_ (by assumption)))) (.cons (by first | assumption | exact Bytes.up (by assumption) (by repeat (first | exact Sto.le_refl _ | assumption | refine Sto.le_trans ?_ (by assumption)))) .nil)) rfl) (by simp [joinB, be64, sAccount]) (Sto.le.get (by repeat (first | exact Sto.le_refl _ | assumption | refine Sto.le_trans ?_ (by assumption))) hK))) ?_
  rintro _ σz _ hlz ⟨rfl, rfl⟩
  refine sst rfl (n_storeA rfl rfl (bcells_one _) Tryz.sizeOf27 (dlen _) (.tl .hd) (PutAt.all (dlen0.trans (dlen _).symm))) ?_
  refine gol_nil ?_
  refine go_retR Tryz.func86 Tryz.results86 rfl (.cellA rfl Tryz.isAgg27 Tryz.sizeOf27 (.tl .hd) (Part.all (dlen _)) .nil) (.cons _ (.cons _ (List.Sublist.refl _))) (by repeat (first | exact Sto.le_refl _ | assumption | refine Sto.le_trans ?_ (by assumption))) ?_
  exact ⟨rfl, rfl⟩
theorem c87 {σ : Sto} {L : SHeap} {d : Bts} (hd : d.length = 32) {T : TypeId} {fr : Nat × Nat} (hK : σ 1 = some (.cells (ucells K256).toArray T fr)) : Ctr Tryz.prog 87 #[.agg (bcells d).toArray] σ L fun v σ' L' => v = .agg (bcells (lockKey d)).toArray ∧ L' = L := by
  refine ctr_enter Tryz.func87 rfl Tryz.ntmps87 (by simp) ?_
  refine go_seq ?_
  refine go_region ?_
  refine snb rfl (n_box rfl .agg) ?_
  intro b1
  refine snb rfl (n_alloc zero27 .agg) ?_
  intro b2
  refine gol_nil ?_
  refine go_seq ?_
  refine go_region ?_
  refine sns rfl (n_buildSlice (sz := 1) (l' := bcells sLock) (.cons rfl (.one rfl) rfl (.cons rfl (.one rfl) rfl (.cons rfl (.one rfl) rfl (.cons rfl (.one rfl) rfl .nil)))) rfl Tryz.runUnderlying22 Tryz.sizeOf5 Tryz.zeroValue5 rfl rfl) ?_
  intro b3
  refine smark rfl rfl Tryz.runUnderlying22 Tryz.runUnderlying5 rfl ?_
  intro σm0 hlm0 hbm0
  refine sq rfl (q_sliceArr (l := 0) (h := 32) (n := 32) (a' := ⟨b1, 0, none⟩) (lv := none) (hv := none) rfl Tryz.runUnderlying27 Tryz.sizeOf5 rfl rfl rfl rfl (by decide) (by decide) rfl) ?_
  refine gol_perm _ (List.Perm.swap _ _ _) ?_
  refine gol_frz fun σf hlf hsf => ?_
  have hbd := Bytes.blk (n := 32 - 0) (m := 32 - 0) hsf hd (Nat.le_refl _)
  refine sns rfl (n_buildSlice (sz := 1) (.cons rfl (.one (by first | rfl | exact Bytes.one (by assumption))) rfl (.cons rfl (.one (by first | rfl | exact Bytes.one (by assumption))) rfl .nil)) rfl Tryz.runUnderlying187 Tryz.sizeOf22 Tryz.zeroValue22 rfl rfl) ?_
  intro b4
  refine sn rfl (n_call rfl Tryz.call49 (c49 (ps := [sLock, d]) (Parts.new .hd (.cons (by first | assumption | exact Bytes.up (by assumption) (by repeat (first | exact Sto.le_refl _ | assumption | refine Sto.le_trans ?_ (by assumption)))) (.cons (by first | assumption | exact Bytes.up (by assumption) (by repeat (first | exact Sto.le_refl _ | assumption | refine Sto.le_trans ?_ (by assumption)))) .nil)) rfl) (by simp [joinB, be64, sLock, hd]) (Sto.le.get (by repeat (first | exact Sto.le_refl _ | assumption | refine Sto.le_trans ?_ (by assumption))) hK))) ?_
  rintro _ σz _ hlz ⟨rfl, rfl⟩
  refine sst rfl (n_storeA rfl rfl (bcells_one _) Tryz.sizeOf27 (dlen _) (.tl .hd) (PutAt.all (dlen0.trans (dlen _).symm))) ?_
  refine gol_nil ?_
  refine go_retR Tryz.func87 Tryz.results87 rfl (.cellA rfl Tryz.isAgg27 Tryz.sizeOf27 (.tl .hd) (Part.all (dlen _)) .nil) (.cons _ (.cons _ (List.Sublist.refl _))) (by repeat (first | exact Sto.le_refl _ | assumption | refine Sto.le_trans ?_ (by assumption))) ?_
  exact ⟨rfl, rfl⟩
theorem c89 {σ : Sto} {L : SHeap} {d : Bts} (hd : d.length = 32) {T : TypeId} {fr : Nat × Nat} (hK : σ 1 = some (.cells (ucells K256).toArray T fr)) : Ctr Tryz.prog 89 #[.agg (bcells d).toArray] σ L fun v σ' L' => v = .agg (bcells (consumedKey d)).toArray ∧ L' = L := by
  refine ctr_enter Tryz.func89 rfl Tryz.ntmps89 (by simp) ?_
  refine go_seq ?_
  refine go_region ?_
  refine snb rfl (n_box rfl .agg) ?_
  intro b1
  refine snb rfl (n_alloc zero27 .agg) ?_
  intro b2
  refine gol_nil ?_
  refine go_seq ?_
  refine go_region ?_
  refine sns rfl (n_buildSlice (sz := 1) (l' := bcells sConsumed) (.cons rfl (.one rfl) rfl (.cons rfl (.one rfl) rfl (.cons rfl (.one rfl) rfl (.cons rfl (.one rfl) rfl (.cons rfl (.one rfl) rfl (.cons rfl (.one rfl) rfl (.cons rfl (.one rfl) rfl (.cons rfl (.one rfl) rfl .nil)))))))) rfl Tryz.runUnderlying22 Tryz.sizeOf5 Tryz.zeroValue5 rfl rfl) ?_
  intro b3
  refine smark rfl rfl Tryz.runUnderlying22 Tryz.runUnderlying5 rfl ?_
  intro σm0 hlm0 hbm0
  refine sq rfl (q_sliceArr (l := 0) (h := 32) (n := 32) (a' := ⟨b1, 0, none⟩) (lv := none) (hv := none) rfl Tryz.runUnderlying27 Tryz.sizeOf5 rfl rfl rfl rfl (by decide) (by decide) rfl) ?_
  refine gol_perm _ (List.Perm.swap _ _ _) ?_
  refine gol_frz fun σf hlf hsf => ?_
  have hbd := Bytes.blk (n := 32 - 0) (m := 32 - 0) hsf hd (Nat.le_refl _)
  refine sns rfl (n_buildSlice (sz := 1) (.cons rfl (.one (by first | rfl | exact Bytes.one (by assumption))) rfl (.cons rfl (.one (by first | rfl | exact Bytes.one (by assumption))) rfl .nil)) rfl Tryz.runUnderlying187 Tryz.sizeOf22 Tryz.zeroValue22 rfl rfl) ?_
  intro b4
  refine sn rfl (n_call rfl Tryz.call49 (c49 (ps := [sConsumed, d]) (Parts.new .hd (.cons (by first | assumption | exact Bytes.up (by assumption) (by repeat (first | exact Sto.le_refl _ | assumption | refine Sto.le_trans ?_ (by assumption)))) (.cons (by first | assumption | exact Bytes.up (by assumption) (by repeat (first | exact Sto.le_refl _ | assumption | refine Sto.le_trans ?_ (by assumption)))) .nil)) rfl) (by simp [joinB, be64, sConsumed, hd]) (Sto.le.get (by repeat (first | exact Sto.le_refl _ | assumption | refine Sto.le_trans ?_ (by assumption))) hK))) ?_
  rintro _ σz _ hlz ⟨rfl, rfl⟩
  refine sst rfl (n_storeA rfl rfl (bcells_one _) Tryz.sizeOf27 (dlen _) (.tl .hd) (PutAt.all (dlen0.trans (dlen _).symm))) ?_
  refine gol_nil ?_
  refine go_retR Tryz.func89 Tryz.results89 rfl (.cellA rfl Tryz.isAgg27 Tryz.sizeOf27 (.tl .hd) (Part.all (dlen _)) .nil) (.cons _ (.cons _ (List.Sublist.refl _))) (by repeat (first | exact Sto.le_refl _ | assumption | refine Sto.le_trans ?_ (by assumption))) ?_
  exact ⟨rfl, rfl⟩
theorem c24 {σ : Sto} {L : SHeap} {n : Int} {T : TypeId} {fr : Nat × Nat} (hK : σ 1 = some (.cells (ucells K256).toArray T fr)) : Ctr Tryz.prog 24 #[.int .i64 n] σ L fun v σ' L' => v = .agg (bcells (recordKey n)).toArray ∧ L' = L := by
  refine ctr_enter Tryz.func24 rfl Tryz.ntmps24 (by simp) ?_
  refine go_seq ?_
  refine go_region ?_
  refine snb rfl (n_alloc zero27 .agg) ?_
  intro b1
  refine gol_nil ?_
  refine go_seq ?_
  refine go_region ?_
  refine sns rfl (n_buildSlice (sz := 1) (l' := bcells sRecord) (.cons rfl (.one rfl) rfl (.cons rfl (.one rfl) rfl (.cons rfl (.one rfl) rfl (.cons rfl (.one rfl) rfl (.cons rfl (.one rfl) rfl (.cons rfl (.one rfl) rfl .nil)))))) rfl Tryz.runUnderlying22 Tryz.sizeOf5 Tryz.zeroValue5 rfl rfl) ?_
  intro b2
  refine smark rfl rfl Tryz.runUnderlying22 Tryz.runUnderlying5 rfl ?_
  intro σm0 hlm0 hbm0
  refine sq rfl (q_move rfl) ?_
  refine sq rfl (q_conv rfl Tryz.runUnderlying3 Tryz.runUnderlying31 (conv_int_64 _)) ?_
  refine sn rfl (n_call rfl Tryz.call50 c50) ?_
  rintro v1 σ1 _ hle1 ⟨hb1, rfl⟩
  refine sns rfl (n_buildSlice (sz := 1) (.cons rfl (.one (by first | rfl | exact Bytes.one (by assumption))) rfl (.cons rfl (.one (by first | rfl | exact Bytes.one (by assumption))) rfl .nil)) rfl Tryz.runUnderlying187 Tryz.sizeOf22 Tryz.zeroValue22 rfl rfl) ?_
  intro b3
  refine sn rfl (n_call rfl Tryz.call49 (c49 (ps := [sRecord, be64 (u64i n)]) (Parts.new .hd (.cons (by first | assumption | exact Bytes.up (by assumption) (by repeat (first | exact Sto.le_refl _ | assumption | refine Sto.le_trans ?_ (by assumption)))) (.cons (by first | assumption | exact Bytes.up (by assumption) (by repeat (first | exact Sto.le_refl _ | assumption | refine Sto.le_trans ?_ (by assumption)))) .nil)) rfl) (by simp [joinB, be64, sRecord]) (Sto.le.get (by repeat (first | exact Sto.le_refl _ | assumption | refine Sto.le_trans ?_ (by assumption))) hK))) ?_
  rintro _ σz _ hlz ⟨rfl, rfl⟩
  refine sst rfl (n_storeA rfl rfl (bcells_one _) Tryz.sizeOf27 (dlen _) (.tl .hd) (PutAt.all (dlen0.trans (dlen _).symm))) ?_
  refine gol_nil ?_
  refine go_retR Tryz.func24 Tryz.results24 rfl (.cellA rfl Tryz.isAgg27 Tryz.sizeOf27 (.tl .hd) (Part.all (dlen _)) .nil) (.cons _ (.cons _ (List.Sublist.refl _))) (by repeat (first | exact Sto.le_refl _ | assumption | refine Sto.le_trans ?_ (by assumption))) ?_
  exact ⟨rfl, rfl⟩
theorem c56 {σ : Sto} {L : SHeap} {n : Int} {a b : UInt64} {T : TypeId} {fr : Nat × Nat} (hK : σ 1 = some (.cells (ucells K256).toArray T fr)) : Ctr Tryz.prog 56 #[.int .i64 n, .int .u64 (a.toNat : Int), .int .u64 (b.toNat : Int)] σ L fun v σ' L' => v = .agg (bcells (lockId n a b)).toArray ∧ L' = L := by
  refine ctr_enter Tryz.func56 rfl Tryz.ntmps56 (by simp) ?_
  refine go_seq ?_
  refine go_region ?_
  refine snb rfl (n_alloc zero27 .agg) ?_
  intro b1
  refine gol_nil ?_
  refine go_seq ?_
  refine go_region ?_
  refine sns rfl (n_buildSlice (sz := 1) (l' := bcells sLock) (.cons rfl (.one rfl) rfl (.cons rfl (.one rfl) rfl (.cons rfl (.one rfl) rfl (.cons rfl (.one rfl) rfl .nil)))) rfl Tryz.runUnderlying22 Tryz.sizeOf5 Tryz.zeroValue5 rfl rfl) ?_
  intro b2
  refine smark rfl rfl Tryz.runUnderlying22 Tryz.runUnderlying5 rfl ?_
  intro σm0 hlm0 hbm0
  refine sq rfl (q_move rfl) ?_
  refine sq rfl (q_conv rfl Tryz.runUnderlying3 Tryz.runUnderlying31 (conv_int_64 _)) ?_
  refine sn rfl (n_call rfl Tryz.call50 c50) ?_
  rintro v1 σ1 _ hle1 ⟨hb1, rfl⟩
  refine sq rfl (q_move rfl) ?_
  refine sn rfl (n_call rfl Tryz.call50 c50) ?_
  rintro v2 σ2 _ hle2 ⟨hb2, rfl⟩
  refine sq rfl (q_move rfl) ?_
  refine sn rfl (n_call rfl Tryz.call50 c50) ?_
  rintro v3 σ3 _ hle3 ⟨hb3, rfl⟩
  refine sns rfl (n_buildSlice (sz := 1) (.cons rfl (.one (by first | rfl | exact Bytes.one (by assumption))) rfl (.cons rfl (.one (by first | rfl | exact Bytes.one (by assumption))) rfl (.cons rfl (.one (by first | rfl | exact Bytes.one (by assumption))) rfl (.cons rfl (.one (by first | rfl | exact Bytes.one (by assumption))) rfl .nil)))) rfl Tryz.runUnderlying187 Tryz.sizeOf22 Tryz.zeroValue22 rfl rfl) ?_
  intro b3
  refine sn rfl (n_call rfl Tryz.call49 (c49 (ps := [sLock, be64 (u64i n), be64 a, be64 b]) (Parts.new .hd (.cons (by first | assumption | exact Bytes.up (by assumption) (by repeat (first | exact Sto.le_refl _ | assumption | refine Sto.le_trans ?_ (by assumption)))) (.cons (by first | assumption | exact Bytes.up (by assumption) (by repeat (first | exact Sto.le_refl _ | assumption | refine Sto.le_trans ?_ (by assumption)))) (.cons (by first | assumption | exact Bytes.up (by assumption) (by repeat (first | exact Sto.le_refl _ | assumption | refine Sto.le_trans ?_ (by assumption)))) (.cons (by first | assumption | exact Bytes.up (by assumption) (by repeat (first | exact Sto.le_refl _ | assumption | refine Sto.le_trans ?_ (by assumption)))) .nil)))) rfl) (by simp [joinB, be64, sLock]) (Sto.le.get (by repeat (first | exact Sto.le_refl _ | assumption | refine Sto.le_trans ?_ (by assumption))) hK))) ?_
  rintro _ σz _ hlz ⟨rfl, rfl⟩
  refine sst rfl (n_storeA rfl rfl (bcells_one _) Tryz.sizeOf27 (dlen _) (.tl .hd) (PutAt.all (dlen0.trans (dlen _).symm))) ?_
  refine gol_nil ?_
  refine go_retR Tryz.func56 Tryz.results56 rfl (.cellA rfl Tryz.isAgg27 Tryz.sizeOf27 (.tl .hd) (Part.all (dlen _)) .nil) (.cons _ (.cons _ (List.Sublist.refl _))) (by repeat (first | exact Sto.le_refl _ | assumption | refine Sto.le_trans ?_ (by assumption))) ?_
  exact ⟨rfl, rfl⟩
theorem c47 {σ : Sto} {L : SHeap} {h : Hdr} (hw : h.wf) {T : TypeId} {fr : Nat × Nat} (hK : σ 1 = some (.cells (ucells K256).toArray T fr)) : Ctr Tryz.prog 47 #[.agg (hdrCells h).toArray] σ L fun v σ' L' => v = .agg (bcells (hdrDig h)).toArray ∧ L' = L := by
  refine ctr_enter Tryz.func47 rfl Tryz.ntmps47 (by simp) ?_
  refine go_seq ?_
  refine go_region ?_
  refine snb rfl (n_box rfl .agg) ?_
  intro b1
  refine snb rfl (n_alloc zero27 .agg) ?_
  intro b2
  refine gol_nil ?_
  refine go_seq ?_
  refine go_region ?_
  refine sns rfl (n_buildSlice (sz := 1) (l' := bcells sBlock) (.cons rfl (.one rfl) rfl (.cons rfl (.one rfl) rfl (.cons rfl (.one rfl) rfl (.cons rfl (.one rfl) rfl (.cons rfl (.one rfl) rfl .nil))))) rfl Tryz.runUnderlying22 Tryz.sizeOf5 Tryz.zeroValue5 rfl rfl) ?_
  intro b3
  refine smark rfl rfl Tryz.runUnderlying22 Tryz.runUnderlying5 rfl ?_
  intro σm0 hlm0 hbm0
  refine sq rfl (q_loadA rfl Tryz.isAgg71 Tryz.sizeOf71 (.tl .hd) (Part.all (hdr_len hw))) ?_
  refine sn rfl (n_call rfl Tryz.call84 (c84 hw)) ?_
  rintro v1 σ1 _ hle1 ⟨hb1, rfl⟩
  refine sns rfl (n_buildSlice (sz := 1) (.cons rfl (.one (by first | rfl | exact Bytes.one (by assumption))) rfl (.cons rfl (.one (by first | rfl | exact Bytes.one (by assumption))) rfl .nil)) rfl Tryz.runUnderlying187 Tryz.sizeOf22 Tryz.zeroValue22 rfl rfl) ?_
  intro b4
  refine sn rfl (n_call rfl Tryz.call49 (c49 (ps := [sBlock, headerB h]) (Parts.new .hd (.cons (by first | assumption | exact Bytes.up (by assumption) (by repeat (first | exact Sto.le_refl _ | assumption | refine Sto.le_trans ?_ (by assumption)))) (.cons (by first | assumption | exact Bytes.up (by assumption) (by repeat (first | exact Sto.le_refl _ | assumption | refine Sto.le_trans ?_ (by assumption)))) .nil)) rfl) (by simp [joinB, be64, sBlock, headerB, hw.parent, hw.txs, hw.root]) (Sto.le.get (by repeat (first | exact Sto.le_refl _ | assumption | refine Sto.le_trans ?_ (by assumption))) hK))) ?_
  rintro _ σz _ hlz ⟨rfl, rfl⟩
  refine sst rfl (n_storeA rfl rfl (bcells_one _) Tryz.sizeOf27 (dlen _) (.tl .hd) (PutAt.all (dlen0.trans (dlen _).symm))) ?_
  refine gol_nil ?_
  refine go_retR Tryz.func47 Tryz.results47 rfl (.cellA rfl Tryz.isAgg27 Tryz.sizeOf27 (.tl .hd) (Part.all (dlen _)) .nil) (.cons _ (.cons _ (.cons _ (List.Sublist.refl _)))) (by repeat (first | exact Sto.le_refl _ | assumption | refine Sto.le_trans ?_ (by assumption))) ?_
  exact ⟨rfl, rfl⟩
theorem lock_at {l : Lck} (hd : l.id.length = 32) {i : Nat} {v : Value} (h : At [w6 l.src, w6 l.dest, w6 l.amount, iv l.dst, iv l.deadline, iv l.status] i v) : At (lockCells l) (32 + i) v := At.app (by rw [bcells_len, hd]) h
theorem lock_len {l : Lck} (hd : l.id.length = 32) : (lockCells l).length = 38 := by simp [lockCells, bcells_len, hd]
theorem c88 {σ : Sto} {L : SHeap} {l : Lck} (hd : l.id.length = 32) : Ctr Tryz.prog 88 #[.agg (lockCells l).toArray] σ L fun v σ' L' => Bytes σ' v (lockValue l) ∧ L' = L := by
  refine ctr_enter Tryz.func88 rfl Tryz.ntmps88 (by simp) ?_
  refine go_seq ?_
  refine go_region ?_
  refine snb rfl (n_box rfl .agg) ?_
  intro b1
  refine sq rfl (q_assign rfl) ?_
  refine gol_nil ?_
  refine go_seq ?_
  refine go_draws (n := 26) _ mix rfl (by decide +kernel) (Keep.refl _) ?_
  refine dq 0 rfl rfl rfl rfl (q_fieldAddr (off := 32) (o' := 32) rfl Tryz.runUnderlying60 rfl Tryz.sizeOf31 rfl rfl) ?_
  refine dq 1 rfl rfl rfl rfl (q_load (cs := lockCells l) (v := w6 l.src) rfl Tryz.isAgg31 .hd (lock_at hd (i := 0) .z)) ?_
  refine dq 3 rfl rfl rfl rfl (q_fieldAddr (off := 33) (o' := 33) rfl Tryz.runUnderlying60 rfl Tryz.sizeOf31 rfl rfl) ?_
  refine dq 4 rfl rfl rfl rfl (q_load (cs := lockCells l) (v := w6 l.dest) rfl Tryz.isAgg31 .hd (lock_at hd (i := 1) (.s .z))) ?_
  refine dq 6 rfl rfl rfl rfl (q_fieldAddr (off := 34) (o' := 34) rfl Tryz.runUnderlying60 rfl Tryz.sizeOf31 rfl rfl) ?_
  refine dq 7 rfl rfl rfl rfl (q_load (cs := lockCells l) (v := w6 l.amount) rfl Tryz.isAgg31 .hd (lock_at hd (i := 2) (.s (.s .z)))) ?_
  refine dq 9 rfl rfl rfl rfl (q_fieldAddr (off := 35) (o' := 35) rfl Tryz.runUnderlying60 rfl Tryz.sizeOf3 rfl rfl) ?_
  refine dq 10 rfl rfl rfl rfl (q_load (cs := lockCells l) (v := iv l.dst) rfl Tryz.isAgg3 .hd (lock_at hd (i := 3) (.s (.s (.s .z))))) ?_
  refine dq 11 rfl rfl rfl rfl (q_conv rfl Tryz.runUnderlying3 Tryz.runUnderlying31 (conv_int_64 _)) ?_
  refine dq 13 rfl rfl rfl rfl (q_fieldAddr (off := 36) (o' := 36) rfl Tryz.runUnderlying60 rfl Tryz.sizeOf2 rfl rfl) ?_
  refine dq 14 rfl rfl rfl rfl (q_load (cs := lockCells l) (v := iv l.deadline) rfl Tryz.isAgg2 .hd (lock_at hd (i := 4) (.s (.s (.s (.s .z)))))) ?_
  refine dq 15 rfl rfl rfl rfl (q_conv rfl Tryz.runUnderlying2 Tryz.runUnderlying31 (conv_int_64 _)) ?_
  refine dq 17 rfl rfl rfl rfl (q_fieldAddr (off := 37) (o' := 37) rfl Tryz.runUnderlying60 rfl Tryz.sizeOf3 rfl rfl) ?_
  refine dq 18 rfl rfl rfl rfl (q_load (cs := lockCells l) (v := iv l.status) rfl Tryz.isAgg3 .hd (lock_at hd (i := 5) (.s (.s (.s (.s (.s .z))))))) ?_
  refine dq 19 rfl rfl rfl rfl (q_conv rfl Tryz.runUnderlying3 Tryz.runUnderlying31 (conv_int_64 _)) ?_
  refine dn 2 rfl rfl rfl rfl (by decide +kernel) (n_call rfl Tryz.call50 c50) (fun _ _ _ _ h => by rw [h.2]; exact Keep.refl _) ?_
  rintro v0 σ0 _ hle0 ⟨hb0, rfl⟩
  refine dn 5 rfl rfl rfl rfl (by decide +kernel) (n_call rfl Tryz.call50 c50) (fun _ _ _ _ h => by rw [h.2]; exact Keep.refl _) ?_
  rintro v1 σ1 _ hle1 ⟨hb1, rfl⟩
  refine dn 8 rfl rfl rfl rfl (by decide +kernel) (n_call rfl Tryz.call50 c50) (fun _ _ _ _ h => by rw [h.2]; exact Keep.refl _) ?_
  rintro v2 σ2 _ hle2 ⟨hb2, rfl⟩
  refine dn 12 rfl rfl rfl rfl (by decide +kernel) (n_call rfl Tryz.call50 c50) (fun _ _ _ _ h => by rw [h.2]; exact Keep.refl _) ?_
  rintro v3 σ3 _ hle3 ⟨hb3, rfl⟩
  refine dn 16 rfl rfl rfl rfl (by decide +kernel) (n_call rfl Tryz.call50 c50) (fun _ _ _ _ h => by rw [h.2]; exact Keep.refl _) ?_
  rintro v4 σ4 _ hle4 ⟨hb4, rfl⟩
  refine dn 20 rfl rfl rfl rfl (by decide +kernel) (n_call rfl Tryz.call50 c50) (fun _ _ _ _ h => by rw [h.2]; exact Keep.refl _) ?_
  rintro v5 σ5 _ hle5 ⟨hb5, rfl⟩
  refine dns 21 rfl rfl rfl rfl (by decide +kernel) (n_buildSlice (sz := 1) (.cons rfl (.one (by first | rfl | exact Bytes.one (by assumption))) rfl (.cons rfl (.one (by first | rfl | exact Bytes.one (by assumption))) rfl (.cons rfl (.one (by first | rfl | exact Bytes.one (by assumption))) rfl (.cons rfl (.one (by first | rfl | exact Bytes.one (by assumption))) rfl (.cons rfl (.one (by first | rfl | exact Bytes.one (by assumption))) rfl (.cons rfl (.one (by first | rfl | exact Bytes.one (by assumption))) rfl .nil)))))) rfl Tryz.runUnderlying187 Tryz.sizeOf22 Tryz.zeroValue22 rfl rfl) (Keep.refl _) ?_
  intro b9
  refine dn 22 rfl rfl rfl rfl (by decide +kernel) (n_call rfl Tryz.call51 (c51 (ps := [be64 l.src, be64 l.dest, be64 l.amount, be64 (u64i l.dst), be64 (u64i l.deadline), be64 (u64i l.status)]) (Parts.new .hd (.cons (by first | assumption | exact Bytes.up (by assumption) (by repeat (first | exact Sto.le_refl _ | assumption | refine Sto.le_trans ?_ (by assumption)))) (.cons (by first | assumption | exact Bytes.up (by assumption) (by repeat (first | exact Sto.le_refl _ | assumption | refine Sto.le_trans ?_ (by assumption)))) (.cons (by first | assumption | exact Bytes.up (by assumption) (by repeat (first | exact Sto.le_refl _ | assumption | refine Sto.le_trans ?_ (by assumption)))) (.cons (by first | assumption | exact Bytes.up (by assumption) (by repeat (first | exact Sto.le_refl _ | assumption | refine Sto.le_trans ?_ (by assumption)))) (.cons (by first | assumption | exact Bytes.up (by assumption) (by repeat (first | exact Sto.le_refl _ | assumption | refine Sto.le_trans ?_ (by assumption)))) (.cons (by first | assumption | exact Bytes.up (by assumption) (by repeat (first | exact Sto.le_refl _ | assumption | refine Sto.le_trans ?_ (by assumption)))) .nil)))))) rfl) (by simp [joinB, be64]))) (fun _ _ _ _ h => by rw [h.2]; exact fun _ _ h => List.mem_cons_of_mem _ h) ?_
  rintro v9 σ9 _ hle9 ⟨hb9, rfl⟩
  refine dq 23 rfl rfl rfl rfl (q_assign rfl) ?_
  refine dend rfl ?_
  refine go_drop1 (go_drop1 ?_)
  refine go_ret Tryz.func88 Tryz.results88 rfl rfl rfl (by repeat (first | exact Sto.le_refl _ | assumption | refine Sto.le_trans ?_ (by assumption))) ?_
  exact ⟨hb9, rfl⟩
end Go.Eng
