/- A part of the proof of this: Payments and locks of a shard come out as they stand on paper (TopPaid): for every input, with the listed package variables as the program's text lays them, TopPaid answers true and its argument reads as it did. -/
import Derived.Test.YtddoimkbjgfjnaaGreatDoorPaid04
namespace Go.Eng
open Go Go.Proofs
set_option maxRecDepth 20000
theorem wordAt_cells {s : S8} {rest : Bts} {n : UInt64} (hr : rest.length = 64) {t : Nat} (ht : t < 16) :
    Part (ucells s.list ++ (bcells rest ++ [Value.int .u64 (n.toNat : Int)])) (8 + 4 * t * 1) (4 * 1) (bcells ((rest.drop (4 * t)).take 4)) := by
  have e : rest = rest.take (4 * t) ++ ((rest.drop (4 * t)).take 4 ++ (rest.drop (4 * t)).drop 4) := by rw [List.take_append_drop, List.take_append_drop]
  have := Part.mk (a := ucells s.list ++ bcells (rest.take (4 * t))) (vs := bcells ((rest.drop (4 * t)).take 4)) (b := bcells ((rest.drop (4 * t)).drop 4) ++ [Value.int .u64 (n.toNat : Int)]) (i := 8 + 4 * t * 1) (n := 4 * 1)
    (by simp [ucells, S8.list, bcells, hr]; omega) (by simp [bcells, hr]; omega)
  have e2 : ucells s.list ++ (bcells rest ++ [Value.int .u64 (n.toNat : Int)]) = ucells s.list ++ bcells (rest.take (4 * t)) ++ (bcells ((rest.drop (4 * t)).take 4) ++ (bcells ((rest.drop (4 * t)).drop 4) ++ [Value.int .u64 (n.toNat : Int)])) := by
    conv => lhs; rw [e]
    simp only [bcells_app, List.append_assoc]
  rw [e2]; exact this
theorem wt_at {rest : Bts} {t j : Nat} (zs : List Value) (h : j < t) : At (ucells (sched rest t) ++ zs) j (uv ((sched rest t).getD j 0)) := (ucells_at (by rw [sched_len]; exact h)).left
theorem rep_succ {t : Nat} (h : t < 64) : ucells (List.replicate (64 - t) 0) = uv 0 :: ucells (List.replicate (64 - (t + 1)) 0) := by
  obtain ⟨m, hm⟩ : ∃ m, 64 - t = m + 1 := ⟨64 - t - 1, by omega⟩
  rw [hm, show 64 - (t + 1) = m by omega]; rfl
theorem sched_put {rest : Bts} {t : Nat} {zs : List Value} {x : UInt32} (hx : nextW rest (sched rest t) = x) : ucells (sched rest t) ++ (uv x :: zs) = ucells (sched rest (t + 1)) ++ zs := by
  subst hx; simp [sched, ucells]
def addTo (s v : S8) (i : Nat) : List UInt32 := ((s.plus v).list.take i) ++ s.list.drop i
theorem addTo_at {s v : S8} {i : Nat} (zs : List Value) (hi : i < 8) : At (ucells (addTo s v i) ++ zs) i (uv (s.list.getD i 0)) := by
  obtain rfl | rfl | rfl | rfl | rfl | rfl | rfl | rfl : i = 0 ∨ i = 1 ∨ i = 2 ∨ i = 3 ∨ i = 4 ∨ i = 5 ∨ i = 6 ∨ i = 7 := by omega
  all_goals exact At.of rfl
theorem addTo_set {s v : S8} {i : Nat} (zs : List Value) (hi : i < 8) : SetAt (ucells (addTo s v i) ++ zs) i (uv (s.list.getD i 0 + v.list.getD i 0)) (ucells (addTo s v (i + 1)) ++ zs) := by
  obtain rfl | rfl | rfl | rfl | rfl | rfl | rfl | rfl : i = 0 ∨ i = 1 ∨ i = 2 ∨ i = 3 ∨ i = 4 ∨ i = 5 ∨ i = 6 ∨ i = 7 := by omega
  all_goals exact SetAt.of (by simp [ucells, addTo, S8.list, S8.plus]; try omega)
theorem s8len (s : S8) : (ucells s.list).length = 8 := rfl
theorem s8_at {s : S8} {i : Nat} (hi : i < 8) : At (ucells s.list) i (uv (s.list.getD i 0)) := ucells_at hi
theorem c159 {σ : Sto} {L0 : SHeap} {b : Nat} {s : S8} {rest : Bts} {n : UInt64} (hr : rest.length = 64) {T : TypeId} {fr : Nat × Nat} (hK : σ 1 = some (.cells (ucells K256).toArray T fr)) : Ctr Tryz.prog 159 #[.pointer (some ⟨b, 0, none⟩)] σ ((b, hashObj s rest n) :: L0) fun _ σ' L' => σ' = σ ∧ L' = (b, hashObj (s.block rest) rest n) :: L0 := by
  refine ctr_enter Tryz.func159 rfl Tryz.ntmps159 (by simp) ?_
  refine go_seq ?_
  refine go_region ?_
  refine snb rfl (n_alloc zero303 .agg) ?_
  intro b1
  refine gol_nil ?_
  refine go_seq ?_
  refine go_seq ?_
  refine go_region ?_
  refine sq rfl (q_move rfl) ?_
  refine gol_nil ?_
  refine go_block ?_
  refine go_loop (X := Nat) (fun t => t ≤ 64) (fun t => [(0, .pointer (some ⟨b, 0, none⟩)), (2, .pointer (some ⟨b1, 0, none⟩)), (17, .int .i64 (t : Int))]) (fun _ => σ) (fun t => (b1, .cells (ucells (sched rest t) ++ ucells (List.replicate (64 - t) 0)).toArray 303 (0, 0)) :: (b, hashObj s rest n) :: L0) (fun t => 64 - t) 0 (by omega) ⟨rfl, rfl, rfl, trivial⟩ rfl rfl ?_
  intro t ht64 next
  refine go_seq ?_
  refine go_region ?_
  refine sq rfl (q_lss rfl rfl) ?_
  refine gol_nil ?_
  refine go_seq ?_
  refine go_cond rfl rfl (fun hc0 => ?_) (fun hc0 => ?_)
  ·
    have hlt : t < 64 := by simp at hc0; omega
    rw [rep_succ hlt]
    refine go_skip ?_
    refine go_seq ?_
    refine go_block ?_
    refine go_seq ?_
    refine go_region ?_
    refine sq rfl (q_move rfl) ?_
    refine sq rfl (q_assign rfl) ?_
    refine gol_nil ?_
    refine go_seq ?_
    refine go_seq ?_
    refine go_region ?_
    refine sq rfl (q_move rfl) ?_
    refine sq rfl (q_lss rfl rfl) ?_
    refine gol_nil ?_
    refine go_cond rfl rfl (fun hc1 => ?_) (fun hc1 => ?_)
    ·
      have h16 : t < 16 := by simp at hc1; omega
      refine go_seq ?_
      refine go_region ?_
      refine sq rfl (q_move rfl) ?_
      refine sq rfl (q_move rfl) ?_
      refine sq rfl (q_nil rfl) ?_
      refine sq rfl (q_fieldAddr (off := 8) (o' := 8) rfl Tryz.runUnderlying261 rfl Tryz.sizeOf259 rfl rfl) ?_
      refine sq rfl (q_move rfl) ?_
      refine sq rfl (q_mul rfl rfl (i64_in (by omega) (by omega))) ?_
      refine sq rfl (q_sliceArr (l := 4 * t) (h := 64) (n := 64) (a' := ⟨b, 8 + 4 * t * 1, none⟩) (lv := some (.int .i64 (4 * (t : Int)))) (hv := none) rfl Tryz.runUnderlying259 Tryz.sizeOf5 rfl rfl rfl rfl (by omega) (by omega) (if_neg (by omega))) ?_
      refine sn rfl (n_call rfl Tryz.call192 (c192 (xs := (rest.drop (4 * t)).take 4) ⟨by simp [bcells, hr]; omega, _, _, _, rfl, by omega, .inr ⟨b, _, _, 261, (0, 0), rfl, .tl .hd, wordAt_cells hr h16⟩⟩ (by omega) (by omega))) ?_
      rintro _ _ _ - ⟨rfl, rfl, rfl⟩
      refine sq rfl (q_indexAddrA (j := t) (o' := t) rfl rfl Tryz.runUnderlying303 Tryz.sizeOf256 rfl (by omega) (by omega)) ?_
      refine sst rfl (n_store (cs' := ucells (sched rest t) ++ (uv (wordAt rest t) :: ucells (List.replicate (64 - (t + 1)) 0))) rfl rfl rfl Tryz.sizeOf256 (SetAt.app (i := 0) (n := t) (by rw [ucells_len, sched_len]) .z) .hd) ?_
      refine gol_nil ?_
      refine go_exit rfl ?_
      refine go_region ?_
      refine sq rfl (q_add rfl rfl (i64_in (by omega) (by omega))) ?_
      refine sq rfl (q_move rfl) ?_
      refine gol_nil ?_
      rw [sched_put (by simp only [nextW, sched_len]; rw [if_pos h16])]
      exact go_next (next (t + 1) (by omega) (by omega)) ⟨rfl, rfl, rfl, trivial⟩
    ·
      have h16 : 16 ≤ t := by simp at hc1; omega
      refine go_skip ?_
      refine go_seq ?_
      refine go_draws (n := 168) _ mix rfl (by decide +kernel) (Keep.refl _) ?_
      refine dq 0 rfl rfl rfl rfl (q_move rfl) ?_
      refine dq 1 rfl rfl rfl rfl (q_sub rfl rfl (i64_in (by omega) (by omega))) ?_
      refine dq 2 rfl rfl rfl rfl (q_indexAddrA (j := t - 15) (o' := t - 15) rfl rfl Tryz.runUnderlying303 Tryz.sizeOf256 (by omega) (by omega) (by omega)) ?_
      refine dq 3 rfl rfl rfl rfl (q_load (v := uv ((sched rest t).getD (t - 15) 0)) rfl Tryz.isAgg256 .hd (wt_at _ (by omega))) ?_
      refine dq 4 rfl rfl rfl rfl (q_move rfl) ?_
      refine dq 5 rfl rfl rfl rfl (q_sub rfl rfl (i64_in (by omega) (by omega))) ?_
      refine dq 6 rfl rfl rfl rfl (q_indexAddrA (j := t - 2) (o' := t - 2) rfl rfl Tryz.runUnderlying303 Tryz.sizeOf256 (by omega) (by omega) (by omega)) ?_
      refine dq 7 rfl rfl rfl rfl (q_load (v := uv ((sched rest t).getD (t - 2) 0)) rfl Tryz.isAgg256 .hd (wt_at _ (by omega))) ?_
      refine dq 8 rfl rfl rfl rfl (q_assign rfl) ?_
      refine dq 9 rfl rfl rfl rfl (q_assign rfl) ?_
      refine dend rfl ?_
      refine go_draws (n := 168) _ mix rfl (by decide +kernel) (Keep.refl _) ?_
      refine dq 0 rfl rfl rfl rfl (q_move rfl) ?_
      refine dq 1 rfl rfl rfl rfl (q_move rfl) ?_
      refine dq 2 rfl rfl rfl rfl (q_sub rfl rfl (i64_in (by omega) (by omega))) ?_
      refine dq 3 rfl rfl rfl rfl (q_indexAddrA (j := t - 16) (o' := t - 16) rfl rfl Tryz.runUnderlying303 Tryz.sizeOf256 (by omega) (by omega) (by omega)) ?_
      refine dq 4 rfl rfl rfl rfl (q_load (v := uv ((sched rest t).getD (t - 16) 0)) rfl Tryz.isAgg256 .hd (wt_at _ (by omega))) ?_
      refine dq 5 rfl rfl rfl rfl (q_move rfl) ?_
      refine dq 7 rfl rfl rfl rfl (q_move rfl) ?_
      refine dq 10 rfl rfl rfl rfl (q_move rfl) ?_
      refine dq 11 rfl rfl rfl rfl (q_shr32 (n := 3) rfl rfl (by decide)) ?_
      refine dq 14 rfl rfl rfl rfl (q_move rfl) ?_
      refine dq 15 rfl rfl rfl rfl (q_sub rfl rfl (i64_in (by omega) (by omega))) ?_
      refine dq 16 rfl rfl rfl rfl (q_indexAddrA (j := t - 7) (o' := t - 7) rfl rfl Tryz.runUnderlying303 Tryz.sizeOf256 (by omega) (by omega) (by omega)) ?_
      refine dq 17 rfl rfl rfl rfl (q_load (v := uv ((sched rest t).getD (t - 7) 0)) rfl Tryz.isAgg256 .hd (wt_at _ (by omega))) ?_
      refine dq 19 rfl rfl rfl rfl (q_move rfl) ?_
      refine dq 21 rfl rfl rfl rfl (q_move rfl) ?_
      refine dq 24 rfl rfl rfl rfl (q_move rfl) ?_
      refine dq 25 rfl rfl rfl rfl (q_shr32 (n := 10) rfl rfl (by decide)) ?_
      refine dn 6 rfl rfl rfl rfl (by decide +kernel) (n_call rfl Tryz.call193 (c193 (n := 7) (by decide) (by decide))) (by rintro _ _ _ _ ⟨rfl, rfl, rfl⟩; exact Keep.refl _) ?_
      rintro _ _ _ - ⟨rfl, rfl, rfl⟩
      refine dn 8 rfl rfl rfl rfl (by decide +kernel) (n_call rfl Tryz.call193 (c193 (n := 18) (by decide) (by decide))) (by rintro _ _ _ _ ⟨rfl, rfl, rfl⟩; exact Keep.refl _) ?_
      rintro _ _ _ - ⟨rfl, rfl, rfl⟩
      refine dq 9 rfl rfl rfl rfl (q_xor32 rfl rfl) ?_
      refine dq 12 rfl rfl rfl rfl (q_xor32 rfl rfl) ?_
      refine dq 13 rfl rfl rfl rfl (q_add32 rfl rfl) ?_
      refine dq 18 rfl rfl rfl rfl (q_add32 rfl rfl) ?_
      refine dn 20 rfl rfl rfl rfl (by decide +kernel) (n_call rfl Tryz.call193 (c193 (n := 17) (by decide) (by decide))) (by rintro _ _ _ _ ⟨rfl, rfl, rfl⟩; exact Keep.refl _) ?_
      rintro _ _ _ - ⟨rfl, rfl, rfl⟩
      refine dn 22 rfl rfl rfl rfl (by decide +kernel) (n_call rfl Tryz.call193 (c193 (n := 19) (by decide) (by decide))) (by rintro _ _ _ _ ⟨rfl, rfl, rfl⟩; exact Keep.refl _) ?_
      rintro _ _ _ - ⟨rfl, rfl, rfl⟩
      refine dq 23 rfl rfl rfl rfl (q_xor32 rfl rfl) ?_
      refine dq 26 rfl rfl rfl rfl (q_xor32 rfl rfl) ?_
      refine dq 27 rfl rfl rfl rfl (q_add32 rfl rfl) ?_
      refine dq 28 rfl rfl rfl rfl (q_indexAddrA (j := t) (o' := t) rfl rfl Tryz.runUnderlying303 Tryz.sizeOf256 rfl (by omega) (by omega)) ?_
      refine dsta 29 rfl rfl rfl rfl (by decide +kernel) (by decide +kernel) (n_store (v := uv (nextW rest (sched rest t))) (cs' := ucells (sched rest t) ++ (uv (nextW rest (sched rest t)) :: ucells (List.replicate (64 - (t + 1)) 0))) rfl (by simp only [nextW, sched_len]; rw [if_neg (show ¬ t < 16 by omega)]; rfl) rfl Tryz.sizeOf256 (SetAt.app (i := 0) (n := t) (by rw [ucells_len, sched_len]) .z) .hd) ?_
      refine dend rfl ?_
      refine go_inBlock ?_
      refine go_region ?_
      refine sq rfl (q_add rfl rfl (i64_in (by omega) (by omega))) ?_
      refine sq rfl (q_move rfl) ?_
      refine gol_nil ?_
      rw [sched_put rfl]
      exact go_next (next (t + 1) (by omega) (by omega)) ⟨rfl, rfl, rfl, trivial⟩
  ·
    have ht : t = 64 := by simp at hc0; omega
    subst ht
    rw [show ucells (sched rest 64) ++ ucells (List.replicate (64 - 64) 0) = ucells (sched rest 64) from List.append_nil _]
    refine go_exit rfl ?_
    refine go_seq ?_
    refine go_region ?_
    refine sq rfl (q_move rfl) ?_
    refine sq rfl (q_nil rfl) ?_
    refine sq rfl (q_fieldAddr (off := 0) (o' := 0) rfl Tryz.runUnderlying261 rfl Tryz.sizeOf258 rfl rfl) ?_
    refine sq rfl (q_loadA rfl Tryz.isAgg258 Tryz.sizeOf258 (.tl .hd) (Part.mk (a := []) (vs := ucells s.list) rfl rfl)) ?_
    refine snb rfl (n_alloc zero258 .agg) ?_
    intro b2
    refine sst rfl (n_storeA (cs' := ucells s.list) rfl rfl (ucells_one _) Tryz.sizeOf258 rfl .hd (PutAt.all rfl)) ?_
    refine gol_nil ?_
    refine go_seq ?_
    refine go_seq ?_
    refine go_region ?_
    refine sq rfl (q_move rfl) ?_
    refine gol_nil ?_
    refine go_block ?_
    refine go_loop (X := Nat) (fun t => t ≤ 64) (fun t => [(0, .pointer (some ⟨b, 0, none⟩)), (2, .pointer (some ⟨b1, 0, none⟩)), (6, .pointer (some ⟨b2, 0, none⟩)), (73, .int .i64 (t : Int))]) (fun _ => σ) (fun t => (b2, .cells (ucells (s.rounds (sched rest 64) t).list).toArray 258 (0, 0)) :: (b1, .cells (ucells (sched rest 64)).toArray 303 (0, 0)) :: (b, hashObj s rest n) :: L0) (fun t => 64 - t) 0 (by omega) ⟨rfl, rfl, rfl, rfl, trivial⟩ rfl rfl ?_
    intro t ht64 next
    refine go_seq ?_
    refine go_region ?_
    refine sq rfl (q_lss rfl rfl) ?_
    refine gol_nil ?_
    refine go_seq ?_
    refine go_cond rfl rfl (fun hc2 => ?_) (fun hc2 => ?_)
    ·
      have hlt : t < 64 := by simp at hc2; omega
      generalize hS : s.rounds (sched rest 64) t = S
      refine go_skip ?_
      refine go_seq ?_
      refine go_block ?_
      refine go_seq ?_
      refine go_region ?_
      refine sq rfl (q_move rfl) ?_
      refine sq rfl (q_assign rfl) ?_
      refine gol_nil ?_
      refine go_seq ?_
      refine go_draws (n := 168) _ mix rfl (by decide +kernel) (Keep.refl _) ?_
      refine dq 0 rfl rfl rfl rfl (q_indexAddrA (j := 0) (o' := 0) rfl rfl Tryz.runUnderlying258 Tryz.sizeOf256 rfl (by decide) rfl) ?_
      refine dq 1 rfl rfl rfl rfl (q_load rfl Tryz.isAgg256 .hd .z) ?_
      refine dq 2 rfl rfl rfl rfl (q_indexAddrA (j := 1) (o' := 1) rfl rfl Tryz.runUnderlying258 Tryz.sizeOf256 rfl (by decide) rfl) ?_
      refine dq 3 rfl rfl rfl rfl (q_load rfl Tryz.isAgg256 .hd (.s .z)) ?_
      refine dq 4 rfl rfl rfl rfl (q_indexAddrA (j := 2) (o' := 2) rfl rfl Tryz.runUnderlying258 Tryz.sizeOf256 rfl (by decide) rfl) ?_
      refine dq 5 rfl rfl rfl rfl (q_load rfl Tryz.isAgg256 .hd (.s (.s .z))) ?_
      refine dq 6 rfl rfl rfl rfl (q_indexAddrA (j := 4) (o' := 4) rfl rfl Tryz.runUnderlying258 Tryz.sizeOf256 rfl (by decide) rfl) ?_
      refine dq 7 rfl rfl rfl rfl (q_load rfl Tryz.isAgg256 .hd (.s (.s (.s (.s .z))))) ?_
      refine dq 8 rfl rfl rfl rfl (q_indexAddrA (j := 5) (o' := 5) rfl rfl Tryz.runUnderlying258 Tryz.sizeOf256 rfl (by decide) rfl) ?_
      refine dq 9 rfl rfl rfl rfl (q_load rfl Tryz.isAgg256 .hd (.s (.s (.s (.s (.s .z)))))) ?_
      refine dq 10 rfl rfl rfl rfl (q_indexAddrA (j := 6) (o' := 6) rfl rfl Tryz.runUnderlying258 Tryz.sizeOf256 rfl (by decide) rfl) ?_
      refine dq 11 rfl rfl rfl rfl (q_load rfl Tryz.isAgg256 .hd (.s (.s (.s (.s (.s (.s .z))))))) ?_
      refine dq 12 rfl rfl rfl rfl (q_assign rfl) ?_
      refine dq 13 rfl rfl rfl rfl (q_assign rfl) ?_
      refine dq 14 rfl rfl rfl rfl (q_assign rfl) ?_
      refine dq 15 rfl rfl rfl rfl (q_assign rfl) ?_
      refine dq 16 rfl rfl rfl rfl (q_assign rfl) ?_
      refine dq 17 rfl rfl rfl rfl (q_assign rfl) ?_
      refine dend rfl ?_
      refine go_seq ?_
      refine go_draws (n := 168) _ mix rfl (by decide +kernel) (Keep.refl _) ?_
      refine dq 0 rfl rfl rfl rfl (q_indexAddrA (j := 7) (o' := 7) rfl rfl Tryz.runUnderlying258 Tryz.sizeOf256 rfl (by decide) rfl) ?_
      refine dq 1 rfl rfl rfl rfl (q_load rfl Tryz.isAgg256 .hd (.s (.s (.s (.s (.s (.s (.s .z)))))))) ?_
      refine dq 2 rfl rfl rfl rfl (q_move rfl) ?_
      refine dq 4 rfl rfl rfl rfl (q_move rfl) ?_
      refine dq 7 rfl rfl rfl rfl (q_move rfl) ?_
      refine dq 11 rfl rfl rfl rfl (q_move rfl) ?_
      refine dq 12 rfl rfl rfl rfl (q_move rfl) ?_
      refine dq 13 rfl rfl rfl rfl (q_and32 rfl rfl) ?_
      refine dq 14 rfl rfl rfl rfl (q_move rfl) ?_
      refine dq 15 rfl rfl rfl rfl (q_not32 rfl) ?_
      refine dq 16 rfl rfl rfl rfl (q_move rfl) ?_
      refine dq 17 rfl rfl rfl rfl (q_and32 rfl rfl) ?_
      refine dq 18 rfl rfl rfl rfl (q_xor32 rfl rfl) ?_
      refine dq 20 rfl rfl rfl rfl (q_move rfl) ?_
      refine dq 21 rfl rfl rfl rfl (q_indexAddrA (j := t) (o' := t) rfl rfl Tryz.runUnderlying303 Tryz.sizeOf256 rfl (by omega) (by omega)) ?_
      refine dq 22 rfl rfl rfl rfl (q_load rfl Tryz.isAgg256 (.sto hK) (ucells_at (show t < 64 from hlt))) ?_
      refine dq 24 rfl rfl rfl rfl (q_move rfl) ?_
      refine dq 25 rfl rfl rfl rfl (q_indexAddrA (j := t) (o' := t) rfl rfl Tryz.runUnderlying303 Tryz.sizeOf256 rfl (by omega) (by omega)) ?_
      refine dq 26 rfl rfl rfl rfl (q_load (v := uv ((sched rest 64).getD t 0)) rfl Tryz.isAgg256 (.tl .hd) (ucells_at (by rw [sched_len]; exact hlt))) ?_
      refine dn 3 rfl rfl rfl rfl (by decide +kernel) (n_call rfl Tryz.call193 (c193 (n := 6) (by decide) (by decide))) (by rintro _ _ _ _ ⟨rfl, rfl, rfl⟩; exact Keep.refl _) ?_
      rintro _ _ _ - ⟨rfl, rfl, rfl⟩
      refine dn 5 rfl rfl rfl rfl (by decide +kernel) (n_call rfl Tryz.call193 (c193 (n := 11) (by decide) (by decide))) (by rintro _ _ _ _ ⟨rfl, rfl, rfl⟩; exact Keep.refl _) ?_
      rintro _ _ _ - ⟨rfl, rfl, rfl⟩
      refine dq 6 rfl rfl rfl rfl (q_xor32 rfl rfl) ?_
      refine dn 8 rfl rfl rfl rfl (by decide +kernel) (n_call rfl Tryz.call193 (c193 (n := 25) (by decide) (by decide))) (by rintro _ _ _ _ ⟨rfl, rfl, rfl⟩; exact Keep.refl _) ?_
      rintro _ _ _ - ⟨rfl, rfl, rfl⟩
      refine dq 9 rfl rfl rfl rfl (q_xor32 rfl rfl) ?_
      refine dq 10 rfl rfl rfl rfl (q_add32 rfl rfl) ?_
      refine dq 19 rfl rfl rfl rfl (q_add32 rfl rfl) ?_
      refine dq 23 rfl rfl rfl rfl (q_add32 rfl rfl) ?_
      refine dq 27 rfl rfl rfl rfl (q_add32 rfl rfl) ?_
      refine dq 28 rfl rfl rfl rfl (q_assign rfl) ?_
      refine dend rfl ?_
      refine go_seq ?_
      refine go_region ?_
      refine sq rfl (q_move rfl) ?_
      refine sn rfl (n_call rfl Tryz.call193 (c193 (n := 2) (by decide) (by decide))) ?_
      rintro _ _ _ - ⟨rfl, rfl, rfl⟩
      refine sq rfl (q_move rfl) ?_
      refine sn rfl (n_call rfl Tryz.call193 (c193 (n := 13) (by decide) (by decide))) ?_
      rintro _ _ _ - ⟨rfl, rfl, rfl⟩
      refine sq rfl (q_xor32 rfl rfl) ?_
      refine sq rfl (q_move rfl) ?_
      refine sn rfl (n_call rfl Tryz.call193 (c193 (n := 22) (by decide) (by decide))) ?_
      rintro _ _ _ - ⟨rfl, rfl, rfl⟩
      refine sq rfl (q_xor32 rfl rfl) ?_
      refine sq rfl (q_move rfl) ?_
      refine sq rfl (q_move rfl) ?_
      refine sq rfl (q_and32 rfl rfl) ?_
      refine sq rfl (q_move rfl) ?_
      refine sq rfl (q_move rfl) ?_
      refine sq rfl (q_and32 rfl rfl) ?_
      refine sq rfl (q_xor32 rfl rfl) ?_
      refine sq rfl (q_move rfl) ?_
      refine sq rfl (q_move rfl) ?_
      refine sq rfl (q_and32 rfl rfl) ?_
      refine sq rfl (q_xor32 rfl rfl) ?_
      refine sq rfl (q_add32 rfl rfl) ?_
      refine sq rfl (q_assign rfl) ?_
      refine gol_nil ?_
      refine go_region ?_
      refine sq rfl (q_move rfl) ?_
      refine sq rfl (q_move rfl) ?_
      refine sq rfl (q_add32 rfl rfl) ?_
      refine sq rfl (q_move rfl) ?_
      refine sq rfl (q_move rfl) ?_
      refine sq rfl (q_move rfl) ?_
      refine sq rfl (q_indexAddrA (j := 3) (o' := 3) rfl rfl Tryz.runUnderlying258 Tryz.sizeOf256 rfl (by decide) rfl) ?_
      refine sq rfl (q_load rfl Tryz.isAgg256 .hd (.s (.s (.s .z)))) ?_
      refine sq rfl (q_move rfl) ?_
      refine sq rfl (q_add32 rfl rfl) ?_
      refine sq rfl (q_move rfl) ?_
      refine sq rfl (q_move rfl) ?_
      refine sq rfl (q_move rfl) ?_
      refine sq rfl (q_buildRow (m := 1) (l' := ucells (S.rnd (K256.getD t 0) ((sched rest 64).getD t 0)).list) (.cons rfl (.one rfl) rfl (.cons rfl (.one rfl) rfl (.cons rfl (.one rfl) rfl (.cons rfl (.one rfl) rfl (.cons rfl (.one rfl) rfl (.cons rfl (.one rfl) rfl (.cons rfl (.one rfl) rfl (.cons rfl (.one rfl) rfl .nil)))))))) zero258 Tryz.runUnderlying258 Tryz.sizeOf256 rfl (by simp only [ucells, S8.list, S8.rnd, S8.t1, S8.t2, uv, List.map_cons, List.map_nil, List.cons_append, List.nil_append])) ?_
      refine sst rfl (n_storeA (cs' := ucells (S.rnd (K256.getD t 0) ((sched rest 64).getD t 0)).list) rfl rfl (ucells_one _) Tryz.sizeOf258 (s8len _) .hd (PutAt.all ((s8len _).trans (s8len _).symm))) ?_
      refine gol_nil ?_
      refine go_inBlock ?_
      refine go_region ?_
      refine sq rfl (q_add rfl rfl (i64_in (by omega) (by omega))) ?_
      refine sq rfl (q_move rfl) ?_
      refine gol_nil ?_
      subst hS
      exact go_next (next (t + 1) (by omega) (by omega)) ⟨rfl, rfl, rfl, rfl, trivial⟩
    ·
      have ht : t = 64 := by simp at hc2; omega
      subst ht
      refine go_exit rfl ?_
      refine go_seq ?_
      refine go_region ?_
      refine sq rfl (q_move rfl) ?_
      refine gol_nil ?_
      refine go_block ?_
      refine go_loop (X := Nat) (fun i => i ≤ 8) (fun i => [(0, .pointer (some ⟨b, 0, none⟩)), (6, .pointer (some ⟨b2, 0, none⟩)), (151, .int .i64 (i : Int))]) (fun _ => σ) (fun i => (b2, .cells (ucells (s.rounds (sched rest 64) 64).list).toArray 258 (0, 0)) :: (b1, .cells (ucells (sched rest 64)).toArray 303 (0, 0)) :: (b, .cells (ucells (addTo s (s.rounds (sched rest 64) 64) i) ++ (bcells rest ++ [Value.int .u64 (n.toNat : Int)])).toArray 261 (0, 0)) :: L0) (fun i => 8 - i) 0 (by omega) ⟨rfl, rfl, rfl, trivial⟩ rfl rfl ?_
      intro i hi8 next
      refine go_seq ?_
      refine go_region ?_
      refine sq rfl (q_lss rfl rfl) ?_
      refine gol_nil ?_
      refine go_seq ?_
      refine go_cond rfl rfl (fun hc3 => ?_) (fun hc3 => ?_)
      ·
        have hlt : i < 8 := by simp at hc3; omega
        refine go_skip ?_
        refine go_seq ?_
        refine go_block ?_
        refine go_seq ?_
        refine go_region ?_
        refine sq rfl (q_move rfl) ?_
        refine sq rfl (q_assign rfl) ?_
        refine gol_nil ?_
        refine go_draws (n := 168) _ mix rfl (by decide +kernel) (Keep.refl _) ?_
        refine dq 0 rfl rfl rfl rfl (q_move rfl) ?_
        refine dq 1 rfl rfl rfl rfl (q_move rfl) ?_
        refine dq 2 rfl rfl rfl rfl (q_nil rfl) ?_
        refine dq 3 rfl rfl rfl rfl (q_fieldAddr (off := 0) (o' := 0) rfl Tryz.runUnderlying261 rfl Tryz.sizeOf258 rfl rfl) ?_
        refine dq 4 rfl rfl rfl rfl (q_indexAddrA (j := i) (o' := i) rfl rfl Tryz.runUnderlying258 Tryz.sizeOf256 rfl (by omega) (by omega)) ?_
        refine dq 5 rfl rfl rfl rfl (q_load rfl Tryz.isAgg256 (.tl (.tl .hd)) (addTo_at _ hlt)) ?_
        refine dq 6 rfl rfl rfl rfl (q_move rfl) ?_
        refine dq 7 rfl rfl rfl rfl (q_indexAddrA (j := i) (o' := i) rfl rfl Tryz.runUnderlying258 Tryz.sizeOf256 rfl (by omega) (by omega)) ?_
        refine dq 8 rfl rfl rfl rfl (q_load rfl Tryz.isAgg256 .hd (s8_at hlt)) ?_
        refine dq 9 rfl rfl rfl rfl (q_add32 rfl rfl) ?_
        refine dq 10 rfl rfl rfl rfl (q_nil rfl) ?_
        refine dq 11 rfl rfl rfl rfl (q_fieldAddr (off := 0) (o' := 0) rfl Tryz.runUnderlying261 rfl Tryz.sizeOf258 rfl rfl) ?_
        refine dq 12 rfl rfl rfl rfl (q_indexAddrA (j := i) (o' := i) rfl rfl Tryz.runUnderlying258 Tryz.sizeOf256 rfl (by omega) (by omega)) ?_
        refine dsta 13 rfl rfl rfl rfl (by decide +kernel) (by decide +kernel) (n_store rfl rfl rfl Tryz.sizeOf256 (addTo_set _ hlt) (.tl (.tl .hd))) ?_
        refine dend rfl ?_
        refine go_inBlock ?_
        refine go_region ?_
        refine sq rfl (q_add rfl rfl (i64_in (by omega) (by omega))) ?_
        refine sq rfl (q_move rfl) ?_
        refine gol_nil ?_
        exact go_next (next (i + 1) (by omega) (by omega)) ⟨rfl, rfl, rfl, trivial⟩
      ·
        have hi : i = 8 := by simp at hc3; omega
        subst hi
        refine go_exit rfl ?_
        refine go_drop1 (go_drop1 ?_)
        refine go_end Tryz.func159 Tryz.results159 rfl rfl rfl (by repeat (first | exact Sto.le_refl _ | assumption | refine Sto.le_trans ?_ (by assumption))) ?_
        exact ⟨rfl, rfl⟩
end Go.Eng
namespace Go.Eng
open Go
def hashN : Nat → S8 → Bts → S8
  | 0, s, _ => s
  | k + 1, s, m => hashN k (s.block (m.take 64)) (m.drop 64)
theorem hashN_app (k : Nat) : ∀ (s : S8) (m x : Bts), 64 * k ≤ m.length → hashN k s (m ++ x) = hashN k s m := by
  induction k with
  | zero => intro s m x _; rfl
  | succ k ih =>
    intro s m x h
    simp only [hashN]
    rw [List.take_append_of_le_length (by omega), List.drop_append_of_le_length (by omega), ih _ _ _ (by simp; omega)]
theorem hashN_succ (k : Nat) : ∀ (s : S8) (m : Bts), hashN (k + 1) s m = (hashN k s m).block ((m.drop (64 * k)).take 64) := by
  induction k with
  | zero => intro s m; simp [hashN]
  | succ k ih =>
    intro s m
    rw [hashN, ih, hashN, List.drop_drop]
    congr 3; omega
structure Abs (m : Bts) (s : S8) (rest : Bts) : Prop where
  len : rest.length = 64
  st : s = hashN (m.length / 64) .init m
  tail : rest.take (m.length % 64) = m.drop (64 * (m.length / 64))
theorem Abs.init : Abs [] .init (List.replicate 64 0) := ⟨by simp, rfl, by simp⟩
def putB (rest : Bts) (o : Nat) (ys : Bts) : Bts := rest.take o ++ ys ++ rest.drop (o + ys.length)
theorem Abs.step {m : Bts} {s : S8} {rest ys : Bts} (h : Abs m s rest) (hy : ys.length ≤ 64 - m.length % 64) :
    (m.length + ys.length) % 64 ≠ 0 → Abs (m ++ ys) s (putB rest (m.length % 64) ys) := by
  intro hne
  have hl := h.len
  refine ⟨by simp [putB, hl]; omega, ?_, ?_⟩
  · have e : (m ++ ys).length / 64 = m.length / 64 := by simp; omega
    rw [e, h.st, hashN_app _ _ _ _ (by omega)]
  · have e : (m ++ ys).length / 64 = m.length / 64 := by simp; omega
    have e2 : (m ++ ys).length % 64 = m.length % 64 + ys.length := by simp; omega
    rw [e, e2, List.drop_append_of_le_length (by omega), ← h.tail]
    unfold putB
    rw [List.take_append_of_le_length (by simp [hl]; omega), List.take_of_length_le (by simp; omega)]
theorem Abs.full {m : Bts} {s : S8} {rest ys : Bts} (h : Abs m s rest) (hy : ys.length ≤ 64 - m.length % 64) :
    (m.length + ys.length) % 64 = 0 → 0 < ys.length → Abs (m ++ ys) (s.block (putB rest (m.length % 64) ys)) (putB rest (m.length % 64) ys) := by
  intro h0 hpos
  have hl := h.len
  have e : (m ++ ys).length / 64 = m.length / 64 + 1 := by simp; omega
  have hyl : m.length % 64 + ys.length = 64 := by omega
  have hp : putB rest (m.length % 64) ys = m.drop (64 * (m.length / 64)) ++ ys := by
    unfold putB
    rw [hyl, List.drop_of_length_le (by omega), h.tail]; simp
  refine ⟨by rw [hp]; simp; omega, ?_, ?_⟩
  · rw [e, hashN_succ, hashN_app _ _ _ _ (by omega), ← h.st, hp, List.drop_append_of_le_length (by omega), List.take_of_length_le (by simp; omega)]
  · have e2 : (m ++ ys).length % 64 = 0 := by simp; omega
    rw [e2, e, List.drop_of_length_le (by simp; omega)]; rfl
def padLen (n : Nat) : Nat := (119 - n % 64) % 64
def padOf (n : Nat) : Bts := 0x80 :: List.replicate (padLen n) 0 ++ be64 (UInt64.ofNat (8 * n))
def digestOf (s : S8) : Bts := be32 s.a ++ (be32 s.b ++ (be32 s.c ++ (be32 s.d ++ (be32 s.e ++ (be32 s.f ++ (be32 s.g ++ be32 s.h))))))
def shaSum0 (m : Bts) : Bts := digestOf (hashN ((m ++ padOf m.length).length / 64) .init (m ++ padOf m.length))
theorem seal_ex {α : Type} (a : α) : ∃ x, x = a := ⟨a, rfl⟩
noncomputable def shaSum : Bts → Bts := Classical.choose (seal_ex shaSum0)
theorem shaSum_eq (m : Bts) : shaSum m = shaSum0 m := congrFun (Classical.choose_spec (seal_ex shaSum0)) m
def joinB (parts : List Bts) : Bts := be64 (UInt64.ofNat parts.length) ++ (parts.map fun p => be64 (UInt64.ofNat p.length) ++ p).flatten
noncomputable def shaOf (parts : List Bts) : Bts := shaSum (joinB parts)
theorem shaSum_len (m : Bts) : (shaSum m).length = 32 := by rw [shaSum_eq]; rfl
theorem shaOf_len (l : List Bts) : (shaOf l).length = 32 := shaSum_len _
theorem dlenS (m : Bts) : (bcells (shaSum m)).length = 32 := by rw [bcells_len, shaSum_len]
theorem dlen (l : List Bts) : (bcells (shaOf l)).length = 32 := by rw [bcells_len, shaOf_len]
theorem dlen0 : (bcells (List.replicate 32 0)).length = 32 := rfl
theorem hash_put {s : S8} {rest ys : Bts} {o : Nat} (zs : List Value) (ho : o + ys.length ≤ rest.length) :
    PutAt (ucells s.list ++ (bcells rest ++ zs)) (8 + o * 1) (bcells ys) (ucells s.list ++ (bcells (putB rest o ys) ++ zs)) := by
  refine ⟨ucells s.list ++ bcells (rest.take o), bcells ((rest.drop o).take ys.length), bcells (rest.drop (o + ys.length)) ++ zs, ?_, ?_, ?_, ?_⟩
  · have e : rest = rest.take o ++ ((rest.drop o).take ys.length ++ rest.drop (o + ys.length)) := by
      rw [← List.drop_drop, List.take_append_drop, List.take_append_drop]
    conv => lhs; rw [e]
    simp only [bcells_app, List.append_assoc]
  · simp only [putB, bcells_app, List.append_assoc]
  · simp [ucells, S8.list, bcells]; omega
  · simp [bcells]; omega
end Go.Eng
namespace Go.Eng
open Go Go.Proofs
theorem places29 {fs : Array Field} (h : ∀ w, (underlying 29).run Tryz.prog w = .ok (.struct fs) w) (w : World) :
    (fs.mapM (m := Sem) fun f => do pure (f.offset, ← sizeOf f.type)).run Tryz.prog w = .ok (mkPlaces 0 [1, 1, 1, 1, 1, 32]).toArray w := by
  have h1 := h w
  rw [Tryz.runUnderlying29] at h1
  simp only [Result.ok.injEq, TypeDesc.struct.injEq, and_true] at h1
  subst h1
  simp [Tryz.sizeOf2, Tryz.sizeOf3, Tryz.sizeOf24, Tryz.sizeOf25, Tryz.sizeOf27, mkPlaces]
theorem places39 {fs : Array Field} (h : ∀ w, (underlying 39).run Tryz.prog w = .ok (.struct fs) w) (w : World) :
    (fs.mapM (m := Sem) fun f => do pure (f.offset, ← sizeOf f.type)).run Tryz.prog w = .ok (mkPlaces 0 [1, 1]).toArray w := by
  have h1 := h w
  rw [Tryz.runUnderlying39] at h1
  simp only [Result.ok.injEq, TypeDesc.struct.injEq, and_true] at h1
  subst h1
  simp [Tryz.sizeOf3, Tryz.sizeOf22, mkPlaces]
theorem places42 {fs : Array Field} (h : ∀ w, (underlying 42).run Tryz.prog w = .ok (.struct fs) w) (w : World) :
    (fs.mapM (m := Sem) fun f => do pure (f.offset, ← sizeOf f.type)).run Tryz.prog w = .ok (mkPlaces 0 [1, 1, 1, 1, 1, 1, 1, 32, 1, 1]).toArray w := by
  have h1 := h w
  rw [Tryz.runUnderlying42] at h1
  simp only [Result.ok.injEq, TypeDesc.struct.injEq, and_true] at h1
  subst h1
  simp [Tryz.sizeOf2, Tryz.sizeOf3, Tryz.sizeOf27, Tryz.sizeOf31, Tryz.sizeOf40, mkPlaces]
theorem places51 {fs : Array Field} (h : ∀ w, (underlying 51).run Tryz.prog w = .ok (.struct fs) w) (w : World) :
    (fs.mapM (m := Sem) fun f => do pure (f.offset, ← sizeOf f.type)).run Tryz.prog w = .ok (mkPlaces 0 [1, 1, 1, 1, 1, 1]).toArray w := by
  have h1 := h w
  rw [Tryz.runUnderlying51] at h1
  simp only [Result.ok.injEq, TypeDesc.struct.injEq, and_true] at h1
  subst h1
  simp [Tryz.sizeOf3, Tryz.sizeOf24, Tryz.sizeOf46, Tryz.sizeOf47, Tryz.sizeOf48, Tryz.sizeOf49, mkPlaces]
theorem places57 {fs : Array Field} (h : ∀ w, (underlying 57).run Tryz.prog w = .ok (.struct fs) w) (w : World) :
    (fs.mapM (m := Sem) fun f => do pure (f.offset, ← sizeOf f.type)).run Tryz.prog w = .ok (mkPlaces 0 [1, 1, 1]).toArray w := by
  have h1 := h w
  rw [Tryz.runUnderlying57] at h1
  simp only [Result.ok.injEq, TypeDesc.struct.injEq, and_true] at h1
  subst h1
  simp [Tryz.sizeOf31, mkPlaces]
theorem places60 {fs : Array Field} (h : ∀ w, (underlying 60).run Tryz.prog w = .ok (.struct fs) w) (w : World) :
    (fs.mapM (m := Sem) fun f => do pure (f.offset, ← sizeOf f.type)).run Tryz.prog w = .ok (mkPlaces 0 [32, 1, 1, 1, 1, 1, 1]).toArray w := by
  have h1 := h w
  rw [Tryz.runUnderlying60] at h1
  simp only [Result.ok.injEq, TypeDesc.struct.injEq, and_true] at h1
  subst h1
  simp [Tryz.sizeOf2, Tryz.sizeOf3, Tryz.sizeOf27, Tryz.sizeOf31, mkPlaces]
theorem places71 {fs : Array Field} (h : ∀ w, (underlying 71).run Tryz.prog w = .ok (.struct fs) w) (w : World) :
    (fs.mapM (m := Sem) fun f => do pure (f.offset, ← sizeOf f.type)).run Tryz.prog w = .ok (mkPlaces 0 [1, 1, 1, 1, 32, 32, 32, 1]).toArray w := by
  have h1 := h w
  rw [Tryz.runUnderlying71] at h1
  simp only [Result.ok.injEq, TypeDesc.struct.injEq, and_true] at h1
  subst h1
  simp [Tryz.sizeOf2, Tryz.sizeOf3, Tryz.sizeOf27, mkPlaces]
theorem places75 {fs : Array Field} (h : ∀ w, (underlying 75).run Tryz.prog w = .ok (.struct fs) w) (w : World) :
    (fs.mapM (m := Sem) fun f => do pure (f.offset, ← sizeOf f.type)).run Tryz.prog w = .ok (mkPlaces 0 [1, 1, 1]).toArray w := by
  have h1 := h w
  rw [Tryz.runUnderlying75] at h1
  simp only [Result.ok.injEq, TypeDesc.struct.injEq, and_true] at h1
  subst h1
  simp [Tryz.sizeOf3, Tryz.sizeOf24, Tryz.sizeOf64, mkPlaces]
theorem places82 {fs : Array Field} (h : ∀ w, (underlying 82).run Tryz.prog w = .ok (.struct fs) w) (w : World) :
    (fs.mapM (m := Sem) fun f => do pure (f.offset, ← sizeOf f.type)).run Tryz.prog w = .ok (mkPlaces 0 [1, 37]).toArray w := by
  have h1 := h w
  rw [Tryz.runUnderlying82] at h1
  simp only [Result.ok.injEq, TypeDesc.struct.injEq, and_true] at h1
  subst h1
  simp [Tryz.sizeOf77, Tryz.sizeOf80, mkPlaces]
theorem places86 {fs : Array Field} (h : ∀ w, (underlying 86).run Tryz.prog w = .ok (.struct fs) w) (w : World) :
    (fs.mapM (m := Sem) fun f => do pure (f.offset, ← sizeOf f.type)).run Tryz.prog w = .ok (mkPlaces 0 [38, 32, 1, 1, 1]).toArray w := by
  have h1 := h w
  rw [Tryz.runUnderlying86] at h1
  simp only [Result.ok.injEq, TypeDesc.struct.injEq, and_true] at h1
  subst h1
  simp [Tryz.sizeOf4, Tryz.sizeOf22, Tryz.sizeOf27, Tryz.sizeOf82, mkPlaces]
theorem places102 {fs : Array Field} (h : ∀ w, (underlying 102).run Tryz.prog w = .ok (.struct fs) w) (w : World) :
    (fs.mapM (m := Sem) fun f => do pure (f.offset, ← sizeOf f.type)).run Tryz.prog w = .ok (mkPlaces 0 [3, 3]).toArray w := by
  have h1 := h w
  rw [Tryz.runUnderlying102] at h1
  simp only [Result.ok.injEq, TypeDesc.struct.injEq, and_true] at h1
  subst h1
  simp [Tryz.sizeOf98, Tryz.sizeOf100, mkPlaces]
theorem places119 {fs : Array Field} (h : ∀ w, (underlying 119).run Tryz.prog w = .ok (.struct fs) w) (w : World) :
    (fs.mapM (m := Sem) fun f => do pure (f.offset, ← sizeOf f.type)).run Tryz.prog w = .ok (mkPlaces 0 [37, 28, 1]).toArray w := by
  have h1 := h w
  rw [Tryz.runUnderlying119] at h1
  simp only [Result.ok.injEq, TypeDesc.struct.injEq, and_true] at h1
  subst h1
  simp [Tryz.sizeOf29, Tryz.sizeOf114, Tryz.sizeOf117, mkPlaces]
theorem places140 {fs : Array Field} (h : ∀ w, (underlying 140).run Tryz.prog w = .ok (.struct fs) w) (w : World) :
    (fs.mapM (m := Sem) fun f => do pure (f.offset, ← sizeOf f.type)).run Tryz.prog w = .ok (mkPlaces 0 [1, 1, 1, 1]).toArray w := by
  have h1 := h w
  rw [Tryz.runUnderlying140] at h1
  simp only [Result.ok.injEq, TypeDesc.struct.injEq, and_true] at h1
  subst h1
  simp [Tryz.sizeOf3, Tryz.sizeOf47, Tryz.sizeOf48, Tryz.sizeOf138, mkPlaces]
theorem places142 {fs : Array Field} (h : ∀ w, (underlying 142).run Tryz.prog w = .ok (.struct fs) w) (w : World) :
    (fs.mapM (m := Sem) fun f => do pure (f.offset, ← sizeOf f.type)).run Tryz.prog w = .ok (mkPlaces 0 [1, 1]).toArray w := by
  have h1 := h w
  rw [Tryz.runUnderlying142] at h1
  simp only [Result.ok.injEq, TypeDesc.struct.injEq, and_true] at h1
  subst h1
  simp [Tryz.sizeOf31, mkPlaces]
theorem places153 {fs : Array Field} (h : ∀ w, (underlying 153).run Tryz.prog w = .ok (.struct fs) w) (w : World) :
    (fs.mapM (m := Sem) fun f => do pure (f.offset, ← sizeOf f.type)).run Tryz.prog w = .ok (mkPlaces 0 [101, 1]).toArray w := by
  have h1 := h w
  rw [Tryz.runUnderlying153] at h1
  simp only [Result.ok.injEq, TypeDesc.struct.injEq, and_true] at h1
  subst h1
  simp [Tryz.sizeOf71, Tryz.sizeOf88, mkPlaces]
theorem places159 {fs : Array Field} (h : ∀ w, (underlying 159).run Tryz.prog w = .ok (.struct fs) w) (w : World) :
    (fs.mapM (m := Sem) fun f => do pure (f.offset, ← sizeOf f.type)).run Tryz.prog w = .ok (mkPlaces 0 [1, 1, 1, 1, 1, 1]).toArray w := by
  have h1 := h w
  rw [Tryz.runUnderlying159] at h1
  simp only [Result.ok.injEq, TypeDesc.struct.injEq, and_true] at h1
  subst h1
  simp [Tryz.sizeOf2, Tryz.sizeOf3, Tryz.sizeOf131, Tryz.sizeOf155, Tryz.sizeOf156, Tryz.sizeOf157, mkPlaces]
theorem places179 {fs : Array Field} (h : ∀ w, (underlying 179).run Tryz.prog w = .ok (.struct fs) w) (w : World) :
    (fs.mapM (m := Sem) fun f => do pure (f.offset, ← sizeOf f.type)).run Tryz.prog w = .ok (mkPlaces 0 [32, 1]).toArray w := by
  have h1 := h w
  rw [Tryz.runUnderlying179] at h1
  simp only [Result.ok.injEq, TypeDesc.struct.injEq, and_true] at h1
  subst h1
  simp [Tryz.sizeOf22, Tryz.sizeOf27, mkPlaces]
theorem places219 {fs : Array Field} (h : ∀ w, (underlying 219).run Tryz.prog w = .ok (.struct fs) w) (w : World) :
    (fs.mapM (m := Sem) fun f => do pure (f.offset, ← sizeOf f.type)).run Tryz.prog w = .ok (mkPlaces 0 [6, 1, 41, 1]).toArray w := by
  have h1 := h w
  rw [Tryz.runUnderlying219] at h1
  simp only [Result.ok.injEq, TypeDesc.struct.injEq, and_true] at h1
  subst h1
  simp [Tryz.sizeOf2, Tryz.sizeOf4, Tryz.sizeOf42, Tryz.sizeOf51, mkPlaces]
theorem places261 {fs : Array Field} (h : ∀ w, (underlying 261).run Tryz.prog w = .ok (.struct fs) w) (w : World) :
    (fs.mapM (m := Sem) fun f => do pure (f.offset, ← sizeOf f.type)).run Tryz.prog w = .ok (mkPlaces 0 [8, 64, 1]).toArray w := by
  have h1 := h w
  rw [Tryz.runUnderlying261] at h1
  simp only [Result.ok.injEq, TypeDesc.struct.injEq, and_true] at h1
  subst h1
  simp [Tryz.sizeOf31, Tryz.sizeOf258, Tryz.sizeOf259, mkPlaces]
theorem places269 {fs : Array Field} (h : ∀ w, (underlying 269).run Tryz.prog w = .ok (.struct fs) w) (w : World) :
    (fs.mapM (m := Sem) fun f => do pure (f.offset, ← sizeOf f.type)).run Tryz.prog w = .ok (mkPlaces 0 [1, 3]).toArray w := by
  have h1 := h w
  rw [Tryz.runUnderlying269] at h1
  simp only [Result.ok.injEq, TypeDesc.struct.injEq, and_true] at h1
  subst h1
  simp [Tryz.sizeOf75, Tryz.sizeOf105, mkPlaces]
theorem places277 {fs : Array Field} (h : ∀ w, (underlying 277).run Tryz.prog w = .ok (.struct fs) w) (w : World) :
    (fs.mapM (m := Sem) fun f => do pure (f.offset, ← sizeOf f.type)).run Tryz.prog w = .ok (mkPlaces 0 [1, 1, 1, 32, 1, 33]).toArray w := by
  have h1 := h w
  rw [Tryz.runUnderlying277] at h1
  simp only [Result.ok.injEq, TypeDesc.struct.injEq, and_true] at h1
  subst h1
  simp [Tryz.sizeOf2, Tryz.sizeOf3, Tryz.sizeOf27, Tryz.sizeOf275, mkPlaces]
theorem places307 {fs : Array Field} (h : ∀ w, (underlying 307).run Tryz.prog w = .ok (.struct fs) w) (w : World) :
    (fs.mapM (m := Sem) fun f => do pure (f.offset, ← sizeOf f.type)).run Tryz.prog w = .ok (mkPlaces 0 [32]).toArray w := by
  have h1 := h w
  rw [Tryz.runUnderlying307] at h1
  simp only [Result.ok.injEq, TypeDesc.struct.injEq, and_true] at h1
  subst h1
  simp [Tryz.sizeOf27, mkPlaces]
theorem places336 {fs : Array Field} (h : ∀ w, (underlying 336).run Tryz.prog w = .ok (.struct fs) w) (w : World) :
    (fs.mapM (m := Sem) fun f => do pure (f.offset, ← sizeOf f.type)).run Tryz.prog w = .ok (mkPlaces 0 [1, 1]).toArray w := by
  have h1 := h w
  rw [Tryz.runUnderlying336] at h1
  simp only [Result.ok.injEq, TypeDesc.struct.injEq, and_true] at h1
  subst h1
  simp [Tryz.sizeOf2, Tryz.sizeOf3, mkPlaces]
theorem places338 {fs : Array Field} (h : ∀ w, (underlying 338).run Tryz.prog w = .ok (.struct fs) w) (w : World) :
    (fs.mapM (m := Sem) fun f => do pure (f.offset, ← sizeOf f.type)).run Tryz.prog w = .ok (mkPlaces 0 [2, 1]).toArray w := by
  have h1 := h w
  rw [Tryz.runUnderlying338] at h1
  simp only [Result.ok.injEq, TypeDesc.struct.injEq, and_true] at h1
  subst h1
  simp [Tryz.sizeOf9, Tryz.sizeOf336, mkPlaces]
theorem places346 {fs : Array Field} (h : ∀ w, (underlying 346).run Tryz.prog w = .ok (.struct fs) w) (w : World) :
    (fs.mapM (m := Sem) fun f => do pure (f.offset, ← sizeOf f.type)).run Tryz.prog w = .ok (mkPlaces 0 [1, 1]).toArray w := by
  have h1 := h w
  rw [Tryz.runUnderlying346] at h1
  simp only [Result.ok.injEq, TypeDesc.struct.injEq, and_true] at h1
  subst h1
  simp [Tryz.sizeOf9, Tryz.sizeOf344, mkPlaces]
theorem places356 {fs : Array Field} (h : ∀ w, (underlying 356).run Tryz.prog w = .ok (.struct fs) w) (w : World) :
    (fs.mapM (m := Sem) fun f => do pure (f.offset, ← sizeOf f.type)).run Tryz.prog w = .ok (mkPlaces 0 [1, 1]).toArray w := by
  have h1 := h w
  rw [Tryz.runUnderlying356] at h1
  simp only [Result.ok.injEq, TypeDesc.struct.injEq, and_true] at h1
  subst h1
  simp [Tryz.sizeOf187, Tryz.sizeOf344, mkPlaces]
theorem places418 {fs : Array Field} (h : ∀ w, (underlying 418).run Tryz.prog w = .ok (.struct fs) w) (w : World) :
    (fs.mapM (m := Sem) fun f => do pure (f.offset, ← sizeOf f.type)).run Tryz.prog w = .ok (mkPlaces 0 [1]).toArray w := by
  have h1 := h w
  rw [Tryz.runUnderlying418] at h1
  simp only [Result.ok.injEq, TypeDesc.struct.injEq, and_true] at h1
  subst h1
  simp [Tryz.sizeOf9, mkPlaces]
end Go.Eng
namespace Go.Eng
open Go Go.Proofs
set_option maxRecDepth 20000
theorem c121 {σ : Sto} {L : SHeap} : Ctr Tryz.prog 121 #[] σ L fun v' σ' L' => ∃ b, v' = .pointer (some ⟨b, 0, none⟩) ∧ σ' = σ ∧ L' = (b, hashObj .init (List.replicate 64 0) (UInt64.ofNat 0)) :: L := by
  refine ctr_enter Tryz.func121 rfl Tryz.ntmps121 (by simp) ?_
  refine go_seq ?_
  refine go_region ?_
  refine sq rfl (q_assign rfl) ?_
  refine gol_nil ?_
  refine go_seq ?_
  refine go_region ?_
  refine sq rfl (q_buildRow (m := 1) (l' := ucells S8.init.list) (.cons rfl (.one rfl) rfl (.cons rfl (.one rfl) rfl (.cons rfl (.one rfl) rfl (.cons rfl (.one rfl) rfl (.cons rfl (.one rfl) rfl (.cons rfl (.one rfl) rfl (.cons rfl (.one rfl) rfl (.cons rfl (.one rfl) rfl .nil)))))))) zero258 Tryz.runUnderlying258 Tryz.sizeOf256 rfl rfl) ?_
  refine sq rfl (q_buildS (ns := [8, 64, 1]) (l' := ucells S8.init.list ++ (bcells (List.replicate 64 0) ++ [Value.int .u64 ((UInt64.ofNat 0).toNat : Int)])) (.put (z := ucells (List.replicate 8 0)) rfl .agg rfl rfl (.zero (z := bcells (List.replicate 64 0)) rfl (.zero (z := [_]) rfl .nil))) zero261 Tryz.runUnderlying261 (places261 Tryz.runUnderlying261) rfl) ?_
  refine snb rfl (n_box rfl .agg) ?_
  intro b1
  refine sq rfl (q_assign rfl) ?_
  refine gol_nil ?_
  refine go_ret Tryz.func121 Tryz.results121 rfl rfl rfl (by repeat (first | exact Sto.le_refl _ | assumption | refine Sto.le_trans ?_ (by assumption))) ?_
  exact ⟨b1, rfl, rfl, rfl⟩
theorem c122 {σ : Sto} {L0 : SHeap} {h : Nat} {s : S8} {rest m xs : Bts} {v : Value} (ha : Abs m s rest) (hx : Bytes σ v xs) (hlen : m.length + xs.length < 1000000000000000000) {T : TypeId} {fr : Nat × Nat} (hK : σ 1 = some (.cells (ucells K256).toArray T fr)) : Ctr Tryz.prog 122 #[.pointer (some ⟨h, 0, none⟩), v] σ ((h, hashObj s rest (UInt64.ofNat m.length)) :: L0) fun _ σ' L' => σ' = σ ∧ ∃ s' rest', Abs (m ++ xs) s' rest' ∧ L' = (h, hashObj s' rest' (UInt64.ofNat (m ++ xs).length)) :: L0 := by
  refine ctr_enter Tryz.func122 rfl Tryz.ntmps122 (by simp) ?_
  refine go_block ?_
  refine go_loop (X := S8 × Bts × Nat × Value) (fun x => x.2.2.1 ≤ xs.length ∧ Abs (m ++ xs.take x.2.2.1) x.1 x.2.1 ∧ ∃ p c, x.2.2.2 = .slice p (xs.length - x.2.2.1) c ∧ xs.length - x.2.2.1 ≤ c ∧ Cells σ [] x.2.2.2 (xs.length - x.2.2.1) 1 (bcells (xs.drop x.2.2.1))) (fun x => [(0, .pointer (some ⟨h, 0, none⟩)), (1, x.2.2.2)]) (fun _ => σ) (fun x => (h, hashObj x.1 x.2.1 (UInt64.ofNat (m.length + x.2.2.1))) :: L0) (fun x => xs.length - x.2.2.1) (s, rest, 0, v) ⟨by simp, by simpa using ha, by obtain ⟨p, c, e1, e2, e3⟩ := hx.out; exact ⟨p, c, by simpa using e1, by simpa using e2, by simpa using e3⟩⟩ ⟨rfl, rfl, trivial⟩ rfl rfl ?_
  rintro ⟨s, rest, j, v⟩ ⟨hj, ha, p, c, hv, hlc, hcl⟩ next
  simp only at hj ha hv hlc hcl next ⊢
  subst hv
  have hrl := ha.len
  refine go_seq ?_
  refine go_seq ?_
  refine go_region ?_
  refine sq rfl (q_move rfl) ?_
  refine sq rfl (q_len rfl Tryz.runUnderlying22) ?_
  refine sq rfl (q_gtr rfl rfl) ?_
  refine gol_nil ?_
  refine go_cond rfl rfl (fun hc0 => ?_) (fun hc0 => ?_)
  ·
    have hpos : 0 < xs.length - j := by simp at hc0; omega
    obtain ⟨b, o, ds, T', fr', rfl, hk, hp⟩ := hcl.get (by intro e; have := congrArg List.length e; simp [bcells] at this; omega)
    have hmj : (m ++ xs.take j).length = m.length + j := by simp; omega
    have hn : (UInt64.ofNat (m.length + j)).toNat = m.length + j := by rw [UInt64.toNat_ofNat']; omega
    generalize hK1 : (m.length + j) % 64 = at_
    have hat : at_ < 64 := by omega
    generalize hK2 : Nat.min (xs.length - j) (64 - at_) = k
    have hk1 : k ≤ xs.length - j := by rw [← hK2]; exact Nat.min_le_left _ _
    have hk2 : k ≤ 64 - at_ := by rw [← hK2]; exact Nat.min_le_right _ _
    have hk0 : 0 < k := by rw [← hK2]; exact Nat.lt_min.2 ⟨hpos, by omega⟩
    have hyl : ((xs.drop j).take k).length = k := by simp; omega
    have hcut : xs.take (j + k) = xs.take j ++ (xs.drop j).take k := List.take_add
    have hsrc : Cells σ [] (.slice (some ⟨b, o, none⟩) (xs.length - j) c) k 1 (bcells ((xs.drop j).take k)) := ⟨by rw [bcells_len, hyl]; omega, _, _, _, rfl, hk1, .inr ⟨b, o, ds, T', fr', rfl, hk, by
      have h2 : Part (bcells (xs.drop j)) 0 (k * 1) (bcells ((xs.drop j).take k)) := ⟨by simp [bcells], by simp [bcells]; omega⟩
      have := hp.part h2
      simpa using this⟩⟩
    refine go_skip ?_
    refine go_block ?_
    refine go_seq ?_
    refine go_region ?_
    refine sq rfl (q_move rfl) ?_
    refine sq rfl (q_nil rfl) ?_
    refine sq rfl (q_fieldAddr (off := 72) (o' := 72) rfl Tryz.runUnderlying261 rfl Tryz.sizeOf31 rfl rfl) ?_
    refine sq rfl (q_load rfl Tryz.isAgg31 .hd (At.app (n := 8) (i := 64) rfl (At.app (n := 64) (i := 0) (by simp [bcells_len, hrl]) .z))) ?_
    refine sq rfl (q_rem (b := 64) (c := ((at_ : Nat) : Int)) rfl rfl (by decide) (by rw [hn, ← hK1]; rfl)) ?_
    refine sq rfl (q_conv rfl Tryz.runUnderlying31 Tryz.runUnderlying3 (i64_in (by omega) (by omega))) ?_
    refine sq rfl (q_assign rfl) ?_
    refine gol_nil ?_
    refine go_seq ?_
    refine go_region ?_
    refine sq rfl (q_move rfl) ?_
    refine sq rfl (q_nil rfl) ?_
    refine sq rfl (q_fieldAddr (off := 8) (o' := 8) rfl Tryz.runUnderlying261 rfl Tryz.sizeOf259 rfl rfl) ?_
    refine sq rfl (q_move rfl) ?_
    refine sq rfl (q_sliceArr (l := at_) (h := 64) (n := 64) (a' := ⟨h, 8 + at_ * 1, none⟩) (hv := none) rfl Tryz.runUnderlying259 Tryz.sizeOf5 rfl rfl rfl rfl (by omega) (by omega) (if_neg (by omega))) ?_
    refine sq rfl (q_move rfl) ?_
    refine sn rfl (n_copy (n := k) rfl rfl Tryz.runUnderlying22 Tryz.sizeOf5 hK2 (hsrc.more (Keep.nil _)) (bcells_one _) .hd (hash_put _ (by rw [hyl, hrl]; omega))) ?_
    rintro _ _ _ - ⟨rfl, rfl, rfl⟩
    refine sq rfl (q_assign rfl) ?_
    refine gol_nil ?_
    refine go_seq ?_
    refine go_region ?_
    refine sq rfl (q_move rfl) ?_
    refine sq rfl (q_move rfl) ?_
    refine sq rfl (q_slice (l := k) (h := xs.length - j) (hv := none) rfl Tryz.runUnderlying22 Tryz.sizeOf5 rfl rfl rfl rfl (by omega) (by omega) rfl) ?_
    refine sq rfl (q_assign rfl) ?_
    refine gol_nil ?_
    refine go_seq ?_
    refine go_region ?_
    refine sq rfl (q_move rfl) ?_
    refine sq rfl (q_nil rfl) ?_
    refine sq rfl (q_fieldAddr (off := 72) (o' := 72) rfl Tryz.runUnderlying261 rfl Tryz.sizeOf31 rfl rfl) ?_
    refine sq rfl (q_load rfl Tryz.isAgg31 .hd (At.app (n := 8) (i := 64) rfl (At.app (n := 64) (i := 0) (by simp [bcells_len, putB, hrl, hyl]; omega) .z))) ?_
    refine sq rfl (q_move rfl) ?_
    refine sq rfl (q_conv rfl Tryz.runUnderlying3 Tryz.runUnderlying31 (conv_i_64 _)) ?_
    refine sq rfl (q_add64 rfl rfl) ?_
    refine sq rfl (q_nil rfl) ?_
    refine sq rfl (q_fieldAddr (off := 72) (o' := 72) rfl Tryz.runUnderlying261 rfl Tryz.sizeOf31 rfl rfl) ?_
    rw [← UInt64.ofNat_add, Nat.add_assoc]
    refine sst rfl (n_store rfl rfl rfl Tryz.sizeOf31 (SetAt.app (n := 8) (i := 64) rfl (SetAt.app (n := 64) (i := 0) (by simp [bcells_len, putB, hrl, hyl]; omega) .z)) .hd) ?_
    refine gol_nil ?_
    refine go_seq ?_
    refine go_region ?_
    refine sq rfl (q_move rfl) ?_
    refine sq rfl (q_nil rfl) ?_
    refine sq rfl (q_fieldAddr (off := 72) (o' := 72) rfl Tryz.runUnderlying261 rfl Tryz.sizeOf31 rfl rfl) ?_
    refine sq rfl (q_load rfl Tryz.isAgg31 .hd (At.app (n := 8) (i := 64) rfl (At.app (n := 64) (i := 0) (by simp [bcells_len, putB, hrl, hyl]; omega) .z))) ?_
    refine sq rfl (q_rem (b := 64) (c := (((m.length + (j + k)) % 64 : Nat) : Int)) rfl rfl (by decide) (by rw [UInt64.toNat_ofNat', Nat.mod_eq_of_lt (by omega)]; rfl)) ?_
    refine sq rfl (q_eql rfl rfl) ?_
    refine gol_nil ?_
    refine go_cond rfl rfl (fun hc1 => ?_) (fun hc1 => ?_)
    ·
      have h0 : (m.length + (j + k)) % 64 = 0 := by simp at hc1; omega
      refine go_region ?_
      refine sq rfl (q_move rfl) ?_
      refine sn rfl (n_call rfl Tryz.call159 (c159 (s := s) (rest := putB rest at_ ((xs.drop j).take k)) (n := UInt64.ofNat (m.length + (j + k))) (by simp [putB, hrl, hyl]; omega) hK)) ?_
      rintro _ _ _ - ⟨rfl, rfl⟩
      refine gol_nil ?_
      refine go_inBlock ?_
      refine go_next (next (s.block (putB rest at_ ((xs.drop j).take k)), putB rest at_ ((xs.drop j).take k), j + k, .slice (some (if c = k then ⟨b, o, none⟩ else ⟨b, o + k * 1, none⟩)) (xs.length - j - k) (c - k)) ⟨by simp only; omega, ?_, _, _, by simp only; rw [Nat.sub_sub], by simp only; omega, ?_⟩ (by simp only; omega)) ⟨rfl, rfl, trivial⟩
      · simp only
        have := ha.full (ys := (xs.drop j).take k) (by rw [hyl, hmj, hK1]; omega) (by rw [hyl, hmj, Nat.add_assoc]; exact h0) (by rw [hyl]; exact hk0)
        rw [hmj, hK1, List.append_assoc, ← hcut] at this
        exact this
      · simp only
        refine ⟨by simp [bcells], _, _, _, rfl, by omega, ?_⟩
        by_cases hck : c = k
        · left
          have : xs.length - j = k := by omega
          simp [bcells]; try omega
        · right
          rw [if_neg hck]
          refine ⟨b, o + k * 1, ds, T', fr', rfl, hk, ?_⟩
          have h2 : Part (bcells (xs.drop j)) (k * 1) ((xs.length - (j + k)) * 1) (bcells (xs.drop (j + k))) := ⟨by rw [Nat.mul_one, Nat.mul_one]; simp only [bcells, List.map_drop, List.drop_drop]; rw [List.take_of_length_le (by simp <;> omega)], by simp [bcells] <;> omega⟩
          exact hp.part h2
    ·
      have h0 : (m.length + (j + k)) % 64 ≠ 0 := by simp at hc1; omega
      refine go_skip ?_
      refine go_inBlock ?_
      refine go_next (next (s, putB rest at_ ((xs.drop j).take k), j + k, .slice (some (if c = k then ⟨b, o, none⟩ else ⟨b, o + k * 1, none⟩)) (xs.length - j - k) (c - k)) ⟨by simp only; omega, ?_, _, _, by simp only; rw [Nat.sub_sub], by simp only; omega, ?_⟩ (by simp only; omega)) ⟨rfl, rfl, trivial⟩
      · simp only
        have := ha.step (ys := (xs.drop j).take k) (by rw [hyl, hmj, hK1]; omega) (by rw [hyl, hmj, Nat.add_assoc]; exact h0)
        rw [hmj, hK1, List.append_assoc, ← hcut] at this
        exact this
      · simp only
        refine ⟨by simp [bcells], _, _, _, rfl, by omega, ?_⟩
        by_cases hck : c = k
        · left
          have : xs.length - j = k := by omega
          simp [bcells]; try omega
        · right
          rw [if_neg hck]
          refine ⟨b, o + k * 1, ds, T', fr', rfl, hk, ?_⟩
          have h2 : Part (bcells (xs.drop j)) (k * 1) ((xs.length - (j + k)) * 1) (bcells (xs.drop (j + k))) := ⟨by rw [Nat.mul_one, Nat.mul_one]; simp only [bcells, List.map_drop, List.drop_drop]; rw [List.take_of_length_le (by simp <;> omega)], by simp [bcells] <;> omega⟩
          exact hp.part h2
  ·
    have hj' : j = xs.length := by simp at hc0; omega
    subst hj'
    rw [List.take_length] at ha
    refine go_exit rfl ?_
    refine go_end Tryz.func122 Tryz.results122 rfl rfl rfl (by repeat (first | exact Sto.le_refl _ | assumption | refine Sto.le_trans ?_ (by assumption))) ?_
    exact ⟨rfl, s, rest, ha, by rw [List.length_append]⟩
end Go.Eng
