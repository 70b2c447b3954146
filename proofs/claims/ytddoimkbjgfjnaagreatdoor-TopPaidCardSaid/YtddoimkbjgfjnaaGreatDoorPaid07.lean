/- A part of the proof of this: Payments and locks of a shard come out as they stand on paper (TopPaid): for every input, with the listed package variables as the program's text lays them, TopPaid answers true and its argument reads as it did. -/
import Derived.Test.YtddoimkbjgfjnaaGreatDoorPaid06
namespace Go.Eng
open Go Go.Proofs
set_option maxRecDepth 20000
theorem Own.empty {T sz b : Nat} : Own T sz (.slice (some ⟨b, 0, none⟩) 0 0) 0 [] [(b, .cells ([] : List Value).toArray T (0, 0))] := .mk (cs := []) (junk := []) (by simp) (by simp)
def bsr (c : Nat → Int) (i j : Nat) : Nat :=
  if h : i < j then (if c ((i + j) / 2) < 0 then bsr c ((i + j) / 2 + 1) j else bsr c i ((i + j) / 2)) else i
termination_by j - i
theorem bsr_le (c : Nat → Int) (i j : Nat) (h : i ≤ j) : i ≤ bsr c i j ∧ bsr c i j ≤ j := by
  induction i, j using bsr.induct (c := c) with
  | case1 i j hlt hc ih => rw [bsr, dif_pos hlt, if_pos hc]; have := ih (by omega); omega
  | case2 i j hlt hc ih => rw [bsr, dif_pos hlt, if_neg hc]; have := ih (by omega); omega
  | case3 i j hlt => rw [bsr, dif_neg hlt]; omega
theorem bsr_spec (c : Nat → Int) (n : Nat) (hm : ∀ a b, a ≤ b → b < n → c b < 0 → c a < 0) (i j : Nat) (hij : i ≤ j) (hj : j ≤ n) (hlo : ∀ a, a < i → c a < 0) (hhi : ∀ b, j ≤ b → b < n → ¬ c b < 0) :
    (∀ a, a < bsr c i j → c a < 0) ∧ (∀ b, bsr c i j ≤ b → b < n → ¬ c b < 0) := by
  induction i, j using bsr.induct (c := c) with
  | case1 i j hlt hc ih =>
    rw [bsr, dif_pos hlt, if_pos hc]
    exact ih (by omega) hj (fun a ha => hm a _ (by omega) (by omega) hc) hhi
  | case2 i j hlt hc ih =>
    rw [bsr, dif_pos hlt, if_neg hc]
    exact ih (by omega) (by omega) hlo (fun b hb hbn => fun hcb => hc (hm _ b hb hbn hcb))
  | case3 i j hlt =>
    rw [bsr, dif_neg hlt]
    have : i = j := by omega
    subst this
    exact ⟨hlo, hhi⟩
theorem c38 {σ : Sto} {L : SHeap} {p : Option Addr} {n c : Nat} {cs : List Value} (hc : Cells σ L (.slice p n c) n 1 cs) (hone : cs.all oneCell = true) (hn : n < 1000000000) : Ctr Tryz.prog 38 #[.slice p n c] σ L fun v' σ' L' => ∃ Lp m, σ' = σ ∧ L' = Lp ++ L ∧ m = n ∧ Own 3 1 v' m cs Lp := by
  refine ctr_enter Tryz.func38 rfl Tryz.ntmps38 (by simp) ?_
  refine go_seq ?_
  refine go_region ?_
  refine sq rfl (q_assign rfl) ?_
  refine gol_nil ?_
  refine go_seq ?_
  refine go_seq ?_
  refine go_region ?_
  refine sq rfl (q_move rfl) ?_
  refine sq rfl (q_eqNil rfl rfl Tryz.underlying24) ?_
  refine gol_nil ?_
  refine go_cond rfl rfl (fun hc0 => ?_) (fun hc0 => ?_)
  ·
    have hp : p = none := by cases p <;> simp_all
    subst hp
    have hcs : n = 0 ∧ cs = [] := cells_nil hc (by decide)
    obtain ⟨rfl, rfl⟩ := hcs
    refine go_seq ?_
    refine go_region ?_
    refine sq rfl (q_assign rfl) ?_
    refine gol_nil ?_
    refine go_ret Tryz.func38 Tryz.results38 rfl rfl rfl (by repeat (first | exact Sto.le_refl _ | assumption | refine Sto.le_trans ?_ (by assumption))) ?_
    exact ⟨[], 0, rfl, rfl, rfl, .nil⟩
  ·
    refine go_skip ?_
    refine go_seq ?_
    refine go_region ?_
    refine sns rfl (n_buildSlice (sz := 1) .nil rfl Tryz.runUnderlying24 Tryz.sizeOf3 Tryz.zeroValue3 rfl rfl) ?_
    intro b1
    refine sq rfl (q_move rfl) ?_
    refine sn rfl (n_append (n := 0) (m := n) (Lp := [(b1, .cells ([] : List Value).toArray 3 (0, 0))]) (L0 := L) rfl rfl Tryz.runUnderlying24 Tryz.sizeOf3 Tryz.typeInfo3 rfl Tryz.zeroValue3 rfl Tryz.runUnderlying24 Own.empty (hc.more (fun _ _ h => List.mem_cons_of_mem _ h)) hone (by show (2 * (0 + n) + 1000) * 8 ≤ _; omega)) ?_
    rintro v2 σ _ - ⟨Lp', rfl, rfl, hown⟩
    refine sq rfl (q_assign rfl) ?_
    refine gol_nil ?_
    refine go_ret Tryz.func38 Tryz.results38 rfl rfl rfl (by repeat (first | exact Sto.le_refl _ | assumption | refine Sto.le_trans ?_ (by assumption))) ?_
    exact ⟨Lp', 0 + n, rfl, rfl, Nat.zero_add n, hown⟩
theorem c39 {σ : Sto} {L : SHeap} {p : Option Addr} {n c : Nat} {cs : List Value} (hc : Cells σ L (.slice p n c) n 1 cs) (hone : cs.all oneCell = true) (hn : n < 1000000000) : Ctr Tryz.prog 39 #[.slice p n c] σ L fun v' σ' L' => ∃ Lp m, σ' = σ ∧ L' = Lp ++ L ∧ m = n ∧ Own 46 1 v' m cs Lp := by
  refine ctr_enter Tryz.func39 rfl Tryz.ntmps39 (by simp) ?_
  refine go_seq ?_
  refine go_region ?_
  refine sq rfl (q_assign rfl) ?_
  refine gol_nil ?_
  refine go_seq ?_
  refine go_seq ?_
  refine go_region ?_
  refine sq rfl (q_move rfl) ?_
  refine sq rfl (q_eqNil rfl rfl Tryz.underlying25) ?_
  refine gol_nil ?_
  refine go_cond rfl rfl (fun hc0 => ?_) (fun hc0 => ?_)
  ·
    have hp : p = none := by cases p <;> simp_all
    subst hp
    have hcs : n = 0 ∧ cs = [] := cells_nil hc (by decide)
    obtain ⟨rfl, rfl⟩ := hcs
    refine go_seq ?_
    refine go_region ?_
    refine sq rfl (q_assign rfl) ?_
    refine gol_nil ?_
    refine go_ret Tryz.func39 Tryz.results39 rfl rfl rfl (by repeat (first | exact Sto.le_refl _ | assumption | refine Sto.le_trans ?_ (by assumption))) ?_
    exact ⟨[], 0, rfl, rfl, rfl, .nil⟩
  ·
    refine go_skip ?_
    refine go_seq ?_
    refine go_region ?_
    refine sns rfl (n_buildSlice (sz := 1) .nil rfl Tryz.runUnderlying25 Tryz.sizeOf46 Tryz.zeroValue46 rfl rfl) ?_
    intro b1
    refine sq rfl (q_move rfl) ?_
    refine sn rfl (n_append (n := 0) (m := n) (Lp := [(b1, .cells ([] : List Value).toArray 46 (0, 0))]) (L0 := L) rfl rfl Tryz.runUnderlying25 Tryz.sizeOf46 Tryz.typeInfo46 rfl Tryz.zeroValue46 rfl Tryz.runUnderlying25 Own.empty (hc.more (fun _ _ h => List.mem_cons_of_mem _ h)) hone (by show (2 * (0 + n) + 1000) * 24 ≤ _; omega)) ?_
    rintro v2 σ _ - ⟨Lp', rfl, rfl, hown⟩
    refine sq rfl (q_assign rfl) ?_
    refine gol_nil ?_
    refine go_ret Tryz.func39 Tryz.results39 rfl rfl rfl (by repeat (first | exact Sto.le_refl _ | assumption | refine Sto.le_trans ?_ (by assumption))) ?_
    exact ⟨Lp', 0 + n, rfl, rfl, Nat.zero_add n, hown⟩
theorem c40 {σ : Sto} {L : SHeap} {p : Option Addr} {n c : Nat} {cs : List Value} (hc : Cells σ L (.slice p n c) n 3 cs) (hone : cs.all oneCell = true) (hn : n < 1000000000) : Ctr Tryz.prog 40 #[.slice p n c] σ L fun v' σ' L' => ∃ Lp m, σ' = σ ∧ L' = Lp ++ L ∧ m = n ∧ Own 57 3 v' m cs Lp := by
  refine ctr_enter Tryz.func40 rfl Tryz.ntmps40 (by simp) ?_
  refine go_seq ?_
  refine go_region ?_
  refine sq rfl (q_assign rfl) ?_
  refine gol_nil ?_
  refine go_seq ?_
  refine go_seq ?_
  refine go_region ?_
  refine sq rfl (q_move rfl) ?_
  refine sq rfl (q_eqNil rfl rfl Tryz.underlying46) ?_
  refine gol_nil ?_
  refine go_cond rfl rfl (fun hc0 => ?_) (fun hc0 => ?_)
  ·
    have hp : p = none := by cases p <;> simp_all
    subst hp
    have hcs : n = 0 ∧ cs = [] := cells_nil hc (by decide)
    obtain ⟨rfl, rfl⟩ := hcs
    refine go_seq ?_
    refine go_region ?_
    refine sq rfl (q_assign rfl) ?_
    refine gol_nil ?_
    refine go_ret Tryz.func40 Tryz.results40 rfl rfl rfl (by repeat (first | exact Sto.le_refl _ | assumption | refine Sto.le_trans ?_ (by assumption))) ?_
    exact ⟨[], 0, rfl, rfl, rfl, .nil⟩
  ·
    refine go_skip ?_
    refine go_seq ?_
    refine go_region ?_
    refine sns rfl (n_buildSlice (sz := 3) .nil rfl Tryz.runUnderlying46 Tryz.sizeOf57 Tryz.zeroValue57 rfl rfl) ?_
    intro b1
    refine sq rfl (q_move rfl) ?_
    refine sn rfl (n_append (n := 0) (m := n) (Lp := [(b1, .cells ([] : List Value).toArray 57 (0, 0))]) (L0 := L) rfl rfl Tryz.runUnderlying46 Tryz.sizeOf57 Tryz.typeInfo57 rfl Tryz.zeroValue57 rfl Tryz.runUnderlying46 Own.empty (hc.more (fun _ _ h => List.mem_cons_of_mem _ h)) hone (by show (2 * (0 + n) + 1000) * 24 ≤ _; omega)) ?_
    rintro v2 σ _ - ⟨Lp', rfl, rfl, hown⟩
    refine sq rfl (q_assign rfl) ?_
    refine gol_nil ?_
    refine go_ret Tryz.func40 Tryz.results40 rfl rfl rfl (by repeat (first | exact Sto.le_refl _ | assumption | refine Sto.le_trans ?_ (by assumption))) ?_
    exact ⟨Lp', 0 + n, rfl, rfl, Nat.zero_add n, hown⟩
theorem c69 {σ : Sto} {L : SHeap} {p : Option Addr} {n c : Nat} {cs : List Value} (hc : Cells σ L (.slice p n c) n 38 cs) (hone : cs.all oneCell = true) (hn : n < 1000000000) : Ctr Tryz.prog 69 #[.slice p n c] σ L fun v' σ' L' => ∃ Lp m, σ' = σ ∧ L' = Lp ++ L ∧ m = n ∧ Own 60 38 v' m cs Lp := by
  refine ctr_enter Tryz.func69 rfl Tryz.ntmps69 (by simp) ?_
  refine go_seq ?_
  refine go_region ?_
  refine sq rfl (q_assign rfl) ?_
  refine gol_nil ?_
  refine go_seq ?_
  refine go_seq ?_
  refine go_region ?_
  refine sq rfl (q_move rfl) ?_
  refine sq rfl (q_eqNil rfl rfl Tryz.underlying47) ?_
  refine gol_nil ?_
  refine go_cond rfl rfl (fun hc0 => ?_) (fun hc0 => ?_)
  ·
    have hp : p = none := by cases p <;> simp_all
    subst hp
    have hcs : n = 0 ∧ cs = [] := cells_nil hc (by decide)
    obtain ⟨rfl, rfl⟩ := hcs
    refine go_seq ?_
    refine go_region ?_
    refine sq rfl (q_assign rfl) ?_
    refine gol_nil ?_
    refine go_ret Tryz.func69 Tryz.results69 rfl rfl rfl (by repeat (first | exact Sto.le_refl _ | assumption | refine Sto.le_trans ?_ (by assumption))) ?_
    exact ⟨[], 0, rfl, rfl, rfl, .nil⟩
  ·
    refine go_skip ?_
    refine go_seq ?_
    refine go_region ?_
    refine sns rfl (n_buildSlice (sz := 38) .nil rfl Tryz.runUnderlying47 Tryz.sizeOf60 Tryz.zeroValue60 rfl rfl) ?_
    intro b1
    refine sq rfl (q_move rfl) ?_
    refine sn rfl (n_append (n := 0) (m := n) (Lp := [(b1, .cells ([] : List Value).toArray 60 (0, 0))]) (L0 := L) rfl rfl Tryz.runUnderlying47 Tryz.sizeOf60 Tryz.typeInfo60 rfl Tryz.zeroValue60 rfl Tryz.runUnderlying47 Own.empty (hc.more (fun _ _ h => List.mem_cons_of_mem _ h)) hone (by show (2 * (0 + n) + 1000) * 80 ≤ _; omega)) ?_
    rintro v2 σ _ - ⟨Lp', rfl, rfl, hown⟩
    refine sq rfl (q_assign rfl) ?_
    refine gol_nil ?_
    refine go_ret Tryz.func69 Tryz.results69 rfl rfl rfl (by repeat (first | exact Sto.le_refl _ | assumption | refine Sto.le_trans ?_ (by assumption))) ?_
    exact ⟨Lp', 0 + n, rfl, rfl, Nat.zero_add n, hown⟩
theorem c70 {σ : Sto} {L : SHeap} {p : Option Addr} {n c : Nat} {cs : List Value} (hc : Cells σ L (.slice p n c) n 32 cs) (hone : cs.all oneCell = true) (hn : n < 1000000000) : Ctr Tryz.prog 70 #[.slice p n c] σ L fun v' σ' L' => ∃ Lp m, σ' = σ ∧ L' = Lp ++ L ∧ m = n ∧ Own 27 32 v' m cs Lp := by
  refine ctr_enter Tryz.func70 rfl Tryz.ntmps70 (by simp) ?_
  refine go_seq ?_
  refine go_region ?_
  refine sq rfl (q_assign rfl) ?_
  refine gol_nil ?_
  refine go_seq ?_
  refine go_seq ?_
  refine go_region ?_
  refine sq rfl (q_move rfl) ?_
  refine sq rfl (q_eqNil rfl rfl Tryz.underlying48) ?_
  refine gol_nil ?_
  refine go_cond rfl rfl (fun hc0 => ?_) (fun hc0 => ?_)
  ·
    have hp : p = none := by cases p <;> simp_all
    subst hp
    have hcs : n = 0 ∧ cs = [] := cells_nil hc (by decide)
    obtain ⟨rfl, rfl⟩ := hcs
    refine go_seq ?_
    refine go_region ?_
    refine sq rfl (q_assign rfl) ?_
    refine gol_nil ?_
    refine go_ret Tryz.func70 Tryz.results70 rfl rfl rfl (by repeat (first | exact Sto.le_refl _ | assumption | refine Sto.le_trans ?_ (by assumption))) ?_
    exact ⟨[], 0, rfl, rfl, rfl, .nil⟩
  ·
    refine go_skip ?_
    refine go_seq ?_
    refine go_region ?_
    refine sns rfl (n_buildSlice (sz := 32) .nil rfl Tryz.runUnderlying48 Tryz.sizeOf27 Tryz.zeroValue27 rfl rfl) ?_
    intro b1
    refine sq rfl (q_move rfl) ?_
    refine sn rfl (n_append (n := 0) (m := n) (Lp := [(b1, .cells ([] : List Value).toArray 27 (0, 0))]) (L0 := L) rfl rfl Tryz.runUnderlying48 Tryz.sizeOf27 Tryz.typeInfo27 rfl Tryz.zeroValue27 rfl Tryz.runUnderlying48 Own.empty (hc.more (fun _ _ h => List.mem_cons_of_mem _ h)) hone (by show (2 * (0 + n) + 1000) * 32 ≤ _; omega)) ?_
    rintro v2 σ _ - ⟨Lp', rfl, rfl, hown⟩
    refine sq rfl (q_assign rfl) ?_
    refine gol_nil ?_
    refine go_ret Tryz.func70 Tryz.results70 rfl rfl rfl (by repeat (first | exact Sto.le_refl _ | assumption | refine Sto.le_trans ?_ (by assumption))) ?_
    exact ⟨Lp', 0 + n, rfl, rfl, Nat.zero_add n, hown⟩
theorem c71 {σ : Sto} {L : SHeap} {p : Option Addr} {n c : Nat} {cs : List Value} (hc : Cells σ L (.slice p n c) n 3 cs) (hone : cs.all oneCell = true) (hn : n < 1000000000) : Ctr Tryz.prog 71 #[.slice p n c] σ L fun v' σ' L' => ∃ Lp m, σ' = σ ∧ L' = Lp ++ L ∧ m = n ∧ Own 75 3 v' m cs Lp := by
  refine ctr_enter Tryz.func71 rfl Tryz.ntmps71 (by simp) ?_
  refine go_seq ?_
  refine go_region ?_
  refine sq rfl (q_assign rfl) ?_
  refine gol_nil ?_
  refine go_seq ?_
  refine go_seq ?_
  refine go_region ?_
  refine sq rfl (q_move rfl) ?_
  refine sq rfl (q_eqNil rfl rfl Tryz.underlying49) ?_
  refine gol_nil ?_
  refine go_cond rfl rfl (fun hc0 => ?_) (fun hc0 => ?_)
  ·
    have hp : p = none := by cases p <;> simp_all
    subst hp
    have hcs : n = 0 ∧ cs = [] := cells_nil hc (by decide)
    obtain ⟨rfl, rfl⟩ := hcs
    refine go_seq ?_
    refine go_region ?_
    refine sq rfl (q_assign rfl) ?_
    refine gol_nil ?_
    refine go_ret Tryz.func71 Tryz.results71 rfl rfl rfl (by repeat (first | exact Sto.le_refl _ | assumption | refine Sto.le_trans ?_ (by assumption))) ?_
    exact ⟨[], 0, rfl, rfl, rfl, .nil⟩
  ·
    refine go_skip ?_
    refine go_seq ?_
    refine go_region ?_
    refine sns rfl (n_buildSlice (sz := 3) .nil rfl Tryz.runUnderlying49 Tryz.sizeOf75 Tryz.zeroValue75 rfl rfl) ?_
    intro b1
    refine sq rfl (q_move rfl) ?_
    refine sn rfl (n_append (n := 0) (m := n) (Lp := [(b1, .cells ([] : List Value).toArray 75 (0, 0))]) (L0 := L) rfl rfl Tryz.runUnderlying49 Tryz.sizeOf75 Tryz.typeInfo75 rfl Tryz.zeroValue75 rfl Tryz.runUnderlying49 Own.empty (hc.more (fun _ _ h => List.mem_cons_of_mem _ h)) hone (by show (2 * (0 + n) + 1000) * 56 ≤ _; omega)) ?_
    rintro v2 σ _ - ⟨Lp', rfl, rfl, hown⟩
    refine sq rfl (q_assign rfl) ?_
    refine gol_nil ?_
    refine go_ret Tryz.func71 Tryz.results71 rfl rfl rfl (by repeat (first | exact Sto.le_refl _ | assumption | refine Sto.le_trans ?_ (by assumption))) ?_
    exact ⟨Lp', 0 + n, rfl, rfl, Nat.zero_add n, hown⟩
theorem c72 {σ : Sto} {L : SHeap} {p : Option Addr} {n c : Nat} {cs : List Value} (hc : Cells σ L (.slice p n c) n 1 cs) (hone : cs.all oneCell = true) (hn : n < 1000000000) : Ctr Tryz.prog 72 #[.slice p n c] σ L fun v' σ' L' => ∃ Lp m, σ' = σ ∧ L' = Lp ++ L ∧ m = n ∧ Own 24 1 v' m cs Lp := by
  refine ctr_enter Tryz.func72 rfl Tryz.ntmps72 (by simp) ?_
  refine go_seq ?_
  refine go_region ?_
  refine sq rfl (q_assign rfl) ?_
  refine gol_nil ?_
  refine go_seq ?_
  refine go_seq ?_
  refine go_region ?_
  refine sq rfl (q_move rfl) ?_
  refine sq rfl (q_eqNil rfl rfl Tryz.underlying64) ?_
  refine gol_nil ?_
  refine go_cond rfl rfl (fun hc0 => ?_) (fun hc0 => ?_)
  ·
    have hp : p = none := by cases p <;> simp_all
    subst hp
    have hcs : n = 0 ∧ cs = [] := cells_nil hc (by decide)
    obtain ⟨rfl, rfl⟩ := hcs
    refine go_seq ?_
    refine go_region ?_
    refine sq rfl (q_assign rfl) ?_
    refine gol_nil ?_
    refine go_ret Tryz.func72 Tryz.results72 rfl rfl rfl (by repeat (first | exact Sto.le_refl _ | assumption | refine Sto.le_trans ?_ (by assumption))) ?_
    exact ⟨[], 0, rfl, rfl, rfl, .nil⟩
  ·
    refine go_skip ?_
    refine go_seq ?_
    refine go_region ?_
    refine sns rfl (n_buildSlice (sz := 1) .nil rfl Tryz.runUnderlying64 Tryz.sizeOf24 Tryz.zeroValue24 rfl rfl) ?_
    intro b1
    refine sq rfl (q_move rfl) ?_
    refine sn rfl (n_append (n := 0) (m := n) (Lp := [(b1, .cells ([] : List Value).toArray 24 (0, 0))]) (L0 := L) rfl rfl Tryz.runUnderlying64 Tryz.sizeOf24 Tryz.typeInfo24 rfl Tryz.zeroValue24 rfl Tryz.runUnderlying64 Own.empty (hc.more (fun _ _ h => List.mem_cons_of_mem _ h)) hone (by show (2 * (0 + n) + 1000) * 24 ≤ _; omega)) ?_
    rintro v2 σ _ - ⟨Lp', rfl, rfl, hown⟩
    refine sq rfl (q_assign rfl) ?_
    refine gol_nil ?_
    refine go_ret Tryz.func72 Tryz.results72 rfl rfl rfl (by repeat (first | exact Sto.le_refl _ | assumption | refine Sto.le_trans ?_ (by assumption))) ?_
    exact ⟨Lp', 0 + n, rfl, rfl, Nat.zero_add n, hown⟩
theorem c73 {σ : Sto} {L : SHeap} {p : Option Addr} {n c : Nat} {cs : List Value} {tv : Value}  {gid : FuncId} {cap : List Value} {cf : Nat → Int} (hc : Cells σ L (.slice p n c) n 3 cs) (hn : n < 1000000000) (hcall : ∀ vs w, (callFunc gid vs).run Tryz.prog w = .ok (.enter gid vs) w) (hcmp : ∀ i, i < n → ∀ Lx σ', Sto.le σ σ' → Ctr Tryz.prog gid (.agg ((cs.drop (i * 3)).take 3).toArray :: tv :: cap).toArray σ' (Lx ++ L) fun v _ L' => v = .int .i64 (cf i) ∧ L' = Lx ++ L) : Ctr Tryz.prog 73 #[.slice p n c, tv, .func (.func gid) #[] cap.toArray] σ L fun v _ L' => v = .tuple #[.int .i64 (bsr cf 0 n : Nat), .bool (decide (bsr cf 0 n < n) && decide (cf (bsr cf 0 n) = 0))] ∧ L' = L := by
  refine ctr_enter Tryz.func73 rfl Tryz.ntmps73 (by simp) ?_
  refine go_seq ?_
  refine go_region ?_
  refine sq rfl (q_assign rfl) ?_
  refine sq rfl (q_assign rfl) ?_
  refine gol_nil ?_
  refine go_seq ?_
  refine go_region ?_
  refine sq rfl (q_move rfl) ?_
  refine sq rfl (q_len rfl Tryz.runUnderlying46) ?_
  refine sq rfl (q_assign rfl) ?_
  refine gol_nil ?_
  refine go_seq ?_
  refine go_region ?_
  refine sq rfl (q_move rfl) ?_
  refine sq rfl (q_assign rfl) ?_
  refine sq rfl (q_assign rfl) ?_
  refine gol_nil ?_
  refine go_seq ?_
  refine go_block ?_
  refine go_loop (X := Nat × Nat × Sto) (fun x => x.1 ≤ x.2.1 ∧ x.2.1 ≤ n ∧ bsr cf x.1 x.2.1 = bsr cf 0 n ∧ Sto.le σ x.2.2) (fun x => [(0, .slice p n c), (2, .func (.func gid) #[] cap.toArray), (1, tv), (8, .int .i64 (n : Int)), (9, .int .i64 (x.1 : Int)), (10, .int .i64 (x.2.1 : Int))]) (fun x => x.2.2) (fun _ => L) (fun x => x.2.1 - x.1) (0, n, σ) ⟨Nat.zero_le _, Nat.le_refl _, rfl, Sto.le_refl _⟩ ⟨rfl, rfl, rfl, rfl, rfl, rfl, trivial⟩ rfl rfl ?_
  rintro ⟨i, j, σ1⟩ ⟨hij, hjn, hbs, hle1⟩ next
  simp only at hij hjn hbs hle1 next ⊢
  refine go_seq ?_
  refine go_seq ?_
  refine go_region ?_
  refine sq rfl (q_move rfl) ?_
  refine sq rfl (q_move rfl) ?_
  refine sq rfl (q_lss rfl rfl) ?_
  refine gol_nil ?_
  refine go_cond rfl rfl (fun hc0 => ?_) (fun hc0 => ?_)
  ·
    have hlt : i < j := by simp at hc0; omega
    rw [bsr, dif_pos hlt] at hbs
    generalize hm : (i + j) / 2 = m at hbs
    have hmj : m < j := by omega
    have hmi : i ≤ m := by omega
    have hmn : m < n := by omega
    obtain ⟨b, o, ds, T', fr', hp, hkn, hpt⟩ := hc.get (by intro e; have := hc.1; rw [e] at this; simp at this; omega)
    subst hp
    refine go_skip ?_
    refine go_block ?_
    refine go_seq ?_
    refine go_region ?_
    refine sq rfl (q_move rfl) ?_
    refine sq rfl (q_move rfl) ?_
    refine sq rfl (q_add rfl rfl (i64_in (by omega) (by omega))) ?_
    refine sq rfl (q_conv rfl Tryz.runUnderlying3 Tryz.runUnderlying207 (u64_in (by omega) (by omega))) ?_
    refine sq rfl (q_shr (c := ((m : Nat) : Int)) rfl rfl (by decide) (by rw [← hm, ← Int.natCast_add]; exact fdiv_nat (i + j) 2)) ?_
    refine sq rfl (q_conv rfl Tryz.runUnderlying207 Tryz.runUnderlying3 (i64_in (by omega) (by omega))) ?_
    refine sq rfl (q_assign rfl) ?_
    refine gol_nil ?_
    refine go_seq ?_
    refine go_region ?_
    refine sq rfl (q_move rfl) ?_
    refine sq rfl (q_move rfl) ?_
    refine sq rfl (q_move rfl) ?_
    refine sq rfl (q_indexAddr (j := m) (o' := o + m * 3) rfl rfl Tryz.runUnderlying46 Tryz.sizeOf57 rfl hmn rfl) ?_
    refine sq rfl (q_loadA rfl Tryz.isAgg57 Tryz.sizeOf57 ((hkn.up hle1)) (cells_part hpt hmn)) ?_
    refine sq rfl (q_move rfl) ?_
    refine sn rfl (n_callV (fst := []) rfl rfl rfl hcall (hcmp m hmn [] σ1 hle1)) ?_
    rintro _ σ2 _ hle2 ⟨rfl, rfl⟩
    refine sq rfl (q_lss rfl rfl) ?_
    refine gol_nil ?_
    refine go_cond rfl rfl (fun hc1 => ?_) (fun hc1 => ?_)
    ·
      have hcm : cf m < 0 := by simpa using hc1
      rw [if_pos hcm] at hbs
      refine go_region ?_
      refine sq rfl (q_move rfl) ?_
      refine sq rfl (q_add rfl rfl (i64_in (by omega) (by omega))) ?_
      refine sq rfl (q_assign rfl) ?_
      refine gol_nil ?_
      refine go_inBlock ?_
      exact go_next (next (m + 1, j, σ2) ⟨by simp only; omega, hjn, hbs, Sto.le_trans hle1 hle2⟩ (by simp only; omega)) ⟨rfl, rfl, rfl, rfl, rfl, rfl, trivial⟩
    ·
      have hcm : ¬ cf m < 0 := by simpa using hc1
      rw [if_neg hcm] at hbs
      refine go_region ?_
      refine sq rfl (q_move rfl) ?_
      refine sq rfl (q_assign rfl) ?_
      refine gol_nil ?_
      refine go_inBlock ?_
      exact go_next (next (i, m, σ2) ⟨hmi, by simp only; omega, hbs, Sto.le_trans hle1 hle2⟩ (by simp only; omega)) ⟨rfl, rfl, rfl, rfl, rfl, rfl, trivial⟩
  ·
    have hij' : i = j := by simp at hc0; omega
    subst hij'
    rw [bsr, dif_neg (by omega)] at hbs
    refine go_exit rfl ?_
    refine go_seq ?_
    rcases Nat.lt_or_ge i n with hin | hin
    ·
      have hd : decide ((i : Int) < (n : Int)) = true := decide_eq_true (by omega)
      obtain ⟨b, o, ds, T', fr', hp, hkn, hpt⟩ := hc.get (by intro e; have := hc.1; rw [e] at this; simp at this; omega)
      subst hp
      refine go_region ?_
      refine sq rfl (q_move rfl) ?_
      refine sq rfl (q_move rfl) ?_
      refine sq rfl (q_move rfl) ?_
      refine sq rfl (q_lss rfl rfl) ?_
      rw [hd]
      refine sq rfl (q_move rfl) ?_
      refine sqg rfl rfl (q_move rfl) ?_
      refine sqg rfl rfl (q_move rfl) ?_
      refine sqg rfl rfl (q_move rfl) ?_
      refine sqg rfl rfl (q_indexAddr (j := i) (o' := o + i * 3) rfl rfl Tryz.runUnderlying46 Tryz.sizeOf57 rfl hin rfl) ?_
      refine sqg rfl rfl (q_loadA rfl Tryz.isAgg57 Tryz.sizeOf57 ((hkn.up hle1)) (cells_part hpt hin)) ?_
      refine sqg rfl rfl (q_move rfl) ?_
      refine sng rfl rfl (n_callV (fst := []) rfl rfl rfl hcall (hcmp i hin [] σ1 hle1)) ?_
      rintro _ σ2 _ hle2 ⟨rfl, rfl⟩
      refine sqg rfl rfl (q_eql rfl rfl) ?_
      refine sq rfl (q_pick rfl rfl rfl rfl) ?_
      refine sq rfl (q_assign rfl) ?_
      refine sq rfl (q_assign rfl) ?_
      refine gol_nil ?_
      refine go_ret Tryz.func73 Tryz.results73 rfl rfl rfl (by repeat (first | exact Sto.le_refl _ | assumption | refine Sto.le_trans ?_ (by assumption))) ?_
      refine ⟨?_, rfl⟩
      rw [← hbs]
      show Value.tuple #[_, .bool (decide (cf i = 0))] = _
      rw [decide_eq_true hin, Bool.true_and]
      rfl
    ·
      have hd : decide ((i : Int) < (n : Int)) = false := decide_eq_false (by omega)
      refine go_region ?_
      refine sq rfl (q_move rfl) ?_
      refine sq rfl (q_move rfl) ?_
      refine sq rfl (q_move rfl) ?_
      refine sq rfl (q_lss rfl rfl) ?_
      rw [hd]
      refine sq rfl (q_move rfl) ?_
      refine ss rfl rfl ?_
      refine ss rfl rfl ?_
      refine ss rfl rfl ?_
      refine ss rfl rfl ?_
      refine ss rfl rfl ?_
      refine ss rfl rfl ?_
      refine ss rfl rfl ?_
      refine ss rfl rfl ?_
      refine sq rfl (q_pick rfl rfl rfl rfl) ?_
      refine sq rfl (q_assign rfl) ?_
      refine sq rfl (q_assign rfl) ?_
      refine gol_nil ?_
      refine go_ret Tryz.func73 Tryz.results73 rfl rfl rfl (by repeat (first | exact Sto.le_refl _ | assumption | refine Sto.le_trans ?_ (by assumption))) ?_
      refine ⟨?_, rfl⟩
      rw [← hbs, decide_eq_false (show ¬ i < n by omega), Bool.false_and]; rfl
theorem c213 {σ : Sto} {L : SHeap} {p : Option Addr} {n c : Nat} {cs : List Value} {td : Bts} (htd : td.length = 32)  {gid : FuncId} {cap : List Value} {cf : Nat → Int} (hc : Cells σ L (.slice p n c) n 38 cs) (hn : n < 1000000000) (hcall : ∀ vs w, (callFunc gid vs).run Tryz.prog w = .ok (.enter gid vs) w) (hcmp : ∀ i, i < n → ∀ Lx σ', Sto.le σ σ' → Ctr Tryz.prog gid (.agg ((cs.drop (i * 38)).take 38).toArray :: .agg (bcells td).toArray :: cap).toArray σ' (Lx ++ L) fun v _ L' => v = .int .i64 (cf i) ∧ L' = Lx ++ L) : Ctr Tryz.prog 213 #[.slice p n c, .agg (bcells td).toArray, .func (.func gid) #[] cap.toArray] σ L fun v _ L' => v = .tuple #[.int .i64 (bsr cf 0 n : Nat), .bool (decide (bsr cf 0 n < n) && decide (cf (bsr cf 0 n) = 0))] ∧ L' = L := by
  refine ctr_enter Tryz.func213 rfl Tryz.ntmps213 (by simp) ?_
  refine go_seq ?_
  refine go_region ?_
  refine snb rfl (n_box rfl .agg) ?_
  intro b1
  refine sq rfl (q_assign rfl) ?_
  refine sq rfl (q_assign rfl) ?_
  refine gol_nil ?_
  refine go_seq ?_
  refine go_region ?_
  refine sq rfl (q_move rfl) ?_
  refine sq rfl (q_len rfl Tryz.runUnderlying47) ?_
  refine sq rfl (q_assign rfl) ?_
  refine gol_nil ?_
  refine go_seq ?_
  refine go_region ?_
  refine sq rfl (q_move rfl) ?_
  refine sq rfl (q_assign rfl) ?_
  refine sq rfl (q_assign rfl) ?_
  refine gol_nil ?_
  refine go_seq ?_
  refine go_block ?_
  refine go_loop (X := Nat × Nat × Sto) (fun x => x.1 ≤ x.2.1 ∧ x.2.1 ≤ n ∧ bsr cf x.1 x.2.1 = bsr cf 0 n ∧ Sto.le σ x.2.2) (fun x => [(0, .slice p n c), (2, .func (.func gid) #[] cap.toArray), (4, .pointer (some ⟨b1, 0, none⟩)), (8, .int .i64 (n : Int)), (9, .int .i64 (x.1 : Int)), (10, .int .i64 (x.2.1 : Int))]) (fun x => x.2.2) (fun _ => (b1, .cells (bcells td).toArray 27 (0, 0)) :: L) (fun x => x.2.1 - x.1) (0, n, σ) ⟨Nat.zero_le _, Nat.le_refl _, rfl, Sto.le_refl _⟩ ⟨rfl, rfl, rfl, rfl, rfl, rfl, trivial⟩ rfl rfl ?_
  rintro ⟨i, j, σ1⟩ ⟨hij, hjn, hbs, hle1⟩ next
  simp only at hij hjn hbs hle1 next ⊢
  refine go_seq ?_
  refine go_seq ?_
  refine go_region ?_
  refine sq rfl (q_move rfl) ?_
  refine sq rfl (q_move rfl) ?_
  refine sq rfl (q_lss rfl rfl) ?_
  refine gol_nil ?_
  refine go_cond rfl rfl (fun hc0 => ?_) (fun hc0 => ?_)
  ·
    have hlt : i < j := by simp at hc0; omega
    rw [bsr, dif_pos hlt] at hbs
    generalize hm : (i + j) / 2 = m at hbs
    have hmj : m < j := by omega
    have hmi : i ≤ m := by omega
    have hmn : m < n := by omega
    obtain ⟨b, o, ds, T', fr', hp, hkn, hpt⟩ := hc.get (by intro e; have := hc.1; rw [e] at this; simp at this; omega)
    subst hp
    refine go_skip ?_
    refine go_block ?_
    refine go_seq ?_
    refine go_region ?_
    refine sq rfl (q_move rfl) ?_
    refine sq rfl (q_move rfl) ?_
    refine sq rfl (q_add rfl rfl (i64_in (by omega) (by omega))) ?_
    refine sq rfl (q_conv rfl Tryz.runUnderlying3 Tryz.runUnderlying207 (u64_in (by omega) (by omega))) ?_
    refine sq rfl (q_shr (c := ((m : Nat) : Int)) rfl rfl (by decide) (by rw [← hm, ← Int.natCast_add]; exact fdiv_nat (i + j) 2)) ?_
    refine sq rfl (q_conv rfl Tryz.runUnderlying207 Tryz.runUnderlying3 (i64_in (by omega) (by omega))) ?_
    refine sq rfl (q_assign rfl) ?_
    refine gol_nil ?_
    refine go_seq ?_
    refine go_draws (n := 49) _ mix rfl (by decide +kernel) (Keep.refl _) ?_
    refine dq 0 rfl rfl rfl rfl (q_move rfl) ?_
    refine dq 1 rfl rfl rfl rfl (q_move rfl) ?_
    refine dq 2 rfl rfl rfl rfl (q_move rfl) ?_
    refine dq 3 rfl rfl rfl rfl (q_indexAddr (j := m) (o' := o + m * 38) rfl rfl Tryz.runUnderlying47 Tryz.sizeOf60 rfl hmn rfl) ?_
    refine dq 4 rfl rfl rfl rfl (q_loadA rfl Tryz.isAgg60 Tryz.sizeOf60 (.tl (hkn.up hle1)) (cells_part hpt hmn)) ?_
    refine dq 5 rfl rfl rfl rfl (q_loadA rfl Tryz.isAgg27 Tryz.sizeOf27 .hd (Part.all (by rw [bcells_len, htd]))) ?_
    refine dn 6 rfl rfl rfl rfl (by decide +kernel) (n_callV (fst := []) rfl rfl rfl hcall (hcmp m hmn [_] σ1 hle1)) (fun _ _ _ _ h => by rw [h.2]; exact Keep.refl _) ?_
    rintro _ σ2 _ hle2 ⟨rfl, rfl⟩
    refine dq 7 rfl rfl rfl rfl (q_lss rfl rfl) ?_
    refine dend rfl ?_
    refine go_cond rfl rfl (fun hc1 => ?_) (fun hc1 => ?_)
    ·
      have hcm : cf m < 0 := by simpa using hc1
      rw [if_pos hcm] at hbs
      refine go_region ?_
      refine sq rfl (q_move rfl) ?_
      refine sq rfl (q_add rfl rfl (i64_in (by omega) (by omega))) ?_
      refine sq rfl (q_assign rfl) ?_
      refine gol_nil ?_
      refine go_inBlock ?_
      exact go_next (next (m + 1, j, σ2) ⟨by simp only; omega, hjn, hbs, Sto.le_trans hle1 hle2⟩ (by simp only; omega)) ⟨rfl, rfl, rfl, rfl, rfl, rfl, trivial⟩
    ·
      have hcm : ¬ cf m < 0 := by simpa using hc1
      rw [if_neg hcm] at hbs
      refine go_region ?_
      refine sq rfl (q_move rfl) ?_
      refine sq rfl (q_assign rfl) ?_
      refine gol_nil ?_
      refine go_inBlock ?_
      exact go_next (next (i, m, σ2) ⟨hmi, by simp only; omega, hbs, Sto.le_trans hle1 hle2⟩ (by simp only; omega)) ⟨rfl, rfl, rfl, rfl, rfl, rfl, trivial⟩
  ·
    have hij' : i = j := by simp at hc0; omega
    subst hij'
    rw [bsr, dif_neg (by omega)] at hbs
    refine go_exit rfl ?_
    refine go_seq ?_
    rcases Nat.lt_or_ge i n with hin | hin
    ·
      have hd : decide ((i : Int) < (n : Int)) = true := decide_eq_true (by omega)
      obtain ⟨b, o, ds, T', fr', hp, hkn, hpt⟩ := hc.get (by intro e; have := hc.1; rw [e] at this; simp at this; omega)
      subst hp
      refine go_draws (n := 49) _ mix rfl (by decide +kernel) (Keep.refl _) ?_
      refine dq 0 rfl rfl rfl rfl (q_move rfl) ?_
      refine dq 1 rfl rfl rfl rfl (q_move rfl) ?_
      refine dq 2 rfl rfl rfl rfl (q_move rfl) ?_
      refine dq 3 rfl rfl rfl rfl (q_lss rfl rfl) ?_
      rw [hd]
      refine dq 4 rfl rfl rfl rfl (q_move rfl) ?_
      refine dqg 5 rfl rfl rfl rfl rfl rfl (q_move rfl) ?_
      refine dqg 6 rfl rfl rfl rfl rfl rfl (q_move rfl) ?_
      refine dqg 7 rfl rfl rfl rfl rfl rfl (q_move rfl) ?_
      refine dqg 8 rfl rfl rfl rfl rfl rfl (q_indexAddr (j := i) (o' := o + i * 38) rfl rfl Tryz.runUnderlying47 Tryz.sizeOf60 rfl hin rfl) ?_
      refine dqg 9 rfl rfl rfl rfl rfl rfl (q_loadA rfl Tryz.isAgg60 Tryz.sizeOf60 (.tl (hkn.up hle1)) (cells_part hpt hin)) ?_
      refine dqg 10 rfl rfl rfl rfl rfl rfl (q_loadA rfl Tryz.isAgg27 Tryz.sizeOf27 .hd (Part.all (by rw [bcells_len, htd]))) ?_
      refine dng 11 rfl rfl rfl rfl rfl rfl (by decide +kernel) (n_callV (fst := []) rfl rfl rfl hcall (hcmp i hin [_] σ1 hle1)) (fun _ _ _ _ h => by rw [h.2]; exact Keep.refl _) ?_
      rintro _ σ2 _ hle2 ⟨rfl, rfl⟩
      refine dqg 12 rfl rfl rfl rfl rfl rfl (q_eql rfl rfl) ?_
      refine dq 13 rfl rfl rfl rfl (q_pick rfl rfl rfl rfl) ?_
      refine dq 14 rfl rfl rfl rfl (q_assign rfl) ?_
      refine dq 15 rfl rfl rfl rfl (q_assign rfl) ?_
      refine dend rfl ?_
      refine go_drop1 ?_
      refine go_ret Tryz.func213 Tryz.results213 rfl rfl rfl (by repeat (first | exact Sto.le_refl _ | assumption | refine Sto.le_trans ?_ (by assumption))) ?_
      refine ⟨?_, rfl⟩
      rw [← hbs]
      show Value.tuple #[_, .bool (decide (cf i = 0))] = _
      rw [decide_eq_true hin, Bool.true_and]
      rfl
    ·
      have hd : decide ((i : Int) < (n : Int)) = false := decide_eq_false (by omega)
      refine go_draws (n := 49) _ mix rfl (by decide +kernel) (Keep.refl _) ?_
      refine dq 0 rfl rfl rfl rfl (q_move rfl) ?_
      refine dq 1 rfl rfl rfl rfl (q_move rfl) ?_
      refine dq 2 rfl rfl rfl rfl (q_move rfl) ?_
      refine dq 3 rfl rfl rfl rfl (q_lss rfl rfl) ?_
      rw [hd]
      refine dq 4 rfl rfl rfl rfl (q_move rfl) ?_
      refine dskip 5 rfl rfl rfl (by first | exact .inl rfl | exact .inr rfl) rfl rfl rfl ?_
      refine dskip 6 rfl rfl rfl (by first | exact .inl rfl | exact .inr rfl) rfl rfl rfl ?_
      refine dskip 7 rfl rfl rfl (by first | exact .inl rfl | exact .inr rfl) rfl rfl rfl ?_
      refine dskip 8 rfl rfl rfl (by first | exact .inl rfl | exact .inr rfl) rfl rfl rfl ?_
      refine dskip 9 rfl rfl rfl (by first | exact .inl rfl | exact .inr rfl) rfl rfl rfl ?_
      refine dskip 10 rfl rfl rfl (by first | exact .inl rfl | exact .inr rfl) rfl rfl rfl ?_
      refine dskip 11 rfl rfl rfl (by first | exact .inl rfl | exact .inr rfl) rfl rfl rfl ?_
      refine dskip 12 rfl rfl rfl (by first | exact .inl rfl | exact .inr rfl) rfl rfl rfl ?_
      refine dq 13 rfl rfl rfl rfl (q_pick rfl rfl rfl rfl) ?_
      refine dq 14 rfl rfl rfl rfl (q_assign rfl) ?_
      refine dq 15 rfl rfl rfl rfl (q_assign rfl) ?_
      refine dend rfl ?_
      refine go_drop1 ?_
      refine go_ret Tryz.func213 Tryz.results213 rfl rfl rfl (by repeat (first | exact Sto.le_refl _ | assumption | refine Sto.le_trans ?_ (by assumption))) ?_
      refine ⟨?_, rfl⟩
      rw [← hbs, decide_eq_false (show ¬ i < n by omega), Bool.false_and]; rfl
theorem c182 {σ : Sto} {L : SHeap} {p : Option Addr} {n c : Nat} {cs : List Value} {td : Bts} (htd : td.length = 32)  {gid : FuncId} {cap : List Value} {cf : Nat → Int} (hc : Cells σ L (.slice p n c) n 32 cs) (hn : n < 1000000000) (hcall : ∀ vs w, (callFunc gid vs).run Tryz.prog w = .ok (.enter gid vs) w) (hcmp : ∀ i, i < n → ∀ Lx σ', Sto.le σ σ' → Ctr Tryz.prog gid (.agg ((cs.drop (i * 32)).take 32).toArray :: .agg (bcells td).toArray :: cap).toArray σ' (Lx ++ L) fun v _ L' => v = .int .i64 (cf i) ∧ L' = Lx ++ L) : Ctr Tryz.prog 182 #[.slice p n c, .agg (bcells td).toArray, .func (.func gid) #[] cap.toArray] σ L fun v _ L' => v = .tuple #[.int .i64 (bsr cf 0 n : Nat), .bool (decide (bsr cf 0 n < n) && decide (cf (bsr cf 0 n) = 0))] ∧ L' = L := by
  refine ctr_enter Tryz.func182 rfl Tryz.ntmps182 (by simp) ?_
  refine go_seq ?_
  refine go_region ?_
  refine snb rfl (n_box rfl .agg) ?_
  intro b1
  refine sq rfl (q_assign rfl) ?_
  refine sq rfl (q_assign rfl) ?_
  refine gol_nil ?_
  refine go_seq ?_
  refine go_region ?_
  refine sq rfl (q_move rfl) ?_
  refine sq rfl (q_len rfl Tryz.runUnderlying48) ?_
  refine sq rfl (q_assign rfl) ?_
  refine gol_nil ?_
  refine go_seq ?_
  refine go_region ?_
  refine sq rfl (q_move rfl) ?_
  refine sq rfl (q_assign rfl) ?_
  refine sq rfl (q_assign rfl) ?_
  refine gol_nil ?_
  refine go_seq ?_
  refine go_block ?_
  refine go_loop (X := Nat × Nat × Sto) (fun x => x.1 ≤ x.2.1 ∧ x.2.1 ≤ n ∧ bsr cf x.1 x.2.1 = bsr cf 0 n ∧ Sto.le σ x.2.2) (fun x => [(0, .slice p n c), (2, .func (.func gid) #[] cap.toArray), (4, .pointer (some ⟨b1, 0, none⟩)), (8, .int .i64 (n : Int)), (9, .int .i64 (x.1 : Int)), (10, .int .i64 (x.2.1 : Int))]) (fun x => x.2.2) (fun _ => (b1, .cells (bcells td).toArray 27 (0, 0)) :: L) (fun x => x.2.1 - x.1) (0, n, σ) ⟨Nat.zero_le _, Nat.le_refl _, rfl, Sto.le_refl _⟩ ⟨rfl, rfl, rfl, rfl, rfl, rfl, trivial⟩ rfl rfl ?_
  rintro ⟨i, j, σ1⟩ ⟨hij, hjn, hbs, hle1⟩ next
  simp only at hij hjn hbs hle1 next ⊢
  refine go_seq ?_
  refine go_seq ?_
  refine go_region ?_
  refine sq rfl (q_move rfl) ?_
  refine sq rfl (q_move rfl) ?_
  refine sq rfl (q_lss rfl rfl) ?_
  refine gol_nil ?_
  refine go_cond rfl rfl (fun hc0 => ?_) (fun hc0 => ?_)
  ·
    have hlt : i < j := by simp at hc0; omega
    rw [bsr, dif_pos hlt] at hbs
    generalize hm : (i + j) / 2 = m at hbs
    have hmj : m < j := by omega
    have hmi : i ≤ m := by omega
    have hmn : m < n := by omega
    obtain ⟨b, o, ds, T', fr', hp, hkn, hpt⟩ := hc.get (by intro e; have := hc.1; rw [e] at this; simp at this; omega)
    subst hp
    refine go_skip ?_
    refine go_block ?_
    refine go_seq ?_
    refine go_region ?_
    refine sq rfl (q_move rfl) ?_
    refine sq rfl (q_move rfl) ?_
    refine sq rfl (q_add rfl rfl (i64_in (by omega) (by omega))) ?_
    refine sq rfl (q_conv rfl Tryz.runUnderlying3 Tryz.runUnderlying207 (u64_in (by omega) (by omega))) ?_
    refine sq rfl (q_shr (c := ((m : Nat) : Int)) rfl rfl (by decide) (by rw [← hm, ← Int.natCast_add]; exact fdiv_nat (i + j) 2)) ?_
    refine sq rfl (q_conv rfl Tryz.runUnderlying207 Tryz.runUnderlying3 (i64_in (by omega) (by omega))) ?_
    refine sq rfl (q_assign rfl) ?_
    refine gol_nil ?_
    refine go_seq ?_
    refine go_draws (n := 49) _ mix rfl (by decide +kernel) (Keep.refl _) ?_
    refine dq 0 rfl rfl rfl rfl (q_move rfl) ?_
    refine dq 1 rfl rfl rfl rfl (q_move rfl) ?_
    refine dq 2 rfl rfl rfl rfl (q_move rfl) ?_
    refine dq 3 rfl rfl rfl rfl (q_indexAddr (j := m) (o' := o + m * 32) rfl rfl Tryz.runUnderlying48 Tryz.sizeOf27 rfl hmn rfl) ?_
    refine dq 4 rfl rfl rfl rfl (q_loadA rfl Tryz.isAgg27 Tryz.sizeOf27 (.tl (hkn.up hle1)) (cells_part hpt hmn)) ?_
    refine dq 5 rfl rfl rfl rfl (q_loadA rfl Tryz.isAgg27 Tryz.sizeOf27 .hd (Part.all (by rw [bcells_len, htd]))) ?_
    refine dn 6 rfl rfl rfl rfl (by decide +kernel) (n_callV (fst := []) rfl rfl rfl hcall (hcmp m hmn [_] σ1 hle1)) (fun _ _ _ _ h => by rw [h.2]; exact Keep.refl _) ?_
    rintro _ σ2 _ hle2 ⟨rfl, rfl⟩
    refine dq 7 rfl rfl rfl rfl (q_lss rfl rfl) ?_
    refine dend rfl ?_
    refine go_cond rfl rfl (fun hc1 => ?_) (fun hc1 => ?_)
    ·
      have hcm : cf m < 0 := by simpa using hc1
      rw [if_pos hcm] at hbs
      refine go_region ?_
      refine sq rfl (q_move rfl) ?_
      refine sq rfl (q_add rfl rfl (i64_in (by omega) (by omega))) ?_
      refine sq rfl (q_assign rfl) ?_
      refine gol_nil ?_
      refine go_inBlock ?_
      exact go_next (next (m + 1, j, σ2) ⟨by simp only; omega, hjn, hbs, Sto.le_trans hle1 hle2⟩ (by simp only; omega)) ⟨rfl, rfl, rfl, rfl, rfl, rfl, trivial⟩
    ·
      have hcm : ¬ cf m < 0 := by simpa using hc1
      rw [if_neg hcm] at hbs
      refine go_region ?_
      refine sq rfl (q_move rfl) ?_
      refine sq rfl (q_assign rfl) ?_
      refine gol_nil ?_
      refine go_inBlock ?_
      exact go_next (next (i, m, σ2) ⟨hmi, by simp only; omega, hbs, Sto.le_trans hle1 hle2⟩ (by simp only; omega)) ⟨rfl, rfl, rfl, rfl, rfl, rfl, trivial⟩
  ·
    have hij' : i = j := by simp at hc0; omega
    subst hij'
    rw [bsr, dif_neg (by omega)] at hbs
    refine go_exit rfl ?_
    refine go_seq ?_
    rcases Nat.lt_or_ge i n with hin | hin
    ·
      have hd : decide ((i : Int) < (n : Int)) = true := decide_eq_true (by omega)
      obtain ⟨b, o, ds, T', fr', hp, hkn, hpt⟩ := hc.get (by intro e; have := hc.1; rw [e] at this; simp at this; omega)
      subst hp
      refine go_draws (n := 49) _ mix rfl (by decide +kernel) (Keep.refl _) ?_
      refine dq 0 rfl rfl rfl rfl (q_move rfl) ?_
      refine dq 1 rfl rfl rfl rfl (q_move rfl) ?_
      refine dq 2 rfl rfl rfl rfl (q_move rfl) ?_
      refine dq 3 rfl rfl rfl rfl (q_lss rfl rfl) ?_
      rw [hd]
      refine dq 4 rfl rfl rfl rfl (q_move rfl) ?_
      refine dqg 5 rfl rfl rfl rfl rfl rfl (q_move rfl) ?_
      refine dqg 6 rfl rfl rfl rfl rfl rfl (q_move rfl) ?_
      refine dqg 7 rfl rfl rfl rfl rfl rfl (q_move rfl) ?_
      refine dqg 8 rfl rfl rfl rfl rfl rfl (q_indexAddr (j := i) (o' := o + i * 32) rfl rfl Tryz.runUnderlying48 Tryz.sizeOf27 rfl hin rfl) ?_
      refine dqg 9 rfl rfl rfl rfl rfl rfl (q_loadA rfl Tryz.isAgg27 Tryz.sizeOf27 (.tl (hkn.up hle1)) (cells_part hpt hin)) ?_
      refine dqg 10 rfl rfl rfl rfl rfl rfl (q_loadA rfl Tryz.isAgg27 Tryz.sizeOf27 .hd (Part.all (by rw [bcells_len, htd]))) ?_
      refine dng 11 rfl rfl rfl rfl rfl rfl (by decide +kernel) (n_callV (fst := []) rfl rfl rfl hcall (hcmp i hin [_] σ1 hle1)) (fun _ _ _ _ h => by rw [h.2]; exact Keep.refl _) ?_
      rintro _ σ2 _ hle2 ⟨rfl, rfl⟩
      refine dqg 12 rfl rfl rfl rfl rfl rfl (q_eql rfl rfl) ?_
      refine dq 13 rfl rfl rfl rfl (q_pick rfl rfl rfl rfl) ?_
      refine dq 14 rfl rfl rfl rfl (q_assign rfl) ?_
      refine dq 15 rfl rfl rfl rfl (q_assign rfl) ?_
      refine dend rfl ?_
      refine go_drop1 ?_
      refine go_ret Tryz.func182 Tryz.results182 rfl rfl rfl (by repeat (first | exact Sto.le_refl _ | assumption | refine Sto.le_trans ?_ (by assumption))) ?_
      refine ⟨?_, rfl⟩
      rw [← hbs]
      show Value.tuple #[_, .bool (decide (cf i = 0))] = _
      rw [decide_eq_true hin, Bool.true_and]
      rfl
    ·
      have hd : decide ((i : Int) < (n : Int)) = false := decide_eq_false (by omega)
      refine go_draws (n := 49) _ mix rfl (by decide +kernel) (Keep.refl _) ?_
      refine dq 0 rfl rfl rfl rfl (q_move rfl) ?_
      refine dq 1 rfl rfl rfl rfl (q_move rfl) ?_
      refine dq 2 rfl rfl rfl rfl (q_move rfl) ?_
      refine dq 3 rfl rfl rfl rfl (q_lss rfl rfl) ?_
      rw [hd]
      refine dq 4 rfl rfl rfl rfl (q_move rfl) ?_
      refine dskip 5 rfl rfl rfl (by first | exact .inl rfl | exact .inr rfl) rfl rfl rfl ?_
      refine dskip 6 rfl rfl rfl (by first | exact .inl rfl | exact .inr rfl) rfl rfl rfl ?_
      refine dskip 7 rfl rfl rfl (by first | exact .inl rfl | exact .inr rfl) rfl rfl rfl ?_
      refine dskip 8 rfl rfl rfl (by first | exact .inl rfl | exact .inr rfl) rfl rfl rfl ?_
      refine dskip 9 rfl rfl rfl (by first | exact .inl rfl | exact .inr rfl) rfl rfl rfl ?_
      refine dskip 10 rfl rfl rfl (by first | exact .inl rfl | exact .inr rfl) rfl rfl rfl ?_
      refine dskip 11 rfl rfl rfl (by first | exact .inl rfl | exact .inr rfl) rfl rfl rfl ?_
      refine dskip 12 rfl rfl rfl (by first | exact .inl rfl | exact .inr rfl) rfl rfl rfl ?_
      refine dq 13 rfl rfl rfl rfl (q_pick rfl rfl rfl rfl) ?_
      refine dq 14 rfl rfl rfl rfl (q_assign rfl) ?_
      refine dq 15 rfl rfl rfl rfl (q_assign rfl) ?_
      refine dend rfl ?_
      refine go_drop1 ?_
      refine go_ret Tryz.func182 Tryz.results182 rfl rfl rfl (by repeat (first | exact Sto.le_refl _ | assumption | refine Sto.le_trans ?_ (by assumption))) ?_
      refine ⟨?_, rfl⟩
      rw [← hbs, decide_eq_false (show ¬ i < n by omega), Bool.false_and]; rfl
theorem c161 {σ : Sto} {L : SHeap} {p : Option Addr} {n c : Nat} {cs : List Value} {tv : Value}  {gid : FuncId} {cap : List Value} {cf : Nat → Int} (hc : Cells σ L (.slice p n c) n 33 cs) (hn : n < 1000000000) (hcall : ∀ vs w, (callFunc gid vs).run Tryz.prog w = .ok (.enter gid vs) w) (hcmp : ∀ i, i < n → ∀ Lx σ', Sto.le σ σ' → Ctr Tryz.prog gid (.agg ((cs.drop (i * 33)).take 33).toArray :: tv :: cap).toArray σ' (Lx ++ L) fun v _ L' => v = .int .i64 (cf i) ∧ L' = Lx ++ L) : Ctr Tryz.prog 161 #[.slice p n c, tv, .func (.func gid) #[] cap.toArray] σ L fun v _ L' => v = .tuple #[.int .i64 (bsr cf 0 n : Nat), .bool (decide (bsr cf 0 n < n) && decide (cf (bsr cf 0 n) = 0))] ∧ L' = L := by
  refine ctr_enter Tryz.func161 rfl Tryz.ntmps161 (by simp) ?_
  refine go_seq ?_
  refine go_region ?_
  refine sq rfl (q_assign rfl) ?_
  refine sq rfl (q_assign rfl) ?_
  refine gol_nil ?_
  refine go_seq ?_
  refine go_region ?_
  refine sq rfl (q_move rfl) ?_
  refine sq rfl (q_len rfl Tryz.runUnderlying129) ?_
  refine sq rfl (q_assign rfl) ?_
  refine gol_nil ?_
  refine go_seq ?_
  refine go_region ?_
  refine sq rfl (q_move rfl) ?_
  refine sq rfl (q_assign rfl) ?_
  refine sq rfl (q_assign rfl) ?_
  refine gol_nil ?_
  refine go_seq ?_
  refine go_block ?_
  refine go_loop (X := Nat × Nat × Sto) (fun x => x.1 ≤ x.2.1 ∧ x.2.1 ≤ n ∧ bsr cf x.1 x.2.1 = bsr cf 0 n ∧ Sto.le σ x.2.2) (fun x => [(0, .slice p n c), (2, .func (.func gid) #[] cap.toArray), (1, tv), (8, .int .i64 (n : Int)), (9, .int .i64 (x.1 : Int)), (10, .int .i64 (x.2.1 : Int))]) (fun x => x.2.2) (fun _ => L) (fun x => x.2.1 - x.1) (0, n, σ) ⟨Nat.zero_le _, Nat.le_refl _, rfl, Sto.le_refl _⟩ ⟨rfl, rfl, rfl, rfl, rfl, rfl, trivial⟩ rfl rfl ?_
  rintro ⟨i, j, σ1⟩ ⟨hij, hjn, hbs, hle1⟩ next
  simp only at hij hjn hbs hle1 next ⊢
  refine go_seq ?_
  refine go_seq ?_
  refine go_region ?_
  refine sq rfl (q_move rfl) ?_
  refine sq rfl (q_move rfl) ?_
  refine sq rfl (q_lss rfl rfl) ?_
  refine gol_nil ?_
  refine go_cond rfl rfl (fun hc0 => ?_) (fun hc0 => ?_)
  ·
    have hlt : i < j := by simp at hc0; omega
    rw [bsr, dif_pos hlt] at hbs
    generalize hm : (i + j) / 2 = m at hbs
    have hmj : m < j := by omega
    have hmi : i ≤ m := by omega
    have hmn : m < n := by omega
    obtain ⟨b, o, ds, T', fr', hp, hkn, hpt⟩ := hc.get (by intro e; have := hc.1; rw [e] at this; simp at this; omega)
    subst hp
    refine go_skip ?_
    refine go_block ?_
    refine go_seq ?_
    refine go_region ?_
    refine sq rfl (q_move rfl) ?_
    refine sq rfl (q_move rfl) ?_
    refine sq rfl (q_add rfl rfl (i64_in (by omega) (by omega))) ?_
    refine sq rfl (q_conv rfl Tryz.runUnderlying3 Tryz.runUnderlying207 (u64_in (by omega) (by omega))) ?_
    refine sq rfl (q_shr (c := ((m : Nat) : Int)) rfl rfl (by decide) (by rw [← hm, ← Int.natCast_add]; exact fdiv_nat (i + j) 2)) ?_
    refine sq rfl (q_conv rfl Tryz.runUnderlying207 Tryz.runUnderlying3 (i64_in (by omega) (by omega))) ?_
    refine sq rfl (q_assign rfl) ?_
    refine gol_nil ?_
    refine go_seq ?_
    refine go_region ?_
    refine sq rfl (q_move rfl) ?_
    refine sq rfl (q_move rfl) ?_
    refine sq rfl (q_move rfl) ?_
    refine sq rfl (q_indexAddr (j := m) (o' := o + m * 33) rfl rfl Tryz.runUnderlying129 Tryz.sizeOf179 rfl hmn rfl) ?_
    refine sq rfl (q_loadA rfl Tryz.isAgg179 Tryz.sizeOf179 ((hkn.up hle1)) (cells_part hpt hmn)) ?_
    refine sq rfl (q_move rfl) ?_
    refine sn rfl (n_callV (fst := []) rfl rfl rfl hcall (hcmp m hmn [] σ1 hle1)) ?_
    rintro _ σ2 _ hle2 ⟨rfl, rfl⟩
    refine sq rfl (q_lss rfl rfl) ?_
    refine gol_nil ?_
    refine go_cond rfl rfl (fun hc1 => ?_) (fun hc1 => ?_)
    ·
      have hcm : cf m < 0 := by simpa using hc1
      rw [if_pos hcm] at hbs
      refine go_region ?_
      refine sq rfl (q_move rfl) ?_
      refine sq rfl (q_add rfl rfl (i64_in (by omega) (by omega))) ?_
      refine sq rfl (q_assign rfl) ?_
      refine gol_nil ?_
      refine go_inBlock ?_
      exact go_next (next (m + 1, j, σ2) ⟨by simp only; omega, hjn, hbs, Sto.le_trans hle1 hle2⟩ (by simp only; omega)) ⟨rfl, rfl, rfl, rfl, rfl, rfl, trivial⟩
    ·
      have hcm : ¬ cf m < 0 := by simpa using hc1
      rw [if_neg hcm] at hbs
      refine go_region ?_
      refine sq rfl (q_move rfl) ?_
      refine sq rfl (q_assign rfl) ?_
      refine gol_nil ?_
      refine go_inBlock ?_
      exact go_next (next (i, m, σ2) ⟨hmi, by simp only; omega, hbs, Sto.le_trans hle1 hle2⟩ (by simp only; omega)) ⟨rfl, rfl, rfl, rfl, rfl, rfl, trivial⟩
  ·
    have hij' : i = j := by simp at hc0; omega
    subst hij'
    rw [bsr, dif_neg (by omega)] at hbs
    refine go_exit rfl ?_
    refine go_seq ?_
    rcases Nat.lt_or_ge i n with hin | hin
    ·
      have hd : decide ((i : Int) < (n : Int)) = true := decide_eq_true (by omega)
      obtain ⟨b, o, ds, T', fr', hp, hkn, hpt⟩ := hc.get (by intro e; have := hc.1; rw [e] at this; simp at this; omega)
      subst hp
      refine go_region ?_
      refine sq rfl (q_move rfl) ?_
      refine sq rfl (q_move rfl) ?_
      refine sq rfl (q_move rfl) ?_
      refine sq rfl (q_lss rfl rfl) ?_
      rw [hd]
      refine sq rfl (q_move rfl) ?_
      refine sqg rfl rfl (q_move rfl) ?_
      refine sqg rfl rfl (q_move rfl) ?_
      refine sqg rfl rfl (q_move rfl) ?_
      refine sqg rfl rfl (q_indexAddr (j := i) (o' := o + i * 33) rfl rfl Tryz.runUnderlying129 Tryz.sizeOf179 rfl hin rfl) ?_
      refine sqg rfl rfl (q_loadA rfl Tryz.isAgg179 Tryz.sizeOf179 ((hkn.up hle1)) (cells_part hpt hin)) ?_
      refine sqg rfl rfl (q_move rfl) ?_
      refine sng rfl rfl (n_callV (fst := []) rfl rfl rfl hcall (hcmp i hin [] σ1 hle1)) ?_
      rintro _ σ2 _ hle2 ⟨rfl, rfl⟩
      refine sqg rfl rfl (q_eql rfl rfl) ?_
      refine sq rfl (q_pick rfl rfl rfl rfl) ?_
      refine sq rfl (q_assign rfl) ?_
      refine sq rfl (q_assign rfl) ?_
      refine gol_nil ?_
      refine go_ret Tryz.func161 Tryz.results161 rfl rfl rfl (by repeat (first | exact Sto.le_refl _ | assumption | refine Sto.le_trans ?_ (by assumption))) ?_
      refine ⟨?_, rfl⟩
      rw [← hbs]
      show Value.tuple #[_, .bool (decide (cf i = 0))] = _
      rw [decide_eq_true hin, Bool.true_and]
      rfl
    ·
      have hd : decide ((i : Int) < (n : Int)) = false := decide_eq_false (by omega)
      refine go_region ?_
      refine sq rfl (q_move rfl) ?_
      refine sq rfl (q_move rfl) ?_
      refine sq rfl (q_move rfl) ?_
      refine sq rfl (q_lss rfl rfl) ?_
      rw [hd]
      refine sq rfl (q_move rfl) ?_
      refine ss rfl rfl ?_
      refine ss rfl rfl ?_
      refine ss rfl rfl ?_
      refine ss rfl rfl ?_
      refine ss rfl rfl ?_
      refine ss rfl rfl ?_
      refine ss rfl rfl ?_
      refine ss rfl rfl ?_
      refine sq rfl (q_pick rfl rfl rfl rfl) ?_
      refine sq rfl (q_assign rfl) ?_
      refine sq rfl (q_assign rfl) ?_
      refine gol_nil ?_
      refine go_ret Tryz.func161 Tryz.results161 rfl rfl rfl (by repeat (first | exact Sto.le_refl _ | assumption | refine Sto.le_trans ?_ (by assumption))) ?_
      refine ⟨?_, rfl⟩
      rw [← hbs, decide_eq_false (show ¬ i < n by omega), Bool.false_and]; rfl
end Go.Eng
