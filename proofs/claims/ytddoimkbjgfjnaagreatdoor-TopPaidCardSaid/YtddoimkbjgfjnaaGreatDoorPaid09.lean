/- A part of the proof of this: Payments and locks of a shard come out as they stand on paper (TopPaid): for every input, with the listed package variables as the program's text lays them, TopPaid answers true and its argument reads as it did. -/
import Derived.Test.YtddoimkbjgfjnaaGreatDoorPaid08
namespace Go.Eng
open Go Go.Proofs
set_option maxRecDepth 20000
theorem go_nd {c : Cx} {todo : List Item} {E : Env} {σ : Sto} {L : SHeap} (h : (L.map (·.1)).Nodup → Go c todo E σ L) : Go c todo E σ L := fun a w hd hr hst => h hst.nodup a w hd hr hst
theorem split_len {l : List Value} {a b : Nat} (h : l.length = a + b) : ∃ x y, l = x ++ y ∧ x.length = a ∧ y.length = b := ⟨l.take a, l.drop a, by simp, by simp; omega, by simp; omega⟩
theorem hf210 : Extern.findNext Tryz.f210 = none := by kernel_rfl
theorem he210 : Extern.find Tryz.f210 = some (Extern.SlicesOverlaps.overlaps #[46, 46] #[4]) := by kernel_rfl
theorem c174 {σ : Sto} {L0 Lp : SHeap} {v : Value} {n i bv : Nat} {cs c1 c2 el : List Value} {T : TypeId} (hown : Own 57 3 v n cs Lp) (hcs : cs = c1 ++ c2) (h1 : c1.length = i * 3) (hel : el.length = 3) (hi : i ≤ n) (hone : el.all oneCell = true) (hone2 : c2.all oneCell = true) (hnb : n < 100000000) : Ctr Tryz.prog 174 #[v, .int .i64 (i : Int), .slice (some ⟨bv, 0, none⟩) 1 1] σ ((bv, .cells el.toArray T (0, 0)) :: (Lp ++ L0)) fun v' σ' L' => ∃ Lp', σ' = σ ∧ L' = Lp' ++ L0 ∧ Own 57 3 v' (n + 1) (c1 ++ (el ++ c2)) Lp' := by
  refine ctr_enter Tryz.func174 rfl Tryz.ntmps174 (by simp) ?_
  refine go_perm (Lp ++ ((bv, .cells el.toArray T (0, 0)) :: L0)) List.perm_middle.symm ?_
  refine go_seq ?_
  refine go_region ?_
  refine sq rfl (q_assign rfl) ?_
  refine gol_nil ?_
  refine go_seq ?_
  cases hown
  ·
    have hi0 : i = 0 := by omega
    subst hi0
    obtain ⟨rfl, rfl⟩ : c1 = [] ∧ c2 = [] := by simpa using hcs.symm
    refine go_region ?_
    refine sq rfl (q_move rfl) ?_
    refine sq rfl (q_move rfl) ?_
    refine sq rfl (q_sliceNil rfl Tryz.runUnderlying46 Tryz.sizeOf57 rfl) ?_
    refine gol_nil ?_
    refine go_seq ?_
    refine go_region ?_
    refine sq rfl (q_move rfl) ?_
    refine sq rfl (q_len rfl Tryz.runUnderlying46) ?_
    refine sq rfl (q_assign rfl) ?_
    refine gol_nil ?_
    refine go_seq ?_
    refine go_seq ?_
    refine go_region ?_
    refine sq rfl (q_move rfl) ?_
    refine sq rfl (q_eql rfl rfl) ?_
    refine gol_nil ?_
    refine go_condF rfl rfl ?_
    refine go_skip ?_
    refine go_seq ?_
    refine go_region ?_
    refine sq rfl (q_move rfl) ?_
    refine sq rfl (q_len rfl Tryz.runUnderlying46) ?_
    refine sq rfl (q_assign rfl) ?_
    refine gol_nil ?_
    refine go_seq ?_
    refine go_seq ?_
    refine go_region ?_
    refine sq rfl (q_move rfl) ?_
    refine sq rfl (q_move rfl) ?_
    refine sq rfl (q_eql rfl rfl) ?_
    refine gol_nil ?_
    refine go_condT rfl rfl ?_
    refine go_seq ?_
    refine go_region ?_
    refine sq rfl (q_move rfl) ?_
    refine sq rfl (q_move rfl) ?_
    refine sn rfl (n_append (n := 0) (m := 1) (Lp := []) (L0 := _) rfl rfl Tryz.runUnderlying46 Tryz.sizeOf57 Tryz.typeInfo57 rfl Tryz.zeroValue57 rfl Tryz.runUnderlying46 .nil (.new .hd (by omega)) hone (by decide)) ?_
    rintro v2 σ _ - ⟨Lp', rfl, rfl, hown'⟩
    refine sq rfl (q_assign rfl) ?_
    refine gol_nil ?_
    refine go_out ?_
    refine go_ret Tryz.func174 Tryz.results174 rfl rfl rfl (by repeat (first | exact Sto.le_refl _ | assumption | refine Sto.le_trans ?_ (by assumption))) ?_
    exact ⟨Lp', rfl, rfl, by show Own _ _ v2 _ _ _; simpa using hown'⟩
  ·
    rename_i b c junk hc hn
    subst hcs
    refine go_nd fun hnd => ?_
    simp only [List.cons_append, List.nil_append, List.map_cons, List.nodup_cons, List.mem_cons, not_or] at hnd
    have hnc : n ≤ c := by simp only [List.length_append] at hc hn; omega
    have hl2 : c2.length = (n - i) * 3 := by rw [List.length_append] at hn; omega
    refine go_region ?_
    refine sq rfl (q_move rfl) ?_
    refine sq rfl (q_move rfl) ?_
    refine sq rfl (q_slice (n := n) (cap := c) (l := i) (h := n) rfl Tryz.runUnderlying46 Tryz.sizeOf57 rfl rfl rfl rfl (by omega) hnc rfl) ?_
    refine gol_nil ?_
    refine go_seq ?_
    refine go_region ?_
    refine sq rfl (q_move rfl) ?_
    refine sq rfl (q_len rfl Tryz.runUnderlying46) ?_
    refine sq rfl (q_assign rfl) ?_
    refine gol_nil ?_
    refine go_seq ?_
    refine go_seq ?_
    refine go_region ?_
    refine sq rfl (q_move rfl) ?_
    refine sq rfl (q_eql rfl rfl) ?_
    refine gol_nil ?_
    refine go_condF rfl rfl ?_
    refine go_skip ?_
    refine go_seq ?_
    refine go_region ?_
    refine sq rfl (q_move rfl) ?_
    refine sq rfl (q_len rfl Tryz.runUnderlying46) ?_
    refine sq rfl (q_assign rfl) ?_
    refine gol_nil ?_
    refine go_seq ?_
    refine go_seq ?_
    refine go_region ?_
    refine sq rfl (q_move rfl) ?_
    refine sq rfl (q_move rfl) ?_
    refine sq rfl (q_eql rfl rfl) ?_
    refine gol_nil ?_
    refine go_cond rfl rfl (fun hc1 => ?_) (fun hc1 => ?_)
    ·
      have hin : i = n := by have := of_decide_eq_true hc1; omega
      subst hin
      refine go_seq ?_
      refine go_region ?_
      refine sq rfl (q_move rfl) ?_
      refine sq rfl (q_move rfl) ?_
      refine sn rfl (n_append (n := i) (m := 1) (Lp := [(b, _)]) (L0 := _) rfl rfl Tryz.runUnderlying46 Tryz.sizeOf57 Tryz.typeInfo57 rfl Tryz.zeroValue57 rfl Tryz.runUnderlying46 (.mk hn hc) (.new (.inr (.tail _ (.head _))) (by omega)) hone (by show (2 * (i + 1) + 1000) * 24 ≤ _; omega)) ?_
      rintro v2 σ _ - ⟨Lp', rfl, rfl, hown'⟩
      refine sq rfl (q_assign rfl) ?_
      refine gol_nil ?_
      refine go_out ?_
      refine go_ret Tryz.func174 Tryz.results174 rfl rfl rfl (by repeat (first | exact Sto.le_refl _ | assumption | refine Sto.le_trans ?_ (by assumption))) ?_
      refine ⟨Lp', rfl, rfl, ?_⟩
      have h2 : c2 = [] := List.eq_nil_of_length_eq_zero (by rw [List.length_append] at hn; omega)
      subst h2
      show Own _ _ v2 _ _ _
      simpa using hown'
    ·
      have hlt : i < n := by have := of_decide_eq_false hc1; omega
      refine go_skip ?_
      refine go_seq ?_
      refine go_seq ?_
      refine go_region ?_
      refine sq rfl (q_move rfl) ?_
      refine sq rfl (q_move rfl) ?_
      refine sq rfl (q_add rfl rfl (i64_in (by omega) (by omega))) ?_
      refine sq rfl (q_move rfl) ?_
      refine sq rfl (q_cap rfl Tryz.runUnderlying46) ?_
      refine sq rfl (q_gtr rfl rfl) ?_
      refine gol_nil ?_
      refine go_cond rfl rfl (fun hc2 => ?_) (fun hc2 => ?_)
      ·
        have hgt : c < n + 1 := by have := of_decide_eq_true hc2; omega
        refine go_seq ?_
        refine go_region ?_
        refine sq rfl (q_move rfl) ?_
        refine sq rfl (q_move rfl) ?_
        refine sq rfl (q_slice (n := n) (cap := c) (l := 0) (h := i) (a' := ⟨b, 0, none⟩) rfl Tryz.runUnderlying46 Tryz.sizeOf57 rfl rfl rfl rfl (by omega) (by omega) (by split <;> simp)) ?_
        refine sq rfl (q_move rfl) ?_
        refine sq rfl (q_move rfl) ?_
        refine sq rfl (q_add rfl rfl (i64_in (by omega) (by omega))) ?_
        refine sq rfl (q_move rfl) ?_
        refine sq rfl (q_sub (c := ((n + 1 - i : Nat) : Int)) rfl rfl (by rw [i64_in (by omega) (by omega)]; omega)) ?_
        refine sn rfl (n_appendMake (n := i) (m := n + 1 - i) (c := c) (cs := c1) (b := b) (ds := c1 ++ c2 ++ junk) rfl rfl Tryz.runUnderlying46 Tryz.sizeOf57 Tryz.typeInfo57 rfl Tryz.zeroValue57 rfl Tryz.runUnderlying3 .hd (by rw [← h1, List.append_assoc]; exact Part.mk (a := []) rfl rfl) (by omega) (by show (2 * (i + (n + 1 - i)) + 1000) * 24 ≤ _; omega) (by omega) (N := n + 1) (by omega) rfl) ?_
        rintro _ σ _ - ⟨b', c', zs, junk', rfl, rfl, rfl, hzl, hcl, hcc⟩
        obtain ⟨z1, z2, rfl, hz1, hz2⟩ := split_len (l := zs) (a := 3) (b := (n - i) * 3) (by rw [hzl]; omega)
        refine sq rfl (q_assign rfl) ?_
        refine gol_nil ?_
        refine go_seq ?_
        refine go_region ?_
        refine sq rfl (q_move rfl) ?_
        refine sq rfl (q_move rfl) ?_
        refine sq rfl (q_slice (n := n + 1) (cap := c') (l := i) (h := n + 1) (a' := ⟨b', i * 3, none⟩) rfl Tryz.runUnderlying46 Tryz.sizeOf57 rfl rfl rfl rfl (by omega) (by omega) (by rw [if_neg (by omega)]; simp)) ?_
        refine sq rfl (q_move rfl) ?_
        refine sn rfl (n_copy (n := 1) (sz := 3) (cs' := c1 ++ (el ++ (z2 ++ junk'))) rfl rfl Tryz.runUnderlying46 Tryz.sizeOf57 (Nat.min_eq_left (by omega)) (.new (.tl (.tl .hd)) (by omega)) hone .hd ⟨c1, z1, z2 ++ junk', by simp, rfl, h1, by omega⟩) ?_
        rintro v4 σ4 L4 hle4 ⟨rfl, rfl, rfl⟩
        refine gol_nil ?_
        refine go_seq ?_
        refine go_draws (n := 95) _ mix rfl (by decide +kernel) (Keep.refl _) ?_
        refine dq 0 rfl rfl rfl rfl (q_move rfl) ?_
        refine dq 1 rfl rfl rfl rfl (q_move rfl) ?_
        refine dq 2 rfl rfl rfl rfl (q_move rfl) ?_
        refine dq 3 rfl rfl rfl rfl (q_add rfl rfl (i64_in (by omega) (by omega))) ?_
        refine dq 4 rfl rfl rfl rfl (q_slice (n := n + 1) (cap := c') (l := i + 1) (h := n + 1) (a' := ⟨b', (i + 1) * 3, none⟩) rfl Tryz.runUnderlying46 Tryz.sizeOf57 rfl rfl rfl rfl (by omega) (by omega) (by rw [if_neg (by omega)]; simp)) ?_
        refine dq 5 rfl rfl rfl rfl (q_move rfl) ?_
        refine dq 6 rfl rfl rfl rfl (q_move rfl) ?_
        refine dq 7 rfl rfl rfl rfl (q_slice (n := n) (cap := c) (l := i) (h := n) (a' := ⟨b, i * 3, none⟩) rfl Tryz.runUnderlying46 Tryz.sizeOf57 rfl rfl rfl rfl (by omega) (by omega) (by first | (rw [if_neg (by omega)]; simp) | skip)) ?_
        refine dna 8 rfl rfl rfl rfl (by decide +kernel) (by decide +kernel) (n_copy (n := n - i) (sz := 3) (new := c2) (cs' := c1 ++ (el ++ c2) ++ junk') rfl rfl Tryz.runUnderlying46 Tryz.sizeOf57 (Nat.min_eq_left (by omega)) ⟨hl2, _, _, _, rfl, Nat.le_refl _, .inr ⟨b, i * 3, _, _, _, rfl, .tl .hd, by rw [List.append_assoc]; exact Part.mk h1 hl2⟩⟩ hone2 .hd ⟨c1 ++ el, z2, junk', by simp, by simp, by simp only [List.length_append]; omega, by omega⟩) ?_
        rintro _ σ _ - ⟨rfl, rfl, rfl⟩
        refine dend rfl ?_
        refine go_seq ?_
        refine go_region ?_
        refine sq rfl (q_move rfl) ?_
        refine sq rfl (q_assign rfl) ?_
        refine gol_nil ?_
        refine go_drop ((b', _) :: L0) (.cons_cons _ (.cons _ (.cons _ (List.Sublist.refl _)))) ?_
        refine go_ret Tryz.func174 Tryz.results174 rfl rfl rfl (by repeat (first | exact Sto.le_refl _ | assumption | refine Sto.le_trans ?_ (by assumption))) ?_
        exact ⟨[(b', _)], rfl, rfl, .mk (cs := c1 ++ (el ++ c2)) (junk := junk') (by simp only [List.length_append]; omega) (by simp only [List.length_append] at hcl ⊢; omega)⟩
      ·
        have hle : n + 1 ≤ c := by have := of_decide_eq_false hc2; omega
        obtain ⟨d1, d2, rfl, hd1, hd2⟩ := split_len (l := c2) (a := 3) (b := (n - i - 1) * 3) (by omega)
        obtain ⟨j1, j2, rfl, hj1, hj2⟩ := split_len (l := junk) (a := 3) (b := (c - n - 1) * 3) (by simp only [List.length_append] at hc hl2; omega)
        refine go_skip ?_
        refine go_seq ?_
        refine go_region ?_
        refine sq rfl (q_move rfl) ?_
        refine sq rfl (q_move rfl) ?_
        refine sq rfl (q_move rfl) ?_
        refine sq rfl (q_add rfl rfl (i64_in (by omega) (by omega))) ?_
        refine sq rfl (q_slice (n := n) (cap := c) (l := 0) (h := n + 1) (a' := ⟨b, 0, none⟩) rfl Tryz.runUnderlying46 Tryz.sizeOf57 rfl rfl rfl rfl (by omega) (by omega) (by split <;> simp)) ?_
        refine sq rfl (q_assign rfl) ?_
        refine gol_nil ?_
        refine go_seq ?_
        refine go_seq ?_
        refine go_region ?_
        refine sq rfl (q_move rfl) ?_
        refine sq rfl (q_move rfl) ?_
        refine sq rfl (q_move rfl) ?_
        refine sq rfl (q_move rfl) ?_
        refine sq rfl (q_add rfl rfl (i64_in (by omega) (by omega))) ?_
        refine sq rfl (q_slice (n := n + 1) (cap := c) (l := i + 1) (h := n + 1) (a' := ⟨b, (i + 1) * 3, none⟩) rfl Tryz.runUnderlying46 Tryz.sizeOf57 rfl rfl rfl rfl (by omega) (by omega) (by rw [if_neg (by omega)]; simp)) ?_
        refine sq rfl (q_overlaps (b := bv) (b' := b) Tryz.func210 rfl rfl hf210 he210 Tryz.underlying46 Tryz.sizeOf57 rfl rfl (fun e => hnd.1.1 e.symm) (.tl .hd) .hd (by simp only [List.size_toArray, List.length_append]; omega)) ?_
        refine sq rfl (q_not rfl) ?_
        refine gol_nil ?_
        refine go_condT rfl rfl ?_
        refine go_seq ?_
        refine go_draws (n := 95) _ mix rfl (by decide +kernel) (Keep.refl _) ?_
        refine dq 0 rfl rfl rfl rfl (q_move rfl) ?_
        refine dq 1 rfl rfl rfl rfl (q_move rfl) ?_
        refine dq 2 rfl rfl rfl rfl (q_move rfl) ?_
        refine dq 3 rfl rfl rfl rfl (q_add rfl rfl (i64_in (by omega) (by omega))) ?_
        refine dq 4 rfl rfl rfl rfl (q_slice (n := n + 1) (cap := c) (l := i + 1) (h := n + 1) (a' := ⟨b, (i + 1) * 3, none⟩) rfl Tryz.runUnderlying46 Tryz.sizeOf57 rfl rfl rfl rfl (by omega) (by omega) (by rw [if_neg (by omega)]; simp)) ?_
        refine dq 5 rfl rfl rfl rfl (q_move rfl) ?_
        refine dq 6 rfl rfl rfl rfl (q_move rfl) ?_
        refine dq 7 rfl rfl rfl rfl (q_slice (n := n + 1) (cap := c) (l := i) (h := n + 1) (a' := ⟨b, i * 3, none⟩) rfl Tryz.runUnderlying46 Tryz.sizeOf57 rfl rfl rfl rfl (by omega) (by omega) (by rw [if_neg (by omega)]; simp)) ?_
        refine dna 8 rfl rfl rfl rfl (by decide +kernel) (by decide +kernel) (n_copy (n := n - i) (sz := 3) (new := d1 ++ d2) (cs' := c1 ++ (d1 ++ (d1 ++ d2)) ++ j2) rfl rfl Tryz.runUnderlying46 Tryz.sizeOf57 (Nat.min_eq_right (by omega) |>.trans (by omega)) ⟨hl2, _, _, _, rfl, by omega, .inr ⟨b, i * 3, _, _, _, rfl, .hd, by rw [List.append_assoc]; exact Part.mk h1 hl2⟩⟩ hone2 .hd ⟨c1 ++ d1, d2 ++ j1, j2, by simp, by simp, by simp only [List.length_append]; omega, by simp only [List.length_append]; omega⟩) ?_
        rintro _ σ _ - ⟨rfl, rfl, rfl⟩
        refine dend rfl ?_
        refine go_seq ?_
        refine go_region ?_
        refine sq rfl (q_move rfl) ?_
        refine sq rfl (q_move rfl) ?_
        refine sq rfl (q_slice (n := n + 1) (cap := c) (l := i) (h := n + 1) (a' := ⟨b, i * 3, none⟩) rfl Tryz.runUnderlying46 Tryz.sizeOf57 rfl rfl rfl rfl (by omega) (by omega) (by rw [if_neg (by omega)]; simp)) ?_
        refine sq rfl (q_move rfl) ?_
        refine sn rfl (n_copy (n := 1) (sz := 3) (cs' := c1 ++ (el ++ (d1 ++ d2)) ++ j2) rfl rfl Tryz.runUnderlying46 Tryz.sizeOf57 (Nat.min_eq_left (by omega)) (.new (.tl .hd) (by omega)) hone .hd ⟨c1, d1, d1 ++ d2 ++ j2, by simp, by simp, h1, by omega⟩) ?_
        rintro _ σ _ - ⟨rfl, rfl, rfl⟩
        refine gol_nil ?_
        refine go_seq ?_
        refine go_region ?_
        refine sq rfl (q_move rfl) ?_
        refine sq rfl (q_assign rfl) ?_
        refine gol_nil ?_
        refine go_drop ((b, _) :: L0) (.cons_cons _ (.cons _ (List.Sublist.refl _))) ?_
        refine go_ret Tryz.func174 Tryz.results174 rfl rfl rfl (by repeat (first | exact Sto.le_refl _ | assumption | refine Sto.le_trans ?_ (by assumption))) ?_
        exact ⟨[(b, _)], rfl, rfl, .mk (cs := c1 ++ (el ++ (d1 ++ d2))) (junk := j2) (by simp only [List.length_append] at hl2 ⊢; omega) (by simp only [List.length_append] at hc hl2 ⊢; omega)⟩
theorem hf215 : Extern.findNext Tryz.f215 = none := by kernel_rfl
theorem he215 : Extern.find Tryz.f215 = some (Extern.SlicesOverlaps.overlaps #[47, 47] #[4]) := by kernel_rfl
theorem c179 {σ : Sto} {L0 Lp : SHeap} {v : Value} {n i bv : Nat} {cs c1 c2 el : List Value} {T : TypeId} (hown : Own 60 38 v n cs Lp) (hcs : cs = c1 ++ c2) (h1 : c1.length = i * 38) (hel : el.length = 38) (hi : i ≤ n) (hone : el.all oneCell = true) (hone2 : c2.all oneCell = true) (hnb : n < 100000000) : Ctr Tryz.prog 179 #[v, .int .i64 (i : Int), .slice (some ⟨bv, 0, none⟩) 1 1] σ ((bv, .cells el.toArray T (0, 0)) :: (Lp ++ L0)) fun v' σ' L' => ∃ Lp', σ' = σ ∧ L' = Lp' ++ L0 ∧ Own 60 38 v' (n + 1) (c1 ++ (el ++ c2)) Lp' := by
  refine ctr_enter Tryz.func179 rfl Tryz.ntmps179 (by simp) ?_
  refine go_perm (Lp ++ ((bv, .cells el.toArray T (0, 0)) :: L0)) List.perm_middle.symm ?_
  refine go_seq ?_
  refine go_region ?_
  refine sq rfl (q_assign rfl) ?_
  refine gol_nil ?_
  refine go_seq ?_
  cases hown
  ·
    have hi0 : i = 0 := by omega
    subst hi0
    obtain ⟨rfl, rfl⟩ : c1 = [] ∧ c2 = [] := by simpa using hcs.symm
    refine go_region ?_
    refine sq rfl (q_move rfl) ?_
    refine sq rfl (q_move rfl) ?_
    refine sq rfl (q_sliceNil rfl Tryz.runUnderlying47 Tryz.sizeOf60 rfl) ?_
    refine gol_nil ?_
    refine go_seq ?_
    refine go_region ?_
    refine sq rfl (q_move rfl) ?_
    refine sq rfl (q_len rfl Tryz.runUnderlying47) ?_
    refine sq rfl (q_assign rfl) ?_
    refine gol_nil ?_
    refine go_seq ?_
    refine go_seq ?_
    refine go_region ?_
    refine sq rfl (q_move rfl) ?_
    refine sq rfl (q_eql rfl rfl) ?_
    refine gol_nil ?_
    refine go_condF rfl rfl ?_
    refine go_skip ?_
    refine go_seq ?_
    refine go_region ?_
    refine sq rfl (q_move rfl) ?_
    refine sq rfl (q_len rfl Tryz.runUnderlying47) ?_
    refine sq rfl (q_assign rfl) ?_
    refine gol_nil ?_
    refine go_seq ?_
    refine go_seq ?_
    refine go_region ?_
    refine sq rfl (q_move rfl) ?_
    refine sq rfl (q_move rfl) ?_
    refine sq rfl (q_eql rfl rfl) ?_
    refine gol_nil ?_
    refine go_condT rfl rfl ?_
    refine go_seq ?_
    refine go_region ?_
    refine sq rfl (q_move rfl) ?_
    refine sq rfl (q_move rfl) ?_
    refine sn rfl (n_append (n := 0) (m := 1) (Lp := []) (L0 := _) rfl rfl Tryz.runUnderlying47 Tryz.sizeOf60 Tryz.typeInfo60 rfl Tryz.zeroValue60 rfl Tryz.runUnderlying47 .nil (.new .hd (by omega)) hone (by decide)) ?_
    rintro v2 σ _ - ⟨Lp', rfl, rfl, hown'⟩
    refine sq rfl (q_assign rfl) ?_
    refine gol_nil ?_
    refine go_out ?_
    refine go_ret Tryz.func179 Tryz.results179 rfl rfl rfl (by repeat (first | exact Sto.le_refl _ | assumption | refine Sto.le_trans ?_ (by assumption))) ?_
    exact ⟨Lp', rfl, rfl, by show Own _ _ v2 _ _ _; simpa using hown'⟩
  ·
    rename_i b c junk hc hn
    subst hcs
    refine go_nd fun hnd => ?_
    simp only [List.cons_append, List.nil_append, List.map_cons, List.nodup_cons, List.mem_cons, not_or] at hnd
    have hnc : n ≤ c := by simp only [List.length_append] at hc hn; omega
    have hl2 : c2.length = (n - i) * 38 := by rw [List.length_append] at hn; omega
    refine go_region ?_
    refine sq rfl (q_move rfl) ?_
    refine sq rfl (q_move rfl) ?_
    refine sq rfl (q_slice (n := n) (cap := c) (l := i) (h := n) rfl Tryz.runUnderlying47 Tryz.sizeOf60 rfl rfl rfl rfl (by omega) hnc rfl) ?_
    refine gol_nil ?_
    refine go_seq ?_
    refine go_region ?_
    refine sq rfl (q_move rfl) ?_
    refine sq rfl (q_len rfl Tryz.runUnderlying47) ?_
    refine sq rfl (q_assign rfl) ?_
    refine gol_nil ?_
    refine go_seq ?_
    refine go_seq ?_
    refine go_region ?_
    refine sq rfl (q_move rfl) ?_
    refine sq rfl (q_eql rfl rfl) ?_
    refine gol_nil ?_
    refine go_condF rfl rfl ?_
    refine go_skip ?_
    refine go_seq ?_
    refine go_region ?_
    refine sq rfl (q_move rfl) ?_
    refine sq rfl (q_len rfl Tryz.runUnderlying47) ?_
    refine sq rfl (q_assign rfl) ?_
    refine gol_nil ?_
    refine go_seq ?_
    refine go_seq ?_
    refine go_region ?_
    refine sq rfl (q_move rfl) ?_
    refine sq rfl (q_move rfl) ?_
    refine sq rfl (q_eql rfl rfl) ?_
    refine gol_nil ?_
    refine go_cond rfl rfl (fun hc1 => ?_) (fun hc1 => ?_)
    ·
      have hin : i = n := by have := of_decide_eq_true hc1; omega
      subst hin
      refine go_seq ?_
      refine go_region ?_
      refine sq rfl (q_move rfl) ?_
      refine sq rfl (q_move rfl) ?_
      refine sn rfl (n_append (n := i) (m := 1) (Lp := [(b, _)]) (L0 := _) rfl rfl Tryz.runUnderlying47 Tryz.sizeOf60 Tryz.typeInfo60 rfl Tryz.zeroValue60 rfl Tryz.runUnderlying47 (.mk hn hc) (.new (.inr (.tail _ (.head _))) (by omega)) hone (by show (2 * (i + 1) + 1000) * 80 ≤ _; omega)) ?_
      rintro v2 σ _ - ⟨Lp', rfl, rfl, hown'⟩
      refine sq rfl (q_assign rfl) ?_
      refine gol_nil ?_
      refine go_out ?_
      refine go_ret Tryz.func179 Tryz.results179 rfl rfl rfl (by repeat (first | exact Sto.le_refl _ | assumption | refine Sto.le_trans ?_ (by assumption))) ?_
      refine ⟨Lp', rfl, rfl, ?_⟩
      have h2 : c2 = [] := List.eq_nil_of_length_eq_zero (by rw [List.length_append] at hn; omega)
      subst h2
      show Own _ _ v2 _ _ _
      simpa using hown'
    ·
      have hlt : i < n := by have := of_decide_eq_false hc1; omega
      refine go_skip ?_
      refine go_seq ?_
      refine go_seq ?_
      refine go_region ?_
      refine sq rfl (q_move rfl) ?_
      refine sq rfl (q_move rfl) ?_
      refine sq rfl (q_add rfl rfl (i64_in (by omega) (by omega))) ?_
      refine sq rfl (q_move rfl) ?_
      refine sq rfl (q_cap rfl Tryz.runUnderlying47) ?_
      refine sq rfl (q_gtr rfl rfl) ?_
      refine gol_nil ?_
      refine go_cond rfl rfl (fun hc2 => ?_) (fun hc2 => ?_)
      ·
        have hgt : c < n + 1 := by have := of_decide_eq_true hc2; omega
        refine go_seq ?_
        refine go_region ?_
        refine sq rfl (q_move rfl) ?_
        refine sq rfl (q_move rfl) ?_
        refine sq rfl (q_slice (n := n) (cap := c) (l := 0) (h := i) (a' := ⟨b, 0, none⟩) rfl Tryz.runUnderlying47 Tryz.sizeOf60 rfl rfl rfl rfl (by omega) (by omega) (by split <;> simp)) ?_
        refine sq rfl (q_move rfl) ?_
        refine sq rfl (q_move rfl) ?_
        refine sq rfl (q_add rfl rfl (i64_in (by omega) (by omega))) ?_
        refine sq rfl (q_move rfl) ?_
        refine sq rfl (q_sub (c := ((n + 1 - i : Nat) : Int)) rfl rfl (by rw [i64_in (by omega) (by omega)]; omega)) ?_
        refine sn rfl (n_appendMake (n := i) (m := n + 1 - i) (c := c) (cs := c1) (b := b) (ds := c1 ++ c2 ++ junk) rfl rfl Tryz.runUnderlying47 Tryz.sizeOf60 Tryz.typeInfo60 rfl Tryz.zeroValue60 rfl Tryz.runUnderlying3 .hd (by rw [← h1, List.append_assoc]; exact Part.mk (a := []) rfl rfl) (by omega) (by show (2 * (i + (n + 1 - i)) + 1000) * 80 ≤ _; omega) (by omega) (N := n + 1) (by omega) rfl) ?_
        rintro _ σ _ - ⟨b', c', zs, junk', rfl, rfl, rfl, hzl, hcl, hcc⟩
        obtain ⟨z1, z2, rfl, hz1, hz2⟩ := split_len (l := zs) (a := 38) (b := (n - i) * 38) (by rw [hzl]; omega)
        refine sq rfl (q_assign rfl) ?_
        refine gol_nil ?_
        refine go_seq ?_
        refine go_region ?_
        refine sq rfl (q_move rfl) ?_
        refine sq rfl (q_move rfl) ?_
        refine sq rfl (q_slice (n := n + 1) (cap := c') (l := i) (h := n + 1) (a' := ⟨b', i * 38, none⟩) rfl Tryz.runUnderlying47 Tryz.sizeOf60 rfl rfl rfl rfl (by omega) (by omega) (by rw [if_neg (by omega)]; simp)) ?_
        refine sq rfl (q_move rfl) ?_
        refine sn rfl (n_copy (n := 1) (sz := 38) (cs' := c1 ++ (el ++ (z2 ++ junk'))) rfl rfl Tryz.runUnderlying47 Tryz.sizeOf60 (Nat.min_eq_left (by omega)) (.new (.tl (.tl .hd)) (by omega)) hone .hd ⟨c1, z1, z2 ++ junk', by simp, rfl, h1, by omega⟩) ?_
        rintro v4 σ4 L4 hle4 ⟨rfl, rfl, rfl⟩
        refine gol_nil ?_
        refine go_seq ?_
        refine go_draws (n := 95) _ mix rfl (by decide +kernel) (Keep.refl _) ?_
        refine dq 0 rfl rfl rfl rfl (q_move rfl) ?_
        refine dq 1 rfl rfl rfl rfl (q_move rfl) ?_
        refine dq 2 rfl rfl rfl rfl (q_move rfl) ?_
        refine dq 3 rfl rfl rfl rfl (q_add rfl rfl (i64_in (by omega) (by omega))) ?_
        refine dq 4 rfl rfl rfl rfl (q_slice (n := n + 1) (cap := c') (l := i + 1) (h := n + 1) (a' := ⟨b', (i + 1) * 38, none⟩) rfl Tryz.runUnderlying47 Tryz.sizeOf60 rfl rfl rfl rfl (by omega) (by omega) (by rw [if_neg (by omega)]; simp)) ?_
        refine dq 5 rfl rfl rfl rfl (q_move rfl) ?_
        refine dq 6 rfl rfl rfl rfl (q_move rfl) ?_
        refine dq 7 rfl rfl rfl rfl (q_slice (n := n) (cap := c) (l := i) (h := n) (a' := ⟨b, i * 38, none⟩) rfl Tryz.runUnderlying47 Tryz.sizeOf60 rfl rfl rfl rfl (by omega) (by omega) (by first | (rw [if_neg (by omega)]; simp) | skip)) ?_
        refine dna 8 rfl rfl rfl rfl (by decide +kernel) (by decide +kernel) (n_copy (n := n - i) (sz := 38) (new := c2) (cs' := c1 ++ (el ++ c2) ++ junk') rfl rfl Tryz.runUnderlying47 Tryz.sizeOf60 (Nat.min_eq_left (by omega)) ⟨hl2, _, _, _, rfl, Nat.le_refl _, .inr ⟨b, i * 38, _, _, _, rfl, .tl .hd, by rw [List.append_assoc]; exact Part.mk h1 hl2⟩⟩ hone2 .hd ⟨c1 ++ el, z2, junk', by simp, by simp, by simp only [List.length_append]; omega, by omega⟩) ?_
        rintro _ σ _ - ⟨rfl, rfl, rfl⟩
        refine dend rfl ?_
        refine go_seq ?_
        refine go_region ?_
        refine sq rfl (q_move rfl) ?_
        refine sq rfl (q_assign rfl) ?_
        refine gol_nil ?_
        refine go_drop ((b', _) :: L0) (.cons_cons _ (.cons _ (.cons _ (List.Sublist.refl _)))) ?_
        refine go_ret Tryz.func179 Tryz.results179 rfl rfl rfl (by repeat (first | exact Sto.le_refl _ | assumption | refine Sto.le_trans ?_ (by assumption))) ?_
        exact ⟨[(b', _)], rfl, rfl, .mk (cs := c1 ++ (el ++ c2)) (junk := junk') (by simp only [List.length_append]; omega) (by simp only [List.length_append] at hcl ⊢; omega)⟩
      ·
        have hle : n + 1 ≤ c := by have := of_decide_eq_false hc2; omega
        obtain ⟨d1, d2, rfl, hd1, hd2⟩ := split_len (l := c2) (a := 38) (b := (n - i - 1) * 38) (by omega)
        obtain ⟨j1, j2, rfl, hj1, hj2⟩ := split_len (l := junk) (a := 38) (b := (c - n - 1) * 38) (by simp only [List.length_append] at hc hl2; omega)
        refine go_skip ?_
        refine go_seq ?_
        refine go_region ?_
        refine sq rfl (q_move rfl) ?_
        refine sq rfl (q_move rfl) ?_
        refine sq rfl (q_move rfl) ?_
        refine sq rfl (q_add rfl rfl (i64_in (by omega) (by omega))) ?_
        refine sq rfl (q_slice (n := n) (cap := c) (l := 0) (h := n + 1) (a' := ⟨b, 0, none⟩) rfl Tryz.runUnderlying47 Tryz.sizeOf60 rfl rfl rfl rfl (by omega) (by omega) (by split <;> simp)) ?_
        refine sq rfl (q_assign rfl) ?_
        refine gol_nil ?_
        refine go_seq ?_
        refine go_seq ?_
        refine go_region ?_
        refine sq rfl (q_move rfl) ?_
        refine sq rfl (q_move rfl) ?_
        refine sq rfl (q_move rfl) ?_
        refine sq rfl (q_move rfl) ?_
        refine sq rfl (q_add rfl rfl (i64_in (by omega) (by omega))) ?_
        refine sq rfl (q_slice (n := n + 1) (cap := c) (l := i + 1) (h := n + 1) (a' := ⟨b, (i + 1) * 38, none⟩) rfl Tryz.runUnderlying47 Tryz.sizeOf60 rfl rfl rfl rfl (by omega) (by omega) (by rw [if_neg (by omega)]; simp)) ?_
        refine sq rfl (q_overlaps (b := bv) (b' := b) Tryz.func215 rfl rfl hf215 he215 Tryz.underlying47 Tryz.sizeOf60 rfl rfl (fun e => hnd.1.1 e.symm) (.tl .hd) .hd (by simp only [List.size_toArray, List.length_append]; omega)) ?_
        refine sq rfl (q_not rfl) ?_
        refine gol_nil ?_
        refine go_condT rfl rfl ?_
        refine go_seq ?_
        refine go_draws (n := 95) _ mix rfl (by decide +kernel) (Keep.refl _) ?_
        refine dq 0 rfl rfl rfl rfl (q_move rfl) ?_
        refine dq 1 rfl rfl rfl rfl (q_move rfl) ?_
        refine dq 2 rfl rfl rfl rfl (q_move rfl) ?_
        refine dq 3 rfl rfl rfl rfl (q_add rfl rfl (i64_in (by omega) (by omega))) ?_
        refine dq 4 rfl rfl rfl rfl (q_slice (n := n + 1) (cap := c) (l := i + 1) (h := n + 1) (a' := ⟨b, (i + 1) * 38, none⟩) rfl Tryz.runUnderlying47 Tryz.sizeOf60 rfl rfl rfl rfl (by omega) (by omega) (by rw [if_neg (by omega)]; simp)) ?_
        refine dq 5 rfl rfl rfl rfl (q_move rfl) ?_
        refine dq 6 rfl rfl rfl rfl (q_move rfl) ?_
        refine dq 7 rfl rfl rfl rfl (q_slice (n := n + 1) (cap := c) (l := i) (h := n + 1) (a' := ⟨b, i * 38, none⟩) rfl Tryz.runUnderlying47 Tryz.sizeOf60 rfl rfl rfl rfl (by omega) (by omega) (by rw [if_neg (by omega)]; simp)) ?_
        refine dna 8 rfl rfl rfl rfl (by decide +kernel) (by decide +kernel) (n_copy (n := n - i) (sz := 38) (new := d1 ++ d2) (cs' := c1 ++ (d1 ++ (d1 ++ d2)) ++ j2) rfl rfl Tryz.runUnderlying47 Tryz.sizeOf60 (Nat.min_eq_right (by omega) |>.trans (by omega)) ⟨hl2, _, _, _, rfl, by omega, .inr ⟨b, i * 38, _, _, _, rfl, .hd, by rw [List.append_assoc]; exact Part.mk h1 hl2⟩⟩ hone2 .hd ⟨c1 ++ d1, d2 ++ j1, j2, by simp, by simp, by simp only [List.length_append]; omega, by simp only [List.length_append]; omega⟩) ?_
        rintro _ σ _ - ⟨rfl, rfl, rfl⟩
        refine dend rfl ?_
        refine go_seq ?_
        refine go_region ?_
        refine sq rfl (q_move rfl) ?_
        refine sq rfl (q_move rfl) ?_
        refine sq rfl (q_slice (n := n + 1) (cap := c) (l := i) (h := n + 1) (a' := ⟨b, i * 38, none⟩) rfl Tryz.runUnderlying47 Tryz.sizeOf60 rfl rfl rfl rfl (by omega) (by omega) (by rw [if_neg (by omega)]; simp)) ?_
        refine sq rfl (q_move rfl) ?_
        refine sn rfl (n_copy (n := 1) (sz := 38) (cs' := c1 ++ (el ++ (d1 ++ d2)) ++ j2) rfl rfl Tryz.runUnderlying47 Tryz.sizeOf60 (Nat.min_eq_left (by omega)) (.new (.tl .hd) (by omega)) hone .hd ⟨c1, d1, d1 ++ d2 ++ j2, by simp, by simp, h1, by omega⟩) ?_
        rintro _ σ _ - ⟨rfl, rfl, rfl⟩
        refine gol_nil ?_
        refine go_seq ?_
        refine go_region ?_
        refine sq rfl (q_move rfl) ?_
        refine sq rfl (q_assign rfl) ?_
        refine gol_nil ?_
        refine go_drop ((b, _) :: L0) (.cons_cons _ (.cons _ (List.Sublist.refl _))) ?_
        refine go_ret Tryz.func179 Tryz.results179 rfl rfl rfl (by repeat (first | exact Sto.le_refl _ | assumption | refine Sto.le_trans ?_ (by assumption))) ?_
        exact ⟨[(b, _)], rfl, rfl, .mk (cs := c1 ++ (el ++ (d1 ++ d2))) (junk := j2) (by simp only [List.length_append] at hl2 ⊢; omega) (by simp only [List.length_append] at hc hl2 ⊢; omega)⟩
theorem hf220 : Extern.findNext Tryz.f220 = none := by kernel_rfl
theorem he220 : Extern.find Tryz.f220 = some (Extern.SlicesOverlaps.overlaps #[48, 48] #[4]) := by kernel_rfl
theorem c184 {σ : Sto} {L0 Lp : SHeap} {v : Value} {n i bv : Nat} {cs c1 c2 el : List Value} {T : TypeId} (hown : Own 27 32 v n cs Lp) (hcs : cs = c1 ++ c2) (h1 : c1.length = i * 32) (hel : el.length = 32) (hi : i ≤ n) (hone : el.all oneCell = true) (hone2 : c2.all oneCell = true) (hnb : n < 100000000) : Ctr Tryz.prog 184 #[v, .int .i64 (i : Int), .slice (some ⟨bv, 0, none⟩) 1 1] σ ((bv, .cells el.toArray T (0, 0)) :: (Lp ++ L0)) fun v' σ' L' => ∃ Lp', σ' = σ ∧ L' = Lp' ++ L0 ∧ Own 27 32 v' (n + 1) (c1 ++ (el ++ c2)) Lp' := by
  refine ctr_enter Tryz.func184 rfl Tryz.ntmps184 (by simp) ?_
  refine go_perm (Lp ++ ((bv, .cells el.toArray T (0, 0)) :: L0)) List.perm_middle.symm ?_
  refine go_seq ?_
  refine go_region ?_
  refine sq rfl (q_assign rfl) ?_
  refine gol_nil ?_
  refine go_seq ?_
  cases hown
  ·
    have hi0 : i = 0 := by omega
    subst hi0
    obtain ⟨rfl, rfl⟩ : c1 = [] ∧ c2 = [] := by simpa using hcs.symm
    refine go_region ?_
    refine sq rfl (q_move rfl) ?_
    refine sq rfl (q_move rfl) ?_
    refine sq rfl (q_sliceNil rfl Tryz.runUnderlying48 Tryz.sizeOf27 rfl) ?_
    refine gol_nil ?_
    refine go_seq ?_
    refine go_region ?_
    refine sq rfl (q_move rfl) ?_
    refine sq rfl (q_len rfl Tryz.runUnderlying48) ?_
    refine sq rfl (q_assign rfl) ?_
    refine gol_nil ?_
    refine go_seq ?_
    refine go_seq ?_
    refine go_region ?_
    refine sq rfl (q_move rfl) ?_
    refine sq rfl (q_eql rfl rfl) ?_
    refine gol_nil ?_
    refine go_condF rfl rfl ?_
    refine go_skip ?_
    refine go_seq ?_
    refine go_region ?_
    refine sq rfl (q_move rfl) ?_
    refine sq rfl (q_len rfl Tryz.runUnderlying48) ?_
    refine sq rfl (q_assign rfl) ?_
    refine gol_nil ?_
    refine go_seq ?_
    refine go_seq ?_
    refine go_region ?_
    refine sq rfl (q_move rfl) ?_
    refine sq rfl (q_move rfl) ?_
    refine sq rfl (q_eql rfl rfl) ?_
    refine gol_nil ?_
    refine go_condT rfl rfl ?_
    refine go_seq ?_
    refine go_region ?_
    refine sq rfl (q_move rfl) ?_
    refine sq rfl (q_move rfl) ?_
    refine sn rfl (n_append (n := 0) (m := 1) (Lp := []) (L0 := _) rfl rfl Tryz.runUnderlying48 Tryz.sizeOf27 Tryz.typeInfo27 rfl Tryz.zeroValue27 rfl Tryz.runUnderlying48 .nil (.new .hd (by omega)) hone (by decide)) ?_
    rintro v2 σ _ - ⟨Lp', rfl, rfl, hown'⟩
    refine sq rfl (q_assign rfl) ?_
    refine gol_nil ?_
    refine go_out ?_
    refine go_ret Tryz.func184 Tryz.results184 rfl rfl rfl (by repeat (first | exact Sto.le_refl _ | assumption | refine Sto.le_trans ?_ (by assumption))) ?_
    exact ⟨Lp', rfl, rfl, by show Own _ _ v2 _ _ _; simpa using hown'⟩
  ·
    rename_i b c junk hc hn
    subst hcs
    refine go_nd fun hnd => ?_
    simp only [List.cons_append, List.nil_append, List.map_cons, List.nodup_cons, List.mem_cons, not_or] at hnd
    have hnc : n ≤ c := by simp only [List.length_append] at hc hn; omega
    have hl2 : c2.length = (n - i) * 32 := by rw [List.length_append] at hn; omega
    refine go_region ?_
    refine sq rfl (q_move rfl) ?_
    refine sq rfl (q_move rfl) ?_
    refine sq rfl (q_slice (n := n) (cap := c) (l := i) (h := n) rfl Tryz.runUnderlying48 Tryz.sizeOf27 rfl rfl rfl rfl (by omega) hnc rfl) ?_
    refine gol_nil ?_
    refine go_seq ?_
    refine go_region ?_
    refine sq rfl (q_move rfl) ?_
    refine sq rfl (q_len rfl Tryz.runUnderlying48) ?_
    refine sq rfl (q_assign rfl) ?_
    refine gol_nil ?_
    refine go_seq ?_
    refine go_seq ?_
    refine go_region ?_
    refine sq rfl (q_move rfl) ?_
    refine sq rfl (q_eql rfl rfl) ?_
    refine gol_nil ?_
    refine go_condF rfl rfl ?_
    refine go_skip ?_
    refine go_seq ?_
    refine go_region ?_
    refine sq rfl (q_move rfl) ?_
    refine sq rfl (q_len rfl Tryz.runUnderlying48) ?_
    refine sq rfl (q_assign rfl) ?_
    refine gol_nil ?_
    refine go_seq ?_
    refine go_seq ?_
    refine go_region ?_
    refine sq rfl (q_move rfl) ?_
    refine sq rfl (q_move rfl) ?_
    refine sq rfl (q_eql rfl rfl) ?_
    refine gol_nil ?_
    refine go_cond rfl rfl (fun hc1 => ?_) (fun hc1 => ?_)
    ·
      have hin : i = n := by have := of_decide_eq_true hc1; omega
      subst hin
      refine go_seq ?_
      refine go_region ?_
      refine sq rfl (q_move rfl) ?_
      refine sq rfl (q_move rfl) ?_
      refine sn rfl (n_append (n := i) (m := 1) (Lp := [(b, _)]) (L0 := _) rfl rfl Tryz.runUnderlying48 Tryz.sizeOf27 Tryz.typeInfo27 rfl Tryz.zeroValue27 rfl Tryz.runUnderlying48 (.mk hn hc) (.new (.inr (.tail _ (.head _))) (by omega)) hone (by show (2 * (i + 1) + 1000) * 32 ≤ _; omega)) ?_
      rintro v2 σ _ - ⟨Lp', rfl, rfl, hown'⟩
      refine sq rfl (q_assign rfl) ?_
      refine gol_nil ?_
      refine go_out ?_
      refine go_ret Tryz.func184 Tryz.results184 rfl rfl rfl (by repeat (first | exact Sto.le_refl _ | assumption | refine Sto.le_trans ?_ (by assumption))) ?_
      refine ⟨Lp', rfl, rfl, ?_⟩
      have h2 : c2 = [] := List.eq_nil_of_length_eq_zero (by rw [List.length_append] at hn; omega)
      subst h2
      show Own _ _ v2 _ _ _
      simpa using hown'
    ·
      have hlt : i < n := by have := of_decide_eq_false hc1; omega
      refine go_skip ?_
      refine go_seq ?_
      refine go_seq ?_
      refine go_region ?_
      refine sq rfl (q_move rfl) ?_
      refine sq rfl (q_move rfl) ?_
      refine sq rfl (q_add rfl rfl (i64_in (by omega) (by omega))) ?_
      refine sq rfl (q_move rfl) ?_
      refine sq rfl (q_cap rfl Tryz.runUnderlying48) ?_
      refine sq rfl (q_gtr rfl rfl) ?_
      refine gol_nil ?_
      refine go_cond rfl rfl (fun hc2 => ?_) (fun hc2 => ?_)
      ·
        have hgt : c < n + 1 := by have := of_decide_eq_true hc2; omega
        refine go_seq ?_
        refine go_region ?_
        refine sq rfl (q_move rfl) ?_
        refine sq rfl (q_move rfl) ?_
        refine sq rfl (q_slice (n := n) (cap := c) (l := 0) (h := i) (a' := ⟨b, 0, none⟩) rfl Tryz.runUnderlying48 Tryz.sizeOf27 rfl rfl rfl rfl (by omega) (by omega) (by split <;> simp)) ?_
        refine sq rfl (q_move rfl) ?_
        refine sq rfl (q_move rfl) ?_
        refine sq rfl (q_add rfl rfl (i64_in (by omega) (by omega))) ?_
        refine sq rfl (q_move rfl) ?_
        refine sq rfl (q_sub (c := ((n + 1 - i : Nat) : Int)) rfl rfl (by rw [i64_in (by omega) (by omega)]; omega)) ?_
        refine sn rfl (n_appendMake (n := i) (m := n + 1 - i) (c := c) (cs := c1) (b := b) (ds := c1 ++ c2 ++ junk) rfl rfl Tryz.runUnderlying48 Tryz.sizeOf27 Tryz.typeInfo27 rfl Tryz.zeroValue27 rfl Tryz.runUnderlying3 .hd (by rw [← h1, List.append_assoc]; exact Part.mk (a := []) rfl rfl) (by omega) (by show (2 * (i + (n + 1 - i)) + 1000) * 32 ≤ _; omega) (by omega) (N := n + 1) (by omega) rfl) ?_
        rintro _ σ _ - ⟨b', c', zs, junk', rfl, rfl, rfl, hzl, hcl, hcc⟩
        obtain ⟨z1, z2, rfl, hz1, hz2⟩ := split_len (l := zs) (a := 32) (b := (n - i) * 32) (by rw [hzl]; omega)
        refine sq rfl (q_assign rfl) ?_
        refine gol_nil ?_
        refine go_seq ?_
        refine go_region ?_
        refine sq rfl (q_move rfl) ?_
        refine sq rfl (q_move rfl) ?_
        refine sq rfl (q_slice (n := n + 1) (cap := c') (l := i) (h := n + 1) (a' := ⟨b', i * 32, none⟩) rfl Tryz.runUnderlying48 Tryz.sizeOf27 rfl rfl rfl rfl (by omega) (by omega) (by rw [if_neg (by omega)]; simp)) ?_
        refine sq rfl (q_move rfl) ?_
        refine sn rfl (n_copy (n := 1) (sz := 32) (cs' := c1 ++ (el ++ (z2 ++ junk'))) rfl rfl Tryz.runUnderlying48 Tryz.sizeOf27 (Nat.min_eq_left (by omega)) (.new (.tl (.tl .hd)) (by omega)) hone .hd ⟨c1, z1, z2 ++ junk', by simp, rfl, h1, by omega⟩) ?_
        rintro v4 σ4 L4 hle4 ⟨rfl, rfl, rfl⟩
        refine gol_nil ?_
        refine go_seq ?_
        refine go_draws (n := 95) _ mix rfl (by decide +kernel) (Keep.refl _) ?_
        refine dq 0 rfl rfl rfl rfl (q_move rfl) ?_
        refine dq 1 rfl rfl rfl rfl (q_move rfl) ?_
        refine dq 2 rfl rfl rfl rfl (q_move rfl) ?_
        refine dq 3 rfl rfl rfl rfl (q_add rfl rfl (i64_in (by omega) (by omega))) ?_
        refine dq 4 rfl rfl rfl rfl (q_slice (n := n + 1) (cap := c') (l := i + 1) (h := n + 1) (a' := ⟨b', (i + 1) * 32, none⟩) rfl Tryz.runUnderlying48 Tryz.sizeOf27 rfl rfl rfl rfl (by omega) (by omega) (by rw [if_neg (by omega)]; simp)) ?_
        refine dq 5 rfl rfl rfl rfl (q_move rfl) ?_
        refine dq 6 rfl rfl rfl rfl (q_move rfl) ?_
        refine dq 7 rfl rfl rfl rfl (q_slice (n := n) (cap := c) (l := i) (h := n) (a' := ⟨b, i * 32, none⟩) rfl Tryz.runUnderlying48 Tryz.sizeOf27 rfl rfl rfl rfl (by omega) (by omega) (by first | (rw [if_neg (by omega)]; simp) | skip)) ?_
        refine dna 8 rfl rfl rfl rfl (by decide +kernel) (by decide +kernel) (n_copy (n := n - i) (sz := 32) (new := c2) (cs' := c1 ++ (el ++ c2) ++ junk') rfl rfl Tryz.runUnderlying48 Tryz.sizeOf27 (Nat.min_eq_left (by omega)) ⟨hl2, _, _, _, rfl, Nat.le_refl _, .inr ⟨b, i * 32, _, _, _, rfl, .tl .hd, by rw [List.append_assoc]; exact Part.mk h1 hl2⟩⟩ hone2 .hd ⟨c1 ++ el, z2, junk', by simp, by simp, by simp only [List.length_append]; omega, by omega⟩) ?_
        rintro _ σ _ - ⟨rfl, rfl, rfl⟩
        refine dend rfl ?_
        refine go_seq ?_
        refine go_region ?_
        refine sq rfl (q_move rfl) ?_
        refine sq rfl (q_assign rfl) ?_
        refine gol_nil ?_
        refine go_drop ((b', _) :: L0) (.cons_cons _ (.cons _ (.cons _ (List.Sublist.refl _)))) ?_
        refine go_ret Tryz.func184 Tryz.results184 rfl rfl rfl (by repeat (first | exact Sto.le_refl _ | assumption | refine Sto.le_trans ?_ (by assumption))) ?_
        exact ⟨[(b', _)], rfl, rfl, .mk (cs := c1 ++ (el ++ c2)) (junk := junk') (by simp only [List.length_append]; omega) (by simp only [List.length_append] at hcl ⊢; omega)⟩
      ·
        have hle : n + 1 ≤ c := by have := of_decide_eq_false hc2; omega
        obtain ⟨d1, d2, rfl, hd1, hd2⟩ := split_len (l := c2) (a := 32) (b := (n - i - 1) * 32) (by omega)
        obtain ⟨j1, j2, rfl, hj1, hj2⟩ := split_len (l := junk) (a := 32) (b := (c - n - 1) * 32) (by simp only [List.length_append] at hc hl2; omega)
        refine go_skip ?_
        refine go_seq ?_
        refine go_region ?_
        refine sq rfl (q_move rfl) ?_
        refine sq rfl (q_move rfl) ?_
        refine sq rfl (q_move rfl) ?_
        refine sq rfl (q_add rfl rfl (i64_in (by omega) (by omega))) ?_
        refine sq rfl (q_slice (n := n) (cap := c) (l := 0) (h := n + 1) (a' := ⟨b, 0, none⟩) rfl Tryz.runUnderlying48 Tryz.sizeOf27 rfl rfl rfl rfl (by omega) (by omega) (by split <;> simp)) ?_
        refine sq rfl (q_assign rfl) ?_
        refine gol_nil ?_
        refine go_seq ?_
        refine go_seq ?_
        refine go_region ?_
        refine sq rfl (q_move rfl) ?_
        refine sq rfl (q_move rfl) ?_
        refine sq rfl (q_move rfl) ?_
        refine sq rfl (q_move rfl) ?_
        refine sq rfl (q_add rfl rfl (i64_in (by omega) (by omega))) ?_
        refine sq rfl (q_slice (n := n + 1) (cap := c) (l := i + 1) (h := n + 1) (a' := ⟨b, (i + 1) * 32, none⟩) rfl Tryz.runUnderlying48 Tryz.sizeOf27 rfl rfl rfl rfl (by omega) (by omega) (by rw [if_neg (by omega)]; simp)) ?_
        refine sq rfl (q_overlaps (b := bv) (b' := b) Tryz.func220 rfl rfl hf220 he220 Tryz.underlying48 Tryz.sizeOf27 rfl rfl (fun e => hnd.1.1 e.symm) (.tl .hd) .hd (by simp only [List.size_toArray, List.length_append]; omega)) ?_
        refine sq rfl (q_not rfl) ?_
        refine gol_nil ?_
        refine go_condT rfl rfl ?_
        refine go_seq ?_
        refine go_draws (n := 95) _ mix rfl (by decide +kernel) (Keep.refl _) ?_
        refine dq 0 rfl rfl rfl rfl (q_move rfl) ?_
        refine dq 1 rfl rfl rfl rfl (q_move rfl) ?_
        refine dq 2 rfl rfl rfl rfl (q_move rfl) ?_
        refine dq 3 rfl rfl rfl rfl (q_add rfl rfl (i64_in (by omega) (by omega))) ?_
        refine dq 4 rfl rfl rfl rfl (q_slice (n := n + 1) (cap := c) (l := i + 1) (h := n + 1) (a' := ⟨b, (i + 1) * 32, none⟩) rfl Tryz.runUnderlying48 Tryz.sizeOf27 rfl rfl rfl rfl (by omega) (by omega) (by rw [if_neg (by omega)]; simp)) ?_
        refine dq 5 rfl rfl rfl rfl (q_move rfl) ?_
        refine dq 6 rfl rfl rfl rfl (q_move rfl) ?_
        refine dq 7 rfl rfl rfl rfl (q_slice (n := n + 1) (cap := c) (l := i) (h := n + 1) (a' := ⟨b, i * 32, none⟩) rfl Tryz.runUnderlying48 Tryz.sizeOf27 rfl rfl rfl rfl (by omega) (by omega) (by rw [if_neg (by omega)]; simp)) ?_
        refine dna 8 rfl rfl rfl rfl (by decide +kernel) (by decide +kernel) (n_copy (n := n - i) (sz := 32) (new := d1 ++ d2) (cs' := c1 ++ (d1 ++ (d1 ++ d2)) ++ j2) rfl rfl Tryz.runUnderlying48 Tryz.sizeOf27 (Nat.min_eq_right (by omega) |>.trans (by omega)) ⟨hl2, _, _, _, rfl, by omega, .inr ⟨b, i * 32, _, _, _, rfl, .hd, by rw [List.append_assoc]; exact Part.mk h1 hl2⟩⟩ hone2 .hd ⟨c1 ++ d1, d2 ++ j1, j2, by simp, by simp, by simp only [List.length_append]; omega, by simp only [List.length_append]; omega⟩) ?_
        rintro _ σ _ - ⟨rfl, rfl, rfl⟩
        refine dend rfl ?_
        refine go_seq ?_
        refine go_region ?_
        refine sq rfl (q_move rfl) ?_
        refine sq rfl (q_move rfl) ?_
        refine sq rfl (q_slice (n := n + 1) (cap := c) (l := i) (h := n + 1) (a' := ⟨b, i * 32, none⟩) rfl Tryz.runUnderlying48 Tryz.sizeOf27 rfl rfl rfl rfl (by omega) (by omega) (by rw [if_neg (by omega)]; simp)) ?_
        refine sq rfl (q_move rfl) ?_
        refine sn rfl (n_copy (n := 1) (sz := 32) (cs' := c1 ++ (el ++ (d1 ++ d2)) ++ j2) rfl rfl Tryz.runUnderlying48 Tryz.sizeOf27 (Nat.min_eq_left (by omega)) (.new (.tl .hd) (by omega)) hone .hd ⟨c1, d1, d1 ++ d2 ++ j2, by simp, by simp, h1, by omega⟩) ?_
        rintro _ σ _ - ⟨rfl, rfl, rfl⟩
        refine gol_nil ?_
        refine go_seq ?_
        refine go_region ?_
        refine sq rfl (q_move rfl) ?_
        refine sq rfl (q_assign rfl) ?_
        refine gol_nil ?_
        refine go_drop ((b, _) :: L0) (.cons_cons _ (.cons _ (List.Sublist.refl _))) ?_
        refine go_ret Tryz.func184 Tryz.results184 rfl rfl rfl (by repeat (first | exact Sto.le_refl _ | assumption | refine Sto.le_trans ?_ (by assumption))) ?_
        exact ⟨[(b, _)], rfl, rfl, .mk (cs := c1 ++ (el ++ (d1 ++ d2))) (junk := j2) (by simp only [List.length_append] at hl2 ⊢; omega) (by simp only [List.length_append] at hc hl2 ⊢; omega)⟩
theorem hf141 : Extern.findNext Tryz.f141 = none := by kernel_rfl
theorem he141 : Extern.find Tryz.f141 = some (Extern.SlicesOverlaps.overlaps #[24, 24] #[4]) := by kernel_rfl
theorem c113 {σ : Sto} {L0 Lp : SHeap} {v : Value} {n i bv : Nat} {cs c1 c2 el : List Value} {T : TypeId} (hown : Own 3 1 v n cs Lp) (hcs : cs = c1 ++ c2) (h1 : c1.length = i * 1) (hel : el.length = 1) (hi : i ≤ n) (hone : el.all oneCell = true) (hone2 : c2.all oneCell = true) (hnb : n < 100000000) : Ctr Tryz.prog 113 #[v, .int .i64 (i : Int), .slice (some ⟨bv, 0, none⟩) 1 1] σ ((bv, .cells el.toArray T (0, 0)) :: (Lp ++ L0)) fun v' σ' L' => ∃ Lp', σ' = σ ∧ L' = Lp' ++ L0 ∧ Own 3 1 v' (n + 1) (c1 ++ (el ++ c2)) Lp' := by
  refine ctr_enter Tryz.func113 rfl Tryz.ntmps113 (by simp) ?_
  refine go_perm (Lp ++ ((bv, .cells el.toArray T (0, 0)) :: L0)) List.perm_middle.symm ?_
  refine go_seq ?_
  refine go_region ?_
  refine sq rfl (q_assign rfl) ?_
  refine gol_nil ?_
  refine go_seq ?_
  cases hown
  ·
    have hi0 : i = 0 := by omega
    subst hi0
    obtain ⟨rfl, rfl⟩ : c1 = [] ∧ c2 = [] := by simpa using hcs.symm
    refine go_region ?_
    refine sq rfl (q_move rfl) ?_
    refine sq rfl (q_move rfl) ?_
    refine sq rfl (q_sliceNil rfl Tryz.runUnderlying24 Tryz.sizeOf3 rfl) ?_
    refine gol_nil ?_
    refine go_seq ?_
    refine go_region ?_
    refine sq rfl (q_move rfl) ?_
    refine sq rfl (q_len rfl Tryz.runUnderlying24) ?_
    refine sq rfl (q_assign rfl) ?_
    refine gol_nil ?_
    refine go_seq ?_
    refine go_seq ?_
    refine go_region ?_
    refine sq rfl (q_move rfl) ?_
    refine sq rfl (q_eql rfl rfl) ?_
    refine gol_nil ?_
    refine go_condF rfl rfl ?_
    refine go_skip ?_
    refine go_seq ?_
    refine go_region ?_
    refine sq rfl (q_move rfl) ?_
    refine sq rfl (q_len rfl Tryz.runUnderlying24) ?_
    refine sq rfl (q_assign rfl) ?_
    refine gol_nil ?_
    refine go_seq ?_
    refine go_seq ?_
    refine go_region ?_
    refine sq rfl (q_move rfl) ?_
    refine sq rfl (q_move rfl) ?_
    refine sq rfl (q_eql rfl rfl) ?_
    refine gol_nil ?_
    refine go_condT rfl rfl ?_
    refine go_seq ?_
    refine go_region ?_
    refine sq rfl (q_move rfl) ?_
    refine sq rfl (q_move rfl) ?_
    refine sn rfl (n_append (n := 0) (m := 1) (Lp := []) (L0 := _) rfl rfl Tryz.runUnderlying24 Tryz.sizeOf3 Tryz.typeInfo3 rfl Tryz.zeroValue3 rfl Tryz.runUnderlying24 .nil (.new .hd (by omega)) hone (by decide)) ?_
    rintro v2 σ _ - ⟨Lp', rfl, rfl, hown'⟩
    refine sq rfl (q_assign rfl) ?_
    refine gol_nil ?_
    refine go_out ?_
    refine go_ret Tryz.func113 Tryz.results113 rfl rfl rfl (by repeat (first | exact Sto.le_refl _ | assumption | refine Sto.le_trans ?_ (by assumption))) ?_
    exact ⟨Lp', rfl, rfl, by show Own _ _ v2 _ _ _; simpa using hown'⟩
  ·
    rename_i b c junk hc hn
    subst hcs
    refine go_nd fun hnd => ?_
    simp only [List.cons_append, List.nil_append, List.map_cons, List.nodup_cons, List.mem_cons, not_or] at hnd
    have hnc : n ≤ c := by simp only [List.length_append] at hc hn; omega
    have hl2 : c2.length = (n - i) * 1 := by rw [List.length_append] at hn; omega
    refine go_region ?_
    refine sq rfl (q_move rfl) ?_
    refine sq rfl (q_move rfl) ?_
    refine sq rfl (q_slice (n := n) (cap := c) (l := i) (h := n) rfl Tryz.runUnderlying24 Tryz.sizeOf3 rfl rfl rfl rfl (by omega) hnc rfl) ?_
    refine gol_nil ?_
    refine go_seq ?_
    refine go_region ?_
    refine sq rfl (q_move rfl) ?_
    refine sq rfl (q_len rfl Tryz.runUnderlying24) ?_
    refine sq rfl (q_assign rfl) ?_
    refine gol_nil ?_
    refine go_seq ?_
    refine go_seq ?_
    refine go_region ?_
    refine sq rfl (q_move rfl) ?_
    refine sq rfl (q_eql rfl rfl) ?_
    refine gol_nil ?_
    refine go_condF rfl rfl ?_
    refine go_skip ?_
    refine go_seq ?_
    refine go_region ?_
    refine sq rfl (q_move rfl) ?_
    refine sq rfl (q_len rfl Tryz.runUnderlying24) ?_
    refine sq rfl (q_assign rfl) ?_
    refine gol_nil ?_
    refine go_seq ?_
    refine go_seq ?_
    refine go_region ?_
    refine sq rfl (q_move rfl) ?_
    refine sq rfl (q_move rfl) ?_
    refine sq rfl (q_eql rfl rfl) ?_
    refine gol_nil ?_
    refine go_cond rfl rfl (fun hc1 => ?_) (fun hc1 => ?_)
    ·
      have hin : i = n := by have := of_decide_eq_true hc1; omega
      subst hin
      refine go_seq ?_
      refine go_region ?_
      refine sq rfl (q_move rfl) ?_
      refine sq rfl (q_move rfl) ?_
      refine sn rfl (n_append (n := i) (m := 1) (Lp := [(b, _)]) (L0 := _) rfl rfl Tryz.runUnderlying24 Tryz.sizeOf3 Tryz.typeInfo3 rfl Tryz.zeroValue3 rfl Tryz.runUnderlying24 (.mk hn hc) (.new (.inr (.tail _ (.head _))) (by omega)) hone (by show (2 * (i + 1) + 1000) * 8 ≤ _; omega)) ?_
      rintro v2 σ _ - ⟨Lp', rfl, rfl, hown'⟩
      refine sq rfl (q_assign rfl) ?_
      refine gol_nil ?_
      refine go_out ?_
      refine go_ret Tryz.func113 Tryz.results113 rfl rfl rfl (by repeat (first | exact Sto.le_refl _ | assumption | refine Sto.le_trans ?_ (by assumption))) ?_
      refine ⟨Lp', rfl, rfl, ?_⟩
      have h2 : c2 = [] := List.eq_nil_of_length_eq_zero (by rw [List.length_append] at hn; omega)
      subst h2
      show Own _ _ v2 _ _ _
      simpa using hown'
    ·
      have hlt : i < n := by have := of_decide_eq_false hc1; omega
      refine go_skip ?_
      refine go_seq ?_
      refine go_seq ?_
      refine go_region ?_
      refine sq rfl (q_move rfl) ?_
      refine sq rfl (q_move rfl) ?_
      refine sq rfl (q_add rfl rfl (i64_in (by omega) (by omega))) ?_
      refine sq rfl (q_move rfl) ?_
      refine sq rfl (q_cap rfl Tryz.runUnderlying24) ?_
      refine sq rfl (q_gtr rfl rfl) ?_
      refine gol_nil ?_
      refine go_cond rfl rfl (fun hc2 => ?_) (fun hc2 => ?_)
      ·
        have hgt : c < n + 1 := by have := of_decide_eq_true hc2; omega
        refine go_seq ?_
        refine go_region ?_
        refine sq rfl (q_move rfl) ?_
        refine sq rfl (q_move rfl) ?_
        refine sq rfl (q_slice (n := n) (cap := c) (l := 0) (h := i) (a' := ⟨b, 0, none⟩) rfl Tryz.runUnderlying24 Tryz.sizeOf3 rfl rfl rfl rfl (by omega) (by omega) (by split <;> simp)) ?_
        refine sq rfl (q_move rfl) ?_
        refine sq rfl (q_move rfl) ?_
        refine sq rfl (q_add rfl rfl (i64_in (by omega) (by omega))) ?_
        refine sq rfl (q_move rfl) ?_
        refine sq rfl (q_sub (c := ((n + 1 - i : Nat) : Int)) rfl rfl (by rw [i64_in (by omega) (by omega)]; omega)) ?_
        refine sn rfl (n_appendMake (n := i) (m := n + 1 - i) (c := c) (cs := c1) (b := b) (ds := c1 ++ c2 ++ junk) rfl rfl Tryz.runUnderlying24 Tryz.sizeOf3 Tryz.typeInfo3 rfl Tryz.zeroValue3 rfl Tryz.runUnderlying3 .hd (by rw [← h1, List.append_assoc]; exact Part.mk (a := []) rfl rfl) (by omega) (by show (2 * (i + (n + 1 - i)) + 1000) * 8 ≤ _; omega) (by omega) (N := n + 1) (by omega) rfl) ?_
        rintro _ σ _ - ⟨b', c', zs, junk', rfl, rfl, rfl, hzl, hcl, hcc⟩
        obtain ⟨z1, z2, rfl, hz1, hz2⟩ := split_len (l := zs) (a := 1) (b := (n - i) * 1) (by rw [hzl]; omega)
        refine sq rfl (q_assign rfl) ?_
        refine gol_nil ?_
        refine go_seq ?_
        refine go_region ?_
        refine sq rfl (q_move rfl) ?_
        refine sq rfl (q_move rfl) ?_
        refine sq rfl (q_slice (n := n + 1) (cap := c') (l := i) (h := n + 1) (a' := ⟨b', i * 1, none⟩) rfl Tryz.runUnderlying24 Tryz.sizeOf3 rfl rfl rfl rfl (by omega) (by omega) (by rw [if_neg (by omega)]; simp)) ?_
        refine sq rfl (q_move rfl) ?_
        refine sn rfl (n_copy (n := 1) (sz := 1) (cs' := c1 ++ (el ++ (z2 ++ junk'))) rfl rfl Tryz.runUnderlying24 Tryz.sizeOf3 (Nat.min_eq_left (by omega)) (.new (.tl (.tl .hd)) (by omega)) hone .hd ⟨c1, z1, z2 ++ junk', by simp, rfl, h1, by omega⟩) ?_
        rintro v4 σ4 L4 hle4 ⟨rfl, rfl, rfl⟩
        refine gol_nil ?_
        refine go_seq ?_
        refine go_draws (n := 95) _ mix rfl (by decide +kernel) (Keep.refl _) ?_
        refine dq 0 rfl rfl rfl rfl (q_move rfl) ?_
        refine dq 1 rfl rfl rfl rfl (q_move rfl) ?_
        refine dq 2 rfl rfl rfl rfl (q_move rfl) ?_
        refine dq 3 rfl rfl rfl rfl (q_add rfl rfl (i64_in (by omega) (by omega))) ?_
        refine dq 4 rfl rfl rfl rfl (q_slice (n := n + 1) (cap := c') (l := i + 1) (h := n + 1) (a' := ⟨b', (i + 1) * 1, none⟩) rfl Tryz.runUnderlying24 Tryz.sizeOf3 rfl rfl rfl rfl (by omega) (by omega) (by rw [if_neg (by omega)]; simp)) ?_
        refine dq 5 rfl rfl rfl rfl (q_move rfl) ?_
        refine dq 6 rfl rfl rfl rfl (q_move rfl) ?_
        refine dq 7 rfl rfl rfl rfl (q_slice (n := n) (cap := c) (l := i) (h := n) (a' := ⟨b, i * 1, none⟩) rfl Tryz.runUnderlying24 Tryz.sizeOf3 rfl rfl rfl rfl (by omega) (by omega) (by first | (rw [if_neg (by omega)]; simp) | skip)) ?_
        refine dna 8 rfl rfl rfl rfl (by decide +kernel) (by decide +kernel) (n_copy (n := n - i) (sz := 1) (new := c2) (cs' := c1 ++ (el ++ c2) ++ junk') rfl rfl Tryz.runUnderlying24 Tryz.sizeOf3 (Nat.min_eq_left (by omega)) ⟨hl2, _, _, _, rfl, Nat.le_refl _, .inr ⟨b, i * 1, _, _, _, rfl, .tl .hd, by rw [List.append_assoc]; exact Part.mk h1 hl2⟩⟩ hone2 .hd ⟨c1 ++ el, z2, junk', by simp, by simp, by simp only [List.length_append]; omega, by omega⟩) ?_
        rintro _ σ _ - ⟨rfl, rfl, rfl⟩
        refine dend rfl ?_
        refine go_seq ?_
        refine go_region ?_
        refine sq rfl (q_move rfl) ?_
        refine sq rfl (q_assign rfl) ?_
        refine gol_nil ?_
        refine go_drop ((b', _) :: L0) (.cons_cons _ (.cons _ (.cons _ (List.Sublist.refl _)))) ?_
        refine go_ret Tryz.func113 Tryz.results113 rfl rfl rfl (by repeat (first | exact Sto.le_refl _ | assumption | refine Sto.le_trans ?_ (by assumption))) ?_
        exact ⟨[(b', _)], rfl, rfl, .mk (cs := c1 ++ (el ++ c2)) (junk := junk') (by simp only [List.length_append]; omega) (by simp only [List.length_append] at hcl ⊢; omega)⟩
      ·
        have hle : n + 1 ≤ c := by have := of_decide_eq_false hc2; omega
        obtain ⟨d1, d2, rfl, hd1, hd2⟩ := split_len (l := c2) (a := 1) (b := (n - i - 1) * 1) (by omega)
        obtain ⟨j1, j2, rfl, hj1, hj2⟩ := split_len (l := junk) (a := 1) (b := (c - n - 1) * 1) (by simp only [List.length_append] at hc hl2; omega)
        refine go_skip ?_
        refine go_seq ?_
        refine go_region ?_
        refine sq rfl (q_move rfl) ?_
        refine sq rfl (q_move rfl) ?_
        refine sq rfl (q_move rfl) ?_
        refine sq rfl (q_add rfl rfl (i64_in (by omega) (by omega))) ?_
        refine sq rfl (q_slice (n := n) (cap := c) (l := 0) (h := n + 1) (a' := ⟨b, 0, none⟩) rfl Tryz.runUnderlying24 Tryz.sizeOf3 rfl rfl rfl rfl (by omega) (by omega) (by split <;> simp)) ?_
        refine sq rfl (q_assign rfl) ?_
        refine gol_nil ?_
        refine go_seq ?_
        refine go_seq ?_
        refine go_region ?_
        refine sq rfl (q_move rfl) ?_
        refine sq rfl (q_move rfl) ?_
        refine sq rfl (q_move rfl) ?_
        refine sq rfl (q_move rfl) ?_
        refine sq rfl (q_add rfl rfl (i64_in (by omega) (by omega))) ?_
        refine sq rfl (q_slice (n := n + 1) (cap := c) (l := i + 1) (h := n + 1) (a' := ⟨b, (i + 1) * 1, none⟩) rfl Tryz.runUnderlying24 Tryz.sizeOf3 rfl rfl rfl rfl (by omega) (by omega) (by rw [if_neg (by omega)]; simp)) ?_
        refine sq rfl (q_overlaps (b := bv) (b' := b) Tryz.func141 rfl rfl hf141 he141 Tryz.underlying24 Tryz.sizeOf3 rfl rfl (fun e => hnd.1.1 e.symm) (.tl .hd) .hd (by simp only [List.size_toArray, List.length_append]; omega)) ?_
        refine sq rfl (q_not rfl) ?_
        refine gol_nil ?_
        refine go_condT rfl rfl ?_
        refine go_seq ?_
        refine go_draws (n := 95) _ mix rfl (by decide +kernel) (Keep.refl _) ?_
        refine dq 0 rfl rfl rfl rfl (q_move rfl) ?_
        refine dq 1 rfl rfl rfl rfl (q_move rfl) ?_
        refine dq 2 rfl rfl rfl rfl (q_move rfl) ?_
        refine dq 3 rfl rfl rfl rfl (q_add rfl rfl (i64_in (by omega) (by omega))) ?_
        refine dq 4 rfl rfl rfl rfl (q_slice (n := n + 1) (cap := c) (l := i + 1) (h := n + 1) (a' := ⟨b, (i + 1) * 1, none⟩) rfl Tryz.runUnderlying24 Tryz.sizeOf3 rfl rfl rfl rfl (by omega) (by omega) (by rw [if_neg (by omega)]; simp)) ?_
        refine dq 5 rfl rfl rfl rfl (q_move rfl) ?_
        refine dq 6 rfl rfl rfl rfl (q_move rfl) ?_
        refine dq 7 rfl rfl rfl rfl (q_slice (n := n + 1) (cap := c) (l := i) (h := n + 1) (a' := ⟨b, i * 1, none⟩) rfl Tryz.runUnderlying24 Tryz.sizeOf3 rfl rfl rfl rfl (by omega) (by omega) (by rw [if_neg (by omega)]; simp)) ?_
        refine dna 8 rfl rfl rfl rfl (by decide +kernel) (by decide +kernel) (n_copy (n := n - i) (sz := 1) (new := d1 ++ d2) (cs' := c1 ++ (d1 ++ (d1 ++ d2)) ++ j2) rfl rfl Tryz.runUnderlying24 Tryz.sizeOf3 (Nat.min_eq_right (by omega) |>.trans (by omega)) ⟨hl2, _, _, _, rfl, by omega, .inr ⟨b, i * 1, _, _, _, rfl, .hd, by rw [List.append_assoc]; exact Part.mk h1 hl2⟩⟩ hone2 .hd ⟨c1 ++ d1, d2 ++ j1, j2, by simp, by simp, by simp only [List.length_append]; omega, by simp only [List.length_append]; omega⟩) ?_
        rintro _ σ _ - ⟨rfl, rfl, rfl⟩
        refine dend rfl ?_
        refine go_seq ?_
        refine go_region ?_
        refine sq rfl (q_move rfl) ?_
        refine sq rfl (q_move rfl) ?_
        refine sq rfl (q_slice (n := n + 1) (cap := c) (l := i) (h := n + 1) (a' := ⟨b, i * 1, none⟩) rfl Tryz.runUnderlying24 Tryz.sizeOf3 rfl rfl rfl rfl (by omega) (by omega) (by rw [if_neg (by omega)]; simp)) ?_
        refine sq rfl (q_move rfl) ?_
        refine sn rfl (n_copy (n := 1) (sz := 1) (cs' := c1 ++ (el ++ (d1 ++ d2)) ++ j2) rfl rfl Tryz.runUnderlying24 Tryz.sizeOf3 (Nat.min_eq_left (by omega)) (.new (.tl .hd) (by omega)) hone .hd ⟨c1, d1, d1 ++ d2 ++ j2, by simp, by simp, h1, by omega⟩) ?_
        rintro _ σ _ - ⟨rfl, rfl, rfl⟩
        refine gol_nil ?_
        refine go_seq ?_
        refine go_region ?_
        refine sq rfl (q_move rfl) ?_
        refine sq rfl (q_assign rfl) ?_
        refine gol_nil ?_
        refine go_drop ((b, _) :: L0) (.cons_cons _ (.cons _ (List.Sublist.refl _))) ?_
        refine go_ret Tryz.func113 Tryz.results113 rfl rfl rfl (by repeat (first | exact Sto.le_refl _ | assumption | refine Sto.le_trans ?_ (by assumption))) ?_
        exact ⟨[(b, _)], rfl, rfl, .mk (cs := c1 ++ (el ++ (d1 ++ d2))) (junk := j2) (by simp only [List.length_append] at hl2 ⊢; omega) (by simp only [List.length_append] at hc hl2 ⊢; omega)⟩
end Go.Eng
