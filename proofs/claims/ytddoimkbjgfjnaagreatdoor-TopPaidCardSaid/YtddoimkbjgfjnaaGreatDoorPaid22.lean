/- A part of the proof of this: Payments and locks of a shard come out as they stand on paper (TopPaid): for every input, with the listed package variables as the program's text lays them, TopPaid answers true and its argument reads as it did. -/
import Derived.Test.YtddoimkbjgfjnaaGreatDoorPaid21
import Derived.Test.YtddoimkbjgfjnaaGreatDoorPaid06
namespace Go.Eng
open Go Go.Proofs
set_option maxRecDepth 20000
def ams (m : Nat) : List UInt64 := [UInt64.ofNat m, 1, 2, 3, 0, 4611686018427387905]
def dsts (c : Int) : List Int := [3 - c, 3 - c, 3 - c, c, 0, 3, 4, -1]
theorem toU {m : Nat} (h : m < 18446744073709551616) : IntKind.u64.wrap (m : Int) = ((UInt64.ofNat m).toNat : Int) := by
  rw [UInt64.toNat_ofNat_of_lt' h]; exact u64_in (by omega) (by omega)
theorem c27 {σ : Sto} {L Lf : SHeap} {p pg i : Nat} {f : Fol} {lv nv : Value} {xs : Bts} {names : List UInt64} (hf : FolO p f Lf) (hgv : Bytes σ lv xs) (hgl : xs.length < 4611686018427387904) (hi : i < 4000000000000000000) (hns : Sl σ [] nv 1 uc names) (hch : 0 ≤ f.chain ∧ f.chain ≤ 3) (hn0 : 0 < names.length) (hn1 : names.length ≤ 8) : Ctr Tryz.prog 27 #[.pointer (some ⟨p, 0, none⟩), .pointer (some ⟨pg, 0, none⟩), nv] σ ((pg, giverObj lv i) :: (Lf ++ L)) fun r σ' L' => ∃ (t : Pl) (i' : Nat), r = .agg (txCells t.tx nilS).toArray ∧ t.src ∈ names ∧ t.dest ∈ names ∧ i < i' ∧ i' ≤ i + 20 ∧ σ' = σ ∧ L' = (pg, giverObj lv i') :: (Lf ++ L) := by
  obtain ⟨mb, es, ck, lvv, cv, Ll, Lc, rfl, hp, hl, hc⟩ := hf.out
  obtain ⟨pn, cn, rfl⟩ := hns.val
  obtain ⟨bn, on, dsn, Tn, frn, rfl, hkn, hpn⟩ := hns.cells.2.2.get (by intro e; have := hns.cells.2.2.1; rw [e] at this; simp at this; omega)
  refine ctr_enter Tryz.func27 rfl Tryz.ntmps27 (by simp) ?_
  refine go_seq ?_
  refine go_region ?_
  refine snb rfl (n_alloc zero42 .agg) ?_
  intro b1
  refine gol_nil ?_
  refine go_seq ?_
  refine go_meet (Nat × UInt64 × UInt64) (fun x => x.2.1 ∈ names ∧ x.2.2 ∈ names) (fun x => [(0, .pointer (some ⟨p, 0, none⟩)), (1, .pointer (some ⟨pg, 0, none⟩)), (6, .pointer (some ⟨b1, 0, none⟩)), (7, .pointer (some ⟨x.1, 0, none⟩))]) (fun _ => σ) (fun x => (x.1, .cells (txCells ⟨1, x.2.1, x.2.2, 0, 0, 0, 0, z32, 0⟩ nilS).toArray 42 (0, 0)) :: (b1, .cells (txCells ⟨0, 0, 0, 0, 0, 0, 0, z32, 0⟩ nilS).toArray 42 (0, 0)) :: (pg, giverObj lv (i + 1 + 1)) :: (p, folObj f.chain mb lvv cv) :: (mb, mobj w6 es ck) :: (Ll ++ Lc) ++ L) (fun meet => ?_) ?_
  ·
    refine go_draws (n := 82) [] mix rfl (by decide +kernel) (Keep.nil _) ?_
    refine dq 0 rfl rfl rfl rfl (q_move rfl) ?_
    refine dq 1 rfl rfl rfl rfl (q_move rfl) ?_
    refine dq 2 rfl rfl rfl rfl (q_move rfl) ?_
    refine dq 3 rfl rfl rfl rfl (q_len rfl Tryz.runUnderlying34) ?_
    refine dq 7 rfl rfl rfl rfl (q_move rfl) ?_
    refine dq 8 rfl rfl rfl rfl (q_move rfl) ?_
    refine dq 9 rfl rfl rfl rfl (q_move rfl) ?_
    refine dq 10 rfl rfl rfl rfl (q_len rfl Tryz.runUnderlying34) ?_
    refine d2 4 15 rfl rfl rfl (by decide +kernel) rfl rfl (n_call rfl Tryz.call19 (c19 (n := names.length) hgv hgl (by omega) (by omega) (by omega) (.tl .hd))) (n_alloc zero42 .agg) (fun _ _ _ _ _ => Keep.nil _) (fun _ _ _ _ ⟨_, _, _, e3⟩ => by subst e3; exact fun b o hb => List.mem_cons_of_mem _ ((Keep.nil _) b o hb)) ?_ ?_
    ·
      rintro _ σ _ - ⟨⟨m1, rfl, hm1⟩, rfl, rfl⟩
      refine dq 5 rfl rfl rfl rfl (q_indexAddr (j := m1) (o' := on + m1) rfl rfl Tryz.runUnderlying34 Tryz.sizeOf31 rfl hm1 (by omega)) ?_
      refine dq 6 rfl rfl rfl rfl (q_load (cs := dsn.toList) (v := w6 names[m1]) rfl Tryz.isAgg31 (hkn.imp id (fun h => nomatch h)) (hpn.at (uc_at hm1))) ?_
      refine d2 11 15 rfl rfl rfl (by decide +kernel) rfl rfl (n_call rfl Tryz.call19 (c19 (n := names.length) hgv hgl (by omega) (by omega) (by omega) (.tl .hd))) (n_alloc zero42 .agg) (fun _ _ _ _ _ => Keep.nil _) (fun _ _ _ _ ⟨_, _, _, e3⟩ => by subst e3; exact fun b o hb => List.mem_cons_of_mem _ ((Keep.nil _) b o hb)) ?_ ?_
      ·
        rintro _ σ _ - ⟨⟨m2, rfl, hm2⟩, rfl, rfl⟩
        refine dq 12 rfl rfl rfl rfl (q_indexAddr (j := m2) (o' := on + m2) rfl rfl Tryz.runUnderlying34 Tryz.sizeOf31 rfl hm2 (by omega)) ?_
        refine dq 13 rfl rfl rfl rfl (q_load (cs := dsn.toList) (v := w6 names[m2]) rfl Tryz.isAgg31 (hkn.imp id (fun h => nomatch h)) (hpn.at (uc_at hm2))) ?_
        refine dq 14 rfl rfl rfl rfl (q_buildS (ns := [1, 1, 1, 1, 1, 1, 1, 32, 1, 1]) (l' := txCells ⟨1, names[m1], names[m2], 0, 0, 0, 0, z32, 0⟩ nilS) (.put (z := [_]) rfl (.one rfl) rfl rfl (.put (z := [_]) rfl (.one rfl) rfl rfl (.put (z := [_]) rfl (.one rfl) rfl rfl (.zero (z := [_]) rfl (.zero (z := [_]) rfl (.zero (z := [_]) rfl (.zero (z := [_]) rfl (.zero (z := bcells z32) rfl (.zero (z := [_]) rfl (.zero (z := [_]) rfl .nil)))))))))) zero42 Tryz.runUnderlying42 (places42 Tryz.runUnderlying42) rfl) ?_
        refine dnb 15 rfl rfl rfl rfl (by decide +kernel) (n_alloc zero42 .agg) (Keep.nil _) ?_
        intro b2
        refine dsta 16 rfl rfl rfl rfl (by decide +kernel) (by decide +kernel) (n_storeA rfl rfl (vs := txCells ⟨1, names[m1], names[m2], 0, 0, 0, 0, z32, 0⟩ nilS) (tx_one rfl) Tryz.sizeOf42 rfl .hd (PutAt.all rfl)) ?_
        refine dend rfl ?_
        exact go_next (meet (b2, names[m1], names[m2]) ⟨List.getElem_mem hm1, List.getElem_mem hm2⟩) ⟨rfl, rfl, rfl, rfl, trivial⟩
      ·
        rintro _ _ _ - ⟨b2, rfl, rfl, rfl⟩
        refine dn 11 rfl rfl rfl rfl (by decide +kernel) (n_call rfl Tryz.call19 (c19 (n := names.length) hgv hgl (by omega) (by omega) (by omega) (.tl (.tl .hd)))) (fun _ _ _ _ _ => Keep.nil _) ?_
        rintro _ σ _ - ⟨⟨m2, rfl, hm2⟩, rfl, rfl⟩
        refine dq 12 rfl rfl rfl rfl (q_indexAddr (j := m2) (o' := on + m2) rfl rfl Tryz.runUnderlying34 Tryz.sizeOf31 rfl hm2 (by omega)) ?_
        refine dq 13 rfl rfl rfl rfl (q_load (cs := dsn.toList) (v := w6 names[m2]) rfl Tryz.isAgg31 (hkn.imp id (fun h => nomatch h)) (hpn.at (uc_at hm2))) ?_
        refine dq 14 rfl rfl rfl rfl (q_buildS (ns := [1, 1, 1, 1, 1, 1, 1, 32, 1, 1]) (l' := txCells ⟨1, names[m1], names[m2], 0, 0, 0, 0, z32, 0⟩ nilS) (.put (z := [_]) rfl (.one rfl) rfl rfl (.put (z := [_]) rfl (.one rfl) rfl rfl (.put (z := [_]) rfl (.one rfl) rfl rfl (.zero (z := [_]) rfl (.zero (z := [_]) rfl (.zero (z := [_]) rfl (.zero (z := [_]) rfl (.zero (z := bcells z32) rfl (.zero (z := [_]) rfl (.zero (z := [_]) rfl .nil)))))))))) zero42 Tryz.runUnderlying42 (places42 Tryz.runUnderlying42) rfl) ?_
        refine dsta 16 rfl rfl rfl rfl (by decide +kernel) (by decide +kernel) (n_storeA rfl rfl (vs := txCells ⟨1, names[m1], names[m2], 0, 0, 0, 0, z32, 0⟩ nilS) (tx_one rfl) Tryz.sizeOf42 rfl .hd (PutAt.all rfl)) ?_
        refine dend rfl ?_
        exact go_next (meet (b2, names[m1], names[m2]) ⟨List.getElem_mem hm1, List.getElem_mem hm2⟩) ⟨rfl, rfl, rfl, rfl, trivial⟩
    ·
      rintro _ _ _ - ⟨b2, rfl, rfl, rfl⟩
      refine dn 4 rfl rfl rfl rfl (by decide +kernel) (n_call rfl Tryz.call19 (c19 (n := names.length) hgv hgl (by omega) (by omega) (by omega) (.tl (.tl .hd)))) (fun _ _ _ _ _ => Keep.nil _) ?_
      rintro _ σ _ - ⟨⟨m1, rfl, hm1⟩, rfl, rfl⟩
      refine dq 5 rfl rfl rfl rfl (q_indexAddr (j := m1) (o' := on + m1) rfl rfl Tryz.runUnderlying34 Tryz.sizeOf31 rfl hm1 (by omega)) ?_
      refine dq 6 rfl rfl rfl rfl (q_load (cs := dsn.toList) (v := w6 names[m1]) rfl Tryz.isAgg31 (hkn.imp id (fun h => nomatch h)) (hpn.at (uc_at hm1))) ?_
      refine dn 11 rfl rfl rfl rfl (by decide +kernel) (n_call rfl Tryz.call19 (c19 (n := names.length) hgv hgl (by omega) (by omega) (by omega) (.tl (.tl .hd)))) (fun _ _ _ _ _ => Keep.nil _) ?_
      rintro _ σ _ - ⟨⟨m2, rfl, hm2⟩, rfl, rfl⟩
      refine dq 12 rfl rfl rfl rfl (q_indexAddr (j := m2) (o' := on + m2) rfl rfl Tryz.runUnderlying34 Tryz.sizeOf31 rfl hm2 (by omega)) ?_
      refine dq 13 rfl rfl rfl rfl (q_load (cs := dsn.toList) (v := w6 names[m2]) rfl Tryz.isAgg31 (hkn.imp id (fun h => nomatch h)) (hpn.at (uc_at hm2))) ?_
      refine dq 14 rfl rfl rfl rfl (q_buildS (ns := [1, 1, 1, 1, 1, 1, 1, 32, 1, 1]) (l' := txCells ⟨1, names[m1], names[m2], 0, 0, 0, 0, z32, 0⟩ nilS) (.put (z := [_]) rfl (.one rfl) rfl rfl (.put (z := [_]) rfl (.one rfl) rfl rfl (.put (z := [_]) rfl (.one rfl) rfl rfl (.zero (z := [_]) rfl (.zero (z := [_]) rfl (.zero (z := [_]) rfl (.zero (z := [_]) rfl (.zero (z := bcells z32) rfl (.zero (z := [_]) rfl (.zero (z := [_]) rfl .nil)))))))))) zero42 Tryz.runUnderlying42 (places42 Tryz.runUnderlying42) rfl) ?_
      refine dsta 16 rfl rfl rfl rfl (by decide +kernel) (by decide +kernel) (n_storeA rfl rfl (vs := txCells ⟨1, names[m1], names[m2], 0, 0, 0, 0, z32, 0⟩ nilS) (tx_one rfl) Tryz.sizeOf42 rfl .hd (PutAt.all rfl)) ?_
      refine dend rfl ?_
      exact go_next (meet (b2, names[m1], names[m2]) ⟨List.getElem_mem hm1, List.getElem_mem hm2⟩) ⟨rfl, rfl, rfl, rfl, trivial⟩
  ·
    rintro ⟨b2, u, v⟩ ⟨hu, hv⟩
    simp only at hu hv ⊢
    refine go_seq ?_
    refine go_region ?_
    refine sq rfl (q_move rfl) ?_
    refine sn rfl (n_call rfl Tryz.call19 (c19 (n := 25) hgv hgl (by omega) (by omega) (by omega) (.tl (.tl .hd)))) ?_
    rintro _ σ _ - ⟨⟨m3, rfl, hm3⟩, rfl, rfl⟩
    refine sq rfl (q_conv (m := ((UInt64.ofNat m3).toNat : Int)) rfl Tryz.runUnderlying3 Tryz.runUnderlying31 (toU (by omega))) ?_
    refine sns rfl (n_buildSlice (sz := 1) (l' := (ams m3).flatMap uc) (.cons rfl (.one rfl) rfl (.cons rfl (.one rfl) rfl (.cons rfl (.one rfl) rfl (.cons rfl (.one rfl) rfl (.cons rfl (.one rfl) rfl (.cons rfl (.one rfl) rfl .nil)))))) rfl Tryz.runUnderlying34 Tryz.sizeOf31 Tryz.zeroValue31 rfl rfl) ?_
    intro b3
    refine sq rfl (q_move rfl) ?_
    refine sn rfl (n_call rfl Tryz.call19 (c19 (n := 16) hgv hgl (by omega) (by omega) (by omega) (.tl (.tl (.tl .hd))))) ?_
    rintro _ σ _ - ⟨⟨m4, rfl, hm4⟩, rfl, rfl⟩
    refine sq rfl (q_rem (c := ((m4 % 6 : Nat) : Int)) rfl rfl (by decide) (by rw [Int.tmod_eq_emod_of_nonneg (by omega)]; omega)) ?_
    refine sq rfl (q_indexAddr (j := m4 % 6) (o' := m4 % 6) rfl rfl Tryz.runUnderlying34 Tryz.sizeOf31 rfl (Nat.mod_lt _ (by decide)) (by omega)) ?_
    have h46 : m4 % 6 < (ams m3).length := Nat.mod_lt _ (by decide)
    refine sq rfl (q_load (v := w6 (ams m3)[m4 % 6]) rfl Tryz.isAgg31 .hd (uc_at h46)) ?_
    refine sq rfl (q_fieldAddr (off := 3) (o' := 3) rfl Tryz.runUnderlying42 rfl Tryz.sizeOf31 rfl rfl) ?_
    refine sst rfl (n_store rfl rfl rfl Tryz.sizeOf31 (.s (.s (.s .z))) (.tl .hd)) ?_
    generalize (ams m3)[m4 % 6] = amt
    refine gol_nil ?_
    refine go_seq ?_
    refine go_drop1 ?_
    refine go_draws (n := 82) _ mix rfl (by decide +kernel) (Keep.refl _) ?_
    refine dq 0 rfl rfl rfl rfl (q_move rfl) ?_
    refine dq 1 rfl rfl rfl rfl (q_nil rfl) ?_
    refine dq 2 rfl rfl rfl rfl (q_fieldAddr (off := 1) (o' := 1) rfl Tryz.runUnderlying140 rfl Tryz.sizeOf138 rfl rfl) ?_
    refine dq 3 rfl rfl rfl rfl (q_load (cs := folCells _ _ _ _) rfl Tryz.isAgg138 (.tl (.tl (.tl .hd))) (.s .z)) ?_
    refine dq 4 rfl rfl rfl rfl (q_fieldAddr (off := 1) (o' := 1) rfl Tryz.runUnderlying42 rfl Tryz.sizeOf31 rfl rfl) ?_
    refine dq 5 rfl rfl rfl rfl (q_load (v := w6 u) rfl Tryz.isAgg31 .hd (.s .z)) ?_
    refine dq 6 rfl rfl rfl rfl (q_lookup (es := es) (k := u) (r := purV (f.pur u)) keyU31 rfl rfl Tryz.runUnderlying138 trivial (fun _ _ => trivial) zero142 (.tl (.tl (.tl (.tl .hd)))) (hp.get _)) ?_
    refine dq 7 rfl rfl rfl rfl (q_field (off := 1) rfl Tryz.runUnderlying142 rfl Tryz.isAgg31 rfl (.s .z)) ?_
    refine dq 8 rfl rfl rfl rfl (q_fieldAddr (off := 4) (o' := 4) rfl Tryz.runUnderlying42 rfl Tryz.sizeOf31 rfl rfl) ?_
    refine dsta 9 rfl rfl rfl rfl (by decide +kernel) (by decide +kernel) (n_store rfl rfl rfl Tryz.sizeOf31 (.s (.s (.s (.s .z)))) .hd) ?_
    refine dend rfl ?_
    refine go_seq ?_
    refine go_seq ?_
    refine go_region ?_
    refine sq rfl (q_move rfl) ?_
    refine sn rfl (n_call rfl Tryz.call19 (c19 (n := 7) hgv hgl (by omega) (by omega) (by omega) (.tl (.tl .hd)))) ?_
    rintro _ σ _ - ⟨⟨m5, rfl, hm5⟩, rfl, rfl⟩
    refine sq rfl (q_eql (a := (m5 : Int)) (b := 6) rfl rfl) ?_
    refine gol_nil ?_
    refine go_meet (Nat × UInt64) (fun x => i < x.1 ∧ x.1 ≤ i + 8) (fun x => [(0, .pointer (some ⟨p, 0, none⟩)), (1, .pointer (some ⟨pg, 0, none⟩)), (6, .pointer (some ⟨b1, 0, none⟩)), (7, .pointer (some ⟨b2, 0, none⟩))]) (fun _ => σ) (fun x => (b2, .cells (txCells ⟨1, u, v, amt, x.2, 0, 0, z32, 0⟩ nilS).toArray 42 (0, 0)) :: (b1, .cells (txCells ⟨0, 0, 0, 0, 0, 0, 0, z32, 0⟩ nilS).toArray 42 (0, 0)) :: (pg, giverObj lv (x.1)) :: (p, folObj f.chain mb lvv cv) :: (mb, mobj w6 es ck) :: (Ll ++ Lc) ++ L) (fun meet => ?_) ?_
    ·
      refine go_cond rfl rfl (fun hc0 => ?_) (fun hc0 => ?_)
      ·
        refine go_region ?_
        refine sq rfl (q_move rfl) ?_
        refine sn rfl (n_call rfl Tryz.call19 (c19 (n := 4) hgv hgl (by omega) (by omega) (by omega) (.tl (.tl .hd)))) ?_
        rintro _ σ _ - ⟨⟨m6, rfl, hm6⟩, rfl, rfl⟩
        refine sq rfl (q_conv (m := ((UInt64.ofNat m6).toNat : Int)) rfl Tryz.runUnderlying3 Tryz.runUnderlying31 (toU (by omega))) ?_
        refine sq rfl (q_fieldAddr (off := 4) (o' := 4) rfl Tryz.runUnderlying42 rfl Tryz.sizeOf31 rfl rfl) ?_
        refine sst rfl (n_store rfl rfl rfl Tryz.sizeOf31 (.s (.s (.s (.s .z)))) .hd) ?_
        refine gol_nil ?_
        first | exact go_next (meet (i + 1 + 1 + 1 + 1 + 1 + 1, UInt64.ofNat m6) ⟨by simp only; omega, by simp only; omega⟩) ⟨rfl, rfl, rfl, rfl, trivial⟩ | exact go_next (meet (i + 1 + 1 + 1 + 1 + 1, (f.pur u).nonce) ⟨by simp only; omega, by simp only; omega⟩) ⟨rfl, rfl, rfl, rfl, trivial⟩
      ·
        refine go_skip ?_
        first | exact go_next (meet (i + 1 + 1 + 1 + 1 + 1 + 1, UInt64.ofNat m6) ⟨by simp only; omega, by simp only; omega⟩) ⟨rfl, rfl, rfl, rfl, trivial⟩ | exact go_next (meet (i + 1 + 1 + 1 + 1 + 1, (f.pur u).nonce) ⟨by simp only; omega, by simp only; omega⟩) ⟨rfl, rfl, rfl, rfl, trivial⟩
    ·
      rintro ⟨j, nonce⟩ ⟨hj1, hj2⟩
      simp only at hj1 hj2 ⊢
      refine go_seq ?_
      refine go_seq ?_
      refine go_region ?_
      refine sq rfl (q_move rfl) ?_
      refine sn rfl (n_call rfl Tryz.call19 (c19 (n := 3) hgv hgl (by omega) (by omega) (by omega) (.tl (.tl .hd)))) ?_
      rintro _ σ _ - ⟨⟨m7, rfl, hm7⟩, rfl, rfl⟩
      refine sq rfl (q_eql (a := (m7 : Int)) (b := 2) rfl rfl) ?_
      refine gol_nil ?_
      refine go_cond rfl rfl (fun hc1 => ?_) (fun hc1 => ?_)
      ·
        refine go_seq ?_
        refine go_region ?_
        refine sq rfl (q_fieldAddr (off := 0) (o' := 0) rfl Tryz.runUnderlying42 rfl Tryz.sizeOf3 rfl rfl) ?_
        refine sst rfl (n_store rfl rfl rfl Tryz.sizeOf3 .z .hd) ?_
        refine gol_nil ?_
        refine go_seq ?_
        refine go_draws (n := 82) [(p, folObj f.chain mb lvv cv)] mix rfl (by decide +kernel) (keep1 (by simp)) ?_
        refine dq 0 rfl rfl rfl rfl (q_move rfl) ?_
        refine dq 1 rfl rfl rfl rfl (q_nil rfl) ?_
        refine dq 2 rfl rfl rfl rfl (q_fieldAddr (off := 0) (o' := 0) rfl Tryz.runUnderlying140 rfl Tryz.sizeOf3 rfl rfl) ?_
        refine dq 3 rfl rfl rfl rfl (q_load (cs := folCells _ _ _ _) rfl Tryz.isAgg3 .hd .z) ?_
        refine dq 4 rfl rfl rfl rfl (q_sub (a := 3) (b := f.chain) (c := 3 - f.chain) rfl rfl (i64_in (by omega) (by omega))) ?_
        refine dq 5 rfl rfl rfl rfl (q_move rfl) ?_
        refine dq 6 rfl rfl rfl rfl (q_nil rfl) ?_
        refine dq 7 rfl rfl rfl rfl (q_fieldAddr (off := 0) (o' := 0) rfl Tryz.runUnderlying140 rfl Tryz.sizeOf3 rfl rfl) ?_
        refine dq 8 rfl rfl rfl rfl (q_load (cs := folCells _ _ _ _) rfl Tryz.isAgg3 .hd .z) ?_
        refine dq 9 rfl rfl rfl rfl (q_sub (a := 3) (b := f.chain) (c := 3 - f.chain) rfl rfl (i64_in (by omega) (by omega))) ?_
        refine dq 10 rfl rfl rfl rfl (q_move rfl) ?_
        refine dq 11 rfl rfl rfl rfl (q_nil rfl) ?_
        refine dq 12 rfl rfl rfl rfl (q_fieldAddr (off := 0) (o' := 0) rfl Tryz.runUnderlying140 rfl Tryz.sizeOf3 rfl rfl) ?_
        refine dq 13 rfl rfl rfl rfl (q_load (cs := folCells _ _ _ _) rfl Tryz.isAgg3 .hd .z) ?_
        refine dq 14 rfl rfl rfl rfl (q_sub (a := 3) (b := f.chain) (c := 3 - f.chain) rfl rfl (i64_in (by omega) (by omega))) ?_
        refine dq 15 rfl rfl rfl rfl (q_move rfl) ?_
        refine dq 16 rfl rfl rfl rfl (q_nil rfl) ?_
        refine dq 17 rfl rfl rfl rfl (q_fieldAddr (off := 0) (o' := 0) rfl Tryz.runUnderlying140 rfl Tryz.sizeOf3 rfl rfl) ?_
        refine dq 18 rfl rfl rfl rfl (q_load (cs := folCells _ _ _ _) rfl Tryz.isAgg3 .hd .z) ?_
        refine dq 20 rfl rfl rfl rfl (q_move rfl) ?_
        refine d2 19 21 rfl rfl rfl (by decide +kernel) rfl rfl (n_buildSlice (sz := 1) (l' := (dsts f.chain).flatMap ic) (.cons rfl (.one rfl) rfl (.cons rfl (.one rfl) rfl (.cons rfl (.one rfl) rfl (.cons rfl (.one rfl) rfl (.cons rfl (.one rfl) rfl (.cons rfl (.one rfl) rfl (.cons rfl (.one rfl) rfl (.cons rfl (.one rfl) rfl .nil)))))))) rfl Tryz.runUnderlying24 Tryz.sizeOf3 Tryz.zeroValue3 rfl rfl) (n_call rfl Tryz.call19 (c19 (n := 8) hgv hgl (by omega) (by omega) (by omega) (.tl (.tl .hd)))) (fun _ _ _ _ ⟨_, _, _, e3⟩ => by subst e3; exact fun b o hb => List.mem_cons_of_mem _ ((keep1 (by simp)) b o hb)) (by rintro _ _ _ - ⟨_, rfl, rfl⟩; first | exact keep1 (by simp) | exact keep2 (by simp) (by simp)) ?_ ?_
        ·
          rintro _ _ _ - ⟨b4, rfl, rfl, rfl⟩
          refine goc_keep [(b4, .cells ((dsts f.chain).flatMap ic).toArray 3 (0, 0)), (p, folObj f.chain mb lvv cv)] (keep1 (by simp)) (keep2 (by simp) (by simp)) ?_
          refine dn 21 rfl rfl rfl rfl (by decide +kernel) (n_call rfl Tryz.call19 (c19 (n := 8) hgv hgl (by omega) (by omega) (by omega) (.tl (.tl (.tl .hd))))) (by rintro _ _ _ - ⟨_, rfl, rfl⟩; first | exact keep1 (by simp) | exact keep2 (by simp) (by simp)) ?_
          rintro _ σ _ - ⟨⟨m8, rfl, hm8⟩, rfl, rfl⟩
          refine dq 22 rfl rfl rfl rfl (q_indexAddr (j := m8) (o' := m8) rfl rfl Tryz.runUnderlying24 Tryz.sizeOf3 rfl hm8 (by omega)) ?_
          have h8 : m8 < (dsts f.chain).length := hm8
          refine dq 23 rfl rfl rfl rfl (q_load (v := iv (dsts f.chain)[m8]) rfl Tryz.isAgg3 .hd (ic_at h8)) ?_
          refine dq 24 rfl rfl rfl rfl (q_fieldAddr (off := 5) (o' := 5) rfl Tryz.runUnderlying42 rfl Tryz.sizeOf3 rfl rfl) ?_
          refine dsta 25 rfl rfl rfl rfl (by decide +kernel) (by decide +kernel) (n_store rfl rfl rfl Tryz.sizeOf3 (.s (.s (.s (.s (.s .z))))) (.tl .hd)) ?_
          generalize (dsts f.chain)[m8] = dst'
          refine dend rfl ?_
          refine go_region ?_
          refine sq rfl (q_move rfl) ?_
          refine sn rfl (n_call rfl Tryz.call19 (c19 (n := 13) hgv hgl (by omega) (by omega) (by omega) (.tl (.tl (.tl .hd))))) ?_
          rintro _ σ _ - ⟨⟨m9, rfl, hm9⟩, rfl, rfl⟩
          refine sq rfl (q_fieldAddr (off := 6) (o' := 6) rfl Tryz.runUnderlying42 rfl Tryz.sizeOf2 rfl rfl) ?_
          refine sst rfl (n_store rfl rfl rfl Tryz.sizeOf2 (.s (.s (.s (.s (.s (.s .z)))))) (.tl .hd)) ?_
          refine gol_nil ?_
          refine go_seq ?_
          refine go_region ?_
          refine sq rfl (q_loadA (vs := txCells (Pl.lock u v amt nonce dst' (m9 : Nat)).tx nilS) rfl Tryz.isAgg42 Tryz.sizeOf42 (.tl .hd) (Part.all rfl)) ?_
          refine sst rfl (n_storeA rfl rfl (vs := txCells (Pl.lock u v amt nonce dst' (m9 : Nat)).tx nilS) (tx_one rfl) Tryz.sizeOf42 rfl (.tl (.tl .hd)) (PutAt.all rfl)) ?_
          refine gol_nil ?_
          refine go_retR Tryz.func27 Tryz.results27 rfl (.cellA rfl Tryz.isAgg42 Tryz.sizeOf42 (.tl (.tl .hd)) (Part.all rfl) .nil) (.cons _ (.cons _ (.cons _ (List.Sublist.refl _)))) (by repeat (first | exact Sto.le_refl _ | assumption | refine Sto.le_trans ?_ (by assumption))) ?_
          exact ⟨.lock u v amt nonce dst' (m9 : Nat), j + 1 + 1 + 1, rfl, hu, hv, by omega, by omega, rfl, rfl⟩
        ·
          rintro _ σ _ - ⟨⟨m8, rfl, hm8⟩, rfl, rfl⟩
          refine dns 19 rfl rfl rfl rfl (by decide +kernel) (n_buildSlice (sz := 1) (l' := (dsts f.chain).flatMap ic) (.cons rfl (.one rfl) rfl (.cons rfl (.one rfl) rfl (.cons rfl (.one rfl) rfl (.cons rfl (.one rfl) rfl (.cons rfl (.one rfl) rfl (.cons rfl (.one rfl) rfl (.cons rfl (.one rfl) rfl (.cons rfl (.one rfl) rfl .nil)))))))) rfl Tryz.runUnderlying24 Tryz.sizeOf3 Tryz.zeroValue3 rfl rfl) (keep1 (by simp)) ?_
          intro b4
          refine goc_keep [(b4, .cells ((dsts f.chain).flatMap ic).toArray 3 (0, 0)), (p, folObj f.chain mb lvv cv)] (keep1 (by simp)) (keep2 (by simp) (by simp)) ?_
          refine dq 22 rfl rfl rfl rfl (q_indexAddr (j := m8) (o' := m8) rfl rfl Tryz.runUnderlying24 Tryz.sizeOf3 rfl hm8 (by omega)) ?_
          have h8 : m8 < (dsts f.chain).length := hm8
          refine dq 23 rfl rfl rfl rfl (q_load (v := iv (dsts f.chain)[m8]) rfl Tryz.isAgg3 .hd (ic_at h8)) ?_
          refine dq 24 rfl rfl rfl rfl (q_fieldAddr (off := 5) (o' := 5) rfl Tryz.runUnderlying42 rfl Tryz.sizeOf3 rfl rfl) ?_
          refine dsta 25 rfl rfl rfl rfl (by decide +kernel) (by decide +kernel) (n_store rfl rfl rfl Tryz.sizeOf3 (.s (.s (.s (.s (.s .z))))) (.tl .hd)) ?_
          generalize (dsts f.chain)[m8] = dst'
          refine dend rfl ?_
          refine go_region ?_
          refine sq rfl (q_move rfl) ?_
          refine sn rfl (n_call rfl Tryz.call19 (c19 (n := 13) hgv hgl (by omega) (by omega) (by omega) (.tl (.tl (.tl .hd))))) ?_
          rintro _ σ _ - ⟨⟨m9, rfl, hm9⟩, rfl, rfl⟩
          refine sq rfl (q_fieldAddr (off := 6) (o' := 6) rfl Tryz.runUnderlying42 rfl Tryz.sizeOf2 rfl rfl) ?_
          refine sst rfl (n_store rfl rfl rfl Tryz.sizeOf2 (.s (.s (.s (.s (.s (.s .z)))))) (.tl .hd)) ?_
          refine gol_nil ?_
          refine go_seq ?_
          refine go_region ?_
          refine sq rfl (q_loadA (vs := txCells (Pl.lock u v amt nonce dst' (m9 : Nat)).tx nilS) rfl Tryz.isAgg42 Tryz.sizeOf42 (.tl .hd) (Part.all rfl)) ?_
          refine sst rfl (n_storeA rfl rfl (vs := txCells (Pl.lock u v amt nonce dst' (m9 : Nat)).tx nilS) (tx_one rfl) Tryz.sizeOf42 rfl (.tl (.tl .hd)) (PutAt.all rfl)) ?_
          refine gol_nil ?_
          refine go_retR Tryz.func27 Tryz.results27 rfl (.cellA rfl Tryz.isAgg42 Tryz.sizeOf42 (.tl (.tl .hd)) (Part.all rfl) .nil) (.cons _ (.cons _ (.cons _ (List.Sublist.refl _)))) (by repeat (first | exact Sto.le_refl _ | assumption | refine Sto.le_trans ?_ (by assumption))) ?_
          exact ⟨.lock u v amt nonce dst' (m9 : Nat), j + 1 + 1 + 1, rfl, hu, hv, by omega, by omega, rfl, rfl⟩
      ·
        refine go_skip ?_
        refine go_seq ?_
        refine go_region ?_
        refine sq rfl (q_loadA (vs := txCells (Pl.pay u v amt nonce).tx nilS) rfl Tryz.isAgg42 Tryz.sizeOf42 .hd (Part.all rfl)) ?_
        refine sst rfl (n_storeA rfl rfl (vs := txCells (Pl.pay u v amt nonce).tx nilS) (tx_one rfl) Tryz.sizeOf42 rfl (.tl .hd) (PutAt.all rfl)) ?_
        refine gol_nil ?_
        refine go_retR Tryz.func27 Tryz.results27 rfl (.cellA rfl Tryz.isAgg42 Tryz.sizeOf42 (.tl .hd) (Part.all rfl) .nil) (.cons _ (.cons _ (List.Sublist.refl _))) (by repeat (first | exact Sto.le_refl _ | assumption | refine Sto.le_trans ?_ (by assumption))) ?_
        exact ⟨.pay u v amt nonce, j + 1, rfl, hu, hv, by omega, by omega, rfl, rfl⟩
end Go.Eng
namespace Go.Eng
open Go Go.Proofs
set_option maxRecDepth 20000
theorem c28_pay {σ : Sto} {L Lf : SHeap} {p : Nat} {f : Fol} (hf : FolO p f Lf) {T : TypeId} {fr : Nat × Nat} (hK : σ 1 = some (.cells (ucells K256).toArray T fr)) {fv : Value} (hfv : oneCell fv = true) (hn : f.locks.length < 1000000) (a b m o : UInt64) : Ctr Tryz.prog 28 #[.pointer (some ⟨p, 0, none⟩), .agg (txCells (payTx a b m o) fv).toArray] σ (Lf ++ L) fun r σ' L' => r = iv (f.err (Pl.pay a b m o)) ∧ ∃ Lf', L' = Lf' ++ L ∧ FolO p (f.next (Pl.pay a b m o)) Lf' := by
  refine ctr_enter Tryz.func28 rfl Tryz.ntmps28 (by simp) ?_
  refine go_seq ?_
  refine go_region ?_
  refine snb rfl (n_box rfl (.agg (l := txCells (payTx a b m o) fv))) ?_
  intro b1
  refine gol_in ?_
  refine sq rfl (q_assign rfl) ?_
  refine gol_nil ?_
  refine go_seq ?_
  refine go_seq ?_
  refine go_region ?_
  refine sq rfl (q_fieldAddr (off := 0) (o' := 0) rfl Tryz.runUnderlying42 rfl Tryz.sizeOf3 rfl rfl) ?_
  refine sq rfl (q_load (cs := txCells (payTx a b m o) fv) (v := iv 1) rfl Tryz.isAgg3 (Kn.app _ .hd) .z) ?_
  refine sq rfl (q_eql (a := 1) (b := 2) rfl rfl) ?_
  rw [show decide ((1 : Int) = 2) = false from decide_eq_false (by decide)]
  refine gol_nil ?_
  refine go_condF rfl rfl ?_
  refine go_skip ?_
  refine go_seq ?_
  refine go_region ?_
  refine sq rfl (q_move rfl) ?_
  refine sq rfl (q_loadA (vs := txCells (payTx a b m o) fv) rfl Tryz.isAgg42 Tryz.sizeOf42 (Kn.app _ .hd) (Part.all rfl)) ?_
  refine sn rfl (n_call rfl Tryz.call55 (c55 hf (x := payTx a b m o) rfl hfv)) ?_
  rintro _ σ _ - ⟨rfl, rfl, rfl⟩
  refine sq rfl (q_assign rfl) ?_
  refine gol_nil ?_
  refine go_seq ?_
  refine go_seq ?_
  refine go_region ?_
  refine sq rfl (q_move rfl) ?_
  refine sq rfl (q_neq (a := f.spends a m o) (b := 0) rfl rfl) ?_
  refine gol_nil ?_
  refine go_cond rfl rfl (fun hc1 => ?_) (fun hc1 => ?_)
  ·
    have h1 : f.spends a m o ≠ 0 := by simpa using hc1
    refine go_seq ?_
    refine go_region ?_
    refine sq rfl (q_move rfl) ?_
    refine sq rfl (q_assign rfl) ?_
    refine gol_nil ?_
    refine go_drop (Lf ++ L) ((List.Sublist.refl _).append (List.sublist_cons_self _ _)) ?_
    refine go_ret Tryz.func28 Tryz.results28 rfl rfl rfl (by repeat (first | exact Sto.le_refl _ | assumption | refine Sto.le_trans ?_ (by assumption))) ?_
    exact ⟨by rw [Fol.err]; rfl, Lf, rfl, by rw [Fol.next, if_pos h1]; exact hf⟩
  ·
    have h1 : f.spends a m o = 0 := by simpa using hc1
    refine go_skip ?_
    refine go_seq ?_
    refine go_meet (Sto × Nat) (fun x => Sto.le σ x.1) (fun x => [(0, .pointer (some ⟨p, 0, none⟩)), (3, .pointer (some ⟨b1, 0, none⟩)), (6, .pointer (some ⟨x.2, 0, none⟩))]) (fun x => x.1) (fun x => Lf ++ ((x.2, .cells (bcells (lockId f.chain a o)).toArray 27 (0, 0)) :: (b1, .cells (txCells (payTx a b m o) fv).toArray 42 (0, 0)) :: L)) (fun meet => ?_) ?_
    ·
      obtain ⟨mb0, lv0, cv0, hk0⟩ := hf.kn σ ((b1, .cells (txCells (payTx a b m o) fv).toArray 42 (0, 0)) :: L)
      refine go_draws (n := 97) _ mix rfl (by decide +kernel) (Keep.refl _) ?_
      refine dq 0 rfl rfl rfl rfl (q_move rfl) ?_
      refine dq 1 rfl rfl rfl rfl (q_nil rfl) ?_
      refine dq 2 rfl rfl rfl rfl (q_fieldAddr (off := 0) (o' := 0) rfl Tryz.runUnderlying140 rfl Tryz.sizeOf3 rfl rfl) ?_
      refine dq 3 rfl rfl rfl rfl (q_load (cs := folCells _ _ _ _) rfl Tryz.isAgg3 hk0 .z) ?_
      refine dq 4 rfl rfl rfl rfl (q_fieldAddr (off := 1) (o' := 1) rfl Tryz.runUnderlying42 rfl Tryz.sizeOf31 rfl rfl) ?_
      refine dq 5 rfl rfl rfl rfl (q_load (cs := txCells (payTx a b m o) fv) (v := w6 a) rfl Tryz.isAgg31 (Kn.app _ .hd) (.s .z)) ?_
      refine dq 6 rfl rfl rfl rfl (q_fieldAddr (off := 4) (o' := 4) rfl Tryz.runUnderlying42 rfl Tryz.sizeOf31 rfl rfl) ?_
      refine dq 7 rfl rfl rfl rfl (q_load (cs := txCells (payTx a b m o) fv) (v := w6 o) rfl Tryz.isAgg31 (Kn.app _ .hd) (.s (.s (.s (.s .z))))) ?_
      refine d2 8 9 rfl rfl rfl (by decide +kernel) rfl rfl (n_call rfl Tryz.call56 (c56 hK)) (n_alloc zero27z .agg) (fun _ _ _ _ h => by rw [h.2]; first | exact Keep.refl _ | exact Keep.cons _ _) (fun _ _ _ _ ⟨_, _, _, e3⟩ => by subst e3; exact fun b o hb => List.mem_cons_of_mem _ (Keep.refl _ b o hb)) ?_ ?_
      ·
        rintro _ σ2 _ hle2 ⟨rfl, rfl⟩
        refine dnb 9 rfl rfl rfl rfl (by decide +kernel) (n_alloc zero27z .agg) (Keep.refl _) ?_
        intro b2
        refine dsta 10 rfl rfl rfl rfl (by decide +kernel) (by decide +kernel) (n_storeA rfl rfl (vs := bcells (lockId f.chain a o)) (bcells_one _) Tryz.sizeOf27 (by rw [bcells_len, lockId_len]) .hd (PutAt.all (by rw [bcells_len, bcells_len, lockId_len]; rfl))) ?_
        refine dend rfl ?_
        exact go_perm _ List.perm_middle.symm (go_next (meet (σ2, b2) hle2) ⟨rfl, rfl, rfl, trivial⟩)
      ·
        rintro _ _ _ - ⟨b2, rfl, rfl, rfl⟩
        refine dn 8 rfl rfl rfl rfl (by decide +kernel) (n_call rfl Tryz.call56 (c56 hK)) (fun _ _ _ _ h => by rw [h.2]; first | exact Keep.refl _ | exact Keep.cons _ _) ?_
        rintro _ σ2 _ hle2 ⟨rfl, rfl⟩
        refine dsta 10 rfl rfl rfl rfl (by decide +kernel) (by decide +kernel) (n_storeA rfl rfl (vs := bcells (lockId f.chain a o)) (bcells_one _) Tryz.sizeOf27 (by rw [bcells_len, lockId_len]) .hd (PutAt.all (by rw [bcells_len, bcells_len, lockId_len]; rfl))) ?_
        refine dend rfl ?_
        exact go_perm _ List.perm_middle.symm (go_next (meet (σ2, b2) hle2) ⟨rfl, rfl, rfl, trivial⟩)
    ·
      rintro ⟨σ1, b2⟩ hle1
      simp only at hle1 ⊢
      refine go_seq ?_
      refine go_seq ?_
      refine go_region ?_
      refine sq rfl (q_fieldAddr (off := 0) (o' := 0) rfl Tryz.runUnderlying42 rfl Tryz.sizeOf3 rfl rfl) ?_
      refine sq rfl (q_load (cs := txCells (payTx a b m o) fv) (v := iv 1) rfl Tryz.isAgg3 (Kn.app _ (.tl .hd)) .z) ?_
      refine sq rfl (q_eql (a := 1) (b := 2) rfl rfl) ?_
      rw [show decide ((1 : Int) = 2) = false from decide_eq_false (by decide)]
      refine gol_nil ?_
      refine go_condF rfl rfl ?_
      refine go_skip ?_
      refine go_seq ?_
      refine go_region ?_
      refine sq rfl (q_move rfl) ?_
      refine sq rfl (q_loadA (vs := txCells (payTx a b m o) fv) rfl Tryz.isAgg42 Tryz.sizeOf42 (Kn.app _ (.tl .hd)) (Part.all rfl)) ?_
      refine sn rfl (n_call rfl Tryz.call58 (c58 hf (x := payTx a b m o) rfl hfv)) ?_
      rintro _ σ1 _ - ⟨rfl, rfl, Lf2, rfl, hf2⟩
      refine gol_nil ?_
      refine go_seq ?_
      refine go_seq ?_
      refine go_region ?_
      refine sq rfl (q_fieldAddr (off := 0) (o' := 0) rfl Tryz.runUnderlying42 rfl Tryz.sizeOf3 rfl rfl) ?_
      refine sq rfl (q_load (cs := txCells (payTx a b m o) fv) (v := iv 1) rfl Tryz.isAgg3 (Kn.app _ (.tl .hd)) .z) ?_
      refine sq rfl (q_eql (a := 1) (b := 1) rfl rfl) ?_
      rw [show decide ((1 : Int) = 1) = true from decide_eq_true (by decide)]
      refine gol_nil ?_
      refine go_condT rfl rfl ?_
      refine go_region ?_
      refine sq rfl (q_move rfl) ?_
      refine sq rfl (q_fieldAddr (off := 2) (o' := 2) rfl Tryz.runUnderlying42 rfl Tryz.sizeOf31 rfl rfl) ?_
      refine sq rfl (q_load (cs := txCells (payTx a b m o) fv) (v := w6 b) rfl Tryz.isAgg31 (Kn.app _ (.tl .hd)) (.s (.s .z))) ?_
      refine sq rfl (q_fieldAddr (off := 3) (o' := 3) rfl Tryz.runUnderlying42 rfl Tryz.sizeOf31 rfl rfl) ?_
      refine sq rfl (q_load (cs := txCells (payTx a b m o) fv) (v := w6 m) rfl Tryz.isAgg31 (Kn.app _ (.tl .hd)) (.s (.s (.s .z)))) ?_
      refine sn rfl (n_call rfl Tryz.call59 (c59 hf2 b m)) ?_
      rintro _ σ1 _ - ⟨rfl, rfl, Lf3, rfl, hf3⟩
      refine gol_nil ?_
      refine go_seq ?_
      refine go_region ?_
      refine sq rfl (q_assign rfl) ?_
      refine gol_nil ?_
      refine go_drop (Lf3 ++ L) dropM ?_
      refine go_ret Tryz.func28 Tryz.results28 rfl rfl rfl (by repeat (first | exact Sto.le_refl _ | assumption | refine Sto.le_trans ?_ (by assumption))) ?_
      exact ⟨by rw [Fol.err, h1]; rfl, Lf3, rfl, by rw [Fol.next, if_neg (fun e => e h1)]; exact hf3⟩
theorem c28_lock {σ : Sto} {L Lf : SHeap} {p : Nat} {f : Fol} (hf : FolO p f Lf) {T : TypeId} {fr : Nat × Nat} (hK : σ 1 = some (.cells (ucells K256).toArray T fr)) {fv : Value} (hfv : oneCell fv = true) (hn : f.locks.length < 1000000) (a b m o : UInt64) (d l : Int) : Ctr Tryz.prog 28 #[.pointer (some ⟨p, 0, none⟩), .agg (txCells (lockTx a b m o d l) fv).toArray] σ (Lf ++ L) fun r σ' L' => r = iv (f.err (Pl.lock a b m o d l)) ∧ ∃ Lf', L' = Lf' ++ L ∧ FolO p (f.next (Pl.lock a b m o d l)) Lf' := by
  refine ctr_enter Tryz.func28 rfl Tryz.ntmps28 (by simp) ?_
  refine go_seq ?_
  refine go_region ?_
  refine snb rfl (n_box rfl (.agg (l := txCells (lockTx a b m o d l) fv))) ?_
  intro b1
  refine gol_in ?_
  refine sq rfl (q_assign rfl) ?_
  refine gol_nil ?_
  refine go_seq ?_
  refine go_seq ?_
  refine go_region ?_
  refine sq rfl (q_fieldAddr (off := 0) (o' := 0) rfl Tryz.runUnderlying42 rfl Tryz.sizeOf3 rfl rfl) ?_
  refine sq rfl (q_load (cs := txCells (lockTx a b m o d l) fv) (v := iv 2) rfl Tryz.isAgg3 (Kn.app _ .hd) .z) ?_
  refine sq rfl (q_eql (a := 2) (b := 2) rfl rfl) ?_
  rw [show decide ((2 : Int) = 2) = true from decide_eq_true (by decide)]
  refine gol_nil ?_
  refine go_condT rfl rfl ?_
  refine go_seq ?_
  refine go_seq ?_
  obtain ⟨mb0, lv0, cv0, hk0⟩ := hf.kn σ ((b1, .cells (txCells (lockTx a b m o d l) fv).toArray 42 (0, 0)) :: L)
  refine go_draws (n := 97) _ mix rfl (by decide +kernel) (Keep.refl _) ?_
  refine dq 0 rfl rfl rfl rfl (q_move rfl) ?_
  refine dq 1 rfl rfl rfl rfl (q_nil rfl) ?_
  refine dq 2 rfl rfl rfl rfl (q_fieldAddr (off := 0) (o' := 0) rfl Tryz.runUnderlying140 rfl Tryz.sizeOf3 rfl rfl) ?_
  refine dq 3 rfl rfl rfl rfl (q_load (cs := folCells _ _ _ _) rfl Tryz.isAgg3 hk0 .z) ?_
  refine dq 4 rfl rfl rfl rfl (q_lss (a := f.chain) (b := 1) rfl rfl) ?_
  rcases Classical.em (f.chain < 1) with h1 | h1
  ·
    rw [show decide (f.chain < 1) = true from decide_eq_true h1]
    refine dq 5 rfl rfl rfl rfl (q_move rfl) ?_
    refine dskip 6 rfl rfl rfl (by first | exact .inl rfl | exact .inr rfl) rfl rfl rfl ?_
    refine dskip 7 rfl rfl rfl (by first | exact .inl rfl | exact .inr rfl) rfl rfl rfl ?_
    refine dskip 8 rfl rfl rfl (by first | exact .inl rfl | exact .inr rfl) rfl rfl rfl ?_
    refine dq 9 rfl rfl rfl rfl (q_pick rfl rfl rfl rfl) ?_
    refine dq 10 rfl rfl rfl rfl (q_move rfl) ?_
    refine dskip 11 rfl rfl rfl (by first | exact .inl rfl | exact .inr rfl) rfl rfl rfl ?_
    refine dskip 12 rfl rfl rfl (by first | exact .inl rfl | exact .inr rfl) rfl rfl rfl ?_
    refine dskip 13 rfl rfl rfl (by first | exact .inl rfl | exact .inr rfl) rfl rfl rfl ?_
    refine dq 14 rfl rfl rfl rfl (q_pick rfl rfl rfl rfl) ?_
    refine dq 15 rfl rfl rfl rfl (q_move rfl) ?_
    refine dskip 16 rfl rfl rfl (by first | exact .inl rfl | exact .inr rfl) rfl rfl rfl ?_
    refine dskip 17 rfl rfl rfl (by first | exact .inl rfl | exact .inr rfl) rfl rfl rfl ?_
    refine dskip 18 rfl rfl rfl (by first | exact .inl rfl | exact .inr rfl) rfl rfl rfl ?_
    refine dskip 19 rfl rfl rfl (by first | exact .inl rfl | exact .inr rfl) rfl rfl rfl ?_
    refine dskip 20 rfl rfl rfl (by first | exact .inl rfl | exact .inr rfl) rfl rfl rfl ?_
    refine dskip 21 rfl rfl rfl (by first | exact .inl rfl | exact .inr rfl) rfl rfl rfl ?_
    refine dskip 22 rfl rfl rfl (by first | exact .inl rfl | exact .inr rfl) rfl rfl rfl ?_
    refine dq 23 rfl rfl rfl rfl (q_pick rfl rfl rfl rfl) ?_
    refine dend rfl ?_
    refine go_condT rfl rfl ?_
    refine go_seq ?_
    refine go_region ?_
    refine sq rfl (q_assign rfl) ?_
    refine gol_nil ?_
    refine go_drop (Lf ++ L) ((List.Sublist.refl _).append (List.sublist_cons_self _ _)) ?_
    refine go_ret Tryz.func28 Tryz.results28 rfl rfl rfl (by repeat (first | exact Sto.le_refl _ | assumption | refine Sto.le_trans ?_ (by assumption))) ?_
    exact ⟨by rw [Fol.err, if_pos (.inl h1)]; rfl, Lf, rfl, by rw [Fol.next, if_pos (by rw [Fol.err, if_pos (.inl h1)]; decide)]; exact hf⟩
  ·
    rw [show decide (f.chain < 1) = false from decide_eq_false h1]
    refine dq 5 rfl rfl rfl rfl (q_move rfl) ?_
    refine dqg 6 rfl rfl rfl rfl rfl rfl (q_fieldAddr (off := 5) (o' := 5) rfl Tryz.runUnderlying42 rfl Tryz.sizeOf3 rfl rfl) ?_
    refine dqg 7 rfl rfl rfl rfl rfl rfl (q_load (cs := txCells (lockTx a b m o d l) fv) (v := iv d) rfl Tryz.isAgg3 (Kn.app _ .hd) (.s (.s (.s (.s (.s .z)))))) ?_
    refine dqg 8 rfl rfl rfl rfl rfl rfl (q_lss (a := d) (b := 1) rfl rfl) ?_
    rcases Classical.em (d < 1) with h2 | h2
    ·
      rw [show decide (d < 1) = true from decide_eq_true h2]
      refine dq 9 rfl rfl rfl rfl (q_pick rfl rfl rfl rfl) ?_
      refine dq 10 rfl rfl rfl rfl (q_move rfl) ?_
      refine dskip 11 rfl rfl rfl (by first | exact .inl rfl | exact .inr rfl) rfl rfl rfl ?_
      refine dskip 12 rfl rfl rfl (by first | exact .inl rfl | exact .inr rfl) rfl rfl rfl ?_
      refine dskip 13 rfl rfl rfl (by first | exact .inl rfl | exact .inr rfl) rfl rfl rfl ?_
      refine dq 14 rfl rfl rfl rfl (q_pick rfl rfl rfl rfl) ?_
      refine dq 15 rfl rfl rfl rfl (q_move rfl) ?_
      refine dskip 16 rfl rfl rfl (by first | exact .inl rfl | exact .inr rfl) rfl rfl rfl ?_
      refine dskip 17 rfl rfl rfl (by first | exact .inl rfl | exact .inr rfl) rfl rfl rfl ?_
      refine dskip 18 rfl rfl rfl (by first | exact .inl rfl | exact .inr rfl) rfl rfl rfl ?_
      refine dskip 19 rfl rfl rfl (by first | exact .inl rfl | exact .inr rfl) rfl rfl rfl ?_
      refine dskip 20 rfl rfl rfl (by first | exact .inl rfl | exact .inr rfl) rfl rfl rfl ?_
      refine dskip 21 rfl rfl rfl (by first | exact .inl rfl | exact .inr rfl) rfl rfl rfl ?_
      refine dskip 22 rfl rfl rfl (by first | exact .inl rfl | exact .inr rfl) rfl rfl rfl ?_
      refine dq 23 rfl rfl rfl rfl (q_pick rfl rfl rfl rfl) ?_
      refine dend rfl ?_
      refine go_condT rfl rfl ?_
      refine go_seq ?_
      refine go_region ?_
      refine sq rfl (q_assign rfl) ?_
      refine gol_nil ?_
      refine go_drop (Lf ++ L) ((List.Sublist.refl _).append (List.sublist_cons_self _ _)) ?_
      refine go_ret Tryz.func28 Tryz.results28 rfl rfl rfl (by repeat (first | exact Sto.le_refl _ | assumption | refine Sto.le_trans ?_ (by assumption))) ?_
      exact ⟨by rw [Fol.err, if_pos (.inr (.inl h2))]; rfl, Lf, rfl, by rw [Fol.next, if_pos (by rw [Fol.err, if_pos (.inr (.inl h2))]; decide)]; exact hf⟩
    ·
      rw [show decide (d < 1) = false from decide_eq_false h2]
      refine dq 9 rfl rfl rfl rfl (q_pick rfl rfl rfl rfl) ?_
      refine dq 10 rfl rfl rfl rfl (q_move rfl) ?_
      refine dqg 11 rfl rfl rfl rfl rfl rfl (q_fieldAddr (off := 5) (o' := 5) rfl Tryz.runUnderlying42 rfl Tryz.sizeOf3 rfl rfl) ?_
      refine dqg 12 rfl rfl rfl rfl rfl rfl (q_load (cs := txCells (lockTx a b m o d l) fv) (v := iv d) rfl Tryz.isAgg3 (Kn.app _ .hd) (.s (.s (.s (.s (.s .z)))))) ?_
      refine dqg 13 rfl rfl rfl rfl rfl rfl (q_geq (a := d) (b := 4) rfl rfl) ?_
      rcases Classical.em (d ≥ 4) with h3 | h3
      ·
        rw [show decide (d ≥ 4) = true from decide_eq_true h3]
        refine dq 14 rfl rfl rfl rfl (q_pick rfl rfl rfl rfl) ?_
        refine dq 15 rfl rfl rfl rfl (q_move rfl) ?_
        refine dskip 16 rfl rfl rfl (by first | exact .inl rfl | exact .inr rfl) rfl rfl rfl ?_
        refine dskip 17 rfl rfl rfl (by first | exact .inl rfl | exact .inr rfl) rfl rfl rfl ?_
        refine dskip 18 rfl rfl rfl (by first | exact .inl rfl | exact .inr rfl) rfl rfl rfl ?_
        refine dskip 19 rfl rfl rfl (by first | exact .inl rfl | exact .inr rfl) rfl rfl rfl ?_
        refine dskip 20 rfl rfl rfl (by first | exact .inl rfl | exact .inr rfl) rfl rfl rfl ?_
        refine dskip 21 rfl rfl rfl (by first | exact .inl rfl | exact .inr rfl) rfl rfl rfl ?_
        refine dskip 22 rfl rfl rfl (by first | exact .inl rfl | exact .inr rfl) rfl rfl rfl ?_
        refine dq 23 rfl rfl rfl rfl (q_pick rfl rfl rfl rfl) ?_
        refine dend rfl ?_
        refine go_condT rfl rfl ?_
        refine go_seq ?_
        refine go_region ?_
        refine sq rfl (q_assign rfl) ?_
        refine gol_nil ?_
        refine go_drop (Lf ++ L) ((List.Sublist.refl _).append (List.sublist_cons_self _ _)) ?_
        refine go_ret Tryz.func28 Tryz.results28 rfl rfl rfl (by repeat (first | exact Sto.le_refl _ | assumption | refine Sto.le_trans ?_ (by assumption))) ?_
        exact ⟨by rw [Fol.err, if_pos (.inr (.inr (.inl h3)))]; rfl, Lf, rfl, by rw [Fol.next, if_pos (by rw [Fol.err, if_pos (.inr (.inr (.inl h3)))]; decide)]; exact hf⟩
      ·
        rw [show decide (d ≥ 4) = false from decide_eq_false h3]
        refine dq 14 rfl rfl rfl rfl (q_pick rfl rfl rfl rfl) ?_
        refine dq 15 rfl rfl rfl rfl (q_move rfl) ?_
        refine dqg 16 rfl rfl rfl rfl rfl rfl (q_fieldAddr (off := 5) (o' := 5) rfl Tryz.runUnderlying42 rfl Tryz.sizeOf3 rfl rfl) ?_
        refine dqg 17 rfl rfl rfl rfl rfl rfl (q_load (cs := txCells (lockTx a b m o d l) fv) (v := iv d) rfl Tryz.isAgg3 (Kn.app _ .hd) (.s (.s (.s (.s (.s .z)))))) ?_
        refine dqg 18 rfl rfl rfl rfl rfl rfl (q_move rfl) ?_
        refine dqg 19 rfl rfl rfl rfl rfl rfl (q_nil rfl) ?_
        refine dqg 20 rfl rfl rfl rfl rfl rfl (q_fieldAddr (off := 0) (o' := 0) rfl Tryz.runUnderlying140 rfl Tryz.sizeOf3 rfl rfl) ?_
        refine dqg 21 rfl rfl rfl rfl rfl rfl (q_load (cs := folCells _ _ _ _) rfl Tryz.isAgg3 hk0 .z) ?_
        refine dqg 22 rfl rfl rfl rfl rfl rfl (q_eql (a := d) (b := f.chain) rfl rfl) ?_
        rcases Classical.em (d = f.chain) with h4 | h4
        ·
          rw [show decide (d = f.chain) = true from decide_eq_true h4]
          refine dq 23 rfl rfl rfl rfl (q_pick rfl rfl rfl rfl) ?_
          refine dend rfl ?_
          refine go_condT rfl rfl ?_
          refine go_seq ?_
          refine go_region ?_
          refine sq rfl (q_assign rfl) ?_
          refine gol_nil ?_
          refine go_drop (Lf ++ L) ((List.Sublist.refl _).append (List.sublist_cons_self _ _)) ?_
          refine go_ret Tryz.func28 Tryz.results28 rfl rfl rfl (by repeat (first | exact Sto.le_refl _ | assumption | refine Sto.le_trans ?_ (by assumption))) ?_
          exact ⟨by rw [Fol.err, if_pos (.inr (.inr (.inr h4)))]; rfl, Lf, rfl, by rw [Fol.next, if_pos (by rw [Fol.err, if_pos (.inr (.inr (.inr h4)))]; decide)]; exact hf⟩
        ·
          rw [show decide (d = f.chain) = false from decide_eq_false h4]
          have h9 : ¬ (f.chain < 1 ∨ d < 1 ∨ 4 ≤ d ∨ d = f.chain) := fun h => h.elim h1 fun h => h.elim h2 fun h => h.elim h3 h4
          refine dq 23 rfl rfl rfl rfl (q_pick rfl rfl rfl rfl) ?_
          refine dend rfl ?_
          refine go_condF rfl rfl ?_
          refine go_skip ?_
          refine go_seq ?_
          refine go_region ?_
          refine sq rfl (q_fieldAddr (off := 6) (o' := 6) rfl Tryz.runUnderlying42 rfl Tryz.sizeOf2 rfl rfl) ?_
          refine sq rfl (q_load (cs := txCells (lockTx a b m o d l) fv) (v := iv l) rfl Tryz.isAgg2 (Kn.app _ .hd) (.s (.s (.s (.s (.s (.s .z))))))) ?_
          refine sq rfl (q_lss (a := l) (b := 1) rfl rfl) ?_
          rcases Classical.em (l < 1) with h5 | h5
          ·
            rw [show decide (l < 1) = true from decide_eq_true h5]
            refine sq rfl (q_move rfl) ?_
            refine ss rfl rfl ?_
            refine ss rfl rfl ?_
            refine ss rfl rfl ?_
            refine sq rfl (q_pick rfl rfl rfl rfl) ?_
            refine gol_nil ?_
            refine go_condT rfl rfl ?_
            refine go_seq ?_
            refine go_region ?_
            refine sq rfl (q_assign rfl) ?_
            refine gol_nil ?_
            refine go_drop (Lf ++ L) ((List.Sublist.refl _).append (List.sublist_cons_self _ _)) ?_
            refine go_ret Tryz.func28 Tryz.results28 rfl rfl rfl (by repeat (first | exact Sto.le_refl _ | assumption | refine Sto.le_trans ?_ (by assumption))) ?_
            exact ⟨by rw [Fol.err, if_neg h9, if_pos (.inl h5)]; rfl, Lf, rfl, by rw [Fol.next, if_pos (by rw [Fol.err, if_neg h9, if_pos (.inl h5)]; decide)]; exact hf⟩
          ·
            rw [show decide (l < 1) = false from decide_eq_false h5]
            refine sq rfl (q_move rfl) ?_
            refine sqg rfl rfl (q_fieldAddr (off := 6) (o' := 6) rfl Tryz.runUnderlying42 rfl Tryz.sizeOf2 rfl rfl) ?_
            refine sqg rfl rfl (q_load (cs := txCells (lockTx a b m o d l) fv) (v := iv l) rfl Tryz.isAgg2 (Kn.app _ .hd) (.s (.s (.s (.s (.s (.s .z))))))) ?_
            refine sqg rfl rfl (q_gtr (a := l) (b := 1099511627776) rfl rfl) ?_
            rcases Classical.em (l > 1099511627776) with h6 | h6
            ·
              rw [show decide (l > 1099511627776) = true from decide_eq_true h6]
              refine sq rfl (q_pick rfl rfl rfl rfl) ?_
              refine gol_nil ?_
              refine go_condT rfl rfl ?_
              refine go_seq ?_
              refine go_region ?_
              refine sq rfl (q_assign rfl) ?_
              refine gol_nil ?_
              refine go_drop (Lf ++ L) ((List.Sublist.refl _).append (List.sublist_cons_self _ _)) ?_
              refine go_ret Tryz.func28 Tryz.results28 rfl rfl rfl (by repeat (first | exact Sto.le_refl _ | assumption | refine Sto.le_trans ?_ (by assumption))) ?_
              exact ⟨by rw [Fol.err, if_neg h9, if_pos (.inr h6)]; rfl, Lf, rfl, by rw [Fol.next, if_pos (by rw [Fol.err, if_neg h9, if_pos (.inr h6)]; decide)]; exact hf⟩
            ·
              rw [show decide (l > 1099511627776) = false from decide_eq_false h6]
              have h24 : ¬ (l < 1 ∨ 1099511627776 < l) := fun h => h.elim h5 h6
              refine sq rfl (q_pick rfl rfl rfl rfl) ?_
              refine gol_nil ?_
              refine go_condF rfl rfl ?_
              refine go_skip ?_
              refine go_seq ?_
              refine go_region ?_
              refine sq rfl (q_move rfl) ?_
              refine sq rfl (q_loadA (vs := txCells (lockTx a b m o d l) fv) rfl Tryz.isAgg42 Tryz.sizeOf42 (Kn.app _ .hd) (Part.all rfl)) ?_
              refine sn rfl (n_call rfl Tryz.call55 (c55 hf (x := lockTx a b m o d l) rfl hfv)) ?_
              rintro _ σ _ - ⟨rfl, rfl, rfl⟩
              refine sq rfl (q_assign rfl) ?_
              refine gol_nil ?_
              refine go_seq ?_
              refine go_seq ?_
              refine go_region ?_
              refine sq rfl (q_move rfl) ?_
              refine sq rfl (q_neq (a := f.spends a m o) (b := 0) rfl rfl) ?_
              refine gol_nil ?_
              refine go_cond rfl rfl (fun hc3 => ?_) (fun hc3 => ?_)
              ·
                have h1 : f.spends a m o ≠ 0 := by simpa using hc3
                refine go_seq ?_
                refine go_region ?_
                refine sq rfl (q_move rfl) ?_
                refine sq rfl (q_assign rfl) ?_
                refine gol_nil ?_
                refine go_drop (Lf ++ L) ((List.Sublist.refl _).append (List.sublist_cons_self _ _)) ?_
                refine go_ret Tryz.func28 Tryz.results28 rfl rfl rfl (by repeat (first | exact Sto.le_refl _ | assumption | refine Sto.le_trans ?_ (by assumption))) ?_
                exact ⟨by rw [Fol.err, if_neg h9, if_neg h24, if_pos h1]; rfl, Lf, rfl, by rw [Fol.next, if_pos (by rw [Fol.err, if_neg h9, if_neg h24, if_pos h1]; exact h1)]; exact hf⟩
              ·
                have h1 : f.spends a m o = 0 := by simpa using hc3
                refine go_skip ?_
                refine go_seq ?_
                refine go_meet (Sto × Nat) (fun x => Sto.le σ x.1) (fun x => [(0, .pointer (some ⟨p, 0, none⟩)), (3, .pointer (some ⟨b1, 0, none⟩)), (6, .pointer (some ⟨x.2, 0, none⟩))]) (fun x => x.1) (fun x => Lf ++ ((x.2, .cells (bcells (lockId f.chain a o)).toArray 27 (0, 0)) :: (b1, .cells (txCells (lockTx a b m o d l) fv).toArray 42 (0, 0)) :: L)) (fun meet => ?_) ?_
                ·
                  obtain ⟨mb0, lv0, cv0, hk0⟩ := hf.kn σ ((b1, .cells (txCells (lockTx a b m o d l) fv).toArray 42 (0, 0)) :: L)
                  refine go_draws (n := 97) _ mix rfl (by decide +kernel) (Keep.refl _) ?_
                  refine dq 0 rfl rfl rfl rfl (q_move rfl) ?_
                  refine dq 1 rfl rfl rfl rfl (q_nil rfl) ?_
                  refine dq 2 rfl rfl rfl rfl (q_fieldAddr (off := 0) (o' := 0) rfl Tryz.runUnderlying140 rfl Tryz.sizeOf3 rfl rfl) ?_
                  refine dq 3 rfl rfl rfl rfl (q_load (cs := folCells _ _ _ _) rfl Tryz.isAgg3 hk0 .z) ?_
                  refine dq 4 rfl rfl rfl rfl (q_fieldAddr (off := 1) (o' := 1) rfl Tryz.runUnderlying42 rfl Tryz.sizeOf31 rfl rfl) ?_
                  refine dq 5 rfl rfl rfl rfl (q_load (cs := txCells (lockTx a b m o d l) fv) (v := w6 a) rfl Tryz.isAgg31 (Kn.app _ .hd) (.s .z)) ?_
                  refine dq 6 rfl rfl rfl rfl (q_fieldAddr (off := 4) (o' := 4) rfl Tryz.runUnderlying42 rfl Tryz.sizeOf31 rfl rfl) ?_
                  refine dq 7 rfl rfl rfl rfl (q_load (cs := txCells (lockTx a b m o d l) fv) (v := w6 o) rfl Tryz.isAgg31 (Kn.app _ .hd) (.s (.s (.s (.s .z))))) ?_
                  refine d2 8 9 rfl rfl rfl (by decide +kernel) rfl rfl (n_call rfl Tryz.call56 (c56 hK)) (n_alloc zero27z .agg) (fun _ _ _ _ h => by rw [h.2]; first | exact Keep.refl _ | exact Keep.cons _ _) (fun _ _ _ _ ⟨_, _, _, e3⟩ => by subst e3; exact fun b o hb => List.mem_cons_of_mem _ (Keep.refl _ b o hb)) ?_ ?_
                  ·
                    rintro _ σ2 _ hle2 ⟨rfl, rfl⟩
                    refine dnb 9 rfl rfl rfl rfl (by decide +kernel) (n_alloc zero27z .agg) (Keep.refl _) ?_
                    intro b2
                    refine dsta 10 rfl rfl rfl rfl (by decide +kernel) (by decide +kernel) (n_storeA rfl rfl (vs := bcells (lockId f.chain a o)) (bcells_one _) Tryz.sizeOf27 (by rw [bcells_len, lockId_len]) .hd (PutAt.all (by rw [bcells_len, bcells_len, lockId_len]; rfl))) ?_
                    refine dend rfl ?_
                    exact go_perm _ List.perm_middle.symm (go_next (meet (σ2, b2) hle2) ⟨rfl, rfl, rfl, trivial⟩)
                  ·
                    rintro _ _ _ - ⟨b2, rfl, rfl, rfl⟩
                    refine dn 8 rfl rfl rfl rfl (by decide +kernel) (n_call rfl Tryz.call56 (c56 hK)) (fun _ _ _ _ h => by rw [h.2]; first | exact Keep.refl _ | exact Keep.cons _ _) ?_
                    rintro _ σ2 _ hle2 ⟨rfl, rfl⟩
                    refine dsta 10 rfl rfl rfl rfl (by decide +kernel) (by decide +kernel) (n_storeA rfl rfl (vs := bcells (lockId f.chain a o)) (bcells_one _) Tryz.sizeOf27 (by rw [bcells_len, lockId_len]) .hd (PutAt.all (by rw [bcells_len, bcells_len, lockId_len]; rfl))) ?_
                    refine dend rfl ?_
                    exact go_perm _ List.perm_middle.symm (go_next (meet (σ2, b2) hle2) ⟨rfl, rfl, rfl, trivial⟩)
                ·
                  rintro ⟨σ1, b2⟩ hle1
                  simp only at hle1 ⊢
                  refine go_seq ?_
                  refine go_seq ?_
                  refine go_region ?_
                  refine sq rfl (q_fieldAddr (off := 0) (o' := 0) rfl Tryz.runUnderlying42 rfl Tryz.sizeOf3 rfl rfl) ?_
                  refine sq rfl (q_load (cs := txCells (lockTx a b m o d l) fv) (v := iv 2) rfl Tryz.isAgg3 (Kn.app _ (.tl .hd)) .z) ?_
                  refine sq rfl (q_eql (a := 2) (b := 2) rfl rfl) ?_
                  rw [show decide ((2 : Int) = 2) = true from decide_eq_true (by decide)]
                  refine gol_nil ?_
                  refine go_condT rfl rfl ?_
                  refine go_seq ?_
                  refine go_seq ?_
                  refine go_region ?_
                  refine sq rfl (q_move rfl) ?_
                  refine sq rfl (q_loadA (vs := bcells (lockId f.chain a o)) rfl Tryz.isAgg27 Tryz.sizeOf27 (Kn.app _ .hd) (Part.all (by rw [bcells_len, lockId_len]))) ?_
                  refine sn rfl (n_call rfl Tryz.call57 (c57 hf (lockId_len _ _ _) (by omega))) ?_
                  rintro _ σ1 _ - ⟨rfl, rfl, rfl⟩
                  refine sq rfl (q_geq (a := f.lock (lockId f.chain a o)) (b := 0) rfl rfl) ?_
                  refine gol_nil ?_
                  refine go_cond rfl rfl (fun hc5 => ?_) (fun hc5 => ?_)
                  ·
                    have hh : 0 ≤ f.lock (lockId f.chain a o) := of_decide_eq_true hc5
                    refine go_seq ?_
                    refine go_region ?_
                    refine sq rfl (q_assign rfl) ?_
                    refine gol_nil ?_
                    refine go_drop (Lf ++ L) dropM ?_
                    refine go_ret Tryz.func28 Tryz.results28 rfl rfl rfl (by repeat (first | exact Sto.le_refl _ | assumption | refine Sto.le_trans ?_ (by assumption))) ?_
                    exact ⟨by rw [Fol.err, if_neg h9, if_neg h24, if_neg (fun e => e h1), if_pos hh]; rfl, Lf, rfl, by rw [Fol.next, if_pos (by rw [Fol.err, if_neg h9, if_neg h24, if_neg (fun e => e h1), if_pos hh]; decide)]; exact hf⟩
                  ·
                    have hh : ¬ 0 ≤ f.lock (lockId f.chain a o) := of_decide_eq_false hc5
                    refine go_skip ?_
                    obtain ⟨mb, es, ck, lvv, cv, Ll, Lc, rfl, hp, hl, hc⟩ := hf.out
                    obtain ⟨ql, cl, rfl⟩ := hl.val
                    refine go_perm _ (permF _ _ _ _ _) ?_
                    refine go_draws (n := 97) [(p, folObj f.chain mb (.slice ql f.locks.length cl) cv), (b2, .cells (bcells (lockId f.chain a o)).toArray 27 (0, 0)), (b1, .cells (txCells (lockTx a b m o d l) fv).toArray 42 (0, 0))] mix rfl (by decide +kernel) (keep3 (by simp) (by simp) (by simp)) ?_
                    refine dq 0 rfl rfl rfl rfl (q_move rfl) ?_
                    refine dq 1 rfl rfl rfl rfl (q_move rfl) ?_
                    refine dq 2 rfl rfl rfl rfl (q_nil rfl) ?_
                    refine dq 3 rfl rfl rfl rfl (q_fieldAddr (off := 2) (o' := 2) rfl Tryz.runUnderlying140 rfl Tryz.sizeOf47 rfl rfl) ?_
                    refine dq 4 rfl rfl rfl rfl (q_load (cs := folCells _ _ _ _) rfl Tryz.isAgg47 .hd (.s (.s .z))) ?_
                    refine dq 5 rfl rfl rfl rfl (q_loadA (vs := bcells (lockId f.chain a o)) rfl Tryz.isAgg27 Tryz.sizeOf27 (.tl .hd) (Part.all (by rw [bcells_len, lockId_len]))) ?_
                    refine dq 6 rfl rfl rfl rfl (q_fieldAddr (off := 1) (o' := 1) rfl Tryz.runUnderlying42 rfl Tryz.sizeOf31 rfl rfl) ?_
                    refine dq 7 rfl rfl rfl rfl (q_load (cs := txCells (lockTx a b m o d l) fv) (v := w6 a) rfl Tryz.isAgg31 (.tl (.tl .hd)) (.s .z)) ?_
                    refine dq 8 rfl rfl rfl rfl (q_fieldAddr (off := 2) (o' := 2) rfl Tryz.runUnderlying42 rfl Tryz.sizeOf31 rfl rfl) ?_
                    refine dq 9 rfl rfl rfl rfl (q_load (cs := txCells (lockTx a b m o d l) fv) (v := w6 b) rfl Tryz.isAgg31 (.tl (.tl .hd)) (.s (.s .z))) ?_
                    refine dq 10 rfl rfl rfl rfl (q_fieldAddr (off := 3) (o' := 3) rfl Tryz.runUnderlying42 rfl Tryz.sizeOf31 rfl rfl) ?_
                    refine dq 11 rfl rfl rfl rfl (q_load (cs := txCells (lockTx a b m o d l) fv) (v := w6 m) rfl Tryz.isAgg31 (.tl (.tl .hd)) (.s (.s (.s .z)))) ?_
                    refine dq 12 rfl rfl rfl rfl (q_fieldAddr (off := 5) (o' := 5) rfl Tryz.runUnderlying42 rfl Tryz.sizeOf3 rfl rfl) ?_
                    refine dq 13 rfl rfl rfl rfl (q_load (cs := txCells (lockTx a b m o d l) fv) (v := iv d) rfl Tryz.isAgg3 (.tl (.tl .hd)) (.s (.s (.s (.s (.s .z)))))) ?_
                    refine dq 14 rfl rfl rfl rfl (q_fieldAddr (off := 6) (o' := 6) rfl Tryz.runUnderlying42 rfl Tryz.sizeOf2 rfl rfl) ?_
                    refine dq 15 rfl rfl rfl rfl (q_load (cs := txCells (lockTx a b m o d l) fv) (v := iv l) rfl Tryz.isAgg2 (.tl (.tl .hd)) (.s (.s (.s (.s (.s (.s .z))))))) ?_
                    refine dq 16 rfl rfl rfl rfl (q_buildS (ns := [32, 1, 1, 1, 1, 1, 1]) (l' := lockCells (⟨lockId f.chain a o, a, b, m, d, l, 1⟩ : Lck)) (.put (z := bcells z32) rfl .agg (by rw [bcells_len, lockId_len]) rfl (.put (z := [_]) rfl (.one rfl) rfl rfl (.put (z := [_]) rfl (.one rfl) rfl rfl (.put (z := [_]) rfl (.one rfl) rfl rfl (.put (z := [_]) rfl (.one rfl) rfl rfl (.put (z := [_]) rfl (.one rfl) rfl rfl (.put (z := [_]) rfl (.one rfl) rfl rfl .nil))))))) zero60 Tryz.runUnderlying60 (places60 Tryz.runUnderlying60) rfl) ?_
                    refine dns 17 rfl rfl rfl rfl (by decide +kernel) (n_buildSlice (sz := 38) (l := lockCells (⟨lockId f.chain a o, a, b, m, d, l, 1⟩ : Lck) ++ []) (.cons rfl .agg (lk_len (lockId_len _ _ _)) .nil) rfl Tryz.runUnderlying47 Tryz.sizeOf60 zero60 rfl rfl) (keep3 (by simp) (by simp) (by simp)) ?_
                    intro bv
                    refine goc_perm _ (List.perm_middle.symm) ?_
                    refine dn 18 rfl rfl rfl rfl (by decide +kernel) (n_append (n := f.locks.length) (m := 1) (Lp := Ll) (L0 := _) (cs := f.locks.flatMap lockCells) (new := lockCells (⟨lockId f.chain a o, a, b, m, d, l, 1⟩ : Lck) ++ []) rfl rfl Tryz.runUnderlying47 Tryz.sizeOf60 Tryz.typeInfo60 rfl zero60 rfl Tryz.runUnderlying47 hl.own (Cells.new (n := 1) (sz := 38) (c := 1) (Kn.app Ll .hd) (by rw [List.append_nil]; exact lk_len (lockId_len _ _ _))) (by rw [List.append_nil]; exact lock_one _) (by show (2 * (f.locks.length + 1) + 1000) * 80 ≤ _; omega)) (by rintro _ _ _ - ⟨Lp', rfl, rfl, _⟩; exact keep3 (by simp) (by simp) (by simp)) ?_
                    rintro v9 σ1 _ - ⟨Ll', rfl, rfl, hown⟩
                    refine dq 19 rfl rfl rfl rfl (q_nil rfl) ?_
                    refine dq 20 rfl rfl rfl rfl (q_fieldAddr (off := 2) (o' := 2) rfl Tryz.runUnderlying140 rfl Tryz.sizeOf47 rfl rfl) ?_
                    refine dsta 21 rfl rfl rfl rfl (by decide +kernel) (by decide +kernel) (n_store rfl rfl hown.oneC Tryz.sizeOf47 (.s (.s .z)) (Upd.app _ (.tl .hd))) ?_
                    refine dend rfl ?_
                    refine go_seq ?_
                    refine go_out ?_
                    refine go_perm _ (permF _ _ _ _ _).symm ?_
                    have hf1 : FolO p { f with locks := f.locks ++ [(⟨lockId f.chain a o, a, b, m, d, l, 1⟩ : Lck)] } ((p, folObj f.chain mb v9 cv) :: (mb, mobj w6 es ck) :: (Ll' ++ Lc)) := FolO.mk' hp (SlO.snoc hown hl.len (lk_len (lockId_len _ _ _))) hc
                    refine go_region ?_
                    refine sq rfl (q_move rfl) ?_
                    refine sq rfl (q_loadA (vs := txCells (lockTx a b m o d l) fv) rfl Tryz.isAgg42 Tryz.sizeOf42 (Kn.app _ (.tl .hd)) (Part.all rfl)) ?_
                    refine sn rfl (n_call rfl Tryz.call58 (c58 hf1 (x := lockTx a b m o d l) rfl hfv)) ?_
                    rintro _ σ1 _ - ⟨rfl, rfl, Lf2, rfl, hf2⟩
                    refine gol_nil ?_
                    refine go_seq ?_
                    refine go_seq ?_
                    refine go_region ?_
                    refine sq rfl (q_fieldAddr (off := 0) (o' := 0) rfl Tryz.runUnderlying42 rfl Tryz.sizeOf3 rfl rfl) ?_
                    refine sq rfl (q_load (cs := txCells (lockTx a b m o d l) fv) (v := iv 2) rfl Tryz.isAgg3 (Kn.app _ (.tl .hd)) .z) ?_
                    refine sq rfl (q_eql (a := 2) (b := 1) rfl rfl) ?_
                    rw [show decide ((2 : Int) = 1) = false from decide_eq_false (by decide)]
                    refine gol_nil ?_
                    refine go_condF rfl rfl ?_
                    refine go_skip ?_
                    refine go_seq ?_
                    refine go_region ?_
                    refine sq rfl (q_assign rfl) ?_
                    refine gol_nil ?_
                    refine go_drop (Lf2 ++ L) dropM ?_
                    refine go_ret Tryz.func28 Tryz.results28 rfl rfl rfl (by repeat (first | exact Sto.le_refl _ | assumption | refine Sto.le_trans ?_ (by assumption))) ?_
                    exact ⟨by rw [Fol.err, if_neg h9, if_neg h24, if_neg (fun e => e h1), if_neg hh]; rfl, Lf2, rfl, by rw [Fol.next, if_neg (fun e => e (by rw [Fol.err, if_neg h9, if_neg h24, if_neg (fun e => e h1), if_neg hh]))]; exact hf2⟩
end Go.Eng
