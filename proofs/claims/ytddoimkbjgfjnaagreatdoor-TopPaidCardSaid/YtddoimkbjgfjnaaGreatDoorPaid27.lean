/- A part of the proof of this: Payments and locks of a shard come out as they stand on paper (TopPaid): for every input, with the listed package variables as the program's text lays them, TopPaid answers true and its argument reads as it did. -/
import Derived.Test.YtddoimkbjgfjnaaGreatDoorPaid26
import Derived.Test.YtddoimkbjgfjnaaGreatDoorCards
import Derived.Test.YtddoimkbjgfjnaaGreatDoorTie
import Derived.WalkKit
import Derived.ProofKit
import Derived.OpenShut
import Derived.LaidMore
import Derived.LaidSub
import Derived.Deep.DeepHandedRow
import Derived.Deep.DeepWitnessRowRef
import Derived.Lib.LaidTab
namespace Go.Eng
open Go Go.Proofs Go.Proofs.YtddoimkbjgfjnaaGreatDoor Go.ChangeShapes Go.WideShapes Go.ChangeAt Go.RowKit
set_option maxRecDepth 20000
def whole (W : World) : Sto := ⟨fun b => W.heap[b]?, W⟩
theorem whole_st (W : World) : St (whole W) W [] := ⟨Amb.refl _, (fun _ _ h => h), (fun _ _ h => nomatch h), .nil, (fun _ _ h => nomatch h)⟩
structure Kept (W W' : World) : Prop where
  os : W'.os = W.os
  out : W'.output = W.output
  heap : ∀ (b : Nat) (o : Obj), W.heap[b]? = some o → W'.heap[b]? = some o
theorem Ctr.kept {P : Program} {f : FuncId} {vs : Array Value} {r : Value} {W : World} (h : Ctr P f vs (whole W) [] fun v _ L' => v = r ∧ L' = []) : Calls P f vs W fun e W' => e = .returned r ∧ Kept W W' := by
  refine (h W (whole_st W)).mono ?_
  rintro e w' ⟨_, rfl, σ', L', hle, hst, rfl, rfl⟩
  have ha := hst.amb
  rw [hle.amb] at ha
  exact ⟨rfl, ha.os, ha.output, fun b o hb => hst.sto b o (hle.blk b o hb)⟩
theorem Kept.but {W W' : World} (h : Kept W W') (may : MemPlace → Prop) : W.keptBut W' may := by
  refine ⟨h.os, h.out, fun i hi => ?_⟩
  have h1 : W.heap[i]? = some W.heap[i] := Array.getElem?_eq_getElem hi
  rw [h.heap _ _ h1, h1]
  cases W.heap[i] with
  | cells c t fr => exact ⟨rfl, rfl, rfl, fun _ _ => rfl⟩
  | map es ck => exact .inr ⟨rfl, rfl⟩
  | _ => rfl
theorem Kept.cell {W W' : World} (h : Kept W W') {a : Addr} {v : Value} (hc : W.cell? a = some v) : W'.cell? a = some v := by
  unfold World.cell? at hc ⊢
  cases hb : W.heap[a.block]? with
  | none => rw [hb] at hc; simp at hc
  | some o => rw [h.heap _ _ hb]; rw [hb] at hc; exact hc
theorem laid_eq : (Rows.topPaidRow.laid.filter fun x => x.2.handleName?.isNone) = ("wapentake/sha.k", Lib.tabData .u32 (K256.map fun u => (u.toNat : Int))) :: [("wapentake/codec.errForm", Rows.laid_wapentake_codec_errForm), ("wapentake/codec.errBytes", Rows.laid_wapentake_codec_errBytes)] := by kernel_rfl
theorem laid_k {W : World} (h : laidMetH Tryz.prog Rows.topPaidRow.laid W) : ∃ T fr, W.heap[1]? = some (.cells (ucells K256).toArray T fr) := by
  have h1 := (laidMetH_iff.1 h).1
  rw [laid_eq] at h1
  have hg : Tryz.prog.globalNamed "wapentake/sha.k" = some 1 := by kernel_rfl
  have h3 : W.var? Tryz.prog "wapentake/sha.k" = _ := Lib.tabIs_of_head hg (t := 303) (e := 256) (n := 64) (by kernel_rfl) (by kernel_rfl) (by kernel_rfl) (by kernel_rfl) (by kernel_rfl) h1
  unfold World.var? at h3
  rw [hg] at h3
  simp only [Option.bind_some] at h3
  cases hb : W.heap[1]? with
  | none => rw [hb] at h3; simp at h3
  | some o =>
    rw [hb] at h3
    cases o with
    | cells cs T fr =>
      simp only [Option.some.injEq] at h3
      refine ⟨T, fr, ?_⟩
      rw [h3, List.map_map]; rfl
    | _ => simp at h3
section
variable {H : Type} {enc : TypeId × Value → H} {W : World} {base : Nat} {v : Value} {d : DataW H} {p : List MemPlace}
theorem arg_bytes (hval : Value.okWide Tryz.prog W .any base 22 v) (h1 : DataW.Trod enc Tryz.prog W 0 (fun _ => true) true 22 v d p) (hwt : (DataW.weights Tryz.prog 22 d).all (· ≤ reachBytes) = true) :
    ∃ xs : Bts, Bytes (whole W) v xs ∧ xs.length < 4611686018427387904 ∧ ∀ W', Kept W W' → ∀ sp : Nat → Bool, (∀ q ∈ p, sp q.block = true) → DataW.Trod enc Tryz.prog W' 0 sp true 22 v d p := by
  obtain ⟨a1, len, cap, rfl⟩ := okWide_slice Tryz.underlying22 hval
  obtain ⟨fuel, hf⟩ := h1
  have c5 : Tryz.prog.cellsOf 5 = 1 := by kernel_rfl
  rcases open_ints Tryz.underlying22 Tryz.underlying5 c5 hf with ⟨hcs, hx⟩ | ⟨a, len', cap', zs, hcs, hbs, hl, hm, hz, hx, hcell, hwz⟩
  · simp [Value.cells] at hcs
    obtain ⟨rfl, rfl, rfl⟩ := hcs
    simp only [Prod.mk.injEq] at hx
    obtain ⟨rfl, rfl⟩ := hx
    refine ⟨[], ⟨⟨none, 0, rfl, Nat.le_refl _, rfl, none, 0, 0, rfl, Nat.le_refl _, .inl rfl⟩⟩, by decide, fun W' _ sp _ => ⟨1, ?_⟩⟩
    rw [DataW.trod_step]
    unfold DataW.trodStep
    simp [Value.cells, Tryz.underlying22]
  · simp [Value.cells] at hcs
    obtain ⟨rfl, rfl, rfl⟩ := hcs
    simp only [Prod.mk.injEq] at hx
    obtain ⟨rfl, rfl⟩ := hx
    simp only [if_true] at hz
    have hlen : ((zs.take len).map fun n => UInt8.ofNat n.toNat).length = len := by simp; omega
    have b5 : Tryz.prog.bytesOf 5 = 1 := by kernel_rfl
    have hmax : cap < 4611686018427387904 := by
      unfold DataW.weights at hwt
      simp only [Tryz.underlying22, b5, List.all_cons, Bool.and_eq_true, lits, List.length_map, List.length_take, List.length_drop, reachBytes] at hwt
      have := of_decide_eq_true hwt.1
      omega
    refine ⟨(zs.take len).map fun n => UInt8.ofNat n.toNat, ⟨⟨some a, cap, by rw [hlen], by rw [hlen]; exact hl, by rw [bcells_len, Nat.mul_one], some a, len, cap, rfl, by rw [hlen]; exact Nat.le_refl _, ?_⟩⟩, by rw [hlen]; omega, fun W' hk sp hsp => ⟨2, ?_⟩⟩
    · rcases Nat.eq_zero_or_pos len with h0 | h0
      · left
        subst h0; rfl
      right
      obtain ⟨ab, ao, spot⟩ := a
      have hspot : spot = none := by simpa [Addr.add] using World.cell?_spot (hcell 0 (by omega))
      subst hspot
      have hc0 := hcell 0 (by omega)
      rw [Addr.add_lit] at hc0
      unfold World.cell? at hc0
      cases hb : W.heap[ab]? with
      | none => rw [hb] at hc0; simp at hc0
      | some o =>
        cases o with
        | cells ds T fr =>
          refine ⟨ab, ao, ds, T, fr, rfl, .sto hb, ?_⟩
          rw [hlen, Nat.mul_one]
          have hds : ∀ j, j < len → ds[ao + j]? = some (.int .u8 (zs.getD j 0)) := fun j hj => by
            have := hcell j (by omega)
            rw [Addr.add_lit, cell_of hb] at this
            exact this
          have hle : ao + len ≤ ds.size := by
            have := hds (len - 1) (by omega)
            have := (Array.getElem?_eq_some_iff.1 this).1
            omega
          refine ⟨List.ext_getElem? fun j => ?_, by simpa using hle⟩
          rcases Nat.lt_or_ge j len with hj | hj
          · rw [List.getElem?_take_of_lt hj, List.getElem?_drop, Array.getElem?_toList, hds j hj]
            have hzj : j < zs.length := by omega
            have hb := range_u8 hwz j
            simp only [List.getElem?_eq_getElem hzj, Option.getD_some] at hb
            unfold bcells
            simp only [List.map_map, List.getElem?_map, List.getElem?_take_of_lt hj, List.getElem?_eq_getElem hzj, Option.map_some, Function.comp_apply, bv, List.getD_eq_getElem?_getD, Option.getD_some]
            congr 2
            simp only [UInt8.toNat_ofNat']
            omega
          · rw [List.getElem?_eq_none (by rw [List.length_take]; omega), List.getElem?_eq_none (by rw [bcells_len, hlen]; exact hj)]
        | _ => rw [hb] at hc0; simp at hc0
    · refine shut_ints 0 Tryz.underlying22 Tryz.underlying5 c5 (Nat.zero_le _) hl hm ?_ (fun i hi => hk.cell (hcell i hi)) hwz
      rcases Nat.eq_zero_or_pos cap with h0 | h0
      · split <;> omega
      · have : sp a.block = true := hsp (.cell a.block a.off) (by
          simp only [MemPlace.row, List.mem_map, List.mem_range]
          exact ⟨0, by omega, rfl⟩)
        rw [this]; exact hz
end
end Go.Eng
