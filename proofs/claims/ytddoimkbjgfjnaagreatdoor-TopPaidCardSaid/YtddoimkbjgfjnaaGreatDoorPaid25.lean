/- A part of the proof of this: Payments and locks of a shard come out as they stand on paper (TopPaid): for every input, with the listed package variables as the program's text lays them, TopPaid answers true and its argument reads as it did. -/
import Derived.Test.YtddoimkbjgfjnaaGreatDoorPaid24
import Derived.Test.YtddoimkbjgfjnaaGreatDoorPaid19
import Derived.Test.YtddoimkbjgfjnaaGreatDoorPaid14
namespace Go.Eng
open Go Go.Proofs Go.Sort
set_option maxRecDepth 20000
abbrev EV := {e : Bts × Value // e.1.length = 32 ∧ oneCell e.2 = true}
instance : Inhabited EV := ⟨⟨(z32, nilS), rfl, rfl⟩⟩
def encE (x : EV) : List Value := entCells x.1
theorem encE_len (x : EV) : (encE x).length = 33 := by simp [encE, entCells, bcells_len, x.2.1]
def cfE (x y : EV) : Int := dcmp x.1.1 y.1.1
theorem ltE (x y : EV) : ltOf cfE x y = decide (dcmp x.1.1 y.1.1 < 0) := rfl
theorem swo_nt (x y z : EV) (h1 : ltOf cfE x y = false) (h2 : ltOf cfE y z = false) : ltOf cfE x z = false := by
  rw [ltE] at *
  have h1 := of_decide_eq_false h1
  have h2 := of_decide_eq_false h2
  refine decide_eq_false fun h => ?_
  rcases dcmp_cases y.1.1 x.1.1 with h3 | h3 | h3
  · rcases dcmp_cases z.1.1 y.1.1 with h4 | h4 | h4
    · have h5 := dcmp_trans h4 h3
      have h6 := dcmp_flip (a := x.1.1) (b := z.1.1)
      omega
    · rw [h4] at h; exact h1 h
    · exact h2 h4
  · rw [← h3] at h; exact h2 h
  · exact h1 h3
theorem swo_tr (x y z : EV) (h1 : ltOf cfE x y = true) (h2 : ltOf cfE y z = true) : ltOf cfE x z = true := by
  rw [ltE] at *
  exact decide_eq_true (dcmp_trans (of_decide_eq_true h1) (of_decide_eq_true h2))
theorem swo_ir (x : EV) : ltOf cfE x x = false := by rw [ltE, dcmp_zero.2 rfl]; rfl
theorem swoE : SWO (ltOf cfE) := ⟨swo_ir, swo_tr, swo_nt⟩
theorem flatK_list (d : Array EV) : (flatK encE 33 d).toList = d.toList.flatMap encE := by
  have hl : (d.toList.flatMap encE).length = d.size * 33 := by rw [flat_len (sz := 33) fun x _ => encE_len x]; rfl
  refine List.ext_getElem (by rw [hl]; simp) fun t h1 h2 => ?_
  have ht : t < d.size * 33 := by rw [← hl]; exact h2
  have hi : t / 33 < d.toList.length := by show _ < d.size; omega
  have h3 := get_flatK encE 33 d t ht
  rw [getElem!_pos _ t (by simpa using ht)] at h3
  rw [Array.getElem_toList, h3]
  have h4 := flat_at (f := encE) (xs := d.toList) (sz := 33) (fun x _ => encE_len x) hi
  have h5 : (((d.toList.flatMap encE).drop (t / 33 * 33)).take 33)[t % 33]? = (encE d.toList[t / 33])[t % 33]? := by rw [h4]
  have hm : t % 33 < 33 := Nat.mod_lt _ (by decide)
  rw [List.getElem?_take_of_lt hm, List.getElem?_drop, show t / 33 * 33 + t % 33 = t by omega, List.getElem?_eq_getElem h2] at h5
  have hlt : t % 33 < (encE d.toList[t / 33]).length := by rw [encE_len]; exact hm
  rw [List.getElem?_eq_getElem hlt] at h5
  simp only [Option.some.injEq] at h5
  rw [h5, getElem!_pos _ (t / 33) hi, getElem!_pos _ (t % 33) (by simpa using hlt)]
  simp
theorem putCells_list (F : Array Value) (cs junk : List Value) (h : F.size = cs.length) : putCells id 0 F (cs ++ junk).toArray = (F.toList ++ junk).toArray := by
  refine Array.ext (by simp [putCells, h]) fun i h1 h2 => ?_
  simp only [putCells, Array.getElem_mapIdx, Nat.zero_le, true_and, Nat.zero_add, Nat.sub_zero, id_eq, List.getElem_toArray]
  by_cases hi : i < F.size
  · rw [if_pos hi, getElem!_pos F i hi, List.getElem_append_left (by simpa using hi)]; simp
  · rw [if_neg hi, List.getElem_append_right (by omega), List.getElem_append_right (by simpa using hi)]
    simp [h]
theorem cmpE (blk off size : Nat) (w : World) : CmpLays Tryz.prog 91 #[] encE 33 cfE blk off size w := by
  intro m os dk _ x y
  generalize sortWorldK encE 33 w blk off m dk os = W
  have hst : St ⟨fun b => W.heap[b]?, W⟩ W [] := ⟨Amb.refl _, (fun _ _ h => h), (fun _ _ h => nomatch h), .nil, (fun _ _ h => nomatch h)⟩
  refine (c91 (L := []) (a := x.1.1) (b := y.1.1) (u := x.1.2) (v := y.1.2) x.2.1 y.2.1 W hst).mono ?_
  rintro e w' ⟨_, rfl, σ', L', hle, hst', rfl, rfl⟩
  refine ⟨rfl, w'.drawn - W.drawn, w'.heap.extract W.heap.size w'.heap.size, ?_⟩
  have ha := hst'.amb
  rw [hle.amb] at ha
  have hh : ∀ b o, W.heap[b]? = some o → w'.heap[b]? = some o := fun b o h => hst'.sto b o (hle.blk b o h)
  have hs : W.heap.size ≤ w'.heap.size := by
    rcases Nat.lt_or_ge w'.heap.size W.heap.size with h | h
    · have := hh w'.heap.size W.heap[w'.heap.size] (Array.getElem?_eq_getElem h)
      rw [Array.getElem?_eq_none (Nat.le_refl _)] at this
      nomatch this
    · exact h
  have he : w'.heap = W.heap ++ w'.heap.extract W.heap.size w'.heap.size := by
    refine Array.ext (by simp; omega) fun i h1 h2 => ?_
    rcases Nat.lt_or_ge i W.heap.size with h | h
    · have := hh i W.heap[i] (Array.getElem?_eq_getElem h)
      rw [Array.getElem?_eq_getElem h1] at this
      rw [Array.getElem_append_left h]
      simpa using this
    · rw [Array.getElem_append_right h]
      simp only [Array.getElem_extract]
      congr 1; omega
  obtain ⟨h1, h2, h3, h4⟩ := ha
  cases w'
  simp only [grow, World.drewN] at *
  subst h1 h2 h3
  simp only [World.mk.injEq]
  exact ⟨he, trivial, by omega, trivial, trivial⟩
theorem one' {v : Value} (h : oneCell v = true) : v.oneCell' = true := by cases v <;> first | rfl | exact h
theorem encE_one (x : EV) : ∀ v ∈ encE x, v.oneCell' = true := fun v hv => one' (by
  have h : (encE x).all oneCell = true := by
    show (entCells x.1).all oneCell = true
    unfold entCells; rw [List.all_append, bcells_one]; simp [x.2.2]
  exact List.all_eq_true.1 h v hv)
theorem lift_ev : ∀ {evs : List (Bts × Value)}, (∀ e ∈ evs, e.1.length = 32 ∧ oneCell e.2 = true) → ∃ dl : List EV, dl.map (·.1) = evs := by
  intro evs
  induction evs with
  | nil => intro _; exact ⟨[], rfl⟩
  | cons e evs ih =>
    intro h
    obtain ⟨dl, hd⟩ := ih fun x hx => h x (List.mem_cons_of_mem _ hx)
    exact ⟨⟨e, h e List.mem_cons_self⟩ :: dl, by rw [List.map_cons, hd]⟩
theorem sort90 : Sort90 := by
  intro σ L Le lv evs ho hne hgood hlen w hst
  have hpos : 0 < evs.length := List.length_pos_iff.2 hne
  obtain ⟨p, c, rfl⟩ := ho.val
  obtain ⟨bo, junk, rfl, rfl, hcl, hcc⟩ := ho.own.get hpos
  have hmem : (bo, Obj.cells (evs.flatMap entCells ++ junk).toArray 179 (0, 0)) ∈ [(bo, Obj.cells (evs.flatMap entCells ++ junk).toArray 179 (0, 0))] ++ L := List.mem_cons_self
  have hb := hst.own _ _ hmem
  have hblk : bo < w.heap.size := (Array.getElem?_eq_some_iff.1 hb).1
  obtain ⟨d, hdl⟩ : ∃ d : Array EV, d.toList.map (·.1) = evs := by
    obtain ⟨dl, h⟩ := lift_ev hgood
    exact ⟨dl.toArray, h⟩
  have hds : d.size = evs.length := by rw [← hdl]; simp
  have hfl : d.toList.flatMap encE = evs.flatMap entCells := by
    rw [← hdl, List.flatMap_map]; rfl
  have hfs : (flatK encE 33 d).size = (evs.flatMap entCells).length := by rw [← hfl, ← flatK_list]; simp
  have hH : HoldsK encE 33 w bo 0 d := by
    intro j hj
    have hj2 : j < (evs.flatMap entCells).length := by rw [← hfs]; exact hj
    refine ⟨?_, ?_⟩
    · rw [cell_of hb, getElem!_pos _ j hj]
      have : (flatK encE 33 d)[j] = (evs.flatMap entCells)[j] := by
        rw [← Array.getElem_toList]
        simp only [flatK_list, hfl]
      rw [this, Nat.zero_add]
      simp [List.getElem?_append_left hj2, List.getElem?_eq_getElem hj2]
    · simp only [World.frozen?, hb]; simp
  have hcon := AnyQ.slices_SortFunc Tryz.sort90 33 Tryz.isAgg179 Tryz.sizeOf179 encE encE_len encE_one cfE swoE 91 #[] bo 0 c d w Tryz.call91 (cmpE bo 0 d.size w) hH hblk (by omega)
  rw [hds] at hcon
  refine Calls.mono hcon ?_
  rintro e w' ⟨rfl, d', n, os, hp, hs, rfl⟩
  obtain ⟨hp1, -, hp3⟩ := hp
  have hd2 : d'.size = evs.length := by rw [hp1, hds]
  rw [← hds, Array.extract_size] at hp3
  have hp4 : d'.toList.Perm d.toList := by
    rw [← hp1, Array.extract_size] at hp3; exact hp3
  have hfl2 : d'.toList.flatMap encE = (d'.toList.map (·.1)).flatMap entCells := by rw [List.flatMap_map]; rfl
  refine ⟨_, rfl, σ, [(bo, .cells ((d'.toList.map (·.1)).flatMap entCells ++ junk).toArray 179 (0, 0))] ++ L, Sto.le_refl _, ?_, rfl, Sto.le_refl _, [(bo, .cells ((d'.toList.map (·.1)).flatMap entCells ++ junk).toArray 179 (0, 0))], d'.toList.map (·.1), rfl, ?_, ?_, ?_⟩
  · have hheap : ∀ b, b ≠ bo → ∀ o, w.heap[b]? = some o → (sortWorldK encE 33 w bo 0 n d' os).heap[b]? = some o := by
      intro b hbo o h
      have hlt : b < w.heap.size := (Array.getElem?_eq_some_iff.1 h).1
      show (((w.heap.modify bo _)) ++ os)[b]? = some o
      rw [Array.getElem?_append_left (by simpa using hlt), Array.getElem?_modify, if_neg (Ne.symm hbo)]
      exact h
    have hbo : (sortWorldK encE 33 w bo 0 n d' os).heap[bo]? = some (.cells ((d'.toList.map (·.1)).flatMap entCells ++ junk).toArray 179 (0, 0)) := by
      show (((w.heap.modify bo _)) ++ os)[bo]? = _
      rw [Array.getElem?_append_left (by simpa using hblk), Array.getElem?_modify, if_pos rfl, hb]
      simp only [Option.map_some, onCells]
      rw [putCells_list _ _ _ (by have h1 : (flatK encE 33 d').size = d'.size * 33 := by simp
                                  have h2 : (flatK encE 33 d).size = d.size * 33 := by simp
                                  omega), flatK_list, hfl2]
    have hnd := hst.nodup
    have hoff := hst.off
    simp only [List.singleton_append, List.map_cons, List.nodup_cons] at hnd
    refine ⟨⟨hst.amb.tape, hst.amb.os, hst.amb.output, Nat.le_trans hst.amb.drawn (Nat.le_add_right _ _)⟩, fun b o h => ?_, fun b o h => ?_, ?_, fun b o h => ?_⟩
    · refine hheap b (fun e => ?_) o (hst.sto b o h)
      subst e
      have := hoff _ _ hmem
      rw [this] at h; nomatch h
    · have h : (b, o) ∈ _ :: L := h
      rcases List.mem_cons.1 h with h2 | h2
      · obtain ⟨rfl, rfl⟩ := Prod.mk.inj h2; exact hbo
      · exact hheap b (fun e => hnd.1 (by rw [← e]; exact List.mem_map_of_mem (f := (·.1)) h2)) o (hst.own b o (List.mem_cons_of_mem _ h2))
    · simp only [List.singleton_append, List.map_cons, List.nodup_cons]; exact hnd
    · have h : (b, o) ∈ _ :: L := h
      rcases List.mem_cons.1 h with h | h
      · obtain ⟨rfl, rfl⟩ := Prod.mk.inj h; exact hoff _ _ hmem
      · exact hoff b o (List.mem_cons_of_mem _ h)
  · have hl2 : (d'.toList.map (·.1)).length = evs.length := by simp [hd2]
    refine SlO.mk' rfl hl2 (fun x hx => ?_) ?_
    · obtain ⟨y, _, rfl⟩ := List.mem_map.1 hx
      exact encE_len y
    · have h1 : ((d'.toList.map (·.1)).flatMap entCells).length = (evs.flatMap entCells).length := by
        rw [← hfl2, ← hfl, flat_len (sz := 33) fun x _ => encE_len x, flat_len (sz := 33) fun x _ => encE_len x, hp4.length_eq]
      rw [List.length_append, h1, ← List.length_append]; exact hcc
  · have := hp4.map (·.1)
    rwa [hdl] at this
  · rw [List.pairwise_map, List.pairwise_iff_getElem]
    intro i j hi hj hij
    have hj2 : j < d'.size := hj
    have hi2 : i < d'.size := hi
    have := hs i j (Nat.zero_le _) hij (by rw [← hd2]; exact hj2)
    rw [ltE, getElem!_pos d' j hj2, getElem!_pos d' i hi2] at this
    have := of_decide_eq_false this
    simpa using this
end Go.Eng
namespace Go.Eng
open Go Go.Proofs
set_option maxRecDepth 20000
theorem genSt_le {g : Gen} (h : MayOk g) (c : Nat) : (genSt g c).le 1000 := by
  have hm := h.mem
  have key : ∀ r ∈ [recOf g 0 g.members, recOf g 1 g.members], r.mems.length ≤ 1000 ∧ r.seats.length ≤ 1000 ∧ ∀ l ∈ r.seats, l.length ≤ 1000 := by
    intro r hr
    have : ∃ e, r = recOf g e g.members := by
      rcases List.mem_cons.1 hr with h | h
      · exact ⟨_, h⟩
      · exact ⟨_, List.mem_singleton.1 h⟩
    obtain ⟨e, rfl⟩ := this
    refine ⟨by show g.members.length ≤ _; omega, ?_, fun l hl => ?_⟩
    · show (seatRows g e g.members).length ≤ _
      rw [seatRows_len]; unfold nseat; omega
    · obtain ⟨i, hi, rfl⟩ := List.mem_iff_getElem.1 (show l ∈ seatRows g e g.members from hl)
      rw [seatRows_get]
      unfold seatsOf
      rw [List.length_take]; omega
  refine ⟨?_, Nat.zero_le _, Nat.zero_le _, (by decide : (2 : Nat) ≤ 1000), ?_, fun r hr => (key r hr).1, fun r hr => (key r hr).2.1, fun r hr => (key r hr).2.2⟩
  · show (g.accs.getD c []).length ≤ 1000
    rw [List.getD_eq_getElem?_getD]
    cases e : g.accs[c]? with
    | none => simp
    | some l => exact Nat.le_of_lt (h.few l (List.mem_of_getElem? e))
  · show (if c = 0 then g.members else []).length ≤ 1000
    split
    · omega
    · simp
def quickG : Gen := ⟨4, 1, 4, [0, 1, 2, 3], [[], [⟨1, 9, 0⟩]], z32⟩
theorem riseA_nil : RiseA [] := List.Pairwise.nil
theorem quick_ok : MayOk quickG := ⟨by decide, by decide, by decide, by decide, by decide, by decide, by decide, (fun l hl => by
  rcases List.mem_cons.1 hl with rfl | h
  · exact .nil
  · rw [List.mem_singleton.1 h]; exact .cons (fun _ h => nomatch h) .nil), by decide, by decide, rfl⟩
def quickT : Pl := .pay 1 2 4 0
theorem quick_run : runE (genSt quickG 1) [quickT] = [0] := by
  rw [runE, runE]
  show [takeErr (acct [⟨1, 9, 0⟩] 1) 4 0] = [0]
  decide +kernel
set_option maxHeartbeats 1000000 in
theorem c11 {σ : Sto} {L : SHeap} {T : TypeId} {fr : Nat × Nat} (hK : σ 1 = some (.cells (ucells K256).toArray T fr)) : Ctr Tryz.prog 11 #[] σ L fun r σ' L' => r = .bool true ∧ L' = L := by
  refine ctr_enter Tryz.func11 rfl Tryz.ntmps11 (by simp) ?_
  refine go_seq ?_
  refine go_region ?_
  refine sq rfl (q_assign rfl) ?_
  refine gol_nil ?_
  refine go_seq ?_
  refine go_region ?_
  refine sns rfl (n_buildSlice (sz := 1) (l' := [iv 0, iv 1, iv 2, iv 3]) (.cons rfl (.one rfl) rfl (.cons rfl (.one rfl) rfl (.cons rfl (.one rfl) rfl (.cons rfl (.one rfl) rfl .nil)))) rfl Tryz.runUnderlying24 Tryz.sizeOf3 Tryz.zeroValue3 rfl rfl) ?_
  intro b1
  refine sq rfl (q_buildS (ns := [1, 1, 1]) (l' := accCells ⟨1, 9, 0⟩) (.put (z := [_]) rfl (.one rfl) rfl rfl (.put (z := [_]) rfl (.one rfl) rfl rfl (.zero (z := [_]) rfl .nil))) zero57 Tryz.runUnderlying57 (places57 Tryz.runUnderlying57) rfl) ?_
  refine sns rfl (n_buildSlice (sz := 3) (l' := accCells ⟨1, 9, 0⟩) (.cons rfl .agg rfl .nil) rfl Tryz.runUnderlying46 Tryz.sizeOf57 Tryz.zeroValue57 rfl rfl) ?_
  intro b2
  refine sns rfl (n_buildSlice (sz := 1) (l' := [nilS, .slice (some ⟨b2, 0, none⟩) 1 1]) (.cons rfl (.one rfl) rfl (.cons rfl (.one rfl) rfl .nil)) rfl Tryz.runUnderlying25 Tryz.sizeOf46 Tryz.zeroValue46 rfl rfl) ?_
  intro b3
  refine sq rfl (q_buildS (ns := [1, 1, 1, 1, 1, 32]) (l' := genCells quickG ⟨.slice (some ⟨b1, 0, none⟩) 4 4, .slice (some ⟨b3, 0, none⟩) 2 2⟩) (.put (z := [_]) rfl (.one rfl) rfl rfl (.put (z := [_]) rfl (.one rfl) rfl rfl (.put (z := [_]) rfl (.one rfl) rfl rfl (.put (z := [_]) rfl (.one rfl) rfl rfl (.put (z := [_]) rfl (.one rfl) rfl rfl (.zero (z := bcells z32) rfl .nil)))))) zero29 Tryz.runUnderlying29 (places29 Tryz.runUnderlying29) rfl) ?_
  refine snb rfl (n_alloc zero29 .agg) ?_
  intro b4
  refine sst rfl (n_storeA rfl rfl (vs := genCells quickG ⟨.slice (some ⟨b1, 0, none⟩) 4 4, .slice (some ⟨b3, 0, none⟩) 2 2⟩) rfl Tryz.sizeOf29 rfl .hd (PutAt.all rfl)) ?_
  refine gol_nil ?_
  refine go_seq ?_
  refine go_perm _ (List.perm_append_comm_assoc [_] [_, _, _] L) ?_
  refine go_frz (fun σ1 hle1 hb3 => ?_)
  refine go_frz (fun σ2 hle2 hb2 => ?_)
  refine go_frz (fun σ3 hle3 hb1 => ?_)
  have hgr : GenR σ3 ⟨.slice (some ⟨b1, 0, none⟩) 4 4, .slice (some ⟨b3, 0, none⟩) 2 2⟩ quickG := by
    refine ⟨⟨⟨_, _, rfl, Nat.le_refl _, Cells.new (.sto hb1) rfl⟩, fun _ _ => rfl⟩, ⟨[nilS, .slice (some ⟨b2, 0, none⟩) 1 1], ⟨⟨_, _, rfl, Nat.le_refl _, Cells.new (.sto (hle3.get (hle2.get hb3))) rfl⟩, fun _ _ => rfl⟩, ?_⟩, rfl⟩
    exact .cons SlO.nilSl (.cons ⟨⟨_, _, rfl, Nat.le_refl _, Cells.new (.sto (hle3.get hb2)) rfl⟩, fun _ _ => rfl⟩ .nil)
  have hK3 := hle3.get (hle2.get (hle1.get hK))
  generalize hgv : (GV.mk (.slice (some ⟨b1, 0, none⟩) 4 4) (.slice (some ⟨b3, 0, none⟩) 2 2)) = gv at hgr ⊢
  have hgl := hgr.len
  refine go_region ?_
  refine sq rfl (q_loadA (vs := genCells quickG gv) rfl Tryz.isAgg29 Tryz.sizeOf29 .hd (Part.all hgl)) ?_
  refine sn rfl (n_call rfl Tryz.call13 (c13 hK3 hgr quick_ok)) ?_
  rintro _ σ4 _ hle4 ⟨px, Lx, rfl, rfl, hA⟩
  refine sq rfl (q_assign rfl) ?_
  refine gol_nil ?_
  refine go_seq ?_
  refine go_region ?_
  refine sn rfl (n_call rfl Tryz.call34 (c34 (k := 4) (b := 4) (by decide) (by decide))) ?_
  rintro _ σ5 _ hle5 ⟨pk, rfl, rfl⟩
  refine sq rfl (q_assign rfl) ?_
  refine gol_nil ?_
  refine go_seq ?_
  refine go_seq ?_
  refine go_region ?_
  refine sq rfl (q_move rfl) ?_
  refine sq rfl (q_eqlNilP rfl rfl Tryz.runUnderlying32) ?_
  refine sq rfl (q_move rfl) ?_
  refine sqg rfl rfl (q_move rfl) ?_
  refine sqg rfl rfl (q_eqlNilP rfl rfl Tryz.runUnderlying105) ?_
  refine sq rfl (q_pick rfl rfl rfl rfl) ?_
  refine gol_nil ?_
  refine go_condF rfl rfl ?_
  refine go_skip ?_
  refine go_seq ?_
  refine go_region ?_
  refine sq rfl (q_loadA (vs := genCells quickG gv) rfl Tryz.isAgg29 Tryz.sizeOf29 (Kn.app _ .hd) (Part.all hgl)) ?_
  refine sn rfl (n_call rfl Tryz.call35 (c35 (c := 1) (hle5.get (hle4.get hK3)) ((hgr.up hle4).up hle5) quick_ok (by decide))) ?_
  rintro _ σ6 _ hle6 ⟨sv, rfl, hst, rfl⟩
  refine sq rfl (q_move rfl) ?_
  refine sq rfl (q_extract rfl .z) ?_
  refine sq rfl (q_extract rfl (.s .z)) ?_
  refine snb rfl (n_alloc Tryz.zeroValue51 .agg) ?_
  intro b5
  refine sst rfl (n_storeA rfl rfl (vs := stCells sv) hst.one Tryz.sizeOf51 rfl .hd (PutAt.all rfl)) ?_
  refine sq rfl (q_assign rfl) ?_
  refine gol_nil ?_
  refine go_seq ?_
  refine go_region ?_
  refine sq rfl (q_move rfl) ?_
  refine sq rfl (q_loadA (vs := genCells quickG gv) rfl Tryz.isAgg29 Tryz.sizeOf29 (.tl (Kn.app _ .hd)) (Part.all hgl)) ?_
  refine sq rfl (q_loadA (vs := stCells sv) rfl Tryz.isAgg51 Tryz.sizeOf51 .hd (Part.all rfl)) ?_
  refine sq rfl (q_buildS (ns := [1, 1, 1, 1, 1, 1, 1, 32, 1, 1]) (l' := plCells quickT) (.put (z := [_]) rfl (.one rfl) rfl rfl (.put (z := [_]) rfl (.one rfl) rfl rfl (.put (z := [_]) rfl (.one rfl) rfl rfl (.put (z := [_]) rfl (.one rfl) rfl rfl (.zero (z := [_]) rfl (.zero (z := [_]) rfl (.zero (z := [_]) rfl (.zero (z := bcells z32) rfl (.zero (z := [_]) rfl (.zero (z := [_]) rfl .nil)))))))))) zero42a Tryz.runUnderlying42 (places42 Tryz.runUnderlying42) rfl) ?_
  refine sns rfl (n_buildSlice (sz := 41) (l' := plCells quickT) (.cons rfl .agg rfl .nil) rfl Tryz.runUnderlying35 Tryz.sizeOf42 Tryz.zeroValue42 rfl rfl) ?_
  intro bt
  refine gol_frz (fun σ7 hle7 hbt => ?_)
  have hts : Sl σ7 [] (.slice (some ⟨bt, 0, none⟩) 1 1) 41 plCells [quickT] := ⟨⟨_, _, rfl, Nat.le_refl _, Cells.new (.sto hbt) rfl⟩, fun x _ => pl_len x⟩
  refine sn rfl (n_call rfl Tryz.call36 (c36 (hle7.get (hle6.get (hle5.get (hle4.get hK3)))) hgl (ht := 1) (hst.up hle7) (show ¬ (1 : Int) < 1 by decide) (genSt_le quick_ok 1) (by decide) hts (by decide) (by decide))) ?_
  rintro _ σ8 _ hle8 ⟨sv8, v8, rfl, hst8, hv8, rfl⟩
  rw [quick_run] at hv8
  obtain ⟨p8, c8, rfl⟩ := hv8.val
  refine sq rfl (q_move rfl) ?_
  refine sq rfl (q_extract rfl .z) ?_
  refine sq rfl (q_extract rfl (.s .z)) ?_
  refine snb rfl (n_alloc Tryz.zeroValue51 .agg) ?_
  intro b7
  refine sst rfl (n_storeA rfl rfl (vs := stCells sv8) hst8.one Tryz.sizeOf51 rfl .hd (PutAt.all rfl)) ?_
  refine sq rfl (q_assign rfl) ?_
  refine gol_nil ?_
  refine go_seq ?_
  refine go_region ?_
  refine sq rfl (q_move rfl) ?_
  refine sq rfl (q_buildS (ns := [1, 1, 1, 1, 32, 32, 32, 1]) (l' := hdrCells (Hdr.mk ((1 : Nat) : Int) 0 (0 + 1) 0 z32 z32 z32 0)) (.put (z := [_]) rfl (.one rfl) rfl rfl (.zero (z := [_]) rfl (.put (z := [_]) rfl (.one rfl) rfl rfl (.zero (z := [_]) rfl (.zero (z := bcells z32) rfl (.zero (z := bcells z32) rfl (.zero (z := bcells z32) rfl (.zero (z := [_]) rfl .nil)))))))) zero71 Tryz.runUnderlying71 (places71 Tryz.runUnderlying71) rfl) ?_
  refine sq rfl (q_buildS (ns := [1, 1, 1, 1, 1, 1, 1, 32, 1, 1]) (l' := plCells quickT) (.put (z := [_]) rfl (.one rfl) rfl rfl (.put (z := [_]) rfl (.one rfl) rfl rfl (.put (z := [_]) rfl (.one rfl) rfl rfl (.put (z := [_]) rfl (.one rfl) rfl rfl (.zero (z := [_]) rfl (.zero (z := [_]) rfl (.zero (z := [_]) rfl (.zero (z := bcells z32) rfl (.zero (z := [_]) rfl (.zero (z := [_]) rfl .nil)))))))))) zero42a Tryz.runUnderlying42 (places42 Tryz.runUnderlying42) rfl) ?_
  refine sns rfl (n_buildSlice (sz := 41) (l' := plCells quickT) (.cons rfl .agg rfl .nil) rfl Tryz.runUnderlying35 Tryz.sizeOf42 Tryz.zeroValue42 rfl rfl) ?_
  intro bu
  refine gol_frz (fun σ9 hle9 hbu => ?_)
  have htu : Sl σ9 [] (.slice (some ⟨bu, 0, none⟩) 1 1) 41 plCells [quickT] := ⟨⟨_, _, rfl, Nat.le_refl _, Cells.new (.sto hbu) rfl⟩, fun x _ => pl_len x⟩
  refine gol_perm _ (List.perm_append_comm_assoc (_ :: [_]) Lx _) ?_
  refine sn rfl (n_call rfl Tryz.call21 (c21 sort90 (hle9.get (hle8.get (hle7.get (hle6.get (hle5.get (hle4.get hK3)))))) (c := 1) (st := genSt quickG 1) (ht := 0) (ep := 0) (vw := 0) (pr := 0) (pa := z32) (txr := z32) (ro := z32) (N := 1000) (((((hA.up hle5).up hle6).up hle7).up hle8).up hle9) (by decide) (by decide) (Int.le_refl 1) ⟨rfl, rfl, rfl⟩ rfl (show ¬ (1 : Int) < 1 by decide) (genSt_le quick_ok 1) (by decide) (by decide) (by decide) htu (by decide))) ?_
  rintro _ σ10 _ hle10 ⟨va, Lx2, A2, rfl, hva, -, -, rfl, -⟩
  rw [quick_run] at hva
  obtain ⟨pa, ca, rfl⟩ := hva.val
  refine sq rfl (q_move rfl) ?_
  refine sq rfl (q_extract rfl .z) ?_
  refine sq rfl (q_extract rfl (.s .z)) ?_
  refine sq rfl (q_assign rfl) ?_
  refine sq rfl (q_assign rfl) ?_
  refine gol_nil ?_
  refine go_seq ?_
  obtain ⟨b8, o8, ds8, T8, fr8, hq8, hkn8, hpt8⟩ := hv8.cells.2.2.get (by simp [ic])
  subst hq8
  obtain ⟨ba, oa, dsa, Ta, fra, hqa, hkna, hpta⟩ := hva.cells.2.2.get (by simp [ic])
  subst hqa
  refine go_region ?_
  refine sq rfl (q_move rfl) ?_
  refine sq rfl (q_eql (a := 0) (b := 0) rfl rfl) ?_
  rw [show decide ((0 : Int) = 0) = true from decide_eq_true (rfl)]
  refine sq rfl (q_move rfl) ?_
  refine sqg rfl rfl (q_move rfl) ?_
  refine sqg rfl rfl (q_eql (a := 0) (b := 0) rfl rfl) ?_
  rw [show decide ((0 : Int) = 0) = true from decide_eq_true (rfl)]
  refine sq rfl (q_pick rfl rfl rfl rfl) ?_
  refine sq rfl (q_move rfl) ?_
  refine sqg rfl rfl (q_move rfl) ?_
  refine sqg rfl rfl (q_len rfl Tryz.runUnderlying43) ?_
  refine sqg rfl rfl (q_eql (a := 1) (b := 1) rfl rfl) ?_
  rw [show decide ((1 : Int) = 1) = true from decide_eq_true (rfl)]
  refine sq rfl (q_pick rfl rfl rfl rfl) ?_
  refine sq rfl (q_move rfl) ?_
  refine sqg rfl rfl (q_move rfl) ?_
  refine sqg rfl rfl (q_indexAddr (j := 0) (o' := o8) rfl rfl Tryz.runUnderlying43 Tryz.sizeOf52 rfl (by decide) (by omega)) ?_
  refine sqg rfl rfl (q_load (cs := ds8.toList) (v := iv 0) rfl Tryz.isAgg52 (((hkn8.up hle9).up hle10).imp id (fun h => nomatch h)) (hpt8.at .z)) ?_
  refine sqg rfl rfl (q_eql (a := 0) (b := 0) rfl rfl) ?_
  rw [show decide ((0 : Int) = 0) = true from decide_eq_true (rfl)]
  refine sq rfl (q_pick rfl rfl rfl rfl) ?_
  refine sq rfl (q_move rfl) ?_
  refine sqg rfl rfl (q_move rfl) ?_
  refine sqg rfl rfl (q_len rfl Tryz.runUnderlying43) ?_
  refine sqg rfl rfl (q_eql (a := 1) (b := 1) rfl rfl) ?_
  rw [show decide ((1 : Int) = 1) = true from decide_eq_true (rfl)]
  refine sq rfl (q_pick rfl rfl rfl rfl) ?_
  refine sq rfl (q_move rfl) ?_
  refine sqg rfl rfl (q_move rfl) ?_
  refine sqg rfl rfl (q_indexAddr (j := 0) (o' := oa) rfl rfl Tryz.runUnderlying43 Tryz.sizeOf52 rfl (by decide) (by omega)) ?_
  refine sqg rfl rfl (q_load (cs := dsa.toList) (v := iv 0) rfl Tryz.isAgg52 (hkna.imp id (fun h => nomatch h)) (hpta.at .z)) ?_
  refine sqg rfl rfl (q_eql (a := 0) (b := 0) rfl rfl) ?_
  rw [show decide ((0 : Int) = 0) = true from decide_eq_true (rfl)]
  refine sq rfl (q_pick rfl rfl rfl rfl) ?_
  refine sq rfl (q_assign rfl) ?_
  refine gol_nil ?_
  refine go_drop L ((List.Sublist.cons _ (.cons _ (.cons _ (List.Sublist.refl L)))).trans (List.sublist_append_right _ _)) ?_
  refine go_ret Tryz.func11 Tryz.results11 rfl rfl rfl (by repeat (first | exact Sto.le_refl _ | assumption | refine Sto.le_trans ?_ (by assumption))) ?_
  exact ⟨rfl, rfl⟩
end Go.Eng
namespace Go.Eng
open Go Go.Proofs
set_option maxRecDepth 20000
section
variable {P : Program} {E : Env} {σ : Sto} {K : SHeap} {d : Option Tmp} {ty : TypeId} {pos : String} {af : Array Edge} {g : Option (Nat × Bool)}
theorem q_indexA {T e n m j : Nat} {x y : Operand} {cs vs : List Value} {i : Int} {k : IntKind} (hx : E.op x = some (.agg cs.toArray)) (hy : E.op y = some (.int k i)) (hU : ∀ w, (underlying T).run P w = .ok (.array n e) w)
    (hA : ∀ w, (isAgg e).run P w = .ok true w) (hS : ∀ w, (sizeOf e).run P w = .ok m w) (hi : i = (j : Int)) (hj : j < n) (hv : Part cs (j * m) m vs) : Quiet P E.ev ⟨d, .index T x y, ty, pos, af, g⟩ K σ (.agg vs.toArray) := by
  intro σ' w L' _ _ _
  subst hi
  simp only [← hv.arr]
  simp [execOp, Env.op_ev hx, Env.op_ev hy, Instr.index, asIntOf, hU, part, hA, hS, hj]
end
def accSum (n : UInt64) (xs : List Acc) : UInt64 := xs.foldl (fun n a => n + a.bal) n
def lockIn (A : Led) (l : Lck) : Prop := l.status = 1 ∧ ¬ ((0 ≤ l.dst ∧ l.dst ≤ A.g.shards) ∧ l.id ∈ (A.ch.getD l.dst.toNat (zeroSt, 0)).1.cons)
instance (A : Led) (l : Lck) : Decidable (lockIn A l) := by unfold lockIn; infer_instance
def lockSum (A : Led) (n : UInt64) (xs : List Lck) : UInt64 := xs.foldl (fun n l => if lockIn A l then n + l.amount else n) n
def chSum (A : Led) (n : UInt64) (c : LSt × Int) : UInt64 := lockSum A (accSum n c.1.accs) c.1.locks
def moneyOf (A : Led) : UInt64 := A.ch.foldl (chSum A) 0
theorem foldl_take {α β : Type} {f : β → α → β} {b : β} {xs : List α} {i : Nat} (h : i < xs.length) : (xs.take (i + 1)).foldl f b = f ((xs.take i).foldl f b) xs[i] := by
  rw [List.take_succ_eq_append_getElem h, List.foldl_append]; rfl
theorem led_chs {g : Gen} {gv : GV} {cvs : List (SV × Int)} {pm : Nat} (hg : (genCells g gv).length = 37) (hc : cvs.length = 4) : Part (ledCells g gv cvs pm) 37 28 (cvs.flatMap chCells) := by
  unfold ledCells
  exact Part.mk (a := genCells g gv) hg (by rw [ch_len, hc])
theorem led_ch {cvs : List (SV × Int)} {i : Nat} (hi : i < cvs.length) : Part (cvs.flatMap chCells) (i * 7) 7 (chCells cvs[i]) := by
  rw [flat_split hi]
  exact Part.mk (by rw [ch_len, List.length_take, Nat.min_eq_left (Nat.le_of_lt hi)]) rfl
theorem led_cons {g : Gen} {gv : GV} {cvs : List (SV × Int)} {pm i : Nat} (hg : (genCells g gv).length = 37) (hi : i < cvs.length) : At (ledCells g gv cvs pm) (37 + i * 7 + 3) cvs[i].1.cons := by
  rw [led_split hi]
  exact At.app (n := 37 + i * 7) (i := 3) (led_pre hg hi) (At.left (.s (.s (.s .z))))
theorem zero116 (w : World) : (zeroValue 116).run Tryz.prog w = .ok (.agg (chCells (zSV, 0)).toArray) w := by rw [Tryz.zeroValue116]; rfl
set_option maxHeartbeats 1000000 in
theorem c30 {σ : Sto} {L Lx : SHeap} {A : Led} {px : Nat} (hA : LedO σ px A Lx) (hsh : A.g.shards < 4) {N : Nat} (hbnd : ∀ c ∈ A.ch, c.1.le N) (hN : N < 1000000) : Ctr Tryz.prog 30 #[.pointer (some ⟨px, 0, none⟩)] σ (Lx ++ L) fun r σ' L' => r = w6 (moneyOf A) ∧ σ' = σ ∧ L' = Lx ++ L := by
  obtain ⟨gv, cvs, pm, es, ck, rfl, hgr, hch, h4, hpast⟩ := hA.out
  have hgl := hgr.len
  have hcl := hch.len
  have hcl4 : cvs.length = 4 := by omega
  show Ctr _ _ _ _ ((px, ledObj A.g gv cvs pm) :: (pm, mobj dv es ck) :: L) _
  refine ctr_enter Tryz.func30 rfl Tryz.ntmps30 (by simp) ?_
  refine go_seq ?_
  refine go_region ?_
  refine sq rfl (q_assign rfl) ?_
  refine gol_nil ?_
  refine go_seq ?_
  refine go_region ?_
  refine sq rfl (q_assign rfl) ?_
  refine gol_nil ?_
  refine go_seq ?_
  refine go_seq ?_
  refine go_region ?_
  refine sq rfl (q_move rfl) ?_
  refine sq rfl (q_nil rfl) ?_
  refine sq rfl (q_fieldAddr (off := 37) (o' := 37) rfl Tryz.runUnderlying119 rfl Tryz.sizeOf117 rfl rfl) ?_
  refine sq rfl (q_loadA (vs := cvs.flatMap chCells) rfl Tryz.isAgg117 Tryz.sizeOf117 .hd (led_chs hgl hcl4)) ?_
  refine sq rfl (q_move rfl) ?_
  refine gol_nil ?_
  refine go_block ?_
  refine go_loop (X := Nat) (fun i => i ≤ 4) (fun i => [(0, .pointer (some ⟨px, 0, none⟩)), (3, w6 ((A.ch.take i).foldl (chSum A) 0)), (13, .agg (cvs.flatMap chCells).toArray), (14, iv (i : Nat))]) (fun _ => σ) (fun _ => (px, ledObj A.g gv cvs pm) :: (pm, mobj dv es ck) :: L) (fun i => 4 - i) 0 (Nat.zero_le _) ⟨rfl, rfl, rfl, rfl, trivial⟩ rfl rfl ?_
  intro i hi next
  refine go_seq ?_
  refine go_region ?_
  refine sq rfl (q_lss (a := (i : Int)) (b := 4) rfl rfl) ?_
  refine gol_nil ?_
  refine go_seq ?_
  refine go_cond rfl rfl (fun hc0 => ?_) (fun hc0 => ?_)
  ·
    have hlt : i < 4 := by have := of_decide_eq_true hc0; omega
    have hic : i < cvs.length := by omega
    have hia : i < A.ch.length := by omega
    have hcr := hch.get i hia hic
    have hbd := hbnd _ (List.getElem_mem hia)
    have hst := hcr.1
    obtain ⟨qa, ca, hqa⟩ := hst.acc.val
    obtain ⟨qk, ck', hqk⟩ := hst.locks.val
    have hA1 : Cells σ [] (.slice qa A.ch[i].1.accs.length ca) A.ch[i].1.accs.length 3 (A.ch[i].1.accs.flatMap accCells) := by have := hst.acc; rw [hqa] at this; exact this.cells.2.2
    have hK1 : Cells σ [] (.slice qk A.ch[i].1.locks.length ck') A.ch[i].1.locks.length 38 (A.ch[i].1.locks.flatMap lockCells) := by have := hst.locks; rw [hqk] at this; exact this.cells.2.2
    have hal := hst.acc.len
    have hkl := hst.locks.len
    have hone : (chCells cvs[i]).all oneCell = true := by unfold chCells; rw [List.all_append, hst.one]; rfl
    refine go_skip ?_
    refine go_seq ?_
    refine go_block ?_
    refine go_seq ?_
    refine go_region ?_
    refine sq rfl (q_indexA (j := i) (vs := chCells cvs[i]) rfl rfl Tryz.runUnderlying117 Tryz.isAgg116 Tryz.sizeOf116 rfl hlt (led_ch hic)) ?_
    refine snb rfl (n_alloc zero116 .agg) ?_
    intro b5
    refine sst rfl (n_storeA rfl rfl (vs := chCells cvs[i]) hone Tryz.sizeOf116 rfl .hd (PutAt.all rfl)) ?_
    refine gol_nil ?_
    refine go_seq ?_
    refine go_seq ?_
    refine go_region ?_
    refine sq rfl (q_fieldAddr (off := 0) (o' := 0) rfl Tryz.runUnderlying116 rfl Tryz.sizeOf51 rfl rfl) ?_
    refine sq rfl (q_fieldAddr (off := 1) (o' := 1) rfl Tryz.runUnderlying51 rfl Tryz.sizeOf46 rfl rfl) ?_
    refine sq rfl (q_load (cs := chCells cvs[i]) rfl Tryz.isAgg46 .hd (.s .z)) ?_
    rw [hqa]
    refine sq rfl (q_len rfl Tryz.runUnderlying46) ?_
    refine sq rfl (q_move rfl) ?_
    refine gol_nil ?_
    refine go_block ?_
    refine go_loop (X := Nat) (fun j => j ≤ A.ch[i].1.accs.length) (fun j => [(0, .pointer (some ⟨px, 0, none⟩)), (3, w6 (accSum ((A.ch.take i).foldl (chSum A) 0) (A.ch[i].1.accs.take j))), (5, .pointer (some ⟨b5, 0, none⟩)), (13, .agg (cvs.flatMap chCells).toArray), (14, iv (i : Nat)), (19, .slice qa A.ch[i].1.accs.length ca), (20, iv (A.ch[i].1.accs.length : Nat)), (21, iv (j : Nat))]) (fun _ => σ) (fun _ => (b5, .cells (chCells cvs[i]).toArray 116 (0, 0)) :: (px, ledObj A.g gv cvs pm) :: (pm, mobj dv es ck) :: L) (fun j => A.ch[i].1.accs.length - j) 0 (Nat.zero_le _) ⟨rfl, rfl, rfl, rfl, rfl, rfl, rfl, rfl, trivial⟩ rfl rfl ?_
    intro j hj next1
    refine go_seq ?_
    refine go_region ?_
    refine sq rfl (q_lss (a := (j : Int)) (b := (A.ch[i].1.accs.length : Int)) rfl rfl) ?_
    refine gol_nil ?_
    refine go_seq ?_
    refine go_cond rfl rfl (fun hc1 => ?_) (fun hc1 => ?_)
    ·
      have hltj : j < A.ch[i].1.accs.length := by have := of_decide_eq_true hc1; omega
      obtain ⟨b9, o9, ds9, T9, fr9, hq9, hkn9, hpt9⟩ := hA1.get (by intro e; have := hA1.1; rw [e] at this; simp at this; omega)
      subst hq9
      have h9 : Part ds9.toList (o9 + j * 3) 3 (accCells A.ch[i].1.accs[j]) := by have := cells_part hpt9 hltj; rwa [flat_at hal hltj] at this
      have hu9 : Kn σ ((b5, .cells (chCells cvs[i]).toArray 116 (0, 0)) :: (px, ledObj A.g gv cvs pm) :: (pm, mobj dv es ck) :: L) b9 (.cells ds9 T9 fr9) := hkn9.imp id (fun h => nomatch h)
      refine go_skip ?_
      refine go_seq ?_
      refine go_block ?_
      refine go_seq ?_
      refine go_region ?_
      refine sq rfl (q_indexAddr (j := j) (o' := o9 + j * 3) rfl rfl Tryz.runUnderlying46 Tryz.sizeOf57 rfl hltj rfl) ?_
      refine sq rfl (q_loadA rfl Tryz.isAgg57 Tryz.sizeOf57 hu9 h9) ?_
      refine snb rfl (n_alloc zero57 .agg) ?_
      intro b2
      refine sst rfl (n_storeA rfl rfl (vs := accCells A.ch[i].1.accs[j]) rfl Tryz.sizeOf57 rfl .hd (PutAt.all rfl)) ?_
      refine gol_nil ?_
      refine go_region ?_
      refine sq rfl (q_move rfl) ?_
      refine sq rfl (q_fieldAddr (off := 1) (o' := 1) rfl Tryz.runUnderlying57 rfl Tryz.sizeOf31 rfl rfl) ?_
      refine sq rfl (q_load (cs := accCells A.ch[i].1.accs[j]) (v := w6 A.ch[i].1.accs[j].bal) rfl Tryz.isAgg31 .hd (.s .z)) ?_
      refine sq rfl (q_add64 (a := accSum ((A.ch.take i).foldl (chSum A) 0) (A.ch[i].1.accs.take j)) (b := A.ch[i].1.accs[j].bal) rfl rfl) ?_
      refine sq rfl (q_assign rfl) ?_
      refine gol_nil ?_
      refine go_inBlock ?_
      refine go_drop1 ?_
      refine go_region ?_
      refine sq rfl (q_add (a := (j : Int)) (b := 1) (c := ((j + 1 : Nat) : Int)) rfl rfl (i64_in (by omega) (by have := hbd.accs; omega))) ?_
      refine sq rfl (q_move rfl) ?_
      refine gol_nil ?_
      refine go_next (next1 (j + 1) hltj (by omega)) ⟨rfl, ?_, rfl, rfl, rfl, rfl, rfl, rfl, trivial⟩
      show some (w6 _) = some (w6 _)
      unfold accSum
      rw [foldl_take hltj]
    ·
      have hie : j = A.ch[i].1.accs.length := by have := of_decide_eq_false hc1; omega
      subst hie
      rw [List.take_length]
      clear next1
      refine go_exit rfl ?_
      refine go_seq ?_
      refine go_region ?_
      refine sq rfl (q_fieldAddr (off := 0) (o' := 0) rfl Tryz.runUnderlying116 rfl Tryz.sizeOf51 rfl rfl) ?_
      refine sq rfl (q_fieldAddr (off := 2) (o' := 2) rfl Tryz.runUnderlying51 rfl Tryz.sizeOf47 rfl rfl) ?_
      refine sq rfl (q_load (cs := chCells cvs[i]) rfl Tryz.isAgg47 .hd (.s (.s .z))) ?_
      rw [hqk]
      refine sq rfl (q_len rfl Tryz.runUnderlying47) ?_
      refine sq rfl (q_move rfl) ?_
      refine gol_nil ?_
      refine go_block ?_
      refine go_loop (X := Nat) (fun j => j ≤ A.ch[i].1.locks.length) (fun j => [(0, .pointer (some ⟨px, 0, none⟩)), (3, w6 (lockSum A (accSum ((A.ch.take i).foldl (chSum A) 0) A.ch[i].1.accs) (A.ch[i].1.locks.take j))), (13, .agg (cvs.flatMap chCells).toArray), (14, iv (i : Nat)), (32, .slice qk A.ch[i].1.locks.length ck'), (33, iv (A.ch[i].1.locks.length : Nat)), (34, iv (j : Nat))]) (fun _ => σ) (fun _ => (b5, .cells (chCells cvs[i]).toArray 116 (0, 0)) :: (px, ledObj A.g gv cvs pm) :: (pm, mobj dv es ck) :: L) (fun j => A.ch[i].1.locks.length - j) 0 (Nat.zero_le _) ⟨rfl, rfl, rfl, rfl, rfl, rfl, rfl, trivial⟩ rfl rfl ?_
      intro j hj next2
      refine go_seq ?_
      refine go_region ?_
      refine sq rfl (q_lss (a := (j : Int)) (b := (A.ch[i].1.locks.length : Int)) rfl rfl) ?_
      refine gol_nil ?_
      refine go_seq ?_
      refine go_cond rfl rfl (fun hc2 => ?_) (fun hc2 => ?_)
      ·
        have hltj : j < A.ch[i].1.locks.length := by have := of_decide_eq_true hc2; omega
        have hxl : A.ch[i].1.locks[j].id.length = 32 := by have := hkl _ (List.getElem_mem hltj); simp [lockCells, bcells] at this; omega
        obtain ⟨b9, o9, ds9, T9, fr9, hq9, hkn9, hpt9⟩ := hK1.get (by intro e; have := hK1.1; rw [e] at this; simp at this; omega)
        subst hq9
        have h9 : Part ds9.toList (o9 + j * 38) 38 (lockCells A.ch[i].1.locks[j]) := by have := cells_part hpt9 hltj; rwa [flat_at hkl hltj] at this
        have hu9 : Kn σ ((b5, .cells (chCells cvs[i]).toArray 116 (0, 0)) :: (px, ledObj A.g gv cvs pm) :: (pm, mobj dv es ck) :: L) b9 (.cells ds9 T9 fr9) := hkn9.imp id (fun h => nomatch h)
        have hnext : ∀ n : UInt64, n = lockSum A (accSum ((A.ch.take i).foldl (chSum A) 0) A.ch[i].1.accs) (A.ch[i].1.locks.take (j + 1)) → n = n := fun _ _ => rfl
        generalize hlk : A.ch[i].1.locks[j] = lk at *
        refine go_skip ?_
        refine go_seq ?_
        refine go_block ?_
        refine go_seq ?_
        refine go_region ?_
        refine sq rfl (q_indexAddr (j := j) (o' := o9 + j * 38) rfl rfl Tryz.runUnderlying47 Tryz.sizeOf60 rfl hltj rfl) ?_
        refine sq rfl (q_loadA rfl Tryz.isAgg60 Tryz.sizeOf60 hu9 h9) ?_
        refine snb rfl (n_alloc zero60 .agg) ?_
        intro b7
        refine sst rfl (n_storeA rfl rfl (vs := lockCells lk) (lock_one _) Tryz.sizeOf60 (lk_len hxl) .hd (PutAt.all (by rw [lk_len hxl]; rfl))) ?_
        refine gol_nil ?_
        refine go_seq ?_
        refine go_draws (n := 69) [(b7, .cells (lockCells lk).toArray 60 (0, 0)), (px, ledObj A.g gv cvs pm)] mix rfl (by decide +kernel) (keep2 (by simp) (by simp)) ?_
        refine dq 0 rfl rfl rfl rfl (q_fieldAddr (off := 37) (o' := 37) rfl Tryz.runUnderlying60 rfl Tryz.sizeOf3 rfl rfl) ?_
        refine dq 1 rfl rfl rfl rfl (q_load (cs := lockCells lk) (v := iv lk.status) rfl Tryz.isAgg3 .hd (lock_at hxl (.s (.s (.s (.s (.s .z))))))) ?_
        refine dq 2 rfl rfl rfl rfl (q_eql (a := lk.status) (b := 1) rfl rfl) ?_
        rcases Classical.em (lk.status = 1) with hs1 | hs1
        ·
          rw [show decide (lk.status = 1) = true from decide_eq_true hs1]
          refine dq 3 rfl rfl rfl rfl (q_move rfl) ?_
          refine dqg 4 rfl rfl rfl rfl rfl rfl (q_move rfl) ?_
          refine dqg 5 rfl rfl rfl rfl rfl rfl (q_fieldAddr (off := 35) (o' := 35) rfl Tryz.runUnderlying60 rfl Tryz.sizeOf3 rfl rfl) ?_
          refine dqg 6 rfl rfl rfl rfl rfl rfl (q_load (cs := lockCells lk) (v := iv lk.dst) rfl Tryz.isAgg3 .hd (lock_at hxl (.s (.s (.s .z))))) ?_
          refine dng 7 rfl rfl rfl rfl rfl rfl (by decide +kernel) (n_call rfl Tryz.call41 (c41 (.tl (.tl .hd)) lk.dst)) (by rintro _ _ _ _ ⟨_, _, rfl⟩; exact keep2 (by simp) (by simp)) ?_
          rintro _ σ9 _ - ⟨rfl, e9, rfl⟩
          obtain rfl := e9.symm
          rcases Classical.em (0 ≤ lk.dst ∧ lk.dst ≤ A.g.shards) with hhd | hhd
          ·
            rw [show decide (0 ≤ lk.dst ∧ lk.dst ≤ A.g.shards) = true from decide_eq_true hhd]
            have hdc : lk.dst.toNat < cvs.length := by omega
            have hda : lk.dst.toNat < A.ch.length := by omega
            have hdr := (hch.get _ hda hdc).1
            have hdb := (hbnd _ (List.getElem_mem hda)).cons
            refine dqg 8 rfl rfl rfl rfl rfl rfl (q_move rfl) ?_
            refine dqg 9 rfl rfl rfl rfl rfl rfl (q_move rfl) ?_
            refine dqg 10 rfl rfl rfl rfl rfl rfl (q_fieldAddr (off := 35) (o' := 35) rfl Tryz.runUnderlying60 rfl Tryz.sizeOf3 rfl rfl) ?_
            refine dqg 11 rfl rfl rfl rfl rfl rfl (q_load (cs := lockCells lk) (v := iv lk.dst) rfl Tryz.isAgg3 .hd (lock_at hxl (.s (.s (.s .z))))) ?_
            refine dqg 12 rfl rfl rfl rfl rfl rfl (q_nil rfl) ?_
            refine dqg 13 rfl rfl rfl rfl rfl rfl (q_fieldAddr (off := 37) (o' := 37) rfl Tryz.runUnderlying119 rfl Tryz.sizeOf117 rfl rfl) ?_
            refine dqg 14 rfl rfl rfl rfl rfl rfl (q_indexAddrA (j := lk.dst.toNat) (o' := 37 + lk.dst.toNat * 7) rfl rfl Tryz.runUnderlying117 Tryz.sizeOf116 (by omega) (by omega) rfl) ?_
            refine dqg 15 rfl rfl rfl rfl rfl rfl (q_fieldAddr (off := 0) (o' := 37 + lk.dst.toNat * 7) rfl Tryz.runUnderlying116 rfl Tryz.sizeOf51 rfl rfl) ?_
            refine dqg 16 rfl rfl rfl rfl rfl rfl (q_fieldAddr (off := 3) (o' := 37 + lk.dst.toNat * 7 + 3) rfl Tryz.runUnderlying51 rfl Tryz.sizeOf48 rfl rfl) ?_
            refine dqg 17 rfl rfl rfl rfl rfl rfl (q_load (cs := ledCells A.g gv cvs pm) (v := cvs[lk.dst.toNat].1.cons) rfl Tryz.isAgg48 (.tl .hd) (led_cons hgl hdc)) ?_
            refine dqg 18 rfl rfl rfl rfl rfl rfl (q_fieldAddr (off := 0) (o' := 0) rfl Tryz.runUnderlying60 rfl Tryz.sizeOf27 rfl rfl) ?_
            refine dqg 19 rfl rfl rfl rfl rfl rfl (q_loadA (vs := bcells lk.id) rfl Tryz.isAgg27 Tryz.sizeOf27 .hd (lockCells_head _ ▸ Part.mk (a := []) rfl (by rw [bcells_len, hxl]))) ?_
            refine dng 20 rfl rfl rfl rfl rfl rfl (by decide +kernel) (n_call rfl Tryz.call61 (c61 hdr.cons hxl (by omega))) (by rintro _ _ _ _ ⟨_, _, rfl⟩; exact keep2 (by simp) (by simp)) ?_
            rintro _ σ9 _ - ⟨rfl, e9, rfl⟩
            obtain rfl := e9.symm
            rcases Classical.em (lk.id ∈ A.ch[lk.dst.toNat].1.cons) with hic2 | hic2
            ·
              rw [show decide (lk.id ∈ A.ch[lk.dst.toNat].1.cons) = true from decide_eq_true hic2]
              have hnl : ¬ lockIn A lk := fun h => h.2 ⟨hhd, by rw [List.getD_eq_getElem?_getD, List.getElem?_eq_getElem hda]; exact hic2⟩
              refine dqg 21 rfl rfl rfl rfl rfl rfl (q_pick rfl rfl rfl rfl) ?_
              refine dqg 22 rfl rfl rfl rfl rfl rfl (q_not rfl) ?_
              refine dq 23 rfl rfl rfl rfl (q_pick rfl rfl rfl rfl) ?_
              refine dend rfl ?_
              refine go_condF rfl rfl ?_
              refine go_skip ?_
              refine go_inBlock ?_
              refine go_drop1 ?_
              refine go_region ?_
              refine sq rfl (q_add (a := (j : Int)) (b := 1) (c := ((j + 1 : Nat) : Int)) rfl rfl (i64_in (by omega) (by have := hbd.locks; omega))) ?_
              refine sq rfl (q_move rfl) ?_
              refine gol_nil ?_
              refine go_next (next2 (j + 1) hltj (by omega)) ⟨rfl, ?_, rfl, rfl, rfl, rfl, rfl, trivial⟩
              show some (w6 _) = some (w6 _)
              unfold lockSum
              rw [foldl_take hltj, hlk]
              first | rw [if_pos hyl] | rw [if_neg hnl]
            ·
              rw [show decide (lk.id ∈ A.ch[lk.dst.toNat].1.cons) = false from decide_eq_false hic2]
              have hyl : lockIn A lk := ⟨hs1, fun h => hic2 (by have := h.2; rwa [List.getD_eq_getElem?_getD, List.getElem?_eq_getElem hda] at this)⟩
              refine dqg 21 rfl rfl rfl rfl rfl rfl (q_pick rfl rfl rfl rfl) ?_
              refine dqg 22 rfl rfl rfl rfl rfl rfl (q_not rfl) ?_
              refine dq 23 rfl rfl rfl rfl (q_pick rfl rfl rfl rfl) ?_
              refine dend rfl ?_
              refine go_condT rfl rfl ?_
              refine go_region ?_
              refine sq rfl (q_move rfl) ?_
              refine sq rfl (q_fieldAddr (off := 34) (o' := 34) rfl Tryz.runUnderlying60 rfl Tryz.sizeOf31 rfl rfl) ?_
              refine sq rfl (q_load (cs := lockCells lk) (v := w6 lk.amount) rfl Tryz.isAgg31 .hd (lock_at hxl (.s (.s .z)))) ?_
              refine sq rfl (q_add64 (a := lockSum A (accSum ((A.ch.take i).foldl (chSum A) 0) A.ch[i].1.accs) (A.ch[i].1.locks.take j)) (b := lk.amount) rfl rfl) ?_
              refine sq rfl (q_assign rfl) ?_
              refine gol_nil ?_
              refine go_inBlock ?_
              refine go_drop1 ?_
              refine go_region ?_
              refine sq rfl (q_add (a := (j : Int)) (b := 1) (c := ((j + 1 : Nat) : Int)) rfl rfl (i64_in (by omega) (by have := hbd.locks; omega))) ?_
              refine sq rfl (q_move rfl) ?_
              refine gol_nil ?_
              refine go_next (next2 (j + 1) hltj (by omega)) ⟨rfl, ?_, rfl, rfl, rfl, rfl, rfl, trivial⟩
              show some (w6 _) = some (w6 _)
              unfold lockSum
              rw [foldl_take hltj, hlk]
              first | rw [if_pos hyl] | rw [if_neg hnl]
          ·
            rw [show decide (0 ≤ lk.dst ∧ lk.dst ≤ A.g.shards) = false from decide_eq_false hhd]
            have hyl : lockIn A lk := ⟨hs1, fun h => hhd h.1⟩
            refine dqg 8 rfl rfl rfl rfl rfl rfl (q_move rfl) ?_
            refine dskip 9 rfl rfl rfl (by first | exact .inl rfl | exact .inr rfl) rfl rfl rfl ?_
            refine dskip 10 rfl rfl rfl (by first | exact .inl rfl | exact .inr rfl) rfl rfl rfl ?_
            refine dskip 11 rfl rfl rfl (by first | exact .inl rfl | exact .inr rfl) rfl rfl rfl ?_
            refine dskip 12 rfl rfl rfl (by first | exact .inl rfl | exact .inr rfl) rfl rfl rfl ?_
            refine dskip 13 rfl rfl rfl (by first | exact .inl rfl | exact .inr rfl) rfl rfl rfl ?_
            refine dskip 14 rfl rfl rfl (by first | exact .inl rfl | exact .inr rfl) rfl rfl rfl ?_
            refine dskip 15 rfl rfl rfl (by first | exact .inl rfl | exact .inr rfl) rfl rfl rfl ?_
            refine dskip 16 rfl rfl rfl (by first | exact .inl rfl | exact .inr rfl) rfl rfl rfl ?_
            refine dskip 17 rfl rfl rfl (by first | exact .inl rfl | exact .inr rfl) rfl rfl rfl ?_
            refine dskip 18 rfl rfl rfl (by first | exact .inl rfl | exact .inr rfl) rfl rfl rfl ?_
            refine dskip 19 rfl rfl rfl (by first | exact .inl rfl | exact .inr rfl) rfl rfl rfl ?_
            refine dskip 20 rfl rfl rfl (by first | exact .inl rfl | exact .inr rfl) rfl rfl rfl ?_
            refine dqg 21 rfl rfl rfl rfl rfl rfl (q_pick rfl rfl rfl rfl) ?_
            refine dqg 22 rfl rfl rfl rfl rfl rfl (q_not rfl) ?_
            refine dq 23 rfl rfl rfl rfl (q_pick rfl rfl rfl rfl) ?_
            refine dend rfl ?_
            refine go_condT rfl rfl ?_
            refine go_region ?_
            refine sq rfl (q_move rfl) ?_
            refine sq rfl (q_fieldAddr (off := 34) (o' := 34) rfl Tryz.runUnderlying60 rfl Tryz.sizeOf31 rfl rfl) ?_
            refine sq rfl (q_load (cs := lockCells lk) (v := w6 lk.amount) rfl Tryz.isAgg31 .hd (lock_at hxl (.s (.s .z)))) ?_
            refine sq rfl (q_add64 (a := lockSum A (accSum ((A.ch.take i).foldl (chSum A) 0) A.ch[i].1.accs) (A.ch[i].1.locks.take j)) (b := lk.amount) rfl rfl) ?_
            refine sq rfl (q_assign rfl) ?_
            refine gol_nil ?_
            refine go_inBlock ?_
            refine go_drop1 ?_
            refine go_region ?_
            refine sq rfl (q_add (a := (j : Int)) (b := 1) (c := ((j + 1 : Nat) : Int)) rfl rfl (i64_in (by omega) (by have := hbd.locks; omega))) ?_
            refine sq rfl (q_move rfl) ?_
            refine gol_nil ?_
            refine go_next (next2 (j + 1) hltj (by omega)) ⟨rfl, ?_, rfl, rfl, rfl, rfl, rfl, trivial⟩
            show some (w6 _) = some (w6 _)
            unfold lockSum
            rw [foldl_take hltj, hlk]
            first | rw [if_pos hyl] | rw [if_neg hnl]
        ·
          rw [show decide (lk.status = 1) = false from decide_eq_false hs1]
          have hnl : ¬ lockIn A lk := fun h => hs1 h.1
          refine dq 3 rfl rfl rfl rfl (q_move rfl) ?_
          refine dskip 4 rfl rfl rfl (by first | exact .inl rfl | exact .inr rfl) rfl rfl rfl ?_
          refine dskip 5 rfl rfl rfl (by first | exact .inl rfl | exact .inr rfl) rfl rfl rfl ?_
          refine dskip 6 rfl rfl rfl (by first | exact .inl rfl | exact .inr rfl) rfl rfl rfl ?_
          refine dskip 7 rfl rfl rfl (by first | exact .inl rfl | exact .inr rfl) rfl rfl rfl ?_
          refine dskip 8 rfl rfl rfl (by first | exact .inl rfl | exact .inr rfl) rfl rfl rfl ?_
          refine dskip 9 rfl rfl rfl (by first | exact .inl rfl | exact .inr rfl) rfl rfl rfl ?_
          refine dskip 10 rfl rfl rfl (by first | exact .inl rfl | exact .inr rfl) rfl rfl rfl ?_
          refine dskip 11 rfl rfl rfl (by first | exact .inl rfl | exact .inr rfl) rfl rfl rfl ?_
          refine dskip 12 rfl rfl rfl (by first | exact .inl rfl | exact .inr rfl) rfl rfl rfl ?_
          refine dskip 13 rfl rfl rfl (by first | exact .inl rfl | exact .inr rfl) rfl rfl rfl ?_
          refine dskip 14 rfl rfl rfl (by first | exact .inl rfl | exact .inr rfl) rfl rfl rfl ?_
          refine dskip 15 rfl rfl rfl (by first | exact .inl rfl | exact .inr rfl) rfl rfl rfl ?_
          refine dskip 16 rfl rfl rfl (by first | exact .inl rfl | exact .inr rfl) rfl rfl rfl ?_
          refine dskip 17 rfl rfl rfl (by first | exact .inl rfl | exact .inr rfl) rfl rfl rfl ?_
          refine dskip 18 rfl rfl rfl (by first | exact .inl rfl | exact .inr rfl) rfl rfl rfl ?_
          refine dskip 19 rfl rfl rfl (by first | exact .inl rfl | exact .inr rfl) rfl rfl rfl ?_
          refine dskip 20 rfl rfl rfl (by first | exact .inl rfl | exact .inr rfl) rfl rfl rfl ?_
          refine dskip 21 rfl rfl rfl (by first | exact .inl rfl | exact .inr rfl) rfl rfl rfl ?_
          refine dskip 22 rfl rfl rfl (by first | exact .inl rfl | exact .inr rfl) rfl rfl rfl ?_
          refine dq 23 rfl rfl rfl rfl (q_pick rfl rfl rfl rfl) ?_
          refine dend rfl ?_
          refine go_condF rfl rfl ?_
          refine go_skip ?_
          refine go_inBlock ?_
          refine go_drop1 ?_
          refine go_region ?_
          refine sq rfl (q_add (a := (j : Int)) (b := 1) (c := ((j + 1 : Nat) : Int)) rfl rfl (i64_in (by omega) (by have := hbd.locks; omega))) ?_
          refine sq rfl (q_move rfl) ?_
          refine gol_nil ?_
          refine go_next (next2 (j + 1) hltj (by omega)) ⟨rfl, ?_, rfl, rfl, rfl, rfl, rfl, trivial⟩
          show some (w6 _) = some (w6 _)
          unfold lockSum
          rw [foldl_take hltj, hlk]
          first | rw [if_pos hyl] | rw [if_neg hnl]
      ·
        have hie : j = A.ch[i].1.locks.length := by have := of_decide_eq_false hc2; omega
        subst hie
        rw [List.take_length]
        clear next2
        refine go_exit rfl ?_
        refine go_inBlock ?_
        refine go_drop1 ?_
        refine go_region ?_
        refine sq rfl (q_add (a := (i : Int)) (b := 1) (c := ((i + 1 : Nat) : Int)) rfl rfl (i64_in (by omega) (by omega))) ?_
        refine sq rfl (q_move rfl) ?_
        refine gol_nil ?_
        refine go_next (next (i + 1) hlt (by omega)) ⟨rfl, ?_, rfl, rfl, trivial⟩
        show some (w6 _) = some (w6 _)
        rw [foldl_take hia]; rfl
  ·
    have hie : i = 4 := by have := of_decide_eq_false hc0; omega
    subst hie
    rw [show A.ch.take 4 = A.ch from List.take_of_length_le (by omega)]
    refine go_exit rfl ?_
    refine go_seq ?_
    refine go_region ?_
    refine sq rfl (q_move rfl) ?_
    refine sq rfl (q_assign rfl) ?_
    refine gol_nil ?_
    refine go_ret Tryz.func30 Tryz.results30 rfl rfl rfl (by repeat (first | exact Sto.le_refl _ | assumption | refine Sto.le_trans ?_ (by assumption))) ?_
    exact ⟨rfl, rfl, rfl⟩
end Go.Eng
