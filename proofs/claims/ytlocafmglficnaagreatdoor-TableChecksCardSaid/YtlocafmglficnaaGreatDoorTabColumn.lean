/- The error of a column. -/
import Derived.Test.YtlocafmglficnaaGreatDoorTabDouble
namespace Go.Proofs.YtlocafmglficnaaGreatDoor
open Go.RowKit Go.Maps

theorem SRow.cols {C : TypeId → Nat → Prop} {w : World} {v : Value} {cs : List Col} (h : SRow colK C w v cs) :
    ∃ A c, v = .slice A cs.length c ∧ cs.length ≤ c ∧ c ≤ maxLen ∧ (0 < cs.length → ∃ b o, A = some ⟨b, o, none⟩ ∧ ∀ j (hj : j < cs.length), ∃ u, w.cell? ⟨b, o + j * 4, none⟩ = some (.string cs[j].name) ∧ w.cell? ⟨b, o + j * 4 + 1, none⟩ = some (.int .i64 cs[j].lo) ∧
      w.cell? ⟨b, o + j * 4 + 2, none⟩ = some (.int .i64 cs[j].hi) ∧ w.cell? ⟨b, o + j * 4 + 3, none⟩ = some u ∧ SRow strK C w u cs[j].words ∧ (cs[j].name.size ≤ maxLen ∧ Fit cs[j].lo ∧ Fit cs[j].hi)) := by
  obtain ⟨A, c, e, h1, h2, h3⟩ := h
  refine ⟨A, c, e, h1, h2, fun h0 => ?_⟩
  obtain ⟨b, o, eA, _, _, hx⟩ := h3 h0
  refine ⟨b, o, eA, fun j hj => ?_⟩
  obtain ⟨l, ⟨u, rfl, hr, hs⟩, hc⟩ := hx j cs[j] (by simp [hj])
  exact ⟨u, by simpa [colK] using hc 0 _ rfl, by simpa [colK] using hc 1 _ rfl, by simpa [colK] using hc 2 _ rfl, by simpa [colK] using hc 3 _ rfl, hr, hs⟩

/-- The error of a column's words. -/
def wordsErr (c : Col) : Int :=
  if 64 < c.words.length then 4 else if c.words.any (fun s => !nameB s) = true then 19 else if dupS c.words = true then 8 else if c.lo ≠ 0 ∨ c.hi ≠ (c.words.length : Int) - 1 then 2 else 0
/-- A column by value. -/
def ColVal (C : TypeId → Nat → Prop) (w : World) (v : Value) (c : Col) : Prop := ∃ u, v = .agg #[.string c.name, .int .i64 c.lo, .int .i64 c.hi, u] ∧ SRow strK C w u c.words ∧ (c.name.size ≤ maxLen ∧ Fit c.lo ∧ Fit c.hi)
theorem ColVal.below {C : TypeId → Nat → Prop} {w w' : World} {v : Value} {c : Col} (h : ColVal C w v c) (hb : Below w.heap.size w w') : ColVal C w' v c := by
  obtain ⟨u, e, hr, hs⟩ := h
  exact ⟨u, e, hr.below hb, hs⟩

theorem box4 (w : World) (c0 c1 c2 c3 : Value) (t : TypeId) : (w.alloc (.cells #[c0, c1, c2, c3] t)).cell? ⟨w.heap.size, 0, none⟩ = some c0 ∧ (w.alloc (.cells #[c0, c1, c2, c3] t)).cell? ⟨w.heap.size, 1, none⟩ = some c1 ∧
    (w.alloc (.cells #[c0, c1, c2, c3] t)).cell? ⟨w.heap.size, 2, none⟩ = some c2 ∧ (w.alloc (.cells #[c0, c1, c2, c3] t)).cell? ⟨w.heap.size, 3, none⟩ = some c3 := by
  refine ⟨?_, ?_, ?_, ?_⟩ <;> (rw [World.cell?_alloc_at _ _ _ _ rfl]; rfl)
theorem below_alloc (w : World) (o : Obj) : Below w.heap.size w (w.alloc o) := (Below.refl _ _).alloc (Nat.le_refl _) _

set_option maxHeartbeats 1000000 in
theorem words_any (C : TypeId → Nat → Prop) (v : Value) (c : Col) (w : World) (h : ColVal C w v c) (hr : Res w) :
    Calls Tryz.prog 96 #[v] w fun e w' => e = .returned (.int .i64 (wordsErr c)) ∧ Below w.heap.size w w' := by
  obtain ⟨u, rfl, hw, hs⟩ := h
  obtain ⟨A, cc, rfl, hle, hmx, _⟩ := hw.strs
  have hb0 := below_alloc w (.cells #[.string c.name, .int .i64 c.lo, .int .i64 c.hi, .slice A c.words.length cc] 25)
  have HW := Lib.hid (hw.below hb0)
  have HR := Lib.hid (hr.later hb0)
  have HB := Lib.hid hb0
  have HF := Lib.hid hs
  unfold maxLen at hmx
  clear hw hr hb0 hs
  by_cases h1 : 64 < c.words.length
  · have HV := Lib.hid (show wordsErr c = 4 by unfold wordsErr; rw [if_pos h1])
    have h1' : (64 : Int) < (c.words.length : Int) := by omega
    go_enter Tryz.func96, Tryz.ntmps96
    go_wp2
    go_ret
    exact ⟨by rw [HV.out]; rfl, HB.out⟩
  have h1' : ¬ (64 : Int) < (c.words.length : Int) := by omega
  by_cases h2 : c.words.any (fun s => !nameB s) = true
  · have HV := Lib.hid (show wordsErr c = 19 by unfold wordsErr; rw [if_neg h1, if_pos h2])
    have H2 := Lib.hid h2
    clear h2
    go_enter Tryz.func96, Tryz.ntmps96
    go_wp2_with (go_at_call 110; refine (hasBad_any C _ c.words _ HW.out HR.out).mono ?_; rintro e w' ⟨rfl, rfl⟩; rw [H2.out])
    go_ret
    exact ⟨by rw [HV.out]; rfl, HB.out⟩
  by_cases h3 : dupS c.words = true
  · have HV := Lib.hid (show wordsErr c = 8 by unfold wordsErr; rw [if_neg h1, if_neg h2, if_pos h3])
    have H2 := Lib.hid (show c.words.any (fun s => !nameB s) = false by simpa using h2)
    have H3 := Lib.hid h3
    clear h2 h3
    go_enter Tryz.func96, Tryz.ntmps96
    go_wp2_with (first
      | (go_at_call 110; refine (hasBad_any C _ c.words _ HW.out HR.out).mono ?_; rintro e w' ⟨rfl, rfl⟩; rw [H2.out])
      | (go_at_call 112; refine (double_any C _ c.words _ HW.out (by omega)).mono ?_; rintro e w' ⟨rfl, hb⟩; rw [H3.out]))
    go_ret
    exact ⟨by rw [HV.out]; rfl, HB.out.trans (hb.mono HB.out.size)⟩
  have H2 := Lib.hid (show c.words.any (fun s => !nameB s) = false by simpa using h2)
  have H3 := Lib.hid (show dupS c.words = false by simpa using h3)
  have hv : wordsErr c = if c.lo ≠ 0 ∨ c.hi ≠ (c.words.length : Int) - 1 then 2 else 0 := by unfold wordsErr; rw [if_neg h1, if_neg h2, if_neg h3]
  clear h2 h3
  have hl0 : (0 : Int) ≤ (c.words.length : Int) := by omega
  have hcs : (wordsErr c = 2 ∧ (c.lo != 0) = true) ∨ (wordsErr c = 2 ∧ (c.lo != 0) = false ∧ (c.hi != (c.words.length : Int) - 1) = true) ∨ (wordsErr c = 0 ∧ (c.lo != 0) = false ∧ (c.hi != (c.words.length : Int) - 1) = false) := by
    rw [hv]
    by_cases e1 : c.lo = 0
    · by_cases e2 : c.hi = (c.words.length : Int) - 1
      · exact .inr (.inr ⟨by rw [if_neg (by simp [e1, e2])], by simpa using e1, by simpa using e2⟩)
      · exact .inr (.inl ⟨by rw [if_pos (.inr e2)], by simpa using e1, by simpa using e2⟩)
    · exact .inl ⟨by rw [if_pos (.inl e1)], by simpa using e1⟩
  clear hv
  rcases hcs with ⟨hv, c1⟩ | ⟨hv, c1, c2⟩ | ⟨hv, c1, c2⟩
  all_goals
    have HV := Lib.hid hv
    clear hv
    go_enter Tryz.func96, Tryz.ntmps96
    go_wp2_with (first
      | (go_at_call 110; refine (hasBad_any C _ c.words _ HW.out HR.out).mono ?_; rintro e w' ⟨rfl, rfl⟩; rw [H2.out])
      | (go_at_call 112; refine (double_any C _ c.words _ HW.out (by omega)).mono ?_; rintro e w' ⟨rfl, hb⟩; rw [H3.out]; have hbc := hb; have b1 := (hb.cell (p := ⟨w.heap.size, 1, none⟩) (by simp)).trans (box4 w (.string c.name) (.int .i64 c.lo) (.int .i64 c.hi) (.slice A c.words.length cc) 25).2.1; have b2 := (hb.cell (p := ⟨w.heap.size, 2, none⟩) (by simp)).trans (box4 w (.string c.name) (.int .i64 c.lo) (.int .i64 c.hi) (.slice A c.words.length cc) 25).2.2.1; have b3 := (hb.cell (p := ⟨w.heap.size, 3, none⟩) (by simp)).trans (box4 w (.string c.name) (.int .i64 c.lo) (.int .i64 c.hi) (.slice A c.words.length cc) 25).2.2.2))
    go_ret
    exact ⟨by rw [HV.out]; rfl, HB.out.trans (hb.mono HB.out.size)⟩

/-- The closure of ContainsFunc in column: has a column this name? -/
theorem named_any (C : TypeId → Nat → Prop) (v : Value) (c : Col) (p : Nat) (nm : ByteArray) (w : World) (h : ColVal C w v c) (hp : w.cell? ⟨p, 0, none⟩ = some (.string nm)) :
    Calls Tryz.prog 95 #[v, .pointer (some ⟨p, 0, none⟩)] w fun e w' => e = .returned (.bool (decide (c.name = nm))) ∧ Below w.heap.size w w' := by
  obtain ⟨u, rfl, _, _⟩ := h
  have hb0 := below_alloc w (.cells #[.string c.name, .int .i64 c.lo, .int .i64 c.hi, u] 25)
  have hp' := (hb0.cell (p := ⟨p, 0, none⟩) (World.block_lt_of_cell? w _ hp)).trans hp
  have HB := Lib.hid hb0
  clear hb0 hp
  by_cases he : c.name = nm
  · have e1 : (c.name.toList == nm.toList) = true := by rw [he]; simp
    have HV := Lib.hid (show decide (c.name = nm) = true by simpa using he)
    clear he
    go_enter Tryz.func95, Tryz.ntmps95
    go_wp2
    go_ret
    exact ⟨by rw [HV.out]; rfl, HB.out⟩
  · have e1 : (c.name.toList == nm.toList) = false := by simpa [Lib.toList_data] using fun e => he (ByteArray.ext (Array.toList_inj.1 e))
    have HV := Lib.hid (show decide (c.name = nm) = false by simpa using he)
    clear he
    go_enter Tryz.func95, Tryz.ntmps95
    go_wp2
    go_ret
    exact ⟨by rw [HV.out]; rfl, HB.out⟩

set_option maxHeartbeats 1000000 in
theorem idxNamed_any (C : TypeId → Nat → Prop) (v : Value) (cs : List Col) (p : Nat) (nm : ByteArray) (w : World) (h : SRow colK C w v cs) (hp : w.cell? ⟨p, 0, none⟩ = some (.string nm)) :
    Calls Tryz.prog 109 #[v, .func (.func 95) #[] #[.pointer (some ⟨p, 0, none⟩)]] w fun e w' => e = .returned (.int .i64 (idxOf (fun c => decide (c.name = nm)) cs)) ∧ Below w.heap.size w w' := by
  obtain ⟨A, cc, rfl, hle, hmx, hc⟩ := h.cols
  have HC := Lib.hid hc
  have HP := Lib.hid hp
  unfold maxLen at hmx
  clear hc h hp
  go_enter Tryz.func109, Tryz.ntmps109
  go_wp2
  go_loopw [8] (fun i wr => ∃ k : Nat, k ≤ cs.length ∧ i = .int .i64 k ∧ (cs.take k).any (fun c => decide (c.name = nm)) = false ∧ Below w.heap.size w wr) (fun i _ => cs.length - (intOf i).toNat)
  case atStart => exact ⟨0, Nat.zero_le _, rfl, by simp, Below.refl _ _⟩
  case round =>
    obtain ⟨k, hk, rfl, hany, hB⟩ := hrel
    have HA := Lib.hid hany
    have HB := Lib.hid hB
    clear hany
    by_cases hlt : k < cs.length
    · obtain ⟨b, o, rfl, hcell⟩ := HC.out (by omega)
      obtain ⟨u, d0, d1, d2, d3, hrw, hst⟩ := hcell k hlt
      have c0 := (hB.cell (World.block_lt_of_cell? w _ d0)).trans d0
      have c1 := (hB.cell (World.block_lt_of_cell? w _ d1)).trans d1
      have c2 := (hB.cell (World.block_lt_of_cell? w _ d2)).trans d2
      have c3 := (hB.cell (World.block_lt_of_cell? w _ d3)).trans d3
      have HCV := Lib.hid (show ColVal C wr (.agg #[.string cs[k].name, .int .i64 cs[k].lo, .int .i64 cs[k].hi, u]) cs[k] from ⟨u, rfl, hrw.below hB, hst⟩)
      have HP1 := Lib.hid ((hB.cell (World.block_lt_of_cell? w _ HP.out)).trans HP.out)
      have hi0 : (0 : Int) ≤ (k : Int) := by omega
      have hi1 : (k : Int) < (cs.length : Int) := by omega
      have hsn := take_anyS (p := fun c : Col => decide (c.name = nm)) hlt
      rw [HA.out, Bool.false_or] at hsn
      have HSN := Lib.hid hsn
      clear hcell hsn d0 d1 d2 d3 hB
      cases hn : decide (cs[k].name = nm) with
      | false =>
        have HS := Lib.hid (show (cs.take (k + 1)).any (fun c => decide (c.name = nm)) = false by rw [HSN.out, hn])
        clear HSN
        generalize cs[k] = ck at *
        have HN := Lib.hid hn
        clear hn
        go_wp2_with (go_at_call 95; refine (named_any C _ ck p nm _ HCV.out HP1.out).mono ?_; rintro e w' ⟨rfl, hb1⟩; rw [HN.out])
        have HB1 := Lib.hid (HB.out.trans (hb1.mono HB.out.size))
        go_roundw
        case rel => exact ⟨k + 1, by omega, by go_num, HS.out, HB1.out⟩
        case measure => simp [intOf]; omega
      | true =>
        have HV := Lib.hid (idx_hit (p := fun c : Col => decide (c.name = nm)) hlt HA.out hn)
        clear HSN
        generalize cs[k] = ck at *
        have HN := Lib.hid hn
        clear hn
        go_wp2_with (go_at_call 95; refine (named_any C _ ck p nm _ HCV.out HP1.out).mono ?_; rintro e w' ⟨rfl, hb1⟩; rw [HN.out])
        go_ret
        exact ⟨by rw [HV.out]; rfl, HB.out.trans (hb1.mono HB.out.size)⟩
    · obtain rfl : k = cs.length := by omega
      have HV := Lib.hid (idx_miss (p := fun c : Col => decide (c.name = nm)) (xs := cs) (by have := HA.out; rwa [List.take_of_length_le (Nat.le_refl _)] at this))
      clear hlt hB
      go_wp2
      go_ret
      exact ⟨by rw [HV.out]; rfl, HB.out⟩
theorem hasNamed_any (C : TypeId → Nat → Prop) (v : Value) (cs : List Col) (p : Nat) (nm : ByteArray) (w : World) (h : SRow colK C w v cs) (hp : w.cell? ⟨p, 0, none⟩ = some (.string nm)) :
    Calls Tryz.prog 94 #[v, .func (.func 95) #[] #[.pointer (some ⟨p, 0, none⟩)]] w fun e w' => e = .returned (.bool (cs.any fun c => decide (c.name = nm))) ∧ Below w.heap.size w w' := by
  have HP := Lib.hid hp
  have H := Lib.hid h
  have HV := Lib.hid (idx_ge (fun c : Col => decide (c.name = nm)) cs)
  clear hp h
  go_enter Tryz.func94, Tryz.ntmps94
  go_wp2_with (go_at_call 109; refine (idxNamed_any C _ cs p nm _ H.out HP.out).mono ?_; rintro e w' ⟨rfl, hb1⟩)
  all_goals
    go_ret
    exact ⟨by rw [← HV.out]; rfl, hb1⟩
end Go.Proofs.YtlocafmglficnaaGreatDoor
