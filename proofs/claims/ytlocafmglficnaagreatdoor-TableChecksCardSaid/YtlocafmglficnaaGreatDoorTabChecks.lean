/- The checks of a schema: the first four, and the fifth. -/
import Derived.Test.YtlocafmglficnaaGreatDoorTabColErr
namespace Go.Proofs.YtlocafmglficnaaGreatDoor
open Go.RowKit Go.Maps

/-- A schema by value. -/
def SchVal (C : TypeId → Nat → Prop) (w : World) (v : Value) (S : Sch) : Prop := ∃ u, v = .agg #[.string S.name, .bool S.pub, .int .i64 S.many, u] ∧ SRow colK C w u S.cols ∧ (S.name.size ≤ maxLen ∧ Fit S.many)
theorem SchVal.below {C : TypeId → Nat → Prop} {w w' : World} {v : Value} {S : Sch} (h : SchVal C w v S) (hb : Below w.heap.size w w') : SchVal C w' v S := by
  obtain ⟨u, e, hr, hs⟩ := h
  exact ⟨u, e, hr.below hb, hs⟩

def manyBad (S : Sch) : Bool := (S.pub && S.many != 0) || (!S.pub && (decide (S.many < 1) || decide (50 < S.many)))

theorem chk1 (C : TypeId → Nat → Prop) (v : Value) (S : Sch) (w : World) (h : SchVal C w v S) (hr : Res w) :
    Calls Tryz.prog 85 #[v] w fun e w' => e = .returned (.bool (!nameB S.name)) ∧ Below w.heap.size w w' := by
  obtain ⟨u, rfl, hrw, hs⟩ := h
  have hb0 := below_alloc w (.cells #[.string S.name, .bool S.pub, .int .i64 S.many, u] 34)
  have HB := Lib.hid hb0
  have HR := Lib.hid (hr.later hb0)
  have hz := hs.1
  clear hb0 hr
  go_enter Tryz.func85, Tryz.ntmps85
  go_wp2_with (go_at_call 86; refine (name_any _ _ hz HR.out).mono ?_; rintro e w' ⟨rfl, rfl⟩)
  go_ret
  exact ⟨rfl, HB.out⟩
set_option maxHeartbeats 1000000 in
theorem chk2 (C : TypeId → Nat → Prop) (v : Value) (S : Sch) (w : World) (h : SchVal C w v S) :
    Calls Tryz.prog 87 #[v] w fun e w' => e = .returned (.bool (manyBad S)) ∧ Below w.heap.size w w' := by
  obtain ⟨u, rfl, hrw, hs⟩ := h
  have hb0 := below_alloc w (.cells #[.string S.name, .bool S.pub, .int .i64 S.many, u] 34)
  have HB := Lib.hid hb0
  have hcs : (S.pub = true ∧ (S.many != 0) = true ∧ manyBad S = true) ∨ (S.pub = true ∧ (S.many != 0) = false ∧ manyBad S = false) ∨ (S.pub = false ∧ S.many < 1 ∧ manyBad S = true) ∨ (S.pub = false ∧ ¬ S.many < 1 ∧ 50 < S.many ∧ manyBad S = true) ∨ (S.pub = false ∧ ¬ S.many < 1 ∧ ¬ 50 < S.many ∧ manyBad S = false) := by
    unfold manyBad
    cases hp : S.pub with
    | true =>
      cases hm : (S.many != 0) with
      | true => exact .inl ⟨rfl, rfl, by simp⟩
      | false => exact .inr (.inl ⟨rfl, rfl, by simp⟩)
    | false =>
      by_cases h1 : S.many < 1
      · exact .inr (.inr (.inl ⟨rfl, h1, by simp [h1]⟩))
      · by_cases h2 : 50 < S.many
        · exact .inr (.inr (.inr (.inl ⟨rfl, h1, h2, by simp [h2]⟩)))
        · exact .inr (.inr (.inr (.inr ⟨rfl, h1, h2, by simp [h1, h2]⟩)))
  clear hb0
  generalize hpb : S.pub = pb at *
  clear hpb
  rcases hcs with ⟨rfl, h1, hv⟩ | ⟨rfl, h1, hv⟩ | ⟨rfl, h1, hv⟩ | ⟨rfl, h1, h2, hv⟩ | ⟨rfl, h1, h2, hv⟩
  all_goals
    have HV := Lib.hid hv
    clear hv
    go_enter Tryz.func87, Tryz.ntmps87
    go_wp2
    go_ret
    exact ⟨by rw [HV.out]; rfl, HB.out⟩

theorem chk3 (C : TypeId → Nat → Prop) (v : Value) (S : Sch) (w : World) (h : SchVal C w v S) :
    Calls Tryz.prog 88 #[v] w fun e w' => e = .returned (.bool (decide (S.cols.length = 0))) ∧ Below w.heap.size w w' := by
  obtain ⟨u, rfl, hrw, hs⟩ := h
  obtain ⟨A, cc, rfl, hle, hmx⟩ := hrw.slice
  have hb0 := below_alloc w (.cells #[.string S.name, .bool S.pub, .int .i64 S.many, .slice A S.cols.length cc] 34)
  have HB := Lib.hid hb0
  clear hb0
  unfold maxLen at hmx
  go_enter Tryz.func88, Tryz.ntmps88
  go_wp2
  go_ret
  refine ⟨?_, HB.out⟩
  show Ending.returned (Value.bool _) = _
  congr 2
  rw [Bool.eq_iff_iff]; simp

theorem chk4 (C : TypeId → Nat → Prop) (v : Value) (S : Sch) (w : World) (h : SchVal C w v S) :
    Calls Tryz.prog 89 #[v] w fun e w' => e = .returned (.bool (decide (16 < S.cols.length))) ∧ Below w.heap.size w w' := by
  obtain ⟨u, rfl, hrw, hs⟩ := h
  obtain ⟨A, cc, rfl, hle, hmx⟩ := hrw.slice
  have hb0 := below_alloc w (.cells #[.string S.name, .bool S.pub, .int .i64 S.many, .slice A S.cols.length cc] 34)
  have HB := Lib.hid hb0
  clear hb0
  unfold maxLen at hmx
  go_enter Tryz.func89, Tryz.ntmps89
  go_wp2
  go_ret
  refine ⟨?_, HB.out⟩
  show Ending.returned (Value.bool _) = _
  congr 2
  rw [Bool.eq_iff_iff]; simp; omega

theorem alone1 (C : TypeId → Nat → Prop) (v : Value) (S : Sch) (p q : Nat) (w : World) (h : SchVal C w v S) (hr : Res w) (hp : w.cell? ⟨p, 0, none⟩ = some (.func (.func 85) #[] #[])) (hq : w.cell? ⟨q, 0, none⟩ = some (.int .i64 19)) :
    Calls Tryz.prog 84 #[v, .pointer (some ⟨p, 0, none⟩), .pointer (some ⟨q, 0, none⟩)] w fun e w' => e = .returned (.tuple #[.int .i64 (if (!nameB S.name) = true then 19 else 0), .int .i64 (-1)]) ∧ Below w.heap.size w w' := by
  have HS := Lib.hid h
  obtain ⟨u, rfl, hrw, hs⟩ := h
  obtain ⟨A, cc, rfl, hle, hmx⟩ := hrw.slice
  have hb0 := below_alloc w (.cells #[.string S.name, .bool S.pub, .int .i64 S.many, .slice A S.cols.length cc] 34)
  have HB := Lib.hid hb0
  have HR := Lib.hid (hr.later hb0)
  have hp1 := (hb0.cell (World.block_lt_of_cell? w _ hp)).trans hp
  have hq1 := (hb0.cell (World.block_lt_of_cell? w _ hq)).trans hq
  have hq2 := Lib.hid (fun W (hW : Below (w.alloc (.cells #[.string S.name, .bool S.pub, .int .i64 S.many, .slice A S.cols.length cc] 34)).heap.size (w.alloc (.cells #[.string S.name, .bool S.pub, .int .i64 S.many, .slice A S.cols.length cc] 34)) W) => (hW.cell (World.block_lt_of_cell? _ _ hq1)).trans hq1)
  have HS1 := Lib.hid (HS.out.below hb0)
  clear hb0 hr hp hq hrw hq1 HS
  generalize hcond : (!nameB S.name) = cd at *
  have HC := Lib.hid hcond
  clear hcond
  cases cd with
  | true =>
    go_enter Tryz.func84, Tryz.ntmps84
    go_wp2_with (go_at_call 85; refine (chk1 C _ S _ HS1.out HR.out).mono ?_; rintro e w1 ⟨rfl, hb1⟩; rw [HC.out]; have hq3 := hq2.out w1 hb1)
    go_ret2
    exact ⟨rfl, HB.out.trans (hb1.mono HB.out.size)⟩
  | false =>
    go_enter Tryz.func84, Tryz.ntmps84
    go_wp2_with (go_at_call 85; refine (chk1 C _ S _ HS1.out HR.out).mono ?_; rintro e w1 ⟨rfl, hb1⟩; rw [HC.out]; have hq3 := hq2.out w1 hb1)
    go_ret2
    exact ⟨rfl, HB.out.trans (hb1.mono HB.out.size)⟩

theorem alone2 (C : TypeId → Nat → Prop) (v : Value) (S : Sch) (p q : Nat) (w : World) (h : SchVal C w v S) (hr : Res w) (hp : w.cell? ⟨p, 0, none⟩ = some (.func (.func 87) #[] #[])) (hq : w.cell? ⟨q, 0, none⟩ = some (.int .i64 2)) :
    Calls Tryz.prog 84 #[v, .pointer (some ⟨p, 0, none⟩), .pointer (some ⟨q, 0, none⟩)] w fun e w' => e = .returned (.tuple #[.int .i64 (if (manyBad S) = true then 2 else 0), .int .i64 (-1)]) ∧ Below w.heap.size w w' := by
  have HS := Lib.hid h
  obtain ⟨u, rfl, hrw, hs⟩ := h
  obtain ⟨A, cc, rfl, hle, hmx⟩ := hrw.slice
  have hb0 := below_alloc w (.cells #[.string S.name, .bool S.pub, .int .i64 S.many, .slice A S.cols.length cc] 34)
  have HB := Lib.hid hb0
  have HR := Lib.hid (hr.later hb0)
  have hp1 := (hb0.cell (World.block_lt_of_cell? w _ hp)).trans hp
  have hq1 := (hb0.cell (World.block_lt_of_cell? w _ hq)).trans hq
  have hq2 := Lib.hid (fun W (hW : Below (w.alloc (.cells #[.string S.name, .bool S.pub, .int .i64 S.many, .slice A S.cols.length cc] 34)).heap.size (w.alloc (.cells #[.string S.name, .bool S.pub, .int .i64 S.many, .slice A S.cols.length cc] 34)) W) => (hW.cell (World.block_lt_of_cell? _ _ hq1)).trans hq1)
  have HS1 := Lib.hid (HS.out.below hb0)
  clear hb0 hr hp hq hrw hq1 HS
  generalize hcond : (manyBad S) = cd at *
  have HC := Lib.hid hcond
  clear hcond
  cases cd with
  | true =>
    go_enter Tryz.func84, Tryz.ntmps84
    go_wp2_with (go_at_call 87; refine (chk2 C _ S _ HS1.out).mono ?_; rintro e w1 ⟨rfl, hb1⟩; rw [HC.out]; have hq3 := hq2.out w1 hb1)
    go_ret2
    exact ⟨rfl, HB.out.trans (hb1.mono HB.out.size)⟩
  | false =>
    go_enter Tryz.func84, Tryz.ntmps84
    go_wp2_with (go_at_call 87; refine (chk2 C _ S _ HS1.out).mono ?_; rintro e w1 ⟨rfl, hb1⟩; rw [HC.out]; have hq3 := hq2.out w1 hb1)
    go_ret2
    exact ⟨rfl, HB.out.trans (hb1.mono HB.out.size)⟩

theorem alone3 (C : TypeId → Nat → Prop) (v : Value) (S : Sch) (p q : Nat) (w : World) (h : SchVal C w v S) (hr : Res w) (hp : w.cell? ⟨p, 0, none⟩ = some (.func (.func 88) #[] #[])) (hq : w.cell? ⟨q, 0, none⟩ = some (.int .i64 3)) :
    Calls Tryz.prog 84 #[v, .pointer (some ⟨p, 0, none⟩), .pointer (some ⟨q, 0, none⟩)] w fun e w' => e = .returned (.tuple #[.int .i64 (if (decide (S.cols.length = 0)) = true then 3 else 0), .int .i64 (-1)]) ∧ Below w.heap.size w w' := by
  have HS := Lib.hid h
  obtain ⟨u, rfl, hrw, hs⟩ := h
  obtain ⟨A, cc, rfl, hle, hmx⟩ := hrw.slice
  have hb0 := below_alloc w (.cells #[.string S.name, .bool S.pub, .int .i64 S.many, .slice A S.cols.length cc] 34)
  have HB := Lib.hid hb0
  have HR := Lib.hid (hr.later hb0)
  have hp1 := (hb0.cell (World.block_lt_of_cell? w _ hp)).trans hp
  have hq1 := (hb0.cell (World.block_lt_of_cell? w _ hq)).trans hq
  have hq2 := Lib.hid (fun W (hW : Below (w.alloc (.cells #[.string S.name, .bool S.pub, .int .i64 S.many, .slice A S.cols.length cc] 34)).heap.size (w.alloc (.cells #[.string S.name, .bool S.pub, .int .i64 S.many, .slice A S.cols.length cc] 34)) W) => (hW.cell (World.block_lt_of_cell? _ _ hq1)).trans hq1)
  have HS1 := Lib.hid (HS.out.below hb0)
  clear hb0 hr hp hq hrw hq1 HS
  generalize hcond : (decide (S.cols.length = 0)) = cd at *
  have HC := Lib.hid hcond
  clear hcond
  cases cd with
  | true =>
    go_enter Tryz.func84, Tryz.ntmps84
    go_wp2_with (go_at_call 88; refine (chk3 C _ S _ HS1.out).mono ?_; rintro e w1 ⟨rfl, hb1⟩; rw [HC.out]; have hq3 := hq2.out w1 hb1)
    go_ret2
    exact ⟨rfl, HB.out.trans (hb1.mono HB.out.size)⟩
  | false =>
    go_enter Tryz.func84, Tryz.ntmps84
    go_wp2_with (go_at_call 88; refine (chk3 C _ S _ HS1.out).mono ?_; rintro e w1 ⟨rfl, hb1⟩; rw [HC.out]; have hq3 := hq2.out w1 hb1)
    go_ret2
    exact ⟨rfl, HB.out.trans (hb1.mono HB.out.size)⟩

theorem alone4 (C : TypeId → Nat → Prop) (v : Value) (S : Sch) (p q : Nat) (w : World) (h : SchVal C w v S) (hr : Res w) (hp : w.cell? ⟨p, 0, none⟩ = some (.func (.func 89) #[] #[])) (hq : w.cell? ⟨q, 0, none⟩ = some (.int .i64 4)) :
    Calls Tryz.prog 84 #[v, .pointer (some ⟨p, 0, none⟩), .pointer (some ⟨q, 0, none⟩)] w fun e w' => e = .returned (.tuple #[.int .i64 (if (decide (16 < S.cols.length)) = true then 4 else 0), .int .i64 (-1)]) ∧ Below w.heap.size w w' := by
  have HS := Lib.hid h
  obtain ⟨u, rfl, hrw, hs⟩ := h
  obtain ⟨A, cc, rfl, hle, hmx⟩ := hrw.slice
  have hb0 := below_alloc w (.cells #[.string S.name, .bool S.pub, .int .i64 S.many, .slice A S.cols.length cc] 34)
  have HB := Lib.hid hb0
  have HR := Lib.hid (hr.later hb0)
  have hp1 := (hb0.cell (World.block_lt_of_cell? w _ hp)).trans hp
  have hq1 := (hb0.cell (World.block_lt_of_cell? w _ hq)).trans hq
  have hq2 := Lib.hid (fun W (hW : Below (w.alloc (.cells #[.string S.name, .bool S.pub, .int .i64 S.many, .slice A S.cols.length cc] 34)).heap.size (w.alloc (.cells #[.string S.name, .bool S.pub, .int .i64 S.many, .slice A S.cols.length cc] 34)) W) => (hW.cell (World.block_lt_of_cell? _ _ hq1)).trans hq1)
  have HS1 := Lib.hid (HS.out.below hb0)
  clear hb0 hr hp hq hrw hq1 HS
  generalize hcond : (decide (16 < S.cols.length)) = cd at *
  have HC := Lib.hid hcond
  clear hcond
  cases cd with
  | true =>
    go_enter Tryz.func84, Tryz.ntmps84
    go_wp2_with (go_at_call 89; refine (chk4 C _ S _ HS1.out).mono ?_; rintro e w1 ⟨rfl, hb1⟩; rw [HC.out]; have hq3 := hq2.out w1 hb1)
    go_ret2
    exact ⟨rfl, HB.out.trans (hb1.mono HB.out.size)⟩
  | false =>
    go_enter Tryz.func84, Tryz.ntmps84
    go_wp2_with (go_at_call 89; refine (chk4 C _ S _ HS1.out).mono ?_; rintro e w1 ⟨rfl, hb1⟩; rw [HC.out]; have hq3 := hq2.out w1 hb1)
    go_ret2
    exact ⟨rfl, HB.out.trans (hb1.mono HB.out.size)⟩

end Go.Proofs.YtlocafmglficnaaGreatDoor
