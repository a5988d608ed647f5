/- Width and Clamp. -/
import Derived.Test.YtlocafmglficnaaGreatDoorTabSame14
namespace Go.Proofs.YtlocafmglficnaaGreatDoor
open Go.RowKit Go.Maps Go.Sort Go.Shelf

theorem okCol_bounds {c : Col} (h : okCol c = true) : c.lo ≤ c.hi ∧ -1000000 ≤ c.lo ∧ c.hi ≤ 1000000 := by
  unfold okCol colErr wordsErr at h
  have h' := eq_of_beq h
  revert h'
  repeat' split
  all_goals (intro h'; first | (exact absurd h' (by decide)) | (rename_i h1; simp only [not_or, Int.not_lt] at h1; omega) | (rename_i h1 _ _ _ h2; omega) | omega)
/-- The number of a column's values. -/
def widthC (c : Col) : Int := if okCol c then c.hi - c.lo + 1 else 0
def clampC (c : Col) (v : Int) : Int := if okCol c then max c.lo (min c.hi v) else 0
theorem width_any (v : Value) (c : Col) (w : World) (h : ColVal Any w v c) (hr : Res w) :
    Calls Tryz.prog 38 #[v] w fun e w' => e = .returned (.int .i64 (widthC c)) ∧ Below w.heap.size w w' := by
  have HV := Lib.hid h
  obtain ⟨u, rfl, hw, hs⟩ := h
  obtain ⟨A, cc, rfl, hle, hmx⟩ := hw.slice
  have hb0 := below_alloc w (.cells #[.string c.name, .int .i64 c.lo, .int .i64 c.hi, .slice A c.words.length cc] 25)
  have HB := Lib.hid hb0
  have HR := Lib.hid (hr.later hb0)
  have c1 : ∀ w', Below (w.alloc (.cells #[.string c.name, .int .i64 c.lo, .int .i64 c.hi, .slice A c.words.length cc] 25)).heap.size (w.alloc (.cells #[.string c.name, .int .i64 c.lo, .int .i64 c.hi, .slice A c.words.length cc] 25)) w' → w'.cell? ⟨w.heap.size, 1, none⟩ = some (.int .i64 c.lo) := fun w' hb => cell_later hb (box4 w _ _ _ _ 25).2.1
  have c2 : ∀ w', Below (w.alloc (.cells #[.string c.name, .int .i64 c.lo, .int .i64 c.hi, .slice A c.words.length cc] 25)).heap.size (w.alloc (.cells #[.string c.name, .int .i64 c.lo, .int .i64 c.hi, .slice A c.words.length cc] 25)) w' → w'.cell? ⟨w.heap.size, 2, none⟩ = some (.int .i64 c.hi) := fun w' hb => cell_later hb (box4 w _ _ _ _ 25).2.2.1
  clear hw hr hb0 hs
  by_cases hok : okCol c = true
  · have hbd := okCol_bounds hok
    have HW := Lib.hid (show widthC c = c.hi - c.lo + 1 by unfold widthC; rw [if_pos hok])
    obtain ⟨h1, h2, h3⟩ := hbd
    go_enter Tryz.func38, Tryz.ntmps38
    go_wp2_with (go_at_call 60; refine (valid_any _ c _ (HV.out.below HB.out) HR.out).mono ?_; rintro e w1 ⟨rfl, hb1⟩; simp only [hok]; have x1 := c1 _ hb1; have x2 := c2 _ hb1; have HB1 := Lib.hid (HB.out.trans (hb1.mono HB.out.size)); clear hb1)
    go_ret
    exact ⟨by rw [HW.out]; rfl, HB1.out⟩
  · have hno : okCol c = false := by simpa using hok
    have HW := Lib.hid (show widthC c = 0 by unfold widthC; rw [if_neg hok])
    clear hok
    go_enter Tryz.func38, Tryz.ntmps38
    go_wp2_with (go_at_call 60; refine (valid_any _ c _ (HV.out.below HB.out) HR.out).mono ?_; rintro e w1 ⟨rfl, hb1⟩; simp only [hno]; have HB1 := Lib.hid (HB.out.trans (hb1.mono HB.out.size)); clear hb1)
    go_ret
    exact ⟨by rw [HW.out]; rfl, HB1.out⟩
theorem clamp_any (v : Value) (c : Col) (x : Int) (w : World) (h : ColVal Any w v c) (hr : Res w) :
    Calls Tryz.prog 9 #[v, .int .i64 x] w fun e w' => e = .returned (.int .i64 (clampC c x)) ∧ Below w.heap.size w w' := by
  have HV := Lib.hid h
  obtain ⟨u, rfl, hw, hs⟩ := h
  obtain ⟨A, cc, rfl, hle, hmx⟩ := hw.slice
  have hb0 := below_alloc w (.cells #[.string c.name, .int .i64 c.lo, .int .i64 c.hi, .slice A c.words.length cc] 25)
  have HB := Lib.hid hb0
  have HR := Lib.hid (hr.later hb0)
  have c1 : ∀ w', Below (w.alloc (.cells #[.string c.name, .int .i64 c.lo, .int .i64 c.hi, .slice A c.words.length cc] 25)).heap.size (w.alloc (.cells #[.string c.name, .int .i64 c.lo, .int .i64 c.hi, .slice A c.words.length cc] 25)) w' → w'.cell? ⟨w.heap.size, 1, none⟩ = some (.int .i64 c.lo) := fun w' hb => cell_later hb (box4 w _ _ _ _ 25).2.1
  have c2 : ∀ w', Below (w.alloc (.cells #[.string c.name, .int .i64 c.lo, .int .i64 c.hi, .slice A c.words.length cc] 25)).heap.size (w.alloc (.cells #[.string c.name, .int .i64 c.lo, .int .i64 c.hi, .slice A c.words.length cc] 25)) w' → w'.cell? ⟨w.heap.size, 2, none⟩ = some (.int .i64 c.hi) := fun w' hb => cell_later hb (box4 w _ _ _ _ 25).2.2.1
  clear hw hr hb0 hs
  by_cases hok : okCol c = true
  · have hbd := okCol_bounds hok
    have hne : (widthC c == 0) = false := by
      unfold widthC
      rw [if_pos hok]
      simp only [beq_eq_false_iff_ne]
      omega
    have HW := Lib.hid (show clampC c x = max c.lo (min c.hi x) by unfold clampC; rw [if_pos hok])
    clear hbd hok
    go_enter Tryz.func9, Tryz.ntmps9
    go_wp2_with (go_at_call 38; refine (width_any _ c _ (HV.out.below HB.out) HR.out).mono ?_; rintro e w1 ⟨rfl, hb1⟩; have x1 := c1 _ hb1; have x2 := c2 _ hb1; have HB1 := Lib.hid (HB.out.trans (hb1.mono HB.out.size)); clear hb1)
    go_ret
    exact ⟨by rw [HW.out]; rfl, HB1.out⟩
  · have hne : (widthC c == 0) = true := by
      unfold widthC
      rw [if_neg hok]
      rfl
    have HW := Lib.hid (show clampC c x = 0 by unfold clampC; rw [if_neg hok])
    clear hok
    go_enter Tryz.func9, Tryz.ntmps9
    go_wp2_with (go_at_call 38; refine (width_any _ c _ (HV.out.below HB.out) HR.out).mono ?_; rintro e w1 ⟨rfl, hb1⟩; have HB1 := Lib.hid (HB.out.trans (hb1.mono HB.out.size)); clear hb1)
    go_ret
    exact ⟨by rw [HW.out]; rfl, HB1.out⟩
end Go.Proofs.YtlocafmglficnaaGreatDoor
