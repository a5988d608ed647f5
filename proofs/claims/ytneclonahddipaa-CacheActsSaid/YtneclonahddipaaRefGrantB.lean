/- The reference's Grant where nothing is new, and New. -/
import Derived.Test.YtneclonahddipaaRefGrant
namespace Go.Proofs.Ytneclonahddipaa
open Go.RowKit Go.Maps Go.Sort Go.Shelf

def errOf (es : List Ent) (k : ByteArray) : Int := if isOf es k then 0 else 7
/-- Grant, of a key that does not lie there, or to a name that has it. -/
theorem grantRef_old (base p : Nat) (E : Value) (es : List Ent) (a k : ByteArray) (w : World) (h : IsRef base w p E es) (hl : es.length ≤ 1000000) (hn : ∀ e ∈ es, e.names.length ≤ 1000000) (hno : isOf es k = false ∨ hasOf es a k = true) :
    Calls Try.prog 21 #[.pointer (some ⟨p, 0, none⟩), .string a, .string k] w fun e w' => e = .returned (.tuple #[.bool false, .int .i64 (errOf es k)]) ∧ w = w' := by
  obtain ⟨A, cap, rfl⟩ := h.slice
  have cb := h.box.cell
  have HI := Lib.hid h
  rcases findI_cases es k with ⟨h1, h2, _⟩ | ⟨i, hi, h1, h2, _⟩
  · have HX : Hid (isOf es k = false) := Lib.hid (by unfold isOf; rw [h2]; rfl)
    have H1 := Lib.hid h1
    clear h1 h2 h hno
    go_enter Try.func21, Try.ntmps21
    go_wp2_with (go_at_call 33; refine (find_any _ _ _ es k _ HI.out hl).mono ?_; rintro e w' ⟨rfl, rfl⟩; rw [H1.out])
    go_ret2
    exact ⟨by unfold errOf; rw [HX.out]; rfl, rfl⟩
  · have hx : isOf es k = true := by unfold isOf; rw [h2]; rfl
    have hm : memB (es[i]?.getD default).names a = true := by
      rcases hno with h | h
      · rw [hx] at h; cases h
      · unfold hasOf at h; rw [h2] at h; exact h
    obtain ⟨g, rfl, _, _, _, _, _, c2⟩ := h.ent hi
    have hns := h.ns i (es[i]?.getD default) (by simp [hi])
    have hnl := hn (es[i]?.getD default) (by simp [hi])
    have HX := Lib.hid hx
    have HM := Lib.hid hm
    have H1 := Lib.hid h1
    have HNS := Lib.hid hns
    have hi0 : (0 : Int) ≤ (i : Int) := by omega
    have hi1 : (i : Int) < (es.length : Int) := by omega
    clear h1 h2 h hi hns hno hx hm
    go_enter Try.func21, Try.ntmps21
    go_wp2_with (first
      | (go_at_call 33; refine (find_any _ _ _ es k _ HI.out hl).mono ?_; rintro e w' ⟨rfl, rfl⟩; rw [H1.out])
      | (go_at_call 34; refine (hasRef_any _ _ a _ _ HNS.out hnl).mono ?_; rintro e w' ⟨rfl, rfl⟩; rw [HM.out]))
    go_ret2
    exact ⟨by unfold errOf; rw [HX.out]; rfl, rfl⟩

theorem newRef_any (base : Nat) (w : World) (hb : base ≤ w.heap.size) : Calls Try.prog 19 #[] w fun e w' => e = .returned (.pointer (some ⟨w.heap.size, 0, none⟩)) ∧ IsRef base w' w.heap.size (.slice none 0 0) [] ∧ Below w.heap.size w w' := by
  go_enter Try.func19, Try.ntmps19
  go_wp2
  go_ret
  refine ⟨rfl, ⟨Boxed.new w 63 _, World.ownsRow_nil _ _ _ _, fun i e h => by simp at h, fun i j a b h => by simp at h, fun i e h => by simp at h⟩, by go_grown⟩
end Go.Proofs.Ytneclonahddipaa
