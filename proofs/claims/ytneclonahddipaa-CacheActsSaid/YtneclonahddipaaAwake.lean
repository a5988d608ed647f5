/- awake returns true. -/
import Derived.Test.YtneclonahddipaaNone
namespace Go.Proofs.Ytneclonahddipaa
open Go.RowKit Go.Maps

abbrev sq : ByteArray := ⟨#[113]⟩
abbrev s5 : ByteArray := ⟨#[53]⟩
abbrev s6 : ByteArray := ⟨#[54]⟩

theorem isMap0 : IsMap (.map [] : DataW Unit) := isMap_empty

theorem str_of_lit {t u : ByteArray} (h : (DataW.lit (.string t.data.toList) : DataW Unit) = .lit (.string u.data.toList)) : t = u := by
  simp only [DataW.lit.injEq, Lit.string.injEq] at h
  exact ByteArray.ext (Array.toList_inj.1 h)

theorem small_size {s : ByteArray} (h : s.size ≤ 64) : s.size ≤ maxLen := by unfold maxLen; omega

theorem awake_any (w : World) : Calls Try.prog 13 #[] w fun e w' => e = .returned (.bool true) ∧ Below w.heap.size w w' := by
  have hA1 : Maps.has ((DataW.map [] : DataW Unit).put (aKey sq) (.lit (.string s5.data.toList))) (aKey sq) = true := has_put_same isMap0 (aKey_isKey _) _
  have hA2 : ((DataW.map [] : DataW Unit).put (aKey sq) (.lit (.string s5.data.toList))).atKey (aKey sq) (.lit (.string [])) = .lit (.string s5.data.toList) := atKey_put_same isMap0 (aKey_isKey _) _ _
  have HA1 := Lib.hid hA1
  have HA2 := Lib.hid hA2
  clear hA1 hA2
  have z1 : sq.size ≤ maxLen := by decide
  have z2 : s5.size ≤ maxLen := by decide
  have ne56 : s5 ≠ s6 := by decide
  go_enter Try.func13, Try.ntmps13
  go_wp2_with (first
    | (go_at_call 8; refine (new_any _).mono ?_; rintro e w1 ⟨rfl, hc1, hb1⟩)
    | (go_at_call 10; have t := hc1; refine (put_new _ _ _ _ _ _ sq s5 _ hc1 z1 z2 (by omega) rfl).mono ?_; rintro e w2 ⟨rfl, hc2, hg2⟩; clear hc1)
    | (go_at_call 10; have t := hc2; refine (put_other _ _ _ _ _ _ sq s6 s5 _ hc2 z1 HA1.out HA2.out ne56).mono ?_; rintro e w3 ⟨rfl, rfl⟩)
    | (go_at_call 9; refine (get_any _ _ _ _ _ _ sq _ hc2 z1).mono ?_; rintro e w4 ⟨rfl, t, ht, rfl, hat⟩; obtain rfl := str_of_lit (u := s5) (hat.symm.trans HA2.out); rw [HA1.out]))
  go_ret
  exact ⟨rfl, hb1.grown hg2 (by have := hb1.size; omega) (by intro k e; cases e; exact Nat.le_refl _)⟩
end Go.Proofs.Ytneclonahddipaa
