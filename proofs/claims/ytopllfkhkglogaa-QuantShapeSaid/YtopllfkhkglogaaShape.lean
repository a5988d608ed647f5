/- QuantShape: plain facts. -/
import Derived.Test.YtopllfkhkglogaaReach
namespace Go.Proofs.Ytopllfkhkglogaa
open Go.RowKit Go.Shelf

theorem cnt_perm {l m : List Int} (h : l.Perm m) (x : Int) : cntLt l x = cntLt m x ∧ cntLe l x = cntLe m x := ⟨(h.filter _).length_eq, (h.filter _).length_eq⟩
theorem quantL_rev (zs : List Int) (lo p q : Int) (n : Nat) : quantL zs.reverse lo p q n = quantL zs lo p q n := by
  unfold quantL qv
  apply List.map_congr_left
  intro i _
  rw [(cnt_perm (List.reverse_perm zs) _).1, (cnt_perm (List.reverse_perm zs) _).2, List.length_reverse]
theorem qErr_rev (zs : List Int) (lo hi p q : Int) : qErr zs.reverse lo hi p q = qErr zs lo hi p q := by
  unfold qErr checkE
  rw [List.length_reverse, List.any_reverse]
theorem cntLt_mono (zs : List Int) {x y : Int} (h : x ≤ y) : cntLt zs x ≤ cntLt zs y := by
  unfold cntLt
  rw [← List.countP_eq_length_filter, ← List.countP_eq_length_filter]
  exact List.countP_mono_left fun a _ ha => by simp at ha ⊢; omega
theorem cntLe_mono (zs : List Int) {x y : Int} (h : x ≤ y) : cntLe zs x ≤ cntLe zs y := by
  unfold cntLe
  rw [← List.countP_eq_length_filter, ← List.countP_eq_length_filter]
  exact List.countP_mono_left fun a _ ha => by simp at ha ⊢; omega

/-- From here on the utilities fall. -/
def Down (zs : List Int) (p q x : Int) : Prop := 0 ≤ q * (cntLt zs x : Int) - p * (zs.length : Int) ∧ p * (zs.length : Int) - q * (cntLe zs x : Int) ≤ q * (cntLt zs x : Int) - p * (zs.length : Int)
theorem down_step {zs : List Int} {p q x y : Int} (hq : 0 ≤ q) (hxy : x ≤ y) (h : Down zs p q x) : qv zs p q y ≤ qv zs p q x ∧ Down zs p q y := by
  have a1 : q * (cntLt zs x : Int) ≤ q * (cntLt zs y : Int) := Int.mul_le_mul_of_nonneg_left (by have := cntLt_mono zs hxy; omega) hq
  have a2 : q * (cntLe zs x : Int) ≤ q * (cntLe zs y : Int) := Int.mul_le_mul_of_nonneg_left (by have := cntLe_mono zs hxy; omega) hq
  obtain ⟨h1, h2⟩ := h
  refine ⟨?_, by omega, by omega⟩
  unfold qv mx
  split <;> split <;> split <;> split <;> omega
theorem down_start {zs : List Int} {p q x y : Int} (hq : 0 ≤ q) (hxy : x ≤ y) (h : qv zs p q y < qv zs p q x) : Down zs p q y := by
  have a1 : q * (cntLt zs x : Int) ≤ q * (cntLt zs y : Int) := Int.mul_le_mul_of_nonneg_left (by have := cntLt_mono zs hxy; omega) hq
  have a2 : q * (cntLe zs x : Int) ≤ q * (cntLe zs y : Int) := Int.mul_le_mul_of_nonneg_left (by have := cntLe_mono zs hxy; omega) hq
  unfold qv at h
  unfold Down
  unfold mx at h
  split at h <;> split at h <;> split at h <;> split at h <;> omega

/-- Numbers from 0 to 40. -/
def Small (S : List Int) : Prop := ∀ y ∈ S, 0 ≤ y ∧ y ≤ 40
theorem small_check {S : List Int} (h : Small S) (hl : S.length ≤ 300) : checkE S 0 40 = 0 := by
  have hw : S.any wildB = false := by
    rw [List.any_eq_false]
    intro y hy
    have := h y hy
    simp [wildB]; omega
  simp [checkE, hw, wildB]; omega
theorem small_qErr {S : List Int} (h : Small S) (hl : S.length ≤ 300) {p q : Int} (hv : validB p q = true) : qErr S 0 40 p q = 0 := by
  unfold qErr; rw [small_check h hl, hv]; rfl
theorem cntLt_zero {S : List Int} {a : Int} (h : ∀ y ∈ S, a ≤ y) : cntLt S a = 0 := by
  unfold cntLt
  rw [List.length_eq_zero_iff, List.filter_eq_nil_iff]
  intro y hy
  have := h y hy
  simp; omega
theorem cntLe_all {S : List Int} {b : Int} (h : ∀ y ∈ S, y ≤ b) : cntLe S b = S.length := by
  unfold cntLe
  rw [List.filter_eq_self.2]
  intro y hy
  have := h y hy
  simpa using this
theorem least_zero {S : List Int} {a : Int} (h : ∀ y ∈ S, a ≤ y) : qv S 0 1 a = 0 := by
  unfold qv
  rw [cntLt_zero h]
  unfold mx
  simp only [Int.zero_mul, Int.one_mul, Int.mul_zero]
  split <;> split <;> omega
theorem most_zero {S : List Int} {b : Int} (h : ∀ y ∈ S, y ≤ b) : qv S 1 1 b = 0 := by
  have h2 := (cnt_le S b).1
  unfold qv
  rw [cntLe_all h]
  unfold mx
  simp only [Int.one_mul]
  split <;> split <;> omega
theorem middle_zero {S : List Int} {m : Int} (h1 : S.length ≤ 2 * cntLe S m) (h2 : 2 * cntLt S m ≤ S.length) : qv S 1 2 m = 0 := by
  unfold qv mx
  simp only [Int.one_mul]
  split <;> split <;> omega
theorem drop_rev {zs : List Int} {s : Nat} (h : s < zs.length) : (zs.drop s).reverse = (zs.drop (s + 1)).reverse ++ [zs[s]?.getD 0] := by
  rw [List.drop_eq_getElem_cons h, List.reverse_cons]
  simp [h]
theorem small_snoc {zs : List Int} {j : Nat} (h : j < zs.length) : (zs.take (j + 1)).map (· % 41) = (zs.take j).map (· % 41) ++ [zs[j]?.getD 0 % 41] := by
  rw [List.take_succ_eq_append_getElem h, List.map_append]
  simp [h]
end Go.Proofs.Ytopllfkhkglogaa
