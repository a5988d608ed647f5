/- QuantReach: plain facts, and the walk. -/
import Derived.Test.YtopllfkhkglogaaLaws
import Derived.Deep.LoopGhost
namespace Go.Proofs.Ytopllfkhkglogaa
open Go.RowKit Go.Shelf

theorem cntEq_snoc (zs : List Int) (m x : Int) : cntEq (zs ++ [m]) x = cntEq zs x + if m = x then 1 else 0 := by
  unfold cntEq
  rw [List.filter_append, List.length_append]
  by_cases h : m = x <;> simp [h]
theorem cntLt_snoc (zs : List Int) (m x : Int) : cntLt (zs ++ [m]) x = cntLt zs x + if m < x then 1 else 0 := by
  unfold cntLt
  rw [List.filter_append, List.length_append]
  by_cases h : m < x <;> simp [h]
theorem cntLe_snoc (zs : List Int) (m x : Int) : cntLe (zs ++ [m]) x = cntLe zs x + if m ≤ x then 1 else 0 := by
  unfold cntLe
  rw [List.filter_append, List.length_append]
  by_cases h : m ≤ x <;> simp [h]

theorem mx_cases (a b : Int) : mx a b = a ∧ b ≤ a ∨ mx a b = b ∧ a < b := by unfold mx; split <;> omega

theorem qv_nonpos (zs : List Int) (p q x : Int) : qv zs p q x ≤ 0 := by
  unfold qv
  rcases mx_cases 0 (p * (zs.length : Int) - q * (cntLe zs x : Int)) with ⟨h, _⟩ | ⟨h, _⟩ <;> rw [h]
  · rcases mx_cases 0 (q * (cntLt zs x : Int) - p * (zs.length : Int)) with ⟨h, _⟩ | ⟨h, _⟩ <;> rw [h] <;> omega
  · rcases mx_cases (p * (zs.length : Int) - q * (cntLe zs x : Int)) (q * (cntLt zs x : Int) - p * (zs.length : Int)) with ⟨h, _⟩ | ⟨h, _⟩ <;> rw [h] <;> omega

theorem max3_near {u u' l l' d : Int} (hd : 0 ≤ d) (h1 : u - u' ≤ d) (h2 : u' - u ≤ d) (h3 : l - l' ≤ d) (h4 : l' - l ≤ d) : mx (mx 0 u) l - mx (mx 0 u') l' ≤ d ∧ mx (mx 0 u') l' - mx (mx 0 u) l ≤ d := by
  unfold mx
  constructor <;> (split <;> split <;> split <;> split <;> omega)

theorem qv_near (zs : List Int) (m p q x : Int) (hp : 0 ≤ p) (hq : p ≤ q) : qv zs p q x - qv (zs ++ [m]) p q x ≤ mx p (q - p) ∧ qv (zs ++ [m]) p q x - qv zs p q x ≤ mx p (q - p) := by
  unfold qv
  rw [cntLt_snoc, cntLe_snoc, List.length_append]
  have e1 : p * ((zs.length + [m].length : Nat) : Int) = p * (zs.length : Int) + p := by simp [Int.mul_add]
  rw [e1]
  have hm1 : p ≤ mx p (q - p) := by rcases mx_cases p (q - p) with ⟨h, _⟩ | ⟨h, _⟩ <;> rw [h] <;> omega
  have hm2 : q - p ≤ mx p (q - p) := by rcases mx_cases p (q - p) with ⟨h, _⟩ | ⟨h, _⟩ <;> rw [h] <;> omega
  generalize mx p (q - p) = d at *
  have e2 : q * ((cntLe zs x + (if m ≤ x then 1 else 0) : Nat) : Int) = q * (cntLe zs x : Int) + if m ≤ x then q else 0 := by
    split <;> simp [Int.mul_add]
  have e3 : q * ((cntLt zs x + (if m < x then 1 else 0) : Nat) : Int) = q * (cntLt zs x : Int) + if m < x then q else 0 := by
    split <;> simp [Int.mul_add]
  rw [e2, e3]
  generalize q * (cntLe zs x : Int) = U
  generalize q * (cntLt zs x : Int) = L
  generalize p * (zs.length : Int) = P
  have := max3_near (u := P - U) (u' := P + p - (U + if m ≤ x then q else 0)) (l := L - P) (l' := L + (if m < x then q else 0) - (P + p)) (d := d) (by omega) (by split <;> omega) (by split <;> omega) (by split <;> omega) (by split <;> omega)
  omega

theorem qv_low (zs : List Int) (p q x : Int) (hv : validB p q = true) (hl : zs.length ≤ 1000) : -1000000 ≤ qv zs p q x := by
  obtain ⟨b1, b2, b3, b4⟩ : 1 ≤ q ∧ q ≤ 1000 ∧ 0 ≤ p ∧ p ≤ q := by simpa [validB] using hv
  have n1 := (cnt_le zs x).1
  have n2 := (cnt_le zs x).2.1
  have a1 : 0 ≤ p * (zs.length : Int) := Int.mul_nonneg b3 (by omega)
  have a2 : p * (zs.length : Int) ≤ 1000 * 1000 := Int.mul_le_mul (by omega) (by omega) (by omega) (by omega)
  have a3 : 0 ≤ q * (cntLe zs x : Int) := Int.mul_nonneg (by omega) (by omega)
  have a4 : q * (cntLt zs x : Int) ≤ 1000 * 1000 := Int.mul_le_mul (by omega) (by omega) (by omega) (by omega)
  have a5 : 0 ≤ q * (cntLt zs x : Int) := Int.mul_nonneg (by omega) (by omega)
  unfold qv mx
  split <;> split <;> omega

theorem checkE_snoc {zs : List Int} {m lo hi : Int} (h : checkE (zs ++ [m]) lo hi = 0) : checkE zs lo hi = 0 := by
  unfold checkE at *
  simp only [List.length_append, List.length_singleton, List.any_append, List.any_cons, List.any_nil, Bool.or_false] at h
  split at h
  · cases h
  · split at h
    · cases h
    · rename_i h1 h2
      rw [if_neg (by omega), if_neg (by simp at h2 ⊢; exact h2.1)]
      exact h

/-- A list of ints, opened. -/
theorem IRow.open {w : World} {v : Value} {zs : List Int} (h : IRow w v zs) : ∃ A c, v = .slice A zs.length c := by obtain ⟨A, c, rfl, _⟩ := h; exact ⟨A, c, rfl⟩
theorem IRow.get {w : World} {A : Option Addr} {n c : Nat} {zs : List Int} (h : IRow w (.slice A n c) zs) (h0 : 0 < n) : ∃ b o, A = some ⟨b, o, none⟩ ∧ ∀ j, j < n → w.cell? ⟨b, o + j, none⟩ = some (.int .i64 (zs[j]?.getD 0)) := by
  obtain ⟨A', c', e, _, _, hr⟩ := h
  injection e with e1 e2 e3
  subst e1; subst e2
  obtain ⟨b, o, rfl, _, hc⟩ := hr.at h0
  exact ⟨b, o, rfl, hc⟩
theorem modeL_get {zs : List Int} {lo : Int} {n k : Nat} (h : k < n) : (modeL zs lo n)[k]?.getD 0 = (cntEq zs (lo + (k : Int)) : Int) := by simp [modeL, h]
theorem quantL_get {zs : List Int} {lo p q : Int} {n k : Nat} (h : k < n) : (quantL zs lo p q n)[k]?.getD 0 = qv zs p q (lo + (k : Int)) := by simp [quantL, h]
end Go.Proofs.Ytopllfkhkglogaa
