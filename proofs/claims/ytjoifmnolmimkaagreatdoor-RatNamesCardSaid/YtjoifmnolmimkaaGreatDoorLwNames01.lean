/- Powers that are too great. What the examples of the chapter's numbers are, in plain rationals. The statements' nines: a text of 4000 nines. RatNames: the walk (printed by mknames.py). -/
import Derived.Test.YtjoifmnolmimkaaGreatDoorRb13
import Derived.Test.YtjoifmnolmimkaaGreatDoorRb15
import Derived.Test.YtjoifmnolmimkaaGreatDoorRb16
import Derived.Test.YtjoifmnolmimkaaGreatDoorRb10
import Derived.Room.AppendFits
namespace Go.Proofs.YtjoifmnolmimkaaGreatDoor
open Go.RowKit Go.Shelf
open Lim

theorem two_pow_up (x j k : Nat) (hx : 2 ≤ x) (hk : j ≤ k) : 2 ^ j ≤ x ^ k :=
  Nat.le_trans (Nat.pow_le_pow_left hx j) (Nat.pow_le_pow_right (Nat.le_trans (by decide) hx) hk)
theorem ten_two (k : Nat) : 10 ^ k ≤ 2 ^ (4 * k) := by
  rw [Nat.pow_mul]
  exact Nat.pow_le_pow_left (by decide) k
theorem big_pow' {x j k : Nat} (hj : 1 ≤ j) (hx : 2 ≤ x) (hk : 4 * j ≤ k) : ¬ Lib.nDigits (x ^ k) ≤ j := by
  intro h
  have h1 := (nDigits_iff hj).1 h
  exact absurd (Nat.le_trans (ten_two j) (two_pow_up x _ k hx hk)) (Nat.not_le.2 h1)
theorem big_pow {x k : Nat} (hx : 2 ≤ x) (hk : 4 * 4000 ≤ k) : ¬ Lib.nDigits (x ^ k) ≤ 4000 := big_pow' (by decide) hx hk
theorem out_big {q : Rat} {k : Nat} (h : 2 ≤ nm q ∨ 2 ≤ q.den) (hk : 4 * 4000 ≤ k) : outQ (q ^ k) = ([], 5) := by
  obtain ⟨h1, h2, _⟩ := pow_parts q k
  unfold outQ maxD
  rw [h1, h2]
  rcases h with h | h
  · rw [if_pos (.inl (by have := big_pow h hk; omega))]
  · rw [if_pos (.inr (by have := big_pow h hk; omega))]
end Go.Proofs.YtjoifmnolmimkaaGreatDoor
namespace Go.Proofs.YtjoifmnolmimkaaGreatDoor
open Go.RowKit Go.Shelf
open Lim

/-! ### small numbers -/
theorem isT_n (m : Bool) (n d : Nat) (l : List UInt8) (hd : d ≠ 0) (hg : n.gcd d = 1) (hm : m = true → n ≠ 0) (hn : n < 100) (hd' : d < 100) (ln ld : List UInt8) (e1 : Lib.decDigits n = ln) (e2 : Lib.decDigits d = ld) (hl : (if m then [45] else []) ++ ln ++ (if d = 1 then [] else 47 :: ld) = l) : IsT ⟨l.toArray⟩ (mkQ m n d) := by
  refine ⟨?_, (sz_q (k := 2) hd (by omega) (by omega)).mono (by decide)⟩
  rw [text_q hd hg hm, e1, e2, hl]
def qT (m : Bool) (n d : Nat) : Rat := mkQ m n d
theorem n12 : IsT ⟨#[45, 49, 47, 50]⟩ (mkQ true 1 2) := isT_small (l := [45, 49, 47, 50]) (by decide) (by decide) (by decide) (by decide) (by decide) (by decide)
theorem n23 : IsT ⟨#[45, 50, 47, 51]⟩ (mkQ true 2 3) := isT_small (l := [45, 50, 47, 51]) (by decide) (by decide) (by decide) (by decide) (by decide) (by decide)
theorem t34 : IsT ⟨#[51, 47, 52]⟩ (mkQ false 3 4) := isT_small (l := [51, 47, 52]) (by decide) (by decide) (by decide) (by decide) (by decide) (by decide)
theorem n3 : IsT ⟨#[45, 51]⟩ (mkQ true 3 1) := isT_small (l := [45, 51]) (by decide) (by decide) (by decide) (by decide) (by decide) (by decide)
theorem n16 : IsT ⟨#[45, 49, 47, 54]⟩ (mkQ true 1 6) := isT_small (l := [45, 49, 47, 54]) (by decide) (by decide) (by decide) (by decide) (by decide) (by decide)
theorem n32 : IsT ⟨#[45, 51, 47, 50]⟩ (mkQ true 3 2) := isT_small (l := [45, 51, 47, 50]) (by decide) (by decide) (by decide) (by decide) (by decide) (by decide)
theorem n2 : IsT ⟨#[45, 50]⟩ (mkQ true 2 1) := isT_small (l := [45, 50]) (by decide) (by decide) (by decide) (by decide) (by decide) (by decide)
theorem n1 : IsT ⟨#[45, 49]⟩ (mkQ true 1 1) := isT_small (l := [45, 49]) (by decide) (by decide) (by decide) (by decide) (by decide) (by decide)
theorem t7 : IsT ⟨#[55]⟩ (mkQ false 7 1) := isT_small (l := [55]) (by decide) (by decide) (by decide) (by decide) (by decide) (by decide)
theorem t25 : IsT ⟨#[50, 47, 53]⟩ (mkQ false 2 5) := isT_small (l := [50, 47, 53]) (by decide) (by decide) (by decide) (by decide) (by decide) (by decide)
theorem n827 : IsT ⟨#[45, 56, 47, 50, 55]⟩ (mkQ true 8 27) := isT_n true 8 27 [45, 56, 47, 50, 55] (by decide) (by decide) (by decide) (by decide) (by decide) [56] [50, 55] (Lib.decDigits_one (by decide)) (Lib.decDigits_two (by decide) (by decide)) (by decide)
theorem ex_sub : IsT ⟨#[48]⟩ (mkQ false 1 2 + -mkQ false 1 2) := by
  rw [show mkQ false 1 2 + -mkQ false 1 2 = 0 by decide +kernel]; exact IsT.zero
theorem ex_mul : IsT ⟨#[45, 49, 47, 50]⟩ (mkQ true 2 3 * mkQ false 3 4) := by
  rw [show mkQ true 2 3 * mkQ false 3 4 = mkQ true 1 2 by decide +kernel]; exact n12
theorem ex_div : IsT ⟨#[45, 49, 47, 54]⟩ (mkQ false 1 2 * (mkQ true 3 1)⁻¹) := by
  rw [show mkQ false 1 2 * (mkQ true 3 1)⁻¹ = mkQ true 1 6 by decide +kernel]; exact n16
theorem ex_pow : IsT ⟨#[45, 56, 47, 50, 55]⟩ (mkQ true 2 3 ^ (3 : Int)) := by
  rw [show mkQ true 2 3 ^ (3 : Int) = mkQ true 8 27 by decide +kernel]; exact n827
theorem ex_pow0 : IsT ⟨#[49]⟩ ((0 : Rat) ^ (0 : Int)) := by
  rw [show (0 : Rat) ^ (0 : Int) = 1 by decide +kernel]; exact IsT.one
theorem ex_floor : IsT ⟨#[45, 50]⟩ (((mkQ true 3 2).floor : Int) : Rat) := by
  rw [show (((mkQ true 3 2).floor : Int) : Rat) = mkQ true 2 1 by decide +kernel]; exact n2
theorem ex_ceil : IsT ⟨#[45, 49]⟩ (((mkQ true 3 2).ceil : Int) : Rat) := by
  rw [show (((mkQ true 3 2).ceil : Int) : Rat) = mkQ true 1 1 by decide +kernel]; exact n1
theorem ex_floor7 : IsT ⟨#[55]⟩ (((mkQ false 7 1).floor : Int) : Rat) := by
  rw [show (((mkQ false 7 1).floor : Int) : Rat) = mkQ false 7 1 by decide +kernel]; exact t7
theorem ex_cmp : cmpQ (mkQ false 1 3) (mkQ false 2 5) = -1 := by decide +kernel
theorem ex_sign : sgQ (mkQ true 3 2) = -1 := by decide +kernel

/-! ### the greatest numbers -/
theorem dec_nines (k : Nat) : Lib.decDigits (10 ^ (k + 1) - 1) = List.replicate (k + 1) 57 := by
  induction k with
  | zero => exact Lib.decDigits_one (by decide)
  | succ k ih =>
    have hp : 0 < 10 ^ (k + 1) := Nat.pow_pos (by omega)
    have e : 10 ^ (k + 1 + 1) = 10 ^ (k + 1) * 10 := Nat.pow_succ ..
    generalize 10 ^ (k + 1) = x at *
    rw [Lib.decDigits, dif_neg (by omega), show (10 ^ (k + 1 + 1) - 1) / 10 = x - 1 by omega, show (10 ^ (k + 1 + 1) - 1) % 10 = 9 by omega, ih]
    show List.replicate (k + 1) (57 : UInt8) ++ [57] = _
    rw [← List.replicate_succ']
theorem ten_le {k : Nat} (h : 1 ≤ k) : 10 ≤ 10 ^ k := by
  have := Nat.pow_le_pow_right (n := 10) (by decide) h
  rwa [Nat.pow_one] at this
theorem maxD_one : 1 ≤ maxD := by decide
theorem one_lt_ten {k : Nat} (h : 1 ≤ k) : 1 < 10 ^ k := Nat.lt_of_lt_of_le (by decide) (ten_le h)
theorem nd_more {x k : Nat} (h1 : 1 ≤ k) (h : 10 ^ k ≤ x) : ¬ Lib.nDigits x ≤ k := by
  intro h2
  have := (nDigits_iff h1).1 h2
  exact absurd h (Nat.not_le.2 this)
/-- A number that is one less than the power of ten that no number reaches. -/
def Top (N : Nat) : Prop := N + 1 = 10 ^ maxD
theorem top_ex : ∃ N, Top N := ⟨10 ^ maxD - 1, Nat.sub_add_cancel (Nat.le_trans (by decide) (ten_le maxD_one))⟩
section
variable {N : Nat} (hN : Top N)
include hN
theorem top_ge : 9 ≤ N := by
  have h := ten_le maxD_one
  unfold Top at hN
  generalize 10 ^ maxD = X at *
  omega
theorem top_pos : N ≠ 0 := by have := top_ge hN; omega
theorem top_lt : N < 10 ^ maxD := by
  unfold Top at hN
  generalize 10 ^ maxD = X at *
  omega
theorem top_one : N ≠ 1 := by have := top_ge hN; omega
theorem dec_top : Lib.decDigits N = List.replicate maxD 57 := by
  obtain ⟨k, hk⟩ : ∃ k, maxD = k + 1 := ⟨maxD - 1, by have := maxD_one; omega⟩
  have h : N = 10 ^ (k + 1) - 1 := by
    unfold Top at hN
    rw [hk] at hN
    generalize 10 ^ (k + 1) = X at *
    omega
  rw [hk, h]
  exact dec_nines k
theorem big_T : IsT ⟨(List.replicate 4000 57).toArray⟩ (mkQ false N 1) := by
  refine ⟨?_, sz_q (by decide) (top_lt hN) (one_lt_ten maxD_one)⟩
  rw [text_q (by decide) (Nat.gcd_one_right _) (by intro h; cases h), dec_top hN]
  rw [if_neg (by decide), if_pos rfl, List.nil_append, List.append_nil]
  rfl
theorem small_T : IsT ⟨(([49, 47] : List UInt8) ++ List.replicate 4000 57).toArray⟩ (mkQ false 1 N) := by
  refine ⟨?_, sz_q (top_pos hN) (one_lt_ten maxD_one) (top_lt hN)⟩
  rw [text_q (top_pos hN) (Nat.gcd_one_left _) (by intro h; cases h), dec_top hN, if_neg (top_one hN), dec_one]
  rfl
theorem nbig_T : IsT ⟨(([45] : List UInt8) ++ List.replicate 4000 57).toArray⟩ (mkQ true N 1) := by
  refine ⟨?_, sz_q (by decide) (top_lt hN) (one_lt_ten maxD_one)⟩
  rw [text_q (by decide) (Nat.gcd_one_right _) (fun _ => top_pos hN), dec_top hN]
  rw [if_pos rfl, if_pos rfl, List.append_nil]
  rfl
theorem nbig_parts : nm (mkQ true N 1) = N ∧ (mkQ true N 1).den = 1 ∧ ng (mkQ true N 1) = true := by
  obtain ⟨h1, h2, h3⟩ := mkQ_low (m := true) (n := N) (d := 1) (by decide) (Nat.gcd_one_right _)
  refine ⟨h1, h2, ?_⟩
  rw [h3, decide_eq_true (top_pos hN)]
  rfl
theorem nbig_ne : mkQ true N 1 ≠ 0 := by
  intro e
  have h := (nbig_parts hN).1
  rw [e] at h
  exact top_pos hN h.symm
theorem nsmall_T : IsT ⟨(([45, 49, 47] : List UInt8) ++ List.replicate 4000 57).toArray⟩ (mkQ true N 1)⁻¹ := by
  obtain ⟨i1, i2, i3⟩ := inv_parts (nbig_ne hN)
  obtain ⟨h1, h2, h3⟩ := nbig_parts hN
  rw [h3] at i1
  rw [h2] at i2
  rw [h1] at i3
  refine ⟨?_, ⟨by rw [i2]; exact one_lt_ten maxD_one, by rw [i3]; exact top_lt hN⟩⟩
  unfold ratText
  rw [i1, i2, i3, if_neg (top_one hN), dec_top hN, dec_one]
  rfl
theorem over_add : outQ (mkQ false N 1 + 1) = ([], 5) := by
  have hval : mkQ false N 1 + 1 = ((N + 1 : Nat) : Rat) := by
    have e : mkQ false N 1 = (N : Rat) := by
      unfold mkQ
      simp only [Bool.false_eq_true, if_false]
      rw [Rat.mkRat_one]
      rfl
    rw [e, Rat.natCast_add]
    rfl
  rw [hval]
  unfold outQ
  refine if_pos (.inl (Nat.not_le.1 (nd_more maxD_one ?_)))
  unfold Top at hN
  rw [← hN]
  exact Nat.le_refl _
theorem top_twice : 10 ^ maxD ≤ N * 2 := by
  have h := top_ge hN
  unfold Top at hN
  generalize 10 ^ maxD = X at *
  omega
theorem over_mul : outQ (mkQ false 1 N * mkQ false 1 2) = ([], 5) := by
  obtain ⟨a1, a2, a3⟩ := mkQ_low (m := false) (n := 1) (d := N) (top_pos hN) (Nat.gcd_one_left _)
  obtain ⟨b1, b2, b3⟩ := mkQ_low (m := false) (n := 1) (d := 2) (by decide) (Nat.gcd_one_left _)
  rw [mul_parts, a1, a2, a3, b1, b2, b3]
  obtain ⟨_, c2, _⟩ := mkQ_low (m := ((false && decide (1 ≠ 0)) != (false && decide (1 ≠ 0)))) (n := 1 * 1) (d := N * 2) (by have := top_pos hN; omega) (Nat.gcd_one_left _)
  unfold outQ
  exact if_pos (.inr (by rw [c2]; exact Nat.not_le.1 (nd_more maxD_one (top_twice hN))))
end
theorem pow_unit {q : Rat} (h1 : nm q = 1) (h2 : q.den = 1) (k : Nat) : q ^ k = mkQ (ng q && decide (k % 2 = 1)) 1 1 := by
  obtain ⟨p1, p2, p3⟩ := pow_parts q k
  rw [← mkQ_self (q ^ k), p1, p2, p3, h1, h2, Nat.one_pow]
theorem m1_parts : nm (mkQ true 1 1) = 1 ∧ (mkQ true 1 1).den = 1 ∧ ng (mkQ true 1 1) = true := by
  obtain ⟨a1, a2, a3⟩ := mkQ_low (m := true) (n := 1) (d := 1) (by omega) (Nat.gcd_one_left _)
  exact ⟨a1, a2, a3⟩
theorem m1_ne : mkQ true 1 1 ≠ 0 := by
  intro e
  have := m1_parts.1
  rw [e] at this
  cases this
theorem ex_m1_min : powQ (mkQ true 1 1) (-9223372036854775808) = outQ 1 := by
  unfold powQ
  rw [if_neg (fun h => m1_ne h.2), if_pos (by decide)]
  obtain ⟨i1, i2, i3⟩ := inv_parts m1_ne
  obtain ⟨a1, a2, a3⟩ := m1_parts
  rw [pow_unit (i2.trans a2) (i3.trans a1), show (decide ((-9223372036854775808 : Int).natAbs % 2 = 1)) = false by decide, Bool.and_false]
  congr 1
theorem ex_m1_max : powQ (mkQ true 1 1) 9223372036854775807 = outQ (mkQ true 1 1) := by
  unfold powQ
  rw [if_neg (fun h => m1_ne h.2), if_neg (by decide)]
  obtain ⟨a1, a2, a3⟩ := m1_parts
  rw [pow_unit a1 a2, a3, show (decide ((9223372036854775807 : Int).natAbs % 2 = 1)) = true by decide]
  rfl
theorem ex_half : powQ (mkQ false 1 2) (-9223372036854775808) = ([], 5) := by
  obtain ⟨a1, a2, a3⟩ := mkQ_low (m := false) (n := 1) (d := 2) (by omega) (Nat.gcd_one_left _)
  have hne : mkQ false 1 2 ≠ 0 := by
    intro e
    rw [e] at a1
    cases a1
  obtain ⟨i1, i2, i3⟩ := inv_parts hne
  unfold powQ
  rw [if_neg (fun h => hne h.2), if_pos (by decide)]
  refine out_big (.inl ?_) ?_
  · rw [i2, a2]; omega
  · decide
theorem ex_zero_neg : powQ 0 (-1) = ([], 6) := by
  unfold powQ
  rw [if_pos ⟨by decide, rfl⟩]
theorem ex_over : errQ (([49, 47] : List UInt8) ++ List.replicate 4000 57 ++ [57]) = 5 := by
  obtain ⟨N, hN⟩ : ∃ N, N = 10 ^ (maxD + 1) - 1 := ⟨_, rfl⟩
  have h0 := ten_le maxD_one
  have h2 : N + 1 = 10 ^ maxD * 10 := by
    have := Nat.pow_succ (n := 10) (m := maxD)
    rw [hN, this]
    generalize 10 ^ maxD = X at *
    omega
  have hd : Lib.decDigits N = List.replicate (maxD + 1) 57 := by rw [hN]; exact dec_nines maxD
  have hb : 10 ^ maxD ≤ N := by generalize 10 ^ maxD = X at *; omega
  have h1 : N ≠ 1 := by generalize 10 ^ maxD = X at *; omega
  have h3 : N ≠ 0 := by generalize 10 ^ maxD = X at *; omega
  have e : ([49, 47] : List UInt8) ++ List.replicate 4000 57 ++ [57] = (if false then [45] else []) ++ Lib.decDigits 1 ++ (if N = 1 then [] else 47 :: Lib.decDigits N) := by
    rw [if_neg h1, hd, dec_one, List.append_assoc, ← List.replicate_succ']
    rfl
  rw [e]
  clear hN h0 h2 hd e
  unfold errQ
  rw [shapeQ_text false 1 N (by intro h; cases h) h3 (fun _ => by decide)]
  exact if_pos (.inr (Nat.not_le.1 (nd_more maxD_one hb)))
theorem itoa_12 : (⟨(Lib.itoa (-12)).toArray⟩ : ByteArray) = ⟨#[45, 49, 50]⟩ := by
  have h : Lib.decDigits 12 = [49, 50] := Lib.decDigits_two (by decide) (by decide)
  show (⟨(45 :: Lib.decDigits 12).toArray⟩ : ByteArray) = _
  rw [h]
theorem itoa_min : (⟨(Lib.itoa (-9223372036854775808)).toArray⟩ : ByteArray) = ⟨#[45, 57, 50, 50, 51, 51, 55, 50, 48, 51, 54, 56, 53, 52, 55, 55, 53, 56, 48, 56]⟩ := by
  have h : Lib.decDigits 9223372036854775808 = [57, 50, 50, 51, 51, 55, 50, 48, 51, 54, 56, 53, 52, 55, 55, 53, 56, 48, 56] := by
    have hf : NForm [57, 50, 50, 51, 51, 55, 50, 48, 51, 54, 56, 53, 52, 55, 55, 53, 56, 48, 56] = true := by decide +kernel
    have := NForm.eq hf
    rwa [show dv [57, 50, 50, 51, 51, 55, 50, 48, 51, 54, 56, 53, 52, 55, 55, 53, 56, 48, 56] = 9223372036854775808 by decide +kernel] at this
  show (⟨(45 :: Lib.decDigits 9223372036854775808).toArray⟩ : ByteArray) = _
  rw [h]
theorem itoa_0 : (⟨(Lib.itoa 0).toArray⟩ : ByteArray) = ⟨#[48]⟩ := by
  have h : Lib.decDigits 0 = [48] := dec_zero
  show (⟨(Lib.decDigits 0).toArray⟩ : ByteArray) = _
  rw [h]
theorem ex_make0 : resN (makeQ [49] [48]) = .tuple #[.string ⟨#[]⟩, .int .i64 6] := by
  rw [show makeQ [49] [48] = ([], 6) by decide +kernel]; rfl
theorem ex_make3 : resN (makeQ [49, 47, 50] [51]) = .tuple #[.string ⟨#[]⟩, .int .i64 3] := by
  rw [show makeQ [49, 47, 50] [51] = ([], 3) by decide +kernel]; rfl
theorem ex_parts : partsQ [45, 51, 47, 50] = ([45, 51], [50], 0) := by decide +kernel

/-! ### texts that are not numbers -/
def badL : List ByteArray := [⟨#[]⟩, ⟨#[45]⟩, ⟨#[45, 48]⟩, ⟨#[48, 48]⟩, ⟨#[48, 49]⟩, ⟨#[43, 49]⟩, ⟨#[49, 47]⟩, ⟨#[47, 50]⟩, ⟨#[49, 47, 48]⟩, ⟨#[49, 47, 49]⟩, ⟨#[49, 47, 48, 50]⟩, ⟨#[50, 47, 52]⟩, ⟨#[48, 47, 51]⟩, ⟨#[45, 48, 47, 51]⟩, ⟨#[49, 47, 45, 50]⟩, ⟨#[49, 47, 50, 47, 51]⟩, ⟨#[32, 49]⟩, ⟨#[49, 46, 53]⟩, ⟨#[45, 45, 49]⟩]
theorem bad_all : badL.all (fun s => errQ s.data.toList == 3 && decide (s.size ≤ 100)) = true := by decide +kernel
theorem bad_len : badL.length = 19 := rfl
theorem bad_at {k : Nat} (h : k < badL.length) : errQ badL[k].data.toList = 3 ∧ badL[k].size ≤ 270000 := by
  have := List.all_eq_true.1 bad_all badL[k] (List.getElem_mem h)
  simp only [Bool.and_eq_true, beq_iff_eq, decide_eq_true_eq] at this
  exact ⟨this.1, by omega⟩
end Go.Proofs.YtjoifmnolmimkaaGreatDoor
namespace Go.Proofs.YtjoifmnolmimkaaGreatDoor
open Go.RowKit Go.Shelf
open Lim

theorem run_mkcap {P : Program} {t e : TypeId} {i : TypeInfo} {z : Value} (ht : P.underlying t = some (.slice e)) (hi : P.info? e = some i) (hz : i.zero = some z) (hsz : i.size = 1) (hby : i.bytes = 1)
    {n : Nat} (hn : n ≤ 1000000) (w : World) :
    (Instr.makeSlice t (.int .i64 0) (.int .i64 (n : Int))).run P w = .ok (.slice (some ⟨w.heap.size, 0, none⟩) 0 n) (w.alloc (.cells (madeCells z.cells n) e)) := by
  have hb : (i.bytes : Int) * (n : Int) ≤ 281474976710656 := by rw [hby]; omega
  have hr := run_make (P := P) w t e i z ht hi hz .i64 .i64 0 n (by omega) (by omega) hb (by omega)
  simp only [Int.toNat_natCast, Int.toNat_zero, hsz, Nat.mul_one] at hr
  exact hr
theorem nine_cells (k : Nat) : List.replicate k (Value.int .u8 57) ++ Lib.strCells ⟨#[57]⟩ = List.replicate (k + 1) (Value.int .u8 57) := by
  rw [List.replicate_succ']; rfl
set_option maxRecDepth 100000 in
set_option maxHeartbeats 1000000 in
theorem times9_any (n : Nat) (w : World) (hn : n ≤ 100000) :
    Calls Tryz.prog 116 #[.string ⟨#[57]⟩, .int .i64 (n : Int)] w fun e w' => e = .returned (.string ⟨(List.replicate n 57).toArray⟩) ∧ Below w.heap.size w w' := by
  obtain ⟨i0, hi, hz0, hz1, hz2⟩ := info_parts Tryz.infoB
  have hmk := fun W => run_mkcap (P := Tryz.prog) Tryz.underlying121 hi hz0 hz1 hz2 (n := n) (by omega) W
  have hmax : max (0 : Int) (n : Int) = (n : Int) := by omega
  go_enter Tryz.func116, Tryz.ntmps116
  go_wp2
  clear hmk
  have hown0 : (w.alloc (.cells (madeCells #[.int .u8 0] n) 5)).ownsRow w.heap.size 5 1 (.slice (some ⟨w.heap.size, 0, none⟩) 0 n) 0 [] := World.ownsRow_made w _ n (Nat.le_refl _) (Nat.le_trans hn (by decide)) (by rw [size_madeCells, Nat.mul_one])
  have hB0 : Below w.heap.size w (w.alloc (.cells (madeCells #[.int .u8 0] n) 5)) := below_alloc (Below.refl w.heap.size w) _
  generalize w.alloc (.cells (madeCells #[.int .u8 0] n) 5) = W1 at *
  go_loopw [5, 6] (fun v5 v6 wr => ∃ k : Nat, k ≤ n ∧ v6 = .int .i64 (k : Int) ∧ v5 = .slice (some ⟨w.heap.size, 0, none⟩) k n ∧ wr.ownsRow w.heap.size 5 1 (.slice (some ⟨w.heap.size, 0, none⟩) k n) k (List.replicate k (.int .u8 57)) ∧ Below w.heap.size w wr) (fun _ v6 _ => n - (intOf v6).toNat)
  case atStart => exact ⟨0, Nat.zero_le _, rfl, rfl, hown0, hB0⟩
  case round =>
    obtain ⟨k, hk, rfl, rfl, hown, hb⟩ := hrel
    clear hown0 hB0
    have HB := Lib.hid hb
    by_cases hlt : k < n
    · have hlt' : (k : Int) < (n : Int) := by omega
      clear hb
      go_wp2_with (at_builtin; refine Lib.wpList_append_fits_string _ rfl _ _ 121 9 rfl w.heap.size 5 i0 Tryz.underlying121 Tryz.underlying9 hi hz1 _ _ _ _ rfl hown ⟨#[57]⟩ rfl (by omega) (by show k + 1 ≤ n; omega) ?_; intro w' hown' hgr; rw [nine_cells] at hown'; have HO := Lib.hid hown'; have HB2 := Lib.hid (HB.out.grown hgr (by have := HB.out.size; omega) (fun k e => (hown.lt k e).1)); clear hown' hgr)
      go_roundw
      case rel => exact ⟨k + 1, hlt, by go_num, rfl, HO.out, HB2.out⟩
      case measure => simp [intOf]; omega
    · have hlt' : ¬ (k : Int) < (n : Int) := by omega
      obtain rfl : k = n := by omega
      have hcell : ∀ j (hj : j < (List.replicate k (57 : UInt8)).length), wr.cell? ((⟨w.heap.size, 0, none⟩ : Addr).add j) = some (.int .u8 ((List.replicate k (57 : UInt8))[j].toNat : Int)) := by
        intro j hj
        rw [List.length_replicate] at hj
        refine hown.cells rfl j _ ?_
        simp [hj]
      have HCV := run_convert_bytes_back (P := Tryz.prog) wr 121 9 5 ⟨w.heap.size, 0, none⟩ k (List.replicate k (57 : UInt8)) Tryz.underlying121 Tryz.underlying5 Tryz.underlying9 hcell
      rw [List.length_replicate] at HCV
      clear hown hb hcell
      go_wp2
      go_ret
      exact ⟨rfl, HB.out⟩
set_option maxRecDepth 100000 in
theorem nines_any (w : World) :
    Calls Tryz.prog 58 #[.int .i64 4000] w fun e w' => e = .returned (.string ⟨(List.replicate 4000 57).toArray⟩) ∧ Below w.heap.size w w' := by
  have HC := Lib.hid (times9_any 4000 w (by decide))
  generalize (⟨(List.replicate 4000 57).toArray⟩ : ByteArray) = s at *
  go_enter Tryz.func58, Tryz.ntmps58
  go_wp2_with (go_at_call 116; refine HC.out.mono ?_; rintro e w1 ⟨rfl, hb⟩; have HB := Lib.hid hb; clear hb)
  go_ret
  exact ⟨rfl, HB.out⟩
end Go.Proofs.YtjoifmnolmimkaaGreatDoor
namespace Go.Proofs.YtjoifmnolmimkaaGreatDoor
open Go.RowKit Go.Shelf
open Lim

/-! ### the examples' calls -/
section
variable {a b c : ByteArray} {p q : Rat} (w : World)
theorem addR {r : List UInt8 × Nat} (ha : IsT a p) (hb : IsT b q) (hr : outQ (p + q) = r) (hR : Res w) :
    Calls Tryz.prog 17 #[.string a, .string b] w fun e w' => e = .returned (resN r) ∧ Below w.heap.size w w' := by
  have h := ratAdd_any a b w ha.size hb.size hR
  rw [two_T ha hb, hr] at h
  exact h
theorem mulR {r : List UInt8 × Nat} (ha : IsT a p) (hb : IsT b q) (hr : outQ (p * q) = r) (hR : Res w) :
    Calls Tryz.prog 18 #[.string a, .string b] w fun e w' => e = .returned (resN r) ∧ Below w.heap.size w w' := by
  have h := ratMul_any a b w ha.size hb.size hR
  rw [two_T ha hb, hr] at h
  exact h
theorem powR {n : Int} {r : List UInt8 × Nat} {v : Value} (ha : IsT a p) (hr : powQ p n = r) (h1 : -9223372036854775808 ≤ n) (h2 : n ≤ 9223372036854775807) (hv : resN r = v) (hR : Res w) :
    Calls Tryz.prog 14 #[.string a, .int .i64 n] w fun e w' => e = .returned v ∧ Below w.heap.size w w' := by
  have h := ratPow_any a n w ha.size hR h1 h2
  rw [one_T ha, hr, hv] at h
  exact h
theorem makeR {v : Value} (hv : resN (makeQ a.data.toList b.data.toList) = v) (ha : a.size ≤ 270000) (hb : b.size ≤ 270000) (hR : Res w) :
    Calls Tryz.prog 26 #[.string a, .string b] w fun e w' => e = .returned v ∧ Below w.heap.size w w' := by
  have h := ratMake_any a b w ha hb hR
  rw [hv] at h
  exact h
theorem partsR (hR : Res w) :
    Calls Tryz.prog 25 #[.string ⟨#[45, 51, 47, 50]⟩] w fun e w' => e = .returned (.tuple #[.string ⟨#[45, 51]⟩, .string ⟨#[50]⟩, .int .i64 0]) ∧ Below w.heap.size w w' := by
  have h := ratParts_any ⟨#[45, 51, 47, 50]⟩ w (by decide) hR
  rw [show resP (partsQ (⟨#[45, 51, 47, 50]⟩ : ByteArray).data.toList) = .tuple #[.string ⟨#[45, 51]⟩, .string ⟨#[50]⟩, .int .i64 0] by show resP (partsQ [45, 51, 47, 50]) = _; rw [ex_parts]; rfl] at h
  exact h
theorem intR {n : Int} (hc : (⟨(Lib.itoa n).toArray⟩ : ByteArray) = c) (h0 : -9223372036854775808 ≤ n) (h1 : n ≤ 9223372036854775807) (hR : Res w) :
    Calls Tryz.prog 29 #[.int .i64 n] w fun e w' => e = .returned (.string c) ∧ Below w.heap.size w w' := by
  have h := ratInt_any n w hR h0 h1
  rw [hc] at h
  exact h
end
/-- The text of 4000 nines. -/
def bgT : ByteArray := ⟨(List.replicate 4000 57).toArray⟩
theorem app_list (l : List UInt8) (k : List UInt8) : (⟨l.toArray⟩ : ByteArray) ++ ⟨k.toArray⟩ = ⟨(l ++ k).toArray⟩ := by
  apply ByteArray.ext
  apply Array.toList_inj.1
  rw [ByteArray.data_append]
  simp
theorem small_T2 {N : Nat} (hN : Top N) : IsT (⟨#[49, 47]⟩ ++ bgT) (mkQ false 1 N) := (app_list [49, 47] (List.replicate 4000 57)) ▸ small_T hN
theorem nbig_T2 {N : Nat} (hN : Top N) : IsT (⟨#[45]⟩ ++ bgT) (mkQ true N 1) := (app_list [45] (List.replicate 4000 57)) ▸ nbig_T hN
theorem nsmall_T2 {N : Nat} (hN : Top N) : IsT (⟨#[45, 49, 47]⟩ ++ bgT) (mkQ true N 1)⁻¹ := (app_list [45, 49, 47] (List.replicate 4000 57)) ▸ nsmall_T hN
theorem checkOver (w : World) (hR : Res w) :
    Calls Tryz.prog 56 #[.string (⟨#[49, 47]⟩ ++ bgT ++ ⟨#[57]⟩)] w fun e w' => e = .returned (.int .i64 5) ∧ Below w.heap.size w w' := by
  obtain ⟨L, hL⟩ : ∃ L : List UInt8, L = ([49, 47] : List UInt8) ++ List.replicate 4000 57 ++ [57] := ⟨_, rfl⟩
  have hx : errQ L = 5 := by rw [hL]; exact ex_over
  have hl : L.length ≤ 270000 := by
    rw [hL, List.length_append, List.length_append, List.length_replicate]
    decide
  have e : (⟨#[49, 47]⟩ ++ bgT ++ ⟨#[57]⟩ : ByteArray) = ⟨L.toArray⟩ := by
    rw [hL, ← app_list, ← app_list]; rfl
  clear hL
  have hs : (⟨L.toArray⟩ : ByteArray).size ≤ 270000 := by
    rw [size_list]
    exact hl
  have h := ratCheck_any ⟨L.toArray⟩ w hs hR
  rw [e]
  rw [show errQ (⟨L.toArray⟩ : ByteArray).data.toList = 5 from hx] at h
  exact h

set_option maxRecDepth 100000 in
set_option maxHeartbeats 16000000 in
theorem names_walk (bg : ByteArray) (w : World) 
    (P0 : Hid (∀ w, Res w → Calls Tryz.prog 19 #[.string ⟨#[49, 47, 50]⟩, .string ⟨#[49, 47, 50]⟩] w fun e w' => e = .returned (.tuple #[.string ⟨#[48]⟩, .int .i64 0]) ∧ Below w.heap.size w w'))
    (P1 : Hid (∀ w, Res w → Calls Tryz.prog 18 #[.string ⟨#[45, 50, 47, 51]⟩, .string ⟨#[51, 47, 52]⟩] w fun e w' => e = .returned (.tuple #[.string ⟨#[45, 49, 47, 50]⟩, .int .i64 0]) ∧ Below w.heap.size w w'))
    (P2 : Hid (∀ w, Res w → Calls Tryz.prog 22 #[.string ⟨#[49, 47, 50]⟩, .string ⟨#[45, 51]⟩] w fun e w' => e = .returned (.tuple #[.string ⟨#[45, 49, 47, 54]⟩, .int .i64 0]) ∧ Below w.heap.size w w'))
    (P3 : Hid (∀ w, Res w → Calls Tryz.prog 14 #[.string ⟨#[45, 50, 47, 51]⟩, .int .i64 3] w fun e w' => e = .returned (.tuple #[.string ⟨#[45, 56, 47, 50, 55]⟩, .int .i64 0]) ∧ Below w.heap.size w w'))
    (P4 : Hid (∀ w, Res w → Calls Tryz.prog 14 #[.string ⟨#[48]⟩, .int .i64 0] w fun e w' => e = .returned (.tuple #[.string ⟨#[49]⟩, .int .i64 0]) ∧ Below w.heap.size w w'))
    (P5 : Hid (∀ w, Res w → Calls Tryz.prog 14 #[.string ⟨#[48]⟩, .int .i64 (-1)] w fun e w' => e = .returned (.tuple #[.string ⟨#[]⟩, .int .i64 6]) ∧ Below w.heap.size w w'))
    (P6 : Hid (∀ w, Res w → Calls Tryz.prog 35 #[.string ⟨#[45, 51, 47, 50]⟩] w fun e w' => e = .returned (.tuple #[.string ⟨#[45, 50]⟩, .int .i64 0]) ∧ Below w.heap.size w w'))
    (P7 : Hid (∀ w, Res w → Calls Tryz.prog 36 #[.string ⟨#[45, 51, 47, 50]⟩] w fun e w' => e = .returned (.tuple #[.string ⟨#[45, 49]⟩, .int .i64 0]) ∧ Below w.heap.size w w'))
    (P8 : Hid (∀ w, Res w → Calls Tryz.prog 35 #[.string ⟨#[55]⟩] w fun e w' => e = .returned (.tuple #[.string ⟨#[55]⟩, .int .i64 0]) ∧ Below w.heap.size w w'))
    (P9 : Hid (∀ w, Res w → Calls Tryz.prog 46 #[.string ⟨#[49, 47, 51]⟩, .string ⟨#[50, 47, 53]⟩] w fun e w' => e = .returned (.tuple #[.int .i64 (-1), .int .i64 0]) ∧ Below w.heap.size w w'))
    (P10 : Hid (∀ w, Res w → Calls Tryz.prog 34 #[.string ⟨#[49, 47, 51]⟩, .string ⟨#[50, 47, 53]⟩] w fun e w' => e = .returned (.tuple #[.string ⟨#[50, 47, 53]⟩, .int .i64 0]) ∧ Below w.heap.size w w'))
    (P11 : Hid (∀ w, Res w → Calls Tryz.prog 25 #[.string ⟨#[45, 51, 47, 50]⟩] w fun e w' => e = .returned (.tuple #[.string ⟨#[45, 51]⟩, .string ⟨#[50]⟩, .int .i64 0]) ∧ Below w.heap.size w w'))
    (P12 : Hid (∀ w, Res w → Calls Tryz.prog 26 #[.string ⟨#[49]⟩, .string ⟨#[48]⟩] w fun e w' => e = .returned (.tuple #[.string ⟨#[]⟩, .int .i64 6]) ∧ Below w.heap.size w w'))
    (P13 : Hid (∀ w, Res w → Calls Tryz.prog 26 #[.string ⟨#[49, 47, 50]⟩, .string ⟨#[51]⟩] w fun e w' => e = .returned (.tuple #[.string ⟨#[]⟩, .int .i64 3]) ∧ Below w.heap.size w w'))
    (P14 : Hid (∀ w, Res w → Calls Tryz.prog 17 #[.string bg, .string ⟨#[49]⟩] w fun e w' => e = .returned (.tuple #[.string ⟨#[]⟩, .int .i64 5]) ∧ Below w.heap.size w w'))
    (P15 : Hid (∀ w, Res w → Calls Tryz.prog 18 #[.string (⟨#[49, 47]⟩ ++ bg), .string ⟨#[49, 47, 50]⟩] w fun e w' => e = .returned (.tuple #[.string ⟨#[]⟩, .int .i64 5]) ∧ Below w.heap.size w w'))
    (P16 : Hid (∀ w, Res w → Calls Tryz.prog 15 #[.string (⟨#[45]⟩ ++ bg)] w fun e w' => e = .returned (.tuple #[.string (⟨#[45, 49, 47]⟩ ++ bg), .int .i64 0]) ∧ Below w.heap.size w w'))
    (P17 : Hid (∀ w, Res w → Calls Tryz.prog 14 #[.string ⟨#[45, 49]⟩, .int .i64 (-9223372036854775808)] w fun e w' => e = .returned (.tuple #[.string ⟨#[49]⟩, .int .i64 0]) ∧ Below w.heap.size w w'))
    (P18 : Hid (∀ w, Res w → Calls Tryz.prog 14 #[.string ⟨#[45, 49]⟩, .int .i64 9223372036854775807] w fun e w' => e = .returned (.tuple #[.string ⟨#[45, 49]⟩, .int .i64 0]) ∧ Below w.heap.size w w'))
    (P19 : Hid (∀ w, Res w → Calls Tryz.prog 14 #[.string ⟨#[49, 47, 50]⟩, .int .i64 (-9223372036854775808)] w fun e w' => e = .returned (.tuple #[.string ⟨#[]⟩, .int .i64 5]) ∧ Below w.heap.size w w'))
    (P20 : Hid (∀ w, Res w → Calls Tryz.prog 28 #[.string ⟨#[45, 51, 47, 50]⟩] w fun e w' => e = .returned (.tuple #[.int .i64 (-1), .int .i64 0]) ∧ Below w.heap.size w w'))
    (P21 : Hid (∀ w, Res w → Calls Tryz.prog 29 #[.int .i64 (-12)] w fun e w' => e = .returned (.string ⟨#[45, 49, 50]⟩) ∧ Below w.heap.size w w'))
    (P22 : Hid (∀ w, Res w → Calls Tryz.prog 29 #[.int .i64 (-9223372036854775808)] w fun e w' => e = .returned (.string ⟨#[45, 57, 50, 50, 51, 51, 55, 50, 48, 51, 54, 56, 53, 52, 55, 55, 53, 56, 48, 56]⟩) ∧ Below w.heap.size w w'))
    (P23 : Hid (∀ w, Res w → Calls Tryz.prog 29 #[.int .i64 0] w fun e w' => e = .returned (.string ⟨#[48]⟩) ∧ Below w.heap.size w w'))
    (P24 : Hid (∀ w, Res w → Calls Tryz.prog 56 #[.string (⟨#[49, 47]⟩ ++ bg ++ ⟨#[57]⟩)] w fun e w' => e = .returned (.int .i64 5) ∧ Below w.heap.size w w'))
    (P25 : Hid (∀ w, Res w → Calls Tryz.prog 56 #[.string bg] w fun e w' => e = .returned (.int .i64 0) ∧ Below w.heap.size w w'))
    (PN : Hid (∀ w, Calls Tryz.prog 58 #[.int .i64 4000] w fun e w' => e = .returned (.string bg) ∧ Below w.heap.size w w'))
    (PB : Hid (∀ (k : Nat) (h : k < badL.length) (w : World), Res w → Calls Tryz.prog 56 #[.string badL[k]] w fun e w' => e = .returned (.int .i64 3) ∧ Below w.heap.size w w')) (hbg : bg.size = 4000) (hr : Res w) :
    Calls Tryz.prog 10 #[] w fun e w' => e = .returned (.bool true) ∧ Below w.heap.size w w' := by
  have HR := Lib.hid hr
  have HB := Lib.hid (Below.refl w.heap.size w)
  clear hr
  go_enter Tryz.func10, Tryz.ntmps10
  go_wp2_with (first
    | (go_at_call 11; refine (lives_any _ HR.out).mono ?_; rintro e w1 ⟨rfl, hb1⟩; replace HR := Lib.hid (HR.out.below hb1); replace HB := Lib.hid (HB.out.trans (hb1.mono HB.out.size)); clear hb1))
  obtain ⟨W, hW⟩ : ∃ W, W = w1.alloc (.cells #[.string ⟨#[]⟩, .string ⟨#[45]⟩, .string ⟨#[45, 48]⟩, .string ⟨#[48, 48]⟩, .string ⟨#[48, 49]⟩, .string ⟨#[43, 49]⟩, .string ⟨#[49, 47]⟩, .string ⟨#[47, 50]⟩, .string ⟨#[49, 47, 48]⟩, .string ⟨#[49, 47, 49]⟩, .string ⟨#[49, 47, 48, 50]⟩, .string ⟨#[50, 47, 52]⟩, .string ⟨#[48, 47, 51]⟩, .string ⟨#[45, 48, 47, 51]⟩, .string ⟨#[49, 47, 45, 50]⟩, .string ⟨#[49, 47, 50, 47, 51]⟩, .string ⟨#[32, 49]⟩, .string ⟨#[49, 46, 53]⟩, .string ⟨#[45, 45, 49]⟩] 22) := ⟨_, rfl⟩
  rw [← hW]
  have hblk : Blk W w1.heap.size 22 (badL.map Value.string).toArray := by rw [hW]; exact Blk.new _ _ _
  have hRW : Res W := by rw [hW]; exact HR.out.below (below_alloc (Below.refl _ _) _)
  have hBW : Below w.heap.size w W := by rw [hW]; exact below_alloc HB.out _
  clear hW HR HB
  have HBK := Lib.hid hblk
  go_loopw [2] (fun v2 wr => ∃ k : Nat, k ≤ badL.length ∧ v2 = .int .i64 (k : Int) ∧ Res wr ∧ Below w.heap.size w wr ∧ Below W.heap.size W wr) (fun v2 _ => badL.length - (intOf v2).toNat)
  case atStart => exact ⟨0, Nat.zero_le _, rfl, hRW, hBW, Below.refl _ _⟩
  case round =>
    obtain ⟨k, hk, rfl, hRr, hBr, hBWr⟩ := hrel
    clear hblk hRW hBW
    have HR := Lib.hid hRr
    have HB := Lib.hid hBr
    have HW := Lib.hid hBWr
    clear hRr hBr
    by_cases hlt : k < badL.length
    · have hlt' : (k : Int) < 19 := by have : badL.length = 19 := rfl; omega
      have cx : wr.cell? ⟨w1.heap.size, k, none⟩ = some (.string badL[k]) := by
        have := (cellrow (HBK.out.below HW.out HBK.out.lt) k (by simpa using hlt)).1
        simpa using this
      have HCK := Lib.hid (fun w h => PB.out k hlt w h)
      have hk19 : k < 19 := hlt
      clear hBWr
      generalize badL[k] = s at *
      go_wp2_with (go_at_call 56; refine (HCK.out _ HR.out).mono ?_; rintro e w2 ⟨rfl, hb2⟩; have HR2 := Lib.hid (HR.out.below hb2); have HB2 := Lib.hid (HB.out.trans (hb2.mono HB.out.size)); have HW2 := Lib.hid (HW.out.trans (hb2.mono HW.out.size)); clear hb2)
      go_roundw
      case rel => exact ⟨k + 1, hlt, by go_num, HR2.out, HB2.out, HW2.out⟩
      case measure => simp [intOf]; omega
    · have hlt' : ¬ (k : Int) < 19 := by have : badL.length = 19 := rfl; omega
      clear hBWr HW HBK PB
      have TK1 : True := trivial
      have TK3 : True := trivial
      have TK4 : True := trivial
      have TK5 : True := trivial
      have TK6 : True := trivial
      have TK8 : True := trivial
      have TK12 : True := trivial
      have TK13 : True := trivial
      have TK15 : True := trivial
      have TK17 : True := trivial
      have TK18 : True := trivial
      have TK19 : True := trivial
      have TK21 : True := trivial
      have TK22 : True := trivial
      have TK23 : True := trivial
      have TK24 : True := trivial
      have TK25 : True := trivial
      go_wp2_with (first
        | (go_at_call 58; refine (PN.out _).mono ?_; rintro e w1 ⟨rfl, hb1⟩; replace HR := Lib.hid (HR.out.below hb1); replace HB := Lib.hid (HB.out.trans (hb1.mono HB.out.size)); clear hb1)
        | (go_at_call 19; refine (P0.out _ HR.out).mono ?_; rintro e w1 ⟨rfl, hb1⟩; replace HR := Lib.hid (HR.out.below hb1); replace HB := Lib.hid (HB.out.trans (hb1.mono HB.out.size)); clear hb1)
        | (clear TK1; go_at_call 18; refine (P1.out _ HR.out).mono ?_; rintro e w1 ⟨rfl, hb1⟩; replace HR := Lib.hid (HR.out.below hb1); replace HB := Lib.hid (HB.out.trans (hb1.mono HB.out.size)); clear hb1)
        | (go_at_call 22; refine (P2.out _ HR.out).mono ?_; rintro e w1 ⟨rfl, hb1⟩; replace HR := Lib.hid (HR.out.below hb1); replace HB := Lib.hid (HB.out.trans (hb1.mono HB.out.size)); clear hb1)
        | (clear TK3; go_at_call 14; refine (P3.out _ HR.out).mono ?_; rintro e w1 ⟨rfl, hb1⟩; replace HR := Lib.hid (HR.out.below hb1); replace HB := Lib.hid (HB.out.trans (hb1.mono HB.out.size)); clear hb1)
        | (clear TK4; go_at_call 14; refine (P4.out _ HR.out).mono ?_; rintro e w1 ⟨rfl, hb1⟩; replace HR := Lib.hid (HR.out.below hb1); replace HB := Lib.hid (HB.out.trans (hb1.mono HB.out.size)); clear hb1)
        | (clear TK5; go_at_call 14; refine (P5.out _ HR.out).mono ?_; rintro e w1 ⟨rfl, hb1⟩; replace HR := Lib.hid (HR.out.below hb1); replace HB := Lib.hid (HB.out.trans (hb1.mono HB.out.size)); clear hb1)
        | (clear TK6; go_at_call 35; refine (P6.out _ HR.out).mono ?_; rintro e w1 ⟨rfl, hb1⟩; replace HR := Lib.hid (HR.out.below hb1); replace HB := Lib.hid (HB.out.trans (hb1.mono HB.out.size)); clear hb1)
        | (go_at_call 36; refine (P7.out _ HR.out).mono ?_; rintro e w1 ⟨rfl, hb1⟩; replace HR := Lib.hid (HR.out.below hb1); replace HB := Lib.hid (HB.out.trans (hb1.mono HB.out.size)); clear hb1)
        | (clear TK8; go_at_call 35; refine (P8.out _ HR.out).mono ?_; rintro e w1 ⟨rfl, hb1⟩; replace HR := Lib.hid (HR.out.below hb1); replace HB := Lib.hid (HB.out.trans (hb1.mono HB.out.size)); clear hb1)
        | (go_at_call 46; refine (P9.out _ HR.out).mono ?_; rintro e w1 ⟨rfl, hb1⟩; replace HR := Lib.hid (HR.out.below hb1); replace HB := Lib.hid (HB.out.trans (hb1.mono HB.out.size)); clear hb1)
        | (go_at_call 34; refine (P10.out _ HR.out).mono ?_; rintro e w1 ⟨rfl, hb1⟩; replace HR := Lib.hid (HR.out.below hb1); replace HB := Lib.hid (HB.out.trans (hb1.mono HB.out.size)); clear hb1)
        | (go_at_call 25; refine (P11.out _ HR.out).mono ?_; rintro e w1 ⟨rfl, hb1⟩; replace HR := Lib.hid (HR.out.below hb1); replace HB := Lib.hid (HB.out.trans (hb1.mono HB.out.size)); clear hb1)
        | (clear TK12; go_at_call 26; refine (P12.out _ HR.out).mono ?_; rintro e w1 ⟨rfl, hb1⟩; replace HR := Lib.hid (HR.out.below hb1); replace HB := Lib.hid (HB.out.trans (hb1.mono HB.out.size)); clear hb1)
        | (clear TK13; go_at_call 26; refine (P13.out _ HR.out).mono ?_; rintro e w1 ⟨rfl, hb1⟩; replace HR := Lib.hid (HR.out.below hb1); replace HB := Lib.hid (HB.out.trans (hb1.mono HB.out.size)); clear hb1)
        | (go_at_call 17; refine (P14.out _ HR.out).mono ?_; rintro e w1 ⟨rfl, hb1⟩; replace HR := Lib.hid (HR.out.below hb1); replace HB := Lib.hid (HB.out.trans (hb1.mono HB.out.size)); clear hb1)
        | (clear TK15; go_at_call 18; refine (P15.out _ HR.out).mono ?_; rintro e w1 ⟨rfl, hb1⟩; replace HR := Lib.hid (HR.out.below hb1); replace HB := Lib.hid (HB.out.trans (hb1.mono HB.out.size)); clear hb1)
        | (go_at_call 15; refine (P16.out _ HR.out).mono ?_; rintro e w1 ⟨rfl, hb1⟩; replace HR := Lib.hid (HR.out.below hb1); replace HB := Lib.hid (HB.out.trans (hb1.mono HB.out.size)); clear hb1)
        | (clear TK17; go_at_call 14; refine (P17.out _ HR.out).mono ?_; rintro e w1 ⟨rfl, hb1⟩; replace HR := Lib.hid (HR.out.below hb1); replace HB := Lib.hid (HB.out.trans (hb1.mono HB.out.size)); clear hb1)
        | (clear TK18; go_at_call 14; refine (P18.out _ HR.out).mono ?_; rintro e w1 ⟨rfl, hb1⟩; replace HR := Lib.hid (HR.out.below hb1); replace HB := Lib.hid (HB.out.trans (hb1.mono HB.out.size)); clear hb1)
        | (clear TK19; go_at_call 14; refine (P19.out _ HR.out).mono ?_; rintro e w1 ⟨rfl, hb1⟩; replace HR := Lib.hid (HR.out.below hb1); replace HB := Lib.hid (HB.out.trans (hb1.mono HB.out.size)); clear hb1)
        | (go_at_call 28; refine (P20.out _ HR.out).mono ?_; rintro e w1 ⟨rfl, hb1⟩; replace HR := Lib.hid (HR.out.below hb1); replace HB := Lib.hid (HB.out.trans (hb1.mono HB.out.size)); clear hb1)
        | (clear TK21; go_at_call 29; refine (P21.out _ HR.out).mono ?_; rintro e w1 ⟨rfl, hb1⟩; replace HR := Lib.hid (HR.out.below hb1); replace HB := Lib.hid (HB.out.trans (hb1.mono HB.out.size)); clear hb1)
        | (clear TK22; go_at_call 29; refine (P22.out _ HR.out).mono ?_; rintro e w1 ⟨rfl, hb1⟩; replace HR := Lib.hid (HR.out.below hb1); replace HB := Lib.hid (HB.out.trans (hb1.mono HB.out.size)); clear hb1)
        | (clear TK23; go_at_call 29; refine (P23.out _ HR.out).mono ?_; rintro e w1 ⟨rfl, hb1⟩; replace HR := Lib.hid (HR.out.below hb1); replace HB := Lib.hid (HB.out.trans (hb1.mono HB.out.size)); clear hb1)
        | (clear TK24; go_at_call 56; refine (P24.out _ HR.out).mono ?_; rintro e w1 ⟨rfl, hb1⟩; replace HR := Lib.hid (HR.out.below hb1); replace HB := Lib.hid (HB.out.trans (hb1.mono HB.out.size)); clear hb1)
        | (clear TK25; go_at_call 56; refine (P25.out _ HR.out).mono ?_; rintro e w1 ⟨rfl, hb1⟩; replace HR := Lib.hid (HR.out.below hb1); replace HB := Lib.hid (HB.out.trans (hb1.mono HB.out.size)); clear hb1))
      go_ret
      exact ⟨rfl, HB.out⟩
/-- RatNames. -/
theorem ratNames_any (w : World) (hr : Res w) :
    Calls Tryz.prog 10 #[] w fun e w' => e = .returned (.bool true) ∧ Below w.heap.size w w' := by
  obtain ⟨N, hN⟩ := top_ex
  exact names_walk bgT w
    (Lib.hid (fun w hr => subT w t12 t12 ex_sub hr))
    (Lib.hid (fun w hr => mulT w n23 t34 ex_mul hr))
    (Lib.hid (fun w hr => divT w t12 n3 ex_div (by decide +kernel) hr))
    (Lib.hid (fun w hr => powT w n23 (by decide) ex_pow (by decide) (by decide) hr))
    (Lib.hid (fun w hr => powT w IsT.zero (by decide) ex_pow0 (by decide) (by decide) hr))
    (Lib.hid (fun w hr => powR w IsT.zero ex_zero_neg (by decide) (by decide) rfl hr))
    (Lib.hid (fun w hr => floorT w n32 ex_floor hr))
    (Lib.hid (fun w hr => ceilT w n32 ex_ceil hr))
    (Lib.hid (fun w hr => floorT w t7 ex_floor7 hr))
    (Lib.hid (fun w hr => cmpT w t13 t25 ex_cmp hr))
    (Lib.hid (fun w hr => maxT w t13 t25 (by rw [ex_cmp]; rfl) hr))
    (Lib.hid (fun w hr => partsR w hr))
    (Lib.hid (fun w hr => makeR w ex_make0 (by decide) (by decide) hr))
    (Lib.hid (fun w hr => makeR w ex_make3 (by decide) (by decide) hr))
    (Lib.hid (fun w hr => addR w (big_T hN) IsT.one (over_add hN) hr))
    (Lib.hid (fun w hr => mulR w (small_T2 hN) t12 (over_mul hN) hr))
    (Lib.hid (fun w hr => invT w (nbig_T2 hN) (nsmall_T2 hN) (nbig_ne hN) hr))
    (Lib.hid (fun w hr => powR w n1 ex_m1_min (by decide) (by decide) (out_T IsT.one) hr))
    (Lib.hid (fun w hr => powR w n1 ex_m1_max (by decide) (by decide) (out_T n1) hr))
    (Lib.hid (fun w hr => powR w t12 ex_half (by decide) (by decide) rfl hr))
    (Lib.hid (fun w hr => signT w n32 ex_sign hr))
    (Lib.hid (fun w hr => intR w itoa_12 (by decide) (by decide) hr))
    (Lib.hid (fun w hr => intR w itoa_min (by decide) (by decide) hr))
    (Lib.hid (fun w hr => intR w itoa_0 (by decide) (by decide) hr))
    (Lib.hid (fun w hr => checkOver w hr))
    (Lib.hid (fun w hr => checkT w (big_T hN) hr))
    (Lib.hid (fun w => nines_any w))
    (Lib.hid (fun k h w hr => by
      have := ratCheck_any badL[k] w (bad_at h).2 hr
      rw [(bad_at h).1] at this
      exact this))
    (by rw [size_list]; exact List.length_replicate) hr
end Go.Proofs.YtjoifmnolmimkaaGreatDoor
