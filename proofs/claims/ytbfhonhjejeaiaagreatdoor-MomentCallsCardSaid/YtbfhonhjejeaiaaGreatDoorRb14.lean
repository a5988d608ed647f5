/- The reference's Power of natural numbers; odd. The reference's functions of one number: Neg, Abs, Inv, Sign (printed by mkrone.py). Powers that are too great. The reference's Pow of rational numbers (printed by mkrpw.py). -/
import Derived.Test.YtbfhonhjejeaiaaGreatDoorRb13
import Derived.Test.YtbfhonhjejeaiaaGreatDoorRb09
import Derived.Laws.Bits128
import Derived.Test.YtbfhonhjejeaiaaGreatDoorRb12
import Derived.Test.YtbfhonhjejeaiaaGreatDoorRb10
namespace Go.Proofs.YtbfhonhjejeaiaaGreatDoor
open Go.RowKit Go.Shelf
open Lim

theorem half_step (n k : Nat) : n / 2 ^ k = 2 * (n / 2 ^ (k + 1)) + n / 2 ^ k % 2 := by
  rw [Nat.pow_succ, ← Nat.div_div_eq_div_mul]; omega
theorem pow_half (x n k : Nat) : x ^ (n / 2 ^ k) = if n / 2 ^ k % 2 = 1 then x ^ (n / 2 ^ (k + 1)) * x ^ (n / 2 ^ (k + 1)) * x else x ^ (n / 2 ^ (k + 1)) * x ^ (n / 2 ^ (k + 1)) := by
  conv => lhs; rw [half_step n k]
  by_cases h : n / 2 ^ k % 2 = 1
  · rw [if_pos h, h, Nat.pow_succ, Nat.two_mul, Nat.pow_add]
  · have h0 : n / 2 ^ k % 2 = 0 := by omega
    rw [if_neg h, h0, Nat.add_zero, Nat.two_mul, Nat.pow_add]
theorem nd_pow_mono {x m n : Nat} (hx : 1 ≤ x) (h : m ≤ n) : Lib.nDigits (x ^ m) ≤ Lib.nDigits (x ^ n) := nDigits_mono (Nat.pow_le_pow_right hx h)
theorem nd_limbs {x : Nat} (h : Lib.nDigits x ≤ 4000) : (toL x).length ≤ 445 := limbs_of_nd h (by omega)
/-- The bit of a number that a round asks. -/
theorem i64_and1 (n : Int) : bits .and .i64 n 1 = n % 2 := by
  have h1 : (BitVec.ofInt 64 1).toNat = 2 ^ 1 - 1 := by decide
  have key : (BitVec.ofInt 64 n &&& BitVec.ofInt 64 1).toNat = (n % ((2 ^ 64 : Nat) : Int)).toNat % 2 ^ 1 := by
    rw [BitVec.toNat_and, BitVec.toNat_ofInt, h1, Nat.and_two_pow_sub_one_eq_mod]
  show IntKind.i64.wrap ((BitVec.ofInt 64 n &&& BitVec.ofInt 64 1).toNat : Nat) = n % 2
  rw [key, IntKind.wrap_i64]
  omega
theorem bit_and (n k : Nat) : bits .and .i64 ((n : Int) / 2 ^ k) 1 = ((n / 2 ^ k % 2 : Nat) : Int) := by
  rw [i64_and1]
  simp
set_option maxRecDepth 100000 in
theorem odd_any (n : Int) (w : World) (_h0 : -9223372036854775808 ≤ n) (_h1 : n ≤ 9223372036854775807) :
    Calls Tryz.prog 92 #[.int .i64 n] w fun e w' => e = .returned (.bool (decide (n.natAbs % 2 = 1))) ∧ w' = w := by
  have hm : (!(n.tmod 2 == 0)) = decide (n.natAbs % 2 = 1) := by
    have h := Int.tmod_eq_emod (a := n) (b := 2)
    by_cases h2 : n.natAbs % 2 = 1
    · rw [decide_eq_true h2]
      have : n.tmod 2 ≠ 0 := by
        intro e
        have := Int.natAbs_tmod n 2
        rw [e] at this
        simp at this
        omega
      simp [this]
    · rw [decide_eq_false h2]
      have : n.tmod 2 = 0 := by
        have := Int.natAbs_tmod n 2
        have h3 : (n.tmod 2).natAbs = 0 := by rw [this]; show n.natAbs % 2 = 0; omega
        exact Int.natAbs_eq_zero.1 h3
      simp [this]
  rw [← hm]
  clear hm
  go_enter Tryz.func92, Tryz.ntmps92
  go_wp2
  go_ret
  exact ⟨rfl, rfl⟩
set_option maxRecDepth 100000 in
set_option maxHeartbeats 4000000 in
theorem power_big (x n : Nat) (vx : Value) (w : World) (hx : IsNatI w vx x) (h2 : 2 ≤ x) (h1 : 1 ≤ n) (hn : n ≤ 9223372036854775807) (hlx : (toL x).length ≤ 500) :
    Calls Tryz.prog 93 #[vx, .int .i64 (n : Int)] w fun e w' => ∃ v, e = .returned (.tuple #[v, .bool (decide (Lib.nDigits (x ^ n) ≤ 4000))]) ∧ (Lib.nDigits (x ^ n) ≤ 4000 → IsNatI w' v (x ^ n)) ∧ (∃ A l c, v = .slice A l c) ∧ Below w.heap.size w w' := by
  obtain ⟨A, c, rfl, _, _, _⟩ := id hx
  have hb1 := below_alloc (Below.refl w.heap.size w) (.cells #[.int .i64 1] 3)
  have e1 : toL 1 = [1] := by rw [toL_pos (by omega)]; simp [B_val, toL_zero]
  have h1n : IsNatI (w.alloc (.cells #[.int .i64 1] 3)) (.slice (some ⟨w.heap.size, 0, none⟩) 1 1) 1 := by
    refine ⟨some ⟨w.heap.size, 0, none⟩, 1, by rw [e1]; rfl, by rw [e1]; decide, by decide, ?_⟩
    rw [e1]
    exact (Blk.new w 3 #[.int .i64 1]).row (xs := [.int .i64 1])
  have HX0 := Lib.hid hx
  have HX := Lib.hid (hx.below hb1)
  have H1 := Lib.hid h1n
  have HB1 := Lib.hid hb1
  have hsg : decide (sgn x 1 ≤ 0) = false := decide_eq_false (by unfold sgn; rw [if_neg (by omega), if_pos (by omega)]; omega)
  have hn0 : ((n : Int) == 0) = false := by rw [beq_eq_false_iff_ne]; omega
  have HL1 := Lib.hid (show (toL 1).length ≤ 100000 by rw [e1]; decide)
  have H2 := Lib.hid h2
  clear hx hb1 h1n e1 h2
  go_enter Tryz.func93, Tryz.ntmps93
  go_wp2_with (go_at_call 137; refine (rorder_any x 1 _ _ _ HX.out H1.out (by omega) HL1.out).mono ?_; rintro e w2 ⟨rfl, hb2⟩; have HB2 := Lib.hid (HB1.out.trans (hb2.mono HB1.out.size)); have HX2 := Lib.hid (HX.out.below hb2); have H12 := Lib.hid (H1.out.below hb2); clear hb2)
  go_loopw [7, 8] (fun v7 s8 wr => ∃ k : Nat, k ≤ 63 ∧ s8 = .int .i64 ((k : Int) - 1) ∧ (∃ A l c, v7 = .slice A l c) ∧ IsNatI wr v7 (x ^ (n / 2 ^ k)) ∧ Lib.nDigits (x ^ (n / 2 ^ k)) ≤ 4000 ∧ Below w.heap.size w wr) (fun _ s8 _ => (intOf s8 + 1).toNat)
  case atStart =>
    have e0 : n / 2 ^ 63 = 0 := Nat.div_eq_of_lt (by omega)
    exact ⟨63, Nat.le_refl _, rfl, ⟨_, _, _, rfl⟩, by rw [e0, Nat.pow_zero]; exact H12.out, by rw [e0, Nat.pow_zero, Lib.nDigits_small (by omega)]; omega, HB2.out⟩
  case round =>
    obtain ⟨k, hk, hs8, ⟨A7, l7, c7, rfl⟩, hv7, hd7, hbr⟩ := hrel
    have HBR := Lib.hid hbr
    have HV7 := Lib.hid hv7
    have HD7 := Lib.hid hd7
    have HX7 := Lib.hid (HX0.out.below hbr)
    clear hv7 hd7 hbr
    rcases Nat.eq_zero_or_pos k with rfl | hkp
    · rw [show ((0 : Nat) : Int) - 1 = -1 from rfl] at hs8
      subst hs8
      have e1 : n / 2 ^ 0 = n := by simp
      go_wp2
      refine bodyPost_ret (results_tmp2 rfl _ _ _) rfl ?_
      have hd := HD7.out
      have hv := HV7.out
      rw [e1] at hd hv
      exact ⟨_, by rw [decide_eq_true hd]; rfl, fun _ => hv, ⟨_, _, _, rfl⟩, HBR.out⟩
    · obtain ⟨j, rfl⟩ : ∃ j, k = j + 1 := ⟨k - 1, by omega⟩
      rw [show ((j + 1 : Nat) : Int) - 1 = (j : Int) by omega] at hs8
      subst hs8
      have hj : j ≤ 62 := by omega
      have hmin : min j 64 = j := Nat.min_eq_left (by omega)
      have hph := pow_half x n j
      have HBA := Lib.hid (bit_and n j)
      have hmono : Lib.nDigits (x ^ (n / 2 ^ j)) ≤ Lib.nDigits (x ^ n) := nd_pow_mono (by have := H2.out; omega) (Nat.div_le_self _ _)
      have ly := nd_limbs HD7.out
      generalize x ^ (n / 2 ^ (j + 1)) = y at *
      have lyy : (toL (y * y)).length ≤ 890 := Nat.le_trans (toL_mul_len _ _) (by omega)
      have lyx : (toL (y * y * x)).length ≤ 1400 := Nat.le_trans (toL_mul_len _ _) (by omega)
      generalize hz : x ^ (n / 2 ^ j) = z at *
      have HZ := Lib.hid hz
      clear hz
      have HM := Lib.hid hmono
      have HLL := Lib.hid (And.intro ly (And.intro lyy lyx))
      clear hmono ly lyy lyx
      have TK1 : True := trivial
      by_cases hb : n / 2 ^ j % 2 = 1
      · rw [if_pos hb] at hph
        have HPH := Lib.hid hph
        have hbv : bits .and .i64 ((n : Int) / 2 ^ j) 1 = 1 := by rw [HBA.out, hb]; rfl
        clear hph hb
        by_cases hbig : 4000 < Lib.nDigits z
        · have HBIG := Lib.hid hbig
          clear hbig
          go_wp2_with (first
            | (clear TK1; go_at_call 140; refine (rtimes_any y y _ _ _ HV7.out HV7.out (Nat.le_trans HLL.out.1 (by omega)) (Nat.le_trans HLL.out.1 (by omega))).mono ?_; rintro e w3 ⟨v3, rfl, hv3, hb3⟩; obtain ⟨A3, c3, rfl, _, _, _⟩ := id hv3; have HV3 := Lib.hid hv3; have HB3 := Lib.hid (HBR.out.trans (hb3.mono HBR.out.size)); have HX3 := Lib.hid (HX7.out.below hb3); clear hv3 hb3)
            | (go_at_call 140; refine (rtimes_any (y * y) x _ _ _ HV3.out HX3.out (Nat.le_trans HLL.out.2.1 (by omega)) (by omega)).mono ?_; rintro e w4 ⟨v4, rfl, hv4, hb4⟩; obtain ⟨A4, c4, rfl, _, _, _⟩ := id hv4; have HV4 := Lib.hid hv4; have HB4 := Lib.hid (HB3.out.trans (hb4.mono HB3.out.size)); clear hv4 hb4)
            | (go_at_call 141; refine (rwrite_is (y * y * x) _ _ HV4.out (Nat.le_trans HLL.out.2.2 (by omega))).mono ?_; rintro e w5 ⟨s5, rfl, hs5, hz5, hb5⟩; rw [← HPH.out] at hz5; have hsz : decide ((4000 : Int) < (s5.size : Int)) = true := (decide_eq_true (by have := HBIG.out; omega)); have HB5 := Lib.hid (HB4.out.trans (hb5.mono HB4.out.size)); have HVZ := Lib.hid (HV4.out.below hb5); clear hb5 hz5 hs5))
          refine bodyPost_ret (results_tmp2 rfl _ _ _) rfl ?_
          have hno : ¬ Lib.nDigits (x ^ n) ≤ 4000 := by have := HM.out; have := HBIG.out; omega
          exact ⟨_, by rw [decide_eq_false hno]; rfl, fun h => absurd h hno, ⟨_, _, _, rfl⟩, HB5.out⟩
        · have HBIG := Lib.hid hbig
          clear hbig
          go_wp2_with (first
            | (clear TK1; go_at_call 140; refine (rtimes_any y y _ _ _ HV7.out HV7.out (Nat.le_trans HLL.out.1 (by omega)) (Nat.le_trans HLL.out.1 (by omega))).mono ?_; rintro e w3 ⟨v3, rfl, hv3, hb3⟩; obtain ⟨A3, c3, rfl, _, _, _⟩ := id hv3; have HV3 := Lib.hid hv3; have HB3 := Lib.hid (HBR.out.trans (hb3.mono HBR.out.size)); have HX3 := Lib.hid (HX7.out.below hb3); clear hv3 hb3)
            | (go_at_call 140; refine (rtimes_any (y * y) x _ _ _ HV3.out HX3.out (Nat.le_trans HLL.out.2.1 (by omega)) (by omega)).mono ?_; rintro e w4 ⟨v4, rfl, hv4, hb4⟩; obtain ⟨A4, c4, rfl, _, _, _⟩ := id hv4; have HV4 := Lib.hid hv4; have HB4 := Lib.hid (HB3.out.trans (hb4.mono HB3.out.size)); clear hv4 hb4)
            | (go_at_call 141; refine (rwrite_is (y * y * x) _ _ HV4.out (Nat.le_trans HLL.out.2.2 (by omega))).mono ?_; rintro e w5 ⟨s5, rfl, hs5, hz5, hb5⟩; rw [← HPH.out] at hz5; have hsz : decide ((4000 : Int) < (s5.size : Int)) = false := (decide_eq_false (by have := HBIG.out; omega)); have HB5 := Lib.hid (HB4.out.trans (hb5.mono HB4.out.size)); have HVZ := Lib.hid (HV4.out.below hb5); clear hb5 hz5 hs5))
          go_roundw
          case rel =>
            refine ⟨j, by omega, by go_num, ⟨_, _, _, rfl⟩, ?_, ?_, HB5.out⟩
            · rw [HZ.out, HPH.out]; exact HVZ.out
            · rw [HZ.out]; have := HBIG.out; omega
          case measure => simp [intOf] <;> omega
      · rw [if_neg hb] at hph
        have HPH := Lib.hid hph
        have hbv : bits .and .i64 ((n : Int) / 2 ^ j) 1 = 0 := by rw [HBA.out, show n / 2 ^ j % 2 = 0 by omega]; rfl
        clear hph hb
        by_cases hbig : 4000 < Lib.nDigits z
        · have HBIG := Lib.hid hbig
          clear hbig
          go_wp2_with (first
            | (clear TK1; go_at_call 140; refine (rtimes_any y y _ _ _ HV7.out HV7.out (Nat.le_trans HLL.out.1 (by omega)) (Nat.le_trans HLL.out.1 (by omega))).mono ?_; rintro e w3 ⟨v3, rfl, hv3, hb3⟩; obtain ⟨A3, c3, rfl, _, _, _⟩ := id hv3; have HV3 := Lib.hid hv3; have HB3 := Lib.hid (HBR.out.trans (hb3.mono HBR.out.size)); have HX3 := Lib.hid (HX7.out.below hb3); clear hv3 hb3)
            | (go_at_call 141; refine (rwrite_is (y * y) _ _ HV3.out (Nat.le_trans HLL.out.2.1 (by omega))).mono ?_; rintro e w5 ⟨s5, rfl, hs5, hz5, hb5⟩; rw [← HPH.out] at hz5; have hsz : decide ((4000 : Int) < (s5.size : Int)) = true := (decide_eq_true (by have := HBIG.out; omega)); have HB5 := Lib.hid (HB3.out.trans (hb5.mono HB3.out.size)); have HVZ := Lib.hid (HV3.out.below hb5); clear hb5 hz5 hs5))
          refine bodyPost_ret (results_tmp2 rfl _ _ _) rfl ?_
          have hno : ¬ Lib.nDigits (x ^ n) ≤ 4000 := by have := HM.out; have := HBIG.out; omega
          exact ⟨_, by rw [decide_eq_false hno]; rfl, fun h => absurd h hno, ⟨_, _, _, rfl⟩, HB5.out⟩
        · have HBIG := Lib.hid hbig
          clear hbig
          go_wp2_with (first
            | (clear TK1; go_at_call 140; refine (rtimes_any y y _ _ _ HV7.out HV7.out (Nat.le_trans HLL.out.1 (by omega)) (Nat.le_trans HLL.out.1 (by omega))).mono ?_; rintro e w3 ⟨v3, rfl, hv3, hb3⟩; obtain ⟨A3, c3, rfl, _, _, _⟩ := id hv3; have HV3 := Lib.hid hv3; have HB3 := Lib.hid (HBR.out.trans (hb3.mono HBR.out.size)); have HX3 := Lib.hid (HX7.out.below hb3); clear hv3 hb3)
            | (go_at_call 141; refine (rwrite_is (y * y) _ _ HV3.out (Nat.le_trans HLL.out.2.1 (by omega))).mono ?_; rintro e w5 ⟨s5, rfl, hs5, hz5, hb5⟩; rw [← HPH.out] at hz5; have hsz : decide ((4000 : Int) < (s5.size : Int)) = false := (decide_eq_false (by have := HBIG.out; omega)); have HB5 := Lib.hid (HB3.out.trans (hb5.mono HB3.out.size)); have HVZ := Lib.hid (HV3.out.below hb5); clear hb5 hz5 hs5))
          go_roundw
          case rel =>
            refine ⟨j, by omega, by go_num, ⟨_, _, _, rfl⟩, ?_, ?_, HB5.out⟩
            · rw [HZ.out, HPH.out]; exact HVZ.out
            · rw [HZ.out]; have := HBIG.out; omega
          case measure => simp [intOf] <;> omega
set_option maxRecDepth 100000 in
set_option maxHeartbeats 1000000 in
theorem power_zero (x : Nat) (vx : Value) (w : World) (hx : IsNatI w vx x) :
    Calls Tryz.prog 93 #[vx, .int .i64 0] w fun e w' => ∃ v, e = .returned (.tuple #[v, .bool true]) ∧ IsNatI w' v 1 ∧ (∃ A l c, v = .slice A l c) ∧ Below w.heap.size w w' := by
  obtain ⟨A, c, rfl, _, _, _⟩ := hx
  have hb1 := below_alloc (Below.refl w.heap.size w) (.cells #[.int .i64 1] 3)
  have e1 : toL 1 = [1] := by rw [toL_pos (by omega)]; simp [B_val, toL_zero]
  have h1n : IsNatI (w.alloc (.cells #[.int .i64 1] 3)) (.slice (some ⟨w.heap.size, 0, none⟩) 1 1) 1 := by
    refine ⟨some ⟨w.heap.size, 0, none⟩, 1, by rw [e1]; rfl, by rw [e1]; decide, by decide, ?_⟩
    rw [e1]
    exact (Blk.new w 3 #[.int .i64 1]).row (xs := [.int .i64 1])
  have H1 := Lib.hid h1n
  have HB1 := Lib.hid hb1
  clear hb1 h1n e1
  go_enter Tryz.func93, Tryz.ntmps93
  go_wp2
  refine bodyPost_ret (results_tmp2 rfl _ _ _) rfl ?_
  exact ⟨_, rfl, H1.out, ⟨_, _, _, rfl⟩, HB1.out⟩
set_option maxRecDepth 100000 in
set_option maxHeartbeats 1000000 in
theorem power_small (x n : Nat) (vx : Value) (w : World) (hx : IsNatI w vx x) (h2 : x ≤ 1) (h1 : 1 ≤ n) (hn : n ≤ 9223372036854775807) :
    Calls Tryz.prog 93 #[vx, .int .i64 (n : Int)] w fun e w' => ∃ v, e = .returned (.tuple #[v, .bool true]) ∧ IsNatI w' v x ∧ (∃ A l c, v = .slice A l c) ∧ Below w.heap.size w w' := by
  have hlx : (toL x).length ≤ 1 := toL_len_le (by rw [B_val]; omega)
  obtain ⟨A, c, rfl, _, _, _⟩ := id hx
  have hb1 := below_alloc (Below.refl w.heap.size w) (.cells #[.int .i64 1] 3)
  have e1 : toL 1 = [1] := by rw [toL_pos (by omega)]; simp [B_val, toL_zero]
  have h1n : IsNatI (w.alloc (.cells #[.int .i64 1] 3)) (.slice (some ⟨w.heap.size, 0, none⟩) 1 1) 1 := by
    refine ⟨some ⟨w.heap.size, 0, none⟩, 1, by rw [e1]; rfl, by rw [e1]; decide, by decide, ?_⟩
    rw [e1]
    exact (Blk.new w 3 #[.int .i64 1]).row (xs := [.int .i64 1])
  have HX := Lib.hid (hx.below hb1)
  have H1 := Lib.hid h1n
  have HB1 := Lib.hid hb1
  have hsg : decide (sgn x 1 ≤ 0) = true := decide_eq_true (by unfold sgn; split <;> (try split) <;> omega)
  have hn0 : ((n : Int) == 0) = false := by rw [beq_eq_false_iff_ne]; omega
  have HL1 := Lib.hid (show (toL 1).length ≤ 100000 by rw [e1]; decide)
  have HN0 := Lib.hid h1
  clear hx hb1 h1n e1 h2 h1
  go_enter Tryz.func93, Tryz.ntmps93
  go_wp2_with (go_at_call 137; refine (rorder_any x 1 _ _ _ HX.out H1.out (by omega) HL1.out).mono ?_; rintro e w2 ⟨rfl, hb2⟩; have HB2 := Lib.hid (HB1.out.trans (hb2.mono HB1.out.size)); have HX2 := Lib.hid (HX.out.below hb2); clear hb2)
  all_goals first
    | (refine bodyPost_ret (results_tmp2 rfl _ _ _) rfl ?_; exact ⟨_, rfl, HX2.out, ⟨_, _, _, rfl⟩, HB2.out⟩)
    | (exfalso; have := HN0.out; omega)
/-- The reference's Power. -/
theorem rpower_any (x n : Nat) (vx : Value) (w : World) (hx : IsNatI w vx x) (hn : n ≤ 9223372036854775807) (hlx : (toL x).length ≤ 500) :
    Calls Tryz.prog 93 #[vx, .int .i64 (n : Int)] w fun e w' => ∃ v, e = .returned (.tuple #[v, .bool (decide (Lib.nDigits (x ^ n) ≤ 4000))]) ∧ (Lib.nDigits (x ^ n) ≤ 4000 → IsNatI w' v (x ^ n)) ∧ (∃ A l c, v = .slice A l c) ∧ Below w.heap.size w w' := by
  rcases Nat.eq_zero_or_pos n with rfl | h1
  · refine (power_zero x vx w hx).mono ?_
    rintro e w' ⟨v, rfl, h, hs, hb⟩
    rw [Nat.pow_zero]
    exact ⟨v, by rw [decide_eq_true (by rw [Lib.nDigits_small (by omega)]; omega)], fun _ => h, hs, hb⟩
  · by_cases h2 : 2 ≤ x
    · exact power_big x n vx w hx h2 h1 hn hlx
    · refine (power_small x n vx w hx (by omega) h1 hn).mono ?_
      rintro e w' ⟨v, rfl, h, hs, hb⟩
      have hxn : x ^ n = x := by
        rcases (show x = 0 ∨ x = 1 by omega) with rfl | rfl
        · exact Nat.zero_pow h1
        · exact Nat.one_pow n
      rw [hxn]
      exact ⟨v, by rw [decide_eq_true (by rw [Lib.nDigits_small (by omega)]; omega)], fun _ => h, hs, hb⟩
end Go.Proofs.YtbfhonhjejeaiaaGreatDoor
namespace Go.Proofs.YtbfhonhjejeaiaaGreatDoor
open Go.RowKit Go.Shelf
open Lim

end Go.Proofs.YtbfhonhjejeaiaaGreatDoor
namespace Go.Proofs.YtbfhonhjejeaiaaGreatDoor
open Go.RowKit Go.Shelf
open Lim

end Go.Proofs.YtbfhonhjejeaiaaGreatDoor
namespace Go.Proofs.YtbfhonhjejeaiaaGreatDoor
open Go.RowKit Go.Shelf
open Lim

/-! ### the plain law of the least exponent -/
theorem cells6P {w : World} {g : Nat} {t : TypeId} {x y z : Value} (h : Blk w g t #[x, y, z]) :
    (w.cell? ⟨g, 0, none⟩ = some x ∧ w.frozen? ⟨g, 0, none⟩ = false) ∧ (w.cell? ⟨g, 1, none⟩ = some y ∧ w.frozen? ⟨g, 1, none⟩ = false) ∧ w.cell? ⟨g, 2, none⟩ = some z ∧ w.frozen? ⟨g, 2, none⟩ = false :=
  ⟨⟨(cellrow h 0 (by simp)).1, h.frozen 0⟩, ⟨(cellrow h 1 (by simp)).1, h.frozen 1⟩, (cellrow h 2 (by simp)).1, h.frozen 2⟩
set_option maxRecDepth 100000 in
set_option maxHeartbeats 2000000 in
theorem refpow_pos_t_no (a : ByteArray) (q : Rat) (M : Nat) (w : World) (ha : a.size ≤ 270000) (he : errQ a.data.toList = 0) (hq : valQ a.data.toList = q) (hb : ng q = true) (hM : M ≤ 9223372036854775807) (hf1 : decide (Lib.nDigits (nm q ^ M) ≤ 4000) = false) (sq : Sz maxD q) :
    Calls Tryz.prog 33 #[.string a, .int .i64 (M : Int)] w fun e w' => e = .returned (.tuple #[.string ⟨#[]⟩, .int .i64 5]) ∧ Below w.heap.size w w' := by
  have HP := Lib.hid (rq_any a w ha)
  have hne : ((errQ a.data.toList : Int) == 0) = true := by rw [he]; rfl
  have HE := Lib.hid he
  rw [hq] at HP
  obtain ⟨lq, lq'⟩ := sz_limbs sq
  have HBQ := Lib.hid hb
  have lr1 : (toL (nm q)).length ≤ 500 := by omega
  have lr2 : (toL q.den).length ≤ 500 := by omega
  have hn2 : decide ((M : Int) < 0) = false := decide_eq_false (by omega)
  have hn3 : ((M : Int) == -9223372036854775808) = false := by rw [beq_eq_false_iff_ne]; omega
  have HL1 := Lib.hid lr1
  have HL2 := Lib.hid lr2
  have HF1 := Lib.hid hf1
  have TK1 : True := trivial
  clear he hq hb sq lr1 lr2 hf1
  go_enter Tryz.func33, Tryz.ntmps33
  go_wp2_with (first
    | (go_at_call 90; refine HP.out.mono ?_; rintro e w1 ⟨v, rfl, hv, -, hb⟩; obtain ⟨bq, N, D, A, c, A', c', rfl, hn, hd, HQ⟩ := isQ_open (hv HE.out); have HV := Lib.hid (hv HE.out); have HB := Lib.hid hb; have HX := Lib.hid (below_alloc (Below.refl w1.heap.size w1) (.cells #[.bool bq, .slice A (toL N).length c, .slice A' (toL D).length c'] 112)); have HBX := Lib.hid (HB.out.trans (HX.out.mono HB.out.size)); have HN := Lib.hid (hn.below HX.out); have HD := Lib.hid (hd.below HX.out); have HPB := Lib.hid (Blk.new w1 112 #[.bool bq, .slice A (toL N).length c, .slice A' (toL D).length c']); clear hb hv hn hd; obtain rfl : bq = true := HQ.out.1.symm.trans HBQ.out; obtain rfl := HQ.out.2.1; obtain rfl := HQ.out.2.2)
    | (go_at_call 92; refine (odd_any (M : Int) _ (by omega) (by omega)).mono ?_; rintro e w4 ⟨rfl, hw4⟩; subst hw4)
    | (clear TK1; go_at_call 93; refine (rpower_any (nm q) M _ _ HN.out (by omega) HL1.out).mono ?_; rintro e w5 ⟨v5, rfl, hv5, ⟨A5, l5, c5, rfl⟩, hb5⟩; rw [HF1.out]; have HV5 := Lib.hid hv5; have HD5 := Lib.hid (HD.out.below hb5); have HB5 := Lib.hid (HBX.out.trans (hb5.mono HBX.out.size)); obtain ⟨y0, y1, y2⟩ := rows3 (HPB.out.below hb5 HPB.out.lt); clear hv5 hb5)
    | (go_at_call 93; refine (rpower_any q.den M _ _ HD5.out (by omega) HL2.out).mono ?_; rintro e w6 ⟨v6, rfl, hv6, ⟨A6, l6, c6, rfl⟩, hb6⟩; have HV6 := Lib.hid hv6; have HB6 := Lib.hid (HB5.out.trans (hb6.mono HB5.out.size)); have HZ6 := Lib.hid hb6; clear hv6 hb6))
  all_goals first
    | (refine bodyPost_ret (results_tmp2 rfl _ _ _) rfl ?_; exact ⟨rfl, HB6.out⟩)
    | (exfalso; omega)
set_option maxRecDepth 100000 in
set_option maxHeartbeats 2000000 in
theorem refpow_pos_f_yes (a : ByteArray) (q : Rat) (M : Nat) (w : World) (ha : a.size ≤ 270000) (he : errQ a.data.toList = 0) (hq : valQ a.data.toList = q) (hb : ng q = false) (hM : M ≤ 9223372036854775807) (hf1 : decide (Lib.nDigits (nm q ^ M) ≤ 4000) = true) (hf2 : decide (Lib.nDigits (q.den ^ M) ≤ 4000) = true) (r : List UInt8 × Nat) (hW : ∀ v w, IsPartsI w v false (nm q ^ M) (q.den ^ M) → Calls Tryz.prog 94 #[v] w fun e w' => e = .returned (.tuple #[.string ⟨r.1.toArray⟩, .int .i64 (r.2 : Int)]) ∧ Below w.heap.size w w') (sq : Sz maxD q) :
    Calls Tryz.prog 33 #[.string a, .int .i64 (M : Int)] w fun e w' => e = .returned (.tuple #[.string ⟨r.1.toArray⟩, .int .i64 (r.2 : Int)]) ∧ Below w.heap.size w w' := by
  have HP := Lib.hid (rq_any a w ha)
  have hne : ((errQ a.data.toList : Int) == 0) = true := by rw [he]; rfl
  have HE := Lib.hid he
  rw [hq] at HP
  obtain ⟨lq, lq'⟩ := sz_limbs sq
  have HBQ := Lib.hid hb
  have lr1 : (toL (nm q)).length ≤ 500 := by omega
  have lr2 : (toL q.den).length ≤ 500 := by omega
  have hn2 : decide ((M : Int) < 0) = false := decide_eq_false (by omega)
  have hn3 : ((M : Int) == -9223372036854775808) = false := by rw [beq_eq_false_iff_ne]; omega
  have HL1 := Lib.hid lr1
  have HL2 := Lib.hid lr2
  have HF1 := Lib.hid hf1
  have HF2 := Lib.hid hf2
  have HW := Lib.hid hW
  have TK1 : True := trivial
  clear he hq hb sq lr1 lr2 hf1 hf2 hW
  go_enter Tryz.func33, Tryz.ntmps33
  go_wp2_with (first
    | (go_at_call 90; refine HP.out.mono ?_; rintro e w1 ⟨v, rfl, hv, -, hb⟩; obtain ⟨bq, N, D, A, c, A', c', rfl, hn, hd, HQ⟩ := isQ_open (hv HE.out); have HV := Lib.hid (hv HE.out); have HB := Lib.hid hb; have HX := Lib.hid (below_alloc (Below.refl w1.heap.size w1) (.cells #[.bool bq, .slice A (toL N).length c, .slice A' (toL D).length c'] 112)); have HBX := Lib.hid (HB.out.trans (HX.out.mono HB.out.size)); have HN := Lib.hid (hn.below HX.out); have HD := Lib.hid (hd.below HX.out); have HPB := Lib.hid (Blk.new w1 112 #[.bool bq, .slice A (toL N).length c, .slice A' (toL D).length c']); clear hb hv hn hd; obtain rfl : bq = false := HQ.out.1.symm.trans HBQ.out; obtain rfl := HQ.out.2.1; obtain rfl := HQ.out.2.2)
    | (clear TK1; go_at_call 93; refine (rpower_any (nm q) M _ _ HN.out (by omega) HL1.out).mono ?_; rintro e w5 ⟨v5, rfl, hv5, ⟨A5, l5, c5, rfl⟩, hb5⟩; rw [HF1.out]; have HV5 := Lib.hid hv5; have HD5 := Lib.hid (HD.out.below hb5); have HB5 := Lib.hid (HBX.out.trans (hb5.mono HBX.out.size)); obtain ⟨y0, y1, y2⟩ := rows3 (HPB.out.below hb5 HPB.out.lt); clear hv5 hb5)
    | (go_at_call 93; refine (rpower_any q.den M _ _ HD5.out (by omega) HL2.out).mono ?_; rintro e w6 ⟨v6, rfl, hv6, ⟨A6, l6, c6, rfl⟩, hb6⟩; rw [HF2.out]; have HV6 := Lib.hid hv6; have HB6 := Lib.hid (HB5.out.trans (hb6.mono HB5.out.size)); have HZ6 := Lib.hid hb6; clear hv6 hb6)
    | (go_at_call 94; refine (HW.out _ _ (isPartsI_mk ((HV5.out (of_decide_eq_true HF1.out)).below HZ6.out) (HV6.out (of_decide_eq_true HF2.out)))).mono ?_; rintro e w7 ⟨rfl, hb7⟩; have HB7 := Lib.hid (HB6.out.trans (hb7.mono HB6.out.size)); clear hb7))
  all_goals first
    | (refine bodyPost_ret (results_tmp2 rfl _ _ _) rfl ?_; exact ⟨rfl, HB7.out⟩)
    | (exfalso; omega)
set_option maxRecDepth 100000 in
set_option maxHeartbeats 2000000 in
theorem refpow_neg_t_no (a : ByteArray) (q : Rat) (M : Nat) (w : World) (ha : a.size ≤ 270000) (he : errQ a.data.toList = 0) (hq : valQ a.data.toList = q) (hb : ng q = true) (h0 : q ≠ 0) (hM : M ≤ 9223372036854775807) (hM1 : 1 ≤ M) (hf1 : decide (Lib.nDigits (nm q⁻¹ ^ M) ≤ 4000) = false) (sq : Sz maxD q) :
    Calls Tryz.prog 33 #[.string a, .int .i64 (-(M : Int))] w fun e w' => e = .returned (.tuple #[.string ⟨#[]⟩, .int .i64 5]) ∧ Below w.heap.size w w' := by
  have HP := Lib.hid (rq_any a w ha)
  have hne : ((errQ a.data.toList : Int) == 0) = true := by rw [he]; rfl
  have HE := Lib.hid he
  rw [hq] at HP
  obtain ⟨lq, lq'⟩ := sz_limbs sq
  have HBQ := Lib.hid hb
  obtain ⟨i1, i2, i3⟩ := inv_parts h0
  have HIV := Lib.hid (And.intro i1 (And.intro i2 i3))
  have HZ := Lib.hid h0
  have HNZ := Lib.hid (fun (N : Nat) (h : nm q = N) => show (((toL N).length : Int) == 0) = false by rw [len_zero, decide_eq_false (fun h2 => h0 (nm_zero.1 (h.trans h2)))])
  have HNN := Lib.hid (fun (N : Nat) (h : nm q = N) => show (toL N).length ≠ 0 from fun h2 => by have := HNZ.out N h; rw [h2] at this; cases this)
  have lr1 : (toL (nm q⁻¹)).length ≤ 500 := by rw [i2]; omega
  have lr2 : (toL q⁻¹.den).length ≤ 500 := by rw [i3]; omega
  obtain ⟨X, hX⟩ : ∃ X, nm q⁻¹ = X := ⟨_, rfl⟩
  obtain ⟨Y, hY⟩ : ∃ Y, q⁻¹.den = Y := ⟨_, rfl⟩
  rw [hX] at hf1 lr1
  rw [hY] at lr2
  have HXX := Lib.hid hX
  have HYY := Lib.hid hY
  clear hX hY
  have hn2 : decide (-(M : Int) < 0) = true := decide_eq_true (by omega)
  have hn3 : (-(M : Int) == -9223372036854775808) = false := by rw [beq_eq_false_iff_ne]; omega
  have HL1 := Lib.hid lr1
  have HL2 := Lib.hid lr2
  have HF1 := Lib.hid hf1
  have TK1 : True := trivial
  clear he hq hb sq lr1 lr2 hf1 h0 i1 i2 i3
  go_enter Tryz.func33, Tryz.ntmps33
  go_wp2_with (first
    | (go_at_call 90; refine HP.out.mono ?_; rintro e w1 ⟨v, rfl, hv, -, hb⟩; obtain ⟨bq, N, D, A, c, A', c', rfl, hn, hd, HQ⟩ := isQ_open (hv HE.out); have HV := Lib.hid (hv HE.out); have HB := Lib.hid hb; have HX := Lib.hid (below_alloc (Below.refl w1.heap.size w1) (.cells #[.bool bq, .slice A (toL N).length c, .slice A' (toL D).length c'] 112)); have HBX := Lib.hid (HB.out.trans (HX.out.mono HB.out.size)); have HN := Lib.hid (hn.below HX.out); have HD := Lib.hid (hd.below HX.out); have HPB := Lib.hid (Blk.new w1 112 #[.bool bq, .slice A (toL N).length c, .slice A' (toL D).length c']); clear hb hv hn hd; have hln := HNZ.out _ HQ.out.2.1)
    | (go_at_call 91; refine (rover_any q _ _ (HV.out.below HX.out) HZ.out).mono ?_; rintro e w2 ⟨v2, rfl, hv2, hb2⟩; obtain ⟨b2, N2, D2, A2, c2, A2', c2', rfl, hn2', hd2', HQ2⟩ := isQ_open hv2; obtain rfl : b2 = true := HQ2.out.1.symm.trans (HIV.out.1.trans HBQ.out); obtain rfl : N2 = X := HQ2.out.2.1.symm.trans HXX.out; obtain rfl : D2 = Y := HQ2.out.2.2.symm.trans HYY.out; have hp2 := HPB.out.below hb2 HPB.out.lt; obtain ⟨⟨r0, s0⟩, ⟨r1, s1⟩, r2, s2⟩ := cells6P hp2; have HNO := Lib.hid (isNatI_set3 (m' := true) (D := A2) (D' := A2') (a := (toL N2).length) (b := c2) (a' := (toL D2).length) (b' := c2') hn2' hp2); have HDO := Lib.hid (isNatI_set3 (m' := true) (D := A2) (D' := A2') (a := (toL N2).length) (b := c2) (a' := (toL D2).length) (b' := c2') hd2' hp2); have HPO := Lib.hid (set3 (x := .bool true) (y := .slice A2 (toL N2).length c2) (z := .slice A2' (toL D2).length c2') hp2); have HBO := Lib.hid (set3_below (x := .bool true) (y := .slice A2 (toL N2).length c2) (z := .slice A2' (toL D2).length c2') (HBX.out.trans (hb2.mono HBX.out.size)) HB.out.size); clear hv2 hb2 hn2' hd2' hp2)
    | (go_at_call 92; refine (odd_any (-(M : Int)) _ (by omega) (by omega)).mono ?_; rintro e w4 ⟨rfl, hw4⟩; subst hw4)
    | (clear TK1; go_at_call 93; refine (rpower_any N2 M _ _ HNO.out (by omega) HL1.out).mono ?_; rintro e w5 ⟨v5, rfl, hv5, ⟨A5, l5, c5, rfl⟩, hb5⟩; rw [HF1.out]; have HV5 := Lib.hid hv5; have HD5 := Lib.hid (HDO.out.below hb5); have HB5 := Lib.hid (HBO.out.trans (hb5.mono HBO.out.size)); obtain ⟨y0, y1, y2⟩ := rows3 (HPO.out.below hb5 HPO.out.lt); clear hv5 hb5)
    | (go_at_call 93; refine (rpower_any D2 M _ _ HD5.out (by omega) HL2.out).mono ?_; rintro e w6 ⟨v6, rfl, hv6, ⟨A6, l6, c6, rfl⟩, hb6⟩; have HV6 := Lib.hid hv6; have HB6 := Lib.hid (HB5.out.trans (hb6.mono HB5.out.size)); have HZ6 := Lib.hid hb6; clear hv6 hb6))
  all_goals first
    | (refine bodyPost_ret (results_tmp2 rfl _ _ _) rfl ?_; exact ⟨rfl, HB6.out⟩)
    | (exfalso; have := HNN.out _ HQ.out.2.1; omega)
set_option maxRecDepth 100000 in
set_option maxHeartbeats 2000000 in
theorem refpow_neg_f_yes (a : ByteArray) (q : Rat) (M : Nat) (w : World) (ha : a.size ≤ 270000) (he : errQ a.data.toList = 0) (hq : valQ a.data.toList = q) (hb : ng q = false) (h0 : q ≠ 0) (hM : M ≤ 9223372036854775807) (hM1 : 1 ≤ M) (hf1 : decide (Lib.nDigits (nm q⁻¹ ^ M) ≤ 4000) = true) (hf2 : decide (Lib.nDigits (q⁻¹.den ^ M) ≤ 4000) = true) (r : List UInt8 × Nat) (hW : ∀ v w, IsPartsI w v false (nm q⁻¹ ^ M) (q⁻¹.den ^ M) → Calls Tryz.prog 94 #[v] w fun e w' => e = .returned (.tuple #[.string ⟨r.1.toArray⟩, .int .i64 (r.2 : Int)]) ∧ Below w.heap.size w w') (sq : Sz maxD q) :
    Calls Tryz.prog 33 #[.string a, .int .i64 (-(M : Int))] w fun e w' => e = .returned (.tuple #[.string ⟨r.1.toArray⟩, .int .i64 (r.2 : Int)]) ∧ Below w.heap.size w w' := by
  have HP := Lib.hid (rq_any a w ha)
  have hne : ((errQ a.data.toList : Int) == 0) = true := by rw [he]; rfl
  have HE := Lib.hid he
  rw [hq] at HP
  obtain ⟨lq, lq'⟩ := sz_limbs sq
  have HBQ := Lib.hid hb
  obtain ⟨i1, i2, i3⟩ := inv_parts h0
  have HIV := Lib.hid (And.intro i1 (And.intro i2 i3))
  have HZ := Lib.hid h0
  have HNZ := Lib.hid (fun (N : Nat) (h : nm q = N) => show (((toL N).length : Int) == 0) = false by rw [len_zero, decide_eq_false (fun h2 => h0 (nm_zero.1 (h.trans h2)))])
  have HNN := Lib.hid (fun (N : Nat) (h : nm q = N) => show (toL N).length ≠ 0 from fun h2 => by have := HNZ.out N h; rw [h2] at this; cases this)
  have lr1 : (toL (nm q⁻¹)).length ≤ 500 := by rw [i2]; omega
  have lr2 : (toL q⁻¹.den).length ≤ 500 := by rw [i3]; omega
  obtain ⟨X, hX⟩ : ∃ X, nm q⁻¹ = X := ⟨_, rfl⟩
  obtain ⟨Y, hY⟩ : ∃ Y, q⁻¹.den = Y := ⟨_, rfl⟩
  rw [hX] at hf1 lr1
  rw [hY] at lr2 hf2
  rw [hX, hY] at hW
  have HXX := Lib.hid hX
  have HYY := Lib.hid hY
  clear hX hY
  have hn2 : decide (-(M : Int) < 0) = true := decide_eq_true (by omega)
  have hn3 : (-(M : Int) == -9223372036854775808) = false := by rw [beq_eq_false_iff_ne]; omega
  have HL1 := Lib.hid lr1
  have HL2 := Lib.hid lr2
  have HF1 := Lib.hid hf1
  have HF2 := Lib.hid hf2
  have HW := Lib.hid hW
  have TK1 : True := trivial
  clear he hq hb sq lr1 lr2 hf1 hf2 hW h0 i1 i2 i3
  go_enter Tryz.func33, Tryz.ntmps33
  go_wp2_with (first
    | (go_at_call 90; refine HP.out.mono ?_; rintro e w1 ⟨v, rfl, hv, -, hb⟩; obtain ⟨bq, N, D, A, c, A', c', rfl, hn, hd, HQ⟩ := isQ_open (hv HE.out); have HV := Lib.hid (hv HE.out); have HB := Lib.hid hb; have HX := Lib.hid (below_alloc (Below.refl w1.heap.size w1) (.cells #[.bool bq, .slice A (toL N).length c, .slice A' (toL D).length c'] 112)); have HBX := Lib.hid (HB.out.trans (HX.out.mono HB.out.size)); have HN := Lib.hid (hn.below HX.out); have HD := Lib.hid (hd.below HX.out); have HPB := Lib.hid (Blk.new w1 112 #[.bool bq, .slice A (toL N).length c, .slice A' (toL D).length c']); clear hb hv hn hd; have hln := HNZ.out _ HQ.out.2.1)
    | (go_at_call 91; refine (rover_any q _ _ (HV.out.below HX.out) HZ.out).mono ?_; rintro e w2 ⟨v2, rfl, hv2, hb2⟩; obtain ⟨b2, N2, D2, A2, c2, A2', c2', rfl, hn2', hd2', HQ2⟩ := isQ_open hv2; obtain rfl : b2 = false := HQ2.out.1.symm.trans (HIV.out.1.trans HBQ.out); obtain rfl : N2 = X := HQ2.out.2.1.symm.trans HXX.out; obtain rfl : D2 = Y := HQ2.out.2.2.symm.trans HYY.out; have hp2 := HPB.out.below hb2 HPB.out.lt; obtain ⟨⟨r0, s0⟩, ⟨r1, s1⟩, r2, s2⟩ := cells6P hp2; have HNO := Lib.hid (isNatI_set3 (m' := false) (D := A2) (D' := A2') (a := (toL N2).length) (b := c2) (a' := (toL D2).length) (b' := c2') hn2' hp2); have HDO := Lib.hid (isNatI_set3 (m' := false) (D := A2) (D' := A2') (a := (toL N2).length) (b := c2) (a' := (toL D2).length) (b' := c2') hd2' hp2); have HPO := Lib.hid (set3 (x := .bool false) (y := .slice A2 (toL N2).length c2) (z := .slice A2' (toL D2).length c2') hp2); have HBO := Lib.hid (set3_below (x := .bool false) (y := .slice A2 (toL N2).length c2) (z := .slice A2' (toL D2).length c2') (HBX.out.trans (hb2.mono HBX.out.size)) HB.out.size); clear hv2 hb2 hn2' hd2' hp2)
    | (clear TK1; go_at_call 93; refine (rpower_any N2 M _ _ HNO.out (by omega) HL1.out).mono ?_; rintro e w5 ⟨v5, rfl, hv5, ⟨A5, l5, c5, rfl⟩, hb5⟩; rw [HF1.out]; have HV5 := Lib.hid hv5; have HD5 := Lib.hid (HDO.out.below hb5); have HB5 := Lib.hid (HBO.out.trans (hb5.mono HBO.out.size)); obtain ⟨y0, y1, y2⟩ := rows3 (HPO.out.below hb5 HPO.out.lt); clear hv5 hb5)
    | (go_at_call 93; refine (rpower_any D2 M _ _ HD5.out (by omega) HL2.out).mono ?_; rintro e w6 ⟨v6, rfl, hv6, ⟨A6, l6, c6, rfl⟩, hb6⟩; rw [HF2.out]; have HV6 := Lib.hid hv6; have HB6 := Lib.hid (HB5.out.trans (hb6.mono HB5.out.size)); have HZ6 := Lib.hid hb6; clear hv6 hb6)
    | (go_at_call 94; refine (HW.out _ _ (isPartsI_mk ((HV5.out (of_decide_eq_true HF1.out)).below HZ6.out) (HV6.out (of_decide_eq_true HF2.out)))).mono ?_; rintro e w7 ⟨rfl, hb7⟩; have HB7 := Lib.hid (HB6.out.trans (hb7.mono HB6.out.size)); clear hb7))
  all_goals first
    | (refine bodyPost_ret (results_tmp2 rfl _ _ _) rfl ?_; exact ⟨rfl, HB7.out⟩)
    | (exfalso; have := HNN.out _ HQ.out.2.1; omega)
end Go.Proofs.YtbfhonhjejeaiaaGreatDoor
