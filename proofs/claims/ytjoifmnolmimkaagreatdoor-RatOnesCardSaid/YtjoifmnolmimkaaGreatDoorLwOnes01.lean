/- The reference's Power of natural numbers; odd. Powers that are too great. -/
import Derived.Test.YtjoifmnolmimkaaGreatDoorRb18
import Derived.Test.YtjoifmnolmimkaaGreatDoorRb12
import Derived.Laws.Bits128
import Derived.Test.YtjoifmnolmimkaaGreatDoorRb13
namespace Go.Proofs.YtjoifmnolmimkaaGreatDoor
open Go.RowKit Go.Shelf
open Lim

theorem half_step (n k : Nat) : n / 2 ^ k = 2 * (n / 2 ^ (k + 1)) + n / 2 ^ k % 2 := by
  rw [Nat.pow_succ, ← Nat.div_div_eq_div_mul]; omega
theorem pow_half (x n k : Nat) : x ^ (n / 2 ^ k) = if n / 2 ^ k % 2 = 1 then x ^ (n / 2 ^ (k + 1)) * x ^ (n / 2 ^ (k + 1)) * x else x ^ (n / 2 ^ (k + 1)) * x ^ (n / 2 ^ (k + 1)) := by
  conv => lhs; rw [half_step n k]
  by_cases h : n / 2 ^ k % 2 = 1
  · rw [if_pos h, h, Nat.pow_succ, Nat.two_mul, Nat.pow_add]
  · have h0 : n / 2 ^ k % 2 = 0 := by omega
    rw [if_neg h, h0, Nat.add_zero, Nat.two_mul, Nat.pow_add]
theorem nd_pow_mono {x m n : Nat} (hx : 1 ≤ x) (h : m ≤ n) : Lib.nDigits (x ^ m) ≤ Lib.nDigits (x ^ n) := nDigits_mono (Nat.pow_le_pow_right hx h)
theorem nd_limbs {x : Nat} (h : Lib.nDigits x ≤ 4000) : (toL x).length ≤ 445 := limbs_of_nd h (by omega)
/-- The bit of a number that a round asks. -/
theorem i64_and1 (n : Int) : bits .and .i64 n 1 = n % 2 := by
  have h1 : (BitVec.ofInt 64 1).toNat = 2 ^ 1 - 1 := by decide
  have key : (BitVec.ofInt 64 n &&& BitVec.ofInt 64 1).toNat = (n % ((2 ^ 64 : Nat) : Int)).toNat % 2 ^ 1 := by
    rw [BitVec.toNat_and, BitVec.toNat_ofInt, h1, Nat.and_two_pow_sub_one_eq_mod]
  show IntKind.i64.wrap ((BitVec.ofInt 64 n &&& BitVec.ofInt 64 1).toNat : Nat) = n % 2
  rw [key, IntKind.wrap_i64]
  omega
theorem bit_and (n k : Nat) : bits .and .i64 ((n : Int) / 2 ^ k) 1 = ((n / 2 ^ k % 2 : Nat) : Int) := by
  rw [i64_and1]
  simp
set_option maxRecDepth 100000 in
theorem odd_any (n : Int) (w : World) (h0 : -9223372036854775808 ≤ n) (h1 : n ≤ 9223372036854775807) :
    Calls Tryz.prog 106 #[.int .i64 n] w fun e w' => e = .returned (.bool (decide (n.natAbs % 2 = 1))) ∧ w' = w := by
  have hm : (!(n.tmod 2 == 0)) = decide (n.natAbs % 2 = 1) := by
    have h := Int.tmod_eq_emod (a := n) (b := 2)
    by_cases h2 : n.natAbs % 2 = 1
    · rw [decide_eq_true h2]
      have : n.tmod 2 ≠ 0 := by
        intro e
        have := Int.natAbs_tmod n 2
        rw [e] at this
        simp at this
        omega
      simp [this]
    · rw [decide_eq_false h2]
      have : n.tmod 2 = 0 := by
        have := Int.natAbs_tmod n 2
        have h3 : (n.tmod 2).natAbs = 0 := by rw [this]; show n.natAbs % 2 = 0; omega
        exact Int.natAbs_eq_zero.1 h3
      simp [this]
  rw [← hm]
  clear hm
  go_enter Tryz.func106, Tryz.ntmps106
  go_wp2
  go_ret
  exact ⟨rfl, rfl⟩
set_option maxRecDepth 100000 in
set_option maxHeartbeats 4000000 in
theorem power_big (x n : Nat) (vx : Value) (w : World) (hx : IsNatI w vx x) (h2 : 2 ≤ x) (h1 : 1 ≤ n) (hn : n ≤ 9223372036854775807) (hlx : (toL x).length ≤ 500) :
    Calls Tryz.prog 107 #[vx, .int .i64 (n : Int)] w fun e w' => ∃ v, e = .returned (.tuple #[v, .bool (decide (Lib.nDigits (x ^ n) ≤ 4000))]) ∧ (Lib.nDigits (x ^ n) ≤ 4000 → IsNatI w' v (x ^ n)) ∧ (∃ A l c, v = .slice A l c) ∧ Below w.heap.size w w' := by
  obtain ⟨A, c, rfl, _, _, _⟩ := id hx
  have hb1 := below_alloc (Below.refl w.heap.size w) (.cells #[.int .i64 1] 3)
  have e1 : toL 1 = [1] := by rw [toL_pos (by omega)]; simp [B_val, toL_zero]
  have h1n : IsNatI (w.alloc (.cells #[.int .i64 1] 3)) (.slice (some ⟨w.heap.size, 0, none⟩) 1 1) 1 := by
    refine ⟨some ⟨w.heap.size, 0, none⟩, 1, by rw [e1]; rfl, by rw [e1]; decide, by decide, ?_⟩
    rw [e1]
    exact (Blk.new w 3 #[.int .i64 1]).row (xs := [.int .i64 1])
  have HX0 := Lib.hid hx
  have HX := Lib.hid (hx.below hb1)
  have H1 := Lib.hid h1n
  have HB1 := Lib.hid hb1
  have hsg : decide (sgn x 1 ≤ 0) = false := decide_eq_false (by unfold sgn; rw [if_neg (by omega), if_pos (by omega)]; omega)
  have hn0 : ((n : Int) == 0) = false := by rw [beq_eq_false_iff_ne]; omega
  have HL1 := Lib.hid (show (toL 1).length ≤ 100000 by rw [e1]; decide)
  have H2 := Lib.hid h2
  clear hx hb1 h1n e1 h2
  go_enter Tryz.func107, Tryz.ntmps107
  go_wp2_with (go_at_call 129; refine (rorder_any x 1 _ _ _ HX.out H1.out (by omega) HL1.out).mono ?_; rintro e w2 ⟨rfl, hb2⟩; have HB2 := Lib.hid (HB1.out.trans (hb2.mono HB1.out.size)); have HX2 := Lib.hid (HX.out.below hb2); have H12 := Lib.hid (H1.out.below hb2); clear hb2)
  go_loopw [7, 8] (fun v7 s8 wr => ∃ k : Nat, k ≤ 63 ∧ s8 = .int .i64 ((k : Int) - 1) ∧ (∃ A l c, v7 = .slice A l c) ∧ IsNatI wr v7 (x ^ (n / 2 ^ k)) ∧ Lib.nDigits (x ^ (n / 2 ^ k)) ≤ 4000 ∧ Below w.heap.size w wr) (fun _ s8 _ => (intOf s8 + 1).toNat)
  case atStart =>
    have e0 : n / 2 ^ 63 = 0 := Nat.div_eq_of_lt (by omega)
    exact ⟨63, Nat.le_refl _, rfl, ⟨_, _, _, rfl⟩, by rw [e0, Nat.pow_zero]; exact H12.out, by rw [e0, Nat.pow_zero, Lib.nDigits_small (by omega)]; omega, HB2.out⟩
  case round =>
    obtain ⟨k, hk, hs8, ⟨A7, l7, c7, rfl⟩, hv7, hd7, hbr⟩ := hrel
    have HBR := Lib.hid hbr
    have HV7 := Lib.hid hv7
    have HD7 := Lib.hid hd7
    have HX7 := Lib.hid (HX0.out.below hbr)
    clear hv7 hd7 hbr
    rcases Nat.eq_zero_or_pos k with rfl | hkp
    · rw [show ((0 : Nat) : Int) - 1 = -1 from rfl] at hs8
      subst hs8
      have e1 : n / 2 ^ 0 = n := by simp
      go_wp2
      refine bodyPost_ret (results_tmp2 rfl _ _ _) rfl ?_
      have hd := HD7.out
      have hv := HV7.out
      rw [e1] at hd hv
      exact ⟨_, by rw [decide_eq_true hd]; rfl, fun _ => hv, ⟨_, _, _, rfl⟩, HBR.out⟩
    · obtain ⟨j, rfl⟩ : ∃ j, k = j + 1 := ⟨k - 1, by omega⟩
      rw [show ((j + 1 : Nat) : Int) - 1 = (j : Int) by omega] at hs8
      subst hs8
      have hj : j ≤ 62 := by omega
      have hmin : min j 64 = j := Nat.min_eq_left (by omega)
      have hph := pow_half x n j
      have HBA := Lib.hid (bit_and n j)
      have hmono : Lib.nDigits (x ^ (n / 2 ^ j)) ≤ Lib.nDigits (x ^ n) := nd_pow_mono (by have := H2.out; omega) (Nat.div_le_self _ _)
      have ly := nd_limbs HD7.out
      generalize x ^ (n / 2 ^ (j + 1)) = y at *
      have lyy : (toL (y * y)).length ≤ 890 := Nat.le_trans (toL_mul_len _ _) (by omega)
      have lyx : (toL (y * y * x)).length ≤ 1400 := Nat.le_trans (toL_mul_len _ _) (by omega)
      generalize hz : x ^ (n / 2 ^ j) = z at *
      have HZ := Lib.hid hz
      clear hz
      have HM := Lib.hid hmono
      have HLL := Lib.hid (And.intro ly (And.intro lyy lyx))
      clear hmono ly lyy lyx
      have TK1 : True := trivial
      by_cases hb : n / 2 ^ j % 2 = 1
      · rw [if_pos hb] at hph
        have HPH := Lib.hid hph
        have hbv : bits .and .i64 ((n : Int) / 2 ^ j) 1 = 1 := by rw [HBA.out, hb]; rfl
        clear hph hb
        by_cases hbig : 4000 < Lib.nDigits z
        · have HBIG := Lib.hid hbig
          clear hbig
          go_wp2_with (first
            | (clear TK1; go_at_call 89; refine (rtimes_any y y _ _ _ HV7.out HV7.out (Nat.le_trans HLL.out.1 (by omega)) (Nat.le_trans HLL.out.1 (by omega))).mono ?_; rintro e w3 ⟨v3, rfl, hv3, hb3⟩; obtain ⟨A3, c3, rfl, _, _, _⟩ := id hv3; have HV3 := Lib.hid hv3; have HB3 := Lib.hid (HBR.out.trans (hb3.mono HBR.out.size)); have HX3 := Lib.hid (HX7.out.below hb3); clear hv3 hb3)
            | (go_at_call 89; refine (rtimes_any (y * y) x _ _ _ HV3.out HX3.out (Nat.le_trans HLL.out.2.1 (by omega)) (by omega)).mono ?_; rintro e w4 ⟨v4, rfl, hv4, hb4⟩; obtain ⟨A4, c4, rfl, _, _, _⟩ := id hv4; have HV4 := Lib.hid hv4; have HB4 := Lib.hid (HB3.out.trans (hb4.mono HB3.out.size)); clear hv4 hb4)
            | (go_at_call 110; refine (rwrite_is (y * y * x) _ _ HV4.out (Nat.le_trans HLL.out.2.2 (by omega))).mono ?_; rintro e w5 ⟨s5, rfl, hs5, hz5, hb5⟩; rw [← HPH.out] at hz5; have hsz : decide ((4000 : Int) < (s5.size : Int)) = true := (decide_eq_true (by have := HBIG.out; omega)); have HB5 := Lib.hid (HB4.out.trans (hb5.mono HB4.out.size)); have HVZ := Lib.hid (HV4.out.below hb5); clear hb5 hz5 hs5))
          refine bodyPost_ret (results_tmp2 rfl _ _ _) rfl ?_
          have hno : ¬ Lib.nDigits (x ^ n) ≤ 4000 := by have := HM.out; have := HBIG.out; omega
          exact ⟨_, by rw [decide_eq_false hno]; rfl, fun h => absurd h hno, ⟨_, _, _, rfl⟩, HB5.out⟩
        · have HBIG := Lib.hid hbig
          clear hbig
          go_wp2_with (first
            | (clear TK1; go_at_call 89; refine (rtimes_any y y _ _ _ HV7.out HV7.out (Nat.le_trans HLL.out.1 (by omega)) (Nat.le_trans HLL.out.1 (by omega))).mono ?_; rintro e w3 ⟨v3, rfl, hv3, hb3⟩; obtain ⟨A3, c3, rfl, _, _, _⟩ := id hv3; have HV3 := Lib.hid hv3; have HB3 := Lib.hid (HBR.out.trans (hb3.mono HBR.out.size)); have HX3 := Lib.hid (HX7.out.below hb3); clear hv3 hb3)
            | (go_at_call 89; refine (rtimes_any (y * y) x _ _ _ HV3.out HX3.out (Nat.le_trans HLL.out.2.1 (by omega)) (by omega)).mono ?_; rintro e w4 ⟨v4, rfl, hv4, hb4⟩; obtain ⟨A4, c4, rfl, _, _, _⟩ := id hv4; have HV4 := Lib.hid hv4; have HB4 := Lib.hid (HB3.out.trans (hb4.mono HB3.out.size)); clear hv4 hb4)
            | (go_at_call 110; refine (rwrite_is (y * y * x) _ _ HV4.out (Nat.le_trans HLL.out.2.2 (by omega))).mono ?_; rintro e w5 ⟨s5, rfl, hs5, hz5, hb5⟩; rw [← HPH.out] at hz5; have hsz : decide ((4000 : Int) < (s5.size : Int)) = false := (decide_eq_false (by have := HBIG.out; omega)); have HB5 := Lib.hid (HB4.out.trans (hb5.mono HB4.out.size)); have HVZ := Lib.hid (HV4.out.below hb5); clear hb5 hz5 hs5))
          go_roundw
          case rel =>
            refine ⟨j, by omega, by go_num, ⟨_, _, _, rfl⟩, ?_, ?_, HB5.out⟩
            · rw [HZ.out, HPH.out]; exact HVZ.out
            · rw [HZ.out]; have := HBIG.out; omega
          case measure => simp [intOf] <;> omega
      · rw [if_neg hb] at hph
        have HPH := Lib.hid hph
        have hbv : bits .and .i64 ((n : Int) / 2 ^ j) 1 = 0 := by rw [HBA.out, show n / 2 ^ j % 2 = 0 by omega]; rfl
        clear hph hb
        by_cases hbig : 4000 < Lib.nDigits z
        · have HBIG := Lib.hid hbig
          clear hbig
          go_wp2_with (first
            | (clear TK1; go_at_call 89; refine (rtimes_any y y _ _ _ HV7.out HV7.out (Nat.le_trans HLL.out.1 (by omega)) (Nat.le_trans HLL.out.1 (by omega))).mono ?_; rintro e w3 ⟨v3, rfl, hv3, hb3⟩; obtain ⟨A3, c3, rfl, _, _, _⟩ := id hv3; have HV3 := Lib.hid hv3; have HB3 := Lib.hid (HBR.out.trans (hb3.mono HBR.out.size)); have HX3 := Lib.hid (HX7.out.below hb3); clear hv3 hb3)
            | (go_at_call 110; refine (rwrite_is (y * y) _ _ HV3.out (Nat.le_trans HLL.out.2.1 (by omega))).mono ?_; rintro e w5 ⟨s5, rfl, hs5, hz5, hb5⟩; rw [← HPH.out] at hz5; have hsz : decide ((4000 : Int) < (s5.size : Int)) = true := (decide_eq_true (by have := HBIG.out; omega)); have HB5 := Lib.hid (HB3.out.trans (hb5.mono HB3.out.size)); have HVZ := Lib.hid (HV3.out.below hb5); clear hb5 hz5 hs5))
          refine bodyPost_ret (results_tmp2 rfl _ _ _) rfl ?_
          have hno : ¬ Lib.nDigits (x ^ n) ≤ 4000 := by have := HM.out; have := HBIG.out; omega
          exact ⟨_, by rw [decide_eq_false hno]; rfl, fun h => absurd h hno, ⟨_, _, _, rfl⟩, HB5.out⟩
        · have HBIG := Lib.hid hbig
          clear hbig
          go_wp2_with (first
            | (clear TK1; go_at_call 89; refine (rtimes_any y y _ _ _ HV7.out HV7.out (Nat.le_trans HLL.out.1 (by omega)) (Nat.le_trans HLL.out.1 (by omega))).mono ?_; rintro e w3 ⟨v3, rfl, hv3, hb3⟩; obtain ⟨A3, c3, rfl, _, _, _⟩ := id hv3; have HV3 := Lib.hid hv3; have HB3 := Lib.hid (HBR.out.trans (hb3.mono HBR.out.size)); have HX3 := Lib.hid (HX7.out.below hb3); clear hv3 hb3)
            | (go_at_call 110; refine (rwrite_is (y * y) _ _ HV3.out (Nat.le_trans HLL.out.2.1 (by omega))).mono ?_; rintro e w5 ⟨s5, rfl, hs5, hz5, hb5⟩; rw [← HPH.out] at hz5; have hsz : decide ((4000 : Int) < (s5.size : Int)) = false := (decide_eq_false (by have := HBIG.out; omega)); have HB5 := Lib.hid (HB3.out.trans (hb5.mono HB3.out.size)); have HVZ := Lib.hid (HV3.out.below hb5); clear hb5 hz5 hs5))
          go_roundw
          case rel =>
            refine ⟨j, by omega, by go_num, ⟨_, _, _, rfl⟩, ?_, ?_, HB5.out⟩
            · rw [HZ.out, HPH.out]; exact HVZ.out
            · rw [HZ.out]; have := HBIG.out; omega
          case measure => simp [intOf] <;> omega
set_option maxRecDepth 100000 in
set_option maxHeartbeats 1000000 in
theorem power_zero (x : Nat) (vx : Value) (w : World) (hx : IsNatI w vx x) :
    Calls Tryz.prog 107 #[vx, .int .i64 0] w fun e w' => ∃ v, e = .returned (.tuple #[v, .bool true]) ∧ IsNatI w' v 1 ∧ (∃ A l c, v = .slice A l c) ∧ Below w.heap.size w w' := by
  obtain ⟨A, c, rfl, _, _, _⟩ := hx
  have hb1 := below_alloc (Below.refl w.heap.size w) (.cells #[.int .i64 1] 3)
  have e1 : toL 1 = [1] := by rw [toL_pos (by omega)]; simp [B_val, toL_zero]
  have h1n : IsNatI (w.alloc (.cells #[.int .i64 1] 3)) (.slice (some ⟨w.heap.size, 0, none⟩) 1 1) 1 := by
    refine ⟨some ⟨w.heap.size, 0, none⟩, 1, by rw [e1]; rfl, by rw [e1]; decide, by decide, ?_⟩
    rw [e1]
    exact (Blk.new w 3 #[.int .i64 1]).row (xs := [.int .i64 1])
  have H1 := Lib.hid h1n
  have HB1 := Lib.hid hb1
  clear hb1 h1n e1
  go_enter Tryz.func107, Tryz.ntmps107
  go_wp2
  refine bodyPost_ret (results_tmp2 rfl _ _ _) rfl ?_
  exact ⟨_, rfl, H1.out, ⟨_, _, _, rfl⟩, HB1.out⟩
set_option maxRecDepth 100000 in
set_option maxHeartbeats 1000000 in
theorem power_small (x n : Nat) (vx : Value) (w : World) (hx : IsNatI w vx x) (h2 : x ≤ 1) (h1 : 1 ≤ n) (hn : n ≤ 9223372036854775807) :
    Calls Tryz.prog 107 #[vx, .int .i64 (n : Int)] w fun e w' => ∃ v, e = .returned (.tuple #[v, .bool true]) ∧ IsNatI w' v x ∧ (∃ A l c, v = .slice A l c) ∧ Below w.heap.size w w' := by
  have hlx : (toL x).length ≤ 1 := toL_len_le (by rw [B_val]; omega)
  obtain ⟨A, c, rfl, _, _, _⟩ := id hx
  have hb1 := below_alloc (Below.refl w.heap.size w) (.cells #[.int .i64 1] 3)
  have e1 : toL 1 = [1] := by rw [toL_pos (by omega)]; simp [B_val, toL_zero]
  have h1n : IsNatI (w.alloc (.cells #[.int .i64 1] 3)) (.slice (some ⟨w.heap.size, 0, none⟩) 1 1) 1 := by
    refine ⟨some ⟨w.heap.size, 0, none⟩, 1, by rw [e1]; rfl, by rw [e1]; decide, by decide, ?_⟩
    rw [e1]
    exact (Blk.new w 3 #[.int .i64 1]).row (xs := [.int .i64 1])
  have HX := Lib.hid (hx.below hb1)
  have H1 := Lib.hid h1n
  have HB1 := Lib.hid hb1
  have hsg : decide (sgn x 1 ≤ 0) = true := decide_eq_true (by unfold sgn; split <;> (try split) <;> omega)
  have hn0 : ((n : Int) == 0) = false := by rw [beq_eq_false_iff_ne]; omega
  have HL1 := Lib.hid (show (toL 1).length ≤ 100000 by rw [e1]; decide)
  have HN0 := Lib.hid h1
  clear hx hb1 h1n e1 h2 h1
  go_enter Tryz.func107, Tryz.ntmps107
  go_wp2_with (go_at_call 129; refine (rorder_any x 1 _ _ _ HX.out H1.out (by omega) HL1.out).mono ?_; rintro e w2 ⟨rfl, hb2⟩; have HB2 := Lib.hid (HB1.out.trans (hb2.mono HB1.out.size)); have HX2 := Lib.hid (HX.out.below hb2); clear hb2)
  all_goals first
    | (refine bodyPost_ret (results_tmp2 rfl _ _ _) rfl ?_; exact ⟨_, rfl, HX2.out, ⟨_, _, _, rfl⟩, HB2.out⟩)
    | (exfalso; have := HN0.out; omega)
/-- The reference's Power. -/
theorem rpower_any (x n : Nat) (vx : Value) (w : World) (hx : IsNatI w vx x) (hn : n ≤ 9223372036854775807) (hlx : (toL x).length ≤ 500) :
    Calls Tryz.prog 107 #[vx, .int .i64 (n : Int)] w fun e w' => ∃ v, e = .returned (.tuple #[v, .bool (decide (Lib.nDigits (x ^ n) ≤ 4000))]) ∧ (Lib.nDigits (x ^ n) ≤ 4000 → IsNatI w' v (x ^ n)) ∧ (∃ A l c, v = .slice A l c) ∧ Below w.heap.size w w' := by
  rcases Nat.eq_zero_or_pos n with rfl | h1
  · refine (power_zero x vx w hx).mono ?_
    rintro e w' ⟨v, rfl, h, hs, hb⟩
    rw [Nat.pow_zero]
    exact ⟨v, by rw [decide_eq_true (by rw [Lib.nDigits_small (by omega)]; omega)], fun _ => h, hs, hb⟩
  · by_cases h2 : 2 ≤ x
    · exact power_big x n vx w hx h2 h1 hn hlx
    · refine (power_small x n vx w hx (by omega) h1 hn).mono ?_
      rintro e w' ⟨v, rfl, h, hs, hb⟩
      have hxn : x ^ n = x := by
        rcases (show x = 0 ∨ x = 1 by omega) with rfl | rfl
        · exact Nat.zero_pow h1
        · exact Nat.one_pow n
      rw [hxn]
      exact ⟨v, by rw [decide_eq_true (by rw [Lib.nDigits_small (by omega)]; omega)], fun _ => h, hs, hb⟩
end Go.Proofs.YtjoifmnolmimkaaGreatDoor
namespace Go.Proofs.YtjoifmnolmimkaaGreatDoor
open Go.RowKit Go.Shelf
open Lim

theorem two_pow_up (x j k : Nat) (hx : 2 ≤ x) (hk : j ≤ k) : 2 ^ j ≤ x ^ k :=
  Nat.le_trans (Nat.pow_le_pow_left hx j) (Nat.pow_le_pow_right (Nat.le_trans (by decide) hx) hk)
theorem ten_two (k : Nat) : 10 ^ k ≤ 2 ^ (4 * k) := by
  rw [Nat.pow_mul]
  exact Nat.pow_le_pow_left (by decide) k
theorem big_pow' {x j k : Nat} (hj : 1 ≤ j) (hx : 2 ≤ x) (hk : 4 * j ≤ k) : ¬ Lib.nDigits (x ^ k) ≤ j := by
  intro h
  have h1 := (nDigits_iff hj).1 h
  exact absurd (Nat.le_trans (ten_two j) (two_pow_up x _ k hx hk)) (Nat.not_le.2 h1)
theorem big_pow {x k : Nat} (hx : 2 ≤ x) (hk : 4 * 4000 ≤ k) : ¬ Lib.nDigits (x ^ k) ≤ 4000 := big_pow' (by decide) hx hk
theorem out_big {q : Rat} {k : Nat} (h : 2 ≤ nm q ∨ 2 ≤ q.den) (hk : 4 * 4000 ≤ k) : outQ (q ^ k) = ([], 5) := by
  obtain ⟨h1, h2, _⟩ := pow_parts q k
  unfold outQ maxD
  rw [h1, h2]
  rcases h with h | h
  · rw [if_pos (.inl (by have := big_pow h hk; omega))]
  · rw [if_pos (.inr (by have := big_pow h hk; omega))]
end Go.Proofs.YtjoifmnolmimkaaGreatDoor
