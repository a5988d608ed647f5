/- RatTexts: the walk and its plain law (printed by mktexts.py). -/
import Derived.Test.YtjoifmnolmimkaaGreatDoorRb16
namespace Go.Proofs.YtjoifmnolmimkaaGreatDoor
open Go.RowKit Go.Shelf
open Lim

set_option maxRecDepth 100000 in
set_option maxHeartbeats 8000000 in
theorem texts_minus (a k n d c i P Q : ByteArray) (p u : Rat) (S : Int) (w : World) (T0 : Hid (IsT a p)) (T1 : Hid (IsT c p.abs)) (T2 : Hid (IsT i u)) (T3 : Hid (IsT a (u * p.abs))) (G0 : Hid (sgQ p = S))
    (HP : Hid (numT p = n ∧ denT p = d)) (HI : Hid (∀ w, Res w → Calls Tryz.prog 29 #[.int .i64 S] w fun e w' => e = .returned (.string i) ∧ Below w.heap.size w w'))
    (HM1 : Hid (∀ w, Res w → Calls Tryz.prog 26 #[.string n, .string d] w fun e w' => e = .returned (.tuple #[.string a, .int .i64 0]) ∧ Below w.heap.size w w'))
    (HM2 : Hid (∀ w, Res w → Calls Tryz.prog 26 #[.string (⟨#[45]⟩ ++ P), .string Q] w fun e w' => e = .returned (.tuple #[.string a, .int .i64 0]) ∧ Below w.heap.size w w'))
    (HU1 : Hid (∀ w, Calls Tryz.prog 30 #[.string (n.extract 1 n.size), .string k] w fun e w' => e = .returned (.tuple #[.string P, .int .i64 0]) ∧ Below w.heap.size w w'))
    (HU2 : Hid (∀ w, Calls Tryz.prog 30 #[.string d, .string k] w fun e w' => e = .returned (.tuple #[.string Q, .int .i64 0]) ∧ Below w.heap.size w w'))
    (HG : Hid (∀ w, Calls Tryz.prog 31 #[.string (n.extract 1 n.size), .string d] w fun e w' => e = .returned (.tuple #[.string ⟨#[49]⟩, .int .i64 0]) ∧ Below w.heap.size w w'))
    (HCK : Hid (∀ w, Calls Tryz.prog 24 #[.string k] w fun e w' => e = .returned (.int .i64 0) ∧ w' = w))
    (hS : S = -1) (hn0 : 0 < n.size) (hk : k.size ≤ 1000) (hps : P.size ≤ 4000) (hz : (k.toList == [48]) = false) (HV : Hid ((decide (a.size ≤ 1000) && (errQ a.data.toList == 0)) = true)) (hr : Res w) :
    Calls Tryz.prog 5 #[.string a, .string k] w fun e w' => e = .returned (.bool true) ∧ Below w.heap.size w w' := by
  have HR := Lib.hid hr
  have HB := Lib.hid (Below.refl w.heap.size w)
  have TK1 : True := trivial
  have TK2 : True := trivial
  have hk2 : decide ((k.size : Int) > 1000) = false := decide_eq_false (by omega)
  subst hS
  have hn1 : decide ((n.size : Int) > 0) = true := decide_eq_true (by omega)
  have hap : ¬ 9223372036854775807 < 1 + P.size := by omega
  clear hr
  go_enter Tryz.func5, Tryz.ntmps5
  go_wp2_with (first
    | (go_at_call 11; refine (lives_any _ HR.out).mono ?_; rintro e w1 ⟨rfl, hb1⟩; replace HR := Lib.hid (HR.out.below hb1); replace HB := Lib.hid (HB.out.trans (hb1.mono HB.out.size)); clear hb1)
    | (go_at_call 12; refine (valid1_any a 1000 1000 _ _ rfl (by omega) (Blk.new _ _ _)).mono ?_; rintro e w1 ⟨rfl, hb1⟩; rw [HV.out]; replace HR := Lib.hid ((HR.out.below (below_alloc (Below.refl _ _) _)).below hb1); replace HB := Lib.hid ((below_alloc HB.out _).trans (hb1.mono (below_alloc HB.out _).size)); clear hb1)
    | (go_at_call 24; refine (HCK.out _).mono ?_; rintro e w1 ⟨rfl, hw1⟩; subst hw1)
    | (go_at_call 25; refine (partsT _ T0.out HR.out).mono ?_; rintro e w1 ⟨rfl, hb1⟩; rw [HP.out.1, HP.out.2]; replace HR := Lib.hid (HR.out.below hb1); replace HB := Lib.hid (HB.out.trans (hb1.mono HB.out.size)); clear hb1)
    | (clear TK1; go_at_call 26; refine (HM1.out _ HR.out).mono ?_; rintro e w1 ⟨rfl, hb1⟩; replace HR := Lib.hid (HR.out.below hb1); replace HB := Lib.hid (HB.out.trans (hb1.mono HB.out.size)); clear hb1)
    | (go_at_call 27; refine (absT _ T0.out T1.out HR.out).mono ?_; rintro e w1 ⟨rfl, hb1⟩; replace HR := Lib.hid (HR.out.below hb1); replace HB := Lib.hid (HB.out.trans (hb1.mono HB.out.size)); clear hb1)
    | (go_at_call 28; refine (signT _ T0.out G0.out HR.out).mono ?_; rintro e w1 ⟨rfl, hb1⟩; replace HR := Lib.hid (HR.out.below hb1); replace HB := Lib.hid (HB.out.trans (hb1.mono HB.out.size)); clear hb1)
    | (go_at_call 29; refine (HI.out _ HR.out).mono ?_; rintro e w1 ⟨rfl, hb1⟩; replace HR := Lib.hid (HR.out.below hb1); replace HB := Lib.hid (HB.out.trans (hb1.mono HB.out.size)); clear hb1)
    | (go_at_call 16; refine (product_any _ T2.out T1.out T3.out HR.out).mono ?_; rintro e w1 ⟨rfl, hb1⟩; replace HR := Lib.hid (HR.out.below hb1); replace HB := Lib.hid (HB.out.trans (hb1.mono HB.out.size)); clear hb1)
    | (clear TK2; go_at_call 30; refine (HU1.out _).mono ?_; rintro e w1 ⟨rfl, hb1⟩; replace HR := Lib.hid (HR.out.below hb1); replace HB := Lib.hid (HB.out.trans (hb1.mono HB.out.size)); clear hb1)
    | (go_at_call 30; refine (HU2.out _).mono ?_; rintro e w1 ⟨rfl, hb1⟩; replace HR := Lib.hid (HR.out.below hb1); replace HB := Lib.hid (HB.out.trans (hb1.mono HB.out.size)); clear hb1)
    | (go_at_call 31; refine (HG.out _).mono ?_; rintro e w1 ⟨rfl, hb1⟩; replace HR := Lib.hid (HR.out.below hb1); replace HB := Lib.hid (HB.out.trans (hb1.mono HB.out.size)); clear hb1)
    | (go_at_call 26; refine (HM2.out _ HR.out).mono ?_; rintro e w1 ⟨rfl, hb1⟩; replace HR := Lib.hid (HR.out.below hb1); replace HB := Lib.hid (HB.out.trans (hb1.mono HB.out.size)); clear hb1))
  go_ret
  exact ⟨rfl, HB.out⟩

set_option maxRecDepth 100000 in
set_option maxHeartbeats 8000000 in
theorem texts_plus (a k n d c i P Q : ByteArray) (p u : Rat) (S : Int) (w : World) (T0 : Hid (IsT a p)) (T1 : Hid (IsT c p.abs)) (T2 : Hid (IsT i u)) (T3 : Hid (IsT a (u * p.abs))) (G0 : Hid (sgQ p = S))
    (HP : Hid (numT p = n ∧ denT p = d)) (HI : Hid (∀ w, Res w → Calls Tryz.prog 29 #[.int .i64 S] w fun e w' => e = .returned (.string i) ∧ Below w.heap.size w w'))
    (HM1 : Hid (∀ w, Res w → Calls Tryz.prog 26 #[.string n, .string d] w fun e w' => e = .returned (.tuple #[.string a, .int .i64 0]) ∧ Below w.heap.size w w'))
    (HM2 : Hid (∀ w, Res w → Calls Tryz.prog 26 #[.string P, .string Q] w fun e w' => e = .returned (.tuple #[.string a, .int .i64 0]) ∧ Below w.heap.size w w'))
    (HU1 : Hid (∀ w, Calls Tryz.prog 30 #[.string n, .string k] w fun e w' => e = .returned (.tuple #[.string P, .int .i64 0]) ∧ Below w.heap.size w w'))
    (HU2 : Hid (∀ w, Calls Tryz.prog 30 #[.string d, .string k] w fun e w' => e = .returned (.tuple #[.string Q, .int .i64 0]) ∧ Below w.heap.size w w'))
    (HG : Hid (∀ w, Calls Tryz.prog 31 #[.string n, .string d] w fun e w' => e = .returned (.tuple #[.string ⟨#[49]⟩, .int .i64 0]) ∧ Below w.heap.size w w'))
    (HCK : Hid (∀ w, Calls Tryz.prog 24 #[.string k] w fun e w' => e = .returned (.int .i64 0) ∧ w' = w))
    (hS : 0 ≤ S ∧ S ≤ 1) (hk : k.size ≤ 1000) (hps : P.size ≤ 4000) (hz : (k.toList == [48]) = false) (HV : Hid ((decide (a.size ≤ 1000) && (errQ a.data.toList == 0)) = true)) (hr : Res w) :
    Calls Tryz.prog 5 #[.string a, .string k] w fun e w' => e = .returned (.bool true) ∧ Below w.heap.size w w' := by
  have HR := Lib.hid hr
  have HB := Lib.hid (Below.refl w.heap.size w)
  have TK1 : True := trivial
  have TK2 : True := trivial
  have hk2 : decide ((k.size : Int) > 1000) = false := decide_eq_false (by omega)
  obtain ⟨hS1, hS2⟩ := hS
  have hneg : decide (S < 0) = false := decide_eq_false (by omega)
  clear hr
  go_enter Tryz.func5, Tryz.ntmps5
  go_wp2_with (first
    | (go_at_call 11; refine (lives_any _ HR.out).mono ?_; rintro e w1 ⟨rfl, hb1⟩; replace HR := Lib.hid (HR.out.below hb1); replace HB := Lib.hid (HB.out.trans (hb1.mono HB.out.size)); clear hb1)
    | (go_at_call 12; refine (valid1_any a 1000 1000 _ _ rfl (by omega) (Blk.new _ _ _)).mono ?_; rintro e w1 ⟨rfl, hb1⟩; rw [HV.out]; replace HR := Lib.hid ((HR.out.below (below_alloc (Below.refl _ _) _)).below hb1); replace HB := Lib.hid ((below_alloc HB.out _).trans (hb1.mono (below_alloc HB.out _).size)); clear hb1)
    | (go_at_call 24; refine (HCK.out _).mono ?_; rintro e w1 ⟨rfl, hw1⟩; subst hw1)
    | (go_at_call 25; refine (partsT _ T0.out HR.out).mono ?_; rintro e w1 ⟨rfl, hb1⟩; rw [HP.out.1, HP.out.2]; replace HR := Lib.hid (HR.out.below hb1); replace HB := Lib.hid (HB.out.trans (hb1.mono HB.out.size)); clear hb1)
    | (clear TK1; go_at_call 26; refine (HM1.out _ HR.out).mono ?_; rintro e w1 ⟨rfl, hb1⟩; replace HR := Lib.hid (HR.out.below hb1); replace HB := Lib.hid (HB.out.trans (hb1.mono HB.out.size)); clear hb1)
    | (go_at_call 27; refine (absT _ T0.out T1.out HR.out).mono ?_; rintro e w1 ⟨rfl, hb1⟩; replace HR := Lib.hid (HR.out.below hb1); replace HB := Lib.hid (HB.out.trans (hb1.mono HB.out.size)); clear hb1)
    | (go_at_call 28; refine (signT _ T0.out G0.out HR.out).mono ?_; rintro e w1 ⟨rfl, hb1⟩; replace HR := Lib.hid (HR.out.below hb1); replace HB := Lib.hid (HB.out.trans (hb1.mono HB.out.size)); clear hb1)
    | (go_at_call 29; refine (HI.out _ HR.out).mono ?_; rintro e w1 ⟨rfl, hb1⟩; replace HR := Lib.hid (HR.out.below hb1); replace HB := Lib.hid (HB.out.trans (hb1.mono HB.out.size)); clear hb1)
    | (go_at_call 16; refine (product_any _ T2.out T1.out T3.out HR.out).mono ?_; rintro e w1 ⟨rfl, hb1⟩; replace HR := Lib.hid (HR.out.below hb1); replace HB := Lib.hid (HB.out.trans (hb1.mono HB.out.size)); clear hb1)
    | (clear TK2; go_at_call 30; refine (HU1.out _).mono ?_; rintro e w1 ⟨rfl, hb1⟩; replace HR := Lib.hid (HR.out.below hb1); replace HB := Lib.hid (HB.out.trans (hb1.mono HB.out.size)); clear hb1)
    | (go_at_call 30; refine (HU2.out _).mono ?_; rintro e w1 ⟨rfl, hb1⟩; replace HR := Lib.hid (HR.out.below hb1); replace HB := Lib.hid (HB.out.trans (hb1.mono HB.out.size)); clear hb1)
    | (go_at_call 31; refine (HG.out _).mono ?_; rintro e w1 ⟨rfl, hb1⟩; replace HR := Lib.hid (HR.out.below hb1); replace HB := Lib.hid (HB.out.trans (hb1.mono HB.out.size)); clear hb1)
    | (go_at_call 26; refine (HM2.out _ HR.out).mono ?_; rintro e w1 ⟨rfl, hb1⟩; replace HR := Lib.hid (HR.out.below hb1); replace HB := Lib.hid (HB.out.trans (hb1.mono HB.out.size)); clear hb1))
  go_ret
  exact ⟨rfl, HB.out⟩

/-! ### the plain law -/
theorem nDigits_mul {x y j k : Nat} (hj : 0 < j) (hk : 0 < k) (hx : Lib.nDigits x ≤ j) (hy : Lib.nDigits y ≤ k) : Lib.nDigits (x * y) ≤ j + k :=
  (nDigits_iff (by omega)).2 (mul_lt_pow ((nDigits_iff hj).1 hx) ((nDigits_iff hk).1 hy))
theorem makeQ_text {m : Bool} {n d : Nat} (hm : m = true → n ≠ 0) (hd : d ≠ 0) (ln : Lib.nDigits n ≤ 4000) (ld : Lib.nDigits d ≤ 4000) : makeQ ((if m then [45] else []) ++ Lib.decDigits n) (Lib.decDigits d) = outQ (mkQ m n d) := by
  have hi : intP ((if m then [45] else []) ++ Lib.decDigits n) = (m, Lib.decDigits n) := by
    cases m with
    | false => simpa using intP_dec n
    | true => simpa using intP_minus n
  have hok : intOk ((if m then [45] else []) ++ Lib.decDigits n) = true := by
    unfold intOk
    rw [hi]
    simp only [nform_dec, Bool.true_and, Bool.not_eq_true', Bool.and_eq_false_iff]
    cases m with
    | false => left; rfl
    | true => right; simpa using dec_ne_zero (hm rfl)
  have he : errN (Lib.decDigits d) = 0 := by
    unfold errN
    rw [if_pos (nform_dec d), Lib.decDigits_length, if_neg (by omega)]
  unfold makeQ
  rw [hi, if_neg (by rw [hok]; decide), he, if_neg (by rw [Lib.decDigits_length]; omega), if_neg (by decide), if_neg (dec_ne_zero hd), dv_decDigits, dv_decDigits]
theorem makeT {a : ByteArray} {m : Bool} {n d : Nat} (w : World) (ha : IsT a (mkQ m n d)) (hm : m = true → n ≠ 0) (hd : d ≠ 0) (ln : Lib.nDigits n ≤ 4000) (ld : Lib.nDigits d ≤ 4000) (hr : Res w) :
    Calls Tryz.prog 26 #[.string ⟨((if m then [45] else []) ++ Lib.decDigits n).toArray⟩, .string ⟨(Lib.decDigits d).toArray⟩] w fun e w' => e = .returned (.tuple #[.string a, .int .i64 0]) ∧ Below w.heap.size w w' := by
  refine (ratMake_any _ _ w ?_ ?_ hr).mono ?_
  · rw [size_list]
    show ((if m then [45] else []) ++ Lib.decDigits n).length ≤ _
    rw [List.length_append, Lib.decDigits_length]
    split <;> simp <;> omega
  · rw [size_list]
    show (Lib.decDigits d).length ≤ _
    rw [Lib.decDigits_length]; omega
  · rintro e w' ⟨rfl, h⟩
    refine ⟨?_, h⟩
    have e1 : makeQ (⟨((if m then [45] else []) ++ Lib.decDigits n).toArray⟩ : ByteArray).data.toList (⟨(Lib.decDigits d).toArray⟩ : ByteArray).data.toList = outQ (mkQ m n d) := makeQ_text hm hd ln ld
    rw [e1, out_T ha]
theorem outN_T {n : Nat} (h : Lib.nDigits n ≤ 4000) : resN (outN n) = .tuple #[.string ⟨(Lib.decDigits n).toArray⟩, .int .i64 0] := by
  unfold outN maxD; rw [if_neg (by omega)]; rfl
theorem errN_dec {n : Nat} (h : Lib.nDigits n ≤ 4000) : errN (⟨(Lib.decDigits n).toArray⟩ : ByteArray).data.toList = 0 := by
  show errN (Lib.decDigits n) = 0
  unfold errN
  rw [if_pos (nform_dec n), Lib.decDigits_length, if_neg (by omega)]
theorem mulN_T {x y : Nat} (w : World) (hx : Lib.nDigits x ≤ 4000) (hy : Lib.nDigits y ≤ 4000) (h : Lib.nDigits (x * y) ≤ 4000) :
    Calls Tryz.prog 30 #[.string ⟨(Lib.decDigits x).toArray⟩, .string ⟨(Lib.decDigits y).toArray⟩] w fun e w' => e = .returned (.tuple #[.string ⟨(Lib.decDigits (x * y)).toArray⟩, .int .i64 0]) ∧ Below w.heap.size w w' := by
  refine (rnMul_ok _ _ w (errN_dec hx) (errN_dec hy)).mono ?_
  rintro e w' ⟨rfl, hb⟩
  refine ⟨?_, hb⟩
  have e1 : dv (⟨(Lib.decDigits x).toArray⟩ : ByteArray).data.toList = x := dv_decDigits x
  have e2 : dv (⟨(Lib.decDigits y).toArray⟩ : ByteArray).data.toList = y := dv_decDigits y
  rw [e1, e2, outN_T h]
theorem gcdN_T {x y : Nat} (w : World) (hx : Lib.nDigits x ≤ 4000) (hy : Lib.nDigits y ≤ 4000) (h : Lib.nDigits (x.gcd y) ≤ 4000) :
    Calls Tryz.prog 31 #[.string ⟨(Lib.decDigits x).toArray⟩, .string ⟨(Lib.decDigits y).toArray⟩] w fun e w' => e = .returned (.tuple #[.string ⟨(Lib.decDigits (x.gcd y)).toArray⟩, .int .i64 0]) ∧ Below w.heap.size w w' := by
  refine (rnGcd_ok _ _ w (errN_dec hx) (errN_dec hy)).mono ?_
  rintro e w' ⟨rfl, hb⟩
  refine ⟨?_, hb⟩
  have e1 : dv (⟨(Lib.decDigits x).toArray⟩ : ByteArray).data.toList = x := dv_decDigits x
  have e2 : dv (⟨(Lib.decDigits y).toArray⟩ : ByteArray).data.toList = y := dv_decDigits y
  rw [e1, e2, outN_T h]
theorem sign_abs (p : Rat) : ((sgQ p : Int) : Rat) * p.abs = p := by
  rw [sgQ_num]
  unfold Rat.abs
  by_cases h : p.num < 0
  · rw [if_pos h, if_neg (fun h2 => Int.not_le.2 h (Rat.num_nonneg.2 h2))]
    rw [show (((-1 : Int)) : Rat) = -1 from rfl, Rat.neg_mul, Rat.one_mul, Rat.neg_neg]
  · rw [if_neg h]
    have h1 : 0 ≤ p := Rat.num_nonneg.1 (Int.not_lt.1 h)
    rw [if_pos h1]
    by_cases h0 : p.num = 0
    · rw [if_pos h0, Rat.num_eq_zero.1 h0, Rat.mul_zero]
    · rw [if_neg h0]
      exact Rat.one_mul p

set_option maxRecDepth 100000 in
set_option maxHeartbeats 4000000 in
theorem ratTexts_any (a k : ByteArray) (w : World) (hr : Res w) :
    Calls Tryz.prog 5 #[.string a, .string k] w fun e w' => e = .returned (.bool true) ∧ Below w.heap.size w w' := by
  by_cases hv : (decide (a.size ≤ 1000) && (errQ a.data.toList == 0)) = true
  · have HV := Lib.hid hv
    rw [Bool.and_eq_true] at hv
    have hs := of_decide_eq_true hv.1
    have ha := IsT.of (beq_iff_eq.1 hv.2)
    have sa := sz_of_text (beq_iff_eq.1 hv.2) (k := 1000) (by rw [← size_list]; exact hs)
    generalize valQ a.data.toList = p at ha sa
    clear hv hs
    by_cases hk : k.size ≤ 1000
    · have HCK := Lib.hid (fun w => rcheck_any k w (by omega))
      by_cases he : errN k.data.toList = 0
      · rw [he] at HCK
        obtain ⟨hF, _⟩ := errN_zero he
        have hkd : k = ⟨(Lib.decDigits (dv k.data.toList)).toArray⟩ := by
          rw [NForm.eq hF]
        have hkn : Lib.nDigits (dv k.data.toList) ≤ 1000 := by rw [digits_of_form hF, ← size_list]; exact hk
        generalize dv k.data.toList = K at hkd hkn
        have hz : (k.toList == [48]) = decide (K = 0) := by
          rw [Lib.toList_data, hkd]
          show (Lib.decDigits K == [48]) = _
          by_cases h0 : K = 0
          · subst h0; rw [dec_zero]; rfl
          · rw [decide_eq_false h0, beq_eq_false_iff_ne]; exact dec_ne_zero h0
        by_cases h0 : K = 0
        · rw [decide_eq_true h0] at hz
          have HR := Lib.hid hr
          have HB := Lib.hid (Below.refl w.heap.size w)
          have hk2 : decide ((k.size : Int) > 1000) = false := decide_eq_false (by omega)
          clear hr he hF hkd hkn h0 ha sa
          go_enter Tryz.func5, Tryz.ntmps5
          go_wp2_with (first
    | (go_at_call 11; refine (lives_any _ HR.out).mono ?_; rintro e w1 ⟨rfl, hb1⟩; replace HR := Lib.hid (HR.out.below hb1); replace HB := Lib.hid (HB.out.trans (hb1.mono HB.out.size)); clear hb1)
    | (go_at_call 12; refine (valid1_any a 1000 1000 _ _ rfl (by omega) (Blk.new _ _ _)).mono ?_; rintro e w1 ⟨rfl, hb1⟩; rw [HV.out]; replace HR := Lib.hid ((HR.out.below (below_alloc (Below.refl _ _) _)).below hb1); replace HB := Lib.hid ((below_alloc HB.out _).trans (hb1.mono (below_alloc HB.out _).size)); clear hb1)
    | (go_at_call 24; refine (HCK.out _).mono ?_; rintro e w1 ⟨rfl, hw1⟩; subst hw1))
          go_ret
          exact ⟨rfl, HB.out⟩
        · rw [decide_eq_false h0] at hz
          obtain ⟨d1, d2⟩ := (sz_iff (by omega)).1 sa
          have hmul : ∀ x : Nat, Lib.nDigits x ≤ 1000 → Lib.nDigits (x * K) ≤ 1000 + 1000 := fun x hx => nDigits_mul (by omega) (by omega) hx hkn
          have h1 := hmul _ d1
          have h2 := hmul _ d2
          have i_ab : IsT ⟨(ratText p.abs).toArray⟩ p.abs := IsT.mk (by
            obtain ⟨_, a2, a3⟩ := abs_parts p
            have : Sz 1000 p.abs := ⟨by rw [a2]; exact sa.1, by rw [a3]; exact sa.2⟩
            exact this.mono (by decide))
          have i_s : IsT ⟨(ratText ((sgQ p : Int) : Rat)).toArray⟩ ((sgQ p : Int) : Rat) := by
            obtain ⟨b1, b2⟩ := sgQ_bound p
            exact IsT.mk (Sz.mono (j := 1) ⟨by show ((sgQ p : Int) : Rat).num.natAbs < _; rw [Rat.num_intCast]; omega, by rw [Rat.den_intCast]; decide⟩ (by decide))
          have hint : ∀ w, Res w → Calls Tryz.prog 29 #[.int .i64 (sgQ p)] w fun e w' => e = .returned (.string ⟨(ratText ((sgQ p : Int) : Rat)).toArray⟩) ∧ Below w.heap.size w w' := fun w hr => by
            obtain ⟨b1, b2⟩ := sgQ_bound p
            exact intT _ w i_s hr (by omega) (by omega)
          have hpa : IsT a (((sgQ p : Int) : Rat) * p.abs) := by rw [sign_abs]; exact ha
          have hm1 : ∀ w, Res w → Calls Tryz.prog 26 #[.string (numT p), .string (denT p)] w fun e w' => e = .returned (.tuple #[.string a, .int .i64 0]) ∧ Below w.heap.size w w' := fun w hr =>
            makeT w (by rw [mkQ_self]; exact ha) ng_nm p.den_nz (by omega) (by omega) hr
          have hK : mkQ (ng p) (nm p * K) (p.den * K) = p := by rw [mkQ_scale h0, mkQ_self]
          have hm2 : ∀ w, Res w → Calls Tryz.prog 26 #[.string ⟨((if ng p then [45] else []) ++ Lib.decDigits (nm p * K)).toArray⟩, .string ⟨(Lib.decDigits (p.den * K)).toArray⟩] w fun e w' => e = .returned (.tuple #[.string a, .int .i64 0]) ∧ Below w.heap.size w w' := fun w hr =>
            makeT w (by rw [hK]; exact ha) (fun hm => Nat.mul_ne_zero (ng_nm hm) h0) (Nat.mul_ne_zero p.den_nz h0) (by omega) (by omega) hr
          have hden : ∀ w, Calls Tryz.prog 30 #[.string (denT p), .string k] w fun e w' => e = .returned (.tuple #[.string ⟨(Lib.decDigits (p.den * K)).toArray⟩, .int .i64 0]) ∧ Below w.heap.size w w' := fun w => by
            have := mulN_T (x := p.den) (y := K) w (by omega) (by omega) (by omega)
            rw [← hkd] at this
            exact this
          have hnum : ∀ w, Calls Tryz.prog 30 #[.string ⟨(Lib.decDigits (nm p)).toArray⟩, .string k] w fun e w' => e = .returned (.tuple #[.string ⟨(Lib.decDigits (nm p * K)).toArray⟩, .int .i64 0]) ∧ Below w.heap.size w w' := fun w => by
            have := mulN_T (x := nm p) (y := K) w (by omega) (by omega) (by omega)
            rw [← hkd] at this
            exact this
          have hgcd : ∀ w, Calls Tryz.prog 31 #[.string ⟨(Lib.decDigits (nm p)).toArray⟩, .string (denT p)] w fun e w' => e = .returned (.tuple #[.string ⟨#[49]⟩, .int .i64 0]) ∧ Below w.heap.size w w' := fun w => by
            have := gcdN_T (x := nm p) (y := p.den) w (by omega) (by omega) (by rw [coprime, Lib.nDigits_small (by omega)]; omega)
            rw [coprime, dec_one] at this
            exact this
          have hPs : (⟨(Lib.decDigits (nm p * K)).toArray⟩ : ByteArray).size ≤ 4000 := by
            show (Lib.decDigits (nm p * K)).toArray.size ≤ 4000
            rw [List.size_toArray, Lib.decDigits_length]; omega
          cases hg : ng p with
          | true =>
            have hne : sgQ p = -1 := by
              unfold sgQ
              rw [if_neg (ng_nm hg), if_pos hg]
            have hnT : numT p = ⟨(45 :: Lib.decDigits (nm p)).toArray⟩ := by unfold numT; rw [hg]; rfl
            have hex : (numT p).extract 1 (numT p).size = ⟨(Lib.decDigits (nm p)).toArray⟩ := by
              apply ByteArray.ext
              apply Array.toList_inj.1
              rw [extract_list, size_list, List.take_length, hnT]
              rfl
            have hsz : 0 < (numT p).size := by rw [hnT, size_list]; exact Nat.succ_pos _
            rw [hg] at hm2
            have hm2' : ∀ w, Res w → Calls Tryz.prog 26 #[.string (⟨#[45]⟩ ++ ⟨(Lib.decDigits (nm p * K)).toArray⟩), .string ⟨(Lib.decDigits (p.den * K)).toArray⟩] w fun e w' => e = .returned (.tuple #[.string a, .int .i64 0]) ∧ Below w.heap.size w w' := fun w hr => by
              rw [show (⟨#[45]⟩ : ByteArray) ++ ⟨(Lib.decDigits (nm p * K)).toArray⟩ = ⟨([45] ++ Lib.decDigits (nm p * K)).toArray⟩ from ba_add [45] _]
              exact hm2 w hr
            exact texts_minus a k (numT p) (denT p) _ _ _ _ p _ _ w (Lib.hid ha) (Lib.hid i_ab) (Lib.hid i_s) (Lib.hid hpa) (Lib.hid rfl) (Lib.hid ⟨rfl, rfl⟩) (Lib.hid hint) (Lib.hid hm1) (Lib.hid hm2')
              (Lib.hid (fun w => by rw [hex]; exact hnum w)) (Lib.hid hden) (Lib.hid (fun w => by rw [hex]; exact hgcd w)) HCK hne hsz hk hPs hz HV hr
          | false =>
            have hnn : 0 ≤ sgQ p ∧ sgQ p ≤ 1 := by
              unfold sgQ
              split
              · omega
              · rw [if_neg (by rw [hg]; decide)]; omega
            have hnT : numT p = ⟨(Lib.decDigits (nm p)).toArray⟩ := by unfold numT; rw [hg]; rfl
            rw [hg] at hm2
            exact texts_plus a k (numT p) (denT p) _ _ _ _ p _ _ w (Lib.hid ha) (Lib.hid i_ab) (Lib.hid i_s) (Lib.hid hpa) (Lib.hid rfl) (Lib.hid ⟨rfl, rfl⟩) (Lib.hid hint) (Lib.hid hm1) (Lib.hid hm2)
              (Lib.hid (fun w => by rw [hnT]; exact hnum w)) (Lib.hid hden) (Lib.hid (fun w => by rw [hnT]; exact hgcd w)) HCK hnn hk hPs hz HV hr
      · have hne : ((errN k.data.toList : Int) == 0) = false := by rw [beq_eq_false_iff_ne]; omega
        generalize errN k.data.toList = e0 at *
        have HR := Lib.hid hr
        have HB := Lib.hid (Below.refl w.heap.size w)
        have hk2 : decide ((k.size : Int) > 1000) = false := decide_eq_false (by omega)
        have HE := Lib.hid he
        clear hr he ha sa
        go_enter Tryz.func5, Tryz.ntmps5
        go_wp2_with (first
    | (go_at_call 11; refine (lives_any _ HR.out).mono ?_; rintro e w1 ⟨rfl, hb1⟩; replace HR := Lib.hid (HR.out.below hb1); replace HB := Lib.hid (HB.out.trans (hb1.mono HB.out.size)); clear hb1)
    | (go_at_call 12; refine (valid1_any a 1000 1000 _ _ rfl (by omega) (Blk.new _ _ _)).mono ?_; rintro e w1 ⟨rfl, hb1⟩; rw [HV.out]; replace HR := Lib.hid ((HR.out.below (below_alloc (Below.refl _ _) _)).below hb1); replace HB := Lib.hid ((below_alloc HB.out _).trans (hb1.mono (below_alloc HB.out _).size)); clear hb1)
    | (go_at_call 24; refine (HCK.out _).mono ?_; rintro e w1 ⟨rfl, hw1⟩; subst hw1))
        all_goals first
          | (exfalso; have := HE.out; omega)
          | (go_ret; exact ⟨rfl, HB.out⟩)
    · have hk2 : decide ((k.size : Int) > 1000) = true := decide_eq_true (by omega)
      have HR := Lib.hid hr
      have HB := Lib.hid (Below.refl w.heap.size w)
      clear hr ha sa hk
      go_enter Tryz.func5, Tryz.ntmps5
      go_wp2_with (first
    | (go_at_call 11; refine (lives_any _ HR.out).mono ?_; rintro e w1 ⟨rfl, hb1⟩; replace HR := Lib.hid (HR.out.below hb1); replace HB := Lib.hid (HB.out.trans (hb1.mono HB.out.size)); clear hb1)
    | (go_at_call 12; refine (valid1_any a 1000 1000 _ _ rfl (by omega) (Blk.new _ _ _)).mono ?_; rintro e w1 ⟨rfl, hb1⟩; rw [HV.out]; replace HR := Lib.hid ((HR.out.below (below_alloc (Below.refl _ _) _)).below hb1); replace HB := Lib.hid ((below_alloc HB.out _).trans (hb1.mono (below_alloc HB.out _).size)); clear hb1))
      go_ret
      exact ⟨rfl, HB.out⟩
  · have hv : (decide (a.size ≤ 1000) && (errQ a.data.toList == 0)) = false := by simpa using hv
    have HV := Lib.hid hv
    have HR := Lib.hid hr
    have HB := Lib.hid (Below.refl w.heap.size w)
    clear hv hr
    go_enter Tryz.func5, Tryz.ntmps5
    go_wp2_with (first
    | (go_at_call 11; refine (lives_any _ HR.out).mono ?_; rintro e w1 ⟨rfl, hb1⟩; replace HR := Lib.hid (HR.out.below hb1); replace HB := Lib.hid (HB.out.trans (hb1.mono HB.out.size)); clear hb1)
    | (go_at_call 12; refine (valid1_any a 1000 1000 _ _ rfl (by omega) (Blk.new _ _ _)).mono ?_; rintro e w1 ⟨rfl, hb1⟩; rw [HV.out]; replace HR := Lib.hid ((HR.out.below (below_alloc (Below.refl _ _) _)).below hb1); replace HB := Lib.hid ((below_alloc HB.out _).trans (hb1.mono (below_alloc HB.out _).size)); clear hb1))
    go_ret
    exact ⟨rfl, HB.out⟩
end Go.Proofs.YtjoifmnolmimkaaGreatDoor
