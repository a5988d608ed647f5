/- The reference's Pow of rational numbers (printed by mkrpw.py). Functions of rat on numbers whose result does not fit. The reference's functions of two numbers, on texts of numbers. -/
import Derived.Test.YtigapglmipmbeaaGreatDoorRb15
import Derived.Test.YtigapglmipmbeaaGreatDoorRb14
import Derived.Test.YtigapglmipmbeaaGreatDoorRb10
namespace Go.Proofs.YtigapglmipmbeaaGreatDoor
open Go.RowKit Go.Shelf
open Lim
theorem cells6P {w : World} {g : Nat} {t : TypeId} {x y z : Value} (h : Blk w g t #[x, y, z]) :
    (w.cell? ⟨g, 0, none⟩ = some x ∧ w.frozen? ⟨g, 0, none⟩ = false) ∧ (w.cell? ⟨g, 1, none⟩ = some y ∧ w.frozen? ⟨g, 1, none⟩ = false) ∧ w.cell? ⟨g, 2, none⟩ = some z ∧ w.frozen? ⟨g, 2, none⟩ = false :=
  ⟨⟨(cellrow h 0 (by simp)).1, h.frozen 0⟩, ⟨(cellrow h 1 (by simp)).1, h.frozen 1⟩, (cellrow h 2 (by simp)).1, h.frozen 2⟩
set_option maxRecDepth 100000 in
set_option maxHeartbeats 2000000 in
theorem refpow_pos_t_no (a : ByteArray) (q : Rat) (M : Nat) (w : World) (ha : a.size ≤ 270000) (he : errQ a.data.toList = 0) (hq : valQ a.data.toList = q) (hb : ng q = true) (hM : M ≤ 9223372036854775807) (hf1 : decide (Lib.nDigits (nm q ^ M) ≤ 4000) = false) (sq : Sz maxD q) :
    Calls Tryz.prog 240 #[.string a, .int .i64 (M : Int)] w fun e w' => e = .returned (.tuple #[.string ⟨#[]⟩, .int .i64 5]) ∧ Below w.heap.size w w' := by
  have HP := Lib.hid (rq_any a w ha)
  have hne : ((errQ a.data.toList : Int) == 0) = true := by rw [he]; rfl
  have HE := Lib.hid he
  rw [hq] at HP
  obtain ⟨lq, lq'⟩ := sz_limbs sq
  have HBQ := Lib.hid hb
  have lr1 : (toL (nm q)).length ≤ 500 := by omega
  have lr2 : (toL q.den).length ≤ 500 := by omega
  have hn2 : decide ((M : Int) < 0) = false := decide_eq_false (by omega)
  have hn3 : ((M : Int) == -9223372036854775808) = false := by rw [beq_eq_false_iff_ne]; omega
  have HL1 := Lib.hid lr1
  have HL2 := Lib.hid lr2
  have HF1 := Lib.hid hf1
  have TK1 : True := trivial
  clear he hq hb sq lr1 lr2 hf1
  go_enter Tryz.func240, Tryz.ntmps240
  go_wp2_with (first
    | (go_at_call 155; refine HP.out.mono ?_; rintro e w1 ⟨v, rfl, hv, -, hb⟩; obtain ⟨bq, N, D, A, c, A', c', rfl, hn, hd, HQ⟩ := isQ_open (hv HE.out); have HV := Lib.hid (hv HE.out); have HB := Lib.hid hb; have HX := Lib.hid (below_alloc (Below.refl w1.heap.size w1) (.cells #[.bool bq, .slice A (toL N).length c, .slice A' (toL D).length c'] 170)); have HBX := Lib.hid (HB.out.trans (HX.out.mono HB.out.size)); have HN := Lib.hid (hn.below HX.out); have HD := Lib.hid (hd.below HX.out); have HPB := Lib.hid (Blk.new w1 170 #[.bool bq, .slice A (toL N).length c, .slice A' (toL D).length c']); clear hb hv hn hd; obtain rfl : bq = true := HQ.out.1.symm.trans HBQ.out; obtain rfl := HQ.out.2.1; obtain rfl := HQ.out.2.2)
    | (go_at_call 271; refine (odd_any (M : Int) _ (by omega) (by omega)).mono ?_; rintro e w4 ⟨rfl, hw4⟩; subst hw4)
    | (clear TK1; go_at_call 272; refine (rpower_any (nm q) M _ _ HN.out (by omega) HL1.out).mono ?_; rintro e w5 ⟨v5, rfl, hv5, ⟨A5, l5, c5, rfl⟩, hb5⟩; rw [HF1.out]; have HV5 := Lib.hid hv5; have HD5 := Lib.hid (HD.out.below hb5); have HB5 := Lib.hid (HBX.out.trans (hb5.mono HBX.out.size)); obtain ⟨y0, y1, y2⟩ := rows3 (HPB.out.below hb5 HPB.out.lt); clear hv5 hb5)
    | (go_at_call 272; refine (rpower_any q.den M _ _ HD5.out (by omega) HL2.out).mono ?_; rintro e w6 ⟨v6, rfl, hv6, ⟨A6, l6, c6, rfl⟩, hb6⟩; have HV6 := Lib.hid hv6; have HB6 := Lib.hid (HB5.out.trans (hb6.mono HB5.out.size)); have HZ6 := Lib.hid hb6; clear hv6 hb6))
  all_goals first
    | (refine bodyPost_ret (results_tmp2 rfl _ _ _) rfl ?_; exact ⟨rfl, HB6.out⟩)
    | (exfalso; omega)
set_option maxRecDepth 100000 in
set_option maxHeartbeats 2000000 in
theorem refpow_pos_f_yes (a : ByteArray) (q : Rat) (M : Nat) (w : World) (ha : a.size ≤ 270000) (he : errQ a.data.toList = 0) (hq : valQ a.data.toList = q) (hb : ng q = false) (hM : M ≤ 9223372036854775807) (hf1 : decide (Lib.nDigits (nm q ^ M) ≤ 4000) = true) (hf2 : decide (Lib.nDigits (q.den ^ M) ≤ 4000) = true) (r : List UInt8 × Nat) (hW : ∀ v w, IsPartsI w v false (nm q ^ M) (q.den ^ M) → Calls Tryz.prog 153 #[v] w fun e w' => e = .returned (.tuple #[.string ⟨r.1.toArray⟩, .int .i64 (r.2 : Int)]) ∧ Below w.heap.size w w') (sq : Sz maxD q) :
    Calls Tryz.prog 240 #[.string a, .int .i64 (M : Int)] w fun e w' => e = .returned (.tuple #[.string ⟨r.1.toArray⟩, .int .i64 (r.2 : Int)]) ∧ Below w.heap.size w w' := by
  have HP := Lib.hid (rq_any a w ha)
  have hne : ((errQ a.data.toList : Int) == 0) = true := by rw [he]; rfl
  have HE := Lib.hid he
  rw [hq] at HP
  obtain ⟨lq, lq'⟩ := sz_limbs sq
  have HBQ := Lib.hid hb
  have lr1 : (toL (nm q)).length ≤ 500 := by omega
  have lr2 : (toL q.den).length ≤ 500 := by omega
  have hn2 : decide ((M : Int) < 0) = false := decide_eq_false (by omega)
  have hn3 : ((M : Int) == -9223372036854775808) = false := by rw [beq_eq_false_iff_ne]; omega
  have HL1 := Lib.hid lr1
  have HL2 := Lib.hid lr2
  have HF1 := Lib.hid hf1
  have HF2 := Lib.hid hf2
  have HW := Lib.hid hW
  have TK1 : True := trivial
  clear he hq hb sq lr1 lr2 hf1 hf2 hW
  go_enter Tryz.func240, Tryz.ntmps240
  go_wp2_with (first
    | (go_at_call 155; refine HP.out.mono ?_; rintro e w1 ⟨v, rfl, hv, -, hb⟩; obtain ⟨bq, N, D, A, c, A', c', rfl, hn, hd, HQ⟩ := isQ_open (hv HE.out); have HV := Lib.hid (hv HE.out); have HB := Lib.hid hb; have HX := Lib.hid (below_alloc (Below.refl w1.heap.size w1) (.cells #[.bool bq, .slice A (toL N).length c, .slice A' (toL D).length c'] 170)); have HBX := Lib.hid (HB.out.trans (HX.out.mono HB.out.size)); have HN := Lib.hid (hn.below HX.out); have HD := Lib.hid (hd.below HX.out); have HPB := Lib.hid (Blk.new w1 170 #[.bool bq, .slice A (toL N).length c, .slice A' (toL D).length c']); clear hb hv hn hd; obtain rfl : bq = false := HQ.out.1.symm.trans HBQ.out; obtain rfl := HQ.out.2.1; obtain rfl := HQ.out.2.2)
    | (clear TK1; go_at_call 272; refine (rpower_any (nm q) M _ _ HN.out (by omega) HL1.out).mono ?_; rintro e w5 ⟨v5, rfl, hv5, ⟨A5, l5, c5, rfl⟩, hb5⟩; rw [HF1.out]; have HV5 := Lib.hid hv5; have HD5 := Lib.hid (HD.out.below hb5); have HB5 := Lib.hid (HBX.out.trans (hb5.mono HBX.out.size)); obtain ⟨y0, y1, y2⟩ := rows3 (HPB.out.below hb5 HPB.out.lt); clear hv5 hb5)
    | (go_at_call 272; refine (rpower_any q.den M _ _ HD5.out (by omega) HL2.out).mono ?_; rintro e w6 ⟨v6, rfl, hv6, ⟨A6, l6, c6, rfl⟩, hb6⟩; rw [HF2.out]; have HV6 := Lib.hid hv6; have HB6 := Lib.hid (HB5.out.trans (hb6.mono HB5.out.size)); have HZ6 := Lib.hid hb6; clear hv6 hb6)
    | (go_at_call 153; refine (HW.out _ _ (isPartsI_mk ((HV5.out (of_decide_eq_true HF1.out)).below HZ6.out) (HV6.out (of_decide_eq_true HF2.out)))).mono ?_; rintro e w7 ⟨rfl, hb7⟩; have HB7 := Lib.hid (HB6.out.trans (hb7.mono HB6.out.size)); clear hb7))
  all_goals first
    | (refine bodyPost_ret (results_tmp2 rfl _ _ _) rfl ?_; exact ⟨rfl, HB7.out⟩)
    | (exfalso; omega)
set_option maxRecDepth 100000 in
set_option maxHeartbeats 2000000 in
theorem refpow_neg_t_no (a : ByteArray) (q : Rat) (M : Nat) (w : World) (ha : a.size ≤ 270000) (he : errQ a.data.toList = 0) (hq : valQ a.data.toList = q) (hb : ng q = true) (h0 : q ≠ 0) (hM : M ≤ 9223372036854775807) (hM1 : 1 ≤ M) (hf1 : decide (Lib.nDigits (nm q⁻¹ ^ M) ≤ 4000) = false) (sq : Sz maxD q) :
    Calls Tryz.prog 240 #[.string a, .int .i64 (-(M : Int))] w fun e w' => e = .returned (.tuple #[.string ⟨#[]⟩, .int .i64 5]) ∧ Below w.heap.size w w' := by
  have HP := Lib.hid (rq_any a w ha)
  have hne : ((errQ a.data.toList : Int) == 0) = true := by rw [he]; rfl
  have HE := Lib.hid he
  rw [hq] at HP
  obtain ⟨lq, lq'⟩ := sz_limbs sq
  have HBQ := Lib.hid hb
  obtain ⟨i1, i2, i3⟩ := inv_parts h0
  have HIV := Lib.hid (And.intro i1 (And.intro i2 i3))
  have HZ := Lib.hid h0
  have HNZ := Lib.hid (fun (N : Nat) (h : nm q = N) => show (((toL N).length : Int) == 0) = false by rw [len_zero, decide_eq_false (fun h2 => h0 (nm_zero.1 (h.trans h2)))])
  have HNN := Lib.hid (fun (N : Nat) (h : nm q = N) => show (toL N).length ≠ 0 from fun h2 => by have := HNZ.out N h; rw [h2] at this; cases this)
  have lr1 : (toL (nm q⁻¹)).length ≤ 500 := by rw [i2]; omega
  have lr2 : (toL q⁻¹.den).length ≤ 500 := by rw [i3]; omega
  obtain ⟨X, hX⟩ : ∃ X, nm q⁻¹ = X := ⟨_, rfl⟩
  obtain ⟨Y, hY⟩ : ∃ Y, q⁻¹.den = Y := ⟨_, rfl⟩
  rw [hX] at hf1 lr1
  rw [hY] at lr2
  have HXX := Lib.hid hX
  have HYY := Lib.hid hY
  clear hX hY
  have hn2 : decide (-(M : Int) < 0) = true := decide_eq_true (by omega)
  have hn3 : (-(M : Int) == -9223372036854775808) = false := by rw [beq_eq_false_iff_ne]; omega
  have HL1 := Lib.hid lr1
  have HL2 := Lib.hid lr2
  have HF1 := Lib.hid hf1
  have TK1 : True := trivial
  clear he hq hb sq lr1 lr2 hf1 h0 i1 i2 i3
  go_enter Tryz.func240, Tryz.ntmps240
  go_wp2_with (first
    | (go_at_call 155; refine HP.out.mono ?_; rintro e w1 ⟨v, rfl, hv, -, hb⟩; obtain ⟨bq, N, D, A, c, A', c', rfl, hn, hd, HQ⟩ := isQ_open (hv HE.out); have HV := Lib.hid (hv HE.out); have HB := Lib.hid hb; have HX := Lib.hid (below_alloc (Below.refl w1.heap.size w1) (.cells #[.bool bq, .slice A (toL N).length c, .slice A' (toL D).length c'] 170)); have HBX := Lib.hid (HB.out.trans (HX.out.mono HB.out.size)); have HN := Lib.hid (hn.below HX.out); have HD := Lib.hid (hd.below HX.out); have HPB := Lib.hid (Blk.new w1 170 #[.bool bq, .slice A (toL N).length c, .slice A' (toL D).length c']); clear hb hv hn hd; have hln := HNZ.out _ HQ.out.2.1)
    | (go_at_call 156; refine (rover_any q _ _ (HV.out.below HX.out) HZ.out).mono ?_; rintro e w2 ⟨v2, rfl, hv2, hb2⟩; obtain ⟨b2, N2, D2, A2, c2, A2', c2', rfl, hn2', hd2', HQ2⟩ := isQ_open hv2; obtain rfl : b2 = true := HQ2.out.1.symm.trans (HIV.out.1.trans HBQ.out); obtain rfl : N2 = X := HQ2.out.2.1.symm.trans HXX.out; obtain rfl : D2 = Y := HQ2.out.2.2.symm.trans HYY.out; have hp2 := HPB.out.below hb2 HPB.out.lt; obtain ⟨⟨r0, s0⟩, ⟨r1, s1⟩, r2, s2⟩ := cells6P hp2; have HNO := Lib.hid (isNatI_set3 (m' := true) (D := A2) (D' := A2') (a := (toL N2).length) (b := c2) (a' := (toL D2).length) (b' := c2') hn2' hp2); have HDO := Lib.hid (isNatI_set3 (m' := true) (D := A2) (D' := A2') (a := (toL N2).length) (b := c2) (a' := (toL D2).length) (b' := c2') hd2' hp2); have HPO := Lib.hid (set3 (x := .bool true) (y := .slice A2 (toL N2).length c2) (z := .slice A2' (toL D2).length c2') hp2); have HBO := Lib.hid (set3_below (x := .bool true) (y := .slice A2 (toL N2).length c2) (z := .slice A2' (toL D2).length c2') (HBX.out.trans (hb2.mono HBX.out.size)) HB.out.size); clear hv2 hb2 hn2' hd2' hp2)
    | (go_at_call 271; refine (odd_any (-(M : Int)) _ (by omega) (by omega)).mono ?_; rintro e w4 ⟨rfl, hw4⟩; subst hw4)
    | (clear TK1; go_at_call 272; refine (rpower_any N2 M _ _ HNO.out (by omega) HL1.out).mono ?_; rintro e w5 ⟨v5, rfl, hv5, ⟨A5, l5, c5, rfl⟩, hb5⟩; rw [HF1.out]; have HV5 := Lib.hid hv5; have HD5 := Lib.hid (HDO.out.below hb5); have HB5 := Lib.hid (HBO.out.trans (hb5.mono HBO.out.size)); obtain ⟨y0, y1, y2⟩ := rows3 (HPO.out.below hb5 HPO.out.lt); clear hv5 hb5)
    | (go_at_call 272; refine (rpower_any D2 M _ _ HD5.out (by omega) HL2.out).mono ?_; rintro e w6 ⟨v6, rfl, hv6, ⟨A6, l6, c6, rfl⟩, hb6⟩; have HV6 := Lib.hid hv6; have HB6 := Lib.hid (HB5.out.trans (hb6.mono HB5.out.size)); have HZ6 := Lib.hid hb6; clear hv6 hb6))
  all_goals first
    | (refine bodyPost_ret (results_tmp2 rfl _ _ _) rfl ?_; exact ⟨rfl, HB6.out⟩)
    | (exfalso; have := HNN.out _ HQ.out.2.1; omega)
set_option maxRecDepth 100000 in
set_option maxHeartbeats 2000000 in
theorem refpow_neg_f_yes (a : ByteArray) (q : Rat) (M : Nat) (w : World) (ha : a.size ≤ 270000) (he : errQ a.data.toList = 0) (hq : valQ a.data.toList = q) (hb : ng q = false) (h0 : q ≠ 0) (hM : M ≤ 9223372036854775807) (hM1 : 1 ≤ M) (hf1 : decide (Lib.nDigits (nm q⁻¹ ^ M) ≤ 4000) = true) (hf2 : decide (Lib.nDigits (q⁻¹.den ^ M) ≤ 4000) = true) (r : List UInt8 × Nat) (hW : ∀ v w, IsPartsI w v false (nm q⁻¹ ^ M) (q⁻¹.den ^ M) → Calls Tryz.prog 153 #[v] w fun e w' => e = .returned (.tuple #[.string ⟨r.1.toArray⟩, .int .i64 (r.2 : Int)]) ∧ Below w.heap.size w w') (sq : Sz maxD q) :
    Calls Tryz.prog 240 #[.string a, .int .i64 (-(M : Int))] w fun e w' => e = .returned (.tuple #[.string ⟨r.1.toArray⟩, .int .i64 (r.2 : Int)]) ∧ Below w.heap.size w w' := by
  have HP := Lib.hid (rq_any a w ha)
  have hne : ((errQ a.data.toList : Int) == 0) = true := by rw [he]; rfl
  have HE := Lib.hid he
  rw [hq] at HP
  obtain ⟨lq, lq'⟩ := sz_limbs sq
  have HBQ := Lib.hid hb
  obtain ⟨i1, i2, i3⟩ := inv_parts h0
  have HIV := Lib.hid (And.intro i1 (And.intro i2 i3))
  have HZ := Lib.hid h0
  have HNZ := Lib.hid (fun (N : Nat) (h : nm q = N) => show (((toL N).length : Int) == 0) = false by rw [len_zero, decide_eq_false (fun h2 => h0 (nm_zero.1 (h.trans h2)))])
  have HNN := Lib.hid (fun (N : Nat) (h : nm q = N) => show (toL N).length ≠ 0 from fun h2 => by have := HNZ.out N h; rw [h2] at this; cases this)
  have lr1 : (toL (nm q⁻¹)).length ≤ 500 := by rw [i2]; omega
  have lr2 : (toL q⁻¹.den).length ≤ 500 := by rw [i3]; omega
  obtain ⟨X, hX⟩ : ∃ X, nm q⁻¹ = X := ⟨_, rfl⟩
  obtain ⟨Y, hY⟩ : ∃ Y, q⁻¹.den = Y := ⟨_, rfl⟩
  rw [hX] at hf1 lr1
  rw [hY] at lr2 hf2
  rw [hX, hY] at hW
  have HXX := Lib.hid hX
  have HYY := Lib.hid hY
  clear hX hY
  have hn2 : decide (-(M : Int) < 0) = true := decide_eq_true (by omega)
  have hn3 : (-(M : Int) == -9223372036854775808) = false := by rw [beq_eq_false_iff_ne]; omega
  have HL1 := Lib.hid lr1
  have HL2 := Lib.hid lr2
  have HF1 := Lib.hid hf1
  have HF2 := Lib.hid hf2
  have HW := Lib.hid hW
  have TK1 : True := trivial
  clear he hq hb sq lr1 lr2 hf1 hf2 hW h0 i1 i2 i3
  go_enter Tryz.func240, Tryz.ntmps240
  go_wp2_with (first
    | (go_at_call 155; refine HP.out.mono ?_; rintro e w1 ⟨v, rfl, hv, -, hb⟩; obtain ⟨bq, N, D, A, c, A', c', rfl, hn, hd, HQ⟩ := isQ_open (hv HE.out); have HV := Lib.hid (hv HE.out); have HB := Lib.hid hb; have HX := Lib.hid (below_alloc (Below.refl w1.heap.size w1) (.cells #[.bool bq, .slice A (toL N).length c, .slice A' (toL D).length c'] 170)); have HBX := Lib.hid (HB.out.trans (HX.out.mono HB.out.size)); have HN := Lib.hid (hn.below HX.out); have HD := Lib.hid (hd.below HX.out); have HPB := Lib.hid (Blk.new w1 170 #[.bool bq, .slice A (toL N).length c, .slice A' (toL D).length c']); clear hb hv hn hd; have hln := HNZ.out _ HQ.out.2.1)
    | (go_at_call 156; refine (rover_any q _ _ (HV.out.below HX.out) HZ.out).mono ?_; rintro e w2 ⟨v2, rfl, hv2, hb2⟩; obtain ⟨b2, N2, D2, A2, c2, A2', c2', rfl, hn2', hd2', HQ2⟩ := isQ_open hv2; obtain rfl : b2 = false := HQ2.out.1.symm.trans (HIV.out.1.trans HBQ.out); obtain rfl : N2 = X := HQ2.out.2.1.symm.trans HXX.out; obtain rfl : D2 = Y := HQ2.out.2.2.symm.trans HYY.out; have hp2 := HPB.out.below hb2 HPB.out.lt; obtain ⟨⟨r0, s0⟩, ⟨r1, s1⟩, r2, s2⟩ := cells6P hp2; have HNO := Lib.hid (isNatI_set3 (m' := false) (D := A2) (D' := A2') (a := (toL N2).length) (b := c2) (a' := (toL D2).length) (b' := c2') hn2' hp2); have HDO := Lib.hid (isNatI_set3 (m' := false) (D := A2) (D' := A2') (a := (toL N2).length) (b := c2) (a' := (toL D2).length) (b' := c2') hd2' hp2); have HPO := Lib.hid (set3 (x := .bool false) (y := .slice A2 (toL N2).length c2) (z := .slice A2' (toL D2).length c2') hp2); have HBO := Lib.hid (set3_below (x := .bool false) (y := .slice A2 (toL N2).length c2) (z := .slice A2' (toL D2).length c2') (HBX.out.trans (hb2.mono HBX.out.size)) HB.out.size); clear hv2 hb2 hn2' hd2' hp2)
    | (clear TK1; go_at_call 272; refine (rpower_any N2 M _ _ HNO.out (by omega) HL1.out).mono ?_; rintro e w5 ⟨v5, rfl, hv5, ⟨A5, l5, c5, rfl⟩, hb5⟩; rw [HF1.out]; have HV5 := Lib.hid hv5; have HD5 := Lib.hid (HDO.out.below hb5); have HB5 := Lib.hid (HBO.out.trans (hb5.mono HBO.out.size)); obtain ⟨y0, y1, y2⟩ := rows3 (HPO.out.below hb5 HPO.out.lt); clear hv5 hb5)
    | (go_at_call 272; refine (rpower_any D2 M _ _ HD5.out (by omega) HL2.out).mono ?_; rintro e w6 ⟨v6, rfl, hv6, ⟨A6, l6, c6, rfl⟩, hb6⟩; rw [HF2.out]; have HV6 := Lib.hid hv6; have HB6 := Lib.hid (HB5.out.trans (hb6.mono HB5.out.size)); have HZ6 := Lib.hid hb6; clear hv6 hb6)
    | (go_at_call 153; refine (HW.out _ _ (isPartsI_mk ((HV5.out (of_decide_eq_true HF1.out)).below HZ6.out) (HV6.out (of_decide_eq_true HF2.out)))).mono ?_; rintro e w7 ⟨rfl, hb7⟩; have HB7 := Lib.hid (HB6.out.trans (hb7.mono HB6.out.size)); clear hb7))
  all_goals first
    | (refine bodyPost_ret (results_tmp2 rfl _ _ _) rfl ?_; exact ⟨rfl, HB7.out⟩)
    | (exfalso; have := HNN.out _ HQ.out.2.1; omega)
end Go.Proofs.YtigapglmipmbeaaGreatDoor
namespace Go.Proofs.YtigapglmipmbeaaGreatDoor
open Go.RowKit Go.Shelf
open Lim
section
variable {a b : ByteArray} {p q : Rat} (w : World)
end
end Go.Proofs.YtigapglmipmbeaaGreatDoor
namespace Go.Proofs.YtigapglmipmbeaaGreatDoor
open Go.RowKit Go.Shelf
open Lim
section
variable {a b c : ByteArray} {p q : Rat} (w : World)
end
end Go.Proofs.YtigapglmipmbeaaGreatDoor
