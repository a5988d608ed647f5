/- The reference's Pow of rational numbers (printed by mkrpw.py). How a function hands back results that lie in cells: a struct and an error. Curves of moments in memory, and the iterator over the orders of a curve. Functions of rat on numbers whose result does not fit. Curves of moments in plain rationals: what Check, Of, Add, Fits, To and Best compute. moment.least, between and the chain's steps, where nothing fails. moment.Check. moment.Check: the walk. moment.both and Add. moment.Add: the walk (printed by mkmadd.py). moment.None. The reference's functions of two numbers, on texts of numbers. The reference of chapter 10: at. The reference of chapter 10: both. The reference of chapter 10: then. Curves of canonical texts: sums, sizes, what Add and None come to. Comparing curves. moment.Fits: the walk. moment.Of: the walk. limited, plus and above of losses. above: the loss with the greater parts. fold: losses combined, from None on; Add, Sum and Max. moment.To: the walk (printed by mkmto.py). (printed by mkstage2.py) Regions that draw their order, in stages; a slot may be read by a read and written by one of the others that waits for it: reads (guarded or not) may come as soon as their edges allow, also behind some of the others; the others come in any order that their edges allow. The reference of chapter 10: share and To (printed by mkmref.py). The reference's Pow of a positive number where the result fits. The reference 08: Delta, Distance, Factor, part, Moment (printed by mkdref.py). What Make, Mix, Push and Product give, as rationals. No program in sight. Distributions with a common denominator of few digits: Make, Mix, Push and Product keep them. No program in sight. What Delta, Factor and Moment give, as rationals. No program in sight. -/
import Derived.Test.YtigapglmipmbeaaGreatDoorLwDistMeasures04
import Derived.Test.YtigapglmipmbeaaGreatDoorRb10
import Derived.Test.YtigapglmipmbeaaGreatDoorRb03
import Derived.Test.YtigapglmipmbeaaGreatDoorRb08
import Derived.ArgAppend
import Derived.Deep.AppendLies
import Derived.Test.YtigapglmipmbeaaGreatDoorLwDistMeasures03
import Derived.Test.YtigapglmipmbeaaGreatDoorRb07
import Derived.Test.YtigapglmipmbeaaGreatDoorRb12
import Derived.Test.YtigapglmipmbeaaGreatDoorRb11
namespace Go.Proofs.YtigapglmipmbeaaGreatDoor
open Go.RowKit Go.Shelf
open Lim

/-! ### the plain law of the least exponent -/
theorem cells6P {w : World} {g : Nat} {t : TypeId} {x y z : Value} (h : Blk w g t #[x, y, z]) :
    (w.cell? ⟨g, 0, none⟩ = some x ∧ w.frozen? ⟨g, 0, none⟩ = false) ∧ (w.cell? ⟨g, 1, none⟩ = some y ∧ w.frozen? ⟨g, 1, none⟩ = false) ∧ w.cell? ⟨g, 2, none⟩ = some z ∧ w.frozen? ⟨g, 2, none⟩ = false :=
  ⟨⟨(cellrow h 0 (by simp)).1, h.frozen 0⟩, ⟨(cellrow h 1 (by simp)).1, h.frozen 1⟩, (cellrow h 2 (by simp)).1, h.frozen 2⟩
set_option maxRecDepth 100000 in
set_option maxHeartbeats 2000000 in
theorem refpow_pos_t_no (a : ByteArray) (q : Rat) (M : Nat) (w : World) (ha : a.size ≤ 270000) (he : errQ a.data.toList = 0) (hq : valQ a.data.toList = q) (hb : ng q = true) (hM : M ≤ 9223372036854775807) (hf1 : decide (Lib.nDigits (nm q ^ M) ≤ 4000) = false) (sq : Sz maxD q) :
    Calls Tryz.prog 240 #[.string a, .int .i64 (M : Int)] w fun e w' => e = .returned (.tuple #[.string ⟨#[]⟩, .int .i64 5]) ∧ Below w.heap.size w w' := by
  have HP := Lib.hid (rq_any a w ha)
  have hne : ((errQ a.data.toList : Int) == 0) = true := by rw [he]; rfl
  have HE := Lib.hid he
  rw [hq] at HP
  obtain ⟨lq, lq'⟩ := sz_limbs sq
  have HBQ := Lib.hid hb
  have lr1 : (toL (nm q)).length ≤ 500 := by omega
  have lr2 : (toL q.den).length ≤ 500 := by omega
  have hn2 : decide ((M : Int) < 0) = false := decide_eq_false (by omega)
  have hn3 : ((M : Int) == -9223372036854775808) = false := by rw [beq_eq_false_iff_ne]; omega
  have HL1 := Lib.hid lr1
  have HL2 := Lib.hid lr2
  have HF1 := Lib.hid hf1
  have TK1 : True := trivial
  clear he hq hb sq lr1 lr2 hf1
  go_enter Tryz.func240, Tryz.ntmps240
  go_wp2_with (first
    | (go_at_call 155; refine HP.out.mono ?_; rintro e w1 ⟨v, rfl, hv, -, hb⟩; obtain ⟨bq, N, D, A, c, A', c', rfl, hn, hd, HQ⟩ := isQ_open (hv HE.out); have HV := Lib.hid (hv HE.out); have HB := Lib.hid hb; have HX := Lib.hid (below_alloc (Below.refl w1.heap.size w1) (.cells #[.bool bq, .slice A (toL N).length c, .slice A' (toL D).length c'] 170)); have HBX := Lib.hid (HB.out.trans (HX.out.mono HB.out.size)); have HN := Lib.hid (hn.below HX.out); have HD := Lib.hid (hd.below HX.out); have HPB := Lib.hid (Blk.new w1 170 #[.bool bq, .slice A (toL N).length c, .slice A' (toL D).length c']); clear hb hv hn hd; obtain rfl : bq = true := HQ.out.1.symm.trans HBQ.out; obtain rfl := HQ.out.2.1; obtain rfl := HQ.out.2.2)
    | (go_at_call 271; refine (odd_any (M : Int) _ (by omega) (by omega)).mono ?_; rintro e w4 ⟨rfl, hw4⟩; subst hw4)
    | (clear TK1; go_at_call 272; refine (rpower_any (nm q) M _ _ HN.out (by omega) HL1.out).mono ?_; rintro e w5 ⟨v5, rfl, hv5, ⟨A5, l5, c5, rfl⟩, hb5⟩; rw [HF1.out]; have HV5 := Lib.hid hv5; have HD5 := Lib.hid (HD.out.below hb5); have HB5 := Lib.hid (HBX.out.trans (hb5.mono HBX.out.size)); obtain ⟨y0, y1, y2⟩ := rows3 (HPB.out.below hb5 HPB.out.lt); clear hv5 hb5)
    | (go_at_call 272; refine (rpower_any q.den M _ _ HD5.out (by omega) HL2.out).mono ?_; rintro e w6 ⟨v6, rfl, hv6, ⟨A6, l6, c6, rfl⟩, hb6⟩; have HV6 := Lib.hid hv6; have HB6 := Lib.hid (HB5.out.trans (hb6.mono HB5.out.size)); have HZ6 := Lib.hid hb6; clear hv6 hb6))
  all_goals first
    | (refine bodyPost_ret (results_tmp2 rfl _ _ _) rfl ?_; exact ⟨rfl, HB6.out⟩)
    | (exfalso; omega)
set_option maxRecDepth 100000 in
set_option maxHeartbeats 2000000 in
theorem refpow_pos_f_yes (a : ByteArray) (q : Rat) (M : Nat) (w : World) (ha : a.size ≤ 270000) (he : errQ a.data.toList = 0) (hq : valQ a.data.toList = q) (hb : ng q = false) (hM : M ≤ 9223372036854775807) (hf1 : decide (Lib.nDigits (nm q ^ M) ≤ 4000) = true) (hf2 : decide (Lib.nDigits (q.den ^ M) ≤ 4000) = true) (r : List UInt8 × Nat) (hW : ∀ v w, IsPartsI w v false (nm q ^ M) (q.den ^ M) → Calls Tryz.prog 153 #[v] w fun e w' => e = .returned (.tuple #[.string ⟨r.1.toArray⟩, .int .i64 (r.2 : Int)]) ∧ Below w.heap.size w w') (sq : Sz maxD q) :
    Calls Tryz.prog 240 #[.string a, .int .i64 (M : Int)] w fun e w' => e = .returned (.tuple #[.string ⟨r.1.toArray⟩, .int .i64 (r.2 : Int)]) ∧ Below w.heap.size w w' := by
  have HP := Lib.hid (rq_any a w ha)
  have hne : ((errQ a.data.toList : Int) == 0) = true := by rw [he]; rfl
  have HE := Lib.hid he
  rw [hq] at HP
  obtain ⟨lq, lq'⟩ := sz_limbs sq
  have HBQ := Lib.hid hb
  have lr1 : (toL (nm q)).length ≤ 500 := by omega
  have lr2 : (toL q.den).length ≤ 500 := by omega
  have hn2 : decide ((M : Int) < 0) = false := decide_eq_false (by omega)
  have hn3 : ((M : Int) == -9223372036854775808) = false := by rw [beq_eq_false_iff_ne]; omega
  have HL1 := Lib.hid lr1
  have HL2 := Lib.hid lr2
  have HF1 := Lib.hid hf1
  have HF2 := Lib.hid hf2
  have HW := Lib.hid hW
  have TK1 : True := trivial
  clear he hq hb sq lr1 lr2 hf1 hf2 hW
  go_enter Tryz.func240, Tryz.ntmps240
  go_wp2_with (first
    | (go_at_call 155; refine HP.out.mono ?_; rintro e w1 ⟨v, rfl, hv, -, hb⟩; obtain ⟨bq, N, D, A, c, A', c', rfl, hn, hd, HQ⟩ := isQ_open (hv HE.out); have HV := Lib.hid (hv HE.out); have HB := Lib.hid hb; have HX := Lib.hid (below_alloc (Below.refl w1.heap.size w1) (.cells #[.bool bq, .slice A (toL N).length c, .slice A' (toL D).length c'] 170)); have HBX := Lib.hid (HB.out.trans (HX.out.mono HB.out.size)); have HN := Lib.hid (hn.below HX.out); have HD := Lib.hid (hd.below HX.out); have HPB := Lib.hid (Blk.new w1 170 #[.bool bq, .slice A (toL N).length c, .slice A' (toL D).length c']); clear hb hv hn hd; obtain rfl : bq = false := HQ.out.1.symm.trans HBQ.out; obtain rfl := HQ.out.2.1; obtain rfl := HQ.out.2.2)
    | (clear TK1; go_at_call 272; refine (rpower_any (nm q) M _ _ HN.out (by omega) HL1.out).mono ?_; rintro e w5 ⟨v5, rfl, hv5, ⟨A5, l5, c5, rfl⟩, hb5⟩; rw [HF1.out]; have HV5 := Lib.hid hv5; have HD5 := Lib.hid (HD.out.below hb5); have HB5 := Lib.hid (HBX.out.trans (hb5.mono HBX.out.size)); obtain ⟨y0, y1, y2⟩ := rows3 (HPB.out.below hb5 HPB.out.lt); clear hv5 hb5)
    | (go_at_call 272; refine (rpower_any q.den M _ _ HD5.out (by omega) HL2.out).mono ?_; rintro e w6 ⟨v6, rfl, hv6, ⟨A6, l6, c6, rfl⟩, hb6⟩; rw [HF2.out]; have HV6 := Lib.hid hv6; have HB6 := Lib.hid (HB5.out.trans (hb6.mono HB5.out.size)); have HZ6 := Lib.hid hb6; clear hv6 hb6)
    | (go_at_call 153; refine (HW.out _ _ (isPartsI_mk ((HV5.out (of_decide_eq_true HF1.out)).below HZ6.out) (HV6.out (of_decide_eq_true HF2.out)))).mono ?_; rintro e w7 ⟨rfl, hb7⟩; have HB7 := Lib.hid (HB6.out.trans (hb7.mono HB6.out.size)); clear hb7))
  all_goals first
    | (refine bodyPost_ret (results_tmp2 rfl _ _ _) rfl ?_; exact ⟨rfl, HB7.out⟩)
    | (exfalso; omega)
set_option maxRecDepth 100000 in
set_option maxHeartbeats 2000000 in
theorem refpow_neg_t_no (a : ByteArray) (q : Rat) (M : Nat) (w : World) (ha : a.size ≤ 270000) (he : errQ a.data.toList = 0) (hq : valQ a.data.toList = q) (hb : ng q = true) (h0 : q ≠ 0) (hM : M ≤ 9223372036854775807) (hM1 : 1 ≤ M) (hf1 : decide (Lib.nDigits (nm q⁻¹ ^ M) ≤ 4000) = false) (sq : Sz maxD q) :
    Calls Tryz.prog 240 #[.string a, .int .i64 (-(M : Int))] w fun e w' => e = .returned (.tuple #[.string ⟨#[]⟩, .int .i64 5]) ∧ Below w.heap.size w w' := by
  have HP := Lib.hid (rq_any a w ha)
  have hne : ((errQ a.data.toList : Int) == 0) = true := by rw [he]; rfl
  have HE := Lib.hid he
  rw [hq] at HP
  obtain ⟨lq, lq'⟩ := sz_limbs sq
  have HBQ := Lib.hid hb
  obtain ⟨i1, i2, i3⟩ := inv_parts h0
  have HIV := Lib.hid (And.intro i1 (And.intro i2 i3))
  have HZ := Lib.hid h0
  have HNZ := Lib.hid (fun (N : Nat) (h : nm q = N) => show (((toL N).length : Int) == 0) = false by rw [len_zero, decide_eq_false (fun h2 => h0 (nm_zero.1 (h.trans h2)))])
  have HNN := Lib.hid (fun (N : Nat) (h : nm q = N) => show (toL N).length ≠ 0 from fun h2 => by have := HNZ.out N h; rw [h2] at this; cases this)
  have lr1 : (toL (nm q⁻¹)).length ≤ 500 := by rw [i2]; omega
  have lr2 : (toL q⁻¹.den).length ≤ 500 := by rw [i3]; omega
  obtain ⟨X, hX⟩ : ∃ X, nm q⁻¹ = X := ⟨_, rfl⟩
  obtain ⟨Y, hY⟩ : ∃ Y, q⁻¹.den = Y := ⟨_, rfl⟩
  rw [hX] at hf1 lr1
  rw [hY] at lr2
  have HXX := Lib.hid hX
  have HYY := Lib.hid hY
  clear hX hY
  have hn2 : decide (-(M : Int) < 0) = true := decide_eq_true (by omega)
  have hn3 : (-(M : Int) == -9223372036854775808) = false := by rw [beq_eq_false_iff_ne]; omega
  have HL1 := Lib.hid lr1
  have HL2 := Lib.hid lr2
  have HF1 := Lib.hid hf1
  have TK1 : True := trivial
  clear he hq hb sq lr1 lr2 hf1 h0 i1 i2 i3
  go_enter Tryz.func240, Tryz.ntmps240
  go_wp2_with (first
    | (go_at_call 155; refine HP.out.mono ?_; rintro e w1 ⟨v, rfl, hv, -, hb⟩; obtain ⟨bq, N, D, A, c, A', c', rfl, hn, hd, HQ⟩ := isQ_open (hv HE.out); have HV := Lib.hid (hv HE.out); have HB := Lib.hid hb; have HX := Lib.hid (below_alloc (Below.refl w1.heap.size w1) (.cells #[.bool bq, .slice A (toL N).length c, .slice A' (toL D).length c'] 170)); have HBX := Lib.hid (HB.out.trans (HX.out.mono HB.out.size)); have HN := Lib.hid (hn.below HX.out); have HD := Lib.hid (hd.below HX.out); have HPB := Lib.hid (Blk.new w1 170 #[.bool bq, .slice A (toL N).length c, .slice A' (toL D).length c']); clear hb hv hn hd; have hln := HNZ.out _ HQ.out.2.1)
    | (go_at_call 156; refine (rover_any q _ _ (HV.out.below HX.out) HZ.out).mono ?_; rintro e w2 ⟨v2, rfl, hv2, hb2⟩; obtain ⟨b2, N2, D2, A2, c2, A2', c2', rfl, hn2', hd2', HQ2⟩ := isQ_open hv2; obtain rfl : b2 = true := HQ2.out.1.symm.trans (HIV.out.1.trans HBQ.out); obtain rfl : N2 = X := HQ2.out.2.1.symm.trans HXX.out; obtain rfl : D2 = Y := HQ2.out.2.2.symm.trans HYY.out; have hp2 := HPB.out.below hb2 HPB.out.lt; obtain ⟨⟨r0, s0⟩, ⟨r1, s1⟩, r2, s2⟩ := cells6P hp2; have HNO := Lib.hid (isNatI_set3 (m' := true) (D := A2) (D' := A2') (a := (toL N2).length) (b := c2) (a' := (toL D2).length) (b' := c2') hn2' hp2); have HDO := Lib.hid (isNatI_set3 (m' := true) (D := A2) (D' := A2') (a := (toL N2).length) (b := c2) (a' := (toL D2).length) (b' := c2') hd2' hp2); have HPO := Lib.hid (set3 (x := .bool true) (y := .slice A2 (toL N2).length c2) (z := .slice A2' (toL D2).length c2') hp2); have HBO := Lib.hid (set3_below (x := .bool true) (y := .slice A2 (toL N2).length c2) (z := .slice A2' (toL D2).length c2') (HBX.out.trans (hb2.mono HBX.out.size)) HB.out.size); clear hv2 hb2 hn2' hd2' hp2)
    | (go_at_call 271; refine (odd_any (-(M : Int)) _ (by omega) (by omega)).mono ?_; rintro e w4 ⟨rfl, hw4⟩; subst hw4)
    | (clear TK1; go_at_call 272; refine (rpower_any N2 M _ _ HNO.out (by omega) HL1.out).mono ?_; rintro e w5 ⟨v5, rfl, hv5, ⟨A5, l5, c5, rfl⟩, hb5⟩; rw [HF1.out]; have HV5 := Lib.hid hv5; have HD5 := Lib.hid (HDO.out.below hb5); have HB5 := Lib.hid (HBO.out.trans (hb5.mono HBO.out.size)); obtain ⟨y0, y1, y2⟩ := rows3 (HPO.out.below hb5 HPO.out.lt); clear hv5 hb5)
    | (go_at_call 272; refine (rpower_any D2 M _ _ HD5.out (by omega) HL2.out).mono ?_; rintro e w6 ⟨v6, rfl, hv6, ⟨A6, l6, c6, rfl⟩, hb6⟩; have HV6 := Lib.hid hv6; have HB6 := Lib.hid (HB5.out.trans (hb6.mono HB5.out.size)); have HZ6 := Lib.hid hb6; clear hv6 hb6))
  all_goals first
    | (refine bodyPost_ret (results_tmp2 rfl _ _ _) rfl ?_; exact ⟨rfl, HB6.out⟩)
    | (exfalso; have := HNN.out _ HQ.out.2.1; omega)
set_option maxRecDepth 100000 in
set_option maxHeartbeats 2000000 in
theorem refpow_neg_f_yes (a : ByteArray) (q : Rat) (M : Nat) (w : World) (ha : a.size ≤ 270000) (he : errQ a.data.toList = 0) (hq : valQ a.data.toList = q) (hb : ng q = false) (h0 : q ≠ 0) (hM : M ≤ 9223372036854775807) (hM1 : 1 ≤ M) (hf1 : decide (Lib.nDigits (nm q⁻¹ ^ M) ≤ 4000) = true) (hf2 : decide (Lib.nDigits (q⁻¹.den ^ M) ≤ 4000) = true) (r : List UInt8 × Nat) (hW : ∀ v w, IsPartsI w v false (nm q⁻¹ ^ M) (q⁻¹.den ^ M) → Calls Tryz.prog 153 #[v] w fun e w' => e = .returned (.tuple #[.string ⟨r.1.toArray⟩, .int .i64 (r.2 : Int)]) ∧ Below w.heap.size w w') (sq : Sz maxD q) :
    Calls Tryz.prog 240 #[.string a, .int .i64 (-(M : Int))] w fun e w' => e = .returned (.tuple #[.string ⟨r.1.toArray⟩, .int .i64 (r.2 : Int)]) ∧ Below w.heap.size w w' := by
  have HP := Lib.hid (rq_any a w ha)
  have hne : ((errQ a.data.toList : Int) == 0) = true := by rw [he]; rfl
  have HE := Lib.hid he
  rw [hq] at HP
  obtain ⟨lq, lq'⟩ := sz_limbs sq
  have HBQ := Lib.hid hb
  obtain ⟨i1, i2, i3⟩ := inv_parts h0
  have HIV := Lib.hid (And.intro i1 (And.intro i2 i3))
  have HZ := Lib.hid h0
  have HNZ := Lib.hid (fun (N : Nat) (h : nm q = N) => show (((toL N).length : Int) == 0) = false by rw [len_zero, decide_eq_false (fun h2 => h0 (nm_zero.1 (h.trans h2)))])
  have HNN := Lib.hid (fun (N : Nat) (h : nm q = N) => show (toL N).length ≠ 0 from fun h2 => by have := HNZ.out N h; rw [h2] at this; cases this)
  have lr1 : (toL (nm q⁻¹)).length ≤ 500 := by rw [i2]; omega
  have lr2 : (toL q⁻¹.den).length ≤ 500 := by rw [i3]; omega
  obtain ⟨X, hX⟩ : ∃ X, nm q⁻¹ = X := ⟨_, rfl⟩
  obtain ⟨Y, hY⟩ : ∃ Y, q⁻¹.den = Y := ⟨_, rfl⟩
  rw [hX] at hf1 lr1
  rw [hY] at lr2 hf2
  rw [hX, hY] at hW
  have HXX := Lib.hid hX
  have HYY := Lib.hid hY
  clear hX hY
  have hn2 : decide (-(M : Int) < 0) = true := decide_eq_true (by omega)
  have hn3 : (-(M : Int) == -9223372036854775808) = false := by rw [beq_eq_false_iff_ne]; omega
  have HL1 := Lib.hid lr1
  have HL2 := Lib.hid lr2
  have HF1 := Lib.hid hf1
  have HF2 := Lib.hid hf2
  have HW := Lib.hid hW
  have TK1 : True := trivial
  clear he hq hb sq lr1 lr2 hf1 hf2 hW h0 i1 i2 i3
  go_enter Tryz.func240, Tryz.ntmps240
  go_wp2_with (first
    | (go_at_call 155; refine HP.out.mono ?_; rintro e w1 ⟨v, rfl, hv, -, hb⟩; obtain ⟨bq, N, D, A, c, A', c', rfl, hn, hd, HQ⟩ := isQ_open (hv HE.out); have HV := Lib.hid (hv HE.out); have HB := Lib.hid hb; have HX := Lib.hid (below_alloc (Below.refl w1.heap.size w1) (.cells #[.bool bq, .slice A (toL N).length c, .slice A' (toL D).length c'] 170)); have HBX := Lib.hid (HB.out.trans (HX.out.mono HB.out.size)); have HN := Lib.hid (hn.below HX.out); have HD := Lib.hid (hd.below HX.out); have HPB := Lib.hid (Blk.new w1 170 #[.bool bq, .slice A (toL N).length c, .slice A' (toL D).length c']); clear hb hv hn hd; have hln := HNZ.out _ HQ.out.2.1)
    | (go_at_call 156; refine (rover_any q _ _ (HV.out.below HX.out) HZ.out).mono ?_; rintro e w2 ⟨v2, rfl, hv2, hb2⟩; obtain ⟨b2, N2, D2, A2, c2, A2', c2', rfl, hn2', hd2', HQ2⟩ := isQ_open hv2; obtain rfl : b2 = false := HQ2.out.1.symm.trans (HIV.out.1.trans HBQ.out); obtain rfl : N2 = X := HQ2.out.2.1.symm.trans HXX.out; obtain rfl : D2 = Y := HQ2.out.2.2.symm.trans HYY.out; have hp2 := HPB.out.below hb2 HPB.out.lt; obtain ⟨⟨r0, s0⟩, ⟨r1, s1⟩, r2, s2⟩ := cells6P hp2; have HNO := Lib.hid (isNatI_set3 (m' := false) (D := A2) (D' := A2') (a := (toL N2).length) (b := c2) (a' := (toL D2).length) (b' := c2') hn2' hp2); have HDO := Lib.hid (isNatI_set3 (m' := false) (D := A2) (D' := A2') (a := (toL N2).length) (b := c2) (a' := (toL D2).length) (b' := c2') hd2' hp2); have HPO := Lib.hid (set3 (x := .bool false) (y := .slice A2 (toL N2).length c2) (z := .slice A2' (toL D2).length c2') hp2); have HBO := Lib.hid (set3_below (x := .bool false) (y := .slice A2 (toL N2).length c2) (z := .slice A2' (toL D2).length c2') (HBX.out.trans (hb2.mono HBX.out.size)) HB.out.size); clear hv2 hb2 hn2' hd2' hp2)
    | (clear TK1; go_at_call 272; refine (rpower_any N2 M _ _ HNO.out (by omega) HL1.out).mono ?_; rintro e w5 ⟨v5, rfl, hv5, ⟨A5, l5, c5, rfl⟩, hb5⟩; rw [HF1.out]; have HV5 := Lib.hid hv5; have HD5 := Lib.hid (HDO.out.below hb5); have HB5 := Lib.hid (HBO.out.trans (hb5.mono HBO.out.size)); obtain ⟨y0, y1, y2⟩ := rows3 (HPO.out.below hb5 HPO.out.lt); clear hv5 hb5)
    | (go_at_call 272; refine (rpower_any D2 M _ _ HD5.out (by omega) HL2.out).mono ?_; rintro e w6 ⟨v6, rfl, hv6, ⟨A6, l6, c6, rfl⟩, hb6⟩; rw [HF2.out]; have HV6 := Lib.hid hv6; have HB6 := Lib.hid (HB5.out.trans (hb6.mono HB5.out.size)); have HZ6 := Lib.hid hb6; clear hv6 hb6)
    | (go_at_call 153; refine (HW.out _ _ (isPartsI_mk ((HV5.out (of_decide_eq_true HF1.out)).below HZ6.out) (HV6.out (of_decide_eq_true HF2.out)))).mono ?_; rintro e w7 ⟨rfl, hb7⟩; have HB7 := Lib.hid (HB6.out.trans (hb7.mono HB6.out.size)); clear hb7))
  all_goals first
    | (refine bodyPost_ret (results_tmp2 rfl _ _ _) rfl ?_; exact ⟨rfl, HB7.out⟩)
    | (exfalso; have := HNN.out _ HQ.out.2.1; omega)
end Go.Proofs.YtigapglmipmbeaaGreatDoor
namespace Go.Proofs.YtigapglmipmbeaaGreatDoor
open Go.RowKit Go.Shelf
open Lim

section
variable {fn : Func} {p q u : Tmp} {tmps : Array Value} {W : World} {g e : Nat} {T : TypeId} {x : Value} {n : Int}
end
end Go.Proofs.YtigapglmipmbeaaGreatDoor
namespace Go.Proofs.YtigapglmipmbeaaGreatDoor
open Go.RowKit Go.Shelf
open Lim

/-- The eight texts of a curve: seven moments and the lateness. -/
abbrev CT := Nat → ByteArray
def cvA (c : CT) : Array Value := #[.string (c 0), .string (c 1), .string (c 2), .string (c 3), .string (c 4), .string (c 5), .string (c 6), .string (c 7)]
def upd (c : CT) (k : Nat) (x : ByteArray) : CT := fun j => if j = k then x else c j
theorem cvA_set (c : CT) {k : Nat} (hk : k < 8) (x : ByteArray) : (cvA c).setIfInBounds k (.string x) = cvA (upd c k x) := by
  match k, hk with
  | 0, _ => rfl
  | 1, _ => rfl
  | 2, _ => rfl
  | 3, _ => rfl
  | 4, _ => rfl
  | 5, _ => rfl
  | 6, _ => rfl
  | 7, _ => rfl
theorem cvA_get (c : CT) {k : Nat} (hk : k < 8) : (cvA c)[k]? = some (.string (c k)) := by
  match k, hk with
  | 0, _ => rfl
  | 1, _ => rfl
  | 2, _ => rfl
  | 3, _ => rfl
  | 4, _ => rfl
  | 5, _ => rfl
  | 6, _ => rfl
  | 7, _ => rfl
theorem cvA_ext {c c' : CT} (h : ∀ k, k < 8 → c k = c' k) : cvA c = cvA c' := by
  unfold cvA
  rw [h 0 (by omega), h 1 (by omega), h 2 (by omega), h 3 (by omega), h 4 (by omega), h 5 (by omega), h 6 (by omega), h 7 (by omega)]
/-- A curve in a block of its own. -/
def CBlk (W : World) (g : Nat) (c : CT) : Prop := Blk W g 59 (cvA c)
section
variable {W W' : World} {g : Nat} {c : CT}
theorem CBlk.lt (h : CBlk W g c) : g < W.heap.size := Blk.lt h
theorem CBlk.cell (h : CBlk W g c) {k : Nat} (hk : k < 8) : W.cell? ⟨g, k, none⟩ = some (.string (c k)) := by
  rw [Blk.cell h, cvA_get c hk]
theorem CBlk.frozen (h : CBlk W g c) (i : Nat) : W.frozen? ⟨g, i, none⟩ = false := Blk.frozen h i
end
/-! ### the iterator -/
end Go.Proofs.YtigapglmipmbeaaGreatDoor
namespace Go.Proofs.YtigapglmipmbeaaGreatDoor
open Go.RowKit Go.Shelf
open Lim

section
variable {a b : ByteArray} {p q : Rat} (w : World)
end
end Go.Proofs.YtigapglmipmbeaaGreatDoor
namespace Go.Proofs.YtigapglmipmbeaaGreatDoor
open Go.RowKit Go.Shelf
open Lim

end Go.Proofs.YtigapglmipmbeaaGreatDoor
namespace Go.Proofs.YtigapglmipmbeaaGreatDoor
open Go.RowKit Go.Shelf
open Lim

end Go.Proofs.YtigapglmipmbeaaGreatDoor
namespace Go.Proofs.YtigapglmipmbeaaGreatDoor
open Go.RowKit Go.Shelf
open Lim

end Go.Proofs.YtigapglmipmbeaaGreatDoor
namespace Go.Proofs.YtigapglmipmbeaaGreatDoor
open Go.RowKit Go.Shelf
open Lim

attribute [local go_sem] Oper.semAt_some

def olds7 (c : CT) : List Value := [.string (c 0), .string (c 1), .string (c 2), .string (c 3), .string (c 4), .string (c 5), .string (c 6)]
theorem cells_olds {W : World} {g : Nat} {c : CT} (h : CBlk W g c) : ∀ j u, (olds7 c)[j]? = some u → W.cell? ((⟨g, 0, none⟩ : Addr).add j) = some u := by
  intro j u hj
  have hlt : j < 7 := (List.getElem?_eq_some_iff.1 hj).1
  have e : (⟨g, 0, none⟩ : Addr).add j = ⟨g, j, none⟩ := by unfold Addr.add; split <;> simp_all
  rw [e, h.cell (by omega)]
  match j, hlt, hj with
  | 0, _, hj => exact hj
  | 1, _, hj => exact hj
  | 2, _, hj => exact hj
  | 3, _, hj => exact hj
  | 4, _, hj => exact hj
  | 5, _, hj => exact hj
  | 6, _, hj => exact hj
/-- Eight texts in a row. -/
def RowT (W : World) (g : Nat) (c : CT) : Prop := ∀ k, k < 8 → W.cell? ⟨g, k, none⟩ = some (.string (c k))
theorem rowT_of {W : World} {base e g cap : Nat} {c : CT} (h : W.ownsRow base e 1 (.slice (some ⟨g, 0, none⟩) (7 + 1) cap) (7 + 1) (olds7 c ++ [.string (c 7)])) : RowT W g c := by
  intro k hk
  have h2 := h.cells (g := g) rfl k (.string (c k)) (by
    match k, hk with
    | 0, _ => rfl
    | 1, _ => rfl
    | 2, _ => rfl
    | 3, _ => rfl
    | 4, _ => rfl
    | 5, _ => rfl
    | 6, _ => rfl
    | 7, _ => rfl)
  rwa [show (⟨g, 0, none⟩ : Addr).add k = ⟨g, k, none⟩ by unfold Addr.add; split <;> simp_all] at h2
theorem eight (c : CT) {k : Nat} (hk : k < 8) : [c 0, c 1, c 2, c 3, c 4, c 5, c 6, c 7][k]? = some (c k) := by
  match k, hk with
  | 0, _ => rfl
  | 1, _ => rfl
  | 2, _ => rfl
  | 3, _ => rfl
  | 4, _ => rfl
  | 5, _ => rfl
  | 6, _ => rfl
  | 7, _ => rfl
end Go.Proofs.YtigapglmipmbeaaGreatDoor
namespace Go.Proofs.YtigapglmipmbeaaGreatDoor
open Go.RowKit Go.Shelf
open Lim

attribute [local go_sem] Oper.semAt_some

/-- A curve's value. -/
abbrev cv (c : CT) : Value := .agg #[.string (c 0), .string (c 1), .string (c 2), .string (c 3), .string (c 4), .string (c 5), .string (c 6), .string (c 7)]
end Go.Proofs.YtigapglmipmbeaaGreatDoor
namespace Go.Proofs.YtigapglmipmbeaaGreatDoor
open Go.RowKit Go.Shelf
open Lim

attribute [local go_sem] Oper.semAt_some

end Go.Proofs.YtigapglmipmbeaaGreatDoor
namespace Go.Proofs.YtigapglmipmbeaaGreatDoor
open Go.RowKit Go.Shelf
open Lim

end Go.Proofs.YtigapglmipmbeaaGreatDoor
namespace Go.Proofs.YtigapglmipmbeaaGreatDoor
open Go.RowKit Go.Shelf
open Lim

section
variable {a b c : ByteArray} {p q : Rat} (w : World)
end
end Go.Proofs.YtigapglmipmbeaaGreatDoor
namespace Go.Proofs.YtigapglmipmbeaaGreatDoor
open Go.RowKit Go.Shelf
open Lim

end Go.Proofs.YtigapglmipmbeaaGreatDoor
namespace Go.Proofs.YtigapglmipmbeaaGreatDoor
open Go.RowKit Go.Shelf
open Lim

end Go.Proofs.YtigapglmipmbeaaGreatDoor
namespace Go.Proofs.YtigapglmipmbeaaGreatDoor
open Go.RowKit Go.Shelf
open Lim

end Go.Proofs.YtigapglmipmbeaaGreatDoor
namespace Go.Proofs.YtigapglmipmbeaaGreatDoor
open Go.RowKit Go.Shelf
open Lim

section
variable {a b : CT} {m n : Nat → Rat} {j k : Nat}
end
/-! ### None -/
/-! ### the order of curves -/
end Go.Proofs.YtigapglmipmbeaaGreatDoor
namespace Go.Proofs.YtigapglmipmbeaaGreatDoor
open Go.RowKit Go.Shelf
open Lim

end Go.Proofs.YtigapglmipmbeaaGreatDoor
namespace Go.Proofs.YtigapglmipmbeaaGreatDoor
open Go.RowKit Go.Shelf
open Lim

attribute [local go_sem] Oper.semAt_some

end Go.Proofs.YtigapglmipmbeaaGreatDoor
namespace Go.Proofs.YtigapglmipmbeaaGreatDoor
open Go.RowKit Go.Shelf
open Lim

attribute [local go_sem] Oper.semAt_some

end Go.Proofs.YtigapglmipmbeaaGreatDoor
namespace Go.Proofs.YtigapglmipmbeaaGreatDoor
open Go.RowKit Go.Shelf
open Lim

/-! ### plus -/
end Go.Proofs.YtigapglmipmbeaaGreatDoor
namespace Go.Proofs.YtigapglmipmbeaaGreatDoor
open Go.RowKit Go.Shelf
open Lim

end Go.Proofs.YtigapglmipmbeaaGreatDoor
namespace Go.Proofs.YtigapglmipmbeaaGreatDoor
open Go.RowKit Go.Shelf
open Lim

end Go.Proofs.YtigapglmipmbeaaGreatDoor
namespace Go.Proofs.YtigapglmipmbeaaGreatDoor
open Go.RowKit Go.Shelf
open Lim

attribute [local go_sem] Oper.semAt_some

end Go.Proofs.YtigapglmipmbeaaGreatDoor
namespace Go.Proofs.YtigapglmipmbeaaGreatDoor.S2
open Go.RowKit Go.Proofs.YtigapglmipmbeaaGreatDoor

/-- A read, guarded or not. -/
def bareRead (o : Oper) : Bool := pureRead { o with guard := none }
/-- H: the indices of the reads. -/
def stageOk (ops : List Oper) (H : List Nat) : Bool :=
  (List.range ops.length).all fun j => match ops[j]? with
    | none => true
    | some o => ownEdges j o && noDefer o && noSel o && (match o.guard with | none => true | some (k, _) => waitsOn o k) &&
      (if H.contains j then bareRead o && farOf o o.dst else true) &&
      (List.range ops.length).all fun i => i == j || (match ops[i]? with | none => true | some h => (waitsOn o i || (farOf o h.dst || (waitsOn h j && !H.contains i))) && (h.dst.isNone || h.dst != o.dst))
structure StOk (ops : List Oper) (H : List Nat) (j : Nat) (o : Oper) : Prop where
  edges : ownEdges j o = true
  nd : noDefer o = true
  ns : noSel o = true
  gd : ∀ k b, o.guard = some (k, b) → waitsOn o k = true
  rd : j ∈ H → bareRead o = true ∧ farOf o o.dst = true
  far : ∀ i h, i ≠ j → ops[i]? = some h → (waitsOn o i = true ∨ farOf o h.dst = true ∨ (waitsOn h j = true ∧ i ∉ H)) ∧ (h.dst = none ∨ h.dst ≠ o.dst)
theorem stage_at {ops : List Oper} {H : List Nat} (hok : stageOk ops H = true) {j : Nat} {o : Oper} (hj : ops[j]? = some o) : StOk ops H j o := by
  have hlt : j < ops.length := (List.getElem?_eq_some_iff.1 hj).1
  have h2 := List.all_eq_true.1 hok j (List.mem_range.2 hlt)
  rw [hj] at h2
  simp only [Bool.and_eq_true] at h2
  obtain ⟨⟨⟨⟨⟨h3, h4⟩, h5⟩, h6⟩, h7⟩, h8⟩ := h2
  refine ⟨h3, h4, h5, fun k b hg => ?_, fun hm => ?_, fun i h hne hi => ?_⟩
  · rw [hg] at h6; exact h6
  · rw [if_pos (by simpa using hm)] at h7; simpa using h7
  · have := List.all_eq_true.1 h8 i (List.mem_range.2 (List.getElem?_eq_some_iff.1 hi).1)
    rw [hi] at this
    simp only [Bool.or_eq_true, beq_iff_eq, Bool.and_eq_true, Option.isNone_iff_eq_none, bne_iff_ne] at this
    rcases this with h | h
    · exact absurd h hne
    · refine ⟨?_, h.2⟩
      rcases h.1 with h1 | h1 | h1
      · exact .inl h1
      · exact .inr (.inl h1)
      · exact .inr (.inr ⟨h1.1, by have h2 := h1.2; simpa using h2⟩)

section
variable {F : Fence} {n : Nat} {P : Program} {C : World → Prop} {ops : List Oper} {H : List Nat}
theorem bare_runs {o : Oper} {a : Act} {K' : Act → World → Prop} {Q : Exit → Act → World → Prop} {w : World} {v : Value} (hp : bareRead o = true) (hrun : o.quietAtIn F n P a C w v) (hK : K' (a.put o.dst v) w)
    (ha : ∀ f, o.about P w a.eval = some f → F.fn f) : o.wpIn F n P a w K' Q := pure_runs (o := { o with guard := none }) hp hrun hK ha

theorem wanted_of {o : Oper} {a b : Act} (h : ∀ k bb, o.guard = some (k, bb) → ∀ s, (ops[k]?).bind (·.dst) = some s → a.tmps[s]? = b.tmps[s]?) :
    Region.wanted o (yielded ops.toArray a.tmps) = Region.wanted o (yielded ops.toArray b.tmps) := by
  unfold Region.wanted
  cases hg : o.guard with
  | none => rfl
  | some kb =>
    obtain ⟨k, bb⟩ := kb
    have : yielded ops.toArray a.tmps k = yielded ops.toArray b.tmps k := by
      unfold yielded
      rw [List.getElem?_toArray]
      cases hd : (ops[k]?).bind (·.dst) with
      | none => rfl
      | some s =>
        simp only [Option.bind_some]
        rw [h k bb hg s hd]
    simp only [this]

/-- What a read gives at a frame. -/
def HeadVal (F : Fence) (n : Nat) (P : Program) (C : World → Prop) (ops : List Oper) (o : Oper) (b : Act) (v : Value) : Prop :=
  o.askedIn F P b C ∧ ((Region.wanted o (yielded ops.toArray b.tmps) = true ∧ ∀ w, C w → o.quietAtIn F n P b C w v) ∨ (Region.wanted o (yielded ops.toArray b.tmps) = false ∧ v = undef))
theorem slot_other {b : Act} {d : Option Tmp} {u : Value} {s : Tmp} (h : d ≠ some s) : (b.put d u).tmps[s]? = b.tmps[s]? := by
  cases d with
  | none => rfl
  | some e => rw [put_get, if_neg (fun h' => h (by rw [h'.1]))]
/-- It gives the same at each frame that agrees in what it reads. -/
theorem HeadVal.of {o : Oper} {a b : Act} {v : Value} (h : HeadVal F n P C ops o b v) (hns : noSel o = true) (hev : ∀ x ∈ o.op.operands, a.eval x = b.eval x)
    (hg : ∀ k bb, o.guard = some (k, bb) → ∀ s, (ops[k]?).bind (·.dst) = some s → a.tmps[s]? = b.tmps[s]?) : HeadVal F n P C ops o a v := by
  obtain ⟨h1, h2⟩ := h
  obtain ⟨e1, e2⟩ := quietAt_of (P := P) (sel_of hns) hev
  refine ⟨fun w hw f hf => h1 w hw f (by rw [← e2]; exact hf), ?_⟩
  rw [wanted_of hg]
  rcases h2 with ⟨hw, hq⟩ | h2
  · refine .inl ⟨hw, fun w hw => ?_⟩
    have := hq w hw
    unfold Oper.quietAtIn at this ⊢
    rw [e1]
    exact this
  · exact .inr h2

/-- The walk in stages; LT: what has come. -/
def wpStage (F : Fence) (n : Nat) (P : Program) (ops : List Oper) (H : List Nat) (C : World → Prop) (waits : Nat → Bool) (Q' : Act → World → Prop) : Nat → Array Bool → Act → World → Prop
  | 0, LT, b, w => Region.ready .any ops.toArray LT = [] ∧ Q' b w
  | f + 1, LT, b, w =>
    (∃ i o, i ∈ H ∧ i ∈ Region.ready .any ops.toArray LT ∧ ops[i]? = some o ∧ ∃ v, HeadVal F n P C ops o b v ∧ wpStage F n P ops H C waits Q' f (LT.setIfInBounds i true) (b.put o.dst v) w) ∨
    ((Region.ready .any ops.toArray LT = [] → Q' b w) ∧
      ∀ j ∈ Region.ready .any ops.toArray LT, ∀ o, ops[j]? = some o → wpListIn F n P ops.toArray (fun e a' w' => e = .normal ∧ (waits j = false → C w') ∧ wpStage F n P ops H C waits Q' f (LT.setIfInBounds j true) a' w') [o] b w)

/-- Hoisted, not come. -/
def Owed (H : List Nat) (L LT : Array Bool) (i : Nat) : Prop := i ∈ H ∧ LT[i]? = some true ∧ L[i]? = some false
/-- What is owed is known. -/
def Known (F : Fence) (n : Nat) (P : Program) (C : World → Prop) (ops : List Oper) (H : List Nat) (L LT : Array Bool) (b : Act) : Prop :=
  ∀ i o, Owed H L LT i → ops[i]? = some o → ∃ v, b.put o.dst v = b ∧ HeadVal F n P C ops o b v
theorem set_get {L : Array Bool} {j i : Nat} (hj : j < L.size) : (L.setIfInBounds j true)[i]? = if j = i then some true else L[i]? := by
  by_cases h : j = i
  · subst h; rw [if_pos rfl, Array.getElem?_setIfInBounds_self_of_lt hj]
  · rw [if_neg h, Array.getElem?_setIfInBounds_ne h]
theorem get_or {L : Array Bool} {i : Nat} (h : i < L.size) : L[i]? = some true ∨ L[i]? = some false := by
  rw [Array.getElem?_eq_getElem h]
  cases L[i] <;> simp

/-- A frame that agrees but for what is owed gives an operation that is ready the same. -/
theorem owed_agree (hok : stageOk ops H = true) {L LT : Array Bool} (_hs1 : L.size = ops.length) {a b : Act} (hl : Lack ops (Owed H L LT) a b) {j : Nat} {o : Oper} (hoj : ops[j]? = some o) (hself : Owed H L LT j → farOf o o.dst = true)
    (hall : ∀ k, waitsOn o k = true → L[k]? = some true) : (∀ x ∈ o.op.operands, a.eval x = b.eval x) ∧ ∀ k bb, o.guard = some (k, bb) → ∀ s, (ops[k]?).bind (·.dst) = some s → a.tmps[s]? = b.tmps[s]? := by
  have hS := stage_at hok hoj
  refine ⟨hl.eval fun i h' hi hh d hd => ?_, fun k bb hg s hs => hl.same s fun i h' hi hh e => ?_⟩
  · by_cases hij : i = j
    · subst hij
      rw [hoj] at hh; cases hh
      exact farOf_spec (hself hi) d hd
    · rcases (hS.far i h' hij hh).1 with hw | hf | hf
      · have := hall i hw
        rw [hi.2.2] at this; cases this
      · exact farOf_spec hf d hd
      · exact absurd hi.1 hf.2
  · have hk := hall k (hS.gd k bb hg)
    have hik : i ≠ k := fun e' => by subst e'; rw [hi.2.2] at hk; cases hk
    obtain ⟨ok, hok', hd⟩ := Option.bind_eq_some_iff.1 hs
    rcases ((stage_at hok hok').far i h' hik hh).2 with h0 | h0
    · rw [h0] at e; cases e
    · exact h0 (by rw [e, hd])

/-- What is known stays so when another operation's slot is written. -/
theorem known_put (hok : stageOk ops H = true) {L LT : Array Bool} {b : Act} (hk : Known F n P C ops H L LT b) {j : Nat} {o : Oper} (hoj : ops[j]? = some o) (hj : LT[j]? = some false)
    (hcl : ∀ i o, i ∈ H → LT[i]? = some true → ops[i]? = some o → ∀ k, waitsOn o k = true → LT[k]? = some true) (u : Value) {i : Nat} {oi : Oper} (hi : Owed H L LT i) (hoi : ops[i]? = some oi) (hno : waitsOn o i = true → j ∈ H) :
    ∃ v, (b.put o.dst u).put oi.dst v = b.put o.dst u ∧ HeadVal F n P C ops oi (b.put o.dst u) v := by
  obtain ⟨v, h1, h2⟩ := hk i oi hi hoi
  have hij : i ≠ j := fun e => by subst e; rw [hi.2.1] at hj; cases hj
  have hSi := stage_at hok hoi
  have hSj := stage_at hok hoj
  have hw : ∀ k, waitsOn oi k = true → k ≠ j := fun k hk e => by
    subst e
    have := hcl i oi hi.1 hi.2.1 hoi k hk
    rw [hj] at this; cases this
  have hfar := (hSi.far j o (fun e => hij e.symm) hoj)
  refine ⟨v, ?_, h2.of hSi.ns (operands_far (farOf_spec ?_)) fun k bb hg s hs => slot_other fun e => ?_⟩
  · rcases hfar.2 with h | h
    · rw [h]; exact h1
    · have hc := Act.put_comm b (x := oi.dst) (y := o.dst) v u (fun d h1 h2 => h (h2.trans h1.symm))
      rw [← hc, h1]
  · rcases hfar.1 with h | h | h
    · exact absurd rfl (hw j h)
    · exact h
    · exact absurd (hno h.1) h.2
  · have hkj := hw k (hSi.gd k bb hg)
    obtain ⟨ok, hok', hd⟩ := Option.bind_eq_some_iff.1 hs
    rcases (hSj.far k ok hkj hok').2 with h0 | h0
    · rw [h0] at hd; cases hd
    · exact h0 (by rw [e, hd])

/-- The state of a run beside the walk in stages. -/
structure StInv (F : Fence) (n : Nat) (P : Program) (C : World → Prop) (ops : List Oper) (H : List Nat) (L LT : Array Bool) (a b : Act) (w : World) : Prop where
  s1 : L.size = ops.length
  s2 : LT.size = ops.length
  same : ∀ i : Nat, i < ops.length → i ∉ H → L[i]? = LT[i]?
  le : ∀ i : Nat, L[i]? = some true → LT[i]? = some true
  closed : ∀ (i : Nat) (o : Oper), i ∈ H → LT[i]? = some true → ops[i]? = some o → ∀ k, waitsOn o k = true → LT[k]? = some true
  known : (∀ i ∈ H, i < ops.length → L[i]? = some true) ∨ (C w ∧ Known F n P C ops H L LT b)
  lack : Lack ops (Owed H L LT) a b

theorem StInv.hoist (hok : stageOk ops H = true) {L LT : Array Bool} {a b : Act} {w : World} (h : StInv F n P C ops H L LT a b w) {i : Nat} {o : Oper} (hi : i ∈ H) (hoi : ops[i]? = some o) (hLT : LT[i]? = some false)
    (hall : ∀ k, waitsOn o k = true → LT[k]? = some true) {v : Value} (hv : HeadVal F n P C ops o b v) : StInv F n P C ops H L (LT.setIfInBounds i true) a (b.put o.dst v) w := by
  have hil := (List.getElem?_eq_some_iff.1 hoi).1
  have hlt : i < LT.size := by rw [h.s2]; exact hil
  have hLi : L[i]? = some false := by
    rcases get_or (L := L) (i := i) (by rw [h.s1]; exact hil) with e | e
    · have := h.le i e; rw [hLT] at this; cases this
    · exact e
  have hS := stage_at hok hoi
  have hwi : waitsOn o i = true → False := fun e => by have := hall i e; rw [hLT] at this; cases this
  refine ⟨h.s1, by simpa using h.s2, fun k hk hkH => ?_, fun k hk => ?_, fun k ok hk hkT hok' j hj => ?_, ?_, ?_⟩
  · rw [set_get hlt, if_neg (fun e => hkH (by rw [← e]; exact hi))]; exact h.same k hk hkH
  · rw [set_get hlt]; split
    · rfl
    · exact h.le k hk
  · rw [set_get hlt]
    by_cases e : i = j
    · rw [if_pos e]
    · rw [if_neg e]
      by_cases e2 : i = k
      · subst e2; rw [hoi] at hok'; cases hok'; exact hall j hj
      · rw [set_get hlt, if_neg e2] at hkT; exact h.closed k ok hk hkT hok' j hj
  · rcases h.known with hk | ⟨hC, hk⟩
    · have := hk i hi hil; rw [hLi] at this; cases this
    · refine .inr ⟨hC, fun k ok hkO hok' => ?_⟩
      by_cases e : i = k
      · subst e
        rw [hoi] at hok'; cases hok'
        refine ⟨v, put_put_same _ _ _, hv.of hS.ns (operands_far (farOf_spec (hS.rd hi).2)) fun k bb hg s hs => slot_other fun e => ?_⟩
        have hki : k ≠ i := fun e' => by subst e'; exact hwi (hS.gd k bb hg)
        obtain ⟨ok, hok', hd⟩ := Option.bind_eq_some_iff.1 hs
        rcases (hS.far k ok hki hok').2 with h0 | h0
        · rw [h0] at hd; cases hd
        · exact h0 (by rw [e, hd])
      · refine known_put hok hk hoi hLT h.closed v ⟨hkO.1, ?_, hkO.2.2⟩ hok' (fun _ => hi)
        have := hkO.2.1
        rwa [set_get hlt, if_neg e] at this
  · refine ⟨h.lack.defers.trans (put_defers _ _ _).symm, h.lack.size.trans (put_size _ _ _).symm, fun s hs => ?_⟩
    have h1 := h.lack.same s fun k ok hk hok' => hs k ok ⟨hk.1, by rw [set_get hlt]; split; rfl; exact hk.2.1, hk.2.2⟩ hok'
    rw [h1, slot_other (hs i o ⟨hi, by rw [set_get hlt, if_pos rfl], hLi⟩ hoi)]

/-- One that is owed has come. -/
theorem StInv.paid (_hok : stageOk ops H = true) {L LT : Array Bool} {a b : Act} {w : World} (h : StInv F n P C ops H L LT a b w) {j : Nat} {o : Oper} (hoj : ops[j]? = some o) (hO : Owed H L LT j) {v : Value} (hb : b.put o.dst v = b) :
    StInv F n P C ops H (L.setIfInBounds j true) LT (a.put o.dst v) b w := by
  have hjl : j < L.size := by rw [h.s1]; exact (List.getElem?_eq_some_iff.1 hoj).1
  have sub : ∀ k, Owed H (L.setIfInBounds j true) LT k → Owed H L LT k := fun k hk => by
    refine ⟨hk.1, hk.2.1, ?_⟩
    have := hk.2.2
    rw [set_get hjl] at this
    split at this
    · cases this
    · exact this
  refine ⟨by simpa using h.s1, h.s2, fun k hk hkH => ?_, fun k hk => ?_, h.closed, ?_, ?_⟩
  · rw [set_get hjl, if_neg (fun e => hkH (by rw [← e]; exact hO.1))]; exact h.same k hk hkH
  · rw [set_get hjl] at hk
    split at hk
    · rename_i e; rw [← e]; exact hO.2.1
    · exact h.le k hk
  · rcases h.known with hk | ⟨hC, hk⟩
    · exact .inl fun k hkH hkl => by rw [set_get hjl]; split; rfl; exact hk k hkH hkl
    · exact .inr ⟨hC, fun k ok hkO => hk k ok (sub k hkO)⟩
  · refine h.lack.head hoj hb fun k hk => ?_
    by_cases e : j = k
    · exact .inl e.symm
    · exact .inr ⟨hk.1, hk.2.1, by rw [set_get hjl, if_neg e]; exact hk.2.2⟩

/-- One of the others has come. -/
theorem StInv.step (hok : stageOk ops H = true) {L LT : Array Bool} {a b a' b' : Act} {w w' : World} (h : StInv F n P C ops H L LT a b w) {j : Nat} {o : Oper} (hoj : ops[j]? = some o) (_hL : L[j]? = some false) (hLT : LT[j]? = some false)
    (hall : ∀ k, waitsOn o k = true → L[k]? = some true) {u : Value} {b0 : Act} (hkn : Known F n P C ops H L LT b → Known F n P C ops H L LT b0) (hb' : b' = b0.put o.dst u) (hl' : Lack ops (Owed H L LT) a' b') (hC' : C w' ∨ ∀ i ∈ H, i < ops.length → waitsOn o i = true) :
    StInv F n P C ops H (L.setIfInBounds j true) (LT.setIfInBounds j true) a' b' w' := by
  have hjl : j < L.size := by rw [h.s1]; exact (List.getElem?_eq_some_iff.1 hoj).1
  have hjt : j < LT.size := by rw [h.s2]; exact (List.getElem?_eq_some_iff.1 hoj).1
  have sub : ∀ k, Owed H (L.setIfInBounds j true) (LT.setIfInBounds j true) k → Owed H L LT k := fun k hk => by
    have h1 := hk.2.1
    have h2 := hk.2.2
    rw [set_get hjl] at h2
    rw [set_get hjt] at h1
    split at h2
    · cases h2
    · rename_i e; rw [if_neg e] at h1; exact ⟨hk.1, h1, h2⟩
  refine ⟨by simpa using h.s1, by simpa using h.s2, fun k hk hkH => ?_, fun k hk => ?_, fun k ok hk hkT hok' m hm => ?_, ?_, ?_⟩
  · rw [set_get hjl, set_get hjt]; split
    · rfl
    · exact h.same k hk hkH
  · rw [set_get hjl] at hk; rw [set_get hjt]
    split
    · rfl
    · rename_i e; rw [if_neg e] at hk; exact h.le k hk
  · rw [set_get hjt]
    split
    · rfl
    · by_cases e2 : j = k
      · subst e2; rw [hoj] at hok'; cases hok'; exact h.le m (hall m hm)
      · rw [set_get hjt, if_neg e2] at hkT; exact h.closed k ok hk hkT hok' m hm
  · rcases h.known with hk | ⟨hC, hk⟩
    · exact .inl fun k hkH hkl => by rw [set_get hjl]; split; rfl; exact hk k hkH hkl
    · rcases hC' with hC' | hC'
      · refine .inr ⟨hC', fun k ok hkO hok' => ?_⟩
        rw [hb']
        exact known_put hok (hkn hk) hoj hLT h.closed u (sub k hkO) hok' (fun hw => by
          have h1 := hall k hw
          have h2 := (sub k hkO).2.2
          rw [h1] at h2; cases h2)
      · exact .inl fun k hkH hkl => by rw [set_get hjl]; split; rfl; exact hall k (hC' k hkH hkl)
  · exact hl'.mono fun k hkl hk => by
      refine ⟨hk.1, ?_, ?_⟩
      · rw [set_get hjt]; split; rfl; exact hk.2.1
      · rw [set_get hjl]
        split
        · rename_i e; subst e; have := hk.2.1; rw [hLT] at this; cases this
        · exact hk.2.2

theorem getD_false {L : Array Bool} {i : Nat} (hi : i < L.size) (h : L.getD i true = false) : L[i]? = some false := by
  rcases get_or hi with e | e
  · rw [getD_of e] at h; cases h
  · exact e
theorem ready_exists (hok : stageOk ops H = true) {L : Array Bool} (hsz : L.size = ops.length) (hu : unlisted ops.length L ≠ 0) : ∃ i, i ∈ Region.ready .any ops.toArray L := by
  have hne : ∃ i, i < ops.length ∧ L.getD i true = false := by
    have hpos : 0 < ((List.range ops.length).filter fun i => !L.getD i true).length := by unfold unlisted at hu; omega
    obtain ⟨i, hi⟩ := List.exists_mem_of_length_pos hpos
    obtain ⟨g1, g2⟩ := List.mem_filter.1 hi
    exact ⟨i, List.mem_range.1 g1, by simpa using g2⟩
  obtain ⟨i0, ⟨hi0, hu0⟩, hmin⟩ := exists_least (p := fun i => i < ops.length ∧ L.getD i true = false) hne
  have ho : ops[i0]? = some ops[i0] := by simp [hi0]
  refine ⟨i0, mem_ready.2 ⟨hu0, ops[i0], by simp [hi0], fun e he hb => ?_⟩⟩
  have hlt := ownEdges_spec (stage_at hok ho).edges e he hb
  have hnot : ¬ L.getD e.on true = false := fun hh => by have := hmin e.on ⟨by omega, hh⟩; omega
  exact getD_of (listed_of (k := ops.length) (by omega) (by omega) (.inl (by simpa using hnot)))
theorem ready_none {L : Array Bool} (hsz : L.size = ops.length) (hu : unlisted ops.length L = 0) : Region.ready .any ops.toArray L = [] := by
  rw [List.eq_nil_iff_forall_not_mem]
  intro j hj
  obtain ⟨hj1, o, ho, _⟩ := mem_ready.1 hj
  have hlt : j < ops.length := by have := (Array.getElem?_eq_some_iff.1 ho).1; simpa using this
  have := listed_of (k := ops.length) (by omega) hlt (.inr (unlisted_zero hu (by omega) j hlt))
  rw [getD_of this] at hj1; cases hj1
/-- What is ready. -/
theorem ready_facts (hok : stageOk ops H = true) {L : Array Bool} (hsz : L.size = ops.length) {j : Nat} (hj : j ∈ Region.ready .any ops.toArray L) : ∃ o, ops[j]? = some o ∧ ops.toArray[j]? = some o ∧ L[j]? = some false ∧ ∀ k, waitsOn o k = true → L[k]? = some true := by
  obtain ⟨hj1, o, ho, hall⟩ := mem_ready.1 hj
  have hjl : j < ops.length := by have := (Array.getElem?_eq_some_iff.1 ho).1; simpa using this
  have hoj : ops[j]? = some o := by rw [← ho]; simp
  refine ⟨o, hoj, ho, getD_false (by omega) hj1, fun k hk => ?_⟩
  obtain ⟨e, he, hb, hon⟩ := waitsOn_spec hk
  have h1 := hall e he hb
  have hel := ownEdges_spec (stage_at hok hoj).edges e he hb
  rw [hon] at h1 hel
  exact listed_of (k := ops.length) (by omega) (by omega) (.inr h1)
theorem ready_mono (hok : stageOk ops H = true) {L LT : Array Bool} (hs1 : L.size = ops.length) (_hs2 : LT.size = ops.length) (hle : ∀ i : Nat, L[i]? = some true → LT[i]? = some true) {j : Nat} (hj : j ∈ Region.ready .any ops.toArray L) (hLT : LT[j]? = some false) : j ∈ Region.ready .any ops.toArray LT := by
  obtain ⟨o, hoj, ho, hL, hall⟩ := ready_facts hok hs1 hj
  refine mem_ready.2 ⟨getD_of hLT, o, ho, fun e he hb => ?_⟩
  have hw : waitsOn o e.on = true := by
    unfold waitsOn
    rw [Array.any_eq_true']
    exact ⟨e, he, by simp [hb]⟩
  exact getD_of (hle _ (hall _ hw))

theorem Known.defers {L LT : Array Bool} {b : Act} (h : Known F n P C ops H L LT b) (ds : List Deferred) : Known F n P C ops H L LT { b with defers := ds } := by
  intro i o hi ho
  obtain ⟨u, h2, h3⟩ := h i o hi ho
  refine ⟨u, ?_, h3⟩
  cases hd : o.dst with
  | none => rfl
  | some d =>
    rw [hd] at h2
    have := congrArg Act.tmps h2
    simp only [Act.put] at this ⊢
    rw [this]
theorem stage_paid (hok : stageOk ops H = true) {L LT : Array Bool} {a b : Act} {w : World} (hI : StInv F n P C ops H L LT a b w) {j : Nat} {o : Oper} (hO : Owed H L LT j) (hoj : ops[j]? = some o) (ho : ops.toArray[j]? = some o)
    (hall : ∀ k, waitsOn o k = true → L[k]? = some true) {Q : Exit → Act → World → Prop} {K : Act → World → Prop} (hK : ∀ v, b.put o.dst v = b → K (a.put o.dst v) w) : wpOpIn F n P ops.toArray Q j K a w := by
  have hS := stage_at hok hoj
  rcases hI.known with hk | ⟨hC, hk⟩
  · have := hk j hO.1 (List.getElem?_eq_some_iff.1 hoj).1; rw [hO.2.2] at this; cases this
  · obtain ⟨v, hb, hv⟩ := hk j o hO hoj
    obtain ⟨hev, hgd⟩ := owed_agree hok hI.s1 hI.lack hoj (fun h => (hS.rd h.1).2) hall
    obtain ⟨hask, hcase⟩ := hv.of hS.ns hev hgd
    unfold wpOpIn
    rw [ho]
    dsimp only
    rcases hcase with ⟨hw, hq⟩ | ⟨hw, rfl⟩
    · rw [if_pos hw]
      exact bare_runs (hS.rd hO.1).1 (hq w hC) (hK v hb) (fun f hf => hask w hC f hf)
    · rw [if_neg (by rw [hw]; simp)]
      exact ⟨fun f hf => hask w hC f hf, hK _ hb⟩

theorem stage_run (hok : stageOk ops H = true) (waits : Nat → Bool) (hw : ∀ j o, ops[j]? = some o → waits j = true → ∀ i ∈ H, i < ops.length → waitsOn o i = true) (Q : Exit → Act → World → Prop) : ∀ (g f : Nat) (L LT : Array Bool) (a b : Act) (w : World),
    unlisted ops.length L = g → unlisted ops.length LT = f → StInv F n P C ops H L LT a b w → wpStage F n P ops H C waits (fun a w => Q .normal a w) f LT b w → wpAnyIn F n P .any ops.toArray Q g L a w := by
  intro g
  induction g with
  | zero =>
    intro f L LT a b w hg hf hI h
    have hall : ∀ i, i < ops.length → L[i]? = some true := fun i hi => listed_of (k := ops.length) (by rw [hI.s1]; omega) hi (.inr (unlisted_zero hg (by rw [hI.s1]; omega) i hi))
    have hut : unlisted ops.length LT = 0 := by
      unfold unlisted
      rw [List.length_eq_zero_iff, List.filter_eq_nil_iff]
      intro i hi
      have := hI.le i (hall i (List.mem_range.1 hi))
      simp [Array.getD_eq_getD_getElem?, this]
    rw [hut] at hf
    subst hf
    refine ⟨ready_none hI.s1 hg, ?_⟩
    rw [hI.lack.full fun i hi hn => by have := hall i hi; rw [hn.2.2] at this; cases this]
    exact h.2
  | succ g ih =>
    intro f
    have less : ∀ {L : Array Bool} {j k : Nat}, L.size = ops.length → j < ops.length → L[j]? = some false → unlisted ops.length L = k + 1 → unlisted ops.length (L.setIfInBounds j true) = k := fun hsz hj hf hu => by
      have := unlisted_set hj (by omega) (getD_of (d := true) hf)
      omega
    induction f with
    | zero =>
      intro L LT a b w hg hf hI h
      obtain ⟨r0, hr0⟩ := ready_exists hok hI.s1 (by omega)
      refine ⟨fun e => (by rw [e] at hr0; cases hr0), fun j hj => ?_⟩
      obtain ⟨o, hoj, ho, hL, hall⟩ := ready_facts hok hI.s1 hj
      have hjl := (List.getElem?_eq_some_iff.1 hoj).1
      have hLT : LT[j]? = some true := listed_of (k := ops.length) (by rw [hI.s2]; omega) hjl (.inr (unlisted_zero hf (by rw [hI.s2]; omega) j hjl))
      have hjH : j ∈ H := by
        by_cases hm : j ∈ H
        · exact hm
        · have := hI.same j hjl hm; rw [hL, hLT] at this; cases this
      have hO : Owed H L LT j := ⟨hjH, hLT, hL⟩
      exact stage_paid hok hI hO hoj ho hall fun v hb => ih 0 _ LT _ b w (less hI.s1 hjl hL hg) hf (hI.paid hok hoj hO hb) h
    | succ f ihf =>
      intro L LT a b w hg hf hI h
      rcases h with ⟨i, o, hiH, hir, hoi, v, hv, hst⟩ | ⟨h1, h2⟩
      · obtain ⟨o', hoi', _, hLTi, halli⟩ := ready_facts hok hI.s2 hir
        rw [hoi] at hoi'; cases hoi'
        have hil := (List.getElem?_eq_some_iff.1 hoi).1
        exact ihf L _ a _ w hg (less hI.s2 hil hLTi hf) (hI.hoist hok hiH hoi hLTi halli hv) hst
      · obtain ⟨r0, hr0⟩ := ready_exists hok hI.s1 (by omega)
        refine ⟨fun e => (by rw [e] at hr0; cases hr0), fun j hj => ?_⟩
        obtain ⟨o, hoj, ho, hL, hall⟩ := ready_facts hok hI.s1 hj
        have hjl := (List.getElem?_eq_some_iff.1 hoj).1
        rcases get_or (L := LT) (i := j) (by rw [hI.s2]; exact hjl) with hLT | hLT
        · have hjH : j ∈ H := by
            by_cases hm : j ∈ H
            · exact hm
            · have := hI.same j hjl hm; rw [hL, hLT] at this; cases this
          have hO : Owed H L LT j := ⟨hjH, hLT, hL⟩
          exact stage_paid hok hI hO hoj ho hall fun v hb => ih (f + 1) _ LT _ b w (less hI.s1 hjl hL hg) hf (hI.paid hok hoj hO hb) (.inr ⟨h1, h2⟩)
        · have hrT := ready_mono hok hI.s1 hI.s2 hI.le hj hLT
          have h3 := h2 j hrT o hoj
          have hS := stage_at hok hoj
          obtain ⟨hev, hgd⟩ := owed_agree hok hI.s1 hI.lack hoj (fun h => by have := h.2.1; rw [hLT] at this; cases this) hall
          obtain ⟨e1, e2⟩ := quietAt_of (P := P) (sel_of hS.ns) hev
          have hC' : ∀ w', (waits j = false → C w') → (C w' ∨ ∀ i ∈ H, i < ops.length → waitsOn o i = true) := fun w' h => by
            cases hwj : waits j with
            | true => exact .inr (hw j o hoj hwj)
            | false => exact .inl (h hwj)
          simp only [wpListIn] at h3
          unfold wpOpIn
          rw [ho]
          dsimp only
          rw [wanted_of hgd]
          by_cases hwt : Region.wanted o (yielded ops.toArray b.tmps) = true
          · rw [if_pos hwt] at h3 ⊢
            refine wpIn_move hS.nd e1 (e2 w) (fun v w' h' => ?_) (fun d w' h' => ?_) (fun e a w h => h.1) h3
            · exact ih f _ _ _ _ w' (less hI.s1 hjl hL hg) (less hI.s2 hjl hLT hf) (hI.step hok hoj hL hLT hall id rfl (hI.lack.tail _ _) (hC' w' h'.2.1)) h'.2.2
            · exact ih f _ _ _ _ w' (less hI.s1 hjl hL hg) (less hI.s2 hjl hLT hf) (hI.step hok hoj hL hLT hall (fun hk => hk.defers _) rfl ((hI.lack.defer d).tail _ _) (hC' w' h'.2.1)) h'.2.2
          · rw [if_neg hwt] at h3 ⊢
            obtain ⟨h4, h5⟩ := h3
            exact ⟨fun f hf => h4 f (by rw [← e2 w]; exact hf), ih f _ _ _ _ w (less hI.s1 hjl hL hg) (less hI.s2 hjl hLT hf) (hI.step hok hoj hL hLT hall id rfl (hI.lack.tail _ _) (hC' w h5.2.1)) h5.2.2⟩

/-- hs: reads, each ready behind those ahead of it. -/
def hoistOk (ops : List Oper) (H : List Nat) : List Nat → Array Bool → Bool
  | [], _ => true
  | i :: l, LT => H.contains i && !(LT.getD i true) && (match ops[i]? with | none => false | some o => o.after.all fun e => !Region.binds .any e || LT.getD e.on false) && hoistOk ops H l (LT.setIfInBounds i true)
def listAll (hs : List Nat) (LT : Array Bool) : Array Bool := hs.foldl (fun LT i => LT.setIfInBounds i true) LT
theorem stage_reads {waits : Nat → Bool} {Q' : Act → World → Prop} {w : World} : ∀ (hs : List Nat) (f : Nat) (LT : Array Bool) (b : Act), hoistOk ops H hs LT = true →
    wpQuietIn F n P ops.toArray C (fun b' => wpStage F n P ops H C waits Q' f (listAll hs LT) b' w) (pickOps ops hs) b → wpStage F n P ops H C waits Q' (f + hs.length) LT b w
  | [], f, LT, b, _, h => h
  | i :: l, f, LT, b, hh, h => by
    simp only [hoistOk, Bool.and_eq_true, Bool.not_eq_true'] at hh
    obtain ⟨⟨⟨h1, h2⟩, h3⟩, h4⟩ := hh
    cases ho : ops[i]? with
    | none => rw [ho] at h3; cases h3
    | some o =>
      rw [ho] at h3
      rw [pick_cons, ho] at h
      obtain ⟨hask, h⟩ := h
      have hr : i ∈ Region.ready .any ops.toArray LT := mem_ready.2 ⟨h2, o, by simpa using ho, fun e he hb => by
        have := Array.all_eq_true_iff_forall_mem.1 h3 e he
        rw [hb] at this
        simpa using this⟩
      have hH : i ∈ H := by simpa using h1
      by_cases hwt : Region.wanted o (yielded ops.toArray b.tmps) = true
      · rw [if_pos hwt] at h
        obtain ⟨v, hv, h⟩ := h
        exact .inl ⟨i, o, hH, hr, ho, v, ⟨hask, .inl ⟨hwt, hv⟩⟩, stage_reads l f _ _ h4 h⟩
      · rw [if_neg hwt] at h
        exact .inl ⟨i, o, hH, hr, ho, undef, ⟨hask, .inr ⟨by simpa using hwt, rfl⟩⟩, stage_reads l f _ _ h4 h⟩

def StagePost (F : Fence) (n : Nat) (P : Program) (ops : List Oper) (H : List Nat) (C : World → Prop) (waits : Nat → Bool) (Q' : Act → World → Prop) (f : Nat) (LT : Array Bool) (i : Nat) : Exit → Act → World → Prop :=
  fun e a' w' => e = .normal ∧ (waits i = false → C w') ∧ wpStage F n P ops H C waits Q' f (LT.setIfInBounds i true) a' w'
theorem stage_post {waits : Nat → Bool} {Q' : Act → World → Prop} {f : Nat} {LT : Array Bool} {i : Nat} {a : Act} {w : World} (hC : C w) (h : wpStage F n P ops H C waits Q' f (LT.setIfInBounds i true) a w) : StagePost F n P ops H C waits Q' f LT i .normal a w := ⟨rfl, fun _ => hC, h⟩
theorem stage_one {waits : Nat → Bool} {Q' : Act → World → Prop} {f : Nat} {LT : Array Bool} {a : Act} {w : World} (i : Nat) {o : Oper} (hr : Region.ready .any ops.toArray LT = [i]) (ho : ops[i]? = some o)
    (h : wpListIn F n P ops.toArray (StagePost F n P ops H C waits Q' f LT i) [o] a w) : wpStage F n P ops H C waits Q' (f + 1) LT a w :=
  .inr ⟨fun e => (by rw [hr] at e; cases e), fun j hj o' ho' => by
    rw [hr] at hj
    obtain rfl : j = i := by simpa using hj
    rw [ho] at ho'
    cases ho'
    exact h⟩
theorem stage_two {waits : Nat → Bool} {Q' : Act → World → Prop} {f : Nat} {LT : Array Bool} {a : Act} {w : World} (i j : Nat) {o o2 : Oper} (hr : Region.ready .any ops.toArray LT = [i, j]) (ho : ops[i]? = some o) (ho2 : ops[j]? = some o2)
    (h : wpListIn F n P ops.toArray (StagePost F n P ops H C waits Q' f LT i) [o] a w) (h2 : wpListIn F n P ops.toArray (StagePost F n P ops H C waits Q' f LT j) [o2] a w) : wpStage F n P ops H C waits Q' (f + 1) LT a w :=
  .inr ⟨fun e => (by rw [hr] at e; cases e), fun k hk o' ho' => by
    rw [hr] at hk
    simp only [List.mem_cons, List.not_mem_nil, or_false] at hk
    rcases hk with rfl | rfl
    · rw [ho] at ho'; cases ho'; exact h
    · rw [ho2] at ho'; cases ho'; exact h2⟩
theorem stage_done {waits : Nat → Bool} {Q' : Act → World → Prop} {LT : Array Bool} {a : Act} {w : World} (hr : Region.ready .any ops.toArray LT = []) (h : Q' a w) : wpStage F n P ops H C waits Q' 0 LT a w := ⟨hr, h⟩

def stageAll (ops : List Oper) (H ws : List Nat) : Bool :=
  stageOk ops H && ws.all fun j => match ops[j]? with | none => true | some o => H.all fun i => waitsOn o i
/-- A region that draws its order, in stages: H are reads (guarded or not), which read the same in every world of the class C; ws wait for all of them; behind each of the others the world is one of C. -/
theorem wpIn_stage {id : Nat} {Q : Exit → Act → World → Prop} {a : Act} {w : World} (C : World → Prop) (H ws : List Nat) (hm : P.follows .mixedOrders = true) (hB : stageAll ops H ws = true) (hC : C w.drew)
    (h : wpStage F n P ops H C (fun i => ws.contains i) (fun a w => Q .normal a w) ops.length (Array.replicate ops.length false) a w.drew) : (Code.region id ops.toArray true).wpIn F n P Q a w := by
  simp only [stageAll, Bool.and_eq_true] at hB
  obtain ⟨hok, hws⟩ := hB
  refine wpIn_region_any hm ?_
  have hun : unlisted ops.length (Array.replicate ops.length false) = ops.length := by
    unfold unlisted
    rw [List.filter_eq_self.2 (fun i hi => ?_), List.length_range]
    have := List.mem_range.1 hi
    simp only [Array.getD_eq_getD_getElem?]
    rw [Array.getElem?_replicate, if_pos (by omega)]; rfl
  have hno : ∀ i : Nat, (Array.replicate ops.length false)[i]? ≠ some true := fun i => by
    rw [Array.getElem?_replicate]; split <;> simp
  have hrun := stage_run (F := F) (n := n) (P := P) (C := C) hok (fun i => ws.contains i) (fun j o ho hj i hi _ => by
      have := List.all_eq_true.1 hws j (by simpa using hj)
      rw [ho] at this
      exact List.all_eq_true.1 this i hi) Q ops.length ops.length (Array.replicate ops.length false) (Array.replicate ops.length false) a a w.drew hun hun
    ⟨by simp, by simp, fun _ _ _ => rfl, fun _ h => h, fun i o _ h => absurd h (hno i), .inr ⟨hC, fun i o hO => absurd hO.2.1 (hno i)⟩, ⟨rfl, rfl, fun _ _ => rfl⟩⟩ h
  simpa using hrun
end
end Go.Proofs.YtigapglmipmbeaaGreatDoor.S2
namespace Go.Proofs.YtigapglmipmbeaaGreatDoor
open Go.RowKit Go.Shelf
open Lim

attribute [local go_sem] Oper.semAt_some

namespace S2
end S2
end Go.Proofs.YtigapglmipmbeaaGreatDoor
namespace Go.Proofs.YtigapglmipmbeaaGreatDoor
open Go.RowKit Go.Shelf
open Lim

theorem refPow_key {c : ByteArray} (q : Rat) (M : Nat) (hc : IsT c (q ^ M)) : decide (Lib.nDigits (nm q ^ M) ≤ 4000) = true ∧ decide (Lib.nDigits (q.den ^ M) ≤ 4000) = true ∧
    ∀ b : Bool, b = ng (q ^ M) → ∀ v w, IsPartsI w v b (nm q ^ M) (q.den ^ M) → Calls Tryz.prog 153 #[v] w fun e w' => e = .returned (.tuple #[.string ⟨(outQ (q ^ M)).1.toArray⟩, .int .i64 ((outQ (q ^ M)).2 : Int)]) ∧ Below w.heap.size w w' := by
  obtain ⟨p1, p2, _⟩ := pow_parts q M
  have hs := (sz_iff (by decide)).1 hc.2
  rw [← p1, ← p2]
  refine ⟨decide_eq_true hs.1, decide_eq_true hs.2, fun b hb v w hv => ?_⟩
  subst hb
  have e1 := limbs_of_nd hs.1 (show 4000 ≤ 9 * 445 by omega)
  have e2 := limbs_of_nd hs.2 (show 4000 ≤ 9 * 445 by omega)
  exact rwriteQ_any (q ^ M) v w hv (by omega) (by omega)
theorem ng_pos {p : Rat} (h : 0 < p) : ng p = false := by
  unfold ng
  have := Rat.num_nonneg.2 (show 0 ≤ p by grind)
  exact decide_eq_false (by omega)
theorem retPowS {a c : ByteArray} {p : Rat} {n : Int} (ha : IsT a p) (hp : 0 < p) (hc : IsT c (p ^ n)) (h1 : -1000 ≤ n) (h2 : n ≤ 1000) : Ret 240 #[.string a, .int .i64 n] (.tuple #[.string c, .int .i64 0]) := fun w _ => by
  have sq := sz_max ha.err
  rw [ha.val] at sq
  have hb := ng_pos hp
  have h0 : p ≠ 0 := by grind
  have ho := out_T hc
  unfold resN at ho
  by_cases hneg : n < 0
  · obtain ⟨M, rfl⟩ : ∃ M : Nat, n = -(M : Int) := ⟨n.natAbs, by omega⟩
    have e : p ^ (-(M : Int)) = p⁻¹ ^ M := by rw [Rat.zpow_neg, Rat.zpow_natCast, inv_pow]
    rw [e] at hc ho
    obtain ⟨k1, k2, k3⟩ := refPow_key p⁻¹ M hc
    obtain ⟨_, _, p3⟩ := pow_parts p⁻¹ M
    obtain ⟨i1, _, _⟩ := inv_parts h0
    rw [i1, hb] at p3
    rw [← ho]
    exact refpow_neg_f_yes a p M w ha.size ha.err ha.val hb h0 (by omega) (by omega) k1 k2 _ (k3 _ (by rw [p3]; rfl)) sq
  · obtain ⟨M, rfl⟩ : ∃ M : Nat, n = (M : Int) := ⟨n.toNat, by omega⟩
    rw [Rat.zpow_natCast] at hc ho
    obtain ⟨k1, k2, k3⟩ := refPow_key p M hc
    obtain ⟨_, _, p3⟩ := pow_parts p M
    rw [hb] at p3
    rw [← ho]
    exact refpow_pos_f_yes a p M w ha.size ha.err ha.val hb (by omega) k1 k2 _ (k3 _ (by rw [p3]; rfl)) sq
end Go.Proofs.YtigapglmipmbeaaGreatDoor
namespace Go.Proofs.YtigapglmipmbeaaGreatDoor
open Go.RowKit Go.Shelf
open Lim

attribute [local go_sem] Oper.semAt_some

theorem plX_zero {s : ByteArray} (h : errQ s.data.toList = 0) : plX s zT = .ok s := by
  rw [plX_val h err_zT, val_zT, Rat.add_zero, ovT_fit (IsT.of h).fits, ← ok_rT h]
theorem maxX_pos {s : ByteArray} (h : errQ s.data.toList = 0) (h0 : 0 < valQ s.data.toList) : maxX zT s = .ok s := by
  rw [maxX_val err_zT h, val_zT, if_pos]
  unfold cmpQ; rw [if_pos h0]; decide
theorem maxX_neg {s : ByteArray} (h : errQ s.data.toList = 0) (h0 : ¬ 0 < valQ s.data.toList) : maxX zT s = .ok zT := by
  rw [maxX_val err_zT h, val_zT, if_neg]
  unfold cmpQ; rw [if_neg h0]; split <;> decide
set_option maxRecDepth 100000 in
set_option maxHeartbeats 8000000 in
/-- The reference's Delta. -/
theorem rddelta_any (p q : List L2) (vp vq : Value) (f : ByteArray) (w : World) (hp : LRow w vp p) (hq : LRow w vq q) (sp : Short p) (sq : Short q) (hf : f.size ≤ 270000) (hr : Res w) :
    Calls Tryz.prog 102 #[vp, vq, .string f] w fun e w' => e = .returned (resX (deltaX p q f)) ∧ Below w.heap.size w w' := by
  have N0 := Lib.hid (NW.refl hr)
  have HC := Lib.hid (rdboth_any p q vp vq w hp hq sp sq hr)
  have HVP := Lib.hid hp
  have HVQ := Lib.hid hq
  have HSH := Lib.hid (And.intro sp sq)
  have HFS := Lib.hid hf
  obtain ⟨A, c, rfl, hlen, hcells⟩ := hp
  obtain ⟨A', c', rfl, hlen', hcells'⟩ := hq
  clear hcells hcells' sp sq hr
  by_cases h0 : chk2 p q = 0
  · have HR0 := Lib.hid (show deltaX p q f = if posE f ≠ 0 then .error (posE f) else foldX (partX f q) zT p by unfold deltaX; rw [if_neg (by simpa using h0)])
    rw [h0] at HC
    change Hid (Calls _ _ _ _ fun e w' => e = .returned (.int .i64 0) ∧ _) at HC
    clear h0
    by_cases h1 : errQ f.data.toList = 0
    · have HSG := Lib.hid (retRSign_ok hf h1)
      by_cases h2 : valQ f.data.toList < 0
      · have d1 : decide (sgQ (valQ f.data.toList) < 0) = true := decide_eq_true ((sg_lt _).2 h2)
        have HR := Lib.hid (show deltaX p q f = .error 2 by
          have : posE f = 2 := by unfold posE; rw [if_neg (by simpa using h1), if_pos h2]
          rw [HR0.out, this]; rfl)
        clear h1 h2 hf
        generalize sgQ (valQ f.data.toList) = sg at *
        go_enter Tryz.func102, Tryz.ntmps102
        go_wp2_with (first
          | (go_at_call 114; refine (HC.out).mono ?_; rintro e w1 ⟨rfl, hb⟩; have N1 := Lib.hid (N0.out.later hb); clear hb)
          | (go_at_call 110; refine (HSG.out _ N1.out.res).mono ?_; rintro e w2 ⟨rfl, hb⟩; have N2 := Lib.hid (N1.out.later hb); clear hb))
        go_ret2
        rw [HR.out]
        exact ⟨rfl, N2.out.below⟩
      · have d1 : decide (sgQ (valQ f.data.toList) < 0) = false := decide_eq_false (fun h => h2 ((sg_lt _).1 h))
        have HR := Lib.hid (show deltaX p q f = foldX (partX f q) zT p by
          have : posE f = 0 := by unfold posE; rw [if_neg (by simpa using h1), if_neg h2]
          rw [HR0.out, this]; rfl)
        clear h1 h2 hf
        generalize sgQ (valQ f.data.toList) = sg at *
        go_enter Tryz.func102, Tryz.ntmps102
        go_wp2_with (first
          | (go_at_call 114; refine HC.out.mono ?_; rintro e w1 ⟨rfl, hb⟩; have N1 := Lib.hid (N0.out.later hb); clear hb)
          | (go_at_call 110; refine (HSG.out _ N1.out.res).mono ?_; rintro e w2 ⟨rfl, hb⟩; have N2 := Lib.hid (N1.out.later hb); clear hb))
        go_loopw [11, 12] (fun v11 v12 wr => ∃ (k : Nat) (s : ByteArray), k ≤ p.length ∧ v12 = .int .i64 (k : Int) ∧ v11 = .string s ∧ Hid (errQ s.data.toList = 0 ∧ foldX (partX f q) zT p = foldX (partX f q) s (p.drop k)) ∧ Hid (NW w wr)) (fun _ v12 _ => p.length - (intOf v12).toNat)
        case atStart => exact ⟨0, zT, Nat.zero_le _, rfl, rfl, Lib.hid ⟨err_zT, by simp⟩, N2⟩
        case round =>
          clear N0 N1 N2 HC HSG HR0
          obtain ⟨k, s, hk, rfl, rfl, HE, HN⟩ := hrel
          by_cases hlt : k < p.length
          · obtain ⟨x, hx⟩ : ∃ x, p[k]? = some x := ⟨_, List.getElem?_eq_getElem hlt⟩
            obtain ⟨b, o, c2, e', hb2, c0, c1⟩ := HVP.out.at HN.out.below hx
            simp only [Value.slice.injEq, true_and] at e'
            obtain ⟨rfl, rfl⟩ := e'
            have hlt' : (k : Int) < (p.length : Int) := by omega
            have HM := Lib.hid (fun W (hW : NW w W) => HVP.out.cell2 hW.below hx)
            have HAT := Lib.hid (rdAt_any q _ x.1 wr (HVQ.out.below HN.out.below))
            have HML := Lib.hid (retRMulX HFS.out (HSH.out.2.atT (k := x.1)))
            have HXS := Lib.hid (HSH.out.1 x (List.mem_of_getElem? hx)).2
            have HD := Lib.hid (drop_of hx)
            have HLT := Lib.hid (And.intro hlt hlt')
            have HP0 := Lib.hid (show foldX (partX f q) zT p = foldX (partX f q) s (x :: p.drop (k + 1)) by rw [HE.out.2, drop_of hx])
            obtain ⟨y, d⟩ := x
            dsimp only at c0 c1 HM HAT HML HXS HD HP0
            clear hx hlt
            cases hm : mulX f (atT q y) with
            | error n =>
              have HR2 := Lib.hid (show foldX (partX f q) zT p = .error n by rw [HP0.out]; exact foldX_err (x := (y, d)) (by unfold partX; dsimp only; rw [hm]))
              have hz := ne_zero (exQ_err hm)
              rw [hm] at HML
              change Hid (Ret _ _ (.tuple #[.string ⟨#[]⟩, .int .i64 (n : Int)])) at HML
              clear hm
              go_wp2_with (first
                | (go_at_call 39; refine HAT.out.mono ?_; rintro e w3 ⟨rfl, rfl⟩)
                | (go_at_call 149; refine (HML.out _ HN.out.res).mono ?_; rintro e w4 ⟨rfl, hb⟩; have N4 := Lib.hid (HN.out.later hb); clear hb; obtain ⟨hb4, q0, q1⟩ := HM.out _ N4.out))
              go_ret2
              rw [HR.out, HR2.out]
              exact ⟨rfl, N4.out.below⟩
            | ok m =>
              rw [hm] at HML
              change Hid (Ret _ _ (.tuple #[.string m, .int .i64 0])) at HML
              have HSB := Lib.hid (retRSubX HXS.out (size_ok (mulX_ok hm)))
              cases hs : subX d m with
              | error n =>
                have HR2 := Lib.hid (show foldX (partX f q) zT p = .error n by rw [HP0.out]; exact foldX_err (x := (y, d)) (by unfold partX; dsimp only; rw [hm]; dsimp only; rw [hs]))
                have hz := ne_zero (exQ_err hs)
                rw [hs] at HSB
                change Hid (Ret _ _ (.tuple #[.string ⟨#[]⟩, .int .i64 (n : Int)])) at HSB
                clear hm hs
                go_wp2_with (first
                | (go_at_call 39; refine HAT.out.mono ?_; rintro e w3 ⟨rfl, rfl⟩)
                | (go_at_call 149; refine (HML.out _ HN.out.res).mono ?_; rintro e w4 ⟨rfl, hb⟩; have N4 := Lib.hid (HN.out.later hb); clear hb; obtain ⟨hb4, q0, q1⟩ := HM.out _ N4.out)
                | (go_at_call 61; refine (HSB.out _ N4.out.res).mono ?_; rintro e w5 ⟨rfl, hb⟩; have N5 := Lib.hid (N4.out.later hb); clear hb))
                go_ret2
                rw [HR.out, HR2.out]
                exact ⟨rfl, N5.out.below⟩
              | ok t =>
                rw [hs] at HSB
                change Hid (Ret _ _ (.tuple #[.string t, .int .i64 0])) at HSB
                have HSG := Lib.hid (retRSign_ok (size_ok (subX_ok hs)) (subX_ok hs))
                by_cases h0 : 0 < valQ t.data.toList
                · have d1 : decide (0 < sgQ (valQ t.data.toList)) = true := decide_eq_true ((sg_gt _).2 h0)
                  have HPE := Lib.hid (show partX f q (y, d) = .ok t by unfold partX; dsimp only; rw [hm]; dsimp only; rw [hs]; exact maxX_pos (subX_ok hs) h0)
                  have HAD := Lib.hid (retRPlX (size_ok HE.out.1) (size_ok (subX_ok hs)))
                  clear hm hs h0
                  generalize sgQ (valQ t.data.toList) = sg at *
                  cases ha : plX s t with
                  | error n =>
                    rw [ha] at HAD
                    have HR2 := Lib.hid (show foldX (partX f q) zT p = .error n by rw [HP0.out]; exact foldX_err2 HPE.out ha)
                    have hz := ne_zero (exQ_err ha)
                    change Hid (Ret _ _ (.tuple #[.string ⟨#[]⟩, .int .i64 (n : Int)])) at HAD
                    clear ha
                    go_wp2_with (first
                | (go_at_call 39; refine HAT.out.mono ?_; rintro e w3 ⟨rfl, rfl⟩)
                | (go_at_call 149; refine (HML.out _ HN.out.res).mono ?_; rintro e w4 ⟨rfl, hb⟩; have N4 := Lib.hid (HN.out.later hb); clear hb; obtain ⟨hb4, q0, q1⟩ := HM.out _ N4.out)
                | (go_at_call 61; refine (HSB.out _ N4.out.res).mono ?_; rintro e w5 ⟨rfl, hb⟩; have N5 := Lib.hid (N4.out.later hb); clear hb)
                | (go_at_call 110; refine (HSG.out _ N5.out.res).mono ?_; rintro e w6 ⟨rfl, hb⟩; have N6 := Lib.hid (N5.out.later hb); clear hb)
                | (go_at_call 59; refine (HAD.out _ N6.out.res).mono ?_; rintro e w7 ⟨rfl, hb⟩; have N7 := Lib.hid (N6.out.later hb); clear hb))
                    go_ret2
                    rw [HR.out, HR2.out]
                    exact ⟨rfl, N7.out.below⟩
                  | ok u =>
                    rw [ha] at HAD
                    have HR2 := Lib.hid (show foldX (partX f q) zT p = foldX (partX f q) u (p.drop (k + 1)) by rw [HP0.out]; exact foldX_ok HPE.out ha)
                    change Hid (Ret _ _ (.tuple #[.string u, .int .i64 0])) at HAD
                    have HER := Lib.hid (plX_ok ha)
                    clear ha
                    go_wp2_with (first
                | (go_at_call 39; refine HAT.out.mono ?_; rintro e w3 ⟨rfl, rfl⟩)
                | (go_at_call 149; refine (HML.out _ HN.out.res).mono ?_; rintro e w4 ⟨rfl, hb⟩; have N4 := Lib.hid (HN.out.later hb); clear hb; obtain ⟨hb4, q0, q1⟩ := HM.out _ N4.out)
                | (go_at_call 61; refine (HSB.out _ N4.out.res).mono ?_; rintro e w5 ⟨rfl, hb⟩; have N5 := Lib.hid (N4.out.later hb); clear hb)
                | (go_at_call 110; refine (HSG.out _ N5.out.res).mono ?_; rintro e w6 ⟨rfl, hb⟩; have N6 := Lib.hid (N5.out.later hb); clear hb)
                | (go_at_call 59; refine (HAD.out _ N6.out.res).mono ?_; rintro e w7 ⟨rfl, hb⟩; have N7 := Lib.hid (N6.out.later hb); clear hb))
                    go_roundw
                    case rel => exact ⟨k + 1, u, HLT.out.1, by go_num, rfl, Lib.hid ⟨HER.out, HR2.out⟩, N7⟩
                    case measure => have := HLT.out.1; simp [intOf]; omega
                · have d1 : decide (0 < sgQ (valQ t.data.toList)) = false := decide_eq_false (fun h => h0 ((sg_gt _).1 h))
                  have HR2 := Lib.hid (show foldX (partX f q) zT p = foldX (partX f q) s (p.drop (k + 1)) by
                    rw [HP0.out]
                    exact foldX_ok (x := (y, d)) (p := zT) (by unfold partX; dsimp only; rw [hm]; dsimp only; rw [hs]; exact maxX_neg (subX_ok hs) h0) (plX_zero HE.out.1))
                  clear hm hs h0
                  generalize sgQ (valQ t.data.toList) = sg at *
                  go_wp2_with (first
                | (go_at_call 39; refine HAT.out.mono ?_; rintro e w3 ⟨rfl, rfl⟩)
                | (go_at_call 149; refine (HML.out _ HN.out.res).mono ?_; rintro e w4 ⟨rfl, hb⟩; have N4 := Lib.hid (HN.out.later hb); clear hb; obtain ⟨hb4, q0, q1⟩ := HM.out _ N4.out)
                | (go_at_call 61; refine (HSB.out _ N4.out.res).mono ?_; rintro e w5 ⟨rfl, hb⟩; have N5 := Lib.hid (N4.out.later hb); clear hb)
                | (go_at_call 110; refine (HSG.out _ N5.out.res).mono ?_; rintro e w6 ⟨rfl, hb⟩; have N6 := Lib.hid (N5.out.later hb); clear hb))
                  go_roundw
                  case rel => exact ⟨k + 1, s, HLT.out.1, by go_num, rfl, Lib.hid ⟨HE.out.1, HR2.out⟩, N6⟩
                  case measure => have := HLT.out.1; simp [intOf]; omega
          · have hlt' : ¬ (k : Int) < (p.length : Int) := by omega
            obtain rfl : k = p.length := by omega
            have HR2 := Lib.hid (show foldX (partX f q) zT p = .ok s by
              have := HE.out.2
              rwa [List.drop_length] at this)
            clear hlt
            go_wp2
            go_ret2
            rw [HR.out, HR2.out]
            exact ⟨rfl, HN.out.below⟩
    · have HSG := Lib.hid (retRSign_err hf h1)
      have hm := ne_zero h1
      have HR := Lib.hid (show deltaX p q f = .error (errQ f.data.toList) by
        rw [HR0.out, posE_err h1, if_pos h1])
      clear h1 hf
      go_enter Tryz.func102, Tryz.ntmps102
      go_wp2_with (first
        | (go_at_call 114; refine (HC.out).mono ?_; rintro e w1 ⟨rfl, hb⟩; have N1 := Lib.hid (N0.out.later hb); clear hb)
        | (go_at_call 110; refine (HSG.out _ N1.out.res).mono ?_; rintro e w2 ⟨rfl, hb⟩; have N2 := Lib.hid (N1.out.later hb); clear hb))
      go_ret2
      rw [HR.out]
      exact ⟨rfl, N2.out.below⟩
  · have HR := Lib.hid (show deltaX p q f = .error (chk2 p q) by unfold deltaX; rw [if_pos h0])
    have hm := ne_zero h0
    clear h0 hf
    go_enter Tryz.func102, Tryz.ntmps102
    go_wp2_with (go_at_call 114; refine (HC.out).mono ?_; rintro e w1 ⟨rfl, hb⟩; have N1 := Lib.hid (N0.out.later hb); clear hb)
    go_ret2
    rw [HR.out]
    exact ⟨rfl, N1.out.below⟩
set_option maxRecDepth 100000 in
set_option maxHeartbeats 8000000 in
theorem rddistance_any (p q : List L2) (vp vq : Value) (w : World) (hp : LRow w vp p) (hq : LRow w vq q) (sp : Short p) (sq : Short q) (hr : Res w) :
    Calls Tryz.prog 103 #[vp, vq] w fun e w' => e = .returned (resX (deltaX p q oT)) ∧ Below w.heap.size w w' := by
  have HD := Lib.hid (rddelta_any p q vp vq oT w hp hq sp sq oT_small hr)
  have N0 := Lib.hid (NW.refl hr)
  obtain ⟨r0, r1, hc⟩ := resX_tup (deltaX p q oT)
  rw [hc] at HD
  change Hid (Calls _ _ #[vp, vq, .string ⟨#[49]⟩] _ _) at HD
  rw [hc]
  clear hp hq sp sq hr hc
  go_enter Tryz.func103, Tryz.ntmps103
  go_wp2_with (go_at_call 102; refine (HD.out).mono ?_; rintro e w1 ⟨rfl, hb⟩; have N1 := Lib.hid (N0.out.later hb); clear hb)
  go_ret2
  exact ⟨rfl, N1.out.below⟩
/-- P^n / Q^(n-1). -/
def pxX (a b : ByteArray) (n : Int) : XE := match powX a n with
  | .error e => .error e
  | .ok x => match powX b (n - 1) with
    | .error e => .error e
    | .ok y => divX x y
theorem powsX_px (n : Int) (q : List L2) (m : L2) : powsX n q m = pxX m.2 (atT q m.1) n := rfl
set_option maxRecDepth 100000 in
set_option maxHeartbeats 8000000 in
theorem rpart_any {a b : ByteArray} {n : Int} {p q : Rat} {k : Nat} (ha : IsT a p) (hb : IsT b q) (hp : 0 < p) (hq : 0 < q) (sa : Sz k p) (sb : Sz k q) (hk : k * 8 + 1 ≤ maxD) (hn1 : 1 ≤ n) (hn8 : n ≤ 8) :
    Ret 186 #[.string a, .string b, .int .i64 n] (resX (pxX a b n)) := fun w hr => by
  obtain ⟨m, rfl⟩ : ∃ m : Nat, n = ((m + 1 : Nat) : Int) := ⟨(n - 1).toNat, by omega⟩
  have f1 : fits (p ^ (m + 1)) = true := fits_sz.2 ((sa.pow (m + 1)).mono (by
    have : k * (m + 1) ≤ k * 8 := Nat.mul_le_mul_left _ (by omega)
    omega))
  have f2 : fits (q ^ m) = true := fits_sz.2 ((sb.pow m).mono (by
    have : k * m ≤ k * 8 := Nat.mul_le_mul_left _ (by omega)
    omega))
  have e1 := powX_val ha.err (m + 1)
  have e2 := powX_val hb.err m
  rw [ha.val, ovT_fit f1] at e1
  rw [hb.val, ovT_fit f2] at e2
  have em : ((m + 1 : Nat) : Int) - 1 = (m : Int) := by omega
  have hv : pxX a b ((m + 1 : Nat) : Int) = divX (rT (p ^ (m + 1))) (rT (q ^ m)) := by
    unfold pxX
    rw [e1]
    dsimp only
    rw [em, e2]
  rw [hv]
  clear hv
  have HPA := Lib.hid (retPowS (n := ((m + 1 : Nat) : Int)) ha hp (by rw [Rat.zpow_natCast]; exact isT_rT f1) (by omega) (by omega))
  have HPB := Lib.hid (retPowS (n := (m : Int)) hb hq (by rw [Rat.zpow_natCast]; exact isT_rT f2) (by omega) (by omega))
  have HDV := Lib.hid (retRDivX (isT_rT f1).size (isT_rT f2).size)
  have N0 := Lib.hid (NW.refl hr)
  have TKA : True := trivial
  have hem := Lib.hid em
  obtain ⟨r0, r1, hc⟩ := resX_tup (divX (rT (p ^ (m + 1))) (rT (q ^ m)))
  rw [hc] at HDV ⊢
  rw [← em] at HPB
  clear f1 f2 e1 e2 hc hp hq sa sb hr ha hb hem em
  generalize rT (p ^ (m + 1)) = s at *
  generalize rT (q ^ m) = t at *
  generalize ((m + 1 : Nat) : Int) = n at *
  go_enter Tryz.func186, Tryz.ntmps186
  go_wp2_with (first
    | (clear TKA; go_at_call 240; refine (HPA.out _ N0.out.res).mono ?_; rintro e w1 ⟨rfl, hb⟩; have N1 := Lib.hid (N0.out.later hb); clear hb)
    | (go_at_call 240; refine (HPB.out _ N1.out.res).mono ?_; rintro e w2 ⟨rfl, hb⟩; have N2 := Lib.hid (N1.out.later hb); clear hb)
    | (go_at_call 160; refine (HDV.out _ N2.out.res).mono ?_; rintro e w3 ⟨rfl, hb⟩; have N3 := Lib.hid (N2.out.later hb); clear hb))
  go_ret2
  exact ⟨rfl, N3.out.below⟩
set_option maxRecDepth 100000 in
set_option maxHeartbeats 8000000 in
/-- The reference's Factor. -/
theorem rdfactor_any (p q : List L2) (vp vq : Value) (w : World) (hp : LRow w vp p) (hq : LRow w vq q) (sp : Short p) (sq : Short q) (hr : Res w) :
    Calls Tryz.prog 63 #[vp, vq] w fun e w' => e = .returned (facV p q) ∧ Below w.heap.size w w' := by
  have N0 := Lib.hid (NW.refl hr)
  have HC := Lib.hid (rdboth_any p q vp vq w hp hq sp sq hr)
  have HVP := Lib.hid hp
  have HVQ := Lib.hid hq
  have HSH := Lib.hid (And.intro sp sq)
  have HWI := Lib.hid (fun W (hW : NW w W) => rdwithin_any p q vp vq W (hp.below hW.below) (hq.below hW.below))
  obtain ⟨A, c, rfl, hlen, hcells⟩ := hp
  obtain ⟨A', c', rfl, hlen', hcells'⟩ := hq
  clear hcells hcells' sp sq hr
  by_cases h0 : chk2 p q = 0
  · rw [h0] at HC
    change Hid (Calls _ _ _ _ fun e w' => e = .returned (.int .i64 0) ∧ _) at HC
    have HR0 := Lib.hid (show facV p q = if inX p q = false then .tuple #[.string ⟨#[]⟩, .bool false, .int .i64 0] else resF (mostX q zT p) by unfold facV; rw [if_neg (by simpa using h0)])
    clear h0
    cases hi : inX p q with
    | false =>
      have HR := Lib.hid (show facV p q = .tuple #[.string ⟨#[]⟩, .bool false, .int .i64 0] by rw [HR0.out, if_pos hi])
      rw [hi] at HWI
      clear hi
      go_enter Tryz.func63, Tryz.ntmps63
      go_wp2_with (first
        | (go_at_call 114; refine HC.out.mono ?_; rintro e w1 ⟨rfl, hb⟩; have N1 := Lib.hid (N0.out.later hb); clear hb)
        | (go_at_call 159; refine (HWI.out _ N1.out).mono ?_; rintro e w2 ⟨rfl, hw⟩; have N2 := Lib.hid (show NW w w2 by rw [hw]; exact N1.out); clear hw))
      go_ret3
      rw [HR.out]
      exact ⟨rfl, N2.out.below⟩
    | true =>
      have HR := Lib.hid (show facV p q = resF (mostX q zT p) by rw [HR0.out, if_neg (by rw [hi]; decide)])
      rw [hi] at HWI
      clear hi
      go_enter Tryz.func63, Tryz.ntmps63
      go_wp2_with (first
        | (go_at_call 114; refine HC.out.mono ?_; rintro e w1 ⟨rfl, hb⟩; have N1 := Lib.hid (N0.out.later hb); clear hb)
        | (go_at_call 159; refine (HWI.out _ N1.out).mono ?_; rintro e w2 ⟨rfl, hw⟩; have N2 := Lib.hid (show NW w w2 by rw [hw]; exact N1.out); clear hw))
      go_loopw [8, 9] (fun v8 v9 wr => ∃ (k : Nat) (s : ByteArray), k ≤ p.length ∧ v9 = .int .i64 (k : Int) ∧ v8 = .string s ∧ Hid (errQ s.data.toList = 0 ∧ mostX q zT p = mostX q s (p.drop k)) ∧ Hid (NW w wr)) (fun _ v9 _ => p.length - (intOf v9).toNat)
      case atStart => exact ⟨0, zT, Nat.zero_le _, rfl, rfl, Lib.hid ⟨err_zT, by simp⟩, N2⟩
      case round =>
        clear N0 N1 N2 HC HWI HR0
        obtain ⟨k, s, hk, rfl, rfl, HE, HN⟩ := hrel
        by_cases hlt : k < p.length
        · obtain ⟨x, hx⟩ : ∃ x, p[k]? = some x := ⟨_, List.getElem?_eq_getElem hlt⟩
          obtain ⟨b, o, c2, e', hb2, c0, c1⟩ := HVP.out.at HN.out.below hx
          simp only [Value.slice.injEq, true_and] at e'
          obtain ⟨rfl, rfl⟩ := e'
          have hlt' : (k : Int) < (p.length : Int) := by omega
          have z0 : ∀ z : LaterW wr, z.W.cell? ⟨b, o + k * 2, none⟩ = some (.string x.1) := fun z => (z.h.cell (p := ⟨b, o + k * 2, none⟩) hb2).trans c0
          have z1 : ∀ z : LaterW wr, z.W.cell? ⟨b, o + k * 2 + 1, none⟩ = some (.string x.2) := fun z => (z.h.cell (p := ⟨b, o + k * 2 + 1, none⟩) hb2).trans c1
          have HAT := Lib.hid (fun W (hW : Below wr.heap.size wr W) => rdAt_any q _ x.1 W ((HVQ.out.below HN.out.below).below hW))
          have HDV := Lib.hid (retRDivX (HSH.out.1 x (List.mem_of_getElem? hx)).2 (HSH.out.2.atT (k := x.1)))
          have HD := Lib.hid (drop_of hx)
          have HLT := Lib.hid (And.intro hlt hlt')
          obtain ⟨y, d⟩ := x
          dsimp only at c0 c1 z0 z1 HAT HDV HD
          clear hx hlt c0 c1
          cases hd : divX d (atT q y) with
          | error m =>
            have HR2 := Lib.hid (show mostX q zT p = .error m by rw [HE.out.2, HD.out]; unfold mostX; dsimp only; rw [hd])
            have hm := ne_zero (exQ_err hd)
            rw [hd] at HDV
            change Hid (Ret _ _ (.tuple #[.string ⟨#[]⟩, .int .i64 (m : Int)])) at HDV
            clear hd
            go_wp2
            refine wp_region_fast (by kernel_rfl) (by kernel_rfl) (by kernel_rfl) ?_
            repeat (go_big_quiet_step (first
              | (go_at_call 39; refine (HAT.out _ (LaterW.h _)).mono ?_; rintro e w99 ⟨rfl, rfl⟩; exact ⟨rfl, ⟨_, rfl⟩⟩)
              | (go_at_call 160; refine (HDV.out _ (HN.out.res.below (LaterW.h _))).mono ?_; rintro e w99 ⟨rfl, hb9⟩; exact ⟨rfl, ⟨⟨w99, (LaterW.h _).trans (hb9.mono (LaterW.h _).size)⟩, rfl⟩⟩)))
            refine wpQuiet_nil ?_
            rintro _ ⟨z, rfl⟩
            have N3 := Lib.hid (HN.out.later z.h)
            go_wp2
            go_ret3
            rw [HR.out, HR2.out]
            exact ⟨rfl, N3.out.below⟩
          | ok t =>
            rw [hd] at HDV
            change Hid (Ret _ _ (.tuple #[.string t, .int .i64 0])) at HDV
            have hmx := maxX_val HE.out.1 (divX_ok hd)
            have HMX := Lib.hid (retRMaxX (size_ok HE.out.1) (size_ok (divX_ok hd)))
            rw [hmx] at HMX
            have HR2 := Lib.hid (show mostX q zT p = mostX q (if cmpQ (valQ s.data.toList) (valQ t.data.toList) < 0 then t else s) (p.drop (k + 1)) by
              rw [HE.out.2, HD.out]
              conv => lhs; unfold mostX
              dsimp only
              rw [hd])
            have HER := Lib.hid (show errQ (if cmpQ (valQ s.data.toList) (valQ t.data.toList) < 0 then t else s).data.toList = 0 by split; exact divX_ok hd; exact HE.out.1)
            generalize (if cmpQ (valQ s.data.toList) (valQ t.data.toList) < 0 then t else s) = u at *
            change Hid (Ret _ _ (.tuple #[.string u, .int .i64 0])) at HMX
            clear hd hmx
            go_wp2
            refine wp_region_fast (by kernel_rfl) (by kernel_rfl) (by kernel_rfl) ?_
            repeat (go_big_quiet_step (first
              | (go_at_call 39; refine (HAT.out _ (LaterW.h _)).mono ?_; rintro e w99 ⟨rfl, rfl⟩; exact ⟨rfl, ⟨_, rfl⟩⟩)
              | (go_at_call 160; refine (HDV.out _ (HN.out.res.below (LaterW.h _))).mono ?_; rintro e w99 ⟨rfl, hb9⟩; exact ⟨rfl, ⟨⟨w99, (LaterW.h _).trans (hb9.mono (LaterW.h _).size)⟩, rfl⟩⟩)))
            refine wpQuiet_nil ?_
            rintro _ ⟨z, rfl⟩
            have N3 := Lib.hid (HN.out.later z.h)
            go_wp2_with (go_at_call 57; refine (HMX.out _ N3.out.res).mono ?_; rintro e w5 ⟨rfl, hb⟩; have N5 := Lib.hid (N3.out.later hb); clear hb)
            go_roundw
            case rel => exact ⟨k + 1, u, HLT.out.1, by go_num, rfl, Lib.hid ⟨HER.out, HR2.out⟩, N5⟩
            case measure => have := HLT.out.1; simp [intOf]; omega
        · have hlt' : ¬ (k : Int) < (p.length : Int) := by omega
          obtain rfl : k = p.length := by omega
          have HR2 := Lib.hid (show mostX q zT p = .ok s by
            have := HE.out.2
            rwa [List.drop_length] at this)
          clear hlt
          go_wp2
          go_ret3
          rw [HR.out, HR2.out]
          exact ⟨rfl, HN.out.below⟩
  · have HR := Lib.hid (show facV p q = .tuple #[.string ⟨#[]⟩, .bool false, .int .i64 (chk2 p q : Int)] by unfold facV; rw [if_pos h0])
    have hm := ne_zero h0
    have hm2 := ne_zero2 h0
    clear h0
    go_enter Tryz.func63, Tryz.ntmps63
    go_wp2_with (go_at_call 114; refine (HC.out).mono ?_; rintro e w1 ⟨rfl, hb⟩; have N1 := Lib.hid (N0.out.later hb); clear hb)
    go_ret3
    rw [HR.out]
    exact ⟨rfl, N1.out.below⟩
end Go.Proofs.YtigapglmipmbeaaGreatDoor
namespace Go.Proofs.YtigapglmipmbeaaGreatDoor
open Lim

/-! ### scaled lists and pairs -/
end Go.Proofs.YtigapglmipmbeaaGreatDoor
namespace Go.Proofs.YtigapglmipmbeaaGreatDoor
open Lim

section
variable {a b : Nat} {ls la lb : List L2}
end
end Go.Proofs.YtigapglmipmbeaaGreatDoor
namespace Go.Proofs.YtigapglmipmbeaaGreatDoor
open Lim

theorem atT_mem {key : ByteArray} : ∀ {ls : List L2}, key ∈ ls.map (·.1) → ∃ x ∈ ls, x.1 = key ∧ atT ls key = x.2
  | [], h => by cases h
  | x :: l, h => by
    unfold atT
    split
    · rename_i e; exact ⟨x, by simp, e, rfl⟩
    · rename_i e
      rcases List.mem_cons.1 h with h | h
      · exact absurd h.symm e
      · obtain ⟨y, hy, e1, e2⟩ := atT_mem h
        exact ⟨y, by simp [hy], e1, e2⟩
/-! ### Delta -/
/-! ### Factor -/
/-! ### Moment -/
end Go.Proofs.YtigapglmipmbeaaGreatDoor
