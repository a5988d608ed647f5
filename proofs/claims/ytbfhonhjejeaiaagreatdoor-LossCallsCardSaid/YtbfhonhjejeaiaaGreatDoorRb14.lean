/- The reference's functions of two numbers, on texts of numbers. The reference's losses (printed by mklref.py). loss.Group. The reference's sums and comparisons of losses (printed by mklref2.py). The door of a function that defers ends, inside the wide fence. loss.Late, where no number on the way is too long. -/
import Derived.Test.YtbfhonhjejeaiaaGreatDoorRb10
import Derived.Test.YtbfhonhjejeaiaaGreatDoorRb12
import Derived.Test.YtbfhonhjejeaiaaGreatDoorRb13
import Derived.Test.YtbfhonhjejeaiaaGreatDoorRb11
import Derived.Test.YtbfhonhjejeaiaaGreatDoorRb03
import Derived.RecoverIn
import Derived.TacticsInMore
namespace Go.Proofs.YtbfhonhjejeaiaaGreatDoor
open Go.RowKit Go.Shelf
open Lim

section
variable {a b c : ByteArray} {p q : Rat} (w : World)
theorem raddT (ha : IsT a p) (hb : IsT b q) (hc : IsT c (p + q)) :
    Calls Tryz.prog 68 #[.string a, .string b] w fun e w' => e = .returned (.tuple #[.string c, .int .i64 0]) ∧ Below w.heap.size w w' := by
  refine (refAdd_any a b w ha.size hb.size).mono ?_
  rintro e w' ⟨rfl, h⟩
  rw [two_T ha hb, out_T hc]
  exact ⟨rfl, h⟩
theorem raddO (ha : IsT a p) (hb : IsT b q) (hf : fits (p + q) = false) :
    Calls Tryz.prog 68 #[.string a, .string b] w fun e w' => e = .returned (.tuple #[.string ⟨#[]⟩, .int .i64 5]) ∧ Below w.heap.size w w' := by
  refine (refAdd_any a b w ha.size hb.size).mono ?_
  rintro e w' ⟨rfl, h⟩
  rw [two_T ha hb, out_O hf]
  exact ⟨rfl, h⟩
theorem rmulT (ha : IsT a p) (hb : IsT b q) (hc : IsT c (p * q)) :
    Calls Tryz.prog 34 #[.string a, .string b] w fun e w' => e = .returned (.tuple #[.string c, .int .i64 0]) ∧ Below w.heap.size w w' := by
  refine (refMul_any a b w ha.size hb.size).mono ?_
  rintro e w' ⟨rfl, h⟩
  rw [two_T ha hb, out_T hc]
  exact ⟨rfl, h⟩
theorem rmulO (ha : IsT a p) (hb : IsT b q) (hf : fits (p * q) = false) :
    Calls Tryz.prog 34 #[.string a, .string b] w fun e w' => e = .returned (.tuple #[.string ⟨#[]⟩, .int .i64 5]) ∧ Below w.heap.size w w' := by
  refine (refMul_any a b w ha.size hb.size).mono ?_
  rintro e w' ⟨rfl, h⟩
  rw [two_T ha hb, out_O hf]
  exact ⟨rfl, h⟩
theorem rcmpT (ha : IsT a p) (hb : IsT b q) :
    Calls Tryz.prog 35 #[.string a, .string b] w fun e w' => e = .returned (.tuple #[.int .i64 (cmpQ p q), .int .i64 0]) ∧ Below w.heap.size w w' := by
  refine (refCmp_any a b w ha.size hb.size).mono ?_
  rintro e w' ⟨rfl, h⟩
  rw [two_I ha hb]
  exact ⟨rfl, h⟩
theorem rminT (ha : IsT a p) (hb : IsT b q) :
    Calls Tryz.prog 113 #[.string a, .string b] w fun e w' => e = .returned (.tuple #[.string (rT (minQ p q)), .int .i64 0]) ∧ Below w.heap.size w w' := by
  refine (refMin_any a b w ha.size hb.size).mono ?_
  rintro e w' ⟨rfl, h⟩
  refine ⟨?_, h⟩
  rw [two_I ha hb, ← rT_min ha hb]
  unfold chooseQ resS
  simp only [ne_eq, not_true_eq_false, if_false, Int.mul_one]
  split <;> rfl
theorem rmaxT (ha : IsT a p) (hb : IsT b q) :
    Calls Tryz.prog 71 #[.string a, .string b] w fun e w' => e = .returned (.tuple #[.string (rT (maxQ p q)), .int .i64 0]) ∧ Below w.heap.size w w' := by
  refine (refMax_any a b w ha.size hb.size).mono ?_
  rintro e w' ⟨rfl, h⟩
  refine ⟨?_, h⟩
  rw [two_I ha hb, ← rT_max ha hb]
  unfold chooseQ resS
  simp only [ne_eq, not_true_eq_false, if_false]
  by_cases h0 : cmpQ p q < 0
  · rw [if_pos h0, if_pos (by omega)]; rfl
  · rw [if_neg h0, if_neg (by omega)]; rfl
theorem rpowT {n : Int} (ha : IsT a p) (h0 : ¬ (n < 0 ∧ p = 0)) (hc : IsT c (p ^ n)) (h1 : -9223372036854775808 ≤ n) (h2 : n ≤ 9223372036854775807) :
    Calls Tryz.prog 33 #[.string a, .int .i64 n] w fun e w' => e = .returned (.tuple #[.string c, .int .i64 0]) ∧ Below w.heap.size w w' := by
  refine (refPow_any a n w ha.size h1 h2).mono ?_
  rintro e w' ⟨rfl, h⟩
  rw [one_T ha, powQ_z h0, out_T hc]
  exact ⟨rfl, h⟩
end
end Go.Proofs.YtbfhonhjejeaiaaGreatDoor
namespace Go.Proofs.YtbfhonhjejeaiaaGreatDoor
open Go.RowKit Go.Shelf
open Lim

/-- A new block, and what lay there ahead. -/
structure At1 (w : World) (t1 : TypeId) (c1 : Array Value) (W : World) : Prop where
  a : Blk W w.heap.size t1 c1
  res : Res W
  below : Below w.heap.size w W
theorem At1.later {w W W' : World} {t1 : TypeId} {c1 : Array Value} (h : At1 w t1 c1 W) (hb : Below W.heap.size W W') : At1 w t1 c1 W' :=
  ⟨h.a.below hb h.a.lt, h.res.below hb, h.below.trans (hb.mono h.below.size)⟩
theorem At1.new (w : World) (t1 : TypeId) (c1 : Array Value) (hr : Res w) : At1 w t1 c1 (w.alloc (.cells c1 t1)) :=
  ⟨Blk.new w t1 c1, hr.below (below_alloc (Below.refl _ _) _), below_alloc (Below.refl _ _) _⟩
set_option maxRecDepth 100000 in
set_option maxHeartbeats 2000000 in
theorem rat_any {a b : ByteArray} {p q : Rat} (w : World) (ha : IsT a p) (hb : IsT b q) :
    Calls Tryz.prog 75 #[.string a, .string b] w fun e w' => e = .returned (.bool (decide (cmpQ p q ≤ 0))) ∧ Below w.heap.size w w' := by
  have HC := Lib.hid (rcmpT w ha hb)
  generalize cmpQ p q = x at *
  clear ha hb
  go_enter Tryz.func75, Tryz.ntmps75
  go_wp2_with (go_at_call 35; refine HC.out.mono ?_; rintro e w1 ⟨rfl, hb⟩; have HB := Lib.hid hb; clear hb)
  go_ret
  exact ⟨rfl, HB.out⟩
set_option maxRecDepth 100000 in
set_option maxHeartbeats 2000000 in
theorem rcheck_f (f d : ByteArray) (w : World) (h1 : f.size ≤ 270000) (_h2 : d.size ≤ 270000) (hr : Res w) (he : errQ f.data.toList ≠ 0) :
    Calls Tryz.prog 26 #[.agg #[.string f, .string d]] w fun e w' => e = .returned (.int .i64 (errQ f.data.toList : Int)) ∧ Below w.heap.size w w' := by
  have H := Lib.hid (At1.new w 24 #[.string f, .string d] hr)
  have HF := Lib.hid (fun w => refCheck_any f w h1)
  obtain ⟨z, hz⟩ : ∃ z : Int, (errQ f.data.toList : Int) = z := ⟨_, rfl⟩
  rw [hz] at HF ⊢
  have hne : (z == 0) = false := by rw [beq_eq_false_iff_ne]; omega
  clear h1 hr he hz
  go_enter Tryz.func26, Tryz.ntmps26
  go_wp2_with (go_at_call 82; refine (HF.out _).mono ?_; rintro e w1 ⟨rfl, hb⟩; have H1 := Lib.hid (H.out.later hb); obtain ⟨p0, p1⟩ := cells2 H1.out.a; clear hb)
  go_ret
  exact ⟨rfl, H1.out.below⟩
set_option maxRecDepth 100000 in
set_option maxHeartbeats 2000000 in
theorem rcheck_d (f d : ByteArray) (w : World) (h1 : f.size ≤ 270000) (h2 : d.size ≤ 270000) (hr : Res w) (he1 : errQ f.data.toList = 0) (he : errQ d.data.toList ≠ 0) :
    Calls Tryz.prog 26 #[.agg #[.string f, .string d]] w fun e w' => e = .returned (.int .i64 (errQ d.data.toList : Int)) ∧ Below w.heap.size w w' := by
  have H := Lib.hid (At1.new w 24 #[.string f, .string d] hr)
  have HF := Lib.hid (fun w => refCheck_any f w h1)
  have HD := Lib.hid (fun w => refCheck_any d w h2)
  rw [he1] at HF
  obtain ⟨z, hz⟩ : ∃ z : Int, (errQ d.data.toList : Int) = z := ⟨_, rfl⟩
  rw [hz] at HD ⊢
  have hne : (z == 0) = false := by rw [beq_eq_false_iff_ne]; omega
  have TK1 : True := trivial
  clear h1 h2 hr he he1 hz
  go_enter Tryz.func26, Tryz.ntmps26
  go_wp2_with (first
    | (clear TK1; go_at_call 82; refine (HF.out _).mono ?_; rintro e w1 ⟨rfl, hb⟩; have H1 := Lib.hid (H.out.later hb); obtain ⟨p0, p1⟩ := cells2 H1.out.a; clear hb)
    | (go_at_call 82; refine (HD.out _).mono ?_; rintro e w2 ⟨rfl, hb⟩; have H2 := Lib.hid (H1.out.later hb); obtain ⟨q0, q1⟩ := cells2 H2.out.a; clear hb))
  go_ret
  exact ⟨rfl, H2.out.below⟩
set_option maxRecDepth 100000 in
set_option maxHeartbeats 2000000 in
theorem rcheck_1 (f d : ByteArray) (w : World) (h1 : f.size ≤ 270000) (h2 : d.size ≤ 270000) (hr : Res w) (F D : Rat) (hf : IsT f F) (hd : IsT d D) (b1 : decide (cmpQ 1 F ≤ 0) = false) :
    Calls Tryz.prog 26 #[.agg #[.string f, .string d]] w fun e w' => e = .returned (.int .i64 2) ∧ Below w.heap.size w w' := by
  have H := Lib.hid (At1.new w 24 #[.string f, .string d] hr)
  have HF := Lib.hid (fun w => refCheck_any f w h1)
  have HD := Lib.hid (fun w => refCheck_any d w h2)
  rw [hf.err] at HF
  rw [hd.err] at HD
  have HA1 := Lib.hid (fun w => rat_any w IsT.one hf)
  rw [b1] at HA1
  have TK1 : True := trivial
  have TK2 : True := trivial
  have TK3 : True := trivial
  clear h1 h2 hr hf hd b1
  go_enter Tryz.func26, Tryz.ntmps26
  go_wp2_with (first
    | (clear TK1; go_at_call 82; refine (HF.out _).mono ?_; rintro e w1 ⟨rfl, hb⟩; have H1 := Lib.hid (H.out.later hb); obtain ⟨p0, p1⟩ := cells2 H1.out.a; clear hb)
    | (go_at_call 82; refine (HD.out _).mono ?_; rintro e w2 ⟨rfl, hb⟩; have H2 := Lib.hid (H1.out.later hb); obtain ⟨q0, q1⟩ := cells2 H2.out.a; clear hb)
    | (clear TK2; go_at_call 75; refine (HA1.out _).mono ?_; rintro e w3 ⟨rfl, hb⟩; have H3 := Lib.hid (H2.out.later hb); obtain ⟨r0, r1⟩ := cells2 H3.out.a; clear hb))
  go_ret
  exact ⟨rfl, H3.out.below⟩
set_option maxRecDepth 100000 in
set_option maxHeartbeats 2000000 in
theorem rcheck_2 (f d : ByteArray) (w : World) (h1 : f.size ≤ 270000) (h2 : d.size ≤ 270000) (hr : Res w) (F D : Rat) (hf : IsT f F) (hd : IsT d D) (b1 : decide (cmpQ 1 F ≤ 0) = true) (b2 : decide (cmpQ 0 D ≤ 0) = false) :
    Calls Tryz.prog 26 #[.agg #[.string f, .string d]] w fun e w' => e = .returned (.int .i64 2) ∧ Below w.heap.size w w' := by
  have H := Lib.hid (At1.new w 24 #[.string f, .string d] hr)
  have HF := Lib.hid (fun w => refCheck_any f w h1)
  have HD := Lib.hid (fun w => refCheck_any d w h2)
  rw [hf.err] at HF
  rw [hd.err] at HD
  have HA1 := Lib.hid (fun w => rat_any w IsT.one hf)
  rw [b1] at HA1
  have HA2 := Lib.hid (fun w => rat_any w IsT.zero hd)
  rw [b2] at HA2
  have TK1 : True := trivial
  have TK2 : True := trivial
  have TK3 : True := trivial
  clear h1 h2 hr hf hd b1 b2
  go_enter Tryz.func26, Tryz.ntmps26
  go_wp2_with (first
    | (clear TK1; go_at_call 82; refine (HF.out _).mono ?_; rintro e w1 ⟨rfl, hb⟩; have H1 := Lib.hid (H.out.later hb); obtain ⟨p0, p1⟩ := cells2 H1.out.a; clear hb)
    | (go_at_call 82; refine (HD.out _).mono ?_; rintro e w2 ⟨rfl, hb⟩; have H2 := Lib.hid (H1.out.later hb); obtain ⟨q0, q1⟩ := cells2 H2.out.a; clear hb)
    | (clear TK2; go_at_call 75; refine (HA1.out _).mono ?_; rintro e w3 ⟨rfl, hb⟩; have H3 := Lib.hid (H2.out.later hb); obtain ⟨r0, r1⟩ := cells2 H3.out.a; clear hb)
    | (clear TK3; go_at_call 75; refine (HA2.out _).mono ?_; rintro e w4 ⟨rfl, hb⟩; have H4 := Lib.hid (H3.out.later hb); obtain ⟨s0, s1⟩ := cells2 H4.out.a; clear hb))
  go_ret
  exact ⟨rfl, H4.out.below⟩
set_option maxRecDepth 100000 in
set_option maxHeartbeats 2000000 in
theorem rcheck_3 (f d : ByteArray) (w : World) (h1 : f.size ≤ 270000) (h2 : d.size ≤ 270000) (hr : Res w) (F D : Rat) (hf : IsT f F) (hd : IsT d D) (b1 : decide (cmpQ 1 F ≤ 0) = true) (b2 : decide (cmpQ 0 D ≤ 0) = true) (b3 : decide (cmpQ D 1 ≤ 0) = false) :
    Calls Tryz.prog 26 #[.agg #[.string f, .string d]] w fun e w' => e = .returned (.int .i64 2) ∧ Below w.heap.size w w' := by
  have H := Lib.hid (At1.new w 24 #[.string f, .string d] hr)
  have HF := Lib.hid (fun w => refCheck_any f w h1)
  have HD := Lib.hid (fun w => refCheck_any d w h2)
  rw [hf.err] at HF
  rw [hd.err] at HD
  have HA1 := Lib.hid (fun w => rat_any w IsT.one hf)
  rw [b1] at HA1
  have HA2 := Lib.hid (fun w => rat_any w IsT.zero hd)
  rw [b2] at HA2
  have HA3 := Lib.hid (fun w => rat_any w hd IsT.one)
  rw [b3] at HA3
  have TK1 : True := trivial
  have TK2 : True := trivial
  have TK3 : True := trivial
  clear h1 h2 hr hf hd b1 b2 b3
  go_enter Tryz.func26, Tryz.ntmps26
  go_wp2_with (first
    | (clear TK1; go_at_call 82; refine (HF.out _).mono ?_; rintro e w1 ⟨rfl, hb⟩; have H1 := Lib.hid (H.out.later hb); obtain ⟨p0, p1⟩ := cells2 H1.out.a; clear hb)
    | (go_at_call 82; refine (HD.out _).mono ?_; rintro e w2 ⟨rfl, hb⟩; have H2 := Lib.hid (H1.out.later hb); obtain ⟨q0, q1⟩ := cells2 H2.out.a; clear hb)
    | (clear TK2; go_at_call 75; refine (HA1.out _).mono ?_; rintro e w3 ⟨rfl, hb⟩; have H3 := Lib.hid (H2.out.later hb); obtain ⟨r0, r1⟩ := cells2 H3.out.a; clear hb)
    | (clear TK3; go_at_call 75; refine (HA2.out _).mono ?_; rintro e w4 ⟨rfl, hb⟩; have H4 := Lib.hid (H3.out.later hb); obtain ⟨s0, s1⟩ := cells2 H4.out.a; clear hb)
    | (go_at_call 75; refine (HA3.out _).mono ?_; rintro e w5 ⟨rfl, hb⟩; have H5 := Lib.hid (H4.out.later hb); clear hb))
  go_ret
  exact ⟨rfl, H5.out.below⟩
set_option maxRecDepth 100000 in
set_option maxHeartbeats 2000000 in
theorem rcheck_ok (f d : ByteArray) (w : World) (h1 : f.size ≤ 270000) (h2 : d.size ≤ 270000) (hr : Res w) (F D : Rat) (hf : IsT f F) (hd : IsT d D) (b1 : decide (cmpQ 1 F ≤ 0) = true) (b2 : decide (cmpQ 0 D ≤ 0) = true) (b3 : decide (cmpQ D 1 ≤ 0) = true) :
    Calls Tryz.prog 26 #[.agg #[.string f, .string d]] w fun e w' => e = .returned (.int .i64 0) ∧ Below w.heap.size w w' := by
  have H := Lib.hid (At1.new w 24 #[.string f, .string d] hr)
  have HF := Lib.hid (fun w => refCheck_any f w h1)
  have HD := Lib.hid (fun w => refCheck_any d w h2)
  rw [hf.err] at HF
  rw [hd.err] at HD
  have HA1 := Lib.hid (fun w => rat_any w IsT.one hf)
  rw [b1] at HA1
  have HA2 := Lib.hid (fun w => rat_any w IsT.zero hd)
  rw [b2] at HA2
  have HA3 := Lib.hid (fun w => rat_any w hd IsT.one)
  rw [b3] at HA3
  have TK1 : True := trivial
  have TK2 : True := trivial
  have TK3 : True := trivial
  clear h1 h2 hr hf hd b1 b2 b3
  go_enter Tryz.func26, Tryz.ntmps26
  go_wp2_with (first
    | (clear TK1; go_at_call 82; refine (HF.out _).mono ?_; rintro e w1 ⟨rfl, hb⟩; have H1 := Lib.hid (H.out.later hb); obtain ⟨p0, p1⟩ := cells2 H1.out.a; clear hb)
    | (go_at_call 82; refine (HD.out _).mono ?_; rintro e w2 ⟨rfl, hb⟩; have H2 := Lib.hid (H1.out.later hb); obtain ⟨q0, q1⟩ := cells2 H2.out.a; clear hb)
    | (clear TK2; go_at_call 75; refine (HA1.out _).mono ?_; rintro e w3 ⟨rfl, hb⟩; have H3 := Lib.hid (H2.out.later hb); obtain ⟨r0, r1⟩ := cells2 H3.out.a; clear hb)
    | (clear TK3; go_at_call 75; refine (HA2.out _).mono ?_; rintro e w4 ⟨rfl, hb⟩; have H4 := Lib.hid (H3.out.later hb); obtain ⟨s0, s1⟩ := cells2 H4.out.a; clear hb)
    | (go_at_call 75; refine (HA3.out _).mono ?_; rintro e w5 ⟨rfl, hb⟩; have H5 := Lib.hid (H4.out.later hb); clear hb))
  go_ret
  exact ⟨rfl, H5.out.below⟩
theorem le_swap (p q : Rat) : decide (cmpQ p q ≤ 0) = !decide (cmpQ q p < 0) := by
  have := cmpQ_swap p q
  by_cases h : cmpQ q p < 0
  · rw [decide_eq_true h, decide_eq_false (by omega)]; rfl
  · rw [decide_eq_false h, decide_eq_true (by omega)]; rfl
theorem le_gt (p q : Rat) : decide (cmpQ p q ≤ 0) = !decide (cmpQ p q > 0) := by
  by_cases h : cmpQ p q > 0
  · rw [decide_eq_true h, decide_eq_false (by omega)]; rfl
  · rw [decide_eq_false h, decide_eq_true (by omega)]; rfl
/-- The reference's Check. -/
theorem refLoss_any (f d : ByteArray) (w : World) (h1 : f.size ≤ 270000) (h2 : d.size ≤ 270000) (hr : Res w) :
    Calls Tryz.prog 26 #[.agg #[.string f, .string d]] w fun e w' => e = .returned (.int .i64 (errL f d : Int)) ∧ Below w.heap.size w w' := by
  unfold errL
  by_cases e1 : errQ f.data.toList = 0
  · rw [if_neg (by omega)]
    by_cases e2 : errQ d.data.toList = 0
    · rw [if_neg (by omega)]
      have hf := IsT.of e1
      have hd := IsT.of e2
      by_cases c1 : cmpQ (valQ f.data.toList) 1 < 0
      · rw [if_pos (.inl c1)]
        exact rcheck_1 f d w h1 h2 hr _ _ hf hd (by rw [le_swap, decide_eq_true c1]; rfl)
      by_cases c2 : cmpQ (valQ d.data.toList) 0 < 0
      · rw [if_pos (.inr (.inl c2))]
        exact rcheck_2 f d w h1 h2 hr _ _ hf hd (by rw [le_swap, decide_eq_false c1]; rfl) (by rw [le_swap, decide_eq_true c2]; rfl)
      by_cases c3 : cmpQ (valQ d.data.toList) 1 > 0
      · rw [if_pos (.inr (.inr c3))]
        exact rcheck_3 f d w h1 h2 hr _ _ hf hd (by rw [le_swap, decide_eq_false c1]; rfl) (by rw [le_swap, decide_eq_false c2]; rfl) (by rw [le_gt, decide_eq_true c3]; rfl)
      rw [if_neg (by omega)]
      exact rcheck_ok f d w h1 h2 hr _ _ hf hd (by rw [le_swap, decide_eq_false c1]; rfl) (by rw [le_swap, decide_eq_false c2]; rfl) (by rw [le_gt, decide_eq_false c3]; rfl)
    · rw [if_pos e2]; exact rcheck_d f d w h1 h2 hr e1 e2
  · rw [if_pos e1]; exact rcheck_f f d w h1 h2 hr e1
end Go.Proofs.YtbfhonhjejeaiaaGreatDoor
namespace Go.Proofs.YtbfhonhjejeaiaaGreatDoor
open Go.RowKit Go.Shelf
open Lim

theorem field_bound (x y : ByteArray) (w : World) : (Instr.field 96 (.agg #[.string x, .string y]) 0).run Tryz.prog w = .ok (.agg #[.string x, .string y]) w := by kernel_rfl
theorem short_one {f d : ByteArray} (h1 : f.size ≤ 270000) (h2 : d.size ≤ 270000) : Short [(f, d)] := by
  intro x hx
  simp only [List.mem_cons, List.not_mem_nil, or_false] at hx
  rw [hx]
  exact ⟨h1, h2⟩
theorem at3_row1 {w : World} {f d : ByteArray} {c2 c3 : Array Value} {t1 t2 t3 : TypeId} {W : World} (H : At3 w t1 t2 t3 #[.string f, .string d] c2 c3 W) :
    Below W.heap.size W (W.alloc (.cells #[.string f, .string d] 24)) ∧ LRow (W.alloc (.cells #[.string f, .string d] 24)) (.slice (some ⟨W.heap.size, 0, none⟩) 1 1) [(f, d)] ∧ Res (W.alloc (.cells #[.string f, .string d] 24)) :=
  ⟨below_alloc (Below.refl _ _) _, LRow.one (Blk.new W _ _), H.res.below (below_alloc (Below.refl _ _) _)⟩
theorem firstL_one (f d : ByteArray) : firstL [(f, d)] = errL f d := by
  unfold firstL firstL
  split <;> rename_i h
  · rfl
  · simpa using (Classical.not_not.1 h).symm
/-- What Group returns. -/
def groupR (f d : ByteArray) (k : Int) : Except Nat LQ := if errL f d ≠ 0 then .error (errL f d) else if k < 0 ∨ k > 50 then .error 2 else groupL (valL (f, d)) k.toNat
theorem powsum_fits {F : Rat} : ∀ {k : Nat} {p s : Rat}, powsum F k = .ok (p, s) → fits p = true ∧ fits s = true
  | 0, p, s, h => by
    unfold powsum at h
    cases h
    exact ⟨fits_one, fits_zero⟩
  | k + 1, p, s, h => by
    unfold powsum at h
    split at h
    · cases h
    · rename_i ps hps
      cases h1 : fits (ps.2 + ps.1)
      · rw [ovr_no h1] at h; cases h
      · rw [ovr_ok h1] at h
        cases h2 : fits (ps.1 * F)
        · rw [ovr_no h2] at h; cases h
        · rw [ovr_ok h2] at h
          cases h
          exact ⟨h2, h1⟩
theorem powsum_no {F : Rat} {n : Nat} : ∀ {k j : Nat}, k ≤ j → powsum F k = .error n → powsum F j = .error n
  | k, j, hk, h => by
    obtain ⟨i, rfl⟩ := Nat.exists_eq_add_of_le hk
    induction i with
    | zero => exact h
    | succ i ih =>
      have := ih (Nat.le_add_right _ _)
      show powsum F (k + i + 1) = _
      unfold powsum
      rw [this]
theorem powsum_no1 {F p s : Rat} {k : Nat} (h : powsum F k = .ok (p, s)) (hf : fits (s + p) = false) : powsum F (k + 1) = .error 5 := by
  unfold powsum
  rw [h]
  dsimp only
  rw [ovr_no hf]
theorem powsum_no2 {F p s : Rat} {k : Nat} (h : powsum F k = .ok (p, s)) (hf : fits (s + p) = true) (hg : fits (p * F) = false) : powsum F (k + 1) = .error 5 := by
  unfold powsum
  rw [h]
  dsimp only
  rw [ovr_ok hf]
  dsimp only
  rw [ovr_no hg]
theorem powsum_ok {F p s : Rat} {k : Nat} (h : powsum F k = .ok (p, s)) (hf : fits (s + p) = true) (hg : fits (p * F) = true) : powsum F (k + 1) = .ok (p * F, s + p) := by
  unfold powsum
  rw [h]
  dsimp only
  rw [ovr_ok hf]
  dsimp only
  rw [ovr_ok hg]
theorem group_no {l : LQ} {k n : Nat} (h : powsum l.1 k = .error n) : groupL l k = .error n := by
  unfold groupL; rw [h]
set_option maxRecDepth 100000 in
set_option maxHeartbeats 4000000 in
theorem group_err (f d : ByteArray) (k : Int) (w : World) (h1 : f.size ≤ 270000) (h2 : d.size ≤ 270000) (hr : Res w) (hL : errL f d ≠ 0) :
    Calls Tryz.prog 21 #[.agg #[.string f, .string d], .int .i64 k] w fun e w' => e = .returned (resL (.error (errL f d))) ∧ Below w.heap.size w w' := by
  have H0 := At3.new w 24 24 27 #[.string f, .string d] #[.string ⟨#[]⟩, .string ⟨#[]⟩] #[.int .i64 0] hr
  obtain ⟨a1, a2, a3⟩ := at3_row1 H0
  rw [show (((w.alloc (.cells #[.string f, .string d] 24)).alloc (.cells #[.string ⟨#[]⟩, .string ⟨#[]⟩] 24)).alloc (.cells #[.int .i64 0] 27)).heap.size = w.heap.size + 1 + 1 + 1 by simp] at a2
  have HV := Lib.hid (valid_run _ _ _ a2 (short_one h1 h2) a3)
  rw [firstL_one] at HV
  have H1 := Lib.hid (H0.later a1)
  rw [endV_no hL] at HV
  generalize errL f d = n at HV
  clear H0 a1 a2 a3 h1 h2 hr hL
  go_enter_defers Tryz.func21, Tryz.ntmps21
  go_wp2_with (go_at_call 73; refine HV.out.mono ?_; rintro e w1 ⟨rfl, hb⟩; have H2 := Lib.hid (H1.out.later hb); clear hb)
  refine door_pan (v := resL (.error n)) H2.out.c ?_
  intro W hB hk hbel
  exact ⟨run_cell_errno rfl rfl (load_loss (hk _ _ _ (by omega) H2.out.b)) rfl hB, rfl, hbel _ _ (le2 _) H2.out.below⟩
set_option maxRecDepth 100000 in
set_option maxHeartbeats 4000000 in
theorem group_low (f d : ByteArray) (k : Int) (w : World) (h1 : f.size ≤ 270000) (h2 : d.size ≤ 270000) (hr : Res w) (hL : errL f d = 0) (hk : k < 0) :
    Calls Tryz.prog 21 #[.agg #[.string f, .string d], .int .i64 k] w fun e w' => e = .returned (resL (.error 2)) ∧ Below w.heap.size w w' := by
  have H0 := At3.new w 24 24 27 #[.string f, .string d] #[.string ⟨#[]⟩, .string ⟨#[]⟩] #[.int .i64 0] hr
  obtain ⟨a1, a2, a3⟩ := at3_row1 H0
  rw [show (((w.alloc (.cells #[.string f, .string d] 24)).alloc (.cells #[.string ⟨#[]⟩, .string ⟨#[]⟩] 24)).alloc (.cells #[.int .i64 0] 27)).heap.size = w.heap.size + 1 + 1 + 1 by simp] at a2
  have HV := Lib.hid (valid_run _ _ _ a2 (short_one h1 h2) a3)
  rw [firstL_one] at HV
  have H1 := Lib.hid (H0.later a1)
  rw [hL] at HV
  have g1 : decide (k < 0) = true := decide_eq_true hk
  clear H0 a1 a2 a3 h1 h2 hr hL hk
  go_enter_defers Tryz.func21, Tryz.ntmps21
  go_wp2_with (go_at_call 73; refine HV.out.mono ?_; rintro e w1 ⟨rfl, hb⟩; rw [endV_ok]; have H2 := Lib.hid (H1.out.later hb); obtain ⟨q0, q1⟩ := cells2 H2.out.b; have y0 := H2.out.b.frozen 0; have y1 := H2.out.b.frozen 1; have ce := cell0 H2.out.c; have ze := H2.out.c.frozen 0; obtain ⟨p0, p1⟩ := cells2 H2.out.a; clear hb)
  refine door_ret (v := resL (.error 2)) (run_cell_errno rfl rfl (load_loss (H2.out.b.two_set.far (p := ⟨w.heap.size + 1 + 1, 0, none⟩) (by show w.heap.size + 1 ≠ w.heap.size + 1 + 1; omega) (.int .i64 2))) rfl ((H2.out.c.two_far (by omega)).set_ 0 (.int .i64 2))) ⟨rfl, ?_⟩
  exact ((H2.out.below.setCell (Nat.le_succ _) _).setCell (Nat.le_succ _) _).setCell (le2 _) _
set_option maxRecDepth 100000 in
set_option maxHeartbeats 4000000 in
theorem group_high (f d : ByteArray) (k : Int) (w : World) (h1 : f.size ≤ 270000) (h2 : d.size ≤ 270000) (hr : Res w) (hL : errL f d = 0) (hk : 50 < k) :
    Calls Tryz.prog 21 #[.agg #[.string f, .string d], .int .i64 k] w fun e w' => e = .returned (resL (.error 2)) ∧ Below w.heap.size w w' := by
  have H0 := At3.new w 24 24 27 #[.string f, .string d] #[.string ⟨#[]⟩, .string ⟨#[]⟩] #[.int .i64 0] hr
  obtain ⟨a1, a2, a3⟩ := at3_row1 H0
  rw [show (((w.alloc (.cells #[.string f, .string d] 24)).alloc (.cells #[.string ⟨#[]⟩, .string ⟨#[]⟩] 24)).alloc (.cells #[.int .i64 0] 27)).heap.size = w.heap.size + 1 + 1 + 1 by simp] at a2
  have HV := Lib.hid (valid_run _ _ _ a2 (short_one h1 h2) a3)
  rw [firstL_one] at HV
  have H1 := Lib.hid (H0.later a1)
  rw [hL] at HV
  have g1 : decide (k < 0) = false := decide_eq_false (by omega)
  have g2 : decide (50 < k) = true := decide_eq_true hk
  clear H0 a1 a2 a3 h1 h2 hr hL hk
  go_enter_defers Tryz.func21, Tryz.ntmps21
  go_wp2_with (go_at_call 73; refine HV.out.mono ?_; rintro e w1 ⟨rfl, hb⟩; rw [endV_ok]; have H2 := Lib.hid (H1.out.later hb); obtain ⟨q0, q1⟩ := cells2 H2.out.b; have y0 := H2.out.b.frozen 0; have y1 := H2.out.b.frozen 1; have ce := cell0 H2.out.c; have ze := H2.out.c.frozen 0; obtain ⟨p0, p1⟩ := cells2 H2.out.a; clear hb)
  refine door_ret (v := resL (.error 2)) (run_cell_errno rfl rfl (load_loss (H2.out.b.two_set.far (p := ⟨w.heap.size + 1 + 1, 0, none⟩) (by show w.heap.size + 1 ≠ w.heap.size + 1 + 1; omega) (.int .i64 2))) rfl ((H2.out.c.two_far (by omega)).set_ 0 (.int .i64 2))) ⟨rfl, ?_⟩
  exact ((H2.out.below.setCell (Nat.le_succ _) _).setCell (Nat.le_succ _) _).setCell (le2 _) _
set_option maxRecDepth 100000 in
set_option maxHeartbeats 4000000 in
theorem group_run (f d : ByteArray) (K : Nat) (w : World) (h1 : f.size ≤ 270000) (h2 : d.size ≤ 270000) (hr : Res w) (l : LQ) (hl : LossIs f d l) (hK : K ≤ 50) :
    Calls Tryz.prog 21 #[.agg #[.string f, .string d], .int .i64 (K : Int)] w fun e w' => e = .returned (resL (groupL l K)) ∧ Below w.heap.size w w' := by
  have H0 := At3.new w 24 24 27 #[.string f, .string d] #[.string ⟨#[]⟩, .string ⟨#[]⟩] #[.int .i64 0] hr
  obtain ⟨a1, a2, a3⟩ := at3_row1 H0
  rw [show (((w.alloc (.cells #[.string f, .string d] 24)).alloc (.cells #[.string ⟨#[]⟩, .string ⟨#[]⟩] 24)).alloc (.cells #[.int .i64 0] 27)).heap.size = w.heap.size + 1 + 1 + 1 by simp] at a2
  have HV := Lib.hid (valid_run _ _ _ a2 (short_one h1 h2) a3)
  rw [firstL_one] at HV
  have H1 := Lib.hid (H0.later a1)
  rw [hl.err] at HV
  have HLI := Lib.hid hl
  clear H0 a1 a2 a3 h1 h2 hl
  have HR0 := Lib.hid hr
  clear hr
  have g1 : decide ((K : Int) < 0) = false := decide_eq_false (by omega)
  have g2 : decide (50 < (K : Int)) = false := decide_eq_false (by omega)
  go_enter_defers Tryz.func21, Tryz.ntmps21
  go_wp2_with (go_at_call 73; refine HV.out.mono ?_; rintro e w1 ⟨rfl, hb⟩; rw [endV_ok]; have H2 := Lib.hid (H1.out.later hb); obtain ⟨q0, q1⟩ := cells2 H2.out.b; have y0 := H2.out.b.frozen 0; have y1 := H2.out.b.frozen 1; have ce := cell0 H2.out.c; have ze := H2.out.c.frozen 0; obtain ⟨p0, p1⟩ := cells2 H2.out.a; clear hb)
  clear p0 p1 q0 q1 y0 y1 ce ze HV H1
  go_loopw [6, 7, 19] (fun v6 v7 v19 wr => ∃ (j : Nat) (p s : Rat), j ≤ K ∧ v19 = .int .i64 (j : Int) ∧ v6 = .string (rT p) ∧ v7 = .string (rT s) ∧ Hid (powsum l.1 j = .ok (p, s)) ∧ Hid (At3 w 24 24 27 #[.string f, .string d] #[.string ⟨#[]⟩, .string ⟨#[]⟩] #[.int .i64 0] wr)) (fun _ _ v19 _ => K - (intOf v19).toNat)
  case atStart => exact ⟨0, 1, 0, Nat.zero_le _, rfl, by rw [← IsT.one.text], by rw [← IsT.zero.text], Lib.hid rfl, H2⟩
  case round =>
    obtain ⟨j, p, s, hj, rfl, rfl, rfl, HP, H⟩ := hrel
    clear H2 g1 g2
    obtain ⟨hfp, hfs⟩ := powsum_fits HP.out
    obtain ⟨p0, p1⟩ := cells2 H.out.a
    by_cases hlt : j < K
    · have hlt' : (j : Int) < (K : Int) := by omega
      have HLT := Lib.hid hlt
      have TK1 : True := trivial
      cases h1 : fits (s + p) with
      | false =>
        have HA := Lib.hid (fun w hr => addO w (isT_rT hfs) (isT_rT hfp) h1 hr)
        have HN := Lib.hid (group_no (powsum_no (show j + 1 ≤ K by omega) (powsum_no1 HP.out h1)))
        generalize rT p = tp at *
        generalize rT s = ts at *
        clear hfp hfs h1 hlt hK
        go_wp2_with (first
          | (go_at_call 77; refine (HA.out _ H.out.res).mono ?_; rintro e w3 ⟨rfl, hb⟩; have H3 := Lib.hid (H.out.later hb); clear hb)
          | (go_at_call 76; refine (mustN_no _ 5 _ five).mono ?_; rintro e w4 ⟨rfl, hw⟩; subst hw))
        refine door_pan (v := resL (.error 5)) H3.out.c ?_
        intro W hB hk hbel
        exact ⟨run_cell_errno rfl rfl (load_loss (hk _ _ _ (by omega) H3.out.b)) rfl hB, by rw [HN.out], hbel _ _ (le2 _) H3.out.below⟩
      | true =>
        have HA := Lib.hid (fun w hr => addT w (isT_rT hfs) (isT_rT hfp) (isT_rT h1) hr)
        cases h2 : fits (p * l.1) with
        | false =>
          have HM := Lib.hid (fun w hr => mulO w (isT_rT hfp) HLI.out.f h2 hr)
          have HN := Lib.hid (group_no (powsum_no (show j + 1 ≤ K by omega) (powsum_no2 HP.out h1 h2)))
          generalize rT p = tp at *
          generalize rT s = ts at *
          generalize rT (s + p) = tsp at *
          clear hfp hfs h1 h2 hlt hK
          go_wp2_with (first
            | (go_at_call 77; refine (HA.out _ H.out.res).mono ?_; rintro e w3 ⟨rfl, hb⟩; have H3 := Lib.hid (H.out.later hb); obtain ⟨p0', p1'⟩ := cells2 H3.out.a; clear hb)
            | (clear TK1; go_at_call 76; refine (mustN_ok _ _).mono ?_; rintro e w4 ⟨rfl, hw⟩; subst hw)
            | (go_at_call 78; refine (HM.out _ H3.out.res).mono ?_; rintro e w5 ⟨rfl, hb⟩; have H5 := Lib.hid (H3.out.later hb); clear hb)
            | (go_at_call 76; refine (mustN_no _ 5 _ five).mono ?_; rintro e w6 ⟨rfl, hw⟩; subst hw))
          refine door_pan (v := resL (.error 5)) H5.out.c ?_
          intro W hB hk hbel
          exact ⟨run_cell_errno rfl rfl (load_loss (hk _ _ _ (by omega) H5.out.b)) rfl hB, by rw [HN.out], hbel _ _ (le2 _) H5.out.below⟩
        | true =>
          have HM := Lib.hid (fun w hr => mulT w (isT_rT hfp) HLI.out.f (isT_rT h2) hr)
          have HN := Lib.hid (powsum_ok HP.out h1 h2)
          obtain ⟨tp, htp⟩ : ∃ y, y = rT p := ⟨_, rfl⟩
          obtain ⟨ts, hts⟩ : ∃ y, y = rT s := ⟨_, rfl⟩
          obtain ⟨tsp, htsp⟩ : ∃ y, y = rT (s + p) := ⟨_, rfl⟩
          obtain ⟨tpf, htpf⟩ : ∃ y, y = rT (p * l.1) := ⟨_, rfl⟩
          rw [← htp, ← hts, ← htsp] at HA
          rw [← htp, ← htpf] at HM
          rw [← htp, ← hts]
          have HT := Lib.hid (And.intro htsp htpf)
          clear hfp hfs h1 h2 hlt htp hts htsp htpf
          go_wp2_with (first
            | (go_at_call 77; refine (HA.out _ H.out.res).mono ?_; rintro e w3 ⟨rfl, hb⟩; have H3 := Lib.hid (H.out.later hb); obtain ⟨p0', p1'⟩ := cells2 H3.out.a; clear hb)
            | (clear TK1; go_at_call 76; refine (mustN_ok _ _).mono ?_; rintro e w4 ⟨rfl, hw⟩; subst hw)
            | (go_at_call 78; refine (HM.out _ H3.out.res).mono ?_; rintro e w5 ⟨rfl, hb⟩; have H5 := Lib.hid (H3.out.later hb); clear hb)
            | (go_at_call 76; refine (mustN_ok _ _).mono ?_; rintro e w6 ⟨rfl, hw⟩; subst hw))
          go_roundw
          case rel => exact ⟨j + 1, p * l.1, s + p, HLT.out, by go_num, by rw [HT.out.2], by rw [HT.out.1], HN, H5⟩
          case measure => have := HLT.out; simp [intOf]; omega
    · have hlt' : ¬ (j : Int) < (K : Int) := by omega
      obtain rfl : j = K := by omega
      obtain ⟨q0, q1⟩ := cells2 H.out.b
      cases h1 : fits (l.2 * s) with
      | false =>
        have HM := Lib.hid (fun w hr => mulO w HLI.out.d (isT_rT hfs) h1 hr)
        have HN := Lib.hid (show groupL l j = .error 5 by unfold groupL; rw [HP.out]; dsimp only; rw [ovr_no h1])
        generalize rT p = tp at *
        generalize rT s = ts at *
        clear hfp hfs h1 hlt hK
        go_wp2_with (first
          | (go_at_call 78; refine (HM.out _ H.out.res).mono ?_; rintro e w3 ⟨rfl, hb⟩; have H3 := Lib.hid (H.out.later hb); clear hb)
          | (go_at_call 76; refine (mustN_no _ 5 _ five).mono ?_; rintro e w4 ⟨rfl, hw⟩; subst hw))
        refine door_pan (v := resL (.error 5)) H3.out.c ?_
        intro W hB hk hbel
        exact ⟨run_cell_errno rfl rfl (load_loss (hk _ _ _ (by omega) H3.out.b)) rfl hB, by rw [HN.out], hbel _ _ (le2 _) H3.out.below⟩
      | true =>
        have HM := Lib.hid (fun w hr => mulT w HLI.out.d (isT_rT hfs) (isT_rT h1) hr)
        have HLim := Lib.hid (fun (w : World) hr => limited_any (f := rT p) w (isT_rT h1) hr)
        have HN := Lib.hid (show groupL l j = .ok (p, minQ (l.2 * s) 1) by unfold groupL; rw [HP.out]; dsimp only; rw [ovr_ok h1])
        obtain ⟨tp, htp⟩ : ∃ y, y = rT p := ⟨_, rfl⟩
        obtain ⟨ts, hts⟩ : ∃ y, y = rT s := ⟨_, rfl⟩
        obtain ⟨tm, htm⟩ : ∃ y, y = rT (l.2 * s) := ⟨_, rfl⟩
        obtain ⟨tl, htl⟩ : ∃ y, y = rT (minQ (l.2 * s) 1) := ⟨_, rfl⟩
        rw [← hts, ← htm] at HM
        rw [← htp, ← htm, ← htl] at HLim
        rw [← htp, ← hts]
        have HT := Lib.hid (And.intro htp htl)
        have TK1 : True := trivial
        have hfd := field_bound
        clear hfp hfs h1 hlt hK htp hts htm htl
        go_wp2_with (first
          | (go_at_call 78; refine (HM.out _ H.out.res).mono ?_; rintro e w3 ⟨rfl, hb⟩; have H3 := Lib.hid (H.out.later hb); clear hb)
          | (go_at_call 76; refine (mustN_ok _ _).mono ?_; rintro e w4 ⟨rfl, hw⟩; subst hw)
          | (go_at_call 79; refine (HLim.out _ H3.out.res).mono ?_; rintro e w5 ⟨rfl, hb⟩; have H5 := Lib.hid (H3.out.later hb); obtain ⟨r0, r1⟩ := cells2 H5.out.b; have y0 := H5.out.b.frozen 0; have y1 := H5.out.b.frozen 1; have ce := cell0 H5.out.c; have ze := H5.out.c.frozen 0; clear hb))
        have hb2 := (H5.out.b.two_set (x := .string tp) (y := .string tl)).far (p := ⟨w.heap.size + 1 + 1, 0, none⟩) (by show w.heap.size + 1 ≠ w.heap.size + 1 + 1; omega) (.int .i64 0)
        have hc2 := (H5.out.c.two_far (b := w.heap.size + 1) (x := .string tp) (y := .string tl) (by omega)).set_ 0 (.int .i64 0)
        refine door_ret (v := .tuple #[.agg #[.string tp, .string tl], .int .i64 0]) (run_cell_errno rfl rfl (load_loss hb2) rfl hc2) ⟨?_, ?_⟩
        · rw [HN.out, HT.out.1, HT.out.2]; rfl
        · exact ((H5.out.below.setCell (Nat.le_succ _) _).setCell (Nat.le_succ _) _).setCell (le2 _) _
/-- loss.Group. -/
theorem lossGroup_any (f d : ByteArray) (k : Int) (w : World) (h1 : f.size ≤ 270000) (h2 : d.size ≤ 270000) (hr : Res w) :
    Calls Tryz.prog 21 #[.agg #[.string f, .string d], .int .i64 k] w fun e w' => e = .returned (resL (groupR f d k)) ∧ Below w.heap.size w w' := by
  unfold groupR
  by_cases hL : errL f d = 0
  · rw [if_neg (by omega)]
    by_cases hk : k < 0
    · rw [if_pos (.inl hk)]; exact group_low f d k w h1 h2 hr hL hk
    by_cases hk2 : k > 50
    · rw [if_pos (.inr hk2)]; exact group_high f d k w h1 h2 hr hL hk2
    rw [if_neg (by omega)]
    have := group_run f d k.toNat w h1 h2 hr _ (errL_zero hL) (by omega)
    rwa [Int.toNat_of_nonneg (by omega)] at this
  · rw [if_pos hL]
    exact group_err f d k w h1 h2 hr hL
end Go.Proofs.YtbfhonhjejeaiaaGreatDoor
namespace Go.Proofs.YtbfhonhjejeaiaaGreatDoor
open Go.RowKit Go.Shelf
open Lim

theorem firstL_two (x y : L2) : firstL [x, y] = if errL x.1 x.2 ≠ 0 then errL x.1 x.2 else errL y.1 y.2 := by
  unfold firstL
  congr 1
  obtain ⟨f, d⟩ := y
  exact firstL_one f d
set_option maxRecDepth 100000 in
set_option maxHeartbeats 2000000 in
theorem rboth_1 (f d f' d' : ByteArray) (w : World) (h1 : f.size ≤ 270000) (h2 : d.size ≤ 270000) (_h3 : f'.size ≤ 270000) (_h4 : d'.size ≤ 270000) (hr : Res w) (he : errL f d ≠ 0) :
    Calls Tryz.prog 67 #[.agg #[.string f, .string d], .agg #[.string f', .string d']] w fun e w' => e = .returned (.int .i64 (errL f d : Int)) ∧ Below w.heap.size w w' := by
  have H := Lib.hid (At2.new w 24 24 #[.string f, .string d] #[.string f', .string d'] hr)
  have HF := Lib.hid (fun w hr => refLoss_any f d w h1 h2 hr)
  obtain ⟨z, hz⟩ : ∃ z : Int, (errL f d : Int) = z := ⟨_, rfl⟩
  rw [hz] at HF ⊢
  have hne : (z == 0) = false := by rw [beq_eq_false_iff_ne]; omega
  clear h1 h2 hr he hz
  go_enter Tryz.func67, Tryz.ntmps67
  go_wp2_with (go_at_call 26; refine (HF.out _ H.out.res).mono ?_; rintro e w1 ⟨rfl, hb⟩; have H1 := Lib.hid (H.out.later hb); obtain ⟨p0, p1⟩ := cells2 H1.out.b; clear hb)
  go_ret
  exact ⟨rfl, H1.out.below⟩
set_option maxRecDepth 100000 in
set_option maxHeartbeats 2000000 in
theorem rboth_2 (f d f' d' : ByteArray) (w : World) (h1 : f.size ≤ 270000) (h2 : d.size ≤ 270000) (h3 : f'.size ≤ 270000) (h4 : d'.size ≤ 270000) (hr : Res w) (he : errL f d = 0) :
    Calls Tryz.prog 67 #[.agg #[.string f, .string d], .agg #[.string f', .string d']] w fun e w' => e = .returned (.int .i64 (errL f' d' : Int)) ∧ Below w.heap.size w w' := by
  have H := Lib.hid (At2.new w 24 24 #[.string f, .string d] #[.string f', .string d'] hr)
  have HF := Lib.hid (fun w hr => refLoss_any f d w h1 h2 hr)
  have HG := Lib.hid (fun w hr => refLoss_any f' d' w h3 h4 hr)
  rw [he] at HF
  obtain ⟨z, hz⟩ : ∃ z : Int, (errL f' d' : Int) = z := ⟨_, rfl⟩
  rw [hz] at HG ⊢
  have TK1 : True := trivial
  clear h1 h2 h3 h4 hr he hz
  go_enter Tryz.func67, Tryz.ntmps67
  go_wp2_with (first
    | (clear TK1; go_at_call 26; refine (HF.out _ H.out.res).mono ?_; rintro e w1 ⟨rfl, hb⟩; have H1 := Lib.hid (H.out.later hb); obtain ⟨p0, p1⟩ := cells2 H1.out.b; clear hb)
    | (go_at_call 26; refine (HG.out _ H1.out.res).mono ?_; rintro e w2 ⟨rfl, hb⟩; have H2 := Lib.hid (H1.out.later hb); clear hb))
  go_ret
  exact ⟨rfl, H2.out.below⟩
theorem rboth_any (f d f' d' : ByteArray) (w : World) (h1 : f.size ≤ 270000) (h2 : d.size ≤ 270000) (h3 : f'.size ≤ 270000) (h4 : d'.size ≤ 270000) (hr : Res w) :
    Calls Tryz.prog 67 #[.agg #[.string f, .string d], .agg #[.string f', .string d']] w fun e w' => e = .returned (.int .i64 (firstL [(f, d), (f', d')] : Int)) ∧ Below w.heap.size w w' := by
  rw [firstL_two]
  dsimp only
  by_cases he : errL f d = 0
  · rw [if_neg (by omega)]; exact rboth_2 f d f' d' w h1 h2 h3 h4 hr he
  · rw [if_pos he]; exact rboth_1 f d f' d' w h1 h2 h3 h4 hr he
set_option maxRecDepth 100000 in
set_option maxHeartbeats 2000000 in
theorem rlimited_any {f d : ByteArray} {D : Rat} (w : World) (hd : IsT d D) (hr : Res w) :
    Calls Tryz.prog 69 #[.string f, .string d] w fun e w' => e = .returned (.agg #[.string f, .string (rT (minQ D 1))]) ∧ Below w.heap.size w w' := by
  have H := Lib.hid (At1.new w 24 #[.string ⟨#[]⟩, .string ⟨#[]⟩] hr)
  have HM := Lib.hid (fun w => rminT w hd IsT.one)
  generalize rT (minQ D 1) = m at HM ⊢
  clear hd hr
  go_enter Tryz.func69, Tryz.ntmps69
  go_wp2_with (go_at_call 113; refine (HM.out _).mono ?_; rintro e w1 ⟨rfl, hb⟩; have H1 := Lib.hid (H.out.later hb); obtain ⟨p0, p1⟩ := cells2 H1.out.a; have z0 := H1.out.a.frozen 0; have z1 := H1.out.a.frozen 1; clear hb)
  refine bodyPost_ret (run_cell rfl rfl (load_loss H1.out.a.two_set)) rfl ⟨rfl, (H1.out.below.setCell (Nat.le_refl _) _).setCell (Nat.le_refl _) _⟩
theorem build_zero (w : World) : (Instr.build 24 #[]).run Tryz.prog w = .ok (.agg #[.string ⟨#[]⟩, .string ⟨#[]⟩]) w := by kernel_rfl
set_option maxRecDepth 100000 in
set_option maxHeartbeats 2000000 in
theorem rAdd_err (f d f' d' : ByteArray) (w : World) (h1 : f.size ≤ 270000) (h2 : d.size ≤ 270000) (h3 : f'.size ≤ 270000) (h4 : d'.size ≤ 270000) (hr : Res w) (he : firstL [(f, d), (f', d')] ≠ 0) :
    Calls Tryz.prog 16 #[.agg #[.string f, .string d], .agg #[.string f', .string d']] w fun e w' => e = .returned (.tuple #[.agg #[.string ⟨#[]⟩, .string ⟨#[]⟩], .int .i64 (firstL [(f, d), (f', d')] : Int)]) ∧ Below w.heap.size w w' := by
  have H := Lib.hid (At3.new w 24 24 24 #[.string f, .string d] #[.string f', .string d'] #[.string ⟨#[]⟩, .string ⟨#[]⟩] hr)
  have HBO := Lib.hid (fun w hr => rboth_any f d f' d' w h1 h2 h3 h4 hr)
  have HZ := build_zero
  obtain ⟨z, hz⟩ : ∃ z : Int, (firstL [(f, d), (f', d')] : Int) = z := ⟨_, rfl⟩
  rw [hz] at HBO ⊢
  have hne : (z == 0) = false := by rw [beq_eq_false_iff_ne]; omega
  clear h1 h2 h3 h4 hr he hz
  go_enter Tryz.func16, Tryz.ntmps16
  go_wp2_with (go_at_call 67; refine (HBO.out _ H.out.res).mono ?_; rintro e w1 ⟨rfl, hb⟩; have H1 := Lib.hid (H.out.later hb); obtain ⟨r0, r1⟩ := cells2 H1.out.c; have y0 := H1.out.c.frozen 0; have y1 := H1.out.c.frozen 1; obtain ⟨p0, p1⟩ := cells2 H1.out.a; obtain ⟨q0, q1⟩ := cells2 H1.out.b; clear hb)
  refine bodyPost_ret (run_cell_tmp rfl rfl (load_loss ((H1.out.c.set_ 0 (.string ⟨#[]⟩)).set_ 1 (.string ⟨#[]⟩)))) rfl ⟨rfl, (H1.out.below.setCell (le2 _) _).setCell (le2 _) _⟩
set_option maxRecDepth 100000 in
set_option maxHeartbeats 2000000 in
theorem rAdd_ok (f d f' d' : ByteArray) (w : World) (h1 : f.size ≤ 270000) (h2 : d.size ≤ 270000) (h3 : f'.size ≤ 270000) (h4 : d'.size ≤ 270000) (hr : Res w) (a b : LQ) (ha : LossIs f d a) (hb : LossIs f' d' b) (g1 : fits (a.1 * b.1) = true) (g2 : fits (a.2 + b.2) = true) :
    Calls Tryz.prog 16 #[.agg #[.string f, .string d], .agg #[.string f', .string d']] w fun e w' => e = .returned (.tuple #[.agg #[.string (rT (a.1 * b.1)), .string (rT (minQ (a.2 + b.2) 1))], .int .i64 0]) ∧ Below w.heap.size w w' := by
  have H := Lib.hid (At3.new w 24 24 24 #[.string f, .string d] #[.string f', .string d'] #[.string ⟨#[]⟩, .string ⟨#[]⟩] hr)
  have HBO := Lib.hid (fun w hr => rboth_any f d f' d' w h1 h2 h3 h4 hr)
  have HZ := build_zero
  rw [show firstL [(f, d), (f', d')] = 0 by rw [firstL_two]; dsimp only; rw [ha.err, hb.err]; rfl] at HBO
  have HM := Lib.hid (fun w => rmulT w ha.f hb.f (isT_rT g1))
  have HA := Lib.hid (fun w => raddT w ha.d hb.d (isT_rT g2))
  generalize rT (a.1 * b.1) = m at *
  have HL := Lib.hid (fun (w : World) hr => rlimited_any (f := m) w (isT_rT g2) hr)
  generalize rT (a.2 + b.2) = s at *
  generalize rT (minQ (a.2 + b.2) 1) = l at *
  clear h1 h2 h3 h4 hr ha hb g1 g2
  go_enter Tryz.func16, Tryz.ntmps16
  go_wp2_with (first
    | (go_at_call 67; refine (HBO.out _ H.out.res).mono ?_; rintro e w1 ⟨rfl, hb⟩; have H1 := Lib.hid (H.out.later hb); obtain ⟨r0, r1⟩ := cells2 H1.out.c; have y0 := H1.out.c.frozen 0; have y1 := H1.out.c.frozen 1; obtain ⟨p0, p1⟩ := cells2 H1.out.a; obtain ⟨q0, q1⟩ := cells2 H1.out.b; clear hb)
    | (go_at_call 34; refine (HM.out _).mono ?_; rintro e w2 ⟨rfl, hb⟩; have H2 := Lib.hid (H1.out.later hb); obtain ⟨r0, r1⟩ := cells2 H2.out.c; have y0 := H2.out.c.frozen 0; have y1 := H2.out.c.frozen 1; obtain ⟨p0, p1⟩ := cells2 H2.out.a; obtain ⟨q0, q1⟩ := cells2 H2.out.b; clear hb)
    | (go_at_call 68; refine (HA.out _).mono ?_; rintro e w3 ⟨rfl, hb⟩; have H3 := Lib.hid (H2.out.later hb); obtain ⟨r0, r1⟩ := cells2 H3.out.c; have y0 := H3.out.c.frozen 0; have y1 := H3.out.c.frozen 1; obtain ⟨p0, p1⟩ := cells2 H3.out.a; obtain ⟨q0, q1⟩ := cells2 H3.out.b; clear hb)
    | (go_at_call 69; refine (HL.out _ H3.out.res).mono ?_; rintro e w4 ⟨rfl, hb⟩; have H4 := Lib.hid (H3.out.later hb); obtain ⟨r0, r1⟩ := cells2 H4.out.c; have y0 := H4.out.c.frozen 0; have y1 := H4.out.c.frozen 1; obtain ⟨p0, p1⟩ := cells2 H4.out.a; obtain ⟨q0, q1⟩ := cells2 H4.out.b; clear hb))
  refine bodyPost_ret (run_cell_tmp rfl rfl (load_loss ((H4.out.c.set_ 0 (.string m)).set_ 1 (.string l)))) rfl ⟨rfl, (H4.out.below.setCell (le2 _) _).setCell (le2 _) _⟩
set_option maxRecDepth 100000 in
set_option maxHeartbeats 2000000 in
theorem rAdd_no2 (f d f' d' : ByteArray) (w : World) (h1 : f.size ≤ 270000) (h2 : d.size ≤ 270000) (h3 : f'.size ≤ 270000) (h4 : d'.size ≤ 270000) (hr : Res w) (a b : LQ) (ha : LossIs f d a) (hb : LossIs f' d' b) (g1 : fits (a.1 * b.1) = true) (g2 : fits (a.2 + b.2) = false) :
    Calls Tryz.prog 16 #[.agg #[.string f, .string d], .agg #[.string f', .string d']] w fun e w' => e = .returned (.tuple #[.agg #[.string ⟨#[]⟩, .string ⟨#[]⟩], .int .i64 5]) ∧ Below w.heap.size w w' := by
  have H := Lib.hid (At3.new w 24 24 24 #[.string f, .string d] #[.string f', .string d'] #[.string ⟨#[]⟩, .string ⟨#[]⟩] hr)
  have HBO := Lib.hid (fun w hr => rboth_any f d f' d' w h1 h2 h3 h4 hr)
  have HZ := build_zero
  rw [show firstL [(f, d), (f', d')] = 0 by rw [firstL_two]; dsimp only; rw [ha.err, hb.err]; rfl] at HBO
  have HM := Lib.hid (fun w => rmulT w ha.f hb.f (isT_rT g1))
  have HA := Lib.hid (fun w => raddO w ha.d hb.d g2)
  generalize rT (a.1 * b.1) = m at *
  clear h1 h2 h3 h4 hr ha hb g1 g2
  go_enter Tryz.func16, Tryz.ntmps16
  go_wp2_with (first
    | (go_at_call 67; refine (HBO.out _ H.out.res).mono ?_; rintro e w1 ⟨rfl, hb⟩; have H1 := Lib.hid (H.out.later hb); obtain ⟨r0, r1⟩ := cells2 H1.out.c; have y0 := H1.out.c.frozen 0; have y1 := H1.out.c.frozen 1; obtain ⟨p0, p1⟩ := cells2 H1.out.a; obtain ⟨q0, q1⟩ := cells2 H1.out.b; clear hb)
    | (go_at_call 34; refine (HM.out _).mono ?_; rintro e w2 ⟨rfl, hb⟩; have H2 := Lib.hid (H1.out.later hb); obtain ⟨r0, r1⟩ := cells2 H2.out.c; have y0 := H2.out.c.frozen 0; have y1 := H2.out.c.frozen 1; obtain ⟨p0, p1⟩ := cells2 H2.out.a; obtain ⟨q0, q1⟩ := cells2 H2.out.b; clear hb)
    | (go_at_call 68; refine (HA.out _).mono ?_; rintro e w3 ⟨rfl, hb⟩; have H3 := Lib.hid (H2.out.later hb); obtain ⟨r0, r1⟩ := cells2 H3.out.c; have y0 := H3.out.c.frozen 0; have y1 := H3.out.c.frozen 1; obtain ⟨p0, p1⟩ := cells2 H3.out.a; obtain ⟨q0, q1⟩ := cells2 H3.out.b; clear hb))
  refine bodyPost_ret (run_cell_tmp rfl rfl (load_loss ((H3.out.c.set_ 0 (.string ⟨#[]⟩)).set_ 1 (.string ⟨#[]⟩)))) rfl ⟨rfl, (H3.out.below.setCell (le2 _) _).setCell (le2 _) _⟩
set_option maxRecDepth 100000 in
set_option maxHeartbeats 2000000 in
theorem rAdd_no1 (f d f' d' : ByteArray) (w : World) (h1 : f.size ≤ 270000) (h2 : d.size ≤ 270000) (h3 : f'.size ≤ 270000) (h4 : d'.size ≤ 270000) (hr : Res w) (a b : LQ) (ha : LossIs f d a) (hb : LossIs f' d' b) (g1 : fits (a.1 * b.1) = false) :
    Calls Tryz.prog 16 #[.agg #[.string f, .string d], .agg #[.string f', .string d']] w fun e w' => e = .returned (.tuple #[.agg #[.string ⟨#[]⟩, .string ⟨#[]⟩], .int .i64 5]) ∧ Below w.heap.size w w' := by
  have H := Lib.hid (At3.new w 24 24 24 #[.string f, .string d] #[.string f', .string d'] #[.string ⟨#[]⟩, .string ⟨#[]⟩] hr)
  have HBO := Lib.hid (fun w hr => rboth_any f d f' d' w h1 h2 h3 h4 hr)
  have HZ := build_zero
  rw [show firstL [(f, d), (f', d')] = 0 by rw [firstL_two]; dsimp only; rw [ha.err, hb.err]; rfl] at HBO
  have HM := Lib.hid (fun w => rmulO w ha.f hb.f g1)
  clear h1 h2 h3 h4 hr ha hb g1
  go_enter Tryz.func16, Tryz.ntmps16
  go_wp2_with (first
    | (go_at_call 67; refine (HBO.out _ H.out.res).mono ?_; rintro e w1 ⟨rfl, hb⟩; have H1 := Lib.hid (H.out.later hb); obtain ⟨r0, r1⟩ := cells2 H1.out.c; have y0 := H1.out.c.frozen 0; have y1 := H1.out.c.frozen 1; obtain ⟨p0, p1⟩ := cells2 H1.out.a; obtain ⟨q0, q1⟩ := cells2 H1.out.b; clear hb)
    | (go_at_call 34; refine (HM.out _).mono ?_; rintro e w2 ⟨rfl, hb⟩; have H2 := Lib.hid (H1.out.later hb); obtain ⟨r0, r1⟩ := cells2 H2.out.c; have y0 := H2.out.c.frozen 0; have y1 := H2.out.c.frozen 1; obtain ⟨p0, p1⟩ := cells2 H2.out.a; obtain ⟨q0, q1⟩ := cells2 H2.out.b; clear hb))
  refine bodyPost_ret (run_cell_tmp rfl rfl (load_loss ((H2.out.c.set_ 0 (.string ⟨#[]⟩)).set_ 1 (.string ⟨#[]⟩)))) rfl ⟨rfl, (H2.out.below.setCell (le2 _) _).setCell (le2 _) _⟩
theorem foldR_two {op : LQ → LQ → Except Nat LQ} (hop : ∀ a, OkL a → op noneL a = .ok a) {x y : L2} (h : firstL [x, y] = 0) : foldR op [x, y] = op (valL x) (valL y) := by
  unfold foldR
  rw [if_neg (by omega)]
  have hx := (errL_zero (firstL_zero.1 h x (by simp))).ok
  simp only [List.map_cons, List.map_nil, foldE]
  rw [show op noneL (valL x) = .ok (valL x) from hop _ hx]
  dsimp only
  cases op (valL x) (valL y) <;> rfl
/-- The reference's Add. -/
theorem refLossAdd_any (f d f' d' : ByteArray) (w : World) (h1 : f.size ≤ 270000) (h2 : d.size ≤ 270000) (h3 : f'.size ≤ 270000) (h4 : d'.size ≤ 270000) (hr : Res w) :
    Calls Tryz.prog 16 #[.agg #[.string f, .string d], .agg #[.string f', .string d']] w fun e w' => e = .returned (resL (foldR plusL [(f, d), (f', d')])) ∧ Below w.heap.size w w' := by
  by_cases he : firstL [(f, d), (f', d')] = 0
  · rw [foldR_two (fun a ha => plusL_none ha) he]
    have ha := errL_zero (firstL_zero.1 he (f, d) (by simp))
    have hb := errL_zero (firstL_zero.1 he (f', d') (by simp))
    cases g1 : fits ((valL (f, d)).1 * (valL (f', d')).1)
    · rw [plusL_no1 g1]; exact rAdd_no1 f d f' d' w h1 h2 h3 h4 hr _ _ ha hb g1
    cases g2 : fits ((valL (f, d)).2 + (valL (f', d')).2)
    · rw [plusL_no2 g1 g2]; exact rAdd_no2 f d f' d' w h1 h2 h3 h4 hr _ _ ha hb g1 g2
    rw [plusL_ok g1 g2]
    exact rAdd_ok f d f' d' w h1 h2 h3 h4 hr _ _ ha hb g1 g2
  · unfold foldR
    rw [if_pos he]
    exact rAdd_err f d f' d' w h1 h2 h3 h4 hr he
set_option maxRecDepth 100000 in
set_option maxHeartbeats 2000000 in
theorem rMax_err (f d f' d' : ByteArray) (w : World) (h1 : f.size ≤ 270000) (h2 : d.size ≤ 270000) (h3 : f'.size ≤ 270000) (h4 : d'.size ≤ 270000) (hr : Res w) (he : firstL [(f, d), (f', d')] ≠ 0) :
    Calls Tryz.prog 18 #[.agg #[.string f, .string d], .agg #[.string f', .string d']] w fun e w' => e = .returned (.tuple #[.agg #[.string ⟨#[]⟩, .string ⟨#[]⟩], .int .i64 (firstL [(f, d), (f', d')] : Int)]) ∧ Below w.heap.size w w' := by
  have H := Lib.hid (At3.new w 24 24 24 #[.string f, .string d] #[.string f', .string d'] #[.string ⟨#[]⟩, .string ⟨#[]⟩] hr)
  have HBO := Lib.hid (fun w hr => rboth_any f d f' d' w h1 h2 h3 h4 hr)
  have HZ := build_zero
  obtain ⟨z, hz⟩ : ∃ z : Int, (firstL [(f, d), (f', d')] : Int) = z := ⟨_, rfl⟩
  rw [hz] at HBO ⊢
  have hne : (z == 0) = false := by rw [beq_eq_false_iff_ne]; omega
  clear h1 h2 h3 h4 hr he hz
  go_enter Tryz.func18, Tryz.ntmps18
  go_wp2_with (go_at_call 67; refine (HBO.out _ H.out.res).mono ?_; rintro e w1 ⟨rfl, hb⟩; have H1 := Lib.hid (H.out.later hb); obtain ⟨r0, r1⟩ := cells2 H1.out.c; have y0 := H1.out.c.frozen 0; have y1 := H1.out.c.frozen 1; obtain ⟨p0, p1⟩ := cells2 H1.out.a; obtain ⟨q0, q1⟩ := cells2 H1.out.b; clear hb)
  refine bodyPost_ret (run_cell_tmp rfl rfl (load_loss ((H1.out.c.set_ 0 (.string ⟨#[]⟩)).set_ 1 (.string ⟨#[]⟩)))) rfl ⟨rfl, (H1.out.below.setCell (le2 _) _).setCell (le2 _) _⟩
set_option maxRecDepth 100000 in
set_option maxHeartbeats 2000000 in
theorem rMax_ok (f d f' d' : ByteArray) (w : World) (h1 : f.size ≤ 270000) (h2 : d.size ≤ 270000) (h3 : f'.size ≤ 270000) (h4 : d'.size ≤ 270000) (hr : Res w) (a b : LQ) (ha : LossIs f d a) (hb : LossIs f' d' b) :
    Calls Tryz.prog 18 #[.agg #[.string f, .string d], .agg #[.string f', .string d']] w fun e w' => e = .returned (.tuple #[.agg #[.string (rT (maxQ a.1 b.1)), .string (rT (maxQ a.2 b.2))], .int .i64 0]) ∧ Below w.heap.size w w' := by
  have H := Lib.hid (At3.new w 24 24 24 #[.string f, .string d] #[.string f', .string d'] #[.string ⟨#[]⟩, .string ⟨#[]⟩] hr)
  have HBO := Lib.hid (fun w hr => rboth_any f d f' d' w h1 h2 h3 h4 hr)
  have HZ := build_zero
  rw [show firstL [(f, d), (f', d')] = 0 by rw [firstL_two]; dsimp only; rw [ha.err, hb.err]; rfl] at HBO
  have HM := Lib.hid (fun w => rmaxT w ha.f hb.f)
  have HA := Lib.hid (fun w => rmaxT w ha.d hb.d)
  generalize rT (maxQ a.1 b.1) = m at *
  generalize rT (maxQ a.2 b.2) = s at *
  have TK1 : True := trivial
  clear h1 h2 h3 h4 hr ha hb
  go_enter Tryz.func18, Tryz.ntmps18
  go_wp2_with (first
    | (go_at_call 67; refine (HBO.out _ H.out.res).mono ?_; rintro e w1 ⟨rfl, hb⟩; have H1 := Lib.hid (H.out.later hb); obtain ⟨r0, r1⟩ := cells2 H1.out.c; have y0 := H1.out.c.frozen 0; have y1 := H1.out.c.frozen 1; obtain ⟨p0, p1⟩ := cells2 H1.out.a; obtain ⟨q0, q1⟩ := cells2 H1.out.b; clear hb)
    | (clear TK1; go_at_call 71; refine (HM.out _).mono ?_; rintro e w2 ⟨rfl, hb⟩; have H2 := Lib.hid (H1.out.later hb); obtain ⟨r0, r1⟩ := cells2 H2.out.c; have y0 := H2.out.c.frozen 0; have y1 := H2.out.c.frozen 1; obtain ⟨p0, p1⟩ := cells2 H2.out.a; obtain ⟨q0, q1⟩ := cells2 H2.out.b; clear hb)
    | (go_at_call 71; refine (HA.out _).mono ?_; rintro e w3 ⟨rfl, hb⟩; have H3 := Lib.hid (H2.out.later hb); obtain ⟨r0, r1⟩ := cells2 H3.out.c; have y0 := H3.out.c.frozen 0; have y1 := H3.out.c.frozen 1; obtain ⟨p0, p1⟩ := cells2 H3.out.a; obtain ⟨q0, q1⟩ := cells2 H3.out.b; clear hb))
  refine bodyPost_ret (run_cell_tmp rfl rfl (load_loss ((H3.out.c.set_ 0 (.string m)).set_ 1 (.string s)))) rfl ⟨rfl, (H3.out.below.setCell (le2 _) _).setCell (le2 _) _⟩
/-- The reference's Max. -/
theorem refLossMax_any (f d f' d' : ByteArray) (w : World) (h1 : f.size ≤ 270000) (h2 : d.size ≤ 270000) (h3 : f'.size ≤ 270000) (h4 : d'.size ≤ 270000) (hr : Res w) :
    Calls Tryz.prog 18 #[.agg #[.string f, .string d], .agg #[.string f', .string d']] w fun e w' => e = .returned (resL (foldR (fun a b => .ok (aboveL a b)) [(f, d), (f', d')])) ∧ Below w.heap.size w w' := by
  by_cases he : firstL [(f, d), (f', d')] = 0
  · rw [foldR_two (fun a ha => by rw [aboveL_none ha]) he]
    have ha := errL_zero (firstL_zero.1 he (f, d) (by simp))
    have hb := errL_zero (firstL_zero.1 he (f', d') (by simp))
    exact rMax_ok f d f' d' w h1 h2 h3 h4 hr _ _ ha hb
  · unfold foldR
    rw [if_pos he]
    exact rMax_err f d f' d' w h1 h2 h3 h4 hr he
set_option maxRecDepth 100000 in
set_option maxHeartbeats 2000000 in
theorem rFits_err (f d f' d' : ByteArray) (w : World) (h1 : f.size ≤ 270000) (h2 : d.size ≤ 270000) (h3 : f'.size ≤ 270000) (h4 : d'.size ≤ 270000) (hr : Res w) (he : firstL [(f, d), (f', d')] ≠ 0) :
    Calls Tryz.prog 20 #[.agg #[.string f, .string d], .agg #[.string f', .string d']] w fun e w' => e = .returned (.tuple #[.bool false, .int .i64 (firstL [(f, d), (f', d')] : Int)]) ∧ Below w.heap.size w w' := by
  have H := Lib.hid (At2.new w 24 24 #[.string f, .string d] #[.string f', .string d'] hr)
  have HBO := Lib.hid (fun w hr => rboth_any f d f' d' w h1 h2 h3 h4 hr)
  obtain ⟨z, hz⟩ : ∃ z : Int, (firstL [(f, d), (f', d')] : Int) = z := ⟨_, rfl⟩
  rw [hz] at HBO ⊢
  have hne : (z == 0) = false := by rw [beq_eq_false_iff_ne]; omega
  clear h1 h2 h3 h4 hr he hz
  go_enter Tryz.func20, Tryz.ntmps20
  go_wp2_with (go_at_call 67; refine (HBO.out _ H.out.res).mono ?_; rintro e w1 ⟨rfl, hb⟩; have H1 := Lib.hid (H.out.later hb); obtain ⟨p0, p1⟩ := cells2 H1.out.a; obtain ⟨q0, q1⟩ := cells2 H1.out.b; clear hb)
  refine bodyPost_ret (results_tmp2 rfl _ _ _) rfl ?_
  exact ⟨rfl, H1.out.below⟩
set_option maxRecDepth 100000 in
set_option maxHeartbeats 2000000 in
theorem rFits_tt (f d f' d' : ByteArray) (w : World) (h1 : f.size ≤ 270000) (h2 : d.size ≤ 270000) (h3 : f'.size ≤ 270000) (h4 : d'.size ≤ 270000) (hr : Res w) (a b : LQ) (ha : LossIs f d a) (hb : LossIs f' d' b) (d1 : decide (cmpQ a.1 b.1 ≤ 0) = true) (d2 : decide (cmpQ a.2 b.2 ≤ 0) = true) :
    Calls Tryz.prog 20 #[.agg #[.string f, .string d], .agg #[.string f', .string d']] w fun e w' => e = .returned (.tuple #[.bool true, .int .i64 0]) ∧ Below w.heap.size w w' := by
  have H := Lib.hid (At2.new w 24 24 #[.string f, .string d] #[.string f', .string d'] hr)
  have HBO := Lib.hid (fun w hr => rboth_any f d f' d' w h1 h2 h3 h4 hr)
  rw [show firstL [(f, d), (f', d')] = 0 by rw [firstL_two]; dsimp only; rw [ha.err, hb.err]; rfl] at HBO
  have HA1 := Lib.hid (fun w => rat_any w ha.f hb.f)
  rw [d1] at HA1
  have HA2 := Lib.hid (fun w => rat_any w ha.d hb.d)
  rw [d2] at HA2
  have TK1 : True := trivial
  clear h1 h2 h3 h4 hr ha hb d1 d2
  go_enter Tryz.func20, Tryz.ntmps20
  go_wp2_with (first
    | (go_at_call 67; refine (HBO.out _ H.out.res).mono ?_; rintro e w1 ⟨rfl, hb⟩; have H1 := Lib.hid (H.out.later hb); obtain ⟨p0, p1⟩ := cells2 H1.out.a; obtain ⟨q0, q1⟩ := cells2 H1.out.b; clear hb)
    | (clear TK1; go_at_call 75; refine (HA1.out _).mono ?_; rintro e w2 ⟨rfl, hb⟩; have H2 := Lib.hid (H1.out.later hb); obtain ⟨r0, r1⟩ := cells2 H2.out.a; obtain ⟨s0, s1⟩ := cells2 H2.out.b; clear hb)
    | (go_at_call 75; refine (HA2.out _).mono ?_; rintro e w3 ⟨rfl, hb⟩; have H3 := Lib.hid (H2.out.later hb); clear hb))
  refine bodyPost_ret (results_tmp2 rfl _ _ _) rfl ?_
  exact ⟨rfl, H3.out.below⟩
set_option maxRecDepth 100000 in
set_option maxHeartbeats 2000000 in
theorem rFits_tf (f d f' d' : ByteArray) (w : World) (h1 : f.size ≤ 270000) (h2 : d.size ≤ 270000) (h3 : f'.size ≤ 270000) (h4 : d'.size ≤ 270000) (hr : Res w) (a b : LQ) (ha : LossIs f d a) (hb : LossIs f' d' b) (d1 : decide (cmpQ a.1 b.1 ≤ 0) = true) (d2 : decide (cmpQ a.2 b.2 ≤ 0) = false) :
    Calls Tryz.prog 20 #[.agg #[.string f, .string d], .agg #[.string f', .string d']] w fun e w' => e = .returned (.tuple #[.bool false, .int .i64 0]) ∧ Below w.heap.size w w' := by
  have H := Lib.hid (At2.new w 24 24 #[.string f, .string d] #[.string f', .string d'] hr)
  have HBO := Lib.hid (fun w hr => rboth_any f d f' d' w h1 h2 h3 h4 hr)
  rw [show firstL [(f, d), (f', d')] = 0 by rw [firstL_two]; dsimp only; rw [ha.err, hb.err]; rfl] at HBO
  have HA1 := Lib.hid (fun w => rat_any w ha.f hb.f)
  rw [d1] at HA1
  have HA2 := Lib.hid (fun w => rat_any w ha.d hb.d)
  rw [d2] at HA2
  have TK1 : True := trivial
  clear h1 h2 h3 h4 hr ha hb d1 d2
  go_enter Tryz.func20, Tryz.ntmps20
  go_wp2_with (first
    | (go_at_call 67; refine (HBO.out _ H.out.res).mono ?_; rintro e w1 ⟨rfl, hb⟩; have H1 := Lib.hid (H.out.later hb); obtain ⟨p0, p1⟩ := cells2 H1.out.a; obtain ⟨q0, q1⟩ := cells2 H1.out.b; clear hb)
    | (clear TK1; go_at_call 75; refine (HA1.out _).mono ?_; rintro e w2 ⟨rfl, hb⟩; have H2 := Lib.hid (H1.out.later hb); obtain ⟨r0, r1⟩ := cells2 H2.out.a; obtain ⟨s0, s1⟩ := cells2 H2.out.b; clear hb)
    | (go_at_call 75; refine (HA2.out _).mono ?_; rintro e w3 ⟨rfl, hb⟩; have H3 := Lib.hid (H2.out.later hb); clear hb))
  refine bodyPost_ret (results_tmp2 rfl _ _ _) rfl ?_
  exact ⟨rfl, H3.out.below⟩
set_option maxRecDepth 100000 in
set_option maxHeartbeats 2000000 in
theorem rFits_f (f d f' d' : ByteArray) (w : World) (h1 : f.size ≤ 270000) (h2 : d.size ≤ 270000) (h3 : f'.size ≤ 270000) (h4 : d'.size ≤ 270000) (hr : Res w) (a b : LQ) (ha : LossIs f d a) (hb : LossIs f' d' b) (d1 : decide (cmpQ a.1 b.1 ≤ 0) = false) :
    Calls Tryz.prog 20 #[.agg #[.string f, .string d], .agg #[.string f', .string d']] w fun e w' => e = .returned (.tuple #[.bool false, .int .i64 0]) ∧ Below w.heap.size w w' := by
  have H := Lib.hid (At2.new w 24 24 #[.string f, .string d] #[.string f', .string d'] hr)
  have HBO := Lib.hid (fun w hr => rboth_any f d f' d' w h1 h2 h3 h4 hr)
  rw [show firstL [(f, d), (f', d')] = 0 by rw [firstL_two]; dsimp only; rw [ha.err, hb.err]; rfl] at HBO
  have HA1 := Lib.hid (fun w => rat_any w ha.f hb.f)
  rw [d1] at HA1
  have TK1 : True := trivial
  clear h1 h2 h3 h4 hr ha hb d1
  go_enter Tryz.func20, Tryz.ntmps20
  go_wp2_with (first
    | (go_at_call 67; refine (HBO.out _ H.out.res).mono ?_; rintro e w1 ⟨rfl, hb⟩; have H1 := Lib.hid (H.out.later hb); obtain ⟨p0, p1⟩ := cells2 H1.out.a; obtain ⟨q0, q1⟩ := cells2 H1.out.b; clear hb)
    | (clear TK1; go_at_call 75; refine (HA1.out _).mono ?_; rintro e w2 ⟨rfl, hb⟩; have H2 := Lib.hid (H1.out.later hb); obtain ⟨r0, r1⟩ := cells2 H2.out.a; obtain ⟨s0, s1⟩ := cells2 H2.out.b; clear hb))
  refine bodyPost_ret (results_tmp2 rfl _ _ _) rfl ?_
  exact ⟨rfl, H2.out.below⟩
/-- The reference's Fits. -/
theorem refLossFits_any (f d f' d' : ByteArray) (w : World) (h1 : f.size ≤ 270000) (h2 : d.size ≤ 270000) (h3 : f'.size ≤ 270000) (h4 : d'.size ≤ 270000) (hr : Res w) :
    Calls Tryz.prog 20 #[.agg #[.string f, .string d], .agg #[.string f', .string d']] w fun e w' => e = .returned (resB (fitsR [(f, d), (f', d')] (valL (f, d)) (valL (f', d')))) ∧ Below w.heap.size w w' := by
  unfold fitsR
  by_cases hL : firstL [(f, d), (f', d')] = 0
  · rw [if_neg (by omega)]
    have ha := errL_zero (firstL_zero.1 hL (f, d) (by simp))
    have hb := errL_zero (firstL_zero.1 hL (f', d') (by simp))
    unfold fitsL
    cases d1 : decide (cmpQ (valL (f, d)).1 (valL (f', d')).1 ≤ 0)
    · exact rFits_f f d f' d' w h1 h2 h3 h4 hr _ _ ha hb d1
    · cases d2 : decide (cmpQ (valL (f, d)).2 (valL (f', d')).2 ≤ 0)
      · exact rFits_tf f d f' d' w h1 h2 h3 h4 hr _ _ ha hb d1 d2
      · exact rFits_tt f d f' d' w h1 h2 h3 h4 hr _ _ ha hb d1 d2
  · rw [if_pos hL]
    exact rFits_err f d f' d' w h1 h2 h3 h4 hr hL
end Go.Proofs.YtbfhonhjejeaiaaGreatDoor
namespace Go.Proofs.YtbfhonhjejeaiaaGreatDoor
open Go.RowKit Go.Shelf
open Lim

set_option maxRecDepth 100000 in
theorem ends_idleI (n : Nat) (p : Addr) (w : World) :
    CallsDIn Fence.wide n Tryz.prog 72 #[.pointer (some p)] .returning w fun e u' w' => e = .returned (.tuple #[]) ∧ u' = .returning ∧ w' = w := by
  refine callsDIn_of_wpSIn Tryz.func72 rfl trivial fun c₀ cs hu => ?_
  apply wpSIn_seq
  apply wpSIn_region
  simp [wpOpsSIn, go_sem, recoverD, hu, Tryz.ntmps72, Exit.thenS, Array.replicate_succ, Array.replicate_zero]
  refine wpSIn_of_wpIn rfl ?_
  gi_wp2
  cases c₀
  simp_all [bodyPostS, results, Tryz.results72]
section
variable {fn : Func} {tmps : Array Value} {R : Ending → World → Prop} {b n : Nat} {w : World}
theorem door_retI {v : Value} (hr : (results fn tmps).run Tryz.prog w = .ok v w) (hR : R (.returned v) w) :
    LeavesIn Fence.wide n Tryz.prog fn tmps R [{ target := Target.fn (Fn.func 72) #[], args := #[.pointer (some ⟨b, 0, none⟩)] }] .returning w := by
  refine leavesIn_cons (f := 72) (args := #[.pointer (some ⟨b, 0, none⟩)]) (by simp) (fun h => by cases h) (by simp [go_sem]) (fun _ _ => trivial) ?_
  refine (ends_idleI _ _ _).mono ?_
  rintro e u' w'' ⟨rfl, rfl, rfl⟩
  exact ⟨v, hr, hR⟩
end
end Go.Proofs.YtbfhonhjejeaiaaGreatDoor
namespace Go.Proofs.YtbfhonhjejeaiaaGreatDoor
open Go.RowKit Go.Shelf
open Lim

/-- What Late returns. -/
def lateR (f d u : ByteArray) : Except Nat LQ := if errL f d ≠ 0 then .error (errL f d) else if errQ u.data.toList ≠ 0 then .error (errQ u.data.toList) else
  if cmpQ (valQ u.data.toList) 0 < 0 ∨ cmpQ (valQ u.data.toList) 1 > 0 then .error 2 else lateL (valL (f, d)) (valQ u.data.toList)
set_option maxRecDepth 100000 in
set_option maxHeartbeats 4000000 in
theorem late_err1 (f d u : ByteArray) (w : World) (h1 : f.size ≤ 270000) (h2 : d.size ≤ 270000) (_h3 : u.size ≤ 270000) (hr : Res w) (hL : errL f d ≠ 0) :
    Calls Tryz.prog 23 #[.agg #[.string f, .string d], .string u] w fun e w' => e = .returned (resL (.error (errL f d))) ∧ Below w.heap.size w w' := by
  have H0 := At3.new w 24 24 27 #[.string f, .string d] #[.string ⟨#[]⟩, .string ⟨#[]⟩] #[.int .i64 0] hr
  obtain ⟨a1, a2, a3⟩ := at3_row1 H0
  rw [show (((w.alloc (.cells #[.string f, .string d] 24)).alloc (.cells #[.string ⟨#[]⟩, .string ⟨#[]⟩] 24)).alloc (.cells #[.int .i64 0] 27)).heap.size = w.heap.size + 1 + 1 + 1 by simp] at a2
  have HV := Lib.hid (valid_run _ _ _ a2 (short_one h1 h2) a3)
  rw [firstL_one] at HV
  have H1 := Lib.hid (H0.later a1)
  rw [endV_no hL] at HV
  generalize errL f d = n at HV
  clear H0 a1 a2 a3 h1 h2 hr hL
  go_enter_defers Tryz.func23, Tryz.ntmps23
  go_wp2_with (go_at_call 73; refine HV.out.mono ?_; rintro e w1 ⟨rfl, hb⟩; have H2 := Lib.hid (H1.out.later hb); clear hb)
  refine door_pan (v := resL (.error n)) H2.out.c ?_
  intro W hB hk hbel
  exact ⟨run_cell_errno rfl rfl (load_loss (hk _ _ _ (by omega) H2.out.b)) rfl hB, rfl, hbel _ _ (le2 _) H2.out.below⟩
set_option maxRecDepth 100000 in
set_option maxHeartbeats 4000000 in
theorem late_err2 (f d u : ByteArray) (w : World) (h1 : f.size ≤ 270000) (h2 : d.size ≤ 270000) (h3 : u.size ≤ 270000) (hr : Res w) (hL : errL f d = 0) (hU : errQ u.data.toList ≠ 0) :
    Calls Tryz.prog 23 #[.agg #[.string f, .string d], .string u] w fun e w' => e = .returned (resL (.error (errQ u.data.toList))) ∧ Below w.heap.size w w' := by
  have H0 := At3.new w 24 24 27 #[.string f, .string d] #[.string ⟨#[]⟩, .string ⟨#[]⟩] #[.int .i64 0] hr
  obtain ⟨a1, a2, a3⟩ := at3_row1 H0
  rw [show (((w.alloc (.cells #[.string f, .string d] 24)).alloc (.cells #[.string ⟨#[]⟩, .string ⟨#[]⟩] 24)).alloc (.cells #[.int .i64 0] 27)).heap.size = w.heap.size + 1 + 1 + 1 by simp] at a2
  have HV := Lib.hid (valid_run _ _ _ a2 (short_one h1 h2) a3)
  rw [firstL_one] at HV
  have H1 := Lib.hid (H0.later a1)
  rw [hL] at HV
  have HCK := Lib.hid (fun w hr => ratCheck_any u w h3 hr)
  have HN := Lib.hid hU
  generalize errQ u.data.toList = n at HCK HN
  clear H0 a1 a2 a3 h1 h2 h3 hr hL hU
  go_enter_defers Tryz.func23, Tryz.ntmps23
  go_wp2_with (first
    | (go_at_call 73; refine HV.out.mono ?_; rintro e w1 ⟨rfl, hb⟩; rw [endV_ok]; have H2 := Lib.hid (H1.out.later hb); clear hb)
    | (go_at_call 81; refine (HCK.out _ H2.out.res).mono ?_; rintro e w2 ⟨rfl, hb⟩; have H3 := Lib.hid (H2.out.later hb); clear hb)
    | (go_at_call 80; refine (mustI_no _ _ _ HN.out).mono ?_; rintro e w3 ⟨rfl, hw⟩; subst hw))
  refine door_pan (v := resL (.error n)) H3.out.c ?_
  intro W hB hk hbel
  exact ⟨run_cell_errno rfl rfl (load_loss (hk _ _ _ (by omega) H3.out.b)) rfl hB, rfl, hbel _ _ (le2 _) H3.out.below⟩
set_option maxRecDepth 100000 in
set_option maxHeartbeats 4000000 in
theorem late_rng1 (f d u : ByteArray) (w : World) (h1 : f.size ≤ 270000) (h2 : d.size ≤ 270000) (_h3 : u.size ≤ 270000) (hr : Res w) (hL : errL f d = 0) (hU : IsT u (valQ u.data.toList)) (c1 : cmpQ (valQ u.data.toList) 0 < 0) :
    Calls Tryz.prog 23 #[.agg #[.string f, .string d], .string u] w fun e w' => e = .returned (resL (.error 2)) ∧ Below w.heap.size w w' := by
  have H0 := At3.new w 24 24 27 #[.string f, .string d] #[.string ⟨#[]⟩, .string ⟨#[]⟩] #[.int .i64 0] hr
  obtain ⟨a1, a2, a3⟩ := at3_row1 H0
  rw [show (((w.alloc (.cells #[.string f, .string d] 24)).alloc (.cells #[.string ⟨#[]⟩, .string ⟨#[]⟩] 24)).alloc (.cells #[.int .i64 0] 27)).heap.size = w.heap.size + 1 + 1 + 1 by simp] at a2
  have HV := Lib.hid (valid_run _ _ _ a2 (short_one h1 h2) a3)
  rw [firstL_one] at HV
  have H1 := Lib.hid (H0.later a1)
  rw [hL] at HV
  have HCK := Lib.hid (fun w hr => checkT (p := valQ u.data.toList) w hU hr)
  have HC1 := Lib.hid (fun w hr => lorder_any w hU IsT.zero hr)
  have HC2 := Lib.hid (fun w hr => lorder_any w hU IsT.one hr)
  generalize cmpQ (valQ u.data.toList) 0 = x1 at *
  generalize cmpQ (valQ u.data.toList) 1 = x2 at *
  have g1 : decide (x1 < 0) = true := decide_eq_true c1
  have TK1 : True := trivial
  clear H0 a1 a2 a3 h1 h2 hr hL hU c1
  go_enter_defers Tryz.func23, Tryz.ntmps23
  go_wp2_with (first
    | (go_at_call 73; refine HV.out.mono ?_; rintro e w1 ⟨rfl, hb⟩; rw [endV_ok]; have H2 := Lib.hid (H1.out.later hb); clear hb)
    | (go_at_call 81; refine (HCK.out _ H2.out.res).mono ?_; rintro e w2 ⟨rfl, hb⟩; have H3 := Lib.hid (H2.out.later hb); clear hb)
    | (go_at_call 80; refine (mustI_ok _ _).mono ?_; rintro e w3 ⟨rfl, hw⟩; subst hw)
    | (clear TK1; go_at_call 74; refine (HC1.out _ H3.out.res).mono ?_; rintro e w4 ⟨rfl, hb⟩; have H4 := Lib.hid (H3.out.later hb); obtain ⟨q0, q1⟩ := cells2 H4.out.b; have y0 := H4.out.b.frozen 0; have y1 := H4.out.b.frozen 1; have ce := cell0 H4.out.c; have ze := H4.out.c.frozen 0; obtain ⟨p0, p1⟩ := cells2 H4.out.a; clear hb))
  have hb2 := ((H4.out.b.set_ 0 (.string ⟨#[]⟩)).set_ 1 (.string ⟨#[]⟩)).far (p := ⟨w.heap.size + 1 + 1, 0, none⟩) (by show w.heap.size + 1 ≠ w.heap.size + 1 + 1; omega) (.int .i64 2)
  have hc2 := (H4.out.c.two_far (b := w.heap.size + 1) (x := .string ⟨#[]⟩) (y := .string ⟨#[]⟩) (by omega)).set_ 0 (.int .i64 2)
  refine door_ret (v := resL (.error 2)) (run_cell_errno rfl rfl (load_loss hb2) rfl hc2) ⟨rfl, ?_⟩
  exact ((H4.out.below.setCell (Nat.le_succ _) _).setCell (Nat.le_succ _) _).setCell (le2 _) _
set_option maxRecDepth 100000 in
set_option maxHeartbeats 4000000 in
theorem late_rng2 (f d u : ByteArray) (w : World) (h1 : f.size ≤ 270000) (h2 : d.size ≤ 270000) (_h3 : u.size ≤ 270000) (hr : Res w) (hL : errL f d = 0) (hU : IsT u (valQ u.data.toList)) (c1 : ¬ cmpQ (valQ u.data.toList) 0 < 0) (c2 : cmpQ (valQ u.data.toList) 1 > 0) :
    Calls Tryz.prog 23 #[.agg #[.string f, .string d], .string u] w fun e w' => e = .returned (resL (.error 2)) ∧ Below w.heap.size w w' := by
  have H0 := At3.new w 24 24 27 #[.string f, .string d] #[.string ⟨#[]⟩, .string ⟨#[]⟩] #[.int .i64 0] hr
  obtain ⟨a1, a2, a3⟩ := at3_row1 H0
  rw [show (((w.alloc (.cells #[.string f, .string d] 24)).alloc (.cells #[.string ⟨#[]⟩, .string ⟨#[]⟩] 24)).alloc (.cells #[.int .i64 0] 27)).heap.size = w.heap.size + 1 + 1 + 1 by simp] at a2
  have HV := Lib.hid (valid_run _ _ _ a2 (short_one h1 h2) a3)
  rw [firstL_one] at HV
  have H1 := Lib.hid (H0.later a1)
  rw [hL] at HV
  have HCK := Lib.hid (fun w hr => checkT (p := valQ u.data.toList) w hU hr)
  have HC1 := Lib.hid (fun w hr => lorder_any w hU IsT.zero hr)
  have HC2 := Lib.hid (fun w hr => lorder_any w hU IsT.one hr)
  generalize cmpQ (valQ u.data.toList) 0 = x1 at *
  generalize cmpQ (valQ u.data.toList) 1 = x2 at *
  have g1 : decide (x1 < 0) = false := decide_eq_false c1
  have g2 : decide (0 < x2) = true := decide_eq_true c2
  have TK1 : True := trivial
  clear H0 a1 a2 a3 h1 h2 hr hL hU c1 c2
  go_enter_defers Tryz.func23, Tryz.ntmps23
  go_wp2_with (first
    | (go_at_call 73; refine HV.out.mono ?_; rintro e w1 ⟨rfl, hb⟩; rw [endV_ok]; have H2 := Lib.hid (H1.out.later hb); clear hb)
    | (go_at_call 81; refine (HCK.out _ H2.out.res).mono ?_; rintro e w2 ⟨rfl, hb⟩; have H3 := Lib.hid (H2.out.later hb); clear hb)
    | (go_at_call 80; refine (mustI_ok _ _).mono ?_; rintro e w3 ⟨rfl, hw⟩; subst hw)
    | (clear TK1; go_at_call 74; refine (HC1.out _ H3.out.res).mono ?_; rintro e w4 ⟨rfl, hb⟩; have H4 := Lib.hid (H3.out.later hb); clear hb)
    | (go_at_call 74; refine (HC2.out _ H4.out.res).mono ?_; rintro e w5 ⟨rfl, hb⟩; have H5 := Lib.hid (H4.out.later hb); obtain ⟨q0, q1⟩ := cells2 H5.out.b; have y0 := H5.out.b.frozen 0; have y1 := H5.out.b.frozen 1; have ce := cell0 H5.out.c; have ze := H5.out.c.frozen 0; obtain ⟨p0, p1⟩ := cells2 H5.out.a; clear hb))
  have hb2 := ((H5.out.b.set_ 0 (.string ⟨#[]⟩)).set_ 1 (.string ⟨#[]⟩)).far (p := ⟨w.heap.size + 1 + 1, 0, none⟩) (by show w.heap.size + 1 ≠ w.heap.size + 1 + 1; omega) (.int .i64 2)
  have hc2 := (H5.out.c.two_far (b := w.heap.size + 1) (x := .string ⟨#[]⟩) (y := .string ⟨#[]⟩) (by omega)).set_ 0 (.int .i64 2)
  refine door_ret (v := resL (.error 2)) (run_cell_errno rfl rfl (load_loss hb2) rfl hc2) ⟨rfl, ?_⟩
  exact ((H5.out.below.setCell (Nat.le_succ _) _).setCell (Nat.le_succ _) _).setCell (le2 _) _
set_option maxRecDepth 100000 in
set_option maxHeartbeats 4000000 in
theorem late_ok (f d u : ByteArray) (w : World) (h1 : f.size ≤ 270000) (h2 : d.size ≤ 270000) (_h3 : u.size ≤ 270000) (hr : Res w) (l : LQ) (q : Rat) (hl : LossIs f d l) (hU : IsT u q) (c1 : ¬ cmpQ q 0 < 0) (c2 : ¬ cmpQ q 1 > 0) (f1 : fits (l.1 + 1) = true) (f2 : fits ((l.1 + 1) * q) = true) (f3 : fits (l.2 + (l.1 + 1) * q) = true) :
    Calls Tryz.prog 23 #[.agg #[.string f, .string d], .string u] w fun e w' => e = .returned (.tuple #[.agg #[.string f, .string (rT (minQ (l.2 + (l.1 + 1) * q) 1))], .int .i64 0]) ∧ Below w.heap.size w w' := by
  have H0 := At3.new w 24 24 27 #[.string f, .string d] #[.string ⟨#[]⟩, .string ⟨#[]⟩] #[.int .i64 0] hr
  obtain ⟨a1, a2, a3⟩ := at3_row1 H0
  rw [show (((w.alloc (.cells #[.string f, .string d] 24)).alloc (.cells #[.string ⟨#[]⟩, .string ⟨#[]⟩] 24)).alloc (.cells #[.int .i64 0] 27)).heap.size = w.heap.size + 1 + 1 + 1 by simp] at a2
  have HV := Lib.hid (valid_run _ _ _ a2 (short_one h1 h2) a3)
  rw [firstL_one] at HV
  have H1 := Lib.hid (H0.later a1)
  rw [hl.err] at HV
  have HCK := Lib.hid (fun w hr => checkT w hU hr)
  have HC1 := Lib.hid (fun w hr => lorder_any w hU IsT.zero hr)
  have HC2 := Lib.hid (fun w hr => lorder_any w hU IsT.one hr)
  have HA1 := Lib.hid (fun w hr => addT w hl.f IsT.one (isT_rT f1) hr)
  have HM1 := Lib.hid (fun w hr => mulT w (isT_rT f1) hU (isT_rT f2) hr)
  have HA2 := Lib.hid (fun w hr => addT w hl.d (isT_rT f2) (isT_rT f3) hr)
  have HLim := Lib.hid (fun (w : World) hr => limited_any (f := f) w (isT_rT f3) hr)
  have hfd := field_bound
  generalize cmpQ q 0 = x1 at *
  generalize cmpQ q 1 = x2 at *
  generalize rT (l.1 + 1) = t1 at *
  generalize rT (minQ (l.2 + (l.1 + 1) * q) 1) = t4 at *
  generalize rT (l.2 + (l.1 + 1) * q) = t3 at *
  generalize rT ((l.1 + 1) * q) = t2 at *
  have g1 : decide (x1 < 0) = false := decide_eq_false c1
  have g2 : decide (0 < x2) = false := decide_eq_false c2
  have TK1 : True := trivial
  have TK2 : True := trivial
  have TK3 : True := trivial
  clear H0 a1 a2 a3 h1 h2 hr hl hU c1 c2 f1 f2 f3
  refine (callsIn_wide (n := 3)).1 ?_
  have h1 : 1 ≤ 3 := by omega
  have hmx : Tryz.prog.follows .mixedOrders = true := by kernel_rfl
  refine callsIn_of_wp_defers Tryz.func23 rfl trivial ?_ rfl
  simp only [Tryz.ntmps23, List.size_toArray, List.length_cons, List.length_nil, Nat.reduceAdd, Nat.reduceSub, Array.replicate_succ, Array.replicate_zero, List.push_toArray, List.append_toArray, List.nil_append, List.cons_append]
  gi_upto_region 7 with (first
    | (refine ⟨trivial, ?_⟩; gi_at_call 73; refine (callsIn_wide.2 (HV.out)).mono ?_; rintro e w2 ⟨rfl, hb⟩; have H2 := Lib.hid (H1.out.later hb); clear hb)
    | (refine ⟨trivial, ?_⟩; gi_at_call 81; refine (callsIn_wide.2 (HCK.out _ H2.out.res)).mono ?_; rintro e w3 ⟨rfl, hb⟩; have H3 := Lib.hid (H2.out.later hb); clear hb)
    | (refine ⟨trivial, ?_⟩; gi_at_call 80; refine (callsIn_wide.2 (mustI_ok _ _)).mono ?_; rintro e w9 ⟨rfl, hw⟩; subst hw)
    | (clear TK1; refine ⟨trivial, ?_⟩; gi_at_call 74; refine (callsIn_wide.2 (HC1.out _ H3.out.res)).mono ?_; rintro e w4 ⟨rfl, hb⟩; have H4 := Lib.hid (H3.out.later hb); clear hb)
    | (refine ⟨trivial, ?_⟩; gi_at_call 74; refine (callsIn_wide.2 (HC2.out _ H4.out.res)).mono ?_; rintro e w5 ⟨rfl, hb⟩; have H5 := Lib.hid (H4.out.later hb); obtain ⟨p0, p1⟩ := cells2 H5.out.a; clear hb)
    | (refine ⟨trivial, ?_⟩; gi_at_call 77; refine (callsIn_wide.2 (HA1.out _ H5.out.res)).mono ?_; rintro e w6 ⟨rfl, hb⟩; have H6 := Lib.hid (H5.out.later hb); clear hb)
    | (clear TK2; refine ⟨trivial, ?_⟩; gi_at_call 76; refine (callsIn_wide.2 (mustN_ok _ _)).mono ?_; rintro e w8 ⟨rfl, hw⟩; subst hw)
    | (refine ⟨trivial, ?_⟩; gi_at_call 78; refine (callsIn_wide.2 (HM1.out _ H6.out.res)).mono ?_; rintro e w7 ⟨rfl, hb⟩; have H7 := Lib.hid (H6.out.later hb); clear hb)
    | (clear TK3; refine ⟨trivial, ?_⟩; gi_at_call 76; refine (callsIn_wide.2 (mustN_ok _ _)).mono ?_; rintro e w8 ⟨rfl, hw⟩; subst hw))
  clear p0 p1
  have H := H7.out
  have hla := H.a.lt
  obtain ⟨x0, x1⟩ := same_two (S := fun k => k < w8.heap.size ∧ k ≠ w.heap.size + 1 ∧ k ≠ w.heap.size + 1 + 1) H.a ⟨hla, by omega, by omega⟩
  clear H hla
  have HRD := Lib.hid (H7.out.res.below (below_drew (Below.refl w8.heap.size w8)))
  refine wpIn_stage (IsSame w8 (fun k => k < w8.heap.size ∧ k ≠ w.heap.size + 1 ∧ k ≠ w.heap.size + 1 + 1)) [0, 1, 2, 3, 4, 6, 7, 10] [] hmx (by kernel_rfl) (isSame_of fun _ _ => rfl) ?_
  change wpStage _ _ _ _ _ _ _ _ (8 + 5) _ _ _
  refine stage_reads [0, 1, 2, 3, 4] 8 _ _ (by kernel_rfl) ?_
  change wpQuietIn _ _ _ _ (fun W' => ∃ x : SameAt w8 (fun k => k < w8.heap.size ∧ k ≠ w.heap.size + 1 ∧ k ≠ w.heap.size + 1 + 1), W' = x.W) _ _ _
  simp only [pick_cons, pick_nil, List.getElem?_cons_zero, List.getElem?_cons_succ, Option.elim_some]
  repeat (gi_big_quiet_step (fail))
  refine wpQuietIn_nil ?_
  refine stage_one 5 (by kernel_rfl) rfl ?_
  gi_wp2
  refine ⟨trivial, ?_⟩
  refine (callsIn_wide.2 (HA2.out _ HRD.out)).mono ?_
  rintro e w10 ⟨rfl, hb⟩
  have HB1 := Lib.hid (show Below w8.heap.size w8 w10 from below_undrew hb)
  clear hb
  gi_wp2
  refine stage_post (isSame_below HB1.out (fun k hk => hk.1)) ?_
  change wpStage _ _ _ _ _ _ _ _ (5 + 2) _ _ _
  refine stage_reads [6, 7] 5 _ _ (by kernel_rfl) ?_
  change wpQuietIn _ _ _ _ (fun W' => ∃ x : SameAt w8 (fun k => k < w8.heap.size ∧ k ≠ w.heap.size + 1 ∧ k ≠ w.heap.size + 1 + 1), W' = x.W) _ _ _
  simp only [pick_cons, pick_nil, List.getElem?_cons_zero, List.getElem?_cons_succ, Option.elim_some]
  repeat (gi_big_quiet_step (fail))
  refine wpQuietIn_nil ?_
  refine stage_one 8 (by kernel_rfl) rfl ?_
  gi_wp2
  refine ⟨trivial, ?_⟩
  refine (callsIn_wide.2 (mustN_ok _ _)).mono ?_
  rintro e w11 ⟨rfl, hw⟩
  subst hw
  gi_wp2
  refine stage_post (isSame_below HB1.out (fun k hk => hk.1)) ?_
  refine stage_one 9 (by kernel_rfl) rfl ?_
  gi_wp2
  refine ⟨trivial, ?_⟩
  refine (callsIn_wide.2 (HLim.out _ (H7.out.res.below HB1.out))).mono ?_
  rintro e w12 ⟨rfl, hb⟩
  have HB2 := Lib.hid (HB1.out.trans (hb.mono HB1.out.size))
  clear hb
  gi_wp2
  refine stage_post (isSame_below HB2.out (fun k hk => hk.1)) ?_
  change wpStage _ _ _ _ _ _ _ _ (2 + 1) _ _ _
  refine stage_reads [10] 2 _ _ (by kernel_rfl) ?_
  change wpQuietIn _ _ _ _ (fun W' => ∃ x : SameAt w8 (fun k => k < w8.heap.size ∧ k ≠ w.heap.size + 1 ∧ k ≠ w.heap.size + 1 + 1), W' = x.W) _ _ _
  simp only [pick_cons, pick_nil, List.getElem?_cons_zero, List.getElem?_cons_succ, Option.elim_some]
  repeat (gi_big_quiet_step (fail))
  refine wpQuietIn_nil ?_
  have H12 := Lib.hid (H7.out.later HB2.out)
  obtain ⟨r0, r1⟩ := cells2 H12.out.b
  have y0 := H12.out.b.frozen 0
  have y1 := H12.out.b.frozen 1
  have ce := cell0 H12.out.c
  have ze := H12.out.c.frozen 0
  refine stage_one 11 (by kernel_rfl) rfl ?_
  gi_wp2
  refine stage_post (isSame_of fun k hk => (set2_heap hk.2.1).trans (HB2.out.block k hk.1)) ?_
  refine stage_one 12 (by kernel_rfl) rfl ?_
  gi_wp2
  refine stage_post (isSame_of fun k hk => (Below.heap_setCell _ ⟨w.heap.size + 1 + 1, 0, none⟩ _ _ hk.2.2).trans ((set2_heap hk.2.1).trans (HB2.out.block k hk.1))) ?_
  refine stage_done (by kernel_rfl) ?_
  gi_wp2
  have hb2 := (H12.out.b.two_set (x := .string f) (y := .string t4)).far (p := ⟨w.heap.size + 1 + 1, 0, none⟩) (by show w.heap.size + 1 ≠ w.heap.size + 1 + 1; omega) (.int .i64 0)
  have hc2 := (H12.out.c.two_far (b := w.heap.size + 1) (x := .string f) (y := .string t4) (by omega)).set_ 0 (.int .i64 0)
  refine door_retI (v := .tuple #[.agg #[.string f, .string t4], .int .i64 0]) (run_cell_errno rfl rfl (load_loss hb2) rfl hc2) ⟨rfl, ?_⟩
  exact ((H12.out.below.setCell (Nat.le_succ _) _).setCell (Nat.le_succ _) _).setCell (le2 _) _
/-- loss.Late of numbers whose sums and products are not too long. -/
theorem lossLate_any (f d u : ByteArray) (w : World) (h1 : f.size ≤ 270000) (h2 : d.size ≤ 270000) (h3 : u.size ≤ 270000) (hr : Res w) (hfit : errL f d = 0 → errQ u.data.toList = 0 → fits ((valL (f, d)).1 + 1) = true ∧ fits (((valL (f, d)).1 + 1) * valQ u.data.toList) = true ∧ fits ((valL (f, d)).2 + ((valL (f, d)).1 + 1) * valQ u.data.toList) = true) :
    Calls Tryz.prog 23 #[.agg #[.string f, .string d], .string u] w fun e w' => e = .returned (resL (lateR f d u)) ∧ Below w.heap.size w w' := by
  unfold lateR
  by_cases hL : errL f d = 0
  · rw [if_neg (by omega)]
    by_cases hU : errQ u.data.toList = 0
    · rw [if_neg (by omega)]
      by_cases c1 : cmpQ (valQ u.data.toList) 0 < 0
      · rw [if_pos (.inl c1)]; exact late_rng1 f d u w h1 h2 h3 hr hL (IsT.of hU) c1
      by_cases c2 : cmpQ (valQ u.data.toList) 1 > 0
      · rw [if_pos (.inr c2)]; exact late_rng2 f d u w h1 h2 h3 hr hL (IsT.of hU) c1 c2
      rw [if_neg (by omega)]
      obtain ⟨f1, f2, f3⟩ := hfit hL hU
      have hl := errL_zero hL
      have hx := late_ok f d u w h1 h2 h3 hr (valL (f, d)) _ hl (IsT.of hU) c1 c2 f1 f2 f3
      have e : resL (lateL (valL (f, d)) (valQ u.data.toList)) = .tuple #[.agg #[.string f, .string (rT (minQ ((valL (f, d)).2 + ((valL (f, d)).1 + 1) * valQ u.data.toList) 1))], .int .i64 0] := by
        have hf : f = rT (valL (f, d)).1 := hl.f.text
        unfold lateL
        rw [ovr_ok f1]
        dsimp only
        rw [ovr_ok f2]
        dsimp only
        rw [ovr_ok f3]
        show Value.tuple #[lossT _, _] = _
        unfold lossT
        dsimp only
        rw [← hf]
      rw [e]
      exact hx
    · rw [if_pos hU]; exact late_err2 f d u w h1 h2 h3 hr hL hU
  · rw [if_pos hL]; exact late_err1 f d u w h1 h2 h3 hr hL
end Go.Proofs.YtbfhonhjejeaiaaGreatDoor
