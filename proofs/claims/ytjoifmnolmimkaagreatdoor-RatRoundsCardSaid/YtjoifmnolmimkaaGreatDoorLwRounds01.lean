/- RatOrder: the walk and its plain law (printed by mkorder.py). RatRounds: the walk and its plain law (printed by mkrounds.py). -/
import Derived.Test.YtjoifmnolmimkaaGreatDoorRb15
import Derived.Test.YtjoifmnolmimkaaGreatDoorRb16
namespace Go.Proofs.YtjoifmnolmimkaaGreatDoor
open Go.RowKit Go.Shelf
open Lim

set_option maxRecDepth 100000 in
set_option maxHeartbeats 8000000 in
theorem ord_pos (a b c ac bc pc qc d : ByteArray) (p q r : Rat) (Y Z S : Int) (w : World) (T0 : Hid (IsT a (p))) (T1 : Hid (IsT b (q))) (T2 : Hid (IsT c (r))) (T3 : Hid (IsT ac (p + r))) (T4 : Hid (IsT bc (q + r))) (T5 : Hid (IsT pc (p * r))) (T6 : Hid (IsT qc (q * r))) (T7 : Hid (IsT d (p + -q))) (K0 : Hid (cmpQ p q = 1)) (K1 : Hid (cmpQ q r = Y)) (K2 : Hid (cmpQ p r = Z)) (K3 : Hid (cmpQ q p = (-1))) (K4 : Hid (cmpQ (p + r) (q + r) = 1)) (K5 : Hid (cmpQ (p * r) (q * r) = S)) (G0 : Hid (sgQ r = S)) (G1 : Hid (sgQ (p + -q) = 1)) (hab : (a.toList == b.toList) = false) (hab2 : (b.toList == a.toList) = false) (hY : -1 ≤ Y ∧ Y ≤ 1) (hZ : -1 ≤ Z ∧ Z ≤ 1) (hS : -1 ≤ S ∧ S ≤ 1) (HV : Hid (validL 300 [a, b, c] = true)) (hr : Res w) :
    Calls Tryz.prog 6 #[.string a, .string b, .string c] w fun e w' => e = .returned (.bool true) ∧ Below w.heap.size w w' := by
  have HR := Lib.hid hr
  have HB := Lib.hid (Below.refl w.heap.size w)
  have HI := Lib.hid (show b = if cmpQ p q > 0 then b else a by rw [K0.out]; rfl)
  have HX := Lib.hid (show a = if cmpQ p q < 0 then b else a by rw [K0.out]; rfl)
  clear hr
  obtain ⟨hY1, hY2⟩ := hY
  obtain ⟨hZ1, hZ2⟩ := hZ
  obtain ⟨hS1, hS2⟩ := hS
  go_enter Tryz.func6, Tryz.ntmps6
  go_wp2_with (first
    | (go_at_call 11; refine (lives_any _ HR.out).mono ?_; rintro e w1 ⟨rfl, hb1⟩; replace HR := Lib.hid (HR.out.below hb1); replace HB := Lib.hid (HB.out.trans (hb1.mono HB.out.size)); clear hb1)
    | (go_at_call 12; refine (valid3_any a b c 300 300 _ _ rfl (by omega) (Blk.new _ _ _)).mono ?_; rintro e w1 ⟨rfl, hb1⟩; rw [HV.out]; replace HR := Lib.hid ((HR.out.below (below_alloc (Below.refl _ _) _)).below hb1); replace HB := Lib.hid ((below_alloc HB.out _).trans (hb1.mono (below_alloc HB.out _).size)); clear hb1)
    | (go_at_call 32; refine (order_any _ (by first | exact T0.out | exact T1.out | exact T2.out | exact T3.out | exact T4.out | exact T5.out | exact T6.out | exact T7.out) (by first | exact T0.out | exact T1.out | exact T2.out | exact T3.out | exact T4.out | exact T5.out | exact T6.out | exact T7.out) (by first | exact K0.out | exact K1.out | exact K2.out | exact K3.out | exact K4.out | exact K5.out) HR.out).mono ?_; rintro e w1 ⟨rfl, hb1⟩; replace HR := Lib.hid (HR.out.below hb1); replace HB := Lib.hid (HB.out.trans (hb1.mono HB.out.size)); clear hb1)
    | (go_at_call 28; refine (signT _ (by first | exact T0.out | exact T1.out | exact T2.out | exact T3.out | exact T4.out | exact T5.out | exact T6.out | exact T7.out) (by first | exact G0.out | exact G1.out) HR.out).mono ?_; rintro e w1 ⟨rfl, hb1⟩; replace HR := Lib.hid (HR.out.below hb1); replace HB := Lib.hid (HB.out.trans (hb1.mono HB.out.size)); clear hb1)
    | (go_at_call 33; refine (minT _ T0.out T1.out HI.out HR.out).mono ?_; rintro e w1 ⟨rfl, hb1⟩; replace HR := Lib.hid (HR.out.below hb1); replace HB := Lib.hid (HB.out.trans (hb1.mono HB.out.size)); clear hb1)
    | (go_at_call 34; refine (maxT _ T0.out T1.out HX.out HR.out).mono ?_; rintro e w1 ⟨rfl, hb1⟩; replace HR := Lib.hid (HR.out.below hb1); replace HB := Lib.hid (HB.out.trans (hb1.mono HB.out.size)); clear hb1)
    | (go_at_call 19; refine (subT _ (by first | exact T0.out | exact T1.out | exact T2.out | exact T3.out | exact T4.out | exact T5.out | exact T6.out | exact T7.out) (by first | exact T0.out | exact T1.out | exact T2.out | exact T3.out | exact T4.out | exact T5.out | exact T6.out | exact T7.out) (by first | exact T0.out | exact T1.out | exact T2.out | exact T3.out | exact T4.out | exact T5.out | exact T6.out | exact T7.out) HR.out).mono ?_; rintro e w1 ⟨rfl, hb1⟩; replace HR := Lib.hid (HR.out.below hb1); replace HB := Lib.hid (HB.out.trans (hb1.mono HB.out.size)); clear hb1)
    | (go_at_call 21; refine (sum_any _ (by first | exact T0.out | exact T1.out | exact T2.out | exact T3.out | exact T4.out | exact T5.out | exact T6.out | exact T7.out) (by first | exact T0.out | exact T1.out | exact T2.out | exact T3.out | exact T4.out | exact T5.out | exact T6.out | exact T7.out) (by first | exact T0.out | exact T1.out | exact T2.out | exact T3.out | exact T4.out | exact T5.out | exact T6.out | exact T7.out) HR.out).mono ?_; rintro e w1 ⟨rfl, hb1⟩; replace HR := Lib.hid (HR.out.below hb1); replace HB := Lib.hid (HB.out.trans (hb1.mono HB.out.size)); clear hb1)
    | (go_at_call 16; refine (product_any _ (by first | exact T0.out | exact T1.out | exact T2.out | exact T3.out | exact T4.out | exact T5.out | exact T6.out | exact T7.out) (by first | exact T0.out | exact T1.out | exact T2.out | exact T3.out | exact T4.out | exact T5.out | exact T6.out | exact T7.out) (by first | exact T0.out | exact T1.out | exact T2.out | exact T3.out | exact T4.out | exact T5.out | exact T6.out | exact T7.out) HR.out).mono ?_; rintro e w1 ⟨rfl, hb1⟩; replace HR := Lib.hid (HR.out.below hb1); replace HB := Lib.hid (HB.out.trans (hb1.mono HB.out.size)); clear hb1))
  go_ret
  exact ⟨rfl, HB.out⟩

set_option maxRecDepth 100000 in
set_option maxHeartbeats 8000000 in
theorem ord_neg_f (a b c ac bc pc qc d : ByteArray) (p q r : Rat) (Y Z S : Int) (w : World) (T0 : Hid (IsT a (p))) (T1 : Hid (IsT b (q))) (T2 : Hid (IsT c (r))) (T3 : Hid (IsT ac (p + r))) (T4 : Hid (IsT bc (q + r))) (T5 : Hid (IsT pc (p * r))) (T6 : Hid (IsT qc (q * r))) (T7 : Hid (IsT d (p + -q))) (K0 : Hid (cmpQ p q = (-1))) (K1 : Hid (cmpQ q r = Y)) (K2 : Hid (cmpQ p r = Z)) (K3 : Hid (cmpQ q p = 1)) (K4 : Hid (cmpQ (p + r) (q + r) = (-1))) (K5 : Hid (cmpQ (p * r) (q * r) = (-S))) (G0 : Hid (sgQ r = S)) (G1 : Hid (sgQ (p + -q) = (-1))) (hab : (a.toList == b.toList) = false) (hab2 : (b.toList == a.toList) = false) (hY : -1 ≤ Y ∧ Y ≤ 1) (hZ : -1 ≤ Z ∧ Z ≤ 1) (hS : -1 ≤ S ∧ S ≤ 1) (hy : ¬ Y ≤ 0) (HV : Hid (validL 300 [a, b, c] = true)) (hr : Res w) :
    Calls Tryz.prog 6 #[.string a, .string b, .string c] w fun e w' => e = .returned (.bool true) ∧ Below w.heap.size w w' := by
  have HR := Lib.hid hr
  have HB := Lib.hid (Below.refl w.heap.size w)
  have HI := Lib.hid (show a = if cmpQ p q > 0 then b else a by rw [K0.out]; rfl)
  have HX := Lib.hid (show b = if cmpQ p q < 0 then b else a by rw [K0.out]; rfl)
  clear hr
  have hy2 : decide (Y ≤ 0) = false := decide_eq_false hy
  obtain ⟨hY1, hY2⟩ := hY
  obtain ⟨hZ1, hZ2⟩ := hZ
  obtain ⟨hS1, hS2⟩ := hS
  go_enter Tryz.func6, Tryz.ntmps6
  go_wp2_with (first
    | (go_at_call 11; refine (lives_any _ HR.out).mono ?_; rintro e w1 ⟨rfl, hb1⟩; replace HR := Lib.hid (HR.out.below hb1); replace HB := Lib.hid (HB.out.trans (hb1.mono HB.out.size)); clear hb1)
    | (go_at_call 12; refine (valid3_any a b c 300 300 _ _ rfl (by omega) (Blk.new _ _ _)).mono ?_; rintro e w1 ⟨rfl, hb1⟩; rw [HV.out]; replace HR := Lib.hid ((HR.out.below (below_alloc (Below.refl _ _) _)).below hb1); replace HB := Lib.hid ((below_alloc HB.out _).trans (hb1.mono (below_alloc HB.out _).size)); clear hb1)
    | (go_at_call 32; refine (order_any _ (by first | exact T0.out | exact T1.out | exact T2.out | exact T3.out | exact T4.out | exact T5.out | exact T6.out | exact T7.out) (by first | exact T0.out | exact T1.out | exact T2.out | exact T3.out | exact T4.out | exact T5.out | exact T6.out | exact T7.out) (by first | exact K0.out | exact K1.out | exact K2.out | exact K3.out | exact K4.out | exact K5.out) HR.out).mono ?_; rintro e w1 ⟨rfl, hb1⟩; replace HR := Lib.hid (HR.out.below hb1); replace HB := Lib.hid (HB.out.trans (hb1.mono HB.out.size)); clear hb1)
    | (go_at_call 28; refine (signT _ (by first | exact T0.out | exact T1.out | exact T2.out | exact T3.out | exact T4.out | exact T5.out | exact T6.out | exact T7.out) (by first | exact G0.out | exact G1.out) HR.out).mono ?_; rintro e w1 ⟨rfl, hb1⟩; replace HR := Lib.hid (HR.out.below hb1); replace HB := Lib.hid (HB.out.trans (hb1.mono HB.out.size)); clear hb1)
    | (go_at_call 33; refine (minT _ T0.out T1.out HI.out HR.out).mono ?_; rintro e w1 ⟨rfl, hb1⟩; replace HR := Lib.hid (HR.out.below hb1); replace HB := Lib.hid (HB.out.trans (hb1.mono HB.out.size)); clear hb1)
    | (go_at_call 34; refine (maxT _ T0.out T1.out HX.out HR.out).mono ?_; rintro e w1 ⟨rfl, hb1⟩; replace HR := Lib.hid (HR.out.below hb1); replace HB := Lib.hid (HB.out.trans (hb1.mono HB.out.size)); clear hb1)
    | (go_at_call 19; refine (subT _ (by first | exact T0.out | exact T1.out | exact T2.out | exact T3.out | exact T4.out | exact T5.out | exact T6.out | exact T7.out) (by first | exact T0.out | exact T1.out | exact T2.out | exact T3.out | exact T4.out | exact T5.out | exact T6.out | exact T7.out) (by first | exact T0.out | exact T1.out | exact T2.out | exact T3.out | exact T4.out | exact T5.out | exact T6.out | exact T7.out) HR.out).mono ?_; rintro e w1 ⟨rfl, hb1⟩; replace HR := Lib.hid (HR.out.below hb1); replace HB := Lib.hid (HB.out.trans (hb1.mono HB.out.size)); clear hb1)
    | (go_at_call 21; refine (sum_any _ (by first | exact T0.out | exact T1.out | exact T2.out | exact T3.out | exact T4.out | exact T5.out | exact T6.out | exact T7.out) (by first | exact T0.out | exact T1.out | exact T2.out | exact T3.out | exact T4.out | exact T5.out | exact T6.out | exact T7.out) (by first | exact T0.out | exact T1.out | exact T2.out | exact T3.out | exact T4.out | exact T5.out | exact T6.out | exact T7.out) HR.out).mono ?_; rintro e w1 ⟨rfl, hb1⟩; replace HR := Lib.hid (HR.out.below hb1); replace HB := Lib.hid (HB.out.trans (hb1.mono HB.out.size)); clear hb1)
    | (go_at_call 16; refine (product_any _ (by first | exact T0.out | exact T1.out | exact T2.out | exact T3.out | exact T4.out | exact T5.out | exact T6.out | exact T7.out) (by first | exact T0.out | exact T1.out | exact T2.out | exact T3.out | exact T4.out | exact T5.out | exact T6.out | exact T7.out) (by first | exact T0.out | exact T1.out | exact T2.out | exact T3.out | exact T4.out | exact T5.out | exact T6.out | exact T7.out) HR.out).mono ?_; rintro e w1 ⟨rfl, hb1⟩; replace HR := Lib.hid (HR.out.below hb1); replace HB := Lib.hid (HB.out.trans (hb1.mono HB.out.size)); clear hb1))
  go_ret
  exact ⟨rfl, HB.out⟩

set_option maxRecDepth 100000 in
set_option maxHeartbeats 8000000 in
theorem ord_neg_t (a b c ac bc pc qc d : ByteArray) (p q r : Rat) (Y Z S : Int) (w : World) (T0 : Hid (IsT a (p))) (T1 : Hid (IsT b (q))) (T2 : Hid (IsT c (r))) (T3 : Hid (IsT ac (p + r))) (T4 : Hid (IsT bc (q + r))) (T5 : Hid (IsT pc (p * r))) (T6 : Hid (IsT qc (q * r))) (T7 : Hid (IsT d (p + -q))) (K0 : Hid (cmpQ p q = (-1))) (K1 : Hid (cmpQ q r = Y)) (K2 : Hid (cmpQ p r = Z)) (K3 : Hid (cmpQ q p = 1)) (K4 : Hid (cmpQ (p + r) (q + r) = (-1))) (K5 : Hid (cmpQ (p * r) (q * r) = (-S))) (G0 : Hid (sgQ r = S)) (G1 : Hid (sgQ (p + -q) = (-1))) (hab : (a.toList == b.toList) = false) (hab2 : (b.toList == a.toList) = false) (hY : -1 ≤ Y ∧ Y ≤ 1) (hZ : -1 ≤ Z ∧ Z ≤ 1) (hS : -1 ≤ S ∧ S ≤ 1) (hy : Y ≤ 0) (hz : ¬ Z > 0) (HV : Hid (validL 300 [a, b, c] = true)) (hr : Res w) :
    Calls Tryz.prog 6 #[.string a, .string b, .string c] w fun e w' => e = .returned (.bool true) ∧ Below w.heap.size w w' := by
  have HR := Lib.hid hr
  have HB := Lib.hid (Below.refl w.heap.size w)
  have HI := Lib.hid (show a = if cmpQ p q > 0 then b else a by rw [K0.out]; rfl)
  have HX := Lib.hid (show b = if cmpQ p q < 0 then b else a by rw [K0.out]; rfl)
  clear hr
  have hy2 : decide (Y ≤ 0) = true := decide_eq_true hy
  have hz2 : decide (Z > 0) = false := decide_eq_false hz
  obtain ⟨hY1, hY2⟩ := hY
  obtain ⟨hZ1, hZ2⟩ := hZ
  obtain ⟨hS1, hS2⟩ := hS
  go_enter Tryz.func6, Tryz.ntmps6
  go_wp2_with (first
    | (go_at_call 11; refine (lives_any _ HR.out).mono ?_; rintro e w1 ⟨rfl, hb1⟩; replace HR := Lib.hid (HR.out.below hb1); replace HB := Lib.hid (HB.out.trans (hb1.mono HB.out.size)); clear hb1)
    | (go_at_call 12; refine (valid3_any a b c 300 300 _ _ rfl (by omega) (Blk.new _ _ _)).mono ?_; rintro e w1 ⟨rfl, hb1⟩; rw [HV.out]; replace HR := Lib.hid ((HR.out.below (below_alloc (Below.refl _ _) _)).below hb1); replace HB := Lib.hid ((below_alloc HB.out _).trans (hb1.mono (below_alloc HB.out _).size)); clear hb1)
    | (go_at_call 32; refine (order_any _ (by first | exact T0.out | exact T1.out | exact T2.out | exact T3.out | exact T4.out | exact T5.out | exact T6.out | exact T7.out) (by first | exact T0.out | exact T1.out | exact T2.out | exact T3.out | exact T4.out | exact T5.out | exact T6.out | exact T7.out) (by first | exact K0.out | exact K1.out | exact K2.out | exact K3.out | exact K4.out | exact K5.out) HR.out).mono ?_; rintro e w1 ⟨rfl, hb1⟩; replace HR := Lib.hid (HR.out.below hb1); replace HB := Lib.hid (HB.out.trans (hb1.mono HB.out.size)); clear hb1)
    | (go_at_call 28; refine (signT _ (by first | exact T0.out | exact T1.out | exact T2.out | exact T3.out | exact T4.out | exact T5.out | exact T6.out | exact T7.out) (by first | exact G0.out | exact G1.out) HR.out).mono ?_; rintro e w1 ⟨rfl, hb1⟩; replace HR := Lib.hid (HR.out.below hb1); replace HB := Lib.hid (HB.out.trans (hb1.mono HB.out.size)); clear hb1)
    | (go_at_call 33; refine (minT _ T0.out T1.out HI.out HR.out).mono ?_; rintro e w1 ⟨rfl, hb1⟩; replace HR := Lib.hid (HR.out.below hb1); replace HB := Lib.hid (HB.out.trans (hb1.mono HB.out.size)); clear hb1)
    | (go_at_call 34; refine (maxT _ T0.out T1.out HX.out HR.out).mono ?_; rintro e w1 ⟨rfl, hb1⟩; replace HR := Lib.hid (HR.out.below hb1); replace HB := Lib.hid (HB.out.trans (hb1.mono HB.out.size)); clear hb1)
    | (go_at_call 19; refine (subT _ (by first | exact T0.out | exact T1.out | exact T2.out | exact T3.out | exact T4.out | exact T5.out | exact T6.out | exact T7.out) (by first | exact T0.out | exact T1.out | exact T2.out | exact T3.out | exact T4.out | exact T5.out | exact T6.out | exact T7.out) (by first | exact T0.out | exact T1.out | exact T2.out | exact T3.out | exact T4.out | exact T5.out | exact T6.out | exact T7.out) HR.out).mono ?_; rintro e w1 ⟨rfl, hb1⟩; replace HR := Lib.hid (HR.out.below hb1); replace HB := Lib.hid (HB.out.trans (hb1.mono HB.out.size)); clear hb1)
    | (go_at_call 21; refine (sum_any _ (by first | exact T0.out | exact T1.out | exact T2.out | exact T3.out | exact T4.out | exact T5.out | exact T6.out | exact T7.out) (by first | exact T0.out | exact T1.out | exact T2.out | exact T3.out | exact T4.out | exact T5.out | exact T6.out | exact T7.out) (by first | exact T0.out | exact T1.out | exact T2.out | exact T3.out | exact T4.out | exact T5.out | exact T6.out | exact T7.out) HR.out).mono ?_; rintro e w1 ⟨rfl, hb1⟩; replace HR := Lib.hid (HR.out.below hb1); replace HB := Lib.hid (HB.out.trans (hb1.mono HB.out.size)); clear hb1)
    | (go_at_call 16; refine (product_any _ (by first | exact T0.out | exact T1.out | exact T2.out | exact T3.out | exact T4.out | exact T5.out | exact T6.out | exact T7.out) (by first | exact T0.out | exact T1.out | exact T2.out | exact T3.out | exact T4.out | exact T5.out | exact T6.out | exact T7.out) (by first | exact T0.out | exact T1.out | exact T2.out | exact T3.out | exact T4.out | exact T5.out | exact T6.out | exact T7.out) HR.out).mono ?_; rintro e w1 ⟨rfl, hb1⟩; replace HR := Lib.hid (HR.out.below hb1); replace HB := Lib.hid (HB.out.trans (hb1.mono HB.out.size)); clear hb1))
  go_ret
  exact ⟨rfl, HB.out⟩

set_option maxRecDepth 100000 in
set_option maxHeartbeats 8000000 in
theorem ord_zero_f (a c ac pc d : ByteArray) (p r : Rat) (Y S : Int) (w : World) (T0 : Hid (IsT a (p))) (T1 : Hid (IsT a (p))) (T2 : Hid (IsT c (r))) (T3 : Hid (IsT ac (p + r))) (T4 : Hid (IsT ac (p + r))) (T5 : Hid (IsT pc (p * r))) (T6 : Hid (IsT pc (p * r))) (T7 : Hid (IsT d (p + -p))) (K0 : Hid (cmpQ p p = 0)) (K1 : Hid (cmpQ p r = Y)) (K3 : Hid (cmpQ p p = 0)) (K4 : Hid (cmpQ (p + r) (p + r) = 0)) (K5 : Hid (cmpQ (p * r) (p * r) = 0)) (G0 : Hid (sgQ r = S)) (G1 : Hid (sgQ (p + -p) = 0)) (hY : -1 ≤ Y ∧ Y ≤ 1) (hS : -1 ≤ S ∧ S ≤ 1) (hy : ¬ Y ≤ 0) (HV : Hid (validL 300 [a, a, c] = true)) (hr : Res w) :
    Calls Tryz.prog 6 #[.string a, .string a, .string c] w fun e w' => e = .returned (.bool true) ∧ Below w.heap.size w w' := by
  have HR := Lib.hid hr
  have HB := Lib.hid (Below.refl w.heap.size w)
  have HI := Lib.hid (show a = if cmpQ p p > 0 then a else a by rw [K0.out]; rfl)
  have HX := Lib.hid (show a = if cmpQ p p < 0 then a else a by rw [K0.out]; rfl)
  clear hr
  have hy2 : decide (Y ≤ 0) = false := decide_eq_false hy
  obtain ⟨hY1, hY2⟩ := hY
  obtain ⟨hS1, hS2⟩ := hS
  go_enter Tryz.func6, Tryz.ntmps6
  go_wp2_with (first
    | (go_at_call 11; refine (lives_any _ HR.out).mono ?_; rintro e w1 ⟨rfl, hb1⟩; replace HR := Lib.hid (HR.out.below hb1); replace HB := Lib.hid (HB.out.trans (hb1.mono HB.out.size)); clear hb1)
    | (go_at_call 12; refine (valid3_any a a c 300 300 _ _ rfl (by omega) (Blk.new _ _ _)).mono ?_; rintro e w1 ⟨rfl, hb1⟩; rw [HV.out]; replace HR := Lib.hid ((HR.out.below (below_alloc (Below.refl _ _) _)).below hb1); replace HB := Lib.hid ((below_alloc HB.out _).trans (hb1.mono (below_alloc HB.out _).size)); clear hb1)
    | (go_at_call 32; refine (order_any _ (by first | exact T0.out | exact T1.out | exact T2.out | exact T3.out | exact T4.out | exact T5.out | exact T6.out | exact T7.out) (by first | exact T0.out | exact T1.out | exact T2.out | exact T3.out | exact T4.out | exact T5.out | exact T6.out | exact T7.out) (by first | exact K0.out | exact K1.out | exact K3.out | exact K4.out | exact K5.out) HR.out).mono ?_; rintro e w1 ⟨rfl, hb1⟩; replace HR := Lib.hid (HR.out.below hb1); replace HB := Lib.hid (HB.out.trans (hb1.mono HB.out.size)); clear hb1)
    | (go_at_call 28; refine (signT _ (by first | exact T0.out | exact T1.out | exact T2.out | exact T3.out | exact T4.out | exact T5.out | exact T6.out | exact T7.out) (by first | exact G0.out | exact G1.out) HR.out).mono ?_; rintro e w1 ⟨rfl, hb1⟩; replace HR := Lib.hid (HR.out.below hb1); replace HB := Lib.hid (HB.out.trans (hb1.mono HB.out.size)); clear hb1)
    | (go_at_call 33; refine (minT _ T0.out T1.out HI.out HR.out).mono ?_; rintro e w1 ⟨rfl, hb1⟩; replace HR := Lib.hid (HR.out.below hb1); replace HB := Lib.hid (HB.out.trans (hb1.mono HB.out.size)); clear hb1)
    | (go_at_call 34; refine (maxT _ T0.out T1.out HX.out HR.out).mono ?_; rintro e w1 ⟨rfl, hb1⟩; replace HR := Lib.hid (HR.out.below hb1); replace HB := Lib.hid (HB.out.trans (hb1.mono HB.out.size)); clear hb1)
    | (go_at_call 19; refine (subT _ (by first | exact T0.out | exact T1.out | exact T2.out | exact T3.out | exact T4.out | exact T5.out | exact T6.out | exact T7.out) (by first | exact T0.out | exact T1.out | exact T2.out | exact T3.out | exact T4.out | exact T5.out | exact T6.out | exact T7.out) (by first | exact T0.out | exact T1.out | exact T2.out | exact T3.out | exact T4.out | exact T5.out | exact T6.out | exact T7.out) HR.out).mono ?_; rintro e w1 ⟨rfl, hb1⟩; replace HR := Lib.hid (HR.out.below hb1); replace HB := Lib.hid (HB.out.trans (hb1.mono HB.out.size)); clear hb1)
    | (go_at_call 21; refine (sum_any _ (by first | exact T0.out | exact T1.out | exact T2.out | exact T3.out | exact T4.out | exact T5.out | exact T6.out | exact T7.out) (by first | exact T0.out | exact T1.out | exact T2.out | exact T3.out | exact T4.out | exact T5.out | exact T6.out | exact T7.out) (by first | exact T0.out | exact T1.out | exact T2.out | exact T3.out | exact T4.out | exact T5.out | exact T6.out | exact T7.out) HR.out).mono ?_; rintro e w1 ⟨rfl, hb1⟩; replace HR := Lib.hid (HR.out.below hb1); replace HB := Lib.hid (HB.out.trans (hb1.mono HB.out.size)); clear hb1)
    | (go_at_call 16; refine (product_any _ (by first | exact T0.out | exact T1.out | exact T2.out | exact T3.out | exact T4.out | exact T5.out | exact T6.out | exact T7.out) (by first | exact T0.out | exact T1.out | exact T2.out | exact T3.out | exact T4.out | exact T5.out | exact T6.out | exact T7.out) (by first | exact T0.out | exact T1.out | exact T2.out | exact T3.out | exact T4.out | exact T5.out | exact T6.out | exact T7.out) HR.out).mono ?_; rintro e w1 ⟨rfl, hb1⟩; replace HR := Lib.hid (HR.out.below hb1); replace HB := Lib.hid (HB.out.trans (hb1.mono HB.out.size)); clear hb1))
  go_ret
  exact ⟨rfl, HB.out⟩

set_option maxRecDepth 100000 in
set_option maxHeartbeats 8000000 in
theorem ord_zero_t (a c ac pc d : ByteArray) (p r : Rat) (Y S : Int) (w : World) (T0 : Hid (IsT a (p))) (T1 : Hid (IsT a (p))) (T2 : Hid (IsT c (r))) (T3 : Hid (IsT ac (p + r))) (T4 : Hid (IsT ac (p + r))) (T5 : Hid (IsT pc (p * r))) (T6 : Hid (IsT pc (p * r))) (T7 : Hid (IsT d (p + -p))) (K0 : Hid (cmpQ p p = 0)) (K1 : Hid (cmpQ p r = Y)) (K3 : Hid (cmpQ p p = 0)) (K4 : Hid (cmpQ (p + r) (p + r) = 0)) (K5 : Hid (cmpQ (p * r) (p * r) = 0)) (G0 : Hid (sgQ r = S)) (G1 : Hid (sgQ (p + -p) = 0)) (hY : -1 ≤ Y ∧ Y ≤ 1) (hS : -1 ≤ S ∧ S ≤ 1) (hy : Y ≤ 0) (hz : ¬ Y > 0) (HV : Hid (validL 300 [a, a, c] = true)) (hr : Res w) :
    Calls Tryz.prog 6 #[.string a, .string a, .string c] w fun e w' => e = .returned (.bool true) ∧ Below w.heap.size w w' := by
  have HR := Lib.hid hr
  have HB := Lib.hid (Below.refl w.heap.size w)
  have HI := Lib.hid (show a = if cmpQ p p > 0 then a else a by rw [K0.out]; rfl)
  have HX := Lib.hid (show a = if cmpQ p p < 0 then a else a by rw [K0.out]; rfl)
  clear hr
  have hy2 : decide (Y ≤ 0) = true := decide_eq_true hy
  have hz2 : decide (Y > 0) = false := decide_eq_false hz
  obtain ⟨hY1, hY2⟩ := hY
  obtain ⟨hS1, hS2⟩ := hS
  go_enter Tryz.func6, Tryz.ntmps6
  go_wp2_with (first
    | (go_at_call 11; refine (lives_any _ HR.out).mono ?_; rintro e w1 ⟨rfl, hb1⟩; replace HR := Lib.hid (HR.out.below hb1); replace HB := Lib.hid (HB.out.trans (hb1.mono HB.out.size)); clear hb1)
    | (go_at_call 12; refine (valid3_any a a c 300 300 _ _ rfl (by omega) (Blk.new _ _ _)).mono ?_; rintro e w1 ⟨rfl, hb1⟩; rw [HV.out]; replace HR := Lib.hid ((HR.out.below (below_alloc (Below.refl _ _) _)).below hb1); replace HB := Lib.hid ((below_alloc HB.out _).trans (hb1.mono (below_alloc HB.out _).size)); clear hb1)
    | (go_at_call 32; refine (order_any _ (by first | exact T0.out | exact T1.out | exact T2.out | exact T3.out | exact T4.out | exact T5.out | exact T6.out | exact T7.out) (by first | exact T0.out | exact T1.out | exact T2.out | exact T3.out | exact T4.out | exact T5.out | exact T6.out | exact T7.out) (by first | exact K0.out | exact K1.out | exact K3.out | exact K4.out | exact K5.out) HR.out).mono ?_; rintro e w1 ⟨rfl, hb1⟩; replace HR := Lib.hid (HR.out.below hb1); replace HB := Lib.hid (HB.out.trans (hb1.mono HB.out.size)); clear hb1)
    | (go_at_call 28; refine (signT _ (by first | exact T0.out | exact T1.out | exact T2.out | exact T3.out | exact T4.out | exact T5.out | exact T6.out | exact T7.out) (by first | exact G0.out | exact G1.out) HR.out).mono ?_; rintro e w1 ⟨rfl, hb1⟩; replace HR := Lib.hid (HR.out.below hb1); replace HB := Lib.hid (HB.out.trans (hb1.mono HB.out.size)); clear hb1)
    | (go_at_call 33; refine (minT _ T0.out T1.out HI.out HR.out).mono ?_; rintro e w1 ⟨rfl, hb1⟩; replace HR := Lib.hid (HR.out.below hb1); replace HB := Lib.hid (HB.out.trans (hb1.mono HB.out.size)); clear hb1)
    | (go_at_call 34; refine (maxT _ T0.out T1.out HX.out HR.out).mono ?_; rintro e w1 ⟨rfl, hb1⟩; replace HR := Lib.hid (HR.out.below hb1); replace HB := Lib.hid (HB.out.trans (hb1.mono HB.out.size)); clear hb1)
    | (go_at_call 19; refine (subT _ (by first | exact T0.out | exact T1.out | exact T2.out | exact T3.out | exact T4.out | exact T5.out | exact T6.out | exact T7.out) (by first | exact T0.out | exact T1.out | exact T2.out | exact T3.out | exact T4.out | exact T5.out | exact T6.out | exact T7.out) (by first | exact T0.out | exact T1.out | exact T2.out | exact T3.out | exact T4.out | exact T5.out | exact T6.out | exact T7.out) HR.out).mono ?_; rintro e w1 ⟨rfl, hb1⟩; replace HR := Lib.hid (HR.out.below hb1); replace HB := Lib.hid (HB.out.trans (hb1.mono HB.out.size)); clear hb1)
    | (go_at_call 21; refine (sum_any _ (by first | exact T0.out | exact T1.out | exact T2.out | exact T3.out | exact T4.out | exact T5.out | exact T6.out | exact T7.out) (by first | exact T0.out | exact T1.out | exact T2.out | exact T3.out | exact T4.out | exact T5.out | exact T6.out | exact T7.out) (by first | exact T0.out | exact T1.out | exact T2.out | exact T3.out | exact T4.out | exact T5.out | exact T6.out | exact T7.out) HR.out).mono ?_; rintro e w1 ⟨rfl, hb1⟩; replace HR := Lib.hid (HR.out.below hb1); replace HB := Lib.hid (HB.out.trans (hb1.mono HB.out.size)); clear hb1)
    | (go_at_call 16; refine (product_any _ (by first | exact T0.out | exact T1.out | exact T2.out | exact T3.out | exact T4.out | exact T5.out | exact T6.out | exact T7.out) (by first | exact T0.out | exact T1.out | exact T2.out | exact T3.out | exact T4.out | exact T5.out | exact T6.out | exact T7.out) (by first | exact T0.out | exact T1.out | exact T2.out | exact T3.out | exact T4.out | exact T5.out | exact T6.out | exact T7.out) HR.out).mono ?_; rintro e w1 ⟨rfl, hb1⟩; replace HR := Lib.hid (HR.out.below hb1); replace HB := Lib.hid (HB.out.trans (hb1.mono HB.out.size)); clear hb1))
  go_ret
  exact ⟨rfl, HB.out⟩

/-! ### the plain law -/
theorem cmpQ_sub (p q : Rat) : sgQ (p + -q) = cmpQ p q := by
  rw [sgQ_num, ← Rat.sub_eq_add_neg]
  unfold cmpQ
  have h1 : p < q ↔ (p - q).num < 0 := by
    rw [← Rat.not_le, ← Int.not_le, Rat.num_nonneg, ← Rat.le_iff_sub_nonneg]
  have h2 : p = q ↔ (p - q).num = 0 := by
    rw [Rat.num_eq_zero]
    constructor
    · rintro rfl; exact Rat.sub_self
    · intro h
      have := congrArg (· + q) h
      simpa [Rat.sub_add_cancel, Rat.zero_add] using this
  by_cases h : p < q
  · rw [if_pos h, if_pos (h1.1 h)]
  · rw [if_neg h, if_neg (fun x => h (h1.2 x))]
    by_cases h' : p = q
    · rw [if_pos h', if_pos (h2.1 h')]
    · rw [if_neg h', if_neg (fun x => h' (h2.2 x))]
theorem cmpQ_congr {p q p' q' : Rat} (h1 : p < q ↔ p' < q') (h2 : p = q ↔ p' = q') : cmpQ p q = cmpQ p' q' := by
  unfold cmpQ
  by_cases h : p < q
  · rw [if_pos h, if_pos (h1.1 h)]
  · rw [if_neg h, if_neg (fun x => h (h1.2 x))]
    by_cases h' : p = q
    · rw [if_pos h', if_pos (h2.1 h')]
    · rw [if_neg h', if_neg (fun x => h' (h2.2 x))]
theorem cmpQ_add (p q r : Rat) : cmpQ (p + r) (q + r) = cmpQ p q := by
  rw [← cmpQ_sub, ← cmpQ_sub]
  congr 1
  rw [Rat.neg_add, Rat.add_assoc, Rat.add_comm (-q), ← Rat.add_assoc r, Rat.add_neg_cancel, Rat.zero_add]
theorem sgQ_mul (p q : Rat) : sgQ (p * q) = sgQ p * sgQ q := by
  have hd : p.den * q.den ≠ 0 := Nat.ne_of_gt (Nat.mul_pos (den_pos p) (den_pos q))
  have hz : nm (p * q) = 0 ↔ nm p = 0 ∨ nm q = 0 := by rw [nm_zero, nm_zero, nm_zero, Rat.mul_eq_zero]
  have hn : ng (p * q) = ((ng p != ng q) && decide (nm p * nm q ≠ 0)) := by rw [mul_parts, mkQ_ng hd]
  unfold sgQ
  by_cases h1 : nm p = 0
  · rw [if_pos (hz.2 (.inl h1)), if_pos h1, Int.zero_mul]
  · by_cases h2 : nm q = 0
    · rw [if_pos (hz.2 (.inr h2)), if_pos h2, Int.mul_zero]
    · rw [if_neg (fun h => (hz.1 h).elim h1 h2), if_neg h1, if_neg h2, hn, decide_eq_true (Nat.mul_ne_zero h1 h2), Bool.and_true]
      cases ng p <;> cases ng q <;> rfl
theorem cmpQ_mul (p q r : Rat) : cmpQ (p * r) (q * r) = cmpQ p q * sgQ r := by
  rw [← cmpQ_sub, ← cmpQ_sub, ← sgQ_mul]
  congr 1
  rw [Rat.add_mul, Rat.neg_mul]
theorem cmpQ_trans {p q r : Rat} (h1 : cmpQ p q ≤ 0) (h2 : cmpQ q r ≤ 0) : ¬ cmpQ p r > 0 := by
  have := (cmpQ_le p r).2 (Rat.le_trans ((cmpQ_le p q).1 h1) ((cmpQ_le q r).1 h2))
  omega
theorem cmpQ_bound (p q : Rat) : -1 ≤ cmpQ p q ∧ cmpQ p q ≤ 1 := by
  rcases cmpQ_cases p q with h | h | h <;> rw [h] <;> decide

set_option maxRecDepth 100000 in
set_option maxHeartbeats 2000000 in
theorem ratOrder_any (a b c : ByteArray) (w : World) (hr : Res w) :
    Calls Tryz.prog 6 #[.string a, .string b, .string c] w fun e w' => e = .returned (.bool true) ∧ Below w.heap.size w w' := by
  by_cases hv : validL 300 [a, b, c] = true
  · have HV := Lib.hid hv
    have hv2 := List.all_eq_true.1 hv
    have get : ∀ s ∈ [a, b, c], IsT s (valQ s.data.toList) ∧ Sz 300 (valQ s.data.toList) := fun s hs => by
      have := hv2 s hs
      rw [Bool.and_eq_true] at this
      exact ⟨IsT.of (beq_iff_eq.1 this.2), sz_of_text (beq_iff_eq.1 this.2) (by rw [← size_list]; exact of_decide_eq_true this.1)⟩
    obtain ⟨ha, sa⟩ := get a (by simp)
    obtain ⟨hb, sb⟩ := get b (by simp)
    obtain ⟨hc, sc⟩ := get c (by simp)
    generalize valQ a.data.toList = p at ha sa
    generalize valQ b.data.toList = q at hb sb
    generalize valQ c.data.toList = r at hc sc
    clear hv hv2 get
    have i_ac : IsT ⟨(ratText (p + r)).toArray⟩ (p + r) := IsT.mk ((sa.add sc).mono (by decide))
    have i_bc : IsT ⟨(ratText (q + r)).toArray⟩ (q + r) := IsT.mk ((sb.add sc).mono (by decide))
    have i_pc : IsT ⟨(ratText (p * r)).toArray⟩ (p * r) := IsT.mk ((sa.mul sc).mono (by decide))
    have i_qc : IsT ⟨(ratText (q * r)).toArray⟩ (q * r) := IsT.mk ((sb.mul sc).mono (by decide))
    have i_d : IsT ⟨(ratText (p + -q)).toArray⟩ (p + -q) := IsT.mk ((sa.add sb.neg).mono (by decide))
    have hne : p ≠ q → (a.toList == b.toList) = false ∧ (b.toList == a.toList) = false := fun h => ⟨ne_toList ha hb h, ne_toList hb ha (Ne.symm h)⟩
    rcases cmpQ_cases p q with hX | hX | hX
    · obtain ⟨n1, n2⟩ := hne (fun e => by rw [(cmpQ_zero p q).2 e] at hX; cases hX)
      by_cases hy : cmpQ q r ≤ 0
      · exact ord_neg_t a b c _ _ _ _ _ p q r _ _ _ w (Lib.hid ha) (Lib.hid hb) (Lib.hid hc) (Lib.hid i_ac) (Lib.hid i_bc) (Lib.hid i_pc) (Lib.hid i_qc) (Lib.hid i_d) (Lib.hid hX) (Lib.hid rfl) (Lib.hid rfl) (Lib.hid (show cmpQ q p = 1 by rw [cmpQ_swap, hX] <;> rfl)) (Lib.hid (show _ = (-1) by rw [cmpQ_add, hX])) (Lib.hid (show _ = -(sgQ r) by rw [cmpQ_mul, hX] <;> omega)) (Lib.hid rfl) (Lib.hid (show _ = (-1) by rw [cmpQ_sub, hX])) n1 n2 (cmpQ_bound q r) (cmpQ_bound p r) (sgQ_bound r) hy (cmpQ_trans (by omega) hy) HV hr
      · exact ord_neg_f a b c _ _ _ _ _ p q r _ _ _ w (Lib.hid ha) (Lib.hid hb) (Lib.hid hc) (Lib.hid i_ac) (Lib.hid i_bc) (Lib.hid i_pc) (Lib.hid i_qc) (Lib.hid i_d) (Lib.hid hX) (Lib.hid rfl) (Lib.hid rfl) (Lib.hid (show cmpQ q p = 1 by rw [cmpQ_swap, hX] <;> rfl)) (Lib.hid (show _ = (-1) by rw [cmpQ_add, hX])) (Lib.hid (show _ = -(sgQ r) by rw [cmpQ_mul, hX] <;> omega)) (Lib.hid rfl) (Lib.hid (show _ = (-1) by rw [cmpQ_sub, hX])) n1 n2 (cmpQ_bound q r) (cmpQ_bound p r) (sgQ_bound r) hy HV hr
    · have hpq := (cmpQ_zero p q).1 hX
      subst hpq
      obtain rfl := hb.eq ha
      by_cases hy : cmpQ p r ≤ 0
      · exact ord_zero_t _ c _ _ _ p r _ _ w (Lib.hid ha) (Lib.hid ha) (Lib.hid hc) (Lib.hid i_ac) (Lib.hid i_ac) (Lib.hid i_pc) (Lib.hid i_pc) (Lib.hid i_d) (Lib.hid hX) (Lib.hid rfl) (Lib.hid hX) (Lib.hid (cmpQ_self _)) (Lib.hid (cmpQ_self _)) (Lib.hid rfl) (Lib.hid (show _ = 0 by rw [cmpQ_sub, hX])) (cmpQ_bound p r) (sgQ_bound r) hy (cmpQ_trans (by omega) hy) HV hr
      · exact ord_zero_f _ c _ _ _ p r _ _ w (Lib.hid ha) (Lib.hid ha) (Lib.hid hc) (Lib.hid i_ac) (Lib.hid i_ac) (Lib.hid i_pc) (Lib.hid i_pc) (Lib.hid i_d) (Lib.hid hX) (Lib.hid rfl) (Lib.hid hX) (Lib.hid (cmpQ_self _)) (Lib.hid (cmpQ_self _)) (Lib.hid rfl) (Lib.hid (show _ = 0 by rw [cmpQ_sub, hX])) (cmpQ_bound p r) (sgQ_bound r) hy HV hr
    · obtain ⟨n1, n2⟩ := hne (fun e => by rw [(cmpQ_zero p q).2 e] at hX; cases hX)
      exact ord_pos a b c _ _ _ _ _ p q r _ _ _ w (Lib.hid ha) (Lib.hid hb) (Lib.hid hc) (Lib.hid i_ac) (Lib.hid i_bc) (Lib.hid i_pc) (Lib.hid i_qc) (Lib.hid i_d) (Lib.hid hX) (Lib.hid rfl) (Lib.hid rfl) (Lib.hid (show cmpQ q p = (-1) by rw [cmpQ_swap, hX] <;> rfl)) (Lib.hid (show _ = 1 by rw [cmpQ_add, hX])) (Lib.hid (show _ = (sgQ r) by rw [cmpQ_mul, hX] <;> omega)) (Lib.hid rfl) (Lib.hid (show _ = 1 by rw [cmpQ_sub, hX])) n1 n2 (cmpQ_bound q r) (cmpQ_bound p r) (sgQ_bound r) HV hr
  · have hv : validL 300 [a, b, c] = false := by simpa using hv
    have HV := Lib.hid hv
    have HR := Lib.hid hr
    have HB := Lib.hid (Below.refl w.heap.size w)
    clear hv hr
    go_enter Tryz.func6, Tryz.ntmps6
    go_wp2_with (first
    | (go_at_call 11; refine (lives_any _ HR.out).mono ?_; rintro e w1 ⟨rfl, hb1⟩; replace HR := Lib.hid (HR.out.below hb1); replace HB := Lib.hid (HB.out.trans (hb1.mono HB.out.size)); clear hb1)
    | (go_at_call 12; refine (valid3_any a b c 300 300 _ _ rfl (by omega) (Blk.new _ _ _)).mono ?_; rintro e w1 ⟨rfl, hb1⟩; rw [HV.out]; replace HR := Lib.hid ((HR.out.below (below_alloc (Below.refl _ _) _)).below hb1); replace HB := Lib.hid ((below_alloc HB.out _).trans (hb1.mono (below_alloc HB.out _).size)); clear hb1))
    go_ret
    exact ⟨rfl, HB.out⟩
end Go.Proofs.YtjoifmnolmimkaaGreatDoor
namespace Go.Proofs.YtjoifmnolmimkaaGreatDoor
open Go.RowKit Go.Shelf
open Lim

set_option maxRecDepth 100000 in
set_option maxHeartbeats 8000000 in
theorem rounds_int (a mi dn f1 : ByteArray) (p : Rat) (w : World) (T0 : Hid (IsT a (p))) (T1 : Hid (IsT a ((p.floor : Rat)))) (T2 : Hid (IsT a ((p.ceil : Rat)))) (T3 : Hid (IsT mi (-p))) (T4 : Hid (IsT dn (((-p).floor : Rat)))) (T5 : Hid (IsT f1 ((p.floor : Rat) + 1))) (T6 : Hid (IsT ⟨#[49]⟩ (1))) (R0 : Hid (IsT a (-((-p).floor : Rat)))) (HD : Hid (denT (p.floor : Rat) = ⟨#[49]⟩)) (K0 : Hid (cmpQ (p.floor : Rat) p = 0)) (K1 : Hid (cmpQ p ((p.floor : Rat) + 1) = -1)) (HV : Hid ((decide (a.size ≤ 1000) && (errQ a.data.toList == 0)) = true)) (hr : Res w) :
    Calls Tryz.prog 7 #[.string a] w fun e w' => e = .returned (.bool true) ∧ Below w.heap.size w w' := by
  have HR := Lib.hid hr
  have HB := Lib.hid (Below.refl w.heap.size w)
  have TK1 : True := trivial
  have TK2 : True := trivial
  have TK3 : True := trivial
  clear hr
  go_enter Tryz.func7, Tryz.ntmps7
  go_wp2_with (first
    | (go_at_call 11; refine (lives_any _ HR.out).mono ?_; rintro e w1 ⟨rfl, hb1⟩; replace HR := Lib.hid (HR.out.below hb1); replace HB := Lib.hid (HB.out.trans (hb1.mono HB.out.size)); clear hb1)
    | (go_at_call 12; refine (valid1_any a 1000 1000 _ _ rfl (by omega) (Blk.new _ _ _)).mono ?_; rintro e w1 ⟨rfl, hb1⟩; rw [HV.out]; replace HR := Lib.hid ((HR.out.below (below_alloc (Below.refl _ _) _)).below hb1); replace HB := Lib.hid ((below_alloc HB.out _).trans (hb1.mono (below_alloc HB.out _).size)); clear hb1)
    | (clear TK1; go_at_call 35; refine (floorT _ T0.out T1.out HR.out).mono ?_; rintro e w1 ⟨rfl, hb1⟩; replace HR := Lib.hid (HR.out.below hb1); replace HB := Lib.hid (HB.out.trans (hb1.mono HB.out.size)); clear hb1)
    | (go_at_call 36; refine (ceilT _ T0.out T2.out HR.out).mono ?_; rintro e w1 ⟨rfl, hb1⟩; replace HR := Lib.hid (HR.out.below hb1); replace HB := Lib.hid (HB.out.trans (hb1.mono HB.out.size)); clear hb1)
    | (clear TK2; go_at_call 20; refine (negT _ T0.out T3.out HR.out).mono ?_; rintro e w1 ⟨rfl, hb1⟩; replace HR := Lib.hid (HR.out.below hb1); replace HB := Lib.hid (HB.out.trans (hb1.mono HB.out.size)); clear hb1)
    | (go_at_call 35; refine (floorT _ T3.out T4.out HR.out).mono ?_; rintro e w1 ⟨rfl, hb1⟩; replace HR := Lib.hid (HR.out.below hb1); replace HB := Lib.hid (HB.out.trans (hb1.mono HB.out.size)); clear hb1)
    | (go_at_call 20; refine (negT _ T4.out R0.out HR.out).mono ?_; rintro e w1 ⟨rfl, hb1⟩; replace HR := Lib.hid (HR.out.below hb1); replace HB := Lib.hid (HB.out.trans (hb1.mono HB.out.size)); clear hb1)
    | (go_at_call 25; refine (partsT _ T1.out HR.out).mono ?_; rintro e w1 ⟨rfl, hb1⟩; rw [HD.out]; replace HR := Lib.hid (HR.out.below hb1); replace HB := Lib.hid (HB.out.trans (hb1.mono HB.out.size)); clear hb1)
    | (clear TK3; go_at_call 32; refine (order_any _ T1.out T0.out K0.out HR.out).mono ?_; rintro e w1 ⟨rfl, hb1⟩; replace HR := Lib.hid (HR.out.below hb1); replace HB := Lib.hid (HB.out.trans (hb1.mono HB.out.size)); clear hb1)
    | (go_at_call 21; refine (sum_any _ T1.out T6.out T5.out HR.out).mono ?_; rintro e w1 ⟨rfl, hb1⟩; replace HR := Lib.hid (HR.out.below hb1); replace HB := Lib.hid (HB.out.trans (hb1.mono HB.out.size)); clear hb1)
    | (go_at_call 32; refine (order_any _ T0.out T5.out K1.out HR.out).mono ?_; rintro e w1 ⟨rfl, hb1⟩; replace HR := Lib.hid (HR.out.below hb1); replace HB := Lib.hid (HB.out.trans (hb1.mono HB.out.size)); clear hb1))
  go_ret
  exact ⟨rfl, HB.out⟩

set_option maxRecDepth 100000 in
set_option maxHeartbeats 8000000 in
theorem rounds_not (a f c mi dn f1 : ByteArray) (p : Rat) (w : World) (T0 : Hid (IsT a (p))) (T1 : Hid (IsT f ((p.floor : Rat)))) (T2 : Hid (IsT c ((p.ceil : Rat)))) (T3 : Hid (IsT mi (-p))) (T4 : Hid (IsT dn (((-p).floor : Rat)))) (T5 : Hid (IsT f1 ((p.floor : Rat) + 1))) (T6 : Hid (IsT ⟨#[49]⟩ (1))) (R0 : Hid (IsT c (-((-p).floor : Rat)))) (HD : Hid (denT (p.floor : Rat) = ⟨#[49]⟩)) (K0 : Hid (cmpQ (p.floor : Rat) p = (-1))) (K1 : Hid (cmpQ p ((p.floor : Rat) + 1) = -1)) (n1 : (f.toList == c.toList) = false) (n2 : (f.toList == a.toList) = false) (HV : Hid ((decide (a.size ≤ 1000) && (errQ a.data.toList == 0)) = true)) (hr : Res w) :
    Calls Tryz.prog 7 #[.string a] w fun e w' => e = .returned (.bool true) ∧ Below w.heap.size w w' := by
  have HR := Lib.hid hr
  have HB := Lib.hid (Below.refl w.heap.size w)
  have TK1 : True := trivial
  have TK2 : True := trivial
  have TK3 : True := trivial
  clear hr
  go_enter Tryz.func7, Tryz.ntmps7
  go_wp2_with (first
    | (go_at_call 11; refine (lives_any _ HR.out).mono ?_; rintro e w1 ⟨rfl, hb1⟩; replace HR := Lib.hid (HR.out.below hb1); replace HB := Lib.hid (HB.out.trans (hb1.mono HB.out.size)); clear hb1)
    | (go_at_call 12; refine (valid1_any a 1000 1000 _ _ rfl (by omega) (Blk.new _ _ _)).mono ?_; rintro e w1 ⟨rfl, hb1⟩; rw [HV.out]; replace HR := Lib.hid ((HR.out.below (below_alloc (Below.refl _ _) _)).below hb1); replace HB := Lib.hid ((below_alloc HB.out _).trans (hb1.mono (below_alloc HB.out _).size)); clear hb1)
    | (clear TK1; go_at_call 35; refine (floorT _ T0.out T1.out HR.out).mono ?_; rintro e w1 ⟨rfl, hb1⟩; replace HR := Lib.hid (HR.out.below hb1); replace HB := Lib.hid (HB.out.trans (hb1.mono HB.out.size)); clear hb1)
    | (go_at_call 36; refine (ceilT _ T0.out T2.out HR.out).mono ?_; rintro e w1 ⟨rfl, hb1⟩; replace HR := Lib.hid (HR.out.below hb1); replace HB := Lib.hid (HB.out.trans (hb1.mono HB.out.size)); clear hb1)
    | (clear TK2; go_at_call 20; refine (negT _ T0.out T3.out HR.out).mono ?_; rintro e w1 ⟨rfl, hb1⟩; replace HR := Lib.hid (HR.out.below hb1); replace HB := Lib.hid (HB.out.trans (hb1.mono HB.out.size)); clear hb1)
    | (go_at_call 35; refine (floorT _ T3.out T4.out HR.out).mono ?_; rintro e w1 ⟨rfl, hb1⟩; replace HR := Lib.hid (HR.out.below hb1); replace HB := Lib.hid (HB.out.trans (hb1.mono HB.out.size)); clear hb1)
    | (go_at_call 20; refine (negT _ T4.out R0.out HR.out).mono ?_; rintro e w1 ⟨rfl, hb1⟩; replace HR := Lib.hid (HR.out.below hb1); replace HB := Lib.hid (HB.out.trans (hb1.mono HB.out.size)); clear hb1)
    | (go_at_call 25; refine (partsT _ T1.out HR.out).mono ?_; rintro e w1 ⟨rfl, hb1⟩; rw [HD.out]; replace HR := Lib.hid (HR.out.below hb1); replace HB := Lib.hid (HB.out.trans (hb1.mono HB.out.size)); clear hb1)
    | (clear TK3; go_at_call 32; refine (order_any _ T1.out T0.out K0.out HR.out).mono ?_; rintro e w1 ⟨rfl, hb1⟩; replace HR := Lib.hid (HR.out.below hb1); replace HB := Lib.hid (HB.out.trans (hb1.mono HB.out.size)); clear hb1)
    | (go_at_call 21; refine (sum_any _ T1.out T6.out T5.out HR.out).mono ?_; rintro e w1 ⟨rfl, hb1⟩; replace HR := Lib.hid (HR.out.below hb1); replace HB := Lib.hid (HB.out.trans (hb1.mono HB.out.size)); clear hb1)
    | (go_at_call 32; refine (order_any _ T0.out T5.out K1.out HR.out).mono ?_; rintro e w1 ⟨rfl, hb1⟩; replace HR := Lib.hid (HR.out.below hb1); replace HB := Lib.hid (HB.out.trans (hb1.mono HB.out.size)); clear hb1))
  go_ret
  exact ⟨rfl, HB.out⟩

theorem floor_cmp_one (p : Rat) : cmpQ p ((p.floor : Rat) + 1) = -1 := by
  have h := Rat.lt_floor_add_one p
  rw [Rat.intCast_add, show ((1 : Int) : Rat) = 1 from rfl] at h
  unfold cmpQ
  rw [if_pos h]
set_option maxRecDepth 100000 in
set_option maxHeartbeats 2000000 in
theorem ratRounds_any (a : ByteArray) (w : World) (hr : Res w) :
    Calls Tryz.prog 7 #[.string a] w fun e w' => e = .returned (.bool true) ∧ Below w.heap.size w w' := by
  by_cases hv : (decide (a.size ≤ 1000) && (errQ a.data.toList == 0)) = true
  · have HV := Lib.hid hv
    rw [Bool.and_eq_true] at hv
    have hs := of_decide_eq_true hv.1
    have ha := IsT.of (beq_iff_eq.1 hv.2)
    have sa := sz_of_text (beq_iff_eq.1 hv.2) (k := 1000) (by rw [← size_list]; exact hs)
    generalize valQ a.data.toList = p at ha sa
    clear hv hs
    have hd : ∀ z : Int, denT (z : Rat) = ⟨#[49]⟩ := fun z => by unfold denT; rw [Rat.den_intCast, dec_one]
    have i_fl : IsT ⟨(ratText (p.floor : Rat)).toArray⟩ (p.floor : Rat) := IsT.mk ((sz_floor sa).mono (by decide))
    have i_ce : IsT ⟨(ratText (p.ceil : Rat)).toArray⟩ (p.ceil : Rat) := IsT.mk ((sz_ceil sa).mono (by decide))
    have i_mi : IsT ⟨(ratText (-p)).toArray⟩ (-p) := IsT.mk (sa.neg.mono (by decide))
    have i_dn : IsT ⟨(ratText ((-p).floor : Rat)).toArray⟩ ((-p).floor : Rat) := IsT.mk ((sz_floor sa.neg).mono (by decide))
    have i_f1 : IsT ⟨(ratText ((p.floor : Rat) + 1)).toArray⟩ ((p.floor : Rat) + 1) := IsT.mk (((sz_floor sa).add Sz.one).mono (by decide))
    have hce : -((-p).floor : Rat) = (p.ceil : Rat) := by rw [Rat.ceil_eq_neg_floor_neg, Rat.intCast_neg]
    by_cases hp : (p.floor : Rat) = p
    · have hc : (p.ceil : Rat) = p := by
        rw [← hp, Rat.ceil_intCast]
      exact rounds_int a _ _ _ p w (Lib.hid ha) (Lib.hid (by rw [hp]; exact ha)) (Lib.hid (by rw [hc]; exact ha)) (Lib.hid i_mi) (Lib.hid i_dn) (Lib.hid i_f1) (Lib.hid IsT.one) (Lib.hid (by rw [hce, hc]; exact ha)) (Lib.hid (hd _)) (Lib.hid (by rw [hp]; exact cmpQ_self p)) (Lib.hid (floor_cmp_one p)) HV hr
    · have hlt : (p.floor : Rat) < p := Rat.lt_of_le_of_ne (Rat.floor_le p) hp
      have hc : (p.floor : Rat) ≠ (p.ceil : Rat) := fun e => by
        have h1 : p ≤ (p.ceil : Rat) := by
          have := Rat.ceil_le_iff (x := p) (y := p.ceil)
          exact this.1 (Int.le_refl _)
        rw [← e] at h1
        exact Rat.not_le.2 hlt h1
      exact rounds_not a _ _ _ _ _ p w (Lib.hid ha) (Lib.hid i_fl) (Lib.hid i_ce) (Lib.hid i_mi) (Lib.hid i_dn) (Lib.hid i_f1) (Lib.hid IsT.one) (Lib.hid (by rw [hce]; exact i_ce)) (Lib.hid (hd _)) (Lib.hid (by unfold cmpQ; rw [if_pos hlt])) (Lib.hid (floor_cmp_one p))
        (ne_toList i_fl i_ce hc) (ne_toList i_fl ha hp) HV hr
  · have hv : (decide (a.size ≤ 1000) && (errQ a.data.toList == 0)) = false := by simpa using hv
    have HV := Lib.hid hv
    have HR := Lib.hid hr
    have HB := Lib.hid (Below.refl w.heap.size w)
    clear hv hr
    go_enter Tryz.func7, Tryz.ntmps7
    go_wp2_with (first
    | (go_at_call 11; refine (lives_any _ HR.out).mono ?_; rintro e w1 ⟨rfl, hb1⟩; replace HR := Lib.hid (HR.out.below hb1); replace HB := Lib.hid (HB.out.trans (hb1.mono HB.out.size)); clear hb1)
    | (go_at_call 12; refine (valid1_any a 1000 1000 _ _ rfl (by omega) (Blk.new _ _ _)).mono ?_; rintro e w1 ⟨rfl, hb1⟩; rw [HV.out]; replace HR := Lib.hid ((HR.out.below (below_alloc (Below.refl _ _) _)).below hb1); replace HB := Lib.hid ((below_alloc HB.out _).trans (hb1.mono (below_alloc HB.out _).size)); clear hb1))
    go_ret
    exact ⟨rfl, HB.out⟩
end Go.Proofs.YtjoifmnolmimkaaGreatDoor
