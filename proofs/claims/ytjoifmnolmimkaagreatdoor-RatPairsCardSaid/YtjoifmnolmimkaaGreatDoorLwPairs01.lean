/- RatPairs: the walk (printed by mkpairs.py). -/
import Derived.Test.YtjoifmnolmimkaaGreatDoorRb20
import Derived.Test.YtjoifmnolmimkaaGreatDoorRb19
import Derived.Test.YtjoifmnolmimkaaGreatDoorRb15
namespace Go.Proofs.YtjoifmnolmimkaaGreatDoor
open Go.RowKit Go.Shelf
open Lim

set_option maxRecDepth 100000 in
set_option maxHeartbeats 8000000 in
theorem pairs_walk (a b s1 s2 s3 s4 s5 s6 s7 : ByteArray) (k1 k2 k3 k4 k5 k6 k7 k8 x : Int) (w : World) 
    (PAdd : Hid (∀ w, Res w → Calls Tryz.prog 17 #[.string a, .string b] w fun e w' => e = .returned (.tuple #[.string s1, .int .i64 k1]) ∧ Below w.heap.size w w')) (QAdd : Hid (∀ w, Calls Tryz.prog 38 #[.string a, .string b] w fun e w' => e = .returned (.tuple #[.string s1, .int .i64 k1]) ∧ Below w.heap.size w w'))
    (PSub : Hid (∀ w, Res w → Calls Tryz.prog 19 #[.string a, .string b] w fun e w' => e = .returned (.tuple #[.string s2, .int .i64 k2]) ∧ Below w.heap.size w w')) (QSub : Hid (∀ w, Calls Tryz.prog 39 #[.string a, .string b] w fun e w' => e = .returned (.tuple #[.string s2, .int .i64 k2]) ∧ Below w.heap.size w w'))
    (PMul : Hid (∀ w, Res w → Calls Tryz.prog 18 #[.string a, .string b] w fun e w' => e = .returned (.tuple #[.string s3, .int .i64 k3]) ∧ Below w.heap.size w w')) (QMul : Hid (∀ w, Calls Tryz.prog 40 #[.string a, .string b] w fun e w' => e = .returned (.tuple #[.string s3, .int .i64 k3]) ∧ Below w.heap.size w w'))
    (PDiv : Hid (∀ w, Res w → Calls Tryz.prog 22 #[.string a, .string b] w fun e w' => e = .returned (.tuple #[.string s4, .int .i64 k4]) ∧ Below w.heap.size w w')) (QDiv : Hid (∀ w, Calls Tryz.prog 41 #[.string a, .string b] w fun e w' => e = .returned (.tuple #[.string s4, .int .i64 k4]) ∧ Below w.heap.size w w'))
    (PMin : Hid (∀ w, Res w → Calls Tryz.prog 33 #[.string a, .string b] w fun e w' => e = .returned (.tuple #[.string s5, .int .i64 k5]) ∧ Below w.heap.size w w')) (QMin : Hid (∀ w, Calls Tryz.prog 43 #[.string a, .string b] w fun e w' => e = .returned (.tuple #[.string s5, .int .i64 k5]) ∧ Below w.heap.size w w'))
    (PMax : Hid (∀ w, Res w → Calls Tryz.prog 34 #[.string a, .string b] w fun e w' => e = .returned (.tuple #[.string s6, .int .i64 k6]) ∧ Below w.heap.size w w')) (QMax : Hid (∀ w, Calls Tryz.prog 44 #[.string a, .string b] w fun e w' => e = .returned (.tuple #[.string s6, .int .i64 k6]) ∧ Below w.heap.size w w'))
    (PMake : Hid (∀ w, Res w → Calls Tryz.prog 26 #[.string a, .string b] w fun e w' => e = .returned (.tuple #[.string s7, .int .i64 k7]) ∧ Below w.heap.size w w')) (QMake : Hid (∀ w, Calls Tryz.prog 45 #[.string a, .string b] w fun e w' => e = .returned (.tuple #[.string s7, .int .i64 k7]) ∧ Below w.heap.size w w'))
    (PCmp : Hid (∀ w, Res w → Calls Tryz.prog 46 #[.string a, .string b] w fun e w' => e = .returned (.tuple #[.int .i64 x, .int .i64 k8]) ∧ Below w.heap.size w w')) (QCmp : Hid (∀ w, Calls Tryz.prog 47 #[.string a, .string b] w fun e w' => e = .returned (.tuple #[.int .i64 x, .int .i64 k8]) ∧ Below w.heap.size w w')) (HV : Hid (lightL 4100 [a, b] = true)) (hr : Res w) :
    Calls Tryz.prog 8 #[.string a, .string b] w fun e w' => e = .returned (.bool true) ∧ Below w.heap.size w w' := by
  have HR := Lib.hid hr
  have HB := Lib.hid (Below.refl w.heap.size w)
  clear hr
  go_enter Tryz.func8, Tryz.ntmps8
  go_wp2_with (first
    | (go_at_call 11; refine (lives_any _ HR.out).mono ?_; rintro e w1 ⟨rfl, hb1⟩; replace HR := Lib.hid (HR.out.below hb1); replace HB := Lib.hid (HB.out.trans (hb1.mono HB.out.size)); clear hb1)
    | (go_at_call 37; refine (light2_any a b 4100 4100 _ _ rfl (by omega) (Blk.new _ _ _)).mono ?_; rintro e w1 ⟨rfl, hb1⟩; rw [HV.out]; replace HR := Lib.hid ((HR.out.below (below_alloc (Below.refl _ _) _)).below hb1); replace HB := Lib.hid ((below_alloc HB.out _).trans (hb1.mono (below_alloc HB.out _).size)); clear hb1)
    | (go_at_call 17; refine (PAdd.out _ HR.out).mono ?_; rintro e w1 ⟨rfl, hb1⟩; replace HR := Lib.hid (HR.out.below hb1); replace HB := Lib.hid (HB.out.trans (hb1.mono HB.out.size)); clear hb1)
    | (go_at_call 38; refine (QAdd.out _).mono ?_; rintro e w1 ⟨rfl, hb1⟩; replace HR := Lib.hid (HR.out.below hb1); replace HB := Lib.hid (HB.out.trans (hb1.mono HB.out.size)); clear hb1)
    | (go_at_call 19; refine (PSub.out _ HR.out).mono ?_; rintro e w1 ⟨rfl, hb1⟩; replace HR := Lib.hid (HR.out.below hb1); replace HB := Lib.hid (HB.out.trans (hb1.mono HB.out.size)); clear hb1)
    | (go_at_call 39; refine (QSub.out _).mono ?_; rintro e w1 ⟨rfl, hb1⟩; replace HR := Lib.hid (HR.out.below hb1); replace HB := Lib.hid (HB.out.trans (hb1.mono HB.out.size)); clear hb1)
    | (go_at_call 18; refine (PMul.out _ HR.out).mono ?_; rintro e w1 ⟨rfl, hb1⟩; replace HR := Lib.hid (HR.out.below hb1); replace HB := Lib.hid (HB.out.trans (hb1.mono HB.out.size)); clear hb1)
    | (go_at_call 40; refine (QMul.out _).mono ?_; rintro e w1 ⟨rfl, hb1⟩; replace HR := Lib.hid (HR.out.below hb1); replace HB := Lib.hid (HB.out.trans (hb1.mono HB.out.size)); clear hb1)
    | (go_at_call 22; refine (PDiv.out _ HR.out).mono ?_; rintro e w1 ⟨rfl, hb1⟩; replace HR := Lib.hid (HR.out.below hb1); replace HB := Lib.hid (HB.out.trans (hb1.mono HB.out.size)); clear hb1)
    | (go_at_call 41; refine (QDiv.out _).mono ?_; rintro e w1 ⟨rfl, hb1⟩; replace HR := Lib.hid (HR.out.below hb1); replace HB := Lib.hid (HB.out.trans (hb1.mono HB.out.size)); clear hb1)
    | (go_at_call 33; refine (PMin.out _ HR.out).mono ?_; rintro e w1 ⟨rfl, hb1⟩; replace HR := Lib.hid (HR.out.below hb1); replace HB := Lib.hid (HB.out.trans (hb1.mono HB.out.size)); clear hb1)
    | (go_at_call 43; refine (QMin.out _).mono ?_; rintro e w1 ⟨rfl, hb1⟩; replace HR := Lib.hid (HR.out.below hb1); replace HB := Lib.hid (HB.out.trans (hb1.mono HB.out.size)); clear hb1)
    | (go_at_call 34; refine (PMax.out _ HR.out).mono ?_; rintro e w1 ⟨rfl, hb1⟩; replace HR := Lib.hid (HR.out.below hb1); replace HB := Lib.hid (HB.out.trans (hb1.mono HB.out.size)); clear hb1)
    | (go_at_call 44; refine (QMax.out _).mono ?_; rintro e w1 ⟨rfl, hb1⟩; replace HR := Lib.hid (HR.out.below hb1); replace HB := Lib.hid (HB.out.trans (hb1.mono HB.out.size)); clear hb1)
    | (go_at_call 26; refine (PMake.out _ HR.out).mono ?_; rintro e w1 ⟨rfl, hb1⟩; replace HR := Lib.hid (HR.out.below hb1); replace HB := Lib.hid (HB.out.trans (hb1.mono HB.out.size)); clear hb1)
    | (go_at_call 45; refine (QMake.out _).mono ?_; rintro e w1 ⟨rfl, hb1⟩; replace HR := Lib.hid (HR.out.below hb1); replace HB := Lib.hid (HB.out.trans (hb1.mono HB.out.size)); clear hb1)
    | (go_at_call 46; refine (PCmp.out _ HR.out).mono ?_; rintro e w1 ⟨rfl, hb1⟩; replace HR := Lib.hid (HR.out.below hb1); replace HB := Lib.hid (HB.out.trans (hb1.mono HB.out.size)); clear hb1)
    | (go_at_call 47; refine (QCmp.out _).mono ?_; rintro e w1 ⟨rfl, hb1⟩; replace HR := Lib.hid (HR.out.below hb1); replace HB := Lib.hid (HB.out.trans (hb1.mono HB.out.size)); clear hb1)
    | (go_at_call 42; refine (same_any _ _ _).mono ?_; rintro e w1 ⟨rfl, hw1⟩; subst hw1))
  go_ret
  exact ⟨rfl, HB.out⟩
set_option maxRecDepth 100000 in
set_option maxHeartbeats 2000000 in
theorem ratPairs_any (a b : ByteArray) (w : World) (hr : Res w) :
    Calls Tryz.prog 8 #[.string a, .string b] w fun e w' => e = .returned (.bool true) ∧ Below w.heap.size w w' := by
  by_cases hv : lightL 4100 [a, b] = true
  · have HV := Lib.hid hv
    have hv2 := List.all_eq_true.1 hv
    have ha : a.size ≤ 270000 := by have := of_decide_eq_true (hv2 a (by simp)); omega
    have hb : b.size ≤ 270000 := by have := of_decide_eq_true (hv2 b (by simp)); omega
    exact pairs_walk a b _ _ _ _ _ _ _ _ _ _ _ _ _ _ _ _ w (Lib.hid (fun w hr => ratAdd_any a b w ha hb hr)) (Lib.hid (fun w => refAdd_any a b w ha hb)) (Lib.hid (fun w hr => ratSub_any a b w ha hb hr)) (Lib.hid (fun w => refSub_any a b w ha hb)) (Lib.hid (fun w hr => ratMul_any a b w ha hb hr)) (Lib.hid (fun w => refMul_any a b w ha hb)) (Lib.hid (fun w hr => ratDiv_any a b w ha hb hr)) (Lib.hid (fun w => refDiv_any a b w ha hb)) (Lib.hid (fun w hr => ratMin_any a b w ha hb hr)) (Lib.hid (fun w => refMin_any a b w ha hb)) (Lib.hid (fun w hr => ratMax_any a b w ha hb hr)) (Lib.hid (fun w => refMax_any a b w ha hb)) (Lib.hid (fun w hr => ratMake_any a b w ha hb hr)) (Lib.hid (fun w => refMake_any a b w ha hb)) (Lib.hid (fun w hr => ratCmp_any a b w ha hb hr)) (Lib.hid (fun w => refCmp_any a b w ha hb)) HV hr
  · have hv : lightL 4100 [a, b] = false := by simpa using hv
    have HV := Lib.hid hv
    have HR := Lib.hid hr
    have HB := Lib.hid (Below.refl w.heap.size w)
    clear hv hr
    go_enter Tryz.func8, Tryz.ntmps8
    go_wp2_with (first
    | (go_at_call 11; refine (lives_any _ HR.out).mono ?_; rintro e w1 ⟨rfl, hb1⟩; replace HR := Lib.hid (HR.out.below hb1); replace HB := Lib.hid (HB.out.trans (hb1.mono HB.out.size)); clear hb1)
    | (go_at_call 37; refine (light2_any a b 4100 4100 _ _ rfl (by omega) (Blk.new _ _ _)).mono ?_; rintro e w1 ⟨rfl, hb1⟩; rw [HV.out]; replace HR := Lib.hid ((HR.out.below (below_alloc (Below.refl _ _) _)).below hb1); replace HB := Lib.hid ((below_alloc HB.out _).trans (hb1.mono (below_alloc HB.out _).size)); clear hb1))
    go_ret
    exact ⟨rfl, HB.out⟩
end Go.Proofs.YtjoifmnolmimkaaGreatDoor
