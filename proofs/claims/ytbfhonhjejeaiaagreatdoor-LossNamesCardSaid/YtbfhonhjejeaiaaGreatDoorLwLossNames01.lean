/- rat: Parts, Int; the natural numbers' reference: both, number, Mul, Gcd. loss.sampled, Alpha, Beta and Half, where no number on the way is too long. What Alpha, Beta and Half return for good parameters, and where a parameter is out of its range. A region that draws its order and only reads and calls what lays blocks of its own: one walk. What the calls of LossOrder come to, in plain losses. A long region's order check, reckoned without an array of what has come: quick for the kernel. LossNames: the walk, and what its calls come to (printed by mklnames.py). -/
import Derived.Test.YtbfhonhjejeaiaaGreatDoorRb10
import Derived.Test.YtbfhonhjejeaiaaGreatDoorRb11
import Derived.Test.YtbfhonhjejeaiaaGreatDoorRb15
import Derived.Test.YtbfhonhjejeaiaaGreatDoorRb03
import Derived.Test.YtbfhonhjejeaiaaGreatDoorRb01
import Derived.BigQuiet
import Derived.Below
namespace Go.Proofs.YtbfhonhjejeaiaaGreatDoor
open Go.RowKit Go.Shelf
open Lim

/-- What Parts returns. -/
def partsQ (a : List UInt8) : List UInt8 × List UInt8 × Nat := if errQ a ≠ 0 then ([], [], errQ a) else ((cutQ a).1, (cutQ a).2.getD [49], 0)
def resP (x : List UInt8 × List UInt8 × Nat) : Value := .tuple #[.string ⟨x.1.toArray⟩, .string ⟨x.2.1.toArray⟩, .int .i64 (x.2.2 : Int)]
/-- The texts of a number's parts. -/
def numT (p : Rat) : ByteArray := ⟨((if ng p then [45] else []) ++ Lib.decDigits (nm p)).toArray⟩
def denT (p : Rat) : ByteArray := ⟨(Lib.decDigits p.den).toArray⟩
set_option maxRecDepth 100000 in
/-- rat.Int. -/
theorem ratInt_any (n : Int) (w : World) (hr : Res w) (h0 : -9223372036854775808 ≤ n) (h1 : n ≤ 9223372036854775807) :
    Calls Tryz.prog 106 #[.int .i64 n] w fun e w' => e = .returned (.string ⟨(Lib.itoa n).toArray⟩) ∧ Below w.heap.size w w' := by
  have HC := Lib.hid (Tryz.strconv_Itoa n h0 h1 w hr.tab)
  generalize Lib.itoa n = l at *
  clear hr
  go_enter Tryz.func106, Tryz.ntmps106
  go_wp2_with (go_at_call 149; refine HC.out.mono ?_; rintro e w1 ⟨rfl, k, os, rfl⟩)
  go_ret
  exact ⟨rfl, Lib.below_grow _ _ (Nat.le_refl _) _ _⟩
theorem itoa_text (n : Int) : Lib.itoa n = ratText (n : Rat) := by
  unfold Lib.itoa ratText ng nm
  rw [Rat.num_intCast, Rat.den_intCast]
  by_cases h : n < 0
  · simp [h]
  · have : n.toNat = n.natAbs := by omega
    simp [h, this]
theorem intT {c : ByteArray} (n : Int) (w : World) (hc : IsT c (n : Rat)) (hr : Res w) (h0 : -9223372036854775808 ≤ n) (h1 : n ≤ 9223372036854775807) :
    Calls Tryz.prog 106 #[.int .i64 n] w fun e w' => e = .returned (.string c) ∧ Below w.heap.size w w' := by
  refine (ratInt_any n w hr h0 h1).mono ?_
  rintro e w' ⟨rfl, h⟩
  refine ⟨?_, h⟩
  rw [itoa_text, ← hc.1]

/-! ### the reference of natural numbers -/
/-- A natural number's text, or the error of one that is too long. -/
def outN (n : Nat) : List UInt8 × Nat := if maxD < Lib.nDigits n then ([], 5) else (Lib.decDigits n, 0)
def twoN (f : Nat → Nat → List UInt8 × Nat) (a b : List UInt8) : List UInt8 × Nat := if errN a ≠ 0 then ([], errN a) else if errN b ≠ 0 then ([], errN b) else f (dv a) (dv b)
end Go.Proofs.YtbfhonhjejeaiaaGreatDoor
namespace Go.Proofs.YtbfhonhjejeaiaaGreatDoor
open Go.RowKit Go.Shelf
open Lim

set_option maxRecDepth 100000 in
set_option maxHeartbeats 4000000 in
theorem samp_rng1 (f : ByteArray) (s : Int) (fv : Value) (w : World) (F : Rat) (hf : IsT f F) (d1 : decide (cmpQ F 1 ≤ 0) = true) (hr : Res w) :
    Calls Tryz.prog 83 #[.int .i64 s, .string f, fv] w fun e w' => e = .returned (.tuple #[.string ⟨#[]⟩, .int .i64 2]) ∧ Below w.heap.size w w' := by
  have HK := Lib.hid (Blk.new w 27 #[.int .i64 0])
  have HB := Lib.hid (below_alloc (Below.refl w.heap.size w) (.cells #[.int .i64 0] 27))
  have HR := Lib.hid (hr.below HB.out)
  have HC := Lib.hid (fun w hr => checkT w hf hr)
  have HO := Lib.hid (fun w hr => lorder_any w hf IsT.one hr)
  generalize cmpQ F 1 = x at *
  clear hf hr
  go_enter_defers Tryz.func83, Tryz.ntmps83
  go_wp2_with (first
    | (go_at_call 81; refine (HC.out _ HR.out).mono ?_; rintro e w1 ⟨rfl, hb⟩; have HK1 := Lib.hid (HK.out.below hb HK.out.lt); have HB1 := Lib.hid (HB.out.trans (hb.mono HB.out.size)); have HR1 := Lib.hid (HR.out.below hb); clear hb)
    | (go_at_call 80; refine (mustI_ok _ _).mono ?_; rintro e w9 ⟨rfl, hw⟩; subst hw)
    | (go_at_call 74; refine (HO.out _ HR1.out).mono ?_; rintro e w2 ⟨rfl, hb⟩; have HK2 := Lib.hid (HK1.out.below hb HK1.out.lt); have HB2 := Lib.hid (HB1.out.trans (hb.mono HB1.out.size)); have HR2 := Lib.hid (HR1.out.below hb); have ce := cell0 HK2.out; have ze := HK2.out.frozen 0; clear hb))
  exact door_ret (v := .tuple #[.string ⟨#[]⟩, .int .i64 2]) (run_tmp_errno rfl rfl rfl (HK2.out.set_ 0 (.int .i64 2))) ⟨rfl, HB2.out.setCell (Nat.le_refl _) _⟩
set_option maxRecDepth 100000 in
set_option maxHeartbeats 4000000 in
theorem samp_rng2 (f : ByteArray) (s : Int) (fv : Value) (w : World) (F : Rat) (hf : IsT f F) (d1 : decide (cmpQ F 1 ≤ 0) = false) (hs : s < 1) (hr : Res w) :
    Calls Tryz.prog 83 #[.int .i64 s, .string f, fv] w fun e w' => e = .returned (.tuple #[.string ⟨#[]⟩, .int .i64 2]) ∧ Below w.heap.size w w' := by
  have HK := Lib.hid (Blk.new w 27 #[.int .i64 0])
  have HB := Lib.hid (below_alloc (Below.refl w.heap.size w) (.cells #[.int .i64 0] 27))
  have HR := Lib.hid (hr.below HB.out)
  have HC := Lib.hid (fun w hr => checkT w hf hr)
  have HO := Lib.hid (fun w hr => lorder_any w hf IsT.one hr)
  generalize cmpQ F 1 = x at *
  have d2 : decide (s < 1) = true := decide_eq_true hs
  clear hs
  clear hf hr
  go_enter_defers Tryz.func83, Tryz.ntmps83
  go_wp2_with (first
    | (go_at_call 81; refine (HC.out _ HR.out).mono ?_; rintro e w1 ⟨rfl, hb⟩; have HK1 := Lib.hid (HK.out.below hb HK.out.lt); have HB1 := Lib.hid (HB.out.trans (hb.mono HB.out.size)); have HR1 := Lib.hid (HR.out.below hb); clear hb)
    | (go_at_call 80; refine (mustI_ok _ _).mono ?_; rintro e w9 ⟨rfl, hw⟩; subst hw)
    | (go_at_call 74; refine (HO.out _ HR1.out).mono ?_; rintro e w2 ⟨rfl, hb⟩; have HK2 := Lib.hid (HK1.out.below hb HK1.out.lt); have HB2 := Lib.hid (HB1.out.trans (hb.mono HB1.out.size)); have HR2 := Lib.hid (HR1.out.below hb); have ce := cell0 HK2.out; have ze := HK2.out.frozen 0; clear hb))
  exact door_ret (v := .tuple #[.string ⟨#[]⟩, .int .i64 2]) (run_tmp_errno rfl rfl rfl (HK2.out.set_ 0 (.int .i64 2))) ⟨rfl, HB2.out.setCell (Nat.le_refl _) _⟩
set_option maxRecDepth 100000 in
set_option maxHeartbeats 4000000 in
theorem samp_rng3 (f : ByteArray) (s : Int) (fv : Value) (w : World) (F : Rat) (hf : IsT f F) (d1 : decide (cmpQ F 1 ≤ 0) = false) (hs : 1000000 < s) (hr : Res w) :
    Calls Tryz.prog 83 #[.int .i64 s, .string f, fv] w fun e w' => e = .returned (.tuple #[.string ⟨#[]⟩, .int .i64 2]) ∧ Below w.heap.size w w' := by
  have HK := Lib.hid (Blk.new w 27 #[.int .i64 0])
  have HB := Lib.hid (below_alloc (Below.refl w.heap.size w) (.cells #[.int .i64 0] 27))
  have HR := Lib.hid (hr.below HB.out)
  have HC := Lib.hid (fun w hr => checkT w hf hr)
  have HO := Lib.hid (fun w hr => lorder_any w hf IsT.one hr)
  generalize cmpQ F 1 = x at *
  have d2 : decide (s < 1) = false := decide_eq_false (by omega)
  have d3 : decide (1000000 < s) = true := decide_eq_true hs
  clear hs
  clear hf hr
  go_enter_defers Tryz.func83, Tryz.ntmps83
  go_wp2_with (first
    | (go_at_call 81; refine (HC.out _ HR.out).mono ?_; rintro e w1 ⟨rfl, hb⟩; have HK1 := Lib.hid (HK.out.below hb HK.out.lt); have HB1 := Lib.hid (HB.out.trans (hb.mono HB.out.size)); have HR1 := Lib.hid (HR.out.below hb); clear hb)
    | (go_at_call 80; refine (mustI_ok _ _).mono ?_; rintro e w9 ⟨rfl, hw⟩; subst hw)
    | (go_at_call 74; refine (HO.out _ HR1.out).mono ?_; rintro e w2 ⟨rfl, hb⟩; have HK2 := Lib.hid (HK1.out.below hb HK1.out.lt); have HB2 := Lib.hid (HB1.out.trans (hb.mono HB1.out.size)); have HR2 := Lib.hid (HR1.out.below hb); have ce := cell0 HK2.out; have ze := HK2.out.frozen 0; clear hb))
  exact door_ret (v := .tuple #[.string ⟨#[]⟩, .int .i64 2]) (run_tmp_errno rfl rfl rfl (HK2.out.set_ 0 (.int .i64 2))) ⟨rfl, HB2.out.setCell (Nat.le_refl _) _⟩
set_option maxRecDepth 100000 in
set_option maxHeartbeats 4000000 in
theorem samp_ok (FN : FuncId) (hrun : Runs FN) (caps : Array Value) (f st rv : ByteArray) (s : Int) (w : World) (F : Rat) (hf : IsT f F) (hst : IsT st (s : Rat)) (d1 : decide (cmpQ F 1 ≤ 0) = false) (hs : 1 ≤ s) (hs2 : s ≤ 1000000) (hr : Res w)
    (hF : ∀ w', Below w.heap.size w w' → Res w' → Calls Tryz.prog FN (#[.string st] ++ caps) w' fun e w'' => e = .returned (.string rv) ∧ Below w'.heap.size w' w'') :
    Calls Tryz.prog 83 #[.int .i64 s, .string f, .func (.func FN) #[] caps] w fun e w' => e = .returned (.tuple #[.string rv, .int .i64 0]) ∧ Below w.heap.size w w' := by
  have HK := Lib.hid (Blk.new w 27 #[.int .i64 0])
  have HB := Lib.hid (below_alloc (Below.refl w.heap.size w) (.cells #[.int .i64 0] 27))
  have HR := Lib.hid (hr.below HB.out)
  have HC := Lib.hid (fun w hr => checkT w hf hr)
  have HO := Lib.hid (fun w hr => lorder_any w hf IsT.one hr)
  have HI := Lib.hid (fun w hr => intT s w hst hr (by omega) (by omega))
  have HF := Lib.hid hF
  generalize cmpQ F 1 = x at *
  have d2 : decide (s < 1) = false := decide_eq_false (by omega)
  have d3 : decide (1000000 < s) = false := decide_eq_false (by omega)
  have hrn := hrun
  unfold Runs at hrn
  clear hf hr hF hrun hst hs hs2
  go_enter_defers Tryz.func83, Tryz.ntmps83
  go_wp2_with (first
    | (go_at_call 81; refine (HC.out _ HR.out).mono ?_; rintro e w1 ⟨rfl, hb⟩; have HK1 := Lib.hid (HK.out.below hb HK.out.lt); have HB1 := Lib.hid (HB.out.trans (hb.mono HB.out.size)); have HR1 := Lib.hid (HR.out.below hb); clear hb)
    | (go_at_call 80; refine (mustI_ok _ _).mono ?_; rintro e w9 ⟨rfl, hw⟩; subst hw)
    | (go_at_call 74; refine (HO.out _ HR1.out).mono ?_; rintro e w2 ⟨rfl, hb⟩; have HK2 := Lib.hid (HK1.out.below hb HK1.out.lt); have HB2 := Lib.hid (HB1.out.trans (hb.mono HB1.out.size)); have HR2 := Lib.hid (HR1.out.below hb); clear hb)
    | (go_at_call 106; refine (HI.out _ HR2.out).mono ?_; rintro e w3 ⟨rfl, hb⟩; have HK3 := Lib.hid (HK2.out.below hb HK2.out.lt); have HB3 := Lib.hid (HB2.out.trans (hb.mono HB2.out.size)); have HR3 := Lib.hid (HR2.out.below hb); clear hb))
  refine (HF.out _ HB3.out HR3.out).mono ?_
  rintro e w4 ⟨rfl, hb⟩
  have HK4 := Lib.hid (HK3.out.below hb HK3.out.lt); have HB4 := Lib.hid (HB3.out.trans (hb.mono HB3.out.size)); have HR4 := Lib.hid (HR3.out.below hb); have ce := cell0 HK4.out; have ze := HK4.out.frozen 0; clear hb
  go_wp2
  exact door_ret (v := .tuple #[.string rv, .int .i64 0]) (run_tmp_errno rfl rfl rfl (HK4.out.set_ 0 (.int .i64 0))) ⟨rfl, HB4.out.setCell (Nat.le_refl _) _⟩
theorem t_two : IsT ⟨#[50]⟩ 2 := (isT_lit false [50] [49] (by decide +kernel)).1
set_option maxRecDepth 100000 in
set_option maxHeartbeats 4000000 in
theorem alpha1_one {f : ByteArray} {F : Rat} (g : Nat) (w : World) (hf : IsT f F) (h0 : F ≠ 0) (hi : fits F⁻¹ = true) (hk : Blk w g 22 #[.string f]) (hr : Res w) :
    Calls Tryz.prog 84 #[.string ⟨#[49]⟩, .pointer (some ⟨g, 0, none⟩)] w fun e w' => e = .returned (.string (rT F⁻¹)) ∧ Below w.heap.size w w' := by
  have HK := Lib.hid hk
  have HB := Lib.hid (Below.refl w.heap.size w)
  have HR := Lib.hid hr
  have ce := cell0 hk
  have HI := Lib.hid (fun w hr => invT w hf (isT_rT hi) h0 hr)
  generalize rT F⁻¹ = r at *
  clear hf h0 hi hr hk
  go_enter Tryz.func84, Tryz.ntmps84
  go_wp2_with (first
    | (go_at_call 85; refine (HI.out _ HR.out).mono ?_; rintro e w1 ⟨rfl, hb⟩; have HK1 := Lib.hid (HK.out.below hb HK.out.lt); have HB1 := Lib.hid (HB.out.trans (hb.mono HB.out.size)); have HR1 := Lib.hid (HR.out.below hb); have ce1 := cell0 HK1.out; clear hb)
    | (go_at_call 76; refine (mustN_ok _ _).mono ?_; rintro e w9 ⟨rfl, hw⟩; subst hw))
  go_ret
  exact ⟨rfl, HB1.out⟩
set_option maxRecDepth 100000 in
set_option maxHeartbeats 4000000 in
theorem alpha1_more {f st : ByteArray} {F S : Rat} (g : Nat) (w : World) (hf : IsT f F) (hst : IsT st S) (hne : (st.toList == [49]) = false) (f1 : fits (S * F) = true) (f2 : fits (S * F + F) = true) (f3 : fits (S * F + F + -1) = true) (f4 : fits (S * F * (S * F + F + -1)⁻¹) = true) (h0 : S * F + F + -1 ≠ 0) (hk : Blk w g 22 #[.string f]) (hr : Res w) :
    Calls Tryz.prog 84 #[.string st, .pointer (some ⟨g, 0, none⟩)] w fun e w' => e = .returned (.string (rT (S * F * (S * F + F + -1)⁻¹))) ∧ Below w.heap.size w w' := by
  have HK := Lib.hid hk
  have HB := Lib.hid (Below.refl w.heap.size w)
  have HR := Lib.hid hr
  have ce := cell0 hk
  have HM := Lib.hid (fun w hr => mulT w hst hf (isT_rT f1) hr)
  have HA := Lib.hid (fun w hr => addT w (isT_rT f1) hf (isT_rT f2) hr)
  have HS := Lib.hid (fun w hr => subT w (isT_rT f2) IsT.one (isT_rT f3) hr)
  have HD := Lib.hid (fun w hr => divT w (isT_rT f1) (isT_rT f3) (isT_rT f4) h0 hr)
  generalize rT (S * F * (S * F + F + -1)⁻¹) = r4 at *
  generalize rT (S * F + F + -1) = r3 at *
  generalize rT (S * F + F) = r2 at *
  generalize rT (S * F) = r1 at *
  clear hf hst h0 f1 f2 f3 f4 hr hk
  go_enter Tryz.func84, Tryz.ntmps84
  go_wp2_with (first
    | (go_at_call 78; refine (HM.out _ HR.out).mono ?_; rintro e w1 ⟨rfl, hb⟩; have HK1 := Lib.hid (HK.out.below hb HK.out.lt); have HB1 := Lib.hid (HB.out.trans (hb.mono HB.out.size)); have HR1 := Lib.hid (HR.out.below hb); have ce1 := cell0 HK1.out; clear hb)
    | (go_at_call 77; refine (HA.out _ HR1.out).mono ?_; rintro e w2 ⟨rfl, hb⟩; have HK2 := Lib.hid (HK1.out.below hb HK1.out.lt); have HB2 := Lib.hid (HB1.out.trans (hb.mono HB1.out.size)); have HR2 := Lib.hid (HR1.out.below hb); have ce2 := cell0 HK2.out; clear hb)
    | (go_at_call 87; refine (HS.out _ HR2.out).mono ?_; rintro e w3 ⟨rfl, hb⟩; have HK3 := Lib.hid (HK2.out.below hb HK2.out.lt); have HB3 := Lib.hid (HB2.out.trans (hb.mono HB2.out.size)); have HR3 := Lib.hid (HR2.out.below hb); have ce3 := cell0 HK3.out; clear hb)
    | (go_at_call 86; refine (HD.out _ HR3.out).mono ?_; rintro e w4 ⟨rfl, hb⟩; have HK4 := Lib.hid (HK3.out.below hb HK3.out.lt); have HB4 := Lib.hid (HB3.out.trans (hb.mono HB3.out.size)); have HR4 := Lib.hid (HR3.out.below hb); have ce4 := cell0 HK4.out; clear hb)
    | (go_at_call 76; refine (mustN_ok _ _).mono ?_; rintro e w9 ⟨rfl, hw⟩; subst hw))
  go_ret
  exact ⟨rfl, HB4.out⟩
set_option maxRecDepth 100000 in
set_option maxHeartbeats 4000000 in
theorem half1_any {f : ByteArray} {F : Rat} (st : ByteArray) (g : Nat) (w : World) (hf : IsT f F) (f1 : fits (2 * F) = true) (f2 : fits (F + 1) = true) (f3 : fits (2 * F * (F + 1)⁻¹) = true) (h0 : F + 1 ≠ 0) (hk : Blk w g 22 #[.string f]) (hr : Res w) :
    Calls Tryz.prog 89 #[.string st, .pointer (some ⟨g, 0, none⟩)] w fun e w' => e = .returned (.string (rT (2 * F * (F + 1)⁻¹))) ∧ Below w.heap.size w w' := by
  have HK := Lib.hid hk
  have HB := Lib.hid (Below.refl w.heap.size w)
  have HR := Lib.hid hr
  have ce := cell0 hk
  have HM := Lib.hid (fun w hr => mulT w t_two hf (isT_rT f1) hr)
  have HA := Lib.hid (fun w hr => addT w hf IsT.one (isT_rT f2) hr)
  have HD := Lib.hid (fun w hr => divT w (isT_rT f1) (isT_rT f2) (isT_rT f3) h0 hr)
  generalize rT (2 * F * (F + 1)⁻¹) = r3 at *
  generalize rT (F + 1) = r2 at *
  generalize rT (2 * F) = r1 at *
  clear hf h0 f1 f2 f3 hr hk
  go_enter Tryz.func89, Tryz.ntmps89
  go_wp2_with (first
    | (go_at_call 78; refine (HM.out _ HR.out).mono ?_; rintro e w1 ⟨rfl, hb⟩; have HK1 := Lib.hid (HK.out.below hb HK.out.lt); have HB1 := Lib.hid (HB.out.trans (hb.mono HB.out.size)); have HR1 := Lib.hid (HR.out.below hb); have ce1 := cell0 HK1.out; clear hb)
    | (go_at_call 77; refine (HA.out _ HR1.out).mono ?_; rintro e w2 ⟨rfl, hb⟩; have HK2 := Lib.hid (HK1.out.below hb HK1.out.lt); have HB2 := Lib.hid (HB1.out.trans (hb.mono HB1.out.size)); have HR2 := Lib.hid (HR1.out.below hb); have ce2 := cell0 HK2.out; clear hb)
    | (go_at_call 86; refine (HD.out _ HR2.out).mono ?_; rintro e w3 ⟨rfl, hb⟩; have HK3 := Lib.hid (HK2.out.below hb HK2.out.lt); have HB3 := Lib.hid (HB2.out.trans (hb.mono HB2.out.size)); have HR3 := Lib.hid (HR2.out.below hb); have ce3 := cell0 HK3.out; clear hb)
    | (go_at_call 76; refine (mustN_ok _ _).mono ?_; rintro e w9 ⟨rfl, hw⟩; subst hw))
  go_ret
  exact ⟨rfl, HB3.out⟩
set_option maxRecDepth 100000 in
set_option maxHeartbeats 4000000 in
theorem beta1_any {f st : ByteArray} {F S : Rat} (g : Nat) (w : World) (hf : IsT f F) (hst : IsT st S) (f1 : fits (S + S) = true) (f2 : fits ((S + S) * F) = true) (f3 : fits (F + -1) = true) (f4 : fits ((F + -1) * ((S + S) * F)⁻¹) = true) (f5 : fits (1 + (F + -1) * ((S + S) * F)⁻¹) = true) (h0 : (S + S) * F ≠ 0) (hk : Blk w g 22 #[.string f]) (hr : Res w) :
    Calls Tryz.prog 88 #[.string st, .pointer (some ⟨g, 0, none⟩)] w fun e w' => e = .returned (.string (rT (1 + (F + -1) * ((S + S) * F)⁻¹))) ∧ Below w.heap.size w w' := by
  have HK := Lib.hid hk
  have HB := Lib.hid (Below.refl w.heap.size w)
  have HR := Lib.hid hr
  have ce := cell0 hk
  have HA := Lib.hid (fun w hr => addT w hst hst (isT_rT f1) hr)
  have HM := Lib.hid (fun w hr => mulT w (isT_rT f1) hf (isT_rT f2) hr)
  have HS := Lib.hid (fun w hr => subT w hf IsT.one (isT_rT f3) hr)
  have HD := Lib.hid (fun w hr => divT w (isT_rT f3) (isT_rT f2) (isT_rT f4) h0 hr)
  have HE := Lib.hid (fun w hr => addT w IsT.one (isT_rT f4) (isT_rT f5) hr)
  generalize rT (1 + (F + -1) * ((S + S) * F)⁻¹) = r5 at *
  generalize rT ((F + -1) * ((S + S) * F)⁻¹) = r4 at *
  generalize rT (F + -1) = r3 at *
  generalize rT ((S + S) * F) = r2 at *
  generalize rT (S + S) = r1 at *
  clear hf hst h0 f1 f2 f3 f4 f5 hr
  have hmx : Tryz.prog.follows .mixedOrders = true := by kernel_rfl
  have x0 : ∀ x : SameAt w (fun k => k < w.heap.size), x.W.cell? ⟨g, 0, none⟩ = some (.string f) := fun x => x.cell hk.lt ce
  clear hk
  go_enter Tryz.func88, Tryz.ntmps88
  go_wp2
  refine wpIn_wide.1 (wpIn_stage (n := 3) (IsSame w (fun k => k < w.heap.size)) [0, 1, 3, 4, 6, 8, 9] [] hmx (by kernel_rfl) (isSame_of fun _ _ => rfl) ?_)
  change wpStage _ _ _ _ _ _ _ _ (9 + 3) _ _ _
  refine stage_reads [0, 1, 6] 9 _ _ (by kernel_rfl) ?_
  change wpQuietIn _ _ _ _ (fun W' => ∃ x : SameAt w (fun k => k < w.heap.size), W' = x.W) _ _ _
  simp only [pick_cons, pick_nil, List.getElem?_cons_zero, List.getElem?_cons_succ, Option.elim_some]
  repeat (gi_big_quiet_step (fail))
  refine wpQuietIn_nil ?_
  refine stage_one 2 (by kernel_rfl) rfl ?_
  gi_wp2
  refine ⟨trivial, ?_⟩
  refine (callsIn_wide.2 (HA.out _ (HR.out.below (below_drew (Below.refl _ _))))).mono ?_
  rintro e w1 ⟨rfl, hb⟩
  have HB1 := Lib.hid (show Below w.heap.size w w1 from below_undrew hb)
  clear hb
  gi_wp2
  refine stage_post (isSame_below HB1.out (fun k hk => hk)) ?_
  change wpStage _ _ _ _ _ _ _ _ (6 + 2) _ _ _
  refine stage_reads [3, 4] 6 _ _ (by kernel_rfl) ?_
  change wpQuietIn _ _ _ _ (fun W' => ∃ x : SameAt w (fun k => k < w.heap.size), W' = x.W) _ _ _
  simp only [pick_cons, pick_nil, List.getElem?_cons_zero, List.getElem?_cons_succ, Option.elim_some]
  repeat (gi_big_quiet_step (fail))
  refine wpQuietIn_nil ?_
  refine stage_one 5 (by kernel_rfl) rfl ?_
  gi_wp2
  refine ⟨trivial, ?_⟩
  refine (callsIn_wide.2 (mustN_ok _ _)).mono ?_
  rintro e w9 ⟨rfl, hw⟩
  subst hw
  gi_wp2
  refine stage_post (isSame_below HB1.out (fun k hk => hk)) ?_
  refine stage_one 7 (by kernel_rfl) rfl ?_
  gi_wp2
  refine ⟨trivial, ?_⟩
  refine (callsIn_wide.2 (HM.out _ (HR.out.below HB1.out))).mono ?_
  rintro e w2 ⟨rfl, hb⟩
  have HB2 := Lib.hid (HB1.out.trans (hb.mono HB1.out.size))
  clear hb
  gi_wp2
  refine stage_post (isSame_below HB2.out (fun k hk => hk)) ?_
  change wpStage _ _ _ _ _ _ _ _ (2 + 2) _ _ _
  refine stage_reads [8, 9] 2 _ _ (by kernel_rfl) ?_
  change wpQuietIn _ _ _ _ (fun W' => ∃ x : SameAt w (fun k => k < w.heap.size), W' = x.W) _ _ _
  simp only [pick_cons, pick_nil, List.getElem?_cons_zero, List.getElem?_cons_succ, Option.elim_some]
  repeat (gi_big_quiet_step (fail))
  refine wpQuietIn_nil ?_
  refine stage_one 10 (by kernel_rfl) rfl ?_
  gi_wp2
  refine ⟨trivial, ?_⟩
  refine (callsIn_wide.2 (mustN_ok _ _)).mono ?_
  rintro e w9 ⟨rfl, hw⟩
  subst hw
  gi_wp2
  refine stage_post (isSame_below HB2.out (fun k hk => hk)) ?_
  refine stage_one 11 (by kernel_rfl) rfl ?_
  gi_wp2
  refine stage_post (isSame_below HB2.out (fun k hk => hk)) ?_
  refine stage_done (by kernel_rfl) ?_
  have HK2 := Lib.hid (HK.out.below HB2.out HK.out.lt)
  have HR2 := Lib.hid (HR.out.below HB2.out)
  have ce2 := cell0 HK2.out
  go_wp2_with (first
    | (go_at_call 87; refine (HS.out _ HR2.out).mono ?_; rintro e w3 ⟨rfl, hb⟩; have HK3 := Lib.hid (HK2.out.below hb HK2.out.lt); have HB3 := Lib.hid (HB2.out.trans (hb.mono HB2.out.size)); have HR3 := Lib.hid (HR2.out.below hb); have ce3 := cell0 HK3.out; clear hb)
    | (go_at_call 86; refine (HD.out _ HR3.out).mono ?_; rintro e w4 ⟨rfl, hb⟩; have HK4 := Lib.hid (HK3.out.below hb HK3.out.lt); have HB4 := Lib.hid (HB3.out.trans (hb.mono HB3.out.size)); have HR4 := Lib.hid (HR3.out.below hb); have ce4 := cell0 HK4.out; clear hb)
    | (go_at_call 77; refine (HE.out _ HR4.out).mono ?_; rintro e w5 ⟨rfl, hb⟩; have HK5 := Lib.hid (HK4.out.below hb HK4.out.lt); have HB5 := Lib.hid (HB4.out.trans (hb.mono HB4.out.size)); have HR5 := Lib.hid (HR4.out.below hb); have ce5 := cell0 HK5.out; clear hb)
    | (go_at_call 76; refine (mustN_ok _ _).mono ?_; rintro e w9 ⟨rfl, hw⟩; subst hw))
  go_ret
  exact ⟨rfl, HB5.out⟩
theorem runs_alpha1 : Runs 84 := runs_of Tryz.func84 (by kernel_rfl) (by kernel_rfl)
theorem runs_beta1 : Runs 88 := runs_of Tryz.func88 (by kernel_rfl) (by kernel_rfl)
theorem runs_half1 : Runs 89 := runs_of Tryz.func89 (by kernel_rfl) (by kernel_rfl)
set_option maxRecDepth 100000 in
set_option maxHeartbeats 4000000 in
theorem alpha_door (f rv : ByteArray) (k : Int) (s : Int) (w : World) (hr : Res w)
    (hS : ∀ w', Below w.heap.size w w' → Res w' → Blk w' w.heap.size 22 #[.string f] → Calls Tryz.prog 83 #[.int .i64 s, .string f, .func (.func 84) #[] #[.pointer (some ⟨w.heap.size, 0, none⟩)]] w' fun e w'' => e = .returned (.tuple #[.string rv, .int .i64 k]) ∧ Below w'.heap.size w' w'') :
    Calls Tryz.prog 30 #[.int .i64 s, .string f] w fun e w' => e = .returned (.tuple #[.string rv, .int .i64 k]) ∧ Below w.heap.size w w' := by
  have HK := Lib.hid (Blk.new w 22 #[.string f])
  have HB := Lib.hid (below_alloc (Below.refl w.heap.size w) (.cells #[.string f] 22))
  have HC := Lib.hid (hS _ HB.out (hr.below HB.out) HK.out)
  have ce := cell0 HK.out
  clear hr hS
  go_enter Tryz.func30, Tryz.ntmps30
  go_wp2_with (go_at_call 83; refine HC.out.mono ?_; rintro e w1 ⟨rfl, hb⟩; have HB1 := Lib.hid (HB.out.trans (hb.mono HB.out.size)); clear hb)
  exact bodyPost_ret (results_tmp2 rfl _ _ _) rfl ⟨rfl, HB1.out⟩
set_option maxRecDepth 100000 in
set_option maxHeartbeats 4000000 in
theorem beta_door (f rv : ByteArray) (k : Int) (s : Int) (w : World) (hr : Res w)
    (hS : ∀ w', Below w.heap.size w w' → Res w' → Blk w' w.heap.size 22 #[.string f] → Calls Tryz.prog 83 #[.int .i64 s, .string f, .func (.func 88) #[] #[.pointer (some ⟨w.heap.size, 0, none⟩)]] w' fun e w'' => e = .returned (.tuple #[.string rv, .int .i64 k]) ∧ Below w'.heap.size w' w'') :
    Calls Tryz.prog 31 #[.int .i64 s, .string f] w fun e w' => e = .returned (.tuple #[.string rv, .int .i64 k]) ∧ Below w.heap.size w w' := by
  have HK := Lib.hid (Blk.new w 22 #[.string f])
  have HB := Lib.hid (below_alloc (Below.refl w.heap.size w) (.cells #[.string f] 22))
  have HC := Lib.hid (hS _ HB.out (hr.below HB.out) HK.out)
  have ce := cell0 HK.out
  clear hr hS
  go_enter Tryz.func31, Tryz.ntmps31
  go_wp2_with (go_at_call 83; refine HC.out.mono ?_; rintro e w1 ⟨rfl, hb⟩; have HB1 := Lib.hid (HB.out.trans (hb.mono HB.out.size)); clear hb)
  exact bodyPost_ret (results_tmp2 rfl _ _ _) rfl ⟨rfl, HB1.out⟩
set_option maxRecDepth 100000 in
set_option maxHeartbeats 4000000 in
theorem half_door (f rv : ByteArray) (k : Int) (w : World) (hr : Res w)
    (hS : ∀ w', Below w.heap.size w w' → Res w' → Blk w' w.heap.size 22 #[.string f] → Calls Tryz.prog 83 #[.int .i64 1, .string f, .func (.func 89) #[] #[.pointer (some ⟨w.heap.size, 0, none⟩)]] w' fun e w'' => e = .returned (.tuple #[.string rv, .int .i64 k]) ∧ Below w'.heap.size w' w'') :
    Calls Tryz.prog 32 #[.string f] w fun e w' => e = .returned (.tuple #[.string rv, .int .i64 k]) ∧ Below w.heap.size w w' := by
  have HK := Lib.hid (Blk.new w 22 #[.string f])
  have HB := Lib.hid (below_alloc (Below.refl w.heap.size w) (.cells #[.string f] 22))
  have HC := Lib.hid (hS _ HB.out (hr.below HB.out) HK.out)
  have ce := cell0 HK.out
  clear hr hS
  go_enter Tryz.func32, Tryz.ntmps32
  go_wp2_with (go_at_call 83; refine HC.out.mono ?_; rintro e w1 ⟨rfl, hb⟩; have HB1 := Lib.hid (HB.out.trans (hb.mono HB.out.size)); clear hb)
  exact bodyPost_ret (results_tmp2 rfl _ _ _) rfl ⟨rfl, HB1.out⟩
end Go.Proofs.YtbfhonhjejeaiaaGreatDoor
namespace Go.Proofs.YtbfhonhjejeaiaaGreatDoor
open Go.RowKit Go.Shelf
open Lim

theorem sz_ofInt {s : Int} {k : Nat} (hk : 0 < k) (h : s.natAbs < 10 ^ k) : Sz k (s : Rat) := by
  refine ⟨by unfold nm; rw [Rat.num_intCast]; exact h, ?_⟩
  rw [Rat.den_intCast]
  exact Nat.one_lt_pow (by omega) (by decide)
theorem IsT.not_one {a : ByteArray} {q : Rat} (h : IsT a q) (h1 : q ≠ 1) : (a.toList == [49]) = false := by
  rw [beq_eq_false_iff_ne]
  intro e
  apply h1
  rw [Lib.toList_data] at e
  exact h.inj ⟨by rw [← IsT.one.1]; exact ByteArray.ext (Array.toList_inj.1 e), Sz.one.mono (by decide)⟩
theorem low_cmp {F : Rat} (h : 1 < F) : decide (cmpQ F 1 ≤ 0) = false := decide_eq_false (fun h2 => by have := (cmpQ_le F 1).1 h2; grind)
section
variable {f : ByteArray} {F : Rat} (w : World)
theorem lossAlpha_one (hf : IsT f F) (hF : 1 < F) (hi : fits F⁻¹ = true) (hr : Res w) :
    Calls Tryz.prog 30 #[.int .i64 1, .string f] w fun e w' => e = .returned (.tuple #[.string (rT F⁻¹), .int .i64 0]) ∧ Below w.heap.size w w' :=
  alpha_door f _ _ 1 w hr (fun w' _ hr' hk => samp_ok 84 runs_alpha1 _ f ⟨#[49]⟩ _ 1 w' F hf (by simpa using IsT.one) (low_cmp hF) (by omega) (by omega) hr'
    (fun w'' hb hr'' => alpha1_one w.heap.size w'' hf (by grind) hi (hk.below hb hk.lt) hr''))
theorem lossAlpha_more {s : Int} (hs : 2 ≤ s) (hs2 : s ≤ 1000000) (hf : IsT f F) (hF : 1 < F) (f0 : fits (s : Rat) = true) (f1 : fits ((s : Rat) * F) = true) (f2 : fits ((s : Rat) * F + F) = true) (f3 : fits ((s : Rat) * F + F + -1) = true) (f4 : fits ((s : Rat) * F * ((s : Rat) * F + F + -1)⁻¹) = true) (h0 : (s : Rat) * F + F + -1 ≠ 0) (hr : Res w) :
    Calls Tryz.prog 30 #[.int .i64 s, .string f] w fun e w' => e = .returned (.tuple #[.string (rT ((s : Rat) * F * ((s : Rat) * F + F + -1)⁻¹)), .int .i64 0]) ∧ Below w.heap.size w w' :=
  have hne : (s : Rat) ≠ 1 := fun e => by
    have : s = 1 := by exact_mod_cast e
    omega
  alpha_door f _ _ s w hr (fun w' _ hr' hk => samp_ok 84 runs_alpha1 _ f (rT (s : Rat)) _ s w' F hf (isT_rT f0) (low_cmp hF) (by omega) hs2 hr'
    (fun w'' hb hr'' => alpha1_more w.heap.size w'' hf (isT_rT f0) ((isT_rT f0).not_one hne) f1 f2 f3 f4 h0 (hk.below hb hk.lt) hr''))
theorem lossBeta_ok {s : Int} (hs : 1 ≤ s) (hs2 : s ≤ 1000000) (hf : IsT f F) (hF : 1 < F) (f0 : fits (s : Rat) = true) (f1 : fits ((s : Rat) + (s : Rat)) = true) (f2 : fits (((s : Rat) + (s : Rat)) * F) = true) (f3 : fits (F + -1) = true) (f4 : fits ((F + -1) * (((s : Rat) + (s : Rat)) * F)⁻¹) = true) (f5 : fits (1 + (F + -1) * (((s : Rat) + (s : Rat)) * F)⁻¹) = true) (h0 : ((s : Rat) + (s : Rat)) * F ≠ 0) (hr : Res w) :
    Calls Tryz.prog 31 #[.int .i64 s, .string f] w fun e w' => e = .returned (.tuple #[.string (rT (1 + (F + -1) * (((s : Rat) + (s : Rat)) * F)⁻¹)), .int .i64 0]) ∧ Below w.heap.size w w' :=
  beta_door f _ _ s w hr (fun w' _ hr' hk => samp_ok 88 runs_beta1 _ f (rT (s : Rat)) _ s w' F hf (isT_rT f0) (low_cmp hF) hs hs2 hr'
    (fun w'' hb hr'' => beta1_any w.heap.size w'' hf (isT_rT f0) f1 f2 f3 f4 f5 h0 (hk.below hb hk.lt) hr''))
theorem lossHalf_ok (hf : IsT f F) (hF : 1 < F) (f1 : fits (2 * F) = true) (f2 : fits (F + 1) = true) (f3 : fits (2 * F * (F + 1)⁻¹) = true) (hr : Res w) :
    Calls Tryz.prog 32 #[.string f] w fun e w' => e = .returned (.tuple #[.string (rT (2 * F * (F + 1)⁻¹)), .int .i64 0]) ∧ Below w.heap.size w w' :=
  half_door f _ _ w hr (fun w' _ hr' hk => samp_ok 89 runs_half1 _ f ⟨#[49]⟩ _ 1 w' F hf (by simpa using IsT.one) (low_cmp hF) (by omega) (by omega) hr'
    (fun w'' hb hr'' => half1_any ⟨#[49]⟩ w.heap.size w'' hf f1 f2 f3 (by grind) (hk.below hb hk.lt) hr''))
theorem samp_rng {s : Int} (fv : Value) (hf : IsT f F) (h : cmpQ F 1 ≤ 0 ∨ s < 1 ∨ s > 1000000) (hr : Res w) :
    Calls Tryz.prog 83 #[.int .i64 s, .string f, fv] w fun e w' => e = .returned (.tuple #[.string ⟨#[]⟩, .int .i64 2]) ∧ Below w.heap.size w w' := by
  by_cases h1 : cmpQ F 1 ≤ 0
  · exact samp_rng1 f s fv w F hf (decide_eq_true h1) hr
  · by_cases h2 : s < 1
    · exact samp_rng2 f s fv w F hf (decide_eq_false h1) h2 hr
    · exact samp_rng3 f s fv w F hf (decide_eq_false h1) (by omega) hr
theorem lossAlpha_rng {s : Int} (hf : IsT f F) (h : cmpQ F 1 ≤ 0 ∨ s < 1 ∨ s > 1000000) (hr : Res w) :
    Calls Tryz.prog 30 #[.int .i64 s, .string f] w fun e w' => e = .returned (.tuple #[.string ⟨#[]⟩, .int .i64 2]) ∧ Below w.heap.size w w' :=
  alpha_door f _ _ s w hr (fun w' _ hr' _ => samp_rng w' _ hf h hr')
theorem lossBeta_rng {s : Int} (hf : IsT f F) (h : cmpQ F 1 ≤ 0 ∨ s < 1 ∨ s > 1000000) (hr : Res w) :
    Calls Tryz.prog 31 #[.int .i64 s, .string f] w fun e w' => e = .returned (.tuple #[.string ⟨#[]⟩, .int .i64 2]) ∧ Below w.heap.size w w' :=
  beta_door f _ _ s w hr (fun w' _ hr' _ => samp_rng w' _ hf h hr')
end
end Go.Proofs.YtbfhonhjejeaiaaGreatDoor
namespace Go.Proofs.YtbfhonhjejeaiaaGreatDoor
open Go.RowKit

/-- A later world: what lay before lies as it did. -/
structure LaterW (w : World) where
  W : World
  h : Below w.heap.size w W
instance (w : World) : Nonempty (LaterW w) := ⟨⟨w, Below.refl _ _⟩⟩
theorem wp_region_later {P : Program} {id : Nat} {Q : Exit → Act → World → Prop} {a : Act} {w : World} {l : List Oper} (hm : P.follows .mixedOrders = true) (hB : Region.lexB .any l.toArray = true)
    (h : wpQuiet P l.toArray (fun W => ∃ x : LaterW w, W = x.W) (fun a' => ∀ W, (∃ x : LaterW w, W = x.W) → Q .normal a' W) l a) : (Code.region id l.toArray true).wp P Q a w :=
  wp_region_quiet (C := fun W => ∃ x : LaterW w, W = x.W) hm hB ⟨⟨{ w with drawn := w.drawn + 1 }, ⟨rfl, rfl, rfl, Nat.le_refl _, fun _ _ => rfl⟩⟩, rfl⟩ (by simpa using h)
end Go.Proofs.YtbfhonhjejeaiaaGreatDoor
namespace Go.Proofs.YtbfhonhjejeaiaaGreatDoor
open Go.RowKit Go.Shelf
open Lim

theorem addV {f d f' d' : ByteArray} {a b : LQ} {j k : Nat} (ha : LossIs f d a) (hb : LossIs f' d' b) (sa : SzL j a) (sb : SzL k b) (h : j + k + 1 ≤ maxD) (w : World) (hr : Res w) :
    Calls Tryz.prog 15 #[.agg #[.string f, .string d], .agg #[.string f', .string d']] w fun e w' => e = .returned (.tuple #[.agg #[.string (rT (sumL a b).1), .string (rT (sumL a b).2)], .int .i64 0]) ∧ Below w.heap.size w w' := by
  have := lossAdd_any f d f' d' w ha.f.size ha.d.size hb.f.size hb.d.size hr
  rw [foldR_two (fun a ha => plusL_none ha) (firstL_is ha hb), valL_is ha, valL_is hb, plusL_sum sa sb h] at this
  exact this
theorem maxV {f d f' d' : ByteArray} {a b : LQ} (ha : LossIs f d a) (hb : LossIs f' d' b) (w : World) (hr : Res w) :
    Calls Tryz.prog 17 #[.agg #[.string f, .string d], .agg #[.string f', .string d']] w fun e w' => e = .returned (.tuple #[.agg #[.string (rT (aboveL a b).1), .string (rT (aboveL a b).2)], .int .i64 0]) ∧ Below w.heap.size w w' := by
  have := lossMax_any f d f' d' w ha.f.size ha.d.size hb.f.size hb.d.size hr
  rw [foldR_two (fun a ha => by rw [aboveL_none ha]) (firstL_is ha hb), valL_is ha, valL_is hb] at this
  exact this
theorem fitsV {f d f' d' : ByteArray} {a b : LQ} (ha : LossIs f d a) (hb : LossIs f' d' b) (w : World) (hr : Res w) :
    Calls Tryz.prog 19 #[.agg #[.string f, .string d], .agg #[.string f', .string d']] w fun e w' => e = .returned (.tuple #[.bool (fitsL a b), .int .i64 0]) ∧ Below w.heap.size w w' := by
  have := lossFits_any f d f' d' w ha.f.size ha.d.size hb.f.size hb.d.size hr
  unfold fitsR at this
  rw [if_neg (by rw [firstL_is ha hb]; decide), valL_is ha, valL_is hb] at this
  exact this
theorem LRow.three {w : World} {b : Nat} {t : TypeId} {f d f' d' f'' d'' : ByteArray} (h : Blk w b t #[.string f, .string d, .string f', .string d', .string f'', .string d'']) : LRow w (.slice (some ⟨b, 0, none⟩) 3 3) [(f, d), (f', d'), (f'', d'')] := by
  refine ⟨_, _, rfl, by simp, fun _ => ⟨b, 0, rfl, h.lt, fun j x hj => ?_⟩⟩
  match j with
  | 0 => cases hj; exact ⟨(cellrow h 0 (by simp)).1, (cellrow h 1 (by simp)).1⟩
  | 1 => cases hj; exact ⟨(cellrow h 2 (by simp)).1, (cellrow h 3 (by simp)).1⟩
  | 2 => cases hj; exact ⟨(cellrow h 4 (by simp)).1, (cellrow h 5 (by simp)).1⟩
  | j + 3 => simp at hj
theorem Held.three {w : World} {a b c d e f : ByteArray} (hr : Res w) : Held (((w.alloc (.cells #[.string a, .string b] 24)).alloc (.cells #[.string c, .string d] 24)).alloc (.cells #[.string e, .string f] 24)) [(w.heap.size, a, b), (w.heap.size + 1, c, d), (w.heap.size + 1 + 1, e, f)] := by
  have H0 := At3.new w 24 24 24 #[.string a, .string b] #[.string c, .string d] #[.string e, .string f] hr
  intro x hx
  simp only [List.mem_cons, List.not_mem_nil, or_false] at hx
  rcases hx with rfl | rfl | rfl
  · exact H0.a
  · exact H0.b
  · exact H0.c
end Go.Proofs.YtbfhonhjejeaiaaGreatDoor
namespace Go.Proofs.YtbfhonhjejeaiaaGreatDoor
open Go.RowKit

/-- What comes behind the operation at k waits for it or is apart from it. -/
def fastFree (md : Region.Mode) (ops : Array Oper) (k : Nat) (o : Oper) (l : List Oper) : Bool :=
  l.all fun y => y.after.any (fun e => Region.binds md e && e.on == k) || o.apart ops y
/-- The operations from k on, each waits only for such as came ahead. -/
def fastLex (md : Region.Mode) (ops : Array Oper) : Nat → List Oper → Bool
  | _, [] => true
  | k, o :: l => (o.after.all fun e => !Region.binds md e || decide (e.on < k)) && fastFree md ops k o l && fastLex md ops (k + 1) l
theorem fast_from {md : Region.Mode} {ops : Array Oper} : ∀ (l : List Oper) (k : Nat) (L : Array Bool), fastLex md ops k l = true → (∀ j, l[j]? = ops[k + j]?) → ops.size = k + l.length →
    (∀ i, i < ops.size → L[i]? = some (decide (i < k))) → Region.lexFrom md ops l.length k L = true
  | [], k, L, _, _, hs, hL => by
    have hall : ∀ i ∈ List.range ops.size, ¬ (!L.getD i true && ((ops[i]?).map (·.after.all fun e => !Region.binds md e || L.getD e.on false)).getD false) = true := fun i hi => by
      have hi := List.mem_range.1 hi
      have hk : i < k := by simpa using (show i < k + ([] : List Oper).length from hs ▸ hi)
      have h1 : L.getD i true = true := by rw [Array.getD_eq_getD_getElem?, hL i hi, decide_eq_true hk]; rfl
      rw [h1]; simp
    show (Region.ready md ops L).isEmpty = true
    unfold Region.ready
    rw [List.isEmpty_iff, List.filter_eq_nil_iff]
    exact hall
  | o :: l, k, L, h, hl, hs, hL => by
    unfold fastLex at h
    simp only [Bool.and_eq_true] at h
    obtain ⟨⟨h1, h2⟩, h3⟩ := h
    have h0 : ops[k]? = some o := by simpa using (hl 0).symm
    have hk : k < ops.size := by rw [hs, List.length_cons]; omega
    have get : ∀ i d, i < ops.size → L.getD i d = decide (i < k) := fun i d hi => by rw [Array.getD_eq_getD_getElem?, hL i hi]; rfl
    have hLs : ops.size ≤ L.size := by
      rcases Nat.lt_or_ge L.size ops.size with h | h
      · have := hL L.size h
        rw [Array.getElem?_eq_none (Nat.le_refl _)] at this
        cases this
      · exact h
    show ((Region.ready md ops L).contains k && Region.free md ops L k && Region.lexFrom md ops l.length (k + 1) (L.setIfInBounds k true)) = true
    simp only [Bool.and_eq_true]
    refine ⟨⟨?_, ?_⟩, fast_from l (k + 1) _ h3 (fun j => ?_) (by rw [hs, List.length_cons]; omega) (fun i hi => ?_)⟩
    · rw [List.contains_iff_mem, mem_ready]
      refine ⟨by rw [get k true hk]; exact decide_eq_false (by omega), o, h0, fun e he hb => ?_⟩
      have := Array.all_eq_true'.1 h1 e he
      rw [hb] at this
      have hlt : e.on < k := by simpa using this
      rw [get e.on false (by omega)]
      exact decide_eq_true hlt
    · unfold Region.free
      rw [h0]
      simp only [List.all_eq_true, List.mem_range]
      intro j hj
      by_cases hjk : j = k
      · subst hjk; simp
      · rcases Nat.lt_or_ge j k with hlt | hge
        · rw [get j true hj, decide_eq_true hlt]; simp
        · have hy : l[j - (k + 1)]? = ops[j]? := by
            have := hl (j - (k + 1) + 1)
            rw [List.getElem?_cons_succ] at this
            rw [this]
            congr 1
            omega
          rw [← hy]
          cases hc : l[j - (k + 1)]? with
          | none => simp
          | some y =>
            have := List.all_eq_true.1 h2 y (List.mem_of_getElem? hc)
            simp only [this, Bool.or_true]
    · have := hl (j + 1)
      rw [List.getElem?_cons_succ] at this
      rw [this]
      congr 1
      omega
    · by_cases e : k = i
      · subst e
        rw [Array.getElem?_setIfInBounds_self_of_lt (by omega), decide_eq_true (by omega)]
      · rw [Array.getElem?_setIfInBounds_ne e, hL i hi]
        congr 1
        by_cases h : i < k
        · rw [decide_eq_true h, decide_eq_true (by omega)]
        · rw [decide_eq_false h, decide_eq_false (by omega)]
theorem lexB_fast {md : Region.Mode} {l : List Oper} (hn : Region.noSelect l.toArray = true) (h : fastLex md l.toArray 0 l = true) : Region.lexB md l.toArray = true := by
  unfold Region.lexB
  rw [hn, Bool.true_and, List.size_toArray]
  exact fast_from l 0 _ h (fun j => by simp) (by simp) (fun i hi => by
    have hi' : i < l.length := by simpa using hi
    rw [Array.getElem?_replicate, if_pos hi']
    rfl)
/-- As wp_region_later. -/
theorem wp_region_fast {P : Program} {id : Nat} {Q : Exit → Act → World → Prop} {a : Act} {w : World} {l : List Oper} (hm : P.follows .mixedOrders = true) (hn : Region.noSelect l.toArray = true) (hB : fastLex .any l.toArray 0 l = true)
    (h : wpQuiet P l.toArray (fun W => ∃ x : LaterW w, W = x.W) (fun a' => ∀ W, (∃ x : LaterW w, W = x.W) → Q .normal a' W) l a) : (Code.region id l.toArray true).wp P Q a w :=
  wp_region_later hm (lexB_fast hn hB) h
end Go.Proofs.YtbfhonhjejeaiaaGreatDoor
namespace Go.Proofs.YtbfhonhjejeaiaaGreatDoor
open Go.RowKit Go.Shelf
open Lim

theorem Held.push2 {W : World} {L : List (Nat × ByteArray × ByteArray)} (h : Held W L) (x y u v : ByteArray) : Held ((W.alloc (.cells #[.string x, .string y] 24)).alloc (.cells #[.string u, .string v] 24)) ((W.heap.size + 1, u, v) :: (W.heap.size, x, y) :: L) := by
  have := (h.push x y).push u v
  rwa [World.size_alloc] at this
theorem sum_nil : resL (foldR plusL []) = .tuple #[.agg #[.string ⟨#[49]⟩, .string ⟨#[48]⟩], .int .i64 0] := by
  rw [show foldR plusL [] = .ok noneL from rfl]
  show Value.tuple #[.agg #[.string (rT 1), .string (rT 0)], .int .i64 0] = _
  rw [← IsT.one.text, ← IsT.zero.text]
theorem t_m1 : IsT ⟨#[45, 49]⟩ (-1) := (isT_lit true [49] [49] (by decide +kernel)).1
theorem exx : LossIs ⟨#[49]⟩ ⟨#[50, 47, 51]⟩ (1, 2/3) := ⟨IsT.one, t_2_3, by decide +kernel, by decide +kernel, by decide +kernel⟩
theorem exy : LossIs ⟨#[49]⟩ ⟨#[49, 47, 50]⟩ (1, 1/2) := ⟨IsT.one, (show IsT ⟨#[49, 47, 50]⟩ (1/2) from (isT_lit false [49] [50] (by decide +kernel)).1), by decide +kernel, by decide +kernel, by decide +kernel⟩
theorem Held.wideL {W : World} {L : List (Nat × ByteArray × ByteArray)} (h : Held W L) {b : Nat} {x y : ByteArray} (hm : (b, x, y) ∈ L) : (∀ z : LaterW W, z.W.cell? ⟨b, 0, none⟩ = some (.string x)) ∧ ∀ z : LaterW W, z.W.cell? ⟨b, 1, none⟩ = some (.string y) :=
  ⟨fun z => ((h.later z.h).at hm).1, fun z => ((h.later z.h).at hm).2.1⟩
/-- What Check says of two texts. -/
structure ChkIs (f d : ByteArray) (n : Int) : Prop where
  hf : f.size ≤ 270000
  hd : d.size ≤ 270000
  he : (errL f d : Int) = n
theorem check_at {f d : ByteArray} {n : Int} (h : ChkIs f d n) (w : World) (hr : Res w) : Calls Tryz.prog 25 #[.agg #[.string f, .string d]] w fun e w' => e = .returned (.int .i64 n) ∧ Below w.heap.size w w' := by
  have := lcheck_any f d w h.hf h.hd hr
  rw [h.he] at this
  exact this
theorem chk_K17 : ChkIs ⟨#[49, 47, 50]⟩ ⟨#[48]⟩ 2 := ⟨by decide, by decide, by rw [show errL ⟨#[49, 47, 50]⟩ ⟨#[48]⟩ = 2 from by unfold errL; rw [if_neg (by rw [((show IsT ⟨#[49, 47, 50]⟩ (1/2) from (isT_lit false [49] [50] (by decide +kernel)).1)).err]; decide), if_neg (by rw [(IsT.zero).err]; decide), ((show IsT ⟨#[49, 47, 50]⟩ (1/2) from (isT_lit false [49] [50] (by decide +kernel)).1)).val, (IsT.zero).val, if_pos (by decide +kernel)]]; rfl⟩
theorem chk_K18 : ChkIs ⟨#[50]⟩ ⟨#[50]⟩ 2 := ⟨by decide, by decide, by rw [show errL ⟨#[50]⟩ ⟨#[50]⟩ = 2 from by unfold errL; rw [if_neg (by rw [(t_2).err]; decide), if_neg (by rw [(t_2).err]; decide), (t_2).val, if_pos (by decide +kernel)]]; rfl⟩
theorem chk_K19 : ChkIs ⟨#[50]⟩ ⟨#[45, 49]⟩ 2 := ⟨by decide, by decide, by rw [show errL ⟨#[50]⟩ ⟨#[45, 49]⟩ = 2 from by unfold errL; rw [if_neg (by rw [(t_2).err]; decide), if_neg (by rw [(t_m1).err]; decide), (t_2).val, (t_m1).val, if_pos (by decide +kernel)]]; rfl⟩
theorem chk_K20 : ChkIs ⟨#[]⟩ ⟨#[]⟩ 3 := ⟨by decide, by decide, by rw [show errL ⟨#[]⟩ ⟨#[]⟩ = 3 from by unfold errL; rw [if_pos (by rw [show errQ (⟨#[]⟩ : ByteArray).data.toList = 3 from rfl]; decide)]; rfl]; rfl⟩
theorem chk_K21 : ChkIs ⟨#[49]⟩ ⟨#[48]⟩ 0 := ⟨by decide, by decide, by rw [show errL ⟨#[49]⟩ ⟨#[48]⟩ = 0 from LossIs.err (l := noneL) ⟨IsT.one, IsT.zero, okL_none.one, okL_none.zero, okL_none.top⟩]; rfl⟩
set_option maxRecDepth 100000 in
set_option maxHeartbeats 32000000 in
theorem names_walk (w : World)
    (K0 : Hid (∀ w, Res w → Calls Tryz.prog 15 #[.agg #[.string ⟨#[51, 47, 50]⟩, .string ⟨#[49, 47, 49, 48]⟩], .agg #[.string ⟨#[51, 47, 50]⟩, .string ⟨#[49, 47, 49, 48]⟩]] w fun e w' => e = .returned (.tuple #[.agg #[.string ⟨#[57, 47, 52]⟩, .string ⟨#[49, 47, 53]⟩], .int .i64 0]) ∧ Below w.heap.size w w'))
    (K1 : Hid (∀ w, Res w → Calls Tryz.prog 36 #[.slice none 0 0] w fun e w' => e = .returned (.tuple #[.agg #[.string ⟨#[49]⟩, .string ⟨#[48]⟩], .int .i64 0]) ∧ Below w.heap.size w w'))
    (K2 : Hid (∀ w, Res w → Calls Tryz.prog 21 #[.agg #[.string ⟨#[51, 47, 50]⟩, .string ⟨#[49, 47, 49, 48]⟩], .int .i64 0] w fun e w' => e = .returned (.tuple #[.agg #[.string ⟨#[49]⟩, .string ⟨#[48]⟩], .int .i64 0]) ∧ Below w.heap.size w w'))
    (K3 : Hid (∀ w, Res w → Calls Tryz.prog 21 #[.agg #[.string ⟨#[50]⟩, .string ⟨#[48]⟩], .int .i64 51] w fun e w' => e = .returned (.tuple #[.agg #[.string ⟨#[]⟩, .string ⟨#[]⟩], .int .i64 2]) ∧ Below w.heap.size w w'))
    (K4 : Hid (∀ w, Res w → Calls Tryz.prog 23 #[.agg #[.string ⟨#[50]⟩, .string ⟨#[48]⟩], .string ⟨#[49]⟩] w fun e w' => e = .returned (.tuple #[.agg #[.string ⟨#[50]⟩, .string ⟨#[49]⟩], .int .i64 0]) ∧ Below w.heap.size w w'))
    (K5 : Hid (∀ w, Res w → Calls Tryz.prog 23 #[.agg #[.string ⟨#[50]⟩, .string ⟨#[48]⟩], .string ⟨#[50]⟩] w fun e w' => e = .returned (.tuple #[.agg #[.string ⟨#[]⟩, .string ⟨#[]⟩], .int .i64 2]) ∧ Below w.heap.size w w'))
    (K6 : Hid (∀ w, Res w → Calls Tryz.prog 19 #[.agg #[.string ⟨#[51, 47, 50]⟩, .string ⟨#[49, 47, 49, 48]⟩], .agg #[.string ⟨#[50]⟩, .string ⟨#[48]⟩]] w fun e w' => e = .returned (.tuple #[.bool false, .int .i64 0]) ∧ Below w.heap.size w w'))
    (K7 : Hid (∀ w, Res w → Calls Tryz.prog 19 #[.agg #[.string ⟨#[50]⟩, .string ⟨#[48]⟩], .agg #[.string ⟨#[51, 47, 50]⟩, .string ⟨#[49, 47, 49, 48]⟩]] w fun e w' => e = .returned (.tuple #[.bool false, .int .i64 0]) ∧ Below w.heap.size w w'))
    (K8 : Hid (∀ w, Res w → Calls Tryz.prog 17 #[.agg #[.string ⟨#[51, 47, 50]⟩, .string ⟨#[49, 47, 49, 48]⟩], .agg #[.string ⟨#[50]⟩, .string ⟨#[48]⟩]] w fun e w' => e = .returned (.tuple #[.agg #[.string ⟨#[50]⟩, .string ⟨#[49, 47, 49, 48]⟩], .int .i64 0]) ∧ Below w.heap.size w w'))
    (K9 : Hid (∀ w, Res w → Calls Tryz.prog 30 #[.int .i64 1, .string ⟨#[50]⟩] w fun e w' => e = .returned (.tuple #[.string ⟨#[49, 47, 50]⟩, .int .i64 0]) ∧ Below w.heap.size w w'))
    (K10 : Hid (∀ w, Res w → Calls Tryz.prog 30 #[.int .i64 2, .string ⟨#[51, 47, 50]⟩] w fun e w' => e = .returned (.tuple #[.string ⟨#[54, 47, 55]⟩, .int .i64 0]) ∧ Below w.heap.size w w'))
    (K11 : Hid (∀ w, Res w → Calls Tryz.prog 31 #[.int .i64 1, .string ⟨#[50]⟩] w fun e w' => e = .returned (.tuple #[.string ⟨#[53, 47, 52]⟩, .int .i64 0]) ∧ Below w.heap.size w w'))
    (K12 : Hid (∀ w, Res w → Calls Tryz.prog 32 #[.string ⟨#[50]⟩] w fun e w' => e = .returned (.tuple #[.string ⟨#[52, 47, 51]⟩, .int .i64 0]) ∧ Below w.heap.size w w'))
    (K13 : Hid (∀ w, Res w → Calls Tryz.prog 30 #[.int .i64 1, .string ⟨#[49]⟩] w fun e w' => e = .returned (.tuple #[.string ⟨#[]⟩, .int .i64 2]) ∧ Below w.heap.size w w'))
    (K14 : Hid (∀ w, Res w → Calls Tryz.prog 30 #[.int .i64 0, .string ⟨#[50]⟩] w fun e w' => e = .returned (.tuple #[.string ⟨#[]⟩, .int .i64 2]) ∧ Below w.heap.size w w'))
    (K15 : Hid (∀ w, Res w → Calls Tryz.prog 31 #[.int .i64 1000001, .string ⟨#[50]⟩] w fun e w' => e = .returned (.tuple #[.string ⟨#[]⟩, .int .i64 2]) ∧ Below w.heap.size w w'))
    (K16 : Hid (∀ w, Res w → Calls Tryz.prog 15 #[.agg #[.string ⟨#[49]⟩, .string ⟨#[50, 47, 51]⟩], .agg #[.string ⟨#[49]⟩, .string ⟨#[49, 47, 50]⟩]] w fun e w' => e = .returned (.tuple #[.agg #[.string ⟨#[49]⟩, .string ⟨#[49]⟩], .int .i64 0]) ∧ Below w.heap.size w w'))
    (hr : Res w) :
    Calls Tryz.prog 6 #[] w fun e w' => e = .returned (.bool true) ∧ Below w.heap.size w w' := by
  have D0 := Lib.hid (Held.nil w)
  have B0 := Lib.hid (Below.refl w.heap.size w)
  have R0 := Lib.hid hr
  clear hr
  have TK1 : True := trivial
  have TK2 : True := trivial
  have TK3 : True := trivial
  have TK4 : True := trivial
  have TK5 : True := trivial
  have TK6 : True := trivial
  have TK7 : True := trivial
  have TK8 : True := trivial
  have TK9 : True := trivial
  have TK10 : True := trivial
  have TK11 : True := trivial
  have TK12 : True := trivial
  have TK13 : True := trivial
  have TK14 : True := trivial
  have TK15 : True := trivial
  have TK16 : True := trivial
  have TK17 : True := trivial
  go_enter Tryz.func6, Tryz.ntmps6
  go_wp2_with (first
    | (go_at_call 13; refine (llives_any _ R0.out).mono ?_; rintro e w1 ⟨rfl, hb⟩; have D1 := Lib.hid (Held.later D0.out hb); have B1 := Lib.hid (B0.out.trans (hb.mono B0.out.size)); have R1 := Lib.hid (Res.below R0.out hb); clear hb)
    | (clear TK1; go_at_call 15; refine (K0.out _ ((R1.out.below (below_alloc (Below.refl _ _) _)).below (below_alloc (Below.refl _ _) _))).mono ?_; rintro e w2 ⟨rfl, hb⟩; have D2 := Lib.hid (Held.later (D1.out.push2 ⟨#[51, 47, 50]⟩ ⟨#[49, 47, 49, 48]⟩ ⟨#[50]⟩ ⟨#[48]⟩) hb); have B2 := Lib.hid ((below_alloc (below_alloc B1.out (.cells #[.string ⟨#[51, 47, 50]⟩, .string ⟨#[49, 47, 49, 48]⟩] 24)) (.cells #[.string ⟨#[50]⟩, .string ⟨#[48]⟩] 24)).trans (hb.mono (below_alloc (below_alloc B1.out (.cells #[.string ⟨#[51, 47, 50]⟩, .string ⟨#[49, 47, 49, 48]⟩] 24)) (.cells #[.string ⟨#[50]⟩, .string ⟨#[48]⟩] 24)).size)); have R2 := Lib.hid (Res.below ((R1.out.below (below_alloc (Below.refl _ _) (.cells #[.string ⟨#[51, 47, 50]⟩, .string ⟨#[49, 47, 49, 48]⟩] 24))).below (below_alloc (Below.refl _ _) (.cells #[.string ⟨#[50]⟩, .string ⟨#[48]⟩] 24))) hb); obtain ⟨c2_0a, c2_0b, c2_0l⟩ := D2.out.at (b := w1.heap.size + 1) (x := ⟨#[50]⟩) (y := ⟨#[48]⟩) (by simp); obtain ⟨c2_1a, c2_1b, c2_1l⟩ := D2.out.at (b := w1.heap.size) (x := ⟨#[51, 47, 50]⟩) (y := ⟨#[49, 47, 49, 48]⟩) (by simp); clear hb)
    | (clear TK2; go_at_call 36; refine (K1.out _ (R2.out.below (below_alloc (Below.refl _ _) _))).mono ?_; rintro e w3 ⟨rfl, hb⟩; have D3 := Lib.hid (Held.later (D2.out.push ⟨#[57, 47, 52]⟩ ⟨#[49, 47, 53]⟩) hb); have B3 := Lib.hid ((below_alloc B2.out (.cells #[.string ⟨#[57, 47, 52]⟩, .string ⟨#[49, 47, 53]⟩] 24)).trans (hb.mono (below_alloc B2.out (.cells #[.string ⟨#[57, 47, 52]⟩, .string ⟨#[49, 47, 53]⟩] 24)).size)); have R3 := Lib.hid (Res.below (R2.out.below (below_alloc (Below.refl _ _) (.cells #[.string ⟨#[57, 47, 52]⟩, .string ⟨#[49, 47, 53]⟩] 24))) hb); clear c2_0a c2_0b c2_0l c2_1a c2_1b c2_1l; obtain ⟨c3_0a, c3_0b, c3_0l⟩ := D3.out.at (b := w2.heap.size) (x := ⟨#[57, 47, 52]⟩) (y := ⟨#[49, 47, 53]⟩) (by simp); obtain ⟨c3_1a, c3_1b, c3_1l⟩ := D3.out.at (b := w1.heap.size + 1) (x := ⟨#[50]⟩) (y := ⟨#[48]⟩) (by simp); obtain ⟨c3_2a, c3_2b, c3_2l⟩ := D3.out.at (b := w1.heap.size) (x := ⟨#[51, 47, 50]⟩) (y := ⟨#[49, 47, 49, 48]⟩) (by simp); clear hb)
    | (clear TK3; go_at_call 21; refine (K2.out _ (R3.out.below (below_alloc (Below.refl _ _) _))).mono ?_; rintro e w4 ⟨rfl, hb⟩; have D4 := Lib.hid (Held.later (D3.out.push ⟨#[49]⟩ ⟨#[48]⟩) hb); have B4 := Lib.hid ((below_alloc B3.out (.cells #[.string ⟨#[49]⟩, .string ⟨#[48]⟩] 24)).trans (hb.mono (below_alloc B3.out (.cells #[.string ⟨#[49]⟩, .string ⟨#[48]⟩] 24)).size)); have R4 := Lib.hid (Res.below (R3.out.below (below_alloc (Below.refl _ _) (.cells #[.string ⟨#[49]⟩, .string ⟨#[48]⟩] 24))) hb); clear c3_0a c3_0b c3_0l c3_1a c3_1b c3_1l c3_2a c3_2b c3_2l; obtain ⟨c4_0a, c4_0b, c4_0l⟩ := D4.out.at (b := w3.heap.size) (x := ⟨#[49]⟩) (y := ⟨#[48]⟩) (by simp); obtain ⟨c4_1a, c4_1b, c4_1l⟩ := D4.out.at (b := w2.heap.size) (x := ⟨#[57, 47, 52]⟩) (y := ⟨#[49, 47, 53]⟩) (by simp); obtain ⟨c4_2a, c4_2b, c4_2l⟩ := D4.out.at (b := w1.heap.size + 1) (x := ⟨#[50]⟩) (y := ⟨#[48]⟩) (by simp); obtain ⟨c4_3a, c4_3b, c4_3l⟩ := D4.out.at (b := w1.heap.size) (x := ⟨#[51, 47, 50]⟩) (y := ⟨#[49, 47, 49, 48]⟩) (by simp); clear hb)
    | (clear TK4; go_at_call 21; refine (K3.out _ (R4.out.below (below_alloc (Below.refl _ _) _))).mono ?_; rintro e w5 ⟨rfl, hb⟩; have D5 := Lib.hid (Held.later (D4.out.push ⟨#[49]⟩ ⟨#[48]⟩) hb); have B5 := Lib.hid ((below_alloc B4.out (.cells #[.string ⟨#[49]⟩, .string ⟨#[48]⟩] 24)).trans (hb.mono (below_alloc B4.out (.cells #[.string ⟨#[49]⟩, .string ⟨#[48]⟩] 24)).size)); have R5 := Lib.hid (Res.below (R4.out.below (below_alloc (Below.refl _ _) (.cells #[.string ⟨#[49]⟩, .string ⟨#[48]⟩] 24))) hb); clear c4_0a c4_0b c4_0l c4_1a c4_1b c4_1l c4_2a c4_2b c4_2l c4_3a c4_3b c4_3l; obtain ⟨c5_0a, c5_0b, c5_0l⟩ := D5.out.at (b := w4.heap.size) (x := ⟨#[49]⟩) (y := ⟨#[48]⟩) (by simp); obtain ⟨c5_1a, c5_1b, c5_1l⟩ := D5.out.at (b := w3.heap.size) (x := ⟨#[49]⟩) (y := ⟨#[48]⟩) (by simp); obtain ⟨c5_2a, c5_2b, c5_2l⟩ := D5.out.at (b := w2.heap.size) (x := ⟨#[57, 47, 52]⟩) (y := ⟨#[49, 47, 53]⟩) (by simp); obtain ⟨c5_3a, c5_3b, c5_3l⟩ := D5.out.at (b := w1.heap.size + 1) (x := ⟨#[50]⟩) (y := ⟨#[48]⟩) (by simp); obtain ⟨c5_4a, c5_4b, c5_4l⟩ := D5.out.at (b := w1.heap.size) (x := ⟨#[51, 47, 50]⟩) (y := ⟨#[49, 47, 49, 48]⟩) (by simp); clear hb)
    | (clear TK5; go_at_call 23; refine (K4.out _ (R5.out.below (below_alloc (Below.refl _ _) _))).mono ?_; rintro e w6 ⟨rfl, hb⟩; have D6 := Lib.hid (Held.later (D5.out.push ⟨#[]⟩ ⟨#[]⟩) hb); have B6 := Lib.hid ((below_alloc B5.out (.cells #[.string ⟨#[]⟩, .string ⟨#[]⟩] 24)).trans (hb.mono (below_alloc B5.out (.cells #[.string ⟨#[]⟩, .string ⟨#[]⟩] 24)).size)); have R6 := Lib.hid (Res.below (R5.out.below (below_alloc (Below.refl _ _) (.cells #[.string ⟨#[]⟩, .string ⟨#[]⟩] 24))) hb); clear c5_0a c5_0b c5_0l c5_1a c5_1b c5_1l c5_2a c5_2b c5_2l c5_3a c5_3b c5_3l c5_4a c5_4b c5_4l; obtain ⟨c6_0a, c6_0b, c6_0l⟩ := D6.out.at (b := w5.heap.size) (x := ⟨#[]⟩) (y := ⟨#[]⟩) (by simp); obtain ⟨c6_1a, c6_1b, c6_1l⟩ := D6.out.at (b := w4.heap.size) (x := ⟨#[49]⟩) (y := ⟨#[48]⟩) (by simp); obtain ⟨c6_2a, c6_2b, c6_2l⟩ := D6.out.at (b := w3.heap.size) (x := ⟨#[49]⟩) (y := ⟨#[48]⟩) (by simp); obtain ⟨c6_3a, c6_3b, c6_3l⟩ := D6.out.at (b := w2.heap.size) (x := ⟨#[57, 47, 52]⟩) (y := ⟨#[49, 47, 53]⟩) (by simp); obtain ⟨c6_4a, c6_4b, c6_4l⟩ := D6.out.at (b := w1.heap.size + 1) (x := ⟨#[50]⟩) (y := ⟨#[48]⟩) (by simp); obtain ⟨c6_5a, c6_5b, c6_5l⟩ := D6.out.at (b := w1.heap.size) (x := ⟨#[51, 47, 50]⟩) (y := ⟨#[49, 47, 49, 48]⟩) (by simp); clear hb)
    | (clear TK6; go_at_call 23; refine (K5.out _ (R6.out.below (below_alloc (Below.refl _ _) _))).mono ?_; rintro e w7 ⟨rfl, hb⟩; have D7 := Lib.hid (Held.later (D6.out.push ⟨#[50]⟩ ⟨#[49]⟩) hb); have B7 := Lib.hid ((below_alloc B6.out (.cells #[.string ⟨#[50]⟩, .string ⟨#[49]⟩] 24)).trans (hb.mono (below_alloc B6.out (.cells #[.string ⟨#[50]⟩, .string ⟨#[49]⟩] 24)).size)); have R7 := Lib.hid (Res.below (R6.out.below (below_alloc (Below.refl _ _) (.cells #[.string ⟨#[50]⟩, .string ⟨#[49]⟩] 24))) hb); clear c6_0a c6_0b c6_0l c6_1a c6_1b c6_1l c6_2a c6_2b c6_2l c6_3a c6_3b c6_3l c6_4a c6_4b c6_4l c6_5a c6_5b c6_5l; obtain ⟨c7_0a, c7_0b, c7_0l⟩ := D7.out.at (b := w6.heap.size) (x := ⟨#[50]⟩) (y := ⟨#[49]⟩) (by simp); obtain ⟨c7_1a, c7_1b, c7_1l⟩ := D7.out.at (b := w5.heap.size) (x := ⟨#[]⟩) (y := ⟨#[]⟩) (by simp); obtain ⟨c7_2a, c7_2b, c7_2l⟩ := D7.out.at (b := w4.heap.size) (x := ⟨#[49]⟩) (y := ⟨#[48]⟩) (by simp); obtain ⟨c7_3a, c7_3b, c7_3l⟩ := D7.out.at (b := w3.heap.size) (x := ⟨#[49]⟩) (y := ⟨#[48]⟩) (by simp); obtain ⟨c7_4a, c7_4b, c7_4l⟩ := D7.out.at (b := w2.heap.size) (x := ⟨#[57, 47, 52]⟩) (y := ⟨#[49, 47, 53]⟩) (by simp); obtain ⟨c7_5a, c7_5b, c7_5l⟩ := D7.out.at (b := w1.heap.size + 1) (x := ⟨#[50]⟩) (y := ⟨#[48]⟩) (by simp); obtain ⟨c7_6a, c7_6b, c7_6l⟩ := D7.out.at (b := w1.heap.size) (x := ⟨#[51, 47, 50]⟩) (y := ⟨#[49, 47, 49, 48]⟩) (by simp); clear hb)
    | (clear TK7; go_at_call 19; refine (K6.out _ (R7.out.below (below_alloc (Below.refl _ _) _))).mono ?_; rintro e w8 ⟨rfl, hb⟩; have D8 := Lib.hid (Held.later (D7.out.push ⟨#[]⟩ ⟨#[]⟩) hb); have B8 := Lib.hid ((below_alloc B7.out (.cells #[.string ⟨#[]⟩, .string ⟨#[]⟩] 24)).trans (hb.mono (below_alloc B7.out (.cells #[.string ⟨#[]⟩, .string ⟨#[]⟩] 24)).size)); have R8 := Lib.hid (Res.below (R7.out.below (below_alloc (Below.refl _ _) (.cells #[.string ⟨#[]⟩, .string ⟨#[]⟩] 24))) hb); clear c7_0a c7_0b c7_0l c7_1a c7_1b c7_1l c7_2a c7_2b c7_2l c7_3a c7_3b c7_3l c7_4a c7_4b c7_4l c7_5a c7_5b c7_5l c7_6a c7_6b c7_6l; obtain ⟨c8_0a, c8_0b, c8_0l⟩ := D8.out.at (b := w7.heap.size) (x := ⟨#[]⟩) (y := ⟨#[]⟩) (by simp); obtain ⟨c8_1a, c8_1b, c8_1l⟩ := D8.out.at (b := w6.heap.size) (x := ⟨#[50]⟩) (y := ⟨#[49]⟩) (by simp); obtain ⟨c8_2a, c8_2b, c8_2l⟩ := D8.out.at (b := w5.heap.size) (x := ⟨#[]⟩) (y := ⟨#[]⟩) (by simp); obtain ⟨c8_3a, c8_3b, c8_3l⟩ := D8.out.at (b := w4.heap.size) (x := ⟨#[49]⟩) (y := ⟨#[48]⟩) (by simp); obtain ⟨c8_4a, c8_4b, c8_4l⟩ := D8.out.at (b := w3.heap.size) (x := ⟨#[49]⟩) (y := ⟨#[48]⟩) (by simp); obtain ⟨c8_5a, c8_5b, c8_5l⟩ := D8.out.at (b := w2.heap.size) (x := ⟨#[57, 47, 52]⟩) (y := ⟨#[49, 47, 53]⟩) (by simp); obtain ⟨c8_6a, c8_6b, c8_6l⟩ := D8.out.at (b := w1.heap.size + 1) (x := ⟨#[50]⟩) (y := ⟨#[48]⟩) (by simp); obtain ⟨c8_7a, c8_7b, c8_7l⟩ := D8.out.at (b := w1.heap.size) (x := ⟨#[51, 47, 50]⟩) (y := ⟨#[49, 47, 49, 48]⟩) (by simp); clear hb)
    | (clear TK8; go_at_call 19; refine (K7.out _ R8.out).mono ?_; rintro e w9 ⟨rfl, hb⟩; have D9 := Lib.hid (Held.later D8.out hb); have B9 := Lib.hid (B8.out.trans (hb.mono B8.out.size)); have R9 := Lib.hid (Res.below R8.out hb); clear c8_0a c8_0b c8_0l c8_1a c8_1b c8_1l c8_2a c8_2b c8_2l c8_3a c8_3b c8_3l c8_4a c8_4b c8_4l c8_5a c8_5b c8_5l c8_6a c8_6b c8_6l c8_7a c8_7b c8_7l; obtain ⟨c9_0a, c9_0b, c9_0l⟩ := D9.out.at (b := w7.heap.size) (x := ⟨#[]⟩) (y := ⟨#[]⟩) (by simp); obtain ⟨c9_1a, c9_1b, c9_1l⟩ := D9.out.at (b := w6.heap.size) (x := ⟨#[50]⟩) (y := ⟨#[49]⟩) (by simp); obtain ⟨c9_2a, c9_2b, c9_2l⟩ := D9.out.at (b := w5.heap.size) (x := ⟨#[]⟩) (y := ⟨#[]⟩) (by simp); obtain ⟨c9_3a, c9_3b, c9_3l⟩ := D9.out.at (b := w4.heap.size) (x := ⟨#[49]⟩) (y := ⟨#[48]⟩) (by simp); obtain ⟨c9_4a, c9_4b, c9_4l⟩ := D9.out.at (b := w3.heap.size) (x := ⟨#[49]⟩) (y := ⟨#[48]⟩) (by simp); obtain ⟨c9_5a, c9_5b, c9_5l⟩ := D9.out.at (b := w2.heap.size) (x := ⟨#[57, 47, 52]⟩) (y := ⟨#[49, 47, 53]⟩) (by simp); obtain ⟨c9_6a, c9_6b, c9_6l⟩ := D9.out.at (b := w1.heap.size + 1) (x := ⟨#[50]⟩) (y := ⟨#[48]⟩) (by simp); obtain ⟨c9_7a, c9_7b, c9_7l⟩ := D9.out.at (b := w1.heap.size) (x := ⟨#[51, 47, 50]⟩) (y := ⟨#[49, 47, 49, 48]⟩) (by simp); clear hb)
    | (clear TK9; go_at_call 17; refine (K8.out _ R9.out).mono ?_; rintro e w10 ⟨rfl, hb⟩; have D10 := Lib.hid (Held.later D9.out hb); have B10 := Lib.hid (B9.out.trans (hb.mono B9.out.size)); have R10 := Lib.hid (Res.below R9.out hb); clear c9_0a c9_0b c9_0l c9_1a c9_1b c9_1l c9_2a c9_2b c9_2l c9_3a c9_3b c9_3l c9_4a c9_4b c9_4l c9_5a c9_5b c9_5l c9_6a c9_6b c9_6l c9_7a c9_7b c9_7l; obtain ⟨c10_0a, c10_0b, c10_0l⟩ := D10.out.at (b := w7.heap.size) (x := ⟨#[]⟩) (y := ⟨#[]⟩) (by simp); obtain ⟨c10_1a, c10_1b, c10_1l⟩ := D10.out.at (b := w6.heap.size) (x := ⟨#[50]⟩) (y := ⟨#[49]⟩) (by simp); obtain ⟨c10_2a, c10_2b, c10_2l⟩ := D10.out.at (b := w5.heap.size) (x := ⟨#[]⟩) (y := ⟨#[]⟩) (by simp); obtain ⟨c10_3a, c10_3b, c10_3l⟩ := D10.out.at (b := w4.heap.size) (x := ⟨#[49]⟩) (y := ⟨#[48]⟩) (by simp); obtain ⟨c10_4a, c10_4b, c10_4l⟩ := D10.out.at (b := w3.heap.size) (x := ⟨#[49]⟩) (y := ⟨#[48]⟩) (by simp); obtain ⟨c10_5a, c10_5b, c10_5l⟩ := D10.out.at (b := w2.heap.size) (x := ⟨#[57, 47, 52]⟩) (y := ⟨#[49, 47, 53]⟩) (by simp); obtain ⟨c10_6a, c10_6b, c10_6l⟩ := D10.out.at (b := w1.heap.size + 1) (x := ⟨#[50]⟩) (y := ⟨#[48]⟩) (by simp); obtain ⟨c10_7a, c10_7b, c10_7l⟩ := D10.out.at (b := w1.heap.size) (x := ⟨#[51, 47, 50]⟩) (y := ⟨#[49, 47, 49, 48]⟩) (by simp); clear hb)
    | (clear TK10; go_at_call 30; refine (K9.out _ (R10.out.below (below_alloc (Below.refl _ _) _))).mono ?_; rintro e w11 ⟨rfl, hb⟩; have D11 := Lib.hid (Held.later (D10.out.push ⟨#[50]⟩ ⟨#[49, 47, 49, 48]⟩) hb); have B11 := Lib.hid ((below_alloc B10.out (.cells #[.string ⟨#[50]⟩, .string ⟨#[49, 47, 49, 48]⟩] 24)).trans (hb.mono (below_alloc B10.out (.cells #[.string ⟨#[50]⟩, .string ⟨#[49, 47, 49, 48]⟩] 24)).size)); have R11 := Lib.hid (Res.below (R10.out.below (below_alloc (Below.refl _ _) (.cells #[.string ⟨#[50]⟩, .string ⟨#[49, 47, 49, 48]⟩] 24))) hb); clear c10_0a c10_0b c10_0l c10_1a c10_1b c10_1l c10_2a c10_2b c10_2l c10_3a c10_3b c10_3l c10_4a c10_4b c10_4l c10_5a c10_5b c10_5l c10_6a c10_6b c10_6l c10_7a c10_7b c10_7l; obtain ⟨c11_0a, c11_0b, c11_0l⟩ := D11.out.at (b := w10.heap.size) (x := ⟨#[50]⟩) (y := ⟨#[49, 47, 49, 48]⟩) (by simp); obtain ⟨c11_1a, c11_1b, c11_1l⟩ := D11.out.at (b := w7.heap.size) (x := ⟨#[]⟩) (y := ⟨#[]⟩) (by simp); obtain ⟨c11_2a, c11_2b, c11_2l⟩ := D11.out.at (b := w6.heap.size) (x := ⟨#[50]⟩) (y := ⟨#[49]⟩) (by simp); obtain ⟨c11_3a, c11_3b, c11_3l⟩ := D11.out.at (b := w5.heap.size) (x := ⟨#[]⟩) (y := ⟨#[]⟩) (by simp); obtain ⟨c11_4a, c11_4b, c11_4l⟩ := D11.out.at (b := w4.heap.size) (x := ⟨#[49]⟩) (y := ⟨#[48]⟩) (by simp); obtain ⟨c11_5a, c11_5b, c11_5l⟩ := D11.out.at (b := w3.heap.size) (x := ⟨#[49]⟩) (y := ⟨#[48]⟩) (by simp); obtain ⟨c11_6a, c11_6b, c11_6l⟩ := D11.out.at (b := w2.heap.size) (x := ⟨#[57, 47, 52]⟩) (y := ⟨#[49, 47, 53]⟩) (by simp); obtain ⟨c11_7a, c11_7b, c11_7l⟩ := D11.out.at (b := w1.heap.size + 1) (x := ⟨#[50]⟩) (y := ⟨#[48]⟩) (by simp); obtain ⟨c11_8a, c11_8b, c11_8l⟩ := D11.out.at (b := w1.heap.size) (x := ⟨#[51, 47, 50]⟩) (y := ⟨#[49, 47, 49, 48]⟩) (by simp); clear hb)
    | (clear TK11; go_at_call 30; refine (K10.out _ R11.out).mono ?_; rintro e w12 ⟨rfl, hb⟩; have D12 := Lib.hid (Held.later D11.out hb); have B12 := Lib.hid (B11.out.trans (hb.mono B11.out.size)); have R12 := Lib.hid (Res.below R11.out hb); clear c11_0a c11_0b c11_0l c11_1a c11_1b c11_1l c11_2a c11_2b c11_2l c11_3a c11_3b c11_3l c11_4a c11_4b c11_4l c11_5a c11_5b c11_5l c11_6a c11_6b c11_6l c11_7a c11_7b c11_7l c11_8a c11_8b c11_8l; obtain ⟨c12_0a, c12_0b, c12_0l⟩ := D12.out.at (b := w10.heap.size) (x := ⟨#[50]⟩) (y := ⟨#[49, 47, 49, 48]⟩) (by simp); obtain ⟨c12_1a, c12_1b, c12_1l⟩ := D12.out.at (b := w7.heap.size) (x := ⟨#[]⟩) (y := ⟨#[]⟩) (by simp); obtain ⟨c12_2a, c12_2b, c12_2l⟩ := D12.out.at (b := w6.heap.size) (x := ⟨#[50]⟩) (y := ⟨#[49]⟩) (by simp); obtain ⟨c12_3a, c12_3b, c12_3l⟩ := D12.out.at (b := w5.heap.size) (x := ⟨#[]⟩) (y := ⟨#[]⟩) (by simp); obtain ⟨c12_4a, c12_4b, c12_4l⟩ := D12.out.at (b := w4.heap.size) (x := ⟨#[49]⟩) (y := ⟨#[48]⟩) (by simp); obtain ⟨c12_5a, c12_5b, c12_5l⟩ := D12.out.at (b := w3.heap.size) (x := ⟨#[49]⟩) (y := ⟨#[48]⟩) (by simp); obtain ⟨c12_6a, c12_6b, c12_6l⟩ := D12.out.at (b := w2.heap.size) (x := ⟨#[57, 47, 52]⟩) (y := ⟨#[49, 47, 53]⟩) (by simp); obtain ⟨c12_7a, c12_7b, c12_7l⟩ := D12.out.at (b := w1.heap.size + 1) (x := ⟨#[50]⟩) (y := ⟨#[48]⟩) (by simp); obtain ⟨c12_8a, c12_8b, c12_8l⟩ := D12.out.at (b := w1.heap.size) (x := ⟨#[51, 47, 50]⟩) (y := ⟨#[49, 47, 49, 48]⟩) (by simp); clear hb)
    | (clear TK12; go_at_call 31; refine (K11.out _ R12.out).mono ?_; rintro e w13 ⟨rfl, hb⟩; have D13 := Lib.hid (Held.later D12.out hb); have B13 := Lib.hid (B12.out.trans (hb.mono B12.out.size)); have R13 := Lib.hid (Res.below R12.out hb); clear c12_0a c12_0b c12_0l c12_1a c12_1b c12_1l c12_2a c12_2b c12_2l c12_3a c12_3b c12_3l c12_4a c12_4b c12_4l c12_5a c12_5b c12_5l c12_6a c12_6b c12_6l c12_7a c12_7b c12_7l c12_8a c12_8b c12_8l; obtain ⟨c13_0a, c13_0b, c13_0l⟩ := D13.out.at (b := w10.heap.size) (x := ⟨#[50]⟩) (y := ⟨#[49, 47, 49, 48]⟩) (by simp); obtain ⟨c13_1a, c13_1b, c13_1l⟩ := D13.out.at (b := w7.heap.size) (x := ⟨#[]⟩) (y := ⟨#[]⟩) (by simp); obtain ⟨c13_2a, c13_2b, c13_2l⟩ := D13.out.at (b := w6.heap.size) (x := ⟨#[50]⟩) (y := ⟨#[49]⟩) (by simp); obtain ⟨c13_3a, c13_3b, c13_3l⟩ := D13.out.at (b := w5.heap.size) (x := ⟨#[]⟩) (y := ⟨#[]⟩) (by simp); obtain ⟨c13_4a, c13_4b, c13_4l⟩ := D13.out.at (b := w4.heap.size) (x := ⟨#[49]⟩) (y := ⟨#[48]⟩) (by simp); obtain ⟨c13_5a, c13_5b, c13_5l⟩ := D13.out.at (b := w3.heap.size) (x := ⟨#[49]⟩) (y := ⟨#[48]⟩) (by simp); obtain ⟨c13_6a, c13_6b, c13_6l⟩ := D13.out.at (b := w2.heap.size) (x := ⟨#[57, 47, 52]⟩) (y := ⟨#[49, 47, 53]⟩) (by simp); obtain ⟨c13_7a, c13_7b, c13_7l⟩ := D13.out.at (b := w1.heap.size + 1) (x := ⟨#[50]⟩) (y := ⟨#[48]⟩) (by simp); obtain ⟨c13_8a, c13_8b, c13_8l⟩ := D13.out.at (b := w1.heap.size) (x := ⟨#[51, 47, 50]⟩) (y := ⟨#[49, 47, 49, 48]⟩) (by simp); clear hb)
    | (clear TK13; go_at_call 32; refine (K12.out _ R13.out).mono ?_; rintro e w14 ⟨rfl, hb⟩; have D14 := Lib.hid (Held.later D13.out hb); have B14 := Lib.hid (B13.out.trans (hb.mono B13.out.size)); have R14 := Lib.hid (Res.below R13.out hb); clear c13_0a c13_0b c13_0l c13_1a c13_1b c13_1l c13_2a c13_2b c13_2l c13_3a c13_3b c13_3l c13_4a c13_4b c13_4l c13_5a c13_5b c13_5l c13_6a c13_6b c13_6l c13_7a c13_7b c13_7l c13_8a c13_8b c13_8l; obtain ⟨c14_0a, c14_0b, c14_0l⟩ := D14.out.at (b := w10.heap.size) (x := ⟨#[50]⟩) (y := ⟨#[49, 47, 49, 48]⟩) (by simp); obtain ⟨c14_1a, c14_1b, c14_1l⟩ := D14.out.at (b := w7.heap.size) (x := ⟨#[]⟩) (y := ⟨#[]⟩) (by simp); obtain ⟨c14_2a, c14_2b, c14_2l⟩ := D14.out.at (b := w6.heap.size) (x := ⟨#[50]⟩) (y := ⟨#[49]⟩) (by simp); obtain ⟨c14_3a, c14_3b, c14_3l⟩ := D14.out.at (b := w5.heap.size) (x := ⟨#[]⟩) (y := ⟨#[]⟩) (by simp); obtain ⟨c14_4a, c14_4b, c14_4l⟩ := D14.out.at (b := w4.heap.size) (x := ⟨#[49]⟩) (y := ⟨#[48]⟩) (by simp); obtain ⟨c14_5a, c14_5b, c14_5l⟩ := D14.out.at (b := w3.heap.size) (x := ⟨#[49]⟩) (y := ⟨#[48]⟩) (by simp); obtain ⟨c14_6a, c14_6b, c14_6l⟩ := D14.out.at (b := w2.heap.size) (x := ⟨#[57, 47, 52]⟩) (y := ⟨#[49, 47, 53]⟩) (by simp); obtain ⟨c14_7a, c14_7b, c14_7l⟩ := D14.out.at (b := w1.heap.size + 1) (x := ⟨#[50]⟩) (y := ⟨#[48]⟩) (by simp); obtain ⟨c14_8a, c14_8b, c14_8l⟩ := D14.out.at (b := w1.heap.size) (x := ⟨#[51, 47, 50]⟩) (y := ⟨#[49, 47, 49, 48]⟩) (by simp); clear hb)
    | (clear TK14; go_at_call 30; refine (K13.out _ R14.out).mono ?_; rintro e w15 ⟨rfl, hb⟩; have D15 := Lib.hid (Held.later D14.out hb); have B15 := Lib.hid (B14.out.trans (hb.mono B14.out.size)); have R15 := Lib.hid (Res.below R14.out hb); clear c14_0a c14_0b c14_0l c14_1a c14_1b c14_1l c14_2a c14_2b c14_2l c14_3a c14_3b c14_3l c14_4a c14_4b c14_4l c14_5a c14_5b c14_5l c14_6a c14_6b c14_6l c14_7a c14_7b c14_7l c14_8a c14_8b c14_8l; obtain ⟨c15_0a, c15_0b, c15_0l⟩ := D15.out.at (b := w10.heap.size) (x := ⟨#[50]⟩) (y := ⟨#[49, 47, 49, 48]⟩) (by simp); obtain ⟨c15_1a, c15_1b, c15_1l⟩ := D15.out.at (b := w7.heap.size) (x := ⟨#[]⟩) (y := ⟨#[]⟩) (by simp); obtain ⟨c15_2a, c15_2b, c15_2l⟩ := D15.out.at (b := w6.heap.size) (x := ⟨#[50]⟩) (y := ⟨#[49]⟩) (by simp); obtain ⟨c15_3a, c15_3b, c15_3l⟩ := D15.out.at (b := w5.heap.size) (x := ⟨#[]⟩) (y := ⟨#[]⟩) (by simp); obtain ⟨c15_4a, c15_4b, c15_4l⟩ := D15.out.at (b := w4.heap.size) (x := ⟨#[49]⟩) (y := ⟨#[48]⟩) (by simp); obtain ⟨c15_5a, c15_5b, c15_5l⟩ := D15.out.at (b := w3.heap.size) (x := ⟨#[49]⟩) (y := ⟨#[48]⟩) (by simp); obtain ⟨c15_6a, c15_6b, c15_6l⟩ := D15.out.at (b := w2.heap.size) (x := ⟨#[57, 47, 52]⟩) (y := ⟨#[49, 47, 53]⟩) (by simp); obtain ⟨c15_7a, c15_7b, c15_7l⟩ := D15.out.at (b := w1.heap.size + 1) (x := ⟨#[50]⟩) (y := ⟨#[48]⟩) (by simp); obtain ⟨c15_8a, c15_8b, c15_8l⟩ := D15.out.at (b := w1.heap.size) (x := ⟨#[51, 47, 50]⟩) (y := ⟨#[49, 47, 49, 48]⟩) (by simp); clear hb)
    | (clear TK15; go_at_call 30; refine (K14.out _ R15.out).mono ?_; rintro e w16 ⟨rfl, hb⟩; have D16 := Lib.hid (Held.later D15.out hb); have B16 := Lib.hid (B15.out.trans (hb.mono B15.out.size)); have R16 := Lib.hid (Res.below R15.out hb); clear c15_0a c15_0b c15_0l c15_1a c15_1b c15_1l c15_2a c15_2b c15_2l c15_3a c15_3b c15_3l c15_4a c15_4b c15_4l c15_5a c15_5b c15_5l c15_6a c15_6b c15_6l c15_7a c15_7b c15_7l c15_8a c15_8b c15_8l; obtain ⟨c16_0a, c16_0b, c16_0l⟩ := D16.out.at (b := w10.heap.size) (x := ⟨#[50]⟩) (y := ⟨#[49, 47, 49, 48]⟩) (by simp); obtain ⟨c16_1a, c16_1b, c16_1l⟩ := D16.out.at (b := w7.heap.size) (x := ⟨#[]⟩) (y := ⟨#[]⟩) (by simp); obtain ⟨c16_2a, c16_2b, c16_2l⟩ := D16.out.at (b := w6.heap.size) (x := ⟨#[50]⟩) (y := ⟨#[49]⟩) (by simp); obtain ⟨c16_3a, c16_3b, c16_3l⟩ := D16.out.at (b := w5.heap.size) (x := ⟨#[]⟩) (y := ⟨#[]⟩) (by simp); obtain ⟨c16_4a, c16_4b, c16_4l⟩ := D16.out.at (b := w4.heap.size) (x := ⟨#[49]⟩) (y := ⟨#[48]⟩) (by simp); obtain ⟨c16_5a, c16_5b, c16_5l⟩ := D16.out.at (b := w3.heap.size) (x := ⟨#[49]⟩) (y := ⟨#[48]⟩) (by simp); obtain ⟨c16_6a, c16_6b, c16_6l⟩ := D16.out.at (b := w2.heap.size) (x := ⟨#[57, 47, 52]⟩) (y := ⟨#[49, 47, 53]⟩) (by simp); obtain ⟨c16_7a, c16_7b, c16_7l⟩ := D16.out.at (b := w1.heap.size + 1) (x := ⟨#[50]⟩) (y := ⟨#[48]⟩) (by simp); obtain ⟨c16_8a, c16_8b, c16_8l⟩ := D16.out.at (b := w1.heap.size) (x := ⟨#[51, 47, 50]⟩) (y := ⟨#[49, 47, 49, 48]⟩) (by simp); clear hb)
    | (clear TK16; go_at_call 31; refine (K15.out _ R16.out).mono ?_; rintro e w17 ⟨rfl, hb⟩; have D17 := Lib.hid (Held.later D16.out hb); have B17 := Lib.hid (B16.out.trans (hb.mono B16.out.size)); have R17 := Lib.hid (Res.below R16.out hb); clear c16_0a c16_0b c16_0l c16_1a c16_1b c16_1l c16_2a c16_2b c16_2l c16_3a c16_3b c16_3l c16_4a c16_4b c16_4l c16_5a c16_5b c16_5l c16_6a c16_6b c16_6l c16_7a c16_7b c16_7l c16_8a c16_8b c16_8l; obtain ⟨c17_0a, c17_0b, c17_0l⟩ := D17.out.at (b := w10.heap.size) (x := ⟨#[50]⟩) (y := ⟨#[49, 47, 49, 48]⟩) (by simp); obtain ⟨c17_1a, c17_1b, c17_1l⟩ := D17.out.at (b := w7.heap.size) (x := ⟨#[]⟩) (y := ⟨#[]⟩) (by simp); obtain ⟨c17_2a, c17_2b, c17_2l⟩ := D17.out.at (b := w6.heap.size) (x := ⟨#[50]⟩) (y := ⟨#[49]⟩) (by simp); obtain ⟨c17_3a, c17_3b, c17_3l⟩ := D17.out.at (b := w5.heap.size) (x := ⟨#[]⟩) (y := ⟨#[]⟩) (by simp); obtain ⟨c17_4a, c17_4b, c17_4l⟩ := D17.out.at (b := w4.heap.size) (x := ⟨#[49]⟩) (y := ⟨#[48]⟩) (by simp); obtain ⟨c17_5a, c17_5b, c17_5l⟩ := D17.out.at (b := w3.heap.size) (x := ⟨#[49]⟩) (y := ⟨#[48]⟩) (by simp); obtain ⟨c17_6a, c17_6b, c17_6l⟩ := D17.out.at (b := w2.heap.size) (x := ⟨#[57, 47, 52]⟩) (y := ⟨#[49, 47, 53]⟩) (by simp); obtain ⟨c17_7a, c17_7b, c17_7l⟩ := D17.out.at (b := w1.heap.size + 1) (x := ⟨#[50]⟩) (y := ⟨#[48]⟩) (by simp); obtain ⟨c17_8a, c17_8b, c17_8l⟩ := D17.out.at (b := w1.heap.size) (x := ⟨#[51, 47, 50]⟩) (y := ⟨#[49, 47, 49, 48]⟩) (by simp); clear hb)
    | (clear TK17; go_at_call 15; refine (K16.out _ R17.out).mono ?_; rintro e w18 ⟨rfl, hb⟩; have D18 := Lib.hid (Held.later D17.out hb); have B18 := Lib.hid (B17.out.trans (hb.mono B17.out.size)); have R18 := Lib.hid (Res.below R17.out hb); clear c17_0a c17_0b c17_0l c17_1a c17_1b c17_1l c17_2a c17_2b c17_2l c17_3a c17_3b c17_3l c17_4a c17_4b c17_4l c17_5a c17_5b c17_5l c17_6a c17_6b c17_6l c17_7a c17_7b c17_7l c17_8a c17_8b c17_8l; obtain ⟨c18_0a, c18_0b, c18_0l⟩ := D18.out.at (b := w10.heap.size) (x := ⟨#[50]⟩) (y := ⟨#[49, 47, 49, 48]⟩) (by simp); obtain ⟨c18_1a, c18_1b, c18_1l⟩ := D18.out.at (b := w7.heap.size) (x := ⟨#[]⟩) (y := ⟨#[]⟩) (by simp); obtain ⟨c18_2a, c18_2b, c18_2l⟩ := D18.out.at (b := w6.heap.size) (x := ⟨#[50]⟩) (y := ⟨#[49]⟩) (by simp); obtain ⟨c18_3a, c18_3b, c18_3l⟩ := D18.out.at (b := w5.heap.size) (x := ⟨#[]⟩) (y := ⟨#[]⟩) (by simp); obtain ⟨c18_4a, c18_4b, c18_4l⟩ := D18.out.at (b := w4.heap.size) (x := ⟨#[49]⟩) (y := ⟨#[48]⟩) (by simp); obtain ⟨c18_5a, c18_5b, c18_5l⟩ := D18.out.at (b := w3.heap.size) (x := ⟨#[49]⟩) (y := ⟨#[48]⟩) (by simp); obtain ⟨c18_6a, c18_6b, c18_6l⟩ := D18.out.at (b := w2.heap.size) (x := ⟨#[57, 47, 52]⟩) (y := ⟨#[49, 47, 53]⟩) (by simp); obtain ⟨c18_7a, c18_7b, c18_7l⟩ := D18.out.at (b := w1.heap.size + 1) (x := ⟨#[50]⟩) (y := ⟨#[48]⟩) (by simp); obtain ⟨c18_8a, c18_8b, c18_8l⟩ := D18.out.at (b := w1.heap.size) (x := ⟨#[51, 47, 50]⟩) (y := ⟨#[49, 47, 49, 48]⟩) (by simp); clear hb))
  have DF := Lib.hid (D18.out.push ⟨#[49]⟩ ⟨#[49]⟩)
  have BF := Lib.hid (below_alloc B18.out (.cells #[.string ⟨#[49]⟩, .string ⟨#[49]⟩] 24))
  have RF := Lib.hid (R18.out.below (below_alloc (Below.refl _ _) (.cells #[.string ⟨#[49]⟩, .string ⟨#[49]⟩] 24)))
  clear c18_0a c18_0b c18_0l c18_1a c18_1b c18_1l c18_2a c18_2b c18_2l c18_3a c18_3b c18_3l c18_4a c18_4b c18_4l c18_5a c18_5b c18_5l c18_6a c18_6b c18_6l c18_7a c18_7b c18_7l c18_8a c18_8b c18_8l
  obtain ⟨f0a, f0b⟩ := DF.out.wideL (b := w18.heap.size) (x := ⟨#[49]⟩) (y := ⟨#[49]⟩) (by simp)
  obtain ⟨f1a, f1b⟩ := DF.out.wideL (b := w10.heap.size) (x := ⟨#[50]⟩) (y := ⟨#[49, 47, 49, 48]⟩) (by simp)
  obtain ⟨f2a, f2b⟩ := DF.out.wideL (b := w7.heap.size) (x := ⟨#[]⟩) (y := ⟨#[]⟩) (by simp)
  obtain ⟨f3a, f3b⟩ := DF.out.wideL (b := w6.heap.size) (x := ⟨#[50]⟩) (y := ⟨#[49]⟩) (by simp)
  obtain ⟨f4a, f4b⟩ := DF.out.wideL (b := w5.heap.size) (x := ⟨#[]⟩) (y := ⟨#[]⟩) (by simp)
  obtain ⟨f5a, f5b⟩ := DF.out.wideL (b := w4.heap.size) (x := ⟨#[49]⟩) (y := ⟨#[48]⟩) (by simp)
  obtain ⟨f6a, f6b⟩ := DF.out.wideL (b := w3.heap.size) (x := ⟨#[49]⟩) (y := ⟨#[48]⟩) (by simp)
  obtain ⟨f7a, f7b⟩ := DF.out.wideL (b := w2.heap.size) (x := ⟨#[57, 47, 52]⟩) (y := ⟨#[49, 47, 53]⟩) (by simp)
  obtain ⟨f8a, f8b⟩ := DF.out.wideL (b := w1.heap.size + 1) (x := ⟨#[50]⟩) (y := ⟨#[48]⟩) (by simp)
  obtain ⟨f9a, f9b⟩ := DF.out.wideL (b := w1.heap.size) (x := ⟨#[51, 47, 50]⟩) (y := ⟨#[49, 47, 49, 48]⟩) (by simp)
  generalize w18.alloc (.cells #[.string ⟨#[49]⟩, .string ⟨#[49]⟩] 24) = WF at *
  refine wp_region_fast (by kernel_rfl) (by kernel_rfl) (by kernel_rfl) ?_
  dsimp only [List.append]
  repeat (go_big_quiet_step (first
    | (go_at_call 27; refine (none_any _).mono ?_; rintro e w99 ⟨rfl, hb9⟩; exact ⟨rfl, ⟨⟨w99, (LaterW.h _).trans (hb9.mono (LaterW.h _).size)⟩, rfl⟩⟩)
    | (go_at_call 25; refine (check_at (by first | exact chk_K17 | exact chk_K18 | exact chk_K19 | exact chk_K20 | exact chk_K21) _ (RF.out.below (LaterW.h _))).mono ?_; rintro e w99 ⟨rfl, hb9⟩; exact ⟨rfl, ⟨⟨w99, (LaterW.h _).trans (hb9.mono (LaterW.h _).size)⟩, rfl⟩⟩)))
  refine wpQuiet_nil ?_
  rintro _ ⟨z, rfl⟩
  go_wp2
  go_ret
  exact ⟨rfl, BF.out.trans (z.h.mono BF.out.size)⟩
/-- LossNames returns true. -/
theorem lossNames_any (w : World) (hr : Res w) : Calls Tryz.prog 6 #[] w fun e w' => e = .returned (.bool true) ∧ Below w.heap.size w w' :=
  names_walk w
    (Lib.hid (fun w hr => by
    have h := lossAdd_any ⟨#[51, 47, 50]⟩ ⟨#[49, 47, 49, 48]⟩ ⟨#[51, 47, 50]⟩ ⟨#[49, 47, 49, 48]⟩ w (by decide) (by decide) (by decide) (by decide) hr
    rw [addX exa exa (x := ⟨#[57, 47, 52]⟩) (y := ⟨#[49, 47, 53]⟩) (by rw [show ((3/2, 1/10) : LQ).1 * ((3/2, 1/10) : LQ).1 = 9/4 by decide +kernel]; exact (show IsT ⟨#[57, 47, 52]⟩ (9/4) from (isT_lit false [57] [52] (by decide +kernel)).1)) (fits_lit (by decide +kernel)) (by rw [show minQ (((3/2, 1/10) : LQ).2 + ((3/2, 1/10) : LQ).2) 1 = 1/5 by decide +kernel]; exact (show IsT ⟨#[49, 47, 53]⟩ (1/5) from (isT_lit false [49] [53] (by decide +kernel)).1))] at h
    exact h))
    (Lib.hid (fun w hr => by
    have h := lossSum_any [] (.slice none 0 0) w (LRow.nil w none 0) (fun x hx => by cases hx) hr
    rw [sum_nil] at h
    exact h))
    (Lib.hid (fun w hr => by
    have h := lossGroup_any ⟨#[51, 47, 50]⟩ ⟨#[49, 47, 49, 48]⟩ 0 w (by decide) (by decide) hr
    have e := groupX (k := 0) (x := ⟨#[49]⟩) (y := ⟨#[48]⟩) (p := 1) (s := 0) exa (by decide) rfl IsT.one (fits_lit (by decide +kernel)) (by rw [show minQ (((3/2, 1/10) : LQ).2 * 0) 1 = 0 by decide +kernel]; exact IsT.zero)
    rw [show (((0 : Nat) : Int)) = 0 from rfl] at e
    rw [e] at h
    exact h))
    (Lib.hid (fun w hr => by
    have h := lossGroup_any ⟨#[50]⟩ ⟨#[48]⟩ 51 w (by decide) (by decide) hr
    unfold groupR at h
    rw [if_neg (by rw [exb.err]; decide), if_pos (by decide)] at h
    exact h))
    (Lib.hid (fun w hr => by
    have h := lossLate_any ⟨#[50]⟩ ⟨#[48]⟩ ⟨#[49]⟩ w (by decide) (by decide) (by decide) hr (fun _ _ => by rw [valL_is exb, IsT.one.val]; exact ⟨fits_lit (by decide +kernel), fits_lit (by decide +kernel), fits_lit (by decide +kernel)⟩)
    rw [lateX (x := ⟨#[49]⟩) exb IsT.one (by decide +kernel) (by decide +kernel) (fits_lit (by decide +kernel)) (fits_lit (by decide +kernel)) (fits_lit (by decide +kernel)) (by rw [show minQ (((2, 0) : LQ).2 + (((2, 0) : LQ).1 + 1) * 1) 1 = 1 by decide +kernel]; exact IsT.one)] at h
    exact h))
    (Lib.hid (fun w hr => by
    have h := lossLate_any ⟨#[50]⟩ ⟨#[48]⟩ ⟨#[50]⟩ w (by decide) (by decide) (by decide) hr (fun _ _ => by rw [valL_is exb, t_2.val]; exact ⟨fits_lit (by decide +kernel), fits_lit (by decide +kernel), fits_lit (by decide +kernel)⟩)
    unfold lateR at h
    rw [if_neg (by rw [exb.err]; decide), if_neg (by rw [t_2.err]; decide), t_2.val, if_pos (by decide +kernel)] at h
    exact h))
    (Lib.hid (fun w hr => by
    have h := fitsV exa exb w hr
    rw [show fitsL (3/2, 1/10) (2, 0) = false by decide +kernel] at h
    exact h))
    (Lib.hid (fun w hr => by
    have h := fitsV exb exa w hr
    rw [show fitsL (2, 0) (3/2, 1/10) = false by decide +kernel] at h
    exact h))
    (Lib.hid (fun w hr => by
    have h := maxV exa exb w hr
    rw [show aboveL (3/2, 1/10) (2, 0) = (2, 1/10) by decide +kernel] at h
    rw [show ((2, 1/10) : LQ).1 = 2 from rfl, show ((2, 1/10) : LQ).2 = 1/10 from rfl, ← t_2.text, ← t_1_10.text] at h
    exact h))
    (Lib.hid (fun w hr => by
    have h := lossAlpha_one w t_2 (by decide +kernel) (fits_lit (by decide +kernel)) hr
    rw [show (2 : Rat)⁻¹ = 1/2 by decide +kernel, ← ((show IsT ⟨#[49, 47, 50]⟩ (1/2) from (isT_lit false [49] [50] (by decide +kernel)).1)).text] at h
    exact h))
    (Lib.hid (fun w hr => by
    have h := lossAlpha_more (s := 2) w (by decide) (by decide) t_3_2 (by decide +kernel) (fits_lit (by decide +kernel)) (fits_lit (by decide +kernel)) (fits_lit (by decide +kernel)) (fits_lit (by decide +kernel)) (fits_lit (by decide +kernel)) (by decide +kernel) hr
    rw [show ((2 : Int) : Rat) * (3/2) * (((2 : Int) : Rat) * (3/2) + 3/2 + -1)⁻¹ = 6/7 by decide +kernel, ← ((show IsT ⟨#[54, 47, 55]⟩ (6/7) from (isT_lit false [54] [55] (by decide +kernel)).1)).text] at h
    exact h))
    (Lib.hid (fun w hr => by
    have h := lossBeta_ok (s := 1) w (by decide) (by decide) t_2 (by decide +kernel) (fits_lit (by decide +kernel)) (fits_lit (by decide +kernel)) (fits_lit (by decide +kernel)) (fits_lit (by decide +kernel)) (fits_lit (by decide +kernel)) (fits_lit (by decide +kernel)) (by decide +kernel) hr
    rw [show 1 + ((2 : Rat) + -1) * ((((1 : Int) : Rat) + ((1 : Int) : Rat)) * 2)⁻¹ = 5/4 by decide +kernel, ← ((show IsT ⟨#[53, 47, 52]⟩ (5/4) from (isT_lit false [53] [52] (by decide +kernel)).1)).text] at h
    exact h))
    (Lib.hid (fun w hr => by
    have h := lossHalf_ok w t_2 (by decide +kernel) (fits_lit (by decide +kernel)) (fits_lit (by decide +kernel)) (fits_lit (by decide +kernel)) hr
    rw [show (2 : Rat) * 2 * (2 + 1)⁻¹ = 4/3 by decide +kernel, ← ((show IsT ⟨#[52, 47, 51]⟩ (4/3) from (isT_lit false [52] [51] (by decide +kernel)).1)).text] at h
    exact h))
    (Lib.hid (fun w hr => lossAlpha_rng w IsT.one (.inl (by decide +kernel)) hr))
    (Lib.hid (fun w hr => lossAlpha_rng w t_2 (.inr (.inl (by decide))) hr))
    (Lib.hid (fun w hr => lossBeta_rng w t_2 (.inr (.inr (by decide))) hr))
    (Lib.hid (fun w hr => by
    have h := lossAdd_any ⟨#[49]⟩ ⟨#[50, 47, 51]⟩ ⟨#[49]⟩ ⟨#[49, 47, 50]⟩ w (by decide) (by decide) (by decide) (by decide) hr
    rw [addX exx exy (x := ⟨#[49]⟩) (y := ⟨#[49]⟩) (by rw [show ((1, 2/3) : LQ).1 * ((1, 1/2) : LQ).1 = 1 by decide +kernel]; exact IsT.one) (fits_lit (by decide +kernel)) (by rw [show minQ (((1, 2/3) : LQ).2 + ((1, 1/2) : LQ).2) 1 = 1 by decide +kernel]; exact IsT.one)] at h
    exact h))
    hr
end Go.Proofs.YtbfhonhjejeaiaaGreatDoor
