/- rat: Parts, Int; the natural numbers' reference: both, number, Mul, Gcd. loss.sampled, Alpha, Beta and Half, where no number on the way is too long. What Alpha, Beta and Half return for good parameters, and where a parameter is out of its range. The statements' Pick. law09.factor and the walk of LossKeeps (printed by mklkeep.py). The plain law of LossKeeps: what Alpha, Beta and Half keep. LossKeeps returns true at every input: the plain law joined to the walk. -/
import Derived.Test.YtbfhonhjejeaiaaGreatDoorRb10
import Derived.Test.YtbfhonhjejeaiaaGreatDoorRb11
import Derived.Test.YtbfhonhjejeaiaaGreatDoorRb15
import Derived.Test.YtbfhonhjejeaiaaGreatDoorRb03
import Derived.Test.YtbfhonhjejeaiaaGreatDoorRb01
import Derived.Test.YtbfhonhjejeaiaaGreatDoorRb13
import Derived.Test.YtbfhonhjejeaiaaGreatDoorRb09
namespace Go.Proofs.YtbfhonhjejeaiaaGreatDoor
open Go.RowKit Go.Shelf
open Lim

/-- What Parts returns. -/
def partsQ (a : List UInt8) : List UInt8 × List UInt8 × Nat := if errQ a ≠ 0 then ([], [], errQ a) else ((cutQ a).1, (cutQ a).2.getD [49], 0)
def resP (x : List UInt8 × List UInt8 × Nat) : Value := .tuple #[.string ⟨x.1.toArray⟩, .string ⟨x.2.1.toArray⟩, .int .i64 (x.2.2 : Int)]
/-- The texts of a number's parts. -/
def numT (p : Rat) : ByteArray := ⟨((if ng p then [45] else []) ++ Lib.decDigits (nm p)).toArray⟩
def denT (p : Rat) : ByteArray := ⟨(Lib.decDigits p.den).toArray⟩
set_option maxRecDepth 100000 in
/-- rat.Int. -/
theorem ratInt_any (n : Int) (w : World) (hr : Res w) (h0 : -9223372036854775808 ≤ n) (h1 : n ≤ 9223372036854775807) :
    Calls Tryz.prog 106 #[.int .i64 n] w fun e w' => e = .returned (.string ⟨(Lib.itoa n).toArray⟩) ∧ Below w.heap.size w w' := by
  have HC := Lib.hid (Tryz.strconv_Itoa n h0 h1 w hr.tab)
  generalize Lib.itoa n = l at *
  clear hr
  go_enter Tryz.func106, Tryz.ntmps106
  go_wp2_with (go_at_call 149; refine HC.out.mono ?_; rintro e w1 ⟨rfl, k, os, rfl⟩)
  go_ret
  exact ⟨rfl, Lib.below_grow _ _ (Nat.le_refl _) _ _⟩
theorem itoa_text (n : Int) : Lib.itoa n = ratText (n : Rat) := by
  unfold Lib.itoa ratText ng nm
  rw [Rat.num_intCast, Rat.den_intCast]
  by_cases h : n < 0
  · simp [h]
  · have : n.toNat = n.natAbs := by omega
    simp [h, this]
theorem intT {c : ByteArray} (n : Int) (w : World) (hc : IsT c (n : Rat)) (hr : Res w) (h0 : -9223372036854775808 ≤ n) (h1 : n ≤ 9223372036854775807) :
    Calls Tryz.prog 106 #[.int .i64 n] w fun e w' => e = .returned (.string c) ∧ Below w.heap.size w w' := by
  refine (ratInt_any n w hr h0 h1).mono ?_
  rintro e w' ⟨rfl, h⟩
  refine ⟨?_, h⟩
  rw [itoa_text, ← hc.1]

/-! ### the reference of natural numbers -/
/-- A natural number's text, or the error of one that is too long. -/
def outN (n : Nat) : List UInt8 × Nat := if maxD < Lib.nDigits n then ([], 5) else (Lib.decDigits n, 0)
def twoN (f : Nat → Nat → List UInt8 × Nat) (a b : List UInt8) : List UInt8 × Nat := if errN a ≠ 0 then ([], errN a) else if errN b ≠ 0 then ([], errN b) else f (dv a) (dv b)
end Go.Proofs.YtbfhonhjejeaiaaGreatDoor
namespace Go.Proofs.YtbfhonhjejeaiaaGreatDoor
open Go.RowKit Go.Shelf
open Lim

set_option maxRecDepth 100000 in
set_option maxHeartbeats 4000000 in
theorem samp_ok (FN : FuncId) (hrun : Runs FN) (caps : Array Value) (f st rv : ByteArray) (s : Int) (w : World) (F : Rat) (hf : IsT f F) (hst : IsT st (s : Rat)) (d1 : decide (cmpQ F 1 ≤ 0) = false) (hs : 1 ≤ s) (hs2 : s ≤ 1000000) (hr : Res w)
    (hF : ∀ w', Below w.heap.size w w' → Res w' → Calls Tryz.prog FN (#[.string st] ++ caps) w' fun e w'' => e = .returned (.string rv) ∧ Below w'.heap.size w' w'') :
    Calls Tryz.prog 83 #[.int .i64 s, .string f, .func (.func FN) #[] caps] w fun e w' => e = .returned (.tuple #[.string rv, .int .i64 0]) ∧ Below w.heap.size w w' := by
  have HK := Lib.hid (Blk.new w 27 #[.int .i64 0])
  have HB := Lib.hid (below_alloc (Below.refl w.heap.size w) (.cells #[.int .i64 0] 27))
  have HR := Lib.hid (hr.below HB.out)
  have HC := Lib.hid (fun w hr => checkT w hf hr)
  have HO := Lib.hid (fun w hr => lorder_any w hf IsT.one hr)
  have HI := Lib.hid (fun w hr => intT s w hst hr (by omega) (by omega))
  have HF := Lib.hid hF
  generalize cmpQ F 1 = x at *
  have d2 : decide (s < 1) = false := decide_eq_false (by omega)
  have d3 : decide (1000000 < s) = false := decide_eq_false (by omega)
  have hrn := hrun
  unfold Runs at hrn
  clear hf hr hF hrun hst hs hs2
  go_enter_defers Tryz.func83, Tryz.ntmps83
  go_wp2_with (first
    | (go_at_call 81; refine (HC.out _ HR.out).mono ?_; rintro e w1 ⟨rfl, hb⟩; have HK1 := Lib.hid (HK.out.below hb HK.out.lt); have HB1 := Lib.hid (HB.out.trans (hb.mono HB.out.size)); have HR1 := Lib.hid (HR.out.below hb); clear hb)
    | (go_at_call 80; refine (mustI_ok _ _).mono ?_; rintro e w9 ⟨rfl, hw⟩; subst hw)
    | (go_at_call 74; refine (HO.out _ HR1.out).mono ?_; rintro e w2 ⟨rfl, hb⟩; have HK2 := Lib.hid (HK1.out.below hb HK1.out.lt); have HB2 := Lib.hid (HB1.out.trans (hb.mono HB1.out.size)); have HR2 := Lib.hid (HR1.out.below hb); clear hb)
    | (go_at_call 106; refine (HI.out _ HR2.out).mono ?_; rintro e w3 ⟨rfl, hb⟩; have HK3 := Lib.hid (HK2.out.below hb HK2.out.lt); have HB3 := Lib.hid (HB2.out.trans (hb.mono HB2.out.size)); have HR3 := Lib.hid (HR2.out.below hb); clear hb))
  refine (HF.out _ HB3.out HR3.out).mono ?_
  rintro e w4 ⟨rfl, hb⟩
  have HK4 := Lib.hid (HK3.out.below hb HK3.out.lt); have HB4 := Lib.hid (HB3.out.trans (hb.mono HB3.out.size)); have HR4 := Lib.hid (HR3.out.below hb); have ce := cell0 HK4.out; have ze := HK4.out.frozen 0; clear hb
  go_wp2
  exact door_ret (v := .tuple #[.string rv, .int .i64 0]) (run_tmp_errno rfl rfl rfl (HK4.out.set_ 0 (.int .i64 0))) ⟨rfl, HB4.out.setCell (Nat.le_refl _) _⟩
theorem t_two : IsT ⟨#[50]⟩ 2 := (isT_lit false [50] [49] (by decide +kernel)).1
set_option maxRecDepth 100000 in
set_option maxHeartbeats 4000000 in
theorem alpha1_one {f : ByteArray} {F : Rat} (g : Nat) (w : World) (hf : IsT f F) (h0 : F ≠ 0) (hi : fits F⁻¹ = true) (hk : Blk w g 22 #[.string f]) (hr : Res w) :
    Calls Tryz.prog 84 #[.string ⟨#[49]⟩, .pointer (some ⟨g, 0, none⟩)] w fun e w' => e = .returned (.string (rT F⁻¹)) ∧ Below w.heap.size w w' := by
  have HK := Lib.hid hk
  have HB := Lib.hid (Below.refl w.heap.size w)
  have HR := Lib.hid hr
  have ce := cell0 hk
  have HI := Lib.hid (fun w hr => invT w hf (isT_rT hi) h0 hr)
  generalize rT F⁻¹ = r at *
  clear hf h0 hi hr hk
  go_enter Tryz.func84, Tryz.ntmps84
  go_wp2_with (first
    | (go_at_call 85; refine (HI.out _ HR.out).mono ?_; rintro e w1 ⟨rfl, hb⟩; have HK1 := Lib.hid (HK.out.below hb HK.out.lt); have HB1 := Lib.hid (HB.out.trans (hb.mono HB.out.size)); have HR1 := Lib.hid (HR.out.below hb); have ce1 := cell0 HK1.out; clear hb)
    | (go_at_call 76; refine (mustN_ok _ _).mono ?_; rintro e w9 ⟨rfl, hw⟩; subst hw))
  go_ret
  exact ⟨rfl, HB1.out⟩
set_option maxRecDepth 100000 in
set_option maxHeartbeats 4000000 in
theorem alpha1_more {f st : ByteArray} {F S : Rat} (g : Nat) (w : World) (hf : IsT f F) (hst : IsT st S) (hne : (st.toList == [49]) = false) (f1 : fits (S * F) = true) (f2 : fits (S * F + F) = true) (f3 : fits (S * F + F + -1) = true) (f4 : fits (S * F * (S * F + F + -1)⁻¹) = true) (h0 : S * F + F + -1 ≠ 0) (hk : Blk w g 22 #[.string f]) (hr : Res w) :
    Calls Tryz.prog 84 #[.string st, .pointer (some ⟨g, 0, none⟩)] w fun e w' => e = .returned (.string (rT (S * F * (S * F + F + -1)⁻¹))) ∧ Below w.heap.size w w' := by
  have HK := Lib.hid hk
  have HB := Lib.hid (Below.refl w.heap.size w)
  have HR := Lib.hid hr
  have ce := cell0 hk
  have HM := Lib.hid (fun w hr => mulT w hst hf (isT_rT f1) hr)
  have HA := Lib.hid (fun w hr => addT w (isT_rT f1) hf (isT_rT f2) hr)
  have HS := Lib.hid (fun w hr => subT w (isT_rT f2) IsT.one (isT_rT f3) hr)
  have HD := Lib.hid (fun w hr => divT w (isT_rT f1) (isT_rT f3) (isT_rT f4) h0 hr)
  generalize rT (S * F * (S * F + F + -1)⁻¹) = r4 at *
  generalize rT (S * F + F + -1) = r3 at *
  generalize rT (S * F + F) = r2 at *
  generalize rT (S * F) = r1 at *
  clear hf hst h0 f1 f2 f3 f4 hr hk
  go_enter Tryz.func84, Tryz.ntmps84
  go_wp2_with (first
    | (go_at_call 78; refine (HM.out _ HR.out).mono ?_; rintro e w1 ⟨rfl, hb⟩; have HK1 := Lib.hid (HK.out.below hb HK.out.lt); have HB1 := Lib.hid (HB.out.trans (hb.mono HB.out.size)); have HR1 := Lib.hid (HR.out.below hb); have ce1 := cell0 HK1.out; clear hb)
    | (go_at_call 77; refine (HA.out _ HR1.out).mono ?_; rintro e w2 ⟨rfl, hb⟩; have HK2 := Lib.hid (HK1.out.below hb HK1.out.lt); have HB2 := Lib.hid (HB1.out.trans (hb.mono HB1.out.size)); have HR2 := Lib.hid (HR1.out.below hb); have ce2 := cell0 HK2.out; clear hb)
    | (go_at_call 87; refine (HS.out _ HR2.out).mono ?_; rintro e w3 ⟨rfl, hb⟩; have HK3 := Lib.hid (HK2.out.below hb HK2.out.lt); have HB3 := Lib.hid (HB2.out.trans (hb.mono HB2.out.size)); have HR3 := Lib.hid (HR2.out.below hb); have ce3 := cell0 HK3.out; clear hb)
    | (go_at_call 86; refine (HD.out _ HR3.out).mono ?_; rintro e w4 ⟨rfl, hb⟩; have HK4 := Lib.hid (HK3.out.below hb HK3.out.lt); have HB4 := Lib.hid (HB3.out.trans (hb.mono HB3.out.size)); have HR4 := Lib.hid (HR3.out.below hb); have ce4 := cell0 HK4.out; clear hb)
    | (go_at_call 76; refine (mustN_ok _ _).mono ?_; rintro e w9 ⟨rfl, hw⟩; subst hw))
  go_ret
  exact ⟨rfl, HB4.out⟩
set_option maxRecDepth 100000 in
set_option maxHeartbeats 4000000 in
theorem half1_any {f : ByteArray} {F : Rat} (st : ByteArray) (g : Nat) (w : World) (hf : IsT f F) (f1 : fits (2 * F) = true) (f2 : fits (F + 1) = true) (f3 : fits (2 * F * (F + 1)⁻¹) = true) (h0 : F + 1 ≠ 0) (hk : Blk w g 22 #[.string f]) (hr : Res w) :
    Calls Tryz.prog 89 #[.string st, .pointer (some ⟨g, 0, none⟩)] w fun e w' => e = .returned (.string (rT (2 * F * (F + 1)⁻¹))) ∧ Below w.heap.size w w' := by
  have HK := Lib.hid hk
  have HB := Lib.hid (Below.refl w.heap.size w)
  have HR := Lib.hid hr
  have ce := cell0 hk
  have HM := Lib.hid (fun w hr => mulT w t_two hf (isT_rT f1) hr)
  have HA := Lib.hid (fun w hr => addT w hf IsT.one (isT_rT f2) hr)
  have HD := Lib.hid (fun w hr => divT w (isT_rT f1) (isT_rT f2) (isT_rT f3) h0 hr)
  generalize rT (2 * F * (F + 1)⁻¹) = r3 at *
  generalize rT (F + 1) = r2 at *
  generalize rT (2 * F) = r1 at *
  clear hf h0 f1 f2 f3 hr hk
  go_enter Tryz.func89, Tryz.ntmps89
  go_wp2_with (first
    | (go_at_call 78; refine (HM.out _ HR.out).mono ?_; rintro e w1 ⟨rfl, hb⟩; have HK1 := Lib.hid (HK.out.below hb HK.out.lt); have HB1 := Lib.hid (HB.out.trans (hb.mono HB.out.size)); have HR1 := Lib.hid (HR.out.below hb); have ce1 := cell0 HK1.out; clear hb)
    | (go_at_call 77; refine (HA.out _ HR1.out).mono ?_; rintro e w2 ⟨rfl, hb⟩; have HK2 := Lib.hid (HK1.out.below hb HK1.out.lt); have HB2 := Lib.hid (HB1.out.trans (hb.mono HB1.out.size)); have HR2 := Lib.hid (HR1.out.below hb); have ce2 := cell0 HK2.out; clear hb)
    | (go_at_call 86; refine (HD.out _ HR2.out).mono ?_; rintro e w3 ⟨rfl, hb⟩; have HK3 := Lib.hid (HK2.out.below hb HK2.out.lt); have HB3 := Lib.hid (HB2.out.trans (hb.mono HB2.out.size)); have HR3 := Lib.hid (HR2.out.below hb); have ce3 := cell0 HK3.out; clear hb)
    | (go_at_call 76; refine (mustN_ok _ _).mono ?_; rintro e w9 ⟨rfl, hw⟩; subst hw))
  go_ret
  exact ⟨rfl, HB3.out⟩
set_option maxRecDepth 100000 in
set_option maxHeartbeats 4000000 in
theorem beta1_any {f st : ByteArray} {F S : Rat} (g : Nat) (w : World) (hf : IsT f F) (hst : IsT st S) (f1 : fits (S + S) = true) (f2 : fits ((S + S) * F) = true) (f3 : fits (F + -1) = true) (f4 : fits ((F + -1) * ((S + S) * F)⁻¹) = true) (f5 : fits (1 + (F + -1) * ((S + S) * F)⁻¹) = true) (h0 : (S + S) * F ≠ 0) (hk : Blk w g 22 #[.string f]) (hr : Res w) :
    Calls Tryz.prog 88 #[.string st, .pointer (some ⟨g, 0, none⟩)] w fun e w' => e = .returned (.string (rT (1 + (F + -1) * ((S + S) * F)⁻¹))) ∧ Below w.heap.size w w' := by
  have HK := Lib.hid hk
  have HB := Lib.hid (Below.refl w.heap.size w)
  have HR := Lib.hid hr
  have ce := cell0 hk
  have HA := Lib.hid (fun w hr => addT w hst hst (isT_rT f1) hr)
  have HM := Lib.hid (fun w hr => mulT w (isT_rT f1) hf (isT_rT f2) hr)
  have HS := Lib.hid (fun w hr => subT w hf IsT.one (isT_rT f3) hr)
  have HD := Lib.hid (fun w hr => divT w (isT_rT f3) (isT_rT f2) (isT_rT f4) h0 hr)
  have HE := Lib.hid (fun w hr => addT w IsT.one (isT_rT f4) (isT_rT f5) hr)
  generalize rT (1 + (F + -1) * ((S + S) * F)⁻¹) = r5 at *
  generalize rT ((F + -1) * ((S + S) * F)⁻¹) = r4 at *
  generalize rT (F + -1) = r3 at *
  generalize rT ((S + S) * F) = r2 at *
  generalize rT (S + S) = r1 at *
  clear hf hst h0 f1 f2 f3 f4 f5 hr
  have hmx : Tryz.prog.follows .mixedOrders = true := by kernel_rfl
  have x0 : ∀ x : SameAt w (fun k => k < w.heap.size), x.W.cell? ⟨g, 0, none⟩ = some (.string f) := fun x => x.cell hk.lt ce
  clear hk
  go_enter Tryz.func88, Tryz.ntmps88
  go_wp2
  refine wpIn_wide.1 (wpIn_stage (n := 3) (IsSame w (fun k => k < w.heap.size)) [0, 1, 3, 4, 6, 8, 9] [] hmx (by kernel_rfl) (isSame_of fun _ _ => rfl) ?_)
  change wpStage _ _ _ _ _ _ _ _ (9 + 3) _ _ _
  refine stage_reads [0, 1, 6] 9 _ _ (by kernel_rfl) ?_
  change wpQuietIn _ _ _ _ (fun W' => ∃ x : SameAt w (fun k => k < w.heap.size), W' = x.W) _ _ _
  simp only [pick_cons, pick_nil, List.getElem?_cons_zero, List.getElem?_cons_succ, Option.elim_some]
  repeat (gi_big_quiet_step (fail))
  refine wpQuietIn_nil ?_
  refine stage_one 2 (by kernel_rfl) rfl ?_
  gi_wp2
  refine ⟨trivial, ?_⟩
  refine (callsIn_wide.2 (HA.out _ (HR.out.below (below_drew (Below.refl _ _))))).mono ?_
  rintro e w1 ⟨rfl, hb⟩
  have HB1 := Lib.hid (show Below w.heap.size w w1 from below_undrew hb)
  clear hb
  gi_wp2
  refine stage_post (isSame_below HB1.out (fun k hk => hk)) ?_
  change wpStage _ _ _ _ _ _ _ _ (6 + 2) _ _ _
  refine stage_reads [3, 4] 6 _ _ (by kernel_rfl) ?_
  change wpQuietIn _ _ _ _ (fun W' => ∃ x : SameAt w (fun k => k < w.heap.size), W' = x.W) _ _ _
  simp only [pick_cons, pick_nil, List.getElem?_cons_zero, List.getElem?_cons_succ, Option.elim_some]
  repeat (gi_big_quiet_step (fail))
  refine wpQuietIn_nil ?_
  refine stage_one 5 (by kernel_rfl) rfl ?_
  gi_wp2
  refine ⟨trivial, ?_⟩
  refine (callsIn_wide.2 (mustN_ok _ _)).mono ?_
  rintro e w9 ⟨rfl, hw⟩
  subst hw
  gi_wp2
  refine stage_post (isSame_below HB1.out (fun k hk => hk)) ?_
  refine stage_one 7 (by kernel_rfl) rfl ?_
  gi_wp2
  refine ⟨trivial, ?_⟩
  refine (callsIn_wide.2 (HM.out _ (HR.out.below HB1.out))).mono ?_
  rintro e w2 ⟨rfl, hb⟩
  have HB2 := Lib.hid (HB1.out.trans (hb.mono HB1.out.size))
  clear hb
  gi_wp2
  refine stage_post (isSame_below HB2.out (fun k hk => hk)) ?_
  change wpStage _ _ _ _ _ _ _ _ (2 + 2) _ _ _
  refine stage_reads [8, 9] 2 _ _ (by kernel_rfl) ?_
  change wpQuietIn _ _ _ _ (fun W' => ∃ x : SameAt w (fun k => k < w.heap.size), W' = x.W) _ _ _
  simp only [pick_cons, pick_nil, List.getElem?_cons_zero, List.getElem?_cons_succ, Option.elim_some]
  repeat (gi_big_quiet_step (fail))
  refine wpQuietIn_nil ?_
  refine stage_one 10 (by kernel_rfl) rfl ?_
  gi_wp2
  refine ⟨trivial, ?_⟩
  refine (callsIn_wide.2 (mustN_ok _ _)).mono ?_
  rintro e w9 ⟨rfl, hw⟩
  subst hw
  gi_wp2
  refine stage_post (isSame_below HB2.out (fun k hk => hk)) ?_
  refine stage_one 11 (by kernel_rfl) rfl ?_
  gi_wp2
  refine stage_post (isSame_below HB2.out (fun k hk => hk)) ?_
  refine stage_done (by kernel_rfl) ?_
  have HK2 := Lib.hid (HK.out.below HB2.out HK.out.lt)
  have HR2 := Lib.hid (HR.out.below HB2.out)
  have ce2 := cell0 HK2.out
  go_wp2_with (first
    | (go_at_call 87; refine (HS.out _ HR2.out).mono ?_; rintro e w3 ⟨rfl, hb⟩; have HK3 := Lib.hid (HK2.out.below hb HK2.out.lt); have HB3 := Lib.hid (HB2.out.trans (hb.mono HB2.out.size)); have HR3 := Lib.hid (HR2.out.below hb); have ce3 := cell0 HK3.out; clear hb)
    | (go_at_call 86; refine (HD.out _ HR3.out).mono ?_; rintro e w4 ⟨rfl, hb⟩; have HK4 := Lib.hid (HK3.out.below hb HK3.out.lt); have HB4 := Lib.hid (HB3.out.trans (hb.mono HB3.out.size)); have HR4 := Lib.hid (HR3.out.below hb); have ce4 := cell0 HK4.out; clear hb)
    | (go_at_call 77; refine (HE.out _ HR4.out).mono ?_; rintro e w5 ⟨rfl, hb⟩; have HK5 := Lib.hid (HK4.out.below hb HK4.out.lt); have HB5 := Lib.hid (HB4.out.trans (hb.mono HB4.out.size)); have HR5 := Lib.hid (HR4.out.below hb); have ce5 := cell0 HK5.out; clear hb)
    | (go_at_call 76; refine (mustN_ok _ _).mono ?_; rintro e w9 ⟨rfl, hw⟩; subst hw))
  go_ret
  exact ⟨rfl, HB5.out⟩
theorem runs_alpha1 : Runs 84 := runs_of Tryz.func84 (by kernel_rfl) (by kernel_rfl)
theorem runs_beta1 : Runs 88 := runs_of Tryz.func88 (by kernel_rfl) (by kernel_rfl)
theorem runs_half1 : Runs 89 := runs_of Tryz.func89 (by kernel_rfl) (by kernel_rfl)
set_option maxRecDepth 100000 in
set_option maxHeartbeats 4000000 in
theorem alpha_door (f rv : ByteArray) (k : Int) (s : Int) (w : World) (hr : Res w)
    (hS : ∀ w', Below w.heap.size w w' → Res w' → Blk w' w.heap.size 22 #[.string f] → Calls Tryz.prog 83 #[.int .i64 s, .string f, .func (.func 84) #[] #[.pointer (some ⟨w.heap.size, 0, none⟩)]] w' fun e w'' => e = .returned (.tuple #[.string rv, .int .i64 k]) ∧ Below w'.heap.size w' w'') :
    Calls Tryz.prog 30 #[.int .i64 s, .string f] w fun e w' => e = .returned (.tuple #[.string rv, .int .i64 k]) ∧ Below w.heap.size w w' := by
  have HK := Lib.hid (Blk.new w 22 #[.string f])
  have HB := Lib.hid (below_alloc (Below.refl w.heap.size w) (.cells #[.string f] 22))
  have HC := Lib.hid (hS _ HB.out (hr.below HB.out) HK.out)
  have ce := cell0 HK.out
  clear hr hS
  go_enter Tryz.func30, Tryz.ntmps30
  go_wp2_with (go_at_call 83; refine HC.out.mono ?_; rintro e w1 ⟨rfl, hb⟩; have HB1 := Lib.hid (HB.out.trans (hb.mono HB.out.size)); clear hb)
  exact bodyPost_ret (results_tmp2 rfl _ _ _) rfl ⟨rfl, HB1.out⟩
set_option maxRecDepth 100000 in
set_option maxHeartbeats 4000000 in
theorem beta_door (f rv : ByteArray) (k : Int) (s : Int) (w : World) (hr : Res w)
    (hS : ∀ w', Below w.heap.size w w' → Res w' → Blk w' w.heap.size 22 #[.string f] → Calls Tryz.prog 83 #[.int .i64 s, .string f, .func (.func 88) #[] #[.pointer (some ⟨w.heap.size, 0, none⟩)]] w' fun e w'' => e = .returned (.tuple #[.string rv, .int .i64 k]) ∧ Below w'.heap.size w' w'') :
    Calls Tryz.prog 31 #[.int .i64 s, .string f] w fun e w' => e = .returned (.tuple #[.string rv, .int .i64 k]) ∧ Below w.heap.size w w' := by
  have HK := Lib.hid (Blk.new w 22 #[.string f])
  have HB := Lib.hid (below_alloc (Below.refl w.heap.size w) (.cells #[.string f] 22))
  have HC := Lib.hid (hS _ HB.out (hr.below HB.out) HK.out)
  have ce := cell0 HK.out
  clear hr hS
  go_enter Tryz.func31, Tryz.ntmps31
  go_wp2_with (go_at_call 83; refine HC.out.mono ?_; rintro e w1 ⟨rfl, hb⟩; have HB1 := Lib.hid (HB.out.trans (hb.mono HB.out.size)); clear hb)
  exact bodyPost_ret (results_tmp2 rfl _ _ _) rfl ⟨rfl, HB1.out⟩
set_option maxRecDepth 100000 in
set_option maxHeartbeats 4000000 in
theorem half_door (f rv : ByteArray) (k : Int) (w : World) (hr : Res w)
    (hS : ∀ w', Below w.heap.size w w' → Res w' → Blk w' w.heap.size 22 #[.string f] → Calls Tryz.prog 83 #[.int .i64 1, .string f, .func (.func 89) #[] #[.pointer (some ⟨w.heap.size, 0, none⟩)]] w' fun e w'' => e = .returned (.tuple #[.string rv, .int .i64 k]) ∧ Below w'.heap.size w' w'') :
    Calls Tryz.prog 32 #[.string f] w fun e w' => e = .returned (.tuple #[.string rv, .int .i64 k]) ∧ Below w.heap.size w w' := by
  have HK := Lib.hid (Blk.new w 22 #[.string f])
  have HB := Lib.hid (below_alloc (Below.refl w.heap.size w) (.cells #[.string f] 22))
  have HC := Lib.hid (hS _ HB.out (hr.below HB.out) HK.out)
  have ce := cell0 HK.out
  clear hr hS
  go_enter Tryz.func32, Tryz.ntmps32
  go_wp2_with (go_at_call 83; refine HC.out.mono ?_; rintro e w1 ⟨rfl, hb⟩; have HB1 := Lib.hid (HB.out.trans (hb.mono HB.out.size)); clear hb)
  exact bodyPost_ret (results_tmp2 rfl _ _ _) rfl ⟨rfl, HB1.out⟩
end Go.Proofs.YtbfhonhjejeaiaaGreatDoor
namespace Go.Proofs.YtbfhonhjejeaiaaGreatDoor
open Go.RowKit Go.Shelf
open Lim

theorem sz_ofInt {s : Int} {k : Nat} (hk : 0 < k) (h : s.natAbs < 10 ^ k) : Sz k (s : Rat) := by
  refine ⟨by unfold nm; rw [Rat.num_intCast]; exact h, ?_⟩
  rw [Rat.den_intCast]
  exact Nat.one_lt_pow (by omega) (by decide)
theorem IsT.not_one {a : ByteArray} {q : Rat} (h : IsT a q) (h1 : q ≠ 1) : (a.toList == [49]) = false := by
  rw [beq_eq_false_iff_ne]
  intro e
  apply h1
  rw [Lib.toList_data] at e
  exact h.inj ⟨by rw [← IsT.one.1]; exact ByteArray.ext (Array.toList_inj.1 e), Sz.one.mono (by decide)⟩
theorem low_cmp {F : Rat} (h : 1 < F) : decide (cmpQ F 1 ≤ 0) = false := decide_eq_false (fun h2 => by have := (cmpQ_le F 1).1 h2; grind)
section
variable {f : ByteArray} {F : Rat} (w : World)
theorem lossAlpha_one (hf : IsT f F) (hF : 1 < F) (hi : fits F⁻¹ = true) (hr : Res w) :
    Calls Tryz.prog 30 #[.int .i64 1, .string f] w fun e w' => e = .returned (.tuple #[.string (rT F⁻¹), .int .i64 0]) ∧ Below w.heap.size w w' :=
  alpha_door f _ _ 1 w hr (fun w' _ hr' hk => samp_ok 84 runs_alpha1 _ f ⟨#[49]⟩ _ 1 w' F hf (by simpa using IsT.one) (low_cmp hF) (by omega) (by omega) hr'
    (fun w'' hb hr'' => alpha1_one w.heap.size w'' hf (by grind) hi (hk.below hb hk.lt) hr''))
theorem lossAlpha_more {s : Int} (hs : 2 ≤ s) (hs2 : s ≤ 1000000) (hf : IsT f F) (hF : 1 < F) (f0 : fits (s : Rat) = true) (f1 : fits ((s : Rat) * F) = true) (f2 : fits ((s : Rat) * F + F) = true) (f3 : fits ((s : Rat) * F + F + -1) = true) (f4 : fits ((s : Rat) * F * ((s : Rat) * F + F + -1)⁻¹) = true) (h0 : (s : Rat) * F + F + -1 ≠ 0) (hr : Res w) :
    Calls Tryz.prog 30 #[.int .i64 s, .string f] w fun e w' => e = .returned (.tuple #[.string (rT ((s : Rat) * F * ((s : Rat) * F + F + -1)⁻¹)), .int .i64 0]) ∧ Below w.heap.size w w' :=
  have hne : (s : Rat) ≠ 1 := fun e => by
    have : s = 1 := by exact_mod_cast e
    omega
  alpha_door f _ _ s w hr (fun w' _ hr' hk => samp_ok 84 runs_alpha1 _ f (rT (s : Rat)) _ s w' F hf (isT_rT f0) (low_cmp hF) (by omega) hs2 hr'
    (fun w'' hb hr'' => alpha1_more w.heap.size w'' hf (isT_rT f0) ((isT_rT f0).not_one hne) f1 f2 f3 f4 h0 (hk.below hb hk.lt) hr''))
theorem lossBeta_ok {s : Int} (hs : 1 ≤ s) (hs2 : s ≤ 1000000) (hf : IsT f F) (hF : 1 < F) (f0 : fits (s : Rat) = true) (f1 : fits ((s : Rat) + (s : Rat)) = true) (f2 : fits (((s : Rat) + (s : Rat)) * F) = true) (f3 : fits (F + -1) = true) (f4 : fits ((F + -1) * (((s : Rat) + (s : Rat)) * F)⁻¹) = true) (f5 : fits (1 + (F + -1) * (((s : Rat) + (s : Rat)) * F)⁻¹) = true) (h0 : ((s : Rat) + (s : Rat)) * F ≠ 0) (hr : Res w) :
    Calls Tryz.prog 31 #[.int .i64 s, .string f] w fun e w' => e = .returned (.tuple #[.string (rT (1 + (F + -1) * (((s : Rat) + (s : Rat)) * F)⁻¹)), .int .i64 0]) ∧ Below w.heap.size w w' :=
  beta_door f _ _ s w hr (fun w' _ hr' hk => samp_ok 88 runs_beta1 _ f (rT (s : Rat)) _ s w' F hf (isT_rT f0) (low_cmp hF) hs hs2 hr'
    (fun w'' hb hr'' => beta1_any w.heap.size w'' hf (isT_rT f0) f1 f2 f3 f4 f5 h0 (hk.below hb hk.lt) hr''))
theorem lossHalf_ok (hf : IsT f F) (hF : 1 < F) (f1 : fits (2 * F) = true) (f2 : fits (F + 1) = true) (f3 : fits (2 * F * (F + 1)⁻¹) = true) (hr : Res w) :
    Calls Tryz.prog 32 #[.string f] w fun e w' => e = .returned (.tuple #[.string (rT (2 * F * (F + 1)⁻¹)), .int .i64 0]) ∧ Below w.heap.size w w' :=
  half_door f _ _ w hr (fun w' _ hr' hk => samp_ok 89 runs_half1 _ f ⟨#[49]⟩ _ 1 w' F hf (by simpa using IsT.one) (low_cmp hF) (by omega) (by omega) hr'
    (fun w'' hb hr'' => half1_any ⟨#[49]⟩ w.heap.size w'' hf f1 f2 f3 (by grind) (hk.below hb hk.lt) hr''))
end
end Go.Proofs.YtbfhonhjejeaiaaGreatDoor
namespace Go.Proofs.YtbfhonhjejeaiaaGreatDoor
open Go.RowKit

set_option maxRecDepth 100000 in
theorem pick_any (x n : Int) (w : World) (hn : 0 < n) (_hx : -9223372036854775808 ≤ x) (_hx2 : x ≤ 9223372036854775807) (hn2 : n ≤ 1000000) :
    Calls Tryz.prog 28 #[.int .i64 x, .int .i64 n] w fun e w' => ∃ k : Int, e = .returned (.int .i64 k) ∧ 0 ≤ k ∧ k < n ∧ w' = w := by
  have h1 := Int.tmod_lt_of_pos x hn
  have h2 := Int.lt_tmod_of_pos x hn
  go_enter Tryz.func28, Tryz.ntmps28
  by_cases h : x.tmod n < 0
  · go_wp2
    go_ret
    exact ⟨_, rfl, by omega, by omega, rfl⟩
  · go_wp2
    go_ret
    exact ⟨_, rfl, by omega, by omega, rfl⟩
end Go.Proofs.YtbfhonhjejeaiaaGreatDoor
namespace Go.Proofs.YtbfhonhjejeaiaaGreatDoor
open Go.RowKit Go.Shelf
open Lim

/-- What factor asks of a text. -/
def factorB (f : ByteArray) : Bool := decide (f.size ≤ 12) && (errQ f.data.toList == 0) && decide (cmpQ 1 (valQ f.data.toList) ≤ 0)
theorem errQ_one : errQ (⟨#[49]⟩ : ByteArray).data.toList = 0 := IsT.one.err
set_option maxRecDepth 100000 in
set_option maxHeartbeats 4000000 in
theorem factor_walk (f : ByteArray) (c k : Int) (b : Bool) (w : World) (HC : Hid (∀ w, Calls Tryz.prog 35 #[.string ⟨#[49]⟩, .string f] w fun e w' => e = .returned (.tuple #[.int .i64 c, .int .i64 k]) ∧ Below w.heap.size w w'))
    (hb : b = (decide (f.size ≤ 12) && ((k == 0) && decide (c ≤ 0)))) :
    Calls Tryz.prog 29 #[.string f] w fun e w' => e = .returned (.bool b) ∧ Below w.heap.size w w' := by
  by_cases h1 : f.size ≤ 12
  · have d1 : decide ((f.size : Int) ≤ 12) = true := decide_eq_true (by omega)
    rw [decide_eq_true h1, Bool.true_and] at hb
    clear h1
    by_cases h2 : (k == 0) = true
    · rw [h2, Bool.true_and] at hb
      subst hb
      go_enter Tryz.func29, Tryz.ntmps29
      go_wp2_with (go_at_call 35; refine (HC.out _).mono ?_; rintro e w1 ⟨rfl, hb⟩; have HB := Lib.hid hb; clear hb)
      go_ret
      exact ⟨rfl, HB.out⟩
    · have h2 : (k == 0) = false := by simpa using h2
      rw [h2, Bool.false_and] at hb
      subst hb
      go_enter Tryz.func29, Tryz.ntmps29
      go_wp2_with (go_at_call 35; refine (HC.out _).mono ?_; rintro e w1 ⟨rfl, hb⟩; have HB := Lib.hid hb; clear hb)
      go_ret
      exact ⟨rfl, HB.out⟩
  · have d1 : decide ((f.size : Int) ≤ 12) = false := decide_eq_false (by omega)
    rw [decide_eq_false h1, Bool.false_and] at hb
    clear h1
    subst hb
    go_enter Tryz.func29, Tryz.ntmps29
    go_wp2_with (go_at_call 35; refine (HC.out _).mono ?_; rintro e w1 ⟨rfl, hb⟩; have HB := Lib.hid hb; clear hb)
    go_ret
    exact ⟨rfl, HB.out⟩
theorem factor_any (f : ByteArray) (w : World) (hf : f.size ≤ 9223372036854775807) :
    Calls Tryz.prog 29 #[.string f] w fun e w' => e = .returned (.bool (factorB f)) ∧ Below w.heap.size w w' := by
  by_cases he : errQ f.data.toList = 0
  · refine factor_walk f _ 0 _ w (Lib.hid (fun w => rcmpT w IsT.one (IsT.of he))) ?_
    unfold factorB
    rw [he]
    simp
  · refine factor_walk f 0 (errQ f.data.toList : Int) _ w (Lib.hid (fun w => refCmp_err2B ⟨#[49]⟩ f w (by decide) hf errQ_one he)) ?_
    unfold factorB
    have h1 : ((errQ f.data.toList) == 0) = false := beq_eq_false_iff_ne.2 he
    have h2 : ((errQ f.data.toList : Int) == 0) = false := by rw [beq_eq_false_iff_ne]; omega
    rw [h1, h2]
    simp
set_option maxRecDepth 100000 in
set_option maxHeartbeats 16000000 in
theorem keeps_none (n : Int) (f : ByteArray) (w : World) (HN : Hid (-9223372036854775808 ≤ n ∧ n ≤ 9223372036854775807)) (HS : Hid (f.size ≤ 9223372036854775807)) (HV : Hid (factorB f = false)) (hr : Res w) :
    Calls Tryz.prog 5 #[.int .i64 n, .string f] w fun e w' => e = .returned (.bool true) ∧ Below w.heap.size w w' := by
  have B0 := Lib.hid (Below.refl w.heap.size w)
  have R0 := Lib.hid hr
  clear hr
  have TK1 : True := trivial
  have TK2 : True := trivial
  go_enter Tryz.func5, Tryz.ntmps5
  go_wp2_with (first
    | (clear TK1; go_at_call 13; refine (llives_any _ R0.out).mono ?_; rintro e w1 ⟨rfl, hb⟩; have B1 := Lib.hid (B0.out.trans (hb.mono B0.out.size)); have R1 := Lib.hid (R0.out.below hb); clear hb)
    | (go_at_call 28; refine (pick_any n 40 _ (by omega) HN.out.1 HN.out.2 (by omega)).mono ?_; rintro e w9 ⟨j, rfl, ja, jb, hw⟩; subst hw)
    | (clear TK2; go_at_call 29; refine (factor_any f _ HS.out).mono ?_; rintro e w2 ⟨rfl, hb⟩; rw [HV.out]; have B2 := Lib.hid (B1.out.trans (hb.mono B1.out.size)); have R2 := Lib.hid (R1.out.below hb); clear hb))
  go_ret
  exact ⟨rfl, B2.out⟩
set_option maxRecDepth 100000 in
set_option maxHeartbeats 16000000 in
theorem keeps_one (n : Int) (f : ByteArray) (w : World) (HN : Hid (-9223372036854775808 ≤ n ∧ n ≤ 9223372036854775807)) (HS : Hid (f.size ≤ 9223372036854775807)) (HV : Hid (factorB f = true)) (h1 : (f.toList == [49]) = true) (hr : Res w) :
    Calls Tryz.prog 5 #[.int .i64 n, .string f] w fun e w' => e = .returned (.bool true) ∧ Below w.heap.size w w' := by
  have B0 := Lib.hid (Below.refl w.heap.size w)
  have R0 := Lib.hid hr
  clear hr
  have TK1 : True := trivial
  have TK2 : True := trivial
  go_enter Tryz.func5, Tryz.ntmps5
  go_wp2_with (first
    | (clear TK1; go_at_call 13; refine (llives_any _ R0.out).mono ?_; rintro e w1 ⟨rfl, hb⟩; have B1 := Lib.hid (B0.out.trans (hb.mono B0.out.size)); have R1 := Lib.hid (R0.out.below hb); clear hb)
    | (go_at_call 28; refine (pick_any n 40 _ (by omega) HN.out.1 HN.out.2 (by omega)).mono ?_; rintro e w9 ⟨j, rfl, ja, jb, hw⟩; subst hw)
    | (clear TK2; go_at_call 29; refine (factor_any f _ HS.out).mono ?_; rintro e w2 ⟨rfl, hb⟩; rw [HV.out]; have B2 := Lib.hid (B1.out.trans (hb.mono B1.out.size)); have R2 := Lib.hid (R1.out.below hb); clear hb))
  go_ret
  exact ⟨rfl, B2.out⟩
theorem At1.more {w W W' : World} {t1 : TypeId} {c1 : Array Value} {g : Nat} (h : Blk W g t1 c1 ∧ Res W ∧ Below w.heap.size w W) (hb : Below W.heap.size W W') : Blk W' g t1 c1 ∧ Res W' ∧ Below w.heap.size w W' :=
  ⟨h.1.below hb h.1.lt, h.2.1.below hb, h.2.2.trans (hb.mono h.2.2.size)⟩
/-- A row of three texts in a block of its own. -/
structure RowAt (w : World) (g : Nat) (c : Array Value) (W : World) : Prop where
  a : Blk W g 22 c
  res : Res W
  below : Below w.heap.size w W
theorem RowAt.later {w W W' : World} {g : Nat} {c : Array Value} (h : RowAt w g c W) (hb : Below W.heap.size W W') : RowAt w g c W' :=
  ⟨h.a.below hb h.a.lt, h.res.below hb, h.below.trans (hb.mono h.below.size)⟩
set_option maxRecDepth 100000 in
set_option maxHeartbeats 16000000 in
theorem keeps_walk (n : Int) (f hv zv : ByteArray) (av bv xv yv : Int → ByteArray) (k1 k2 : Int → Int) (k3 : Int) (w : World) (HN : Hid (-9223372036854775808 ≤ n ∧ n ≤ 9223372036854775807)) (HS : Hid (f.size ≤ 9223372036854775807)) (HV : Hid (factorB f = true)) (h1 : (f.toList == [49]) = false)
    (PA : Hid (∀ s : Int, 1 ≤ s → s ≤ 40 → ∀ w, Res w → Calls Tryz.prog 30 #[.int .i64 s, .string f] w fun e w' => e = .returned (.tuple #[.string (av s), .int .i64 0]) ∧ Below w.heap.size w w'))
    (PB : Hid (∀ s : Int, 1 ≤ s → s ≤ 40 → ∀ w, Res w → Calls Tryz.prog 31 #[.int .i64 s, .string f] w fun e w' => e = .returned (.tuple #[.string (bv s), .int .i64 0]) ∧ Below w.heap.size w w'))
    (PH : Hid (∀ w, Res w → Calls Tryz.prog 32 #[.string f] w fun e w' => e = .returned (.tuple #[.string hv, .int .i64 0]) ∧ Below w.heap.size w w'))
    (QX : Hid (∀ s m : Int, 1 ≤ s → s ≤ 40 → m = -s → ∀ w, Res w → Calls Tryz.prog 33 #[.string (av s), .int .i64 m] w fun e w' => e = .returned (.tuple #[.string (xv s), .int .i64 0]) ∧ Below w.heap.size w w'))
    (QY : Hid (∀ s m : Int, 1 ≤ s → s ≤ 40 → m = 2 * s → ∀ w, Res w → Calls Tryz.prog 33 #[.string (bv s), .int .i64 m] w fun e w' => e = .returned (.tuple #[.string (yv s), .int .i64 0]) ∧ Below w.heap.size w w'))
    (QZ : Hid (∀ w, Res w → Calls Tryz.prog 34 #[.string hv, .string hv] w fun e w' => e = .returned (.tuple #[.string zv, .int .i64 0]) ∧ Below w.heap.size w w'))
    (C1 : Hid (∀ s : Int, 1 ≤ s → s ≤ 40 → ∀ w, Res w → Calls Tryz.prog 35 #[.string (xv s), .string f] w fun e w' => e = .returned (.tuple #[.int .i64 (k1 s), .int .i64 0]) ∧ Below w.heap.size w w'))
    (C2 : Hid (∀ s : Int, 1 ≤ s → s ≤ 40 → ∀ w, Res w → Calls Tryz.prog 35 #[.string (yv s), .string f] w fun e w' => e = .returned (.tuple #[.int .i64 (k2 s), .int .i64 0]) ∧ Below w.heap.size w w'))
    (C3 : Hid (∀ w, Res w → Calls Tryz.prog 35 #[.string zv, .string f] w fun e w' => e = .returned (.tuple #[.int .i64 k3, .int .i64 0]) ∧ Below w.heap.size w w'))
    (D1 : Hid (∀ s : Int, 1 ≤ s → s ≤ 40 → ∀ w, Res w → Calls Tryz.prog 35 #[.string ⟨#[48]⟩, .string (av s)] w fun e w' => e = .returned (.tuple #[.int .i64 (-1), .int .i64 0]) ∧ Below w.heap.size w w'))
    (D2 : Hid (∀ s : Int, 1 ≤ s → s ≤ 40 → ∀ w, Res w → Calls Tryz.prog 35 #[.string (av s), .string ⟨#[49]⟩] w fun e w' => e = .returned (.tuple #[.int .i64 (-1), .int .i64 0]) ∧ Below w.heap.size w w'))
    (D3 : Hid (∀ s : Int, 1 ≤ s → s ≤ 40 → ∀ w, Res w → Calls Tryz.prog 35 #[.string ⟨#[49]⟩, .string (bv s)] w fun e w' => e = .returned (.tuple #[.int .i64 (-1), .int .i64 0]) ∧ Below w.heap.size w w'))
    (D4 : Hid (∀ w, Res w → Calls Tryz.prog 35 #[.string ⟨#[49]⟩, .string hv] w fun e w' => e = .returned (.tuple #[.int .i64 (-1), .int .i64 0]) ∧ Below w.heap.size w w'))
    (hk1 : Hid (∀ s : Int, 1 ≤ s → s ≤ 40 → k1 s ≤ 0)) (hk2 : Hid (∀ s : Int, 1 ≤ s → s ≤ 40 → k2 s ≤ 0)) (hk3 : k3 ≤ 0) (hr : Res w) :
    Calls Tryz.prog 5 #[.int .i64 n, .string f] w fun e w' => e = .returned (.bool true) ∧ Below w.heap.size w w' := by
  have B0 := Lib.hid (Below.refl w.heap.size w)
  have R0 := Lib.hid hr
  clear hr
  have TK1 : True := trivial
  have TK2 : True := trivial
  have TK3 : True := trivial
  have TK4 : True := trivial
  have TK5 : True := trivial
  have TK6 : True := trivial
  have TK7 : True := trivial
  have TK8 : True := trivial
  have TK9 : True := trivial
  have TK10 : True := trivial
  have TK11 : True := trivial
  have TK12 : True := trivial
  go_enter Tryz.func5, Tryz.ntmps5
  go_wp2_with (first
    | (clear TK1; go_at_call 13; refine (llives_any _ R0.out).mono ?_; rintro e w1 ⟨rfl, hb⟩; have B1 := Lib.hid (B0.out.trans (hb.mono B0.out.size)); have R1 := Lib.hid (R0.out.below hb); clear hb)
    | (go_at_call 28; refine (pick_any n 40 _ (by omega) HN.out.1 HN.out.2 (by omega)).mono ?_; rintro e w9 ⟨j, rfl, ja, jb, hw⟩; subst hw)
    | (clear TK2; go_at_call 29; refine (factor_any f _ HS.out).mono ?_; rintro e w2 ⟨rfl, hb⟩; rw [HV.out]; have B2 := Lib.hid (B1.out.trans (hb.mono B1.out.size)); have R2 := Lib.hid (R1.out.below hb); clear hb)
    | (clear TK3; go_at_call 30; refine (PA.out _ (by omega) (by omega) _ R2.out).mono ?_; rintro e w3 ⟨rfl, hb⟩; have B3 := Lib.hid (B2.out.trans (hb.mono B2.out.size)); have R3 := Lib.hid (R2.out.below hb); clear hb)
    | (clear TK4; go_at_call 31; refine (PB.out _ (by omega) (by omega) _ R3.out).mono ?_; rintro e w4 ⟨rfl, hb⟩; have B4 := Lib.hid (B3.out.trans (hb.mono B3.out.size)); have R4 := Lib.hid (R3.out.below hb); clear hb)
    | (clear TK5; go_at_call 32; refine (PH.out _ R4.out).mono ?_; rintro e w5 ⟨rfl, hb⟩; have B5 := Lib.hid (B4.out.trans (hb.mono B4.out.size)); have R5 := Lib.hid (R4.out.below hb); clear hb)
    | (clear TK6; go_at_call 33; refine (QX.out (1 + j) _ (by omega) (by omega) (by omega) _ R5.out).mono ?_; rintro e w6 ⟨rfl, hb⟩; have B6 := Lib.hid (B5.out.trans (hb.mono B5.out.size)); have R6 := Lib.hid (R5.out.below hb); clear hb)
    | (clear TK7; go_at_call 33; refine (QY.out (1 + j) _ (by omega) (by omega) (by omega) _ R6.out).mono ?_; rintro e w7 ⟨rfl, hb⟩; have B7 := Lib.hid (B6.out.trans (hb.mono B6.out.size)); have R7 := Lib.hid (R6.out.below hb); clear hb)
    | (clear TK8; go_at_call 34; refine (QZ.out _ R7.out).mono ?_; rintro e w8 ⟨rfl, hb⟩; have B8 := Lib.hid (B7.out.trans (hb.mono B7.out.size)); have R8 := Lib.hid (R7.out.below hb); clear hb))
  have HL := Lib.hid (show RowAt w w8.heap.size #[.string (xv (1 + j)), .string (yv (1 + j)), .string zv] (w8.alloc (.cells #[.string (xv (1 + j)), .string (yv (1 + j)), .string zv] 22)) from ⟨Blk.new w8 _ _, R8.out.below (below_alloc (Below.refl _ _) _), below_alloc B8.out _⟩)
  have hp1 := decide_eq_false (p := 0 < k1 (1 + j)) (by have := hk1.out (1 + j) (by omega) (by omega); omega)
  have hp2 := decide_eq_false (p := 0 < k2 (1 + j)) (by have := hk2.out (1 + j) (by omega) (by omega); omega)
  have hp3 := decide_eq_false (p := 0 < k3) (by omega)
  clear hk3
  go_loopw [18] (fun v18 wr => ∃ k : Nat, k ≤ 3 ∧ v18 = .int .i64 (k : Int) ∧ Hid (RowAt w w8.heap.size #[.string (xv (1 + j)), .string (yv (1 + j)), .string zv] wr)) (fun v18 _ => 3 - (intOf v18).toNat)
  case atStart => exact ⟨0, by omega, rfl, HL⟩
  case round =>
    obtain ⟨k, hk, rfl, HLr⟩ := hrel
    clear HL
    have HL := HLr
    clear HLr
    have c0 := (cellrow HL.out.a 0 (by simp)).1
    have c1 := (cellrow HL.out.a 1 (by simp)).1
    have c2 := (cellrow HL.out.a 2 (by simp)).1
    simp only [List.getElem_toArray, List.getElem_cons_zero, List.getElem_cons_succ] at c0 c1 c2
    match k, hk with
    | 0, _ =>
      clear c1 c2
      go_wp2_with (go_at_call 35; refine (C1.out _ (by omega) (by omega) _ HL.out.res).mono ?_; rintro e w1 ⟨rfl, hb⟩; have HL1 := Lib.hid (HL.out.later hb); clear hb)
      go_roundw
      case rel => exact ⟨1, by omega, by go_num, HL1⟩
      case measure => simp [intOf]
    | 1, _ =>
      clear c0 c2
      go_wp2_with (go_at_call 35; refine (C2.out _ (by omega) (by omega) _ HL.out.res).mono ?_; rintro e w1 ⟨rfl, hb⟩; have HL1 := Lib.hid (HL.out.later hb); clear hb)
      go_roundw
      case rel => exact ⟨2, by omega, by go_num, HL1⟩
      case measure => simp [intOf]
    | 2, _ =>
      clear c0 c1
      go_wp2_with (go_at_call 35; refine (C3.out _ HL.out.res).mono ?_; rintro e w1 ⟨rfl, hb⟩; have HL1 := Lib.hid (HL.out.later hb); clear hb)
      go_roundw
      case rel => exact ⟨3, by omega, by go_num, HL1⟩
      case measure => simp [intOf]
    | 3, _ =>
      clear c0 c1 c2
      have B9 := Lib.hid HL.out.below
      have R9 := Lib.hid HL.out.res
      go_wp2_with (first
        | (clear TK9; go_at_call 35; refine (D1.out _ (by omega) (by omega) _ R9.out).mono ?_; rintro e w10 ⟨rfl, hb⟩; have B10 := Lib.hid (B9.out.trans (hb.mono B9.out.size)); have R10 := Lib.hid (R9.out.below hb); clear hb)
        | (clear TK10; go_at_call 35; refine (D2.out _ (by omega) (by omega) _ R10.out).mono ?_; rintro e w11 ⟨rfl, hb⟩; have B11 := Lib.hid (B10.out.trans (hb.mono B10.out.size)); have R11 := Lib.hid (R10.out.below hb); clear hb)
        | (clear TK11; go_at_call 35; refine (D3.out _ (by omega) (by omega) _ R11.out).mono ?_; rintro e w12 ⟨rfl, hb⟩; have B12 := Lib.hid (B11.out.trans (hb.mono B11.out.size)); have R12 := Lib.hid (R11.out.below hb); clear hb)
        | (clear TK12; go_at_call 35; refine (D4.out _ R12.out).mono ?_; rintro e w13 ⟨rfl, hb⟩; have B13 := Lib.hid (B12.out.trans (hb.mono B12.out.size)); have R13 := Lib.hid (R12.out.below hb); clear hb))
      go_ret
      exact ⟨rfl, B13.out⟩
end Go.Proofs.YtbfhonhjejeaiaaGreatDoor
namespace Go.Proofs.YtbfhonhjejeaiaaGreatDoor
open Go.RowKit Go.Shelf
open Lim

theorem rmul_pow (a b : Rat) (n : Nat) : (a * b) ^ n = a ^ n * b ^ n := by
  induction n with
  | zero => rw [Rat.pow_zero, Rat.pow_zero, Rat.pow_zero, Rat.one_mul]
  | succ n ih => rw [Rat.pow_succ, Rat.pow_succ, Rat.pow_succ, ih]; grind
theorem rone_pow (n : Nat) : (1 : Rat) ^ n = 1 := by
  induction n with
  | zero => exact Rat.pow_zero _
  | succ n ih => rw [Rat.pow_succ, ih, Rat.one_mul]
theorem bern {y : Rat} (h0 : 0 ≤ y) (h1 : y ≤ 1) (n : Nat) : 1 - (n : Rat) * y ≤ (1 - y) ^ n := by
  induction n with
  | zero => simp; grind
  | succ n ih =>
    have hn : (0 : Rat) ≤ (n : Rat) := by exact_mod_cast Nat.zero_le n
    have e : ((n + 1 : Nat) : Rat) = (n : Rat) + 1 := by push_cast; rfl
    rw [Rat.pow_succ, e]
    have h2 : (1 - (n : Rat) * y) * (1 - y) ≤ (1 - y) ^ n * (1 - y) := Rat.mul_le_mul_of_nonneg_right ih (by grind)
    have h3 : 0 ≤ (n : Rat) * (y * y) := Rat.mul_nonneg hn (Rat.mul_nonneg h0 h0)
    grind
/-- A number with b n R = n R + R - 1: its n-th power is at most R. -/
theorem keep {R b : Rat} {n : Nat} (hR : 1 < R) (hn : 1 ≤ n) (hb : b * ((n : Rat) * R) = (n : Rat) * R + R - 1) : b ^ n ≤ R ∧ 1 < b := by
  have hN : (1 : Rat) ≤ (n : Rat) := by exact_mod_cast hn
  have hNR : 0 < (n : Rat) * R := Rat.mul_pos (by grind) (by grind)
  have hb1 : 1 < b := by
    apply Rat.not_le.1
    intro h
    have := Rat.mul_le_mul_of_nonneg_right h (Rat.le_of_lt hNR)
    grind
  have hb0 : b ≠ 0 := by grind
  refine ⟨?_, hb1⟩
  -- y = 1 - 1/b
  have hi : b * b⁻¹ = 1 := Rat.mul_inv_cancel b hb0
  have hip : 0 < b⁻¹ := by
    apply Rat.not_le.1
    intro h
    have := Rat.mul_le_mul_of_nonneg_left h (Rat.le_of_lt (show (0 : Rat) < b by grind))
    grind
  have hi1 : b⁻¹ ≤ 1 := by
    apply Rat.not_lt.1
    intro h
    have := Rat.mul_lt_mul_of_pos_left h (show (0 : Rat) < b by grind)
    grind
  have hB := bern (y := 1 - b⁻¹) (by grind) (by grind) n
  have hB2 : 1 - (n : Rat) * (1 - b⁻¹) ≤ (b⁻¹) ^ n := by
    have e : 1 - (1 - b⁻¹) = b⁻¹ := by grind
    rwa [e] at hB
  -- R (1 - n (1 - 1/b)) ≥ 1
  have hK : 1 ≤ R * (1 - (n : Rat) * (1 - b⁻¹)) := by
    have e : b * (R * (1 - (n : Rat) * (1 - b⁻¹)) - 1) = (R - 1) * (b - 1) := by grind
    have h4 : 0 ≤ (R - 1) * (b - 1) := Rat.mul_nonneg (by grind) (by grind)
    apply Rat.not_lt.1
    intro h
    have := Rat.mul_lt_mul_of_pos_left (show R * (1 - (n : Rat) * (1 - b⁻¹)) - 1 < 0 by grind) (show (0 : Rat) < b by grind)
    grind
  have hM : 1 ≤ R * (b⁻¹) ^ n := by
    have := Rat.mul_le_mul_of_nonneg_left hB2 (Rat.le_of_lt (show (0 : Rat) < R by grind))
    grind
  have hp : b ^ n * (b⁻¹) ^ n = 1 := by rw [← rmul_pow, hi, rone_pow]
  have hbn : 0 < b ^ n := Rat.pow_pos (by grind)
  have h5 := Rat.mul_le_mul_of_nonneg_left hM (Rat.le_of_lt hbn)
  have e5 : b ^ n * (R * (b⁻¹) ^ n) = R * (b ^ n * (b⁻¹) ^ n) := by grind
  rw [e5, hp, Rat.mul_one, Rat.mul_one] at h5
  exact h5
theorem half_keep {R h : Rat} (hR : 1 < R) (hh : h * (R + 1) = 2 * R) : h * h ≤ R ∧ 1 < h := by
  have h1 : 1 < h := by
    apply Rat.not_le.1
    intro hl
    have := Rat.mul_le_mul_of_nonneg_right hl (show (0 : Rat) ≤ R + 1 by grind)
    grind
  refine ⟨?_, h1⟩
  have e : (R - h * h) * ((R + 1) * (R + 1)) = R * ((R - 1) * (R - 1)) := by grind
  have h2 : 0 ≤ R * ((R - 1) * (R - 1)) := Rat.mul_nonneg (by grind) (Rat.mul_nonneg (by grind) (by grind))
  have h3 : 0 < (R + 1) * (R + 1) := Rat.mul_pos (by grind) (by grind)
  apply Rat.not_lt.1
  intro hl
  have := Rat.mul_lt_mul_of_pos_right (show R - h * h < 0 by grind) h3
  grind
end Go.Proofs.YtbfhonhjejeaiaaGreatDoor
namespace Go.Proofs.YtbfhonhjejeaiaaGreatDoor
open Go.RowKit Go.Shelf
open Lim

/-- What Alpha computes. -/
def alphaV (F : Rat) (s : Int) : Rat := if s = 1 then F⁻¹ else (s : Rat) * F * ((s : Rat) * F + F + -1)⁻¹
def betaV (F : Rat) (s : Int) : Rat := 1 + (F + -1) * (((s : Rat) + (s : Rat)) * F)⁻¹
def halfV (F : Rat) : Rat := 2 * F * (F + 1)⁻¹
theorem sz_s {s : Int} (h1 : 1 ≤ s) (h2 : s ≤ 40) : Sz 2 (s : Rat) := sz_ofInt (by decide) (by omega)
theorem one_le_cast {s : Int} (h : 1 ≤ s) : (1 : Rat) ≤ (s : Rat) := by exact_mod_cast h
theorem sF_pos {F : Rat} {s : Int} (hF : 1 < F) (h : 1 ≤ s) : F ≤ (s : Rat) * F := by
  have := Rat.mul_le_mul_of_nonneg_right (one_le_cast h) (show (0 : Rat) ≤ F by grind)
  grind
theorem alpha_sz {F : Rat} (hs : Sz 12 F) {s : Int} (h1 : 1 ≤ s) (h2 : s ≤ 40) : Sz 43 (alphaV F s) := by
  unfold alphaV
  split
  · exact hs.inv.mono (by decide)
  · have a := (sz_s h1 h2).mul hs
    exact (a.mul ((a.add hs).add Sz.one.neg).inv).mono (by decide)
theorem beta_sz {F : Rat} (hs : Sz 12 F) {s : Int} (h1 : 1 ≤ s) (h2 : s ≤ 40) : Sz 33 (betaV F s) := by
  unfold betaV
  have a := ((sz_s h1 h2).add (sz_s h1 h2)).mul hs
  exact (Sz.one.add ((hs.add Sz.one.neg).mul a.inv)).mono (by decide)
theorem two_sz : Sz 1 2 := ⟨by decide, by decide⟩
theorem half_sz {F : Rat} (hs : Sz 12 F) : Sz 27 (halfV F) := by
  unfold halfV
  exact ((two_sz.mul hs).mul (hs.add Sz.one).inv).mono (by decide)
theorem alpha_run {f : ByteArray} {F : Rat} (hf : IsT f F) (hs : Sz 12 F) (hF : 1 < F) (s : Int) (h1 : 1 ≤ s) (h2 : s ≤ 40) (w : World) (hr : Res w) :
    Calls Tryz.prog 30 #[.int .i64 s, .string f] w fun e w' => e = .returned (.tuple #[.string (rT (alphaV F s)), .int .i64 0]) ∧ Below w.heap.size w w' := by
  by_cases h : s = 1
  · subst h
    have e : alphaV F 1 = F⁻¹ := if_pos rfl
    rw [e]
    exact lossAlpha_one w hf hF (Sz.fits hs.inv (by decide)) hr
  · have e : alphaV F s = (s : Rat) * F * ((s : Rat) * F + F + -1)⁻¹ := if_neg h
    rw [e]
    have a := (sz_s h1 h2).mul hs
    have hp := sF_pos hF h1
    exact lossAlpha_more w (by omega) (by omega) hf hF (Sz.fits (sz_s h1 h2) (by decide)) (Sz.fits a (by decide)) (Sz.fits (a.add hs) (by decide)) (Sz.fits ((a.add hs).add Sz.one.neg) (by decide)) (Sz.fits (a.mul ((a.add hs).add Sz.one.neg).inv) (by decide)) (by grind) hr
theorem beta_run {f : ByteArray} {F : Rat} (hf : IsT f F) (hs : Sz 12 F) (hF : 1 < F) (s : Int) (h1 : 1 ≤ s) (h2 : s ≤ 40) (w : World) (hr : Res w) :
    Calls Tryz.prog 31 #[.int .i64 s, .string f] w fun e w' => e = .returned (.tuple #[.string (rT (betaV F s)), .int .i64 0]) ∧ Below w.heap.size w w' := by
  have z := sz_s h1 h2
  have a := (z.add z).mul hs
  have b := hs.add Sz.one.neg
  have hp := sF_pos hF h1
  exact lossBeta_ok w h1 (by omega) hf hF (Sz.fits z (by decide)) (Sz.fits (z.add z) (by decide)) (Sz.fits a (by decide)) (Sz.fits b (by decide)) (Sz.fits (b.mul a.inv) (by decide)) (Sz.fits (Sz.one.add (b.mul a.inv)) (by decide)) (by grind) hr
theorem half_run {f : ByteArray} {F : Rat} (hf : IsT f F) (hs : Sz 12 F) (hF : 1 < F) (w : World) (hr : Res w) :
    Calls Tryz.prog 32 #[.string f] w fun e w' => e = .returned (.tuple #[.string (rT (halfV F)), .int .i64 0]) ∧ Below w.heap.size w w' :=
  lossHalf_ok w hf hF (Sz.fits (two_sz.mul hs) (by decide)) (Sz.fits (hs.add Sz.one) (by decide)) (Sz.fits ((two_sz.mul hs).mul (hs.add Sz.one).inv) (by decide)) hr
/-! ### the plain law -/
theorem beta_eq {F : Rat} (hF : 1 < F) {s : Int} (h1 : 1 ≤ s) : betaV F s * (((2 * s).toNat : Nat) * F) = ((2 * s).toNat : Nat) * F + F - 1 := by
  have e : (((2 * s).toNat : Nat) : Rat) = (s : Rat) + (s : Rat) := by
    have h : (((2 * s).toNat : Nat) : Int) = s + s := by omega
    have h2 : ((((2 * s).toNat : Nat) : Int) : Rat) = ((s + s : Int) : Rat) := by rw [h]
    rw [Rat.intCast_natCast, Rat.intCast_add] at h2
    exact h2
  rw [e]
  unfold betaV
  have hp := sF_pos hF h1
  have hn : ((s : Rat) + (s : Rat)) * F ≠ 0 := by grind
  have hi := Rat.mul_inv_cancel _ hn
  generalize ((s : Rat) + (s : Rat)) * F = x at *
  have : (1 + (F + -1) * x⁻¹) * x = x + (F + -1) * (x * x⁻¹) := by grind
  rw [this, hi]
  grind
theorem beta_law {F : Rat} (hF : 1 < F) {s : Int} (h1 : 1 ≤ s) : betaV F s ^ (2 * s) ≤ F ∧ 1 < betaV F s := by
  have h := keep (n := (2 * s).toNat) hF (by omega) (beta_eq hF h1)
  refine ⟨?_, h.2⟩
  have e : betaV F s ^ (2 * s) = betaV F s ^ (2 * s).toNat := by
    rw [← Rat.zpow_natCast]
    congr 1
    omega
  rw [e]
  exact h.1
theorem alpha_inv {F : Rat} (hF : 1 < F) {s : Int} (h1 : 1 ≤ s) : ((alphaV F s)⁻¹) ^ s.toNat ≤ F ∧ 1 < (alphaV F s)⁻¹ := by
  unfold alphaV
  by_cases h : s = 1
  · subst h
    rw [if_pos rfl, Rat.inv_inv]
    refine ⟨?_, hF⟩
    show F ^ 1 ≤ F
    rw [Rat.pow_succ, Rat.pow_zero, Rat.one_mul]
    exact Rat.le_refl
  · rw [if_neg h]
    refine keep hF (by omega) ?_
    have e : ((s.toNat : Nat) : Rat) = (s : Rat) := by
      have h : ((s.toNat : Nat) : Int) = s := by omega
      rw [← Rat.intCast_natCast, h]
    rw [e]
    have hp := sF_pos hF h1
    have hn : (s : Rat) * F ≠ 0 := by grind
    have hi := Rat.mul_inv_cancel _ hn
    rw [Rat.inv_mul_rev, Rat.inv_inv]
    generalize (s : Rat) * F = x at *
    have : (x + F + -1) * x⁻¹ * x = (x + F + -1) * (x * x⁻¹) := by grind
    rw [this, hi]
    grind
theorem alpha_law {F : Rat} (hF : 1 < F) {s : Int} (h1 : 1 ≤ s) : alphaV F s ^ (-s) ≤ F ∧ 0 < alphaV F s ∧ alphaV F s < 1 := by
  obtain ⟨h2, h3⟩ := alpha_inv hF h1
  have e : alphaV F s ^ (-s) = ((alphaV F s)⁻¹) ^ s.toNat := by
    rw [inv_pow, Rat.zpow_neg, ← Rat.zpow_natCast]
    congr 2
    omega
  have ha : alphaV F s ≠ 0 := fun h0 => by rw [h0, Rat.inv_zero] at h3; grind
  have hi := Rat.mul_inv_cancel _ ha
  have hp : 0 < alphaV F s := by
    apply Rat.not_le.1
    intro h
    have := Rat.mul_le_mul_of_nonneg_right h (show (0 : Rat) ≤ (alphaV F s)⁻¹ by grind)
    grind
  refine ⟨by rw [e]; exact h2, hp, ?_⟩
  have := Rat.mul_lt_mul_of_pos_left h3 hp
  grind
theorem half_law {F : Rat} (hF : 1 < F) : halfV F * halfV F ≤ F ∧ 1 < halfV F := by
  refine half_keep hF ?_
  unfold halfV
  have hi := Rat.mul_inv_cancel (F + 1) (by grind)
  generalize F + 1 = x at *
  have : 2 * F * x⁻¹ * x = 2 * F * (x * x⁻¹) := by grind
  rw [this, hi]
  grind
theorem cmpQ_low {p q : Rat} (h : p < q) : cmpQ p q = -1 := by unfold cmpQ; rw [if_pos h]
theorem sz_zpow_neg {j : Nat} {q : Rat} (h : Sz j q) {s : Int} (h1 : 1 ≤ s) (h2 : s ≤ 40) : Sz (j * 40 + 1) (q ^ (-s)) :=
  (Sz.zpow h (-s)).mono (by have := Nat.mul_le_mul_left j (show (-s).natAbs ≤ 40 by omega); omega)
theorem sz_zpow_two {j : Nat} {q : Rat} (h : Sz j q) {s : Int} (h1 : 1 ≤ s) (h2 : s ≤ 40) : Sz (j * 80 + 1) (q ^ (2 * s)) :=
  (Sz.zpow h (2 * s)).mono (by have := Nat.mul_le_mul_left j (show (2 * s).natAbs ≤ 80 by omega); omega)
/-- LossKeeps returns true at every input. -/
theorem lossKeeps_any (n : Int) (f : ByteArray) (w : World) (hr : Res w) (hn : -9223372036854775808 ≤ n ∧ n ≤ 9223372036854775807) (hf : f.size ≤ 9223372036854775807) :
    Calls Tryz.prog 5 #[.int .i64 n, .string f] w fun e w' => e = .returned (.bool true) ∧ Below w.heap.size w w' := by
  cases hv : factorB f with
  | false => exact keeps_none n f w (Lib.hid hn) (Lib.hid hf) (Lib.hid hv) hr
  | true =>
    cases h1 : (f.toList == [49]) with
    | true => exact keeps_one n f w (Lib.hid hn) (Lib.hid hf) (Lib.hid hv) h1 hr
    | false =>
      have hv2 := hv
      unfold factorB at hv2
      simp only [Bool.and_eq_true, decide_eq_true_eq, beq_iff_eq] at hv2
      obtain ⟨⟨h12, he⟩, hc⟩ := hv2
      have hF := IsT.of he
      have hs : Sz 12 (valQ f.data.toList) := sz_of_text he (by rw [← size_list]; exact h12)
      have hle := (cmpQ_le _ _).1 hc
      have hne : valQ f.data.toList ≠ 1 := fun e => by
        rw [e] at hF
        rw [hF.eq IsT.one, Lib.toList_data] at h1
        exact absurd h1 (by decide)
      have hlt : 1 < valQ f.data.toList := by grind
      generalize valQ f.data.toList = F at *
      clear hc he h12 hle hne
      have TA := fun (s : Int) (h1 : 1 ≤ s) (h2 : s ≤ 40) => isT_rT (Sz.fits (alpha_sz hs h1 h2) (by decide))
      have TB := fun (s : Int) (h1 : 1 ≤ s) (h2 : s ≤ 40) => isT_rT (Sz.fits (beta_sz hs h1 h2) (by decide))
      have TH := isT_rT (Sz.fits (half_sz hs) (by decide))
      have TX := fun (s : Int) (h1 : 1 ≤ s) (h2 : s ≤ 40) => isT_rT (Sz.fits (sz_zpow_neg (alpha_sz hs h1 h2) h1 h2) (by decide))
      have TY := fun (s : Int) (h1 : 1 ≤ s) (h2 : s ≤ 40) => isT_rT (Sz.fits (sz_zpow_two (beta_sz hs h1 h2) h1 h2) (by decide))
      have TZ := isT_rT (Sz.fits ((half_sz hs).mul (half_sz hs)) (by decide))
      exact keeps_walk n f (rT (halfV F)) (rT (halfV F * halfV F)) (fun s => rT (alphaV F s)) (fun s => rT (betaV F s)) (fun s => rT (alphaV F s ^ (-s))) (fun s => rT (betaV F s ^ (2 * s)))
        (fun s => cmpQ (alphaV F s ^ (-s)) F) (fun s => cmpQ (betaV F s ^ (2 * s)) F) (cmpQ (halfV F * halfV F) F) w (Lib.hid hn) (Lib.hid hf) (Lib.hid hv) h1
        (Lib.hid (fun s h1 h2 w hr => alpha_run hF hs hlt s h1 h2 w hr)) (Lib.hid (fun s h1 h2 w hr => beta_run hF hs hlt s h1 h2 w hr)) (Lib.hid (fun w hr => half_run hF hs hlt w hr))
        (Lib.hid (fun s m h1 h2 hm w _ => by subst hm; exact rpowT w (TA s h1 h2) (fun h => by have := (alpha_law hlt h1).2.1; have := h.2; grind) (TX s h1 h2) (by omega) (by omega)))
        (Lib.hid (fun s m h1 h2 hm w _ => by subst hm; exact rpowT w (TB s h1 h2) (fun h => by omega) (TY s h1 h2) (by omega) (by omega)))
        (Lib.hid (fun w _ => rmulT w TH TH TZ))
        (Lib.hid (fun s h1 h2 w _ => rcmpT w (TX s h1 h2) hF)) (Lib.hid (fun s h1 h2 w _ => rcmpT w (TY s h1 h2) hF)) (Lib.hid (fun w _ => rcmpT w TZ hF))
        (Lib.hid (fun s h1 h2 w _ => by rw [← cmpQ_low (alpha_law hlt h1).2.1]; exact rcmpT w IsT.zero (TA s h1 h2)))
        (Lib.hid (fun s h1 h2 w _ => by rw [← cmpQ_low (alpha_law hlt h1).2.2]; exact rcmpT w (TA s h1 h2) IsT.one))
        (Lib.hid (fun s h1 h2 w _ => by rw [← cmpQ_low (beta_law hlt h1).2]; exact rcmpT w IsT.one (TB s h1 h2)))
        (Lib.hid (fun w _ => by rw [← cmpQ_low (half_law hlt).2]; exact rcmpT w IsT.one TH))
        (Lib.hid (fun s h1 _ => (cmpQ_le _ _).2 (alpha_law hlt h1).1)) (Lib.hid (fun s h1 _ => (cmpQ_le _ _).2 (beta_law hlt h1).1)) ((cmpQ_le _ _).2 (half_law hlt).1) hr
end Go.Proofs.YtbfhonhjejeaiaaGreatDoor
