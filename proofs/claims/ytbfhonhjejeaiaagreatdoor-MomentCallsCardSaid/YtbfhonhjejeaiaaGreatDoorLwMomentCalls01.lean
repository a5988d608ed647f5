/- What the library reads of the package variables, out of a row's premise; the wrap that keeps the world's shape. MomentCalls: the walk (printed by mkmlaws.py). Opening and shutting an argument that is a loss. Opening and shutting an argument that is a curve. -/
import Derived.Test.YtbfhonhjejeaiaaGreatDoorRb03
import Derived.Test.YtbfhonhjejeaiaaGreatDoorRows
import Derived.Lib.LaidTab
import Derived.Stop.LaidErr
import Derived.Shelf.Vars
import Derived.Handed
import Derived.ChangeAgain
import Derived.Test.YtbfhonhjejeaiaaGreatDoorRb18
import Derived.Test.YtbfhonhjejeaiaaGreatDoorRb10
import Derived.ProofKit
import Derived.OpenShut
import Derived.ShutString
import Derived.ChangeOld
import Derived.ChangeSame
import Derived.Test.YtbfhonhjejeaiaaGreatDoorRb11
namespace Go.Proofs.YtbfhonhjejeaiaaGreatDoor
open Go.RowKit

/-- The variables that each row lists. -/
def laidL : List (String × DataW Unit) := [("math/bits.deBruijn32tab", Rows.laid_math_bits_deBruijn32tab), ("math/bits.deBruijn64tab", Rows.laid_math_bits_deBruijn64tab), ("internal/strconv.uint64pow10", Rows.laid_internal_strconv_uint64pow10), ("unicode/utf8.acceptRanges", Rows.laid_unicode_utf8_acceptRanges), ("strconv.ErrRange", Rows.laid_strconv_ErrRange), ("strconv.ErrSyntax", Rows.laid_strconv_ErrSyntax), ("unicode/utf8.first", Rows.laid_unicode_utf8_first)]
theorem pow_is : Rows.laid_internal_strconv_uint64pow10 = Lib.tabData (H := Unit) .u64 Lib.pow10Tab := by kernel_rfl
theorem res_of_laid {W : World} (h : laidMet Tryz.prog laidL W) (hs : W.ShapedOpen Tryz.prog) : Res W := by
  refine ⟨?_, ?_⟩
  · have h2 := laidMet.tail (laidMet.tail h)
    rw [pow_is] at h2
    exact Lib.tabIs_of_head (g := 1) (t := (Tryz.prog.globals[1]?.map (·.type)).getD 0) (e := 201) (n := 20) (by kernel_rfl) (by kernel_rfl) (by kernel_rfl) (by kernel_rfl) (by kernel_rfl) (by kernel_rfl) h2
  · exact cell_of_shapedOpen_int (P := Tryz.prog) (g := 0) (t := 3) (zero := #[.int .i64 0]) hs (of_decide_eq_true (by kernel_rfl)) (by kernel_rfl) rfl (by kernel_rfl) (by kernel_rfl) Tryz.underlying3
/-- The wrap for a row that lists variables, with the world's shape. -/
theorem returns_shaped {H : Type} {enc : TypeId × Value → H} {a : Assume} {C : Checked} {os : Os} {f : FuncId} {fn : Func} {s : ChangeSpec} {conds : List PathCond} {apart fresh handsOn again : Bool} {X : World → Array Value → Prop}
    (hX : ∀ (w w' : World) (args : Array Value), w.heap = w'.heap → X w args → X w' args)
    (own : ownKnob C.prog.godebug = none) (started : os.Started) (noInit : C.prog.inits.idxOf? f = none) (hfn : C.prog.funcs[f]? = some fn)
    (witness : ∃ (w : World) (tape : Tape) (i : Input), w.os = os ∧ (w.forCall tape i).Shaped C.prog ∧ i.vars = [] ∧ Input.okWide C.prog (w.forCall tape i) .any w.heap.size f i ∧
      ((s.pre enc C.prog fn conds apart (w.forCall tape i).memory i.args ∧ X (w.forCall tape i).memory i.args) ∧ sizedMet enc C.prog fn (OpenSpec.ofChange s) apart (w.forCall tape i).memory i.args) ∧ a.holds C.prog (lone (Frame.enter C.prog f i.args .normal) [] (w.forCall tape i)))
    (contract : ∀ (W : World) (base : Nat) (args : Array Value) (ds gs : List (DataW H)) (before : List MemPlace),
      (∀ (j : Nat) t v, fn.params[j]? = some t → args[j]? = some v → Value.okWide C.prog W .any base t v) →
      DataW.Whole enc C.prog fn.params.toList s.vars apart W args.toList ds gs before →
      X W args → W.ShapedOpen C.prog →
      Calls C.prog f args W fun e W' => ∃ v, e = .returned v ∧ s.post enc C.prog fn apart fresh handsOn again W args v W') :
    ReturnsInHanded a C os f .any (fun w args => (s.pre enc C.prog fn conds apart w args ∧ X w args) ∧ sizedMet enc C.prog fn (OpenSpec.ofChange s) apart w args) (s.post enc C.prog fn apart fresh handsOn again) := by
  refine returnsInHanded_of_calls own started noInit witness ?_
  intro w tape i _ hsh _ hok hpre _
  obtain ⟨_, _, _, fn', hfn', _, _, _, _, hval⟩ := hok
  have e : fn' = fn := Option.some.inj (hfn'.symm.trans hfn)
  subst e
  obtain ⟨⟨⟨ds, gs, before, hw, _⟩, hx⟩, _⟩ := hpre
  have hw' := DataW.Whole.of_heap (w' := w.forCall tape i) (by rfl) hw
  refine (contract (w.forCall tape i) w.heap.size i.args ds gs before hval hw' (hX _ _ _ (by rfl) hx) hsh).mono fun e W' ⟨v, he, hp⟩ => ?_
  subst he
  exact ChangeSpec.post_blind hp
end Go.Proofs.YtbfhonhjejeaiaaGreatDoor
namespace Go.Proofs.YtbfhonhjejeaiaaGreatDoor
open Go.RowKit Go.Shelf
open Lim

set_option maxRecDepth 100000 in
set_option maxHeartbeats 16000000 in
theorem calls_h1 (a b : CT) (F L : ByteArray) (o : Int) (HV : lightC [a, b] = false) (w : World) (hr : Res w) :
    Calls Tryz.prog 10 #[cv a, cv b, .string F, .string L, .int .i64 o] w fun e w' => e = .returned (.bool true) ∧ Below w.heap.size w w' := by
  have D0 := Lib.hid (((LW.nil hr).push w.heap.size 52 (cvA a) rfl).push (w.heap.size + 1) 52 (cvA b) (by simp))
  clear hr
  have TK0 : True := trivial
  have TK1 : True := trivial
  go_enter Tryz.func10, Tryz.ntmps10
  go_wp2_with ((clear TK0; go_at_call 37; refine (mlives_any _ D0.out.res).mono ?_; rintro e w1 ⟨rfl, hb⟩; have D1 := Lib.hid (D0.out.later hb); obtain ⟨b0_1, b1_1, b2_1, b3_1, b4_1, b5_1, b6_1, b7_1⟩ := (D1.out.curve (.head _)).cells; have bl_1 := (D1.out.curve (.head _)).lt; obtain ⟨a0_1, a1_1, a2_1, a3_1, a4_1, a5_1, a6_1, a7_1⟩ := (D1.out.curve (.tail _ (.head _))).cells; have al_1 := (D1.out.curve (.tail _ (.head _))).lt; clear hb))
  go_wp2_with ((clear TK1; go_at_call 38; refine (mlight_any [a, b] _ _ (crow2 ((D1.out.push w1.heap.size 52 #[.string (a 0), .string (a 1), .string (a 2), .string (a 3), .string (a 4), .string (a 5), .string (a 6), .string (a 7), .string (b 0), .string (b 1), .string (b 2), .string (b 3), .string (b 4), .string (b 5), .string (b 6), .string (b 7)] rfl).held _ (.head _)))).mono ?_; rintro e w2 ⟨rfl, hw⟩; have D2 := Lib.hid (LW.eq (D1.out.push w1.heap.size 52 #[.string (a 0), .string (a 1), .string (a 2), .string (a 3), .string (a 4), .string (a 5), .string (a 6), .string (a 7), .string (b 0), .string (b 1), .string (b 2), .string (b 3), .string (b 4), .string (b 5), .string (b 6), .string (b 7)] rfl) hw); rw [HV]; clear hw b0_1 b1_1 b2_1 b3_1 b4_1 b5_1 b6_1 b7_1 bl_1 a0_1 a1_1 a2_1 a3_1 a4_1 a5_1 a6_1 a7_1 al_1))
  go_ret
  exact ⟨rfl, D2.out.below⟩
set_option maxRecDepth 100000 in
set_option maxHeartbeats 16000000 in
theorem calls_h2 (a b : CT) (F L : ByteArray) (o : Int) (HV : lightC [a, b] = true) (hF : ¬ F.size ≤ 120) (w : World) (hr : Res w) :
    Calls Tryz.prog 10 #[cv a, cv b, .string F, .string L, .int .i64 o] w fun e w' => e = .returned (.bool true) ∧ Below w.heap.size w w' := by
  have D0 := Lib.hid (((LW.nil hr).push w.heap.size 52 (cvA a) rfl).push (w.heap.size + 1) 52 (cvA b) (by simp))
  clear hr
  have d1 : decide (120 < (F.size : Int)) = true := decide_eq_true (by omega)
  clear hF
  have TK0 : True := trivial
  have TK1 : True := trivial
  go_enter Tryz.func10, Tryz.ntmps10
  go_wp2_with ((clear TK0; go_at_call 37; refine (mlives_any _ D0.out.res).mono ?_; rintro e w1 ⟨rfl, hb⟩; have D1 := Lib.hid (D0.out.later hb); obtain ⟨b0_1, b1_1, b2_1, b3_1, b4_1, b5_1, b6_1, b7_1⟩ := (D1.out.curve (.head _)).cells; have bl_1 := (D1.out.curve (.head _)).lt; obtain ⟨a0_1, a1_1, a2_1, a3_1, a4_1, a5_1, a6_1, a7_1⟩ := (D1.out.curve (.tail _ (.head _))).cells; have al_1 := (D1.out.curve (.tail _ (.head _))).lt; clear hb))
  go_wp2_with ((clear TK1; go_at_call 38; refine (mlight_any [a, b] _ _ (crow2 ((D1.out.push w1.heap.size 52 #[.string (a 0), .string (a 1), .string (a 2), .string (a 3), .string (a 4), .string (a 5), .string (a 6), .string (a 7), .string (b 0), .string (b 1), .string (b 2), .string (b 3), .string (b 4), .string (b 5), .string (b 6), .string (b 7)] rfl).held _ (.head _)))).mono ?_; rintro e w2 ⟨rfl, hw⟩; have D2 := Lib.hid (LW.eq (D1.out.push w1.heap.size 52 #[.string (a 0), .string (a 1), .string (a 2), .string (a 3), .string (a 4), .string (a 5), .string (a 6), .string (a 7), .string (b 0), .string (b 1), .string (b 2), .string (b 3), .string (b 4), .string (b 5), .string (b 6), .string (b 7)] rfl) hw); rw [HV]; clear hw b0_1 b1_1 b2_1 b3_1 b4_1 b5_1 b6_1 b7_1 bl_1 a0_1 a1_1 a2_1 a3_1 a4_1 a5_1 a6_1 a7_1 al_1))
  go_ret
  exact ⟨rfl, D2.out.below⟩
set_option maxRecDepth 100000 in
set_option maxHeartbeats 16000000 in
theorem calls_h3 (a b : CT) (F L : ByteArray) (o : Int) (HV : lightC [a, b] = true) (hF : F.size ≤ 120) (hL : ¬ L.size ≤ 120) (w : World) (hr : Res w) :
    Calls Tryz.prog 10 #[cv a, cv b, .string F, .string L, .int .i64 o] w fun e w' => e = .returned (.bool true) ∧ Below w.heap.size w w' := by
  have D0 := Lib.hid (((LW.nil hr).push w.heap.size 52 (cvA a) rfl).push (w.heap.size + 1) 52 (cvA b) (by simp))
  clear hr
  have d1 : decide (120 < (F.size : Int)) = false := decide_eq_false (by omega)
  have d2 : decide (120 < (L.size : Int)) = true := decide_eq_true (by omega)
  clear hF hL
  have TK0 : True := trivial
  have TK1 : True := trivial
  go_enter Tryz.func10, Tryz.ntmps10
  go_wp2_with ((clear TK0; go_at_call 37; refine (mlives_any _ D0.out.res).mono ?_; rintro e w1 ⟨rfl, hb⟩; have D1 := Lib.hid (D0.out.later hb); obtain ⟨b0_1, b1_1, b2_1, b3_1, b4_1, b5_1, b6_1, b7_1⟩ := (D1.out.curve (.head _)).cells; have bl_1 := (D1.out.curve (.head _)).lt; obtain ⟨a0_1, a1_1, a2_1, a3_1, a4_1, a5_1, a6_1, a7_1⟩ := (D1.out.curve (.tail _ (.head _))).cells; have al_1 := (D1.out.curve (.tail _ (.head _))).lt; clear hb))
  go_wp2_with ((clear TK1; go_at_call 38; refine (mlight_any [a, b] _ _ (crow2 ((D1.out.push w1.heap.size 52 #[.string (a 0), .string (a 1), .string (a 2), .string (a 3), .string (a 4), .string (a 5), .string (a 6), .string (a 7), .string (b 0), .string (b 1), .string (b 2), .string (b 3), .string (b 4), .string (b 5), .string (b 6), .string (b 7)] rfl).held _ (.head _)))).mono ?_; rintro e w2 ⟨rfl, hw⟩; have D2 := Lib.hid (LW.eq (D1.out.push w1.heap.size 52 #[.string (a 0), .string (a 1), .string (a 2), .string (a 3), .string (a 4), .string (a 5), .string (a 6), .string (a 7), .string (b 0), .string (b 1), .string (b 2), .string (b 3), .string (b 4), .string (b 5), .string (b 6), .string (b 7)] rfl) hw); rw [HV]; clear hw b0_1 b1_1 b2_1 b3_1 b4_1 b5_1 b6_1 b7_1 bl_1 a0_1 a1_1 a2_1 a3_1 a4_1 a5_1 a6_1 a7_1 al_1))
  go_ret
  exact ⟨rfl, D2.out.below⟩
set_option maxRecDepth 100000 in
set_option maxHeartbeats 16000000 in
theorem calls_walk (a b : CT) (F L : ByteArray) (o : Int) (HV : lightC [a, b] = true) (hF : F.size ≤ 120) (hL : L.size ≤ 120) (X Y : CT) (e1 e2 e3 e4 o5 e5 e6 : Int) (x3 : Bool) (f4 d4 f5 d5 : ByteArray)
    (PO : Hid (Ret 47 #[.string F, .string L] (.tuple #[cv X, .int .i64 e1]))) (PO' : Hid (Ret 49 #[.string F, .string L] (.tuple #[cv X, .int .i64 e1]))) (PA : Hid (Ret 44 #[cv a, cv b] (.tuple #[cv Y, .int .i64 e2]))) (PA' : Hid (Ret 50 #[cv a, cv b] (.tuple #[cv Y, .int .i64 e2]))) (PF : Hid (Ret 46 #[cv a, cv b] (.tuple #[.bool x3, .int .i64 e3]))) (PF' : Hid (Ret 51 #[cv a, cv b] (.tuple #[.bool x3, .int .i64 e3])))
    (PT : Hid (Ret 42 #[cv a, .int .i64 o, .string F] (.tuple #[.agg #[.string f4, .string d4], .int .i64 e4]))) (PT' : Hid (Ret 52 #[cv a, .int .i64 o, .string F] (.tuple #[.agg #[.string f4, .string d4], .int .i64 e4]))) (PB : Hid (Ret 41 #[cv a, .string F] (.tuple #[.int .i64 o5, .agg #[.string f5, .string d5], .int .i64 e5]))) (PB' : Hid (Ret 53 #[cv a, .string F] (.tuple #[.int .i64 o5, .agg #[.string f5, .string d5], .int .i64 e5]))) (PC : Hid (Ret 48 #[cv a] (.int .i64 e6))) (PC' : Hid (Ret 39 #[cv a] (.int .i64 e6))) (w : World) (hr : Res w) :
    Calls Tryz.prog 10 #[cv a, cv b, .string F, .string L, .int .i64 o] w fun e w' => e = .returned (.bool true) ∧ Below w.heap.size w w' := by
  have D0 := Lib.hid (((LW.nil hr).push w.heap.size 52 (cvA a) rfl).push (w.heap.size + 1) 52 (cvA b) (by simp))
  clear hr
  have d1 : decide (120 < (F.size : Int)) = false := decide_eq_false (by omega)
  have d2 : decide (120 < (L.size : Int)) = false := decide_eq_false (by omega)
  have q1 := eq8_same X
  have q2 := eq8_same Y
  have q3 := eq8_same noneT
  clear hF hL
  have TK0 : True := trivial
  have TK1 : True := trivial
  have TK2 : True := trivial
  have TK3 : True := trivial
  have TK4 : True := trivial
  have TK5 : True := trivial
  have TK6 : True := trivial
  have TK7 : True := trivial
  have TK8 : True := trivial
  have TK9 : True := trivial
  have TK10 : True := trivial
  have TK11 : True := trivial
  have TK12 : True := trivial
  have TK13 : True := trivial
  have TK14 : True := trivial
  have TK15 : True := trivial
  go_enter Tryz.func10, Tryz.ntmps10
  go_wp2_with ((clear TK0; go_at_call 37; refine (mlives_any _ D0.out.res).mono ?_; rintro e w1 ⟨rfl, hb⟩; have D1 := Lib.hid (D0.out.later hb); obtain ⟨b0_1, b1_1, b2_1, b3_1, b4_1, b5_1, b6_1, b7_1⟩ := (D1.out.curve (.head _)).cells; have bl_1 := (D1.out.curve (.head _)).lt; obtain ⟨a0_1, a1_1, a2_1, a3_1, a4_1, a5_1, a6_1, a7_1⟩ := (D1.out.curve (.tail _ (.head _))).cells; have al_1 := (D1.out.curve (.tail _ (.head _))).lt; clear hb))
  go_wp2_with ((clear TK1; go_at_call 38; refine (mlight_any [a, b] _ _ (crow2 ((D1.out.push w1.heap.size 52 #[.string (a 0), .string (a 1), .string (a 2), .string (a 3), .string (a 4), .string (a 5), .string (a 6), .string (a 7), .string (b 0), .string (b 1), .string (b 2), .string (b 3), .string (b 4), .string (b 5), .string (b 6), .string (b 7)] rfl).held _ (.head _)))).mono ?_; rintro e w2 ⟨rfl, hw⟩; have D2 := Lib.hid (LW.eq (D1.out.push w1.heap.size 52 #[.string (a 0), .string (a 1), .string (a 2), .string (a 3), .string (a 4), .string (a 5), .string (a 6), .string (a 7), .string (b 0), .string (b 1), .string (b 2), .string (b 3), .string (b 4), .string (b 5), .string (b 6), .string (b 7)] rfl) hw); rw [HV]; clear hw b0_1 b1_1 b2_1 b3_1 b4_1 b5_1 b6_1 b7_1 bl_1 a0_1 a1_1 a2_1 a3_1 a4_1 a5_1 a6_1 a7_1 al_1))
  go_wp2_with ((clear TK2; go_at_call 47; refine (PO.out _ D2.out.res).mono ?_; rintro e w3 ⟨rfl, hb⟩; have D3 := Lib.hid (D2.out.later hb); clear hb))
  go_wp2_with ((clear TK3; go_at_call 49; refine (PO'.out _ (D3.out.push w3.heap.size 52 (cvA X) rfl).res).mono ?_; rintro e w4 ⟨rfl, hb⟩; have D4 := Lib.hid ((D3.out.push w3.heap.size 52 (cvA X) rfl).later hb); obtain ⟨b0_4, b1_4, b2_4, b3_4, b4_4, b5_4, b6_4, b7_4⟩ := (D4.out.curve (.tail _ (.tail _ (.head _)))).cells; have bl_4 := (D4.out.curve (.tail _ (.tail _ (.head _)))).lt; obtain ⟨a0_4, a1_4, a2_4, a3_4, a4_4, a5_4, a6_4, a7_4⟩ := (D4.out.curve (.tail _ (.tail _ (.tail _ (.head _))))).cells; have al_4 := (D4.out.curve (.tail _ (.tail _ (.tail _ (.head _))))).lt; clear hb))
  go_wp2_with ((clear TK4; go_at_call 44; refine (PA.out _ (D4.out.push w4.heap.size 52 (cvA X) rfl).res).mono ?_; rintro e w5 ⟨rfl, hb⟩; have D5 := Lib.hid ((D4.out.push w4.heap.size 52 (cvA X) rfl).later hb); obtain ⟨b0_5, b1_5, b2_5, b3_5, b4_5, b5_5, b6_5, b7_5⟩ := (D5.out.curve (.tail _ (.tail _ (.tail _ (.head _))))).cells; have bl_5 := (D5.out.curve (.tail _ (.tail _ (.tail _ (.head _))))).lt; obtain ⟨a0_5, a1_5, a2_5, a3_5, a4_5, a5_5, a6_5, a7_5⟩ := (D5.out.curve (.tail _ (.tail _ (.tail _ (.tail _ (.head _)))))).cells; have al_5 := (D5.out.curve (.tail _ (.tail _ (.tail _ (.tail _ (.head _)))))).lt; clear hb b0_4 b1_4 b2_4 b3_4 b4_4 b5_4 b6_4 b7_4 bl_4 a0_4 a1_4 a2_4 a3_4 a4_4 a5_4 a6_4 a7_4 al_4))
  go_wp2_with ((clear TK5; go_at_call 50; refine (PA'.out _ (D5.out.push w5.heap.size 52 (cvA Y) rfl).res).mono ?_; rintro e w6 ⟨rfl, hb⟩; have D6 := Lib.hid ((D5.out.push w5.heap.size 52 (cvA Y) rfl).later hb); obtain ⟨b0_6, b1_6, b2_6, b3_6, b4_6, b5_6, b6_6, b7_6⟩ := (D6.out.curve (.tail _ (.tail _ (.tail _ (.tail _ (.head _)))))).cells; have bl_6 := (D6.out.curve (.tail _ (.tail _ (.tail _ (.tail _ (.head _)))))).lt; obtain ⟨a0_6, a1_6, a2_6, a3_6, a4_6, a5_6, a6_6, a7_6⟩ := (D6.out.curve (.tail _ (.tail _ (.tail _ (.tail _ (.tail _ (.head _))))))).cells; have al_6 := (D6.out.curve (.tail _ (.tail _ (.tail _ (.tail _ (.tail _ (.head _))))))).lt; clear hb b0_5 b1_5 b2_5 b3_5 b4_5 b5_5 b6_5 b7_5 bl_5 a0_5 a1_5 a2_5 a3_5 a4_5 a5_5 a6_5 a7_5 al_5))
  go_wp2_with ((clear TK6; go_at_call 46; refine (PF.out _ (D6.out.push w6.heap.size 52 (cvA Y) rfl).res).mono ?_; rintro e w7 ⟨rfl, hb⟩; have D7 := Lib.hid ((D6.out.push w6.heap.size 52 (cvA Y) rfl).later hb); obtain ⟨b0_7, b1_7, b2_7, b3_7, b4_7, b5_7, b6_7, b7_7⟩ := (D7.out.curve (.tail _ (.tail _ (.tail _ (.tail _ (.tail _ (.head _))))))).cells; have bl_7 := (D7.out.curve (.tail _ (.tail _ (.tail _ (.tail _ (.tail _ (.head _))))))).lt; obtain ⟨a0_7, a1_7, a2_7, a3_7, a4_7, a5_7, a6_7, a7_7⟩ := (D7.out.curve (.tail _ (.tail _ (.tail _ (.tail _ (.tail _ (.tail _ (.head _)))))))).cells; have al_7 := (D7.out.curve (.tail _ (.tail _ (.tail _ (.tail _ (.tail _ (.tail _ (.head _)))))))).lt; clear hb b0_6 b1_6 b2_6 b3_6 b4_6 b5_6 b6_6 b7_6 bl_6 a0_6 a1_6 a2_6 a3_6 a4_6 a5_6 a6_6 a7_6 al_6))
  go_wp2_with ((clear TK7; go_at_call 51; refine (PF'.out _ D7.out.res).mono ?_; rintro e w8 ⟨rfl, hb⟩; have D8 := Lib.hid (D7.out.later hb); obtain ⟨a0_8, a1_8, a2_8, a3_8, a4_8, a5_8, a6_8, a7_8⟩ := (D8.out.curve (.tail _ (.tail _ (.tail _ (.tail _ (.tail _ (.tail _ (.head _)))))))).cells; have al_8 := (D8.out.curve (.tail _ (.tail _ (.tail _ (.tail _ (.tail _ (.tail _ (.head _)))))))).lt; clear hb b0_7 b1_7 b2_7 b3_7 b4_7 b5_7 b6_7 b7_7 bl_7 a0_7 a1_7 a2_7 a3_7 a4_7 a5_7 a6_7 a7_7 al_7))
  go_wp2_with ((clear TK8; go_at_call 42; refine (PT.out _ D8.out.res).mono ?_; rintro e w9 ⟨rfl, hb⟩; have D9 := Lib.hid (D8.out.later hb); obtain ⟨a0_9, a1_9, a2_9, a3_9, a4_9, a5_9, a6_9, a7_9⟩ := (D9.out.curve (.tail _ (.tail _ (.tail _ (.tail _ (.tail _ (.tail _ (.head _)))))))).cells; have al_9 := (D9.out.curve (.tail _ (.tail _ (.tail _ (.tail _ (.tail _ (.tail _ (.head _)))))))).lt; clear hb a0_8 a1_8 a2_8 a3_8 a4_8 a5_8 a6_8 a7_8 al_8))
  go_wp2_with ((clear TK9; go_at_call 52; refine (PT'.out _ (D9.out.push w9.heap.size 24 #[.string f4, .string d4] rfl).res).mono ?_; rintro e w10 ⟨rfl, hb⟩; have D10 := Lib.hid ((D9.out.push w9.heap.size 24 #[.string f4, .string d4] rfl).later hb); obtain ⟨a0_10, a1_10, a2_10, a3_10, a4_10, a5_10, a6_10, a7_10⟩ := (D10.out.curve (.tail _ (.tail _ (.tail _ (.tail _ (.tail _ (.tail _ (.tail _ (.head _))))))))).cells; have al_10 := (D10.out.curve (.tail _ (.tail _ (.tail _ (.tail _ (.tail _ (.tail _ (.tail _ (.head _))))))))).lt; clear hb a0_9 a1_9 a2_9 a3_9 a4_9 a5_9 a6_9 a7_9 al_9))
  go_wp2_with ((clear TK10; go_at_call 41; refine (PB.out _ (D10.out.push w10.heap.size 24 #[.string f4, .string d4] rfl).res).mono ?_; rintro e w11 ⟨rfl, hb⟩; have D11 := Lib.hid ((D10.out.push w10.heap.size 24 #[.string f4, .string d4] rfl).later hb); obtain ⟨a0_11, a1_11, a2_11, a3_11, a4_11, a5_11, a6_11, a7_11⟩ := (D11.out.curve (.tail _ (.tail _ (.tail _ (.tail _ (.tail _ (.tail _ (.tail _ (.tail _ (.head _)))))))))).cells; have al_11 := (D11.out.curve (.tail _ (.tail _ (.tail _ (.tail _ (.tail _ (.tail _ (.tail _ (.tail _ (.head _)))))))))).lt; clear hb a0_10 a1_10 a2_10 a3_10 a4_10 a5_10 a6_10 a7_10 al_10))
  go_wp2_with ((clear TK11; go_at_call 53; refine (PB'.out _ (D11.out.push w11.heap.size 24 #[.string f5, .string d5] rfl).res).mono ?_; rintro e w12 ⟨rfl, hb⟩; have D12 := Lib.hid ((D11.out.push w11.heap.size 24 #[.string f5, .string d5] rfl).later hb); obtain ⟨r0_12, r1_12⟩ := cells2 (D12.out.loss (.head _)); have rl_12 := (D12.out.loss (.head _)).lt; obtain ⟨q0_12, q1_12⟩ := cells2 (D12.out.loss (.tail _ (.head _))); have ql_12 := (D12.out.loss (.tail _ (.head _))).lt; obtain ⟨p0_12, p1_12⟩ := cells2 (D12.out.loss (.tail _ (.tail _ (.head _)))); have pl_12 := (D12.out.loss (.tail _ (.tail _ (.head _)))).lt; obtain ⟨v0_12, v1_12, v2_12, v3_12, v4_12, v5_12, v6_12, v7_12⟩ := (D12.out.curve (.tail _ (.tail _ (.tail _ (.head _))))).cells; have vl_12 := (D12.out.curve (.tail _ (.tail _ (.tail _ (.head _))))).lt; obtain ⟨y0_12, y1_12, y2_12, y3_12, y4_12, y5_12, y6_12, y7_12⟩ := (D12.out.curve (.tail _ (.tail _ (.tail _ (.tail _ (.head _)))))).cells; have yl_12 := (D12.out.curve (.tail _ (.tail _ (.tail _ (.tail _ (.head _)))))).lt; obtain ⟨u0_12, u1_12, u2_12, u3_12, u4_12, u5_12, u6_12, u7_12⟩ := (D12.out.curve (.tail _ (.tail _ (.tail _ (.tail _ (.tail _ (.head _))))))).cells; have ul_12 := (D12.out.curve (.tail _ (.tail _ (.tail _ (.tail _ (.tail _ (.head _))))))).lt; obtain ⟨x0_12, x1_12, x2_12, x3_12, x4_12, x5_12, x6_12, x7_12⟩ := (D12.out.curve (.tail _ (.tail _ (.tail _ (.tail _ (.tail _ (.tail _ (.head _)))))))).cells; have xl_12 := (D12.out.curve (.tail _ (.tail _ (.tail _ (.tail _ (.tail _ (.tail _ (.head _)))))))).lt; obtain ⟨a0_12, a1_12, a2_12, a3_12, a4_12, a5_12, a6_12, a7_12⟩ := (D12.out.curve (.tail _ (.tail _ (.tail _ (.tail _ (.tail _ (.tail _ (.tail _ (.tail _ (.tail _ (.head _))))))))))).cells; have al_12 := (D12.out.curve (.tail _ (.tail _ (.tail _ (.tail _ (.tail _ (.tail _ (.tail _ (.tail _ (.tail _ (.head _))))))))))).lt; clear hb a0_11 a1_11 a2_11 a3_11 a4_11 a5_11 a6_11 a7_11 al_11))
  have DF := Lib.hid (D12.out.push w12.heap.size 24 #[.string f5, .string d5] rfl)
  clear r0_12 r1_12 rl_12 q0_12 q1_12 ql_12 p0_12 p1_12 pl_12 v0_12 v1_12 v2_12 v3_12 v4_12 v5_12 v6_12 v7_12 vl_12 y0_12 y1_12 y2_12 y3_12 y4_12 y5_12 y6_12 y7_12 yl_12 u0_12 u1_12 u2_12 u3_12 u4_12 u5_12 u6_12 u7_12 ul_12 x0_12 x1_12 x2_12 x3_12 x4_12 x5_12 x6_12 x7_12 xl_12 a0_12 a1_12 a2_12 a3_12 a4_12 a5_12 a6_12 a7_12 al_12
  obtain ⟨ft0, ft1⟩ := DF.out.wideL (.head _)
  obtain ⟨fr0, fr1⟩ := DF.out.wideL (.tail _ (.head _))
  obtain ⟨fq0, fq1⟩ := DF.out.wideL (.tail _ (.tail _ (.head _)))
  obtain ⟨fp0, fp1⟩ := DF.out.wideL (.tail _ (.tail _ (.tail _ (.head _))))
  obtain ⟨fv0, fv1, fv2, fv3, fv4, fv5, fv6, fv7⟩ := DF.out.wideC (.tail _ (.tail _ (.tail _ (.tail _ (.head _)))))
  obtain ⟨fy0, fy1, fy2, fy3, fy4, fy5, fy6, fy7⟩ := DF.out.wideC (.tail _ (.tail _ (.tail _ (.tail _ (.tail _ (.head _))))))
  obtain ⟨fu0, fu1, fu2, fu3, fu4, fu5, fu6, fu7⟩ := DF.out.wideC (.tail _ (.tail _ (.tail _ (.tail _ (.tail _ (.tail _ (.head _)))))))
  obtain ⟨fx0, fx1, fx2, fx3, fx4, fx5, fx6, fx7⟩ := DF.out.wideC (.tail _ (.tail _ (.tail _ (.tail _ (.tail _ (.tail _ (.tail _ (.head _))))))))
  obtain ⟨fa0, fa1, fa2, fa3, fa4, fa5, fa6, fa7⟩ := DF.out.wideC (.tail _ (.tail _ (.tail _ (.tail _ (.tail _ (.tail _ (.tail _ (.tail _ (.tail _ (.tail _ (.head _)))))))))))
  generalize w12.alloc (.cells #[.string f5, .string d5] 24) = WF at *
  refine wp_region_fast (by kernel_rfl) (by kernel_rfl) (by kernel_rfl) ?_
  dsimp only [List.append]
  repeat (go_big_quiet_step (first
    | (go_at_call 48; refine (PC.out _ (DF.out.res.below (LaterW.h _))).mono ?_; rintro e w99 ⟨rfl, hb9⟩; exact ⟨rfl, ⟨⟨w99, (LaterW.h _).trans (hb9.mono (LaterW.h _).size)⟩, rfl⟩⟩)
    | (go_at_call 39; refine (PC'.out _ (DF.out.res.below (LaterW.h _))).mono ?_; rintro e w99 ⟨rfl, hb9⟩; exact ⟨rfl, ⟨⟨w99, (LaterW.h _).trans (hb9.mono (LaterW.h _).size)⟩, rfl⟩⟩)
    | (go_at_call 45; refine (mnone_any _).mono ?_; rintro e w99 ⟨rfl, hb9⟩; exact ⟨rfl, ⟨⟨w99, (LaterW.h _).trans (hb9.mono (LaterW.h _).size)⟩, rfl⟩⟩)
    | (go_at_call 54; refine (rmnone_any _).mono ?_; rintro e w99 ⟨rfl, hb9⟩; exact ⟨rfl, ⟨⟨w99, (LaterW.h _).trans (hb9.mono (LaterW.h _).size)⟩, rfl⟩⟩)))
  refine wpQuiet_nil ?_
  rintro _ ⟨z, rfl⟩
  go_wp2
  go_ret
  exact ⟨rfl, DF.out.below.trans (z.h.mono DF.out.below.size)⟩
theorem momentCalls_any (a b : CT) (F L : ByteArray) (o : Int) (w : World) (hr : Res w) :
    Calls Tryz.prog 10 #[cv a, cv b, .string F, .string L, .int .i64 o] w fun e w' => e = .returned (.bool true) ∧ Below w.heap.size w w' := by
  cases hv : lightC [a, b] with
  | false => exact calls_h1 a b F L o hv w hr
  | true =>
    by_cases hF : F.size ≤ 120
    · by_cases hL : L.size ≤ 120
      · have ha := lightC_at hv (c := a) (by simp)
        have hb := lightC_at hv (c := b) (by simp)
        obtain ⟨X, e1, p1, p2⟩ := of_both hF hL
        obtain ⟨Y, e2, p3, p4⟩ := add_both ha hb
        obtain ⟨x3, e3, p5, p6⟩ := fits_both ha hb
        obtain ⟨f4, d4, e4, p7, p8⟩ := to_both ha hF o
        obtain ⟨o5, f5, d5, e5, p9, p10⟩ := best_both ha hF
        obtain ⟨e6, p11, p12⟩ := check_both ha
        exact calls_walk a b F L o hv hF hL X Y e1 e2 e3 e4 o5 e5 e6 x3 f4 d4 f5 d5 (Lib.hid p1) (Lib.hid p2) (Lib.hid p3) (Lib.hid p4) (Lib.hid p5) (Lib.hid p6) (Lib.hid p7) (Lib.hid p8) (Lib.hid p9) (Lib.hid p10) (Lib.hid p11) (Lib.hid p12) w hr
      · exact calls_h3 a b F L o hv hF hL w hr
    · exact calls_h2 a b F L o hv hF w hr
end Go.Proofs.YtbfhonhjejeaiaaGreatDoor
namespace Go.Proofs.YtbfhonhjejeaiaaGreatDoor
open Go.ChangeShapes Go.WideShapes Go.ChangeAt Go.RowKit

theorem cellsNum : Tryz.prog.cellsOf 22 = 1 := by kernel_rfl
section
variable {H : Type} {enc : TypeId × Value → H}
end
end Go.Proofs.YtbfhonhjejeaiaaGreatDoor
namespace Go.Proofs.YtbfhonhjejeaiaaGreatDoor
open Go.ChangeShapes Go.WideShapes Go.ChangeAt Go.RowKit

theorem cellsCurve : Tryz.prog.cellsOf 52 = 8 := by kernel_rfl
theorem cellsSeven : Tryz.prog.cellsOf 50 = 7 := by kernel_rfl
abbrev litC {H : Type} (a : ByteArray) : DataW H := .lit (.string a.data.toList)
section
variable {H : Type} {enc : TypeId × Value → H}
def dataC (c : CT) : DataW H := .agg [.agg [litC (c 0), litC (c 1), litC (c 2), litC (c 3), litC (c 4), litC (c 5), litC (c 6)], litC (c 7)]
def mkC (a0 a1 a2 a3 a4 a5 a6 a7 : ByteArray) : CT := fun i => match i with
  | 0 => a0
  | 1 => a1
  | 2 => a2
  | 3 => a3
  | 4 => a4
  | 5 => a5
  | 6 => a6
  | _ => a7
set_option maxRecDepth 100000 in
theorem open_curve {W : World} {base b2 : Nat} {sp : Nat → Bool} {held : Bool} {v : Value} {d : DataW H} {p : List MemPlace} (hok : Value.okWide Tryz.prog W .any base 52 v) (h : DataW.Trod enc Tryz.prog W b2 sp held 52 v d p) :
    ∃ c : CT, v = cv c ∧ d = dataC c ∧ p = [] ∧ ∀ i, i < 8 → (c i).size ≤ maxLen := by
  obtain ⟨cs, rfl, hsz⟩ := okWide_struct Tryz.underlying52 hok
  rw [cellsCurve] at hsz
  obtain ⟨l⟩ := cs
  match l, hsz with
  | [c0, c1, c2, c3, c4, c5, c6, c7], _ =>
    obtain ⟨fuel, hf⟩ := h
    obtain ⟨y0, y1, m, hx, _, hy0, hy1⟩ := trod_struct2 Tryz.underlying52 hf
    obtain ⟨b, e7, rfl, wb⟩ := DataW.trod_string Tryz.underlying22 hy1
    obtain ⟨xs, k, _, rfl, _, hlen, hxs⟩ := DataW.trod_array Tryz.underlying50 hy0
    match xs, hlen with
    | [x0, x1, x2, x3, x4, x5, x6], _ =>
      obtain ⟨a0, e0, rfl, w0⟩ := DataW.trod_string Tryz.underlying22 (hxs 0 (by omega))
      obtain ⟨a1, e1, rfl, w1⟩ := DataW.trod_string Tryz.underlying22 (hxs 1 (by omega))
      obtain ⟨a2, e2, rfl, w2⟩ := DataW.trod_string Tryz.underlying22 (hxs 2 (by omega))
      obtain ⟨a3, e3, rfl, w3⟩ := DataW.trod_string Tryz.underlying22 (hxs 3 (by omega))
      obtain ⟨a4, e4, rfl, w4⟩ := DataW.trod_string Tryz.underlying22 (hxs 4 (by omega))
      obtain ⟨a5, e5, rfl, w5⟩ := DataW.trod_string Tryz.underlying22 (hxs 5 (by omega))
      obtain ⟨a6, e6, rfl, w6⟩ := DataW.trod_string Tryz.underlying22 (hxs 6 (by omega))
      simp [Value.cells, cellsNum, cellsSeven] at e0 e1 e2 e3 e4 e5 e6 e7
      subst e0 e1 e2 e3 e4 e5 e6 e7
      simp only [Prod.mk.injEq, List.map_cons, List.map_nil, List.flatMap_cons, List.flatMap_nil, List.append_nil] at hx
      obtain ⟨rfl, rfl⟩ := hx
      refine ⟨mkC a0 a1 a2 a3 a4 a5 a6 b, rfl, rfl, rfl, fun i hi => ?_⟩
      match i, hi with
      | 0, _ => exact w0
      | 1, _ => exact w1
      | 2, _ => exact w2
      | 3, _ => exact w3
      | 4, _ => exact w4
      | 5, _ => exact w5
      | 6, _ => exact w6
      | 7, _ => exact wb
set_option maxRecDepth 100000 in
theorem shut_curve {W : World} {b2 : Nat} {sp : Nat → Bool} {held : Bool} {c : CT} (h : ∀ i, i < 8 → (c i).size ≤ maxLen) :
    DataW.Trod enc Tryz.prog W b2 sp held 52 (cv c) (dataC c) [] := ⟨3, by
  have f1 : DataW.trod enc Tryz.prog W b2 sp held 2 22 [.string (c 7)] = some (litC (c 7), []) := by simp [DataW.trod, Tryz.underlying22, h 7 (by omega)]
  have f0 : DataW.trod enc Tryz.prog W b2 sp held 2 50 [.string (c 0), .string (c 1), .string (c 2), .string (c 3), .string (c 4), .string (c 5), .string (c 6)] = some (.agg [litC (c 0), litC (c 1), litC (c 2), litC (c 3), litC (c 4), litC (c 5), litC (c 6)], []) := by
    have e : List.range 7 = [0, 1, 2, 3, 4, 5, 6] := by decide
    simp [DataW.trod, Tryz.underlying22, Tryz.underlying50, cellsNum, cellsSeven, e, h 0 (by omega), h 1 (by omega), h 2 (by omega), h 3 (by omega), h 4 (by omega), h 5 (by omega), h 6 (by omega)]
  have := trod_struct2_mk (enc := enc) (w := W) (base := b2) (spare := sp) (held := held) (n := 2) (cs := [.string (c 0), .string (c 1), .string (c 2), .string (c 3), .string (c 4), .string (c 5), .string (c 6), .string (c 7)]) Tryz.underlying52 (by simp [cellsCurve]) (by simpa [cellsSeven] using f0) (by simpa [cellsNum] using f1)
  simpa [Value.cells, dataC] using this⟩
end
end Go.Proofs.YtbfhonhjejeaiaaGreatDoor
