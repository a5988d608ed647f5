/- What the library reads of the package variables, out of a row's premise; the wrap that keeps the world's shape. MomentOrder: the walk (printed by mkmlaws.py). MomentOrder returns true at every input: the plain law joined to the walk. Opening and shutting an argument that is a loss. Opening and shutting an argument that is a curve. -/
import Derived.Test.YtbfhonhjejeaiaaGreatDoorRb03
import Derived.Test.YtbfhonhjejeaiaaGreatDoorRows
import Derived.Lib.LaidTab
import Derived.Stop.LaidErr
import Derived.Shelf.Vars
import Derived.Handed
import Derived.ChangeAgain
import Derived.Test.YtbfhonhjejeaiaaGreatDoorRb18
import Derived.Test.YtbfhonhjejeaiaaGreatDoorRb10
import Derived.ProofKit
import Derived.OpenShut
import Derived.ShutString
import Derived.ChangeOld
import Derived.ChangeSame
import Derived.Test.YtbfhonhjejeaiaaGreatDoorRb11
namespace Go.Proofs.YtbfhonhjejeaiaaGreatDoor
open Go.RowKit

/-- The variables that each row lists. -/
def laidL : List (String × DataW Unit) := [("math/bits.deBruijn32tab", Rows.laid_math_bits_deBruijn32tab), ("math/bits.deBruijn64tab", Rows.laid_math_bits_deBruijn64tab), ("internal/strconv.uint64pow10", Rows.laid_internal_strconv_uint64pow10), ("unicode/utf8.acceptRanges", Rows.laid_unicode_utf8_acceptRanges), ("strconv.ErrRange", Rows.laid_strconv_ErrRange), ("strconv.ErrSyntax", Rows.laid_strconv_ErrSyntax), ("unicode/utf8.first", Rows.laid_unicode_utf8_first)]
theorem pow_is : Rows.laid_internal_strconv_uint64pow10 = Lib.tabData (H := Unit) .u64 Lib.pow10Tab := by kernel_rfl
theorem res_of_laid {W : World} (h : laidMet Tryz.prog laidL W) (hs : W.ShapedOpen Tryz.prog) : Res W := by
  refine ⟨?_, ?_⟩
  · have h2 := laidMet.tail (laidMet.tail h)
    rw [pow_is] at h2
    exact Lib.tabIs_of_head (g := 1) (t := (Tryz.prog.globals[1]?.map (·.type)).getD 0) (e := 201) (n := 20) (by kernel_rfl) (by kernel_rfl) (by kernel_rfl) (by kernel_rfl) (by kernel_rfl) (by kernel_rfl) h2
  · exact cell_of_shapedOpen_int (P := Tryz.prog) (g := 0) (t := 3) (zero := #[.int .i64 0]) hs (of_decide_eq_true (by kernel_rfl)) (by kernel_rfl) rfl (by kernel_rfl) (by kernel_rfl) Tryz.underlying3
theorem int_bounds {x : Int} (h : Lit.wf (.int .i64 x) = true) : -9223372036854775808 ≤ x ∧ x ≤ 9223372036854775807 := by
  simpa [Lit.wf, IntKind.min, IntKind.max, IntKind.signed, IntKind.bits] using h

/-- The wrap for a row that lists variables, with the world's shape. -/
theorem returns_shaped {H : Type} {enc : TypeId × Value → H} {a : Assume} {C : Checked} {os : Os} {f : FuncId} {fn : Func} {s : ChangeSpec} {conds : List PathCond} {apart fresh handsOn again : Bool} {X : World → Array Value → Prop}
    (hX : ∀ (w w' : World) (args : Array Value), w.heap = w'.heap → X w args → X w' args)
    (own : ownKnob C.prog.godebug = none) (started : os.Started) (noInit : C.prog.inits.idxOf? f = none) (hfn : C.prog.funcs[f]? = some fn)
    (witness : ∃ (w : World) (tape : Tape) (i : Input), w.os = os ∧ (w.forCall tape i).Shaped C.prog ∧ i.vars = [] ∧ Input.okWide C.prog (w.forCall tape i) .any w.heap.size f i ∧
      ((s.pre enc C.prog fn conds apart (w.forCall tape i).memory i.args ∧ X (w.forCall tape i).memory i.args) ∧ sizedMet enc C.prog fn (OpenSpec.ofChange s) apart (w.forCall tape i).memory i.args) ∧ a.holds C.prog (lone (Frame.enter C.prog f i.args .normal) [] (w.forCall tape i)))
    (contract : ∀ (W : World) (base : Nat) (args : Array Value) (ds gs : List (DataW H)) (before : List MemPlace),
      (∀ (j : Nat) t v, fn.params[j]? = some t → args[j]? = some v → Value.okWide C.prog W .any base t v) →
      DataW.Whole enc C.prog fn.params.toList s.vars apart W args.toList ds gs before →
      X W args → W.ShapedOpen C.prog →
      Calls C.prog f args W fun e W' => ∃ v, e = .returned v ∧ s.post enc C.prog fn apart fresh handsOn again W args v W') :
    ReturnsInHanded a C os f .any (fun w args => (s.pre enc C.prog fn conds apart w args ∧ X w args) ∧ sizedMet enc C.prog fn (OpenSpec.ofChange s) apart w args) (s.post enc C.prog fn apart fresh handsOn again) := by
  refine returnsInHanded_of_calls own started noInit witness ?_
  intro w tape i _ hsh _ hok hpre _
  obtain ⟨_, _, _, fn', hfn', _, _, _, _, hval⟩ := hok
  have e : fn' = fn := Option.some.inj (hfn'.symm.trans hfn)
  subst e
  obtain ⟨⟨⟨ds, gs, before, hw, _⟩, hx⟩, _⟩ := hpre
  have hw' := DataW.Whole.of_heap (w' := w.forCall tape i) (by rfl) hw
  refine (contract (w.forCall tape i) w.heap.size i.args ds gs before hval hw' (hX _ _ _ (by rfl) hx) hsh).mono fun e W' ⟨v, he, hp⟩ => ?_
  subst he
  exact ChangeSpec.post_blind hp
end Go.Proofs.YtbfhonhjejeaiaaGreatDoor
namespace Go.Proofs.YtbfhonhjejeaiaaGreatDoor
open Go.RowKit Go.Shelf
open Lim

set_option maxRecDepth 100000 in
set_option maxHeartbeats 16000000 in
theorem order_h0 (a b c : CT) (n : Int) (F : ByteArray) (HV : lightC [a, b, c] = false) (w : World) (hr : Res w) :
    Calls Tryz.prog 8 #[cv a, cv b, cv c, .int .i64 n, .string F] w fun e w' => e = .returned (.bool true) ∧ Below w.heap.size w w' := by
  have D0 := Lib.hid ((((LW.nil hr).push w.heap.size 52 (cvA a) rfl).push (w.heap.size + 1) 52 (cvA b) (by simp)).push (w.heap.size + 1 + 1) 52 (cvA c) (by simp))
  clear hr
  have TK0 : True := trivial
  have TK1 : True := trivial
  go_enter Tryz.func8, Tryz.ntmps8
  go_wp2_with ((clear TK0; go_at_call 37; refine (mlives_any _ D0.out.res).mono ?_; rintro e w1 ⟨rfl, hb⟩; have D1 := Lib.hid (D0.out.later hb); obtain ⟨c0_1, c1_1, c2_1, c3_1, c4_1, c5_1, c6_1, c7_1⟩ := (D1.out.curve (.head _)).cells; have cl_1 := (D1.out.curve (.head _)).lt; obtain ⟨b0_1, b1_1, b2_1, b3_1, b4_1, b5_1, b6_1, b7_1⟩ := (D1.out.curve (.tail _ (.head _))).cells; have bl_1 := (D1.out.curve (.tail _ (.head _))).lt; obtain ⟨a0_1, a1_1, a2_1, a3_1, a4_1, a5_1, a6_1, a7_1⟩ := (D1.out.curve (.tail _ (.tail _ (.head _)))).cells; have al_1 := (D1.out.curve (.tail _ (.tail _ (.head _)))).lt; clear hb))
  go_wp2_with ((clear TK1; go_at_call 38; refine (mlight_any [a, b, c] _ _ (crow3 ((D1.out.push (w1.heap.size) 52 #[.string (a 0), .string (a 1), .string (a 2), .string (a 3), .string (a 4), .string (a 5), .string (a 6), .string (a 7), .string (b 0), .string (b 1), .string (b 2), .string (b 3), .string (b 4), .string (b 5), .string (b 6), .string (b 7), .string (c 0), .string (c 1), .string (c 2), .string (c 3), .string (c 4), .string (c 5), .string (c 6), .string (c 7)] rfl).held _ (.head _)))).mono ?_; rintro e w2 ⟨rfl, hw⟩; have D2 := Lib.hid (LW.eq (D1.out.push (w1.heap.size) 52 #[.string (a 0), .string (a 1), .string (a 2), .string (a 3), .string (a 4), .string (a 5), .string (a 6), .string (a 7), .string (b 0), .string (b 1), .string (b 2), .string (b 3), .string (b 4), .string (b 5), .string (b 6), .string (b 7), .string (c 0), .string (c 1), .string (c 2), .string (c 3), .string (c 4), .string (c 5), .string (c 6), .string (c 7)] rfl) hw); rw [HV]; clear hw c0_1 c1_1 c2_1 c3_1 c4_1 c5_1 c6_1 c7_1 cl_1 b0_1 b1_1 b2_1 b3_1 b4_1 b5_1 b6_1 b7_1 bl_1 a0_1 a1_1 a2_1 a3_1 a4_1 a5_1 a6_1 a7_1 al_1))
  go_ret
  exact ⟨rfl, D2.out.below⟩
set_option maxRecDepth 100000 in
set_option maxHeartbeats 16000000 in
theorem order_h1 (a b c : CT) (n : Int) (F : ByteArray) (HV : lightC [a, b, c] = true) (k : Int) (hk : k ≠ 0) (CA : Hid (Ret 39 #[cv a] (.int .i64 k))) (w : World) (hr : Res w) :
    Calls Tryz.prog 8 #[cv a, cv b, cv c, .int .i64 n, .string F] w fun e w' => e = .returned (.bool true) ∧ Below w.heap.size w w' := by
  have D0 := Lib.hid ((((LW.nil hr).push w.heap.size 52 (cvA a) rfl).push (w.heap.size + 1) 52 (cvA b) (by simp)).push (w.heap.size + 1 + 1) 52 (cvA c) (by simp))
  clear hr
  have hk1 : (k == 0) = false := beq_eq_false_iff_ne.2 hk
  have hk2 : (k != 0) = true := by rw [bne, hk1]; rfl
  have hk3 : (!(k == 0)) = true := by rw [hk1]; rfl
  have TK0 : True := trivial
  have TK1 : True := trivial
  have TK2 : True := trivial
  go_enter Tryz.func8, Tryz.ntmps8
  go_wp2_with ((clear TK0; go_at_call 37; refine (mlives_any _ D0.out.res).mono ?_; rintro e w1 ⟨rfl, hb⟩; have D1 := Lib.hid (D0.out.later hb); obtain ⟨c0_1, c1_1, c2_1, c3_1, c4_1, c5_1, c6_1, c7_1⟩ := (D1.out.curve (.head _)).cells; have cl_1 := (D1.out.curve (.head _)).lt; obtain ⟨b0_1, b1_1, b2_1, b3_1, b4_1, b5_1, b6_1, b7_1⟩ := (D1.out.curve (.tail _ (.head _))).cells; have bl_1 := (D1.out.curve (.tail _ (.head _))).lt; obtain ⟨a0_1, a1_1, a2_1, a3_1, a4_1, a5_1, a6_1, a7_1⟩ := (D1.out.curve (.tail _ (.tail _ (.head _)))).cells; have al_1 := (D1.out.curve (.tail _ (.tail _ (.head _)))).lt; clear hb))
  go_wp2_with ((clear TK1; go_at_call 38; refine (mlight_any [a, b, c] _ _ (crow3 ((D1.out.push (w1.heap.size) 52 #[.string (a 0), .string (a 1), .string (a 2), .string (a 3), .string (a 4), .string (a 5), .string (a 6), .string (a 7), .string (b 0), .string (b 1), .string (b 2), .string (b 3), .string (b 4), .string (b 5), .string (b 6), .string (b 7), .string (c 0), .string (c 1), .string (c 2), .string (c 3), .string (c 4), .string (c 5), .string (c 6), .string (c 7)] rfl).held _ (.head _)))).mono ?_; rintro e w2 ⟨rfl, hw⟩; have D2 := Lib.hid (LW.eq (D1.out.push (w1.heap.size) 52 #[.string (a 0), .string (a 1), .string (a 2), .string (a 3), .string (a 4), .string (a 5), .string (a 6), .string (a 7), .string (b 0), .string (b 1), .string (b 2), .string (b 3), .string (b 4), .string (b 5), .string (b 6), .string (b 7), .string (c 0), .string (c 1), .string (c 2), .string (c 3), .string (c 4), .string (c 5), .string (c 6), .string (c 7)] rfl) hw); rw [HV]; obtain ⟨a0_2, a1_2, a2_2, a3_2, a4_2, a5_2, a6_2, a7_2⟩ := (D2.out.curve (.tail _ (.tail _ (.tail _ (.head _))))).cells; have al_2 := (D2.out.curve (.tail _ (.tail _ (.tail _ (.head _))))).lt; clear hw c0_1 c1_1 c2_1 c3_1 c4_1 c5_1 c6_1 c7_1 cl_1 b0_1 b1_1 b2_1 b3_1 b4_1 b5_1 b6_1 b7_1 bl_1 a0_1 a1_1 a2_1 a3_1 a4_1 a5_1 a6_1 a7_1 al_1))
  go_wp2_with ((clear TK2; go_at_call 39; refine (CA.out _ D2.out.res).mono ?_; rintro e w3 ⟨rfl, hb⟩; have D3 := Lib.hid (D2.out.later hb); obtain ⟨b0_3, b1_3, b2_3, b3_3, b4_3, b5_3, b6_3, b7_3⟩ := (D3.out.curve (.tail _ (.tail _ (.head _)))).cells; have bl_3 := (D3.out.curve (.tail _ (.tail _ (.head _)))).lt; clear hb a0_2 a1_2 a2_2 a3_2 a4_2 a5_2 a6_2 a7_2 al_2))
  go_ret
  exact ⟨rfl, D3.out.below⟩
set_option maxRecDepth 100000 in
set_option maxHeartbeats 16000000 in
theorem order_h2 (a b c : CT) (n : Int) (F : ByteArray) (HV : lightC [a, b, c] = true) (k : Int) (hk : k ≠ 0) (CA : Hid (Ret 39 #[cv a] (.int .i64 0))) (CB : Hid (Ret 39 #[cv b] (.int .i64 k))) (w : World) (hr : Res w) :
    Calls Tryz.prog 8 #[cv a, cv b, cv c, .int .i64 n, .string F] w fun e w' => e = .returned (.bool true) ∧ Below w.heap.size w w' := by
  have D0 := Lib.hid ((((LW.nil hr).push w.heap.size 52 (cvA a) rfl).push (w.heap.size + 1) 52 (cvA b) (by simp)).push (w.heap.size + 1 + 1) 52 (cvA c) (by simp))
  clear hr
  have hk1 : (k == 0) = false := beq_eq_false_iff_ne.2 hk
  have hk2 : (k != 0) = true := by rw [bne, hk1]; rfl
  have hk3 : (!(k == 0)) = true := by rw [hk1]; rfl
  have TK0 : True := trivial
  have TK1 : True := trivial
  have TK2 : True := trivial
  have TK3 : True := trivial
  go_enter Tryz.func8, Tryz.ntmps8
  go_wp2_with ((clear TK0; go_at_call 37; refine (mlives_any _ D0.out.res).mono ?_; rintro e w1 ⟨rfl, hb⟩; have D1 := Lib.hid (D0.out.later hb); obtain ⟨c0_1, c1_1, c2_1, c3_1, c4_1, c5_1, c6_1, c7_1⟩ := (D1.out.curve (.head _)).cells; have cl_1 := (D1.out.curve (.head _)).lt; obtain ⟨b0_1, b1_1, b2_1, b3_1, b4_1, b5_1, b6_1, b7_1⟩ := (D1.out.curve (.tail _ (.head _))).cells; have bl_1 := (D1.out.curve (.tail _ (.head _))).lt; obtain ⟨a0_1, a1_1, a2_1, a3_1, a4_1, a5_1, a6_1, a7_1⟩ := (D1.out.curve (.tail _ (.tail _ (.head _)))).cells; have al_1 := (D1.out.curve (.tail _ (.tail _ (.head _)))).lt; clear hb))
  go_wp2_with ((clear TK1; go_at_call 38; refine (mlight_any [a, b, c] _ _ (crow3 ((D1.out.push (w1.heap.size) 52 #[.string (a 0), .string (a 1), .string (a 2), .string (a 3), .string (a 4), .string (a 5), .string (a 6), .string (a 7), .string (b 0), .string (b 1), .string (b 2), .string (b 3), .string (b 4), .string (b 5), .string (b 6), .string (b 7), .string (c 0), .string (c 1), .string (c 2), .string (c 3), .string (c 4), .string (c 5), .string (c 6), .string (c 7)] rfl).held _ (.head _)))).mono ?_; rintro e w2 ⟨rfl, hw⟩; have D2 := Lib.hid (LW.eq (D1.out.push (w1.heap.size) 52 #[.string (a 0), .string (a 1), .string (a 2), .string (a 3), .string (a 4), .string (a 5), .string (a 6), .string (a 7), .string (b 0), .string (b 1), .string (b 2), .string (b 3), .string (b 4), .string (b 5), .string (b 6), .string (b 7), .string (c 0), .string (c 1), .string (c 2), .string (c 3), .string (c 4), .string (c 5), .string (c 6), .string (c 7)] rfl) hw); rw [HV]; obtain ⟨a0_2, a1_2, a2_2, a3_2, a4_2, a5_2, a6_2, a7_2⟩ := (D2.out.curve (.tail _ (.tail _ (.tail _ (.head _))))).cells; have al_2 := (D2.out.curve (.tail _ (.tail _ (.tail _ (.head _))))).lt; clear hw c0_1 c1_1 c2_1 c3_1 c4_1 c5_1 c6_1 c7_1 cl_1 b0_1 b1_1 b2_1 b3_1 b4_1 b5_1 b6_1 b7_1 bl_1 a0_1 a1_1 a2_1 a3_1 a4_1 a5_1 a6_1 a7_1 al_1))
  go_wp2_with ((clear TK2; go_at_call 39; refine (CA.out _ D2.out.res).mono ?_; rintro e w3 ⟨rfl, hb⟩; have D3 := Lib.hid (D2.out.later hb); obtain ⟨b0_3, b1_3, b2_3, b3_3, b4_3, b5_3, b6_3, b7_3⟩ := (D3.out.curve (.tail _ (.tail _ (.head _)))).cells; have bl_3 := (D3.out.curve (.tail _ (.tail _ (.head _)))).lt; clear hb a0_2 a1_2 a2_2 a3_2 a4_2 a5_2 a6_2 a7_2 al_2))
  go_wp2_with ((clear TK3; go_at_call 39; refine (CB.out _ D3.out.res).mono ?_; rintro e w4 ⟨rfl, hb⟩; have D4 := Lib.hid (D3.out.later hb); obtain ⟨c0_4, c1_4, c2_4, c3_4, c4_4, c5_4, c6_4, c7_4⟩ := (D4.out.curve (.tail _ (.head _))).cells; have cl_4 := (D4.out.curve (.tail _ (.head _))).lt; clear hb b0_3 b1_3 b2_3 b3_3 b4_3 b5_3 b6_3 b7_3 bl_3))
  go_ret
  exact ⟨rfl, D4.out.below⟩
set_option maxRecDepth 100000 in
set_option maxHeartbeats 16000000 in
theorem order_h3 (a b c : CT) (n : Int) (F : ByteArray) (HV : lightC [a, b, c] = true) (k : Int) (hk : k ≠ 0) (CA : Hid (Ret 39 #[cv a] (.int .i64 0))) (CB : Hid (Ret 39 #[cv b] (.int .i64 0))) (CC : Hid (Ret 39 #[cv c] (.int .i64 k))) (w : World) (hr : Res w) :
    Calls Tryz.prog 8 #[cv a, cv b, cv c, .int .i64 n, .string F] w fun e w' => e = .returned (.bool true) ∧ Below w.heap.size w w' := by
  have D0 := Lib.hid ((((LW.nil hr).push w.heap.size 52 (cvA a) rfl).push (w.heap.size + 1) 52 (cvA b) (by simp)).push (w.heap.size + 1 + 1) 52 (cvA c) (by simp))
  clear hr
  have hk1 : (k == 0) = false := beq_eq_false_iff_ne.2 hk
  have hk2 : (k != 0) = true := by rw [bne, hk1]; rfl
  have hk3 : (!(k == 0)) = true := by rw [hk1]; rfl
  have TK0 : True := trivial
  have TK1 : True := trivial
  have TK2 : True := trivial
  have TK3 : True := trivial
  have TK4 : True := trivial
  go_enter Tryz.func8, Tryz.ntmps8
  go_wp2_with ((clear TK0; go_at_call 37; refine (mlives_any _ D0.out.res).mono ?_; rintro e w1 ⟨rfl, hb⟩; have D1 := Lib.hid (D0.out.later hb); obtain ⟨c0_1, c1_1, c2_1, c3_1, c4_1, c5_1, c6_1, c7_1⟩ := (D1.out.curve (.head _)).cells; have cl_1 := (D1.out.curve (.head _)).lt; obtain ⟨b0_1, b1_1, b2_1, b3_1, b4_1, b5_1, b6_1, b7_1⟩ := (D1.out.curve (.tail _ (.head _))).cells; have bl_1 := (D1.out.curve (.tail _ (.head _))).lt; obtain ⟨a0_1, a1_1, a2_1, a3_1, a4_1, a5_1, a6_1, a7_1⟩ := (D1.out.curve (.tail _ (.tail _ (.head _)))).cells; have al_1 := (D1.out.curve (.tail _ (.tail _ (.head _)))).lt; clear hb))
  go_wp2_with ((clear TK1; go_at_call 38; refine (mlight_any [a, b, c] _ _ (crow3 ((D1.out.push (w1.heap.size) 52 #[.string (a 0), .string (a 1), .string (a 2), .string (a 3), .string (a 4), .string (a 5), .string (a 6), .string (a 7), .string (b 0), .string (b 1), .string (b 2), .string (b 3), .string (b 4), .string (b 5), .string (b 6), .string (b 7), .string (c 0), .string (c 1), .string (c 2), .string (c 3), .string (c 4), .string (c 5), .string (c 6), .string (c 7)] rfl).held _ (.head _)))).mono ?_; rintro e w2 ⟨rfl, hw⟩; have D2 := Lib.hid (LW.eq (D1.out.push (w1.heap.size) 52 #[.string (a 0), .string (a 1), .string (a 2), .string (a 3), .string (a 4), .string (a 5), .string (a 6), .string (a 7), .string (b 0), .string (b 1), .string (b 2), .string (b 3), .string (b 4), .string (b 5), .string (b 6), .string (b 7), .string (c 0), .string (c 1), .string (c 2), .string (c 3), .string (c 4), .string (c 5), .string (c 6), .string (c 7)] rfl) hw); rw [HV]; obtain ⟨a0_2, a1_2, a2_2, a3_2, a4_2, a5_2, a6_2, a7_2⟩ := (D2.out.curve (.tail _ (.tail _ (.tail _ (.head _))))).cells; have al_2 := (D2.out.curve (.tail _ (.tail _ (.tail _ (.head _))))).lt; clear hw c0_1 c1_1 c2_1 c3_1 c4_1 c5_1 c6_1 c7_1 cl_1 b0_1 b1_1 b2_1 b3_1 b4_1 b5_1 b6_1 b7_1 bl_1 a0_1 a1_1 a2_1 a3_1 a4_1 a5_1 a6_1 a7_1 al_1))
  go_wp2_with ((clear TK2; go_at_call 39; refine (CA.out _ D2.out.res).mono ?_; rintro e w3 ⟨rfl, hb⟩; have D3 := Lib.hid (D2.out.later hb); obtain ⟨b0_3, b1_3, b2_3, b3_3, b4_3, b5_3, b6_3, b7_3⟩ := (D3.out.curve (.tail _ (.tail _ (.head _)))).cells; have bl_3 := (D3.out.curve (.tail _ (.tail _ (.head _)))).lt; clear hb a0_2 a1_2 a2_2 a3_2 a4_2 a5_2 a6_2 a7_2 al_2))
  go_wp2_with ((clear TK3; go_at_call 39; refine (CB.out _ D3.out.res).mono ?_; rintro e w4 ⟨rfl, hb⟩; have D4 := Lib.hid (D3.out.later hb); obtain ⟨c0_4, c1_4, c2_4, c3_4, c4_4, c5_4, c6_4, c7_4⟩ := (D4.out.curve (.tail _ (.head _))).cells; have cl_4 := (D4.out.curve (.tail _ (.head _))).lt; clear hb b0_3 b1_3 b2_3 b3_3 b4_3 b5_3 b6_3 b7_3 bl_3))
  go_wp2_with ((clear TK4; go_at_call 39; refine (CC.out _ D4.out.res).mono ?_; rintro e w5 ⟨rfl, hb⟩; have D5 := Lib.hid (D4.out.later hb); clear hb c0_4 c1_4 c2_4 c3_4 c4_4 c5_4 c6_4 c7_4 cl_4))
  go_ret
  exact ⟨rfl, D5.out.below⟩
set_option maxRecDepth 100000 in
set_option maxHeartbeats 16000000 in
theorem order_h4 (a b c : CT) (n : Int) (F : ByteArray) (HV : lightC [a, b, c] = true) (CA : Hid (Ret 39 #[cv a] (.int .i64 0))) (CB : Hid (Ret 39 #[cv b] (.int .i64 0))) (CC : Hid (Ret 39 #[cv c] (.int .i64 0))) (HS : F.size ≤ 9223372036854775807) (HF : mfactorB F = false) (w : World) (hr : Res w) :
    Calls Tryz.prog 8 #[cv a, cv b, cv c, .int .i64 n, .string F] w fun e w' => e = .returned (.bool true) ∧ Below w.heap.size w w' := by
  have D0 := Lib.hid ((((LW.nil hr).push w.heap.size 52 (cvA a) rfl).push (w.heap.size + 1) 52 (cvA b) (by simp)).push (w.heap.size + 1 + 1) 52 (cvA c) (by simp))
  clear hr
  have TK0 : True := trivial
  have TK1 : True := trivial
  have TK2 : True := trivial
  have TK3 : True := trivial
  have TK4 : True := trivial
  have TK5 : True := trivial
  go_enter Tryz.func8, Tryz.ntmps8
  go_wp2_with ((clear TK0; go_at_call 37; refine (mlives_any _ D0.out.res).mono ?_; rintro e w1 ⟨rfl, hb⟩; have D1 := Lib.hid (D0.out.later hb); obtain ⟨c0_1, c1_1, c2_1, c3_1, c4_1, c5_1, c6_1, c7_1⟩ := (D1.out.curve (.head _)).cells; have cl_1 := (D1.out.curve (.head _)).lt; obtain ⟨b0_1, b1_1, b2_1, b3_1, b4_1, b5_1, b6_1, b7_1⟩ := (D1.out.curve (.tail _ (.head _))).cells; have bl_1 := (D1.out.curve (.tail _ (.head _))).lt; obtain ⟨a0_1, a1_1, a2_1, a3_1, a4_1, a5_1, a6_1, a7_1⟩ := (D1.out.curve (.tail _ (.tail _ (.head _)))).cells; have al_1 := (D1.out.curve (.tail _ (.tail _ (.head _)))).lt; clear hb))
  go_wp2_with ((clear TK1; go_at_call 38; refine (mlight_any [a, b, c] _ _ (crow3 ((D1.out.push (w1.heap.size) 52 #[.string (a 0), .string (a 1), .string (a 2), .string (a 3), .string (a 4), .string (a 5), .string (a 6), .string (a 7), .string (b 0), .string (b 1), .string (b 2), .string (b 3), .string (b 4), .string (b 5), .string (b 6), .string (b 7), .string (c 0), .string (c 1), .string (c 2), .string (c 3), .string (c 4), .string (c 5), .string (c 6), .string (c 7)] rfl).held _ (.head _)))).mono ?_; rintro e w2 ⟨rfl, hw⟩; have D2 := Lib.hid (LW.eq (D1.out.push (w1.heap.size) 52 #[.string (a 0), .string (a 1), .string (a 2), .string (a 3), .string (a 4), .string (a 5), .string (a 6), .string (a 7), .string (b 0), .string (b 1), .string (b 2), .string (b 3), .string (b 4), .string (b 5), .string (b 6), .string (b 7), .string (c 0), .string (c 1), .string (c 2), .string (c 3), .string (c 4), .string (c 5), .string (c 6), .string (c 7)] rfl) hw); rw [HV]; obtain ⟨a0_2, a1_2, a2_2, a3_2, a4_2, a5_2, a6_2, a7_2⟩ := (D2.out.curve (.tail _ (.tail _ (.tail _ (.head _))))).cells; have al_2 := (D2.out.curve (.tail _ (.tail _ (.tail _ (.head _))))).lt; clear hw c0_1 c1_1 c2_1 c3_1 c4_1 c5_1 c6_1 c7_1 cl_1 b0_1 b1_1 b2_1 b3_1 b4_1 b5_1 b6_1 b7_1 bl_1 a0_1 a1_1 a2_1 a3_1 a4_1 a5_1 a6_1 a7_1 al_1))
  go_wp2_with ((clear TK2; go_at_call 39; refine (CA.out _ D2.out.res).mono ?_; rintro e w3 ⟨rfl, hb⟩; have D3 := Lib.hid (D2.out.later hb); obtain ⟨b0_3, b1_3, b2_3, b3_3, b4_3, b5_3, b6_3, b7_3⟩ := (D3.out.curve (.tail _ (.tail _ (.head _)))).cells; have bl_3 := (D3.out.curve (.tail _ (.tail _ (.head _)))).lt; clear hb a0_2 a1_2 a2_2 a3_2 a4_2 a5_2 a6_2 a7_2 al_2))
  go_wp2_with ((clear TK3; go_at_call 39; refine (CB.out _ D3.out.res).mono ?_; rintro e w4 ⟨rfl, hb⟩; have D4 := Lib.hid (D3.out.later hb); obtain ⟨c0_4, c1_4, c2_4, c3_4, c4_4, c5_4, c6_4, c7_4⟩ := (D4.out.curve (.tail _ (.head _))).cells; have cl_4 := (D4.out.curve (.tail _ (.head _))).lt; clear hb b0_3 b1_3 b2_3 b3_3 b4_3 b5_3 b6_3 b7_3 bl_3))
  go_wp2_with ((clear TK4; go_at_call 39; refine (CC.out _ D4.out.res).mono ?_; rintro e w5 ⟨rfl, hb⟩; have D5 := Lib.hid (D4.out.later hb); clear hb c0_4 c1_4 c2_4 c3_4 c4_4 c5_4 c6_4 c7_4 cl_4))
  go_wp2_with ((clear TK5; go_at_call 40; refine (mfactor_any F _ HS).mono ?_; rintro e w6 ⟨rfl, hb⟩; have D6 := Lib.hid (D5.out.later hb); rw [HF]; clear hb))
  go_ret
  exact ⟨rfl, D6.out.below⟩
set_option maxRecDepth 100000 in
set_option maxHeartbeats 16000000 in
theorem order_walk10 (a b c : CT) (n : Int) (F : ByteArray) (hn1 : -9223372036854775808 ≤ n) (hn2 : n ≤ 9223372036854775807) (HV : lightC [a, b, c] = true) (CA : Hid (Ret 39 #[cv a] (.int .i64 0))) (CB : Hid (Ret 39 #[cv b] (.int .i64 0))) (CC : Hid (Ret 39 #[cv c] (.int .i64 0))) (HS : F.size ≤ 9223372036854775807) (HF : mfactorB F = true) (ab bc xx : CT) (d1 d2 : Int → ByteArray)
    (PAB : Hid (Ret 44 #[cv a, cv b] (.tuple #[cv ab, .int .i64 0]))) (PBA : Hid (Ret 44 #[cv b, cv a] (.tuple #[cv ab, .int .i64 0]))) (PBC : Hid (Ret 44 #[cv b, cv c] (.tuple #[cv bc, .int .i64 0]))) (PX : Hid (Ret 44 #[cv ab, cv c] (.tuple #[cv xx, .int .i64 0]))) (PY : Hid (Ret 44 #[cv a, cv bc] (.tuple #[cv xx, .int .i64 0]))) (PZ : Hid (Ret 44 #[cv a, cv noneT] (.tuple #[cv a, .int .i64 0])))
    (PF : Hid (Ret 46 #[cv a, cv ab] (.tuple #[.bool true, .int .i64 0]))) (PT1 : Hid (∀ j : Int, 0 ≤ j → j < 7 → Ret 42 #[cv a, .int .i64 (2 + j), .string F] (.tuple #[.agg #[.string F, .string (d1 j)], .int .i64 0])))
    (PT2 : Hid (∀ j : Int, 0 ≤ j → j < 7 → Ret 42 #[cv ab, .int .i64 (2 + j), .string F] (.tuple #[.agg #[.string F, .string (d2 j)], .int .i64 0]))) (PL : Hid (∀ j : Int, 0 ≤ j → j < 7 → Ret 43 #[.string (d1 j), .string (d2 j)] (.bool true))) (w : World) (hr : Res w) :
    Calls Tryz.prog 8 #[cv a, cv b, cv c, .int .i64 n, .string F] w fun e w' => e = .returned (.bool true) ∧ Below w.heap.size w w' := by
  have D0 := Lib.hid ((((LW.nil hr).push w.heap.size 52 (cvA a) rfl).push (w.heap.size + 1) 52 (cvA b) (by simp)).push (w.heap.size + 1 + 1) 52 (cvA c) (by simp))
  clear hr
  have q1 := eq8_same ab
  have q2 := eq8_same xx
  have q3 := eq8_same a
  have HN := Lib.hid (And.intro hn1 hn2)
  clear hn1 hn2
  have TK0 : True := trivial
  have TK1 : True := trivial
  have TK2 : True := trivial
  have TK3 : True := trivial
  have TK4 : True := trivial
  have TK5 : True := trivial
  have TK6 : True := trivial
  have TK7 : True := trivial
  have TK8 : True := trivial
  have TK9 : True := trivial
  have TK10 : True := trivial
  have TK11 : True := trivial
  have TK12 : True := trivial
  have TK13 : True := trivial
  have TK14 : True := trivial
  have TK15 : True := trivial
  go_enter Tryz.func8, Tryz.ntmps8
  go_wp2_with ((clear TK0; go_at_call 37; refine (mlives_any _ D0.out.res).mono ?_; rintro e w1 ⟨rfl, hb⟩; have D1 := Lib.hid (D0.out.later hb); obtain ⟨c0_1, c1_1, c2_1, c3_1, c4_1, c5_1, c6_1, c7_1⟩ := (D1.out.curve (.head _)).cells; have cl_1 := (D1.out.curve (.head _)).lt; obtain ⟨b0_1, b1_1, b2_1, b3_1, b4_1, b5_1, b6_1, b7_1⟩ := (D1.out.curve (.tail _ (.head _))).cells; have bl_1 := (D1.out.curve (.tail _ (.head _))).lt; obtain ⟨a0_1, a1_1, a2_1, a3_1, a4_1, a5_1, a6_1, a7_1⟩ := (D1.out.curve (.tail _ (.tail _ (.head _)))).cells; have al_1 := (D1.out.curve (.tail _ (.tail _ (.head _)))).lt; clear hb))
  go_wp2_with ((clear TK1; go_at_call 38; refine (mlight_any [a, b, c] _ _ (crow3 ((D1.out.push (w1.heap.size) 52 #[.string (a 0), .string (a 1), .string (a 2), .string (a 3), .string (a 4), .string (a 5), .string (a 6), .string (a 7), .string (b 0), .string (b 1), .string (b 2), .string (b 3), .string (b 4), .string (b 5), .string (b 6), .string (b 7), .string (c 0), .string (c 1), .string (c 2), .string (c 3), .string (c 4), .string (c 5), .string (c 6), .string (c 7)] rfl).held _ (.head _)))).mono ?_; rintro e w2 ⟨rfl, hw⟩; have D2 := Lib.hid (LW.eq (D1.out.push (w1.heap.size) 52 #[.string (a 0), .string (a 1), .string (a 2), .string (a 3), .string (a 4), .string (a 5), .string (a 6), .string (a 7), .string (b 0), .string (b 1), .string (b 2), .string (b 3), .string (b 4), .string (b 5), .string (b 6), .string (b 7), .string (c 0), .string (c 1), .string (c 2), .string (c 3), .string (c 4), .string (c 5), .string (c 6), .string (c 7)] rfl) hw); rw [HV]; obtain ⟨a0_2, a1_2, a2_2, a3_2, a4_2, a5_2, a6_2, a7_2⟩ := (D2.out.curve (.tail _ (.tail _ (.tail _ (.head _))))).cells; have al_2 := (D2.out.curve (.tail _ (.tail _ (.tail _ (.head _))))).lt; clear hw c0_1 c1_1 c2_1 c3_1 c4_1 c5_1 c6_1 c7_1 cl_1 b0_1 b1_1 b2_1 b3_1 b4_1 b5_1 b6_1 b7_1 bl_1 a0_1 a1_1 a2_1 a3_1 a4_1 a5_1 a6_1 a7_1 al_1))
  go_wp2_with ((clear TK2; go_at_call 39; refine (CA.out _ D2.out.res).mono ?_; rintro e w3 ⟨rfl, hb⟩; have D3 := Lib.hid (D2.out.later hb); obtain ⟨b0_3, b1_3, b2_3, b3_3, b4_3, b5_3, b6_3, b7_3⟩ := (D3.out.curve (.tail _ (.tail _ (.head _)))).cells; have bl_3 := (D3.out.curve (.tail _ (.tail _ (.head _)))).lt; clear hb a0_2 a1_2 a2_2 a3_2 a4_2 a5_2 a6_2 a7_2 al_2))
  go_wp2_with ((clear TK3; go_at_call 39; refine (CB.out _ D3.out.res).mono ?_; rintro e w4 ⟨rfl, hb⟩; have D4 := Lib.hid (D3.out.later hb); obtain ⟨c0_4, c1_4, c2_4, c3_4, c4_4, c5_4, c6_4, c7_4⟩ := (D4.out.curve (.tail _ (.head _))).cells; have cl_4 := (D4.out.curve (.tail _ (.head _))).lt; clear hb b0_3 b1_3 b2_3 b3_3 b4_3 b5_3 b6_3 b7_3 bl_3))
  go_wp2_with ((clear TK4; go_at_call 39; refine (CC.out _ D4.out.res).mono ?_; rintro e w5 ⟨rfl, hb⟩; have D5 := Lib.hid (D4.out.later hb); clear hb c0_4 c1_4 c2_4 c3_4 c4_4 c5_4 c6_4 c7_4 cl_4))
  go_wp2_with ((clear TK5; go_at_call 40; refine (mfactor_any F _ HS).mono ?_; rintro e w6 ⟨rfl, hb⟩; have D6 := Lib.hid (D5.out.later hb); rw [HF]; obtain ⟨b0_6, b1_6, b2_6, b3_6, b4_6, b5_6, b6_6, b7_6⟩ := (D6.out.curve (.tail _ (.tail _ (.head _)))).cells; have bl_6 := (D6.out.curve (.tail _ (.tail _ (.head _)))).lt; obtain ⟨a0_6, a1_6, a2_6, a3_6, a4_6, a5_6, a6_6, a7_6⟩ := (D6.out.curve (.tail _ (.tail _ (.tail _ (.head _))))).cells; have al_6 := (D6.out.curve (.tail _ (.tail _ (.tail _ (.head _))))).lt; clear hb))
  go_wp2_with ((clear TK6; go_at_call 44; refine (PAB.out _ D6.out.res).mono ?_; rintro e w7 ⟨rfl, hb⟩; have D7 := Lib.hid (D6.out.later hb); obtain ⟨b0_7, b1_7, b2_7, b3_7, b4_7, b5_7, b6_7, b7_7⟩ := (D7.out.curve (.tail _ (.tail _ (.head _)))).cells; have bl_7 := (D7.out.curve (.tail _ (.tail _ (.head _)))).lt; obtain ⟨a0_7, a1_7, a2_7, a3_7, a4_7, a5_7, a6_7, a7_7⟩ := (D7.out.curve (.tail _ (.tail _ (.tail _ (.head _))))).cells; have al_7 := (D7.out.curve (.tail _ (.tail _ (.tail _ (.head _))))).lt; clear hb b0_6 b1_6 b2_6 b3_6 b4_6 b5_6 b6_6 b7_6 bl_6 a0_6 a1_6 a2_6 a3_6 a4_6 a5_6 a6_6 a7_6 al_6))
  go_wp2_with ((clear TK7; go_at_call 44; refine (PBA.out _ (D7.out.push (w7.heap.size) 52 (cvA ab) rfl).res).mono ?_; rintro e w8 ⟨rfl, hb⟩; have D8 := Lib.hid ((D7.out.push (w7.heap.size) 52 (cvA ab) rfl).later hb); obtain ⟨c0_8, c1_8, c2_8, c3_8, c4_8, c5_8, c6_8, c7_8⟩ := (D8.out.curve (.tail _ (.tail _ (.head _)))).cells; have cl_8 := (D8.out.curve (.tail _ (.tail _ (.head _)))).lt; obtain ⟨b0_8, b1_8, b2_8, b3_8, b4_8, b5_8, b6_8, b7_8⟩ := (D8.out.curve (.tail _ (.tail _ (.tail _ (.head _))))).cells; have bl_8 := (D8.out.curve (.tail _ (.tail _ (.tail _ (.head _))))).lt; clear hb b0_7 b1_7 b2_7 b3_7 b4_7 b5_7 b6_7 b7_7 bl_7 a0_7 a1_7 a2_7 a3_7 a4_7 a5_7 a6_7 a7_7 al_7))
  go_wp2_with ((clear TK8; go_at_call 44; refine (PBC.out _ (D8.out.push (w8.heap.size) 52 (cvA ab) rfl).res).mono ?_; rintro e w9 ⟨rfl, hb⟩; have D9 := Lib.hid ((D8.out.push (w8.heap.size) 52 (cvA ab) rfl).later hb); obtain ⟨p0_9, p1_9, p2_9, p3_9, p4_9, p5_9, p6_9, p7_9⟩ := (D9.out.curve (.tail _ (.head _))).cells; have pl_9 := (D9.out.curve (.tail _ (.head _))).lt; obtain ⟨c0_9, c1_9, c2_9, c3_9, c4_9, c5_9, c6_9, c7_9⟩ := (D9.out.curve (.tail _ (.tail _ (.tail _ (.head _))))).cells; have cl_9 := (D9.out.curve (.tail _ (.tail _ (.tail _ (.head _))))).lt; clear hb c0_8 c1_8 c2_8 c3_8 c4_8 c5_8 c6_8 c7_8 cl_8 b0_8 b1_8 b2_8 b3_8 b4_8 b5_8 b6_8 b7_8 bl_8))
  go_wp2_with ((clear TK9; go_at_call 44; refine (PX.out _ (D9.out.push (w9.heap.size) 52 (cvA bc) rfl).res).mono ?_; rintro e w10 ⟨rfl, hb⟩; have D10 := Lib.hid ((D9.out.push (w9.heap.size) 52 (cvA bc) rfl).later hb); obtain ⟨m0_10, m1_10, m2_10, m3_10, m4_10, m5_10, m6_10, m7_10⟩ := (D10.out.curve (.head _)).cells; have ml_10 := (D10.out.curve (.head _)).lt; obtain ⟨a0_10, a1_10, a2_10, a3_10, a4_10, a5_10, a6_10, a7_10⟩ := (D10.out.curve (.tail _ (.tail _ (.tail _ (.tail _ (.tail _ (.tail _ (.head _)))))))).cells; have al_10 := (D10.out.curve (.tail _ (.tail _ (.tail _ (.tail _ (.tail _ (.tail _ (.head _)))))))).lt; clear hb p0_9 p1_9 p2_9 p3_9 p4_9 p5_9 p6_9 p7_9 pl_9 c0_9 c1_9 c2_9 c3_9 c4_9 c5_9 c6_9 c7_9 cl_9))
  go_wp2_with ((clear TK10; go_at_call 44; refine (PY.out _ (D10.out.push (w10.heap.size) 52 (cvA xx) rfl).res).mono ?_; rintro e w11 ⟨rfl, hb⟩; have D11 := Lib.hid ((D10.out.push (w10.heap.size) 52 (cvA xx) rfl).later hb); clear hb m0_10 m1_10 m2_10 m3_10 m4_10 m5_10 m6_10 m7_10 ml_10 a0_10 a1_10 a2_10 a3_10 a4_10 a5_10 a6_10 a7_10 al_10))
  have DF := Lib.hid ((D11.out.push w11.heap.size 52 #[.string (xx 0), .string (xx 1), .string (xx 2), .string (xx 3), .string (xx 4), .string (xx 5), .string (xx 6), .string (xx 7)] rfl))
  have hmx : Tryz.prog.follows .mixedOrders = true := by kernel_rfl
  generalize w11.alloc (.cells #[.string (xx 0), .string (xx 1), .string (xx 2), .string (xx 3), .string (xx 4), .string (xx 5), .string (xx 6), .string (xx 7)] 52) = WF at *
  have ka := DF.out.curve (.tail _ (.tail _ (.tail _ (.tail _ (.tail _ (.tail _ (.tail _ (.tail _ (.head _)))))))))
  have kl := ka.lt
  have xa0 : ∀ x : SameAt WF (fun k => k < WF.heap.size), x.W.cell? ⟨w.heap.size, 0, none⟩ = some (.string (a 0)) := fun x => x.cell kl (ka.cell (by omega))
  have xa1 : ∀ x : SameAt WF (fun k => k < WF.heap.size), x.W.cell? ⟨w.heap.size, 1, none⟩ = some (.string (a 1)) := fun x => x.cell kl (ka.cell (by omega))
  have xa2 : ∀ x : SameAt WF (fun k => k < WF.heap.size), x.W.cell? ⟨w.heap.size, 2, none⟩ = some (.string (a 2)) := fun x => x.cell kl (ka.cell (by omega))
  have xa3 : ∀ x : SameAt WF (fun k => k < WF.heap.size), x.W.cell? ⟨w.heap.size, 3, none⟩ = some (.string (a 3)) := fun x => x.cell kl (ka.cell (by omega))
  have xa4 : ∀ x : SameAt WF (fun k => k < WF.heap.size), x.W.cell? ⟨w.heap.size, 4, none⟩ = some (.string (a 4)) := fun x => x.cell kl (ka.cell (by omega))
  have xa5 : ∀ x : SameAt WF (fun k => k < WF.heap.size), x.W.cell? ⟨w.heap.size, 5, none⟩ = some (.string (a 5)) := fun x => x.cell kl (ka.cell (by omega))
  have xa6 : ∀ x : SameAt WF (fun k => k < WF.heap.size), x.W.cell? ⟨w.heap.size, 6, none⟩ = some (.string (a 6)) := fun x => x.cell kl (ka.cell (by omega))
  have xa7 : ∀ x : SameAt WF (fun k => k < WF.heap.size), x.W.cell? ⟨w.heap.size, 7, none⟩ = some (.string (a 7)) := fun x => x.cell kl (ka.cell (by omega))
  have HKA := Lib.hid ka
  clear ka kl
  refine wpIn_wide.1 (wpIn_stage (n := 3) (IsSame WF (fun k => k < WF.heap.size)) [0, 3, 4, 5] [] hmx (by kernel_rfl) (isSame_of fun _ _ => rfl) ?_)
  change wpStage _ _ _ _ _ _ _ _ (8 + 1) _ _ _
  refine stage_reads [0] 8 _ _ (by kernel_rfl) ?_
  change wpQuietIn _ _ _ _ (fun W' => ∃ x : SameAt WF (fun k => k < WF.heap.size), W' = x.W) _ _ _
  simp only [pick_cons, pick_nil, List.getElem?_cons_zero, Option.elim_some]
  repeat (gi_big_quiet_step (fail))
  refine wpQuietIn_nil ?_
  clear xa0 xa1 xa2 xa3 xa4 xa5 xa6 xa7
  refine stage_two 1 6 (by kernel_rfl) rfl rfl ?_ ?_
  · gi_wp2
    refine ⟨trivial, ?_⟩
    refine (callsIn_wide.2 (mnone_any _)).mono ?_
    rintro e wn ⟨rfl, hb⟩
    have HM := Lib.hid (show Below WF.heap.size WF wn from below_undrew hb)
    clear hb
    gi_wp2
    refine stage_post (isSame_below HM.out (fun k hk => hk)) ?_
    refine stage_two 2 6 (by kernel_rfl) rfl rfl ?_ ?_
    · gi_wp2
      refine ⟨trivial, ?_⟩
      refine (callsIn_wide.2 (PZ.out _ (DF.out.res.below HM.out))).mono ?_
      rintro e wa ⟨rfl, hb⟩
      have HA := Lib.hid (HM.out.trans (hb.mono HM.out.size))
      clear hb
      gi_wp2
      refine stage_post (isSame_below HA.out (fun k hk => hk)) ?_
      change wpStage _ _ _ _ _ _ _ _ (3 + 3) _ _ _
      refine stage_reads [3, 4, 5] 3 _ _ (by kernel_rfl) ?_
      change wpQuietIn _ _ _ _ (fun W' => ∃ x : SameAt WF (fun k => k < WF.heap.size), W' = x.W) _ _ _
      simp only [pick_cons, pick_nil, List.getElem?_cons_zero, List.getElem?_cons_succ, Option.elim_some]
      repeat (gi_big_quiet_step (fail))
      refine wpQuietIn_nil ?_
      refine stage_one 6 (by kernel_rfl) rfl ?_
      gi_wp2
      have HA2 := Lib.hid (below_alloc HA.out (.cells #[.string ⟨#[]⟩, .string ⟨#[]⟩, .string ⟨#[]⟩, .string ⟨#[]⟩, .string ⟨#[]⟩, .string ⟨#[]⟩, .string ⟨#[]⟩, .string ⟨#[]⟩] 52))
      have KA : Hid (CBlk (wa.alloc (.cells #[.string ⟨#[]⟩, .string ⟨#[]⟩, .string ⟨#[]⟩, .string ⟨#[]⟩, .string ⟨#[]⟩, .string ⟨#[]⟩, .string ⟨#[]⟩, .string ⟨#[]⟩] 52)) wa.heap.size zC) := Lib.hid (CBlk.new wa zC)
      have HG := Lib.hid HA.out.size
      generalize wa.alloc (.cells #[.string ⟨#[]⟩, .string ⟨#[]⟩, .string ⟨#[]⟩, .string ⟨#[]⟩, .string ⟨#[]⟩, .string ⟨#[]⟩, .string ⟨#[]⟩, .string ⟨#[]⟩] 52) = W1 at *
      refine stage_post (isSame_below HA2.out (fun k hk => hk)) ?_
      obtain ⟨r0, r1, r2, r3, r4, r5, r6, r7⟩ := KA.out.cells
      obtain ⟨s0, s1, s2, s3, s4, s5, s6, s7⟩ := KA.out.frozens
      have zl := KA.out.lt
      refine stage_one 7 (by kernel_rfl) rfl ?_
      gi_wp2
      change StagePost _ _ _ _ _ _ _ _ _ _ _ _ _ (fin8 W1 (wa.heap.size) a)
      clear r0 r1 r2 r3 r4 r5 r6 r7 s0 s1 s2 s3 s4 s5 s6 s7 zl
      have HZ := Lib.hid (show Below WF.heap.size WF (fin8 W1 (wa.heap.size) a) from fin8_below HA2.out HG.out a)
      have KZ := Lib.hid (fin8_blk a KA.out)
      generalize fin8 W1 (wa.heap.size) a = WZ at *
      refine stage_post (isSame_below HZ.out (fun k hk => hk)) ?_
      refine stage_one 8 (by kernel_rfl) rfl ?_
      gi_wp2
      refine stage_post (isSame_below HZ.out (fun k hk => hk)) ?_
      refine stage_done (by kernel_rfl) ?_
      have DK := Lib.hid (LW.cons (DF.out.later HZ.out) (wa.heap.size) 52 (cvA a) KZ.out)
      clear HZ KZ HG
      obtain ⟨z0_30, z1_30, z2_30, z3_30, z4_30, z5_30, z6_30, z7_30⟩ := (DK.out.curve (.head _)).cells
      have zl_30 := (DK.out.curve (.head _)).lt
      obtain ⟨y0_30, y1_30, y2_30, y3_30, y4_30, y5_30, y6_30, y7_30⟩ := (DK.out.curve (.tail _ (.head _))).cells
      have yl_30 := (DK.out.curve (.tail _ (.head _))).lt
      obtain ⟨x0_30, x1_30, x2_30, x3_30, x4_30, x5_30, x6_30, x7_30⟩ := (DK.out.curve (.tail _ (.tail _ (.head _)))).cells
      have xl_30 := (DK.out.curve (.tail _ (.tail _ (.head _)))).lt
      obtain ⟨q0_30, q1_30, q2_30, q3_30, q4_30, q5_30, q6_30, q7_30⟩ := (DK.out.curve (.tail _ (.tail _ (.tail _ (.tail _ (.head _)))))).cells
      have ql_30 := (DK.out.curve (.tail _ (.tail _ (.tail _ (.tail _ (.head _)))))).lt
      obtain ⟨p0_30, p1_30, p2_30, p3_30, p4_30, p5_30, p6_30, p7_30⟩ := (DK.out.curve (.tail _ (.tail _ (.tail _ (.tail _ (.tail _ (.head _))))))).cells
      have pl_30 := (DK.out.curve (.tail _ (.tail _ (.tail _ (.tail _ (.tail _ (.head _))))))).lt
      obtain ⟨a0_30, a1_30, a2_30, a3_30, a4_30, a5_30, a6_30, a7_30⟩ := (DK.out.curve (.tail _ (.tail _ (.tail _ (.tail _ (.tail _ (.tail _ (.tail _ (.tail _ (.tail _ (.head _))))))))))).cells
      have al_30 := (DK.out.curve (.tail _ (.tail _ (.tail _ (.tail _ (.tail _ (.tail _ (.tail _ (.tail _ (.tail _ (.head _))))))))))).lt
      go_wp2_with (first
        | (go_at_call 28; refine (pick_any n 7 _ (by omega) HN.out.1 HN.out.2 (by omega)).mono ?_; rintro e w99 ⟨j, rfl, ja, jb, hw⟩; subst hw; have HJ := Lib.hid (And.intro ja jb))
        | (go_at_call 46; refine (PF.out _ DK.out.res).mono ?_; rintro e w31 ⟨rfl, hb⟩; have D31 := Lib.hid (DK.out.later hb); obtain ⟨p0_31, p1_31, p2_31, p3_31, p4_31, p5_31, p6_31, p7_31⟩ := (D31.out.curve (.tail _ (.tail _ (.tail _ (.tail _ (.tail _ (.head _))))))).cells; have pl_31 := (D31.out.curve (.tail _ (.tail _ (.tail _ (.tail _ (.tail _ (.head _))))))).lt; obtain ⟨a0_31, a1_31, a2_31, a3_31, a4_31, a5_31, a6_31, a7_31⟩ := (D31.out.curve (.tail _ (.tail _ (.tail _ (.tail _ (.tail _ (.tail _ (.tail _ (.tail _ (.tail _ (.head _))))))))))).cells; have al_31 := (D31.out.curve (.tail _ (.tail _ (.tail _ (.tail _ (.tail _ (.tail _ (.tail _ (.tail _ (.tail _ (.head _))))))))))).lt; clear hb z0_30 z1_30 z2_30 z3_30 z4_30 z5_30 z6_30 z7_30 zl_30 y0_30 y1_30 y2_30 y3_30 y4_30 y5_30 y6_30 y7_30 yl_30 x0_30 x1_30 x2_30 x3_30 x4_30 x5_30 x6_30 x7_30 xl_30 q0_30 q1_30 q2_30 q3_30 q4_30 q5_30 q6_30 q7_30 ql_30 p0_30 p1_30 p2_30 p3_30 p4_30 p5_30 p6_30 p7_30 pl_30 a0_30 a1_30 a2_30 a3_30 a4_30 a5_30 a6_30 a7_30 al_30))
      go_wp2_with ((clear TK11; go_at_call 42; refine (PT1.out j HJ.out.1 HJ.out.2 _ D31.out.res).mono ?_; rintro e w32 ⟨rfl, hb⟩; have D32 := Lib.hid (D31.out.later hb); obtain ⟨p0_32, p1_32, p2_32, p3_32, p4_32, p5_32, p6_32, p7_32⟩ := (D32.out.curve (.tail _ (.tail _ (.tail _ (.tail _ (.tail _ (.head _))))))).cells; have pl_32 := (D32.out.curve (.tail _ (.tail _ (.tail _ (.tail _ (.tail _ (.head _))))))).lt; clear hb p0_31 p1_31 p2_31 p3_31 p4_31 p5_31 p6_31 p7_31 pl_31 a0_31 a1_31 a2_31 a3_31 a4_31 a5_31 a6_31 a7_31 al_31))
      go_wp2_with ((clear TK12; go_at_call 42; refine (PT2.out j HJ.out.1 HJ.out.2 _ (D32.out.push (w32.heap.size) 24 #[.string F, .string (d1 j)] rfl).res).mono ?_; rintro e w33 ⟨rfl, hb⟩; have D33 := Lib.hid ((D32.out.push (w32.heap.size) 24 #[.string F, .string (d1 j)] rfl).later hb); obtain ⟨k0_33, k1_33⟩ := cells2 (D33.out.loss (.head _)); have kl_33 := (D33.out.loss (.head _)).lt; clear hb p0_32 p1_32 p2_32 p3_32 p4_32 p5_32 p6_32 p7_32 pl_32))
      go_wp2_with ((clear TK13; go_at_call 43; refine (PL.out j HJ.out.1 HJ.out.2 _ (D33.out.push (w33.heap.size) 24 #[.string F, .string (d2 j)] rfl).res).mono ?_; rintro e w34 ⟨rfl, hb⟩; have D34 := Lib.hid ((D33.out.push (w33.heap.size) 24 #[.string F, .string (d2 j)] rfl).later hb); clear hb k0_33 k1_33 kl_33))
      go_ret
      exact ⟨rfl, D34.out.below⟩
    · gi_wp2
      have HA := Lib.hid (below_alloc HM.out (.cells #[.string ⟨#[]⟩, .string ⟨#[]⟩, .string ⟨#[]⟩, .string ⟨#[]⟩, .string ⟨#[]⟩, .string ⟨#[]⟩, .string ⟨#[]⟩, .string ⟨#[]⟩] 52))
      have KN : Hid (CBlk (wn.alloc (.cells #[.string ⟨#[]⟩, .string ⟨#[]⟩, .string ⟨#[]⟩, .string ⟨#[]⟩, .string ⟨#[]⟩, .string ⟨#[]⟩, .string ⟨#[]⟩, .string ⟨#[]⟩] 52)) wn.heap.size zC) := Lib.hid (CBlk.new wn zC)
      have HG := Lib.hid HM.out.size
      generalize wn.alloc (.cells #[.string ⟨#[]⟩, .string ⟨#[]⟩, .string ⟨#[]⟩, .string ⟨#[]⟩, .string ⟨#[]⟩, .string ⟨#[]⟩, .string ⟨#[]⟩, .string ⟨#[]⟩] 52) = W1 at *
      refine stage_post (isSame_below HA.out (fun k hk => hk)) ?_
      refine stage_one 2 (by kernel_rfl) rfl ?_
      gi_wp2
      refine ⟨trivial, ?_⟩
      refine (callsIn_wide.2 (PZ.out _ (DF.out.res.below HA.out))).mono ?_
      rintro e wa ⟨rfl, hb⟩
      have HA2 := Lib.hid (HA.out.trans (hb.mono HA.out.size))
      have KA := Lib.hid (KN.out.later hb)
      clear hb
      gi_wp2
      refine stage_post (isSame_below HA2.out (fun k hk => hk)) ?_
      change wpStage _ _ _ _ _ _ _ _ (2 + 3) _ _ _
      refine stage_reads [3, 4, 5] 2 _ _ (by kernel_rfl) ?_
      change wpQuietIn _ _ _ _ (fun W' => ∃ x : SameAt WF (fun k => k < WF.heap.size), W' = x.W) _ _ _
      simp only [pick_cons, pick_nil, List.getElem?_cons_zero, List.getElem?_cons_succ, Option.elim_some]
      repeat (gi_big_quiet_step (fail))
      refine wpQuietIn_nil ?_
      obtain ⟨r0, r1, r2, r3, r4, r5, r6, r7⟩ := KA.out.cells
      obtain ⟨s0, s1, s2, s3, s4, s5, s6, s7⟩ := KA.out.frozens
      have zl := KA.out.lt
      refine stage_one 7 (by kernel_rfl) rfl ?_
      gi_wp2
      change StagePost _ _ _ _ _ _ _ _ _ _ _ _ _ (fin8 wa (wn.heap.size) a)
      clear r0 r1 r2 r3 r4 r5 r6 r7 s0 s1 s2 s3 s4 s5 s6 s7 zl
      have HZ := Lib.hid (show Below WF.heap.size WF (fin8 wa (wn.heap.size) a) from fin8_below HA2.out HG.out a)
      have KZ := Lib.hid (fin8_blk a KA.out)
      generalize fin8 wa (wn.heap.size) a = WZ at *
      refine stage_post (isSame_below HZ.out (fun k hk => hk)) ?_
      refine stage_one 8 (by kernel_rfl) rfl ?_
      gi_wp2
      refine stage_post (isSame_below HZ.out (fun k hk => hk)) ?_
      refine stage_done (by kernel_rfl) ?_
      have DK := Lib.hid (LW.cons (DF.out.later HZ.out) (wn.heap.size) 52 (cvA a) KZ.out)
      clear HZ KZ HG
      obtain ⟨z0_30, z1_30, z2_30, z3_30, z4_30, z5_30, z6_30, z7_30⟩ := (DK.out.curve (.head _)).cells
      have zl_30 := (DK.out.curve (.head _)).lt
      obtain ⟨y0_30, y1_30, y2_30, y3_30, y4_30, y5_30, y6_30, y7_30⟩ := (DK.out.curve (.tail _ (.head _))).cells
      have yl_30 := (DK.out.curve (.tail _ (.head _))).lt
      obtain ⟨x0_30, x1_30, x2_30, x3_30, x4_30, x5_30, x6_30, x7_30⟩ := (DK.out.curve (.tail _ (.tail _ (.head _)))).cells
      have xl_30 := (DK.out.curve (.tail _ (.tail _ (.head _)))).lt
      obtain ⟨q0_30, q1_30, q2_30, q3_30, q4_30, q5_30, q6_30, q7_30⟩ := (DK.out.curve (.tail _ (.tail _ (.tail _ (.tail _ (.head _)))))).cells
      have ql_30 := (DK.out.curve (.tail _ (.tail _ (.tail _ (.tail _ (.head _)))))).lt
      obtain ⟨p0_30, p1_30, p2_30, p3_30, p4_30, p5_30, p6_30, p7_30⟩ := (DK.out.curve (.tail _ (.tail _ (.tail _ (.tail _ (.tail _ (.head _))))))).cells
      have pl_30 := (DK.out.curve (.tail _ (.tail _ (.tail _ (.tail _ (.tail _ (.head _))))))).lt
      obtain ⟨a0_30, a1_30, a2_30, a3_30, a4_30, a5_30, a6_30, a7_30⟩ := (DK.out.curve (.tail _ (.tail _ (.tail _ (.tail _ (.tail _ (.tail _ (.tail _ (.tail _ (.tail _ (.head _))))))))))).cells
      have al_30 := (DK.out.curve (.tail _ (.tail _ (.tail _ (.tail _ (.tail _ (.tail _ (.tail _ (.tail _ (.tail _ (.head _))))))))))).lt
      go_wp2_with (first
        | (go_at_call 28; refine (pick_any n 7 _ (by omega) HN.out.1 HN.out.2 (by omega)).mono ?_; rintro e w99 ⟨j, rfl, ja, jb, hw⟩; subst hw; have HJ := Lib.hid (And.intro ja jb))
        | (go_at_call 46; refine (PF.out _ DK.out.res).mono ?_; rintro e w31 ⟨rfl, hb⟩; have D31 := Lib.hid (DK.out.later hb); obtain ⟨p0_31, p1_31, p2_31, p3_31, p4_31, p5_31, p6_31, p7_31⟩ := (D31.out.curve (.tail _ (.tail _ (.tail _ (.tail _ (.tail _ (.head _))))))).cells; have pl_31 := (D31.out.curve (.tail _ (.tail _ (.tail _ (.tail _ (.tail _ (.head _))))))).lt; obtain ⟨a0_31, a1_31, a2_31, a3_31, a4_31, a5_31, a6_31, a7_31⟩ := (D31.out.curve (.tail _ (.tail _ (.tail _ (.tail _ (.tail _ (.tail _ (.tail _ (.tail _ (.tail _ (.head _))))))))))).cells; have al_31 := (D31.out.curve (.tail _ (.tail _ (.tail _ (.tail _ (.tail _ (.tail _ (.tail _ (.tail _ (.tail _ (.head _))))))))))).lt; clear hb z0_30 z1_30 z2_30 z3_30 z4_30 z5_30 z6_30 z7_30 zl_30 y0_30 y1_30 y2_30 y3_30 y4_30 y5_30 y6_30 y7_30 yl_30 x0_30 x1_30 x2_30 x3_30 x4_30 x5_30 x6_30 x7_30 xl_30 q0_30 q1_30 q2_30 q3_30 q4_30 q5_30 q6_30 q7_30 ql_30 p0_30 p1_30 p2_30 p3_30 p4_30 p5_30 p6_30 p7_30 pl_30 a0_30 a1_30 a2_30 a3_30 a4_30 a5_30 a6_30 a7_30 al_30))
      go_wp2_with ((clear TK11; go_at_call 42; refine (PT1.out j HJ.out.1 HJ.out.2 _ D31.out.res).mono ?_; rintro e w32 ⟨rfl, hb⟩; have D32 := Lib.hid (D31.out.later hb); obtain ⟨p0_32, p1_32, p2_32, p3_32, p4_32, p5_32, p6_32, p7_32⟩ := (D32.out.curve (.tail _ (.tail _ (.tail _ (.tail _ (.tail _ (.head _))))))).cells; have pl_32 := (D32.out.curve (.tail _ (.tail _ (.tail _ (.tail _ (.tail _ (.head _))))))).lt; clear hb p0_31 p1_31 p2_31 p3_31 p4_31 p5_31 p6_31 p7_31 pl_31 a0_31 a1_31 a2_31 a3_31 a4_31 a5_31 a6_31 a7_31 al_31))
      go_wp2_with ((clear TK12; go_at_call 42; refine (PT2.out j HJ.out.1 HJ.out.2 _ (D32.out.push (w32.heap.size) 24 #[.string F, .string (d1 j)] rfl).res).mono ?_; rintro e w33 ⟨rfl, hb⟩; have D33 := Lib.hid ((D32.out.push (w32.heap.size) 24 #[.string F, .string (d1 j)] rfl).later hb); obtain ⟨k0_33, k1_33⟩ := cells2 (D33.out.loss (.head _)); have kl_33 := (D33.out.loss (.head _)).lt; clear hb p0_32 p1_32 p2_32 p3_32 p4_32 p5_32 p6_32 p7_32 pl_32))
      go_wp2_with ((clear TK13; go_at_call 43; refine (PL.out j HJ.out.1 HJ.out.2 _ (D33.out.push (w33.heap.size) 24 #[.string F, .string (d2 j)] rfl).res).mono ?_; rintro e w34 ⟨rfl, hb⟩; have D34 := Lib.hid ((D33.out.push (w33.heap.size) 24 #[.string F, .string (d2 j)] rfl).later hb); clear hb k0_33 k1_33 kl_33))
      go_ret
      exact ⟨rfl, D34.out.below⟩
  · gi_wp2
    have HA := Lib.hid (below_drew (below_alloc (Below.refl WF.heap.size WF) (.cells #[.string ⟨#[]⟩, .string ⟨#[]⟩, .string ⟨#[]⟩, .string ⟨#[]⟩, .string ⟨#[]⟩, .string ⟨#[]⟩, .string ⟨#[]⟩, .string ⟨#[]⟩] 52)))
    have KN : Hid (CBlk (WF.alloc (.cells #[.string ⟨#[]⟩, .string ⟨#[]⟩, .string ⟨#[]⟩, .string ⟨#[]⟩, .string ⟨#[]⟩, .string ⟨#[]⟩, .string ⟨#[]⟩, .string ⟨#[]⟩] 52)).drew WF.heap.size zC) := Lib.hid (CBlk.new WF zC).drew
    have HG := Lib.hid (Nat.le_refl WF.heap.size)
    generalize (WF.alloc (.cells #[.string ⟨#[]⟩, .string ⟨#[]⟩, .string ⟨#[]⟩, .string ⟨#[]⟩, .string ⟨#[]⟩, .string ⟨#[]⟩, .string ⟨#[]⟩, .string ⟨#[]⟩] 52)).drew = W1 at *
    refine stage_post (isSame_below HA.out (fun k hk => hk)) ?_
    refine stage_one 1 (by kernel_rfl) rfl ?_
    gi_wp2
    refine ⟨trivial, ?_⟩
    refine (callsIn_wide.2 (mnone_any _)).mono ?_
    rintro e wn ⟨rfl, hb⟩
    have HM := Lib.hid (HA.out.trans (hb.mono HA.out.size))
    have KM := Lib.hid (KN.out.later hb)
    clear hb
    gi_wp2
    refine stage_post (isSame_below HM.out (fun k hk => hk)) ?_
    refine stage_one 2 (by kernel_rfl) rfl ?_
    gi_wp2
    refine ⟨trivial, ?_⟩
    refine (callsIn_wide.2 (PZ.out _ (DF.out.res.below HM.out))).mono ?_
    rintro e wa ⟨rfl, hb⟩
    have HA2 := Lib.hid (HM.out.trans (hb.mono HM.out.size))
    have KA := Lib.hid (KM.out.later hb)
    clear hb
    gi_wp2
    refine stage_post (isSame_below HA2.out (fun k hk => hk)) ?_
    change wpStage _ _ _ _ _ _ _ _ (2 + 3) _ _ _
    refine stage_reads [3, 4, 5] 2 _ _ (by kernel_rfl) ?_
    change wpQuietIn _ _ _ _ (fun W' => ∃ x : SameAt WF (fun k => k < WF.heap.size), W' = x.W) _ _ _
    simp only [pick_cons, pick_nil, List.getElem?_cons_zero, List.getElem?_cons_succ, Option.elim_some]
    repeat (gi_big_quiet_step (fail))
    refine wpQuietIn_nil ?_
    obtain ⟨r0, r1, r2, r3, r4, r5, r6, r7⟩ := KA.out.cells
    obtain ⟨s0, s1, s2, s3, s4, s5, s6, s7⟩ := KA.out.frozens
    have zl := KA.out.lt
    refine stage_one 7 (by kernel_rfl) rfl ?_
    gi_wp2
    change StagePost _ _ _ _ _ _ _ _ _ _ _ _ _ (fin8 wa (WF.heap.size) a)
    clear r0 r1 r2 r3 r4 r5 r6 r7 s0 s1 s2 s3 s4 s5 s6 s7 zl
    have HZ := Lib.hid (show Below WF.heap.size WF (fin8 wa (WF.heap.size) a) from fin8_below HA2.out HG.out a)
    have KZ := Lib.hid (fin8_blk a KA.out)
    generalize fin8 wa (WF.heap.size) a = WZ at *
    refine stage_post (isSame_below HZ.out (fun k hk => hk)) ?_
    refine stage_one 8 (by kernel_rfl) rfl ?_
    gi_wp2
    refine stage_post (isSame_below HZ.out (fun k hk => hk)) ?_
    refine stage_done (by kernel_rfl) ?_
    have DK := Lib.hid (LW.cons (DF.out.later HZ.out) (WF.heap.size) 52 (cvA a) KZ.out)
    clear HZ KZ HG
    obtain ⟨z0_30, z1_30, z2_30, z3_30, z4_30, z5_30, z6_30, z7_30⟩ := (DK.out.curve (.head _)).cells
    have zl_30 := (DK.out.curve (.head _)).lt
    obtain ⟨y0_30, y1_30, y2_30, y3_30, y4_30, y5_30, y6_30, y7_30⟩ := (DK.out.curve (.tail _ (.head _))).cells
    have yl_30 := (DK.out.curve (.tail _ (.head _))).lt
    obtain ⟨x0_30, x1_30, x2_30, x3_30, x4_30, x5_30, x6_30, x7_30⟩ := (DK.out.curve (.tail _ (.tail _ (.head _)))).cells
    have xl_30 := (DK.out.curve (.tail _ (.tail _ (.head _)))).lt
    obtain ⟨q0_30, q1_30, q2_30, q3_30, q4_30, q5_30, q6_30, q7_30⟩ := (DK.out.curve (.tail _ (.tail _ (.tail _ (.tail _ (.head _)))))).cells
    have ql_30 := (DK.out.curve (.tail _ (.tail _ (.tail _ (.tail _ (.head _)))))).lt
    obtain ⟨p0_30, p1_30, p2_30, p3_30, p4_30, p5_30, p6_30, p7_30⟩ := (DK.out.curve (.tail _ (.tail _ (.tail _ (.tail _ (.tail _ (.head _))))))).cells
    have pl_30 := (DK.out.curve (.tail _ (.tail _ (.tail _ (.tail _ (.tail _ (.head _))))))).lt
    obtain ⟨a0_30, a1_30, a2_30, a3_30, a4_30, a5_30, a6_30, a7_30⟩ := (DK.out.curve (.tail _ (.tail _ (.tail _ (.tail _ (.tail _ (.tail _ (.tail _ (.tail _ (.tail _ (.head _))))))))))).cells
    have al_30 := (DK.out.curve (.tail _ (.tail _ (.tail _ (.tail _ (.tail _ (.tail _ (.tail _ (.tail _ (.tail _ (.head _))))))))))).lt
    go_wp2_with (first
      | (go_at_call 28; refine (pick_any n 7 _ (by omega) HN.out.1 HN.out.2 (by omega)).mono ?_; rintro e w99 ⟨j, rfl, ja, jb, hw⟩; subst hw; have HJ := Lib.hid (And.intro ja jb))
      | (go_at_call 46; refine (PF.out _ DK.out.res).mono ?_; rintro e w31 ⟨rfl, hb⟩; have D31 := Lib.hid (DK.out.later hb); obtain ⟨p0_31, p1_31, p2_31, p3_31, p4_31, p5_31, p6_31, p7_31⟩ := (D31.out.curve (.tail _ (.tail _ (.tail _ (.tail _ (.tail _ (.head _))))))).cells; have pl_31 := (D31.out.curve (.tail _ (.tail _ (.tail _ (.tail _ (.tail _ (.head _))))))).lt; obtain ⟨a0_31, a1_31, a2_31, a3_31, a4_31, a5_31, a6_31, a7_31⟩ := (D31.out.curve (.tail _ (.tail _ (.tail _ (.tail _ (.tail _ (.tail _ (.tail _ (.tail _ (.tail _ (.head _))))))))))).cells; have al_31 := (D31.out.curve (.tail _ (.tail _ (.tail _ (.tail _ (.tail _ (.tail _ (.tail _ (.tail _ (.tail _ (.head _))))))))))).lt; clear hb z0_30 z1_30 z2_30 z3_30 z4_30 z5_30 z6_30 z7_30 zl_30 y0_30 y1_30 y2_30 y3_30 y4_30 y5_30 y6_30 y7_30 yl_30 x0_30 x1_30 x2_30 x3_30 x4_30 x5_30 x6_30 x7_30 xl_30 q0_30 q1_30 q2_30 q3_30 q4_30 q5_30 q6_30 q7_30 ql_30 p0_30 p1_30 p2_30 p3_30 p4_30 p5_30 p6_30 p7_30 pl_30 a0_30 a1_30 a2_30 a3_30 a4_30 a5_30 a6_30 a7_30 al_30))
    go_wp2_with ((clear TK11; go_at_call 42; refine (PT1.out j HJ.out.1 HJ.out.2 _ D31.out.res).mono ?_; rintro e w32 ⟨rfl, hb⟩; have D32 := Lib.hid (D31.out.later hb); obtain ⟨p0_32, p1_32, p2_32, p3_32, p4_32, p5_32, p6_32, p7_32⟩ := (D32.out.curve (.tail _ (.tail _ (.tail _ (.tail _ (.tail _ (.head _))))))).cells; have pl_32 := (D32.out.curve (.tail _ (.tail _ (.tail _ (.tail _ (.tail _ (.head _))))))).lt; clear hb p0_31 p1_31 p2_31 p3_31 p4_31 p5_31 p6_31 p7_31 pl_31 a0_31 a1_31 a2_31 a3_31 a4_31 a5_31 a6_31 a7_31 al_31))
    go_wp2_with ((clear TK12; go_at_call 42; refine (PT2.out j HJ.out.1 HJ.out.2 _ (D32.out.push (w32.heap.size) 24 #[.string F, .string (d1 j)] rfl).res).mono ?_; rintro e w33 ⟨rfl, hb⟩; have D33 := Lib.hid ((D32.out.push (w32.heap.size) 24 #[.string F, .string (d1 j)] rfl).later hb); obtain ⟨k0_33, k1_33⟩ := cells2 (D33.out.loss (.head _)); have kl_33 := (D33.out.loss (.head _)).lt; clear hb p0_32 p1_32 p2_32 p3_32 p4_32 p5_32 p6_32 p7_32 pl_32))
    go_wp2_with ((clear TK13; go_at_call 43; refine (PL.out j HJ.out.1 HJ.out.2 _ (D33.out.push (w33.heap.size) 24 #[.string F, .string (d2 j)] rfl).res).mono ?_; rintro e w34 ⟨rfl, hb⟩; have D34 := Lib.hid ((D33.out.push (w33.heap.size) 24 #[.string F, .string (d2 j)] rfl).later hb); clear hb k0_33 k1_33 kl_33))
    go_ret
    exact ⟨rfl, D34.out.below⟩
end Go.Proofs.YtbfhonhjejeaiaaGreatDoor
namespace Go.Proofs.YtbfhonhjejeaiaaGreatDoor
open Go.RowKit Go.Shelf
open Lim

theorem none_add {a : CT} {m : Nat → Rat} (ha : CIs a m) : cv (txt (sumM m noneM)) = cv a := cv_ext fun k hk => by
  rw [ha.txt_eq hk]
  show rT (sumM m noneM k) = rT (m k)
  rw [sumM_none ha.top k]
theorem to_j {c : CT} {m : Nat → Rat} {k : Nat} (hc : CIs c m) (sm : SzC k m) (hk : k ≤ 500) {F : ByteArray} {f : Rat} (hF : IsT F f) (sf : Sz 120 f) (h1 : 1 ≤ f) (j : Int) (h0 : 0 ≤ j) (h7 : j < 7) :
    Ret 42 #[cv c, .int .i64 (2 + j), .string F] (.tuple #[.agg #[.string F, .string (rT (toM m f j.toNat))], .int .i64 0]) := by
  obtain ⟨i, rfl⟩ := Int.eq_ofNat_of_zero_le h0
  rw [Int.add_comm, Int.toNat_natCast]
  exact mtoV hc sm hk hF sf h1 (by omega)
theorem momentOrder_any (a b c : CT) (n : Int) (F : ByteArray) (h1 : -9223372036854775808 ≤ n ∧ n ≤ 9223372036854775807) (hF : F.size ≤ 9223372036854775807) (w : World) (hr : Res w) :
    Calls Tryz.prog 8 #[cv a, cv b, cv c, .int .i64 n, .string F] w fun e w' => e = .returned (.bool true) ∧ Below w.heap.size w w' := by
  cases hv : lightC [a, b, c] with
  | false => exact order_h0 a b c n F hv w hr
  | true =>
    have ha := lightC_at hv (c := a) (by simp)
    have hb := lightC_at hv (c := b) (by simp)
    have hc := lightC_at hv (c := c) (by simp)
    have ck : ∀ {c : CT}, (∀ i, i < 8 → (c i).size ≤ 120) → Ret 39 #[cv c] (.int .i64 (errCT c : Int)) := fun hc w _ => refMCheck_any _ w fun i hi => by have := hc i hi; omega
    have qa := ck ha
    have qb := ck hb
    have qc := ck hc
    by_cases ea : errCT a = 0
    · rw [ea] at qa
      by_cases eb : errCT b = 0
      · rw [eb] at qb
        by_cases ec : errCT c = 0
        · rw [ec] at qc
          cases hf : mfactorB F with
          | false => exact order_h4 a b c n F hv (Lib.hid qa) (Lib.hid qb) (Lib.hid qc) hF hf w hr
          | true =>
            obtain ⟨f1, f2, f3⟩ := mfactor_ok hf
            have sf : Sz 120 (valQ F.data.toList) := (sz_of_text f2 f1).mono (by omega)
            have iF := IsT.of f2
            have ia := CIs.of ea
            have ib := CIs.of eb
            have ic := CIs.of ec
            have sa := szC_of ea ha
            have sb := szC_of eb hb
            have sc := szC_of ec hc
            generalize valM a = A at *
            generalize valM b = B at *
            generalize valM c = C at *
            generalize valQ F.data.toList = f at *
            have iab := sumM_is ia ib sa sb (by decide)
            have ibc := sumM_is ib ic sb sc (by decide)
            have sab := szC_sum sa sb
            have sbc := szC_sum sb sc
            have pba := maddR ib ia sb sa (by decide)
            have py := maddR ia ibc sa sbc (by decide)
            have pz := maddR ia none_cis sa none_szC (by decide)
            have pf := mfitsV ia iab
            rw [sumM_comm B A] at pba
            rw [← sumM_assoc ia.zero ic.zero] at py
            rw [none_add ia] at pz
            rw [leM_iff.2 (le_sumM ia ib)] at pf
            refine order_walk10 a b c n F h1.1 h1.2 hv (Lib.hid qa) (Lib.hid qb) (Lib.hid qc) hF hf (txt (sumM A B)) (txt (sumM B C)) (txt (sumM (sumM A B) C)) (fun j => rT (toM A f j.toNat)) (fun j => rT (toM (sumM A B) f j.toNat))
              (Lib.hid (maddR ia ib sa sb (by decide))) (Lib.hid pba) (Lib.hid (maddR ib ic sb sc (by decide))) (Lib.hid (maddR iab ic sab sc (by decide))) (Lib.hid py) (Lib.hid pz) (Lib.hid pf)
              (Lib.hid (to_j ia sa (by omega) iF sf f3)) (Lib.hid (to_j iab sab (by omega) iF sf f3)) (Lib.hid fun j h0 h7 => ?_) w hr
            have h := mlst_any (toM_is ia sa (by omega) sf (i := j.toNat) (by omega)) (toM_is iab sab (by omega) sf (i := j.toNat) (by omega))
            rwa [decide_eq_true ((cmpQ_le _ _).2 (toM_mono (le_sumM ia ib) f3 (by omega)))] at h
        · exact order_h3 a b c n F hv _ (by omega) (Lib.hid qa) (Lib.hid qb) (Lib.hid qc) w hr
      · exact order_h2 a b c n F hv _ (by omega) (Lib.hid qa) (Lib.hid qb) w hr
    · exact order_h1 a b c n F hv _ (by omega) (Lib.hid qa) w hr
end Go.Proofs.YtbfhonhjejeaiaaGreatDoor
namespace Go.Proofs.YtbfhonhjejeaiaaGreatDoor
open Go.ChangeShapes Go.WideShapes Go.ChangeAt Go.RowKit

theorem cellsNum : Tryz.prog.cellsOf 22 = 1 := by kernel_rfl
section
variable {H : Type} {enc : TypeId × Value → H}
end
end Go.Proofs.YtbfhonhjejeaiaaGreatDoor
namespace Go.Proofs.YtbfhonhjejeaiaaGreatDoor
open Go.ChangeShapes Go.WideShapes Go.ChangeAt Go.RowKit

theorem cellsCurve : Tryz.prog.cellsOf 52 = 8 := by kernel_rfl
theorem cellsSeven : Tryz.prog.cellsOf 50 = 7 := by kernel_rfl
abbrev litC {H : Type} (a : ByteArray) : DataW H := .lit (.string a.data.toList)
section
variable {H : Type} {enc : TypeId × Value → H}
def dataC (c : CT) : DataW H := .agg [.agg [litC (c 0), litC (c 1), litC (c 2), litC (c 3), litC (c 4), litC (c 5), litC (c 6)], litC (c 7)]
def mkC (a0 a1 a2 a3 a4 a5 a6 a7 : ByteArray) : CT := fun i => match i with
  | 0 => a0
  | 1 => a1
  | 2 => a2
  | 3 => a3
  | 4 => a4
  | 5 => a5
  | 6 => a6
  | _ => a7
set_option maxRecDepth 100000 in
theorem open_curve {W : World} {base b2 : Nat} {sp : Nat → Bool} {held : Bool} {v : Value} {d : DataW H} {p : List MemPlace} (hok : Value.okWide Tryz.prog W .any base 52 v) (h : DataW.Trod enc Tryz.prog W b2 sp held 52 v d p) :
    ∃ c : CT, v = cv c ∧ d = dataC c ∧ p = [] ∧ ∀ i, i < 8 → (c i).size ≤ maxLen := by
  obtain ⟨cs, rfl, hsz⟩ := okWide_struct Tryz.underlying52 hok
  rw [cellsCurve] at hsz
  obtain ⟨l⟩ := cs
  match l, hsz with
  | [c0, c1, c2, c3, c4, c5, c6, c7], _ =>
    obtain ⟨fuel, hf⟩ := h
    obtain ⟨y0, y1, m, hx, _, hy0, hy1⟩ := trod_struct2 Tryz.underlying52 hf
    obtain ⟨b, e7, rfl, wb⟩ := DataW.trod_string Tryz.underlying22 hy1
    obtain ⟨xs, k, _, rfl, _, hlen, hxs⟩ := DataW.trod_array Tryz.underlying50 hy0
    match xs, hlen with
    | [x0, x1, x2, x3, x4, x5, x6], _ =>
      obtain ⟨a0, e0, rfl, w0⟩ := DataW.trod_string Tryz.underlying22 (hxs 0 (by omega))
      obtain ⟨a1, e1, rfl, w1⟩ := DataW.trod_string Tryz.underlying22 (hxs 1 (by omega))
      obtain ⟨a2, e2, rfl, w2⟩ := DataW.trod_string Tryz.underlying22 (hxs 2 (by omega))
      obtain ⟨a3, e3, rfl, w3⟩ := DataW.trod_string Tryz.underlying22 (hxs 3 (by omega))
      obtain ⟨a4, e4, rfl, w4⟩ := DataW.trod_string Tryz.underlying22 (hxs 4 (by omega))
      obtain ⟨a5, e5, rfl, w5⟩ := DataW.trod_string Tryz.underlying22 (hxs 5 (by omega))
      obtain ⟨a6, e6, rfl, w6⟩ := DataW.trod_string Tryz.underlying22 (hxs 6 (by omega))
      simp [Value.cells, cellsNum, cellsSeven] at e0 e1 e2 e3 e4 e5 e6 e7
      subst e0 e1 e2 e3 e4 e5 e6 e7
      simp only [Prod.mk.injEq, List.map_cons, List.map_nil, List.flatMap_cons, List.flatMap_nil, List.append_nil] at hx
      obtain ⟨rfl, rfl⟩ := hx
      refine ⟨mkC a0 a1 a2 a3 a4 a5 a6 b, rfl, rfl, rfl, fun i hi => ?_⟩
      match i, hi with
      | 0, _ => exact w0
      | 1, _ => exact w1
      | 2, _ => exact w2
      | 3, _ => exact w3
      | 4, _ => exact w4
      | 5, _ => exact w5
      | 6, _ => exact w6
      | 7, _ => exact wb
set_option maxRecDepth 100000 in
theorem shut_curve {W : World} {b2 : Nat} {sp : Nat → Bool} {held : Bool} {c : CT} (h : ∀ i, i < 8 → (c i).size ≤ maxLen) :
    DataW.Trod enc Tryz.prog W b2 sp held 52 (cv c) (dataC c) [] := ⟨3, by
  have f1 : DataW.trod enc Tryz.prog W b2 sp held 2 22 [.string (c 7)] = some (litC (c 7), []) := by simp [DataW.trod, Tryz.underlying22, h 7 (by omega)]
  have f0 : DataW.trod enc Tryz.prog W b2 sp held 2 50 [.string (c 0), .string (c 1), .string (c 2), .string (c 3), .string (c 4), .string (c 5), .string (c 6)] = some (.agg [litC (c 0), litC (c 1), litC (c 2), litC (c 3), litC (c 4), litC (c 5), litC (c 6)], []) := by
    have e : List.range 7 = [0, 1, 2, 3, 4, 5, 6] := by decide
    simp [DataW.trod, Tryz.underlying22, Tryz.underlying50, cellsNum, cellsSeven, e, h 0 (by omega), h 1 (by omega), h 2 (by omega), h 3 (by omega), h 4 (by omega), h 5 (by omega), h 6 (by omega)]
  have := trod_struct2_mk (enc := enc) (w := W) (base := b2) (spare := sp) (held := held) (n := 2) (cs := [.string (c 0), .string (c 1), .string (c 2), .string (c 3), .string (c 4), .string (c 5), .string (c 6), .string (c 7)]) Tryz.underlying52 (by simp [cellsCurve]) (by simpa [cellsSeven] using f0) (by simpa [cellsNum] using f1)
  simpa [Value.cells, dataC] using this⟩
end
end Go.Proofs.YtbfhonhjejeaiaaGreatDoor
