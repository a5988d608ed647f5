/- What the library reads of the package variables, out of a row's premise; the wrap that keeps the world's shape. MomentBest: the walk (printed by mkmlaws.py). Opening and shutting an argument that is a loss. Opening and shutting an argument that is a curve. -/
import Derived.Test.YtbfhonhjejeaiaaGreatDoorRb03
import Derived.Test.YtbfhonhjejeaiaaGreatDoorRows
import Derived.Lib.LaidTab
import Derived.Stop.LaidErr
import Derived.Shelf.Vars
import Derived.Handed
import Derived.ChangeAgain
import Derived.Test.YtbfhonhjejeaiaaGreatDoorRb18
import Derived.Test.YtbfhonhjejeaiaaGreatDoorRb10
import Derived.ProofKit
import Derived.OpenShut
import Derived.ShutString
import Derived.ChangeOld
import Derived.ChangeSame
import Derived.Test.YtbfhonhjejeaiaaGreatDoorRb11
namespace Go.Proofs.YtbfhonhjejeaiaaGreatDoor
open Go.RowKit

/-- The variables that each row lists. -/
def laidL : List (String × DataW Unit) := [("math/bits.deBruijn32tab", Rows.laid_math_bits_deBruijn32tab), ("math/bits.deBruijn64tab", Rows.laid_math_bits_deBruijn64tab), ("internal/strconv.uint64pow10", Rows.laid_internal_strconv_uint64pow10), ("unicode/utf8.acceptRanges", Rows.laid_unicode_utf8_acceptRanges), ("strconv.ErrRange", Rows.laid_strconv_ErrRange), ("strconv.ErrSyntax", Rows.laid_strconv_ErrSyntax), ("unicode/utf8.first", Rows.laid_unicode_utf8_first)]
theorem pow_is : Rows.laid_internal_strconv_uint64pow10 = Lib.tabData (H := Unit) .u64 Lib.pow10Tab := by kernel_rfl
theorem res_of_laid {W : World} (h : laidMet Tryz.prog laidL W) (hs : W.ShapedOpen Tryz.prog) : Res W := by
  refine ⟨?_, ?_⟩
  · have h2 := laidMet.tail (laidMet.tail h)
    rw [pow_is] at h2
    exact Lib.tabIs_of_head (g := 1) (t := (Tryz.prog.globals[1]?.map (·.type)).getD 0) (e := 201) (n := 20) (by kernel_rfl) (by kernel_rfl) (by kernel_rfl) (by kernel_rfl) (by kernel_rfl) (by kernel_rfl) h2
  · exact cell_of_shapedOpen_int (P := Tryz.prog) (g := 0) (t := 3) (zero := #[.int .i64 0]) hs (of_decide_eq_true (by kernel_rfl)) (by kernel_rfl) rfl (by kernel_rfl) (by kernel_rfl) Tryz.underlying3
theorem int_bounds {x : Int} (h : Lit.wf (.int .i64 x) = true) : -9223372036854775808 ≤ x ∧ x ≤ 9223372036854775807 := by
  simpa [Lit.wf, IntKind.min, IntKind.max, IntKind.signed, IntKind.bits] using h

/-- The wrap for a row that lists variables, with the world's shape. -/
theorem returns_shaped {H : Type} {enc : TypeId × Value → H} {a : Assume} {C : Checked} {os : Os} {f : FuncId} {fn : Func} {s : ChangeSpec} {conds : List PathCond} {apart fresh handsOn again : Bool} {X : World → Array Value → Prop}
    (hX : ∀ (w w' : World) (args : Array Value), w.heap = w'.heap → X w args → X w' args)
    (own : ownKnob C.prog.godebug = none) (started : os.Started) (noInit : C.prog.inits.idxOf? f = none) (hfn : C.prog.funcs[f]? = some fn)
    (witness : ∃ (w : World) (tape : Tape) (i : Input), w.os = os ∧ (w.forCall tape i).Shaped C.prog ∧ i.vars = [] ∧ Input.okWide C.prog (w.forCall tape i) .any w.heap.size f i ∧
      ((s.pre enc C.prog fn conds apart (w.forCall tape i).memory i.args ∧ X (w.forCall tape i).memory i.args) ∧ sizedMet enc C.prog fn (OpenSpec.ofChange s) apart (w.forCall tape i).memory i.args) ∧ a.holds C.prog (lone (Frame.enter C.prog f i.args .normal) [] (w.forCall tape i)))
    (contract : ∀ (W : World) (base : Nat) (args : Array Value) (ds gs : List (DataW H)) (before : List MemPlace),
      (∀ (j : Nat) t v, fn.params[j]? = some t → args[j]? = some v → Value.okWide C.prog W .any base t v) →
      DataW.Whole enc C.prog fn.params.toList s.vars apart W args.toList ds gs before →
      X W args → W.ShapedOpen C.prog →
      Calls C.prog f args W fun e W' => ∃ v, e = .returned v ∧ s.post enc C.prog fn apart fresh handsOn again W args v W') :
    ReturnsInHanded a C os f .any (fun w args => (s.pre enc C.prog fn conds apart w args ∧ X w args) ∧ sizedMet enc C.prog fn (OpenSpec.ofChange s) apart w args) (s.post enc C.prog fn apart fresh handsOn again) := by
  refine returnsInHanded_of_calls own started noInit witness ?_
  intro w tape i _ hsh _ hok hpre _
  obtain ⟨_, _, _, fn', hfn', _, _, _, _, hval⟩ := hok
  have e : fn' = fn := Option.some.inj (hfn'.symm.trans hfn)
  subst e
  obtain ⟨⟨⟨ds, gs, before, hw, _⟩, hx⟩, _⟩ := hpre
  have hw' := DataW.Whole.of_heap (w' := w.forCall tape i) (by rfl) hw
  refine (contract (w.forCall tape i) w.heap.size i.args ds gs before hval hw' (hX _ _ _ (by rfl) hx) hsh).mono fun e W' ⟨v, he, hp⟩ => ?_
  subst he
  exact ChangeSpec.post_blind hp
end Go.Proofs.YtbfhonhjejeaiaaGreatDoor
namespace Go.Proofs.YtbfhonhjejeaiaaGreatDoor
open Go.RowKit Go.Shelf
open Lim

set_option maxRecDepth 100000 in
set_option maxHeartbeats 16000000 in
theorem best_h1 (c : CT) (F : ByteArray) (HV : lightC [c] = false) (w : World) (hr : Res w) :
    Calls Tryz.prog 7 #[cv c, .string F] w fun e w' => e = .returned (.bool true) ∧ Below w.heap.size w w' := by
  have D0 := Lib.hid ((LW.nil hr).push w.heap.size 52 (cvA c) rfl)
  clear hr
  have TK0 : True := trivial
  have TK1 : True := trivial
  go_enter Tryz.func7, Tryz.ntmps7
  go_wp2_with ((clear TK0; go_at_call 37; refine (mlives_any _ D0.out.res).mono ?_; rintro e w1 ⟨rfl, hb⟩; have D1 := Lib.hid (D0.out.later hb); obtain ⟨c0_1, c1_1, c2_1, c3_1, c4_1, c5_1, c6_1, c7_1⟩ := (D1.out.curve (.head _)).cells; have cl_1 := (D1.out.curve (.head _)).lt; clear hb))
  go_wp2_with ((clear TK1; go_at_call 38; refine (mlight_any [c] _ _ (crow1 ((D1.out.push w1.heap.size 52 #[.string (c 0), .string (c 1), .string (c 2), .string (c 3), .string (c 4), .string (c 5), .string (c 6), .string (c 7)] rfl).held _ (.head _)))).mono ?_; rintro e w2 ⟨rfl, hw⟩; have D2 := Lib.hid (LW.eq (D1.out.push w1.heap.size 52 #[.string (c 0), .string (c 1), .string (c 2), .string (c 3), .string (c 4), .string (c 5), .string (c 6), .string (c 7)] rfl) hw); rw [HV]; clear hw c0_1 c1_1 c2_1 c3_1 c4_1 c5_1 c6_1 c7_1 cl_1))
  go_ret
  exact ⟨rfl, D2.out.below⟩
set_option maxRecDepth 100000 in
set_option maxHeartbeats 16000000 in
theorem best_h2 (c : CT) (F : ByteArray) (HV : lightC [c] = true) (k : Int) (hk : k ≠ 0) (CA : Hid (Ret 39 #[cv c] (.int .i64 k))) (w : World) (hr : Res w) :
    Calls Tryz.prog 7 #[cv c, .string F] w fun e w' => e = .returned (.bool true) ∧ Below w.heap.size w w' := by
  have D0 := Lib.hid ((LW.nil hr).push w.heap.size 52 (cvA c) rfl)
  clear hr
  have hk1 : (k == 0) = false := beq_eq_false_iff_ne.2 hk
  have hk2 : (k != 0) = true := by rw [bne, hk1]; rfl
  have hk3 : (!(k == 0)) = true := by rw [hk1]; rfl
  have TK0 : True := trivial
  have TK1 : True := trivial
  have TK2 : True := trivial
  go_enter Tryz.func7, Tryz.ntmps7
  go_wp2_with ((clear TK0; go_at_call 37; refine (mlives_any _ D0.out.res).mono ?_; rintro e w1 ⟨rfl, hb⟩; have D1 := Lib.hid (D0.out.later hb); obtain ⟨c0_1, c1_1, c2_1, c3_1, c4_1, c5_1, c6_1, c7_1⟩ := (D1.out.curve (.head _)).cells; have cl_1 := (D1.out.curve (.head _)).lt; clear hb))
  go_wp2_with ((clear TK1; go_at_call 38; refine (mlight_any [c] _ _ (crow1 ((D1.out.push w1.heap.size 52 #[.string (c 0), .string (c 1), .string (c 2), .string (c 3), .string (c 4), .string (c 5), .string (c 6), .string (c 7)] rfl).held _ (.head _)))).mono ?_; rintro e w2 ⟨rfl, hw⟩; have D2 := Lib.hid (LW.eq (D1.out.push w1.heap.size 52 #[.string (c 0), .string (c 1), .string (c 2), .string (c 3), .string (c 4), .string (c 5), .string (c 6), .string (c 7)] rfl) hw); rw [HV]; obtain ⟨c0_2, c1_2, c2_2, c3_2, c4_2, c5_2, c6_2, c7_2⟩ := (D2.out.curve (.tail _ (.head _))).cells; have cl_2 := (D2.out.curve (.tail _ (.head _))).lt; clear hw c0_1 c1_1 c2_1 c3_1 c4_1 c5_1 c6_1 c7_1 cl_1))
  go_wp2_with ((clear TK2; go_at_call 39; refine (CA.out _ D2.out.res).mono ?_; rintro e w3 ⟨rfl, hb⟩; have D3 := Lib.hid (D2.out.later hb); clear hb c0_2 c1_2 c2_2 c3_2 c4_2 c5_2 c6_2 c7_2 cl_2))
  go_ret
  exact ⟨rfl, D3.out.below⟩
set_option maxRecDepth 100000 in
set_option maxHeartbeats 16000000 in
theorem best_h3 (c : CT) (F : ByteArray) (HV : lightC [c] = true) (CA : Hid (Ret 39 #[cv c] (.int .i64 0))) (HS : F.size ≤ 9223372036854775807) (HF : mfactorB F = false) (w : World) (hr : Res w) :
    Calls Tryz.prog 7 #[cv c, .string F] w fun e w' => e = .returned (.bool true) ∧ Below w.heap.size w w' := by
  have D0 := Lib.hid ((LW.nil hr).push w.heap.size 52 (cvA c) rfl)
  clear hr
  have TK0 : True := trivial
  have TK1 : True := trivial
  have TK2 : True := trivial
  have TK3 : True := trivial
  go_enter Tryz.func7, Tryz.ntmps7
  go_wp2_with ((clear TK0; go_at_call 37; refine (mlives_any _ D0.out.res).mono ?_; rintro e w1 ⟨rfl, hb⟩; have D1 := Lib.hid (D0.out.later hb); obtain ⟨c0_1, c1_1, c2_1, c3_1, c4_1, c5_1, c6_1, c7_1⟩ := (D1.out.curve (.head _)).cells; have cl_1 := (D1.out.curve (.head _)).lt; clear hb))
  go_wp2_with ((clear TK1; go_at_call 38; refine (mlight_any [c] _ _ (crow1 ((D1.out.push w1.heap.size 52 #[.string (c 0), .string (c 1), .string (c 2), .string (c 3), .string (c 4), .string (c 5), .string (c 6), .string (c 7)] rfl).held _ (.head _)))).mono ?_; rintro e w2 ⟨rfl, hw⟩; have D2 := Lib.hid (LW.eq (D1.out.push w1.heap.size 52 #[.string (c 0), .string (c 1), .string (c 2), .string (c 3), .string (c 4), .string (c 5), .string (c 6), .string (c 7)] rfl) hw); rw [HV]; obtain ⟨c0_2, c1_2, c2_2, c3_2, c4_2, c5_2, c6_2, c7_2⟩ := (D2.out.curve (.tail _ (.head _))).cells; have cl_2 := (D2.out.curve (.tail _ (.head _))).lt; clear hw c0_1 c1_1 c2_1 c3_1 c4_1 c5_1 c6_1 c7_1 cl_1))
  go_wp2_with ((clear TK2; go_at_call 39; refine (CA.out _ D2.out.res).mono ?_; rintro e w3 ⟨rfl, hb⟩; have D3 := Lib.hid (D2.out.later hb); clear hb c0_2 c1_2 c2_2 c3_2 c4_2 c5_2 c6_2 c7_2 cl_2))
  go_wp2_with ((clear TK3; go_at_call 40; refine (mfactor_any F _ HS).mono ?_; rintro e w4 ⟨rfl, hb⟩; have D4 := Lib.hid (D3.out.later hb); rw [HF]; clear hb))
  go_ret
  exact ⟨rfl, D4.out.below⟩
set_option maxRecDepth 100000 in
set_option maxHeartbeats 16000000 in
theorem best_walk (c : CT) (F : ByteArray) (HV : lightC [c] = true) (CA : Hid (Ret 39 #[cv c] (.int .i64 0))) (HS : F.size ≤ 9223372036854775807) (HF : mfactorB F = true) (b : Nat) (hb7 : b < 7) (de : Nat → ByteArray)
    (PB : Hid (Ret 41 #[cv c, .string F] (.tuple #[.int .i64 ((b : Int) + 2), .agg #[.string F, .string (de b)], .int .i64 0]))) (PT : Hid (∀ i : Nat, i < 7 → Ret 42 #[cv c, .int .i64 ((i : Int) + 2), .string F] (.tuple #[.agg #[.string F, .string (de i)], .int .i64 0])))
    (PL : Hid (∀ i : Nat, i < 7 → Ret 43 #[.string (de b), .string (de i)] (.bool true))) (PN : Hid (∀ i : Nat, i < b → ((de i).toList == (de b).toList) = false)) (w : World) (hr : Res w) :
    Calls Tryz.prog 7 #[cv c, .string F] w fun e w' => e = .returned (.bool true) ∧ Below w.heap.size w w' := by
  have D0 := Lib.hid ((LW.nil hr).push w.heap.size 52 (cvA c) rfl)
  clear hr
  have b0 : (0 : Int) ≤ (b : Int) := by omega
  have b1 : (b : Int) < 7 := by omega
  have db1 : decide ((b : Int) + 2 < 2) = false := decide_eq_false (by omega)
  have db2 : decide (8 < (b : Int) + 2) = false := decide_eq_false (by omega)
  have TK0 : True := trivial
  have TK1 : True := trivial
  have TK2 : True := trivial
  have TK3 : True := trivial
  have TK4 : True := trivial
  go_enter Tryz.func7, Tryz.ntmps7
  go_wp2_with ((clear TK0; go_at_call 37; refine (mlives_any _ D0.out.res).mono ?_; rintro e w1 ⟨rfl, hb⟩; have D1 := Lib.hid (D0.out.later hb); obtain ⟨c0_1, c1_1, c2_1, c3_1, c4_1, c5_1, c6_1, c7_1⟩ := (D1.out.curve (.head _)).cells; have cl_1 := (D1.out.curve (.head _)).lt; clear hb))
  go_wp2_with ((clear TK1; go_at_call 38; refine (mlight_any [c] _ _ (crow1 ((D1.out.push w1.heap.size 52 #[.string (c 0), .string (c 1), .string (c 2), .string (c 3), .string (c 4), .string (c 5), .string (c 6), .string (c 7)] rfl).held _ (.head _)))).mono ?_; rintro e w2 ⟨rfl, hw⟩; have D2 := Lib.hid (LW.eq (D1.out.push w1.heap.size 52 #[.string (c 0), .string (c 1), .string (c 2), .string (c 3), .string (c 4), .string (c 5), .string (c 6), .string (c 7)] rfl) hw); rw [HV]; obtain ⟨c0_2, c1_2, c2_2, c3_2, c4_2, c5_2, c6_2, c7_2⟩ := (D2.out.curve (.tail _ (.head _))).cells; have cl_2 := (D2.out.curve (.tail _ (.head _))).lt; clear hw c0_1 c1_1 c2_1 c3_1 c4_1 c5_1 c6_1 c7_1 cl_1))
  go_wp2_with ((clear TK2; go_at_call 39; refine (CA.out _ D2.out.res).mono ?_; rintro e w3 ⟨rfl, hb⟩; have D3 := Lib.hid (D2.out.later hb); clear hb c0_2 c1_2 c2_2 c3_2 c4_2 c5_2 c6_2 c7_2 cl_2))
  go_wp2_with ((clear TK3; go_at_call 40; refine (mfactor_any F _ HS).mono ?_; rintro e w4 ⟨rfl, hb⟩; have D4 := Lib.hid (D3.out.later hb); rw [HF]; obtain ⟨c0_4, c1_4, c2_4, c3_4, c4_4, c5_4, c6_4, c7_4⟩ := (D4.out.curve (.tail _ (.head _))).cells; have cl_4 := (D4.out.curve (.tail _ (.head _))).lt; clear hb))
  go_wp2_with ((clear TK4; go_at_call 41; refine (PB.out _ D4.out.res).mono ?_; rintro e w5 ⟨rfl, hb⟩; have D5 := Lib.hid (D4.out.later hb); clear hb c0_4 c1_4 c2_4 c3_4 c4_4 c5_4 c6_4 c7_4 cl_4))
  go_wp2
  have DL : Hid (LW w [(w5.heap.size, 24, #[.string F, .string (de b)]), (w.heap.size, 52, cvA c)] (w5.alloc (.cells #[.string F, .string (de b)] 24))) := Lib.hid (LW.two (D5.out.push w5.heap.size 24 #[.string F, .string (de b)] rfl) (.head _) (.tail _ (.tail _ (.head _))))
  generalize w5.alloc (.cells #[.string F, .string (de b)] 24) = WL at *
  generalize w5.heap.size = g5 at *
  go_loopw [8] (fun v8 wr => ∃ i : Nat, i ≤ 7 ∧ v8 = .int .i64 ((i : Int) + 2) ∧ Hid (LW w [(g5, 24, #[.string F, .string (de b)]), (w.heap.size, 52, cvA c)] wr)) (fun v8 _ => 9 - (intOf v8).toNat)
  case atStart => exact ⟨0, by omega, rfl, DL⟩
  case round =>
    obtain ⟨i, hi, rfl, H⟩ := hrel
    clear DL
    rcases Nat.lt_or_ge i 7 with hlt | hge
    · have hi0 : (0 : Int) ≤ (i : Int) := by omega
      have hi1 : (i : Int) < 7 := by omega
      have d8 : decide ((i : Int) + 2 ≤ 8) = true := decide_eq_true (by omega)
      obtain ⟨c0, c1, c2, c3, c4, c5, c6, c7⟩ := (H.out.curve (.tail _ (.head _))).cells
      have HTI := Lib.hid (PT.out i hlt)
      have HLI := Lib.hid (PL.out i hlt)
      rcases Nat.lt_trichotomy i b with hib | hib | hib
      · have e1 : ((i : Int) + 2 == (b : Int) + 2) = false := by rw [beq_eq_false_iff_ne]; omega
        have e2 : decide ((i : Int) + 2 < (b : Int) + 2) = true := decide_eq_true (by omega)
        have e3 : ((i : Int) == (b : Int)) = false := by rw [beq_eq_false_iff_ne]; omega
        have e4 : decide ((i : Int) < (b : Int)) = true := decide_eq_true (by omega)
        have e5 := PN.out i hib
        go_wp2_with (first
          | (go_at_call 42; refine (HTI.out _ H.out.res).mono ?_; rintro e w6 ⟨rfl, hb⟩; have H6 := Lib.hid (H.out.later hb); obtain ⟨l0, l1⟩ := cells2 (H6.out.loss (.head _)); have ll := (H6.out.loss (.head _)).lt; clear hb c0 c1 c2 c3 c4 c5 c6 c7)
          | (go_at_call 43; refine (HLI.out _ (H6.out.push _ _ #[.string F, .string (de i)] rfl).res).mono ?_; rintro e w7 ⟨rfl, hb⟩; have H7 := Lib.hid ((H6.out.push _ 24 #[.string F, .string (de i)] rfl).later hb); obtain ⟨m0, m1⟩ := cells2 (H7.out.loss (.tail _ (.head _))); obtain ⟨n0, n1⟩ := cells2 (H7.out.loss (.head _)); clear hb l0 l1))
        go_roundw
        case rel => exact ⟨i + 1, by omega, by go_num, Lib.hid H7.out.drop⟩
        case measure => simp [intOf]; omega
      · subst hib
        go_wp2_with (first
          | (go_at_call 42; refine (HTI.out _ H.out.res).mono ?_; rintro e w6 ⟨rfl, hb⟩; have H6 := Lib.hid (H.out.later hb); obtain ⟨l0, l1⟩ := cells2 (H6.out.loss (.head _)); have ll := (H6.out.loss (.head _)).lt; clear hb c0 c1 c2 c3 c4 c5 c6 c7)
          | (go_at_call 43; refine (HLI.out _ (H6.out.push _ _ #[.string F, .string (de i)] rfl).res).mono ?_; rintro e w7 ⟨rfl, hb⟩; have H7 := Lib.hid ((H6.out.push _ 24 #[.string F, .string (de i)] rfl).later hb); obtain ⟨m0, m1⟩ := cells2 (H7.out.loss (.tail _ (.head _))); obtain ⟨n0, n1⟩ := cells2 (H7.out.loss (.head _)); clear hb l0 l1))
        go_roundw
        case rel => exact ⟨i + 1, by omega, by go_num, Lib.hid H7.out.drop⟩
        case measure => simp [intOf]; omega
      · have e1 : ((i : Int) + 2 == (b : Int) + 2) = false := by rw [beq_eq_false_iff_ne]; omega
        have e2 : decide ((i : Int) + 2 < (b : Int) + 2) = false := decide_eq_false (by omega)
        have e3 : ((i : Int) == (b : Int)) = false := by rw [beq_eq_false_iff_ne]; omega
        have e4 : decide ((i : Int) < (b : Int)) = false := decide_eq_false (by omega)
        go_wp2_with (first
          | (go_at_call 42; refine (HTI.out _ H.out.res).mono ?_; rintro e w6 ⟨rfl, hb⟩; have H6 := Lib.hid (H.out.later hb); obtain ⟨l0, l1⟩ := cells2 (H6.out.loss (.head _)); have ll := (H6.out.loss (.head _)).lt; clear hb c0 c1 c2 c3 c4 c5 c6 c7)
          | (go_at_call 43; refine (HLI.out _ (H6.out.push _ _ #[.string F, .string (de i)] rfl).res).mono ?_; rintro e w7 ⟨rfl, hb⟩; have H7 := Lib.hid ((H6.out.push _ 24 #[.string F, .string (de i)] rfl).later hb); obtain ⟨m0, m1⟩ := cells2 (H7.out.loss (.tail _ (.head _))); obtain ⟨n0, n1⟩ := cells2 (H7.out.loss (.head _)); clear hb l0 l1))
        go_roundw
        case rel => exact ⟨i + 1, by omega, by go_num, Lib.hid H7.out.drop⟩
        case measure => simp [intOf]; omega
    · obtain rfl : i = 7 := by omega
      go_wp2
      go_ret
      exact ⟨rfl, H.out.below⟩
theorem momentBest_any (c : CT) (F : ByteArray) (hF : F.size ≤ 9223372036854775807) (w : World) (hr : Res w) :
    Calls Tryz.prog 7 #[cv c, .string F] w fun e w' => e = .returned (.bool true) ∧ Below w.heap.size w w' := by
  cases hv : lightC [c] with
  | false => exact best_h1 c F hv w hr
  | true =>
    have hc := lightC_at hv (c := c) (by simp)
    have sc : SmC c := fun i hi => by have := hc i hi; omega
    have qa : Ret 39 #[cv c] (.int .i64 (errCT c : Int)) := fun w _ => refMCheck_any c w sc
    by_cases e0 : errCT c = 0
    · rw [e0] at qa
      cases hf : mfactorB F with
      | false => exact best_h3 c F hv (Lib.hid qa) hF hf w hr
      | true =>
        obtain ⟨f1, f2, f3⟩ := mfactor_ok hf
        have sf : Sz 120 (valQ F.data.toList) := (sz_of_text f2 f1).mono (by omega)
        have ic := CIs.of e0
        have sm := szC_of e0 hc
        have hle := bestI_le (toM (valM c) (valQ F.data.toList)) 6
        have hbst := bestI_least (toM (valM c) (valQ F.data.toList)) 6
        have iT : ∀ i, i < 7 → IsT (rT (toM (valM c) (valQ F.data.toList) i)) (toM (valM c) (valQ F.data.toList) i) := fun i hi => toM_is ic sm (by omega) sf hi
        have pb := mbestV ic sm (by omega) (IsT.of f2) sf f3
        have pt : ∀ i : Nat, i < 7 → Ret 42 #[cv c, .int .i64 ((i : Int) + 2), .string F] (.tuple #[.agg #[.string F, .string (rT (toM (valM c) (valQ F.data.toList) i))], .int .i64 0]) := fun i hi => mtoV ic sm (by omega) (IsT.of f2) sf f3 hi
        generalize toM (valM c) (valQ F.data.toList) = δ at *
        refine best_walk c F hv (Lib.hid qa) hF hf (bestI δ 6) (by omega) (fun i => rT (δ i)) (Lib.hid pb) (Lib.hid pt) (Lib.hid fun i hi => ?_) (Lib.hid fun i hi => ?_) w hr
        · have h := mlst_any (iT (bestI δ 6) (by omega)) (iT i hi)
          rwa [decide_eq_true ((cmpQ_le _ _).2 (hbst.1 i (by omega)))] at h
        · exact ne_toList (iT i (by omega)) (iT (bestI δ 6) (by omega)) (fun h => by have := hbst.2 i hi; rw [h] at this; exact Rat.lt_irrefl this)
    · exact best_h2 c F hv _ (by omega) (Lib.hid qa) w hr
end Go.Proofs.YtbfhonhjejeaiaaGreatDoor
namespace Go.Proofs.YtbfhonhjejeaiaaGreatDoor
open Go.ChangeShapes Go.WideShapes Go.ChangeAt Go.RowKit

theorem cellsNum : Tryz.prog.cellsOf 22 = 1 := by kernel_rfl
section
variable {H : Type} {enc : TypeId × Value → H}
end
end Go.Proofs.YtbfhonhjejeaiaaGreatDoor
namespace Go.Proofs.YtbfhonhjejeaiaaGreatDoor
open Go.ChangeShapes Go.WideShapes Go.ChangeAt Go.RowKit

theorem cellsCurve : Tryz.prog.cellsOf 52 = 8 := by kernel_rfl
theorem cellsSeven : Tryz.prog.cellsOf 50 = 7 := by kernel_rfl
abbrev litC {H : Type} (a : ByteArray) : DataW H := .lit (.string a.data.toList)
section
variable {H : Type} {enc : TypeId × Value → H}
def dataC (c : CT) : DataW H := .agg [.agg [litC (c 0), litC (c 1), litC (c 2), litC (c 3), litC (c 4), litC (c 5), litC (c 6)], litC (c 7)]
def mkC (a0 a1 a2 a3 a4 a5 a6 a7 : ByteArray) : CT := fun i => match i with
  | 0 => a0
  | 1 => a1
  | 2 => a2
  | 3 => a3
  | 4 => a4
  | 5 => a5
  | 6 => a6
  | _ => a7
set_option maxRecDepth 100000 in
theorem open_curve {W : World} {base b2 : Nat} {sp : Nat → Bool} {held : Bool} {v : Value} {d : DataW H} {p : List MemPlace} (hok : Value.okWide Tryz.prog W .any base 52 v) (h : DataW.Trod enc Tryz.prog W b2 sp held 52 v d p) :
    ∃ c : CT, v = cv c ∧ d = dataC c ∧ p = [] ∧ ∀ i, i < 8 → (c i).size ≤ maxLen := by
  obtain ⟨cs, rfl, hsz⟩ := okWide_struct Tryz.underlying52 hok
  rw [cellsCurve] at hsz
  obtain ⟨l⟩ := cs
  match l, hsz with
  | [c0, c1, c2, c3, c4, c5, c6, c7], _ =>
    obtain ⟨fuel, hf⟩ := h
    obtain ⟨y0, y1, m, hx, _, hy0, hy1⟩ := trod_struct2 Tryz.underlying52 hf
    obtain ⟨b, e7, rfl, wb⟩ := DataW.trod_string Tryz.underlying22 hy1
    obtain ⟨xs, k, _, rfl, _, hlen, hxs⟩ := DataW.trod_array Tryz.underlying50 hy0
    match xs, hlen with
    | [x0, x1, x2, x3, x4, x5, x6], _ =>
      obtain ⟨a0, e0, rfl, w0⟩ := DataW.trod_string Tryz.underlying22 (hxs 0 (by omega))
      obtain ⟨a1, e1, rfl, w1⟩ := DataW.trod_string Tryz.underlying22 (hxs 1 (by omega))
      obtain ⟨a2, e2, rfl, w2⟩ := DataW.trod_string Tryz.underlying22 (hxs 2 (by omega))
      obtain ⟨a3, e3, rfl, w3⟩ := DataW.trod_string Tryz.underlying22 (hxs 3 (by omega))
      obtain ⟨a4, e4, rfl, w4⟩ := DataW.trod_string Tryz.underlying22 (hxs 4 (by omega))
      obtain ⟨a5, e5, rfl, w5⟩ := DataW.trod_string Tryz.underlying22 (hxs 5 (by omega))
      obtain ⟨a6, e6, rfl, w6⟩ := DataW.trod_string Tryz.underlying22 (hxs 6 (by omega))
      simp [Value.cells, cellsNum, cellsSeven] at e0 e1 e2 e3 e4 e5 e6 e7
      subst e0 e1 e2 e3 e4 e5 e6 e7
      simp only [Prod.mk.injEq, List.map_cons, List.map_nil, List.flatMap_cons, List.flatMap_nil, List.append_nil] at hx
      obtain ⟨rfl, rfl⟩ := hx
      refine ⟨mkC a0 a1 a2 a3 a4 a5 a6 b, rfl, rfl, rfl, fun i hi => ?_⟩
      match i, hi with
      | 0, _ => exact w0
      | 1, _ => exact w1
      | 2, _ => exact w2
      | 3, _ => exact w3
      | 4, _ => exact w4
      | 5, _ => exact w5
      | 6, _ => exact w6
      | 7, _ => exact wb
set_option maxRecDepth 100000 in
theorem shut_curve {W : World} {b2 : Nat} {sp : Nat → Bool} {held : Bool} {c : CT} (h : ∀ i, i < 8 → (c i).size ≤ maxLen) :
    DataW.Trod enc Tryz.prog W b2 sp held 52 (cv c) (dataC c) [] := ⟨3, by
  have f1 : DataW.trod enc Tryz.prog W b2 sp held 2 22 [.string (c 7)] = some (litC (c 7), []) := by simp [DataW.trod, Tryz.underlying22, h 7 (by omega)]
  have f0 : DataW.trod enc Tryz.prog W b2 sp held 2 50 [.string (c 0), .string (c 1), .string (c 2), .string (c 3), .string (c 4), .string (c 5), .string (c 6)] = some (.agg [litC (c 0), litC (c 1), litC (c 2), litC (c 3), litC (c 4), litC (c 5), litC (c 6)], []) := by
    have e : List.range 7 = [0, 1, 2, 3, 4, 5, 6] := by decide
    simp [DataW.trod, Tryz.underlying22, Tryz.underlying50, cellsNum, cellsSeven, e, h 0 (by omega), h 1 (by omega), h 2 (by omega), h 3 (by omega), h 4 (by omega), h 5 (by omega), h 6 (by omega)]
  have := trod_struct2_mk (enc := enc) (w := W) (base := b2) (spare := sp) (held := held) (n := 2) (cs := [.string (c 0), .string (c 1), .string (c 2), .string (c 3), .string (c 4), .string (c 5), .string (c 6), .string (c 7)]) Tryz.underlying52 (by simp [cellsCurve]) (by simpa [cellsSeven] using f0) (by simpa [cellsNum] using f1)
  simpa [Value.cells, dataC] using this⟩
end
end Go.Proofs.YtbfhonhjejeaiaaGreatDoor
