/- What the library reads of the package variables, out of a row's premise; the wrap that keeps the world's shape. MomentNames: the walk (printed by mkmlaws.py). Opening and shutting an argument that is a loss. -/
import Derived.Test.YtbfhonhjejeaiaaGreatDoorRb03
import Derived.Test.YtbfhonhjejeaiaaGreatDoorRows
import Derived.Lib.LaidTab
import Derived.Stop.LaidErr
import Derived.Shelf.Vars
import Derived.Handed
import Derived.ChangeAgain
import Derived.Test.YtbfhonhjejeaiaaGreatDoorRb18
import Derived.Test.YtbfhonhjejeaiaaGreatDoorRb10
import Derived.ProofKit
import Derived.OpenShut
import Derived.ShutString
import Derived.ChangeOld
import Derived.ChangeSame
namespace Go.Proofs.YtbfhonhjejeaiaaGreatDoor
open Go.RowKit

/-- The variables that each row lists. -/
def laidL : List (String × DataW Unit) := [("math/bits.deBruijn32tab", Rows.laid_math_bits_deBruijn32tab), ("math/bits.deBruijn64tab", Rows.laid_math_bits_deBruijn64tab), ("internal/strconv.uint64pow10", Rows.laid_internal_strconv_uint64pow10), ("unicode/utf8.acceptRanges", Rows.laid_unicode_utf8_acceptRanges), ("strconv.ErrRange", Rows.laid_strconv_ErrRange), ("strconv.ErrSyntax", Rows.laid_strconv_ErrSyntax), ("unicode/utf8.first", Rows.laid_unicode_utf8_first)]
theorem pow_is : Rows.laid_internal_strconv_uint64pow10 = Lib.tabData (H := Unit) .u64 Lib.pow10Tab := by kernel_rfl
theorem res_of_laid {W : World} (h : laidMet Tryz.prog laidL W) (hs : W.ShapedOpen Tryz.prog) : Res W := by
  refine ⟨?_, ?_⟩
  · have h2 := laidMet.tail (laidMet.tail h)
    rw [pow_is] at h2
    exact Lib.tabIs_of_head (g := 1) (t := (Tryz.prog.globals[1]?.map (·.type)).getD 0) (e := 201) (n := 20) (by kernel_rfl) (by kernel_rfl) (by kernel_rfl) (by kernel_rfl) (by kernel_rfl) (by kernel_rfl) h2
  · exact cell_of_shapedOpen_int (P := Tryz.prog) (g := 0) (t := 3) (zero := #[.int .i64 0]) hs (of_decide_eq_true (by kernel_rfl)) (by kernel_rfl) rfl (by kernel_rfl) (by kernel_rfl) Tryz.underlying3
theorem int_bounds {x : Int} (h : Lit.wf (.int .i64 x) = true) : -9223372036854775808 ≤ x ∧ x ≤ 9223372036854775807 := by
  simpa [Lit.wf, IntKind.min, IntKind.max, IntKind.signed, IntKind.bits] using h

/-- The wrap for a row that lists variables, with the world's shape. -/
theorem returns_shaped {H : Type} {enc : TypeId × Value → H} {a : Assume} {C : Checked} {os : Os} {f : FuncId} {fn : Func} {s : ChangeSpec} {conds : List PathCond} {apart fresh handsOn again : Bool} {X : World → Array Value → Prop}
    (hX : ∀ (w w' : World) (args : Array Value), w.heap = w'.heap → X w args → X w' args)
    (own : ownKnob C.prog.godebug = none) (started : os.Started) (noInit : C.prog.inits.idxOf? f = none) (hfn : C.prog.funcs[f]? = some fn)
    (witness : ∃ (w : World) (tape : Tape) (i : Input), w.os = os ∧ (w.forCall tape i).Shaped C.prog ∧ i.vars = [] ∧ Input.okWide C.prog (w.forCall tape i) .any w.heap.size f i ∧
      ((s.pre enc C.prog fn conds apart (w.forCall tape i).memory i.args ∧ X (w.forCall tape i).memory i.args) ∧ sizedMet enc C.prog fn (OpenSpec.ofChange s) apart (w.forCall tape i).memory i.args) ∧ a.holds C.prog (lone (Frame.enter C.prog f i.args .normal) [] (w.forCall tape i)))
    (contract : ∀ (W : World) (base : Nat) (args : Array Value) (ds gs : List (DataW H)) (before : List MemPlace),
      (∀ (j : Nat) t v, fn.params[j]? = some t → args[j]? = some v → Value.okWide C.prog W .any base t v) →
      DataW.Whole enc C.prog fn.params.toList s.vars apart W args.toList ds gs before →
      X W args → W.ShapedOpen C.prog →
      Calls C.prog f args W fun e W' => ∃ v, e = .returned v ∧ s.post enc C.prog fn apart fresh handsOn again W args v W') :
    ReturnsInHanded a C os f .any (fun w args => (s.pre enc C.prog fn conds apart w args ∧ X w args) ∧ sizedMet enc C.prog fn (OpenSpec.ofChange s) apart w args) (s.post enc C.prog fn apart fresh handsOn again) := by
  refine returnsInHanded_of_calls own started noInit witness ?_
  intro w tape i _ hsh _ hok hpre _
  obtain ⟨_, _, _, fn', hfn', _, _, _, _, hval⟩ := hok
  have e : fn' = fn := Option.some.inj (hfn'.symm.trans hfn)
  subst e
  obtain ⟨⟨⟨ds, gs, before, hw, _⟩, hx⟩, _⟩ := hpre
  have hw' := DataW.Whole.of_heap (w' := w.forCall tape i) (by rfl) hw
  refine (contract (w.forCall tape i) w.heap.size i.args ds gs before hval hw' (hX _ _ _ (by rfl) hx) hsh).mono fun e W' ⟨v, he, hp⟩ => ?_
  subst he
  exact ChangeSpec.post_blind hp
end Go.Proofs.YtbfhonhjejeaiaaGreatDoor
namespace Go.Proofs.YtbfhonhjejeaiaaGreatDoor
open Go.RowKit Go.Shelf
open Lim

theorem m_1_100 : IsT ⟨#[49, 47, 49, 48, 48]⟩ (1/100) := (isT_lit false [49] [49, 48, 48] (by decide +kernel)).1
theorem m_12 : IsT ⟨#[49, 47, 50]⟩ (1/2) := (isT_lit false [49] [50] (by decide +kernel)).1
theorem m_94 : IsT ⟨#[57, 47, 52]⟩ (9/4) := (isT_lit false [57] [52] (by decide +kernel)).1
theorem m_150 : IsT ⟨#[49, 47, 53, 48]⟩ (1/50) := (isT_lit false [49] [53, 48] (by decide +kernel)).1
theorem m_33 : IsT ⟨#[51, 51, 47, 50, 48, 48]⟩ (33/200) := (isT_lit false [51, 51] [50, 48, 48] (by decide +kernel)).1
theorem m_88 : IsT ⟨#[56, 50, 51, 53, 52, 51, 47, 49, 54, 55, 55, 55, 50, 49, 54]⟩ (823543/16777216) := (isT_lit false [56, 50, 51, 53, 52, 51] [49, 54, 55, 55, 55, 50, 49, 54] (by decide +kernel)).1
theorem errOf_low {F L : ByteArray} {f l : Rat} (hF : IsT F f) (hL : IsT L l) (h : f < 1) : errOf F L = 2 := by
  unfold errOf
  rw [if_neg (by rw [hF.err]; decide), if_neg (by rw [hL.err]; decide), if_pos (.inl (by rw [hF.val, cmpQ_lt]; exact h))]
theorem errOf_high {F L : ByteArray} {f l : Rat} (hF : IsT F f) (hL : IsT L l) (h : 1 < l) : errOf F L = 2 := by
  unfold errOf
  rw [if_neg (by rw [hF.err]; decide), if_neg (by rw [hL.err]; decide), if_pos (.inr (fun h2 => by have := (errU_zero.1 h2).2; rw [hL.val] at this; grind))]
theorem szC_lit {m : Nat → Rat} (h : ((List.range 8).all fun i => decide (nm (m i) < 10 ^ 60 ∧ (m i).den < 10 ^ 60)) = true) : SzC 100 m := fun i hi => by
  have h2 : nm (m i) < 10 ^ 60 ∧ (m i).den < 10 ^ 60 := of_decide_eq_true (List.all_eq_true.1 h i (List.mem_range.2 hi))
  exact Sz.mono (j := 60) h2 (by decide)
/-- The curve of the factor 2 with lateness 1/100. -/
def aM : Nat → Rat := ofM 2 (1/100)
theorem aM_cis : CIs (txt aM) aM := of_cis (sz_lit (by decide +kernel)) (sz_lit (by decide +kernel)) (by decide +kernel) (by decide +kernel) (by decide +kernel)
theorem aM_sz : SzC 100 aM := szC_lit (by decide +kernel)
theorem n_of : Ret 47 #[.string ⟨#[50]⟩, .string ⟨#[49, 47, 49, 48, 48]⟩] (.tuple #[cv (txt aM), .int .i64 0]) :=
  mofV m_2 (sz_lit (by decide +kernel)) (by decide +kernel) m_1_100 (sz_lit (by decide +kernel)) (by decide +kernel) (by decide +kernel)
theorem n_add : Ret 44 #[cv (txt aM), cv (txt aM)] (.tuple #[.agg #[.string ⟨#[57, 47, 52]⟩, .string (txt (sumM aM aM) 1), .string (txt (sumM aM aM) 2), .string (txt (sumM aM aM) 3), .string (txt (sumM aM aM) 4), .string (txt (sumM aM aM) 5), .string (txt (sumM aM aM) 6), .string ⟨#[49, 47, 53, 48]⟩], .int .i64 0]) := by
  have h := maddR aM_cis aM_cis aM_sz aM_sz (by decide)
  have e0 : txt (sumM aM aM) 0 = ⟨#[57, 47, 52]⟩ := by
    show rT (sumM aM aM 0) = _
    rw [show sumM aM aM 0 = 9/4 by decide +kernel]
    exact m_94.text.symm
  have e7 : txt (sumM aM aM) 7 = ⟨#[49, 47, 53, 48]⟩ := by
    show rT (sumM aM aM 7) = _
    rw [show sumM aM aM 7 = 1/50 by decide +kernel]
    exact m_150.text.symm
  unfold cv at h
  rw [e0, e7] at h
  exact h
theorem n_to : Ret 42 #[cv (txt aM), .int .i64 2, .string ⟨#[51]⟩] (.tuple #[.agg #[.string ⟨#[51]⟩, .string ⟨#[51, 51, 47, 50, 48, 48]⟩], .int .i64 0]) := by
  have h := mtoV aM_cis aM_sz (by omega) m_3 (sz_lit (by decide +kernel)) (by decide +kernel) (i := 0) (by omega)
  rw [show toM aM 3 0 = 33/200 by decide +kernel, ← m_33.text] at h
  exact h
theorem n_one : Ret 47 #[.string ⟨#[49]⟩, .string ⟨#[48]⟩] (.tuple #[cv noneT, .int .i64 0]) := by
  have h := mofV IsT.one (sz_lit (by decide +kernel)) (by decide +kernel) IsT.zero (sz_lit (by decide +kernel)) (by decide +kernel) (by decide +kernel)
  have e : cv (txt (ofM 1 0)) = cv noneT := cv_ext fun k hk => by
    have e2 : ((List.range 8).all fun i => decide (ofM 1 0 i = noneM i)) = true := by decide +kernel
    have e3 : ofM 1 0 k = noneM k := of_decide_eq_true (List.all_eq_true.1 e2 k (List.mem_range.2 hk))
    rw [none_cis.txt_eq hk]
    show rT (ofM 1 0 k) = rT (noneM k)
    rw [e3]
  rwa [e] at h
theorem n_low : Ret 47 #[.string ⟨#[49, 47, 50]⟩, .string ⟨#[48]⟩] (.tuple #[cv zC, .int .i64 2]) := by
  have e := errOf_low m_12 IsT.zero (by decide +kernel)
  have h := mofE m_12.size IsT.zero.size (by rw [e]; decide)
  rwa [e] at h
theorem n_high : Ret 47 #[.string ⟨#[50]⟩, .string ⟨#[50]⟩] (.tuple #[cv zC, .int .i64 2]) := by
  have e := errOf_high m_2 m_2 (by decide +kernel)
  have h := mofE m_2.size m_2.size (by rw [e]; decide)
  rwa [e] at h
theorem n_to9 : Ret 42 #[cv noneT, .int .i64 9, .string ⟨#[50]⟩] (.tuple #[.agg #[.string ⟨#[]⟩, .string ⟨#[]⟩], .int .i64 2]) := fun w hr => mto_e3 noneT 9 _ none_cis.err (by omega) (by omega) w none_cis.sm hr
theorem n_to1 : Ret 42 #[cv noneT, .int .i64 1, .string ⟨#[50]⟩] (.tuple #[.agg #[.string ⟨#[]⟩, .string ⟨#[]⟩], .int .i64 2]) := fun w hr => mto_e2 noneT 1 _ none_cis.err (by omega) w none_cis.sm hr
theorem n_toh : Ret 42 #[cv noneT, .int .i64 2, .string ⟨#[49, 47, 50]⟩] (.tuple #[.agg #[.string ⟨#[]⟩, .string ⟨#[]⟩], .int .i64 2]) := fun w hr => mto_e5 noneT 0 (by omega) _ m_12.size none_cis.err m_12.err (by rw [m_12.val]; decide +kernel) w none_cis.sm hr
theorem n_best : Ret 41 #[cv noneT, .string ⟨#[49]⟩] (.tuple #[.int .i64 8, .agg #[.string ⟨#[49]⟩, .string ⟨#[56, 50, 51, 53, 52, 51, 47, 49, 54, 55, 55, 55, 50, 49, 54]⟩], .int .i64 0]) := by
  have h := mbestV none_cis (none_szC.mono (k := 100) (by omega)) (by omega) IsT.one (sz_lit (by decide +kernel)) (by decide +kernel)
  rw [show bestI (toM noneM 1) 6 = 6 by decide +kernel, show toM noneM 1 6 = 823543/16777216 by decide +kernel, ← m_88.text] at h
  exact h
theorem n_fits : Ret 46 #[cv noneT, cv (txt aM)] (.tuple #[.bool true, .int .i64 0]) := by
  have h := mfitsV none_cis aM_cis
  rwa [show leM noneM aM = true by decide +kernel] at h
theorem n_fits2 : Ret 46 #[cv (txt aM), cv noneT] (.tuple #[.bool false, .int .i64 0]) := by
  have h := mfitsV aM_cis none_cis
  rwa [show leM aM noneM = false by decide +kernel] at h
theorem n_ck0 : Ret 48 #[cv noneT] (.int .i64 0) := fun w hr => by
  have h := mcheck_walk noneT w none_cis.sm hr
  rwa [none_cis.err] at h
theorem zC_sm : SmC zC := fun k _ => by show (⟨#[]⟩ : ByteArray).size ≤ _; decide
theorem n_ck3 : Ret 48 #[.agg #[.string ⟨#[]⟩, .string ⟨#[]⟩, .string ⟨#[]⟩, .string ⟨#[]⟩, .string ⟨#[]⟩, .string ⟨#[]⟩, .string ⟨#[]⟩, .string ⟨#[]⟩]] (.int .i64 3) := fun w hr => by
  have h := mcheck_walk zC w zC_sm hr
  have e : errCT zC = 3 := (errCT_first (c := zC) (k := 0) (by omega) (fun j h => absurd h (by omega)) (by decide +kernel)).trans (by decide +kernel)
  rw [e] at h
  exact h
def badT : CT := upd noneT 6 ⟨#[49, 47, 50]⟩
theorem bad_is : ∀ k, k < 8 → k ≠ 6 → badT k = noneT k := fun _ _ h => upd_other _ _ h
theorem bad_err : ∀ k, k < 8 → errQ (badT k).data.toList = 0 := fun k hk => by
  by_cases h : k = 6
  · subst h
    show errQ (upd noneT 6 ⟨#[49, 47, 50]⟩ 6).data.toList = 0
    rw [upd_same]
    exact m_12.err
  · rw [bad_is k hk h]
    exact (none_cis.t k hk).err
theorem n_ck2 : Ret 48 #[.agg #[.string (noneT 0), .string (noneT 1), .string (noneT 2), .string (noneT 3), .string (noneT 4), .string (noneT 5), .string ⟨#[49, 47, 50]⟩, .string (noneT 7)]] (.int .i64 2) := fun w hr => by
  have sm : SmC badT := fun k hk => (IsT.of (bad_err k hk)).size
  have h := mcheck_walk badT w sm hr
  have e : errCT badT = 2 := errCT_low bad_err ⟨6, by omega, by
    show cmpQ (valQ (upd noneT 6 ⟨#[49, 47, 50]⟩ 6).data.toList) 1 < 0
    rw [upd_same, m_12.val]
    decide +kernel⟩
  rw [e] at h
  exact h
set_option maxRecDepth 100000 in
set_option maxHeartbeats 16000000 in
theorem momentNames_any  (w : World) (hr : Res w) :
    Calls Tryz.prog 9 #[] w fun e w' => e = .returned (.bool true) ∧ Below w.heap.size w w' := by
  have D0 := Lib.hid (LW.nil hr)
  clear hr
  have K_n_of := Lib.hid n_of
  have K_n_add := Lib.hid n_add
  have K_n_to := Lib.hid n_to
  have K_n_one := Lib.hid n_one
  have K_n_low := Lib.hid n_low
  have K_n_high := Lib.hid n_high
  have K_n_to9 := Lib.hid n_to9
  have K_n_to1 := Lib.hid n_to1
  have K_n_toh := Lib.hid n_toh
  have K_n_best := Lib.hid n_best
  have K_n_fits := Lib.hid n_fits
  have K_n_fits2 := Lib.hid n_fits2
  have K_n_ck0 := Lib.hid n_ck0
  have K_n_ck3 := Lib.hid n_ck3
  have K_n_ck2 := Lib.hid n_ck2
  obtain ⟨A, hA⟩ : ∃ A, A = txt aM := ⟨_, rfl⟩
  obtain ⟨s, hs⟩ : ∃ s, s = txt (sumM aM aM) := ⟨_, rfl⟩
  rw [← hA] at K_n_of K_n_add K_n_to K_n_fits K_n_fits2
  rw [← hs] at K_n_add
  have q1 := eq8_same noneT
  clear hA hs
  have TK0 : True := trivial
  have TK1 : True := trivial
  have TK2 : True := trivial
  have TK3 : True := trivial
  have TK4 : True := trivial
  have TK5 : True := trivial
  have TK6 : True := trivial
  have TK7 : True := trivial
  have TK8 : True := trivial
  have TK9 : True := trivial
  have TK10 : True := trivial
  have TK11 : True := trivial
  have TK12 : True := trivial
  have TK13 : True := trivial
  have TK14 : True := trivial
  have TK15 : True := trivial
  have TK16 : True := trivial
  go_enter Tryz.func9, Tryz.ntmps9
  go_wp2_with ((clear TK0; go_at_call 37; refine (mlives_any _ D0.out.res).mono ?_; rintro e w1 ⟨rfl, hb⟩; have D1 := Lib.hid (D0.out.later hb); clear hb))
  go_wp2_with ((clear TK1; go_at_call 45; refine (mnone_any _).mono ?_; rintro e w2 ⟨rfl, hb⟩; have D2 := Lib.hid (D1.out.later hb); clear hb))
  go_wp2_with ((clear TK2; go_at_call 47; refine (K_n_of.out _ (D2.out.push (w2.heap.size) 52 (cvA noneT) rfl).res).mono ?_; rintro e w3 ⟨rfl, hb⟩; have D3 := Lib.hid ((D2.out.push (w2.heap.size) 52 (cvA noneT) rfl).later hb); clear hb))
  go_wp2_with ((clear TK3; go_at_call 44; refine (K_n_add.out _ (D3.out.push (w3.heap.size) 52 (cvA A) rfl).res).mono ?_; rintro e w4 ⟨rfl, hb⟩; have D4 := Lib.hid ((D3.out.push (w3.heap.size) 52 (cvA A) rfl).later hb); obtain ⟨a0_4, a1_4, a2_4, a3_4, a4_4, a5_4, a6_4, a7_4⟩ := (D4.out.curve (.head _)).cells; have al_4 := (D4.out.curve (.head _)).lt; clear hb))
  go_wp2_with ((clear TK4; go_at_call 42; refine (K_n_to.out _ (D4.out.push (w4.heap.size) 52 #[.string ⟨#[57, 47, 52]⟩, .string (s 1), .string (s 2), .string (s 3), .string (s 4), .string (s 5), .string (s 6), .string ⟨#[49, 47, 53, 48]⟩] rfl).res).mono ?_; rintro e w5 ⟨rfl, hb⟩; have D5 := Lib.hid ((D4.out.push (w4.heap.size) 52 #[.string ⟨#[57, 47, 52]⟩, .string (s 1), .string (s 2), .string (s 3), .string (s 4), .string (s 5), .string (s 6), .string ⟨#[49, 47, 53, 48]⟩] rfl).later hb); clear hb a0_4 a1_4 a2_4 a3_4 a4_4 a5_4 a6_4 a7_4 al_4))
  go_wp2_with ((clear TK5; go_at_call 47; refine (K_n_one.out _ (D5.out.push (w5.heap.size) 24 #[.string ⟨#[51]⟩, .string ⟨#[51, 51, 47, 50, 48, 48]⟩] rfl).res).mono ?_; rintro e w6 ⟨rfl, hb⟩; have D6 := Lib.hid ((D5.out.push (w5.heap.size) 24 #[.string ⟨#[51]⟩, .string ⟨#[51, 51, 47, 50, 48, 48]⟩] rfl).later hb); clear hb))
  go_wp2_with ((clear TK6; go_at_call 47; refine (K_n_low.out _ (D6.out.push (w6.heap.size) 52 (cvA noneT) rfl).res).mono ?_; rintro e w7 ⟨rfl, hb⟩; have D7 := Lib.hid ((D6.out.push (w6.heap.size) 52 (cvA noneT) rfl).later hb); clear hb))
  go_wp2_with ((clear TK7; go_at_call 47; refine (K_n_high.out _ (D7.out.push (w7.heap.size) 52 (cvA zC) rfl).res).mono ?_; rintro e w8 ⟨rfl, hb⟩; have D8 := Lib.hid ((D7.out.push (w7.heap.size) 52 (cvA zC) rfl).later hb); obtain ⟨n0_8, n1_8, n2_8, n3_8, n4_8, n5_8, n6_8, n7_8⟩ := (D8.out.curve (.tail _ (.tail _ (.tail _ (.tail _ (.tail _ (.head _))))))).cells; have nl_8 := (D8.out.curve (.tail _ (.tail _ (.tail _ (.tail _ (.tail _ (.head _))))))).lt; clear hb))
  go_wp2_with ((clear TK8; go_at_call 42; refine (K_n_to9.out _ (D8.out.push (w8.heap.size) 52 (cvA zC) rfl).res).mono ?_; rintro e w9 ⟨rfl, hb⟩; have D9 := Lib.hid ((D8.out.push (w8.heap.size) 52 (cvA zC) rfl).later hb); obtain ⟨n0_9, n1_9, n2_9, n3_9, n4_9, n5_9, n6_9, n7_9⟩ := (D9.out.curve (.tail _ (.tail _ (.tail _ (.tail _ (.tail _ (.tail _ (.head _)))))))).cells; have nl_9 := (D9.out.curve (.tail _ (.tail _ (.tail _ (.tail _ (.tail _ (.tail _ (.head _)))))))).lt; clear hb n0_8 n1_8 n2_8 n3_8 n4_8 n5_8 n6_8 n7_8 nl_8))
  go_wp2_with ((clear TK9; go_at_call 42; refine (K_n_to1.out _ (D9.out.push (w9.heap.size) 24 #[.string ⟨#[]⟩, .string ⟨#[]⟩] rfl).res).mono ?_; rintro e w10 ⟨rfl, hb⟩; have D10 := Lib.hid ((D9.out.push (w9.heap.size) 24 #[.string ⟨#[]⟩, .string ⟨#[]⟩] rfl).later hb); obtain ⟨n0_10, n1_10, n2_10, n3_10, n4_10, n5_10, n6_10, n7_10⟩ := (D10.out.curve (.tail _ (.tail _ (.tail _ (.tail _ (.tail _ (.tail _ (.tail _ (.head _))))))))).cells; have nl_10 := (D10.out.curve (.tail _ (.tail _ (.tail _ (.tail _ (.tail _ (.tail _ (.tail _ (.head _))))))))).lt; clear hb n0_9 n1_9 n2_9 n3_9 n4_9 n5_9 n6_9 n7_9 nl_9))
  go_wp2_with ((clear TK10; go_at_call 42; refine (K_n_toh.out _ (D10.out.push (w10.heap.size) 24 #[.string ⟨#[]⟩, .string ⟨#[]⟩] rfl).res).mono ?_; rintro e w11 ⟨rfl, hb⟩; have D11 := Lib.hid ((D10.out.push (w10.heap.size) 24 #[.string ⟨#[]⟩, .string ⟨#[]⟩] rfl).later hb); obtain ⟨n0_11, n1_11, n2_11, n3_11, n4_11, n5_11, n6_11, n7_11⟩ := (D11.out.curve (.tail _ (.tail _ (.tail _ (.tail _ (.tail _ (.tail _ (.tail _ (.tail _ (.head _)))))))))).cells; have nl_11 := (D11.out.curve (.tail _ (.tail _ (.tail _ (.tail _ (.tail _ (.tail _ (.tail _ (.tail _ (.head _)))))))))).lt; clear hb n0_10 n1_10 n2_10 n3_10 n4_10 n5_10 n6_10 n7_10 nl_10))
  go_wp2_with ((clear TK11; go_at_call 41; refine (K_n_best.out _ (D11.out.push (w11.heap.size) 24 #[.string ⟨#[]⟩, .string ⟨#[]⟩] rfl).res).mono ?_; rintro e w12 ⟨rfl, hb⟩; have D12 := Lib.hid ((D11.out.push (w11.heap.size) 24 #[.string ⟨#[]⟩, .string ⟨#[]⟩] rfl).later hb); obtain ⟨a0_12, a1_12, a2_12, a3_12, a4_12, a5_12, a6_12, a7_12⟩ := (D12.out.curve (.tail _ (.tail _ (.tail _ (.tail _ (.tail _ (.tail _ (.tail _ (.tail _ (.head _)))))))))).cells; have al_12 := (D12.out.curve (.tail _ (.tail _ (.tail _ (.tail _ (.tail _ (.tail _ (.tail _ (.tail _ (.head _)))))))))).lt; obtain ⟨n0_12, n1_12, n2_12, n3_12, n4_12, n5_12, n6_12, n7_12⟩ := (D12.out.curve (.tail _ (.tail _ (.tail _ (.tail _ (.tail _ (.tail _ (.tail _ (.tail _ (.tail _ (.head _))))))))))).cells; have nl_12 := (D12.out.curve (.tail _ (.tail _ (.tail _ (.tail _ (.tail _ (.tail _ (.tail _ (.tail _ (.tail _ (.head _))))))))))).lt; clear hb n0_11 n1_11 n2_11 n3_11 n4_11 n5_11 n6_11 n7_11 nl_11))
  go_wp2_with ((clear TK12; go_at_call 46; refine (K_n_fits.out _ ((D12.out.push (w12.heap.size) 24 #[.string ⟨#[49]⟩, .string ⟨#[56, 50, 51, 53, 52, 51, 47, 49, 54, 55, 55, 55, 50, 49, 54]⟩] rfl).push (w12.heap.size + 1) 52 #[.string (noneT 0), .string (noneT 1), .string (noneT 2), .string (noneT 3), .string (noneT 4), .string (noneT 5), .string ⟨#[49, 47, 50]⟩, .string (noneT 7)] (by simp)).res).mono ?_; rintro e w13 ⟨rfl, hb⟩; have D13 := Lib.hid (((D12.out.push (w12.heap.size) 24 #[.string ⟨#[49]⟩, .string ⟨#[56, 50, 51, 53, 52, 51, 47, 49, 54, 55, 55, 55, 50, 49, 54]⟩] rfl).push (w12.heap.size + 1) 52 #[.string (noneT 0), .string (noneT 1), .string (noneT 2), .string (noneT 3), .string (noneT 4), .string (noneT 5), .string ⟨#[49, 47, 50]⟩, .string (noneT 7)] (by simp)).later hb); obtain ⟨a0_13, a1_13, a2_13, a3_13, a4_13, a5_13, a6_13, a7_13⟩ := (D13.out.curve (.tail _ (.tail _ (.tail _ (.tail _ (.tail _ (.tail _ (.tail _ (.tail _ (.tail _ (.tail _ (.head _)))))))))))).cells; have al_13 := (D13.out.curve (.tail _ (.tail _ (.tail _ (.tail _ (.tail _ (.tail _ (.tail _ (.tail _ (.tail _ (.tail _ (.head _)))))))))))).lt; obtain ⟨n0_13, n1_13, n2_13, n3_13, n4_13, n5_13, n6_13, n7_13⟩ := (D13.out.curve (.tail _ (.tail _ (.tail _ (.tail _ (.tail _ (.tail _ (.tail _ (.tail _ (.tail _ (.tail _ (.tail _ (.head _))))))))))))).cells; have nl_13 := (D13.out.curve (.tail _ (.tail _ (.tail _ (.tail _ (.tail _ (.tail _ (.tail _ (.tail _ (.tail _ (.tail _ (.tail _ (.head _))))))))))))).lt; clear hb a0_12 a1_12 a2_12 a3_12 a4_12 a5_12 a6_12 a7_12 al_12 n0_12 n1_12 n2_12 n3_12 n4_12 n5_12 n6_12 n7_12 nl_12))
  go_wp2_with ((clear TK13; go_at_call 46; refine (K_n_fits2.out _ D13.out.res).mono ?_; rintro e w14 ⟨rfl, hb⟩; have D14 := Lib.hid (D13.out.later hb); obtain ⟨k0_14, k1_14, k2_14, k3_14, k4_14, k5_14, k6_14, k7_14⟩ := cells8 (D14.out.held _ (.head _)); have kl_14 := (D14.out.held _ (.head _)).lt; obtain ⟨l0_14, l1_14⟩ := cells2 (D14.out.loss (.tail _ (.head _))); have ll_14 := (D14.out.loss (.tail _ (.head _))).lt; obtain ⟨d0_14, d1_14, d2_14, d3_14, d4_14, d5_14, d6_14, d7_14⟩ := (D14.out.curve (.tail _ (.tail _ (.tail _ (.tail _ (.tail _ (.tail _ (.tail _ (.head _))))))))).cells; have dl_14 := (D14.out.curve (.tail _ (.tail _ (.tail _ (.tail _ (.tail _ (.tail _ (.tail _ (.head _))))))))).lt; obtain ⟨c0_14, c1_14⟩ := cells2 (D14.out.loss (.tail _ (.tail _ (.tail _ (.tail _ (.tail _ (.tail _ (.tail _ (.tail _ (.head _)))))))))); have cl_14 := (D14.out.loss (.tail _ (.tail _ (.tail _ (.tail _ (.tail _ (.tail _ (.tail _ (.tail _ (.head _)))))))))).lt; obtain ⟨b0_14, b1_14, b2_14, b3_14, b4_14, b5_14, b6_14, b7_14⟩ := cells8 (D14.out.held _ (.tail _ (.tail _ (.tail _ (.tail _ (.tail _ (.tail _ (.tail _ (.tail _ (.tail _ (.head _))))))))))); have bl_14 := (D14.out.held _ (.tail _ (.tail _ (.tail _ (.tail _ (.tail _ (.tail _ (.tail _ (.tail _ (.tail _ (.head _))))))))))).lt; obtain ⟨n0_14, n1_14, n2_14, n3_14, n4_14, n5_14, n6_14, n7_14⟩ := (D14.out.curve (.tail _ (.tail _ (.tail _ (.tail _ (.tail _ (.tail _ (.tail _ (.tail _ (.tail _ (.tail _ (.tail _ (.head _))))))))))))).cells; have nl_14 := (D14.out.curve (.tail _ (.tail _ (.tail _ (.tail _ (.tail _ (.tail _ (.tail _ (.tail _ (.tail _ (.tail _ (.tail _ (.head _))))))))))))).lt; clear hb a0_13 a1_13 a2_13 a3_13 a4_13 a5_13 a6_13 a7_13 al_13 n0_13 n1_13 n2_13 n3_13 n4_13 n5_13 n6_13 n7_13 nl_13))
  go_wp2_with ((clear TK14; go_at_call 48; refine (K_n_ck2.out _ D14.out.res).mono ?_; rintro e w15 ⟨rfl, hb⟩; have D15 := Lib.hid (D14.out.later hb); clear hb k0_14 k1_14 k2_14 k3_14 k4_14 k5_14 k6_14 k7_14 kl_14 l0_14 l1_14 ll_14 d0_14 d1_14 d2_14 d3_14 d4_14 d5_14 d6_14 d7_14 dl_14 c0_14 c1_14 cl_14 b0_14 b1_14 b2_14 b3_14 b4_14 b5_14 b6_14 b7_14 bl_14 n0_14 n1_14 n2_14 n3_14 n4_14 n5_14 n6_14 n7_14 nl_14))
  go_wp2_with ((clear TK15; go_at_call 48; refine (K_n_ck3.out _ D15.out.res).mono ?_; rintro e w16 ⟨rfl, hb⟩; have D16 := Lib.hid (D15.out.later hb); obtain ⟨n0_16, n1_16, n2_16, n3_16, n4_16, n5_16, n6_16, n7_16⟩ := (D16.out.curve (.tail _ (.tail _ (.tail _ (.tail _ (.tail _ (.tail _ (.tail _ (.tail _ (.tail _ (.tail _ (.tail _ (.head _))))))))))))).cells; have nl_16 := (D16.out.curve (.tail _ (.tail _ (.tail _ (.tail _ (.tail _ (.tail _ (.tail _ (.tail _ (.tail _ (.tail _ (.tail _ (.head _))))))))))))).lt; clear hb))
  go_wp2_with ((clear TK16; go_at_call 48; refine (K_n_ck0.out _ D16.out.res).mono ?_; rintro e w17 ⟨rfl, hb⟩; have D17 := Lib.hid (D16.out.later hb); clear hb n0_16 n1_16 n2_16 n3_16 n4_16 n5_16 n6_16 n7_16 nl_16))
  go_ret
  exact ⟨rfl, D17.out.below⟩
end Go.Proofs.YtbfhonhjejeaiaaGreatDoor
namespace Go.Proofs.YtbfhonhjejeaiaaGreatDoor
open Go.ChangeShapes Go.WideShapes Go.ChangeAt Go.RowKit

theorem cellsNum : Tryz.prog.cellsOf 22 = 1 := by kernel_rfl
section
variable {H : Type} {enc : TypeId × Value → H}
end
end Go.Proofs.YtbfhonhjejeaiaaGreatDoor
