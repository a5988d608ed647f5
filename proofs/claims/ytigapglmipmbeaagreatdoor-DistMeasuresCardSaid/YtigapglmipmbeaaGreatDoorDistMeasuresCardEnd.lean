/- DistMeasures: for every input the law returns true, and what the input reads does not change; the tied card. No condition. -/
import Derived.Test.YtigapglmipmbeaaGreatDoorRb03
import Derived.Test.YtigapglmipmbeaaGreatDoorLwDistMeasures01
import Derived.Test.YtigapglmipmbeaaGreatDoorRb17
import Derived.Test.YtigapglmipmbeaaGreatDoorCards
import Derived.Test.YtigapglmipmbeaaGreatDoorTie
import Derived.ProofKit
import Derived.LaidMore
import Derived.Lay
import Derived.Stop.Joined
import Derived.SevenTiedAt
import Derived.Below
import Derived.OpenShut
import Derived.ShutString
import Derived.ChangeOld
namespace Go.Proofs.YtigapglmipmbeaaGreatDoor.distMeasures
open Go.ChangeShapes Go.WideShapes Go.ChangeAt Go.RowKit
open Go.ChangeMaps (open_string shut_string)

theorem own : ownKnob Tryz.prog.godebug = none := by kernel_rfl
theorem laid_is : Rows.distMeasuresRow.laid = laidL := rfl

set_option maxRecDepth 100000 in
theorem lifted (os : Os) (started : os.Started) (H : Type) (enc : TypeId × Value → H) :
    ReturnsInHanded {} Tryz.checked os 17 .any (fun w args => (Rows.distMeasuresSpec.pre enc Tryz.prog Tryz.f17 [] false w args ∧ laidMet Tryz.prog laidL w) ∧ sizedMet enc Tryz.prog Tryz.f17 (OpenSpec.ofChange Rows.distMeasuresSpec) false w args)
      (Rows.distMeasuresSpec.post enc Tryz.prog Tryz.f17 false true false false) := by
  refine returns_shaped (C := Tryz.checked) (X := fun w _ => laidMet Tryz.prog laidL w) (fun _ _ _ hh h => h.of_heap hh) own started (by kernel_rfl) Tryz.func17
    (ChangeSpec.witness_shaped (enc := enc) (C := Tryz.checked) (os := os) (X := fun w _ => laidMet Tryz.prog laidL w) false (World.laidAll Tryz.prog os laidL) #[.slice none 0 0, .slice none 0 0, .string ByteArray.empty, .int .i64 0] 8 (World.laidAll_os _ _ _)
      (World.shaped_of_ZipB (by kernel_rfl) (by kernel_rfl)) (by kernel_rfl) (by kernel_rfl) (by kernel_rfl)
      (laidMet_laidAll _ (by kernel_rfl) (by kernel_rfl))) ?_
  intro W base args ds gs before hval0 hW hL hsh
  have hval : ∀ (j : Nat) t v, Tryz.f17.params[j]? = some t → args[j]? = some v → Value.okWide Tryz.prog W .any base t v := hval0
  have hW' := hW
  obtain ⟨p, q, hA0, hV, rfl, hfz, hnd⟩ := hW
  have hA : DataW.TrodAll enc Tryz.prog W 0 (fun _ => true) true Tryz.f17.params.toList args.toList ds p := hA0
  rw [Tryz.params17] at hA hval
  obtain ⟨v0, vs0, d0, ds0, p0, q0, hargs, rfl, rfl, h0, r0⟩ := trodAll_cons hA
  obtain ⟨v1, vs1, d1, ds1, p1, q1, rfl, rfl, rfl, h1, r1⟩ := trodAll_cons r0
  obtain ⟨v2, vs2, d2, ds2, p2, q2, rfl, rfl, rfl, h2, r2⟩ := trodAll_cons r1
  obtain ⟨v3, vs3, d3, ds3, p3, q3, rfl, rfl, rfl, h3, r3⟩ := trodAll_cons r2
  obtain ⟨rfl, rfl, rfl⟩ := trodAll_nil r3
  obtain rfl : args = #[v0, v1, v2, v3] := by cases args; simp_all
  obtain ⟨rfl, rfl⟩ := trodVars_none hV
  obtain ⟨a0, len0, cap0, rfl⟩ := okWide_slice Tryz.underlying22 (hval 0 22 v0 rfl rfl)
  have k0 := h0
  have lt0 := trod_below k0
  obtain ⟨x0, hx0, wx0⟩ := open_masses h0
  obtain ⟨a1, len1, cap1, rfl⟩ := okWide_slice Tryz.underlying22 (hval 1 22 v1 rfl rfl)
  have k1 := h1
  have lt1 := trod_below k1
  obtain ⟨x1, hx1, wx1⟩ := open_masses h1
  obtain ⟨x2, rfl, rfl, rfl, wx2⟩ := open_string Tryz.underlying23 (hval 2 23 v2 rfl rfl) h2
  obtain ⟨x3, rfl, rfl, rfl, wx3⟩ := open_int Tryz.underlying3 (hval 3 3 v3 rfl rfl) h3
  have hR := res_of_laid hL hsh
  clear hA0 hval0
  refine (distMeasures_any x0 x1 _ _ x2 x3 W (hx0) (hx1) wx2 (int_bounds wx3).1 (int_bounds wx3).2 hR).mono fun e W' ⟨he, bel⟩ => ?_
  subst he
  exact ⟨_, rfl, _, _, _, [], _, [], hW', trodAll_mk1 (shut_bool Tryz.underlying4 _), (trodAll_cons_mk (Below.trod laidOutD (by kernel_rfl) (of_decide_eq_true (by kernel_rfl)) k0 bel lt0) (trodAll_cons_mk (Below.trod laidOutD (by kernel_rfl) (of_decide_eq_true (by kernel_rfl)) k1 bel lt1) (trodAll_cons_mk (shut_string Tryz.underlying23 wx2) (trodAll_cons_mk (shut_int Tryz.underlying3 wx3) (trodAll_mk0))))), rfl, bel.frame _, fun h => by cases h⟩

theorem j0 : (Rows.distMeasuresRow.wf (OpenSpec.ofChange Rows.distMeasuresSpec)) = true := by kernel_rfl
theorem j1 : (laidOutB Tryz.prog) = true := by kernel_rfl
theorem j2 : (mapsRowed Tryz.prog) = true := by kernel_rfl
theorem j3 : (Tryz.f17.params.all (Tryz.prog.readableRec ·)) = true := by kernel_rfl
theorem j4 : (namedTie Tryz.prog Rows.distMeasuresRow.named Rows.distMeasuresSpec.vars) = true := by kernel_rfl
theorem j5 : ((Rows.distMeasuresRow.stops == [])) = true := by kernel_rfl
theorem j6 : ((Tryz.prog.stops == [])) = true := by kernel_rfl
theorem j7 : ((Rows.distMeasuresRow.knobs == [])) = true := by kernel_rfl
theorem j8 : ((Tryz.prog.stopKnobs == [])) = true := by kernel_rfl
theorem j9 : ((Rows.distMeasuresRow.inPlace == Tryz.prog.inPlace 17)) = true := by kernel_rfl
theorem j10 : ((Rows.distMeasuresRow.unfollowed == Tryz.prog.unfollowed 17)) = true := by kernel_rfl
theorem j11 : ((Rows.distMeasuresRow.recurses == Tryz.prog.recurses 17)) = true := by kernel_rfl
theorem j12 : ((Rows.distMeasuresRow.named == Tryz.prog.varsNamed 17)) = true := by kernel_rfl
theorem j13 : ((Rows.distMeasuresRow.maps == (Tryz.f17.params.toList ++ Rows.distMeasuresSpec.plain.varTypes Tryz.prog).any (Tryz.prog.mapsRec ·))) = true := by kernel_rfl
theorem j14 : ((Rows.distMeasuresRow.ifaces == (Tryz.f17.params.toList ++ Rows.distMeasuresSpec.plain.varTypes Tryz.prog).any (Tryz.prog.ifacesRec ·))) = true := by kernel_rfl
theorem j15 : ((Rows.distMeasuresRow.mapsOut == Tryz.prog.mapsAmong Tryz.f17.resultTypes.toList)) = true := by kernel_rfl
theorem j16 : ((Rows.distMeasuresRow.loops == (Tryz.f17.params.toList ++ Rows.distMeasuresSpec.plain.varTypes Tryz.prog).any (Tryz.prog.loopsFrom ·))) = true := by kernel_rfl
theorem j17 : ((Rows.distMeasuresRow.wideKeys == (Tryz.f17.params.toList ++ Rows.distMeasuresSpec.plain.varTypes Tryz.prog ++ Tryz.f17.resultTypes.toList).any (Tryz.prog.wideKeysFrom ·))) = true := by kernel_rfl
theorem j18 : (Rows.distMeasuresSpec.vars.all (Tryz.prog.varReadable ·)) = true := by kernel_rfl
theorem j19 : (Tryz.f17.resultTypes.all (fun t => Tryz.prog.readableRec t && decide (t < Tryz.prog.types.size))) = true := by kernel_rfl
theorem j20 : ((Rows.distMeasuresRow.ifacesOut == Tryz.f17.resultTypes.toList.any (Tryz.prog.ifacesRec ·))) = true := by kernel_rfl
theorem j21 : ((Rows.distMeasuresRow.loopsOut == Tryz.f17.resultTypes.toList.any (Tryz.prog.loopsFrom ·))) = true := by kernel_rfl
theorem j22 : ((Rows.distMeasuresRow.plainKeys == Tryz.prog.plainKeys)) = true := by kernel_rfl
theorem j23 : (Rows.distMeasuresRow.shortTexts.isNone) = true := by kernel_rfl
theorem j24 : (Tryz.prog.stopsHeard) = true := by kernel_rfl
theorem j25 : (Tryz.prog.mayEnter) = true := mayEnterF
theorem j26 : ((Rows.distMeasuresRow.lifted == Tryz.prog.liftsFinal)) = true := by kernel_rfl
theorem j27 : ((Tryz.prog.make == some Rows.distMeasuresRow.make)) = true := by kernel_rfl
theorem j28 : ((Rows.distMeasuresRow.kinds == (if Rows.distMeasuresRow.domain.isEmpty then [] else Tryz.f17.params.toList.map fun t => match Tryz.prog.underlying t with | some (.int k) => some k | _ => none))) = true := by kernel_rfl
theorem j29 : ((Rows.distMeasuresRow.pinned == Rows.distMeasuresRow.pinnedBy)) = true := by kernel_rfl
theorem j30 : ((Rows.distMeasuresRow.veiled == (Tryz.f17.params.toList ++ Rows.distMeasuresSpec.plain.varTypes Tryz.prog ++ Tryz.f17.resultTypes.toList).any (Tryz.prog.veiledRec ·))) = true := by kernel_rfl
theorem j31 : (Rows.distMeasuresRow.veiledFits Tryz.prog Tryz.f17.params.toList (Tryz.f17.params.toList ++ Rows.distMeasuresSpec.plain.varTypes Tryz.prog ++ Tryz.f17.resultTypes.toList)) = true := by kernel_rfl
theorem goes : false = Rows.distMeasuresRow.goesBy Tryz.prog := by kernel_rfl
theorem byText : Rows.distMeasuresRow.wfByText (OpenSpec.ofChange Rows.distMeasuresSpec) = true := by kernel_rfl
theorem joined : joinedFacts Tryz.prog 17 Tryz.f17 Rows.distMeasuresSpec Rows.distMeasuresRow = true := by
  unfold joinedFacts
  simp only [j0, j1, j2, j3, j4, j5, j6, j7, j8, j9, j10, j11, j12, j13, j14, j15, j16, j17, j18, j19, j20, j21, j22, j23, j24, j25, j26, j27, j29, j30, j31, Bool.and_self]
  kernel_rfl
theorem named : Tryz.checked.prog.funcNamed Rows.distMeasuresRow.func = some 17 := by kernel_rfl
theorem instf : (Tryz.f17).isInstance Tryz.prog Rows.distMeasuresRow.origin Rows.distMeasuresRow.targs := of_decide_eq_true (by kernel_rfl)
theorem wrapf : (Tryz.f17).isWrapper Tryz.prog Rows.distMeasuresRow.wrapper Rows.distMeasuresRow.mainSum := by unfold Func.isWrapper; first | (rw [if_pos (by decide +kernel)]; kernel_rfl) | (rw [if_neg (by decide +kernel)]; exact ⟨rfl, rfl⟩)
theorem over : Rows.DistMeasuresSaid :=
  OpenClaim.holds_of_wide 17 Tryz.f17 rfl rfl rfl rfl rfl rfl rfl ⟨rfl, rfl, rfl, rfl, rfl⟩ rfl rfl rfl rfl rfl named Tryz.func17 joined instf wrapf
    (fun os started H enc _ => lifted os started H enc)

/-- The statement. -/
theorem proved : Rows.DistMeasuresCardSaid :=
  Claim7.holds_tied_plain_at .later [] [.data, .data, .data, .data, .sentinel, .sentinel, .pinned] true (true, "5395951699d0e7c088c16c506ed30de6925104505e2026abbc93d9abbfe2aced") true
    over (fun _ h => by cases h) byText (fun _ h => by cases h) distMeasures_row_tie rfl ⟨rfl, rfl⟩ mainIsF rfl
    (fun f fn hf hfn => by
      obtain rfl : f = 17 := Option.some.inj ((show Tryz.prog.funcNamed "privhouse/privhouselaw08.DistMeasures" = some 17 by kernel_rfl).symm.trans hf) |>.symm
      obtain rfl : fn = Tryz.f17 := (Option.some.inj (Tryz.func17.symm.trans hfn)).symm
      exact ⟨looksF, fun j t ht => by
        rw [Tryz.params17] at ht
        have hm : t ∈ [22, 22, 23, 3] := by simpa using Array.mem_of_getElem? ht
        have hall : ([22, 22, 23, 3].all fun u => !Tryz.prog.wantsStandIn u) = true := by kernel_rfl
        exact (show Tryz.prog.wantsStandIn t = false by simpa using List.all_eq_true.1 hall t hm)⟩)
    goes
end Go.Proofs.YtigapglmipmbeaaGreatDoor.distMeasures
