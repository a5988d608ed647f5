/- MomentAdds: for every input the law returns true, and what the input reads does not change; the tied card. No condition. -/
import Derived.Test.YtigapglmipmbeaaGreatDoorLwMomentAdds03
import Derived.Test.YtigapglmipmbeaaGreatDoorLwMomentAdds22
import Derived.Test.YtigapglmipmbeaaGreatDoorCards
import Derived.Test.YtigapglmipmbeaaGreatDoorTie
import Derived.ProofKit
import Derived.LaidMore
import Derived.Lay
import Derived.Stop.Joined
import Derived.SevenTiedAt
import Derived.Below
import Derived.OpenShut
import Derived.ShutString
import Derived.ChangeOld
namespace Go.Proofs.YtigapglmipmbeaaGreatDoor.momentAdds
open Go.ChangeShapes Go.WideShapes Go.ChangeAt Go.RowKit
open Go.ChangeMaps (open_string shut_string)
theorem own : ownKnob Tryz.prog.godebug = none := by kernel_rfl
theorem laid_is : Rows.momentAddsRow.laid = b4J := rfl
set_option maxRecDepth 100000 in
theorem lifted(os : Os)(started : os.Started)(H : Type)(enc : TypeId × Value → H) :
    ReturnsInHanded {} Tryz.checked os 6 .any (fun w args => (Rows.momentAddsSpec.pre enc Tryz.prog Tryz.f6 [] false w args ∧ laidMet Tryz.prog b4J w) ∧ sizedMet enc Tryz.prog Tryz.f6 (OpenSpec.ofChange Rows.momentAddsSpec) false w args)
      (Rows.momentAddsSpec.post enc Tryz.prog Tryz.f6 false true false false) := by
  refine a9c (C := Tryz.checked) (X := fun w _ => laidMet Tryz.prog b4J w) (fun _ _ _ hh h => h.of_heap hh) own started (by kernel_rfl) Tryz.func6
    (ChangeSpec.witness_shaped (enc := enc) (C := Tryz.checked) (os := os) (X := fun w _ => laidMet Tryz.prog b4J w) false (World.laidAll Tryz.prog os b4J) #[.slice none 0 0, .slice none 0 0, .slice none 0 0, .slice none 0 0, .string ByteArray.empty, .int .i64 0, .int .i64 0, .int .i64 0] 8 (World.laidAll_os _ _ _)
      (World.shaped_of_ZipB (by kernel_rfl) (by kernel_rfl)) (by kernel_rfl) (by kernel_rfl) (by kernel_rfl)
      (laidMet_laidAll _ (by kernel_rfl) (by kernel_rfl))) ?_
  intro W base args ds gs before hval0 hW hL hsh
  have hval : ∀ (j : Nat) t v, Tryz.f6.params[j]? = some t → args[j]? = some v → Value.okWide Tryz.prog W .any base t v := hval0
  have hW' := hW
  obtain⟨p, q, hA0, hV, rfl, hfz, hnd⟩:= hW
  have hA : DataW.TrodAll enc Tryz.prog W 0 (fun _ => true) true Tryz.f6.params.toList args.toList ds p := hA0
  rw[Tryz.params6]at hA hval
  obtain⟨v0, vs0, d0, ds0, p0, q0, hargs, rfl, rfl, h0, r0⟩:= trodAll_cons hA
  obtain⟨v1, vs1, d1, ds1, p1, q1, rfl, rfl, rfl, h1, r1⟩:= trodAll_cons r0
  obtain⟨v2, vs2, d2, ds2, p2, q2, rfl, rfl, rfl, h2, r2⟩:= trodAll_cons r1
  obtain⟨v3, vs3, d3, ds3, p3, q3, rfl, rfl, rfl, h3, r3⟩:= trodAll_cons r2
  obtain⟨v4, vs4, d4, ds4, p4, q4, rfl, rfl, rfl, h4, r4⟩:= trodAll_cons r3
  obtain⟨v5, vs5, d5, ds5, p5, q5, rfl, rfl, rfl, h5, r5⟩:= trodAll_cons r4
  obtain⟨v6, vs6, d6, ds6, p6, q6, rfl, rfl, rfl, h6, r6⟩:= trodAll_cons r5
  obtain⟨v7, vs7, d7, ds7, p7, q7, rfl, rfl, rfl, h7, r7⟩:= trodAll_cons r6
  obtain⟨rfl, rfl, rfl⟩:= trodAll_nil r7
  obtain rfl : args = #[v0, v1, v2, v3, v4, v5, v6, v7] := by cases args; simp_all
  obtain⟨rfl, rfl⟩:= trodVars_none hV
  obtain⟨a0, len0, cap0, rfl⟩:= okWide_slice Tryz.underlying22 (hval 0 22 v0 rfl rfl)
  have k0 := h0
  have lt0 := a5z k0
  obtain⟨x0, hx0, wx0⟩:= a4J h0
  obtain⟨a1, len1, cap1, rfl⟩:= okWide_slice Tryz.underlying22 (hval 1 22 v1 rfl rfl)
  have k1 := h1
  have lt1 := a5z k1
  obtain⟨x1, hx1, wx1⟩:= a4J h1
  obtain⟨a2, len2, cap2, rfl⟩:= okWide_slice Tryz.underlying22 (hval 2 22 v2 rfl rfl)
  have k2 := h2
  have lt2 := a5z k2
  obtain⟨x2, hx2, wx2⟩:= a4J h2
  obtain⟨a3, len3, cap3, rfl⟩:= okWide_slice Tryz.underlying22 (hval 3 22 v3 rfl rfl)
  have k3 := h3
  have lt3 := a5z k3
  obtain⟨x3, hx3, wx3⟩:= a4J h3
  obtain⟨x4, rfl, rfl, rfl, wx4⟩:= open_string Tryz.underlying23 (hval 4 23 v4 rfl rfl) h4
  obtain⟨x5, rfl, rfl, rfl, wx5⟩:= open_int Tryz.underlying3 (hval 5 3 v5 rfl rfl) h5
  obtain⟨x6, rfl, rfl, rfl, wx6⟩:= open_int Tryz.underlying3 (hval 6 3 v6 rfl rfl) h6
  obtain⟨x7, rfl, rfl, rfl, wx7⟩:= open_int Tryz.underlying3 (hval 7 3 v7 rfl rfl) h7
  have hR := b16 hL hsh
  clear hA0 hval0
  refine(a9e x0 x1 x2 x3 _ _ _ _ x4 x5 x6 x7 W (hx0) (hx1) (hx2) (hx3) wx4 (a3z wx5).1 (a3z wx5).2 (a3z wx6).1 (a3z wx6).2 (a3z wx7).1 (a3z wx7).2 hR).mono fun e W' ⟨he, bel⟩ => ?_
  subst he
  exact⟨_, rfl, _, _, _, [], _, [], hW', trodAll_mk1 (shut_bool Tryz.underlying4 _), (trodAll_cons_mk (Below.trod a7O (by kernel_rfl) (of_decide_eq_true (by kernel_rfl)) k0 bel lt0) (trodAll_cons_mk (Below.trod a7O (by kernel_rfl) (of_decide_eq_true (by kernel_rfl)) k1 bel lt1) (trodAll_cons_mk (Below.trod a7O (by kernel_rfl) (of_decide_eq_true (by kernel_rfl)) k2 bel lt2) (trodAll_cons_mk (Below.trod a7O (by kernel_rfl) (of_decide_eq_true (by kernel_rfl)) k3 bel lt3) (trodAll_cons_mk (shut_string Tryz.underlying23 wx4) (trodAll_cons_mk (shut_int Tryz.underlying3 wx5) (trodAll_cons_mk (shut_int Tryz.underlying3 wx6) (trodAll_cons_mk (shut_int Tryz.underlying3 wx7) (trodAll_mk0))))))))), rfl, bel.frame _, fun h => by cases h⟩
theorem j0 : (Rows.momentAddsRow.wf (OpenSpec.ofChange Rows.momentAddsSpec)) = true := by kernel_rfl
theorem j1 : (laidOutB Tryz.prog) = true := by kernel_rfl
theorem j2 : (mapsRowed Tryz.prog) = true := by kernel_rfl
theorem j3 : (Tryz.f6.params.all (Tryz.prog.readableRec ·)) = true := by kernel_rfl
theorem j4 : (namedTie Tryz.prog Rows.momentAddsRow.named Rows.momentAddsSpec.vars) = true := by kernel_rfl
theorem j5 : ((Rows.momentAddsRow.stops == [])) = true := by kernel_rfl
theorem j6 : ((Tryz.prog.stops == [])) = true := by kernel_rfl
theorem j7 : ((Rows.momentAddsRow.knobs == [])) = true := by kernel_rfl
theorem j8 : ((Tryz.prog.stopKnobs == [])) = true := by kernel_rfl
theorem j9 : ((Rows.momentAddsRow.inPlace == Tryz.prog.inPlace 6)) = true := by kernel_rfl
theorem j10 : ((Rows.momentAddsRow.unfollowed == Tryz.prog.unfollowed 6)) = true := by kernel_rfl
theorem j11 : ((Rows.momentAddsRow.recurses == Tryz.prog.recurses 6)) = true := by kernel_rfl
theorem j12 : ((Rows.momentAddsRow.named == Tryz.prog.varsNamed 6)) = true := by kernel_rfl
theorem j13 : ((Rows.momentAddsRow.maps == (Tryz.f6.params.toList ++ Rows.momentAddsSpec.plain.varTypes Tryz.prog).any (Tryz.prog.mapsRec ·))) = true := by kernel_rfl
theorem j14 : ((Rows.momentAddsRow.ifaces == (Tryz.f6.params.toList ++ Rows.momentAddsSpec.plain.varTypes Tryz.prog).any (Tryz.prog.ifacesRec ·))) = true := by kernel_rfl
theorem j15 : ((Rows.momentAddsRow.mapsOut == Tryz.prog.mapsAmong Tryz.f6.resultTypes.toList)) = true := by kernel_rfl
theorem j16 : ((Rows.momentAddsRow.loops == (Tryz.f6.params.toList ++ Rows.momentAddsSpec.plain.varTypes Tryz.prog).any (Tryz.prog.loopsFrom ·))) = true := by kernel_rfl
theorem j17 : ((Rows.momentAddsRow.wideKeys == (Tryz.f6.params.toList ++ Rows.momentAddsSpec.plain.varTypes Tryz.prog ++ Tryz.f6.resultTypes.toList).any (Tryz.prog.wideKeysFrom ·))) = true := by kernel_rfl
theorem j18 : (Rows.momentAddsSpec.vars.all (Tryz.prog.varReadable ·)) = true := by kernel_rfl
theorem j19 : (Tryz.f6.resultTypes.all (fun t => Tryz.prog.readableRec t && decide (t < Tryz.prog.types.size))) = true := by kernel_rfl
theorem j20 : ((Rows.momentAddsRow.ifacesOut == Tryz.f6.resultTypes.toList.any (Tryz.prog.ifacesRec ·))) = true := by kernel_rfl
theorem j21 : ((Rows.momentAddsRow.loopsOut == Tryz.f6.resultTypes.toList.any (Tryz.prog.loopsFrom ·))) = true := by kernel_rfl
theorem j22 : ((Rows.momentAddsRow.plainKeys == Tryz.prog.plainKeys)) = true := by kernel_rfl
theorem j23 : (Rows.momentAddsRow.shortTexts.isNone) = true := by kernel_rfl
theorem j24 : (Tryz.prog.stopsHeard) = true := by kernel_rfl
theorem j25 : (Tryz.prog.mayEnter) = true := b4Q
theorem j26 : ((Rows.momentAddsRow.lifted == Tryz.prog.liftsFinal)) = true := by kernel_rfl
theorem j27 : ((Tryz.prog.make == some Rows.momentAddsRow.make)) = true := by kernel_rfl
theorem j28 : ((Rows.momentAddsRow.kinds == (if Rows.momentAddsRow.domain.isEmpty then [] else Tryz.f6.params.toList.map fun t => match Tryz.prog.underlying t with | some (.int k) => some k | _ => none))) = true := by kernel_rfl
theorem j29 : ((Rows.momentAddsRow.pinned == Rows.momentAddsRow.pinnedBy)) = true := by kernel_rfl
theorem j30 : ((Rows.momentAddsRow.veiled == (Tryz.f6.params.toList ++ Rows.momentAddsSpec.plain.varTypes Tryz.prog ++ Tryz.f6.resultTypes.toList).any (Tryz.prog.veiledRec ·))) = true := by kernel_rfl
theorem j31 : (Rows.momentAddsRow.veiledFits Tryz.prog Tryz.f6.params.toList (Tryz.f6.params.toList ++ Rows.momentAddsSpec.plain.varTypes Tryz.prog ++ Tryz.f6.resultTypes.toList)) = true := by kernel_rfl
theorem goes : false = Rows.momentAddsRow.goesBy Tryz.prog := by kernel_rfl
theorem byText : Rows.momentAddsRow.wfByText (OpenSpec.ofChange Rows.momentAddsSpec) = true := by kernel_rfl
theorem joined : joinedFacts Tryz.prog 6 Tryz.f6 Rows.momentAddsSpec Rows.momentAddsRow = true := by
  unfold joinedFacts
  simp only[j0, j1, j2, j3, j4, j5, j6, j7, j8, j9, j10, j11, j12, j13, j14, j15, j16, j17, j18, j19, j20, j21, j22, j23, j24, j25, j26, j27, j29, j30, j31, Bool.and_self]
  kernel_rfl
theorem named : Tryz.checked.prog.funcNamed Rows.momentAddsRow.func = some 6 := by kernel_rfl
theorem instf : (Tryz.f6).isInstance Tryz.prog Rows.momentAddsRow.origin Rows.momentAddsRow.targs := of_decide_eq_true (by kernel_rfl)
theorem wrapf : (Tryz.f6).isWrapper Tryz.prog Rows.momentAddsRow.wrapper Rows.momentAddsRow.mainSum := by unfold Func.isWrapper; first | (rw[if_pos (by decide +kernel)]; kernel_rfl) | (rw[if_neg (by decide +kernel)]; exact⟨rfl, rfl⟩)
theorem over : Rows.MomentAddsSaid :=
  OpenClaim.holds_of_wide 6 Tryz.f6 rfl rfl rfl rfl rfl rfl rfl ⟨rfl, rfl, rfl, rfl, rfl⟩ rfl rfl rfl rfl rfl named Tryz.func6 joined instf wrapf
    (fun os started H enc _ => lifted os started H enc)
theorem proved : Rows.MomentAddsCardSaid :=
  Claim7.holds_tied_plain_at .later [] [.data, .data, .data, .data, .sentinel, .sentinel, .pinned] true (true, "5395951699d0e7c088c16c506ed30de6925104505e2026abbc93d9abbfe2aced") true
    over (fun _ h => by cases h) byText (fun _ h => by cases h) momentAdds_row_tie rfl ⟨rfl, rfl⟩ b9N rfl
    (fun f fn hf hfn => by
      obtain rfl : f = 6 := Option.some.inj ((show Tryz.prog.funcNamed "privhouse/privhouselaw10.MomentAdds" = some 6 by kernel_rfl).symm.trans hf) |>.symm
      obtain rfl : fn = Tryz.f6 := (Option.some.inj (Tryz.func6.symm.trans hfn)).symm
      exact⟨looksF, fun j t ht => by
        rw[Tryz.params6]at ht
        have hm : t ∈ [22, 22, 22, 22, 23, 3, 3, 3] := by simpa using Array.mem_of_getElem? ht
        have hall : ([22, 22, 22, 22, 23, 3, 3, 3].all fun u => !Tryz.prog.wantsStandIn u) = true := by kernel_rfl
        exact(show Tryz.prog.wantsStandIn t = false by simpa using List.all_eq_true.1 hall t hm)⟩)
    goes
end Go.Proofs.YtigapglmipmbeaaGreatDoor.momentAdds
