/- TableChecks: the walk. -/
import Derived.Test.YtlocafmglficnaaGreatDoorTabRCBase
namespace Go.Proofs.YtlocafmglficnaaGreatDoor
open Go.RowKit Go.Maps Go.Sort Go.Shelf

attribute [local go_sem] Oper.semAt_some
set_option maxRecDepth 100000 in
set_option maxHeartbeats 16000000 in
theorem tableChecks_any (va : Value) (ts : List Tbl) (w : World) (ha : SRow tblK Any w va ts) (hr : Res w) :
    Calls Tryz.prog 4 #[va] w fun e w' => e = .returned (.bool true) ∧ Below w.heap.size w w' := by
  obtain ⟨A, ca, rfl, hl, hm⟩ := ha.slice
  unfold maxLen at hm
  have HV := Lib.hid ha
  have HR := Lib.hid hr
  clear ha hr
  refine (callsIn_wide (n := 6)).1 ?_
  have h1 : 1 ≤ 6 := by omega
  refine callsIn_of_wp Tryz.func4 rfl trivial ?_ rfl
  simp only [Tryz.ntmps4, List.size_toArray, List.length_cons, List.length_nil, Nat.reduceAdd, Nat.reduceSub, Array.replicate_succ, Array.replicate_zero, List.push_toArray, List.append_toArray, List.nil_append, List.cons_append]
  gi_wp2
  refine ⟨trivial, ?_⟩
  gi_at_call 5
  refine (callsIn_wide.2 (vast_any Any _ ts _ HV.out)).mono ?_
  rintro e w1 ⟨⟨b1, rfl, hb1⟩, hbl⟩
  have HT1 := Lib.hid hb1
  have HB1 := Lib.hid hbl
  clear hb1 hbl
  have TK1 : True := trivial
  cases b1 with
  | true =>
    gi_wp2_with (clear TK1; refine ⟨trivial, ?_⟩; gi_at_call 6; refine (callsIn_wide.2 (awake_any _ (HR.out.later HB1.out))).mono ?_; rintro e w2 ⟨rfl, hb2⟩; have HB2 := Lib.hid (HB1.out.trans (hb2.mono HB1.out.size)); clear hb2)
    refine bodyPost_ret (results_tmp rfl _ _ _) rfl ?_
    exact ⟨rfl, HB2.out⟩
  | false =>
    have HTT := Lib.hid (HT1.out rfl)
    have HSM := Lib.hid (show ∀ T ∈ ts, Small T from fun T hT => (HTT.out.2 T hT).small)
    have htn : ts.length ≤ 20 := HTT.out.1
    have TK2 : True := trivial
    have TK3 : True := trivial
    have TK4 : True := trivial
    have TK5 : True := trivial
    have TK6 : True := trivial
    gi_wp2_with (clear TK1; refine ⟨trivial, ?_⟩; gi_at_call 15; refine (callsIn_wide.2 (rcopyOf_any Any _ ts _ (HV.out.below HB1.out) HSM.out (by omega))).mono ?_; rintro e w2 ⟨v2, rfl, ho, hb⟩; obtain ⟨A2, c2, rfl, _, _⟩ := ho.slice; have HW2 := Lib.hid ho.any; have HB2 := Lib.hid (HB1.out.trans (hb.mono HB1.out.size)); clear ho hb)
    obtain ⟨be, hbe⟩ : ∃ be, baseErr ts = be := ⟨_, rfl⟩
    obtain ⟨b1', b2', b3'⟩ := be
    have HBE0 := Lib.hid hbe
    clear hbe
    gi_wp2_with (clear TK2; refine ⟨trivial, ?_⟩; gi_at_call 16; go_loud (refine (callsIn_wide.2 (checkBase_any Any _ ts _ (HV.out.below HB2.out) HSM.out (by omega) (HR.out.later HB2.out))).mono ?_; rintro e w3 ⟨rfl, hb⟩; rw [HBE0.out]; have HX3 := Lib.hid hb; have HB3 := Lib.hid (HB2.out.trans (hb.mono HB2.out.size)); clear hb))
    gi_wp2_with (clear TK3; refine ⟨trivial, ?_⟩; gi_at_call 17; go_loud (refine (callsIn_wide.2 (rcheckBase_any Any _ ts _ (HW2.out.below HX3.out) HSM.out (by omega))).mono ?_; rintro e w4 ⟨rfl, hb⟩; rw [HBE0.out]; have HX4 := Lib.hid (HX3.out.trans (hb.mono HX3.out.size)); have HB4 := Lib.hid (HB3.out.trans (hb.mono HB3.out.size)); clear hb))
    gi_wp2_with (clear TK4; refine ⟨trivial, ?_⟩; gi_at_call 18; go_loud (refine (callsIn_wide.2 (rsameOf_any Any Any _ _ ts ts _ (HV.out.below HB4.out) (HW2.out.below HX4.out))).mono ?_; rintro e w5 ⟨rfl, hb⟩; rw [eqB_true rfl]; have HX5 := Lib.hid (HX4.out.trans (hb.mono HX4.out.size)); have HB5 := Lib.hid (HB4.out.trans (hb.mono HB4.out.size)); clear hb))
    gi_wp2_with (clear TK5; refine ⟨trivial, ?_⟩; gi_at_call 19; go_loud (refine (callsIn_wide.2 (schemasT_any Any _ ts _ (HV.out.below HB5.out) HSM.out (by omega))).mono ?_; rintro e w6 ⟨v6, rfl, ho, hb⟩; obtain ⟨As, cs, e6, _, _⟩ := ho.slice; rw [List.length_map] at e6; subst e6; have HS6 := Lib.hid ho.any; have HX6 := Lib.hid (HX5.out.trans (hb.mono HX5.out.size)); have HB6 := Lib.hid (HB5.out.trans (hb.mono HB5.out.size)); clear ho hb))
    gi_wp2_with (clear TK6; refine ⟨trivial, ?_⟩; gi_at_call 20; go_loud (refine (callsIn_wide.2 (rschemas_any Any _ ts _ (HW2.out.below HX6.out) HSM.out (by omega))).mono ?_; rintro e w7 ⟨v7, rfl, ho, hb⟩; obtain ⟨At, ct, e7, _, _⟩ := ho.slice; rw [List.length_map] at e7; subst e7; have HS7 := Lib.hid ho.any; have HP7 := Lib.hid (HS6.out.below hb); have HW7 := Lib.hid (HW2.out.below (HX6.out.trans (hb.mono HX6.out.size))); have HB7 := Lib.hid (HB6.out.trans (hb.mono HB6.out.size)); clear ho hb))
    have HV7 := Lib.hid (HV.out.below HB7.out)
    have HR7 := Lib.hid (HR.out.later HB7.out)
    clear HX3 HX4 HX5 HX6 HB1 HB2 HB3 HB4 HB5 HB6 HS6 HW2
    gi_loopw [12] (fun i wr => ∃ k : Nat, k ≤ ts.length ∧ i = .int .i64 k ∧ Below w7.heap.size w7 wr) (fun i _ => ts.length - (intOf i).toNat)
    case atStart => exact ⟨0, Nat.zero_le _, rfl, Below.refl _ _⟩
    case round =>
      obtain ⟨k, hk, rfl, hB⟩ := hrel
      have HBR := Lib.hid hB
      have hk0 : (0 : Int) ≤ (k : Int) := by omega
      have HRR := Lib.hid (HR7.out.later hB)
      by_cases hlt : k < ts.length
      · have hk1 : (k : Int) < (ts.length : Int) := by omega
        have HLT := Lib.hid hlt
        obtain ⟨b, of, ca', nm, pb, mn, ⟨A4, l4, e4⟩, ⟨A5, l5, e5⟩, e1, hbl, p0, p1, p2, p3, p4, hval⟩ := tbl_at2 (HV7.out.below hB) hlt
        simp only [Value.slice.injEq, true_and] at e1
        obtain ⟨rfl, rfl⟩ := e1
        obtain ⟨b2, of2, ca2, nm2, pb2, mn2, ⟨A6, l6, e6⟩, ⟨A7, l7, e7⟩, e2, hbl2, q0, q1, q2, q3, q4, hval2⟩ := tbl_at2 (HW7.out.below hB) hlt
        simp only [Value.slice.injEq, true_and] at e2
        obtain ⟨rfl, rfl⟩ := e2
        dsimp only at p3 p4 hval q3 q4 hval2
        have hlm : k < (ts.map fun T => T.sch).length := by rw [List.length_map]; exact hlt
        have hgm : (ts.map fun T => T.sch)[k] = ts[k].sch := List.getElem_map _
        have HP8 := Lib.hid (HP7.out.below hB)
        have HS8 := Lib.hid (HS7.out.below hB)
        obtain ⟨b3, o3, nm3, pb3, mn3, ⟨A8, l8, e8⟩, eA3, hbl3, _, _, u0, u1, u2, u3, hsv, -⟩ := sch_at (show SRow schK Any wr (.slice As (ts.map fun T => T.sch).length cs) (ts.map fun T => T.sch) by rw [List.length_map]; exact HP8.out) hlm
        obtain ⟨b4, o4, nm4, pb4, mn4, ⟨A9, l9, e9⟩, eA4, hbl4, _, _, u4, u5, u6, u7, hsv2, -⟩ := sch_at (show SRow schK Any wr (.slice At (ts.map fun T => T.sch).length ct) (ts.map fun T => T.sch) by rw [List.length_map]; exact HS8.out) hlm
        subst eA3 eA4
        dsimp only at u3 hsv u7 hsv2
        rw [hgm] at hsv hsv2
        have HSA := Lib.hid hsv
        have HSB2 := Lib.hid hsv2
        have HX := Lib.hid hval
        have HY := Lib.hid hval2
        have HSK := Lib.hid (HSM.out ts[k] (List.getElem_mem hlt))
        have HCL := Lib.hid (show ∀ (W : World), Below wr.heap.size wr W → ∀ bb oo (u : Value), bb < wr.heap.size → wr.cell? ⟨bb, oo, none⟩ = some u → W.cell? ⟨bb, oo, none⟩ = some u from fun W hW bb oo u hbb hu => (World.cell?_of_block (hW.block bb hbb)).trans hu)
        have HQ := Lib.hid (And.intro q0 (And.intro q1 (And.intro q2 (And.intro q3 q4))))
        have s0 : ∀ X : SameAt wr (fun k => k < wr.heap.size), X.W.cell? ⟨b3, o3 + k * 4, none⟩ = _ := fun X => X.cell hbl3 u0
        have s1 : ∀ X : SameAt wr (fun k => k < wr.heap.size), X.W.cell? ⟨b3, o3 + k * 4 + 1, none⟩ = _ := fun X => X.cell hbl3 u1
        have s2 : ∀ X : SameAt wr (fun k => k < wr.heap.size), X.W.cell? ⟨b3, o3 + k * 4 + 2, none⟩ = _ := fun X => X.cell hbl3 u2
        have s3 : ∀ X : SameAt wr (fun k => k < wr.heap.size), X.W.cell? ⟨b3, o3 + k * 4 + 3, none⟩ = _ := fun X => X.cell hbl3 u3
        have t0 : ∀ X : SameAt wr (fun k => k < wr.heap.size), X.W.cell? ⟨b4, o4 + k * 4, none⟩ = _ := fun X => X.cell hbl4 u4
        have t1 : ∀ X : SameAt wr (fun k => k < wr.heap.size), X.W.cell? ⟨b4, o4 + k * 4 + 1, none⟩ = _ := fun X => X.cell hbl4 u5
        have t2 : ∀ X : SameAt wr (fun k => k < wr.heap.size), X.W.cell? ⟨b4, o4 + k * 4 + 2, none⟩ = _ := fun X => X.cell hbl4 u6
        have t3 : ∀ X : SameAt wr (fun k => k < wr.heap.size), X.W.cell? ⟨b4, o4 + k * 4 + 3, none⟩ = _ := fun X => X.cell hbl4 u7
        have hmx : Tryz.prog.follows .mixedOrders = true := by kernel_rfl
        clear hval hval2 hsv hsv2 u0 u1 u2 u3 u4 u5 u6 u7 q0 q1 q2 q3 q4 hB
        obtain ⟨te, hte⟩ : ∃ te, tblErr ts[k] = te := ⟨_, rfl⟩
        obtain ⟨te1, te2⟩ := te
        have HTE := Lib.hid hte
        clear hte
        generalize hTk : ts[k] = T at *
        clear hTk hlt
        generalize hSk : T.sch = S at HSA HSB2
        clear hSk
        have TKA : True := trivial
        gi_wp2_with (clear TKA; refine ⟨trivial, ?_⟩; gi_at_call 21; go_loud (refine (callsIn_wide.2 (tcheck_any Any _ T _ HX.out HRR.out)).mono ?_; rintro e w9 ⟨rfl, hb⟩; rw [HTE.out]; have HB9 := Lib.hid hb; obtain ⟨q0, q1, q2, q3, q4⟩ := HQ.out; have z0 := HCL.out _ hb _ _ _ hbl2 q0; have z1 := HCL.out _ hb _ _ _ hbl2 q1; have z2 := HCL.out _ hb _ _ _ hbl2 q2; have z3 := HCL.out _ hb _ _ _ hbl2 q3; have z4 := HCL.out _ hb _ _ _ hbl2 q4; have hbl9 : b2 < w9.heap.size := (Nat.lt_of_lt_of_le hbl2 hb.size); clear q0 q1 q2 q3 q4 hb))
        have TKB : True := trivial
        gi_wp2_with (clear TKB; refine ⟨trivial, ?_⟩; gi_at_call 22; go_loud (refine (callsIn_wide.2 (rtcheck_any Any _ T _ (HY.out.below HB9.out) HSK.out.2.2.1)).mono ?_; rintro e w10 ⟨rfl, hb⟩; rw [HTE.out]; have HB10 := Lib.hid (HB9.out.trans (hb.mono HB9.out.size)); clear hb))
        clear z0 z1 z2 z3 z4 hbl9 p0 p1 p2 p3 p4
        have HBE := Lib.hid (show Below wr.heap.size wr w10.drew from HB10.out.trans ⟨rfl, rfl, rfl, Nat.le_refl _, fun _ _ => rfl⟩)
        refine wpIn_stage (IsSame wr (fun k => k < wr.heap.size)) [0, 1, 2, 3, 4, 5, 6, 7, 8, 9, 11, 13, 14, 15, 16, 17, 18, 19, 20, 21, 22, 23, 25, 26] [] hmx (by kernel_rfl) (isSame_of fun k hk => HB10.out.block k hk) ?_
        change wpStage _ _ _ _ _ _ _ _ (16 + 11) _ _ _
        refine stage_reads [0, 1, 2, 3, 4, 5, 6, 7, 8, 9, 11] 16 _ _ (by kernel_rfl) ?_
        change wpQuietIn _ _ _ _ (fun W => ∃ x : SameAt wr (fun k => k < wr.heap.size), W = x.W) _ _ _
        simp only [pick_cons, pick_nil, List.getElem?_cons_zero, List.getElem?_cons_succ, Option.elim_some]
        repeat (gi_big_quiet_step (fail))
        refine wpQuietIn_nil ?_
        refine stage_two 10 12 (by kernel_rfl) rfl rfl ?_ ?_
        · gi_wp2
          refine stage_post (isSame_of fun k hk => HBE.out.block k hk) ?_
          refine stage_one 12 (by kernel_rfl) rfl ?_
          gi_wp2
          refine stage_post (isSame_of fun k hk => HBE.out.block k hk) ?_
          change wpStage _ _ _ _ _ _ _ _ (3 + 11) _ _ _
          refine stage_reads [13, 14, 15, 16, 17, 18, 19, 20, 21, 22, 23] 3 _ _ (by kernel_rfl) ?_
          change wpQuietIn _ _ _ _ (fun W => ∃ x : SameAt wr (fun k => k < wr.heap.size), W = x.W) _ _ _
          simp only [pick_cons, pick_nil, List.getElem?_cons_zero, List.getElem?_cons_succ, Option.elim_some]
          repeat (gi_big_quiet_step (fail))
          refine wpQuietIn_nil ?_
          refine stage_one 24 (by kernel_rfl) rfl ?_
          gi_wp2
          refine ⟨trivial, ?_⟩
          refine (callsIn_wide.2 (rsameSch_any Any Any _ _ S S _ (HSA.out.below HBE.out) (HSB2.out.below HBE.out))).mono ?_
          rintro e w12 ⟨rfl, hb⟩
          rw [eqB_true rfl]
          have HBF := Lib.hid (HBE.out.trans (hb.mono HBE.out.size))
          clear hb
          gi_wp2
          refine stage_post (isSame_below HBF.out (fun _ h => h)) ?_
          change wpStage _ _ _ _ _ _ _ _ (0 + 2) _ _ _
          refine stage_reads [25, 26] 0 _ _ (by kernel_rfl) ?_
          change wpQuietIn _ _ _ _ (fun W => ∃ x : SameAt wr (fun k => k < wr.heap.size), W = x.W) _ _ _
          simp only [pick_cons, pick_nil, List.getElem?_cons_zero, List.getElem?_cons_succ, Option.elim_some]
          repeat (gi_big_quiet_step (fail))
          refine wpQuietIn_nil ?_
          refine stage_done (by kernel_rfl) ?_
          clear s0 s1 s2 s3 t0 t1 t2 t3
          gi_wp2
          go_roundw
          case rel => exact ⟨k + 1, HLT.out, by go_num, HBR.out.trans (HBF.out.mono HBR.out.size)⟩
          case measure => have := HLT.out; simp [intOf]; omega
        · gi_wp2
          refine stage_post (isSame_of fun k hk => HBE.out.block k hk) ?_
          refine stage_one 10 (by kernel_rfl) rfl ?_
          gi_wp2
          refine stage_post (isSame_of fun k hk => HBE.out.block k hk) ?_
          change wpStage _ _ _ _ _ _ _ _ (3 + 11) _ _ _
          refine stage_reads [13, 14, 15, 16, 17, 18, 19, 20, 21, 22, 23] 3 _ _ (by kernel_rfl) ?_
          change wpQuietIn _ _ _ _ (fun W => ∃ x : SameAt wr (fun k => k < wr.heap.size), W = x.W) _ _ _
          simp only [pick_cons, pick_nil, List.getElem?_cons_zero, List.getElem?_cons_succ, Option.elim_some]
          repeat (gi_big_quiet_step (fail))
          refine wpQuietIn_nil ?_
          refine stage_one 24 (by kernel_rfl) rfl ?_
          gi_wp2
          refine ⟨trivial, ?_⟩
          refine (callsIn_wide.2 (rsameSch_any Any Any _ _ S S _ (HSA.out.below HBE.out) (HSB2.out.below HBE.out))).mono ?_
          rintro e w12 ⟨rfl, hb⟩
          rw [eqB_true rfl]
          have HBF := Lib.hid (HBE.out.trans (hb.mono HBE.out.size))
          clear hb
          gi_wp2
          refine stage_post (isSame_below HBF.out (fun _ h => h)) ?_
          change wpStage _ _ _ _ _ _ _ _ (0 + 2) _ _ _
          refine stage_reads [25, 26] 0 _ _ (by kernel_rfl) ?_
          change wpQuietIn _ _ _ _ (fun W => ∃ x : SameAt wr (fun k => k < wr.heap.size), W = x.W) _ _ _
          simp only [pick_cons, pick_nil, List.getElem?_cons_zero, List.getElem?_cons_succ, Option.elim_some]
          repeat (gi_big_quiet_step (fail))
          refine wpQuietIn_nil ?_
          refine stage_done (by kernel_rfl) ?_
          clear s0 s1 s2 s3 t0 t1 t2 t3
          gi_wp2
          go_roundw
          case rel => exact ⟨k + 1, HLT.out, by go_num, HBR.out.trans (HBF.out.mono HBR.out.size)⟩
          case measure => have := HLT.out; simp [intOf]; omega
      · have hk1 : ¬ (k : Int) < (ts.length : Int) := by omega
        clear hB
        have heqb : ((ts.length : Int) == (ts.length : Int)) = true := beq_iff_eq.2 rfl
        have TKZ : True := trivial
        gi_wp2_with (clear TKZ; refine ⟨trivial, ?_⟩; gi_at_call 6; refine (callsIn_wide.2 (awake_any _ HRR.out)).mono ?_; rintro e w13 ⟨rfl, hb⟩; have HBZ := Lib.hid (HB7.out.trans ((HBR.out.trans (hb.mono HBR.out.size)).mono HB7.out.size)); clear hb)
        refine bodyPost_ret (results_tmp rfl _ _ _) rfl ?_
        exact ⟨rfl, HBZ.out⟩
end Go.Proofs.YtlocafmglficnaaGreatDoor
