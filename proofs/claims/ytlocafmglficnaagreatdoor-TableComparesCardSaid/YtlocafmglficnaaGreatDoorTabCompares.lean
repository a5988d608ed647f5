/- TableCompares: the walk. -/
import Derived.Test.YtlocafmglficnaaGreatDoorTabRCmpW
import Derived.Test.YtlocafmglficnaaGreatDoorTabRCols
namespace Go.Proofs.YtlocafmglficnaaGreatDoor
open Go.RowKit Go.Maps Go.Sort Go.Shelf

attribute [local go_sem] Oper.semAt_some
set_option maxRecDepth 100000 in
set_option maxHeartbeats 16000000 in
theorem tableCompares_any (va vb vc : Value) (ts us : List Tbl) (c : Col) (x : Int) (w : World) (ha : SRow tblK Any w va ts) (hb : SRow tblK Any w vb us) (hc : ColVal Any w vc c) (hx : Fit x) (hr : Res w) :
    Calls Tryz.prog 3 #[va, vb, vc, .int .i64 x] w fun e w' => e = .returned (.bool true) ∧ Below w.heap.size w w' := by
  obtain ⟨A, ca, rfl, hl, hm⟩ := ha.slice
  obtain ⟨B, cb, rfl, hl', hm'⟩ := hb.slice
  have HCV := Lib.hid hc
  obtain ⟨u, rfl, hw, hs⟩ := hc
  obtain ⟨Aw, cw, rfl, hwl, hwm⟩ := hw.slice
  unfold maxLen at hm hm' hwm
  have HB0 := Lib.hid (below_alloc w (.cells #[.string c.name, .int .i64 c.lo, .int .i64 c.hi, .slice Aw c.words.length cw] 25))
  have HC4 := Lib.hid (box4 w (.string c.name) (.int .i64 c.lo) (.int .i64 c.hi) (.slice Aw c.words.length cw) 25)
  have HTA := Lib.hid (ha.below HB0.out)
  have HUB := Lib.hid (hb.below HB0.out)
  have HC0 := Lib.hid (HCV.out.below HB0.out)
  have HR := Lib.hid (hr.later HB0.out)
  clear ha hb hw hs hr
  refine (callsIn_wide (n := 6)).1 ?_
  have h1 : 1 ≤ 6 := by omega
  refine callsIn_of_wp Tryz.func3 rfl trivial ?_ rfl
  simp only [Tryz.ntmps3, List.size_toArray, List.length_cons, List.length_nil, Nat.reduceAdd, Nat.reduceSub, Array.replicate_succ, Array.replicate_zero, List.push_toArray, List.append_toArray, List.nil_append, List.cons_append]
  have TK1 : True := trivial
  have TK2 : True := trivial
  have TK3 : True := trivial
  gi_wp2
  refine ⟨trivial, ?_⟩
  gi_at_call 5
  refine (callsIn_wide.2 (vast_any Any _ ts _ HTA.out)).mono ?_
  rintro e w1 ⟨⟨b1, rfl, hb1⟩, hbl⟩
  have HT1 := Lib.hid hb1
  have HB1 := Lib.hid hbl
  clear hb1 hbl
  cases b1 with
  | true =>
    gi_wp2
    refine ⟨trivial, ?_⟩
    gi_wp2_with (clear TK2; refine ⟨trivial, ?_⟩; gi_at_call 6; refine (callsIn_wide.2 (awake_any _ (HR.out.later HB1.out))).mono ?_; rintro e w2 ⟨rfl, hb2⟩; have HB2 := Lib.hid (HB1.out.trans (hb2.mono HB1.out.size)); clear hb2)
    refine bodyPost_ret (results_tmp rfl _ _ _) rfl ?_
    exact ⟨rfl, HB0.out.trans (HB2.out.mono HB0.out.size)⟩
  | false =>
    have HTT := Lib.hid (HT1.out rfl)
    gi_wp2
    refine ⟨trivial, ?_⟩
    gi_at_call 5
    refine (callsIn_wide.2 (vast_any Any _ us _ (HUB.out.below HB1.out))).mono ?_
    rintro e w2 ⟨⟨b2, rfl, hb1⟩, hbl⟩
    have HT2 := Lib.hid hb1
    have HB2 := Lib.hid (HB1.out.trans (hbl.mono HB1.out.size))
    obtain ⟨g0, g1, g2, g3⟩ := HC4.out
    have d0 := cell_later HB2.out g0
    have d1 := cell_later HB2.out g1
    have d2 := cell_later HB2.out g2
    have d3 := cell_later HB2.out g3
    have hbx := cell_lt d0
    clear hb1 hbl g0 g1 g2 g3
    cases b2 with
    | true =>
      gi_wp2_with (clear TK3; refine ⟨trivial, ?_⟩; gi_at_call 6; refine (callsIn_wide.2 (awake_any _ (HR.out.later HB2.out))).mono ?_; rintro e w3 ⟨rfl, hb2⟩; have HB3 := Lib.hid (HB2.out.trans (hb2.mono HB2.out.size)); clear hb2)
      refine bodyPost_ret (results_tmp rfl _ _ _) rfl ?_
      exact ⟨rfl, HB0.out.trans (HB3.out.mono HB0.out.size)⟩
    | false =>
      have HTU := Lib.hid (HT2.out rfl)
      by_cases hwb : 100 < c.words.length
      · have hwb' : (100 : Int) < (c.words.length : Int) := by omega
        gi_wp2_with (clear TK3; refine ⟨trivial, ?_⟩; gi_at_call 6; refine (callsIn_wide.2 (awake_any _ (HR.out.later HB2.out))).mono ?_; rintro e w3 ⟨rfl, hb2⟩; have HB3 := Lib.hid (HB2.out.trans (hb2.mono HB2.out.size)); clear hb2)
        refine bodyPost_ret (results_tmp rfl _ _ _) rfl ?_
        exact ⟨rfl, HB0.out.trans (HB3.out.mono HB0.out.size)⟩
      · have hwb' : ¬ (100 : Int) < (c.words.length : Int) := by omega
        have HST := Lib.hid (show SmallB ts from ⟨by have := HTT.out.1; omega, fun T hT => ⟨(HTT.out.2 T hT).small, by have := (HTT.out.2 T hT).1; omega⟩⟩)
        have HSU := Lib.hid (show SmallB us from ⟨by have := HTU.out.1; omega, fun T hT => ⟨(HTU.out.2 T hT).small, by have := (HTU.out.2 T hT).1; omega⟩⟩)
        have htn : ts.length ≤ 20 := HTT.out.1
        have hun : us.length ≤ 20 := HTU.out.1
        have HNB := Lib.hid (nbrB_eq ts us)
        obtain ⟨dd, hdd⟩ : ∃ dd, differB ts us = dd := ⟨_, rfl⟩
        obtain ⟨d1', d2'⟩ := dd
        rw [hdd] at HNB
        have HDD := Lib.hid hdd
        clear hdd hwb
        gi_wp2_with (clear TK3; refine ⟨trivial, ?_⟩; gi_at_call 7; go_loud (refine (callsIn_wide.2 (neighboursOf_any Any Any _ _ ts us _ (HTA.out.below HB2.out) (HUB.out.below HB2.out) HST.out HSU.out)).mono ?_; rintro e w3 ⟨rfl, hb⟩; rw [HDD.out]; have HB3 := Lib.hid (HB2.out.trans (hb.mono HB2.out.size)); clear hb))
        have TK4 : True := trivial
        gi_wp2_with (clear TK4; refine ⟨trivial, ?_⟩; gi_at_call 8; go_loud (refine (callsIn_wide.2 (rneighboursOf_any Any Any _ _ ts us _ (HTA.out.below HB3.out) (HUB.out.below HB3.out) HST.out HSU.out (by omega) (by omega))).mono ?_; rintro e w4 ⟨rfl, hb⟩; rw [HNB.out]; have HB4 := Lib.hid (HB3.out.trans (hb.mono HB3.out.size)); clear hb))
        clear d0 d1 d2 d3 hbx
        obtain ⟨g0, g1, g2, g3⟩ := HC4.out
        have d0 := cell_later HB4.out g0
        have d1 := cell_later HB4.out g1
        have d2 := cell_later HB4.out g2
        have d3 := cell_later HB4.out g3
        have hbx := cell_lt d0
        have x0 : ∀ X : SameAt w4 (fun k => k < w4.heap.size), X.W.cell? ⟨w.heap.size, 0, none⟩ = _ := fun X => X.cell hbx d0
        have x1 : ∀ X : SameAt w4 (fun k => k < w4.heap.size), X.W.cell? ⟨w.heap.size, 1, none⟩ = _ := fun X => X.cell hbx d1
        have x2 : ∀ X : SameAt w4 (fun k => k < w4.heap.size), X.W.cell? ⟨w.heap.size, 2, none⟩ = _ := fun X => X.cell hbx d2
        have x3 : ∀ X : SameAt w4 (fun k => k < w4.heap.size), X.W.cell? ⟨w.heap.size, 3, none⟩ = _ := fun X => X.cell hbx d3
        have hmx : Tryz.prog.follows .mixedOrders = true := by kernel_rfl
        have HDR := Lib.hid (show Below w4.heap.size w4 w4.drew from ⟨rfl, rfl, rfl, Nat.le_refl _, fun _ _ => rfl⟩)
        have HC5 := Lib.hid (HC0.out.below HB4.out)
        clear g0 g1 g2 g3 d0 d1 d2 d3
        refine wpIn_stage (IsSame w4 (fun k => k < w4.heap.size)) [0, 1, 2, 3, 4, 5, 6, 7, 8, 9, 10, 12, 13, 15, 16] [] hmx (by kernel_rfl) (isSame_of fun _ _ => rfl) ?_
        change wpStage _ _ _ _ _ _ _ _ (4 + 13) _ _ _
        refine stage_reads [0, 1, 2, 3, 4, 5, 6, 7, 8, 9, 10, 12, 13] 4 _ _ (by kernel_rfl) ?_
        change wpQuietIn _ _ _ _ (fun W => ∃ x : SameAt w4 (fun k => k < w4.heap.size), W = x.W) _ _ _
        simp only [pick_cons, pick_nil, List.getElem?_cons_zero, List.getElem?_cons_succ, Option.elim_some]
        repeat (gi_big_quiet_step (fail))
        refine wpQuietIn_nil ?_
        refine stage_one 11 (by kernel_rfl) rfl ?_
        gi_wp2_with (refine ⟨trivial, ?_⟩; gi_at_call 9; go_loud (refine (callsIn_wide.2 (clamp_any _ c x _ (HC5.out.below HDR.out) (HR.out.later (HB4.out.trans (HDR.out.mono HB4.out.size))))).mono ?_; rintro e w5 ⟨rfl, hb⟩; have HB5 := Lib.hid (HDR.out.trans (hb.mono HDR.out.size)); clear hb))
        refine stage_post (isSame_below HB5.out (fun _ h => h)) ?_
        refine stage_one 14 (by kernel_rfl) rfl ?_
        gi_wp2_with (refine ⟨trivial, ?_⟩; gi_at_call 10; go_loud (refine (callsIn_wide.2 (rclamp_any Any _ c x _ (HC5.out.below HB5.out))).mono ?_; rintro e w6 ⟨rfl, hb⟩; have HB6 := Lib.hid (HB5.out.trans (hb.mono HB5.out.size)); clear hb))
        refine stage_post (isSame_below HB6.out (fun _ h => h)) ?_
        change wpStage _ _ _ _ _ _ _ _ (0 + 2) _ _ _
        refine stage_reads [15, 16] 0 _ _ (by kernel_rfl) ?_
        change wpQuietIn _ _ _ _ (fun W => ∃ x : SameAt w4 (fun k => k < w4.heap.size), W = x.W) _ _ _
        simp only [pick_cons, pick_nil, List.getElem?_cons_zero, List.getElem?_cons_succ, Option.elim_some]
        repeat (gi_big_quiet_step (fail))
        refine wpQuietIn_nil ?_
        refine stage_done (by kernel_rfl) ?_
        clear x0 x1 x2 x3
        have HB7 := Lib.hid (HB4.out.trans (HB6.out.mono HB4.out.size))
        have HT7 := Lib.hid (HTA.out.below HB7.out)
        have HU7 := Lib.hid (HUB.out.below HB7.out)
        have HR7 := Lib.hid (HR.out.later HB7.out)
        clear HB6 HB5 HB4 HB3 HB2 HB1 HC5 HDR HTA HUB hbx
        gi_wp2
        gi_loopw [13] (fun i wr => ∃ k : Nat, k ≤ ts.length ∧ i = .int .i64 k ∧ Below w6.heap.size w6 wr) (fun i _ => ts.length - (intOf i).toNat)
        case atStart => exact ⟨0, Nat.zero_le _, rfl, Below.refl _ _⟩
        case round =>
          obtain ⟨k, hk, rfl, hB⟩ := hrel
          have HBR := Lib.hid hB
          have hk0 : (0 : Int) ≤ (k : Int) := by omega
          have HWE := Lib.hid (show Below w.heap.size w wr from HB0.out.trans ((HB7.out.trans (hB.mono HB7.out.size)).mono HB0.out.size))
          have HRE := Lib.hid (HR7.out.later hB)
          by_cases hlt : k < ts.length
          · have hk1 : (k : Int) < (ts.length : Int) := by omega
            by_cases hlu : k < us.length
            · have hk2 : (k : Int) < (us.length : Int) := by omega
              obtain ⟨b, of, ca', nm, pb, mn, ⟨A4, l4, e4⟩, ⟨A5, l5, e5⟩, e1, hbl, p0, p1, p2, p3, p4, hval⟩ := tbl_at2 (HT7.out.below hB) hlt
              simp only [Value.slice.injEq, true_and] at e1
              obtain ⟨rfl, rfl⟩ := e1
              obtain ⟨b2, of2, ca2, nm2, pb2, mn2, ⟨A6, l6, e6⟩, ⟨A7, l7, e7⟩, e2, hbl2, q0, q1, q2, q3, q4, hval2⟩ := tbl_at2 (HU7.out.below hB) hlu
              simp only [Value.slice.injEq, true_and] at e2
              obtain ⟨rfl, rfl⟩ := e2
              dsimp only at p3 p4 hval q3 q4 hval2
              have HX := Lib.hid hval
              have HY := Lib.hid hval2
              have HS1 := Lib.hid (HST.out.2 ts[k] (List.getElem_mem hlt))
              have HS2 := Lib.hid (HSU.out.2 us[k] (List.getElem_mem hlu))
              have HLT := Lib.hid hlt
              have x0 : ∀ X : SameAt wr (fun k => k < wr.heap.size), X.W.cell? ⟨b, of + k * 5, none⟩ = _ := fun X => X.cell hbl p0
              have x1 : ∀ X : SameAt wr (fun k => k < wr.heap.size), X.W.cell? ⟨b, of + k * 5 + 1, none⟩ = _ := fun X => X.cell hbl p1
              have x2 : ∀ X : SameAt wr (fun k => k < wr.heap.size), X.W.cell? ⟨b, of + k * 5 + 2, none⟩ = _ := fun X => X.cell hbl p2
              have x3 : ∀ X : SameAt wr (fun k => k < wr.heap.size), X.W.cell? ⟨b, of + k * 5 + 3, none⟩ = _ := fun X => X.cell hbl p3
              have x4 : ∀ X : SameAt wr (fun k => k < wr.heap.size), X.W.cell? ⟨b, of + k * 5 + 4, none⟩ = _ := fun X => X.cell hbl p4
              have y0 : ∀ X : SameAt wr (fun k => k < wr.heap.size), X.W.cell? ⟨b2, of2 + k * 5, none⟩ = _ := fun X => X.cell hbl2 q0
              have y1 : ∀ X : SameAt wr (fun k => k < wr.heap.size), X.W.cell? ⟨b2, of2 + k * 5 + 1, none⟩ = _ := fun X => X.cell hbl2 q1
              have y2 : ∀ X : SameAt wr (fun k => k < wr.heap.size), X.W.cell? ⟨b2, of2 + k * 5 + 2, none⟩ = _ := fun X => X.cell hbl2 q2
              have y3 : ∀ X : SameAt wr (fun k => k < wr.heap.size), X.W.cell? ⟨b2, of2 + k * 5 + 3, none⟩ = _ := fun X => X.cell hbl2 q3
              have y4 : ∀ X : SameAt wr (fun k => k < wr.heap.size), X.W.cell? ⟨b2, of2 + k * 5 + 4, none⟩ = _ := fun X => X.cell hbl2 q4
              have HDR := Lib.hid (show Below wr.heap.size wr wr.drew from ⟨rfl, rfl, rfl, Nat.le_refl _, fun _ _ => rfl⟩)
              have HNT := Lib.hid (show nbrB [ts[k]] [us[k]] = differT ts[k] us[k] by rw [nbrB_eq, differT_B])
              clear hval hval2 p0 p1 p2 p3 p4 q0 q1 q2 q3 q4 hB
              generalize ts[k] = T at *
              generalize us[k] = U at *
              clear hlt hlu
              obtain ⟨dt, hdt⟩ : ∃ dt, differT T U = dt := ⟨_, rfl⟩
              obtain ⟨t1, t2⟩ := dt
              rw [hdt] at HNT
              have HDT := Lib.hid hdt
              clear hdt
              obtain ⟨eq, heq⟩ : ∃ eq, eqB T U = eq := ⟨_, rfl⟩
              have HEQ := Lib.hid heq
              clear heq
              gi_wp2
              refine wpIn_stage (IsSame wr (fun k => k < wr.heap.size)) [0, 1, 2, 3, 4, 5, 6, 7, 9, 10, 11, 12, 13] [] hmx (by kernel_rfl) (isSame_of fun _ _ => rfl) ?_
              change wpStage _ _ _ _ _ _ _ _ (6 + 8) _ _ _
              refine stage_reads [0, 1, 2, 3, 4, 5, 6, 7] 6 _ _ (by kernel_rfl) ?_
              change wpQuietIn _ _ _ _ (fun W => ∃ x : SameAt wr (fun k => k < wr.heap.size), W = x.W) _ _ _
              simp only [pick_cons, pick_nil, List.getElem?_cons_zero, List.getElem?_cons_succ, Option.elim_some]
              repeat (gi_big_quiet_step (fail))
              refine wpQuietIn_nil ?_
              refine stage_one 8 (by kernel_rfl) rfl ?_
              gi_wp2_with (refine ⟨trivial, ?_⟩; gi_at_call 11; go_loud (refine (callsIn_wide.2 (neighbours_any Any Any _ _ T U _ (HX.out.below HDR.out) (HY.out.below HDR.out) HS1.out.1 HS2.out.1)).mono ?_; rintro e w9 ⟨rfl, hb⟩; rw [HDT.out]; have HB9 := Lib.hid (HDR.out.trans (hb.mono HDR.out.size)); clear hb))
              refine stage_post (isSame_below HB9.out (fun _ h => h)) ?_
              change wpStage _ _ _ _ _ _ _ _ (0 + 5) _ _ _
              refine stage_reads [9, 10, 11, 12, 13] 0 _ _ (by kernel_rfl) ?_
              change wpQuietIn _ _ _ _ (fun W => ∃ x : SameAt wr (fun k => k < wr.heap.size), W = x.W) _ _ _
              simp only [pick_cons, pick_nil, List.getElem?_cons_zero, List.getElem?_cons_succ, Option.elim_some]
              repeat (gi_big_quiet_step (fail))
              refine wpQuietIn_nil ?_
              refine stage_done (by kernel_rfl) ?_
              gi_upto_region 11 with fail
              have HDS := Lib.hid (show Below wr.heap.size wr w9.drew from HB9.out.trans ⟨rfl, rfl, rfl, Nat.le_refl _, fun _ _ => rfl⟩)
              refine wpIn_stage (IsSame wr (fun k => k < wr.heap.size)) [0, 1, 2, 3, 4, 5, 6, 7, 9, 10, 11, 12, 13] [] hmx (by kernel_rfl) (isSame_of fun k hk => HB9.out.block k hk) ?_
              change wpStage _ _ _ _ _ _ _ _ (6 + 8) _ _ _
              refine stage_reads [0, 1, 2, 3, 4, 5, 6, 7] 6 _ _ (by kernel_rfl) ?_
              change wpQuietIn _ _ _ _ (fun W => ∃ x : SameAt wr (fun k => k < wr.heap.size), W = x.W) _ _ _
              simp only [pick_cons, pick_nil, List.getElem?_cons_zero, List.getElem?_cons_succ, Option.elim_some]
              repeat (gi_big_quiet_step (fail))
              refine wpQuietIn_nil ?_
              refine stage_one 8 (by kernel_rfl) rfl ?_
              gi_wp2_with (refine ⟨trivial, ?_⟩; gi_at_call 12; go_loud (refine (callsIn_wide.2 (rneighbours_any Any Any _ _ T U _ (HX.out.below HDS.out) (HY.out.below HDS.out) HS1.out.1 HS2.out.1 HS1.out.2 HS2.out.2)).mono ?_; rintro e w10 ⟨rfl, hb⟩; rw [HNT.out]; have HB10 := Lib.hid (HDS.out.trans (hb.mono HDS.out.size)); clear hb))
              refine stage_post (isSame_below HB10.out (fun _ h => h)) ?_
              change wpStage _ _ _ _ _ _ _ _ (0 + 5) _ _ _
              refine stage_reads [9, 10, 11, 12, 13] 0 _ _ (by kernel_rfl) ?_
              change wpQuietIn _ _ _ _ (fun W => ∃ x : SameAt wr (fun k => k < wr.heap.size), W = x.W) _ _ _
              simp only [pick_cons, pick_nil, List.getElem?_cons_zero, List.getElem?_cons_succ, Option.elim_some]
              repeat (gi_big_quiet_step (fail))
              refine wpQuietIn_nil ?_
              refine stage_done (by kernel_rfl) ?_
              gi_upto_region 12 with fail
              have HDU := Lib.hid (show Below wr.heap.size wr w10.drew from HB10.out.trans ⟨rfl, rfl, rfl, Nat.le_refl _, fun _ _ => rfl⟩)
              refine wpIn_stage (IsSame wr (fun k => k < wr.heap.size)) [0, 1, 2, 3, 4, 5, 6, 7, 8, 9, 10, 11, 12, 13, 14, 15, 16, 18, 19, 20, 21, 22, 23, 24, 25, 27, 28] [] hmx (by kernel_rfl) (isSame_of fun k hk => HB10.out.block k hk) ?_
              change wpStage _ _ _ _ _ _ _ _ (4 + 25) _ _ _
              refine stage_reads [0, 1, 2, 3, 4, 5, 6, 7, 8, 9, 10, 11, 12, 13, 14, 15, 16, 18, 19, 20, 21, 22, 23, 24, 25] 4 _ _ (by kernel_rfl) ?_
              change wpQuietIn _ _ _ _ (fun W => ∃ x : SameAt wr (fun k => k < wr.heap.size), W = x.W) _ _ _
              simp only [pick_cons, pick_nil, List.getElem?_cons_zero, List.getElem?_cons_succ, Option.elim_some]
              repeat (gi_big_quiet_step (fail))
              refine wpQuietIn_nil ?_
              refine stage_one 17 (by kernel_rfl) rfl ?_
              gi_wp2_with (refine ⟨trivial, ?_⟩; gi_at_call 13; go_loud (refine (callsIn_wide.2 (sameTbl_any Any Any _ _ T U _ (HX.out.below HDU.out) (HY.out.below HDU.out))).mono ?_; rintro e w11 ⟨rfl, hb⟩; rw [HEQ.out]; have HB11 := Lib.hid (HDU.out.trans (hb.mono HDU.out.size)); clear hb))
              refine stage_post (isSame_below HB11.out (fun _ h => h)) ?_
              refine stage_one 26 (by kernel_rfl) rfl ?_
              gi_wp2_with (refine ⟨trivial, ?_⟩; gi_at_call 14; go_loud (refine (callsIn_wide.2 (rsameTbl_any Any Any _ _ T U _ (HX.out.below HB11.out) (HY.out.below HB11.out))).mono ?_; rintro e w12 ⟨rfl, hb⟩; rw [HEQ.out]; have HB12 := Lib.hid (HB11.out.trans (hb.mono HB11.out.size)); clear hb))
              refine stage_post (isSame_below HB12.out (fun _ h => h)) ?_
              change wpStage _ _ _ _ _ _ _ _ (0 + 2) _ _ _
              refine stage_reads [27, 28] 0 _ _ (by kernel_rfl) ?_
              change wpQuietIn _ _ _ _ (fun W => ∃ x : SameAt wr (fun k => k < wr.heap.size), W = x.W) _ _ _
              simp only [pick_cons, pick_nil, List.getElem?_cons_zero, List.getElem?_cons_succ, Option.elim_some]
              repeat (gi_big_quiet_step (fail))
              refine wpQuietIn_nil ?_
              refine stage_done (by kernel_rfl) ?_
              clear x0 x1 x2 x3 x4 y0 y1 y2 y3 y4
              gi_wp2
              go_roundw
              case rel => exact ⟨k + 1, HLT.out, by go_num, HBR.out.trans (HB12.out.mono HBR.out.size)⟩
              case measure => have := HLT.out; simp [intOf]; omega
            · have hk2 : ¬ (k : Int) < (us.length : Int) := by omega
              clear hB
              have TKZ : True := trivial
              gi_wp2_with (clear TKZ; refine ⟨trivial, ?_⟩; gi_at_call 6; refine (callsIn_wide.2 (awake_any _ HRE.out)).mono ?_; rintro e w13 ⟨rfl, hb⟩; have HBZ := Lib.hid (HWE.out.trans (hb.mono HWE.out.size)); clear hb)
              refine bodyPost_ret (results_tmp rfl _ _ _) rfl ?_
              exact ⟨rfl, HBZ.out⟩
          · have hk1 : ¬ (k : Int) < (ts.length : Int) := by omega
            clear hB
            have TKZ : True := trivial
            gi_wp2_with (clear TKZ; refine ⟨trivial, ?_⟩; gi_at_call 6; refine (callsIn_wide.2 (awake_any _ HRE.out)).mono ?_; rintro e w13 ⟨rfl, hb⟩; have HBZ := Lib.hid (HWE.out.trans (hb.mono HWE.out.size)); clear hb)
            refine bodyPost_ret (results_tmp rfl _ _ _) rfl ?_
            exact ⟨rfl, HBZ.out⟩
end Go.Proofs.YtlocafmglficnaaGreatDoor
