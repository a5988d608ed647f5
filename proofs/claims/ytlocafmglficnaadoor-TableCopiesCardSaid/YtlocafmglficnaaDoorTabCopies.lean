/- TableCopies: the walk. -/
import Derived.Test.YtlocafmglficnaaDoorTabCopiesMem
namespace Go.Proofs.YtlocafmglficnaaDoor
open Go.RowKit Go.Maps Go.Sort Go.Shelf

attribute [local go_sem] Oper.semAt_some
set_option maxRecDepth 100000 in
set_option maxHeartbeats 16000000 in
theorem tableCopies_any (C : TypeId → Nat → Prop) (v : Value) (l : List Int) (w : World) (h : SRow intK C w v l) (hr : Res w) :
    Calls Tryd.prog 7 #[v] w fun e w' => e = .returned (.bool true) ∧ Below w.heap.size w w' := by
  have HV := Lib.hid h
  have HR := Lib.hid hr
  obtain ⟨A, ca, rfl, hl, hm⟩ := h.slice
  unfold maxLen at hm
  clear h hr
  have HSB := Lib.hid (baseOf_small l)
  have hbn := baseOf_len l
  have hbp : 0 < (baseOf l).length := by have := schemasOf_len l; unfold baseOf bsC; simp; omega
  have HVS := Lib.hid (fun T (hT : T ∈ baseOf l) r (hr : r ∈ T.rows) => baseOf_vals hT hr)
  obtain ⟨bs, hbs⟩ : ∃ bs, baseOf l = bs := ⟨_, rfl⟩
  rw [hbs] at HSB hbn hbp HVS
  have HBS := Lib.hid hbs
  clear hbs
  refine (callsIn_wide (n := 6)).1 ?_
  have h1 : 1 ≤ 6 := by omega
  refine callsIn_of_wp Tryd.func7 rfl trivial ?_ rfl
  simp only [Tryd.ntmps7, List.size_toArray, List.length_cons, List.length_nil, Nat.reduceAdd, Nat.reduceSub, Array.replicate_succ, Array.replicate_zero, List.push_toArray, List.append_toArray, List.nil_append, List.cons_append]
  have TK1 : True := trivial
  gi_wp2_with (clear TK1; refine ⟨trivial, ?_⟩; gi_at_call 5; refine (callsIn_wide.2 (tableKnown_any _ HR.out)).mono ?_; rintro e w1 ⟨rfl, hb⟩; have HB1 := Lib.hid hb; clear hb)
  have TK2 : True := trivial
  gi_wp2_with (clear TK2; refine ⟨trivial, ?_⟩; gi_at_call 32; refine (callsIn_wide.2 (base_any C _ l _ (HV.out.below HB1.out))).mono ?_; rintro e w2 ⟨v2, rfl, ho, hb⟩; rw [HBS.out] at ho; have HO2 := Lib.hid ho; have HB2 := Lib.hid (HB1.out.trans (hb.mono HB1.out.size)); clear ho hb)
  obtain ⟨Ab, cb, rfl, _, _⟩ := HO2.out.slice
  have HO := Lib.hid HO2.out.any.lt
  have TK3 : True := trivial
  gi_wp2_with (clear TK3; refine ⟨trivial, ?_⟩; gi_at_call 36; refine (callsIn_wide.2 (copyOf_sep Any _ bs _ HO2.out.any (fun T hT => (HSB.out.2 T hT).1) (by omega))).mono ?_; rintro e w3 ⟨v3, m, rfl, ho, hbnd, hb⟩; have HC3 := Lib.hid ho; have HM := Lib.hid hbnd; have HT3 := Lib.hid hb; clear ho hb hbnd)
  obtain ⟨Ac, cc, rfl, _, _⟩ := HC3.out.slice
  have TK4 : True := trivial
  gi_wp2_with (clear TK4; refine ⟨trivial, ?_⟩; gi_at_call 18; refine (callsIn_wide.2 (withoutOf_any Any _ bs 0 _ (HO2.out.any.below HT3.out) (fun T hT => (HSB.out.2 T hT).1) (by omega))).mono ?_; rintro e w4 ⟨v4, rfl, ho, hb⟩; rw [show (bs.map fun T => withoutT T 0) = withoutB bs 0 from rfl] at ho; obtain ⟨Ad, cd, e4, _, _⟩ := ho.slice; rw [withoutB_len] at e4; subst e4; have HD4 := Lib.hid ho; have HT4 := Lib.hid hb; clear ho hb)
  have TK5 : True := trivial
  gi_wp2_with (clear TK5; refine ⟨trivial, ?_⟩; gi_at_call 32; refine (callsIn_wide.2 (base_any C _ l _ (HV.out.below (HB2.out.trans ((HT3.out.trans (HT4.out.mono HT3.out.size)).mono HB2.out.size))))).mono ?_; rintro e w5 ⟨v5, rfl, ho, hb⟩; rw [HBS.out] at ho; have HW5 := Lib.hid ho; have HT5 := Lib.hid hb; clear ho hb)
  obtain ⟨Aw, cw, rfl, _, _⟩ := HW5.out.slice
  have hs3 := HT3.out.size
  have hs4 := HT4.out.size
  have hs5 := HT5.out.size
  have hs2 := HB2.out.size
  have HB5 := Lib.hid (show Below w.heap.size w w5 from HB2.out.trans ((HT3.out.trans ((HT4.out.trans (HT5.out.mono HT4.out.size)).mono HT3.out.size)).mono HB2.out.size))
  have HBV := Lib.hid (show SRow tblK (Lt w2.heap.size) w5 (.slice Ab bs.length cb) bs from HO.out.keep fun E b _ hlt hC => ⟨hC, (HT5.out.block b (by omega)).trans ((HT4.out.block b (by omega)).trans (HT3.out.block b hlt))⟩)
  have HC5 := Lib.hid ((HC3.out.later HT4.out).later HT5.out)
  have HML := Lib.hid (show ∀ j, j < bs.length → w2.heap.size ≤ m j from fun j hj => Nat.le_trans HM.out.lo (HM.out.up 0 j (by omega) (by omega)))
  have HMH := Lib.hid (show ∀ j, j < bs.length → m j ≤ m (j + 1) ∧ m (j + 1) ≤ w3.heap.size from fun j hj => ⟨HM.out.up j (j + 1) (by omega) (by omega), Nat.le_trans (HM.out.up (j + 1) bs.length (by omega) (Nat.le_refl _)) HM.out.hi⟩)
  have HWV := Lib.hid (show SRow tblK (fun _ k => w4.heap.size ≤ k) w5 (.slice Aw bs.length cw) bs from HW5.out.row.mono fun E b hC => hC.1)
  have HD5 := Lib.hid (show SRow tblK (OwnR w3.heap.size w4.heap.size w5) w5 (.slice Ad bs.length cd) (withoutB bs 0) from (HD4.out.row.ranged (Nat.le_refl _)).keep fun E b _ hlt hO => ownR_keep (grown_of_below HT5.out none) (fun r hr => by cases hr) hO)
  have hlx : ∀ j, j < bs.length → j < (withoutB bs 0).length := fun j hj => by rw [withoutB_len]; exact hj
  obtain ⟨bd, od, _, _, _, _, _, _, e, _⟩ := tbl_at2 HD5.out (hlx 0 hbp)
  rw [withoutB_len] at e
  simp only [Value.slice.injEq, true_and] at e
  obtain ⟨rfl, rfl⟩ := e
  obtain ⟨bc, oc, _, _, _, _, _, _, e, hTc, _⟩ := HC5.out.at HML.out hbp
  simp only [Value.slice.injEq, true_and] at e
  obtain ⟨rfl, rfl⟩ := e
  have HTC := Lib.hid hTc
  have HTD := Lib.hid (show IsT w5 bd from by
    have := HD5.out
    obtain ⟨A', c', e, _, _, h3⟩ := this
    simp only [Value.slice.injEq] at e
    obtain ⟨b', o', eA, hC, _⟩ := h3 (hlx 0 hbp)
    rw [← e.1] at eA
    simp only [Option.some.injEq, Addr.mk.injEq, and_true] at eA
    rw [eA.1]
    exact hC.2.2)
  have HC0 := Lib.hid (show CpIn w5 w2.heap.size w3.heap.size w4.heap.size m bs.length bd od 0 w5 from ⟨rfl, rfl, rfl, Nat.le_refl _, fun _ _ _ => rfl, fun j A1 l1 c1 hj hc => by
    obtain ⟨b9, o9, c9, _, _, _, cu, ru, e9, _, _, _, _, _, q4, cu', ru', e8, _, hrw, _⟩ := tbl_at2 HD5.out (hlx j hj)
    rw [withoutB_len] at e9
    simp only [Value.slice.injEq, Option.some.injEq, Addr.mk.injEq, and_true, true_and] at e9
    obtain ⟨⟨rfl, rfl⟩, _⟩ := e9
    rw [hc] at q4
    simp only [Option.some.injEq, Value.slice.injEq] at q4
    obtain ⟨rfl, rfl, rfl⟩ := q4
    simp only [Value.agg.injEq, Array.mk.injEq, List.cons.injEq, and_true] at e8
    obtain ⟨_, _, _, _, rfl⟩ := e8
    refine RowsSh.of_row hrw fun r hr => ?_
    have hgj : (withoutB bs 0)[j]'(hlx j hj) = withoutT bs[j] 0 := by simp [withoutB]
    rw [hgj] at hr
    exact HVS.out bs[j] (List.getElem_mem hj) r (List.mem_filter.1 hr).1⟩)
  clear hTc HO2 HO HC3 HT3 HD4 HT4 HW5 HT5 HB2 HB1 HV HM
  gi_loopw [8] (fun i wr => ∃ k : Nat, k ≤ bs.length ∧ i = .int .i64 k ∧ CpIn w5 w2.heap.size w3.heap.size w4.heap.size m bs.length bd od k wr) (fun i _ => bs.length - (intOf i).toNat)
  case atStart => exact ⟨0, Nat.zero_le _, rfl, HC0.out⟩
  case round =>
    obtain ⟨k, hk, rfl, hcp⟩ := hrel
    have HCP := Lib.hid hcp
    have hi0 : (0 : Int) ≤ (k : Int) := by omega
    by_cases hlt : k < bs.length
    · have hi1 : (k : Int) < (bs.length : Int) := by omega
      have HLT := Lib.hid hlt
      have hmk := HMH.out k hlt
      have hml := HML.out k hlt
      have hmk2 := hmk.2
      obtain ⟨wo, rfl⟩ : ∃ wo, wo = wr := ⟨_, rfl⟩
      obtain ⟨b3, o3, c3, nm, pb, mn, ⟨A3, l3, d3⟩, ⟨Ar, lr, cr⟩, e3, _, u0, u1, u2, u3, u4, hcv⟩ := HC5.out.at HML.out hlt
      simp only [Value.slice.injEq, Option.some.injEq, Addr.mk.injEq, and_true, true_and] at e3
      obtain ⟨⟨rfl, rfl⟩, rfl⟩ := e3
      dsimp only at u3 u4 hcv
      have HRS := Lib.hid (RowsSh.of_row (tbl_rows hcv) (HVS.out bs[k] (List.getElem_mem hlt)))
      have HX := Lib.hid (hcp.tbl hmk.2 hcv)
      have hlr : lr ≤ 1000 := by
        obtain ⟨_, _, e5, _, _⟩ := (tbl_rows hcv).slice
        simp only [Value.slice.injEq] at e5
        rw [e5.2.1]
        exact (HSB.out.2 bs[k] (List.getElem_mem hlt)).2
      have HU4 := Lib.hid u4
      have c0 := hcp.tcell HTC.out u0
      have c1 := hcp.tcell HTC.out u1
      have c2 := hcp.tcell HTC.out u2
      have c3 := hcp.tcell HTC.out u3
      have c4 := hcp.tcell HTC.out u4
      have hblx := cell_lt c0
      obtain ⟨b, of, ca', nm2, pb2, mn2, ⟨A4, l4, d4⟩, ⟨A5, l5, d5⟩, e1, hbly, p0, p1, p2, p3, p4, hval⟩ := tbl_at2 (hcp.low HBV.out) hlt
      simp only [Value.slice.injEq, true_and] at e1
      obtain ⟨rfl, rfl⟩ := e1
      dsimp only at p3 p4 hval
      have HY := Lib.hid hval
      have HSM := Lib.hid (HSB.out.2 bs[k] (List.getElem_mem hlt))
      have x0 : ∀ X : SameAt wo (fun k => k < wo.heap.size), X.W.cell? ⟨bc, oc + k * 5, none⟩ = _ := fun X => X.cell hblx c0
      have x1 : ∀ X : SameAt wo (fun k => k < wo.heap.size), X.W.cell? ⟨bc, oc + k * 5 + 1, none⟩ = _ := fun X => X.cell hblx c1
      have x2 : ∀ X : SameAt wo (fun k => k < wo.heap.size), X.W.cell? ⟨bc, oc + k * 5 + 2, none⟩ = _ := fun X => X.cell hblx c2
      have x3 : ∀ X : SameAt wo (fun k => k < wo.heap.size), X.W.cell? ⟨bc, oc + k * 5 + 3, none⟩ = _ := fun X => X.cell hblx c3
      have x4 : ∀ X : SameAt wo (fun k => k < wo.heap.size), X.W.cell? ⟨bc, oc + k * 5 + 4, none⟩ = _ := fun X => X.cell hblx c4
      have y0 : ∀ X : SameAt wo (fun k => k < wo.heap.size), X.W.cell? ⟨b, of + k * 5, none⟩ = _ := fun X => X.cell hbly p0
      have y1 : ∀ X : SameAt wo (fun k => k < wo.heap.size), X.W.cell? ⟨b, of + k * 5 + 1, none⟩ = _ := fun X => X.cell hbly p1
      have y2 : ∀ X : SameAt wo (fun k => k < wo.heap.size), X.W.cell? ⟨b, of + k * 5 + 2, none⟩ = _ := fun X => X.cell hbly p2
      have y3 : ∀ X : SameAt wo (fun k => k < wo.heap.size), X.W.cell? ⟨b, of + k * 5 + 3, none⟩ = _ := fun X => X.cell hbly p3
      have y4 : ∀ X : SameAt wo (fun k => k < wo.heap.size), X.W.cell? ⟨b, of + k * 5 + 4, none⟩ = _ := fun X => X.cell hbly p4
      have hmx : Tryd.prog.follows .mixedOrders = true := by kernel_rfl
      have HDR := Lib.hid (show Below wo.heap.size wo wo.drew from ⟨rfl, rfl, rfl, Nat.le_refl _, fun _ _ => rfl⟩)
      have HTK := Lib.hid (show bs[k]'hlt = bs[k]'hlt from rfl)
      clear hcp u0 u1 u2 u3 u4 hcv c0 c1 c2 c3 c4 p0 p1 p2 p3 p4 hval
      generalize bs[k] = T at *
      clear hlt HTK
      gi_wp2
      refine wpIn_stage (IsSame wo (fun k => k < wo.heap.size)) [0, 1, 2, 3, 4, 5, 6, 7, 9, 10, 11, 12, 13, 14, 16, 17, 18, 19, 21, 22] [] hmx (by kernel_rfl) (isSame_of fun _ _ => rfl) ?_
      change wpStage _ _ _ _ _ _ _ _ (15 + 8) _ _ _
      refine stage_reads [0, 1, 2, 3, 4, 5, 6, 7] 15 _ _ (by kernel_rfl) ?_
      change wpQuietIn _ _ _ _ (fun W => ∃ x : SameAt wo (fun k => k < wo.heap.size), W = x.W) _ _ _
      simp only [pick_cons, pick_nil, List.getElem?_cons_zero, List.getElem?_cons_succ, Option.elim_some]
      repeat (gi_big_quiet_step (fail))
      refine wpQuietIn_nil ?_
      refine stage_one 8 (by kernel_rfl) rfl ?_
      gi_wp2_with (refine ⟨trivial, ?_⟩; gi_at_call 35; go_loud (refine (callsIn_wide.2 (sameTbl_any Any _ _ _ T T _ (HX.out.below HDR.out) (HY.out.below HDR.out))).mono ?_; rintro e w9 ⟨rfl, hb9⟩; rw [eqB_true rfl]; have HB9 := Lib.hid (HDR.out.trans (hb9.mono HDR.out.size)); clear hb9))
      refine stage_post (isSame_below HB9.out (fun _ h => h)) ?_
      change wpStage _ _ _ _ _ _ _ _ (4 + 10) _ _ _
      refine stage_reads [9, 10, 11, 12, 13, 14, 16, 17, 18, 19] 4 _ _ (by kernel_rfl) ?_
      change wpQuietIn _ _ _ _ (fun W => ∃ x : SameAt wo (fun k => k < wo.heap.size), W = x.W) _ _ _
      simp only [pick_cons, pick_nil, List.getElem?_cons_zero, List.getElem?_cons_succ, Option.elim_some]
      repeat (gi_big_quiet_step (fail))
      refine wpQuietIn_nil ?_
      refine stage_one 15 (by kernel_rfl) rfl ?_
      gi_wp2_with (refine ⟨trivial, ?_⟩; gi_at_call 37; go_loud (refine (callsIn_wide.2 (tcopy_val (HY.out.below HB9.out) HSM.out.1)).mono ?_; rintro e w10 ⟨v10, rfl, ho10, hb10⟩; have HO10 := Lib.hid ho10; have HB10 := Lib.hid (HB9.out.trans (hb10.mono HB9.out.size)); clear ho10 hb10))
      refine stage_post (isSame_below HB10.out (fun _ h => h)) ?_
      refine stage_one 20 (by kernel_rfl) rfl ?_
      gi_wp2_with (refine ⟨trivial, ?_⟩; gi_at_call 35; go_loud (refine (callsIn_wide.2 (sameTbl_any Any _ _ _ T T _ HO10.out (HY.out.below HB10.out))).mono ?_; rintro e w11 ⟨rfl, hb11⟩; rw [eqB_true rfl]; have HB11 := Lib.hid (HB10.out.trans (hb11.mono HB10.out.size)); clear hb11))
      refine stage_post (isSame_below HB11.out (fun _ h => h)) ?_
      change wpStage _ _ _ _ _ _ _ _ (0 + 2) _ _ _
      refine stage_reads [21, 22] 0 _ _ (by kernel_rfl) ?_
      change wpQuietIn _ _ _ _ (fun W => ∃ x : SameAt wo (fun k => k < wo.heap.size), W = x.W) _ _ _
      simp only [pick_cons, pick_nil, List.getElem?_cons_zero, List.getElem?_cons_succ, Option.elim_some]
      repeat (gi_big_quiet_step (fail))
      refine wpQuietIn_nil ?_
      refine stage_done (by kernel_rfl) ?_
      clear x0 x1 x2 x3 x4 y0 y1 y2 y3 y4 HO10 HX HY HDR HB9 HB10
      have HCK := Lib.hid ((HCP.out.below HB11.out).next hmk.1)
      have HRK := Lib.hid ((HCP.out.below HB11.out).rows hmk.2 HRS.out)
      clear HRS HB11 HCP
      gi_wp2
      gi_loopw [9] (fun j W => ∃ q : Nat, q ≤ lr ∧ j = .int .i64 q ∧ CpIn w5 w2.heap.size w3.heap.size w4.heap.size m bs.length bd od (k + 1) W ∧ RowsSh W Ar lr (fun b => m k ≤ b ∧ b < m (k + 1) ∧ ¬ IsT w5 b)) (fun j _ => lr - (intOf j).toNat)
      case atStart => exact ⟨0, Nat.zero_le _, rfl, HCK.out, HRK.out⟩
      case round =>
        obtain ⟨q, hq, rfl, hcq, hrq⟩ := hrel
        have HCQ := Lib.hid hcq
        have HRQ := Lib.hid hrq
        have t4 := hcq.tcell HTC.out HU4.out
        have htl := cell_lt t4
        have hq0 : (0 : Int) ≤ (q : Int) := by omega
        by_cases hql : q < lr
        · have hq1 : (q : Int) < (lr : Int) := by omega
          have HQL := Lib.hid hql
          obtain ⟨br, orr, rfl, hrow⟩ := hrq (by omega)
          have hr := hrow q hql
          obtain ⟨hp1, hp2, hp3⟩ := hr.p
          obtain ⟨z0, s0⟩ := hr.own
          have g0 := hr.c.fz (orr + q * 2)
          have hbr := hr.c.lt
          have HC1 := Lib.hid (hcq.set (y := 9) (by rintro (h | h | h | h) <;> first | omega | exact hp3 h) hr.c s0)
          have HR1 := Lib.hid (hrq.set (y := 9) hr.c s0)
          clear hcq hrq hrow hr hql
          gi_upto_region 16 with fail
          change Code.wpIn _ _ _ _ _ _ (wr.setCell ⟨br, orr + q * 2, none⟩ (.int .i64 9))
          generalize wr.setCell ⟨br, orr + q * 2, none⟩ (.int .i64 9) = W1 at *
          clear t4 htl s0 g0 hbr HCQ HRQ
          have t4 := HC1.out.tcell HTC.out HU4.out
          have htl := cell_lt t4
          obtain ⟨br', or', e', hrow⟩ := HR1.out (by have := HQL.out; omega)
          simp only [Option.some.injEq, Addr.mk.injEq, and_true] at e'
          obtain ⟨rfl, rfl⟩ := e'
          have hr := hrow q HQL.out
          have hbr := hr.c.lt
          obtain ⟨bv, ov, lv, cv, z1, s1, hlv, hlc, hcm, hpv, hcv, s2⟩ := hr.vals
          unfold maxLen at hcm
          obtain ⟨hv1, hv2, hv3⟩ := hpv
          have g2 := hcv.fz ov
          have hbv := hcv.lt
          have hlv1 : (0 : Int) < (lv : Int) := by omega
          have HC2 := Lib.hid (HC1.out.set (y := 9) (by rintro (h | h | h | h) <;> first | omega | exact hv3 h) hcv s2)
          have HR2 := Lib.hid (HR1.out.set (y := 9) hcv s2)
          clear hrow hr hcv
          gi_wp2
          go_roundw
          case rel => exact ⟨q + 1, HQL.out, by go_num, HC2.out, HR2.out⟩
          case measure => have := HQL.out; simp [intOf]; omega
        · have hq1 : ¬ (q : Int) < (lr : Int) := by omega
          obtain ⟨b6, o6, c6, _, _, _, ⟨A6, l6, d6⟩, ⟨As, ls, cs⟩, e6, _, _, _, _, _, u6, hdv⟩ := tbl_at2 HD5.out (hlx k HLT.out)
          rw [withoutB_len] at e6
          simp only [Value.slice.injEq, Option.some.injEq, Addr.mk.injEq, and_true, true_and] at e6
          obtain ⟨⟨rfl, rfl⟩, rfl⟩ := e6
          dsimp only at u6 hdv
          have hls : ls ≤ 1000 := by
            obtain ⟨_, _, e5, _, _⟩ := (tbl_rows hdv).slice
            simp only [Value.slice.injEq] at e5
            rw [e5.2.1]
            exact ((withoutB_small HSB.out 0).2 _ (List.getElem_mem (hlx k HLT.out))).2
          have HU6 := Lib.hid u6
          clear hcq hrq hdv u6 HRQ
          gi_wp2
          gi_loopw [10] (fun j W => ∃ p : Nat, p ≤ ls ∧ j = .int .i64 p ∧ CpIn w5 w2.heap.size w3.heap.size w4.heap.size m bs.length bd od (k + 1) W) (fun j _ => ls - (intOf j).toNat)
          case atStart => exact ⟨0, Nat.zero_le _, rfl, HCQ.out⟩
          case round =>
            obtain ⟨p, hp, rfl, hcp⟩ := hrel
            have HCP := Lib.hid hcp
            have t6 := hcp.tcell HTD.out HU6.out
            have ht6 := cell_lt t6
            have hp0 : (0 : Int) ≤ (p : Int) := by omega
            by_cases hpl : p < ls
            · have hp1 : (p : Int) < (ls : Int) := by omega
              have HPL := Lib.hid hpl
              obtain ⟨br, orr, rfl, hrow⟩ := hcp.sh k _ _ _ HLT.out HU6.out (by omega)
              have hr := hrow p hpl
              have hbr := hr.c.lt
              obtain ⟨bv, ov, lv, cv, z1, s1, hlv, hlc, hcm, hpv, hcv, s2⟩ := hr.vals
              unfold maxLen at hcm
              obtain ⟨hv1, hv2, hv3⟩ := hpv
              have g2 := hcv.fz ov
              have hbv := hcv.lt
              have hlv1 : (0 : Int) < (lv : Int) := by omega
              have HC2 := Lib.hid (hcp.set (y := 9) (by rintro (h | h | h | h) <;> first | omega | exact hv3 h) hcv s2)
              clear hrow hr hcv hcp hpl
              gi_wp2
              go_roundw
              case rel => exact ⟨p + 1, HPL.out, by go_num, HC2.out⟩
              case measure => have := HPL.out; simp [intOf]; omega
            · have hp1 : ¬ (p : Int) < (ls : Int) := by omega
              have h9 := HLT.out
              obtain ⟨b8, o8, c8, nm8, pb8, mn8, ⟨A10, l10, d10⟩, ⟨A11, l11, d11⟩, e1, hbly, _, _, _, _, p4, hval⟩ := tbl_at2 (hcp.low HBV.out) h9
              simp only [Value.slice.injEq, Option.some.injEq, Addr.mk.injEq, and_true, true_and] at e1
              obtain ⟨⟨rfl, rfl⟩, rfl⟩ := e1
              dsimp only at p4 hval
              obtain ⟨b7, o7, c7, nm7, pb7, mn7, ⟨A8, l8, d8⟩, ⟨A9, l9, d9⟩, e7, hblz, _, _, _, _, p7, hval7⟩ := tbl_at2 (hcp.high HWV.out) h9
              simp only [Value.slice.injEq, true_and] at e7
              obtain ⟨rfl, rfl⟩ := e7
              dsimp only at p7 hval7
              have HY := Lib.hid (tbl_rows hval)
              have HZ := Lib.hid (tbl_rows hval7)
              have y4 : ∀ X : SameAt wr (fun k => k < wr.heap.size), X.W.cell? ⟨b, of + k * 5 + 4, none⟩ = _ := fun X => X.cell hbly p4
              have y7 : ∀ X : SameAt wr (fun k => k < wr.heap.size), X.W.cell? ⟨b7, o7 + k * 5 + 4, none⟩ = _ := fun X => X.cell hblz p7
              have HDR := Lib.hid (show Below wr.heap.size wr wr.drew from ⟨rfl, rfl, rfl, Nat.le_refl _, fun _ _ => rfl⟩)
              clear hcp p4 p7 hval hval7
              gi_upto_region 21 with fail
              refine wpIn_stage (IsSame wr (fun k => k < wr.heap.size)) [0, 1, 2, 3, 4, 5, 6, 7, 8, 9, 11] [] hmx (by kernel_rfl) (isSame_of fun _ _ => rfl) ?_
              change wpStage _ _ _ _ _ _ _ _ (2 + 10) _ _ _
              refine stage_reads [0, 1, 2, 3, 4, 5, 6, 7, 8, 9] 2 _ _ (by kernel_rfl) ?_
              change wpQuietIn _ _ _ _ (fun W => ∃ x : SameAt wr (fun k => k < wr.heap.size), W = x.W) _ _ _
              simp only [pick_cons, pick_nil, List.getElem?_cons_zero, List.getElem?_cons_succ, Option.elim_some]
              repeat (gi_big_quiet_step (fail))
              refine wpQuietIn_nil ?_
              refine stage_one 10 (by kernel_rfl) rfl ?_
              gi_wp2_with (refine ⟨trivial, ?_⟩; gi_at_call 29; go_loud (refine (callsIn_wide.2 (sameRows_any _ _ _ _ _ _ _ (HY.out.below HDR.out) (HZ.out.below HDR.out))).mono ?_; rintro e w9 ⟨rfl, hb9⟩; rw [eqB_true rfl]; have HB9 := Lib.hid (HDR.out.trans (hb9.mono HDR.out.size)); clear hb9))
              refine stage_post (isSame_below HB9.out (fun _ h => h)) ?_
              change wpStage _ _ _ _ _ _ _ _ (0 + 1) _ _ _
              refine stage_reads [11] 0 _ _ (by kernel_rfl) ?_
              change wpQuietIn _ _ _ _ (fun W => ∃ x : SameAt wr (fun k => k < wr.heap.size), W = x.W) _ _ _
              simp only [pick_cons, pick_nil, List.getElem?_cons_zero, List.getElem?_cons_succ, Option.elim_some]
              repeat (gi_big_quiet_step (fail))
              refine wpQuietIn_nil ?_
              refine stage_done (by kernel_rfl) ?_
              clear y4 y7
              gi_wp2
              go_roundw
              case rel => exact ⟨k + 1, HLT.out, by go_num, HCP.out.below HB9.out⟩
              case measure => have := HLT.out; simp [intOf]; omega
    · have hi1 : ¬ (k : Int) < (bs.length : Int) := by omega
      clear hcp
      gi_wp2
      refine bodyPost_ret (results_tmp rfl _ _ _) rfl ?_
      exact ⟨rfl, HCP.out.all HB5.out (by omega)⟩
end Go.Proofs.YtlocafmglficnaaDoor
