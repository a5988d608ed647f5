/- TableTakes: the walk. -/
import Derived.Test.YtlocafmglficnaaDoorTabCheckBase
namespace Go.Proofs.YtlocafmglficnaaDoor
open Go.RowKit Go.Maps Go.Sort Go.Shelf

theorem filter_take_succ {os : List Int} {k : Nat} (hk : k < os.length) (p : Int → Bool) : (os.take (k + 1)).filter p = (os.take k).filter p ++ if p os[k] = true then [os[k]] else [] := by
  rw [List.take_succ_eq_append_getElem hk, List.filter_append]
  congr 1
  by_cases h : p os[k] = true <;> simp [h]

attribute [local go_sem] Oper.semAt_some
set_option maxRecDepth 100000 in
set_option maxHeartbeats 16000000 in
theorem tableTakes_any (C : TypeId → Nat → Prop) (v : Value) (l : List Int) (x y : Int) (w : World) (h : SRow intK C w v l) (hx : Fit x) (hy : Fit y) (hr : Res w) :
    Calls Tryd.prog 8 #[v, .int .i64 x, .int .i64 y] w fun e w' => e = .returned (.bool true) ∧ Below w.heap.size w w' := by
  have HV := Lib.hid h
  have HR := Lib.hid hr
  have HX := Lib.hid hx
  have HY := Lib.hid hy
  obtain ⟨A, ca, rfl, hl, hm⟩ := h.slice
  unfold maxLen at hm
  clear h hr hx hy
  have HSB := Lib.hid (baseOf_small l)
  have hbn := baseOf_len l
  have HOK := Lib.hid (base_ok l)
  have HOW := Lib.hid (base_without_ok l)
  obtain ⟨i3, hi3, hz30, hz31, hz32⟩ := info_parts info3
  refine (callsIn_wide (n := 6)).1 ?_
  have h1 : 1 ≤ 6 := by omega
  refine callsIn_of_wp Tryd.func8 rfl trivial ?_ rfl
  simp only [Tryd.ntmps8, List.size_toArray, List.length_cons, List.length_nil, Nat.reduceAdd, Nat.reduceSub, Array.replicate_succ, Array.replicate_zero, List.push_toArray, List.append_toArray, List.nil_append, List.cons_append]
  have TK1 : True := trivial
  gi_wp2_with (clear TK1; refine ⟨trivial, ?_⟩; gi_at_call 5; refine (callsIn_wide.2 (tableKnown_any _ HR.out)).mono ?_; rintro e w1 ⟨rfl, hb⟩; have HB1 := Lib.hid hb; clear hb)
  have TK2 : True := trivial
  gi_wp2_with (clear TK2; refine ⟨trivial, ?_⟩; gi_at_call 32; refine (callsIn_wide.2 (base_any C _ l _ (HV.out.below HB1.out))).mono ?_; rintro e w2 ⟨v2, rfl, ho, hb⟩; have HO2 := Lib.hid ho; have HB2 := Lib.hid (HB1.out.trans (hb.mono HB1.out.size)); clear ho hb)
  generalize baseOf l = bs at *
  obtain ⟨Ab, cb, rfl, _, _⟩ := HO2.out.slice
  have HO := Lib.hid HO2.out.any
  obtain ⟨a, ha⟩ : ∃ a : Int, x % 7 = a := ⟨_, rfl⟩
  obtain ⟨c, hc⟩ : ∃ c : Int, y % 7 = c := ⟨_, rfl⟩
  have HPA := Lib.hid ha
  have HPC := Lib.hid hc
  clear ha hc
  have TK3 : True := trivial
  gi_wp2_with (clear TK3; refine ⟨trivial, ?_⟩; gi_at_call 9; refine (callsIn_wide.2 (pickE_any x 7 _ (by omega) (by omega) HX.out)).mono ?_; rintro e w9 ⟨rfl, rfl⟩; rw [HPA.out])
  have TK4 : True := trivial
  gi_wp2_with (clear TK4; refine ⟨trivial, ?_⟩; gi_at_call 9; refine (callsIn_wide.2 (pickE_any y 7 _ (by omega) (by omega) HY.out)).mono ?_; rintro e w9 ⟨rfl, rfl⟩; rw [HPC.out])
  have TK5 : True := trivial
  gi_wp2_with (clear TK5; refine ⟨trivial, ?_⟩; gi_at_call 38; refine (callsIn_wide.2 (checkBase_any Any _ bs _ HO.out (fun T hT => (HSB.out.2 T hT).1) (by omega) (HR.out.later HB2.out))).mono ?_; rintro e w3 ⟨rfl, hb⟩; rw [HOK.out]; have HT3 := Lib.hid hb; clear hb)
  have TK6 : True := trivial
  gi_wp2_with (clear TK6; refine ⟨trivial, ?_⟩; gi_at_call 18; refine (callsIn_wide.2 (withoutOf_any Any _ bs a _ (HO.out.below HT3.out) (fun T hT => (HSB.out.2 T hT).1) (by omega))).mono ?_; rintro e w4 ⟨v4, rfl, ho, hb⟩; rw [show (bs.map fun T => withoutT T a) = withoutB bs a from rfl] at ho; obtain ⟨Ax, cx, e4, _, _⟩ := ho.slice; rw [withoutB_len] at e4; subst e4; have HX4 := Lib.hid ho.any; have HT4 := Lib.hid (HT3.out.trans (hb.mono HT3.out.size)); clear ho hb)
  have HSX := Lib.hid (withoutB_small HSB.out a)
  have HB4 := Lib.hid (HB2.out.trans (HT4.out.mono HB2.out.size))
  have TK7 : True := trivial
  gi_wp2_with (clear TK7; refine ⟨trivial, ?_⟩; gi_at_call 38; refine (callsIn_wide.2 (checkBase_any Any _ (withoutB bs a) _ HX4.out (fun T hT => (HSX.out.2 T hT).1) (by rw [withoutB_len]; omega) (HR.out.later HB4.out))).mono ?_; rintro e w5 ⟨rfl, hb⟩; rw [HOW.out a]; have HU5 := Lib.hid hb; have HT5 := Lib.hid (HT4.out.trans (hb.mono HT4.out.size)); clear hb)
  have TK8 : True := trivial
  gi_wp2_with (clear TK8; refine ⟨trivial, ?_⟩; gi_at_call 15; refine (callsIn_wide.2 (ownersOf_any Any _ bs _ (HO.out.below HT5.out) HSB.out.1 (fun T hT => (HSB.out.2 T hT).2))).mono ?_; rintro e w6 ⟨v6, rfl, ho, hb⟩; have HW6 := Lib.hid ho.any; have HU6 := Lib.hid (HU5.out.trans (hb.mono HU5.out.size)); have HT6 := Lib.hid (HT5.out.trans (hb.mono HT5.out.size)); clear ho hb)
  have hol := asc_length (ownersOf bs)
  have hol2 := ownersOf_len hbn (fun T hT => (HSB.out.2 T hT).2)
  have HWT := Lib.hid (owners_without bs a)
  generalize hos : asc (ownersOf bs) = os at *
  clear hos
  obtain ⟨Ao, co, rfl, _, _⟩ := HW6.out.slice
  have HX6 := Lib.hid (HX4.out.below HU6.out)
  have HO6 := Lib.hid (HO.out.below HT6.out)
  have HB6 := Lib.hid (HB2.out.trans (HT6.out.mono HB2.out.size))
  clear HX4 HT3 HT4 HT5 HT6 HU5 HU6 HO2 HO HB4
  gi_loopw [18, 20] (fun u i wr => ∃ k : Nat, k ≤ os.length ∧ i = .int .i64 k ∧ OSeq intK w6.heap.size wr u ((os.take k).filter fun o => decide (o ≠ a)) ∧ Below w6.heap.size w6 wr) (fun _ i _ => os.length - (intOf i).toNat)
  case atStart => exact ⟨0, Nat.zero_le _, rfl, by simpa using OSeq.nil intK w6.heap.size w6, Below.refl _ _⟩
  case round =>
    obtain ⟨k, hk, rfl, hseq, hB⟩ := hrel
    have HQ := Lib.hid hseq
    have HB := Lib.hid hB
    have hfl := List.length_filter_le (fun o : Int => decide (o ≠ a)) (os.take k)
    have htl : (os.take k).length ≤ k := by simp; omega
    obtain ⟨Au, cu, rfl, _, _⟩ := hseq.slice
    have hi0 : (0 : Int) ≤ (k : Int) := by omega
    by_cases hlt : k < os.length
    · have hi1 : (k : Int) < (os.length : Int) := by omega
      obtain ⟨bo, oo, rfl, hc0, hf0⟩ := int_at (HW6.out.below hB) hlt
      have hbo := cell_lt hc0
      have HFT := Lib.hid (filter_take_succ hlt fun o => decide (o ≠ a))
      have HLT := Lib.hid hlt
      have HF0 := Lib.hid hf0
      clear hseq hf0
      generalize os[k] = z at *
      clear hlt
      by_cases hza : z = a
      · have HFE := Lib.hid (show (os.take (k + 1)).filter (fun o => decide (o ≠ a)) = (os.take k).filter fun o => decide (o ≠ a) by rw [HFT.out]; simp [hza])
        have hz1 : decide (z = a) = true := by simp [hza]
        have hz2 : (z != a) = false := by simp [hza]
        clear HFT hB
        subst hza
        gi_wp2
        go_roundw
        case rel => exact ⟨k + 1, HLT.out, by go_num, by rw [HFE.out]; exact HQ.out, HB.out⟩
        case measure => have := HLT.out; simp [intOf]; omega
      · have HFE := Lib.hid (show (os.take (k + 1)).filter (fun o => decide (o ≠ a)) = ((os.take k).filter fun o => decide (o ≠ a)) ++ [z] by rw [HFT.out]; simp [hza])
        have hz1 : decide (z = a) = false := by simp [hza]
        have hz2 : (z != a) = true := by simp [hza]
        clear HFT
        generalize hgl : (os.take k).filter (fun o => decide (o ≠ a)) = zs at *
        clear hgl
        have hsz6 := hB.size
        obtain ⟨us, hus⟩ := (HQ.out.later (below_alloc wr (.cells #[.int .i64 z] 3))).raw
        have HUS := Lib.hid hus
        have HNW := Lib.hid (one_new wr (.int .i64 z) 3)
        have HKX := Lib.hid (show intK.is (Own w6.heap.size wr) wr [.int .i64 z] z from ⟨rfl, HF0.out⟩)
        clear hus hB
        gi_wp2_with (gi_at_builtin; go_loud (refine wpListIn_append_own _ rfl _ _ 32 rfl w6.heap.size 3 i3 _ 1 8 Tryd.underlying32 hi3 hz30 hz31 hz32 rfl (by decide) _ _ us rfl HUS.out ⟨wr.heap.size, 0, none⟩ 1 1 [.int .i64 z] rfl rfl HNW.out (by simp [Value.oneCell']) (by unfold maxLen; omega) (by omega) (by simp; omega) ?_; intro v1 w7 hown1 hgrow1 _; obtain ⟨Av1, cv1, rfl⟩ := slice_of hown1; have HST := Lib.hid (HQ.out.push (K := intK) (by decide) HKX.out HUS.out hown1 hgrow1); have HB7 := Lib.hid (grow_below (HB.out.trans ((below_alloc _ _).mono HB.out.size)) (by simp; omega) HUS.out hgrow1); clear hown1 hgrow1))
        go_roundw
        case rel => exact ⟨k + 1, HLT.out, by go_num, by rw [HFE.out]; exact HST.out, HB7.out⟩
        case measure => have := HLT.out; simp [intOf]; omega
    · have hi1 : ¬ (k : Int) < (os.length : Int) := by omega
      obtain rfl : k = os.length := by omega
      have HWN := Lib.hid (show SRow intK Any wr (.slice Au ((os.take os.length).filter fun o => decide (o ≠ a)).length cu) (os.filter fun o => decide (o ≠ a)) from by
        have := hseq.any
        rwa [List.take_of_length_le (Nat.le_refl _)] at this ⊢)
      generalize ((os.take os.length).filter fun o => decide (o ≠ a)).length = nu at *
      clear hseq HQ hlt
      have HX7 := Lib.hid (HX6.out.below HB.out)
      have HO7 := Lib.hid (HO6.out.below HB.out)
      have HB7 := Lib.hid (HB6.out.trans (HB.out.mono HB6.out.size))
      clear HX6 HO6 HB6 hB HW6
      obtain ⟨wo, rfl⟩ : ∃ wo, wo = wr := ⟨_, rfl⟩
      have TKA : True := trivial
      gi_wp2_with (clear TKA; refine ⟨trivial, ?_⟩; gi_at_call 18; refine (callsIn_wide.2 (withoutOf_any Any _ (withoutB bs a) c _ HX7.out (fun T hT => (HSX.out.2 T hT).1) (by rw [withoutB_len]; omega))).mono ?_; rintro e w8 ⟨v8, rfl, ho, hb⟩; rw [show ((withoutB bs a).map fun T => withoutT T c) = withoutB (withoutB bs a) c from rfl] at ho; obtain ⟨Ay, cy, e8, _, _⟩ := ho.slice; rw [withoutB_len, withoutB_len] at e8; subst e8; have HY8 := Lib.hid ho.any; have HT8 := Lib.hid hb; clear ho hb)
      have TKB : True := trivial
      gi_wp2_with (clear TKB; refine ⟨trivial, ?_⟩; gi_at_call 18; refine (callsIn_wide.2 (withoutOf_any Any _ bs c _ (HO7.out.below HT8.out) (fun T hT => (HSB.out.2 T hT).1) (by omega))).mono ?_; rintro e w9 ⟨v9, rfl, ho, hb⟩; rw [show (bs.map fun T => withoutT T c) = withoutB bs c from rfl] at ho; obtain ⟨Av, cv, e9, _, _⟩ := ho.slice; rw [withoutB_len] at e9; subst e9; have HV9 := Lib.hid ho.any; have HU9 := Lib.hid hb; have HT9 := Lib.hid (HT8.out.trans (hb.mono HT8.out.size)); clear ho hb)
      have TKC : True := trivial
      gi_wp2_with (clear TKC; refine ⟨trivial, ?_⟩; gi_at_call 18; refine (callsIn_wide.2 (withoutOf_any Any _ (withoutB bs c) a _ HV9.out (fun T hT => ((withoutB_small HSB.out c).2 T hT).1) (by rw [withoutB_len]; omega))).mono ?_; rintro e w10 ⟨v10, rfl, ho, hb⟩; rw [show ((withoutB bs c).map fun T => withoutT T a) = withoutB (withoutB bs c) a from rfl, withoutB_comm] at ho; obtain ⟨Az, cz, e10, _, _⟩ := ho.slice; rw [withoutB_len, withoutB_len] at e10; subst e10; have HZ10 := Lib.hid ho.any; have HU10 := Lib.hid (HU9.out.trans (hb.mono HU9.out.size)); have HT10 := Lib.hid (HT9.out.trans (hb.mono HT9.out.size)); clear ho hb)
      have TKD : True := trivial
      gi_wp2_with (clear TKD; refine ⟨trivial, ?_⟩; gi_at_call 15; refine (callsIn_wide.2 (ownersOf_any Any _ (withoutB bs a) _ (HX7.out.below HT10.out) HSX.out.1 (fun T hT => (HSX.out.2 T hT).2))).mono ?_; rintro e w11 ⟨v11, rfl, ho, hb⟩; rw [HWT.out] at ho; have HW11 := Lib.hid ho.any; have HU11 := Lib.hid (HU10.out.trans (hb.mono HU10.out.size)); have HS11 := Lib.hid hb; have HT11 := Lib.hid (HT10.out.trans (hb.mono HT10.out.size)); clear ho hb)
      have TKE : True := trivial
      gi_wp2_with (clear TKE; refine ⟨trivial, ?_⟩; gi_at_call 14; refine (callsIn_wide.2 (same14_any Any Any _ _ (os.filter fun o => decide (o ≠ a)) (os.filter fun o => decide (o ≠ a)) _ HW11.out (HWN.out.below HT11.out))).mono ?_; rintro e w12 ⟨rfl, hb⟩; rw [eqB_true rfl]; have HY12 := Lib.hid (HY8.out.below (HU11.out.trans (hb.mono HU11.out.size))); have HZ12 := Lib.hid (HZ10.out.below (HS11.out.trans (hb.mono HS11.out.size))); have HB12 := Lib.hid (HB7.out.trans ((HT11.out.trans (hb.mono HT11.out.size)).mono HB7.out.size)); clear hb)
      clear HY8 HT8 HV9 HU9 HT9 HZ10 HU10 HT10 HW11 HU11 HS11 HT11 HX7 HO7 HB7 HWN
      generalize hyy : withoutB (withoutB bs a) c = ys at *
      have hyl : ys.length = bs.length := by rw [← hyy, withoutB_len, withoutB_len]
      have HYL := Lib.hid hyl
      clear hyy hyl
      gi_loopw [23] (fun i wr => ∃ k : Nat, k ≤ bs.length ∧ i = .int .i64 k ∧ Below w12.heap.size w12 wr) (fun i _ => bs.length - (intOf i).toNat)
      case atStart => exact ⟨0, Nat.zero_le _, rfl, Below.refl _ _⟩
      case round =>
        obtain ⟨k, hk, rfl, hB⟩ := hrel
        have HBR := Lib.hid hB
        have hi0 : (0 : Int) ≤ (k : Int) := by omega
        by_cases hlt : k < bs.length
        · have hi1 : (k : Int) < (bs.length : Int) := by omega
          have HLT := Lib.hid hlt
          have hly : k < ys.length := by rw [HYL.out]; exact hlt
          obtain ⟨b, of, ca', nm, pb, mn, ⟨A4, l4, d4⟩, ⟨A5, l5, d5⟩, e1, hbl, p0, p1, p2, p3, p4, hval⟩ := tbl_at2 (HY12.out.below hB) hly
          rw [HYL.out] at e1
          simp only [Value.slice.injEq, true_and] at e1
          obtain ⟨rfl, rfl⟩ := e1
          obtain ⟨b2, of2, ca2, nm2, pb2, mn2, ⟨A6, l6, d6⟩, ⟨A7, l7, d7⟩, e2, hbl2, q0, q1, q2, q3, q4, hval2⟩ := tbl_at2 (HZ12.out.below hB) hly
          rw [HYL.out] at e2
          simp only [Value.slice.injEq, true_and] at e2
          obtain ⟨rfl, rfl⟩ := e2
          dsimp only at p3 p4 hval q3 q4 hval2
          have HX := Lib.hid hval
          have HY := Lib.hid hval2
          have x0 : ∀ X : SameAt wr (fun k => k < wr.heap.size), X.W.cell? ⟨b, of + k * 5, none⟩ = _ := fun X => X.cell hbl p0
          have x1 : ∀ X : SameAt wr (fun k => k < wr.heap.size), X.W.cell? ⟨b, of + k * 5 + 1, none⟩ = _ := fun X => X.cell hbl p1
          have x2 : ∀ X : SameAt wr (fun k => k < wr.heap.size), X.W.cell? ⟨b, of + k * 5 + 2, none⟩ = _ := fun X => X.cell hbl p2
          have x3 : ∀ X : SameAt wr (fun k => k < wr.heap.size), X.W.cell? ⟨b, of + k * 5 + 3, none⟩ = _ := fun X => X.cell hbl p3
          have x4 : ∀ X : SameAt wr (fun k => k < wr.heap.size), X.W.cell? ⟨b, of + k * 5 + 4, none⟩ = _ := fun X => X.cell hbl p4
          have y0 : ∀ X : SameAt wr (fun k => k < wr.heap.size), X.W.cell? ⟨b2, of2 + k * 5, none⟩ = _ := fun X => X.cell hbl2 q0
          have y1 : ∀ X : SameAt wr (fun k => k < wr.heap.size), X.W.cell? ⟨b2, of2 + k * 5 + 1, none⟩ = _ := fun X => X.cell hbl2 q1
          have y2 : ∀ X : SameAt wr (fun k => k < wr.heap.size), X.W.cell? ⟨b2, of2 + k * 5 + 2, none⟩ = _ := fun X => X.cell hbl2 q2
          have y3 : ∀ X : SameAt wr (fun k => k < wr.heap.size), X.W.cell? ⟨b2, of2 + k * 5 + 3, none⟩ = _ := fun X => X.cell hbl2 q3
          have y4 : ∀ X : SameAt wr (fun k => k < wr.heap.size), X.W.cell? ⟨b2, of2 + k * 5 + 4, none⟩ = _ := fun X => X.cell hbl2 q4
          have hmx : Tryd.prog.follows .mixedOrders = true := by kernel_rfl
          have HDR := Lib.hid (show Below wr.heap.size wr wr.drew from ⟨rfl, rfl, rfl, Nat.le_refl _, fun _ _ => rfl⟩)
          clear hval hval2 p0 p1 p2 p3 p4 q0 q1 q2 q3 q4 hB
          generalize ys[k] = T at *
          clear hlt hly
          gi_wp2
          refine wpIn_stage (IsSame wr (fun k => k < wr.heap.size)) [0, 1, 2, 3, 4, 5, 6, 7, 9] [] hmx (by kernel_rfl) (isSame_of fun _ _ => rfl) ?_
          change wpStage _ _ _ _ _ _ _ _ (2 + 8) _ _ _
          refine stage_reads [0, 1, 2, 3, 4, 5, 6, 7] 2 _ _ (by kernel_rfl) ?_
          change wpQuietIn _ _ _ _ (fun W => ∃ x : SameAt wr (fun k => k < wr.heap.size), W = x.W) _ _ _
          simp only [pick_cons, pick_nil, List.getElem?_cons_zero, List.getElem?_cons_succ, Option.elim_some]
          repeat (gi_big_quiet_step (fail))
          refine wpQuietIn_nil ?_
          refine stage_one 8 (by kernel_rfl) rfl ?_
          gi_wp2_with (refine ⟨trivial, ?_⟩; gi_at_call 35; go_loud (refine (callsIn_wide.2 (sameTbl_any Any Any _ _ T T _ (HX.out.below HDR.out) (HY.out.below HDR.out))).mono ?_; rintro e w13 ⟨rfl, hb⟩; rw [eqB_true rfl]; have HB13 := Lib.hid (HDR.out.trans (hb.mono HDR.out.size)); clear hb))
          refine stage_post (isSame_below HB13.out (fun _ h => h)) ?_
          change wpStage _ _ _ _ _ _ _ _ (0 + 1) _ _ _
          refine stage_reads [9] 0 _ _ (by kernel_rfl) ?_
          change wpQuietIn _ _ _ _ (fun W => ∃ x : SameAt wr (fun k => k < wr.heap.size), W = x.W) _ _ _
          simp only [pick_cons, pick_nil, List.getElem?_cons_zero, List.getElem?_cons_succ, Option.elim_some]
          repeat (gi_big_quiet_step (fail))
          refine wpQuietIn_nil ?_
          refine stage_done (by kernel_rfl) ?_
          clear x0 x1 x2 x3 x4 y0 y1 y2 y3 y4
          gi_wp2
          go_roundw
          case rel => exact ⟨k + 1, HLT.out, by go_num, HBR.out.trans (HB13.out.mono HBR.out.size)⟩
          case measure => have := HLT.out; simp [intOf]; omega
        · have hi1 : ¬ (k : Int) < (bs.length : Int) := by omega
          clear hB
          gi_wp2
          refine bodyPost_ret (results_tmp rfl _ _ _) rfl ?_
          exact ⟨rfl, HB12.out.trans (HBR.out.mono HB12.out.size)⟩
end Go.Proofs.YtlocafmglficnaaDoor
