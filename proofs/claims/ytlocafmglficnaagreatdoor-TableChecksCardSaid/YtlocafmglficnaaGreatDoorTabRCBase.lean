/- The reference's Check of a schema. The reference's CheckAll and Schemas. The reference's Check of a table. The reference's CheckBase. -/
import Derived.Test.YtlocafmglficnaaGreatDoorTabRCols
import Derived.OwnWalk
import Derived.Test.YtlocafmglficnaaGreatDoorTabCheckBase
namespace Go.Proofs.YtlocafmglficnaaGreatDoor
open Go.RowKit Go.Maps Go.Sort Go.Shelf

theorem col_atZ {C : TypeId → Nat → Prop} {w : World} {A : Option Addr} {c : Nat} {cs : List Col} (h : SRow colK C w (.slice A cs.length c) cs) {k : Nat} (hk : k < cs.length) :
    ∃ (b o : Nat) (Au : Option Addr) (cu : Nat), A = some ⟨b, o, none⟩ ∧ b < w.heap.size ∧ w.cell? ⟨b, o + k * 4, none⟩ = some (.string cs[k].name) ∧ w.cell? ⟨b, o + k * 4 + 1, none⟩ = some (.int .i64 cs[k].lo) ∧ w.cell? ⟨b, o + k * 4 + 2, none⟩ = some (.int .i64 cs[k].hi) ∧ w.cell? ⟨b, o + k * 4 + 3, none⟩ = some (.slice Au cs[k].words.length cu) ∧
      ColVal C w (.agg #[.string cs[k].name, .int .i64 cs[k].lo, .int .i64 cs[k].hi, .slice Au cs[k].words.length cu]) cs[k] := by
  obtain ⟨A', c', e, _, _, h3⟩ := h.cols
  simp only [Value.slice.injEq, true_and] at e
  obtain ⟨rfl, rfl⟩ := e
  obtain ⟨b, o, eA, hc⟩ := h3 (by omega)
  obtain ⟨u, q0, q1, q2, q3, hr, hs⟩ := hc k hk
  obtain ⟨Au, cu, rfl, _, _⟩ := hr.slice
  exact ⟨b, o, Au, cu, eA, cell_lt q0, q0, q1, q2, q3, _, rfl, hr, hs⟩
theorem any_take {cs : List Col} {k : Nat} {nm : ByteArray} (h : ∀ j (hj : j < cs.length), j < k → cs[j].name ≠ nm) : (cs.take k).any (fun d => decide (d.name = nm)) = false := by
  rw [List.any_eq_false]
  intro d hd
  obtain ⟨j, hj, rfl⟩ := List.mem_take_iff_getElem.1 hd
  simpa using h j (by omega) (by omega)
theorem any_take_hit {cs : List Col} {k j : Nat} {nm : ByteArray} (hj : j < cs.length) (hjk : j < k) (h : cs[j].name = nm) : (cs.take k).any (fun d => decide (d.name = nm)) = true := by
  rw [List.any_eq_true]
  exact ⟨cs[j], List.mem_take_iff_getElem.2 ⟨j, by omega, rfl⟩, by simpa using h⟩

set_option maxRecDepth 100000 in
set_option maxHeartbeats 16000000 in
theorem rcheck_any (C : TypeId → Nat → Prop) (v : Value) (S : Sch) (w : World) (h : SchVal C w v S) :
    Calls Tryz.prog 53 #[v] w fun e w' => e = .returned (.tuple #[.int .i64 (schErr S).1, .int .i64 (schErr S).2]) ∧ Below w.heap.size w w' := by
  obtain ⟨u, rfl, hcs, hs⟩ := h
  obtain ⟨A, cc, rfl, hle, hmx⟩ := hcs.slice
  unfold maxLen at hmx
  have HB0 := Lib.hid (below_alloc w (.cells #[.string S.name, .bool S.pub, .int .i64 S.many, .slice A S.cols.length cc] 34))
  have HBX := Lib.hid (heap_alloc_new w (.cells #[.string S.name, .bool S.pub, .int .i64 S.many, .slice A S.cols.length cc] 34))
  have HCS := Lib.hid (hcs.below HB0.out)
  have hnz := hs.1
  clear hcs hs
  refine (callsIn_wide (n := 6)).1 ?_
  have h1 : 1 ≤ 6 := by omega
  refine callsIn_of_wp Tryz.func53 rfl trivial ?_ rfl
  simp only [Tryz.ntmps53, List.size_toArray, List.length_cons, List.length_nil, Nat.reduceAdd, Nat.reduceSub, Array.replicate_succ, Array.replicate_zero, List.push_toArray, List.append_toArray, List.nil_append, List.cons_append]
  have TK1 : True := trivial
  cases hnm : nameB S.name with
  | false =>
    have HNM := Lib.hid hnm
    have HV := Lib.hid (show schErr S = (19, -1) by unfold schErr; rw [hnm]; rfl)
    clear hnm
    gi_wp2_with (clear TK1; refine ⟨trivial, ?_⟩; gi_at_call 61; refine (callsIn_wide.2 (rname_any S.name _ hnz)).mono ?_; rintro e w1 ⟨rfl, hb⟩; rw [HNM.out]; have HB1 := Lib.hid (HB0.out.trans (hb.mono HB0.out.size)); clear hb)
    refine bodyPost_ret (results_tmp2 rfl _ _ _) rfl ?_
    exact ⟨by rw [HV.out]; rfl, HB1.out⟩
  | true =>
    have HNM := Lib.hid hnm
    have HV := Lib.hid (show schErr S = if manyBad S = true then (2, -1) else if decide (S.cols.length = 0) = true then (3, -1) else if decide (16 < S.cols.length) = true then (4, -1) else colsErr S.cols by unfold schErr; rw [hnm]; rfl)
    clear hnm
    gi_upto_region 3 with (clear TK1; refine ⟨trivial, ?_⟩; gi_at_call 61; refine (callsIn_wide.2 (rname_any S.name _ hnz)).mono ?_; rintro e w1 ⟨rfl, hb⟩; rw [HNM.out]; have HB1 := Lib.hid (HB0.out.trans (hb.mono HB0.out.size)); have HX1 := Lib.hid ((hb.block w.heap.size (by simp)).trans HBX.out); have HC1 := Lib.hid (HCS.out.below hb); clear hb)
    obtain ⟨y1, _⟩ := cellrow HX1.out 1 (by simp)
    obtain ⟨y2, _⟩ := cellrow HX1.out 2 (by simp)
    obtain ⟨y3, _⟩ := cellrow HX1.out 3 (by simp)
    have hbl := cell_lt y1
    obtain ⟨pu, hpu⟩ : ∃ pu, S.pub = pu := ⟨_, rfl⟩
    obtain ⟨mn, hmn⟩ : ∃ mn, S.many = mn := ⟨_, rfl⟩
    have HMB := Lib.hid (show manyBad S = ((pu && mn != 0) || (!pu && (decide (mn < 1) || decide (50 < mn)))) by unfold manyBad; rw [hpu, hmn])
    have z1 : w1.cell? ⟨w.heap.size, 1, none⟩ = some (.bool pu) := hpu ▸ y1
    have z2 : w1.cell? ⟨w.heap.size, 2, none⟩ = some (.int .i64 mn) := hmn ▸ y2
    clear y1 y2 hpu hmn
    gi_cut [13] from 84 (fun c wc => c = .bool (manyBad S) ∧ w1 = wc)
    case first =>
      cases pu
      · by_cases c1 : mn < 1
        · have HM := Lib.hid (show manyBad S = true by rw [HMB.out]; simp [c1])
          gi_wp2
          gi_meet
          case rel => exact ⟨by rw [HM.out], rfl⟩
        · by_cases c2 : 50 < mn
          · have HM := Lib.hid (show manyBad S = true by rw [HMB.out]; simp [c2])
            gi_wp2
            gi_meet
            case rel => exact ⟨by rw [HM.out], rfl⟩
          · have HM := Lib.hid (show manyBad S = false by rw [HMB.out]; simp; omega)
            gi_wp2
            gi_meet
            case rel => exact ⟨by rw [HM.out], rfl⟩
      · by_cases c1 : mn = 0
        · have c2 : (mn != 0) = false := by simp [c1]
          have HM := Lib.hid (show manyBad S = false by rw [HMB.out]; simp [c1])
          gi_wp2
          gi_meet
          case rel => exact ⟨by rw [HM.out], rfl⟩
        · have c2 : (mn != 0) = true := by simp [c1]
          have HM := Lib.hid (show manyBad S = true by rw [HMB.out]; simp [c1])
          gi_wp2
          gi_meet
          case rel => exact ⟨by rw [HM.out], rfl⟩
    case rest =>
      obtain ⟨rfl, rfl⟩ := hcut
      obtain ⟨mb, hmb⟩ : ∃ mb, manyBad S = mb := ⟨_, rfl⟩
      rw [hmb] at HV ⊢
      clear hmb z1 z2 HMB
      cases mb
      · by_cases hl0 : S.cols.length = 0
        · have HV2 := Lib.hid (show schErr S = (3, -1) by rw [HV.out, if_neg (by simp), if_pos (by simp [hl0])])
          have hl0' : (S.cols.length : Int) = 0 := by omega
          have hl0b : ((S.cols.length : Int) == 0) = true := beq_iff_eq.2 hl0'
          gi_wp2
          refine bodyPost_ret (results_tmp2 rfl _ _ _) rfl ?_
          exact ⟨by rw [HV2.out]; rfl, HB1.out⟩
        · have hl0' : (S.cols.length : Int) ≠ 0 := by omega
          have hl0b : ((S.cols.length : Int) == 0) = false := beq_eq_false_iff_ne.2 hl0'
          by_cases hl16 : 16 < S.cols.length
          · have HV2 := Lib.hid (show schErr S = (4, -1) by rw [HV.out, if_neg (by simp), if_neg (by simpa using hl0), if_pos (by simpa using hl16)])
            have hl16' : (16 : Int) < (S.cols.length : Int) := by omega
            gi_wp2
            refine bodyPost_ret (results_tmp2 rfl _ _ _) rfl ?_
            exact ⟨by rw [HV2.out]; rfl, HB1.out⟩
          · have HV2 := Lib.hid (show schErr S = colsErr S.cols by rw [HV.out, if_neg (by simp), if_neg (by simpa using hl0), if_neg (by simpa using hl16)])
            have hl16' : ¬ (16 : Int) < (S.cols.length : Int) := by omega
            gi_wp2
            gi_loopw [4] (fun i wr => ∃ k : Nat, k ≤ S.cols.length ∧ i = .int .i64 k ∧ (∀ j, j < k → errAt S.cols j = 0) ∧ Below w1.heap.size w1 wr) (fun i _ => S.cols.length - (intOf i).toNat)
            case atStart => exact ⟨0, Nat.zero_le _, rfl, fun j hj => by omega, Below.refl _ _⟩
            case round =>
              obtain ⟨k, hk, rfl, hall, hB⟩ := hrel
              have HA := Lib.hid hall
              have HB := Lib.hid hB
              have hk0 : (0 : Int) ≤ (k : Int) := by omega
              have x3 := cell_later hB y3
              have hbw := cell_lt x3
              clear hall
              by_cases hlt : k < S.cols.length
              · have hk1 : (k : Int) < (S.cols.length : Int) := by omega
                have HLT := Lib.hid hlt
                obtain ⟨b, o, Au, cu, eA, hbl2, q0, q1, q2, q3, hcv⟩ := col_atZ (HC1.out.below hB) hlt
                subst eA
                have HCV := Lib.hid hcv
                obtain ⟨_, _, _, hst⟩ := hcv
                have hnz2 := hst.1
                have HHIT := Lib.hid (fun h0 => colsErr_hit hlt HA.out h0)
                have HEA := Lib.hid (errAt_eq hlt)
                have HNX := Lib.hid (show errAt S.cols k = 0 → ∀ j, j < k + 1 → errAt S.cols j = 0 from fun h0 j hj => by
                  rcases Nat.lt_or_ge j k with h | h
                  · exact HA.out j h
                  · obtain rfl : j = k := by omega
                    exact h0)
                have HCK := Lib.hid (HC1.out.below hB)
                clear hst
                generalize S.cols[k] = c at *
                clear hlt
                obtain ⟨wo, rfl⟩ : ∃ wo, wo = wr := ⟨_, rfl⟩
                have HBA := Lib.hid (below_alloc wo (.cells #[.string c.name, .int .i64 c.lo, .int .i64 c.hi, .slice Au c.words.length cu] 25))
                have HBN := Lib.hid (heap_alloc_new wo (.cells #[.string c.name, .int .i64 c.lo, .int .i64 c.hi, .slice Au c.words.length cu] 25))
                have HXW := Lib.hid ((hB.block w.heap.size (Array.getElem?_eq_some_iff.1 HX1.out).1).trans HX1.out)
                have TKA : True := trivial
                clear hB
                cases hcn : nameB c.name with
                | false =>
                  have HCN := Lib.hid hcn
                  have HER := Lib.hid (show errAt S.cols k = 19 by rw [HEA.out]; unfold colErr; rw [if_pos hcn])
                  clear hcn
                  gi_wp2_with (clear TKA; refine ⟨trivial, ?_⟩; gi_at_call 61; refine (callsIn_wide.2 (rname_any c.name _ hnz2)).mono ?_; rintro e w2 ⟨rfl, hb⟩; rw [HCN.out]; have HB2 := Lib.hid (HBA.out.trans (hb.mono HBA.out.size)); clear hb)
                  refine bodyPost_ret (results_tmp2 rfl _ _ _) rfl ?_
                  exact ⟨by rw [HV2.out, HHIT.out (by rw [HER.out]; decide), HER.out]; rfl, HB1.out.trans ((HB.out.trans (HB2.out.mono HB.out.size)).mono HB1.out.size)⟩
                | true =>
                  have HCN := Lib.hid hcn
                  clear hcn
                  gi_wp2_with (clear TKA; refine ⟨trivial, ?_⟩; gi_at_call 61; refine (callsIn_wide.2 (rname_any c.name _ hnz2)).mono ?_; rintro e w2 ⟨rfl, hb⟩; rw [HCN.out]; have HB2 := Lib.hid (HBA.out.trans (hb.mono HBA.out.size)); have HXC := Lib.hid ((hb.block wo.heap.size (by simp)).trans HBN.out); clear hb)
                  have HXS := Lib.hid ((HB2.out.block w.heap.size (Array.getElem?_eq_some_iff.1 HXW.out).1).trans HXW.out)
                  have HCQ := Lib.hid (HCK.out.below HB2.out)
                  have HCW := Lib.hid (HCV.out.below HB2.out)
                  have hc16 : S.cols.length ≤ 16 := by omega
                  clear x3 hbw q0 q1 q2 q3 hbl2
                  gi_loopw [6] (fun i wr => ∃ q : Nat, q ≤ k ∧ i = .int .i64 q ∧ (∀ j (hj : j < S.cols.length), j < q → S.cols[j].name ≠ c.name) ∧ Below w2.heap.size w2 wr) (fun i _ => k - (intOf i).toNat)
                  case atStart => exact ⟨0, Nat.zero_le _, rfl, fun j hj h0 => by omega, Below.refl _ _⟩
                  case round =>
                    obtain ⟨q, hq, rfl, hne, hB3⟩ := hrel
                    have HNE := Lib.hid hne
                    have HB3 := Lib.hid hB3
                    have hq0 : (0 : Int) ≤ (q : Int) := by omega
                    have HXS3 := Lib.hid ((hB3.block w.heap.size (Array.getElem?_eq_some_iff.1 HXS.out).1).trans HXS.out)
                    have HXC3 := Lib.hid ((hB3.block wo.heap.size (Array.getElem?_eq_some_iff.1 HXC.out).1).trans HXC.out)
                    obtain ⟨x3, _⟩ := cellrow HXS3.out 3 (by simp)
                    have hbw := cell_lt x3
                    obtain ⟨b0, _⟩ := cellrow HXC3.out 0 (by simp)
                    obtain ⟨b1, _⟩ := cellrow HXC3.out 1 (by simp)
                    obtain ⟨b2, _⟩ := cellrow HXC3.out 2 (by simp)
                    obtain ⟨b3, _⟩ := cellrow HXC3.out 3 (by simp)
                    have hbb := cell_lt b0
                    clear hne
                    by_cases hqk : q < k
                    · have hq1 : (q : Int) < (k : Int) := by omega
                      have hq2 : (q : Int) < (S.cols.length : Int) := by omega
                      have hql : q < S.cols.length := by omega
                      have HQK := Lib.hid hqk
                      obtain ⟨b', o', Au', cu', eA', hbl2, q0, _, _, _, _⟩ := col_atZ (HCQ.out.below hB3) hql
                      simp only [Option.some.injEq, Addr.mk.injEq, and_true] at eA'
                      obtain ⟨rfl, rfl⟩ := eA'
                      clear hB3
                      have HBQ := Lib.hid (show ∀ n, Below w2.heap.size w2 (wr.drewN n) from fun n => HB3.out.trans ⟨rfl, rfl, rfl, Nat.le_refl _, fun _ _ => rfl⟩)
                      by_cases he : S.cols[q].name = c.name
                      · have HER := Lib.hid (show errAt S.cols k = 8 by rw [HEA.out]; unfold colErr; rw [if_neg (by rw [HCN.out]; simp), if_pos (any_take_hit hql hqk he)])
                        have e1 := beq_str he
                        clear he HNE
                        generalize S.cols[q].name = nq' at *
                        gi_wp2_with fail
                        gi_quiet (fail)
                        gi_wp2_with fail
                        refine bodyPost_ret (results_tmp2 rfl _ _ _) rfl ?_
                        exact ⟨by rw [HV2.out, HHIT.out (by rw [HER.out]; decide), HER.out]; rfl, HB1.out.trans ((HB.out.trans ((HB2.out.trans ((HBQ.out _).mono HB2.out.size)).mono HB.out.size)).mono HB1.out.size)⟩
                      · have HN := Lib.hid (show ∀ j (hj : j < S.cols.length), j < q + 1 → S.cols[j].name ≠ c.name from fun j hj hjq => by
                          rcases Nat.lt_or_ge j q with h | h
                          · exact HNE.out j hj h
                          · obtain rfl : j = q := by omega
                            exact he)
                        have e1 := bne_str he
                        clear he
                        generalize S.cols[q].name = nq' at *
                        gi_wp2_with fail
                        gi_quiet (fail)
                        gi_wp2_with fail
                        go_roundw
                        case rel => exact ⟨q + 1, HQK.out, by go_num, HN.out, HBQ.out _⟩
                        case measure => have := HQK.out; simp [intOf]; omega
                    · obtain rfl : q = k := by omega
                      have HEV := Lib.hid (show errAt S.cols q = valsErr c by rw [HEA.out]; exact colErr_vals HCN.out (any_take fun j hj hjq => HNE.out j hj hjq))
                      have HCC := Lib.hid (HCW.out.below hB3)
                      clear hB3 hqk
                      have TKB : True := trivial
                      obtain ⟨ev, hev⟩ : ∃ ev, valsErr c = ev := ⟨_, rfl⟩
                      rw [hev] at HEV
                      have HVV := Lib.hid hev
                      clear hev
                      by_cases h0 : ev = 0
                      · subst h0
                        gi_wp2_with (clear TKB; refine ⟨trivial, ?_⟩; gi_at_call 62; go_loud (refine (callsIn_wide.2 (rcolumn_any C _ c _ HCC.out)).mono ?_; rintro e w4 ⟨rfl, hb⟩; rw [HVV.out]; have HB4 := Lib.hid (HB3.out.trans (hb.mono HB3.out.size)); clear hb))
                        go_roundw
                        case rel => exact ⟨q + 1, HLT.out, by go_num, HNX.out HEV.out, HB.out.trans ((HB2.out.trans (HB4.out.mono HB2.out.size)).mono HB.out.size)⟩
                        case measure => have := HLT.out; simp [intOf]; omega
                      · have h0d : decide (ev = 0) = false := by simp [h0]
                        have h0b : (ev != 0) = true := by simp [h0]
                        have H0 := Lib.hid h0
                        gi_wp2_with (clear TKB; refine ⟨trivial, ?_⟩; gi_at_call 62; go_loud (refine (callsIn_wide.2 (rcolumn_any C _ c _ HCC.out)).mono ?_; rintro e w4 ⟨rfl, hb⟩; rw [HVV.out]; have HB4 := Lib.hid (HB3.out.trans (hb.mono HB3.out.size)); clear hb))
                        refine bodyPost_ret (results_tmp2 rfl _ _ _) rfl ?_
                        exact ⟨by rw [HV2.out, HHIT.out (by rw [HEV.out]; exact H0.out), HEV.out]; rfl, HB1.out.trans ((HB.out.trans ((HB2.out.trans (HB4.out.mono HB2.out.size)).mono HB.out.size)).mono HB1.out.size)⟩
              · have hk1 : ¬ (k : Int) < (S.cols.length : Int) := by omega
                obtain rfl : k = S.cols.length := by omega
                have HF := Lib.hid (colsErr_miss HA.out)
                clear hB hlt
                gi_wp2
                refine bodyPost_ret (results_tmp2 rfl _ _ _) rfl ?_
                exact ⟨by rw [HV2.out, HF.out]; rfl, HB1.out.trans (HB.out.mono HB1.out.size)⟩
      · have HV2 := Lib.hid (show schErr S = (2, -1) by rw [HV.out, if_pos rfl])
        gi_wp2
        refine bodyPost_ret (results_tmp2 rfl _ _ _) rfl ?_
        exact ⟨by rw [HV2.out]; rfl, HB1.out⟩
end Go.Proofs.YtlocafmglficnaaGreatDoor
namespace Go.Proofs.YtlocafmglficnaaGreatDoor
open Go.RowKit Go.Maps Go.Sort Go.Shelf

theorem any_takeS {ss : List Sch} {k : Nat} {nm : ByteArray} (h : ∀ j (hj : j < ss.length), j < k → ss[j].name ≠ nm) : (ss.take k).any (fun d => decide (d.name = nm)) = false := by
  rw [List.any_eq_false]
  intro d hd
  obtain ⟨j, hj, rfl⟩ := List.mem_take_iff_getElem.1 hd
  simpa using h j (by omega) (by omega)
theorem any_takeS_hit {ss : List Sch} {k j : Nat} {nm : ByteArray} (hj : j < ss.length) (hjk : j < k) (h : ss[j].name = nm) : (ss.take k).any (fun d => decide (d.name = nm)) = true := by
  rw [List.any_eq_true]
  exact ⟨ss[j], List.mem_take_iff_getElem.2 ⟨j, by omega, rfl⟩, by simpa using h⟩

set_option maxRecDepth 100000 in
set_option maxHeartbeats 8000000 in
theorem rcheckAll_any (C : TypeId → Nat → Prop) (v : Value) (ss : List Sch) (w : World) (h : SRow schK C w v ss) :
    Calls Tryz.prog 49 #[v] w fun e w' => e = .returned (.tuple #[.int .i64 (allErr ss).1, .int .i64 (allErr ss).2.1, .int .i64 (allErr ss).2.2]) ∧ Below w.heap.size w w' := by
  have HV := Lib.hid h
  obtain ⟨A, ca, rfl, hl, hm⟩ := h.slice
  unfold maxLen at hm
  clear h
  refine (callsIn_wide (n := 6)).1 ?_
  have h1 : 1 ≤ 6 := by omega
  refine callsIn_of_wp Tryz.func49 rfl trivial ?_ rfl
  simp only [Tryz.ntmps49, List.size_toArray, List.length_cons, List.length_nil, Nat.reduceAdd, Nat.reduceSub, Array.replicate_succ, Array.replicate_zero, List.push_toArray, List.append_toArray, List.nil_append, List.cons_append]
  by_cases hlong : 16 < ss.length
  · have HE := Lib.hid (show allErr ss = (4, 16, -1) by unfold allErr; rw [if_pos hlong])
    have hl2 : (16 : Int) < (ss.length : Int) := by omega
    gi_wp2
    refine bodyPost_ret (results_tmp3 rfl _ _ _) rfl ?_
    exact ⟨by rw [HE.out]; rfl, Below.refl _ _⟩
  · have HE := Lib.hid (show allErr ss = firstOf ss.length (allAt ss) by unfold allErr; rw [if_neg hlong])
    have hl2 : ¬ (16 : Int) < (ss.length : Int) := by omega
    gi_wp2
    gi_loopw [5] (fun i wr => ∃ k : Nat, k ≤ ss.length ∧ i = .int .i64 k ∧ (∀ j, j < k → (allAt ss j).1 = 0) ∧ Below w.heap.size w wr) (fun i _ => ss.length - (intOf i).toNat)
    case atStart => exact ⟨0, Nat.zero_le _, rfl, fun j hj => by omega, Below.refl _ _⟩
    case round =>
      obtain ⟨k, hk, rfl, hall, hB⟩ := hrel
      have HB := Lib.hid hB
      have HA := Lib.hid hall
      have hi0 : (0 : Int) ≤ (k : Int) := by omega
      by_cases hlt : k < ss.length
      · have hi1 : (k : Int) < (ss.length : Int) := by omega
        obtain ⟨b, o, nm, pb, mn, ⟨Au, lu, cu⟩, eA, hbl, hlc, hcm, p0, p1, p2, p3, hval, hnm⟩ := sch_at (HV.out.below hB) hlt
        subst eA
        dsimp only at p3 hval
        unfold maxLen at hcm
        have HG := Lib.hid (show ss[k]?.getD ⟨ByteArray.empty, false, 0, []⟩ = ss[k] by simp [hlt])
        have HHIT := Lib.hid (fun h1 => firstOf_hit (f := allAt ss) hlt HA.out h1)
        have HLT := Lib.hid hlt
        have HAT := Lib.hid (show allAt ss k = if (schErr ss[k]).1 ≠ 0 then ((schErr ss[k]).1, (k : Int), (schErr ss[k]).2) else if (ss.take k).any (fun c => decide (c.name = ss[k].name)) = true then (8, (k : Int), -1) else (0, -1, -1) by unfold allAt; rw [HG.out]; rfl)
        have HNX := Lib.hid (show (allAt ss k).1 = 0 → ∀ j, j < k + 1 → (allAt ss j).1 = 0 from fun h0 j hj => by
          rcases Nat.lt_or_ge j k with h | h
          · exact HA.out j h
          · obtain rfl : j = k := by omega
            exact h0)
        subst hnm
        have HSV := Lib.hid hval
        clear hval HG hall
        generalize ss[k] = S at *
        clear hlt
        obtain ⟨wo, rfl⟩ : ∃ wo, wo = wr := ⟨_, rfl⟩
        obtain ⟨es, hes⟩ : ∃ es, schErr S = es := ⟨_, rfl⟩
        obtain ⟨e1, e2⟩ := es
        rw [hes] at HAT
        have HES := Lib.hid hes
        dsimp only at HAT
        clear hes hB
        have TK1 : True := trivial
        by_cases he : e1 = 0
        · subst he
          have HAT2 := Lib.hid (show allAt ss k = if (ss.take k).any (fun c => decide (c.name = S.name)) = true then (8, (k : Int), -1) else (0, -1, -1) by rw [HAT.out, if_neg (by simp)])
          gi_wp2_with (clear TK1; refine ⟨trivial, ?_⟩; gi_at_call 53; go_loud (refine (callsIn_wide.2 (rcheck_any C _ S _ HSV.out)).mono ?_; rintro e w2 ⟨rfl, hb⟩; rw [HES.out]; have HB2 := Lib.hid (HB.out.trans (hb.mono HB.out.size)); have c0 := cell_later hb p0; clear hb))
          clear p0 p1 p2 p3 hbl
          gi_loopw [8] (fun i wr => ∃ q : Nat, q ≤ k ∧ i = .int .i64 q ∧ (∀ j (hj : j < ss.length), j < q → ss[j].name ≠ S.name) ∧ Below w2.heap.size w2 wr) (fun i _ => k - (intOf i).toNat)
          case atStart => exact ⟨0, Nat.zero_le _, rfl, fun j hj h0 => by omega, Below.refl _ _⟩
          case round =>
            obtain ⟨q, hq, rfl, hne, hB3⟩ := hrel
            have HNE := Lib.hid hne
            have HB3 := Lib.hid hB3
            have hq0 : (0 : Int) ≤ (q : Int) := by omega
            have d0 := cell_later hB3 c0
            have hbd := cell_lt d0
            clear hne
            by_cases hqk : q < k
            · have hq1 : (q : Int) < (k : Int) := by omega
              have hql : q < ss.length := by omega
              have hq2 : (q : Int) < (ss.length : Int) := by omega
              have HQK := Lib.hid hqk
              obtain ⟨b', o', nm', _, _, _, eA', _, _, _, q0, _, _, _, _, hnm'⟩ := sch_at ((HV.out.below HB2.out).below hB3) hql
              simp only [Option.some.injEq, Addr.mk.injEq, and_true] at eA'
              obtain ⟨rfl, rfl⟩ := eA'
              subst hnm'
              clear hB3
              have HBQ := Lib.hid (show ∀ n, Below w2.heap.size w2 (wr.drewN n) from fun n => HB3.out.trans ⟨rfl, rfl, rfl, Nat.le_refl _, fun _ _ => rfl⟩)
              by_cases hs : ss[q].name = S.name
              · have HAK := Lib.hid (show allAt ss k = (8, (k : Int), -1) by rw [HAT2.out, if_pos (any_takeS_hit hql hqk hs)])
                have e1 := beq_str hs
                clear hs HNE
                generalize ss[q].name = nq' at *
                gi_wp2_with fail
                gi_quiet (fail)
                gi_wp2_with fail
                refine bodyPost_ret (results_tmp3 rfl _ _ _) rfl ?_
                exact ⟨by rw [HE.out, HHIT.out (by rw [HAK.out]; simp), HAK.out]; rfl, HB2.out.trans ((HBQ.out _).mono HB2.out.size)⟩
              · have HN := Lib.hid (show ∀ j (hj : j < ss.length), j < q + 1 → ss[j].name ≠ S.name from fun j hj hjq => by
                  rcases Nat.lt_or_ge j q with h | h
                  · exact HNE.out j hj h
                  · obtain rfl : j = q := by omega
                    exact hs)
                have e1 := bne_str hs
                clear hs
                generalize ss[q].name = nq' at *
                gi_wp2_with fail
                gi_quiet (fail)
                gi_wp2_with fail
                go_roundw
                case rel => exact ⟨q + 1, HQK.out, by go_num, HN.out, HBQ.out _⟩
                case measure => have := HQK.out; simp [intOf]; omega
            · obtain rfl : q = k := by omega
              have HAK := Lib.hid (show (allAt ss q).1 = 0 by rw [HAT2.out, if_neg (by rw [any_takeS fun j hj hjq => HNE.out j hj hjq]; simp)])
              clear hB3 hqk
              gi_wp2
              go_roundw
              case rel => exact ⟨q + 1, HLT.out, by go_num, HNX.out HAK.out, HB2.out.trans (HB3.out.mono HB2.out.size)⟩
              case measure => have := HLT.out; simp [intOf]; omega
        · have HAK := Lib.hid (show allAt ss k = (e1, (k : Int), e2) by rw [HAT.out, if_pos he])
          have he1 : decide (e1 = 0) = false := by simp [he]
          have he2 : (e1 != 0) = true := by simp [he]
          have HNE := Lib.hid he
          gi_wp2_with (clear TK1; refine ⟨trivial, ?_⟩; gi_at_call 53; go_loud (refine (callsIn_wide.2 (rcheck_any C _ S _ HSV.out)).mono ?_; rintro e w2 ⟨rfl, hb⟩; rw [HES.out]; have HB2 := Lib.hid (HB.out.trans (hb.mono HB.out.size)); clear hb))
          refine bodyPost_ret (results_tmp3 rfl _ _ _) rfl ?_
          exact ⟨by rw [HE.out, HHIT.out (by rw [HAK.out]; exact HNE.out), HAK.out]; rfl, HB2.out⟩
      · have hi1 : ¬ (k : Int) < (ss.length : Int) := by omega
        obtain rfl : k = ss.length := by omega
        have HF := Lib.hid (firstOf_miss HA.out)
        clear hall hB
        gi_wp2
        refine bodyPost_ret (results_tmp3 rfl _ _ _) rfl ?_
        exact ⟨by rw [HE.out, HF.out]; rfl, HB.out⟩
set_option maxRecDepth 100000 in
set_option maxHeartbeats 2000000 in
theorem rschemas_any (C : TypeId → Nat → Prop) (v : Value) (ts : List Tbl) (w : World) (h : SRow tblK C w v ts) (hs : ∀ T ∈ ts, Small T) (hn : ts.length ≤ 1000000) :
    Calls Tryz.prog 20 #[v] w fun e w' => ∃ v', e = .returned v' ∧ OSeq schK w.heap.size w' v' (ts.map fun T => T.sch) ∧ Below w.heap.size w w' := by
  obtain ⟨A, ca, rfl, hl, hm, hc⟩ := h.tbls
  unfold maxLen at hm
  have HC := Lib.hid hc
  have HS := Lib.hid hs
  clear hc h hs
  obtain ⟨i0, hi, hz0, hz1, hz2⟩ := info_parts info28
  refine (callsIn_wide (n := 6)).1 ?_
  have h1 : 1 ≤ 6 := by omega
  refine callsIn_of_wp Tryz.func20 rfl trivial ?_ rfl
  simp only [Tryz.ntmps20, List.size_toArray, List.length_cons, List.length_nil, Nat.reduceAdd, Nat.reduceSub, Array.replicate_succ, Array.replicate_zero, List.push_toArray, List.append_toArray, List.nil_append, List.cons_append]
  gi_wp2
  gi_loopw [3, 4] (fun u i wr => ∃ k : Nat, k ≤ ts.length ∧ i = .int .i64 k ∧ OSeq schK w.heap.size wr u ((ts.take k).map fun T => T.sch) ∧ Below w.heap.size w wr) (fun _ i _ => ts.length - (intOf i).toNat)
  case atStart => exact ⟨0, Nat.zero_le _, rfl, OSeq.nil _ _ _, Below.refl _ _⟩
  case round =>
    obtain ⟨k, hk, rfl, hseq, hB⟩ := hrel
    have hlen : ((ts.take k).map fun T => T.sch).length = k := by simp; omega
    obtain ⟨Au, cu, e, _, _⟩ := hseq.slice
    rw [hlen] at e
    subst e
    have HQ := Lib.hid hseq
    have HB := Lib.hid hB
    clear hseq hB
    have hi0 : (0 : Int) ≤ (k : Int) := by omega
    by_cases hlt : k < ts.length
    · have hi1 : (k : Int) < (ts.length : Int) := by omega
      obtain ⟨b, of, rfl, hcell⟩ := HC.out (by omega)
      obtain ⟨pu, pv, p0, p1, p2, p3, p4, pr, px, ps⟩ := hcell k hlt
      have pc0 := cell_later HB.out p0
      have pc1 := cell_later HB.out p1
      have pc2 := cell_later HB.out p2
      have pc3 := cell_later HB.out p3
      have pc4 := cell_later HB.out p4
      obtain ⟨pA, pc, rfl, _, _⟩ := pr.slice
      obtain ⟨pB, pd, rfl, _, _⟩ := px.slice
      have HVX := Lib.hid (show SchVal C wr (.agg #[.string ts[k].sch.name, .bool ts[k].sch.pub, .int .i64 ts[k].sch.many, .slice pA ts[k].sch.cols.length pc]) ts[k].sch from ⟨_, rfl, pr.below HB.out, ps⟩)
      have HSM := Lib.hid (HS.out ts[k] (List.getElem_mem hlt))
      have HTK := Lib.hid (show (ts.take (k + 1)).map (fun T => T.sch) = ((ts.take k).map fun T => T.sch) ++ [ts[k].sch] by rw [List.take_succ_eq_append_getElem hlt, List.map_append]; rfl)
      have HPS := Lib.hid ps
      have HLEN := Lib.hid hlen
      have HLT := Lib.hid hlt
      clear hcell p0 p1 p2 p3 p4 pr px ps
      generalize ts[k] = T at *
      clear hlt
      gi_wp2_with (first
        | (refine ⟨trivial, ?_⟩; gi_at_call 51; refine (callsIn_wide.2 (rscopy_any C _ T.sch _ HVX.out HSM.out.1 HSM.out.2.1)).mono ?_; rintro e w1 ⟨cu1, rfl, hcu1, hb1⟩; obtain ⟨A1, c1, rfl, _, _⟩ := hcu1.slice; have hbw := hb1; have hsz1 := hbw.size; have hsz0 := HB.out.size; obtain ⟨us, hraw⟩ := (HQ.out.later hbw).raw; rw [HLEN.out] at hraw; have HUS := Lib.hid (hraw.alloc (.cells #[.string T.sch.name, .bool T.sch.pub, .int .i64 T.sch.many, .slice A1 T.sch.cols.length c1] 34)); have HBW := Lib.hid (HB.out.trans (hbw.mono HB.out.size)); have HBX := Lib.hid hbw; have HCU := Lib.hid (hcu1.row.ownBase (base' := w.heap.size) (by omega)); clear hcu1 hbw hraw; have HNW := Lib.hid (four_new w1 (.string T.sch.name) (.bool T.sch.pub) (.int .i64 T.sch.many) (.slice A1 T.sch.cols.length c1) 34))
        | (gi_at_builtin; go_loud (refine wpListIn_append_own _ rfl _ _ 45 rfl w.heap.size 34 i0 _ 4 56 Tryz.underlying45 hi hz0 hz1 hz2 rfl (by decide) _ _ us rfl HUS.out ⟨w1.heap.size, 0, none⟩ 1 1 [.string T.sch.name, .bool T.sch.pub, .int .i64 T.sch.many, .slice A1 T.sch.cols.length c1] rfl rfl HNW.out (by simp [Value.oneCell']) (by unfold maxLen; omega) (by omega) (by simp; omega) ?_; intro v1 w6 hown1 hgrow1 _; obtain ⟨Av1, cv1, rfl⟩ := slice_of hown1; have HST := Lib.hid ((HQ.out.later HBX.out).push (K := schK) (by decide) (x := T.sch) ⟨_, rfl, HCU.out, HPS.out⟩ (by rw [HLEN.out]; exact HUS.out) (by rw [HLEN.out]; exact hown1) hgrow1); have HB6 := Lib.hid (grow_below (HBW.out.trans ((below_alloc _ _).mono HBW.out.size)) (by simp; omega) HUS.out hgrow1); clear hown1 hgrow1)))
      go_roundw
      case rel => exact ⟨k + 1, HLT.out, by go_num, by rw [HTK.out]; exact HST.out, HB6.out⟩
      case measure => have := HLT.out; simp [intOf]; omega
    · obtain rfl : k = ts.length := by omega
      have HF := Lib.hid (show OSeq schK w.heap.size wr (.slice Au ts.length cu) (ts.map fun T => T.sch) by
        have := HQ.out
        rwa [List.take_of_length_le (Nat.le_refl _)] at this)
      clear hlt
      gi_wp2
      refine bodyPost_ret (results_tmp rfl _ _ _) rfl ?_
      exact ⟨_, rfl, HF.out, HB.out⟩
end Go.Proofs.YtlocafmglficnaaGreatDoor
namespace Go.Proofs.YtlocafmglficnaaGreatDoor
open Go.RowKit Go.Maps Go.Sort Go.Shelf

theorem row_atZ {C : TypeId → Nat → Prop} {w : World} {A : Option Addr} {c : Nat} {rs : List RowV} (h : SRow rowK C w (.slice A rs.length c) rs) {k : Nat} (hk : k < rs.length) :
    ∃ (b o : Nat) (Av : Option Addr) (cv : Nat), A = some ⟨b, o, none⟩ ∧ b < w.heap.size ∧ w.cell? ⟨b, o + k * 2, none⟩ = some (.int .i64 rs[k].owner) ∧ w.cell? ⟨b, o + k * 2 + 1, none⟩ = some (.slice Av rs[k].vals.length cv) ∧ SRow intK C w (.slice Av rs[k].vals.length cv) rs[k].vals ∧ Fit rs[k].owner := by
  obtain ⟨A', c', e, _, _, h3⟩ := h
  simp only [Value.slice.injEq, true_and] at e
  obtain ⟨rfl, rfl⟩ := e
  obtain ⟨b, o, eA, _, hb, hx⟩ := h3 (by omega)
  obtain ⟨l, ⟨u, rfl, hr, hf⟩, hc⟩ := hx k rs[k] (by simp [hk])
  obtain ⟨Av, cv, rfl, _, _⟩ := hr.slice
  exact ⟨b, o, Av, cv, eA, hb, by simpa [rowK] using hc 0 _ rfl, by simpa [rowK] using hc 1 _ rfl, hr, hf⟩
theorem int_atY {C : TypeId → Nat → Prop} {w : World} {A : Option Addr} {c : Nat} {zs : List Int} (h : SRow intK C w (.slice A zs.length c) zs) {j : Nat} (hj : j < zs.length) : ∃ b o, A = some ⟨b, o, none⟩ ∧ w.cell? ⟨b, o + j, none⟩ = some (.int .i64 zs[j]) ∧ Fit zs[j] := by
  obtain ⟨A', c', e, _, _, hf, h3⟩ := h.ints
  simp only [Value.slice.injEq, true_and] at e
  obtain ⟨rfl, rfl⟩ := e
  obtain ⟨b, o, eA, hx⟩ := h3 (by omega)
  exact ⟨b, o, eA, hx j hj, hf j hj⟩
theorem cnt_next {rs : List RowV} {q : Nat} (hq : q < rs.length) (o : Int) : cnt (rs.take (q + 1)) o = cnt (rs.take q) o + if rs[q].owner = o then 1 else 0 := by
  unfold cnt
  rw [List.take_succ_eq_append_getElem hq, List.countP_append]
  congr 1
  by_cases h : rs[q].owner = o <;> simp [h]
theorem cnt_leL (rs : List RowV) (o : Int) : cnt rs o ≤ rs.length := List.countP_le_length

set_option maxRecDepth 100000 in
set_option maxHeartbeats 16000000 in
theorem rtcheck_any (C : TypeId → Nat → Prop) (v : Value) (T : Tbl) (w : World) (h : TblVal C w v T) (hn : T.rows.length ≤ 1000000) :
    Calls Tryz.prog 22 #[v] w fun e w' => e = .returned (.tuple #[.int .i64 (tblErr T).1, .int .i64 (tblErr T).2]) ∧ Below w.heap.size w w' := by
  obtain ⟨cu, ru, rfl, hcols, hrows, hst⟩ := h
  obtain ⟨Ac, cc, rfl, hcl, hcm⟩ := hcols.slice
  obtain ⟨Ar, cr, rfl, hrl, hrm⟩ := hrows.slice
  unfold maxLen at hcm hrm
  have HB0 := Lib.hid (below_alloc w (.cells #[.string T.sch.name, .bool T.sch.pub, .int .i64 T.sch.many, .slice Ac T.sch.cols.length cc, .slice Ar T.rows.length cr] 37))
  have HBX := Lib.hid (heap_alloc_new w (.cells #[.string T.sch.name, .bool T.sch.pub, .int .i64 T.sch.many, .slice Ac T.sch.cols.length cc, .slice Ar T.rows.length cr] 37))
  have HC0 := Lib.hid (hcols.below HB0.out)
  have HR0 := Lib.hid (hrows.below HB0.out)
  have HSV := Lib.hid (show SchVal C (w.alloc (.cells #[.string T.sch.name, .bool T.sch.pub, .int .i64 T.sch.many, .slice Ac T.sch.cols.length cc, .slice Ar T.rows.length cr] 37)) (.agg #[.string T.sch.name, .bool T.sch.pub, .int .i64 T.sch.many, .slice Ac T.sch.cols.length cc]) T.sch from ⟨_, rfl, hcols.below HB0.out, hst⟩)
  clear hcols hrows hst
  refine (callsIn_wide (n := 6)).1 ?_
  have h1 : 1 ≤ 6 := by omega
  refine callsIn_of_wp Tryz.func22 rfl trivial ?_ rfl
  simp only [Tryz.ntmps22, List.size_toArray, List.length_cons, List.length_nil, Nat.reduceAdd, Nat.reduceSub, Array.replicate_succ, Array.replicate_zero, List.push_toArray, List.append_toArray, List.nil_append, List.cons_append]
  obtain ⟨es, hes⟩ : ∃ es, schErr T.sch = es := ⟨_, rfl⟩
  obtain ⟨e1, e2⟩ := es
  have HES := Lib.hid hes
  have HTE := Lib.hid (show tblErr T = if e1 ≠ 0 then (3, -1) else if 2000 < T.rows.length then (4, -1) else firstErr T.rows.length (rowErr T) by unfold tblErr; rw [hes])
  clear hes
  have TK1 : True := trivial
  by_cases he : e1 = 0
  case neg =>
    have HV := Lib.hid (show tblErr T = (3, -1) by rw [HTE.out, if_pos he])
    have he1 : decide (e1 = 0) = false := by simp [he]
    have he2 : (e1 != 0) = true := by simp [he]
    gi_wp2_with (clear TK1; refine ⟨trivial, ?_⟩; gi_at_call 53; go_loud (refine (callsIn_wide.2 (rcheck_any C _ T.sch _ HSV.out)).mono ?_; rintro e w1 ⟨rfl, hb⟩; rw [HES.out]; have HB1 := Lib.hid (HB0.out.trans (hb.mono HB0.out.size)); clear hb))
    refine bodyPost_ret (results_tmp2 rfl _ _ _) rfl ?_
    exact ⟨by rw [HV.out]; rfl, HB1.out⟩
  case pos =>
    subst he
    by_cases hlong : 2000 < T.rows.length
    · have HV := Lib.hid (show tblErr T = (4, -1) by rw [HTE.out, if_neg (by simp), if_pos hlong])
      have hlong' : (2000 : Int) < (T.rows.length : Int) := by omega
      gi_wp2_with (clear TK1; refine ⟨trivial, ?_⟩; gi_at_call 53; go_loud (refine (callsIn_wide.2 (rcheck_any C _ T.sch _ HSV.out)).mono ?_; rintro e w1 ⟨rfl, hb⟩; rw [HES.out]; have HB1 := Lib.hid (HB0.out.trans (hb.mono HB0.out.size)); obtain ⟨y4, _⟩ := cellrow ((hb.block w.heap.size (by simp)).trans HBX.out) 4 (by simp); have hbl := cell_lt y4; clear hb))
      refine bodyPost_ret (results_tmp2 rfl _ _ _) rfl ?_
      exact ⟨by rw [HV.out]; rfl, HB1.out⟩
    · have HV := Lib.hid (show tblErr T = firstErr T.rows.length (rowErr T) by rw [HTE.out, if_neg (by simp), if_neg hlong])
      have hlong' : ¬ (2000 : Int) < (T.rows.length : Int) := by omega
      gi_wp2_with (clear TK1; refine ⟨trivial, ?_⟩; gi_at_call 53; go_loud (refine (callsIn_wide.2 (rcheck_any C _ T.sch _ HSV.out)).mono ?_; rintro e w1 ⟨rfl, hb⟩; rw [HES.out]; have HB1 := Lib.hid (HB0.out.trans (hb.mono HB0.out.size)); have HX1 := Lib.hid ((hb.block w.heap.size (by simp)).trans HBX.out); have HC1 := Lib.hid (HC0.out.below hb); have HR1 := Lib.hid (HR0.out.below hb); obtain ⟨y4, _⟩ := cellrow HX1.out 4 (by simp); have hbl := cell_lt y4; clear hb))
      gi_loopw [6] (fun i wr => ∃ k : Nat, k ≤ T.rows.length ∧ i = .int .i64 k ∧ (∀ j, j < k → rowErr T j = 0) ∧ Below w1.heap.size w1 wr) (fun i _ => T.rows.length - (intOf i).toNat)
      case atStart => exact ⟨0, Nat.zero_le _, rfl, fun j hj => by omega, Below.refl _ _⟩
      case round =>
        obtain ⟨k, hk, rfl, hall, hB⟩ := hrel
        have HA := Lib.hid hall
        have HB := Lib.hid hB
        have hk0 : (0 : Int) ≤ (k : Int) := by omega
        have HXW := Lib.hid ((hB.block w.heap.size (Array.getElem?_eq_some_iff.1 HX1.out).1).trans HX1.out)
        obtain ⟨x1, _⟩ := cellrow HXW.out 1 (by simp)
        obtain ⟨x3, _⟩ := cellrow HXW.out 3 (by simp)
        obtain ⟨x4, _⟩ := cellrow HXW.out 4 (by simp)
        have hbw := cell_lt x4
        clear hall
        by_cases hlt : k < T.rows.length
        · have hk1 : (k : Int) < (T.rows.length : Int) := by omega
          have HLT := Lib.hid hlt
          obtain ⟨b, o, Av, cv, eA, hbl2, q0, q1, hrv, hfo⟩ := row_atZ (HR1.out.below hB) hlt
          subst eA
          have HRV := Lib.hid hrv
          have HHIT := Lib.hid (fun h0 => firstErr_hit (f := rowErr T) hlt HA.out h0)
          have HG := Lib.hid (show T.rows[k]?.getD default = T.rows[k] by rw [List.getElem?_eq_getElem hlt]; rfl)
          have HRE := Lib.hid (show rowErr T k = if T.rows[k].vals.length ≠ T.sch.cols.length then 3 else if ownBad T.sch.pub T.rows[k].owner = true then 2 else if valsBad T.sch.cols T.rows[k].vals = true then 2 else if (!T.sch.pub && decide (T.sch.many < (cnt (T.rows.take (k + 1)) T.rows[k].owner : Int))) = true then 12 else 0 by unfold rowErr; rw [HG.out])
          have HNX := Lib.hid (show rowErr T k = 0 → ∀ j, j < k + 1 → rowErr T j = 0 from fun h0 j hj => by
            rcases Nat.lt_or_ge j k with h | h
            · exact HA.out j h
            · obtain rfl : j = k := by omega
              exact h0)
          clear HG hrv
          generalize T.rows[k] = r at *
          clear hlt
          obtain ⟨wo, rfl⟩ : ∃ wo, wo = wr := ⟨_, rfl⟩
          have HBA := Lib.hid (below_alloc wo (.cells #[.int .i64 r.owner, .slice Av r.vals.length cv] 53))
          have HBN := Lib.hid (heap_alloc_new wo (.cells #[.int .i64 r.owner, .slice Av r.vals.length cv] 53))
          have HCK := Lib.hid (HC1.out.below hB)
          have HRK := Lib.hid (HR1.out.below hB)
          clear hB
          by_cases hlen : r.vals.length = T.sch.cols.length
          case neg =>
            have HER := Lib.hid (show rowErr T k = 3 by rw [HRE.out, if_pos hlen])
            have hne' : (r.vals.length : Int) ≠ (T.sch.cols.length : Int) := by omega
            have hneb : ((r.vals.length : Int) == (T.sch.cols.length : Int)) = false := beq_eq_false_iff_ne.2 hne'
            clear hlen
            gi_wp2
            refine bodyPost_ret (results_tmp2 rfl _ _ _) rfl ?_
            exact ⟨by rw [HV.out, HHIT.out (by rw [HER.out]; decide), HER.out]; rfl, HB1.out.trans ((HB.out.trans (HBA.out.mono HB.out.size)).mono HB1.out.size)⟩
          case pos =>
            have HRE2 := Lib.hid (show rowErr T k = if ownBad T.sch.pub r.owner = true then 2 else if valsBad T.sch.cols r.vals = true then 2 else if (!T.sch.pub && decide (T.sch.many < (cnt (T.rows.take (k + 1)) r.owner : Int))) = true then 12 else 0 by rw [HRE.out, if_neg (by omega)])
            have heq' : (r.vals.length : Int) = (T.sch.cols.length : Int) := by omega
            have heqb : ((r.vals.length : Int) == (T.sch.cols.length : Int)) = true := beq_iff_eq.2 heq'
            have HLEN := Lib.hid hlen
            clear hlen
            gi_upto_region 12 with fail
            have HRV1 := Lib.hid (HRV.out.below HBA.out)
            have HC2 := Lib.hid (HCK.out.below HBA.out)
            have HR2 := Lib.hid (HRK.out.below HBA.out)
            have HXT := Lib.hid ((HBA.out.block w.heap.size (Array.getElem?_eq_some_iff.1 HXW.out).1).trans HXW.out)
            have HBW := Lib.hid (HB.out.trans (HBA.out.mono HB.out.size))
            change Code.wpIn _ _ _ _ _ _ (wo.alloc (.cells #[.int .i64 r.owner, .slice Av r.vals.length cv] 53))
            generalize wo.alloc (.cells #[.int .i64 r.owner, .slice Av r.vals.length cv] 53) = W1 at *
            generalize wo.heap.size = bx at *
            clear x1 x3 x4 hbw q0 q1 hbl2 heq' heqb
            obtain ⟨y1, _⟩ := cellrow HXT.out 1 (by simp)
            obtain ⟨y2, _⟩ := cellrow HXT.out 2 (by simp)
            obtain ⟨r0, _⟩ := cellrow HBN.out 0 (by simp)
            have hbt := cell_lt y1
            have hbr := cell_lt r0
            obtain ⟨pu, hpu⟩ : ∃ pu, T.sch.pub = pu := ⟨_, rfl⟩
            have z1 : W1.cell? ⟨w.heap.size, 1, none⟩ = some (.bool pu) := hpu ▸ y1
            obtain ⟨ow, how⟩ : ∃ ow, r.owner = ow := ⟨_, rfl⟩
            have z0 : W1.cell? ⟨bx, 0, none⟩ = some (.int .i64 ow) := how ▸ r0
            have HPU := Lib.hid hpu
            have HOW := Lib.hid how
            have HOB := Lib.hid (show ownBad T.sch.pub r.owner = ((pu && ow != 0) || (!pu && (decide (ow < 1) || decide (1000000 < ow)))) by unfold ownBad; rw [hpu, how])
            clear y1 r0 hpu how
            gi_cut [68] from 130 (fun c wc => c = .bool (ownBad T.sch.pub r.owner) ∧ W1 = wc)
            case first =>
              cases pu
              · by_cases c1 : ow < 1
                · have HM := Lib.hid (show ownBad T.sch.pub r.owner = true by rw [HOB.out]; simp [c1])
                  gi_wp2
                  gi_meet
                  case rel => exact ⟨by rw [HM.out], rfl⟩
                · by_cases c2 : 1000000 < ow
                  · have HM := Lib.hid (show ownBad T.sch.pub r.owner = true by rw [HOB.out]; simp [c2])
                    gi_wp2
                    gi_meet
                    case rel => exact ⟨by rw [HM.out], rfl⟩
                  · have HM := Lib.hid (show ownBad T.sch.pub r.owner = false by rw [HOB.out]; simp; omega)
                    gi_wp2
                    gi_meet
                    case rel => exact ⟨by rw [HM.out], rfl⟩
              · by_cases c1 : ow = 0
                · have c2 : (ow != 0) = false := by simp [c1]
                  have HM := Lib.hid (show ownBad T.sch.pub r.owner = false by rw [HOB.out]; simp [c1])
                  gi_wp2
                  gi_meet
                  case rel => exact ⟨by rw [HM.out], rfl⟩
                · have c2 : (ow != 0) = true := by simp [c1]
                  have HM := Lib.hid (show ownBad T.sch.pub r.owner = true by rw [HOB.out]; simp [c1])
                  gi_wp2
                  gi_meet
                  case rel => exact ⟨by rw [HM.out], rfl⟩
            case rest =>
              obtain ⟨rfl, rfl⟩ := hcut
              obtain ⟨ob, hob⟩ : ∃ ob, ownBad T.sch.pub r.owner = ob := ⟨_, rfl⟩
              rw [hob] at HRE2 ⊢
              clear hob HOB z1 z0 y2 hbt hbr
              cases ob
              case true =>
                have HER := Lib.hid (show rowErr T k = 2 by rw [HRE2.out, if_pos rfl])
                gi_wp2
                refine bodyPost_ret (results_tmp2 rfl _ _ _) rfl ?_
                exact ⟨by rw [HV.out, HHIT.out (by rw [HER.out]; decide), HER.out]; rfl, HB1.out.trans (HBW.out.mono HB1.out.size)⟩
              case false =>
                have HRE3 := Lib.hid (show rowErr T k = if valsBad T.sch.cols r.vals = true then 2 else if (!T.sch.pub && decide (T.sch.many < (cnt (T.rows.take (k + 1)) r.owner : Int))) = true then 12 else 0 by rw [HRE2.out, if_neg (by simp)])
                gi_wp2
                gi_loopw [8] (fun i wr => ∃ q : Nat, q ≤ r.vals.length ∧ i = .int .i64 q ∧ (∀ j, j < q → valBad T.sch.cols r.vals j = false) ∧ Below W1.heap.size W1 wr) (fun i _ => r.vals.length - (intOf i).toNat)
                case atStart => exact ⟨0, Nat.zero_le _, rfl, fun j hj => by omega, Below.refl _ _⟩
                case round =>
                  obtain ⟨q, hq, rfl, hvb, hB2⟩ := hrel
                  have HVB := Lib.hid hvb
                  have HB2 := Lib.hid hB2
                  have hq0 : (0 : Int) ≤ (q : Int) := by omega
                  have HXT2 := Lib.hid ((hB2.block w.heap.size (Array.getElem?_eq_some_iff.1 HXT.out).1).trans HXT.out)
                  have HBN2 := Lib.hid ((hB2.block bx (Array.getElem?_eq_some_iff.1 HBN.out).1).trans HBN.out)
                  obtain ⟨x3, _⟩ := cellrow HXT2.out 3 (by simp)
                  obtain ⟨r1, _⟩ := cellrow HBN2.out 1 (by simp)
                  have hbw := cell_lt x3
                  have hbr := cell_lt r1
                  clear hvb
                  by_cases hql : q < r.vals.length
                  · have hq1 : (q : Int) < (r.vals.length : Int) := by omega
                    have hqc : q < T.sch.cols.length := by have := HLEN.out; omega
                    have hq2 : (q : Int) < (T.sch.cols.length : Int) := by omega
                    have HQL := Lib.hid hql
                    obtain ⟨b', o', Au, cu', eA', hbc, p0, p1, p2, p3, _⟩ := col_atZ (HC2.out.below hB2) hqc
                    obtain ⟨b3, o3, eV, v0, _⟩ := int_atY (HRV1.out.below hB2) hql
                    subst eA' eV
                    have hbv := cell_lt v0
                    have HGB := Lib.hid (show valBad T.sch.cols r.vals q = (decide (r.vals[q] < T.sch.cols[q].lo) || decide (T.sch.cols[q].hi < r.vals[q])) by unfold valBad; rw [List.getElem?_eq_getElem hql, List.getElem?_eq_getElem hqc]; rfl)
                    have HVN := Lib.hid (show valBad T.sch.cols r.vals q = false → ∀ j, j < q + 1 → valBad T.sch.cols r.vals j = false from fun h0 j hj => by
                      rcases Nat.lt_or_ge j q with h | h
                      · exact HVB.out j h
                      · obtain rfl : j = q := by omega
                        exact h0)
                    have HVY := Lib.hid (show valBad T.sch.cols r.vals q = true → rowErr T k = 2 from fun h0 => by
                      rw [HRE3.out, if_pos]
                      unfold valsBad
                      rw [List.any_eq_true]
                      exact ⟨q, List.mem_range.2 hqc, h0⟩)
                    clear hB2
                    generalize T.sch.cols[q] = c at *
                    generalize r.vals[q] = x at *
                    clear hql hqc
                    gi_upto_region 18 with fail
                    have HBC := Lib.hid (below_alloc wr (.cells #[.string c.name, .int .i64 c.lo, .int .i64 c.hi, .slice Au c.words.length cu'] 25))
                    have HBX2 := Lib.hid (heap_alloc_new wr (.cells #[.string c.name, .int .i64 c.lo, .int .i64 c.hi, .slice Au c.words.length cu'] 25))
                    have HBZ := Lib.hid (HB2.out.trans (HBC.out.mono HB2.out.size))
                    have v1 := cell_later HBC.out v0
                    have s1 := cell_later HBC.out r1
                    change Code.wpIn _ _ _ _ _ _ (wr.alloc (.cells #[.string c.name, .int .i64 c.lo, .int .i64 c.hi, .slice Au c.words.length cu'] 25))
                    generalize wr.alloc (.cells #[.string c.name, .int .i64 c.lo, .int .i64 c.hi, .slice Au c.words.length cu'] 25) = W3 at *
                    generalize wr.heap.size = bc at *
                    obtain ⟨d1, _⟩ := cellrow HBX2.out 1 (by simp)
                    obtain ⟨d2, _⟩ := cellrow HBX2.out 2 (by simp)
                    have hbd := cell_lt d1
                    have hbv1 := cell_lt v1
                    have hbs1 := cell_lt s1
                    have HBQ := Lib.hid (show ∀ n, Below W1.heap.size W1 (W3.drewN n) from fun n => HBZ.out.trans ⟨rfl, rfl, rfl, Nat.le_refl _, fun _ _ => rfl⟩)
                    clear x3 r1 hbw hbr p0 p1 p2 p3 v0 hbv hbc
                    by_cases g1 : x < c.lo
                    · have g1d : decide (x < c.lo) = true := decide_eq_true g1
                      have HER := Lib.hid (HVY.out (by rw [HGB.out]; simp [g1]))
                      gi_wp2_with fail
                      gi_quiet (fail)
                      gi_wp2_with fail
                      refine bodyPost_ret (results_tmp2 rfl _ _ _) rfl ?_
                      exact ⟨by rw [HV.out, HHIT.out (by rw [HER.out]; decide), HER.out]; rfl, HB1.out.trans ((HBW.out.trans ((HBQ.out _).mono HBW.out.size)).mono HB1.out.size)⟩
                    · have g1d : decide (x < c.lo) = false := decide_eq_false g1
                      by_cases g2 : c.hi < x
                      · have g2d : decide (c.hi < x) = true := decide_eq_true g2
                        have HER := Lib.hid (HVY.out (by rw [HGB.out]; simp [g2]))
                        gi_wp2_with fail
                        gi_quiet (fail)
                        gi_wp2_with fail
                        refine bodyPost_ret (results_tmp2 rfl _ _ _) rfl ?_
                        exact ⟨by rw [HV.out, HHIT.out (by rw [HER.out]; decide), HER.out]; rfl, HB1.out.trans ((HBW.out.trans ((HBQ.out _).mono HBW.out.size)).mono HB1.out.size)⟩
                      · have g2d : decide (c.hi < x) = false := decide_eq_false g2
                        have HVF := Lib.hid (HVN.out (by rw [HGB.out, decide_eq_false g1, decide_eq_false g2]; rfl))
                        gi_wp2_with fail
                        gi_quiet (fail)
                        gi_wp2_with fail
                        go_roundw
                        case rel => exact ⟨q + 1, HQL.out, by go_num, HVF.out, HBQ.out _⟩
                        case measure => have := HQL.out; simp [intOf]; omega
                  · have hq1 : ¬ (q : Int) < (r.vals.length : Int) := by omega
                    obtain rfl : q = r.vals.length := by omega
                    have HRE4 := Lib.hid (show rowErr T k = if (!T.sch.pub && decide (T.sch.many < (cnt (T.rows.take (k + 1)) r.owner : Int))) = true then 12 else 0 by
                      rw [HRE3.out, if_neg]
                      unfold valsBad
                      rw [← HLEN.out, Bool.not_eq_true, List.any_eq_false]
                      intro j hj
                      rw [HVB.out j (List.mem_range.1 hj)]
                      simp)
                    obtain ⟨W2, rfl⟩ : ∃ W2, W2 = wr := ⟨_, rfl⟩
                    have HR3 := Lib.hid (HR2.out.below hB2)
                    have HBV := Lib.hid (HBW.out.trans (hB2.mono HBW.out.size))
                    have hcl := cnt_leL T.rows r.owner
                    clear hql hB2
                    gi_wp2
                    gi_loopw [10, 11] (fun u i wr => ∃ q : Nat, q ≤ k + 1 ∧ i = .int .i64 q ∧ u = .int .i64 (cnt (T.rows.take q) r.owner : Int) ∧ Below W2.heap.size W2 wr) (fun _ i _ => k + 1 - (intOf i).toNat)
                    case atStart => exact ⟨0, Nat.zero_le _, rfl, rfl, Below.refl _ _⟩
                    case round =>
                      obtain ⟨q, hq, rfl, rfl, hB3⟩ := hrel
                      have HB3 := Lib.hid hB3
                      have hq0 : (0 : Int) ≤ (q : Int) := by omega
                      have HXT3 := Lib.hid ((hB3.block w.heap.size (Array.getElem?_eq_some_iff.1 HXT2.out).1).trans HXT2.out)
                      have HBN3 := Lib.hid ((hB3.block bx (Array.getElem?_eq_some_iff.1 HBN2.out).1).trans HBN2.out)
                      obtain ⟨x1, _⟩ := cellrow HXT3.out 1 (by simp)
                      obtain ⟨x2, _⟩ := cellrow HXT3.out 2 (by simp)
                      obtain ⟨x4, _⟩ := cellrow HXT3.out 4 (by simp)
                      obtain ⟨r0, _⟩ := cellrow HBN3.out 0 (by simp)
                      have hbw := cell_lt x4
                      have hbr := cell_lt r0
                      have hct := (show cnt (T.rows.take q) r.owner ≤ T.rows.length from Nat.le_trans (cnt_leL _ _) (by simp; omega))
                      by_cases hqk : q ≤ k
                      · have hq1 : (q : Int) ≤ (k : Int) := by omega
                        have hqr : q < T.rows.length := by have := HLT.out; omega
                        have hq2 : (q : Int) < (T.rows.length : Int) := by omega
                        have HQK := Lib.hid hqk
                        obtain ⟨b5, o5, _, _, eA5, hb5, t0, _, _, _⟩ := row_atZ (HR3.out.below hB3) hqr
                        simp only [Option.some.injEq, Addr.mk.injEq, and_true] at eA5
                        obtain ⟨rfl, rfl⟩ := eA5
                        have HCN := Lib.hid (cnt_next hqr r.owner)
                        have HBQ := Lib.hid (show ∀ n, Below W2.heap.size W2 (wr.drewN n) from fun n => HB3.out.trans ⟨rfl, rfl, rfl, Nat.le_refl _, fun _ _ => rfl⟩)
                        clear hB3
                        by_cases ho : T.rows[q].owner = r.owner
                        · have HCE := Lib.hid (show cnt (T.rows.take (q + 1)) r.owner = cnt (T.rows.take q) r.owner + 1 by rw [HCN.out, if_pos ho])
                          rw [ho] at t0
                          clear ho HCN
                          generalize cnt (T.rows.take q) r.owner = cq at *
                          gi_wp2_with fail
                          gi_quiet (fail)
                          gi_wp2_with fail
                          go_roundw
                          case rel => exact ⟨q + 1, by have := HQK.out; omega, by go_num, by rw [HCE.out]; go_num, HBQ.out _⟩
                          case measure => have := HQK.out; simp [intOf]; omega
                        · have HCE := Lib.hid (show cnt (T.rows.take (q + 1)) r.owner = cnt (T.rows.take q) r.owner by rw [HCN.out, if_neg ho]; rfl)
                          have hod : decide (T.rows[q].owner = r.owner) = false := by simp [ho]
                          have hob : (T.rows[q].owner == r.owner) = false := by simp [ho]
                          clear HCN
                          generalize T.rows[q].owner = oq at *
                          generalize cnt (T.rows.take q) r.owner = cq at *
                          gi_wp2_with fail
                          gi_quiet (fail)
                          gi_wp2_with fail
                          go_roundw
                          case rel => exact ⟨q + 1, by have := HQK.out; omega, by go_num, by rw [HCE.out], HBQ.out _⟩
                          case measure => have := HQK.out; simp [intOf]; omega
                      · have hq1 : ¬ (q : Int) ≤ (k : Int) := by omega
                        obtain rfl : q = k + 1 := by omega
                        clear hB3 hqk
                        generalize cnt (T.rows.take (k + 1)) r.owner = cq at *
                        obtain ⟨mn, hmn⟩ : ∃ mn, T.sch.many = mn := ⟨_, rfl⟩
                        replace x2 : wr.cell? ⟨w.heap.size, 2, none⟩ = some (.int .i64 mn) := hmn ▸ x2
                        rw [hmn] at HRE4
                        clear hmn
                        replace x1 : wr.cell? ⟨w.heap.size, 1, none⟩ = some (.bool pu) := HPU.out ▸ x1
                        have HRE5 := Lib.hid (show rowErr T k = if (!pu && decide (mn < (cq : Int))) = true then 12 else 0 by rw [HRE4.out, HPU.out])
                        have HBF := Lib.hid (HBV.out.trans (HB3.out.mono HBV.out.size))
                        cases pu
                        · by_cases hm : mn < (cq : Int)
                          · have hmd : decide (mn < (cq : Int)) = true := decide_eq_true hm
                            have HER := Lib.hid (show rowErr T k = 12 by rw [HRE5.out, if_pos (by simp [hm])])
                            gi_wp2
                            refine bodyPost_ret (results_tmp2 rfl _ _ _) rfl ?_
                            exact ⟨by rw [HV.out, HHIT.out (by rw [HER.out]; decide), HER.out]; rfl, HB1.out.trans (HBF.out.mono HB1.out.size)⟩
                          · have hmd : decide (mn < (cq : Int)) = false := decide_eq_false hm
                            have HER := Lib.hid (HNX.out (by rw [HRE5.out, if_neg (by simp [hm])]))
                            gi_wp2
                            go_roundw
                            case rel => exact ⟨k + 1, HLT.out, by go_num, HER.out, HBF.out⟩
                            case measure => have := HLT.out; simp [intOf]; omega
                        · have HER := Lib.hid (HNX.out (by rw [HRE5.out, if_neg (by simp)]))
                          gi_wp2
                          go_roundw
                          case rel => exact ⟨k + 1, HLT.out, by go_num, HER.out, HBF.out⟩
                          case measure => have := HLT.out; simp [intOf]; omega
        · have hk1 : ¬ (k : Int) < (T.rows.length : Int) := by omega
          obtain rfl : k = T.rows.length := by omega
          have HF := Lib.hid (firstErr_miss HA.out)
          clear hB hlt
          gi_wp2
          refine bodyPost_ret (results_tmp2 rfl _ _ _) rfl ?_
          exact ⟨by rw [HV.out, HF.out]; rfl, HB1.out.trans (HB.out.mono HB1.out.size)⟩
end Go.Proofs.YtlocafmglficnaaGreatDoor
namespace Go.Proofs.YtlocafmglficnaaGreatDoor
open Go.RowKit Go.Maps Go.Sort Go.Shelf

set_option maxRecDepth 100000 in
set_option maxHeartbeats 4000000 in
theorem rcheckBase_any (C : TypeId → Nat → Prop) (v : Value) (ts : List Tbl) (w : World) (h : SRow tblK C w v ts) (hs : ∀ T ∈ ts, Small T) (hn : ts.length ≤ 1000000) :
    Calls Tryz.prog 17 #[v] w fun e w' => e = .returned (.tuple #[.int .i64 (baseErr ts).1, .int .i64 (baseErr ts).2.1, .int .i64 (baseErr ts).2.2]) ∧ Below w.heap.size w w' := by
  have HV := Lib.hid h
  have HSM := Lib.hid hs
  obtain ⟨A, ca, rfl, hl, hm⟩ := h.slice
  unfold maxLen at hm
  clear h hs
  refine (callsIn_wide (n := 6)).1 ?_
  have h1 : 1 ≤ 6 := by omega
  refine callsIn_of_wp Tryz.func17 rfl trivial ?_ rfl
  simp only [Tryz.ntmps17, List.size_toArray, List.length_cons, List.length_nil, Nat.reduceAdd, Nat.reduceSub, Array.replicate_succ, Array.replicate_zero, List.push_toArray, List.append_toArray, List.nil_append, List.cons_append]
  obtain ⟨ea, hea⟩ : ∃ ea, allErr (ts.map fun T => T.sch) = ea := ⟨_, rfl⟩
  obtain ⟨a1, a2, a3⟩ := ea
  have HEA := Lib.hid hea
  have HBE := Lib.hid (show baseErr ts = if a1 ≠ 0 then (a1, a2, -1) else firstOf ts.length (tblAt ts) by unfold baseErr; rw [hea])
  clear hea
  have TK1 : True := trivial
  gi_wp2_with (clear TK1; refine ⟨trivial, ?_⟩; gi_at_call 20; refine (callsIn_wide.2 (rschemas_any C _ ts _ HV.out HSM.out hn)).mono ?_; rintro e w1 ⟨v1, rfl, ho, hb⟩; have HO := Lib.hid ho.any; have HB1 := Lib.hid hb; clear ho hb)
  by_cases he : a1 = 0
  · subst he
    have HE := Lib.hid (show baseErr ts = firstOf ts.length (tblAt ts) by rw [HBE.out, if_neg (by simp)])
    have TK2 : True := trivial
    gi_wp2_with (clear TK2; refine ⟨trivial, ?_⟩; gi_at_call 49; refine (callsIn_wide.2 (rcheckAll_any Any _ _ _ HO.out)).mono ?_; rintro e w2 ⟨rfl, hb⟩; rw [HEA.out]; have HB2 := Lib.hid (HB1.out.trans (hb.mono HB1.out.size)); clear hb)
    gi_loopw [8] (fun i wr => ∃ k : Nat, k ≤ ts.length ∧ i = .int .i64 k ∧ (∀ j, j < k → (tblAt ts j).1 = 0) ∧ Below w.heap.size w wr) (fun i _ => ts.length - (intOf i).toNat)
    case atStart => exact ⟨0, Nat.zero_le _, rfl, fun j hj => by omega, HB2.out⟩
    case round =>
      obtain ⟨k, hk, rfl, hall, hB⟩ := hrel
      have HB := Lib.hid hB
      have HA := Lib.hid hall
      have hi0 : (0 : Int) ≤ (k : Int) := by omega
      by_cases hlt : k < ts.length
      · have hi1 : (k : Int) < (ts.length : Int) := by omega
        obtain ⟨b, of, ca', nm, pb, mn, ⟨A4, l4, d4⟩, ⟨A5, l5, d5⟩, e1, hbl, p0, p1, p2, p3, p4, hval⟩ := tbl_at2 (HV.out.below hB) hlt
        simp only [Value.slice.injEq, true_and] at e1
        obtain ⟨rfl, rfl⟩ := e1
        dsimp only at p3 p4 hval
        have HX := Lib.hid hval
        have HRL := Lib.hid (HSM.out ts[k] (List.getElem_mem hlt)).2.2.1
        have HG := Lib.hid (show ts[k]?.getD noT = ts[k] by simp [hlt])
        have HHIT := Lib.hid (fun h1 => firstOf_hit (f := tblAt ts) hlt HA.out h1)
        have HLT := Lib.hid hlt
        have HAT := Lib.hid (show tblAt ts k = if (tblErr ts[k]).1 ≠ 0 then ((tblErr ts[k]).1, (k : Int), (tblErr ts[k]).2) else (0, -1, -1) by unfold tblAt; rw [HG.out]; rfl)
        clear HG hall hval
        generalize ts[k] = T at *
        clear hlt
        obtain ⟨es, hes⟩ : ∃ es, tblErr T = es := ⟨_, rfl⟩
        obtain ⟨e1, e2⟩ := es
        rw [hes] at HAT
        have HES := Lib.hid hes
        dsimp only at HAT
        clear hes hB
        have TK3 : True := trivial
        by_cases he : e1 = 0
        · subst he
          have HAK := Lib.hid (show tblAt ts k = (0, -1, -1) by rw [HAT.out, if_neg (by simp)])
          gi_wp2_with (clear TK3; refine ⟨trivial, ?_⟩; gi_at_call 22; go_loud (refine (callsIn_wide.2 (rtcheck_any C _ T _ HX.out HRL.out)).mono ?_; rintro e w3 ⟨rfl, hb⟩; rw [HES.out]; have HB3 := Lib.hid hb; clear hb))
          go_roundw
          case rel => exact ⟨k + 1, HLT.out, by go_num, fun j hj => by
            rcases Nat.lt_or_ge j k with h | h
            · exact HA.out j h
            · obtain rfl : j = k := by omega
              rw [HAK.out], HB.out.trans (HB3.out.mono HB.out.size)⟩
          case measure => have := HLT.out; simp [intOf]; omega
        · have HAK := Lib.hid (show tblAt ts k = (e1, (k : Int), e2) by rw [HAT.out, if_pos he])
          have he1 : decide (e1 = 0) = false := by simp [he]
          have he2 : (e1 != 0) = true := by simp [he]
          have HNE := Lib.hid he
          gi_wp2_with (clear TK3; refine ⟨trivial, ?_⟩; gi_at_call 22; go_loud (refine (callsIn_wide.2 (rtcheck_any C _ T _ HX.out HRL.out)).mono ?_; rintro e w3 ⟨rfl, hb⟩; rw [HES.out]; have HB3 := Lib.hid hb; clear hb))
          refine bodyPost_ret (results_tmp3 rfl _ _ _) rfl ?_
          exact ⟨by rw [HE.out, HHIT.out (by rw [HAK.out]; exact HNE.out), HAK.out]; rfl, HB.out.trans (HB3.out.mono HB.out.size)⟩
      · have hi1 : ¬ (k : Int) < (ts.length : Int) := by omega
        obtain rfl : k = ts.length := by omega
        have HF := Lib.hid (firstOf_miss HA.out)
        clear hall hB
        gi_wp2
        refine bodyPost_ret (results_tmp3 rfl _ _ _) rfl ?_
        exact ⟨by rw [HE.out, HF.out]; rfl, HB.out⟩
  · have HE := Lib.hid (show baseErr ts = (a1, a2, -1) by rw [HBE.out, if_pos he])
    have he1 : decide (a1 = 0) = false := by simp [he]
    have he2 : (a1 != 0) = true := by simp [he]
    have TK2 : True := trivial
    gi_wp2_with (clear TK2; refine ⟨trivial, ?_⟩; gi_at_call 49; refine (callsIn_wide.2 (rcheckAll_any Any _ _ _ HO.out)).mono ?_; rintro e w2 ⟨rfl, hb⟩; rw [HEA.out]; have HB2 := Lib.hid (HB1.out.trans (hb.mono HB1.out.size)); clear hb)
    refine bodyPost_ret (results_tmp3 rfl _ _ _) rfl ?_
    exact ⟨by rw [HE.out]; rfl, HB2.out⟩
end Go.Proofs.YtlocafmglficnaaGreatDoor
