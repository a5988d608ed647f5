/- The reference's equality of schemas. -/
import Derived.Test.YtlocafmglficnaaGreatDoorTabRSame
namespace Go.Proofs.YtlocafmglficnaaGreatDoor
open Go.RowKit Go.Maps Go.Sort Go.Shelf

attribute [local go_sem] Oper.semAt_some
set_option maxRecDepth 100000 in
set_option maxHeartbeats 16000000 in
theorem rsameSch_any (C C' : TypeId → Nat → Prop) (v v' : Value) (c d : Sch) (w : World) (h : SchVal C w v c) (h' : SchVal C' w v' d) :
    Calls Tryz.prog 23 #[v, v'] w fun e w' => e = .returned (.bool (eqB c d)) ∧ Below w.heap.size w w' := by
  obtain ⟨cn, cp, cm, cl⟩ := c
  obtain ⟨dn, dp, dm, dl⟩ := d
  obtain ⟨u, rfl, hlast, _⟩ := h
  obtain ⟨u', rfl, hlast', _⟩ := h'
  dsimp only at hlast hlast'
  obtain ⟨A, ca, rfl, hl, hm, hc⟩ := hlast.cols
  obtain ⟨B, cb, rfl, hl', hm', hd⟩ := hlast'.cols
  unfold maxLen at hm hm'
  have HC := Lib.hid hc
  have HD := Lib.hid hd
  have HB := Lib.hid (show Below w.heap.size w ((w.alloc (.cells #[.string cn, .bool cp, .int .i64 cm, .slice A cl.length ca] 34)).alloc (.cells #[.string dn, .bool dp, .int .i64 dm, .slice B dl.length cb] 34)) by go_grown)
  clear hlast hlast' hc hd
  by_cases n0 : cn = dn
  case neg =>
    have HV := Lib.hid (show eqB (⟨cn, cp, cm, cl⟩ : Sch) ⟨dn, dp, dm, dl⟩ = false from eqB_false (fun e => n0 (schEq.1 e).1))
    have e0 : (cn.toList == dn.toList) = false := str_ne n0
    clear n0
    go_enter Tryz.func23, Tryz.ntmps23
    go_wp2
    go_ret
    exact ⟨by rw [HV.out]; rfl, HB.out⟩
  have e0 : (cn.toList == dn.toList) = true := str_eq n0
  have N0 := Lib.hid n0
  clear n0
  by_cases n1 : cp = dp
  case neg =>
    have HV := Lib.hid (show eqB (⟨cn, cp, cm, cl⟩ : Sch) ⟨dn, dp, dm, dl⟩ = false from eqB_false (fun e => n1 (schEq.1 e).2.1))
    cases cp <;> cases dp <;> first
      | exact absurd rfl n1
      | skip
    all_goals
      clear n1
      go_enter Tryz.func23, Tryz.ntmps23
      go_wp2
      go_ret
      exact ⟨by rw [HV.out]; rfl, HB.out⟩
  subst n1
  by_cases n2 : cm = dm
  case neg =>
    have HV := Lib.hid (show eqB (⟨cn, cp, cm, cl⟩ : Sch) ⟨dn, cp, dm, dl⟩ = false from eqB_false (fun e => n2 (schEq.1 e).2.2.1))
    have e2 : (cm != dm) = true := by simpa using n2
    clear n2
    go_enter Tryz.func23, Tryz.ntmps23
    go_wp2
    go_ret
    exact ⟨by rw [HV.out]; rfl, HB.out⟩
  have e2 : (cm != dm) = false := by simpa using n2
  have N2 := Lib.hid n2
  clear n2
  by_cases n3 : cl.length = dl.length
  case neg =>
    have HV := Lib.hid (show eqB (⟨cn, cp, cm, cl⟩ : Sch) ⟨dn, cp, dm, dl⟩ = false from eqB_false (fun e => n3 (by have := (schEq.1 e).2.2.2; simp only at this; rw [this])))
    have e3 : ((cl.length : Int) != (dl.length : Int)) = true := by simpa using fun e => n3 (by omega)
    clear n3
    go_enter Tryz.func23, Tryz.ntmps23
    go_wp2
    go_ret
    exact ⟨by rw [HV.out]; rfl, HB.out⟩
  have e3 : ((cl.length : Int) != (dl.length : Int)) = false := by simp [n3]
  have N3 := Lib.hid n3
  clear n3
  refine (callsIn_wide (n := 6)).1 ?_
  have h1 : 1 ≤ 6 := by omega
  refine callsIn_of_wp Tryz.func23 rfl trivial ?_ rfl
  simp only [Tryz.ntmps23, List.size_toArray, List.length_cons, List.length_nil, Nat.reduceAdd, Nat.reduceSub, Array.replicate_succ, Array.replicate_zero, List.push_toArray, List.append_toArray, List.nil_append, List.cons_append]
  gi_wp2
  have HXB := Lib.hid (show ((w.alloc (.cells #[.string cn, .bool cp, .int .i64 cm, .slice A cl.length ca] 34)).alloc (.cells #[.string dn, .bool cp, .int .i64 dm, .slice B dl.length cb] 34)).cell? ⟨w.heap.size, 3, none⟩ = some (.slice A cl.length ca) from cell_later (below_alloc _ _) (cell_newk _ _ _ _ _ _ rfl rfl))
  have HYB := Lib.hid (show ((w.alloc (.cells #[.string cn, .bool cp, .int .i64 cm, .slice A cl.length ca] 34)).alloc (.cells #[.string dn, .bool cp, .int .i64 dm, .slice B dl.length cb] 34)).cell? ⟨w.heap.size + 1, 3, none⟩ = some (.slice B dl.length cb) from cell_newk _ _ _ _ _ _ (by simp) rfl)
  have hszW : w.heap.size + 1 < ((w.alloc (.cells #[.string cn, .bool cp, .int .i64 cm, .slice A cl.length ca] 34)).alloc (.cells #[.string dn, .bool cp, .int .i64 dm, .slice B dl.length cb] 34)).heap.size := by simp
  generalize ((w.alloc (.cells #[.string cn, .bool cp, .int .i64 cm, .slice A cl.length ca] 34)).alloc (.cells #[.string dn, .bool cp, .int .i64 dm, .slice B dl.length cb] 34)) = W0 at *
  gi_loopw [5] (fun i wr => ∃ k : Nat, k ≤ cl.length ∧ i = .int .i64 k ∧ (∀ j (h1 : j < cl.length) (h2 : j < dl.length), j < k → cl[j] = dl[j]) ∧ Below W0.heap.size W0 wr) (fun i _ => cl.length - (intOf i).toNat)
  case atStart => exact ⟨0, Nat.zero_le _, rfl, fun j _ _ hj => by omega, Below.refl _ _⟩
  case round =>
    obtain ⟨k, hk, rfl, he, hB⟩ := hrel
    have HE := Lib.hid he
    have HBR := Lib.hid hB
    have hsr := hB.size
    have xb := cell_later hB HXB.out
    have yb := cell_later hB HYB.out
    have HWR := Lib.hid (HB.out.trans (hB.mono HB.out.size))
    clear he hB
    have hi0 : (0 : Int) ≤ (k : Int) := by omega
    by_cases hlt : k < cl.length
    · have hlt' : k < dl.length := by have := N3.out; omega
      obtain ⟨b, o, rfl, hcell⟩ := HC.out (by omega)
      obtain ⟨b2, o2, rfl, hcell2⟩ := HD.out (by omega)
      obtain ⟨pu, p0, p1, p2, p3, pr, _⟩ := hcell k hlt
      obtain ⟨qu, q0, q1, q2, q3, qr, _⟩ := hcell2 k hlt'
      obtain ⟨pA, pc, rfl, hpl, hpm, _, hpv⟩ := pr.strs
      obtain ⟨qA, qc, rfl, hql, hqm, _, hqv⟩ := qr.strs
      unfold maxLen at hpm hqm
      have hi1 : (k : Int) < (cl.length : Int) := by omega
      have hi2 : (k : Int) < (dl.length : Int) := by omega
      have HXY := Lib.hid (show ∀ j (h1 : j < cl.length) (h2 : j < dl.length), cl[k] = dl[k] → j < k + 1 → cl[j] = dl[j] from fun j h1 h2 e hj => by
        rcases Nat.lt_or_ge j k with h | h
        · exact HE.out j h1 h2 h
        · obtain rfl : j = k := by omega
          exact e)
      have HNE := Lib.hid (show cl[k] ≠ dl[k] → (⟨cn, cp, cm, cl⟩ : Sch) ≠ ⟨dn, cp, dm, dl⟩ from fun hne e => hne (by have := (schEq.1 e).2.2.2; simp only at this; subst this; rfl))
      have hb := World.block_lt_of_cell? w _ p0
      have hb2 := World.block_lt_of_cell? w _ q0
      simp only at hb hb2
      have HPV := Lib.hid hpv
      have HQV := Lib.hid hqv
      have HLT := Lib.hid hlt
      have hwr := HWR.out.size
      have hbr : b < wr.heap.size := by omega
      have hbr2 : b2 < wr.heap.size := by omega
      have xX : ∀ X : SameAt wr (fun k => k < wr.heap.size), X.W.cell? ⟨w.heap.size, 3, none⟩ = some (.slice (some ⟨b, o, none⟩) cl.length ca) := fun X => X.cell (by omega) xb
      have xY : ∀ X : SameAt wr (fun k => k < wr.heap.size), X.W.cell? ⟨w.heap.size + 1, 3, none⟩ = some (.slice (some ⟨b2, o2, none⟩) dl.length cb) := fun X => X.cell (by omega) yb
      have x0 : ∀ X : SameAt wr (fun k => k < wr.heap.size), X.W.cell? ⟨b, o + k * 4, none⟩ = _ := fun X => X.cell hbr (cell_later HWR.out p0)
      have x1 : ∀ X : SameAt wr (fun k => k < wr.heap.size), X.W.cell? ⟨b, o + k * 4 + 1, none⟩ = _ := fun X => X.cell hbr (cell_later HWR.out p1)
      have x2 : ∀ X : SameAt wr (fun k => k < wr.heap.size), X.W.cell? ⟨b, o + k * 4 + 2, none⟩ = _ := fun X => X.cell hbr (cell_later HWR.out p2)
      have x3 : ∀ X : SameAt wr (fun k => k < wr.heap.size), X.W.cell? ⟨b, o + k * 4 + 3, none⟩ = _ := fun X => X.cell hbr (cell_later HWR.out p3)
      have y0 : ∀ X : SameAt wr (fun k => k < wr.heap.size), X.W.cell? ⟨b2, o2 + k * 4, none⟩ = _ := fun X => X.cell hbr2 (cell_later HWR.out q0)
      have y1 : ∀ X : SameAt wr (fun k => k < wr.heap.size), X.W.cell? ⟨b2, o2 + k * 4 + 1, none⟩ = _ := fun X => X.cell hbr2 (cell_later HWR.out q1)
      have y2 : ∀ X : SameAt wr (fun k => k < wr.heap.size), X.W.cell? ⟨b2, o2 + k * 4 + 2, none⟩ = _ := fun X => X.cell hbr2 (cell_later HWR.out q2)
      have y3 : ∀ X : SameAt wr (fun k => k < wr.heap.size), X.W.cell? ⟨b2, o2 + k * 4 + 3, none⟩ = _ := fun X => X.cell hbr2 (cell_later HWR.out q3)
      have hmx : Tryz.prog.follows .mixedOrders = true := by kernel_rfl
      clear hcell hcell2 p0 p1 p2 p3 q0 q1 q2 q3 pr qr hpv hqv
      generalize cl[k] = x at *
      generalize dl[k] = y at *
      clear hlt hlt'
      gi_wp2
      refine wpIn_stage (IsSame wr (fun k => k < wr.heap.size)) [0, 1, 2, 3, 4, 5, 6, 7, 8, 9] [13] hmx (by kernel_rfl) (isSame_of fun _ _ => rfl) ?_
      change wpStage _ _ _ _ _ _ _ _ (4 + 10) _ _ _
      refine stage_reads [0, 1, 2, 3, 4, 5, 6, 7, 8, 9] 4 _ _ (by kernel_rfl) ?_
      change wpQuietIn _ _ _ _ (fun W => ∃ x : SameAt wr (fun k => k < wr.heap.size), W = x.W) _ _ _
      simp only [pick_cons, pick_nil, List.getElem?_cons_zero, List.getElem?_cons_succ, Option.elim_some]
      repeat (gi_big_quiet_step (fail))
      refine wpQuietIn_nil ?_
      clear xX xY x0 x1 x2 x3 y0 y1 y2 y3
      refine stage_two 10 11 (by kernel_rfl) rfl rfl ?_ ?_
      · gi_wp2
        refine stage_post (isSame_below (show Below wr.heap.size wr _ by go_grown) (fun _ h => h)) ?_
        refine stage_one 11 (by kernel_rfl) rfl ?_
        gi_wp2
        refine stage_post (isSame_below (show Below wr.heap.size wr _ by go_grown) (fun _ h => h)) ?_
        refine stage_one 12 (by kernel_rfl) rfl ?_
        gi_wp2
        refine stage_post (isSame_below (show Below wr.heap.size wr _ by go_grown) (fun _ h => h)) ?_
        refine stage_one 13 (by kernel_rfl) rfl ?_
        gi_wp2
        refine stage_last (by kernel_rfl) ?_
        refine stage_done (by kernel_rfl) ?_
        have htw := two_at wr (.cells #[.string x.name, .int .i64 x.lo, .int .i64 x.hi, .slice pA x.words.length pc] 25) (.cells #[.string y.name, .int .i64 y.lo, .int .i64 y.hi, .slice qA y.words.length qc] 25)
        have HX6 := Lib.hid (box4_of htw.1)
        have HX7 := Lib.hid (box4_of htw.2.1)
        have HWF := Lib.hid (HWR.out.trans (htw.2.2.mono hwr))
        have HW0 := Lib.hid (HBR.out.trans (htw.2.2.mono HBR.out.size))
        clear htw
        generalize ((wr.alloc (.cells #[.string x.name, .int .i64 x.lo, .int .i64 x.hi, .slice pA x.words.length pc] 25)).alloc (.cells #[.string y.name, .int .i64 y.lo, .int .i64 y.hi, .slice qA y.words.length qc] 25)).drew = Wf at *
        generalize wr.heap.size + 1 = p7 at *
        generalize wr.heap.size = p6 at *
        have HFR := Lib.hid (Below.refl Wf.heap.size Wf)
        obtain ⟨z0, z1, z2, z3⟩ := HX6.out _ HFR.out
        obtain ⟨z4, z5, z6, z7⟩ := HX7.out _ HFR.out
        by_cases m0 : x.name = y.name
        case neg =>
          have HV := Lib.hid (eqB_false (HNE.out fun e => m0 (colEq.1 e).1))
          have f0 : (x.name.toList == y.name.toList) = false := str_ne m0
          clear m0
          gi_wp2
          refine bodyPost_ret (results_tmp rfl _ _ _) rfl ?_
          exact ⟨by rw [HV.out]; rfl, HWF.out⟩
        have f0 : (x.name.toList == y.name.toList) = true := str_eq m0
        have M0 := Lib.hid m0
        clear m0
        by_cases m1 : x.lo = y.lo
        case neg =>
          have HV := Lib.hid (eqB_false (HNE.out fun e => m1 (colEq.1 e).2.1))
          have f1 : (x.lo != y.lo) = true := by simpa using m1
          clear m1
          gi_wp2
          refine bodyPost_ret (results_tmp rfl _ _ _) rfl ?_
          exact ⟨by rw [HV.out]; rfl, HWF.out⟩
        have f1 : (x.lo != y.lo) = false := by simpa using m1
        have M1 := Lib.hid m1
        clear m1
        by_cases m2 : x.hi = y.hi
        case neg =>
          have HV := Lib.hid (eqB_false (HNE.out fun e => m2 (colEq.1 e).2.2.1))
          have f2 : (x.hi != y.hi) = true := by simpa using m2
          clear m2
          gi_wp2
          refine bodyPost_ret (results_tmp rfl _ _ _) rfl ?_
          exact ⟨by rw [HV.out]; rfl, HWF.out⟩
        have f2 : (x.hi != y.hi) = false := by simpa using m2
        have M2 := Lib.hid m2
        clear m2
        by_cases m3 : x.words.length = y.words.length
        case neg =>
          have HV := Lib.hid (eqB_false (HNE.out fun e => m3 (by rw [(colEq.1 e).2.2.2])))
          have f3 : ((x.words.length : Int) != (y.words.length : Int)) = true := by simpa using fun e => m3 (by omega)
          clear m3
          gi_wp2
          refine bodyPost_ret (results_tmp rfl _ _ _) rfl ?_
          exact ⟨by rw [HV.out]; rfl, HWF.out⟩
        have f3 : ((x.words.length : Int) != (y.words.length : Int)) = false := by simp [m3]
        have M3 := Lib.hid m3
        clear m3
        gi_wp2
        clear z0 z1 z2 z3 z4 z5 z6 z7
        gi_loopw [8] (fun j wi => ∃ q : Nat, q ≤ x.words.length ∧ j = .int .i64 q ∧ (∀ m (h1 : m < x.words.length) (h2 : m < y.words.length), m < q → x.words[m] = y.words[m]) ∧ Below Wf.heap.size Wf wi) (fun j _ => x.words.length - (intOf j).toNat)
        case atStart => exact ⟨0, Nat.zero_le _, rfl, fun m _ _ hm => by omega, HFR.out⟩
        case round =>
          obtain ⟨q, hq, rfl, hev, hBi⟩ := hrel
          have HEV := Lib.hid hev
          have HBI := Lib.hid hBi
          obtain ⟨z0, z1, z2, z3⟩ := HX6.out _ hBi
          obtain ⟨z4, z5, z6, z7⟩ := HX7.out _ hBi
          have HWI := Lib.hid (HWF.out.trans (hBi.mono HWF.out.size))
          clear hev hBi
          have hj0 : (0 : Int) ≤ (q : Int) := by omega
          by_cases hqlt : q < x.words.length
          · have hqlt' : q < y.words.length := by have := M3.out; omega
            obtain ⟨rb, ro, rfl, hrc⟩ := HPV.out (by omega)
            obtain ⟨rb2, ro2, rfl, hrc2⟩ := HQV.out (by omega)
            have ri := cell_later HWI.out (hrc q hqlt)
            have ri2 := cell_later HWI.out (hrc2 q hqlt')
            have hj1 : (q : Int) < (x.words.length : Int) := by omega
            have hj2 : (q : Int) < (y.words.length : Int) := by omega
            have HXV := Lib.hid (show ∀ m (h1 : m < x.words.length) (h2 : m < y.words.length), x.words[q] = y.words[q] → m < q + 1 → x.words[m] = y.words[m] from fun m h1 h2 e hm => by
              rcases Nat.lt_or_ge m q with h | h
              · exact HEV.out m h1 h2 h
              · obtain rfl : m = q := by omega
                exact e)
            have HNV := Lib.hid (show x.words[q] ≠ y.words[q] → (⟨cn, cp, cm, cl⟩ : Sch) ≠ ⟨dn, cp, dm, dl⟩ from fun hne => HNE.out fun e => hne (by
              have := (colEq.1 e).2.2.2
              simp only [this]))
            have HQL := Lib.hid hqlt
            clear hrc hrc2
            generalize x.words[q] = sa at *
            generalize y.words[q] = sc at *
            clear hqlt hqlt'
            by_cases hac : sa = sc
            · have hne3 : (sa.toList == sc.toList) = true := str_eq hac
              have HX := Lib.hid (show ∀ m (h1 : m < x.words.length) (h2 : m < y.words.length), m < q + 1 → x.words[m] = y.words[m] from fun m h1 h2 hm => HXV.out m h1 h2 hac hm)
              clear hac
              gi_wp2_with fail
              gi_quiet (fail)
              gi_wp2_with fail
              go_roundw
              case rel => exact ⟨q + 1, HQL.out, by go_num, HX.out, below_drewN' HBI.out _⟩
              case measure => have := HQL.out; simp [intOf]; omega
            · have hne3 : (sa.toList == sc.toList) = false := str_ne hac
              have HV := Lib.hid (eqB_false (HNV.out hac))
              clear hac
              gi_wp2_with fail
              gi_quiet (fail)
              gi_wp2_with fail
              refine bodyPost_ret (results_tmp rfl _ _ _) rfl ?_
              exact ⟨by rw [HV.out]; rfl, below_drewN' HWI.out _⟩
          · have hj1 : ¬ (q : Int) < (x.words.length : Int) := by omega
            obtain rfl : q = x.words.length := by omega
            have HX := Lib.hid (show ∀ j (h1 : j < cl.length) (h2 : j < dl.length), j < k + 1 → cl[j] = dl[j] from fun j h1 h2 hj => HXY.out j h1 h2 (colEq.2 ⟨M0.out, M1.out, M2.out, List.ext_getElem M3.out fun m h1 h2 => HEV.out m h1 h2 h1⟩) hj)
            clear hqlt
            gi_wp2
            go_roundw
            case rel => exact ⟨k + 1, HLT.out, by go_num, HX.out, HW0.out.trans (HBI.out.mono HW0.out.size)⟩
            case measure => have := HLT.out; simp [intOf]; omega
      · gi_wp2
        refine stage_post (isSame_below (show Below wr.heap.size wr _ by go_grown) (fun _ h => h)) ?_
        refine stage_one 10 (by kernel_rfl) rfl ?_
        gi_wp2
        refine stage_post (isSame_below (show Below wr.heap.size wr _ by go_grown) (fun _ h => h)) ?_
        refine stage_one 12 (by kernel_rfl) rfl ?_
        gi_wp2
        refine stage_post (isSame_below (show Below wr.heap.size wr _ by go_grown) (fun _ h => h)) ?_
        refine stage_one 13 (by kernel_rfl) rfl ?_
        gi_wp2
        refine stage_last (by kernel_rfl) ?_
        refine stage_done (by kernel_rfl) ?_
        have htw := two_at wr (.cells #[.string y.name, .int .i64 y.lo, .int .i64 y.hi, .slice qA y.words.length qc] 25) (.cells #[.string x.name, .int .i64 x.lo, .int .i64 x.hi, .slice pA x.words.length pc] 25)
        have HX6 := Lib.hid (box4_of htw.2.1)
        have HX7 := Lib.hid (box4_of htw.1)
        have HWF := Lib.hid (HWR.out.trans (htw.2.2.mono hwr))
        have HW0 := Lib.hid (HBR.out.trans (htw.2.2.mono HBR.out.size))
        clear htw
        generalize ((wr.alloc (.cells #[.string y.name, .int .i64 y.lo, .int .i64 y.hi, .slice qA y.words.length qc] 25)).alloc (.cells #[.string x.name, .int .i64 x.lo, .int .i64 x.hi, .slice pA x.words.length pc] 25)).drew = Wf at *
        generalize wr.heap.size + 1 = p6 at *
        generalize wr.heap.size = p7 at *
        have HFR := Lib.hid (Below.refl Wf.heap.size Wf)
        obtain ⟨z0, z1, z2, z3⟩ := HX6.out _ HFR.out
        obtain ⟨z4, z5, z6, z7⟩ := HX7.out _ HFR.out
        by_cases m0 : x.name = y.name
        case neg =>
          have HV := Lib.hid (eqB_false (HNE.out fun e => m0 (colEq.1 e).1))
          have f0 : (x.name.toList == y.name.toList) = false := str_ne m0
          clear m0
          gi_wp2
          refine bodyPost_ret (results_tmp rfl _ _ _) rfl ?_
          exact ⟨by rw [HV.out]; rfl, HWF.out⟩
        have f0 : (x.name.toList == y.name.toList) = true := str_eq m0
        have M0 := Lib.hid m0
        clear m0
        by_cases m1 : x.lo = y.lo
        case neg =>
          have HV := Lib.hid (eqB_false (HNE.out fun e => m1 (colEq.1 e).2.1))
          have f1 : (x.lo != y.lo) = true := by simpa using m1
          clear m1
          gi_wp2
          refine bodyPost_ret (results_tmp rfl _ _ _) rfl ?_
          exact ⟨by rw [HV.out]; rfl, HWF.out⟩
        have f1 : (x.lo != y.lo) = false := by simpa using m1
        have M1 := Lib.hid m1
        clear m1
        by_cases m2 : x.hi = y.hi
        case neg =>
          have HV := Lib.hid (eqB_false (HNE.out fun e => m2 (colEq.1 e).2.2.1))
          have f2 : (x.hi != y.hi) = true := by simpa using m2
          clear m2
          gi_wp2
          refine bodyPost_ret (results_tmp rfl _ _ _) rfl ?_
          exact ⟨by rw [HV.out]; rfl, HWF.out⟩
        have f2 : (x.hi != y.hi) = false := by simpa using m2
        have M2 := Lib.hid m2
        clear m2
        by_cases m3 : x.words.length = y.words.length
        case neg =>
          have HV := Lib.hid (eqB_false (HNE.out fun e => m3 (by rw [(colEq.1 e).2.2.2])))
          have f3 : ((x.words.length : Int) != (y.words.length : Int)) = true := by simpa using fun e => m3 (by omega)
          clear m3
          gi_wp2
          refine bodyPost_ret (results_tmp rfl _ _ _) rfl ?_
          exact ⟨by rw [HV.out]; rfl, HWF.out⟩
        have f3 : ((x.words.length : Int) != (y.words.length : Int)) = false := by simp [m3]
        have M3 := Lib.hid m3
        clear m3
        gi_wp2
        clear z0 z1 z2 z3 z4 z5 z6 z7
        gi_loopw [8] (fun j wi => ∃ q : Nat, q ≤ x.words.length ∧ j = .int .i64 q ∧ (∀ m (h1 : m < x.words.length) (h2 : m < y.words.length), m < q → x.words[m] = y.words[m]) ∧ Below Wf.heap.size Wf wi) (fun j _ => x.words.length - (intOf j).toNat)
        case atStart => exact ⟨0, Nat.zero_le _, rfl, fun m _ _ hm => by omega, HFR.out⟩
        case round =>
          obtain ⟨q, hq, rfl, hev, hBi⟩ := hrel
          have HEV := Lib.hid hev
          have HBI := Lib.hid hBi
          obtain ⟨z0, z1, z2, z3⟩ := HX6.out _ hBi
          obtain ⟨z4, z5, z6, z7⟩ := HX7.out _ hBi
          have HWI := Lib.hid (HWF.out.trans (hBi.mono HWF.out.size))
          clear hev hBi
          have hj0 : (0 : Int) ≤ (q : Int) := by omega
          by_cases hqlt : q < x.words.length
          · have hqlt' : q < y.words.length := by have := M3.out; omega
            obtain ⟨rb, ro, rfl, hrc⟩ := HPV.out (by omega)
            obtain ⟨rb2, ro2, rfl, hrc2⟩ := HQV.out (by omega)
            have ri := cell_later HWI.out (hrc q hqlt)
            have ri2 := cell_later HWI.out (hrc2 q hqlt')
            have hj1 : (q : Int) < (x.words.length : Int) := by omega
            have hj2 : (q : Int) < (y.words.length : Int) := by omega
            have HXV := Lib.hid (show ∀ m (h1 : m < x.words.length) (h2 : m < y.words.length), x.words[q] = y.words[q] → m < q + 1 → x.words[m] = y.words[m] from fun m h1 h2 e hm => by
              rcases Nat.lt_or_ge m q with h | h
              · exact HEV.out m h1 h2 h
              · obtain rfl : m = q := by omega
                exact e)
            have HNV := Lib.hid (show x.words[q] ≠ y.words[q] → (⟨cn, cp, cm, cl⟩ : Sch) ≠ ⟨dn, cp, dm, dl⟩ from fun hne => HNE.out fun e => hne (by
              have := (colEq.1 e).2.2.2
              simp only [this]))
            have HQL := Lib.hid hqlt
            clear hrc hrc2
            generalize x.words[q] = sa at *
            generalize y.words[q] = sc at *
            clear hqlt hqlt'
            by_cases hac : sa = sc
            · have hne3 : (sa.toList == sc.toList) = true := str_eq hac
              have HX := Lib.hid (show ∀ m (h1 : m < x.words.length) (h2 : m < y.words.length), m < q + 1 → x.words[m] = y.words[m] from fun m h1 h2 hm => HXV.out m h1 h2 hac hm)
              clear hac
              gi_wp2_with fail
              gi_quiet (fail)
              gi_wp2_with fail
              go_roundw
              case rel => exact ⟨q + 1, HQL.out, by go_num, HX.out, below_drewN' HBI.out _⟩
              case measure => have := HQL.out; simp [intOf]; omega
            · have hne3 : (sa.toList == sc.toList) = false := str_ne hac
              have HV := Lib.hid (eqB_false (HNV.out hac))
              clear hac
              gi_wp2_with fail
              gi_quiet (fail)
              gi_wp2_with fail
              refine bodyPost_ret (results_tmp rfl _ _ _) rfl ?_
              exact ⟨by rw [HV.out]; rfl, below_drewN' HWI.out _⟩
          · have hj1 : ¬ (q : Int) < (x.words.length : Int) := by omega
            obtain rfl : q = x.words.length := by omega
            have HX := Lib.hid (show ∀ j (h1 : j < cl.length) (h2 : j < dl.length), j < k + 1 → cl[j] = dl[j] from fun j h1 h2 hj => HXY.out j h1 h2 (colEq.2 ⟨M0.out, M1.out, M2.out, List.ext_getElem M3.out fun m h1 h2 => HEV.out m h1 h2 h1⟩) hj)
            clear hqlt
            gi_wp2
            go_roundw
            case rel => exact ⟨k + 1, HLT.out, by go_num, HX.out, HW0.out.trans (HBI.out.mono HW0.out.size)⟩
            case measure => have := HLT.out; simp [intOf]; omega
    · obtain rfl : k = cl.length := by omega
      have HV := Lib.hid (show eqB (⟨cn, cp, cm, cl⟩ : Sch) ⟨dn, cp, dm, dl⟩ = true from eqB_true (schEq.2 ⟨N0.out, rfl, N2.out, List.ext_getElem N3.out fun j h1 h2 => HE.out j h1 h2 h1⟩))
      clear hlt
      gi_wp2
      refine bodyPost_ret (results_tmp rfl _ _ _) rfl ?_
      exact ⟨by rw [HV.out]; rfl, HWR.out⟩
end Go.Proofs.YtlocafmglficnaaGreatDoor
