/- TableFinds: the walk. -/
import Derived.Test.YtlocafmglficnaaDoorTabBase
import Derived.Test.YtlocafmglficnaaDoorTabFindsLaw
import Derived.Test.YtlocafmglficnaaDoorTabKnown
namespace Go.Proofs.YtlocafmglficnaaDoor
open Go.RowKit Go.Maps Go.Sort Go.Shelf

theorem baseOf_mem {l : List Int} {T : Tbl} (h : T ∈ baseOf l) : ∃ S ∈ schemasOf l, ∃ a, T = tblOf l S a := by
  unfold baseOf bsC at h
  obtain ⟨i, hi, rfl⟩ := List.mem_map.1 h
  have hi := List.mem_range.1 hi
  refine ⟨(schemasOf l)[i], List.getElem_mem hi, bsA l (schemasOf l) (schemasA l) i, ?_⟩
  rw [List.getElem?_eq_getElem hi]
  rfl
theorem tblOf_small (l : List Int) {S : Sch} (hS : S ∈ schemasOf l) (a : Nat) : Small (tblOf l S a) ∧ (tblOf l S a).rows.length ≤ 12 := by
  obtain ⟨i, b, rfl, _⟩ := schemasOf_mem l hS
  obtain ⟨h1, _, h3⟩ := schOf_cols l i b
  generalize schOf (allC l 5) l i b = S at *
  have hf := tkV_lt l a (n := 13) (by omega)
  have hr := rsC_len l S (tkA l a 13) (tkV l a 13).toNat
  refine ⟨⟨?_, ?_, ?_, ?_⟩, ?_⟩
  · show S.cols.length ≤ _; omega
  · show ∀ c ∈ S.cols, _; exact fun c hc => by have := (h1 c hc).2; omega
  · show (rsC _ _ _ _).length ≤ _; omega
  · show ∀ r ∈ rsC _ _ _ _, _
    exact fun r hr => by have := (rsC_vals l S _ _ r hr).1; omega
  · show (rsC _ _ _ _).length ≤ _; omega
theorem baseOf_len (l : List Int) : (baseOf l).length ≤ 3 := by
  have := schemasOf_len l
  unfold baseOf bsC
  simp; omega
theorem baseOf_small (l : List Int) : SmallB (baseOf l) := by
  refine ⟨by have := baseOf_len l; omega, fun T hT => ?_⟩
  obtain ⟨S, hS, a, rfl⟩ := baseOf_mem hT
  have := tblOf_small l hS a
  exact ⟨this.1, by omega⟩
theorem withoutB_len (ts : List Tbl) (a : Int) : (withoutB ts a).length = ts.length := by simp [withoutB]
theorem withoutT_small {T : Tbl} (h : Small T) (a : Int) : Small (withoutT T a) ∧ (withoutT T a).rows.length ≤ T.rows.length := by
  have hk : (keptR T a).length ≤ T.rows.length := List.length_filter_le _ _
  refine ⟨⟨h.1, h.2.1, ?_, fun r hr => h.2.2.2 r ((List.mem_filter.1 hr).1)⟩, hk⟩
  show (keptR T a).length ≤ _
  have := h.2.2.1
  omega
theorem withoutB_small {ts : List Tbl} (h : SmallB ts) (a : Int) : SmallB (withoutB ts a) := by
  refine ⟨by rw [withoutB_len]; exact h.1, fun U hU => ?_⟩
  obtain ⟨T, hT, rfl⟩ := List.mem_map.1 hU
  have h1 := h.2 T hT
  have h2 := withoutT_small h1.1 a
  exact ⟨h2.1, by have := h1.2; omega⟩
theorem ownersOf_len {ts : List Tbl} (h : ts.length ≤ 3) (hr : ∀ T ∈ ts, T.rows.length ≤ 1000) : (ownersOf ts).length ≤ 3000 := by
  have : ∀ (l : List Tbl), (∀ T ∈ l, T.rows.length ≤ 1000) → (ownersOf l).length ≤ 1000 * l.length := by
    intro l hl
    induction l with
    | nil => simp [ownersOf]
    | cons T l ih =>
      have h1 := ih fun U hU => hl U (by simp [hU])
      have h2 : (ownersT T).length ≤ 1000 := by
        have := hl T (by simp)
        unfold ownersT
        split
        · simp
        · simpa using this
      unfold ownersOf at h1 ⊢
      rw [List.flatMap_cons, List.length_append, List.length_cons]
      omega
  have := this ts hr
  omega
/-- A table of a list that is read, by value; the cells are read in whatever world keeps them. -/
theorem tbl_at2 {C : TypeId → Nat → Prop} {w : World} {v : Value} {ts : List Tbl} (h : SRow tblK C w v ts) {k : Nat} (hk : k < ts.length) :
    ∃ (b o c : Nat) (nm : ByteArray) (pb : Bool) (mn : Int) (cu ru : Option Addr × Nat × Nat), v = .slice (some ⟨b, o, none⟩) ts.length c ∧ b < w.heap.size ∧ w.cell? ⟨b, o + k * 5, none⟩ = some (.string nm) ∧ w.cell? ⟨b, o + k * 5 + 1, none⟩ = some (.bool pb) ∧ w.cell? ⟨b, o + k * 5 + 2, none⟩ = some (.int .i64 mn) ∧
      w.cell? ⟨b, o + k * 5 + 3, none⟩ = some (.slice cu.1 cu.2.1 cu.2.2) ∧ w.cell? ⟨b, o + k * 5 + 4, none⟩ = some (.slice ru.1 ru.2.1 ru.2.2) ∧ TblVal C w (.agg #[.string nm, .bool pb, .int .i64 mn, .slice cu.1 cu.2.1 cu.2.2, .slice ru.1 ru.2.1 ru.2.2]) ts[k] := by
  obtain ⟨A, c, rfl, _, _, hc⟩ := h.tbls
  obtain ⟨b, o, rfl, hcell⟩ := hc (by omega)
  obtain ⟨pu, pv, p0, p1, p2, p3, p4, pr, px, ps⟩ := hcell k hk
  obtain ⟨pA, pc, rfl, _, _⟩ := pr.slice
  obtain ⟨pB, pd, rfl, _, _⟩ := px.slice
  exact ⟨b, o, c, _, _, _, (pA, _, pc), (pB, _, pd), rfl, World.block_lt_of_cell? w _ p0, p0, p1, p2, p3, p4, _, _, rfl, pr, px, ps⟩
/-- An element of a list of ints that lies. -/
theorem int_at {C : TypeId → Nat → Prop} {w : World} {A : Option Addr} {c : Nat} {zs : List Int} (h : SRow intK C w (.slice A zs.length c) zs) {j : Nat} (hj : j < zs.length) : ∃ b o, A = some ⟨b, o, none⟩ ∧ w.cell? ⟨b, o + j, none⟩ = some (.int .i64 zs[j]) ∧ Fit zs[j] := by
  obtain ⟨A', c', e, _, _, hf, h3⟩ := h.ints
  simp only [Value.slice.injEq, true_and] at e
  obtain ⟨rfl, rfl⟩ := e
  obtain ⟨b, o, eA, hx⟩ := h3 (by omega)
  exact ⟨b, o, eA, hx j hj, hf j hj⟩
theorem pick_at (x : Int) {n : Nat} (hn : 0 < n) : ∃ k : Nat, x % (n : Int) = (k : Int) ∧ k < n := by
  have h1 := Int.emod_nonneg x (show (n : Int) ≠ 0 by omega)
  have h2 := Int.emod_lt_of_pos x (show (0 : Int) < (n : Int) by omega)
  exact ⟨(x % (n : Int)).toNat, by omega, by omega⟩

attribute [local go_sem] Oper.semAt_some
set_option maxRecDepth 100000 in
set_option maxHeartbeats 16000000 in
theorem tableFinds_any (C : TypeId → Nat → Prop) (v : Value) (l : List Int) (x y : Int) (w : World) (h : SRow intK C w v l) (hx : Fit x) (hy : Fit y) (hr : Res w) :
    Calls Tryd.prog 6 #[v, .int .i64 x, .int .i64 y] w fun e w' => e = .returned (.bool true) ∧ Below w.heap.size w w' := by
  have HV := Lib.hid h
  have HR := Lib.hid hr
  have HX := Lib.hid hx
  have HY := Lib.hid hy
  obtain ⟨A, ca, rfl, hl, hm⟩ := h.slice
  unfold maxLen at hm
  clear h hr hx hy
  have HSB := Lib.hid (baseOf_small l)
  have hbn := baseOf_len l
  refine (callsIn_wide (n := 6)).1 ?_
  have h1 : 1 ≤ 6 := by omega
  refine callsIn_of_wp Tryd.func6 rfl trivial ?_ rfl
  simp only [Tryd.ntmps6, List.size_toArray, List.length_cons, List.length_nil, Nat.reduceAdd, Nat.reduceSub, Array.replicate_succ, Array.replicate_zero, List.push_toArray, List.append_toArray, List.nil_append, List.cons_append]
  have TK1 : True := trivial
  gi_wp2_with (clear TK1; refine ⟨trivial, ?_⟩; gi_at_call 5; refine (callsIn_wide.2 (tableKnown_any _ HR.out)).mono ?_; rintro e w1 ⟨rfl, hb⟩; have HB1 := Lib.hid hb; clear hb)
  have TK2 : True := trivial
  gi_wp2_with (clear TK2; refine ⟨trivial, ?_⟩; gi_at_call 32; refine (callsIn_wide.2 (base_any C _ l _ (HV.out.below HB1.out))).mono ?_; rintro e w2 ⟨v2, rfl, ho, hb⟩; have HO2 := Lib.hid ho; have HB2 := Lib.hid (HB1.out.trans (hb.mono HB1.out.size)); clear ho hb)
  generalize baseOf l = bs at *
  obtain ⟨Ab, cb, rfl, _, _⟩ := HO2.out.slice
  have HO := Lib.hid HO2.out.any
  have HDI := Lib.hid (differB_self bs)
  have TK3 : True := trivial
  gi_wp2_with (clear TK3; refine ⟨trivial, ?_⟩; gi_at_call 15; refine (callsIn_wide.2 (ownersOf_any Any _ bs _ HO.out HSB.out.1 (fun T hT => (HSB.out.2 T hT).2))).mono ?_; rintro e w3 ⟨v3, rfl, ho, hb⟩; have HW3 := Lib.hid ho.any; have HT3 := Lib.hid hb; clear ho hb)
  have hol := asc_length (ownersOf bs)
  have hol2 := ownersOf_len hbn (fun T hT => (HSB.out.2 T hT).2)
  have HMO := Lib.hid (show ∀ a ∈ asc (ownersOf bs), a ∈ ownersOf bs from fun a ha => mem_asc.1 ha)
  generalize hos : asc (ownersOf bs) = os at *
  clear hos
  obtain ⟨Ao, co, rfl, _, _⟩ := HW3.out.slice
  by_cases hz : os.length = 0
  · have hz' : (os.length : Int) = 0 := by omega
    have hzb : ((os.length : Int) == 0) = true := by simp [hz]
    have TK4 : True := trivial
    gi_wp2_with (clear TK4; refine ⟨trivial, ?_⟩; gi_at_call 33; refine (callsIn_wide.2 (neighboursOf_any Any Any _ _ bs bs _ (HO.out.below HT3.out) (HO.out.below HT3.out) HSB.out HSB.out)).mono ?_; rintro e w4 ⟨rfl, hb⟩; rw [HDI.out]; have HT4 := Lib.hid (HT3.out.trans (hb.mono HT3.out.size)); clear hb)
    refine bodyPost_ret (results_tmp rfl _ _ _) rfl ?_
    exact ⟨rfl, HB2.out.trans (HT4.out.mono HB2.out.size)⟩
  · have hzb : ((os.length : Int) == 0) = false := by simp [hz]
    have hz0 : (os.length : Int) ≠ 0 := by omega
    have HPK := Lib.hid (pick_at x (show 0 < os.length by omega))
    have TK5 : True := trivial
    gi_wp2_with (clear TK5; refine ⟨trivial, ?_⟩; gi_at_call 33; refine (callsIn_wide.2 (neighboursOf_any Any Any _ _ bs bs _ (HO.out.below HT3.out) (HO.out.below HT3.out) HSB.out HSB.out)).mono ?_; rintro e w4 ⟨rfl, hb⟩; rw [HDI.out]; have HT4 := Lib.hid (HT3.out.trans (hb.mono HT3.out.size)); have HU4 := Lib.hid hb; clear hb)
    have TK6 : True := trivial
    gi_wp2_with (clear TK6; refine ⟨trivial, ?_⟩; gi_at_call 9; refine (callsIn_wide.2 (pickE_any x os.length _ (by omega) (by omega) HX.out)).mono ?_; rintro e w5 ⟨rfl, rfl⟩; obtain ⟨ka, hka, hkl⟩ := HPK.out; rw [hka]; obtain ⟨bo, oo, rfl, ha0, _⟩ := int_at (HW3.out.below HU4.out) hkl; have HAM := Lib.hid (HMO.out _ (List.getElem_mem hkl)); have hk0 : (0 : Int) ≤ (ka : Int) := (by omega); have hk1 : (ka : Int) < (os.length : Int) := (by omega); clear hka; generalize os[ka] = a at *)
    have TK7 : True := trivial
    gi_wp2_with (clear TK7; refine ⟨trivial, ?_⟩; gi_at_call 18; refine (callsIn_wide.2 (withoutOf_any Any _ bs a _ (HO.out.below HT4.out) (fun T hT => (HSB.out.2 T hT).1) (by omega))).mono ?_; rintro e w6 ⟨v6, rfl, ho, hb⟩; rw [show (bs.map fun T => withoutT T a) = withoutB bs a from rfl] at ho; obtain ⟨Ax, cx, e6, _, _⟩ := ho.slice; rw [withoutB_len] at e6; subst e6; have HXX := Lib.hid ho.any; have HT6 := Lib.hid (HT4.out.trans (hb.mono HT4.out.size)); have HU6 := Lib.hid (HU4.out.trans (hb.mono HU4.out.size)); have HSX := Lib.hid (withoutB_small HSB.out a); have HDW := Lib.hid (differB_without HAM.out); clear ho hb ha0)
    have TK8 : True := trivial
    gi_wp2_with (clear TK8; refine ⟨trivial, ?_⟩; gi_at_call 33; refine (callsIn_wide.2 (neighboursOf_any Any Any _ _ bs (withoutB bs a) _ (HO.out.below HT6.out) HXX.out HSB.out HSX.out)).mono ?_; rintro e w7 ⟨rfl, hb⟩; rw [HDW.out.1]; have HT7 := Lib.hid (HT6.out.trans (hb.mono HT6.out.size)); have HX7 := Lib.hid (HXX.out.below hb); have HU7 := Lib.hid (HU6.out.trans (hb.mono HU6.out.size)); clear hb)
    have TK9 : True := trivial
    gi_wp2_with (clear TK9; refine ⟨trivial, ?_⟩; gi_at_call 33; refine (callsIn_wide.2 (neighboursOf_any Any Any _ _ (withoutB bs a) bs _ HX7.out (HO.out.below HT7.out) HSX.out HSB.out)).mono ?_; rintro e w8 ⟨rfl, hb⟩; rw [HDW.out.2]; have HT8 := Lib.hid (HT7.out.trans (hb.mono HT7.out.size)); have HX8 := Lib.hid (HX7.out.below hb); have HO8 := Lib.hid (HO.out.below (HT7.out.trans (hb.mono HT7.out.size))); have HU8 := Lib.hid (HU7.out.trans (hb.mono HU7.out.size)); clear hb)
    clear HXX HX7 HT7 HU7 HT6 HU6 HT4 HU4 HDW HDI
    gi_loopw [18] (fun i wr => ∃ k : Nat, k ≤ bs.length ∧ i = .int .i64 k ∧ Below w8.heap.size w8 wr) (fun i _ => bs.length - (intOf i).toNat)
    case atStart => exact ⟨0, Nat.zero_le _, rfl, Below.refl _ _⟩
    case round =>
      obtain ⟨k, hk, rfl, hB⟩ := hrel
      have HBR := Lib.hid hB
      have hi0 : (0 : Int) ≤ (k : Int) := by omega
      by_cases hlt : k < bs.length
      · have hi1 : (k : Int) < (bs.length : Int) := by omega
        obtain ⟨b, of, ca', nm, pb, mn, cu, ru, e1, hbl, p0, p1, p2, p3, p4, hval⟩ := tbl_at2 (HO8.out.below hB) hlt
        simp only [Value.slice.injEq, true_and] at e1
        obtain ⟨rfl, rfl⟩ := e1
        have hlx : k < (withoutB bs a).length := by rw [withoutB_len]; exact hlt
        obtain ⟨b2, of2, ca2, nm2, pb2, mn2, cu2, ru2, e2, hbl2, q0, q1, q2, q3, q4, hval2⟩ := tbl_at2 (HX8.out.below hB) hlx
        rw [withoutB_len] at e2
        simp only [Value.slice.injEq, true_and] at e2
        obtain ⟨rfl, rfl⟩ := e2
        rw [show (withoutB bs a)[k] = withoutT bs[k] a by simp [withoutB]] at hval2
        have HX := Lib.hid hval
        have HY := Lib.hid hval2
        have HSM := Lib.hid (HSB.out.2 bs[k] (List.getElem_mem hlt))
        have HLT := Lib.hid hlt
        have x0 : ∀ X : SameAt wr (fun k => k < wr.heap.size), X.W.cell? ⟨b, of + k * 5, none⟩ = _ := fun X => X.cell hbl p0
        have x1 : ∀ X : SameAt wr (fun k => k < wr.heap.size), X.W.cell? ⟨b, of + k * 5 + 1, none⟩ = _ := fun X => X.cell hbl p1
        have x2 : ∀ X : SameAt wr (fun k => k < wr.heap.size), X.W.cell? ⟨b, of + k * 5 + 2, none⟩ = _ := fun X => X.cell hbl p2
        have x3 : ∀ X : SameAt wr (fun k => k < wr.heap.size), X.W.cell? ⟨b, of + k * 5 + 3, none⟩ = _ := fun X => X.cell hbl p3
        have x4 : ∀ X : SameAt wr (fun k => k < wr.heap.size), X.W.cell? ⟨b, of + k * 5 + 4, none⟩ = _ := fun X => X.cell hbl p4
        have y0 : ∀ X : SameAt wr (fun k => k < wr.heap.size), X.W.cell? ⟨b2, of2 + k * 5, none⟩ = _ := fun X => X.cell hbl2 q0
        have y1 : ∀ X : SameAt wr (fun k => k < wr.heap.size), X.W.cell? ⟨b2, of2 + k * 5 + 1, none⟩ = _ := fun X => X.cell hbl2 q1
        have y2 : ∀ X : SameAt wr (fun k => k < wr.heap.size), X.W.cell? ⟨b2, of2 + k * 5 + 2, none⟩ = _ := fun X => X.cell hbl2 q2
        have y3 : ∀ X : SameAt wr (fun k => k < wr.heap.size), X.W.cell? ⟨b2, of2 + k * 5 + 3, none⟩ = _ := fun X => X.cell hbl2 q3
        have y4 : ∀ X : SameAt wr (fun k => k < wr.heap.size), X.W.cell? ⟨b2, of2 + k * 5 + 4, none⟩ = _ := fun X => X.cell hbl2 q4
        have hmx : Tryd.prog.follows .mixedOrders = true := by kernel_rfl
        have HDR := Lib.hid (show Below wr.heap.size wr wr.drew from ⟨rfl, rfl, rfl, Nat.le_refl _, fun _ _ => rfl⟩)
        have HCL := Lib.hid (show ∀ (W : World), Below wr.heap.size wr W → ∀ bb oo (u : Value), bb < wr.heap.size → wr.cell? ⟨bb, oo, none⟩ = some u → W.cell? ⟨bb, oo, none⟩ = some u from fun W hW bb oo u hbb hu => (World.cell?_of_block (hW.block bb hbb)).trans hu)
        have HP := Lib.hid (And.intro p0 (And.intro p1 (And.intro p2 (And.intro p3 p4))))
        clear hval hval2 p0 p1 p2 p3 p4 q0 q1 q2 q3 q4 hB
        generalize bs[k] = T at *
        clear hlt
        by_cases hin : a ∈ ownersT T
        · have HDT := Lib.hid (show differT T (withoutT T a) = (a, true) ∧ decide (a ∈ asc (ownersT T)) = true ∧ eqB T (withoutT T a) = false from ⟨((differT_without T a).1 hin).1, by simpa using mem_asc.2 hin, eqB_false fun e => ((differT_without T a).1 hin).2 e.symm⟩)
          clear hin
          gi_wp2
          refine wpIn_stage (IsSame wr (fun k => k < wr.heap.size)) [0, 1, 2, 3, 4, 5, 6, 7, 9, 10, 11, 12, 13] [] hmx (by kernel_rfl) (isSame_of fun _ _ => rfl) ?_
          change wpStage _ _ _ _ _ _ _ _ (6 + 8) _ _ _
          refine stage_reads [0, 1, 2, 3, 4, 5, 6, 7] 6 _ _ (by kernel_rfl) ?_
          change wpQuietIn _ _ _ _ (fun W => ∃ x : SameAt wr (fun k => k < wr.heap.size), W = x.W) _ _ _
          simp only [pick_cons, pick_nil, List.getElem?_cons_zero, List.getElem?_cons_succ, Option.elim_some]
          repeat (gi_big_quiet_step (fail))
          refine wpQuietIn_nil ?_
          refine stage_one 8 (by kernel_rfl) rfl ?_
          gi_wp2_with (refine ⟨trivial, ?_⟩; gi_at_call 30; go_loud (refine (callsIn_wide.2 (neighbours_any Any Any _ _ T (withoutT T a) _ (HX.out.below HDR.out) (HY.out.below HDR.out) HSM.out.1 (withoutT_small HSM.out.1 a).1)).mono ?_; rintro e w9 ⟨rfl, hb9⟩; rw [HDT.out.1]; have HB9 := Lib.hid (HDR.out.trans (hb9.mono HDR.out.size)); clear hb9))
          refine stage_post (isSame_below HB9.out (fun _ h => h)) ?_
          change wpStage _ _ _ _ _ _ _ _ (0 + 5) _ _ _
          refine stage_reads [9, 10, 11, 12, 13] 0 _ _ (by kernel_rfl) ?_
          change wpQuietIn _ _ _ _ (fun W => ∃ x : SameAt wr (fun k => k < wr.heap.size), W = x.W) _ _ _
          simp only [pick_cons, pick_nil, List.getElem?_cons_zero, List.getElem?_cons_succ, Option.elim_some]
          repeat (gi_big_quiet_step (fail))
          refine wpQuietIn_nil ?_
          refine stage_done (by kernel_rfl) ?_
          obtain ⟨p0, p1, p2, p3, p4⟩ := HP.out
          have z0 := HCL.out _ HB9.out _ _ _ hbl p0
          have z1 := HCL.out _ HB9.out _ _ _ hbl p1
          have z2 := HCL.out _ HB9.out _ _ _ hbl p2
          have z3 := HCL.out _ HB9.out _ _ _ hbl p3
          have z4 := HCL.out _ HB9.out _ _ _ hbl p4
          have hs9 := HB9.out.size
          have hbl9 : b < w9.heap.size := by omega
          clear p0 p1 p2 p3 p4
          have TKA : True := trivial
          gi_wp2_with (clear TKA; refine ⟨trivial, ?_⟩; gi_at_call 20; go_loud (refine (callsIn_wide.2 (owners_any _ _ T _ (HX.out.below HB9.out) (by have := HSM.out.2; omega))).mono ?_; rintro e w10 ⟨v10, rfl, ho10, hb10⟩; have HO10 := Lib.hid ho10.any; have HB10 := Lib.hid (HB9.out.trans (hb10.mono HB9.out.size)); clear ho10 hb10))
          have TKB : True := trivial
          gi_wp2_with (clear TKB; refine ⟨trivial, ?_⟩; gi_at_call 34; go_loud (refine (callsIn_wide.2 (has_any _ _ _ a _ HO10.out)).mono ?_; rintro e w11 ⟨rfl, hb11⟩; rw [HDT.out.2.1]; have HB11 := Lib.hid (HB10.out.trans (hb11.mono HB10.out.size)); clear hb11))
          clear z0 z1 z2 z3 z4 hbl9
          have HDS := Lib.hid (show Below wr.heap.size wr w11.drew from HB11.out.trans ⟨rfl, rfl, rfl, Nat.le_refl _, fun _ _ => rfl⟩)
          refine wpIn_stage (IsSame wr (fun k => k < wr.heap.size)) [0, 1, 2, 3, 4, 5, 6, 7, 8, 9, 10, 11, 12, 13, 14, 15, 16, 17, 18, 19, 20, 22, 23] [] hmx (by kernel_rfl) (isSame_of fun k hk => HB11.out.block k hk) ?_
          change wpStage _ _ _ _ _ _ _ _ (3 + 21) _ _ _
          refine stage_reads [0, 1, 2, 3, 4, 5, 6, 7, 8, 9, 10, 11, 12, 13, 14, 15, 16, 17, 18, 19, 20] 3 _ _ (by kernel_rfl) ?_
          change wpQuietIn _ _ _ _ (fun W => ∃ x : SameAt wr (fun k => k < wr.heap.size), W = x.W) _ _ _
          simp only [pick_cons, pick_nil, List.getElem?_cons_zero, List.getElem?_cons_succ, Option.elim_some]
          repeat (gi_big_quiet_step (fail))
          refine wpQuietIn_nil ?_
          refine stage_one 21 (by kernel_rfl) rfl ?_
          gi_wp2_with (refine ⟨trivial, ?_⟩; gi_at_call 35; go_loud (refine (callsIn_wide.2 (sameTbl_any Any Any _ _ T (withoutT T a) _ (HX.out.below HDS.out) (HY.out.below HDS.out))).mono ?_; rintro e w12 ⟨rfl, hb12⟩; rw [HDT.out.2.2]; have HB12 := Lib.hid (HDS.out.trans (hb12.mono HDS.out.size)); clear hb12))
          refine stage_post (isSame_below HB12.out (fun _ h => h)) ?_
          change wpStage _ _ _ _ _ _ _ _ (0 + 2) _ _ _
          refine stage_reads [22, 23] 0 _ _ (by kernel_rfl) ?_
          change wpQuietIn _ _ _ _ (fun W => ∃ x : SameAt wr (fun k => k < wr.heap.size), W = x.W) _ _ _
          simp only [pick_cons, pick_nil, List.getElem?_cons_zero, List.getElem?_cons_succ, Option.elim_some]
          repeat (gi_big_quiet_step (fail))
          refine wpQuietIn_nil ?_
          refine stage_done (by kernel_rfl) ?_
          gi_wp2
          go_roundw
          case rel => exact ⟨k + 1, HLT.out, by go_num, HBR.out.trans (HB12.out.mono HBR.out.size)⟩
          case measure => have := HLT.out; simp [intOf]; omega
        · have HDT := Lib.hid (show differT T (withoutT T a) = (0, false) ∧ decide (a ∈ asc (ownersT T)) = false ∧ eqB T (withoutT T a) = true from ⟨((differT_without T a).2 hin).1, by simpa using fun h => hin (mem_asc.1 h), eqB_true ((differT_without T a).2 hin).2.symm⟩)
          clear hin
          gi_wp2
          refine wpIn_stage (IsSame wr (fun k => k < wr.heap.size)) [0, 1, 2, 3, 4, 5, 6, 7, 9, 10, 11, 12, 13] [] hmx (by kernel_rfl) (isSame_of fun _ _ => rfl) ?_
          change wpStage _ _ _ _ _ _ _ _ (6 + 8) _ _ _
          refine stage_reads [0, 1, 2, 3, 4, 5, 6, 7] 6 _ _ (by kernel_rfl) ?_
          change wpQuietIn _ _ _ _ (fun W => ∃ x : SameAt wr (fun k => k < wr.heap.size), W = x.W) _ _ _
          simp only [pick_cons, pick_nil, List.getElem?_cons_zero, List.getElem?_cons_succ, Option.elim_some]
          repeat (gi_big_quiet_step (fail))
          refine wpQuietIn_nil ?_
          refine stage_one 8 (by kernel_rfl) rfl ?_
          gi_wp2_with (refine ⟨trivial, ?_⟩; gi_at_call 30; go_loud (refine (callsIn_wide.2 (neighbours_any Any Any _ _ T (withoutT T a) _ (HX.out.below HDR.out) (HY.out.below HDR.out) HSM.out.1 (withoutT_small HSM.out.1 a).1)).mono ?_; rintro e w9 ⟨rfl, hb9⟩; rw [HDT.out.1]; have HB9 := Lib.hid (HDR.out.trans (hb9.mono HDR.out.size)); clear hb9))
          refine stage_post (isSame_below HB9.out (fun _ h => h)) ?_
          change wpStage _ _ _ _ _ _ _ _ (0 + 5) _ _ _
          refine stage_reads [9, 10, 11, 12, 13] 0 _ _ (by kernel_rfl) ?_
          change wpQuietIn _ _ _ _ (fun W => ∃ x : SameAt wr (fun k => k < wr.heap.size), W = x.W) _ _ _
          simp only [pick_cons, pick_nil, List.getElem?_cons_zero, List.getElem?_cons_succ, Option.elim_some]
          repeat (gi_big_quiet_step (fail))
          refine wpQuietIn_nil ?_
          refine stage_done (by kernel_rfl) ?_
          obtain ⟨p0, p1, p2, p3, p4⟩ := HP.out
          have z0 := HCL.out _ HB9.out _ _ _ hbl p0
          have z1 := HCL.out _ HB9.out _ _ _ hbl p1
          have z2 := HCL.out _ HB9.out _ _ _ hbl p2
          have z3 := HCL.out _ HB9.out _ _ _ hbl p3
          have z4 := HCL.out _ HB9.out _ _ _ hbl p4
          have hs9 := HB9.out.size
          have hbl9 : b < w9.heap.size := by omega
          clear p0 p1 p2 p3 p4
          have TKA : True := trivial
          gi_wp2_with (clear TKA; refine ⟨trivial, ?_⟩; gi_at_call 20; go_loud (refine (callsIn_wide.2 (owners_any _ _ T _ (HX.out.below HB9.out) (by have := HSM.out.2; omega))).mono ?_; rintro e w10 ⟨v10, rfl, ho10, hb10⟩; have HO10 := Lib.hid ho10.any; have HB10 := Lib.hid (HB9.out.trans (hb10.mono HB9.out.size)); clear ho10 hb10))
          have TKB : True := trivial
          gi_wp2_with (clear TKB; refine ⟨trivial, ?_⟩; gi_at_call 34; go_loud (refine (callsIn_wide.2 (has_any _ _ _ a _ HO10.out)).mono ?_; rintro e w11 ⟨rfl, hb11⟩; rw [HDT.out.2.1]; have HB11 := Lib.hid (HB10.out.trans (hb11.mono HB10.out.size)); clear hb11))
          clear z0 z1 z2 z3 z4 hbl9
          have HDS := Lib.hid (show Below wr.heap.size wr w11.drew from HB11.out.trans ⟨rfl, rfl, rfl, Nat.le_refl _, fun _ _ => rfl⟩)
          refine wpIn_stage (IsSame wr (fun k => k < wr.heap.size)) [0, 1, 2, 3, 4, 5, 6, 7, 8, 9, 10, 11, 12, 13, 14, 15, 16, 17, 18, 19, 20, 22, 23] [] hmx (by kernel_rfl) (isSame_of fun k hk => HB11.out.block k hk) ?_
          change wpStage _ _ _ _ _ _ _ _ (3 + 21) _ _ _
          refine stage_reads [0, 1, 2, 3, 4, 5, 6, 7, 8, 9, 10, 11, 12, 13, 14, 15, 16, 17, 18, 19, 20] 3 _ _ (by kernel_rfl) ?_
          change wpQuietIn _ _ _ _ (fun W => ∃ x : SameAt wr (fun k => k < wr.heap.size), W = x.W) _ _ _
          simp only [pick_cons, pick_nil, List.getElem?_cons_zero, List.getElem?_cons_succ, Option.elim_some]
          repeat (gi_big_quiet_step (fail))
          refine wpQuietIn_nil ?_
          refine stage_one 21 (by kernel_rfl) rfl ?_
          gi_wp2_with (refine ⟨trivial, ?_⟩; gi_at_call 35; go_loud (refine (callsIn_wide.2 (sameTbl_any Any Any _ _ T (withoutT T a) _ (HX.out.below HDS.out) (HY.out.below HDS.out))).mono ?_; rintro e w12 ⟨rfl, hb12⟩; rw [HDT.out.2.2]; have HB12 := Lib.hid (HDS.out.trans (hb12.mono HDS.out.size)); clear hb12))
          refine stage_post (isSame_below HB12.out (fun _ h => h)) ?_
          change wpStage _ _ _ _ _ _ _ _ (0 + 2) _ _ _
          refine stage_reads [22, 23] 0 _ _ (by kernel_rfl) ?_
          change wpQuietIn _ _ _ _ (fun W => ∃ x : SameAt wr (fun k => k < wr.heap.size), W = x.W) _ _ _
          simp only [pick_cons, pick_nil, List.getElem?_cons_zero, List.getElem?_cons_succ, Option.elim_some]
          repeat (gi_big_quiet_step (fail))
          refine wpQuietIn_nil ?_
          refine stage_done (by kernel_rfl) ?_
          gi_wp2
          go_roundw
          case rel => exact ⟨k + 1, HLT.out, by go_num, HBR.out.trans (HB12.out.mono HBR.out.size)⟩
          case measure => have := HLT.out; simp [intOf]; omega
      · have hi1 : ¬ (k : Int) < (bs.length : Int) := by omega
        clear hB
        have HT9 := Lib.hid (HT8.out.trans (HBR.out.mono HT8.out.size))
        have HU9 := Lib.hid (HU8.out.trans (HBR.out.mono HU8.out.size))
        have HWF := Lib.hid (HB2.out.trans (HT9.out.mono HB2.out.size))
        obtain ⟨kc, hkc, hkl2⟩ := pick_at y (show 0 < os.length by omega)
        obtain ⟨b9, o9, e9, hc0, _⟩ := int_at (HW3.out.below HU9.out) hkl2
        simp only [Option.some.injEq, Addr.mk.injEq, and_true] at e9
        obtain ⟨rfl, rfl⟩ := e9
        have HCM := Lib.hid (HMO.out _ (List.getElem_mem hkl2))
        have hc1 : (0 : Int) ≤ (kc : Int) := by omega
        have hc2 : (kc : Int) < (os.length : Int) := by omega
        have HKC := Lib.hid hkc
        generalize os[kc] = c at *
        clear hkc
        have TKC : True := trivial
        by_cases hca : c = a
        · subst hca
          gi_wp2_with (clear TKC; refine ⟨trivial, ?_⟩; gi_at_call 9; refine (callsIn_wide.2 (pickE_any y os.length _ (by omega) (by omega) HY.out)).mono ?_; rintro e w5 ⟨rfl, rfl⟩; rw [HKC.out])
          refine bodyPost_ret (results_tmp rfl _ _ _) rfl ?_
          exact ⟨rfl, HWF.out⟩
        · have HCA := Lib.hid hca
          have hcb : (c != a) = true := by simp [hca]
          have hcd : decide (c = a) = false := by simp [hca]
          gi_wp2_with (clear TKC; refine ⟨trivial, ?_⟩; gi_at_call 9; refine (callsIn_wide.2 (pickE_any y os.length _ (by omega) (by omega) HY.out)).mono ?_; rintro e w5 ⟨rfl, rfl⟩; rw [HKC.out])
          have HDD := Lib.hid (differB_two HAM.out HCM.out HCA.out)
          have TKD : True := trivial
          gi_wp2_with (clear TKD; refine ⟨trivial, ?_⟩; gi_at_call 18; refine (callsIn_wide.2 (withoutOf_any Any _ (withoutB bs a) c _ (HX8.out.below HBR.out) (fun T hT => (HSX.out.2 T hT).1) (by rw [withoutB_len]; omega))).mono ?_; rintro e w6 ⟨v6, rfl, ho, hb⟩; rw [show ((withoutB bs a).map fun T => withoutT T c) = withoutB (withoutB bs a) c from rfl] at ho; obtain ⟨Ay, cy, e6, _, _⟩ := ho.slice; rw [withoutB_len, withoutB_len] at e6; subst e6; have HYY := Lib.hid ho.any; have HTA := Lib.hid (HT9.out.trans (hb.mono HT9.out.size)); have HOA := Lib.hid ((HO8.out.below HBR.out).below hb); clear ho hb hc0)
          have TKE : True := trivial
          gi_wp2_with (clear TKE; refine ⟨trivial, ?_⟩; gi_at_call 33; refine (callsIn_wide.2 (neighboursOf_any Any Any _ _ bs (withoutB (withoutB bs a) c) _ HOA.out HYY.out HSB.out (withoutB_small HSX.out c))).mono ?_; rintro e w7 ⟨rfl, hb⟩; rw [HDD.out]; have HTB := Lib.hid (HTA.out.trans (hb.mono HTA.out.size)); clear hb)
          refine bodyPost_ret (results_tmp rfl _ _ _) rfl ?_
          exact ⟨rfl, HB2.out.trans (HTB.out.mono HB2.out.size)⟩
end Go.Proofs.YtlocafmglficnaaDoor
