/- TableOwners: the walk. -/
import Derived.Test.YtlocafmglficnaaDoorTabRSameO
import Derived.Test.YtlocafmglficnaaDoorTabVast
namespace Go.Proofs.YtlocafmglficnaaDoor
open Go.RowKit Go.Maps Go.Sort Go.Shelf

theorem Tame1.small {T : Tbl} (h : Tame1 T) : Small T :=
  ⟨by have := h.2.1.1; omega, fun c hc => by have := h.2.1.2 c hc; omega, by have := h.1; omega, fun r hr => by have := h.2.2 r hr; omega⟩
theorem rwithout_val {C : TypeId → Nat → Prop} {v : Value} {T : Tbl} (o : Int) {w : World} (h : TblVal C w v T) (hs : Small T) :
    Calls Tryd.prog 24 #[v, .int .i64 o] w fun e w' => ∃ u, e = .returned u ∧ TblVal Any w' u (withoutT T o) ∧ Below w.heap.size w w' := by
  have hh := h
  obtain ⟨_, _, _, _, _, hst⟩ := hh
  refine (rwithout_any C v T o w h hs).mono fun e w' => ?_
  rintro ⟨cu, ru, rfl, h1, h2, hb⟩
  exact ⟨_, rfl, ⟨cu, ru, rfl, h1.any, h2.any, hst⟩, hb⟩
theorem without_valA {C : TypeId → Nat → Prop} {v : Value} {T : Tbl} (o : Int) {w : World} (h : TblVal C w v T) (hs : Small T) :
    Calls Tryd.prog 23 #[v, .int .i64 o] w fun e w' => ∃ u, e = .returned u ∧ TblVal Any w' u (withoutT T o) ∧ Below w.heap.size w w' := by
  have hh := h
  obtain ⟨_, _, _, _, _, hst⟩ := hh
  refine (without_any C v T o w h hs.1 hs.2.1 hs.2.2.1 hs.2.2.2).mono fun e w' => ?_
  rintro ⟨cu, ru, rfl, h1, h2, hb⟩
  exact ⟨_, rfl, ⟨cu, ru, rfl, h1.any, h2.any, hst⟩, hb⟩
/-- A table of a list that is read, by value; the cells are read in whatever world keeps them. -/
theorem tbl_at {C : TypeId → Nat → Prop} {w : World} {v : Value} {ts : List Tbl} (h : SRow tblK C w v ts) {k : Nat} (hk : k < ts.length) :
    ∃ (b o c : Nat) (nm : ByteArray) (pb : Bool) (mn : Int) (cu ru : Option Addr × Nat × Nat), v = .slice (some ⟨b, o, none⟩) ts.length c ∧ b < w.heap.size ∧ w.cell? ⟨b, o + k * 5, none⟩ = some (.string nm) ∧ w.cell? ⟨b, o + k * 5 + 1, none⟩ = some (.bool pb) ∧ w.cell? ⟨b, o + k * 5 + 2, none⟩ = some (.int .i64 mn) ∧
      w.cell? ⟨b, o + k * 5 + 3, none⟩ = some (.slice cu.1 cu.2.1 cu.2.2) ∧ w.cell? ⟨b, o + k * 5 + 4, none⟩ = some (.slice ru.1 ru.2.1 ru.2.2) ∧ TblVal C w (.agg #[.string nm, .bool pb, .int .i64 mn, .slice cu.1 cu.2.1 cu.2.2, .slice ru.1 ru.2.1 ru.2.2]) ts[k] := by
  obtain ⟨A, c, rfl, _, _, hc⟩ := h.tbls
  obtain ⟨b, o, rfl, hcell⟩ := hc (by omega)
  obtain ⟨pu, pv, p0, p1, p2, p3, p4, pr, px, ps⟩ := hcell k hk
  obtain ⟨pA, pc, rfl, _, _⟩ := pr.slice
  obtain ⟨pB, pd, rfl, _, _⟩ := px.slice
  exact ⟨b, o, c, _, _, _, (pA, _, pc), (pB, _, pd), rfl, World.block_lt_of_cell? w _ p0, p0, p1, p2, p3, p4, _, _, rfl, pr, px, ps⟩

attribute [local go_sem] Oper.semAt_some
set_option maxRecDepth 100000 in
set_option maxHeartbeats 8000000 in
theorem tableOwners_any (C : TypeId → Nat → Prop) (v : Value) (ts : List Tbl) (o : Int) (w : World) (h : SRow tblK C w v ts) (hr : Res w) :
    Calls Tryd.prog 4 #[v, .int .i64 o] w fun e w' => e = .returned (.bool true) ∧ Below w.heap.size w w' := by
  have HV := Lib.hid h
  have HR := Lib.hid hr
  obtain ⟨A, ca, rfl, hl, hm⟩ := h.slice
  unfold maxLen at hm
  clear h hr
  refine (callsIn_wide (n := 6)).1 ?_
  have h1 : 1 ≤ 6 := by omega
  refine callsIn_of_wp Tryd.func4 rfl trivial ?_ rfl
  simp only [Tryd.ntmps4, List.size_toArray, List.length_cons, List.length_nil, Nat.reduceAdd, Nat.reduceSub, Array.replicate_succ, Array.replicate_zero, List.push_toArray, List.append_toArray, List.nil_append, List.cons_append]
  gi_wp2
  refine ⟨trivial, ?_⟩
  gi_at_call 12
  refine (callsIn_wide.2 (vast_any C _ ts _ HV.out)).mono ?_
  rintro e w1 ⟨⟨bb, rfl, hbb⟩, hb1⟩
  have HB1 := Lib.hid hb1
  cases bb with
  | true =>
    clear hbb hb1
    gi_wp2_with (refine ⟨trivial, ?_⟩; gi_at_call 11; refine (callsIn_wide.2 (awake_any _ (HR.out.later HB1.out))).mono ?_; rintro e w2 ⟨rfl, hb2⟩)
    refine bodyPost_ret (results_tmp rfl _ _ _) rfl ?_
    exact ⟨rfl, HB1.out.trans (hb2.mono HB1.out.size)⟩
  | false =>
    have HT := Lib.hid (hbb rfl)
    have HS := Lib.hid (show ∀ T ∈ ts, Small T from fun T hT => ((HT.out.2 T hT)).small)
    have hlen : ts.length ≤ 20 := HT.out.1
    have HRL := Lib.hid (show ∀ T ∈ ts, T.rows.length ≤ 1000 from fun T hT => by have := (HT.out.2 T hT).1; omega)
    clear hbb hb1
    gi_wp2
    refine ⟨trivial, ?_⟩
    gi_at_call 13
    refine (callsIn_wide.2 (rcopyOf_any C _ ts _ (HV.out.below HB1.out) HS.out (by omega))).mono ?_
    rintro e w2 ⟨v2, rfl, ho2, hb2⟩
    obtain ⟨A2, c2, rfl, _, _⟩ := ho2.slice
    have HW := Lib.hid (ho2.any)
    have HB2 := Lib.hid (HB1.out.trans (hb2.mono HB1.out.size))
    clear ho2 hb2
    gi_wp2_with (refine ⟨trivial, ?_⟩; gi_at_call 15; refine (callsIn_wide.2 (ownersOf_any C _ ts _ (HV.out.below HB2.out) (by omega) HRL.out)).mono ?_; rintro e w3 ⟨v3, rfl, ho3, hb3⟩; have HO3 := Lib.hid ho3.any; have HX3 := Lib.hid hb3; have HB3 := Lib.hid (HB2.out.trans (hb3.mono HB2.out.size)); clear ho3 hb3)
    gi_wp2_with (refine ⟨trivial, ?_⟩; gi_at_call 16; refine (callsIn_wide.2 (rownersOf_any Any _ ts _ (HW.out.below HX3.out) (by omega) HRL.out)).mono ?_; rintro e w4 ⟨v4, rfl, ho4, hb4⟩; have HO4 := Lib.hid ho4.any; have HY4 := Lib.hid hb4; have HX4 := Lib.hid (HX3.out.trans (hb4.mono HX3.out.size)); have HB4 := Lib.hid (HB3.out.trans (hb4.mono HB3.out.size)); clear ho4 hb4)
    gi_wp2_with (refine ⟨trivial, ?_⟩; gi_at_call 14; refine (callsIn_wide.2 (same14_any Any Any _ _ _ _ _ (HO3.out.below HY4.out) HO4.out)).mono ?_; rintro e w5 ⟨rfl, hb5⟩; rw [eqB_true rfl]; have HX5 := Lib.hid (HX4.out.trans (hb5.mono HX4.out.size)); have HB5 := Lib.hid (HB4.out.trans (hb5.mono HB4.out.size)); clear hb5)
    clear HO3 HO4
    gi_wp2_with (refine ⟨trivial, ?_⟩; gi_at_call 18; refine (callsIn_wide.2 (withoutOf_any C _ ts o _ (HV.out.below HB5.out) HS.out (by omega))).mono ?_; rintro e w6 ⟨v6, rfl, ho6, hb6⟩; have HO6 := Lib.hid ho6.any; have HX6 := Lib.hid (HX5.out.trans (hb6.mono HX5.out.size)); have HB6 := Lib.hid (HB5.out.trans (hb6.mono HB5.out.size)); clear ho6 hb6)
    gi_wp2_with (refine ⟨trivial, ?_⟩; gi_at_call 19; refine (callsIn_wide.2 (rwithoutOf_any Any _ ts o _ (HW.out.below HX6.out) HS.out (by omega))).mono ?_; rintro e w7 ⟨v7, rfl, ho7, hb7⟩; have HO7 := Lib.hid ho7.any; have HY7 := Lib.hid hb7; have HX7 := Lib.hid (HX6.out.trans (hb7.mono HX6.out.size)); have HB7 := Lib.hid (HB6.out.trans (hb7.mono HB6.out.size)); clear ho7 hb7)
    gi_wp2_with (refine ⟨trivial, ?_⟩; gi_at_call 17; refine (callsIn_wide.2 (rsameOf_any Any Any _ _ _ _ _ (HO6.out.below HY7.out) HO7.out)).mono ?_; rintro e w8 ⟨rfl, hb8⟩; rw [eqB_true rfl]; have HX8 := Lib.hid (HX7.out.trans (hb8.mono HX7.out.size)); have HB8 := Lib.hid (HB7.out.trans (hb8.mono HB7.out.size)); clear hb8)
    clear HO6 HO7 HY7 HX7 HB7 HX6 HB6 HX5 HB5 HX4 HB4 HY4 HX3 HB3
    have HW8 := Lib.hid (HW.out.below HX8.out)
    have HV8 := Lib.hid (HV.out.below HB8.out)
    clear HX8 HW HB2 HB1
    gi_loopw [6] (fun i wr => ∃ k : Nat, k ≤ ts.length ∧ i = .int .i64 k ∧ Below w8.heap.size w8 wr) (fun i _ => ts.length - (intOf i).toNat)
    case atStart => exact ⟨0, Nat.zero_le _, rfl, Below.refl _ _⟩
    case round =>
      obtain ⟨k, hk, rfl, hB⟩ := hrel
      have HBR := Lib.hid hB
      have hi0 : (0 : Int) ≤ (k : Int) := by omega
      by_cases hlt : k < ts.length
      · have hi1 : (k : Int) < (ts.length : Int) := by omega
        obtain ⟨b, of, ca', nm, pb, mn, cu, ru, e1, hbl, p0, p1, p2, p3, p4, hval⟩ := tbl_at (HV8.out.below hB) hlt
        simp only [Value.slice.injEq, true_and] at e1
        obtain ⟨rfl, rfl⟩ := e1
        obtain ⟨b2, of2, ca2, nm2, pb2, mn2, cu2, ru2, e2, hbl2, q0, q1, q2, q3, q4, hval2⟩ := tbl_at (HW8.out.below hB) hlt
        simp only [Value.slice.injEq, true_and] at e2
        obtain ⟨rfl, rfl⟩ := e2
        have HX := Lib.hid hval
        have HY := Lib.hid hval2
        have HSM := Lib.hid (HT.out.2 ts[k] (List.getElem_mem hlt))
        have HLT := Lib.hid hlt
        have x0 : ∀ X : SameAt wr (fun k => k < wr.heap.size), X.W.cell? ⟨b, of + k * 5, none⟩ = _ := fun X => X.cell hbl p0
        have x1 : ∀ X : SameAt wr (fun k => k < wr.heap.size), X.W.cell? ⟨b, of + k * 5 + 1, none⟩ = _ := fun X => X.cell hbl p1
        have x2 : ∀ X : SameAt wr (fun k => k < wr.heap.size), X.W.cell? ⟨b, of + k * 5 + 2, none⟩ = _ := fun X => X.cell hbl p2
        have x3 : ∀ X : SameAt wr (fun k => k < wr.heap.size), X.W.cell? ⟨b, of + k * 5 + 3, none⟩ = _ := fun X => X.cell hbl p3
        have x4 : ∀ X : SameAt wr (fun k => k < wr.heap.size), X.W.cell? ⟨b, of + k * 5 + 4, none⟩ = _ := fun X => X.cell hbl p4
        have y0 : ∀ X : SameAt wr (fun k => k < wr.heap.size), X.W.cell? ⟨b2, of2 + k * 5, none⟩ = _ := fun X => X.cell hbl2 q0
        have y1 : ∀ X : SameAt wr (fun k => k < wr.heap.size), X.W.cell? ⟨b2, of2 + k * 5 + 1, none⟩ = _ := fun X => X.cell hbl2 q1
        have y2 : ∀ X : SameAt wr (fun k => k < wr.heap.size), X.W.cell? ⟨b2, of2 + k * 5 + 2, none⟩ = _ := fun X => X.cell hbl2 q2
        have y3 : ∀ X : SameAt wr (fun k => k < wr.heap.size), X.W.cell? ⟨b2, of2 + k * 5 + 3, none⟩ = _ := fun X => X.cell hbl2 q3
        have y4 : ∀ X : SameAt wr (fun k => k < wr.heap.size), X.W.cell? ⟨b2, of2 + k * 5 + 4, none⟩ = _ := fun X => X.cell hbl2 q4
        have hmx : Tryd.prog.follows .mixedOrders = true := by kernel_rfl
        have HDR := Lib.hid (show Below wr.heap.size wr wr.drew from ⟨rfl, rfl, rfl, Nat.le_refl _, fun _ _ => rfl⟩)
        clear hval hval2 p0 p1 p2 p3 p4 q0 q1 q2 q3 q4 hB
        generalize ts[k] = T at *
        clear hlt
        gi_wp2
        refine wpIn_stage (IsSame wr (fun k => k < wr.heap.size)) [0, 1, 2, 3, 5, 6, 7, 8, 13, 14, 15, 16, 17, 19, 20, 21, 22, 23] [] hmx (by kernel_rfl) (isSame_of fun _ _ => rfl) ?_
        change wpStage _ _ _ _ _ _ _ _ (20 + 8) _ _ _
        refine stage_reads [0, 1, 2, 3, 5, 6, 7, 8] 20 _ _ (by kernel_rfl) ?_
        change wpQuietIn _ _ _ _ (fun W => ∃ x : SameAt wr (fun k => k < wr.heap.size), W = x.W) _ _ _
        simp only [pick_cons, pick_nil, List.getElem?_cons_zero, List.getElem?_cons_succ, Option.elim_some]
        repeat (gi_big_quiet_step (fail))
        refine wpQuietIn_nil ?_
        refine stage_one 4 (by kernel_rfl) rfl ?_
        gi_wp2_with (refine ⟨trivial, ?_⟩; gi_at_call 20; refine (callsIn_wide.2 (owners_any _ _ T _ (HX.out.below HDR.out) (by have := HSM.out.1; omega))).mono ?_; rintro e w9 ⟨v9, rfl, ho9, hb9⟩; have HO9 := Lib.hid ho9.any; have HB9 := Lib.hid (HDR.out.trans (hb9.mono HDR.out.size)); clear ho9 hb9)
        refine stage_post (isSame_below HB9.out (fun _ h => h)) ?_
        refine stage_one 9 (by kernel_rfl) rfl ?_
        gi_wp2_with (refine ⟨trivial, ?_⟩; gi_at_call 21; refine (callsIn_wide.2 (rowners_any _ _ T _ (HY.out.below HB9.out) (by have := HSM.out.1; omega))).mono ?_; rintro e w10 ⟨v10, rfl, ho10, hb10⟩; have HO10 := Lib.hid ho10.any; have HYA := Lib.hid hb10; have HB10 := Lib.hid (HB9.out.trans (hb10.mono HB9.out.size)); clear ho10 hb10)
        refine stage_post (isSame_below HB10.out (fun _ h => h)) ?_
        refine stage_one 10 (by kernel_rfl) rfl ?_
        gi_wp2_with (refine ⟨trivial, ?_⟩; gi_at_call 14; refine (callsIn_wide.2 (same14_any Any Any _ _ _ _ _ (HO9.out.below HYA.out) HO10.out)).mono ?_; rintro e w11 ⟨rfl, hb11⟩; rw [eqB_true rfl]; have HB11 := Lib.hid (HB10.out.trans (hb11.mono HB10.out.size)); clear hb11)
        refine stage_post (isSame_below HB11.out (fun _ h => h)) ?_
        refine stage_one 11 (by kernel_rfl) rfl ?_
        gi_wp2
        refine stage_post (isSame_below HB11.out (fun _ h => h)) ?_
        refine stage_one 12 (by kernel_rfl) rfl ?_
        gi_wp2
        refine stage_post (isSame_below HB11.out (fun _ h => h)) ?_
        change wpStage _ _ _ _ _ _ _ _ (5 + 10) _ _ _
        refine stage_reads [13, 14, 15, 16, 17, 19, 20, 21, 22, 23] 5 _ _ (by kernel_rfl) ?_
        change wpQuietIn _ _ _ _ (fun W => ∃ x : SameAt wr (fun k => k < wr.heap.size), W = x.W) _ _ _
        simp only [pick_cons, pick_nil, List.getElem?_cons_zero, List.getElem?_cons_succ, Option.elim_some]
        repeat (gi_big_quiet_step (fail))
        refine wpQuietIn_nil ?_
        clear x0 x1 x2 x3 x4 y0 y1 y2 y3 y4 HO9 HO10
        refine stage_one 18 (by kernel_rfl) rfl ?_
        gi_wp2_with (refine ⟨trivial, ?_⟩; gi_at_call 23; refine (callsIn_wide.2 (without_valA o (HX.out.below HB11.out) HSM.out.small)).mono ?_; rintro e w12 ⟨v12, rfl, ho12, hb12⟩; have HO12 := Lib.hid ho12; have HB12 := Lib.hid (HB11.out.trans (hb12.mono HB11.out.size)); clear ho12 hb12)
        refine stage_post (isSame_below HB12.out (fun _ h => h)) ?_
        refine stage_one 24 (by kernel_rfl) rfl ?_
        gi_wp2_with (refine ⟨trivial, ?_⟩; gi_at_call 24; refine (callsIn_wide.2 (rwithout_val o (HY.out.below HB12.out) HSM.out.small)).mono ?_; rintro e w13 ⟨v13, rfl, ho13, hb13⟩; have HO13 := Lib.hid ho13; have HYD := Lib.hid hb13; have HB13 := Lib.hid (HB12.out.trans (hb13.mono HB12.out.size)); clear ho13 hb13)
        refine stage_post (isSame_below HB13.out (fun _ h => h)) ?_
        refine stage_one 25 (by kernel_rfl) rfl ?_
        gi_wp2_with (refine ⟨trivial, ?_⟩; gi_at_call 22; refine (callsIn_wide.2 (rsameTbl_any Any Any _ _ _ _ _ (HO12.out.below HYD.out) HO13.out)).mono ?_; rintro e w14 ⟨rfl, hb14⟩; rw [eqB_true rfl]; have HB14 := Lib.hid (HB13.out.trans (hb14.mono HB13.out.size)); clear hb14)
        refine stage_post (isSame_below HB14.out (fun _ h => h)) ?_
        refine stage_one 26 (by kernel_rfl) rfl ?_
        gi_wp2
        refine stage_post (isSame_below HB14.out (fun _ h => h)) ?_
        refine stage_one 27 (by kernel_rfl) rfl ?_
        gi_wp2
        refine stage_post (isSame_below HB14.out (fun _ h => h)) ?_
        refine stage_done (by kernel_rfl) ?_
        gi_wp2
        go_roundw
        case rel => exact ⟨k + 1, HLT.out, by go_num, HBR.out.trans (HB14.out.mono HBR.out.size)⟩
        case measure => have := HLT.out; simp [intOf]; omega
      · have hi1 : ¬ (k : Int) < (ts.length : Int) := by omega
        clear hB
        have HWF := Lib.hid (HB8.out.trans (HBR.out.mono HB8.out.size))
        gi_wp2_with (refine ⟨trivial, ?_⟩; gi_at_call 17; refine (callsIn_wide.2 (rsameOf_any C Any _ _ _ _ _ (HV8.out.below HBR.out) (HW8.out.below HBR.out))).mono ?_; rintro e w9 ⟨rfl, hb9⟩; rw [eqB_true rfl]; have HB9 := Lib.hid (HWF.out.trans (hb9.mono HWF.out.size)); clear hb9)
        gi_wp2_with (refine ⟨trivial, ?_⟩; gi_at_call 11; refine (callsIn_wide.2 (awake_any _ (HR.out.later HB9.out))).mono ?_; rintro e w10 ⟨rfl, hb10⟩)
        refine bodyPost_ret (results_tmp rfl _ _ _) rfl ?_
        exact ⟨rfl, HB9.out.trans (hb10.mono HB9.out.size)⟩
end Go.Proofs.YtlocafmglficnaaDoor
