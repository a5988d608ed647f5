/- awake: the table's laws see a working table. -/
import Derived.Test.YtlocafmglficnaaGreatDoorTabSame14
namespace Go.Proofs.YtlocafmglficnaaGreatDoor
open Go.RowKit Go.Maps Go.Sort Go.Shelf
def twoT : Tbl := peopleT [⟨2, [31, 1]⟩]
theorem differ_three : differT (peopleT three) twoT = (1, true) := by
  have h1 : asc (ownersT (peopleT three)) = [1, 2] := by decide
  have h2 : asc (ownersT twoT) = [2] := by decide
  have h3 : withoutT (peopleT three) 1 = twoT := by rfl
  have s1 : stepE (peopleT three) twoT (0, false) 1 = (1, true) := by
    unfold stepE
    rw [h3, eqB_true rfl]
    rfl
  have s2 : stepE (peopleT three) twoT (1, true) 2 = (1, true) := by
    unfold stepE
    rfl
  have s3 : stepE twoT (peopleT three) (1, true) 2 = (1, true) := by
    unfold stepE
    rfl
  unfold differT eachE
  rw [h1, h2]
  show List.foldl (stepE twoT (peopleT three)) (List.foldl (stepE (peopleT three) twoT) (0, false) [1, 2]) [2] = (1, true)
  simp only [List.foldl_cons, List.foldl_nil, s1, s2, s3]
theorem small_people {rows : List RowV} (h : rows.length ≤ 1000000) (hv : ∀ r ∈ rows, r.vals.length ≤ 1000000) : Small (peopleT rows) :=
  ⟨by simp [peopleT], fun c hc => by simp [peopleT] at hc; rcases hc with rfl | rfl <;> simp, h, hv⟩
theorem alloc3 (w : World) (o0 o1 o2 : Obj) : (((w.alloc o0).alloc o1).alloc o2).heap[w.heap.size]? = some o0 ∧ (((w.alloc o0).alloc o1).alloc o2).heap[w.heap.size + 1]? = some o1 ∧ (((w.alloc o0).alloc o1).alloc o2).heap[w.heap.size + 1 + 1]? = some o2 ∧ Below w.heap.size w (((w.alloc o0).alloc o1).alloc o2) := by
  have b0 : (((w.alloc o0).alloc o1).alloc o2).heap[w.heap.size]? = some o0 := by
    rw [heap_alloc_old _ _ (by simp; try omega)]
    rw [heap_alloc_old _ _ (by simp; try omega)]
    have := heap_alloc_new w o0
    simpa using this
  have b1 : (((w.alloc o0).alloc o1).alloc o2).heap[w.heap.size + 1]? = some o1 := by
    rw [heap_alloc_old _ _ (by simp; try omega)]
    have := heap_alloc_new (w.alloc o0) o1
    simpa using this
  have b2 : (((w.alloc o0).alloc o1).alloc o2).heap[w.heap.size + 1 + 1]? = some o2 := by
    have := heap_alloc_new ((w.alloc o0).alloc o1) o2
    simpa using this
  exact ⟨b0, b1, b2, by go_grown⟩
/-- One row, built by the law. -/
theorem one_row (w : World) (o : Int) (zs : List Int) (ho : Fit o) (hz : ∀ z ∈ zs, Fit z) (hm : zs.length ≤ maxLen) :
    SRow rowK Any (((w.alloc (.cells (zs.map (Value.int .i64)).toArray 3)).alloc (.cells #[.int .i64 o, .slice (some ⟨w.heap.size, 0, none⟩) zs.length zs.length] 53)).alloc (.cells #[.int .i64 o, .slice (some ⟨w.heap.size, 0, none⟩) zs.length zs.length] 53)) (.slice (some ⟨w.heap.size + 1 + 1, 0, none⟩) 1 1) [⟨o, zs⟩] := by
  obtain ⟨b0, b1, b2, hb⟩ := alloc3 w (.cells (zs.map (Value.int .i64)).toArray 3) (.cells #[.int .i64 o, .slice (some ⟨w.heap.size, 0, none⟩) zs.length zs.length] 53) (.cells #[.int .i64 o, .slice (some ⟨w.heap.size, 0, none⟩) zs.length zs.length] 53)
  refine SRow.block (K := rowK) (xs := [⟨o, zs⟩]) [[.int .i64 o, .slice (some ⟨w.heap.size, 0, none⟩) zs.length zs.length]] b2 trivial rfl rfl (fun j x hj => ?_) (by unfold maxLen; simp)
  match j with
  | 0 => cases hj; exact ⟨_, rfl, _, rfl, ints_block zs b0 hz hm, ho⟩
  | j + 1 => simp at hj
theorem ok_three : decide (tblErr (peopleT three) = (0, -1)) = true := by kernel_rfl
def zeroT : Tbl := peopleT [⟨0, [30, 0]⟩]
theorem ok_zero : decide (tblErr zeroT = (2, 0)) = true := by kernel_rfl
theorem asc_three : asc (ownersT (peopleT three)) = [1, 2] := by decide
attribute [local go_sem] Oper.semAt_some
set_option maxRecDepth 100000 in
set_option maxHeartbeats 4000000 in
theorem awake_any (w : World) (hr : Res w) : Calls Tryz.prog 6 #[] w fun e w' => e = .returned (.bool true) ∧ Below w.heap.size w w' := by
  refine (callsIn_wide (n := 6)).1 ?_
  have h1 : 1 ≤ 6 := by omega
  refine callsIn_of_wp Tryz.func6 rfl trivial ?_ rfl
  simp only [Tryz.ntmps6, List.size_toArray, List.length_nil, Nat.reduceSub, Array.replicate_succ, Array.replicate_zero, List.push_toArray, List.append_toArray, List.nil_append, List.cons_append]
  have HR := Lib.hid hr
  clear hr
  gi_wp2_with (refine ⟨trivial, ?_⟩; gi_at_call 26; refine (callsIn_wide.2 (three_any _)).mono ?_; rintro e w1 ⟨u1, rfl, hu1, hb1⟩)
  gi_wp2_with (refine ⟨trivial, ?_⟩; gi_at_call 25; refine (callsIn_wide.2 (people_any Any _ three _ hu1)).mono ?_; rintro e w2 ⟨u2, rfl, hu2, hb2⟩; have HU2 := Lib.hid hu2; have HB2 := Lib.hid (hb1.trans (hb2.mono hb1.size)); obtain ⟨cu2, ru2, rfl, hcu2, hru2, _⟩ := hu2; obtain ⟨A2, c2, rfl, _, _⟩ := hcu2.slice; obtain ⟨A3, c3, rfl, _, _⟩ := hru2.slice; clear hcu2 hru2 hb2 hb1 hu1)
  have HZ := Lib.hid (show (w2.alloc (.cells #[.string (peopleT three).sch.name, .bool (peopleT three).sch.pub, .int .i64 (peopleT three).sch.many, .slice A2 (peopleT three).sch.cols.length c2, .slice A3 (peopleT three).rows.length c3] 37)).heap[w2.heap.size]? = some (.cells #[.string (peopleT three).sch.name, .bool (peopleT three).sch.pub, .int .i64 (peopleT three).sch.many, .slice A2 (peopleT three).sch.cols.length c2, .slice A3 (peopleT three).rows.length c3] 37 (0, 0)) from heap_alloc_new _ _)
  have hbx : Below w2.heap.size w2 (w2.alloc (.cells #[.string (peopleT three).sch.name, .bool (peopleT three).sch.pub, .int .i64 (peopleT three).sch.many, .slice A2 (peopleT three).sch.cols.length c2, .slice A3 (peopleT three).rows.length c3] 37)) := below_alloc _ _
  have HU3 := Lib.hid (HU2.out.below hbx)
  have HB3 := Lib.hid (HB2.out.trans (hbx.mono HB2.out.size))
  have HR3 := Lib.hid (HR.out.later HB3.out)
  have hls : w2.heap.size < (w2.alloc (.cells #[.string (peopleT three).sch.name, .bool (peopleT three).sch.pub, .int .i64 (peopleT three).sch.many, .slice A2 (peopleT three).sch.cols.length c2, .slice A3 (peopleT three).rows.length c3] 37)).heap.size := by simp
  clear hbx HU2 HB2 HR
  generalize w2.alloc (.cells #[.string (peopleT three).sch.name, .bool (peopleT three).sch.pub, .int .i64 (peopleT three).sch.many, .slice A2 (peopleT three).sch.cols.length c2, .slice A3 (peopleT three).rows.length c3] 37) = wr at *
  have x0 : ∀ X : SameAt wr (fun k => k < wr.heap.size), X.W.cell? ⟨w2.heap.size, 0, none⟩ = _ := fun X => X.cell hls (cellrow HZ.out 0 (by simp)).1
  have x1 : ∀ X : SameAt wr (fun k => k < wr.heap.size), X.W.cell? ⟨w2.heap.size, 1, none⟩ = _ := fun X => X.cell hls (cellrow HZ.out 1 (by simp)).1
  have x2 : ∀ X : SameAt wr (fun k => k < wr.heap.size), X.W.cell? ⟨w2.heap.size, 2, none⟩ = _ := fun X => X.cell hls (cellrow HZ.out 2 (by simp)).1
  have x3 : ∀ X : SameAt wr (fun k => k < wr.heap.size), X.W.cell? ⟨w2.heap.size, 3, none⟩ = _ := fun X => X.cell hls (cellrow HZ.out 3 (by simp)).1
  have x4 : ∀ X : SameAt wr (fun k => k < wr.heap.size), X.W.cell? ⟨w2.heap.size, 4, none⟩ = _ := fun X => X.cell hls (cellrow HZ.out 4 (by simp)).1
  have hmx : Tryz.prog.follows .mixedOrders = true := by kernel_rfl
  refine wpIn_stage (IsSame wr (fun k => k < wr.heap.size)) [0, 7, 8] [] hmx (by kernel_rfl) (isSame_of fun _ _ => rfl) ?_
  change wpStage _ _ _ _ _ _ _ _ (10 + 1) _ _ _
  refine stage_reads [0] 10 _ _ (by kernel_rfl) ?_
  change wpQuietIn _ _ _ _ (fun W => ∃ x : SameAt wr (fun k => k < wr.heap.size), W = x.W) _ _ _
  simp only [pick_cons, pick_nil, List.getElem?_cons_zero, Option.elim_some]
  repeat (gi_big_quiet_step (fail))
  refine wpQuietIn_nil ?_
  refine stage_one 1 (by kernel_rfl) rfl ?_
  gi_wp2
  refine stage_post (isSame_below (show Below wr.heap.size wr _ by go_grown) (fun _ h => h)) ?_
  refine stage_one 2 (by kernel_rfl) rfl ?_
  gi_wp2_with (refine ⟨trivial, ?_⟩; gi_at_call 27; refine (callsIn_wide.2 (row_any _ _ _ _ _)).mono ?_; rintro e w8 ⟨rfl, rfl⟩)
  refine stage_post (isSame_below (show Below wr.heap.size wr _ by go_grown) (fun _ h => h)) ?_
  refine stage_one 3 (by kernel_rfl) rfl ?_
  gi_wp2
  refine stage_post (isSame_below (show Below wr.heap.size wr _ by go_grown) (fun _ h => h)) ?_
  have HROW := Lib.hid (one_row wr.drew 2 [31, 1] (by unfold Fit; omega) (fit2 (by unfold Fit; omega) (by unfold Fit; omega)) (by unfold maxLen; simp))
  have HBR := Lib.hid (show Below wr.heap.size wr (((wr.drew.alloc (.cells ([31, 1].map (Value.int .i64)).toArray 3)).alloc (.cells #[.int .i64 2, .slice (some ⟨wr.drew.heap.size, 0, none⟩) 2 2] 53)).alloc (.cells #[.int .i64 2, .slice (some ⟨wr.drew.heap.size, 0, none⟩) 2 2] 53)) by go_grown)
  refine stage_one 4 (by kernel_rfl) rfl ?_
  gi_wp2_with (refine ⟨trivial, ?_⟩; gi_at_call 25; refine (callsIn_wide.2 (people_any Any _ [⟨2, [31, 1]⟩] _ HROW.out)).mono ?_; rintro e w4 ⟨u4, rfl, hu4, hb4⟩; have HU4 := Lib.hid (show TblVal Any w4 u4 twoT from hu4); have HB4 := Lib.hid (HBR.out.trans (hb4.mono (by have := HBR.out.size; exact this))); clear hu4 hb4)
  refine stage_post (isSame_below HB4.out (fun _ h => h)) ?_
  refine stage_one 5 (by kernel_rfl) rfl ?_
  gi_wp2_with (refine ⟨trivial, ?_⟩; gi_at_call 11; refine (callsIn_wide.2 (neighbours_any Any Any _ _ (peopleT three) twoT _ (HU3.out.below HB4.out) HU4.out (small_people (by decide) (by decide)) (small_people (by decide) (by decide)))).mono ?_; rintro e w5 ⟨rfl, hb5⟩; rw [differ_three]; have HB5 := Lib.hid (HB4.out.trans (hb5.mono HB4.out.size)); clear hb5)
  refine stage_post (isSame_below HB5.out (fun _ h => h)) ?_
  refine stage_one 6 (by kernel_rfl) rfl ?_
  gi_wp2
  refine stage_post (isSame_below HB5.out (fun _ h => h)) ?_
  change wpStage _ _ _ _ _ _ _ _ (2 + 2) _ _ _
  refine stage_reads [7, 8] 2 _ _ (by kernel_rfl) ?_
  change wpQuietIn _ _ _ _ (fun W => ∃ x : SameAt wr (fun k => k < wr.heap.size), W = x.W) _ _ _
  simp only [pick_cons, pick_nil, List.getElem?_cons_zero, List.getElem?_cons_succ, Option.elim_some]
  repeat (gi_big_quiet_step (fail))
  refine wpQuietIn_nil ?_
  refine stage_one 9 (by kernel_rfl) rfl ?_
  gi_wp2
  refine stage_post (isSame_below HB5.out (fun _ h => h)) ?_
  refine stage_one 10 (by kernel_rfl) rfl ?_
  gi_wp2
  refine stage_post (isSame_below HB5.out (fun _ h => h)) ?_
  refine stage_done (by kernel_rfl) ?_
  have m5 := (HB5.out.block w2.heap.size hls).trans HZ.out
  have hl5 : w2.heap.size < w5.heap.size := by have := HB5.out.size; omega
  have a0 := (cellrow m5 0 (by simp)).1
  have a1 := (cellrow m5 1 (by simp)).1
  have a2 := (cellrow m5 2 (by simp)).1
  have a3 := (cellrow m5 3 (by simp)).1
  have a4 := (cellrow m5 4 (by simp)).1
  clear m5 x0 x1 x2 x3 x4
  gi_wp2_with (refine ⟨trivial, ?_⟩; gi_at_call 28; refine (callsIn_wide.2 (lchecks_any Any _ (peopleT three) 0 (-1) _ (HU3.out.below HB5.out) (HR3.out.later HB5.out))).mono ?_; rintro e w6 ⟨rfl, hb6⟩; rw [ok_three]; have HB6 := Lib.hid (HB5.out.trans (hb6.mono HB5.out.size)); clear hb6)
  gi_wp2_with (refine ⟨trivial, ?_⟩; gi_at_call 27; refine (callsIn_wide.2 (row_any _ _ _ _ _)).mono ?_; rintro e w8 ⟨rfl, rfl⟩)
  have HROW2 := Lib.hid (one_row w6 0 [30, 0] (by unfold Fit; omega) (fit2 (by unfold Fit; omega) (by unfold Fit; omega)) (by unfold maxLen; simp))
  have HBR2 := Lib.hid (show Below w6.heap.size w6 (((w6.alloc (.cells ([30, 0].map (Value.int .i64)).toArray 3)).alloc (.cells #[.int .i64 0, .slice (some ⟨w6.heap.size, 0, none⟩) 2 2] 53)).alloc (.cells #[.int .i64 0, .slice (some ⟨w6.heap.size, 0, none⟩) 2 2] 53)) by go_grown)
  gi_wp2_with (refine ⟨trivial, ?_⟩; gi_at_call 25; refine (callsIn_wide.2 (people_any Any _ [⟨0, [30, 0]⟩] _ HROW2.out)).mono ?_; rintro e w7 ⟨u7, rfl, hu7, hb7⟩; have HU7 := Lib.hid (show TblVal Any w7 u7 zeroT from hu7); have HB7 := Lib.hid (HB6.out.trans ((HBR2.out.trans (hb7.mono HBR2.out.size)).mono HB6.out.size)); clear hu7 hb7)
  gi_wp2_with (refine ⟨trivial, ?_⟩; gi_at_call 28; refine (callsIn_wide.2 (lchecks_any Any _ zeroT 2 0 _ HU7.out (HR3.out.later HB7.out))).mono ?_; rintro e w8 ⟨rfl, hb8⟩; rw [ok_zero]; have HB8 := Lib.hid (HB7.out.trans (hb8.mono HB7.out.size)); have mb := (HB8.out.block w2.heap.size hls).trans HZ.out; have b0 := (cellrow mb 0 (by simp)).1; have b1 := (cellrow mb 1 (by simp)).1; have b2 := (cellrow mb 2 (by simp)).1; have b3 := (cellrow mb 3 (by simp)).1; have b4 := (cellrow mb 4 (by simp)).1; have hl8 : w2.heap.size < w8.heap.size := (by have := HB8.out.size; omega); clear hb8 mb)
  gi_wp2_with (refine ⟨trivial, ?_⟩; gi_at_call 30; refine (callsIn_wide.2 (owners_any Any _ (peopleT three) _ (HU3.out.below HB8.out) (by decide))).mono ?_; rintro e w9 ⟨u9, rfl, ho9, hb9⟩; rw [asc_three] at ho9; have HO9 := Lib.hid ho9; have HB9 := Lib.hid (HB8.out.trans (hb9.mono HB8.out.size)); clear ho9 hb9)
  have HW9 := Lib.hid (ints_block [1, 2] (heap_alloc_new w9 (.cells ([1, 2].map (Value.int .i64)).toArray 3)) (fit2 (by unfold Fit; omega) (by unfold Fit; omega)) (by unfold maxLen; simp))
  have HBA := Lib.hid (below_alloc w9 (.cells ([1, 2].map (Value.int .i64)).toArray 3))
  gi_wp2_with (refine ⟨trivial, ?_⟩; gi_at_call 29; refine (callsIn_wide.2 (same14_any _ Any _ _ [1, 2] [1, 2] _ (HO9.out.row.below HBA.out) HW9.out)).mono ?_; rintro e w10 ⟨rfl, hb10⟩; rw [eqB_true rfl])
  refine bodyPost_ret (results_tmp rfl _ _ _) rfl ?_
  exact ⟨rfl, HB3.out.trans ((HB9.out.trans ((HBA.out.trans (hb10.mono HBA.out.size)).mono HB9.out.size)).mono HB3.out.size)⟩
end Go.Proofs.YtlocafmglficnaaGreatDoor
