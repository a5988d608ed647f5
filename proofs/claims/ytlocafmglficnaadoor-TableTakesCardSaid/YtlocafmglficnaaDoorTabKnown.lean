/- TableKnown: the walk. -/
import Derived.Test.YtlocafmglficnaaDoorTabAwake
import Derived.Test.YtlocafmglficnaaDoorTabClamp
namespace Go.Proofs.YtlocafmglficnaaDoor
open Go.RowKit Go.Maps Go.Sort Go.Shelf
def fullT : Tbl := peopleT [⟨1, [30, 0]⟩, ⟨1, [31, 0]⟩, ⟨1, [32, 0]⟩]
def shortT : Tbl := peopleT [⟨1, [30]⟩]
def highT : Tbl := peopleT [⟨1, [121, 0]⟩]
def wordT : Tbl := peopleT [⟨1, [30, 2]⟩]
def leftT : Tbl := peopleT [⟨1, [30, 0]⟩]
def rightT : Tbl := peopleT [⟨2, [30, 0]⟩]
theorem ok_full : decide (tblErr fullT = (12, 2)) = true := by kernel_rfl
theorem ok_short : decide (tblErr shortT = (3, 0)) = true := by kernel_rfl
theorem ok_high : decide (tblErr highT = (2, 0)) = true := by kernel_rfl
theorem ok_word : decide (tblErr wordT = (2, 0)) = true := by kernel_rfl
theorem row_ne {a b : List RowV} {T U : Tbl} (h : a ≠ b) (h1 : T.rows = a) (h2 : U.rows = b) : T ≠ U := fun e => h (by rw [← h1, ← h2, e])
theorem vals_ne {x y : RowV} {l m : List RowV} (h : x.owner ≠ y.owner) : x :: l ≠ y :: m := fun e => h (by cases e; rfl)
theorem differ_same : (differT (peopleT three) (peopleT three)).2 = false := by
  have h1 : asc (ownersT (peopleT three)) = [1, 2] := by decide
  have n1 : withoutT (peopleT three) 1 ≠ peopleT three := fun e => by
    have := congrArg (fun T : Tbl => T.rows.length) e
    revert this; decide
  have n2 : withoutT (peopleT three) 2 ≠ peopleT three := fun e => by
    have := congrArg (fun T : Tbl => T.rows.length) e
    revert this; decide
  have s1 : stepE (peopleT three) (peopleT three) (0, false) 1 = (0, false) := by
    unfold stepE
    rw [eqB_false n1]
    rfl
  have s2 : stepE (peopleT three) (peopleT three) (0, false) 2 = (0, false) := by
    unfold stepE
    rw [eqB_false n2]
    rfl
  unfold differT eachE
  rw [h1]
  show (List.foldl (stepE (peopleT three) (peopleT three)) (List.foldl (stepE (peopleT three) (peopleT three)) (0, false) [1, 2]) [1, 2]).2 = false
  simp only [List.foldl_cons, List.foldl_nil, s1, s2]
theorem differ_other : (differT leftT rightT).2 = false := by
  have h1 : asc (ownersT leftT) = [1] := by decide
  have h2 : asc (ownersT rightT) = [2] := by decide
  have n1 : withoutT leftT 1 ≠ rightT := fun e => by
    have := congrArg (fun T : Tbl => T.rows.length) e
    revert this; decide
  have n2 : withoutT rightT 2 ≠ leftT := fun e => by
    have := congrArg (fun T : Tbl => T.rows.length) e
    revert this; decide
  have s1 : stepE leftT rightT (0, false) 1 = (0, false) := by
    unfold stepE
    rw [eqB_false n1]
    rfl
  have s2 : stepE rightT leftT (0, false) 2 = (0, false) := by
    unfold stepE
    rw [eqB_false n2]
    rfl
  unfold differT eachE
  rw [h1, h2]
  show (List.foldl (stepE rightT leftT) (List.foldl (stepE leftT rightT) (0, false) [1]) [2]).2 = false
  simp only [List.foldl_cons, List.foldl_nil, s1, s2]
theorem ok_without : keptR (peopleT three) 1 = [⟨2, [31, 1]⟩] := by rfl
theorem ok_age (c : Col) (h : c = ⟨bAge, 0, 120, []⟩) : clampC c 130 = 120 ∧ clampC c (-1) = 0 ∧ clampC c 30 = 30 := by
  subst h
  exact ⟨by kernel_rfl, by kernel_rfl, by kernel_rfl⟩
theorem ok_colour (c : Col) (h : c = ⟨bColour, 0, 1, [bRed, bGreen]⟩) : clampC c 9 = 1 := by
  subst h
  kernel_rfl
/-- Three rows, built by the law. -/
theorem three_rows (w : World) (o1 o2 o3 : Int) (x1 y1 x2 y2 x3 y3 : Int) (h1 : Fit o1) (h2 : Fit o2) (h3 : Fit o3) (hx1 : Fit x1) (hy1 : Fit y1) (hx2 : Fit x2) (hy2 : Fit y2) (hx3 : Fit x3) (hy3 : Fit y3) :
    SRow rowK Any (((((((w.alloc (.cells #[.int .i64 x1, .int .i64 y1] 3)).alloc (.cells #[.int .i64 o1, .slice (some ⟨w.heap.size, 0, none⟩) 2 2] 34)).alloc (.cells #[.int .i64 x2, .int .i64 y2] 3)).alloc (.cells #[.int .i64 o2, .slice (some ⟨w.heap.size + 1 + 1, 0, none⟩) 2 2] 34)).alloc
      (.cells #[.int .i64 x3, .int .i64 y3] 3)).alloc (.cells #[.int .i64 o3, .slice (some ⟨w.heap.size + 1 + 1 + 1 + 1, 0, none⟩) 2 2] 34)).alloc
      (.cells #[.int .i64 o1, .slice (some ⟨w.heap.size, 0, none⟩) 2 2, .int .i64 o2, .slice (some ⟨w.heap.size + 1 + 1, 0, none⟩) 2 2, .int .i64 o3, .slice (some ⟨w.heap.size + 1 + 1 + 1 + 1, 0, none⟩) 2 2] 34))
      (.slice (some ⟨w.heap.size + 1 + 1 + 1 + 1 + 1 + 1, 0, none⟩) 3 3) [⟨o1, [x1, y1]⟩, ⟨o2, [x2, y2]⟩, ⟨o3, [x3, y3]⟩] := by
  obtain ⟨b0, b1, b2, b3, b4, b5, b6, hb⟩ := alloc7 w (.cells #[.int .i64 x1, .int .i64 y1] 3) (.cells #[.int .i64 o1, .slice (some ⟨w.heap.size, 0, none⟩) 2 2] 34) (.cells #[.int .i64 x2, .int .i64 y2] 3) (.cells #[.int .i64 o2, .slice (some ⟨w.heap.size + 1 + 1, 0, none⟩) 2 2] 34)
    (.cells #[.int .i64 x3, .int .i64 y3] 3) (.cells #[.int .i64 o3, .slice (some ⟨w.heap.size + 1 + 1 + 1 + 1, 0, none⟩) 2 2] 34)
    (.cells #[.int .i64 o1, .slice (some ⟨w.heap.size, 0, none⟩) 2 2, .int .i64 o2, .slice (some ⟨w.heap.size + 1 + 1, 0, none⟩) 2 2, .int .i64 o3, .slice (some ⟨w.heap.size + 1 + 1 + 1 + 1, 0, none⟩) 2 2] 34)
  have r0 := ints_block [x1, y1] b0 (fit2 hx1 hy1) (by unfold maxLen; simp)
  have r1 := ints_block [x2, y2] b2 (fit2 hx2 hy2) (by unfold maxLen; simp)
  have r2 := ints_block [x3, y3] b4 (fit2 hx3 hy3) (by unfold maxLen; simp)
  refine SRow.block (K := rowK) (xs := [⟨o1, [x1, y1]⟩, ⟨o2, [x2, y2]⟩, ⟨o3, [x3, y3]⟩]) [[.int .i64 o1, .slice (some ⟨w.heap.size, 0, none⟩) 2 2], [.int .i64 o2, .slice (some ⟨w.heap.size + 1 + 1, 0, none⟩) 2 2], [.int .i64 o3, .slice (some ⟨w.heap.size + 1 + 1 + 1 + 1, 0, none⟩) 2 2]] b6 trivial rfl rfl ?_ (by unfold maxLen; simp)
  intro j x hj
  match j with
  | 0 => cases hj; exact ⟨_, rfl, _, rfl, r0, h1⟩
  | 1 => cases hj; exact ⟨_, rfl, _, rfl, r1, h2⟩
  | 2 => cases hj; exact ⟨_, rfl, _, rfl, r2, h3⟩
  | j + 3 => simp at hj
theorem run_field31 (a b c d e : Value) (w : World) : (Instr.field 31 (.agg #[a, b, c, d, e]) 1).run Tryd.prog w = .ok e w := by
  first
    | kernel_rfl
    | rfl
    | simp [Instr.field, go_sem]
/-- A block of four cells stays. -/
def Box4 (w : World) (p : Nat) (v0 v1 v2 v3 : Value) : Prop := ∀ w', Below w.heap.size w w' → w'.cell? ⟨p, 0, none⟩ = some v0 ∧ w'.cell? ⟨p, 1, none⟩ = some v1 ∧ w'.cell? ⟨p, 2, none⟩ = some v2 ∧ w'.cell? ⟨p, 3, none⟩ = some v3
theorem box4_of {w : World} {p : Nat} {t : TypeId} {v0 v1 v2 v3 : Value} (h : w.heap[p]? = some (.cells #[v0, v1, v2, v3] t (0, 0))) : Box4 w p v0 v1 v2 v3 := fun w' hb => by
  have e := (hb.block p (Array.getElem?_eq_some_iff.1 h).1).trans h
  exact ⟨(cellrow e 0 (by simp)).1, (cellrow e 1 (by simp)).1, (cellrow e 2 (by simp)).1, (cellrow e 3 (by simp)).1⟩
theorem two_at (w : World) (o1 o2 : Obj) : ((w.alloc o1).alloc o2).drew.heap[w.heap.size]? = some o1 ∧ ((w.alloc o1).alloc o2).drew.heap[w.heap.size + 1]? = some o2 ∧ Below w.heap.size w ((w.alloc o1).alloc o2).drew := by
  refine ⟨(heap_alloc_old (w.alloc o1) o2 (by simp)).trans (heap_alloc_new w o1), ?_, by go_grown⟩
  have := heap_alloc_new (w.alloc o1) o2
  show ((w.alloc o1).alloc o2).heap[w.heap.size + 1]? = some o2
  simpa using this
attribute [local go_sem] Oper.semAt_some run_field31
set_option maxRecDepth 100000 in
set_option maxHeartbeats 8000000 in
theorem tableKnown_any (w : World) (hr : Res w) : Calls Tryd.prog 5 #[] w fun e w' => e = .returned (.bool true) ∧ Below w.heap.size w w' := by
  refine (callsIn_wide (n := 6)).1 ?_
  have h1 : 1 ≤ 6 := by omega
  refine callsIn_of_wp Tryd.func5 rfl trivial ?_ rfl
  simp only [Tryd.ntmps5, List.size_toArray, List.length_nil, Nat.reduceSub, Array.replicate_succ, Array.replicate_zero, List.push_toArray, List.append_toArray, List.nil_append, List.cons_append]
  have HR := Lib.hid hr
  clear hr
  gi_wp2_with (refine ⟨trivial, ?_⟩; gi_at_call 27; refine (callsIn_wide.2 (row_any _ _ _ _ _)).mono ?_; rintro e w8 ⟨rfl, rfl⟩)
  have HROW := Lib.hid (three_rows w 1 1 1 30 0 31 0 32 0 (by unfold Fit; omega) (by unfold Fit; omega) (by unfold Fit; omega) (by unfold Fit; omega) (by unfold Fit; omega) (by unfold Fit; omega) (by unfold Fit; omega) (by unfold Fit; omega) (by unfold Fit; omega))
  have HBR := Lib.hid (show Below w.heap.size w (((((((w.alloc (.cells #[.int .i64 30, .int .i64 0] 3)).alloc (.cells #[.int .i64 1, .slice (some ⟨w.heap.size, 0, none⟩) 2 2] 34)).alloc (.cells #[.int .i64 31, .int .i64 0] 3)).alloc (.cells #[.int .i64 1, .slice (some ⟨w.heap.size + 1 + 1, 0, none⟩) 2 2] 34)).alloc
      (.cells #[.int .i64 32, .int .i64 0] 3)).alloc (.cells #[.int .i64 1, .slice (some ⟨w.heap.size + 1 + 1 + 1 + 1, 0, none⟩) 2 2] 34)).alloc
      (.cells #[.int .i64 1, .slice (some ⟨w.heap.size, 0, none⟩) 2 2, .int .i64 1, .slice (some ⟨w.heap.size + 1 + 1, 0, none⟩) 2 2, .int .i64 1, .slice (some ⟨w.heap.size + 1 + 1 + 1 + 1, 0, none⟩) 2 2] 34)) by go_grown)
  gi_wp2_with (refine ⟨trivial, ?_⟩; gi_at_call 26; refine (callsIn_wide.2 (people_any Any _ [⟨1, [30, 0]⟩, ⟨1, [31, 0]⟩, ⟨1, [32, 0]⟩] _ HROW.out)).mono ?_; rintro e w2 ⟨u2, rfl, hu2, hb2⟩; have HU2 := Lib.hid (show TblVal Any w2 u2 fullT from hu2); have HB2 := Lib.hid (HBR.out.trans (hb2.mono HBR.out.size)); clear hu2 hb2)
  gi_wp2_with (refine ⟨trivial, ?_⟩; gi_at_call 25; refine (callsIn_wide.2 (lchecks_any Any _ fullT 12 2 _ HU2.out (HR.out.later HB2.out))).mono ?_; rintro e w3 ⟨rfl, hb3⟩; rw [ok_full]; have HB3 := Lib.hid (HB2.out.trans (hb3.mono HB2.out.size)); clear hb3)
  gi_wp2_with (refine ⟨trivial, ?_⟩; gi_at_call 27; refine (callsIn_wide.2 (row_any _ _ _ _ _)).mono ?_; rintro e w8 ⟨rfl, rfl⟩)
  have HROW4 := Lib.hid (one_row w3 1 [30] (by unfold Fit; omega) (by intro z hz; simp at hz; subst hz; unfold Fit; omega) (by unfold maxLen; simp))
  have HBR4 := Lib.hid (show Below w3.heap.size w3 (((w3.alloc (.cells ([30].map (Value.int .i64)).toArray 3)).alloc (.cells #[.int .i64 1, .slice (some ⟨w3.heap.size, 0, none⟩) 1 1] 34)).alloc (.cells #[.int .i64 1, .slice (some ⟨w3.heap.size, 0, none⟩) 1 1] 34)) by go_grown)
  gi_wp2_with (refine ⟨trivial, ?_⟩; gi_at_call 26; refine (callsIn_wide.2 (people_any Any _ [⟨1, [30]⟩] _ HROW4.out)).mono ?_; rintro e w4 ⟨u4, rfl, hu4, hb4⟩; have HU4 := Lib.hid (show TblVal Any w4 u4 shortT from hu4); have HB4 := Lib.hid (HB3.out.trans ((HBR4.out.trans (hb4.mono HBR4.out.size)).mono HB3.out.size)); clear hu4 hb4)
  gi_wp2_with (refine ⟨trivial, ?_⟩; gi_at_call 25; refine (callsIn_wide.2 (lchecks_any Any _ shortT 3 0 _ HU4.out (HR.out.later HB4.out))).mono ?_; rintro e w5 ⟨rfl, hb5⟩; rw [ok_short]; have HB5 := Lib.hid (HB4.out.trans (hb5.mono HB4.out.size)); clear hb5)
  gi_wp2_with (refine ⟨trivial, ?_⟩; gi_at_call 27; refine (callsIn_wide.2 (row_any _ _ _ _ _)).mono ?_; rintro e w8 ⟨rfl, rfl⟩)
  have HROW6 := Lib.hid (one_row w5 1 [121, 0] (by unfold Fit; omega) (fit2 (by unfold Fit; omega) (by unfold Fit; omega)) (by unfold maxLen; simp))
  have HBR6 := Lib.hid (show Below w5.heap.size w5 (((w5.alloc (.cells ([121, 0].map (Value.int .i64)).toArray 3)).alloc (.cells #[.int .i64 1, .slice (some ⟨w5.heap.size, 0, none⟩) 2 2] 34)).alloc (.cells #[.int .i64 1, .slice (some ⟨w5.heap.size, 0, none⟩) 2 2] 34)) by go_grown)
  gi_wp2_with (refine ⟨trivial, ?_⟩; gi_at_call 26; refine (callsIn_wide.2 (people_any Any _ [⟨1, [121, 0]⟩] _ HROW6.out)).mono ?_; rintro e w6 ⟨u6, rfl, hu6, hb6⟩; have HU6 := Lib.hid (show TblVal Any w6 u6 highT from hu6); have HB6 := Lib.hid (HB5.out.trans ((HBR6.out.trans (hb6.mono HBR6.out.size)).mono HB5.out.size)); clear hu6 hb6)
  gi_wp2_with (refine ⟨trivial, ?_⟩; gi_at_call 25; refine (callsIn_wide.2 (lchecks_any Any _ highT 2 0 _ HU6.out (HR.out.later HB6.out))).mono ?_; rintro e w7 ⟨rfl, hb7⟩; rw [ok_high]; have HB7 := Lib.hid (HB6.out.trans (hb7.mono HB6.out.size)); clear hb7)
  gi_wp2_with (refine ⟨trivial, ?_⟩; gi_at_call 27; refine (callsIn_wide.2 (row_any _ _ _ _ _)).mono ?_; rintro e w8 ⟨rfl, rfl⟩)
  have HROW8 := Lib.hid (one_row w7 1 [30, 2] (by unfold Fit; omega) (fit2 (by unfold Fit; omega) (by unfold Fit; omega)) (by unfold maxLen; simp))
  have HBR8 := Lib.hid (show Below w7.heap.size w7 (((w7.alloc (.cells ([30, 2].map (Value.int .i64)).toArray 3)).alloc (.cells #[.int .i64 1, .slice (some ⟨w7.heap.size, 0, none⟩) 2 2] 34)).alloc (.cells #[.int .i64 1, .slice (some ⟨w7.heap.size, 0, none⟩) 2 2] 34)) by go_grown)
  gi_wp2_with (refine ⟨trivial, ?_⟩; gi_at_call 26; refine (callsIn_wide.2 (people_any Any _ [⟨1, [30, 2]⟩] _ HROW8.out)).mono ?_; rintro e w9 ⟨u9, rfl, hu9, hb9⟩; have HU9 := Lib.hid (show TblVal Any w9 u9 wordT from hu9); have HB9 := Lib.hid (HB7.out.trans ((HBR8.out.trans (hb9.mono HBR8.out.size)).mono HB7.out.size)); clear hu9 hb9)
  gi_wp2_with (refine ⟨trivial, ?_⟩; gi_at_call 25; refine (callsIn_wide.2 (lchecks_any Any _ wordT 2 0 _ HU9.out (HR.out.later HB9.out))).mono ?_; rintro e w10 ⟨rfl, hb10⟩; rw [ok_word]; have HBA := Lib.hid (HB9.out.trans (hb10.mono HB9.out.size)); clear hb10)
  clear HROW HBR HB2 HU2 HB3 HROW4 HBR4 HU4 HB4 HB5 HROW6 HBR6 HU6 HB6 HB7 HROW8 HBR8 HU9 HB9
  gi_wp2_with (refine ⟨trivial, ?_⟩; gi_at_call 28; refine (callsIn_wide.2 (three_any _)).mono ?_; rintro e w1 ⟨u1, rfl, hu1, hb1⟩)
  gi_wp2_with (refine ⟨trivial, ?_⟩; gi_at_call 26; refine (callsIn_wide.2 (people_any Any _ three _ hu1)).mono ?_; rintro e w2 ⟨u2, rfl, hu2, hb2⟩; have HU2 := Lib.hid hu2; have HB2 := Lib.hid (HBA.out.trans ((hb1.trans (hb2.mono hb1.size)).mono HBA.out.size)); obtain ⟨cu2, ru2, rfl, hcu2, hru2, _⟩ := hu2; obtain ⟨A2, c2, rfl, _, _⟩ := hcu2.slice; obtain ⟨A3, c3, rfl, _, _⟩ := hru2.slice; clear hcu2 hru2 hb2 hb1 hu1)
  have HZ := Lib.hid (show (w2.alloc (.cells #[.string (peopleT three).sch.name, .bool (peopleT three).sch.pub, .int .i64 (peopleT three).sch.many, .slice A2 (peopleT three).sch.cols.length c2, .slice A3 (peopleT three).rows.length c3] 31)).heap[w2.heap.size]? = some (.cells #[.string (peopleT three).sch.name, .bool (peopleT three).sch.pub, .int .i64 (peopleT three).sch.many, .slice A2 (peopleT three).sch.cols.length c2, .slice A3 (peopleT three).rows.length c3] 31 (0, 0)) from heap_alloc_new _ _)
  have hbx : Below w2.heap.size w2 (w2.alloc (.cells #[.string (peopleT three).sch.name, .bool (peopleT three).sch.pub, .int .i64 (peopleT three).sch.many, .slice A2 (peopleT three).sch.cols.length c2, .slice A3 (peopleT three).rows.length c3] 31)) := below_alloc _ _
  have HU3 := Lib.hid (HU2.out.below hbx)
  have HB3 := Lib.hid (HB2.out.trans (hbx.mono HB2.out.size))
  have hls : w2.heap.size < (w2.alloc (.cells #[.string (peopleT three).sch.name, .bool (peopleT three).sch.pub, .int .i64 (peopleT three).sch.many, .slice A2 (peopleT three).sch.cols.length c2, .slice A3 (peopleT three).rows.length c3] 31)).heap.size := by simp
  clear hbx HU2 HB2 HBA
  generalize w2.alloc (.cells #[.string (peopleT three).sch.name, .bool (peopleT three).sch.pub, .int .i64 (peopleT three).sch.many, .slice A2 (peopleT three).sch.cols.length c2, .slice A3 (peopleT three).rows.length c3] 31) = wr at *
  generalize w2.heap.size = bx at *
  have y0 := (cellrow HZ.out 0 (by simp)).1
  have y1 := (cellrow HZ.out 1 (by simp)).1
  have y2 := (cellrow HZ.out 2 (by simp)).1
  have y3 := (cellrow HZ.out 3 (by simp)).1
  have y4 := (cellrow HZ.out 4 (by simp)).1
  gi_wp2_with (refine ⟨trivial, ?_⟩; gi_at_call 23; refine (callsIn_wide.2 (without_any Any _ (peopleT three) 1 _ HU3.out (by decide) (by decide) (by decide) (by decide))).mono ?_; rintro e w4 ⟨cu4, ru4, rfl, hcu4, hru4, hb4⟩; rw [ok_without] at hru4; obtain ⟨A4, c4, rfl, _, _⟩ := hcu4.slice; obtain ⟨A5, c5, rfl, _, _⟩ := hru4.slice; have HRU4 := Lib.hid hru4.any; have HB4 := Lib.hid (HB3.out.trans (hb4.mono HB3.out.size)); have HBX4 := Lib.hid hb4; clear hcu4 hru4 hb4 y0 y1 y2 y3 y4)
  gi_wp2_with (refine ⟨trivial, ?_⟩; gi_at_call 27; refine (callsIn_wide.2 (row_any _ _ _ _ _)).mono ?_; rintro e w8 ⟨rfl, rfl⟩)
  have HROWA := Lib.hid (one_row w4 2 [31, 1] (by unfold Fit; omega) (fit2 (by unfold Fit; omega) (by unfold Fit; omega)) (by unfold maxLen; simp))
  have HBRA := Lib.hid (show Below w4.heap.size w4 (((w4.alloc (.cells ([31, 1].map (Value.int .i64)).toArray 3)).alloc (.cells #[.int .i64 2, .slice (some ⟨w4.heap.size, 0, none⟩) 2 2] 34)).alloc (.cells #[.int .i64 2, .slice (some ⟨w4.heap.size, 0, none⟩) 2 2] 34)) by go_grown)
  gi_wp2_with (refine ⟨trivial, ?_⟩; gi_at_call 29; refine (callsIn_wide.2 (sameRows_any Any Any _ _ [⟨2, [31, 1]⟩] [⟨2, [31, 1]⟩] _ (HRU4.out.below HBRA.out) HROWA.out)).mono ?_; rintro e w5 ⟨rfl, hb5⟩; rw [eqB_true rfl]; have HBX5 := Lib.hid (HBX4.out.trans ((HBRA.out.trans (hb5.mono HBRA.out.size)).mono HBX4.out.size)); have HB5 := Lib.hid (HB3.out.trans (HBX5.out.mono HB3.out.size)); have m5 := (HBX5.out.block bx hls).trans HZ.out; have y0 := (cellrow m5 0 (by simp)).1; have y1 := (cellrow m5 1 (by simp)).1; have y2 := (cellrow m5 2 (by simp)).1; have y3 := (cellrow m5 3 (by simp)).1; have y4 := (cellrow m5 4 (by simp)).1; have hl5 : bx < w5.heap.size := (by have := HBX5.out.size; omega); clear hb5 m5)
  clear HRU4 HB4 HBX4 HROWA HBRA
  gi_wp2_with (refine ⟨trivial, ?_⟩; gi_at_call 30; refine (callsIn_wide.2 (neighbours_any Any Any _ _ (peopleT three) (peopleT three) _ (HU3.out.below HBX5.out) (HU3.out.below HBX5.out) (small_people (by decide) (by decide)) (small_people (by decide) (by decide)))).mono ?_; rintro e w6 ⟨rfl, hb6⟩; have HDS := Lib.hid differ_same; generalize differT (peopleT three) (peopleT three) = ds at *; obtain ⟨d1, d2⟩ := ds; obtain rfl : d2 = false := HDS.out; have HBX6 := Lib.hid (HBX5.out.trans (hb6.mono HBX5.out.size)); have HB6 := Lib.hid (HB3.out.trans (HBX6.out.mono HB3.out.size)); clear hb6 y0 y1 y2 y3 y4 hl5)
  clear HBX5 HB5
  gi_wp2_with (refine ⟨trivial, ?_⟩; gi_at_call 27; refine (callsIn_wide.2 (row_any _ _ _ _ _)).mono ?_; rintro e w8 ⟨rfl, rfl⟩)
  have HROWB := Lib.hid (one_row w6 1 [30, 0] (by unfold Fit; omega) (fit2 (by unfold Fit; omega) (by unfold Fit; omega)) (by unfold maxLen; simp))
  have HBRB := Lib.hid (show Below w6.heap.size w6 (((w6.alloc (.cells ([30, 0].map (Value.int .i64)).toArray 3)).alloc (.cells #[.int .i64 1, .slice (some ⟨w6.heap.size, 0, none⟩) 2 2] 34)).alloc (.cells #[.int .i64 1, .slice (some ⟨w6.heap.size, 0, none⟩) 2 2] 34)) by go_grown)
  gi_wp2_with (refine ⟨trivial, ?_⟩; gi_at_call 26; refine (callsIn_wide.2 (people_any Any _ [⟨1, [30, 0]⟩] _ HROWB.out)).mono ?_; rintro e w7 ⟨u7, rfl, hu7, hb7⟩; have HU7 := Lib.hid (show TblVal Any w7 u7 leftT from hu7); have HBX7 := Lib.hid (HBX6.out.trans ((HBRB.out.trans (hb7.mono HBRB.out.size)).mono HBX6.out.size)); clear hu7 hb7)
  clear HROWB HBRB HBX6 HB6
  gi_wp2_with (refine ⟨trivial, ?_⟩; gi_at_call 27; refine (callsIn_wide.2 (row_any _ _ _ _ _)).mono ?_; rintro e w8 ⟨rfl, rfl⟩)
  have HROWC := Lib.hid (one_row w7 2 [30, 0] (by unfold Fit; omega) (fit2 (by unfold Fit; omega) (by unfold Fit; omega)) (by unfold maxLen; simp))
  have HBRC := Lib.hid (show Below w7.heap.size w7 (((w7.alloc (.cells ([30, 0].map (Value.int .i64)).toArray 3)).alloc (.cells #[.int .i64 2, .slice (some ⟨w7.heap.size, 0, none⟩) 2 2] 34)).alloc (.cells #[.int .i64 2, .slice (some ⟨w7.heap.size, 0, none⟩) 2 2] 34)) by go_grown)
  gi_wp2_with (refine ⟨trivial, ?_⟩; gi_at_call 26; refine (callsIn_wide.2 (people_any Any _ [⟨2, [30, 0]⟩] _ HROWC.out)).mono ?_; rintro e w9 ⟨u9, rfl, hu9, hb9⟩; have HU9 := Lib.hid (show TblVal Any w9 u9 rightT from hu9); have HU8 := Lib.hid (HU7.out.below (HBRC.out.trans (hb9.mono HBRC.out.size))); have HBX9 := Lib.hid (HBX7.out.trans ((HBRC.out.trans (hb9.mono HBRC.out.size)).mono HBX7.out.size)); clear hu9 hb9)
  clear HROWC HBRC HBX7 HU7
  gi_wp2_with (refine ⟨trivial, ?_⟩; gi_at_call 30; refine (callsIn_wide.2 (neighbours_any Any Any _ _ leftT rightT _ HU8.out HU9.out (small_people (by decide) (by decide)) (small_people (by decide) (by decide)))).mono ?_; rintro e w10 ⟨rfl, hb10⟩; have HDO := Lib.hid differ_other; generalize differT leftT rightT = ds at *; obtain ⟨d3, d4⟩ := ds; obtain rfl : d4 = false := HDO.out; have HBXA := Lib.hid (HBX9.out.trans (hb10.mono HBX9.out.size)); have HBA := Lib.hid (HB3.out.trans (HBXA.out.mono HB3.out.size)); clear hb10)
  clear HU8 HU9 HBX9 HDO HDS
  have m5 := (HBXA.out.block bx hls).trans HZ.out
  have hlA : bx < w10.heap.size := by have := HBXA.out.size; omega
  have HUA := Lib.hid (HU3.out.below HBXA.out)
  have HBF := Lib.hid HBA.out
  have HUB := HUA.out
  obtain ⟨cv, rv, ev, hcv, hrv, _⟩ := HUB
  simp only [Value.agg.injEq, Array.mk.injEq, List.cons.injEq, and_true, true_and] at ev
  obtain ⟨rfl, rfl⟩ := ev
  obtain ⟨A', c', e2, _, _, hcc⟩ := hcv.cols
  simp only [Value.slice.injEq, true_and] at e2
  obtain ⟨rfl, rfl⟩ := e2
  obtain ⟨b, o, rfl, hcell⟩ := hcc (by decide)
  obtain ⟨wa, a0, a1, a2, a3, hwa, hsa⟩ := hcell 0 (by decide)
  obtain ⟨wb, g0, g1, g2, g3, hwb, hsb⟩ := hcell 1 (by decide)
  obtain ⟨Wa, cwa, rfl, _, _⟩ := hwa.slice
  obtain ⟨Wb, cwb, rfl, _, _⟩ := hwb.slice
  have HCA := Lib.hid (show (peopleT three).sch.cols[0]'(by decide) = ⟨bAge, 0, 120, []⟩ from rfl)
  have HCB := Lib.hid (show (peopleT three).sch.cols[1]'(by decide) = ⟨bColour, 0, 1, [bRed, bGreen]⟩ from rfl)
  generalize (peopleT three).sch.cols[0]'(by decide) = colA at *
  generalize (peopleT three).sch.cols[1]'(by decide) = colB at *
  have HVA := Lib.hid (show ColVal Any w10 (.agg #[.string colA.name, .int .i64 colA.lo, .int .i64 colA.hi, .slice Wa colA.words.length cwa]) colA from ⟨_, rfl, hwa, hsa⟩)
  have HVB := Lib.hid (show ColVal Any w10 (.agg #[.string colB.name, .int .i64 colB.lo, .int .i64 colB.hi, .slice Wb colB.words.length cwb]) colB from ⟨_, rfl, hwb, hsb⟩)
  have hbl := World.block_lt_of_cell? w10 _ a0
  simp only at hbl
  have hl2 : (1 : Int) < ((peopleT three).sch.cols.length : Int) := by decide
  have hl1 : (0 : Int) < ((peopleT three).sch.cols.length : Int) := by decide
  have k3 := (cellrow m5 3 (by simp)).1
  have t3 : ∀ X : SameAt w10 (fun k => k < w10.heap.size), X.W.cell? ⟨bx, 3, none⟩ = _ := fun X => X.cell hlA k3
  have xa0 : ∀ X : SameAt w10 (fun k => k < w10.heap.size), X.W.cell? ⟨b, o, none⟩ = _ := fun X => X.cell hbl (by simpa using a0)
  have xa1 : ∀ X : SameAt w10 (fun k => k < w10.heap.size), X.W.cell? ⟨b, o + 1, none⟩ = _ := fun X => X.cell hbl (by simpa using a1)
  have xa2 : ∀ X : SameAt w10 (fun k => k < w10.heap.size), X.W.cell? ⟨b, o + 2, none⟩ = _ := fun X => X.cell hbl (by simpa using a2)
  have xa3 : ∀ X : SameAt w10 (fun k => k < w10.heap.size), X.W.cell? ⟨b, o + 3, none⟩ = _ := fun X => X.cell hbl (by simpa using a3)
  have xb0 : ∀ X : SameAt w10 (fun k => k < w10.heap.size), X.W.cell? ⟨b, o + 4, none⟩ = _ := fun X => X.cell hbl (by simpa using g0)
  have xb1 : ∀ X : SameAt w10 (fun k => k < w10.heap.size), X.W.cell? ⟨b, o + 4 + 1, none⟩ = _ := fun X => X.cell hbl (by simpa using g1)
  have xb2 : ∀ X : SameAt w10 (fun k => k < w10.heap.size), X.W.cell? ⟨b, o + 4 + 2, none⟩ = _ := fun X => X.cell hbl (by simpa using g2)
  have xb3 : ∀ X : SameAt w10 (fun k => k < w10.heap.size), X.W.cell? ⟨b, o + 4 + 3, none⟩ = _ := fun X => X.cell hbl (by simpa using g3)
  have hmx : Tryd.prog.follows .mixedOrders = true := by kernel_rfl
  clear hcc hcell hwa hwb hsa hsb a0 a1 a2 a3 g0 g1 g2 g3 hcv hrv HUA m5 k3
  refine wpIn_stage (IsSame w10 (fun k => k < w10.heap.size)) [0, 1, 2, 3, 4, 5, 6, 7, 8, 9] [13] hmx (by kernel_rfl) (isSame_of fun _ _ => rfl) ?_
  change wpStage _ _ _ _ _ _ _ _ (4 + 10) _ _ _
  refine stage_reads [0, 1, 2, 3, 4, 5, 6, 7, 8, 9] 4 _ _ (by kernel_rfl) ?_
  change wpQuietIn _ _ _ _ (fun W => ∃ x : SameAt w10 (fun k => k < w10.heap.size), W = x.W) _ _ _
  simp only [pick_cons, pick_nil, List.getElem?_cons_zero, List.getElem?_cons_succ, Option.elim_some]
  repeat (gi_big_quiet_step (fail))
  refine wpQuietIn_nil ?_
  refine stage_two 10 11 (by kernel_rfl) rfl rfl ?_ ?_
  · gi_wp2
    refine stage_post (isSame_below (show Below w10.heap.size w10 _ by go_grown) (fun _ h => h)) ?_
    refine stage_one 11 (by kernel_rfl) rfl ?_
    gi_wp2
    refine stage_post (isSame_below (show Below w10.heap.size w10 _ by go_grown) (fun _ h => h)) ?_
    refine stage_one 12 (by kernel_rfl) rfl ?_
    gi_wp2
    refine stage_post (isSame_below (show Below w10.heap.size w10 _ by go_grown) (fun _ h => h)) ?_
    refine stage_one 13 (by kernel_rfl) rfl ?_
    gi_wp2
    refine stage_last (by kernel_rfl) ?_
    refine stage_done (by kernel_rfl) ?_
    have htw := two_at w10 (.cells #[.string colA.name, .int .i64 colA.lo, .int .i64 colA.hi, .slice Wa colA.words.length cwa] 25) (.cells #[.string colB.name, .int .i64 colB.lo, .int .i64 colB.hi, .slice Wb colB.words.length cwb] 25)
    have HX8 := Lib.hid (box4_of htw.1)
    have HX9 := Lib.hid (box4_of htw.2.1)
    have HBC := Lib.hid htw.2.2
    clear htw t3 xa0 xa1 xa2 xa3 xb0 xb1 xb2 xb3
    generalize (((w10.alloc (.cells #[.string colA.name, .int .i64 colA.lo, .int .i64 colA.hi, .slice Wa colA.words.length cwa] 25)).alloc (.cells #[.string colB.name, .int .i64 colB.lo, .int .i64 colB.hi, .slice Wb colB.words.length cwb] 25)).drew) = Wf at *
    have HBD := Lib.hid (Below.refl Wf.heap.size Wf)
    gi_wp2
    refine ⟨trivial, ?_⟩
    gi_at_call 11
    refine (callsIn_wide.2 (awake_any _ (HR.out.later (HBF.out.trans (HBC.out.mono HBF.out.size))))).mono ?_
    rintro e w11 ⟨rfl, hb11⟩
    have HBC := Lib.hid (HBC.out.trans (hb11.mono HBC.out.size))
    have HBD := Lib.hid hb11
    obtain ⟨z0, z1, z2, z3⟩ := HX8.out _ hb11
    clear hb11
    gi_wp2
    refine ⟨trivial, ?_⟩
    gi_at_call 31
    refine (callsIn_wide.2 (clamp_any _ colA 130 _ (HVA.out.below HBC.out) (HR.out.later (HBF.out.trans (HBC.out.mono HBF.out.size))))).mono ?_
    rintro e w12 ⟨rfl, hb12⟩
    rw [(ok_age colA HCA.out).1]
    have HBC := Lib.hid (HBC.out.trans (hb12.mono HBC.out.size))
    have HBD := Lib.hid (HBD.out.trans (hb12.mono HBD.out.size))
    obtain ⟨y0, y1, y2, y3⟩ := HX8.out _ HBD.out
    clear hb12
    gi_wp2
    refine ⟨trivial, ?_⟩
    gi_at_call 31
    refine (callsIn_wide.2 (clamp_any _ colA (-1) _ (HVA.out.below HBC.out) (HR.out.later (HBF.out.trans (HBC.out.mono HBF.out.size))))).mono ?_
    rintro e w13 ⟨rfl, hb13⟩
    rw [(ok_age colA HCA.out).2.1]
    have HBC := Lib.hid (HBC.out.trans (hb13.mono HBC.out.size))
    have HBD := Lib.hid (HBD.out.trans (hb13.mono HBD.out.size))
    obtain ⟨x0, x1, x2, x3⟩ := HX8.out _ HBD.out
    clear hb13
    gi_wp2
    refine ⟨trivial, ?_⟩
    gi_at_call 31
    refine (callsIn_wide.2 (clamp_any _ colA 30 _ (HVA.out.below HBC.out) (HR.out.later (HBF.out.trans (HBC.out.mono HBF.out.size))))).mono ?_
    rintro e w14 ⟨rfl, hb14⟩
    rw [(ok_age colA HCA.out).2.2]
    have HBC := Lib.hid (HBC.out.trans (hb14.mono HBC.out.size))
    have HBD := Lib.hid (HBD.out.trans (hb14.mono HBD.out.size))
    obtain ⟨q0, q1, q2, q3⟩ := HX9.out _ HBD.out
    clear hb14
    gi_wp2
    refine ⟨trivial, ?_⟩
    gi_at_call 31
    refine (callsIn_wide.2 (clamp_any _ colB 9 _ (HVB.out.below HBC.out) (HR.out.later (HBF.out.trans (HBC.out.mono HBF.out.size))))).mono ?_
    rintro e w15 ⟨rfl, hb15⟩
    rw [ok_colour colB HCB.out]
    have HBC := Lib.hid (HBC.out.trans (hb15.mono HBC.out.size))
    clear hb15
    gi_wp2
    refine bodyPost_ret (results_tmp rfl _ _ _) rfl ?_
    exact ⟨rfl, HBF.out.trans (HBC.out.mono HBF.out.size)⟩
  · gi_wp2
    refine stage_post (isSame_below (show Below w10.heap.size w10 _ by go_grown) (fun _ h => h)) ?_
    refine stage_one 10 (by kernel_rfl) rfl ?_
    gi_wp2
    refine stage_post (isSame_below (show Below w10.heap.size w10 _ by go_grown) (fun _ h => h)) ?_
    refine stage_one 12 (by kernel_rfl) rfl ?_
    gi_wp2
    refine stage_post (isSame_below (show Below w10.heap.size w10 _ by go_grown) (fun _ h => h)) ?_
    refine stage_one 13 (by kernel_rfl) rfl ?_
    gi_wp2
    refine stage_last (by kernel_rfl) ?_
    refine stage_done (by kernel_rfl) ?_
    have htw := two_at w10 (.cells #[.string colB.name, .int .i64 colB.lo, .int .i64 colB.hi, .slice Wb colB.words.length cwb] 25) (.cells #[.string colA.name, .int .i64 colA.lo, .int .i64 colA.hi, .slice Wa colA.words.length cwa] 25)
    have HX8 := Lib.hid (box4_of htw.2.1)
    have HX9 := Lib.hid (box4_of htw.1)
    have HBC := Lib.hid htw.2.2
    clear htw t3 xa0 xa1 xa2 xa3 xb0 xb1 xb2 xb3
    generalize (((w10.alloc (.cells #[.string colB.name, .int .i64 colB.lo, .int .i64 colB.hi, .slice Wb colB.words.length cwb] 25)).alloc (.cells #[.string colA.name, .int .i64 colA.lo, .int .i64 colA.hi, .slice Wa colA.words.length cwa] 25)).drew) = Wf at *
    have HBD := Lib.hid (Below.refl Wf.heap.size Wf)
    gi_wp2
    refine ⟨trivial, ?_⟩
    gi_at_call 11
    refine (callsIn_wide.2 (awake_any _ (HR.out.later (HBF.out.trans (HBC.out.mono HBF.out.size))))).mono ?_
    rintro e w11 ⟨rfl, hb11⟩
    have HBC := Lib.hid (HBC.out.trans (hb11.mono HBC.out.size))
    have HBD := Lib.hid hb11
    obtain ⟨z0, z1, z2, z3⟩ := HX8.out _ hb11
    clear hb11
    gi_wp2
    refine ⟨trivial, ?_⟩
    gi_at_call 31
    refine (callsIn_wide.2 (clamp_any _ colA 130 _ (HVA.out.below HBC.out) (HR.out.later (HBF.out.trans (HBC.out.mono HBF.out.size))))).mono ?_
    rintro e w12 ⟨rfl, hb12⟩
    rw [(ok_age colA HCA.out).1]
    have HBC := Lib.hid (HBC.out.trans (hb12.mono HBC.out.size))
    have HBD := Lib.hid (HBD.out.trans (hb12.mono HBD.out.size))
    obtain ⟨y0, y1, y2, y3⟩ := HX8.out _ HBD.out
    clear hb12
    gi_wp2
    refine ⟨trivial, ?_⟩
    gi_at_call 31
    refine (callsIn_wide.2 (clamp_any _ colA (-1) _ (HVA.out.below HBC.out) (HR.out.later (HBF.out.trans (HBC.out.mono HBF.out.size))))).mono ?_
    rintro e w13 ⟨rfl, hb13⟩
    rw [(ok_age colA HCA.out).2.1]
    have HBC := Lib.hid (HBC.out.trans (hb13.mono HBC.out.size))
    have HBD := Lib.hid (HBD.out.trans (hb13.mono HBD.out.size))
    obtain ⟨x0, x1, x2, x3⟩ := HX8.out _ HBD.out
    clear hb13
    gi_wp2
    refine ⟨trivial, ?_⟩
    gi_at_call 31
    refine (callsIn_wide.2 (clamp_any _ colA 30 _ (HVA.out.below HBC.out) (HR.out.later (HBF.out.trans (HBC.out.mono HBF.out.size))))).mono ?_
    rintro e w14 ⟨rfl, hb14⟩
    rw [(ok_age colA HCA.out).2.2]
    have HBC := Lib.hid (HBC.out.trans (hb14.mono HBC.out.size))
    have HBD := Lib.hid (HBD.out.trans (hb14.mono HBD.out.size))
    obtain ⟨q0, q1, q2, q3⟩ := HX9.out _ HBD.out
    clear hb14
    gi_wp2
    refine ⟨trivial, ?_⟩
    gi_at_call 31
    refine (callsIn_wide.2 (clamp_any _ colB 9 _ (HVB.out.below HBC.out) (HR.out.later (HBF.out.trans (HBC.out.mono HBF.out.size))))).mono ?_
    rintro e w15 ⟨rfl, hb15⟩
    rw [ok_colour colB HCB.out]
    have HBC := Lib.hid (HBC.out.trans (hb15.mono HBC.out.size))
    clear hb15
    gi_wp2
    refine bodyPost_ret (results_tmp rfl _ _ _) rfl ?_
    exact ⟨rfl, HBF.out.trans (HBC.out.mono HBF.out.size)⟩
end Go.Proofs.YtlocafmglficnaaDoor
