/- Check of a schema. -/
import Derived.Test.YtlocafmglficnaaGreatDoorTabChecks
namespace Go.Proofs.YtlocafmglficnaaGreatDoor
open Go.RowKit Go.Maps

instance : Inhabited Col := ⟨⟨ByteArray.empty, 0, 0, []⟩⟩
/-- The error of the i-th column. -/
def errAt (cs : List Col) (i : Nat) : Int := colErr (cs.take i) (cs[i]?.getD default)
/-- The first error of the columns. -/
def colsErr (cs : List Col) : Int × Int := match (List.range cs.length).find? (fun i => errAt cs i != 0) with | some i => (errAt cs i, (i : Int)) | none => (0, -1)
def schErr (S : Sch) : Int × Int :=
  if (!nameB S.name) = true then (19, -1) else if manyBad S = true then (2, -1) else if decide (S.cols.length = 0) = true then (3, -1) else if decide (16 < S.cols.length) = true then (4, -1) else colsErr S.cols
theorem colsErr_hit {cs : List Col} {k : Nat} (hk : k < cs.length) (h0 : ∀ i, i < k → errAt cs i = 0) (h1 : errAt cs k ≠ 0) : colsErr cs = (errAt cs k, (k : Int)) := by
  have : (List.range cs.length).find? (fun i => errAt cs i != 0) = some k := by
    rw [List.find?_eq_some_iff_append]
    refine ⟨by simpa using h1, List.range k, (List.range' (k + 1) (cs.length - (k + 1))), ?_, fun i hi => by simpa using h0 i (List.mem_range.1 hi)⟩
    rw [List.range_eq_range', List.range_eq_range', show cs.length = k + (cs.length - k) by omega, ← List.range'_append_1, Nat.zero_add, show cs.length - k = (cs.length - (k + 1)) + 1 by omega, List.range'_succ]
    congr 3
    omega
  unfold colsErr; rw [this]
theorem colsErr_miss {cs : List Col} (h0 : ∀ i, i < cs.length → errAt cs i = 0) : colsErr cs = (0, -1) := by
  have : (List.range cs.length).find? (fun i => errAt cs i != 0) = none := by
    rw [List.find?_eq_none]
    intro i hi
    simpa using h0 i (List.mem_range.1 hi)
  unfold colsErr; rw [this]
theorem errAt_eq {cs : List Col} {k : Nat} (hk : k < cs.length) : errAt cs k = colErr (cs.take k) cs[k] := by unfold errAt; simp [hk]

set_option maxHeartbeats 1000000 in
theorem chk5 (C : TypeId → Nat → Prop) (v : Value) (S : Sch) (w : World) (h : SchVal C w v S) (hr : Res w) :
    Calls Tryz.prog 90 #[v] w fun e w' => e = .returned (.tuple #[.int .i64 (colsErr S.cols).1, .int .i64 (colsErr S.cols).2]) ∧ Below w.heap.size w w' := by
  obtain ⟨u, rfl, hrw, hs⟩ := h
  obtain ⟨A, cc, rfl, hle, hmx⟩ := hrw.slice
  have hb0 := below_alloc w (.cells #[.string S.name, .bool S.pub, .int .i64 S.many, .slice A S.cols.length cc] 34)
  have HB := Lib.hid hb0
  have HR := Lib.hid (hr.later hb0)
  have HROW := Lib.hid (hrw.below hb0)
  unfold maxLen at hmx
  clear hb0 hr hrw
  go_enter Tryz.func90, Tryz.ntmps90
  go_wp2
  go_loopw [9] (fun i wr => ∃ k : Nat, k ≤ S.cols.length ∧ i = .int .i64 k ∧ (∀ i, i < k → errAt S.cols i = 0) ∧ Below (w.alloc (.cells #[.string S.name, .bool S.pub, .int .i64 S.many, .slice A S.cols.length cc] 34)).heap.size (w.alloc (.cells #[.string S.name, .bool S.pub, .int .i64 S.many, .slice A S.cols.length cc] 34)) wr) (fun i _ => S.cols.length - (intOf i).toNat)
  case atStart => exact ⟨0, Nat.zero_le _, rfl, fun i hi => by omega, Below.refl _ _⟩
  case round =>
    obtain ⟨k, hk, rfl, h0, hB⟩ := hrel
    have H0 := Lib.hid h0
    have HBK := Lib.hid hB
    obtain ⟨_, _, _, b3⟩ := box4_later hB
    clear h0 hB
    by_cases hlt : k < S.cols.length
    · have hi0 : (0 : Int) ≤ (k : Int) := by omega
      have hi1 : (k : Int) < (S.cols.length : Int) := by omega
      have HE := Lib.hid (errAt_eq hlt)
      by_cases he : errAt S.cols k = 0
      · have HS := Lib.hid (show ∀ i, i < k + 1 → errAt S.cols i = 0 from fun i hi => by
          rcases Nat.lt_or_ge i k with h | h
          · exact H0.out i h
          · obtain rfl : i = k := by omega
            exact he)
        have HZ := Lib.hid (HE.out.symm.trans he)
        clear he
        go_wp2_with (go_at_call 75; refine (column_any C _ S.cols k hlt _ (HROW.out.below HBK.out) (HR.out.later HBK.out)).mono ?_; rintro e w1 ⟨rfl, hb1⟩; rw [HZ.out])
        have HB1 := Lib.hid (HBK.out.trans (hb1.mono HBK.out.size))
        go_roundw
        case rel => exact ⟨k + 1, by omega, by go_num, HS.out, HB1.out⟩
        case measure => simp [intOf]; omega
      · have HV := Lib.hid (colsErr_hit hlt H0.out he)
        have hne : (errAt S.cols k != 0) = true := by simpa using he
        generalize errAt S.cols k = ek at *
        clear he
        go_wp2_with (go_at_call 75; refine (column_any C _ S.cols k hlt _ (HROW.out.below HBK.out) (HR.out.later HBK.out)).mono ?_; rintro e w1 ⟨rfl, hb1⟩; rw [← HE.out])
        go_ret2
        exact ⟨by rw [HV.out]; rfl, HB.out.trans ((HBK.out.trans (hb1.mono HBK.out.size)).mono HB.out.size)⟩
    · obtain rfl : k = S.cols.length := by omega
      have HV := Lib.hid (colsErr_miss H0.out)
      clear hlt
      go_wp2
      go_ret2
      exact ⟨by rw [HV.out]; rfl, HB.out.trans (HBK.out.mono HB.out.size)⟩

/-- What checks() leaves: five function values in a row, the first four with a predicate and an error. -/
structure ChkRow (w : World) (B p0 q0 p1 q1 p2 q2 p3 q3 : Nat) : Prop where
  f0 : w.cell? ⟨B, 0, none⟩ = some (.func (.func 84) #[] #[.pointer (some ⟨p0, 0, none⟩), .pointer (some ⟨q0, 0, none⟩)])
  f1 : w.cell? ⟨B, 1, none⟩ = some (.func (.func 84) #[] #[.pointer (some ⟨p1, 0, none⟩), .pointer (some ⟨q1, 0, none⟩)])
  f2 : w.cell? ⟨B, 2, none⟩ = some (.func (.func 84) #[] #[.pointer (some ⟨p2, 0, none⟩), .pointer (some ⟨q2, 0, none⟩)])
  f3 : w.cell? ⟨B, 3, none⟩ = some (.func (.func 84) #[] #[.pointer (some ⟨p3, 0, none⟩), .pointer (some ⟨q3, 0, none⟩)])
  f4 : w.cell? ⟨B, 4, none⟩ = some (.func (.func 90) #[] #[])
  a0 : w.cell? ⟨p0, 0, none⟩ = some (.func (.func 85) #[] #[])
  e0 : w.cell? ⟨q0, 0, none⟩ = some (.int .i64 19)
  a1 : w.cell? ⟨p1, 0, none⟩ = some (.func (.func 87) #[] #[])
  e1 : w.cell? ⟨q1, 0, none⟩ = some (.int .i64 2)
  a2 : w.cell? ⟨p2, 0, none⟩ = some (.func (.func 88) #[] #[])
  e2 : w.cell? ⟨q2, 0, none⟩ = some (.int .i64 3)
  a3 : w.cell? ⟨p3, 0, none⟩ = some (.func (.func 89) #[] #[])
  e3 : w.cell? ⟨q3, 0, none⟩ = some (.int .i64 4)
theorem cell_later {w w' : World} (hb : Below w.heap.size w w') {a : Addr} {v : Value} (h : w.cell? a = some v) : w'.cell? a = some v := (hb.cell (World.block_lt_of_cell? w _ h)).trans h
theorem ChkRow.later {w w' : World} {B p0 q0 p1 q1 p2 q2 p3 q3 : Nat} (h : ChkRow w B p0 q0 p1 q1 p2 q2 p3 q3) (hb : Below w.heap.size w w') : ChkRow w' B p0 q0 p1 q1 p2 q2 p3 q3 :=
  ⟨cell_later hb h.f0, cell_later hb h.f1, cell_later hb h.f2, cell_later hb h.f3, cell_later hb h.f4, cell_later hb h.a0, cell_later hb h.e0, cell_later hb h.a1, cell_later hb h.e1, cell_later hb h.a2, cell_later hb h.e2, cell_later hb h.a3, cell_later hb h.e3⟩

theorem alone_any (n : FuncId) (e : Int) (w : World) : Calls Tryz.prog 83 #[.func (.func n) #[] #[], .int .i64 e] w fun en w' => en = .returned (.func (.func 84) #[] #[.pointer (some ⟨w.heap.size, 0, none⟩), .pointer (some ⟨w.heap.size + 1, 0, none⟩)]) ∧
    w' = (w.alloc (.cells #[.func (.func n) #[] #[]] 50)).alloc (.cells #[.int .i64 e] 41) := by
  go_enter Tryz.func83, Tryz.ntmps83
  go_wp2
  go_ret
  exact ⟨rfl, rfl⟩
theorem cell_new1 (w : World) (v : Value) (t : TypeId) : (w.alloc (.cells #[v] t)).cell? ⟨w.heap.size, 0, none⟩ = some v := by rw [World.cell?_alloc_at _ _ _ _ rfl]; rfl
theorem cell_newk (w : World) (cs : Array Value) (t : TypeId) (k j : Nat) (v : Value) (hk : k = w.heap.size) (hv : cs[j]? = some v) : (w.alloc (.cells cs t)).cell? ⟨k, j, none⟩ = some v := by
  subst hk; rw [World.cell?_alloc_at _ _ _ _ rfl]; exact hv
set_option maxRecDepth 100000 in
set_option maxHeartbeats 1000000 in
theorem checks_any (w : World) : Calls Tryz.prog 71 #[] w fun e w' => ∃ B p0 q0 p1 q1 p2 q2 p3 q3, e = .returned (.slice (some ⟨B, 0, none⟩) 5 5) ∧ ChkRow w' B p0 q0 p1 q1 p2 q2 p3 q3 ∧ Below w.heap.size w w' := by
  go_enter Tryz.func71, Tryz.ntmps71
  go_wp2_with (go_at_call 83; refine (alone_any _ _ _).mono ?_; rintro e w1 ⟨rfl, rfl⟩)
  go_ret
  refine ⟨w.heap.size + 1 + 1 + 1 + 1 + 1 + 1 + 1 + 1, w.heap.size, w.heap.size + 1, w.heap.size + 1 + 1, w.heap.size + 1 + 1 + 1, w.heap.size + 1 + 1 + 1 + 1, w.heap.size + 1 + 1 + 1 + 1 + 1, w.heap.size + 1 + 1 + 1 + 1 + 1 + 1, w.heap.size + 1 + 1 + 1 + 1 + 1 + 1 + 1, rfl, ⟨?_, ?_, ?_, ?_, ?_, ?_, ?_, ?_, ?_, ?_, ?_, ?_, ?_⟩, by go_grown⟩
  all_goals repeat' first
    | exact cell_newk _ _ _ _ _ _ (by simp) rfl
    | refine cell_later (below_alloc _ _) ?_

set_option maxRecDepth 100000 in
set_option maxHeartbeats 2000000 in
theorem check_any (C : TypeId → Nat → Prop) (v : Value) (S : Sch) (w : World) (h : SchVal C w v S) (hr : Res w) :
    Calls Tryz.prog 52 #[v] w fun e w' => e = .returned (.tuple #[.int .i64 (schErr S).1, .int .i64 (schErr S).2]) ∧ Below w.heap.size w w' := by
  have HS := Lib.hid h
  obtain ⟨u, rfl, hrw, hs⟩ := h
  obtain ⟨A, cc, rfl, hle, hmx⟩ := hrw.slice
  have hb0 := below_alloc w (.cells #[.string S.name, .bool S.pub, .int .i64 S.many, .slice A S.cols.length cc] 34)
  have HB := Lib.hid hb0
  have HR := Lib.hid (hr.later hb0)
  have HSV := Lib.hid (HS.out.below hb0)
  clear hb0 hr hrw HS
  go_enter Tryz.func52, Tryz.ntmps52
  go_wp2_with (go_at_call 71; refine (checks_any _).mono ?_; rintro e w1 ⟨B, p0, q0, p1, q1, p2, q2, p3, q3, rfl, hck, hb1⟩; obtain ⟨g0, g1, g2, g3⟩ := box4_later hb1; have f0 := hck.f0; have HCK := Lib.hid hck; clear hck)
  have HBA1 := Lib.hid hb1
  have HSV1 := Lib.hid (HSV.out.below hb1)
  have HR1 := Lib.hid (HR.out.later hb1)
  have HB1 := Lib.hid (HB.out.trans (hb1.mono HB.out.size))
  clear hb1
  refine wp_loop_rounds 6 ?_
  rw [rounds_succ]
  cases k1 : !nameB S.name with
  | true =>
    have HV := Lib.hid (show schErr S = (19, -1) by unfold schErr; rw [if_pos k1])
    have H1 := Lib.hid k1
    clear k1
    go_wp2_with (go_at_call 84; refine (alone1 C _ S p0 q0 _ HSV1.out HR1.out HCK.out.a0 HCK.out.e0).mono ?_; rintro e w2 ⟨rfl, hb2⟩; rw [if_pos H1.out])
    go_ret2
    exact ⟨by rw [HV.out]; rfl, HB1.out.trans (hb2.mono HB1.out.size)⟩
  | false =>
  have H1 := Lib.hid (show ¬ (!nameB S.name) = true by rw [k1]; simp)
  clear k1
  go_wp2_with (go_at_call 84; refine (alone1 C _ S p0 q0 _ HSV1.out HR1.out HCK.out.a0 HCK.out.e0).mono ?_; rintro e w2 ⟨rfl, hb2⟩; rw [if_neg H1.out])
  have HSV2 := Lib.hid (HSV1.out.below hb2)
  have HR2 := Lib.hid (HR1.out.later hb2)
  have HB2 := Lib.hid (HB1.out.trans (hb2.mono HB1.out.size))
  have HBA2 := Lib.hid (HBA1.out.trans (hb2.mono HBA1.out.size))
  replace HCK := Lib.hid (HCK.out.later hb2)
  clear hb2 g0 g1 g2 g3 f0
  obtain ⟨g0, g1, g2, g3⟩ := box4_later HBA2.out
  have f1 := HCK.out.f1
  rw [rounds_succ]
  cases k2 : manyBad S with
  | true =>
    have HV := Lib.hid (show schErr S = (2, -1) by unfold schErr; rw [if_neg H1.out, if_pos k2])
    have H2 := Lib.hid k2
    clear k2
    go_wp2_with (go_at_call 84; refine (alone2 C _ S p1 q1 _ HSV2.out HR2.out HCK.out.a1 HCK.out.e1).mono ?_; rintro e w3 ⟨rfl, hb3⟩; rw [if_pos H2.out])
    go_ret2
    exact ⟨by rw [HV.out]; rfl, HB2.out.trans (hb3.mono HB2.out.size)⟩
  | false =>
  have H2 := Lib.hid (show ¬ (manyBad S) = true by rw [k2]; simp)
  clear k2
  go_wp2_with (go_at_call 84; refine (alone2 C _ S p1 q1 _ HSV2.out HR2.out HCK.out.a1 HCK.out.e1).mono ?_; rintro e w3 ⟨rfl, hb3⟩; rw [if_neg H2.out])
  have HSV3 := Lib.hid (HSV2.out.below hb3)
  have HR3 := Lib.hid (HR2.out.later hb3)
  have HB3 := Lib.hid (HB2.out.trans (hb3.mono HB2.out.size))
  have HBA3 := Lib.hid (HBA2.out.trans (hb3.mono HBA2.out.size))
  replace HCK := Lib.hid (HCK.out.later hb3)
  clear hb3 g0 g1 g2 g3 f1
  obtain ⟨g0, g1, g2, g3⟩ := box4_later HBA3.out
  have f2 := HCK.out.f2
  rw [rounds_succ]
  cases k3 : decide (S.cols.length = 0) with
  | true =>
    have HV := Lib.hid (show schErr S = (3, -1) by unfold schErr; rw [if_neg H1.out, if_neg H2.out, if_pos k3])
    have H3 := Lib.hid k3
    clear k3
    go_wp2_with (go_at_call 84; refine (alone3 C _ S p2 q2 _ HSV3.out HR3.out HCK.out.a2 HCK.out.e2).mono ?_; rintro e w4 ⟨rfl, hb4⟩; rw [if_pos H3.out])
    go_ret2
    exact ⟨by rw [HV.out]; rfl, HB3.out.trans (hb4.mono HB3.out.size)⟩
  | false =>
  have H3 := Lib.hid (show ¬ (decide (S.cols.length = 0)) = true by rw [k3]; simp)
  clear k3
  go_wp2_with (go_at_call 84; refine (alone3 C _ S p2 q2 _ HSV3.out HR3.out HCK.out.a2 HCK.out.e2).mono ?_; rintro e w4 ⟨rfl, hb4⟩; rw [if_neg H3.out])
  have HSV4 := Lib.hid (HSV3.out.below hb4)
  have HR4 := Lib.hid (HR3.out.later hb4)
  have HB4 := Lib.hid (HB3.out.trans (hb4.mono HB3.out.size))
  have HBA4 := Lib.hid (HBA3.out.trans (hb4.mono HBA3.out.size))
  replace HCK := Lib.hid (HCK.out.later hb4)
  clear hb4 g0 g1 g2 g3 f2
  obtain ⟨g0, g1, g2, g3⟩ := box4_later HBA4.out
  have f3 := HCK.out.f3
  rw [rounds_succ]
  cases k4 : decide (16 < S.cols.length) with
  | true =>
    have HV := Lib.hid (show schErr S = (4, -1) by unfold schErr; rw [if_neg H1.out, if_neg H2.out, if_neg H3.out, if_pos k4])
    have H4 := Lib.hid k4
    clear k4
    go_wp2_with (go_at_call 84; refine (alone4 C _ S p3 q3 _ HSV4.out HR4.out HCK.out.a3 HCK.out.e3).mono ?_; rintro e w5 ⟨rfl, hb5⟩; rw [if_pos H4.out])
    go_ret2
    exact ⟨by rw [HV.out]; rfl, HB4.out.trans (hb5.mono HB4.out.size)⟩
  | false =>
  have H4 := Lib.hid (show ¬ (decide (16 < S.cols.length)) = true by rw [k4]; simp)
  clear k4
  go_wp2_with (go_at_call 84; refine (alone4 C _ S p3 q3 _ HSV4.out HR4.out HCK.out.a3 HCK.out.e3).mono ?_; rintro e w5 ⟨rfl, hb5⟩; rw [if_neg H4.out])
  have HSV5 := Lib.hid (HSV4.out.below hb5)
  have HR5 := Lib.hid (HR4.out.later hb5)
  have HB5 := Lib.hid (HB4.out.trans (hb5.mono HB4.out.size))
  have HBA5 := Lib.hid (HBA4.out.trans (hb5.mono HBA4.out.size))
  replace HCK := Lib.hid (HCK.out.later hb5)
  clear hb5 g0 g1 g2 g3 f3
  obtain ⟨g0, g1, g2, g3⟩ := box4_later HBA5.out
  have f4 := HCK.out.f4
  rw [rounds_succ]
  have HV := Lib.hid (show schErr S = colsErr S.cols by unfold schErr; rw [if_neg H1.out, if_neg H2.out, if_neg H3.out, if_neg H4.out])
  by_cases h5 : (colsErr S.cols).1 = 0
  · have hz : (colsErr S.cols).2 = -1 := by
      unfold colsErr at h5 ⊢
      split
      · rename_i i hf
        rw [hf] at h5
        have := List.find?_some hf
        simp at this
        exact absurd h5 this
      · rfl
    have HZ := Lib.hid (And.intro h5 hz)
    clear h5 hz
    go_wp2_with (go_at_call 90; refine (chk5 C _ S _ HSV5.out HR5.out).mono ?_; rintro e w6 ⟨rfl, hb6⟩; rw [HZ.out.1, HZ.out.2])
    rw [rounds_succ]
    go_wp2
    go_ret2
    exact ⟨by rw [HV.out, HZ.out.1, HZ.out.2]; rfl, HB5.out.trans (hb6.mono HB5.out.size)⟩
  · have hne : ((colsErr S.cols).1 != 0) = true := by simpa using h5
    clear h5
    go_wp2_with (go_at_call 90; refine (chk5 C _ S _ HSV5.out HR5.out).mono ?_; rintro e w6 ⟨rfl, hb6⟩)
    go_ret2
    exact ⟨by rw [HV.out]; rfl, HB5.out.trans (hb6.mono HB5.out.size)⟩
end Go.Proofs.YtlocafmglficnaaGreatDoor
