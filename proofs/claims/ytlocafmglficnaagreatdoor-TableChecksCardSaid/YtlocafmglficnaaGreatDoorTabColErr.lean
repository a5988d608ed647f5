/- column, valid, Width. -/
import Derived.Test.YtlocafmglficnaaGreatDoorTabColumn
namespace Go.Proofs.YtlocafmglficnaaGreatDoor
open Go.RowKit Go.Maps

/-- The error of a column behind others. -/
def colErr (pre : List Col) (c : Col) : Int :=
  if nameB c.name = false then 19 else if pre.any (fun d => decide (d.name = c.name)) = true then 8 else if 0 < c.words.length then wordsErr c
  else if c.lo < -1000000 ∨ 1000000 < c.hi ∨ c.hi < c.lo then 2 else 0

/-- A struct in a block of four cells, as long as the block stays. -/
theorem box4_later {w w' : World} {c0 c1 c2 c3 : Value} {t : TypeId} (hb : Below (w.alloc (.cells #[c0, c1, c2, c3] t)).heap.size (w.alloc (.cells #[c0, c1, c2, c3] t)) w') :
    w'.cell? ⟨w.heap.size, 0, none⟩ = some c0 ∧ w'.cell? ⟨w.heap.size, 1, none⟩ = some c1 ∧ w'.cell? ⟨w.heap.size, 2, none⟩ = some c2 ∧ w'.cell? ⟨w.heap.size, 3, none⟩ = some c3 := by
  obtain ⟨b0, b1, b2, b3⟩ := box4 w c0 c1 c2 c3 t
  exact ⟨(hb.cell (p := ⟨w.heap.size, 0, none⟩) (by simp)).trans b0, (hb.cell (p := ⟨w.heap.size, 1, none⟩) (by simp)).trans b1, (hb.cell (p := ⟨w.heap.size, 2, none⟩) (by simp)).trans b2, (hb.cell (p := ⟨w.heap.size, 3, none⟩) (by simp)).trans b3⟩

set_option maxRecDepth 100000 in
set_option maxHeartbeats 2000000 in
theorem column_any (C : TypeId → Nat → Prop) (v : Value) (cs : List Col) (k : Nat) (hk : k < cs.length) (w : World) (h : SRow colK C w v cs) (hr : Res w) :
    Calls Tryz.prog 75 #[v, .int .i64 (k : Int)] w fun e w' => e = .returned (.int .i64 (colErr (cs.take k) cs[k])) ∧ Below w.heap.size w w' := by
  obtain ⟨A, cc, rfl, hle, hmx, hc⟩ := h.cols
  obtain ⟨b, o, rfl, hcell⟩ := hc (by omega)
  obtain ⟨u, d0, d1, d2, d3, hrw, hst⟩ := hcell k hk
  obtain ⟨Au, cu, rfl, hul, hum⟩ := hrw.slice
  unfold maxLen at hum
  have hpre := h.take (n := k) (by omega)
  have hzn := hst.1
  have hcv : ColVal C w (.agg #[.string cs[k].name, .int .i64 cs[k].lo, .int .i64 cs[k].hi, .slice Au cs[k].words.length cu]) cs[k] := ⟨_, rfl, hrw, hst⟩
  clear hc hcell h hrw
  generalize hck : cs[k] = c at *
  have HCK := Lib.hid hck
  clear hck
  have hb0 := below_alloc w (.cells #[.string c.name, .int .i64 c.lo, .int .i64 c.hi, .slice Au c.words.length cu] 25)
  have HB := Lib.hid hb0
  have HR := Lib.hid (hr.later hb0)
  have HPRE := Lib.hid (hpre.below hb0)
  have HCV := Lib.hid (hcv.below hb0)
  have hp := (box4 w (.string c.name) (.int .i64 c.lo) (.int .i64 c.hi) (.slice Au c.words.length cu) 25).1
  have HP := Lib.hid hp
  unfold maxLen at hmx
  have hi0 : (0 : Int) ≤ (k : Int) := by omega
  have hi1 : (k : Int) < (cs.length : Int) := by omega
  have hi2 : (k : Int) ≤ (cc : Int) := by omega
  clear hpre hcv hb0 hr
  cases hn : nameB c.name with
  | false =>
    have HV := Lib.hid (show colErr (cs.take k) c = 19 by unfold colErr; rw [if_pos hn])
    have HN := Lib.hid hn
    clear hn hp
    go_enter Tryz.func75, Tryz.ntmps75
    go_wp2_with (go_at_call 86; refine (name_any _ _ hzn HR.out).mono ?_; rintro e w' ⟨rfl, rfl⟩; rw [HN.out])
    go_ret
    exact ⟨by rw [HV.out]; rfl, HB.out⟩
  | true =>
  have HN := Lib.hid hn
  cases hd : (cs.take k).any (fun d => decide (d.name = c.name)) with
  | true =>
    have HV := Lib.hid (show colErr (cs.take k) c = 8 by unfold colErr; rw [if_neg (by rw [hn]; simp), if_pos hd])
    have HD := Lib.hid hd
    clear hn hp hd
    go_enter Tryz.func75, Tryz.ntmps75
    go_wp2_with (first
      | (go_at_call 86; refine (name_any _ _ hzn HR.out).mono ?_; rintro e w' ⟨rfl, rfl⟩; rw [HN.out])
      | (go_at_call 94; refine (hasNamed_any C _ (cs.take k) _ c.name _ HPRE.out HP.out).mono ?_; rintro e w1 ⟨rfl, hb1⟩; rw [HD.out]))
    go_ret
    exact ⟨by rw [HV.out]; rfl, HB.out.trans (hb1.mono HB.out.size)⟩
  | false =>
  have HD := Lib.hid hd
  by_cases hwl : 0 < c.words.length
  · have HV := Lib.hid (show colErr (cs.take k) c = wordsErr c by unfold colErr; rw [if_neg (by rw [hn]; simp), if_neg (by rw [hd]; simp), if_pos hwl])
    have hwl' : (0 : Int) < (c.words.length : Int) := by omega
    clear hn hp hd
    go_enter Tryz.func75, Tryz.ntmps75
    go_wp2_with (first
      | (go_at_call 86; refine (name_any _ _ hzn HR.out).mono ?_; rintro e w' ⟨rfl, rfl⟩; rw [HN.out])
      | (go_at_call 94; refine (hasNamed_any C _ (cs.take k) _ c.name _ HPRE.out HP.out).mono ?_; rintro e w1 ⟨rfl, hb1⟩; rw [HD.out]; obtain ⟨g0, g1, g2, g3⟩ := box4_later hb1)
      | (go_at_call 96; refine (words_any C _ c _ (HCV.out.below hb1) (HR.out.later hb1)).mono ?_; rintro e w2 ⟨rfl, hb2⟩))
    go_ret
    exact ⟨by rw [HV.out]; rfl, (HB.out.trans (hb1.mono HB.out.size)).trans (hb2.mono (Nat.le_trans HB.out.size hb1.size))⟩
  · have hv : colErr (cs.take k) c = if c.lo < -1000000 ∨ 1000000 < c.hi ∨ c.hi < c.lo then 2 else 0 := by unfold colErr; rw [if_neg (by rw [hn]; simp), if_neg (by rw [hd]; simp), if_neg hwl]
    have hwl' : ¬ (0 : Int) < (c.words.length : Int) := by omega
    have hcs : (colErr (cs.take k) c = 2 ∧ c.lo < -1000000) ∨ (colErr (cs.take k) c = 2 ∧ ¬ c.lo < -1000000 ∧ 1000000 < c.hi) ∨ (colErr (cs.take k) c = 2 ∧ ¬ c.lo < -1000000 ∧ ¬ 1000000 < c.hi ∧ c.hi < c.lo) ∨ (colErr (cs.take k) c = 0 ∧ ¬ c.lo < -1000000 ∧ ¬ 1000000 < c.hi ∧ ¬ c.hi < c.lo) := by
      rw [hv]
      by_cases e1 : c.lo < -1000000
      · exact .inl ⟨by rw [if_pos (.inl e1)], e1⟩
      · by_cases e2 : 1000000 < c.hi
        · exact .inr (.inl ⟨by rw [if_pos (.inr (.inl e2))], e1, e2⟩)
        · by_cases e3 : c.hi < c.lo
          · exact .inr (.inr (.inl ⟨by rw [if_pos (.inr (.inr e3))], e1, e2, e3⟩))
          · exact .inr (.inr (.inr ⟨by rw [if_neg (by omega)], e1, e2, e3⟩))
    clear hn hp hd hv
    rcases hcs with ⟨hv, c1⟩ | ⟨hv, c1, c2⟩ | ⟨hv, c1, c2, c3⟩ | ⟨hv, c1, c2, c3⟩
    all_goals
      have HV := Lib.hid hv
      clear hv
      go_enter Tryz.func75, Tryz.ntmps75
      go_wp2_with (first
        | (go_at_call 86; refine (name_any _ _ hzn HR.out).mono ?_; rintro e w' ⟨rfl, rfl⟩; rw [HN.out])
        | (go_at_call 94; refine (hasNamed_any C _ (cs.take k) _ c.name _ HPRE.out HP.out).mono ?_; rintro e w1 ⟨rfl, hb1⟩; rw [HD.out]; obtain ⟨g0, g1, g2, g3⟩ := box4_later hb1))
      go_ret
      exact ⟨by rw [HV.out]; rfl, HB.out.trans (hb1.mono HB.out.size)⟩

theorem row1 (w : World) (c0 c1 c2 c3 : Value) (c : Col) (C : TypeId → Nat → Prop) (hC : C 25 w.heap.size) (h : ColVal C w (.agg #[c0, c1, c2, c3]) c) : SRow colK C (w.alloc (.cells #[c0, c1, c2, c3] 25)) (.slice (some ⟨w.heap.size, 0, none⟩) 1 1) [c] := by
  obtain ⟨u, e, hr, hs⟩ := h
  simp only [Value.agg.injEq, Array.mk.injEq, List.cons.injEq, and_true] at e
  obtain ⟨rfl, rfl, rfl, rfl⟩ := e
  obtain ⟨b0, b1, b2, b3⟩ := box4 w (.string c.name) (.int .i64 c.lo) (.int .i64 c.hi) c3 25
  refine ⟨_, _, rfl, Nat.le_refl _, by decide, fun _ => ⟨w.heap.size, 0, rfl, hC, by simp, fun j x hj => ?_⟩⟩
  have hj0 : j = 0 := by
    rcases Nat.eq_zero_or_pos j with h0 | h0
    · exact h0
    · rw [List.getElem?_eq_none (by simp; omega)] at hj; cases hj
  subst hj0
  simp only [List.getElem?_cons_zero, Option.some.injEq] at hj
  subst hj
  refine ⟨_, ⟨c3, rfl, hr.below (below_alloc w _), hs⟩, fun i x hi => ?_⟩
  match i, hi with
  | 0, hi => simp at hi; subst hi; simp [colK]
  | 1, hi => simp at hi; subst hi; simp [colK]
  | 2, hi => simp at hi; subst hi; simp [colK]
  | 3, hi => simp at hi; subst hi; simp [colK]

/-- A column alone. -/
def okCol (c : Col) : Bool := colErr [] c == 0
set_option maxHeartbeats 1000000 in
theorem valid_any (v : Value) (c : Col) (w : World) (h : ColVal Any w v c) (hr : Res w) :
    Calls Tryz.prog 60 #[v] w fun e w' => e = .returned (.bool (okCol c)) ∧ Below w.heap.size w w' := by
  obtain ⟨u, rfl, hw, hs⟩ := h
  obtain ⟨A, cc, rfl, hle, hmx⟩ := hw.slice
  have hb0 := below_alloc w (.cells #[.string c.name, .int .i64 c.lo, .int .i64 c.hi, .slice A c.words.length cc] 25)
  have hb1 := hb0.trans ((below_alloc _ (.cells #[.string c.name, .int .i64 c.lo, .int .i64 c.hi, .slice A c.words.length cc] 25)).mono hb0.size)
  have HB := Lib.hid hb1
  have HR := Lib.hid (hr.later hb1)
  have HROW := Lib.hid (row1 (w.alloc (.cells #[.string c.name, .int .i64 c.lo, .int .i64 c.hi, .slice A c.words.length cc] 25)) _ _ _ _ c Any trivial ⟨_, rfl, hw.below hb0, hs⟩)
  have HV := Lib.hid (show okCol c = (colErr [] c == 0) from rfl)
  have hsz : (w.alloc (.cells #[.string c.name, .int .i64 c.lo, .int .i64 c.hi, .slice A c.words.length cc] 25)).heap.size = w.heap.size + 1 := by simp
  rw [hsz] at HROW
  unfold maxLen at hmx
  clear hw hr hb0 hb1 hs
  go_enter Tryz.func60, Tryz.ntmps60
  go_wp2_with (go_at_call 75; refine (column_any Any _ [c] 0 (by simp) _ HROW.out HR.out).mono ?_; rintro e w1 ⟨rfl, hb1⟩; simp only [List.take_zero, List.getElem_cons_zero])
  go_ret
  exact ⟨by rw [HV.out]; rfl, HB.out.trans (hb1.mono HB.out.size)⟩
end Go.Proofs.YtlocafmglficnaaGreatDoor
