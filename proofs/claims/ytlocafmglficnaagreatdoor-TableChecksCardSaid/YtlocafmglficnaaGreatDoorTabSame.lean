/- Equality: lists, columns, rows, schemas, tables. -/
import Derived.Test.YtlocafmglficnaaGreatDoorTabOwners
namespace Go.Proofs.YtlocafmglficnaaGreatDoor
open Go.RowKit Go.Maps

/-- Are they equal? -/
noncomputable def eqB {α : Type} (a b : α) : Bool := @decide (a = b) (Classical.propDecidable _)
theorem eqB_true {α : Type} {a b : α} (h : a = b) : eqB a b = true := by unfold eqB; exact @decide_eq_true _ (Classical.propDecidable _) h
theorem eqB_false {α : Type} {a b : α} (h : a ≠ b) : eqB a b = false := by unfold eqB; exact @decide_eq_false _ (Classical.propDecidable _) h
theorem eqB_iff {α : Type} {a b : α} : eqB a b = true ↔ a = b := by unfold eqB; exact @decide_eq_true_iff _ (Classical.propDecidable _)
theorem below_drewN (w : World) (q : Nat) : Below w.heap.size w (w.drewN q) := ⟨rfl, rfl, rfl, Nat.le_refl _, fun _ _ => rfl⟩
theorem str_eq {a b : ByteArray} (h : a = b) : (a.toList == b.toList) = true := by rw [h]; simp
theorem str_ne {a b : ByteArray} (h : a ≠ b) : (a.toList == b.toList) = false := by simpa [Lib.toList_data] using fun e => h (ByteArray.ext (Array.toList_inj.1 e))

theorem eqInts_any (C C' : TypeId → Nat → Prop) (v v' : Value) (xs ys : List Int) (w : World) (h : SRow intK C w v xs) (h' : SRow intK C' w v' ys) :
    Calls Tryz.prog 45 #[v, v'] w fun e w' => e = .returned (.bool (eqB xs ys)) ∧ Below w.heap.size w w' := by
  obtain ⟨A, c, rfl, hl, hm, _, hc⟩ := h.ints
  obtain ⟨B, d, rfl, hl', hm', _, hd⟩ := h'.ints
  by_cases hn : xs.length = ys.length
  case neg =>
    refine (Tryz.slices_Equal_int_lens A B xs.length c ys.length d w hn).mono ?_
    rintro e w' ⟨rfl, rfl⟩
    exact ⟨by rw [eqB_false (fun e => hn (by rw [e]))], Below.refl _ _⟩
  by_cases h0 : xs.length = 0
  · have hx : xs = [] := List.eq_nil_of_length_eq_zero h0
    have hy : ys = [] := List.eq_nil_of_length_eq_zero (by omega)
    subst hx; subst hy
    refine (Tryz.slices_Equal_int_empty A B c 0 d w (by decide)).mono ?_
    rintro e w' ⟨rfl, rfl⟩
    exact ⟨by rw [eqB_true rfl]; rfl, Below.refl _ _⟩
  · obtain ⟨b1, o1, rfl, hc1⟩ := hc (by omega)
    obtain ⟨b2, o2, rfl, hc2⟩ := hd (by omega)
    refine (Tryz.slices_Equal_int b1 o1 xs.length c b2 o2 ys.length d xs ys w (Nat.le_refl _) (Nat.le_refl _) (by unfold maxLen at hm; omega) (by unfold maxLen at hm'; omega) (fun j hj => by rw [hc1 j hj]; simp [List.getD, hj]) (fun j hj => by rw [hc2 j hj]; simp [List.getD, hj])).mono ?_
    rintro e w' ⟨rfl, q, rfl⟩
    refine ⟨?_, below_drewN w q⟩
    rw [List.take_of_length_le (Nat.le_refl _), List.take_of_length_le (Nat.le_refl _)]
    by_cases he : xs = ys
    · rw [eqB_true he, he]; simp
    · rw [eqB_false he]; simp [he]

theorem eqStrs_any (C C' : TypeId → Nat → Prop) (v v' : Value) (xs ys : List ByteArray) (w : World) (h : SRow strK C w v xs) (h' : SRow strK C' w v' ys) :
    Calls Tryz.prog 67 #[v, v'] w fun e w' => e = .returned (.bool (eqB xs ys)) ∧ Below w.heap.size w w' := by
  obtain ⟨A, c, rfl, hl, hm, _, hc⟩ := h.strs
  obtain ⟨B, d, rfl, hl', hm', _, hd⟩ := h'.strs
  by_cases hn : xs.length = ys.length
  case neg =>
    refine (Tryz.slices_Equal_string_lens A B xs.length c ys.length d w hn).mono ?_
    rintro e w' ⟨rfl, rfl⟩
    exact ⟨by rw [eqB_false (fun e => hn (by rw [e]))], Below.refl _ _⟩
  by_cases h0 : xs.length = 0
  · have hx : xs = [] := List.eq_nil_of_length_eq_zero h0
    have hy : ys = [] := List.eq_nil_of_length_eq_zero (by omega)
    subst hx; subst hy
    refine (Tryz.slices_Equal_string_empty A B c 0 d w (by decide)).mono ?_
    rintro e w' ⟨rfl, rfl⟩
    exact ⟨by rw [eqB_true rfl]; rfl, Below.refl _ _⟩
  · obtain ⟨b1, o1, rfl, hc1⟩ := hc (by omega)
    obtain ⟨b2, o2, rfl, hc2⟩ := hd (by omega)
    refine (Tryz.slices_Equal_string b1 o1 xs.length c b2 o2 ys.length d xs ys w (Nat.le_refl _) (Nat.le_refl _) (by unfold maxLen at hm; omega) (by unfold maxLen at hm'; omega) (fun j hj => by rw [hc1 j hj]; simp [List.getD, hj]) (fun j hj => by rw [hc2 j hj]; simp [List.getD, hj])).mono ?_
    rintro e w' ⟨rfl, q, rfl⟩
    refine ⟨?_, below_drewN w q⟩
    rw [List.take_of_length_le (Nat.le_refl _), List.take_of_length_le (Nat.le_refl _)]
    by_cases he : xs = ys
    · rw [eqB_true he, he]; simp
    · rw [eqB_false he]; simp [he]

theorem colEq {c d : Col} : c = d ↔ c.name = d.name ∧ c.lo = d.lo ∧ c.hi = d.hi ∧ c.words = d.words := by cases c; cases d; simp
theorem rowEq {c d : RowV} : c = d ↔ c.owner = d.owner ∧ c.vals = d.vals := by cases c; cases d; simp
theorem schEq {c d : Sch} : c = d ↔ c.name = d.name ∧ c.pub = d.pub ∧ c.many = d.many ∧ c.cols = d.cols := by cases c; cases d; simp
theorem tblEq {c d : Tbl} : c = d ↔ c.sch = d.sch ∧ c.rows = d.rows := by cases c; cases d; simp
/-- A row by value. -/
def RowVal (C : TypeId → Nat → Prop) (w : World) (v : Value) (r : RowV) : Prop := ∃ u, v = .agg #[.int .i64 r.owner, u] ∧ SRow intK C w u r.vals ∧ Fit r.owner
theorem RowVal.below {C : TypeId → Nat → Prop} {w w' : World} {v : Value} {r : RowV} (h : RowVal C w v r) (hb : Below w.heap.size w w') : RowVal C w' v r := by
  obtain ⟨u, e, hr, hs⟩ := h
  exact ⟨u, e, hr.below hb, hs⟩
theorem SRow.tbls {C : TypeId → Nat → Prop} {w : World} {v : Value} {ts : List Tbl} (h : SRow tblK C w v ts) :
    ∃ A c, v = .slice A ts.length c ∧ ts.length ≤ c ∧ c ≤ maxLen ∧ (0 < ts.length → ∃ b o, A = some ⟨b, o, none⟩ ∧ ∀ j (hj : j < ts.length), ∃ u x, w.cell? ⟨b, o + j * 5, none⟩ = some (.string ts[j].sch.name) ∧ w.cell? ⟨b, o + j * 5 + 1, none⟩ = some (.bool ts[j].sch.pub) ∧
      w.cell? ⟨b, o + j * 5 + 2, none⟩ = some (.int .i64 ts[j].sch.many) ∧ w.cell? ⟨b, o + j * 5 + 3, none⟩ = some u ∧ w.cell? ⟨b, o + j * 5 + 4, none⟩ = some x ∧ SRow colK C w u ts[j].sch.cols ∧ SRow rowK C w x ts[j].rows ∧ (ts[j].sch.name.size ≤ maxLen ∧ Fit ts[j].sch.many)) := by
  obtain ⟨A, c, e, h1, h2, h3⟩ := h
  refine ⟨A, c, e, h1, h2, fun h0 => ?_⟩
  obtain ⟨b, o, eA, _, _, hx⟩ := h3 h0
  refine ⟨b, o, eA, fun j hj => ?_⟩
  obtain ⟨l, ⟨ls, x, rfl, ⟨u, rfl, hcr, hs⟩, hrr⟩, hc⟩ := hx j ts[j] (by simp [hj])
  exact ⟨u, x, by simpa [tblK] using hc 0 _ rfl, by simpa [tblK] using hc 1 _ rfl, by simpa [tblK] using hc 2 _ rfl, by simpa [tblK] using hc 3 _ rfl, by simpa [tblK] using hc 4 _ rfl, hcr, hrr, hs⟩

set_option maxHeartbeats 2000000 in
theorem sameCol_any (C C' : TypeId → Nat → Prop) (v v' : Value) (c d : Col) (w : World) (h : ColVal C w v c) (h' : ColVal C' w v' d) :
    Calls Tryz.prog 66 #[v, v'] w fun e w' => e = .returned (.bool (eqB c d)) ∧ Below w.heap.size w w' := by
  obtain ⟨u, rfl, hlast, _⟩ := h
  obtain ⟨u', rfl, hlast', _⟩ := h'
  obtain ⟨A, ca, rfl, _⟩ := hlast.slice
  obtain ⟨B, cb, rfl, _⟩ := hlast'.slice
  have HB := Lib.hid (show Below w.heap.size w ((w.alloc (.cells #[.string c.name, .int .i64 c.lo, .int .i64 c.hi, .slice A c.words.length ca] 25)).alloc (.cells #[.string d.name, .int .i64 d.lo, .int .i64 d.hi, .slice B d.words.length cb] 25)) by go_grown)
  have HL := Lib.hid (hlast.below HB.out)
  have HL' := Lib.hid (hlast'.below HB.out)
  clear hlast hlast'
  by_cases n0 : c.name = d.name
  case neg =>
    have HV := Lib.hid (eqB_false (fun e => n0 (colEq.1 e).1))
    have e0 : (c.name.toList == d.name.toList) = false := str_ne n0
    clear n0
    go_enter Tryz.func66, Tryz.ntmps66
    go_wp2
    go_ret
    exact ⟨by rw [HV.out]; rfl, HB.out⟩
  have e0 : (c.name.toList == d.name.toList) = true := str_eq n0
  have N0 := Lib.hid n0
  clear n0
  by_cases n1 : c.lo = d.lo
  case neg =>
    have HV := Lib.hid (eqB_false (fun e => n1 (colEq.1 e).2.1))
    have e1 : (c.lo == d.lo) = false := by simpa using n1
    clear n1
    go_enter Tryz.func66, Tryz.ntmps66
    go_wp2
    go_ret
    exact ⟨by rw [HV.out]; rfl, HB.out⟩
  have e1 : (c.lo == d.lo) = true := by simpa using n1
  have N1 := Lib.hid n1
  clear n1
  by_cases n2 : c.hi = d.hi
  case neg =>
    have HV := Lib.hid (eqB_false (fun e => n2 (colEq.1 e).2.2.1))
    have e2 : (c.hi == d.hi) = false := by simpa using n2
    clear n2
    go_enter Tryz.func66, Tryz.ntmps66
    go_wp2
    go_ret
    exact ⟨by rw [HV.out]; rfl, HB.out⟩
  have e2 : (c.hi == d.hi) = true := by simpa using n2
  have N2 := Lib.hid n2
  clear n2
  have HV := Lib.hid (show eqB c d = eqB c.words d.words by
    by_cases h : c.words = d.words
    · rw [eqB_true h, eqB_true (colEq.2 ⟨N0.out, N1.out, N2.out, h⟩)]
    · rw [eqB_false h, eqB_false (fun e => h (colEq.1 e).2.2.2)])
  go_enter Tryz.func66, Tryz.ntmps66
  go_wp2_with (go_at_call 67; refine (eqStrs_any C C' _ _ c.words d.words _ HL.out HL'.out).mono ?_; rintro e w1 ⟨rfl, hb1⟩)
  go_ret
  exact ⟨by rw [HV.out]; rfl, HB.out.trans (hb1.mono HB.out.size)⟩

set_option maxHeartbeats 2000000 in
theorem sameRow_any (C C' : TypeId → Nat → Prop) (v v' : Value) (c d : RowV) (w : World) (h : RowVal C w v c) (h' : RowVal C' w v' d) :
    Calls Tryz.prog 44 #[v, v'] w fun e w' => e = .returned (.bool (eqB c d)) ∧ Below w.heap.size w w' := by
  obtain ⟨u, rfl, hlast, _⟩ := h
  obtain ⟨u', rfl, hlast', _⟩ := h'
  obtain ⟨A, ca, rfl, _⟩ := hlast.slice
  obtain ⟨B, cb, rfl, _⟩ := hlast'.slice
  have HB := Lib.hid (show Below w.heap.size w ((w.alloc (.cells #[.int .i64 c.owner, .slice A c.vals.length ca] 53)).alloc (.cells #[.int .i64 d.owner, .slice B d.vals.length cb] 53)) by go_grown)
  have HL := Lib.hid (hlast.below HB.out)
  have HL' := Lib.hid (hlast'.below HB.out)
  clear hlast hlast'
  by_cases n0 : c.owner = d.owner
  case neg =>
    have HV := Lib.hid (eqB_false (fun e => n0 (rowEq.1 e).1))
    have e0 : (c.owner == d.owner) = false := by simpa using n0
    clear n0
    go_enter Tryz.func44, Tryz.ntmps44
    go_wp2
    go_ret
    exact ⟨by rw [HV.out]; rfl, HB.out⟩
  have e0 : (c.owner == d.owner) = true := by simpa using n0
  have N0 := Lib.hid n0
  clear n0
  have HV := Lib.hid (show eqB c d = eqB c.vals d.vals by
    by_cases h : c.vals = d.vals
    · rw [eqB_true h, eqB_true (rowEq.2 ⟨N0.out, h⟩)]
    · rw [eqB_false h, eqB_false (fun e => h (rowEq.1 e).2)])
  go_enter Tryz.func44, Tryz.ntmps44
  go_wp2_with (go_at_call 45; refine (eqInts_any C C' _ _ c.vals d.vals _ HL.out HL'.out).mono ?_; rintro e w1 ⟨rfl, hb1⟩)
  go_ret
  exact ⟨by rw [HV.out]; rfl, HB.out.trans (hb1.mono HB.out.size)⟩

set_option maxRecDepth 100000 in
set_option maxHeartbeats 2000000 in
theorem eqCols_any (C C' : TypeId → Nat → Prop) (v v' : Value) (xs ys : List Col) (w : World) (h : SRow colK C w v xs) (h' : SRow colK C' w v' ys) :
    Calls Tryz.prog 65 #[v, v', .func (.func 66) #[] #[]] w fun e w' => e = .returned (.bool (eqB xs ys)) ∧ Below w.heap.size w w' := by
  obtain ⟨A, ca, rfl, hl, hm, hc⟩ := h.cols
  obtain ⟨B, cb, rfl, hl', hm', hd⟩ := h'.cols
  unfold maxLen at hm hm'
  have HC := Lib.hid hc
  have HD := Lib.hid hd
  clear hc hd h h'
  by_cases hn : xs.length = ys.length
  case neg =>
    have HV := Lib.hid (show eqB xs ys = false from eqB_false (fun e => hn (by rw [e])))
    have hn' : ((xs.length : Int) != (ys.length : Int)) = true := by simpa using fun e => hn (by omega)
    clear hn
    go_enter Tryz.func65, Tryz.ntmps65
    go_wp2
    go_ret
    exact ⟨by rw [HV.out]; rfl, Below.refl _ _⟩
  have hn' : ((xs.length : Int) != (ys.length : Int)) = false := by simp [hn]
  have HN := Lib.hid hn
  clear hn
  go_enter Tryz.func65, Tryz.ntmps65
  go_wp2
  go_loopw [17] (fun i wr => ∃ k : Nat, k ≤ xs.length ∧ i = .int .i64 k ∧ (∀ j (h1 : j < xs.length) (h2 : j < ys.length), j < k → xs[j] = ys[j]) ∧ Below w.heap.size w wr) (fun i _ => xs.length - (intOf i).toNat)
  case atStart => exact ⟨0, Nat.zero_le _, rfl, fun j _ _ hj => by omega, Below.refl _ _⟩
  case round =>
    obtain ⟨k, hk, rfl, he, hB⟩ := hrel
    have HE := Lib.hid he
    have HB := Lib.hid hB
    clear he
    by_cases hlt : k < xs.length
    · have hlt' : k < ys.length := by have := HN.out; omega
      obtain ⟨b, o, rfl, hcell⟩ := HC.out (by omega)
      obtain ⟨b2, o2, rfl, hcell2⟩ := HD.out (by omega)
      obtain ⟨pu, p0, p1, p2, p3, pr, ps⟩ := hcell k hlt
      obtain ⟨qu, q0, q1, q2, q3, qr, qs⟩ := hcell2 k hlt'
      have pc0 := cell_later hB p0
      have pc1 := cell_later hB p1
      have pc2 := cell_later hB p2
      have pc3 := cell_later hB p3
      obtain ⟨pA, pc, rfl, _, _⟩ := pr.slice
      have VX : ColVal C wr (.agg #[.string xs[k].name, .int .i64 xs[k].lo, .int .i64 xs[k].hi, .slice pA xs[k].words.length pc]) xs[k] := ⟨_, rfl, pr.below hB, ps⟩
      clear pr ps p0 p1 p2 p3
      have qc0 := cell_later hB q0
      have qc1 := cell_later hB q1
      have qc2 := cell_later hB q2
      have qc3 := cell_later hB q3
      obtain ⟨qA, qc, rfl, _, _⟩ := qr.slice
      have VY : ColVal C' wr (.agg #[.string ys[k].name, .int .i64 ys[k].lo, .int .i64 ys[k].hi, .slice qA ys[k].words.length qc]) ys[k] := ⟨_, rfl, qr.below hB, qs⟩
      clear qr qs q0 q1 q2 q3
      have hq2 : b2 < wr.heap.size := World.block_lt_of_cell? wr _ qc0
      have hi0 : (0 : Int) ≤ (k : Int) := by omega
      have hi1 : (k : Int) < (xs.length : Int) := by omega
      have hi2 : (k : Int) < (ys.length : Int) := by omega
      have HVX := Lib.hid (show ColVal C wr (.agg #[.string xs[k].name, .int .i64 xs[k].lo, .int .i64 xs[k].hi, .slice pA xs[k].words.length pc]) xs[k] from VX)
      have HVY := Lib.hid (show ColVal C' wr (.agg #[.string ys[k].name, .int .i64 ys[k].lo, .int .i64 ys[k].hi, .slice qA ys[k].words.length qc]) ys[k] from VY)
      have HXY := Lib.hid (show ∀ j (h1 : j < xs.length) (h2 : j < ys.length), xs[k] = ys[k] → j < k + 1 → xs[j] = ys[j] from fun j h1 h2 e hj => by
        rcases Nat.lt_or_ge j k with h | h
        · exact HE.out j h1 h2 h
        · obtain rfl : j = k := by omega
          exact e)
      have HNE := Lib.hid (show xs[k] ≠ ys[k] → xs ≠ ys from fun hne e => hne (by subst e; rfl))
      clear hcell hcell2 hB
      generalize xs[k] = x at *
      generalize ys[k] = y at *
      have HB2 := Lib.hid (show Below wr.heap.size wr ((wr.alloc (.cells #[.string x.name, .int .i64 x.lo, .int .i64 x.hi, .slice pA x.words.length pc] 25)).alloc (.cells #[.string y.name, .int .i64 y.lo, .int .i64 y.hi, .slice qA y.words.length qc] 25)) by go_grown)
      by_cases hxy : x = y
      · have HX := Lib.hid (show ∀ j (h1 : j < xs.length) (h2 : j < ys.length), j < k + 1 → xs[j] = ys[j] from fun j h1 h2 hj => HXY.out j h1 h2 hxy hj)
        have HT := Lib.hid (eqB_true hxy)
        clear hxy
        go_wp2_with (go_at_call 66; refine (sameCol_any C C' _ _ x y _ (HVX.out.below HB2.out) (HVY.out.below HB2.out)).mono ?_; rintro e w1 ⟨rfl, hb1⟩; rw [HT.out])
        have HB3 := Lib.hid (HB.out.trans ((HB2.out.trans (hb1.mono HB2.out.size)).mono HB.out.size))
        go_roundw
        case rel => exact ⟨k + 1, by omega, by go_num, HX.out, HB3.out⟩
        case measure => simp [intOf]; omega
      · have HV := Lib.hid (eqB_false (HNE.out hxy))
        have HT := Lib.hid (eqB_false hxy)
        clear hxy
        go_wp2_with (go_at_call 66; refine (sameCol_any C C' _ _ x y _ (HVX.out.below HB2.out) (HVY.out.below HB2.out)).mono ?_; rintro e w1 ⟨rfl, hb1⟩; rw [HT.out])
        go_ret
        exact ⟨by rw [HV.out]; rfl, HB.out.trans ((HB2.out.trans (hb1.mono HB2.out.size)).mono HB.out.size)⟩
    · obtain rfl : k = xs.length := by omega
      have HV := Lib.hid (show eqB xs ys = true from eqB_true (List.ext_getElem HN.out fun j h1 h2 => HE.out j h1 h2 h1))
      clear hlt hB
      go_wp2
      go_ret
      exact ⟨by rw [HV.out]; rfl, HB.out⟩

set_option maxRecDepth 100000 in
set_option maxHeartbeats 2000000 in
theorem eqRows_any (C C' : TypeId → Nat → Prop) (v v' : Value) (xs ys : List RowV) (w : World) (h : SRow rowK C w v xs) (h' : SRow rowK C' w v' ys) :
    Calls Tryz.prog 43 #[v, v', .func (.func 44) #[] #[]] w fun e w' => e = .returned (.bool (eqB xs ys)) ∧ Below w.heap.size w w' := by
  obtain ⟨A, ca, rfl, hl, hm, hc⟩ := h.rows
  obtain ⟨B, cb, rfl, hl', hm', hd⟩ := h'.rows
  unfold maxLen at hm hm'
  have HC := Lib.hid hc
  have HD := Lib.hid hd
  clear hc hd h h'
  by_cases hn : xs.length = ys.length
  case neg =>
    have HV := Lib.hid (show eqB xs ys = false from eqB_false (fun e => hn (by rw [e])))
    have hn' : ((xs.length : Int) != (ys.length : Int)) = true := by simpa using fun e => hn (by omega)
    clear hn
    go_enter Tryz.func43, Tryz.ntmps43
    go_wp2
    go_ret
    exact ⟨by rw [HV.out]; rfl, Below.refl _ _⟩
  have hn' : ((xs.length : Int) != (ys.length : Int)) = false := by simp [hn]
  have HN := Lib.hid hn
  clear hn
  go_enter Tryz.func43, Tryz.ntmps43
  go_wp2
  go_loopw [17] (fun i wr => ∃ k : Nat, k ≤ xs.length ∧ i = .int .i64 k ∧ (∀ j (h1 : j < xs.length) (h2 : j < ys.length), j < k → xs[j] = ys[j]) ∧ Below w.heap.size w wr) (fun i _ => xs.length - (intOf i).toNat)
  case atStart => exact ⟨0, Nat.zero_le _, rfl, fun j _ _ hj => by omega, Below.refl _ _⟩
  case round =>
    obtain ⟨k, hk, rfl, he, hB⟩ := hrel
    have HE := Lib.hid he
    have HB := Lib.hid hB
    clear he
    by_cases hlt : k < xs.length
    · have hlt' : k < ys.length := by have := HN.out; omega
      obtain ⟨b, o, rfl, hcell⟩ := HC.out (by omega)
      obtain ⟨b2, o2, rfl, hcell2⟩ := HD.out (by omega)
      obtain ⟨pu, p0, p1, pr, ps⟩ := hcell k hlt
      obtain ⟨qu, q0, q1, qr, qs⟩ := hcell2 k hlt'
      have pc0 := cell_later hB p0
      have pc1 := cell_later hB p1
      obtain ⟨pA, pc, rfl, _, _⟩ := pr.slice
      have VX : RowVal C wr (.agg #[.int .i64 xs[k].owner, .slice pA xs[k].vals.length pc]) xs[k] := ⟨_, rfl, pr.below hB, ps⟩
      clear pr ps p0 p1
      have qc0 := cell_later hB q0
      have qc1 := cell_later hB q1
      obtain ⟨qA, qc, rfl, _, _⟩ := qr.slice
      have VY : RowVal C' wr (.agg #[.int .i64 ys[k].owner, .slice qA ys[k].vals.length qc]) ys[k] := ⟨_, rfl, qr.below hB, qs⟩
      clear qr qs q0 q1
      have hq2 : b2 < wr.heap.size := World.block_lt_of_cell? wr _ qc0
      have hi0 : (0 : Int) ≤ (k : Int) := by omega
      have hi1 : (k : Int) < (xs.length : Int) := by omega
      have hi2 : (k : Int) < (ys.length : Int) := by omega
      have HVX := Lib.hid (show RowVal C wr (.agg #[.int .i64 xs[k].owner, .slice pA xs[k].vals.length pc]) xs[k] from VX)
      have HVY := Lib.hid (show RowVal C' wr (.agg #[.int .i64 ys[k].owner, .slice qA ys[k].vals.length qc]) ys[k] from VY)
      have HXY := Lib.hid (show ∀ j (h1 : j < xs.length) (h2 : j < ys.length), xs[k] = ys[k] → j < k + 1 → xs[j] = ys[j] from fun j h1 h2 e hj => by
        rcases Nat.lt_or_ge j k with h | h
        · exact HE.out j h1 h2 h
        · obtain rfl : j = k := by omega
          exact e)
      have HNE := Lib.hid (show xs[k] ≠ ys[k] → xs ≠ ys from fun hne e => hne (by subst e; rfl))
      clear hcell hcell2 hB
      generalize xs[k] = x at *
      generalize ys[k] = y at *
      have HB2 := Lib.hid (show Below wr.heap.size wr ((wr.alloc (.cells #[.int .i64 x.owner, .slice pA x.vals.length pc] 53)).alloc (.cells #[.int .i64 y.owner, .slice qA y.vals.length qc] 53)) by go_grown)
      by_cases hxy : x = y
      · have HX := Lib.hid (show ∀ j (h1 : j < xs.length) (h2 : j < ys.length), j < k + 1 → xs[j] = ys[j] from fun j h1 h2 hj => HXY.out j h1 h2 hxy hj)
        have HT := Lib.hid (eqB_true hxy)
        clear hxy
        go_wp2_with (go_at_call 44; refine (sameRow_any C C' _ _ x y _ (HVX.out.below HB2.out) (HVY.out.below HB2.out)).mono ?_; rintro e w1 ⟨rfl, hb1⟩; rw [HT.out])
        have HB3 := Lib.hid (HB.out.trans ((HB2.out.trans (hb1.mono HB2.out.size)).mono HB.out.size))
        go_roundw
        case rel => exact ⟨k + 1, by omega, by go_num, HX.out, HB3.out⟩
        case measure => simp [intOf]; omega
      · have HV := Lib.hid (eqB_false (HNE.out hxy))
        have HT := Lib.hid (eqB_false hxy)
        clear hxy
        go_wp2_with (go_at_call 44; refine (sameRow_any C C' _ _ x y _ (HVX.out.below HB2.out) (HVY.out.below HB2.out)).mono ?_; rintro e w1 ⟨rfl, hb1⟩; rw [HT.out])
        go_ret
        exact ⟨by rw [HV.out]; rfl, HB.out.trans ((HB2.out.trans (hb1.mono HB2.out.size)).mono HB.out.size)⟩
    · obtain rfl : k = xs.length := by omega
      have HV := Lib.hid (show eqB xs ys = true from eqB_true (List.ext_getElem HN.out fun j h1 h2 => HE.out j h1 h2 h1))
      clear hlt hB
      go_wp2
      go_ret
      exact ⟨by rw [HV.out]; rfl, HB.out⟩

set_option maxHeartbeats 2000000 in
theorem sameSch_any (C C' : TypeId → Nat → Prop) (v v' : Value) (c d : Sch) (w : World) (h : SchVal C w v c) (h' : SchVal C' w v' d) :
    Calls Tryz.prog 42 #[v, v'] w fun e w' => e = .returned (.bool (eqB c d)) ∧ Below w.heap.size w w' := by
  obtain ⟨u, rfl, hlast, _⟩ := h
  obtain ⟨u', rfl, hlast', _⟩ := h'
  obtain ⟨A, ca, rfl, _⟩ := hlast.slice
  obtain ⟨B, cb, rfl, _⟩ := hlast'.slice
  have HB := Lib.hid (show Below w.heap.size w ((w.alloc (.cells #[.string c.name, .bool c.pub, .int .i64 c.many, .slice A c.cols.length ca] 34)).alloc (.cells #[.string d.name, .bool d.pub, .int .i64 d.many, .slice B d.cols.length cb] 34)) by go_grown)
  have HL := Lib.hid (hlast.below HB.out)
  have HL' := Lib.hid (hlast'.below HB.out)
  clear hlast hlast'
  by_cases n0 : c.name = d.name
  case neg =>
    have HV := Lib.hid (eqB_false (fun e => n0 (schEq.1 e).1))
    have e0 : (c.name.toList == d.name.toList) = false := str_ne n0
    clear n0
    go_enter Tryz.func42, Tryz.ntmps42
    go_wp2
    go_ret
    exact ⟨by rw [HV.out]; rfl, HB.out⟩
  have e0 : (c.name.toList == d.name.toList) = true := str_eq n0
  have N0 := Lib.hid n0
  clear n0
  by_cases n1 : c.pub = d.pub
  case neg =>
    have HV := Lib.hid (eqB_false (fun e => n1 (schEq.1 e).2.1))
    have e1 : (c.pub == d.pub) = false := by simpa using n1
    clear n1
    go_enter Tryz.func42, Tryz.ntmps42
    go_wp2
    go_ret
    exact ⟨by rw [HV.out]; rfl, HB.out⟩
  have e1 : (c.pub == d.pub) = true := by simpa using n1
  have N1 := Lib.hid n1
  clear n1
  by_cases n2 : c.many = d.many
  case neg =>
    have HV := Lib.hid (eqB_false (fun e => n2 (schEq.1 e).2.2.1))
    have e2 : (c.many == d.many) = false := by simpa using n2
    clear n2
    go_enter Tryz.func42, Tryz.ntmps42
    go_wp2
    go_ret
    exact ⟨by rw [HV.out]; rfl, HB.out⟩
  have e2 : (c.many == d.many) = true := by simpa using n2
  have N2 := Lib.hid n2
  clear n2
  have HV := Lib.hid (show eqB c d = eqB c.cols d.cols by
    by_cases h : c.cols = d.cols
    · rw [eqB_true h, eqB_true (schEq.2 ⟨N0.out, N1.out, N2.out, h⟩)]
    · rw [eqB_false h, eqB_false (fun e => h (schEq.1 e).2.2.2)])
  go_enter Tryz.func42, Tryz.ntmps42
  go_wp2_with (go_at_call 65; refine (eqCols_any C C' _ _ c.cols d.cols _ HL.out HL'.out).mono ?_; rintro e w1 ⟨rfl, hb1⟩)
  go_ret
  exact ⟨by rw [HV.out]; rfl, HB.out.trans (hb1.mono HB.out.size)⟩

end Go.Proofs.YtlocafmglficnaaGreatDoor
