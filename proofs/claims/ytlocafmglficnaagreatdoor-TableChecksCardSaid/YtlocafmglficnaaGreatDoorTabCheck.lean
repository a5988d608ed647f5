/- Check of a table. -/
import Derived.Test.YtlocafmglficnaaGreatDoorTabSchema
namespace Go.Proofs.YtlocafmglficnaaGreatDoor
open Go.RowKit Go.Maps

instance : Inhabited RowV := ⟨⟨0, []⟩⟩
theorem SRow.ints {C : TypeId → Nat → Prop} {w : World} {v : Value} {zs : List Int} (h : SRow intK C w v zs) :
    ∃ A c, v = .slice A zs.length c ∧ zs.length ≤ c ∧ c ≤ maxLen ∧ (∀ j (hj : j < zs.length), Fit zs[j]) ∧ (0 < zs.length → ∃ b o, A = some ⟨b, o, none⟩ ∧ ∀ j (hj : j < zs.length), w.cell? ⟨b, o + j, none⟩ = some (.int .i64 zs[j])) := by
  obtain ⟨A, c, e, h1, h2, h3⟩ := h
  refine ⟨A, c, e, h1, h2, fun j hj => ?_, fun h0 => ?_⟩
  · obtain ⟨b, o, _, _, _, hx⟩ := h3 (by omega)
    obtain ⟨l, ⟨_, hs⟩, _⟩ := hx j zs[j] (by simp [hj])
    exact hs
  · obtain ⟨b, o, eA, _, _, hx⟩ := h3 h0
    refine ⟨b, o, eA, fun j hj => ?_⟩
    obtain ⟨l, ⟨rfl, _⟩, hc⟩ := hx j zs[j] (by simp [hj])
    have := hc 0 (.int .i64 zs[j]) rfl
    simpa [intK] using this
theorem SRow.rows {C : TypeId → Nat → Prop} {w : World} {v : Value} {rs : List RowV} (h : SRow rowK C w v rs) :
    ∃ A c, v = .slice A rs.length c ∧ rs.length ≤ c ∧ c ≤ maxLen ∧ (0 < rs.length → ∃ b o, A = some ⟨b, o, none⟩ ∧ ∀ j (hj : j < rs.length), ∃ u, w.cell? ⟨b, o + j * 2, none⟩ = some (.int .i64 rs[j].owner) ∧ w.cell? ⟨b, o + j * 2 + 1, none⟩ = some u ∧
      SRow intK C w u rs[j].vals ∧ Fit rs[j].owner) := by
  obtain ⟨A, c, e, h1, h2, h3⟩ := h
  refine ⟨A, c, e, h1, h2, fun h0 => ?_⟩
  obtain ⟨b, o, eA, _, _, hx⟩ := h3 h0
  refine ⟨b, o, eA, fun j hj => ?_⟩
  obtain ⟨l, ⟨u, rfl, hr, hs⟩, hc⟩ := hx j rs[j] (by simp [hj])
  exact ⟨u, by simpa [rowK] using hc 0 _ rfl, by simpa [rowK] using hc 1 _ rfl, hr, hs⟩

/-- A table by value. -/
def TblVal (C : TypeId → Nat → Prop) (w : World) (v : Value) (T : Tbl) : Prop := ∃ cu ru, v = .agg #[.string T.sch.name, .bool T.sch.pub, .int .i64 T.sch.many, cu, ru] ∧ SRow colK C w cu T.sch.cols ∧ SRow rowK C w ru T.rows ∧ (T.sch.name.size ≤ maxLen ∧ Fit T.sch.many)
theorem TblVal.below {C : TypeId → Nat → Prop} {w w' : World} {v : Value} {T : Tbl} (h : TblVal C w v T) (hb : Below w.heap.size w w') : TblVal C w' v T := by
  obtain ⟨cu, ru, e, h1, h2, h3⟩ := h
  exact ⟨cu, ru, e, h1.below hb, h2.below hb, h3⟩

/-! ### What it returns -/
def firstErr (n : Nat) (f : Nat → Int) : Int × Int := match (List.range n).find? (fun i => f i != 0) with | some i => (f i, (i : Int)) | none => (0, -1)
theorem firstErr_hit {n : Nat} {f : Nat → Int} {k : Nat} (hk : k < n) (h0 : ∀ i, i < k → f i = 0) (h1 : f k ≠ 0) : firstErr n f = (f k, (k : Int)) := by
  have : (List.range n).find? (fun i => f i != 0) = some k := by
    rw [List.find?_eq_some_iff_append]
    refine ⟨by simpa using h1, List.range k, (List.range' (k + 1) (n - (k + 1))), ?_, fun i hi => by simpa using h0 i (List.mem_range.1 hi)⟩
    rw [List.range_eq_range', List.range_eq_range', show n = k + (n - k) by omega, ← List.range'_append_1, Nat.zero_add, show n - k = (n - (k + 1)) + 1 by omega, List.range'_succ]
    congr 3
    omega
  unfold firstErr; rw [this]
theorem firstErr_miss {n : Nat} {f : Nat → Int} (h0 : ∀ i, i < n → f i = 0) : firstErr n f = (0, -1) := by
  have : (List.range n).find? (fun i => f i != 0) = none := by
    rw [List.find?_eq_none]
    intro i hi
    simpa using h0 i (List.mem_range.1 hi)
  unfold firstErr; rw [this]
def ownBad (pub : Bool) (o : Int) : Bool := (pub && o != 0) || (!pub && (decide (o < 1) || decide (1000000 < o)))
def valBad (cols : List Col) (vals : List Int) (k : Nat) : Bool := decide (vals[k]?.getD 0 < (cols[k]?.getD default).lo) || decide ((cols[k]?.getD default).hi < vals[k]?.getD 0)
def valsBad (cols : List Col) (vals : List Int) : Bool := (List.range cols.length).any (valBad cols vals)
def cnt (rows : List RowV) (o : Int) : Nat := rows.countP fun r => decide (r.owner = o)
def rowErr (T : Tbl) (i : Nat) : Int :=
  if (T.rows[i]?.getD default).vals.length ≠ T.sch.cols.length then 3 else if ownBad T.sch.pub (T.rows[i]?.getD default).owner = true then 2 else if valsBad T.sch.cols (T.rows[i]?.getD default).vals = true then 2
  else if (!T.sch.pub && decide (T.sch.many < (cnt (T.rows.take (i + 1)) (T.rows[i]?.getD default).owner : Int))) = true then 12 else 0
def tblErr (T : Tbl) : Int × Int := if (schErr T.sch).1 ≠ 0 then (3, -1) else if 2000 < T.rows.length then (4, -1) else firstErr T.rows.length (rowErr T)

/-- What the map of owners holds. -/
structure CntInv (D : DataW Unit) (pre : List RowV) : Prop where
  m : IsMap D
  at' : ∀ x, D.atKey (.int .i64 x) (.lit (.int .i64 0)) = .lit (.int .i64 (cnt pre x : Int))
theorem CntInv.nil : CntInv (.map []) [] := ⟨⟨_, rfl⟩, fun _ => rfl⟩
theorem CntInv.snoc {D : DataW Unit} {pre : List RowV} (h : CntInv D pre) (r : RowV) : CntInv (D.put (.int .i64 r.owner) (.lit (.int .i64 ((cnt pre r.owner : Int) + 1)))) (pre ++ [r]) := by
  refine ⟨h.m.put _ _, fun x => ?_⟩
  by_cases e : x = r.owner
  · subst e
    rw [atKey_put_same h.m (show WideAt.IsKeyLit (.int .i64 r.owner) from trivial)]
    simp [cnt, List.countP_append]
  · rw [atKey_put_other (fun e' => e (by simpa using e')), h.at']
    have : ¬ r.owner = x := fun e' => e e'.symm
    simp [cnt, List.countP_append, this]

theorem lawI : Keyed Tryz.prog 3 := int_keyed Tryz.underlying3
theorem zero3 (w : World) : (zeroValue 3).run Tryz.prog w = .ok (.int .i64 0) w := by kernel_rfl
theorem wf_fit {x : Int} (h : Fit x) : (Lit.int .i64 x).wf = true := by
  obtain ⟨h1, h2⟩ := h
  have e1 : IntKind.i64.min = -9223372036854775808 := by decide
  have e2 : IntKind.i64.max = 9223372036854775807 := by decide
  simp only [Lit.wf, e1, e2, Bool.and_eq_true, decide_eq_true_eq]
  exact ⟨h1, h2⟩
theorem box5 (w : World) (c0 c1 c2 c3 c4 : Value) (t : TypeId) {w' : World} (hb : Below (w.alloc (.cells #[c0, c1, c2, c3, c4] t)).heap.size (w.alloc (.cells #[c0, c1, c2, c3, c4] t)) w') :
    w'.cell? ⟨w.heap.size, 0, none⟩ = some c0 ∧ w'.cell? ⟨w.heap.size, 1, none⟩ = some c1 ∧ w'.cell? ⟨w.heap.size, 2, none⟩ = some c2 ∧ w'.cell? ⟨w.heap.size, 3, none⟩ = some c3 ∧ w'.cell? ⟨w.heap.size, 4, none⟩ = some c4 := by
  refine ⟨?_, ?_, ?_, ?_, ?_⟩ <;> exact cell_later hb (cell_newk _ _ _ _ _ _ rfl rfl)

theorem ownBad_cases (pub : Bool) (o : Int) : (ownBad pub o = true ∧ ((pub = true ∧ (o != 0) = true) ∨ (pub = false ∧ o < 1) ∨ (pub = false ∧ ¬ o < 1 ∧ 1000000 < o))) ∨ (ownBad pub o = false ∧ ((pub = true ∧ (o != 0) = false) ∨ (pub = false ∧ ¬ o < 1 ∧ ¬ 1000000 < o))) := by
  unfold ownBad
  cases pub with
  | true =>
    cases h : (o != 0) with
    | true => exact .inl ⟨by simp, .inl ⟨rfl, rfl⟩⟩
    | false => exact .inr ⟨by simp, .inl ⟨rfl, rfl⟩⟩
  | false =>
    by_cases h1 : o < 1
    · exact .inl ⟨by simp [h1], .inr (.inl ⟨rfl, h1⟩)⟩
    · by_cases h2 : 1000000 < o
      · exact .inl ⟨by simp [h2], .inr (.inr ⟨rfl, h1, h2⟩)⟩
      · exact .inr ⟨by simp [h1, h2], .inr ⟨rfl, h1, h2⟩⟩
theorem valBad_cases {cols : List Col} {vals : List Int} {k : Nat} (hc : k < cols.length) (hv : k < vals.length) : (valBad cols vals k = true ∧ (vals[k] < cols[k].lo ∨ (¬ vals[k] < cols[k].lo ∧ cols[k].hi < vals[k]))) ∨ (valBad cols vals k = false ∧ ¬ vals[k] < cols[k].lo ∧ ¬ cols[k].hi < vals[k]) := by
  unfold valBad
  simp only [List.getElem?_eq_getElem hc, List.getElem?_eq_getElem hv, Option.getD_some]
  by_cases h1 : vals[k] < cols[k].lo
  · exact .inl ⟨by simp [h1], .inl h1⟩
  · by_cases h2 : cols[k].hi < vals[k]
    · exact .inl ⟨by simp [h2], .inr ⟨h1, h2⟩⟩
    · exact .inr ⟨by simp [h1, h2], h1, h2⟩

set_option maxRecDepth 100000 in
set_option maxHeartbeats 4000000 in
theorem tcheck_any (C : TypeId → Nat → Prop) (v : Value) (T : Tbl) (w : World) (h : TblVal C w v T) (hr : Res w) :
    Calls Tryz.prog 21 #[v] w fun e w' => e = .returned (.tuple #[.int .i64 (tblErr T).1, .int .i64 (tblErr T).2]) ∧ Below w.heap.size w w' := by
  obtain ⟨cu, ru, rfl, hcols, hrows, hst⟩ := h
  obtain ⟨Ac, cc, rfl, hcl, hcm, hcc⟩ := hcols.cols
  obtain ⟨Ar, cr, rfl, hrl, hrm, hrc⟩ := hrows.rows
  have hb0 := below_alloc w (.cells #[.string T.sch.name, .bool T.sch.pub, .int .i64 T.sch.many, .slice Ac T.sch.cols.length cc, .slice Ar T.rows.length cr] 37)
  have HB0 := Lib.hid hb0
  have HR := Lib.hid (hr.later hb0)
  have HSV := Lib.hid (show SchVal C (w.alloc (.cells #[.string T.sch.name, .bool T.sch.pub, .int .i64 T.sch.many, .slice Ac T.sch.cols.length cc, .slice Ar T.rows.length cr] 37)) (.agg #[.string T.sch.name, .bool T.sch.pub, .int .i64 T.sch.many, .slice Ac T.sch.cols.length cc]) T.sch from ⟨_, rfl, hcols.below hb0, hst⟩)
  have HCC := Lib.hid hcc
  have HRC := Lib.hid hrc
  unfold maxLen at hcm hrm
  have hmm := @run_makeMap Tryz.prog
  clear hb0 hr hcols hrows hcc hrc hst
  generalize hpub : T.sch.pub = pub at *
  have HPUB := Lib.hid hpub
  clear hpub
  by_cases hse : (schErr T.sch).1 = 0
  case neg =>
    have HV := Lib.hid (show tblErr T = (3, -1) by unfold tblErr; rw [if_pos hse])
    have hne : ((schErr T.sch).1 != 0) = true := by simpa using hse
    clear hse
    go_enter Tryz.func21, Tryz.ntmps21
    go_wp2_with (go_at_call 52; refine (check_any C _ T.sch _ HSV.out HR.out).mono ?_; rintro e w1 ⟨rfl, hb1⟩)
    go_ret2
    exact ⟨by rw [HV.out]; rfl, HB0.out.trans (hb1.mono HB0.out.size)⟩
  have HSE := Lib.hid hse
  by_cases hlen : 2000 < T.rows.length
  case pos =>
    have HV := Lib.hid (show tblErr T = (4, -1) by unfold tblErr; rw [if_neg (by simpa using hse), if_pos hlen])
    have hlen' : (2000 : Int) < (T.rows.length : Int) := by omega
    clear hse
    go_enter Tryz.func21, Tryz.ntmps21
    go_wp2_with (go_at_call 52; refine (check_any C _ T.sch _ HSV.out HR.out).mono ?_; rintro e w1 ⟨rfl, hb1⟩; rw [HSE.out]; obtain ⟨b0, b1, b2, b3, b4⟩ := box5 _ _ _ _ _ _ _ hb1)
    go_ret2
    exact ⟨by rw [HV.out]; rfl, HB0.out.trans (hb1.mono HB0.out.size)⟩
  have HV := Lib.hid (show tblErr T = firstErr T.rows.length (rowErr T) by unfold tblErr; rw [if_neg (by simpa using hse), if_neg hlen])
  have hlen' : ¬ (2000 : Int) < (T.rows.length : Int) := by omega
  have HLEN := Lib.hid hlen
  clear hse hlen
  go_enter Tryz.func21, Tryz.ntmps21
  go_wp2_with (go_at_call 52; refine (check_any C _ T.sch _ HSV.out HR.out).mono ?_; rintro e w1 ⟨rfl, hb1⟩; rw [HSE.out]; obtain ⟨b0, b1, b2, b3, b4⟩ := box5 _ _ _ _ _ _ _ hb1; have hz1 : w.heap.size < w1.heap.size := (by have := hb1.size; simp at this; omega); have HB1 := Lib.hid hb1; clear hb1)
  have HMK := Lib.hid (World.ownsMap_made w1 Tryz.prog 3 (plainElem (H := Unit) Tryz.prog 3))
  clear hmm b0 b1 b2 b3 b4
  go_loopw [28] (fun i wr => ∃ (k : Nat) (D : DataW Unit), k ≤ T.rows.length ∧ i = .int .i64 k ∧ wr.ownsMap Tryz.prog 3 (plainElem Tryz.prog 3) w1.heap.size k D ∧ CntInv D (T.rows.take k) ∧ (∀ i, i < k → rowErr T i = 0) ∧
    Below (w.alloc (.cells #[.string T.sch.name, .bool pub, .int .i64 T.sch.many, .slice Ac T.sch.cols.length cc, .slice Ar T.rows.length cr] 37)).heap.size (w.alloc (.cells #[.string T.sch.name, .bool pub, .int .i64 T.sch.many, .slice Ac T.sch.cols.length cc, .slice Ar T.rows.length cr] 37)) wr) (fun i _ => T.rows.length - (intOf i).toNat)
  case atStart => exact ⟨0, _, Nat.zero_le _, rfl, HMK.out, by simpa using CntInv.nil, fun i hi => by omega, HB1.out.trans ((below_alloc w1 _).mono HB1.out.size)⟩
  case round =>
    obtain ⟨k, D, hk, rfl, hown, hinv, h0, hB⟩ := hrel
    have HINV := Lib.hid hinv
    have H0 := Lib.hid h0
    have HBK := Lib.hid hB
    obtain ⟨b0, b1, b2, b3, b4⟩ := box5 _ _ _ _ _ _ _ hB
    have hzr : w.heap.size < wr.heap.size := by have := hB.size; simp at this; omega
    clear hinv h0 hB
    by_cases hlt : k < T.rows.length
    case neg =>
      obtain rfl : k = T.rows.length := by omega
      have HZ := Lib.hid (firstErr_miss H0.out)
      clear hlt hown
      go_wp2
      go_ret2
      exact ⟨by rw [HV.out, HZ.out]; rfl, HB0.out.trans (HBK.out.mono HB0.out.size)⟩
    have hHB := HB0.out.trans (HBK.out.mono HB0.out.size)
    obtain ⟨b, o, rfl, hcell⟩ := HRC.out (by omega)
    obtain ⟨u, d0, d1, hvals, hfo⟩ := hcell k hlt
    obtain ⟨Av, cv, rfl, hvl, hvm, hvf, hvc⟩ := hvals.ints
    have c0 := cell_later hHB d0
    have c1 := cell_later hHB d1
    have HVC := Lib.hid hvc
    have HHB := Lib.hid hHB
    have hi0 : (0 : Int) ≤ (k : Int) := by omega
    have hi1 : (k : Int) < (T.rows.length : Int) := by omega
    have hk2 : (k : Int) < 2000 := by have := HLEN.out; omega
    have hrow : T.rows[k]?.getD default = T.rows[k] := by simp [hlt]
    have htk : T.rows.take (k + 1) = T.rows.take k ++ [T.rows[k]] := List.take_succ_eq_append_getElem hlt
    have HRE := Lib.hid (show rowErr T k = if T.rows[k].vals.length ≠ T.sch.cols.length then 3 else if ownBad pub T.rows[k].owner = true then 2 else if valsBad T.sch.cols T.rows[k].vals = true then 2
        else if (!pub && decide (T.sch.many < (cnt (T.rows.take k ++ [T.rows[k]]) T.rows[k].owner : Int))) = true then 12 else 0 by unfold rowErr; rw [hrow, htk, HPUB.out])
    have HTK := Lib.hid htk
    unfold maxLen at hvm
    clear hcell d0 d1 hvals hvf hvc hHB hrow htk
    generalize T.rows[k] = r at *
    by_cases hl : r.vals.length = T.sch.cols.length
    case neg =>
      have HE := Lib.hid (show firstErr T.rows.length (rowErr T) = (3, (k : Int)) by rw [firstErr_hit hlt H0.out (by rw [HRE.out, if_pos hl]; simp), HRE.out, if_pos hl])
      have hl' : ((r.vals.length : Int) != (T.sch.cols.length : Int)) = true := by simpa using fun e => hl (by omega)
      clear hl hown
      go_wp2
      go_ret2
      exact ⟨by rw [HV.out, HE.out]; rfl, HHB.out.trans ((below_alloc wr _).mono HHB.out.size)⟩
    have hl' : ((r.vals.length : Int) != (T.sch.cols.length : Int)) = false := by simp [hl]
    have HL := Lib.hid hl
    clear hl
    rcases ownBad_cases pub r.owner with ⟨hob, hc⟩ | ⟨hob, hc⟩
    · have HE := Lib.hid (show firstErr T.rows.length (rowErr T) = (2, (k : Int)) by rw [firstErr_hit hlt H0.out (by rw [HRE.out, if_neg (by rw [HL.out]; simp), if_pos hob]; simp), HRE.out, if_neg (by rw [HL.out]; simp), if_pos hob])
      clear hob hown
      rcases hc with ⟨rfl, p2⟩ | ⟨rfl, p2⟩ | ⟨rfl, p2, p3⟩
      all_goals
        go_wp2
        go_ret2
        exact ⟨by rw [HV.out, HE.out]; rfl, HHB.out.trans ((below_alloc wr _).mono HHB.out.size)⟩
    · obtain ⟨wo, rfl⟩ : ∃ wo : World, wo = wr := ⟨_, rfl⟩
      have HOWN := Lib.hid hown
      have hmlt := hown.lt
      have hcn0 : cnt (T.rows.take k) r.owner ≤ 2000 := by
        have h1 : cnt (T.rows.take k) r.owner ≤ (T.rows.take k).length := List.countP_le_length
        simp at h1
        have := HLEN.out
        omega
      have hcs : cnt (T.rows.take k ++ [r]) r.owner = cnt (T.rows.take k) r.owner + 1 := by simp [cnt, List.countP_append]
      have HSN := Lib.hid (HINV.out.snoc r)
      generalize hcn : cnt (T.rows.take k) r.owner = cn at *
      have HAT := Lib.hid (show D.atKey (.int .i64 r.owner) (.lit (.int .i64 0)) = .lit (.int .i64 (cn : Int)) by rw [HINV.out.at', hcn])
      have HCS := Lib.hid hcs
      have HOB := Lib.hid hob
      clear hown hob hcn hcs
      rcases hc with ⟨rfl, p2⟩ | ⟨rfl, p2, p3⟩
      · go_wp2
        go_loopw [71] (fun i wi => ∃ j : Nat, j ≤ T.sch.cols.length ∧ i = .int .i64 j ∧ (∀ i, i < j → valBad T.sch.cols r.vals i = false) ∧ Below (wo.alloc (.cells #[.int .i64 r.owner, .slice Av r.vals.length cv] 53)).heap.size (wo.alloc (.cells #[.int .i64 r.owner, .slice Av r.vals.length cv] 53)) wi) (fun i _ => T.sch.cols.length - (intOf i).toNat)
        case atStart => exact ⟨0, Nat.zero_le _, rfl, fun i hi => by omega, Below.refl _ _⟩
        case round =>
        obtain ⟨j, hj, rfl, hv0, hBI⟩ := hrel
        have HV0 := Lib.hid hv0
        have g0 : wr.cell? ⟨wo.heap.size, 0, none⟩ = some (.int .i64 r.owner) := cell_later hBI (cell_newk _ _ _ _ _ _ rfl rfl)
        have g1 : wr.cell? ⟨wo.heap.size, 1, none⟩ = some (.slice Av r.vals.length cv) := cell_later hBI (cell_newk _ _ _ _ _ _ rfl rfl)
        have hBO : Below wo.heap.size wo wr := (below_alloc wo _).trans (hBI.mono (by simp))
        have hzo : wo.heap.size < wr.heap.size := by have := hBI.size; simp at this; omega
        have hBF := HBK.out.trans (hBO.mono HBK.out.size)
        have HBI := Lib.hid hBI
        clear b0 b1 b2 b3 b4 c0 c1 hv0 hBI
        obtain ⟨b0, b1, b2, b3, b4⟩ := box5 _ _ _ _ _ _ _ hBF
        have hHW := HB0.out.trans (hBF.mono HB0.out.size)
        have HBF := Lib.hid hBF
        have HBO := Lib.hid hBO
        have hj0 : (0 : Int) ≤ (j : Int) := by omega
        clear hBF hBO
        by_cases hjl : j < T.sch.cols.length
        · have hjv : j < r.vals.length := by rw [HL.out]; exact hjl
          obtain ⟨bc, oc, rfl, hcell⟩ := HCC.out (by omega)
          obtain ⟨u, d0, d1, d2, d3, hwr, hst⟩ := hcell j hjl
          obtain ⟨Au, cu, rfl, _, _⟩ := hwr.slice
          obtain ⟨bv, ov, rfl, hvcell⟩ := HVC.out (by omega)
          have dv := cell_later hHW (hvcell j hjv)
          have hbv : bv < wr.heap.size := World.block_lt_of_cell? wr _ dv
          have e0 := cell_later hHW d0
          have e1 := cell_later hHW d1
          have e2 := cell_later hHW d2
          have e3 := cell_later hHW d3
          have hj1 : (j : Int) < (T.sch.cols.length : Int) := by omega
          have hj2 : (j : Int) < (r.vals.length : Int) := by omega
          have hcv := valBad_cases hjl hjv
          have HHW := Lib.hid hHW
          clear hcell hvcell d0 d1 d2 d3 hwr hst hHW
          generalize T.sch.cols[j] = cj at *
          generalize r.vals[j] = vj at *
          rcases hcv with ⟨hvb, hcv⟩ | ⟨hvb, v1, v2⟩
          · have HE := Lib.hid (show firstErr T.rows.length (rowErr T) = (2, (k : Int)) by
              have hbad : valsBad T.sch.cols r.vals = true := List.any_eq_true.2 ⟨j, List.mem_range.2 hjl, hvb⟩
              have hk2 : rowErr T k = 2 := by rw [HRE.out, if_neg (by rw [HL.out]; simp), if_neg (by rw [HOB.out]; simp), if_pos hbad]
              rw [firstErr_hit hlt H0.out (by rw [hk2]; simp), hk2])
            clear hvb
            rcases hcv with v1 | ⟨v1, v2⟩
            all_goals
              go_wp2
              go_ret2
              exact ⟨by rw [HV.out, HE.out]; rfl, HHW.out.trans ((below_alloc wr _).mono HHW.out.size)⟩
          · have HS := Lib.hid (show ∀ i, i < j + 1 → valBad T.sch.cols r.vals i = false from fun i hi => by
              rcases Nat.lt_or_ge i j with h | h
              · exact HV0.out i h
              · obtain rfl : i = j := by omega
                exact hvb)
            clear hvb
            go_wp2
            go_roundw
            case rel => exact ⟨j + 1, by omega, by go_num, HS.out, HBI.out.trans ((below_alloc wr _).mono HBI.out.size)⟩
            case measure => simp [intOf]; omega
        obtain rfl : j = T.sch.cols.length := by omega
        have HVB := Lib.hid (show valsBad T.sch.cols r.vals = false from List.any_eq_false.2 fun i hi => by rw [HV0.out i (List.mem_range.1 hi)]; simp)
        have hown2 := HOWN.out.kept (show wo.grownBy wr none from ⟨HBO.out.os, HBO.out.tape, HBO.out.output, HBO.out.size, fun b hb _ => HBO.out.block b hb⟩) (by simp)
        have tok1 : True := trivial
        have hkm : k < maxLen := by unfold maxLen; omega
        have hcb : (cn : Int) ≤ 2000 := by omega
        have hcb0 : (0 : Int) ≤ (cn : Int) := by omega
        have hfc : Fit ((cn : Int) + 1) := by unfold Fit; omega
        have hsm1 : some wo.heap.size ≠ some w1.heap.size := by simp; omega
        have hsm2 : some w.heap.size ≠ some w1.heap.size := by simp; omega
        have HHW := Lib.hid hHW
        clear hjl hHW
        have HZ := Lib.hid (show rowErr T k = 0 by rw [HRE.out, if_neg (by rw [HL.out]; simp), if_neg (by rw [HOB.out]; simp), if_neg (by rw [HVB.out]; simp), if_neg (by simp)])
        go_wp2_with (first
          | (at_lookup; have _t := tok1; refine wpList_lookup_own_int _ rfl _ _ 75 rfl 3 3 .i64 lawI Tryz.underlying75 Tryz.underlying3 (zero3 _) w1.heap.size k D rfl hown2 _ _ rfl (keyOf_int_mk Tryz.underlying3 (wf_fit hfo)) ?_; intro c hat hwc; obtain rfl : c = (cn : Int) := (by have := hat.symm.trans HAT.out; simpa using this); clear hat hwc; clear tok1 _t)
          | (at_mapUpdate; refine wpList_mapUpdate_own _ rfl _ _ _ 75 rfl 3 3 lawI Tryz.underlying75 (plainElem Tryz.prog 3) w1.heap.size k D rfl hown2 hkm _ _ _ rfl rfl (keyOf_int_mk Tryz.underlying3 (wf_fit hfo)) _ [] (plainElem_int Tryz.underlying3 (wf_fit hfc)) ?_; intro w3 hown3 hgrow3; have x0 := hgrow3.cell g0 hsm1; have y1 := hgrow3.cell b1 hsm2; have y2 := hgrow3.cell b2 hsm2))
        go_roundw
        case rel => exact ⟨k + 1, _, by omega, by go_num, hown3, by rw [HTK.out]; exact HSN.out, fun i hi => by
          rcases Nat.lt_or_ge i k with h | h
          · exact H0.out i h
          · obtain rfl : i = k := by omega
            exact HZ.out, HBF.out.grown hgrow3 HBF.out.size (fun b hb => by
              simp only [Option.some.injEq] at hb
              subst hb
              have := HB1.out.size
              omega)⟩
        case measure => simp [intOf]; omega
      · go_wp2
        go_loopw [71] (fun i wi => ∃ j : Nat, j ≤ T.sch.cols.length ∧ i = .int .i64 j ∧ (∀ i, i < j → valBad T.sch.cols r.vals i = false) ∧ Below (wo.alloc (.cells #[.int .i64 r.owner, .slice Av r.vals.length cv] 53)).heap.size (wo.alloc (.cells #[.int .i64 r.owner, .slice Av r.vals.length cv] 53)) wi) (fun i _ => T.sch.cols.length - (intOf i).toNat)
        case atStart => exact ⟨0, Nat.zero_le _, rfl, fun i hi => by omega, Below.refl _ _⟩
        case round =>
        obtain ⟨j, hj, rfl, hv0, hBI⟩ := hrel
        have HV0 := Lib.hid hv0
        have g0 : wr.cell? ⟨wo.heap.size, 0, none⟩ = some (.int .i64 r.owner) := cell_later hBI (cell_newk _ _ _ _ _ _ rfl rfl)
        have g1 : wr.cell? ⟨wo.heap.size, 1, none⟩ = some (.slice Av r.vals.length cv) := cell_later hBI (cell_newk _ _ _ _ _ _ rfl rfl)
        have hBO : Below wo.heap.size wo wr := (below_alloc wo _).trans (hBI.mono (by simp))
        have hzo : wo.heap.size < wr.heap.size := by have := hBI.size; simp at this; omega
        have hBF := HBK.out.trans (hBO.mono HBK.out.size)
        have HBI := Lib.hid hBI
        clear b0 b1 b2 b3 b4 c0 c1 hv0 hBI
        obtain ⟨b0, b1, b2, b3, b4⟩ := box5 _ _ _ _ _ _ _ hBF
        have hHW := HB0.out.trans (hBF.mono HB0.out.size)
        have HBF := Lib.hid hBF
        have HBO := Lib.hid hBO
        have hj0 : (0 : Int) ≤ (j : Int) := by omega
        clear hBF hBO
        by_cases hjl : j < T.sch.cols.length
        · have hjv : j < r.vals.length := by rw [HL.out]; exact hjl
          obtain ⟨bc, oc, rfl, hcell⟩ := HCC.out (by omega)
          obtain ⟨u, d0, d1, d2, d3, hwr, hst⟩ := hcell j hjl
          obtain ⟨Au, cu, rfl, _, _⟩ := hwr.slice
          obtain ⟨bv, ov, rfl, hvcell⟩ := HVC.out (by omega)
          have dv := cell_later hHW (hvcell j hjv)
          have hbv : bv < wr.heap.size := World.block_lt_of_cell? wr _ dv
          have e0 := cell_later hHW d0
          have e1 := cell_later hHW d1
          have e2 := cell_later hHW d2
          have e3 := cell_later hHW d3
          have hj1 : (j : Int) < (T.sch.cols.length : Int) := by omega
          have hj2 : (j : Int) < (r.vals.length : Int) := by omega
          have hcv := valBad_cases hjl hjv
          have HHW := Lib.hid hHW
          clear hcell hvcell d0 d1 d2 d3 hwr hst hHW
          generalize T.sch.cols[j] = cj at *
          generalize r.vals[j] = vj at *
          rcases hcv with ⟨hvb, hcv⟩ | ⟨hvb, v1, v2⟩
          · have HE := Lib.hid (show firstErr T.rows.length (rowErr T) = (2, (k : Int)) by
              have hbad : valsBad T.sch.cols r.vals = true := List.any_eq_true.2 ⟨j, List.mem_range.2 hjl, hvb⟩
              have hk2 : rowErr T k = 2 := by rw [HRE.out, if_neg (by rw [HL.out]; simp), if_neg (by rw [HOB.out]; simp), if_pos hbad]
              rw [firstErr_hit hlt H0.out (by rw [hk2]; simp), hk2])
            clear hvb
            rcases hcv with v1 | ⟨v1, v2⟩
            all_goals
              go_wp2
              go_ret2
              exact ⟨by rw [HV.out, HE.out]; rfl, HHW.out.trans ((below_alloc wr _).mono HHW.out.size)⟩
          · have HS := Lib.hid (show ∀ i, i < j + 1 → valBad T.sch.cols r.vals i = false from fun i hi => by
              rcases Nat.lt_or_ge i j with h | h
              · exact HV0.out i h
              · obtain rfl : i = j := by omega
                exact hvb)
            clear hvb
            go_wp2
            go_roundw
            case rel => exact ⟨j + 1, by omega, by go_num, HS.out, HBI.out.trans ((below_alloc wr _).mono HBI.out.size)⟩
            case measure => simp [intOf]; omega
        obtain rfl : j = T.sch.cols.length := by omega
        have HVB := Lib.hid (show valsBad T.sch.cols r.vals = false from List.any_eq_false.2 fun i hi => by rw [HV0.out i (List.mem_range.1 hi)]; simp)
        have hown2 := HOWN.out.kept (show wo.grownBy wr none from ⟨HBO.out.os, HBO.out.tape, HBO.out.output, HBO.out.size, fun b hb _ => HBO.out.block b hb⟩) (by simp)
        have tok1 : True := trivial
        have hkm : k < maxLen := by unfold maxLen; omega
        have hcb : (cn : Int) ≤ 2000 := by omega
        have hcb0 : (0 : Int) ≤ (cn : Int) := by omega
        have hfc : Fit ((cn : Int) + 1) := by unfold Fit; omega
        have hsm1 : some wo.heap.size ≠ some w1.heap.size := by simp; omega
        have hsm2 : some w.heap.size ≠ some w1.heap.size := by simp; omega
        have HHW := Lib.hid hHW
        clear hjl hHW
        by_cases hmany : T.sch.many < (cn : Int) + 1
        · have HE := Lib.hid (show firstErr T.rows.length (rowErr T) = (12, (k : Int)) by
            have hk12 : rowErr T k = 12 := by rw [HRE.out, if_neg (by rw [HL.out]; simp), if_neg (by rw [HOB.out]; simp), if_neg (by rw [HVB.out]; simp), if_pos (by rw [HCS.out]; simpa using hmany)]
            rw [firstErr_hit hlt H0.out (by rw [hk12]; simp), hk12])
          go_wp2_with (first
            | (at_lookup; have _t := tok1; refine wpList_lookup_own_int _ rfl _ _ 75 rfl 3 3 .i64 lawI Tryz.underlying75 Tryz.underlying3 (zero3 _) w1.heap.size k D rfl hown2 _ _ rfl (keyOf_int_mk Tryz.underlying3 (wf_fit hfo)) ?_; intro c hat hwc; obtain rfl : c = (cn : Int) := (by have := hat.symm.trans HAT.out; simpa using this); clear hat hwc; clear tok1 _t)
            | (at_mapUpdate; refine wpList_mapUpdate_own _ rfl _ _ _ 75 rfl 3 3 lawI Tryz.underlying75 (plainElem Tryz.prog 3) w1.heap.size k D rfl hown2 hkm _ _ _ rfl rfl (keyOf_int_mk Tryz.underlying3 (wf_fit hfo)) _ [] (plainElem_int Tryz.underlying3 (wf_fit hfc)) ?_; intro w3 hown3 hgrow3; have x0 := hgrow3.cell g0 hsm1; have y1 := hgrow3.cell b1 hsm2; have y2 := hgrow3.cell b2 hsm2; obtain ⟨c2, hrun2, hat2, hwc2⟩ := hown3.lookup_int lawI Tryz.underlying75 Tryz.underlying3 (zero3 _) (keyOf_int_mk Tryz.underlying3 (wf_fit hfo)); obtain rfl : c2 = (cn : Int) + 1 := (by have := hat2.symm.trans (atKey_put_same HINV.out.m (show WideAt.IsKeyLit (.int .i64 r.owner) from trivial) _ _); simpa using this); clear hat2 hwc2))
          go_ret2
          exact ⟨by rw [HV.out, HE.out]; rfl, HB0.out.trans ((HBF.out.grown hgrow3 HBF.out.size (fun b hb => by
            simp only [Option.some.injEq] at hb
            subst hb
            have := HB1.out.size
            omega)).mono HB0.out.size)⟩
        have HZ := Lib.hid (show rowErr T k = 0 by rw [HRE.out, if_neg (by rw [HL.out]; simp), if_neg (by rw [HOB.out]; simp), if_neg (by rw [HVB.out]; simp), if_neg (by rw [HCS.out]; simpa using hmany)])
        go_wp2_with (first
          | (at_lookup; have _t := tok1; refine wpList_lookup_own_int _ rfl _ _ 75 rfl 3 3 .i64 lawI Tryz.underlying75 Tryz.underlying3 (zero3 _) w1.heap.size k D rfl hown2 _ _ rfl (keyOf_int_mk Tryz.underlying3 (wf_fit hfo)) ?_; intro c hat hwc; obtain rfl : c = (cn : Int) := (by have := hat.symm.trans HAT.out; simpa using this); clear hat hwc; clear tok1 _t)
          | (at_mapUpdate; refine wpList_mapUpdate_own _ rfl _ _ _ 75 rfl 3 3 lawI Tryz.underlying75 (plainElem Tryz.prog 3) w1.heap.size k D rfl hown2 hkm _ _ _ rfl rfl (keyOf_int_mk Tryz.underlying3 (wf_fit hfo)) _ [] (plainElem_int Tryz.underlying3 (wf_fit hfc)) ?_; intro w3 hown3 hgrow3; have x0 := hgrow3.cell g0 hsm1; have y1 := hgrow3.cell b1 hsm2; have y2 := hgrow3.cell b2 hsm2; obtain ⟨c2, hrun2, hat2, hwc2⟩ := hown3.lookup_int lawI Tryz.underlying75 Tryz.underlying3 (zero3 _) (keyOf_int_mk Tryz.underlying3 (wf_fit hfo)); obtain rfl : c2 = (cn : Int) + 1 := (by have := hat2.symm.trans (atKey_put_same HINV.out.m (show WideAt.IsKeyLit (.int .i64 r.owner) from trivial) _ _); simpa using this); clear hat2 hwc2))
        go_roundw
        case rel => exact ⟨k + 1, _, by omega, by go_num, hown3, by rw [HTK.out]; exact HSN.out, fun i hi => by
          rcases Nat.lt_or_ge i k with h | h
          · exact H0.out i h
          · obtain rfl : i = k := by omega
            exact HZ.out, HBF.out.grown hgrow3 HBF.out.size (fun b hb => by
              simp only [Option.some.injEq] at hb
              subst hb
              have := HB1.out.size
              omega)⟩
        case measure => simp [intOf]; omega
end Go.Proofs.YtlocafmglficnaaGreatDoor
