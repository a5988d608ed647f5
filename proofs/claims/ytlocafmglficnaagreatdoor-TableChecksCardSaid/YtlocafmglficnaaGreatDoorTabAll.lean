/- schema.Find, schema.CheckAll, table.Schemas, table.CheckBase. -/
import Derived.Test.YtlocafmglficnaaGreatDoorTabRMore
import Derived.OwnWalk
namespace Go.Proofs.YtlocafmglficnaaGreatDoor
open Go.RowKit Go.Maps Go.Sort Go.Shelf
theorem SRow.schs {C : TypeId → Nat → Prop} {w : World} {v : Value} {ts : List Sch} (h : SRow schK C w v ts) :
    ∃ A c, v = .slice A ts.length c ∧ ts.length ≤ c ∧ c ≤ maxLen ∧ (0 < ts.length → ∃ b o, A = some ⟨b, o, none⟩ ∧ ∀ j (hj : j < ts.length), ∃ u, w.cell? ⟨b, o + j * 4, none⟩ = some (.string ts[j].name) ∧ w.cell? ⟨b, o + j * 4 + 1, none⟩ = some (.bool ts[j].pub) ∧
      w.cell? ⟨b, o + j * 4 + 2, none⟩ = some (.int .i64 ts[j].many) ∧ w.cell? ⟨b, o + j * 4 + 3, none⟩ = some u ∧ SRow colK C w u ts[j].cols ∧ (ts[j].name.size ≤ maxLen ∧ Fit ts[j].many)) := by
  obtain ⟨A, c, e, h1, h2, h3⟩ := h
  refine ⟨A, c, e, h1, h2, fun h0 => ?_⟩
  obtain ⟨b, o, eA, _, _, hx⟩ := h3 h0
  refine ⟨b, o, eA, fun j hj => ?_⟩
  obtain ⟨l, ⟨u, rfl, hcr, hs⟩, hc⟩ := hx j ts[j] (by simp [hj])
  exact ⟨u, by simpa [schK] using hc 0 _ rfl, by simpa [schK] using hc 1 _ rfl, by simpa [schK] using hc 2 _ rfl, by simpa [schK] using hc 3 _ rfl, hcr, hs⟩
theorem info28 : (Tryz.prog.info? 34).map (fun i => (i.zero, i.size, i.bytes)) = some (some (.agg #[.string ByteArray.empty, .bool false, .int .i64 0, .slice none 0 0]), 4, 56) := by kernel_rfl

theorem snamed_any (C : TypeId → Nat → Prop) (v : Value) (c : Sch) (p : Nat) (nm : ByteArray) (w : World) (h : SchVal C w v c) (hp : w.cell? ⟨p, 0, none⟩ = some (.string nm)) :
    Calls Tryz.prog 82 #[v, .pointer (some ⟨p, 0, none⟩)] w fun e w' => e = .returned (.bool (decide (c.name = nm))) ∧ Below w.heap.size w w' := by
  obtain ⟨u, rfl, _, _⟩ := h
  have hb0 := below_alloc w (.cells #[.string c.name, .bool c.pub, .int .i64 c.many, u] 34)
  have hp' := (hb0.cell (p := ⟨p, 0, none⟩) (World.block_lt_of_cell? w _ hp)).trans hp
  have HB := Lib.hid hb0
  clear hb0 hp
  by_cases he : c.name = nm
  · have e1 : (c.name.toList == nm.toList) = true := by rw [he]; simp
    have HV := Lib.hid (show decide (c.name = nm) = true by simpa using he)
    clear he
    go_enter Tryz.func82, Tryz.ntmps82
    go_wp2
    go_ret
    exact ⟨by rw [HV.out]; rfl, HB.out⟩
  · have e1 : (c.name.toList == nm.toList) = false := by simpa [Lib.toList_data] using fun e => he (ByteArray.ext (Array.toList_inj.1 e))
    have HV := Lib.hid (show decide (c.name = nm) = false by simpa using he)
    clear he
    go_enter Tryz.func82, Tryz.ntmps82
    go_wp2
    go_ret
    exact ⟨by rw [HV.out]; rfl, HB.out⟩

set_option maxHeartbeats 1000000 in
theorem sidxNamed_any (C : TypeId → Nat → Prop) (v : Value) (cs : List Sch) (p : Nat) (nm : ByteArray) (w : World) (h : SRow schK C w v cs) (hp : w.cell? ⟨p, 0, none⟩ = some (.string nm)) :
    Calls Tryz.prog 81 #[v, .func (.func 82) #[] #[.pointer (some ⟨p, 0, none⟩)]] w fun e w' => e = .returned (.int .i64 (idxOf (fun c => decide (c.name = nm)) cs)) ∧ Below w.heap.size w w' := by
  obtain ⟨A, cc, rfl, hle, hmx, hc⟩ := h.schs
  have HC := Lib.hid hc
  have HP := Lib.hid hp
  unfold maxLen at hmx
  clear hc h hp
  go_enter Tryz.func81, Tryz.ntmps81
  go_wp2
  go_loopw [8] (fun i wr => ∃ k : Nat, k ≤ cs.length ∧ i = .int .i64 k ∧ (cs.take k).any (fun c => decide (c.name = nm)) = false ∧ Below w.heap.size w wr) (fun i _ => cs.length - (intOf i).toNat)
  case atStart => exact ⟨0, Nat.zero_le _, rfl, by simp, Below.refl _ _⟩
  case round =>
    obtain ⟨k, hk, rfl, hany, hB⟩ := hrel
    have HA := Lib.hid hany
    have HB := Lib.hid hB
    clear hany
    by_cases hlt : k < cs.length
    · obtain ⟨b, o, rfl, hcell⟩ := HC.out (by omega)
      obtain ⟨u, d0, d1, d2, d3, hrw, hst⟩ := hcell k hlt
      have c0 := (hB.cell (World.block_lt_of_cell? w _ d0)).trans d0
      have c1 := (hB.cell (World.block_lt_of_cell? w _ d1)).trans d1
      have c2 := (hB.cell (World.block_lt_of_cell? w _ d2)).trans d2
      have c3 := (hB.cell (World.block_lt_of_cell? w _ d3)).trans d3
      have HCV := Lib.hid (show SchVal C wr (.agg #[.string cs[k].name, .bool cs[k].pub, .int .i64 cs[k].many, u]) cs[k] from ⟨u, rfl, hrw.below hB, hst⟩)
      have HP1 := Lib.hid ((hB.cell (World.block_lt_of_cell? w _ HP.out)).trans HP.out)
      have hi0 : (0 : Int) ≤ (k : Int) := by omega
      have hi1 : (k : Int) < (cs.length : Int) := by omega
      have hsn := take_anyS (p := fun c : Sch => decide (c.name = nm)) hlt
      rw [HA.out, Bool.false_or] at hsn
      have HSN := Lib.hid hsn
      clear hcell hsn d0 d1 d2 d3 hB
      cases hn : decide (cs[k].name = nm) with
      | false =>
        have HS := Lib.hid (show (cs.take (k + 1)).any (fun c => decide (c.name = nm)) = false by rw [HSN.out, hn])
        clear HSN
        generalize cs[k] = ck at *
        have HN := Lib.hid hn
        clear hn
        go_wp2_with (go_at_call 82; refine (snamed_any C _ ck p nm _ HCV.out HP1.out).mono ?_; rintro e w' ⟨rfl, hb1⟩; rw [HN.out])
        have HB1 := Lib.hid (HB.out.trans (hb1.mono HB.out.size))
        go_roundw
        case rel => exact ⟨k + 1, by omega, by go_num, HS.out, HB1.out⟩
        case measure => simp [intOf]; omega
      | true =>
        have HV := Lib.hid (idx_hit (p := fun c : Sch => decide (c.name = nm)) hlt HA.out hn)
        clear HSN
        generalize cs[k] = ck at *
        have HN := Lib.hid hn
        clear hn
        go_wp2_with (go_at_call 82; refine (snamed_any C _ ck p nm _ HCV.out HP1.out).mono ?_; rintro e w' ⟨rfl, hb1⟩; rw [HN.out])
        go_ret
        exact ⟨by rw [HV.out]; rfl, HB.out.trans (hb1.mono HB.out.size)⟩
    · obtain rfl : k = cs.length := by omega
      have HV := Lib.hid (idx_miss (p := fun c : Sch => decide (c.name = nm)) (xs := cs) (by have := HA.out; rwa [List.take_of_length_le (Nat.le_refl _)] at this))
      clear hlt hB
      go_wp2
      go_ret
      exact ⟨by rw [HV.out]; rfl, HB.out⟩

theorem found_any (i : Int) (w : World) (hi : -1 ≤ i) (hf : i ≤ 1000000) : Calls Tryz.prog 80 #[.int .i64 i] w fun e w' => (∃ z, e = .returned (.tuple #[.int .i64 z, .bool (decide (0 ≤ i))])) ∧ w = w' := by
  by_cases h : 0 ≤ i
  · have HD := Lib.hid (show decide (0 ≤ i) = true by simpa using h)
    go_enter Tryz.func80, Tryz.ntmps80
    go_wp2
    go_ret2
    exact ⟨⟨_, by rw [HD.out]; rfl⟩, rfl⟩
  · obtain rfl : i = -1 := by omega
    go_enter Tryz.func80, Tryz.ntmps80
    go_wp2
    go_ret2
    exact ⟨⟨_, rfl⟩, rfl⟩
set_option maxHeartbeats 1000000 in
theorem find_any (C : TypeId → Nat → Prop) (v : Value) (cs : List Sch) (nm : ByteArray) (w : World) (h : SRow schK C w v cs) (hn : cs.length ≤ 1000000) :
    Calls Tryz.prog 68 #[v, .string nm] w fun e w' => (∃ z, e = .returned (.tuple #[.int .i64 z, .bool (cs.any fun c => decide (c.name = nm))])) ∧ Below w.heap.size w w' := by
  have HB := Lib.hid (below_alloc w (.cells #[.string nm] 9))
  have HP := Lib.hid (show (w.alloc (.cells #[.string nm] 9)).cell? ⟨w.heap.size, 0, none⟩ = some (.string nm) from cell_newk _ _ _ _ _ _ rfl rfl)
  have H := Lib.hid (h.below HB.out)
  have HV := Lib.hid (idx_ge (fun c : Sch => decide (c.name = nm)) cs)
  have HL := Lib.hid (idx_lt (fun c : Sch => decide (c.name = nm)) cs)
  clear h
  have TK1 : True := trivial
  have TK2 : True := trivial
  go_enter Tryz.func68, Tryz.ntmps68
  go_wp2_with (first
    | (clear TK1; go_at_call 81; refine (sidxNamed_any C _ cs _ nm _ H.out HP.out).mono ?_; rintro e w' ⟨rfl, hb1⟩)
    | (clear TK2; go_at_call 80; refine (found_any _ _ HL.out.1 (by have := HL.out.2; omega)).mono ?_; rintro e w2 ⟨⟨z, rfl⟩, rfl⟩; rw [HV.out]))
  go_ret2
  exact ⟨⟨_, rfl⟩, HB.out.trans (hb1.mono HB.out.size)⟩

/-! ### CheckAll -/
def allAt (ss : List Sch) (i : Nat) : Int × Int × Int :=
  if (schErr (ss[i]?.getD ⟨ByteArray.empty, false, 0, []⟩)).1 ≠ 0 then ((schErr (ss[i]?.getD ⟨ByteArray.empty, false, 0, []⟩)).1, (i : Int), (schErr (ss[i]?.getD ⟨ByteArray.empty, false, 0, []⟩)).2)
  else if (ss.take i).any (fun c => decide (c.name = (ss[i]?.getD ⟨ByteArray.empty, false, 0, []⟩).name)) = true then (8, (i : Int), -1) else (0, -1, -1)
/-- The first of the answers whose error is not 0. -/
def firstOf (n : Nat) (f : Nat → Int × Int × Int) : Int × Int × Int := match (List.range n).find? (fun i => (f i).1 != 0) with | some i => f i | none => (0, -1, -1)
theorem firstOf_hit {n : Nat} {f : Nat → Int × Int × Int} {k : Nat} (hk : k < n) (h0 : ∀ i, i < k → (f i).1 = 0) (h1 : (f k).1 ≠ 0) : firstOf n f = f k := by
  have : (List.range n).find? (fun i => (f i).1 != 0) = some k := by
    rw [List.find?_eq_some_iff_append]
    refine ⟨by simpa using h1, List.range k, (List.range' (k + 1) (n - (k + 1))), ?_, fun i hi => by simpa using h0 i (List.mem_range.1 hi)⟩
    rw [List.range_eq_range', List.range_eq_range', show n = k + (n - k) by omega, ← List.range'_append_1, Nat.zero_add, show n - k = (n - (k + 1)) + 1 by omega, List.range'_succ]
    congr 3
    omega
  unfold firstOf; rw [this]
theorem firstOf_miss {n : Nat} {f : Nat → Int × Int × Int} (h0 : ∀ i, i < n → (f i).1 = 0) : firstOf n f = (0, -1, -1) := by
  have : (List.range n).find? (fun i => (f i).1 != 0) = none := by
    rw [List.find?_eq_none]
    intro i hi
    simpa using h0 i (List.mem_range.1 hi)
  unfold firstOf; rw [this]
def allErr (ss : List Sch) : Int × Int × Int := if 16 < ss.length then (4, 16, -1) else firstOf ss.length (allAt ss)
theorem sch_at {C : TypeId → Nat → Prop} {w : World} {A : Option Addr} {c : Nat} {ss : List Sch} (h : SRow schK C w (.slice A ss.length c) ss) {k : Nat} (hk : k < ss.length) :
    ∃ (b o : Nat) (nm : ByteArray) (pb : Bool) (mn : Int) (cu : Option Addr × Nat × Nat), A = some ⟨b, o, none⟩ ∧ b < w.heap.size ∧ ss.length ≤ c ∧ c ≤ maxLen ∧ w.cell? ⟨b, o + k * 4, none⟩ = some (.string nm) ∧ w.cell? ⟨b, o + k * 4 + 1, none⟩ = some (.bool pb) ∧ w.cell? ⟨b, o + k * 4 + 2, none⟩ = some (.int .i64 mn) ∧
      w.cell? ⟨b, o + k * 4 + 3, none⟩ = some (.slice cu.1 cu.2.1 cu.2.2) ∧ SchVal C w (.agg #[.string nm, .bool pb, .int .i64 mn, .slice cu.1 cu.2.1 cu.2.2]) ss[k] ∧ nm = ss[k].name := by
  obtain ⟨A', c', e, h1, h2, h3⟩ := h.schs
  simp only [Value.slice.injEq, true_and] at e
  obtain ⟨rfl, rfl⟩ := e
  obtain ⟨b, o, eA, hc⟩ := h3 (by omega)
  obtain ⟨u, q0, q1, q2, q3, hr, hs⟩ := hc k hk
  obtain ⟨Au, cu, rfl, _, _⟩ := hr.slice
  exact ⟨b, o, _, _, _, (Au, _, cu), eA, cell_lt q0, h1, h2, q0, q1, q2, q3, ⟨_, rfl, hr, hs⟩, rfl⟩

set_option maxRecDepth 100000 in
set_option maxHeartbeats 4000000 in
theorem checkAll_any (C : TypeId → Nat → Prop) (v : Value) (ss : List Sch) (w : World) (h : SRow schK C w v ss) (hr : Res w) :
    Calls Tryz.prog 48 #[v] w fun e w' => e = .returned (.tuple #[.int .i64 (allErr ss).1, .int .i64 (allErr ss).2.1, .int .i64 (allErr ss).2.2]) ∧ Below w.heap.size w w' := by
  have HV := Lib.hid h
  have HR := Lib.hid hr
  obtain ⟨A, ca, rfl, hl, hm⟩ := h.slice
  unfold maxLen at hm
  clear h hr
  refine (callsIn_wide (n := 6)).1 ?_
  have h1 : 1 ≤ 6 := by omega
  refine callsIn_of_wp Tryz.func48 rfl trivial ?_ rfl
  simp only [Tryz.ntmps48, List.size_toArray, List.length_cons, List.length_nil, Nat.reduceAdd, Nat.reduceSub, Array.replicate_succ, Array.replicate_zero, List.push_toArray, List.append_toArray, List.nil_append, List.cons_append]
  by_cases hlong : 16 < ss.length
  · have HE := Lib.hid (show allErr ss = (4, 16, -1) by unfold allErr; rw [if_pos hlong])
    have hl2 : (16 : Int) < (ss.length : Int) := by omega
    gi_wp2
    refine bodyPost_ret (results_tmp3 rfl _ _ _) rfl ?_
    exact ⟨by rw [HE.out]; rfl, Below.refl _ _⟩
  · have HE := Lib.hid (show allErr ss = firstOf ss.length (allAt ss) by unfold allErr; rw [if_neg hlong])
    have hl2 : ¬ (16 : Int) < (ss.length : Int) := by omega
    gi_wp2
    gi_loopw [16] (fun i wr => ∃ k : Nat, k ≤ ss.length ∧ i = .int .i64 k ∧ (∀ j, j < k → (allAt ss j).1 = 0) ∧ Below w.heap.size w wr) (fun i _ => ss.length - (intOf i).toNat)
    case atStart => exact ⟨0, Nat.zero_le _, rfl, fun j hj => by omega, Below.refl _ _⟩
    case round =>
      obtain ⟨k, hk, rfl, hall, hB⟩ := hrel
      have HB := Lib.hid hB
      have HA := Lib.hid hall
      have hi0 : (0 : Int) ≤ (k : Int) := by omega
      by_cases hlt : k < ss.length
      · have hi1 : (k : Int) < (ss.length : Int) := by omega
        obtain ⟨b, o, nm, pb, mn, ⟨Au, lu, cu⟩, eA, hbl, hlc, hcm, p0, p1, p2, p3, hval, hnm⟩ := sch_at (HV.out.below hB) hlt
        subst eA
        dsimp only at p3 hval
        have hcm2 : ss.length ≤ ca := hlc
        have hcm3 : (k : Int) ≤ (ca : Int) := by omega
        unfold maxLen at hcm
        have HPRE := Lib.hid ((HV.out.below hB).take (n := k) (by omega))
        have HG := Lib.hid (show ss[k]?.getD ⟨ByteArray.empty, false, 0, []⟩ = ss[k] by simp [hlt])
        have HHIT := Lib.hid (fun h1 => firstOf_hit (f := allAt ss) hlt HA.out h1)
        have HLT := Lib.hid hlt
        have HAT := Lib.hid (show allAt ss k = if (schErr ss[k]).1 ≠ 0 then ((schErr ss[k]).1, (k : Int), (schErr ss[k]).2) else if (ss.take k).any (fun c => decide (c.name = ss[k].name)) = true then (8, (k : Int), -1) else (0, -1, -1) by unfold allAt; rw [HG.out]; rfl)
        subst hnm
        have HSV := Lib.hid hval
        clear hval HG hall
        generalize ss[k] = S at *
        clear hlt
        have HBX := Lib.hid (below_alloc wr (.cells #[.string S.name, .bool pb, .int .i64 mn, .slice Au lu cu] 34))
        have HBN := Lib.hid (heap_alloc_new wr (.cells #[.string S.name, .bool pb, .int .i64 mn, .slice Au lu cu] 34))
        obtain ⟨es, hes⟩ : ∃ es, schErr S = es := ⟨_, rfl⟩
        obtain ⟨e1, e2⟩ := es
        rw [hes] at HAT
        have HES := Lib.hid hes
        dsimp only at HAT
        have hBX2 := HBX.out
        clear hes hB
        by_cases he : e1 = 0
        · subst he
          cases hd : (ss.take k).any (fun c => decide (c.name = S.name)) with
          | true =>
            have HAK := Lib.hid (show allAt ss k = (8, (k : Int), -1) by rw [HAT.out, if_neg (by simp), if_pos hd])
            have HD := Lib.hid hd
            clear hd HAT hBX2
            gi_upto_region 9 with (refine ⟨trivial, ?_⟩; gi_at_call 52; go_loud (refine (callsIn_wide.2 (check_any C _ S _ (HSV.out.below HBX.out) (HR.out.later (HB.out.trans (HBX.out.mono HB.out.size))))).mono ?_; rintro e w2 ⟨rfl, hb2⟩; rw [HES.out]; have HB2 := Lib.hid (HBX.out.trans (hb2.mono HBX.out.size)); have HBC := Lib.hid ((hb2.block wr.heap.size (by simp)).trans HBN.out); clear hb2))
            have hbx2 : wr.heap.size < w2.heap.size := (Array.getElem?_eq_some_iff.1 HBC.out).1
            have x0 : ∀ X : SameAt w2 (fun k => k = wr.heap.size), X.W.cell? ⟨wr.heap.size, 0, none⟩ = some (.string S.name) := fun X => X.cell rfl (cellrow HBC.out 0 (by simp)).1
            have hmx : Tryz.prog.follows .mixedOrders = true := by kernel_rfl
            have HBD := Lib.hid (show Below wr.heap.size wr w2.drew from HB2.out.trans ⟨rfl, rfl, rfl, Nat.le_refl _, fun _ _ => rfl⟩)
            clear p0 p1 p2 p3
            refine wpIn_stage (IsSame w2 (fun k => k = wr.heap.size)) [0, 1, 2, 3, 4, 6, 7, 8, 9, 10] [] hmx (by kernel_rfl) (isSame_of fun _ _ => rfl) ?_
            change wpStage _ _ _ _ _ _ _ _ (6 + 5) _ _ _
            refine stage_reads [0, 1, 2, 3, 4] 6 _ _ (by kernel_rfl) ?_
            change wpQuietIn _ _ _ _ (fun W => ∃ x : SameAt w2 (fun k => k = wr.heap.size), W = x.W) _ _ _
            simp only [pick_cons, pick_nil, List.getElem?_cons_zero, List.getElem?_cons_succ, Option.elim_some]
            repeat (gi_big_quiet_step (fail))
            refine wpQuietIn_nil ?_
            refine stage_one 5 (by kernel_rfl) rfl ?_
            gi_wp2_with (refine ⟨trivial, ?_⟩; gi_at_call 68; go_loud (refine (callsIn_wide.2 (find_any C _ (ss.take k) S.name _ (HPRE.out.below HBD.out) (by rw [List.length_take]; omega))).mono ?_; rintro e w3 ⟨⟨z, rfl⟩, hb3⟩; rw [HD.out]; have HB3 := Lib.hid (HBD.out.trans (hb3.mono HBD.out.size)); have HS3 := Lib.hid (show IsSame w2 (fun k => k = wr.heap.size) w3 from isSame_of fun k hk => by subst hk; exact hb3.block _ hbx2); clear hb3))
            refine stage_post HS3.out ?_
            change wpStage _ _ _ _ _ _ _ _ (0 + 5) _ _ _
            refine stage_reads [6, 7, 8, 9, 10] 0 _ _ (by kernel_rfl) ?_
            change wpQuietIn _ _ _ _ (fun W => ∃ x : SameAt w2 (fun k => k = wr.heap.size), W = x.W) _ _ _
            simp only [pick_cons, pick_nil, List.getElem?_cons_zero, List.getElem?_cons_succ, Option.elim_some]
            repeat (gi_big_quiet_step (fail))
            refine wpQuietIn_nil ?_
            refine stage_done (by kernel_rfl) ?_
            clear x0
            gi_wp2
            refine bodyPost_ret (results_tmp3 rfl _ _ _) rfl ?_
            exact ⟨by rw [HE.out, HHIT.out (by rw [HAK.out]; simp), HAK.out]; rfl, HB.out.trans (HB3.out.mono HB.out.size)⟩
          | false =>
            have HAK := Lib.hid (show allAt ss k = (0, -1, -1) by rw [HAT.out, if_neg (by simp), if_neg (by rw [hd]; simp)])
            have HD := Lib.hid hd
            clear hd HAT hBX2
            gi_upto_region 9 with (refine ⟨trivial, ?_⟩; gi_at_call 52; go_loud (refine (callsIn_wide.2 (check_any C _ S _ (HSV.out.below HBX.out) (HR.out.later (HB.out.trans (HBX.out.mono HB.out.size))))).mono ?_; rintro e w2 ⟨rfl, hb2⟩; rw [HES.out]; have HB2 := Lib.hid (HBX.out.trans (hb2.mono HBX.out.size)); have HBC := Lib.hid ((hb2.block wr.heap.size (by simp)).trans HBN.out); clear hb2))
            have hbx2 : wr.heap.size < w2.heap.size := (Array.getElem?_eq_some_iff.1 HBC.out).1
            have x0 : ∀ X : SameAt w2 (fun k => k = wr.heap.size), X.W.cell? ⟨wr.heap.size, 0, none⟩ = some (.string S.name) := fun X => X.cell rfl (cellrow HBC.out 0 (by simp)).1
            have hmx : Tryz.prog.follows .mixedOrders = true := by kernel_rfl
            have HBD := Lib.hid (show Below wr.heap.size wr w2.drew from HB2.out.trans ⟨rfl, rfl, rfl, Nat.le_refl _, fun _ _ => rfl⟩)
            clear p0 p1 p2 p3
            refine wpIn_stage (IsSame w2 (fun k => k = wr.heap.size)) [0, 1, 2, 3, 4, 6, 7, 8, 9, 10] [] hmx (by kernel_rfl) (isSame_of fun _ _ => rfl) ?_
            change wpStage _ _ _ _ _ _ _ _ (6 + 5) _ _ _
            refine stage_reads [0, 1, 2, 3, 4] 6 _ _ (by kernel_rfl) ?_
            change wpQuietIn _ _ _ _ (fun W => ∃ x : SameAt w2 (fun k => k = wr.heap.size), W = x.W) _ _ _
            simp only [pick_cons, pick_nil, List.getElem?_cons_zero, List.getElem?_cons_succ, Option.elim_some]
            repeat (gi_big_quiet_step (fail))
            refine wpQuietIn_nil ?_
            refine stage_one 5 (by kernel_rfl) rfl ?_
            gi_wp2_with (refine ⟨trivial, ?_⟩; gi_at_call 68; go_loud (refine (callsIn_wide.2 (find_any C _ (ss.take k) S.name _ (HPRE.out.below HBD.out) (by rw [List.length_take]; omega))).mono ?_; rintro e w3 ⟨⟨z, rfl⟩, hb3⟩; rw [HD.out]; have HB3 := Lib.hid (HBD.out.trans (hb3.mono HBD.out.size)); have HS3 := Lib.hid (show IsSame w2 (fun k => k = wr.heap.size) w3 from isSame_of fun k hk => by subst hk; exact hb3.block _ hbx2); clear hb3))
            refine stage_post HS3.out ?_
            change wpStage _ _ _ _ _ _ _ _ (0 + 5) _ _ _
            refine stage_reads [6, 7, 8, 9, 10] 0 _ _ (by kernel_rfl) ?_
            change wpQuietIn _ _ _ _ (fun W => ∃ x : SameAt w2 (fun k => k = wr.heap.size), W = x.W) _ _ _
            simp only [pick_cons, pick_nil, List.getElem?_cons_zero, List.getElem?_cons_succ, Option.elim_some]
            repeat (gi_big_quiet_step (fail))
            refine wpQuietIn_nil ?_
            refine stage_done (by kernel_rfl) ?_
            clear x0
            gi_wp2
            go_roundw
            case rel => exact ⟨k + 1, HLT.out, by go_num, fun j hj => by
              rcases Nat.lt_or_ge j k with h | h
              · exact HA.out j h
              · obtain rfl : j = k := by omega
                rw [HAK.out], HB.out.trans (HB3.out.mono HB.out.size)⟩
            case measure => have := HLT.out; simp [intOf]; omega
        · have HAK := Lib.hid (show allAt ss k = (e1, (k : Int), e2) by rw [HAT.out, if_pos he])
          have he1 : decide (e1 = 0) = false := by simp [he]
          have he2 : (e1 != 0) = true := by simp [he]
          have HNE := Lib.hid he
          clear HAT hBX2
          have TK1 : True := trivial
          gi_wp2_with (clear TK1; refine ⟨trivial, ?_⟩; gi_at_call 52; go_loud (refine (callsIn_wide.2 (check_any C _ S _ (HSV.out.below HBX.out) (HR.out.later (HB.out.trans (HBX.out.mono HB.out.size))))).mono ?_; rintro e w2 ⟨rfl, hb2⟩; rw [HES.out]; have HB2 := Lib.hid (HBX.out.trans (hb2.mono HBX.out.size)); clear hb2))
          refine bodyPost_ret (results_tmp3 rfl _ _ _) rfl ?_
          exact ⟨by rw [HE.out, HHIT.out (by rw [HAK.out]; exact HNE.out), HAK.out]; rfl, HB.out.trans (HB2.out.mono HB.out.size)⟩
      · have hi1 : ¬ (k : Int) < (ss.length : Int) := by omega
        obtain rfl : k = ss.length := by omega
        have HF := Lib.hid (firstOf_miss HA.out)
        clear hall hB
        gi_wp2
        refine bodyPost_ret (results_tmp3 rfl _ _ _) rfl ?_
        exact ⟨by rw [HE.out, HF.out]; rfl, HB.out⟩
set_option maxRecDepth 100000 in
set_option maxHeartbeats 2000000 in
theorem schemasT_any (C : TypeId → Nat → Prop) (v : Value) (ts : List Tbl) (w : World) (h : SRow tblK C w v ts) (hs : ∀ T ∈ ts, Small T) (hn : ts.length ≤ 1000000) :
    Calls Tryz.prog 19 #[v] w fun e w' => ∃ v', e = .returned v' ∧ OSeq schK w.heap.size w' v' (ts.map fun T => T.sch) ∧ Below w.heap.size w w' := by
  obtain ⟨A, ca, rfl, hl, hm, hc⟩ := h.tbls
  unfold maxLen at hm
  have HC := Lib.hid hc
  have HS := Lib.hid hs
  clear hc h hs
  obtain ⟨i0, hi, hz0, hz1, hz2⟩ := info_parts info28
  refine (callsIn_wide (n := 6)).1 ?_
  have h1 : 1 ≤ 6 := by omega
  refine callsIn_of_wp Tryz.func19 rfl trivial ?_ rfl
  simp only [Tryz.ntmps19, List.size_toArray, List.length_cons, List.length_nil, Nat.reduceAdd, Nat.reduceSub, Array.replicate_succ, Array.replicate_zero, List.push_toArray, List.append_toArray, List.nil_append, List.cons_append]
  gi_wp2
  gi_loopw [3, 8] (fun u i wr => ∃ k : Nat, k ≤ ts.length ∧ i = .int .i64 k ∧ OSeq schK w.heap.size wr u ((ts.take k).map fun T => T.sch) ∧ Below w.heap.size w wr) (fun _ i _ => ts.length - (intOf i).toNat)
  case atStart => exact ⟨0, Nat.zero_le _, rfl, OSeq.nil _ _ _, Below.refl _ _⟩
  case round =>
    obtain ⟨k, hk, rfl, hseq, hB⟩ := hrel
    have hlen : ((ts.take k).map fun T => T.sch).length = k := by simp; omega
    obtain ⟨Au, cu, e, _, _⟩ := hseq.slice
    rw [hlen] at e
    subst e
    have HQ := Lib.hid hseq
    have HB := Lib.hid hB
    clear hseq hB
    have hi0 : (0 : Int) ≤ (k : Int) := by omega
    by_cases hlt : k < ts.length
    · have hi1 : (k : Int) < (ts.length : Int) := by omega
      obtain ⟨b, of, rfl, hcell⟩ := HC.out (by omega)
      obtain ⟨pu, pv, p0, p1, p2, p3, p4, pr, px, ps⟩ := hcell k hlt
      have pc0 := cell_later HB.out p0
      have pc1 := cell_later HB.out p1
      have pc2 := cell_later HB.out p2
      have pc3 := cell_later HB.out p3
      have pc4 := cell_later HB.out p4
      obtain ⟨pA, pc, rfl, _, _⟩ := pr.slice
      obtain ⟨pB, pd, rfl, _, _⟩ := px.slice
      have HVX := Lib.hid (show SchVal C wr (.agg #[.string ts[k].sch.name, .bool ts[k].sch.pub, .int .i64 ts[k].sch.many, .slice pA ts[k].sch.cols.length pc]) ts[k].sch from ⟨_, rfl, pr.below HB.out, ps⟩)
      have HSM := Lib.hid (HS.out ts[k] (List.getElem_mem hlt))
      have HTK := Lib.hid (show (ts.take (k + 1)).map (fun T => T.sch) = ((ts.take k).map fun T => T.sch) ++ [ts[k].sch] by rw [List.take_succ_eq_append_getElem hlt, List.map_append]; rfl)
      have HPS := Lib.hid ps
      have HLEN := Lib.hid hlen
      have HLT := Lib.hid hlt
      clear hcell p0 p1 p2 p3 p4 pr px ps
      generalize ts[k] = T at *
      clear hlt
      have HB2 := Lib.hid (below_alloc wr (.cells #[.string T.sch.name, .bool T.sch.pub, .int .i64 T.sch.many, .slice pA T.sch.cols.length pc, .slice pB T.rows.length pd] 37))
      gi_wp2_with (first
        | (refine ⟨trivial, ?_⟩; gi_at_call 50; refine (callsIn_wide.2 (scopy_any C _ T.sch _ (HVX.out.below HB2.out) HSM.out.1 HSM.out.2.1)).mono ?_; rintro e w1 ⟨cu1, rfl, hcu1, hb1⟩; obtain ⟨A1, c1, rfl, _, _⟩ := hcu1.slice; have hbw := HB2.out.trans (hb1.mono HB2.out.size); have hsz1 := hbw.size; have hsz0 := HB.out.size; obtain ⟨us, hraw⟩ := (HQ.out.later hbw).raw; rw [HLEN.out] at hraw; have HUS := Lib.hid (hraw.alloc (.cells #[.string T.sch.name, .bool T.sch.pub, .int .i64 T.sch.many, .slice A1 T.sch.cols.length c1] 34)); have HBW := Lib.hid (HB.out.trans (hbw.mono HB.out.size)); have HBX := Lib.hid hbw; have HCU := Lib.hid (hcu1.row.ownBase (base' := w.heap.size) (by simp; omega)); clear hcu1 hb1 hbw hraw; have HNW := Lib.hid (four_new w1 (.string T.sch.name) (.bool T.sch.pub) (.int .i64 T.sch.many) (.slice A1 T.sch.cols.length c1) 34))
        | (gi_at_builtin; go_loud (refine wpListIn_append_own _ rfl _ _ 45 rfl w.heap.size 34 i0 _ 4 56 Tryz.underlying45 hi hz0 hz1 hz2 rfl (by decide) _ _ us rfl HUS.out ⟨w1.heap.size, 0, none⟩ 1 1 [.string T.sch.name, .bool T.sch.pub, .int .i64 T.sch.many, .slice A1 T.sch.cols.length c1] rfl rfl HNW.out (by simp [Value.oneCell']) (by unfold maxLen; omega) (by omega) (by simp; omega) ?_; intro v1 w6 hown1 hgrow1 _; obtain ⟨Av1, cv1, rfl⟩ := slice_of hown1; have HST := Lib.hid ((HQ.out.later HBX.out).push (K := schK) (by decide) (x := T.sch) ⟨_, rfl, HCU.out, HPS.out⟩ (by rw [HLEN.out]; exact HUS.out) (by rw [HLEN.out]; exact hown1) hgrow1); have HB6 := Lib.hid (grow_below (HBW.out.trans ((below_alloc _ _).mono HBW.out.size)) (by simp; omega) HUS.out hgrow1); clear hown1 hgrow1)))
      go_roundw
      case rel => exact ⟨k + 1, HLT.out, by go_num, by rw [HTK.out]; exact HST.out, HB6.out⟩
      case measure => have := HLT.out; simp [intOf]; omega
    · obtain rfl : k = ts.length := by omega
      have HF := Lib.hid (show OSeq schK w.heap.size wr (.slice Au ts.length cu) (ts.map fun T => T.sch) by
        have := HQ.out
        rwa [List.take_of_length_le (Nat.le_refl _)] at this)
      clear hlt
      gi_wp2
      refine bodyPost_ret (results_tmp rfl _ _ _) rfl ?_
      exact ⟨_, rfl, HF.out, HB.out⟩
end Go.Proofs.YtlocafmglficnaaGreatDoor
