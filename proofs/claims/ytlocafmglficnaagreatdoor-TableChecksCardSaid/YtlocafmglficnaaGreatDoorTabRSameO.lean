/- The reference's equality of tables and of bases. -/
import Derived.Test.YtlocafmglficnaaGreatDoorTabRSameS
namespace Go.Proofs.YtlocafmglficnaaGreatDoor
open Go.RowKit Go.Maps Go.Sort Go.Shelf

set_option maxHeartbeats 2000000 in
theorem rsameTbl_any (C C' : TypeId → Nat → Prop) (v v' : Value) (c d : Tbl) (w : World) (h : TblVal C w v c) (h' : TblVal C' w v' d) :
    Calls Tryz.prog 14 #[v, v'] w fun e w' => e = .returned (.bool (eqB c d)) ∧ Below w.heap.size w w' := by
  have HT := Lib.hid h
  have HT' := Lib.hid h'
  obtain ⟨u, x, rfl, hcol, hlast, _⟩ := h
  obtain ⟨u', x', rfl, hcol', hlast', _⟩ := h'
  obtain ⟨Ac, cc, rfl, _⟩ := hcol.slice
  obtain ⟨Bc, dc, rfl, _⟩ := hcol'.slice
  obtain ⟨A, ca, rfl, _⟩ := hlast.slice
  obtain ⟨B, cb, rfl, _⟩ := hlast'.slice
  have HB1 := Lib.hid (below_alloc w (.cells #[.string c.sch.name, .bool c.sch.pub, .int .i64 c.sch.many, .slice Ac c.sch.cols.length cc, .slice A c.rows.length ca] 37))
  have HB := Lib.hid (show Below w.heap.size w ((w.alloc (.cells #[.string c.sch.name, .bool c.sch.pub, .int .i64 c.sch.many, .slice Ac c.sch.cols.length cc, .slice A c.rows.length ca] 37)).alloc (.cells #[.string d.sch.name, .bool d.sch.pub, .int .i64 d.sch.many, .slice Bc d.sch.cols.length dc, .slice B d.rows.length cb] 37)) by go_grown)
  have HL := Lib.hid (hlast.below HB.out)
  have HL' := Lib.hid (hlast'.below HB.out)
  have HS := Lib.hid (HT.out.below HB.out).sch
  have HS' := Lib.hid (HT'.out.below HB.out).sch
  have hsz : (w.alloc (.cells #[.string c.sch.name, .bool c.sch.pub, .int .i64 c.sch.many, .slice Ac c.sch.cols.length cc, .slice A c.rows.length ca] 37)).heap.size = w.heap.size + 1 := by simp
  have HSZ := Lib.hid hsz
  clear hlast hlast' hcol hcol' HT HT' hsz
  by_cases n0 : c.sch = d.sch
  case neg =>
    have HV := Lib.hid (eqB_false (fun e => n0 (tblEq.1 e).1))
    have HZ := Lib.hid (eqB_false n0)
    clear n0
    go_enter Tryz.func14, Tryz.ntmps14
    go_wp2_with (go_at_call 23; refine (rsameSch_any C C' _ _ c.sch d.sch _ HS.out HS'.out).mono ?_; rintro e w1 ⟨rfl, hb1⟩; rw [HZ.out])
    go_ret
    exact ⟨by rw [HV.out]; rfl, HB.out.trans (hb1.mono HB.out.size)⟩
  have HZ := Lib.hid (eqB_true n0)
  have HV := Lib.hid (show eqB c d = eqB c.rows d.rows by
    by_cases h : c.rows = d.rows
    · rw [eqB_true h, eqB_true (tblEq.2 ⟨n0, h⟩)]
    · rw [eqB_false h, eqB_false (fun e => h (tblEq.1 e).2)])
  clear n0
  go_enter Tryz.func14, Tryz.ntmps14
  go_wp2_with (first
    | (go_at_call 23; refine (rsameSch_any C C' _ _ c.sch d.sch _ HS.out HS'.out).mono ?_; rintro e w1 ⟨rfl, hb1⟩; rw [HZ.out]; obtain ⟨_, _, _, _, x4⟩ := box5 w _ _ _ _ _ _ ((below_alloc _ _).trans (hb1.mono (below_alloc _ _).size)); have hy := (box5 _ _ _ _ _ _ _ hb1).2.2.2.2; rw [HSZ.out] at hy)
    | (go_at_call 46; refine (rrows_any C C' _ _ c.rows d.rows _ (HL.out.below hb1) (HL'.out.below hb1)).mono ?_; rintro e w2 ⟨rfl, hb2⟩))
  go_ret
  exact ⟨by rw [HV.out]; rfl, HB.out.trans ((hb1.trans (hb2.mono hb1.size)).mono HB.out.size)⟩

attribute [local go_sem] Oper.semAt_some
set_option maxRecDepth 100000 in
set_option maxHeartbeats 4000000 in
theorem rsameOf_any (C C' : TypeId → Nat → Prop) (v v' : Value) (xs ys : List Tbl) (w : World) (h : SRow tblK C w v xs) (h' : SRow tblK C' w v' ys) :
    Calls Tryz.prog 18 #[v, v'] w fun e w' => e = .returned (.bool (eqB xs ys)) ∧ Below w.heap.size w w' := by
  obtain ⟨A, ca, rfl, hl, hm, hc⟩ := h.tbls
  obtain ⟨B, cb, rfl, hl', hm', hd⟩ := h'.tbls
  unfold maxLen at hm hm'
  have HC := Lib.hid hc
  have HD := Lib.hid hd
  clear hc hd h h'
  by_cases hn : xs.length = ys.length
  case neg =>
    have HV := Lib.hid (show eqB xs ys = false from eqB_false (fun e => hn (by rw [e])))
    have hn' : ((xs.length : Int) != (ys.length : Int)) = true := by simpa using fun e => hn (by omega)
    clear hn
    go_enter Tryz.func18, Tryz.ntmps18
    go_wp2
    go_ret
    exact ⟨by rw [HV.out]; rfl, Below.refl _ _⟩
  have hn' : ((xs.length : Int) != (ys.length : Int)) = false := by simp [hn]
  have HN := Lib.hid hn
  clear hn
  refine (callsIn_wide (n := 6)).1 ?_
  have h1 : 1 ≤ 6 := by omega
  refine callsIn_of_wp Tryz.func18 rfl trivial ?_ rfl
  simp only [Tryz.ntmps18, List.size_toArray, List.length_cons, List.length_nil, Nat.reduceAdd, Nat.reduceSub, Array.replicate_succ, Array.replicate_zero, List.push_toArray, List.append_toArray, List.nil_append, List.cons_append]
  gi_wp2
  gi_loopw [5] (fun i wr => ∃ k : Nat, k ≤ xs.length ∧ i = .int .i64 k ∧ (∀ j (h1 : j < xs.length) (h2 : j < ys.length), j < k → xs[j] = ys[j]) ∧ Below w.heap.size w wr) (fun i _ => xs.length - (intOf i).toNat)
  case atStart => exact ⟨0, Nat.zero_le _, rfl, fun j _ _ hj => by omega, Below.refl _ _⟩
  case round =>
    obtain ⟨k, hk, rfl, he, hB⟩ := hrel
    have HE := Lib.hid he
    have HB := Lib.hid hB
    clear he
    by_cases hlt : k < xs.length
    · have hlt' : k < ys.length := by have := HN.out; omega
      obtain ⟨b, o, rfl, hcell⟩ := HC.out (by omega)
      obtain ⟨b2, o2, rfl, hcell2⟩ := HD.out (by omega)
      obtain ⟨pu, pv, p0, p1, p2, p3, p4, pr, px, ps⟩ := hcell k hlt
      obtain ⟨qu, qv, q0, q1, q2, q3, q4, qr, qx, qs⟩ := hcell2 k hlt'
      obtain ⟨pA, pc, rfl, _, _⟩ := pr.slice
      obtain ⟨pB, pd, rfl, _, _⟩ := px.slice
      obtain ⟨qA, qc, rfl, _, _⟩ := qr.slice
      obtain ⟨qB, qd, rfl, _, _⟩ := qx.slice
      have hdr : Below w.heap.size w wr.drew := ⟨hB.os, hB.tape, hB.output, hB.size, hB.block⟩
      have HVX := Lib.hid (show TblVal C wr.drew (.agg #[.string xs[k].sch.name, .bool xs[k].sch.pub, .int .i64 xs[k].sch.many, .slice pA xs[k].sch.cols.length pc, .slice pB xs[k].rows.length pd]) xs[k] from ⟨_, _, rfl, pr.below hdr, px.below hdr, ps⟩)
      have HVY := Lib.hid (show TblVal C' wr.drew (.agg #[.string ys[k].sch.name, .bool ys[k].sch.pub, .int .i64 ys[k].sch.many, .slice qA ys[k].sch.cols.length qc, .slice qB ys[k].rows.length qd]) ys[k] from ⟨_, _, rfl, qr.below hdr, qx.below hdr, qs⟩)
      have hbl := World.block_lt_of_cell? wr _ (cell_later hB p0)
      have hbl2 := World.block_lt_of_cell? wr _ (cell_later hB q0)
      simp only at hbl hbl2
      have x0 : ∀ X : SameAt wr (fun k => k < wr.heap.size), X.W.cell? ⟨b, o + k * 5, none⟩ = _ := fun X => X.cell hbl (cell_later hB p0)
      have x1 : ∀ X : SameAt wr (fun k => k < wr.heap.size), X.W.cell? ⟨b, o + k * 5 + 1, none⟩ = _ := fun X => X.cell hbl (cell_later hB p1)
      have x2 : ∀ X : SameAt wr (fun k => k < wr.heap.size), X.W.cell? ⟨b, o + k * 5 + 2, none⟩ = _ := fun X => X.cell hbl (cell_later hB p2)
      have x3 : ∀ X : SameAt wr (fun k => k < wr.heap.size), X.W.cell? ⟨b, o + k * 5 + 3, none⟩ = _ := fun X => X.cell hbl (cell_later hB p3)
      have x4 : ∀ X : SameAt wr (fun k => k < wr.heap.size), X.W.cell? ⟨b, o + k * 5 + 4, none⟩ = _ := fun X => X.cell hbl (cell_later hB p4)
      have y0 : ∀ X : SameAt wr (fun k => k < wr.heap.size), X.W.cell? ⟨b2, o2 + k * 5, none⟩ = _ := fun X => X.cell hbl2 (cell_later hB q0)
      have y1 : ∀ X : SameAt wr (fun k => k < wr.heap.size), X.W.cell? ⟨b2, o2 + k * 5 + 1, none⟩ = _ := fun X => X.cell hbl2 (cell_later hB q1)
      have y2 : ∀ X : SameAt wr (fun k => k < wr.heap.size), X.W.cell? ⟨b2, o2 + k * 5 + 2, none⟩ = _ := fun X => X.cell hbl2 (cell_later hB q2)
      have y3 : ∀ X : SameAt wr (fun k => k < wr.heap.size), X.W.cell? ⟨b2, o2 + k * 5 + 3, none⟩ = _ := fun X => X.cell hbl2 (cell_later hB q3)
      have y4 : ∀ X : SameAt wr (fun k => k < wr.heap.size), X.W.cell? ⟨b2, o2 + k * 5 + 4, none⟩ = _ := fun X => X.cell hbl2 (cell_later hB q4)
      have hi0 : (0 : Int) ≤ (k : Int) := by omega
      have hi1 : (k : Int) < (xs.length : Int) := by omega
      have hi2 : (k : Int) < (ys.length : Int) := by omega
      have HXY := Lib.hid (show ∀ j (h1 : j < xs.length) (h2 : j < ys.length), xs[k] = ys[k] → j < k + 1 → xs[j] = ys[j] from fun j h1 h2 e hj => by
        rcases Nat.lt_or_ge j k with h | h
        · exact HE.out j h1 h2 h
        · obtain rfl : j = k := by omega
          exact e)
      have HNE := Lib.hid (show xs[k] ≠ ys[k] → xs ≠ ys from fun hne e => hne (by subst e; rfl))
      clear hcell hcell2 pr qr px qx p0 p1 p2 p3 p4 q0 q1 q2 q3 q4 ps qs hB hdr
      generalize xs[k] = x at *
      generalize ys[k] = y at *
      have hmx : Tryz.prog.follows .mixedOrders = true := by kernel_rfl
      gi_wp2
      refine wpIn_stage (IsSame wr (fun k => k < wr.heap.size)) [0, 1, 2, 3, 4, 5, 6, 7] [] hmx (by kernel_rfl) (isSame_of fun _ _ => rfl) ?_
      change wpStage _ _ _ _ _ _ _ _ (2 + 8) _ _ _
      refine stage_reads [0, 1, 2, 3, 4, 5, 6, 7] 2 _ _ (by kernel_rfl) ?_
      change wpQuietIn _ _ _ _ (fun W => ∃ x : SameAt wr (fun k => k < wr.heap.size), W = x.W) _ _ _
      simp only [pick_cons, pick_nil, List.getElem?_cons_zero, List.getElem?_cons_succ, Option.elim_some]
      repeat (gi_big_quiet_step (fail))
      refine wpQuietIn_nil ?_
      clear x0 x1 x2 x3 x4 y0 y1 y2 y3 y4
      refine stage_one 8 (by kernel_rfl) rfl ?_
      gi_wp2_with (refine ⟨trivial, ?_⟩; gi_at_call 14; refine (callsIn_wide.2 (rsameTbl_any C C' _ _ x y _ HVX.out HVY.out)).mono ?_; rintro e wc ⟨rfl, hbc⟩; have HBC := Lib.hid (show Below wr.heap.size wr wc from ⟨hbc.os, hbc.tape, hbc.output, hbc.size, hbc.block⟩); clear hbc)
      refine stage_post (isSame_below HBC.out (fun _ h => h)) ?_
      refine stage_one 9 (by kernel_rfl) rfl ?_
      gi_wp2
      refine stage_post (isSame_below HBC.out (fun _ h => h)) ?_
      refine stage_done (by kernel_rfl) ?_
      by_cases hxy : x = y
      · have HX := Lib.hid (show ∀ j (h1 : j < xs.length) (h2 : j < ys.length), j < k + 1 → xs[j] = ys[j] from fun j h1 h2 hj => HXY.out j h1 h2 hxy hj)
        have hT := eqB_true hxy
        simp only [hT, Bool.not_true]
        clear hxy hT
        gi_wp2
        go_roundw
        case rel => exact ⟨k + 1, by omega, by go_num, HX.out, HB.out.trans (HBC.out.mono HB.out.size)⟩
        case measure => simp [intOf]; omega
      · have HV := Lib.hid (eqB_false (HNE.out hxy))
        have hT := eqB_false hxy
        simp only [hT, Bool.not_false]
        clear hxy hT
        gi_wp2
        refine bodyPost_ret (results_tmp rfl _ _ _) rfl ?_
        exact ⟨by rw [HV.out]; rfl, HB.out.trans (HBC.out.mono HB.out.size)⟩
    · obtain rfl : k = xs.length := by omega
      have HV := Lib.hid (show eqB xs ys = true from eqB_true (List.ext_getElem HN.out fun j h1 h2 => HE.out j h1 h2 h1))
      clear hlt hB
      gi_wp2
      refine bodyPost_ret (results_tmp rfl _ _ _) rfl ?_
      exact ⟨by rw [HV.out]; rfl, HB.out⟩
end Go.Proofs.YtlocafmglficnaaGreatDoor
