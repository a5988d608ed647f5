/- Equality of tables and of bases. -/
import Derived.Test.YtlocafmglficnaaGreatDoorTabSame
namespace Go.Proofs.YtlocafmglficnaaGreatDoor
open Go.RowKit Go.Maps

theorem TblVal.sch {C : TypeId → Nat → Prop} {w : World} {c0 c1 c2 c3 c4 : Value} {T : Tbl} (h : TblVal C w (.agg #[c0, c1, c2, c3, c4]) T) : SchVal C w (.agg #[c0, c1, c2, c3]) T.sch := by
  obtain ⟨cu, ru, e, h1, h2, h3⟩ := h
  simp only [Value.agg.injEq, Array.mk.injEq, List.cons.injEq, and_true] at e
  obtain ⟨rfl, rfl, rfl, rfl, rfl⟩ := e
  exact ⟨_, rfl, h1, h3⟩
set_option maxHeartbeats 2000000 in
theorem sameTbl_any (C C' : TypeId → Nat → Prop) (v v' : Value) (c d : Tbl) (w : World) (h : TblVal C w v c) (h' : TblVal C' w v' d) :
    Calls Tryz.prog 13 #[v, v'] w fun e w' => e = .returned (.bool (eqB c d)) ∧ Below w.heap.size w w' := by
  have HT := Lib.hid h
  have HT' := Lib.hid h'
  obtain ⟨u, x, rfl, hcol, hlast, _⟩ := h
  obtain ⟨u', x', rfl, hcol', hlast', _⟩ := h'
  obtain ⟨Ac, cc, rfl, _⟩ := hcol.slice
  obtain ⟨Bc, dc, rfl, _⟩ := hcol'.slice
  obtain ⟨A, ca, rfl, _⟩ := hlast.slice
  obtain ⟨B, cb, rfl, _⟩ := hlast'.slice
  have HB1 := Lib.hid (below_alloc w (.cells #[.string c.sch.name, .bool c.sch.pub, .int .i64 c.sch.many, .slice Ac c.sch.cols.length cc, .slice A c.rows.length ca] 37))
  have HB := Lib.hid (show Below w.heap.size w ((w.alloc (.cells #[.string c.sch.name, .bool c.sch.pub, .int .i64 c.sch.many, .slice Ac c.sch.cols.length cc, .slice A c.rows.length ca] 37)).alloc (.cells #[.string d.sch.name, .bool d.sch.pub, .int .i64 d.sch.many, .slice Bc d.sch.cols.length dc, .slice B d.rows.length cb] 37)) by go_grown)
  have HL := Lib.hid (hlast.below HB.out)
  have HL' := Lib.hid (hlast'.below HB.out)
  have HS := Lib.hid (HT.out.below HB.out).sch
  have HS' := Lib.hid (HT'.out.below HB.out).sch
  have hsz : (w.alloc (.cells #[.string c.sch.name, .bool c.sch.pub, .int .i64 c.sch.many, .slice Ac c.sch.cols.length cc, .slice A c.rows.length ca] 37)).heap.size = w.heap.size + 1 := by simp
  have HSZ := Lib.hid hsz
  clear hlast hlast' hcol hcol' HT HT' hsz
  by_cases n0 : c.sch = d.sch
  case neg =>
    have HV := Lib.hid (eqB_false (fun e => n0 (tblEq.1 e).1))
    have HZ := Lib.hid (eqB_false n0)
    clear n0
    go_enter Tryz.func13, Tryz.ntmps13
    go_wp2_with (go_at_call 42; refine (sameSch_any C C' _ _ c.sch d.sch _ HS.out HS'.out).mono ?_; rintro e w1 ⟨rfl, hb1⟩; rw [HZ.out])
    go_ret
    exact ⟨by rw [HV.out]; rfl, HB.out.trans (hb1.mono HB.out.size)⟩
  have HZ := Lib.hid (eqB_true n0)
  have HV := Lib.hid (show eqB c d = eqB c.rows d.rows by
    by_cases h : c.rows = d.rows
    · rw [eqB_true h, eqB_true (tblEq.2 ⟨n0, h⟩)]
    · rw [eqB_false h, eqB_false (fun e => h (tblEq.1 e).2)])
  clear n0
  go_enter Tryz.func13, Tryz.ntmps13
  go_wp2_with (first
    | (go_at_call 42; refine (sameSch_any C C' _ _ c.sch d.sch _ HS.out HS'.out).mono ?_; rintro e w1 ⟨rfl, hb1⟩; rw [HZ.out]; obtain ⟨_, _, _, _, x4⟩ := box5 w _ _ _ _ _ _ ((below_alloc _ _).trans (hb1.mono (below_alloc _ _).size)); have hy := (box5 _ _ _ _ _ _ _ hb1).2.2.2.2; rw [HSZ.out] at hy)
    | (go_at_call 43; refine (eqRows_any C C' _ _ c.rows d.rows _ (HL.out.below hb1) (HL'.out.below hb1)).mono ?_; rintro e w2 ⟨rfl, hb2⟩))
  go_ret
  exact ⟨by rw [HV.out]; rfl, HB.out.trans ((hb1.trans (hb2.mono hb1.size)).mono HB.out.size)⟩

set_option maxRecDepth 100000 in
set_option maxHeartbeats 2000000 in
theorem eqTbls_any (C C' : TypeId → Nat → Prop) (v v' : Value) (xs ys : List Tbl) (w : World) (h : SRow tblK C w v xs) (h' : SRow tblK C' w v' ys) :
    Calls Tryz.prog 35 #[v, v', .func (.func 13) #[] #[]] w fun e w' => e = .returned (.bool (eqB xs ys)) ∧ Below w.heap.size w w' := by
  obtain ⟨A, ca, rfl, hl, hm, hc⟩ := h.tbls
  obtain ⟨B, cb, rfl, hl', hm', hd⟩ := h'.tbls
  unfold maxLen at hm hm'
  have HC := Lib.hid hc
  have HD := Lib.hid hd
  clear hc hd h h'
  by_cases hn : xs.length = ys.length
  case neg =>
    have HV := Lib.hid (show eqB xs ys = false from eqB_false (fun e => hn (by rw [e])))
    have hn' : ((xs.length : Int) != (ys.length : Int)) = true := by simpa using fun e => hn (by omega)
    clear hn
    go_enter Tryz.func35, Tryz.ntmps35
    go_wp2
    go_ret
    exact ⟨by rw [HV.out]; rfl, Below.refl _ _⟩
  have hn' : ((xs.length : Int) != (ys.length : Int)) = false := by simp [hn]
  have HN := Lib.hid hn
  clear hn
  go_enter Tryz.func35, Tryz.ntmps35
  go_wp2
  go_loopw [17] (fun i wr => ∃ k : Nat, k ≤ xs.length ∧ i = .int .i64 k ∧ (∀ j (h1 : j < xs.length) (h2 : j < ys.length), j < k → xs[j] = ys[j]) ∧ Below w.heap.size w wr) (fun i _ => xs.length - (intOf i).toNat)
  case atStart => exact ⟨0, Nat.zero_le _, rfl, fun j _ _ hj => by omega, Below.refl _ _⟩
  case round =>
    obtain ⟨k, hk, rfl, he, hB⟩ := hrel
    have HE := Lib.hid he
    have HB := Lib.hid hB
    clear he
    by_cases hlt : k < xs.length
    · have hlt' : k < ys.length := by have := HN.out; omega
      obtain ⟨b, o, rfl, hcell⟩ := HC.out (by omega)
      obtain ⟨b2, o2, rfl, hcell2⟩ := HD.out (by omega)
      obtain ⟨pu, pv, p0, p1, p2, p3, p4, pr, px, ps⟩ := hcell k hlt
      obtain ⟨qu, qv, q0, q1, q2, q3, q4, qr, qx, qs⟩ := hcell2 k hlt'
      have pc0 := cell_later hB p0
      have pc1 := cell_later hB p1
      have pc2 := cell_later hB p2
      have pc3 := cell_later hB p3
      have pc4 := cell_later hB p4
      obtain ⟨pA, pc, rfl, _, _⟩ := pr.slice
      obtain ⟨pB, pd, rfl, _, _⟩ := px.slice
      have VX : TblVal C wr (.agg #[.string xs[k].sch.name, .bool xs[k].sch.pub, .int .i64 xs[k].sch.many, .slice pA xs[k].sch.cols.length pc, .slice pB xs[k].rows.length pd]) xs[k] := ⟨_, _, rfl, pr.below hB, px.below hB, ps⟩
      clear pr ps px p0 p1 p2 p3 p4
      have qc0 := cell_later hB q0
      have qc1 := cell_later hB q1
      have qc2 := cell_later hB q2
      have qc3 := cell_later hB q3
      have qc4 := cell_later hB q4
      obtain ⟨qA, qc, rfl, _, _⟩ := qr.slice
      obtain ⟨qB, qd, rfl, _, _⟩ := qx.slice
      have VY : TblVal C' wr (.agg #[.string ys[k].sch.name, .bool ys[k].sch.pub, .int .i64 ys[k].sch.many, .slice qA ys[k].sch.cols.length qc, .slice qB ys[k].rows.length qd]) ys[k] := ⟨_, _, rfl, qr.below hB, qx.below hB, qs⟩
      clear qr qs qx q0 q1 q2 q3 q4
      have hq2 : b2 < wr.heap.size := World.block_lt_of_cell? wr _ qc0
      have hi0 : (0 : Int) ≤ (k : Int) := by omega
      have hi1 : (k : Int) < (xs.length : Int) := by omega
      have hi2 : (k : Int) < (ys.length : Int) := by omega
      have HVX := Lib.hid (show TblVal C wr (.agg #[.string xs[k].sch.name, .bool xs[k].sch.pub, .int .i64 xs[k].sch.many, .slice pA xs[k].sch.cols.length pc, .slice pB xs[k].rows.length pd]) xs[k] from VX)
      have HVY := Lib.hid (show TblVal C' wr (.agg #[.string ys[k].sch.name, .bool ys[k].sch.pub, .int .i64 ys[k].sch.many, .slice qA ys[k].sch.cols.length qc, .slice qB ys[k].rows.length qd]) ys[k] from VY)
      have HXY := Lib.hid (show ∀ j (h1 : j < xs.length) (h2 : j < ys.length), xs[k] = ys[k] → j < k + 1 → xs[j] = ys[j] from fun j h1 h2 e hj => by
        rcases Nat.lt_or_ge j k with h | h
        · exact HE.out j h1 h2 h
        · obtain rfl : j = k := by omega
          exact e)
      have HNE := Lib.hid (show xs[k] ≠ ys[k] → xs ≠ ys from fun hne e => hne (by subst e; rfl))
      clear hcell hcell2 hB
      generalize xs[k] = x at *
      generalize ys[k] = y at *
      have HB2 := Lib.hid (show Below wr.heap.size wr ((wr.alloc (.cells #[.string x.sch.name, .bool x.sch.pub, .int .i64 x.sch.many, .slice pA x.sch.cols.length pc, .slice pB x.rows.length pd] 37)).alloc (.cells #[.string y.sch.name, .bool y.sch.pub, .int .i64 y.sch.many, .slice qA y.sch.cols.length qc, .slice qB y.rows.length qd] 37)) by go_grown)
      by_cases hxy : x = y
      · have HX := Lib.hid (show ∀ j (h1 : j < xs.length) (h2 : j < ys.length), j < k + 1 → xs[j] = ys[j] from fun j h1 h2 hj => HXY.out j h1 h2 hxy hj)
        have HT := Lib.hid (eqB_true hxy)
        clear hxy
        go_wp2_with (go_at_call 13; refine (sameTbl_any C C' _ _ x y _ (HVX.out.below HB2.out) (HVY.out.below HB2.out)).mono ?_; rintro e w1 ⟨rfl, hb1⟩; rw [HT.out])
        have HB3 := Lib.hid (HB.out.trans ((HB2.out.trans (hb1.mono HB2.out.size)).mono HB.out.size))
        go_roundw
        case rel => exact ⟨k + 1, by omega, by go_num, HX.out, HB3.out⟩
        case measure => simp [intOf]; omega
      · have HV := Lib.hid (eqB_false (HNE.out hxy))
        have HT := Lib.hid (eqB_false hxy)
        clear hxy
        go_wp2_with (go_at_call 13; refine (sameTbl_any C C' _ _ x y _ (HVX.out.below HB2.out) (HVY.out.below HB2.out)).mono ?_; rintro e w1 ⟨rfl, hb1⟩; rw [HT.out])
        go_ret
        exact ⟨by rw [HV.out]; rfl, HB.out.trans ((HB2.out.trans (hb1.mono HB2.out.size)).mono HB.out.size)⟩
    · obtain rfl : k = xs.length := by omega
      have HV := Lib.hid (show eqB xs ys = true from eqB_true (List.ext_getElem HN.out fun j h1 h2 => HE.out j h1 h2 h1))
      clear hlt hB
      go_wp2
      go_ret
      exact ⟨by rw [HV.out]; rfl, HB.out⟩

end Go.Proofs.YtlocafmglficnaaGreatDoor
