/- The kit's own Same[int] and SameRows. -/
import Derived.Test.YtlocafmglficnaaDoorTabPeople
namespace Go.Proofs.YtlocafmglficnaaDoor
open Go.RowKit Go.Maps Go.Sort Go.Shelf

set_option maxRecDepth 100000 in
set_option maxHeartbeats 2000000 in
theorem same14_any (C C' : TypeId → Nat → Prop) (v v' : Value) (xs ys : List Int) (w : World) (h : SRow intK C w v xs) (h' : SRow intK C' w v' ys) :
    Calls Tryd.prog 14 #[v, v'] w fun e w' => e = .returned (.bool (eqB xs ys)) ∧ Below w.heap.size w w' := by
  obtain ⟨A, ca, rfl, hl, hm, _, hc⟩ := h.ints
  obtain ⟨B, cb, rfl, hl', hm', _, hd⟩ := h'.ints
  unfold maxLen at hm hm'
  have HC := Lib.hid hc
  have HD := Lib.hid hd
  clear hc hd h h'
  by_cases hn : xs.length = ys.length
  case neg =>
    have HV := Lib.hid (show eqB xs ys = false from eqB_false (fun e => hn (by rw [e])))
    have hn' : ((xs.length : Int) != (ys.length : Int)) = true := by simpa using fun e => hn (by omega)
    clear hn
    go_enter Tryd.func14, Tryd.ntmps14
    go_wp2
    go_ret
    exact ⟨by rw [HV.out]; rfl, Below.refl _ _⟩
  have hn' : ((xs.length : Int) != (ys.length : Int)) = false := by simp [hn]
  have HN := Lib.hid hn
  clear hn
  go_enter Tryd.func14, Tryd.ntmps14
  go_wp2
  go_loopw [5] (fun i wr => ∃ k : Nat, k ≤ xs.length ∧ i = .int .i64 k ∧ (∀ j (h1 : j < xs.length) (h2 : j < ys.length), j < k → xs[j] = ys[j]) ∧ Below w.heap.size w wr) (fun i _ => xs.length - (intOf i).toNat)
  case atStart => exact ⟨0, Nat.zero_le _, rfl, fun j _ _ hj => by omega, Below.refl _ _⟩
  case round =>
    obtain ⟨k, hk, rfl, he, hB⟩ := hrel
    have HE := Lib.hid he
    have HB := Lib.hid hB
    clear he
    by_cases hlt : k < xs.length
    · have hlt' : k < ys.length := by have := HN.out; omega
      obtain ⟨b, o, rfl, hcell⟩ := HC.out (by omega)
      obtain ⟨b2, o2, rfl, hcell2⟩ := HD.out (by omega)
      have pc := cell_later hB (hcell k hlt)
      have qc := cell_later hB (hcell2 k hlt')
      have hi0 : (0 : Int) ≤ (k : Int) := by omega
      have hi1 : (k : Int) < (xs.length : Int) := by omega
      have hi2 : (k : Int) < (ys.length : Int) := by omega
      have HXY := Lib.hid (show ∀ j (h1 : j < xs.length) (h2 : j < ys.length), xs[k] = ys[k] → j < k + 1 → xs[j] = ys[j] from fun j h1 h2 e hj => by
        rcases Nat.lt_or_ge j k with h | h
        · exact HE.out j h1 h2 h
        · obtain rfl : j = k := by omega
          exact e)
      have HNE := Lib.hid (show xs[k] ≠ ys[k] → xs ≠ ys from fun hne e => hne (by subst e; rfl))
      clear hcell hcell2 hB
      generalize xs[k] = x at *
      generalize ys[k] = y at *
      have hmx : Tryd.prog.follows .mixedOrders = true := by kernel_rfl
      by_cases hxy : x = y
      · have HX := Lib.hid (show ∀ j (h1 : j < xs.length) (h2 : j < ys.length), j < k + 1 → xs[j] = ys[j] from fun j h1 h2 hj => HXY.out j h1 h2 hxy hj)
        have hne : (x != y) = false := by simp [hxy]
        clear hxy
        go_wp2_with fail
        go_quiet (fail)
        go_wp2_with fail
        go_roundw
        case rel => exact ⟨k + 1, by omega, by go_num, HX.out, below_drewN' HB.out _⟩
        case measure => simp [intOf]; omega
      · have HV := Lib.hid (eqB_false (HNE.out hxy))
        have hne : (x != y) = true := by simp [hxy]
        clear hxy
        go_wp2_with fail
        go_quiet (fail)
        go_wp2_with fail
        go_ret
        exact ⟨by rw [HV.out]; rfl, below_drewN' HB.out _⟩
    · obtain rfl : k = xs.length := by omega
      have HV := Lib.hid (show eqB xs ys = true from eqB_true (List.ext_getElem HN.out fun j h1 h2 => HE.out j h1 h2 h1))
      clear hlt hB
      go_wp2
      go_ret
      exact ⟨by rw [HV.out]; rfl, HB.out⟩

set_option maxRecDepth 100000 in
set_option maxHeartbeats 4000000 in
theorem sameRows_any (C C' : TypeId → Nat → Prop) (v v' : Value) (xs ys : List RowV) (w : World) (h : SRow rowK C w v xs) (h' : SRow rowK C' w v' ys) :
    Calls Tryd.prog 29 #[v, v'] w fun e w' => e = .returned (.bool (eqB xs ys)) ∧ Below w.heap.size w w' := by
  obtain ⟨A, ca, rfl, hl, hm, hc⟩ := h.rows
  obtain ⟨B, cb, rfl, hl', hm', hd⟩ := h'.rows
  unfold maxLen at hm hm'
  have HC := Lib.hid hc
  have HD := Lib.hid hd
  clear hc hd h h'
  by_cases hn : xs.length = ys.length
  case neg =>
    have HV := Lib.hid (show eqB xs ys = false from eqB_false (fun e => hn (by rw [e])))
    have hn' : ((xs.length : Int) != (ys.length : Int)) = true := by simpa using fun e => hn (by omega)
    clear hn
    go_enter Tryd.func29, Tryd.ntmps29
    go_wp2
    go_ret
    exact ⟨by rw [HV.out]; rfl, Below.refl _ _⟩
  have hn' : ((xs.length : Int) != (ys.length : Int)) = false := by simp [hn]
  have HN := Lib.hid hn
  clear hn
  refine (callsIn_wide (n := 6)).1 ?_
  have h1 : 1 ≤ 6 := by omega
  refine callsIn_of_wp Tryd.func29 rfl trivial ?_ rfl
  simp only [Tryd.ntmps29, List.size_toArray, List.length_cons, List.length_nil, Nat.reduceAdd, Nat.reduceSub, Array.replicate_succ, Array.replicate_zero, List.push_toArray, List.append_toArray, List.nil_append, List.cons_append]
  gi_wp2
  gi_loopw [5] (fun i wr => ∃ k : Nat, k ≤ xs.length ∧ i = .int .i64 k ∧ (∀ j (h1 : j < xs.length) (h2 : j < ys.length), j < k → xs[j] = ys[j]) ∧ Below w.heap.size w wr) (fun i _ => xs.length - (intOf i).toNat)
  case atStart => exact ⟨0, Nat.zero_le _, rfl, fun j _ _ hj => by omega, Below.refl _ _⟩
  case round =>
    obtain ⟨k, hk, rfl, he, hB⟩ := hrel
    have HE := Lib.hid he
    have HB := Lib.hid hB
    clear he
    by_cases hlt : k < xs.length
    · have hlt' : k < ys.length := by have := HN.out; omega
      obtain ⟨b, o, rfl, hcell⟩ := HC.out (by omega)
      obtain ⟨b2, o2, rfl, hcell2⟩ := HD.out (by omega)
      obtain ⟨pu, p0, p1, pr, _⟩ := hcell k hlt
      obtain ⟨qu, q0, q1, qr, _⟩ := hcell2 k hlt'
      obtain ⟨pA, pc, rfl, _, _⟩ := pr.slice
      obtain ⟨qA, qc, rfl, _, _⟩ := qr.slice
      have HVX := Lib.hid (pr.below hB)
      have HVY := Lib.hid (qr.below hB)
      have hbl := World.block_lt_of_cell? wr _ (cell_later hB p0)
      have hbl2 := World.block_lt_of_cell? wr _ (cell_later hB q0)
      simp only at hbl hbl2
      have x0 : ∀ X : SameAt wr (fun k => k < wr.heap.size), X.W.cell? ⟨b, o + k * 2, none⟩ = _ := fun X => X.cell hbl (cell_later hB p0)
      have x1 : ∀ X : SameAt wr (fun k => k < wr.heap.size), X.W.cell? ⟨b, o + k * 2 + 1, none⟩ = _ := fun X => X.cell hbl (cell_later hB p1)
      have y0 : ∀ X : SameAt wr (fun k => k < wr.heap.size), X.W.cell? ⟨b2, o2 + k * 2, none⟩ = _ := fun X => X.cell hbl2 (cell_later hB q0)
      have y1 : ∀ X : SameAt wr (fun k => k < wr.heap.size), X.W.cell? ⟨b2, o2 + k * 2 + 1, none⟩ = _ := fun X => X.cell hbl2 (cell_later hB q1)
      have hi0 : (0 : Int) ≤ (k : Int) := by omega
      have hi1 : (k : Int) < (xs.length : Int) := by omega
      have hi2 : (k : Int) < (ys.length : Int) := by omega
      have HXY := Lib.hid (show ∀ j (h1 : j < xs.length) (h2 : j < ys.length), xs[k] = ys[k] → j < k + 1 → xs[j] = ys[j] from fun j h1 h2 e hj => by
        rcases Nat.lt_or_ge j k with h | h
        · exact HE.out j h1 h2 h
        · obtain rfl : j = k := by omega
          exact e)
      have HNE := Lib.hid (show xs[k] ≠ ys[k] → xs ≠ ys from fun hne e => hne (by subst e; rfl))
      clear hcell hcell2 pr qr p0 p1 q0 q1 hB
      generalize xs[k] = x at *
      generalize ys[k] = y at *
      have HDR := Lib.hid (show Below wr.heap.size wr wr.drew from ⟨rfl, rfl, rfl, Nat.le_refl _, fun _ _ => rfl⟩)
      have hmx : Tryd.prog.follows .mixedOrders = true := by kernel_rfl
      by_cases hxo : x.owner = y.owner
      · have hne : (x.owner != y.owner) = false := by simp [hxo]
        have HXO := Lib.hid hxo
        clear hxo
        gi_wp2
        refine wpIn_stage (IsSame wr (fun k => k < wr.heap.size)) [0, 1, 2, 3, 4, 5, 6, 7, 8, 9, 10, 11, 12, 13, 14, 15, 16, 17, 18, 19, 20, 21] [] hmx (by kernel_rfl) (isSame_of fun _ _ => rfl) ?_
        change wpStage _ _ _ _ _ _ _ _ (13 + 12) _ _ _
        refine stage_reads [0, 1, 2, 3, 4, 5, 6, 7, 8, 9, 10, 11] 13 _ _ (by kernel_rfl) ?_
        change wpQuietIn _ _ _ _ (fun W => ∃ x : SameAt wr (fun k => k < wr.heap.size), W = x.W) _ _ _
        simp only [pick_cons, pick_nil, List.getElem?_cons_zero, List.getElem?_cons_succ, Option.elim_some]
        repeat (gi_big_quiet_step (fail))
        refine wpQuietIn_nil ?_
        change wpStage _ _ _ _ _ _ _ _ (3 + 10) _ _ _
        refine stage_reads [12, 13, 14, 15, 16, 17, 18, 19, 20, 21] 3 _ _ (by kernel_rfl) ?_
        change wpQuietIn _ _ _ _ (fun W => ∃ x : SameAt wr (fun k => k < wr.heap.size), W = x.W) _ _ _
        simp only [pick_cons, pick_nil, List.getElem?_cons_zero, List.getElem?_cons_succ, Option.elim_some]
        repeat (gi_big_quiet_step (fail))
        refine wpQuietIn_nil ?_
        refine stage_one 22 (by kernel_rfl) rfl ?_
        gi_wp2_with (refine ⟨trivial, ?_⟩; gi_at_call 14; refine (callsIn_wide.2 (same14_any C C' _ _ x.vals y.vals _ (HVX.out.below HDR.out) (HVY.out.below HDR.out))).mono ?_; rintro e wc ⟨rfl, hbc⟩; have HBC := Lib.hid (show Below wr.heap.size wr wc from ⟨hbc.os, hbc.tape, hbc.output, hbc.size, hbc.block⟩); clear hbc)
        refine stage_post (isSame_below HBC.out (fun _ h => h)) ?_
        refine stage_one 23 (by kernel_rfl) rfl ?_
        gi_wp2
        refine stage_post (isSame_below HBC.out (fun _ h => h)) ?_
        refine stage_one 24 (by kernel_rfl) rfl ?_
        gi_wp2
        refine stage_post (isSame_below HBC.out (fun _ h => h)) ?_
        refine stage_done (by kernel_rfl) ?_
        by_cases hxy : x.vals = y.vals
        · have HX := Lib.hid (show ∀ j (h1 : j < xs.length) (h2 : j < ys.length), j < k + 1 → xs[j] = ys[j] from fun j h1 h2 hj => HXY.out j h1 h2 (rowEq.2 ⟨HXO.out, hxy⟩) hj)
          have hT := eqB_true hxy
          simp only [hT, Bool.not_true]
          clear hxy hT
          gi_wp2
          go_roundw
          case rel => exact ⟨k + 1, by omega, by go_num, HX.out, HB.out.trans (HBC.out.mono HB.out.size)⟩
          case measure => simp [intOf]; omega
        · have HV := Lib.hid (eqB_false (HNE.out fun e => hxy (rowEq.1 e).2))
          have hT := eqB_false hxy
          simp only [hT, Bool.not_false]
          clear hxy hT
          gi_wp2
          refine bodyPost_ret (results_tmp rfl _ _ _) rfl ?_
          exact ⟨by rw [HV.out]; rfl, HB.out.trans (HBC.out.mono HB.out.size)⟩
      · have hne : (x.owner != y.owner) = true := by simp [hxo]
        have HV := Lib.hid (eqB_false (HNE.out fun e => hxo (rowEq.1 e).1))
        clear hxo
        gi_wp2
        refine wpIn_stage (IsSame wr (fun k => k < wr.heap.size)) [0, 1, 2, 3, 4, 5, 6, 7, 8, 9, 10, 11, 12, 13, 14, 15, 16, 17, 18, 19, 20, 21] [] hmx (by kernel_rfl) (isSame_of fun _ _ => rfl) ?_
        change wpStage _ _ _ _ _ _ _ _ (13 + 12) _ _ _
        refine stage_reads [0, 1, 2, 3, 4, 5, 6, 7, 8, 9, 10, 11] 13 _ _ (by kernel_rfl) ?_
        change wpQuietIn _ _ _ _ (fun W => ∃ x : SameAt wr (fun k => k < wr.heap.size), W = x.W) _ _ _
        simp only [pick_cons, pick_nil, List.getElem?_cons_zero, List.getElem?_cons_succ, Option.elim_some]
        repeat (gi_big_quiet_step (fail))
        refine wpQuietIn_nil ?_
        change wpStage _ _ _ _ _ _ _ _ (3 + 10) _ _ _
        refine stage_reads [12, 13, 14, 15, 16, 17, 18, 19, 20, 21] 3 _ _ (by kernel_rfl) ?_
        change wpQuietIn _ _ _ _ (fun W => ∃ x : SameAt wr (fun k => k < wr.heap.size), W = x.W) _ _ _
        simp only [pick_cons, pick_nil, List.getElem?_cons_zero, List.getElem?_cons_succ, Option.elim_some]
        repeat (gi_big_quiet_step (fail))
        refine wpQuietIn_nil ?_
        refine stage_one 22 (by kernel_rfl) rfl ?_
        gi_wp2_with (refine ⟨trivial, ?_⟩)
        refine stage_post (isSame_of fun _ _ => rfl) ?_
        refine stage_one 23 (by kernel_rfl) rfl ?_
        gi_wp2
        refine stage_post (isSame_of fun _ _ => rfl) ?_
        refine stage_one 24 (by kernel_rfl) rfl ?_
        gi_wp2
        refine stage_post (isSame_of fun _ _ => rfl) ?_
        refine stage_done (by kernel_rfl) ?_
        gi_wp2
        refine bodyPost_ret (results_tmp rfl _ _ _) rfl ?_
        exact ⟨by rw [HV.out]; rfl, HB.out.trans (HDR.out.mono HB.out.size)⟩
    · obtain rfl : k = xs.length := by omega
      have HV := Lib.hid (show eqB xs ys = true from eqB_true (List.ext_getElem HN.out fun j h1 h2 => HE.out j h1 h2 h1))
      clear hlt hB
      gi_wp2
      refine bodyPost_ret (results_tmp rfl _ _ _) rfl ?_
      exact ⟨by rw [HV.out]; rfl, HB.out⟩
end Go.Proofs.YtlocafmglficnaaDoor
