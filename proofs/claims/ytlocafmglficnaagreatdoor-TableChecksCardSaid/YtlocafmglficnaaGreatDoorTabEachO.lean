/- Neighbours of bases: the closure. -/
import Derived.Test.YtlocafmglficnaaGreatDoorTabOwnOf
import Derived.Test.YtlocafmglficnaaGreatDoorTabWithoutOf
namespace Go.Proofs.YtlocafmglficnaaGreatDoor
open Go.RowKit Go.Maps Go.Sort Go.Shelf

def withoutB (ts : List Tbl) (o : Int) : List Tbl := ts.map fun T => withoutT T o
/-- Sizes that the copies of a base want. -/
def SmallB (ts : List Tbl) : Prop := ts.length ≤ 1000 ∧ ∀ T ∈ ts, Small T ∧ T.rows.length ≤ 1000
theorem SRow.low {α : Type} {K : Kind α} {n : Nat} {w w' : World} {v : Value} {xs : List α} (h : SRow K (Lt n) w v xs) (hb : ∀ k, k < n → w'.heap[k]? = w.heap[k]?) : SRow K (Lt n) w' v xs := h.keep fun E b _ _ hC => ⟨hC, hb b hC⟩
noncomputable def stepO (ts us : List Tbl) (st : Int × Bool) (o : Int) : Int × Bool := if ((!st.2 || decide (o < st.1)) && eqB (withoutB ts o) us) = true then (o, true) else st
noncomputable def eachO (ts us : List Tbl) (st : Int × Bool) (k : Nat) : Int × Bool := ((asc (ownersOf ts)).take k).foldl (stepO ts us) st
theorem eachO_succ (ts us : List Tbl) (st : Int × Bool) (k : Nat) (h : k < (asc (ownersOf ts)).length) : eachO ts us st (k + 1) = stepO ts us (eachO ts us st k) (asc (ownersOf ts))[k] := by
  unfold eachO
  rw [List.take_succ_eq_append_getElem h, List.foldl_append]
  rfl
theorem sameBase_any (C C' : TypeId → Nat → Prop) (v v' : Value) (xs ys : List Tbl) (w : World) (h : SRow tblK C w v xs) (h' : SRow tblK C' w v' ys) :
    Calls Tryz.prog 34 #[v, v'] w fun e w' => e = .returned (.bool (eqB xs ys)) ∧ Below w.heap.size w w' := by
  have HX := Lib.hid h
  have HY := Lib.hid h'
  obtain ⟨A, c, rfl, _, _⟩ := h.slice
  obtain ⟨B, d, rfl, _, _⟩ := h'.slice
  clear h h'
  go_enter Tryz.func34, Tryz.ntmps34
  go_wp2_with (go_at_call 35; refine (eqTbls_any C C' _ _ xs ys _ HX.out HY.out).mono ?_; rintro e w1 ⟨rfl, hb1⟩)
  go_ret
  exact ⟨rfl, hb1⟩
/-- What the closure has captured. -/
structure CapO (w : World) (n p2 p3 p4 p5 p6 : Nat) (st : Int × Bool) : Prop where
  c2 : w.cell? ⟨p2, 0, none⟩ = some (.func (.func 32) #[] #[])
  c5 : w.cell? ⟨p5, 0, none⟩ = some (.func (.func 34) #[] #[])
  c6 : w.cell? ⟨p6, 0, none⟩ = some (.func (.func 33) #[] #[])
  b3 : w.heap[p3]? = some (.cells #[.bool st.2] 4 (0, 0))
  b4 : w.heap[p4]? = some (.cells #[.int .i64 st.1] 3 (0, 0))
  le : n ≤ p2 ∧ n ≤ p3 ∧ n ≤ p4 ∧ n ≤ p5 ∧ n ≤ p6
  ne : p2 ≠ p3 ∧ p2 ≠ p4 ∧ p5 ≠ p3 ∧ p5 ≠ p4 ∧ p6 ≠ p3 ∧ p6 ≠ p4 ∧ p3 ≠ p4
theorem CapO.below {w w' : World} {n p2 p3 p4 p5 p6 : Nat} {st : Int × Bool} (h : CapO w n p2 p3 p4 p5 p6 st) (hb : Below w.heap.size w w') : CapO w' n p2 p3 p4 p5 p6 st :=
  ⟨cell_later hb h.c2, cell_later hb h.c5, cell_later hb h.c6, (hb.block _ (Array.getElem?_eq_some_iff.1 h.b3).1).trans h.b3, (hb.block _ (Array.getElem?_eq_some_iff.1 h.b4).1).trans h.b4, h.le, h.ne⟩
theorem CapO.put {w : World} {n p2 p3 p4 p5 p6 : Nat} {st : Int × Bool} (h : CapO w n p2 p3 p4 p5 p6 st) (x : Int) : CapO ((w.setCell ⟨p4, 0, none⟩ (.int .i64 x)).setCell ⟨p3, 0, none⟩ (.bool true)) n p2 p3 p4 p5 p6 (x, true) := by
  obtain ⟨c2, c5, c6, b3, b4, le, n23, n24, n53, n54, n63, n64, n34⟩ := h
  have far : ∀ k, k ≠ p3 → k ≠ p4 → ((w.setCell ⟨p4, 0, none⟩ (.int .i64 x)).setCell ⟨p3, 0, none⟩ (.bool true)).heap[k]? = w.heap[k]? := fun k h3 h4 => by
    rw [Below.heap_setCell _ _ _ _ (by exact h3), Below.heap_setCell _ _ _ _ (by exact h4)]
  refine ⟨(World.cell?_of_block (far _ n23 n24)).trans c2, (World.cell?_of_block (far _ n53 n54)).trans c5, (World.cell?_of_block (far _ n63 n64)).trans c6, ?_, ?_, le, n23, n24, n53, n54, n63, n64, n34⟩
  · have := heap_setCell_same (w.setCell ⟨p4, 0, none⟩ (.int .i64 x)) p3 0 _ _ (.bool true) ((Below.heap_setCell _ _ _ _ (by exact n34)).trans b3)
    simpa using this
  · rw [Below.heap_setCell _ _ _ _ (by exact fun e => n34 e.symm)]
    have := heap_setCell_same w p4 0 _ _ (.int .i64 x) b4
    simpa using this
attribute [local go_sem] Oper.semAt_some
set_option maxRecDepth 100000 in
set_option maxHeartbeats 4000000 in
theorem eachO_any (n p2 p3 p4 p5 p6 : Nat) (v v' : Value) (ts us : List Tbl) (st : Int × Bool) (w : World) (h : SRow tblK (Lt n) w v ts) (h' : SRow tblK (Lt n) w v' us) (hT : SmallB ts) (hc : CapO w n p2 p3 p4 p5 p6 st) :
    Calls Tryz.prog 57 #[v, v', .pointer (some ⟨p2, 0, none⟩), .pointer (some ⟨p3, 0, none⟩), .pointer (some ⟨p4, 0, none⟩), .pointer (some ⟨p5, 0, none⟩), .pointer (some ⟨p6, 0, none⟩)] w fun e w' =>
      e = .returned (.tuple #[]) ∧ CapO w' n p2 p3 p4 p5 p6 (eachO ts us st (asc (ownersOf ts)).length) ∧ Bes w w' p3 p4 := by
  have HT := Lib.hid h
  have HU := Lib.hid h'
  obtain ⟨A1, c1, rfl, _, _⟩ := h.slice
  obtain ⟨A3, c3, rfl, _, _⟩ := h'.slice
  have HS := Lib.hid hT
  have HC := Lib.hid hc
  have y2 := hc.c2
  have hl2 : p2 < w.heap.size := World.block_lt_of_cell? w _ y2
  have hl3 : p3 < w.heap.size := (Array.getElem?_eq_some_iff.1 hc.b3).1
  have hl4 : p4 < w.heap.size := (Array.getElem?_eq_some_iff.1 hc.b4).1
  have hl5 : p5 < w.heap.size := World.block_lt_of_cell? w _ hc.c5
  have hl6 : p6 < w.heap.size := World.block_lt_of_cell? w _ hc.c6
  have HC0 := Lib.hid (show n ≤ w.heap.size ∧ n ≤ p3 ∧ n ≤ p4 from ⟨by have := hc.le; omega, hc.le.2.1, hc.le.2.2.1⟩)
  clear h h' hc hT
  refine (callsIn_wide (n := 6)).1 ?_
  have h1 : 1 ≤ 6 := by omega
  refine callsIn_of_wp Tryz.func57 rfl trivial ?_ rfl
  simp only [Tryz.ntmps57, List.size_toArray, List.length_cons, List.length_nil, Nat.reduceAdd, Nat.reduceSub, Array.replicate_succ, Array.replicate_zero, List.push_toArray, List.append_toArray, List.nil_append, List.cons_append]
  gi_wp2
  refine ⟨trivial, ?_⟩
  gi_at_call 32
  refine (callsIn_wide.2 (ownersOf_any (Lt n) _ ts _ HT.out HS.out.1 (fun T hT => (HS.out.2 T hT).2))).mono ?_
  rintro e w1 ⟨v1, rfl, ho1, hb1⟩
  obtain ⟨Ao, co, rfl, hol, hom, hof, hoc⟩ := ho1.row.ints
  have hs1 : w.heap.size ≤ w1.heap.size := hb1.size
  have HOS := Lib.hid (show ∃ zs, zs = asc (ownersOf ts) from ⟨_, rfl⟩)
  have HOB := Lib.hid (show ∀ b o', Ao = some ⟨b, o', none⟩ → 0 < (asc (ownersOf ts)).length → w.heap.size ≤ b ∧ b < w1.heap.size from by
    intro b o' e h0
    subst e
    obtain ⟨us', hraw⟩ := ho1.raw
    have := hraw.lt b rfl
    omega)
  have HOC := Lib.hid hoc
  have HBW := Lib.hid hb1
  unfold maxLen at hom
  clear ho1 hb1 hoc y2
  gi_wp2
  have HCAP := Lib.hid (show CapO w1 n p2 p3 p4 p5 p6 st from HC.out.below HBW.out)
  generalize hzs : asc (ownersOf ts) = zs at *
  have HZS := Lib.hid hzs
  have hzl : zs.length ≤ 9223372036854775807 := by omega
  clear hzs HOS HC
  gi_loopw [15] (fun i wr => ∃ k : Nat, k ≤ zs.length ∧ i = .int .i64 k ∧ CapO wr n p2 p3 p4 p5 p6 (eachO ts us st k) ∧ Bes w1 wr p3 p4) (fun i _ => zs.length - (intOf i).toNat)
  case atStart => exact ⟨0, Nat.zero_le _, rfl, HCAP.out, Bes.refl _ _ _⟩
  case round =>
    obtain ⟨k, hk, rfl, hcap, hbes⟩ := hrel
    have HK := Lib.hid hcap
    have HE := Lib.hid hbes
    clear hcap hbes
    rcases Nat.lt_or_ge k zs.length with hlt | hge
    · obtain ⟨b, o, rfl, hcell⟩ := HOC.out (by omega)
      have hb := HOB.out b o rfl (by omega)
      have y := (World.cell?_of_block (HE.out.blk b hb.2 (by omega) (by omega))).trans (hcell k hlt)
      have hi0 : (0 : Int) ≤ (k : Int) := by omega
      have hi1 : (k : Int) < (zs.length : Int) := by omega
      have HSU := Lib.hid (show eachO ts us st (k + 1) = stepO ts us (eachO ts us st k) zs[k] by
        have h0 := HZS.out; subst h0; exact eachO_succ ts us st k hlt)
      clear hcell
      generalize zs[k] = x at *
      generalize hst : eachO ts us st k = sk at *
      clear hst
      obtain ⟨pn, fd⟩ := sk
      have z2 := HK.out.c2
      have z5 := HK.out.c5
      have z6 := HK.out.c6
      have z3 := (cellrow HK.out.b3 0 (by simp)).1
      have z4 := (cellrow HK.out.b4 0 (by simp)).1
      have l1 := HE.out.size
      have HTR := Lib.hid (show SRow tblK (Lt n) wr.drew (.slice A1 ts.length c1) ts from HT.out.low fun k hk => (HE.out.blk k (by have := HC0.out; omega) (by have := HC0.out; omega) (by have := HC0.out; omega)).trans (HBW.out.block k (by have := HC0.out; omega)))
      have HUR := Lib.hid (show SRow tblK (Lt n) wr.drew (.slice A3 us.length c3) us from HU.out.low fun k hk => (HE.out.blk k (by have := HC0.out; omega) (by have := HC0.out; omega) (by have := HC0.out; omega)).trans (HBW.out.block k (by have := HC0.out; omega)))
      have x5 : ∀ X : SameAt wr (fun k => k < wr.heap.size), X.W.cell? ⟨p5, 0, none⟩ = _ := fun X => X.cell (by omega) z5
      have x6 : ∀ X : SameAt wr (fun k => k < wr.heap.size), X.W.cell? ⟨p6, 0, none⟩ = _ := fun X => X.cell (by omega) z6
      have x4 : ∀ X : SameAt wr (fun k => k < wr.heap.size), X.W.cell? ⟨p4, 0, none⟩ = _ := fun X => X.cell (by omega) z4
      have hmx : Tryz.prog.follows .mixedOrders = true := by kernel_rfl
      have hn34 : p3 ≠ p4 := HK.out.ne.2.2.2.2.2.2
      have l3 : p3 < wr.heap.size := by omega
      have l4 : p4 < wr.heap.size := by omega
      cases fd with
      | false =>
        gi_wp2
        refine wpIn_stage (IsSame wr (fun k => k < wr.heap.size)) [3, 4, 8, 9, 10, 11, 13] [] hmx (by kernel_rfl) (isSame_of fun _ _ => rfl) ?_
        refine stage_one 0 (by kernel_rfl) rfl ?_
        gi_wp2
        refine stage_post (isSame_of fun _ _ => rfl) ?_
        refine stage_one 1 (by kernel_rfl) rfl ?_
        gi_wp2
        refine stage_post (isSame_of fun _ _ => rfl) ?_
        refine stage_one 2 (by kernel_rfl) rfl ?_
        gi_wp2
        refine stage_post (isSame_of fun _ _ => rfl) ?_
        change wpStage _ _ _ _ _ _ _ _ (11 + 2) _ _ _
        refine stage_reads [3, 4] 11 _ _ (by kernel_rfl) ?_
        change wpQuietIn _ _ _ _ (fun W => ∃ x : SameAt wr (fun k => k < wr.heap.size), W = x.W) _ _ _
        simp only [pick_cons, pick_nil, List.getElem?_cons_zero, List.getElem?_cons_succ, Option.elim_some]
        repeat (gi_big_quiet_step (fail))
        refine wpQuietIn_nil ?_
        refine stage_one 5 (by kernel_rfl) rfl ?_
        gi_wp2
        refine stage_post (isSame_of fun _ _ => rfl) ?_
        refine stage_one 6 (by kernel_rfl) rfl ?_
        gi_wp2
        refine stage_post (isSame_of fun _ _ => rfl) ?_
        refine stage_one 7 (by kernel_rfl) rfl ?_
        gi_wp2
        refine stage_post (isSame_of fun _ _ => rfl) ?_
        change wpStage _ _ _ _ _ _ _ _ (3 + 5) _ _ _
        refine stage_reads [8, 9, 10, 11, 13] 3 _ _ (by kernel_rfl) ?_
        change wpQuietIn _ _ _ _ (fun W => ∃ x : SameAt wr (fun k => k < wr.heap.size), W = x.W) _ _ _
        simp only [pick_cons, pick_nil, List.getElem?_cons_zero, List.getElem?_cons_succ, Option.elim_some]
        repeat (gi_big_quiet_step (fail))
        refine wpQuietIn_nil ?_
        refine stage_one 12 (by kernel_rfl) rfl ?_
        gi_wp2_with (refine ⟨trivial, ?_⟩; gi_at_call 33; refine (callsIn_wide.2 (withoutOf_any (Lt n) _ ts x _ HTR.out (fun T hT => (HS.out.2 T hT).1) (by have := HS.out.1; omega))).mono ?_; rintro e wc ⟨u6, rfl, hu6, hb6⟩; obtain ⟨A6, c6, e6, _, _⟩ := hu6.slice; rw [List.length_map] at e6; subst e6; have HU6 := Lib.hid hu6.any; have HB6 := Lib.hid hb6; have HB6d := Lib.hid (show Below wr.heap.size wr wc from ⟨hb6.os, hb6.tape, hb6.output, hb6.size, hb6.block⟩); clear hu6 hb6)
        refine stage_post (isSame_below HB6d.out (fun _ h => h)) ?_
        refine stage_one 14 (by kernel_rfl) rfl ?_
        gi_wp2_with (refine ⟨trivial, ?_⟩; gi_at_call 34; refine (callsIn_wide.2 (sameBase_any Any (Lt n) _ _ (withoutB ts x) us _ HU6.out (HUR.out.below HB6.out))).mono ?_; rintro e wd ⟨rfl, hb7⟩; have HB7 := Lib.hid hb7; clear hb7)
        refine stage_post (isSame_below (HB6d.out.trans (HB7.out.mono HB6d.out.size)) (fun _ h => h)) ?_
        refine stage_one 15 (by kernel_rfl) rfl ?_
        gi_wp2
        refine stage_post (isSame_below (HB6d.out.trans (HB7.out.mono HB6d.out.size)) (fun _ h => h)) ?_
        refine stage_done (by kernel_rfl) ?_
        have HBd := Lib.hid (show Below wr.heap.size wr wd from HB6d.out.trans (HB7.out.mono HB6d.out.size))
        have HKd := Lib.hid (HK.out.below HBd.out)
        obtain ⟨d3, f3⟩ := cellrow HKd.out.b3 0 (by simp)
        obtain ⟨d4, f4⟩ := cellrow HKd.out.b4 0 (by simp)
        have ld3 : p3 < wd.heap.size := by have := HBd.out.size; omega
        have ld4 : p4 < wd.heap.size := by have := HBd.out.size; omega
        cases hE : eqB (withoutB ts x) us with
        | true =>
          gi_wp2
          go_roundw
          case rel =>
            refine ⟨k + 1, by omega, by go_num, ?_, (HE.out.trans (Bes.of_below HBd.out)).trans (Bes.setq.trans Bes.setp)⟩
            rw [HSU.out, show stepO ts us (pn, false) x = (x, true) from by unfold stepO; simp [hE, Bool.not_false]]
            exact HKd.out.put x
          case measure => simp [intOf]; omega
        | false =>
          gi_wp2
          go_roundw
          case rel =>
            refine ⟨k + 1, by omega, by go_num, ?_, HE.out.trans (Bes.of_below HBd.out)⟩
            rw [HSU.out, show stepO ts us (pn, false) x = (pn, false) from by unfold stepO; simp [hE]]
            exact HKd.out
          case measure => simp [intOf]; omega
      | true =>
        by_cases hxp : x < pn
        · gi_wp2
          refine wpIn_stage (IsSame wr (fun k => k < wr.heap.size)) [3, 4, 8, 9, 10, 11, 13] [] hmx (by kernel_rfl) (isSame_of fun _ _ => rfl) ?_
          refine stage_one 0 (by kernel_rfl) rfl ?_
          gi_wp2
          refine stage_post (isSame_of fun _ _ => rfl) ?_
          refine stage_one 1 (by kernel_rfl) rfl ?_
          gi_wp2
          refine stage_post (isSame_of fun _ _ => rfl) ?_
          refine stage_one 2 (by kernel_rfl) rfl ?_
          gi_wp2
          refine stage_post (isSame_of fun _ _ => rfl) ?_
          change wpStage _ _ _ _ _ _ _ _ (11 + 2) _ _ _
          refine stage_reads [3, 4] 11 _ _ (by kernel_rfl) ?_
          change wpQuietIn _ _ _ _ (fun W => ∃ x : SameAt wr (fun k => k < wr.heap.size), W = x.W) _ _ _
          simp only [pick_cons, pick_nil, List.getElem?_cons_zero, List.getElem?_cons_succ, Option.elim_some]
          repeat (gi_big_quiet_step (fail))
          refine wpQuietIn_nil ?_
          refine stage_one 5 (by kernel_rfl) rfl ?_
          gi_wp2
          refine stage_post (isSame_of fun _ _ => rfl) ?_
          refine stage_one 6 (by kernel_rfl) rfl ?_
          gi_wp2
          refine stage_post (isSame_of fun _ _ => rfl) ?_
          refine stage_one 7 (by kernel_rfl) rfl ?_
          gi_wp2
          refine stage_post (isSame_of fun _ _ => rfl) ?_
          change wpStage _ _ _ _ _ _ _ _ (3 + 5) _ _ _
          refine stage_reads [8, 9, 10, 11, 13] 3 _ _ (by kernel_rfl) ?_
          change wpQuietIn _ _ _ _ (fun W => ∃ x : SameAt wr (fun k => k < wr.heap.size), W = x.W) _ _ _
          simp only [pick_cons, pick_nil, List.getElem?_cons_zero, List.getElem?_cons_succ, Option.elim_some]
          repeat (gi_big_quiet_step (fail))
          refine wpQuietIn_nil ?_
          refine stage_one 12 (by kernel_rfl) rfl ?_
          gi_wp2_with (refine ⟨trivial, ?_⟩; gi_at_call 33; refine (callsIn_wide.2 (withoutOf_any (Lt n) _ ts x _ HTR.out (fun T hT => (HS.out.2 T hT).1) (by have := HS.out.1; omega))).mono ?_; rintro e wc ⟨u6, rfl, hu6, hb6⟩; obtain ⟨A6, c6, e6, _, _⟩ := hu6.slice; rw [List.length_map] at e6; subst e6; have HU6 := Lib.hid hu6.any; have HB6 := Lib.hid hb6; have HB6d := Lib.hid (show Below wr.heap.size wr wc from ⟨hb6.os, hb6.tape, hb6.output, hb6.size, hb6.block⟩); clear hu6 hb6)
          refine stage_post (isSame_below HB6d.out (fun _ h => h)) ?_
          refine stage_one 14 (by kernel_rfl) rfl ?_
          gi_wp2_with (refine ⟨trivial, ?_⟩; gi_at_call 34; refine (callsIn_wide.2 (sameBase_any Any (Lt n) _ _ (withoutB ts x) us _ HU6.out (HUR.out.below HB6.out))).mono ?_; rintro e wd ⟨rfl, hb7⟩; have HB7 := Lib.hid hb7; clear hb7)
          refine stage_post (isSame_below (HB6d.out.trans (HB7.out.mono HB6d.out.size)) (fun _ h => h)) ?_
          refine stage_one 15 (by kernel_rfl) rfl ?_
          gi_wp2
          refine stage_post (isSame_below (HB6d.out.trans (HB7.out.mono HB6d.out.size)) (fun _ h => h)) ?_
          refine stage_done (by kernel_rfl) ?_
          have HBd := Lib.hid (show Below wr.heap.size wr wd from HB6d.out.trans (HB7.out.mono HB6d.out.size))
          have HKd := Lib.hid (HK.out.below HBd.out)
          obtain ⟨d3, f3⟩ := cellrow HKd.out.b3 0 (by simp)
          obtain ⟨d4, f4⟩ := cellrow HKd.out.b4 0 (by simp)
          have ld3 : p3 < wd.heap.size := by have := HBd.out.size; omega
          have ld4 : p4 < wd.heap.size := by have := HBd.out.size; omega
          cases hE : eqB (withoutB ts x) us with
          | true =>
            gi_wp2
            go_roundw
            case rel =>
              refine ⟨k + 1, by omega, by go_num, ?_, (HE.out.trans (Bes.of_below HBd.out)).trans (Bes.setq.trans Bes.setp)⟩
              rw [HSU.out, show stepO ts us (pn, true) x = (x, true) from by unfold stepO; simp [hE, hxp]]
              exact HKd.out.put x
            case measure => simp [intOf]; omega
          | false =>
            gi_wp2
            go_roundw
            case rel =>
              refine ⟨k + 1, by omega, by go_num, ?_, HE.out.trans (Bes.of_below HBd.out)⟩
              rw [HSU.out, show stepO ts us (pn, true) x = (pn, true) from by unfold stepO; simp [hE]]
              exact HKd.out
            case measure => simp [intOf]; omega
        · have hxd : decide (x < pn) = false := by simpa using hxp
          gi_wp2
          refine wpIn_stage (IsSame wr (fun k => k < wr.heap.size)) [3, 4, 8, 9, 10, 11, 13] [] hmx (by kernel_rfl) (isSame_of fun _ _ => rfl) ?_
          refine stage_one 0 (by kernel_rfl) rfl ?_
          gi_wp2
          refine stage_post (isSame_of fun _ _ => rfl) ?_
          refine stage_one 1 (by kernel_rfl) rfl ?_
          gi_wp2
          refine stage_post (isSame_of fun _ _ => rfl) ?_
          refine stage_one 2 (by kernel_rfl) rfl ?_
          gi_wp2
          refine stage_post (isSame_of fun _ _ => rfl) ?_
          change wpStage _ _ _ _ _ _ _ _ (11 + 2) _ _ _
          refine stage_reads [3, 4] 11 _ _ (by kernel_rfl) ?_
          change wpQuietIn _ _ _ _ (fun W => ∃ x : SameAt wr (fun k => k < wr.heap.size), W = x.W) _ _ _
          simp only [pick_cons, pick_nil, List.getElem?_cons_zero, List.getElem?_cons_succ, Option.elim_some]
          repeat (gi_big_quiet_step (fail))
          refine wpQuietIn_nil ?_
          refine stage_one 5 (by kernel_rfl) rfl ?_
          gi_wp2
          refine stage_post (isSame_of fun _ _ => rfl) ?_
          refine stage_one 6 (by kernel_rfl) rfl ?_
          gi_wp2
          refine stage_post (isSame_of fun _ _ => rfl) ?_
          refine stage_one 7 (by kernel_rfl) rfl ?_
          gi_wp2
          refine stage_post (isSame_of fun _ _ => rfl) ?_
          change wpStage _ _ _ _ _ _ _ _ (3 + 5) _ _ _
          refine stage_reads [8, 9, 10, 11, 13] 3 _ _ (by kernel_rfl) ?_
          change wpQuietIn _ _ _ _ (fun W => ∃ x : SameAt wr (fun k => k < wr.heap.size), W = x.W) _ _ _
          simp only [pick_cons, pick_nil, List.getElem?_cons_zero, List.getElem?_cons_succ, Option.elim_some]
          repeat (gi_big_quiet_step (fail))
          refine wpQuietIn_nil ?_
          refine stage_one 12 (by kernel_rfl) rfl ?_
          gi_wp2_with (refine ⟨fun _ h => (by cases h), ?_⟩)
          refine stage_post (isSame_of fun _ _ => rfl) ?_
          refine stage_one 14 (by kernel_rfl) rfl ?_
          gi_wp2_with (refine ⟨fun _ h => (by cases h), ?_⟩)
          refine stage_post (isSame_of fun _ _ => rfl) ?_
          refine stage_one 15 (by kernel_rfl) rfl ?_
          gi_wp2
          refine stage_post (isSame_of fun _ _ => rfl) ?_
          refine stage_done (by kernel_rfl) ?_
          gi_wp2
          go_roundw
          case rel =>
            refine ⟨k + 1, by omega, by go_num, ?_, HE.out.trans ⟨rfl, rfl, rfl, Nat.le_refl _, fun _ _ _ _ => rfl⟩⟩
            rw [HSU.out, show stepO ts us (pn, true) x = (pn, true) from by unfold stepO; simp only [hxd]; simp]
            exact HK.out.below ⟨rfl, rfl, rfl, Nat.le_refl _, fun _ _ => rfl⟩
          case measure => simp [intOf]; omega
    · obtain rfl : k = zs.length := by omega
      gi_wp2
      refine ⟨rfl, _, results_none rfl _ _ _, ?_⟩
      rw [HZS.out]
      exact ⟨rfl, HK.out, (Bes.of_below HBW.out).trans HE.out⟩
end Go.Proofs.YtlocafmglficnaaGreatDoor
