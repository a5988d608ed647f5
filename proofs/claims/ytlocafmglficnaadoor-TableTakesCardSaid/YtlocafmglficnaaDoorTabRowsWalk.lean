/- TableRows: the walk. -/
import Derived.Test.YtlocafmglficnaaDoorTabRowsLaw
namespace Go.Proofs.YtlocafmglficnaaDoor
open Go.RowKit Go.Maps Go.Sort Go.Shelf
def manyN (pub : Bool) (k : Nat) : Int := if pub then 0 else if k = 0 then 0 else 1
structure RI (pub : Bool) (W0 : World) (b : Nat) (cu : Value) (k : Nat) (wr : World) : Prop where
  bx : ∃ v, wr.heap[b]? = some (.cells #[.string bT, .bool pub, .int .i64 (manyN pub k), cu, v] 31 (0, 0)) ∧ OSeq rowK W0.heap.size wr v (rowsN pub k)
  be : Bes W0 wr b b
theorem RI.step {pub : Bool} {W0 wr Wp w1 : World} {b k : Nat} {cu v v' : Value} {us : List Value} {o : Obj} (_hb0 : b < W0.heap.size) (hbes : Bes W0 wr b b) (hrows : OSeq rowK W0.heap.size wr v (rowsN pub k)) {m : Int} (hbx : wr.heap[b]? = some (.cells #[.string bT, .bool pub, .int .i64 m, cu, v] 31 (0, 0)))
    (g : wr.grownBy Wp (some b)) (hbp : Wp.heap[b]? = some (.cells #[.string bT, .bool pub, .int .i64 (manyN pub (k + 1)), cu, v] 31 (0, 0))) (hi : Wp.heap[wr.heap.size]? = some (.cells #[.int .i64 ((k : Int) % 10)] 3 (0, 0)))
    (hus : (Wp.alloc o).ownsRow W0.heap.size 34 2 v k us) (hown : w1.ownsRow W0.heap.size 34 2 v' (k + 1) (us ++ [.int .i64 (rowN pub k).owner, .slice (some ⟨wr.heap.size, 0, none⟩) 1 1])) (hg : (Wp.alloc o).grownBy w1 v.ownBlock) (hk : k ≤ 100000) :
    RI pub W0 b cu (k + 1) (w1.setCell ⟨b, 4, none⟩ v') ∧ w1.cell? ⟨b, 4, none⟩ = some v ∧ w1.frozen? ⟨b, 4, none⟩ = false := by
  have hnot : ∀ E, E ∈ rowK.ty :: rowK.inner → E ≠ 31 := fun E hE e => by
    subst e
    revert hE
    decide
  have hp : OSeq rowK W0.heap.size Wp v (rowsN pub k) := hrows.other (r := b) g fun E hE cu' e => by
    rw [hbx] at e
    simp only [Option.some.injEq, Obj.cells.injEq] at e
    exact hnot E hE e.2.1.symm
  have hsz0 := hbes.size
  have hszg := g.size
  have hbl : b < Wp.heap.size := (Array.getElem?_eq_some_iff.1 hbp).1
  have hO : Own W0.heap.size (Wp.alloc o) 3 wr.heap.size := ⟨hsz0, _, (Below.heap_alloc _ _ _ (Array.getElem?_eq_some_iff.1 hi).1).trans hi⟩
  have hvals : SRow intK (Own W0.heap.size (Wp.alloc o)) (Wp.alloc o) (.slice (some ⟨wr.heap.size, 0, none⟩) 1 1) [(k : Int) % 10] :=
    SRow.block (K := intK) (xs := [(k : Int) % 10]) [[.int .i64 ((k : Int) % 10)]] ((Below.heap_alloc _ _ _ (Array.getElem?_eq_some_iff.1 hi).1).trans hi) hO rfl rfl (fun j x hj => by
      match j with
      | 0 =>
        cases hj
        exact ⟨_, rfl, rfl, by unfold Fit; omega⟩
      | j + 1 => simp at hj) (by unfold maxLen; simp)
  have hpa := hp.later (below_alloc Wp o)
  have hf : Fit (rowN pub k).owner := by
    cases pub
    · simp [rowN, Fit]; omega
    · simp [rowN, Fit]
  have hnew : OSeq rowK W0.heap.size w1 v' (rowsN pub k ++ [rowN pub k]) := hpa.app2 (by decide) ⟨_, rfl, hvals, hf⟩ (by rw [rowsN_length]; exact hus) (by rw [rowsN_length]; exact hown) hg
  have hne : some b ≠ v.ownBlock := fun e => by
    obtain ⟨cur, hc⟩ := owned_block hus e.symm
    rw [Below.heap_alloc _ _ _ hbl, hbp] at hc
    simp only [Option.some.injEq, Obj.cells.injEq] at hc
    exact absurd hc.2.1 (by decide)
  have hb1 : w1.heap[b]? = some (.cells #[.string bT, .bool pub, .int .i64 (manyN pub (k + 1)), cu, v] 31 (0, 0)) := (hg.block b (by simp; omega) hne).trans ((Below.heap_alloc _ _ _ hbl).trans hbp)
  have hsz := hg.size
  simp at hsz
  refine ⟨⟨⟨v', ?_, ?_⟩, ?_⟩, by simp [World.cell?, hb1], by simp [World.frozen?, hb1]⟩
  · rw [heap_setCell_same _ _ _ _ _ _ hb1]; rfl
  · rw [rowsN_succ]
    refine hnew.other (r := b) (grown_set _ _ _ _) fun E hE cu' e => ?_
    rw [hb1] at e
    simp only [Option.some.injEq, Obj.cells.injEq] at e
    exact hnot E hE e.2.1.symm
  · refine ⟨(by show w1.os = _; rw [hg.os]; exact g.os.trans hbes.os), (by show w1.tape = _; rw [hg.tape]; exact g.tape.trans hbes.tape), (by show w1.output = _; rw [hg.output]; exact g.output.trans hbes.out), by simp [World.setCell]; omega, fun j hj h1 _ => ?_⟩
    rw [Below.heap_setCell _ _ _ _ (by exact h1)]
    refine (hg.block j (by simp; omega) fun e => ?_).trans ((Below.heap_alloc _ _ _ (by omega)).trans ((g.block j (by omega) (by simp; exact h1)).trans (hbes.blk j hj h1 h1)))
    have := (hus.lt j e.symm).1
    omega
attribute [local go_sem] Oper.semAt_some
set_option maxRecDepth 100000 in
set_option maxHeartbeats 4000000 in
theorem tableRows_any (n : Int) (pub : Bool) (w : World) (hn : Fit n) (hr : Res w) : Calls Tryd.prog 3 #[.int .i64 n, .bool pub] w fun e w' => e = .returned (.bool true) ∧ Below w.heap.size w w' := by
  have HR := Lib.hid hr
  clear hr
  refine (callsIn_wide (n := 6)).1 ?_
  have h1 : 1 ≤ 6 := by omega
  refine callsIn_of_wp Tryd.func3 rfl trivial ?_ rfl
  simp only [Tryd.ntmps3, List.size_toArray, List.length_cons, List.length_nil, Nat.reduceAdd, Nat.reduceSub, Array.replicate_succ, Array.replicate_zero, List.push_toArray, List.append_toArray, List.nil_append, List.cons_append]
  gi_wp2_with (refine ⟨trivial, ?_⟩; gi_at_call 9; refine (callsIn_wide.2 (pick_any n 21 (by omega) (by omega) hn _)).mono ?_; rintro e w1 ⟨p, rfl, hp0, hp1, rfl⟩)
  have HC0 := Lib.hid (show ((w.alloc (.cells #[.string bC, .int .i64 0, .int .i64 9, .slice none 0 0] 25)).alloc (.cells #[.string bT, .bool pub, .int .i64 0, .slice (some ⟨w.heap.size, 0, none⟩) 1 1, .slice none 0 0] 31)).heap[w.heap.size]? = some (.cells #[.string bC, .int .i64 0, .int .i64 9, .slice none 0 0] 25 (0, 0)) from (heap_alloc_old _ _ (by simp)).trans (heap_alloc_new w _))
  have HC1 := Lib.hid (show ((w.alloc (.cells #[.string bC, .int .i64 0, .int .i64 9, .slice none 0 0] 25)).alloc (.cells #[.string bT, .bool pub, .int .i64 0, .slice (some ⟨w.heap.size, 0, none⟩) 1 1, .slice none 0 0] 31)).heap[w.heap.size + 1]? = some (.cells #[.string bT, .bool pub, .int .i64 0, .slice (some ⟨w.heap.size, 0, none⟩) 1 1, .slice none 0 0] 31 (0, 0)) from by
    have := heap_alloc_new (w.alloc (.cells #[.string bC, .int .i64 0, .int .i64 9, .slice none 0 0] 25)) (.cells #[.string bT, .bool pub, .int .i64 0, .slice (some ⟨w.heap.size, 0, none⟩) 1 1, .slice none 0 0] 31)
    simpa using this)
  have HB0 := Lib.hid (show Below w.heap.size w ((w.alloc (.cells #[.string bC, .int .i64 0, .int .i64 9, .slice none 0 0] 25)).alloc (.cells #[.string bT, .bool pub, .int .i64 0, .slice (some ⟨w.heap.size, 0, none⟩) 1 1, .slice none 0 0] 31)) by go_grown)
  have hsz0 : ((w.alloc (.cells #[.string bC, .int .i64 0, .int .i64 9, .slice none 0 0] 25)).alloc (.cells #[.string bT, .bool pub, .int .i64 0, .slice (some ⟨w.heap.size, 0, none⟩) 1 1, .slice none 0 0] 31)).heap.size = w.heap.size + 1 + 1 := by simp
  have HST := Lib.hid (show RI pub ((w.alloc (.cells #[.string bC, .int .i64 0, .int .i64 9, .slice none 0 0] 25)).alloc (.cells #[.string bT, .bool pub, .int .i64 0, .slice (some ⟨w.heap.size, 0, none⟩) 1 1, .slice none 0 0] 31)) (w.heap.size + 1) (.slice (some ⟨w.heap.size, 0, none⟩) 1 1) 0 ((w.alloc (.cells #[.string bC, .int .i64 0, .int .i64 9, .slice none 0 0] 25)).alloc (.cells #[.string bT, .bool pub, .int .i64 0, .slice (some ⟨w.heap.size, 0, none⟩) 1 1, .slice none 0 0] 31)) from ⟨⟨_, by rw [show manyN pub 0 = 0 by cases pub <;> rfl]; exact HC1.out, OSeq.nil _ _ _⟩, Bes.refl _ _ _⟩)
  change Code.wpIn _ _ _ _ _ _ ((w.alloc (.cells #[.string bC, .int .i64 0, .int .i64 9, .slice none 0 0] 25)).alloc (.cells #[.string bT, .bool pub, .int .i64 0, .slice (some ⟨w.heap.size, 0, none⟩) 1 1, .slice none 0 0] 31))
  generalize ((w.alloc (.cells #[.string bC, .int .i64 0, .int .i64 9, .slice none 0 0] 25)).alloc (.cells #[.string bT, .bool pub, .int .i64 0, .slice (some ⟨w.heap.size, 0, none⟩) 1 1, .slice none 0 0] 31)) = W0 at *
  obtain ⟨N, hN⟩ : ∃ N : Nat, 1990 + p = (N : Int) := ⟨(1990 + p).toNat, by omega⟩
  have hNl : N ≤ 2010 := by omega
  rw [hN]
  have hb1 : w.heap.size + 1 + 1 ≤ W0.heap.size := by omega
  generalize hbe : w.heap.size + 1 = b at *
  have HBE0 := Lib.hid hbe
  clear hbe
  gi_loopw [6] (fun i wr => ∃ k : Nat, k ≤ N ∧ i = .int .i64 k ∧ RI pub W0 b (.slice (some ⟨w.heap.size, 0, none⟩) 1 1) k wr) (fun i _ => N - (intOf i).toNat)
  case atStart => exact ⟨0, Nat.zero_le _, rfl, HST.out⟩
  case round =>
    obtain ⟨k, hk, rfl, ⟨v, hbx, hrows⟩, hbes⟩ := hrel
    have HBX := Lib.hid hbx
    have HRO := Lib.hid hrows
    have HBE := Lib.hid hbes
    obtain ⟨us, hraw⟩ := hrows.raw
    rw [rowsN_length] at hraw
    obtain ⟨Av, cv, rfl⟩ := slice_of hraw
    have hsw := hbes.size
    have hbl : b < wr.heap.size := by omega
    obtain ⟨b2, b2f⟩ := cellrow hbx 2 (by simp)
    obtain ⟨b4, b4f⟩ := cellrow hbx 4 (by simp)
    have hi0 : (0 : Int) ≤ (k : Int) := by omega
    clear hbx hrows hbes
    rcases Nat.lt_or_ge k N with hlt | hge
    · have hi1 : (k : Int) < (N : Int) := by omega
      obtain ⟨i0, hi3, hz0, hz1, hz2⟩ := info34p
      cases pub with
      | true =>
        have HUS := Lib.hid (((hraw.alloc (.cells #[.int .i64 ((k : Int) % 10)] 3)).alloc (.cells #[.int .i64 0, .slice (some ⟨wr.heap.size, 0, none⟩) 1 1] 34)).alloc (.cells #[.int .i64 0, .slice (some ⟨wr.heap.size, 0, none⟩) 1 1] 34))
        have HNW := Lib.hid (show ∀ (j : Nat) (u : Value), [.int .i64 0, .slice (some ⟨wr.heap.size, 0, none⟩) 1 1][j]? = some u → (((wr.alloc (.cells #[.int .i64 ((k : Int) % 10)] 3)).alloc (.cells #[.int .i64 0, .slice (some ⟨wr.heap.size, 0, none⟩) 1 1] 34)).alloc (.cells #[.int .i64 0, .slice (some ⟨wr.heap.size, 0, none⟩) 1 1] 34)).cell? ((⟨wr.heap.size + 1 + 1, 0, none⟩ : Addr).add j) = some u by simpa using two_new ((wr.alloc (.cells #[.int .i64 ((k : Int) % 10)] 3)).alloc (.cells #[.int .i64 0, .slice (some ⟨wr.heap.size, 0, none⟩) 1 1] 34)) (.int .i64 0) (.slice (some ⟨wr.heap.size, 0, none⟩) 1 1) 34)
        have HG := Lib.hid (grown_of_below (show Below wr.heap.size wr ((wr.alloc (.cells #[.int .i64 ((k : Int) % 10)] 3)).alloc (.cells #[.int .i64 0, .slice (some ⟨wr.heap.size, 0, none⟩) 1 1] 34)) by go_grown) (some b))
        have HBP := Lib.hid ((show ((wr.alloc (.cells #[.int .i64 ((k : Int) % 10)] 3)).alloc (.cells #[.int .i64 0, .slice (some ⟨wr.heap.size, 0, none⟩) 1 1] 34)).heap[b]? = wr.heap[b]? from (heap_alloc_old _ _ (by simp; omega)).trans (heap_alloc_old _ _ hbl)).trans HBX.out)
        have HI := Lib.hid (show ((wr.alloc (.cells #[.int .i64 ((k : Int) % 10)] 3)).alloc (.cells #[.int .i64 0, .slice (some ⟨wr.heap.size, 0, none⟩) 1 1] 34)).heap[wr.heap.size]? = some (.cells #[.int .i64 ((k : Int) % 10)] 3 (0, 0)) from (heap_alloc_old _ _ (by simp)).trans (heap_alloc_new _ _))
        gi_wp2_with (gi_at_builtin; refine wpListIn_append_own _ rfl _ _ 29 rfl W0.heap.size 34 i0 _ 2 32 Tryd.underlying29 hi3 hz0 hz1 hz2 rfl (by decide) _ _ us rfl HUS.out ⟨wr.heap.size + 1 + 1, 0, none⟩ 1 1 [.int .i64 (rowN true k).owner, .slice (some ⟨wr.heap.size, 0, none⟩) 1 1] rfl rfl HNW.out (by simp [Value.oneCell']) (by unfold maxLen; omega) (by omega) (by simp; omega) ?_; intro v1 w6 hown1 hgrow1 _; obtain ⟨Av1, cv1, rfl⟩ := slice_of hown1; obtain ⟨hst, hc6, hf6⟩ := RI.step (k := k) (by omega) HBE.out HRO.out HBX.out HG.out HBP.out HI.out HUS.out hown1 hgrow1 (by omega); have HST2 := Lib.hid hst; clear hst)
        go_roundw
        case rel => exact ⟨k + 1, by omega, by go_num, HST2.out⟩
        case measure => simp [intOf]; omega
      | false =>
        have hneb : (Value.slice Av k cv).ownBlock ≠ some b := fun e => by
          obtain ⟨cur, hc⟩ := owned_block hraw e
          rw [HBX.out] at hc
          simp only [Option.some.injEq, Obj.cells.injEq] at hc
          exact absurd hc.2.1 (by decide)
        have hsz2 : (wr.setCell ⟨b, 2, none⟩ (.int .i64 1)).heap.size = wr.heap.size := by simp [World.setCell]
        have hraw2 := hraw.kept (grown_set wr b 2 (.int .i64 1)) (.inr hneb)
        have HUS := Lib.hid (((hraw2.alloc (.cells #[.int .i64 ((k : Int) % 10)] 3)).alloc (.cells #[.int .i64 ((k : Int) + 1), .slice (some ⟨wr.heap.size, 0, none⟩) 1 1] 34)).alloc (.cells #[.int .i64 ((k : Int) + 1), .slice (some ⟨wr.heap.size, 0, none⟩) 1 1] 34))
        have HNW := Lib.hid (show ∀ (j : Nat) (u : Value), [.int .i64 ((k : Int) + 1), .slice (some ⟨wr.heap.size, 0, none⟩) 1 1][j]? = some u → ((((wr.setCell ⟨b, 2, none⟩ (.int .i64 1)).alloc (.cells #[.int .i64 ((k : Int) % 10)] 3)).alloc (.cells #[.int .i64 ((k : Int) + 1), .slice (some ⟨wr.heap.size, 0, none⟩) 1 1] 34)).alloc (.cells #[.int .i64 ((k : Int) + 1), .slice (some ⟨wr.heap.size, 0, none⟩) 1 1] 34)).cell? ((⟨wr.heap.size + 1 + 1, 0, none⟩ : Addr).add j) = some u by simpa [hsz2] using two_new (((wr.setCell ⟨b, 2, none⟩ (.int .i64 1)).alloc (.cells #[.int .i64 ((k : Int) % 10)] 3)).alloc (.cells #[.int .i64 ((k : Int) + 1), .slice (some ⟨wr.heap.size, 0, none⟩) 1 1] 34)) (.int .i64 ((k : Int) + 1)) (.slice (some ⟨wr.heap.size, 0, none⟩) 1 1) 34)
        have HBP := Lib.hid (show (((wr.setCell ⟨b, 2, none⟩ (.int .i64 1)).alloc (.cells #[.int .i64 ((k : Int) % 10)] 3)).alloc (.cells #[.int .i64 ((k : Int) + 1), .slice (some ⟨wr.heap.size, 0, none⟩) 1 1] 34)).heap[b]? = some (.cells #[.string bT, .bool false, .int .i64 (manyN false (k + 1)), .slice (some ⟨w.heap.size, 0, none⟩) 1 1, .slice Av k cv] 31 (0, 0)) from by
          rw [heap_alloc_old _ _ (by simp [hsz2]; omega), heap_alloc_old _ _ (by rw [hsz2]; exact hbl), heap_setCell_same _ _ _ _ _ _ HBX.out]
          simp [manyN])
        have HG := Lib.hid (show wr.grownBy (((wr.setCell ⟨b, 2, none⟩ (.int .i64 1)).alloc (.cells #[.int .i64 ((k : Int) % 10)] 3)).alloc (.cells #[.int .i64 ((k : Int) + 1), .slice (some ⟨wr.heap.size, 0, none⟩) 1 1] 34)) (some b) from ((grown_set wr b 2 (.int .i64 1)).trans (World.grownBy_alloc _ _ _)).trans (World.grownBy_alloc _ _ _))
        have HI := Lib.hid (show (((wr.setCell ⟨b, 2, none⟩ (.int .i64 1)).alloc (.cells #[.int .i64 ((k : Int) % 10)] 3)).alloc (.cells #[.int .i64 ((k : Int) + 1), .slice (some ⟨wr.heap.size, 0, none⟩) 1 1] 34)).heap[wr.heap.size]? = some (.cells #[.int .i64 ((k : Int) % 10)] 3 (0, 0)) from (heap_alloc_old _ _ (by simp [hsz2])).trans (by have := heap_alloc_new (wr.setCell ⟨b, 2, none⟩ (.int .i64 1)) (.cells #[.int .i64 ((k : Int) % 10)] 3); rw [hsz2] at this; exact this))
        clear hraw2
        gi_wp2_with (gi_at_builtin; refine wpListIn_append_own _ rfl _ _ 29 rfl W0.heap.size 34 i0 _ 2 32 Tryd.underlying29 hi3 hz0 hz1 hz2 rfl (by decide) _ _ us rfl HUS.out ⟨wr.heap.size + 1 + 1, 0, none⟩ 1 1 [.int .i64 (rowN false k).owner, .slice (some ⟨wr.heap.size, 0, none⟩) 1 1] rfl rfl HNW.out (by simp [Value.oneCell']) (by unfold maxLen; omega) (by omega) (by simp; omega) ?_; intro v1 w6 hown1 hgrow1 _; obtain ⟨Av1, cv1, rfl⟩ := slice_of hown1; obtain ⟨hst, hc6, hf6⟩ := RI.step (k := k) (by omega) HBE.out HRO.out HBX.out HG.out HBP.out HI.out HUS.out hown1 hgrow1 (by omega); have HST2 := Lib.hid hst; clear hst)
        go_roundw
        case rel => exact ⟨k + 1, by omega, by go_num, HST2.out⟩
        case measure => simp [intOf]; omega
    · have hi1 : ¬ (k : Int) < (N : Int) := by omega
      obtain rfl : k = N := by omega
      have c0 := (cellrow HBX.out 0 (by simp)).1
      have c1 := (cellrow HBX.out 1 (by simp)).1
      have c3 := (cellrow HBX.out 3 (by simp)).1
      have hbe := HBE0.out
      have hmany : manyN pub k = (if pub then 0 else 1) := by
        cases pub
        · simp [manyN]; omega
        · simp [manyN]
      have hcolb := (HBE.out.blk w.heap.size (by omega) (by omega) (by omega)).trans HC0.out
      have hcols : SRow colK Any wr (.slice (some ⟨w.heap.size, 0, none⟩) 1 1) [⟨bC, 0, 9, []⟩] := SRow.block (K := colK) (xs := [⟨bC, 0, 9, []⟩]) [[.string bC, .int .i64 0, .int .i64 9, .slice none 0 0]] hcolb trivial rfl rfl (fun j x hj => by
        match j with
        | 0 => cases hj; exact ⟨_, rfl, _, rfl, SRow.nil _ _ _, by decide, by unfold Fit; dsimp only; omega, by unfold Fit; dsimp only; omega⟩
        | j + 1 => simp at hj) (by unfold maxLen; simp)
      have HTV := Lib.hid (show TblVal Any wr (.agg #[.string bT, .bool pub, .int .i64 (manyN pub k), .slice (some ⟨w.heap.size, 0, none⟩) 1 1, .slice Av k cv]) (tblN pub k) from
        ⟨_, _, by rw [hmany]; rfl, hcols, HRO.out.row.mono (fun _ _ _ => trivial), (show bT.size ≤ maxLen by decide), by cases pub <;> simp [tblN, schN, Fit]⟩)
      have HBF := Lib.hid (show Below w.heap.size w wr from ⟨HBE.out.os.trans HB0.out.os, HBE.out.tape.trans HB0.out.tape, HBE.out.out.trans HB0.out.output, by have := HBE.out.size; omega, fun j hj => (HBE.out.blk j (by omega) (by omega) (by omega)).trans (HB0.out.block j hj)⟩)
      have HRW := Lib.hid (HR.out.later HBF.out)
      have HTE := Lib.hid (tblErr_N pub k (by omega))
      clear hbe hmany hcolb hcols
      by_cases hbig : 2000 < k
      · have hbig' : (2000 : Int) < (k : Int) := by omega
        gi_wp2_with (refine ⟨trivial, ?_⟩; gi_at_call 10; refine (callsIn_wide.2 (tcheck_any Any _ (tblN pub k) _ HTV.out HRW.out)).mono ?_; rintro e w8 ⟨rfl, hb8⟩; rw [HTE.out, if_pos hbig]; have HB8 := Lib.hid (HBF.out.trans (hb8.mono HBF.out.size)); clear hb8)
        gi_wp2_with (refine ⟨trivial, ?_⟩; gi_at_call 11; refine (callsIn_wide.2 (awake_any _ (HR.out.later HB8.out))).mono ?_; rintro e w9 ⟨rfl, hb9⟩)
        refine bodyPost_ret (results_tmp rfl _ _ _) rfl ?_
        exact ⟨rfl, HB8.out.trans (hb9.mono HB8.out.size)⟩
      · have hbig' : ¬ (2000 : Int) < (k : Int) := by omega
        gi_wp2_with (refine ⟨trivial, ?_⟩; gi_at_call 10; refine (callsIn_wide.2 (tcheck_any Any _ (tblN pub k) _ HTV.out HRW.out)).mono ?_; rintro e w8 ⟨rfl, hb8⟩; rw [HTE.out, if_neg hbig]; have HB8 := Lib.hid (HBF.out.trans (hb8.mono HBF.out.size)); clear hb8)
        gi_wp2_with (refine ⟨trivial, ?_⟩; gi_at_call 11; refine (callsIn_wide.2 (awake_any _ (HR.out.later HB8.out))).mono ?_; rintro e w9 ⟨rfl, hb9⟩)
        refine bodyPost_ret (results_tmp rfl _ _ _) rfl ?_
        exact ⟨rfl, HB8.out.trans (hb9.mono HB8.out.size)⟩
end Go.Proofs.YtlocafmglficnaaDoor
