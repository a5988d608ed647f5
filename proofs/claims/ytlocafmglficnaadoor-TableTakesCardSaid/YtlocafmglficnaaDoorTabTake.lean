/- Pick, and the Taker that hands out numbers. -/
import Derived.Test.YtlocafmglficnaaDoorTabBox
import Derived.Test.YtlocafmglficnaaDoorTabRowsLaw
import Derived.Test.YtlocafmglficnaaDoorTabRefT
namespace Go.Proofs.YtlocafmglficnaaDoor
open Go.RowKit Go.Maps Go.Sort Go.Shelf

theorem tmod_emod (x n : Int) (hn : 0 < n) : (x.tmod n < 0 → x.tmod n + n = x % n) ∧ (¬ x.tmod n < 0 → x.tmod n = x % n) := by
  have e1 := Int.tmod_add_mul_tdiv x n
  have h1 : x.tmod n < n := Int.tmod_lt_of_pos _ hn
  have h2 : -n < x.tmod n := by have := Int.lt_tmod_of_pos x hn; omega
  have h3 : x % n = x.tmod n % n := by
    conv => lhs; rw [← e1]
    rw [Int.add_mul_emod_self_left]
  refine ⟨fun h => ?_, fun h => ?_⟩
  · rw [h3, ← Int.add_emod_right, Int.emod_eq_of_lt (by omega) (by omega)]
  · rw [h3, Int.emod_eq_of_lt (by omega) (by omega)]
theorem pickE_any (x n : Int) (w : World) (hn : 0 < n) (hn2 : n ≤ 1000000) (hx : Fit x) : Calls Tryd.prog 9 #[.int .i64 x, .int .i64 n] w fun e w' => e = .returned (.int .i64 (x % n)) ∧ w = w' := by
  obtain ⟨hn1, hn2⟩ := hx
  have hr1 : x.tmod n < n := Int.tmod_lt_of_pos _ hn
  have hr2 : -n < x.tmod n := by have := Int.lt_tmod_of_pos x hn; omega
  have hm0 : n ≠ 0 := by omega
  have HE := Lib.hid (tmod_emod x n hn)
  by_cases h : x.tmod n < 0
  · go_enter Tryd.func9, Tryd.ntmps9
    go_wp2
    go_ret
    exact ⟨by rw [HE.out.1 h]; rfl, rfl⟩
  · go_enter Tryd.func9, Tryd.ntmps9
    go_wp2
    go_ret
    exact ⟨by rw [HE.out.2 h]; rfl, rfl⟩
/-- What the Taker gives next, below n, and where it stands then. -/
def tkV (l : List Int) (a : Nat) (n : Int) : Int := if l.length ≤ a ∨ n < 1 then 0 else (l[a]?.getD 0) % n
def tkA (l : List Int) (a : Nat) (n : Int) : Nat := if l.length ≤ a ∨ n < 1 then a else a + 1
theorem tkV_lt (l : List Int) (a : Nat) {n : Int} (hn : 0 < n) : 0 ≤ tkV l a n ∧ tkV l a n < n := by
  unfold tkV
  split
  · omega
  · exact ⟨Int.emod_nonneg _ (by omega), Int.emod_lt_of_pos _ hn⟩
theorem tkA_le (l : List Int) (a : Nat) (n : Int) (h : a ≤ l.length) : tkA l a n ≤ l.length := by
  unfold tkA
  split
  · exact h
  · omega
/-- The Taker in block p: the list, and where it stands. -/
structure TkrAt (w : World) (p : Nat) (v : Value) (l : List Int) (a : Nat) : Prop where
  bx : w.heap[p]? = some (.cells #[v, .int .i64 a] 87 (0, 0))
  row : SRow intK (Lt p) w v l
  le : a ≤ l.length
attribute [local go_sem] Oper.semAt_some
set_option maxRecDepth 100000 in
set_option maxHeartbeats 4000000 in
theorem take_any (p : Nat) (v : Value) (l : List Int) (a : Nat) (n : Int) (w : World) (h : TkrAt w p v l a) (hn : n ≤ 1000000) (hn0 : -1000000 ≤ n) :
    Calls Tryd.prog 54 #[.pointer (some ⟨p, 0, none⟩), .int .i64 n] w fun e w' => e = .returned (.int .i64 (tkV l a n)) ∧ TkrAt w' p v l (tkA l a n) ∧ w.grownBy w' (some p) := by
  obtain ⟨A, c, rfl, hl, hm, hf, hc⟩ := h.row.ints
  unfold maxLen at hm
  have HT := Lib.hid h
  have HBP := Lib.hid (show ∀ b o, A = some ⟨b, o, none⟩ → 0 < l.length → b < p from fun b o e h0 => by
    obtain ⟨A', c', e1, _, _, h3⟩ := h.row
    simp only [Value.slice.injEq, true_and] at e1
    obtain ⟨b', o', e2, hC, _⟩ := h3 h0
    rw [← e1.1, e] at e2
    simp only [Option.some.injEq, Addr.mk.injEq] at e2
    have : b' < p := hC
    omega)
  have hle := h.le
  have hpl : p < w.heap.size := (Array.getElem?_eq_some_iff.1 h.bx).1
  obtain ⟨y0, _⟩ := cellrow h.bx 0 (by simp)
  obtain ⟨y1, f1⟩ := cellrow h.bx 1 (by simp)
  have y0 : w.cell? ⟨p, 0, none⟩ = some (.slice A l.length c) := y0
  have y1 : w.cell? ⟨p, 1, none⟩ = some (.int .i64 a) := y1
  have HC := Lib.hid hc
  have HF := Lib.hid hf
  have ha0 : (0 : Int) ≤ (a : Int) := by omega
  have hmx : Tryd.prog.follows .mixedOrders = true := by kernel_rfl
  clear h hc hf
  by_cases hstop : l.length ≤ a ∨ n < 1
  · have HV := Lib.hid (show tkV l a n = 0 ∧ tkA l a n = a from ⟨by unfold tkV; rw [if_pos hstop], by unfold tkA; rw [if_pos hstop]⟩)
    have HG := Lib.hid (show ∀ q, TkrAt (w.drewN q) p (.slice A l.length c) l a ∧ w.grownBy (w.drewN q) (some p) from fun q => ⟨⟨HT.out.bx, HT.out.row.keep fun _ _ _ _ hO => ⟨hO, rfl⟩, HT.out.le⟩, rfl, rfl, rfl, Nat.le_refl _, fun _ _ _ => rfl⟩)
    by_cases hla : l.length ≤ a
    · have hge : decide ((l.length : Int) ≤ (a : Int)) = true := by simpa using (by omega : (l.length : Int) ≤ (a : Int))
      clear hstop
      go_enter Tryd.func54, Tryd.ntmps54
      go_wp2_with fail
      go_quiet (fail)
      go_wp2_with fail
      go_ret
      exact ⟨by rw [HV.out.1]; rfl, by rw [HV.out.2]; exact (HG.out _).1, (HG.out _).2⟩
    · have hn1 : n < 1 := by omega
      have hge : decide ((l.length : Int) ≤ (a : Int)) = false := by simpa using (by omega : (a : Int) < (l.length : Int))
      clear hstop
      go_enter Tryd.func54, Tryd.ntmps54
      go_wp2_with fail
      go_quiet (fail)
      go_wp2_with fail
      go_ret
      exact ⟨by rw [HV.out.1]; rfl, by rw [HV.out.2]; exact (HG.out _).1, (HG.out _).2⟩
  · have hla : a < l.length := by omega
    have hn1 : 1 ≤ n := by omega
    have hge : decide (l.length ≤ a) = false := by simpa using hla
    have HV := Lib.hid (show tkV l a n = (l[a]?.getD 0) % n ∧ tkA l a n = a + 1 from ⟨by unfold tkV; rw [if_neg hstop], by unfold tkA; rw [if_neg hstop]⟩)
    clear hstop
    refine (callsIn_wide (n := 6)).1 ?_
    have h1 : 1 ≤ 6 := by omega
    refine callsIn_of_wp Tryd.func54 rfl trivial ?_ rfl
    simp only [Tryd.ntmps54, List.size_toArray, List.length_cons, List.length_nil, Nat.reduceAdd, Nat.reduceSub, Array.replicate_succ, Array.replicate_zero, List.push_toArray, List.append_toArray, List.nil_append, List.cons_append]
    gi_wp2_with fail
    gi_quiet (fail)
    gi_wp2_with fail
    obtain ⟨b, o, rfl, hcell⟩ := HC.out (by omega)
    have hbp : b < p := HBP.out b o rfl (by omega)
    have hb1 : ((w.drewN nq).setCell ⟨p, 1, none⟩ (.int .i64 ((a : Int) + 1))).heap[p]? = some (.cells #[.slice (some ⟨b, o, none⟩) l.length c, .int .i64 ((a : Int) + 1)] 87 (0, 0)) := heap_setCell_same (w.drewN nq) p 1 _ _ (.int .i64 ((a : Int) + 1)) HT.out.bx
    have hfar : ∀ k, k ≠ p → ((w.drewN nq).setCell ⟨p, 1, none⟩ (.int .i64 ((a : Int) + 1))).heap[k]? = w.heap[k]? := fun k hk => Below.heap_setCell (w.drewN nq) _ _ _ (by exact hk)
    have hgr : w.grownBy ((w.drewN nq).setCell ⟨p, 1, none⟩ (.int .i64 ((a : Int) + 1))) (some p) := ⟨rfl, rfl, rfl, by simp [World.setCell], fun k _ hk => hfar k (fun e => hk (by rw [e]))⟩
    generalize (w.drewN nq).setCell ⟨p, 1, none⟩ (.int .i64 ((a : Int) + 1)) = W1 at *
    have HGR := Lib.hid hgr
    have HB1 := Lib.hid hb1
    have HFA := Lib.hid hfar
    have hla0 : (a : Int) < (l.length : Int) := by omega
    have xv : ∀ X : SameAt W1 (fun k => k ≤ p), X.W.cell? ⟨p, 0, none⟩ = some (.slice (some ⟨b, o, none⟩) l.length c) := fun X => X.cell (Nat.le_refl _) (cellrow hb1 0 (by simp)).1
    have xa : ∀ X : SameAt W1 (fun k => k ≤ p), X.W.cell? ⟨p, 1, none⟩ = some (.int .i64 ((a : Int) + 1)) := fun X => X.cell (Nat.le_refl _) (cellrow hb1 1 (by simp)).1
    have xl : ∀ X : SameAt W1 (fun k => k ≤ p), X.W.cell? ⟨b, o + a, none⟩ = some (.int .i64 l[a]) := fun X => X.cell (Nat.le_of_lt hbp) ((World.cell?_of_block (hfar b (by omega))).trans (hcell a hla))
    have HFL := Lib.hid (HF.out a hla)
    have HLA := Lib.hid (show l[a]?.getD 0 = l[a] by simp [hla])
    clear hgr hb1 hfar hcell y0 y1 f1
    refine wpIn_stage (IsSame W1 (fun k => k ≤ p)) [0, 1, 2, 3, 4, 5, 6, 7, 8, 9, 10, 11] [13] hmx (by kernel_rfl) (isSame_of fun _ _ => rfl) ?_
    change wpStage _ _ _ _ _ _ _ _ (2 + 12) _ _ _
    refine stage_reads [0, 1, 2, 3, 4, 5, 6, 7, 8, 9, 10, 11] 2 _ _ (by kernel_rfl) ?_
    change wpQuietIn _ _ _ _ (fun W => ∃ x : SameAt W1 (fun k => k ≤ p), W = x.W) _ _ _
    simp only [pick_cons, pick_nil, List.getElem?_cons_zero, List.getElem?_cons_succ, Option.elim_some]
    repeat (gi_big_quiet_step (fail))
    refine wpQuietIn_nil ?_
    clear xv xa xl
    refine stage_one 12 (by kernel_rfl) rfl ?_
    gi_wp2_with (refine ⟨trivial, ?_⟩; gi_at_call 9; refine (callsIn_wide.2 (pickE_any l[a] n _ (by omega) hn HFL.out)).mono ?_; rintro e w9 ⟨rfl, rfl⟩)
    refine stage_post (isSame_of fun _ _ => rfl) ?_
    refine stage_one 13 (by kernel_rfl) rfl ?_
    gi_wp2
    refine stage_last rfl ?_
    refine stage_done (by kernel_rfl) ?_
    gi_wp2
    refine bodyPost_ret (results_tmp rfl _ _ _) rfl ?_
    refine ⟨by rw [HV.out.1, HLA.out]; rfl, ?_, HGR.out.os, HGR.out.tape, HGR.out.output, HGR.out.size, HGR.out.block⟩
    rw [HV.out.2]
    exact ⟨HB1.out, HT.out.row.keep fun E k _ _ hO => ⟨hO, (HFA.out k (by have : k < p := hO; omega))⟩, hla⟩
end Go.Proofs.YtlocafmglficnaaDoor
