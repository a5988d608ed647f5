/- Mode: the walk. -/
import Derived.Test.YtopllfkhkglogaaQuant
namespace Go.Proofs.Ytopllfkhkglogaa
open Go.RowKit Go.Shelf

attribute [local go_sem] Oper.semAt_some

theorem sorted_lt : ∀ (s : List Int), s.Pairwise (· ≤ ·) → ∀ (y : Int) (j : Nat), j < s.length → (s[j]?.getD 0 < y ↔ j < s.countP (· < y))
  | [], _, _, _, h => by simp at h
  | a :: t, hs, y, j, hj => by
    rw [List.pairwise_cons] at hs
    by_cases ha : a < y
    · rw [List.countP_cons_of_pos (by simpa using ha)]
      cases j with
      | zero => simpa using ha
      | succ j =>
        have := sorted_lt t hs.2 y j (by simpa using hj)
        simp only [List.getElem?_cons_succ]
        rw [this]
        omega
    · rw [List.countP_cons_of_neg (by simpa using ha)]
      have h0 : t.countP (· < y) = 0 := List.countP_eq_zero.2 fun b hb => by
        have := hs.1 b hb
        simp; omega
      rw [h0]
      simp only [Nat.not_lt_zero, iff_false]
      cases j with
      | zero => simpa using ha
      | succ j =>
        have hj' : j < t.length := by simpa using hj
        simp only [List.getElem?_cons_succ, List.getElem?_eq_getElem hj', Option.getD_some]
        have := hs.1 _ (List.getElem_mem hj')
        omega
theorem cnt_sum (zs : List Int) (x : Int) : cntLt zs x + cntEq zs x = cntLe zs x := by
  unfold cntLt cntEq cntLe
  induction zs with
  | nil => rfl
  | cons a t ih =>
    simp only [List.filter_cons]
    rcases Int.lt_trichotomy a x with h | h | h
    · simp [h, show ¬ a = x by omega, show a ≤ x by omega]; omega
    · subst h; simp; omega
    · simp [show ¬ a < x by omega, show ¬ a = x by omega, show ¬ a ≤ x by omega]; omega
theorem srt_at {zs : List Int} {x : Int} {j : Nat} (hj : j < (srt zs).length) :
    (j < cntLt zs x → (srt zs)[j]?.getD 0 < x) ∧ (cntLt zs x ≤ j → j < cntLe zs x → (srt zs)[j]?.getD 0 = x) ∧ (cntLe zs x ≤ j → x < (srt zs)[j]?.getD 0) := by
  have h1 := sorted_lt _ (srt_sorted zs) x j hj
  have h2 := sorted_lt _ (srt_sorted zs) (x + 1) j hj
  rw [srt_count] at h1 h2
  rw [cntLt_succ] at h2
  refine ⟨fun h => h1.2 h, fun h h' => ?_, fun h => ?_⟩
  · have a := h2.2 h'
    have b : ¬ (srt zs)[j]?.getD 0 < x := fun e => by have := h1.1 e; omega
    omega
  · have b : ¬ (srt zs)[j]?.getD 0 < x + 1 := fun e => by have := h2.1 e; omega
    omega

structure KB2 (b c base : Nat) (W0 W : World) : Prop where
  os : W.os = W0.os
  tape : W.tape = W0.tape
  output : W.output = W0.output
  size : W0.heap.size ≤ W.heap.size
  block : ∀ k, k < base → k ≠ b → k ≠ c → W.heap[k]? = W0.heap[k]?
theorem KB2.refl (b c base : Nat) (W : World) : KB2 b c base W W := ⟨rfl, rfl, rfl, Nat.le_refl _, fun _ _ _ _ => rfl⟩
theorem KB2.trans {b c base : Nat} {A B C : World} (h : KB2 b c base A B) (k : KB2 b c base B C) : KB2 b c base A C :=
  ⟨k.os.trans h.os, k.tape.trans h.tape, k.output.trans h.output, Nat.le_trans h.size k.size, fun i hi h1 h2 => (k.block i hi h1 h2).trans (h.block i hi h1 h2)⟩
theorem KB2.of_kb {b c base : Nat} {A B : World} (h : KB b base A B) : KB2 b c base A B := ⟨h.os, h.tape, h.output, h.size, fun k hk h1 _ => h.block k hk h1⟩
theorem KB2.set {b c base : Nat} {A : World} (v : Value) : KB2 b c base A (A.setCell ⟨c, 0, none⟩ v) := ⟨rfl, rfl, rfl, by simp [World.setCell], fun _ _ _ h => Below.heap_setCell _ _ _ _ h⟩
theorem KB2.boxed {b c base B : Nat} {W0 W : World} {t : TypeId} {v : Value} (h : KB2 b c base W0 W) (hB : Boxed W0 B t v) (hlt : B < base) (h1 : B ≠ b) (h2 : B ≠ c) : Boxed W B t v := (h.block B hlt h1 h2).trans hB
theorem KB2.below {b c base n : Nat} {W0 W : World} (h : KB2 b c base W0 W) (hb : n ≤ b) (hc : n ≤ c) (hn : n ≤ base) : Below n W0 W := ⟨h.os, h.tape, h.output, h.size, fun k hk => h.block k (by omega) (by omega) (by omega)⟩
theorem KB2.iRow {b c base : Nat} {W0 W : World} {v : Value} {zs : List Int} (h : KB2 b c base W0 W) (hr : IRow W0 v zs) (hb : base = W0.heap.size) (hne : ∀ g o l d, v = .slice (some ⟨g, o, none⟩) l d → g ≠ b ∧ g ≠ c) : IRow W v zs := by
  obtain ⟨A, d, rfl, h1, h2, h3⟩ := hr
  refine ⟨A, d, rfl, h1, h2, fun h0 => ?_⟩
  obtain ⟨g, o, rfl, hlt, hc⟩ := h3 h0
  have hg := h.block g (by omega) (hne g o _ _ rfl).1 (hne g o _ _ rfl).2
  refine ⟨g, o, rfl, Nat.lt_of_lt_of_le hlt h.size, fun j x hx => ?_⟩
  have := hc j x hx
  simpa only [World.cell?, hg] using this
theorem KB2.ownFrom {α : Type} (b c base B : Nat) (W0 : World) (hb : base ≤ W0.heap.size) (hB : base ≤ B) : OwnFrom (β := List α) B (fun _ W => KB2 b c base W0 W) := fun s A A' row hs hg hr =>
  ⟨hg.os.trans hs.os, hg.tape.trans hs.tape, hg.output.trans hs.output, Nat.le_trans hs.size hg.size, fun k hk h1 h2 =>
    (hg.block k (by have := hs.size; omega) (fun e => by obtain ⟨h1, _⟩ := hr k e.symm; omega)).trans (hs.block k hk h1 h2)⟩
theorem own_setlow {W : World} {base e n B : Nat} {size : Nat} {v u : Value} {xs : List Value} (h : W.ownsRow base e size v n xs) (hB : B < base) : (W.setCell ⟨B, 0, none⟩ u).ownsRow base e size v n xs := by
  refine h.kept (grownBy_setCell' W B u) ?_
  rcases h.2 with ⟨rfl, _⟩ | ⟨g, cap, cur, rfl, hbase, _⟩
  · exact .inl rfl
  · refine .inr ?_
    simp only [Value.ownBlock, ne_eq, Option.some.injEq]
    omega
theorem boxed_set_far {W : World} {g B : Nat} {t : TypeId} {v u : Value} (h : Boxed W g t v) (hne : g ≠ B) : Boxed (W.setCell ⟨B, 0, none⟩ u) g t v := (Below.heap_setCell _ _ _ _ hne).trans h

set_option maxRecDepth 100000 in
set_option maxHeartbeats 4000000 in
theorem mode_any (v : Value) (zs : List Int) (lo hi : Int) (w : World) (h : IRow w v zs ∨ (100000 < zs.length ∧ ∃ A c, v = .slice A zs.length c)) (hz : zs.length ≤ 1000 ∨ 100000 < zs.length) :
    Calls Try.prog 12 #[v, .int .i64 lo, .int .i64 hi] w (Out w (modeL zs lo (candN lo hi)) (checkE zs lo hi)) := by
  have hv : ∃ A c, v = .slice A zs.length c := by
    rcases h with h | h
    · obtain ⟨A, c, rfl, _⟩ := h; exact ⟨A, c, rfl⟩
    · exact h.2
  obtain ⟨A, c, rfl⟩ := hv
  have HH := Lib.hid h
  refine (callsIn_wide (n := 6)).1 ?_
  have h1 : 1 ≤ 6 := by omega
  refine callsIn_of_wp_marks Try.func12 rfl trivial ?_ rfl
  simp only [Try.ntmps12, List.size_toArray, List.length_cons, List.length_nil, Nat.reduceAdd, Nat.reduceSub, Array.replicate_succ, Array.replicate_zero, List.push_toArray, List.append_toArray, List.nil_append, List.cons_append]
  rcases checkE_cases (zs := zs) (lo := lo) (hi := hi) with ⟨hE, hl, c1, c2, c3, c4⟩ | hE | hE
  rotate_left
  · have HE := Lib.hid hE
    clear hE h
    gi_wp2_with (refine ⟨trivial, ?_⟩; gi_at_call 17; refine (callsIn_wide.2 (check_any _ zs _ _ _ HH.out)).mono ?_; rintro e w' ⟨rfl, rfl⟩; rw [HE.out])
    exact ⟨_, by simp [results, Try.f12, go_sem]; rfl, .slice none 0 0, by rw [HE.out], by rw [HE.out]; exact IRow.nil _, Below.refl _ _⟩
  · have HE := Lib.hid hE
    clear hE h
    gi_wp2_with (refine ⟨trivial, ?_⟩; gi_at_call 17; refine (callsIn_wide.2 (check_any _ zs _ _ _ HH.out)).mono ?_; rintro e w' ⟨rfl, rfl⟩; rw [HE.out])
    exact ⟨_, by simp [results, Try.f12, go_sem]; rfl, .slice none 0 0, by rw [HE.out], by rw [HE.out]; exact IRow.nil _, Below.refl _ _⟩
  have HE := Lib.hid hE
  have hz1 : zs.length ≤ 1000 := by omega
  have hI : IRow w (.slice A zs.length c) zs := by
    rcases h with h | h
    · exact h
    · omega
  have HI := Lib.hid hI
  clear hE h hI hz
  gi_wp2_with (first
    | (refine ⟨trivial, ?_⟩; gi_at_call 17; refine (callsIn_wide.2 (check_any _ zs _ _ _ HH.out)).mono ?_; rintro e wB ⟨rfl, rfl⟩; rw [HE.out])
    | (refine ⟨trivial, ?_⟩; gi_at_call 19; refine (callsIn_wide.2 (clone_any _ zs _ HI.out (by omega))).mono ?_; rintro e w1 ⟨v1, rfl, hown1, hb1⟩; obtain ⟨A1, cp1, rfl⟩ := slice_of_owns hown1)
    | (refine ⟨trivial, ?_⟩; gi_at_call 20; refine (callsIn_wide.2 (sort_any _ zs _ _ (hown1.alloc _) (by omega))).mono ?_; rintro e w2 ⟨rfl, hown2, hg2⟩; have bx2 := (box_sorted hown1 22 hg2); have cx2 := bx2.cell; have cx3 := (fun o => (bx2.alloc o).cell); have HR2 := Lib.hid ((iRow_of_owns hown2).below ((Below.refl w2.heap.size w2).alloc (Nat.le_refl _) (.cells #[.slice none 0 0] 22))))
    | (refine ⟨trivial, ?_⟩; gi_at_call 22; refine (callsIn_wide.2 (bs_any _ zs _ _ HR2.out (by omega))).mono ?_; rintro e _ ⟨bb, rfl, q1, rfl⟩)
    | (refine ⟨trivial, ?_⟩; gi_at_call 21; refine (callsIn_wide.2 (candidates_any _ _ _)).mono ?_; rintro e w3 ⟨rfl, rfl⟩))
  have hb2 : Below wB.heap.size wB w2 := below_app hb1 hb1.size hown1 hg2
  have hrow2 := iRow_of_owns hown2
  have hblk : ∀ g o l c, Value.slice A1 zs.length cp1 = .slice (some ⟨g, o, none⟩) l c → g ≠ w2.heap.size ∧ g ≠ w2.heap.size + 1 := by
    intro g o l c e
    rcases hown2.2 with ⟨e1, _⟩ | ⟨g1, cap, cur, e1, _, hgb, _⟩
    · rw [e1] at e; cases e
    · rw [e1] at e; cases e; have := (Array.getElem?_eq_some_iff.1 hgb).1; omega
  have hsz1 := hb1.size
  have hsz2 : w1.heap.size < w2.heap.size := bx2.lt
  have bS : Boxed (((((w2.alloc (.cells #[.slice none 0 0] 22)).drewN q1).alloc (.cells #[.int .i64 (cntLt zs lo : Int)] 3)).alloc (.cells #[.int .i64 lo] 3)).alloc (.cells #[.int .i64 hi] 3)) w1.heap.size 22 (.slice A1 zs.length cp1) := (((show Boxed ((w2.alloc (.cells #[.slice none 0 0] 22)).drewN q1) w1.heap.size 22 (.slice A1 zs.length cp1) from bx2.alloc _).alloc _).alloc _).alloc _
  have bO : Boxed (((((w2.alloc (.cells #[.slice none 0 0] 22)).drewN q1).alloc (.cells #[.int .i64 (cntLt zs lo : Int)] 3)).alloc (.cells #[.int .i64 lo] 3)).alloc (.cells #[.int .i64 hi] 3)) w2.heap.size 22 (.slice none 0 0) := (((show Boxed ((w2.alloc (.cells #[.slice none 0 0] 22)).drewN q1) w2.heap.size 22 (.slice none 0 0) from Boxed.new w2 22 _).alloc _).alloc _).alloc _
  have bA : Boxed (((((w2.alloc (.cells #[.slice none 0 0] 22)).drewN q1).alloc (.cells #[.int .i64 (cntLt zs lo : Int)] 3)).alloc (.cells #[.int .i64 lo] 3)).alloc (.cells #[.int .i64 hi] 3)) (w2.heap.size + 1) 3 (.int .i64 (cntLt zs lo : Int)) := by
    have := ((Boxed.new ((w2.alloc (.cells #[.slice none 0 0] 22)).drewN q1) 3 (.int .i64 (cntLt zs lo : Int))).alloc (.cells #[.int .i64 lo] 3)).alloc (.cells #[.int .i64 hi] 3)
    simpa using this
  have bL : Boxed (((((w2.alloc (.cells #[.slice none 0 0] 22)).drewN q1).alloc (.cells #[.int .i64 (cntLt zs lo : Int)] 3)).alloc (.cells #[.int .i64 lo] 3)).alloc (.cells #[.int .i64 hi] 3)) (w2.heap.size + 1 + 1) 3 (.int .i64 lo) := by
    have := (Boxed.new (((w2.alloc (.cells #[.slice none 0 0] 22)).drewN q1).alloc (.cells #[.int .i64 (cntLt zs lo : Int)] 3)) 3 (.int .i64 lo)).alloc (.cells #[.int .i64 hi] 3)
    simpa using this
  have bH : Boxed (((((w2.alloc (.cells #[.slice none 0 0] 22)).drewN q1).alloc (.cells #[.int .i64 (cntLt zs lo : Int)] 3)).alloc (.cells #[.int .i64 lo] 3)).alloc (.cells #[.int .i64 hi] 3)) (w2.heap.size + 1 + 1 + 1) 3 (.int .i64 hi) := by
    have := Boxed.new ((((w2.alloc (.cells #[.slice none 0 0] 22)).drewN q1).alloc (.cells #[.int .i64 (cntLt zs lo : Int)] 3)).alloc (.cells #[.int .i64 lo] 3)) 3 (.int .i64 hi)
    simpa using this
  have s0 : (((((w2.alloc (.cells #[.slice none 0 0] 22)).drewN q1).alloc (.cells #[.int .i64 (cntLt zs lo : Int)] 3)).alloc (.cells #[.int .i64 lo] 3)).alloc (.cells #[.int .i64 hi] 3)).heap.size = w2.heap.size + 1 + 1 + 1 + 1 := by simp
  have hB3 : Below w2.heap.size w2 (((((w2.alloc (.cells #[.slice none 0 0] 22)).drewN q1).alloc (.cells #[.int .i64 (cntLt zs lo : Int)] 3)).alloc (.cells #[.int .i64 lo] 3)).alloc (.cells #[.int .i64 hi] 3)) := (((below_over ((Below.refl w2.heap.size w2).alloc (Nat.le_refl _) (.cells #[.slice none 0 0] 22)) (below_draws (w2.alloc (.cells #[.slice none 0 0] 22)) _ 0 q1)).alloc (by simp) _).alloc (by simp; omega) _).alloc (by simp; omega) _
  have rS := hrow2.below hB3
  have hB0 : Below wB.heap.size wB (((((w2.alloc (.cells #[.slice none 0 0] 22)).drewN q1).alloc (.cells #[.int .i64 (cntLt zs lo : Int)] 3)).alloc (.cells #[.int .i64 lo] 3)).alloc (.cells #[.int .i64 hi] 3)) := hb2.trans (hB3.mono (by omega))
  generalize (((((w2.alloc (.cells #[.slice none 0 0] 22)).drewN q1).alloc (.cells #[.int .i64 (cntLt zs lo : Int)] 3)).alloc (.cells #[.int .i64 lo] 3)).alloc (.cells #[.int .i64 hi] 3)) = W0 at *
  have hlt0 : w2.heap.size + 1 + 1 + 1 < W0.heap.size := by omega
  have hltS : w1.heap.size < W0.heap.size := by omega
  have HbO := Lib.hid bO
  have HbA := Lib.hid bA
  have HS0 := Lib.hid s0
  have hsw : wB.heap.size ≤ w2.heap.size := by omega
  clear s0 hown1 hown2 hg2 bx2 cx2 cx3 HR2 hb1 hb2 hrow2 hsz1 hB3 bO bA HH HI
  refine wpIn_range_ord rfl h1 (gf := 31) (lb := #[.pointer (some ⟨w2.heap.size + 1 + 1 + 1, 0, none⟩), .pointer (some ⟨w2.heap.size + 1 + 1, 0, none⟩)]) rfl trivial eg_cand
    (cand_seq Fence.wide 5 trivial rfl (by omega) (w2.heap.size + 1 + 1) (w2.heap.size + 1 + 1 + 1) lo hi c1 c2 c3) (fun _ => rfl)
    (fun pre W => KB2 w2.heap.size (w2.heap.size + 1) W0.heap.size W0 W ∧ Boxed W (w2.heap.size + 1) 3 (.int .i64 (cntLt zs (lo + (pre.length : Int)) : Int)) ∧ (∃ u, Boxed W w2.heap.size 22 u ∧ W.ownsRow W0.heap.size 3 1 u pre.length (I (modeL zs lo pre.length)) ∧ True))
    (fun _ _ _ => False) ?hG ?hI (fun _ _ _ _ _ hs _ _ => hs) ⟨KB2.refl _ _ _ _, by simpa using HbA.out, _, HbO.out, World.ownsRow_nil _ _ _ _, trivial⟩ ?round ?done ?stop
  case hG =>
    rintro pre W ⟨hK, _⟩
    exact ⟨(hK.boxed bL (by omega) (by omega) (by omega)).cell, (hK.boxed bH (by omega) (by omega) (by omega)).cell⟩
  case hI =>
    exact OwnFrom.and (KB2.ownFrom _ _ _ _ _ (Nat.le_refl _) (Nat.le_refl _)) (OwnFrom.and (fun s A A' row hs hg hr => bx_own hs hg hr) (Own.from (holdsRow_own W0.heap.size w2.heap.size 22 3 1 (fun pre : List Nat => pre.length) (fun pre => I (modeL zs lo pre.length)) (fun _ _ => True)) _))
  case stop =>
    rintro D c pre x' W hD _ h _
    exact h.elim
  case done =>
    rintro D ys W hD rfl ⟨hK, _, u, hu, hrow, _⟩ hKd
    rw [List.length_range] at hrow
    have c5 := hu.cell
    have hBf := hB0.trans (hK.below (n := wB.heap.size) (by omega) (by omega) (by omega))
    have hiR := iRow_of_owns (ownsRow_putObj hrow (.deferred none) hKd rfl)
    obtain ⟨Au, cu, rfl⟩ := slice_of_owns hrow
    clear hK hrow bS bL bH rS hB0
    gi_wp2
    refine ⟨by simp, .inl ⟨_, _, rfl, run_takeDeferred hKd, ?_⟩⟩
    have hbk := belowK_b (w := wB) (Nat.le_refl _) W D (.deferred (some [])) (.deferred none) (by omega) hKd rfl rfl
    exact ⟨.tuple #[.slice Au (candN lo hi) cu, .int .i64 0], by simp [results, Try.f12, go_sem], _, by rw [HE.out], by rw [HE.out]; exact hiR, hBf.trans hbk⟩
  case round =>
    rintro l pre x W K hi hnx hK
    obtain ⟨hx, rfl⟩ := hnx
    gi_wp2
    refine hK _ _ (KeepsOthers.refl _) hi ?_
    clear hK hi HbO HbA
    rintro Wb _ ⟨hKB, hat, u, hu, hrow, _⟩
    rw [List.length_range] at hrow hat
    obtain ⟨Au, cu, rfl⟩ := slice_of_owns hrow
    have hx2 : lo + (x : Int) ≤ hi := by unfold candN at hx; omega
    have hx1 : x < 64 := by unfold candN at hx; omega
    have hcs := cnt_sum zs (lo + (x : Int))
    have hcl := (cnt_le zs (lo + (x : Int))).2.1
    have HSQ := Lib.hid (modeL_succ zs lo x)
    have HNXT := Lib.hid (show cntLt zs (lo + (x : Int) + 1) = _ from cntLt_succ zs (lo + (x : Int)))
    have HAT := Lib.hid (fun j hj => srt_at (zs := zs) (x := lo + (x : Int)) (j := j) hj)
    have HLEN := Lib.hid (srt_length zs)
    clear bL bH hB0 hx
    gi_wp2
    gi_loopw [14] (fun n wr => ∃ j : Nat, j ≤ cntEq zs (lo + (x : Int)) ∧ n = .int .i64 (j : Int) ∧ KB2 w2.heap.size (w2.heap.size + 1) W0.heap.size W0 wr ∧ Boxed wr (w2.heap.size + 1) 3 (.int .i64 ((cntLt zs (lo + (x : Int)) + j : Nat) : Int)) ∧
      Boxed wr w2.heap.size 22 (.slice Au x cu) ∧ wr.ownsRow W0.heap.size 3 1 (.slice Au x cu) x (I (modeL zs lo x)) ∧ KeepsOthers Wb wr) (fun n _ => cntEq zs (lo + (x : Int)) - (intOf n).toNat)
    case atStart => exact ⟨0, Nat.zero_le _, rfl, hKB, hat, hu, hrow, KeepsOthers.refl _⟩
    case round =>
      obtain ⟨j, hj, rfl, hKr, har, hur, hrr, hkr⟩ := hrel
      clear hKB hat hu hrow
      have bSr := hKr.boxed bS (by omega) (by omega) (by omega)
      have hsr := hKr.iRow rS rfl hblk
      obtain ⟨A', d', hes, _, _, hRs⟩ := hsr
      injection hes with e1 e2 e3
      subst e1
      clear e2 e3
      have cS := bSr.cell
      have cA := har.cell
      have fA := har.frozen
      have cU := hur.cell
      have hlen := HLEN.out
      have HCS := Lib.hid hcs
      rcases Nat.lt_or_ge j (cntEq zs (lo + (x : Int))) with hjl | hjg
      · have hml : cntLt zs (lo + (x : Int)) + j < zs.length := by omega
        obtain ⟨b, o, rfl, _, hcell⟩ := hRs.at (by omega)
        have c0 := hcell (cntLt zs (lo + (x : Int)) + j) (by omega)
        rw [(HAT.out _ (by omega)).2.1 (by omega) (by omega)] at c0
        have hnx : cntLt zs (lo + (x : Int)) + j + 1 = cntLt zs (lo + (x : Int)) + (j + 1) := by omega
        have HNX := Lib.hid hnx
        have hj1000 : j < 1000 := by omega
        clear hcell hnx hcs
        generalize cntLt zs (lo + (x : Int)) + j = m at *
        have hm0 : (0 : Int) ≤ (m : Int) := by omega
        have hm1 : (m : Int) < (zs.length : Int) := by omega
        have hb : ((lo + (x : Int)) == (lo + (x : Int))) = true := by simp
        gi_wp2
        go_roundw
        case rel => exact ⟨j + 1, hjl, by simp, hKr.trans (KB2.set _), by rw [← HNX.out]; simpa using har.set (.int .i64 ((m + 1 : Nat) : Int)), boxed_set_far hur (by omega), own_setlow hrr (by omega), hkr.trans (KeepsOthers.setCell _ _ _)⟩
        case measure => simp [intOf]; omega
      · have hje : j = cntEq zs (lo + (x : Int)) := by omega
        have hsum : cntLt zs (lo + (x : Int)) + j = cntLe zs (lo + (x : Int)) := by omega
        have HJE := Lib.hid hje
        have HSUM := Lib.hid hsum
        rw [hsum] at har cA
        have hlen1 : (List.range x ++ [x]).length = x + 1 := by simp
        have HL1 := Lib.hid hlen1
        have hj1000 : j ≤ 1000 := by omega
        have hsz := hKr.size
        obtain ⟨i0, hi3, hz0, hz1, hz2⟩ := info_parts Try.info3
        clear hje hsum hlen1 hcs
        have fin : ∀ (Wf : World) (v1 : Value) (r : Prop), KeepsOthers wr Wf → KB w2.heap.size W0.heap.size wr Wf → Boxed Wf w2.heap.size 22 v1 → Wf.ownsRow W0.heap.size 3 1 v1 (x + 1) (I (modeL zs lo x) ++ [.int .i64 (j : Int)]) →
            KeepsOthers Wb Wf ∧ KB2 w2.heap.size (w2.heap.size + 1) W0.heap.size W0 Wf ∧ Boxed Wf (w2.heap.size + 1) 3 (.int .i64 (cntLt zs (lo + ((List.range x ++ [x]).length : Int)) : Int)) ∧ (∃ u, Boxed Wf w2.heap.size 22 u ∧ Wf.ownsRow W0.heap.size 3 1 u (List.range x ++ [x]).length (I (modeL zs lo (List.range x ++ [x]).length)) ∧ True) := by
          intro Wf v1 _ k1 k2 k3 k4
          rw [HL1.out, HSQ.out]
          refine ⟨hkr.trans k1, hKr.trans (KB2.of_kb k2), ?_, v1, k3, own_snoc k4 (by rw [HJE.out]), trivial⟩
          have := (k2.block (w2.heap.size + 1) (by omega) (by omega)).trans har
          rw [← HNXT.out] at this
          rw [show lo + ((x + 1 : Nat) : Int) = lo + (x : Int) + 1 by omega]
          exact this
        have HFIN := Lib.hid fin
        clear fin
        rcases Nat.lt_or_ge (cntLe zs (lo + (x : Int))) zs.length with hml | hmg
        · obtain ⟨b, o, rfl, _, hcell⟩ := hRs.at (by omega)
          have c0 := hcell (cntLe zs (lo + (x : Int))) (by omega)
          have hgt := (HAT.out (cntLe zs (lo + (x : Int))) (by omega)).2.2 (Nat.le_refl _)
          have hm0 : (0 : Int) ≤ (cntLe zs (lo + (x : Int)) : Int) := by omega
          have hm1 : (cntLe zs (lo + (x : Int)) : Int) < (zs.length : Int) := by omega
          generalize (srt zs)[cntLe zs (lo + (x : Int))]?.getD 0 = y at *
          have hb : (y == (lo + (x : Int))) = false := by simp; omega
          clear hcell
          gi_wp2_with (gi_at_builtin; refine wpListIn_append_own _ rfl _ _ 22 rfl W0.heap.size 3 i0 (.int .i64 0) 1 8 Try.underlying22 hi3 hz0 hz1 hz2 rfl (by decide) _ _ _ rfl (hrr.alloc _) ⟨wr.heap.size, 0, none⟩ 1 1 [.int .i64 _] rfl rfl (cell_one_new _ _ _) (by simp [Value.oneCell']) (by unfold maxLen; omega) (by omega) (by simp; omega) ?_; intro v1 w6 hown1 hgrow1 _; obtain ⟨Av, cv, rfl⟩ := slice_of_owns hown1; obtain ⟨r1, r2, r3, r4, r5, r6⟩ := appended3 hur (by decide) hrr (by omega) (by omega) hown1 hgrow1; have c6 := r1.cell; have f6 := r1.frozen)
          exact HFIN.out _ _ True r4 r5 r2 r3
        · have hm1 : ¬ (cntLe zs (lo + (x : Int)) : Int) < (zs.length : Int) := by omega
          have hm0 : (0 : Int) ≤ (cntLe zs (lo + (x : Int)) : Int) := by omega
          have hm2 : decide (cntLe zs (lo + (x : Int)) < zs.length) = false := by simp; omega
          gi_wp2_with (gi_at_builtin; refine wpListIn_append_own _ rfl _ _ 22 rfl W0.heap.size 3 i0 (.int .i64 0) 1 8 Try.underlying22 hi3 hz0 hz1 hz2 rfl (by decide) _ _ _ rfl (hrr.alloc _) ⟨wr.heap.size, 0, none⟩ 1 1 [.int .i64 _] rfl rfl (cell_one_new _ _ _) (by simp [Value.oneCell']) (by unfold maxLen; omega) (by omega) (by simp; omega) ?_; intro v1 w6 hown1 hgrow1 _; obtain ⟨Av, cv, rfl⟩ := slice_of_owns hown1; obtain ⟨r1, r2, r3, r4, r5, r6⟩ := appended3 hur (by decide) hrr (by omega) (by omega) hown1 hgrow1; have c6 := r1.cell; have f6 := r1.frozen)
          obtain ⟨f1, f2, f3, u, f4, f5, _⟩ := HFIN.out _ _ True r4 r5 r2 r3
          exact ⟨f1, f2, f3, u, f4, f5⟩
end Go.Proofs.Ytopllfkhkglogaa
