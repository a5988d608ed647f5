/- Quantile: the walk. -/
import Derived.Test.YtopllfkhkglogaaLib
import Derived.Test.YtopllfkhkglogaaCand
import Derived.RangeFuncBox
import Derived.RangeFuncFrom
import Derived.Shelf.SlIter.Collect
namespace Go.Proofs.Ytopllfkhkglogaa
open Go.RowKit Go.Shelf

attribute [local go_sem] Oper.semAt_some

/-- All below base lies as it did, but for block b. -/
structure KB (b base : Nat) (W0 W : World) : Prop where
  os : W.os = W0.os
  tape : W.tape = W0.tape
  output : W.output = W0.output
  size : W0.heap.size ≤ W.heap.size
  block : ∀ k, k < base → k ≠ b → W.heap[k]? = W0.heap[k]?
theorem KB.refl (b base : Nat) (W : World) : KB b base W W := ⟨rfl, rfl, rfl, Nat.le_refl _, fun _ _ _ => rfl⟩
theorem KB.trans {b base : Nat} {A B C : World} (h : KB b base A B) (k : KB b base B C) : KB b base A C :=
  ⟨k.os.trans h.os, k.tape.trans h.tape, k.output.trans h.output, Nat.le_trans h.size k.size, fun i hi hne => (k.block i hi hne).trans (h.block i hi hne)⟩
theorem KB.of_below {b base : Nat} {A B : World} (h : Below base A B) : KB b base A B := ⟨h.os, h.tape, h.output, h.size, fun k hk _ => h.block k hk⟩
theorem KB.boxed {b base B : Nat} {W0 W : World} {t : TypeId} {v : Value} (h : KB b base W0 W) (hB : Boxed W0 B t v) (hlt : B < base) (hne : B ≠ b) : Boxed W B t v := (h.block B hlt hne).trans hB
theorem KB.below {b base n : Nat} {W0 W : World} (h : KB b base W0 W) (hn : n ≤ b) (hb : n ≤ base) : Below n W0 W := ⟨h.os, h.tape, h.output, h.size, fun k hk => h.block k (by omega) (by omega)⟩
theorem KB.iRow {b base : Nat} {W0 W : World} {v : Value} {zs : List Int} (h : KB b base W0 W) (hr : IRow W0 v zs) (hb : base = W0.heap.size) (hne : ∀ g o l c, v = .slice (some ⟨g, o, none⟩) l c → g ≠ b) : IRow W v zs := by
  obtain ⟨A, c, rfl, h1, h2, h3⟩ := hr
  refine ⟨A, c, rfl, h1, h2, fun h0 => ?_⟩
  obtain ⟨g, o, rfl, hlt, hc⟩ := h3 h0
  have hg := h.block g (by omega) (hne g o _ _ rfl)
  refine ⟨g, o, rfl, Nat.lt_of_lt_of_le hlt h.size, fun j x hx => ?_⟩
  have := hc j x hx
  simpa only [World.cell?, hg] using this
theorem KB.ownFrom {α : Type} (b base B : Nat) (W0 : World) (hb : base ≤ W0.heap.size) (hB : base ≤ B) : OwnFrom (β := List α) B (fun _ W => KB b base W0 W) := fun s A A' row hs hg hr =>
  ⟨hg.os.trans hs.os, hg.tape.trans hs.tape, hg.output.trans hs.output, Nat.le_trans hs.size hg.size, fun k hk hne =>
    (hg.block k (by have := hs.size; omega) (fun e => by obtain ⟨h1, _⟩ := hr k e.symm; omega)).trans (hs.block k hk hne)⟩

theorem IRow.kept {w w' : World} {v : Value} {zs : List Int} {row : Option Nat} (h : IRow w v zs) (hg : w.grownBy w' row) (hne : ∀ g o l c, v = .slice (some ⟨g, o, none⟩) l c → some g ≠ row) : IRow w' v zs := by
  obtain ⟨A, c, rfl, h1, h2, h3⟩ := h
  refine ⟨A, c, rfl, h1, h2, fun h0 => ?_⟩
  obtain ⟨g, o, rfl, hlt, hc⟩ := h3 h0
  exact ⟨g, o, rfl, Nat.lt_of_lt_of_le hlt hg.size, fun j x hx => hg.cell (hc j x hx) (hne g o _ _ rfl)⟩

theorem checkE_cases {zs : List Int} {lo hi : Int} : (checkE zs lo hi = 0 ∧ zs.length ≤ 100000 ∧ -1125899906842624 ≤ lo ∧ lo ≤ hi ∧ hi ≤ 1125899906842624 ∧ hi - lo < 64) ∨ checkE zs lo hi = 4 ∨ checkE zs lo hi = 2 := by
  rw [checkE_eq]
  rcases checkV_cases (zs := zs) with ⟨hv, hl⟩ | hv | hv
  · rcases candE_cases (lo := lo) (hi := hi) with ⟨hc, h⟩ | hc
    · left; simp [hv, hc, hl, h]
    · right; right; simp [hv, hc]
  · right; left; simp [hv]
  · right; right; simp [hv]

theorem box_sorted {w1 w2 : World} {base n cp : Nat} {A : Option Addr} {xs : List Value} (h : w1.ownsRow base 3 1 (.slice A n cp) n xs) (t : TypeId) {u : Value} (hg : (w1.alloc (.cells #[u] t)).grownBy w2 (Value.ownBlock (.slice A n cp))) : Boxed w2 w1.heap.size t u := by
  refine (Boxed.new w1 t u).kept hg ?_
  rcases h.2 with ⟨e, _⟩ | ⟨g, cap, cur, e, _, hgb, _⟩
  · rw [e]; simp [Value.ownBlock]
  · rw [e]
    have := (Array.getElem?_eq_some_iff.1 hgb).1
    simp only [Value.ownBlock, ne_eq, Option.some.injEq]
    omega

theorem below_over {n : Nat} {A B C : World} (h : Below n A B) (k : Below n B C) : Below n A C := h.trans k

theorem appended3 {W w1 : World} {n₁ B : Nat} {t e : TypeId} {size : Nat} {v v' : Value} {k m : Nat} {xs ys : List Value} {tmp : Obj}
    (hv : Boxed W B t v) (hte : t ≠ e) (hrow : W.ownsRow n₁ e size v k xs) (hn₁ : n₁ ≤ W.heap.size) (hB : B < n₁)
    (hown' : w1.ownsRow n₁ e size v' m ys) (hgrow : (W.alloc tmp).grownBy w1 v.ownBlock) :
    Boxed w1 B t v ∧ Boxed (w1.setCell ⟨B, 0, none⟩ v') B t v' ∧ (w1.setCell ⟨B, 0, none⟩ v').ownsRow n₁ e size v' m ys ∧ KeepsOthers W (w1.setCell ⟨B, 0, none⟩ v') ∧ KB B n₁ W (w1.setCell ⟨B, 0, none⟩ v') ∧ Below n₁ W w1 := by
  obtain ⟨r1, r2, _, r4, r5⟩ := hv.appended hte (ownsRow_base_a hrow (Nat.zero_le _)) (Nat.zero_le _) (Nat.zero_le _) (ownsRow_base_a hown' (Nat.zero_le _)) hgrow
  have hb1 : Below n₁ W w1 := below_app (Below.refl _ _) hn₁ hrow hgrow
  have hblk : ∀ k, k < n₁ → k ≠ B → (w1.setCell ⟨B, 0, none⟩ v').heap[k]? = W.heap[k]? := by
    intro k hk hkB
    have h1 : (w1.setCell ⟨B, 0, none⟩ v').heap[k]? = w1.heap[k]? := Below.heap_setCell _ _ _ _ hkB
    exact h1.trans (hb1.block k hk)
  exact ⟨r1, r2, hown'.kept (grownBy_setCell' w1 B v') (.inr (r1.not_row hte hown').symm), r4, ⟨r5.os, r5.tape, r5.output, r5.size, hblk⟩, hb1⟩

theorem cell_one_at (w : World) (x : Value) (t : TypeId) (b : Nat) (hb : b = w.heap.size) : ∀ j u, [x][j]? = some u → (w.alloc (.cells #[x] t)).cell? ((⟨b, 0, none⟩ : Addr).add j) = some u := by
  subst hb; exact cell_one_new w x t

set_option maxRecDepth 100000 in
set_option maxHeartbeats 4000000 in
theorem quant_any (v : Value) (zs : List Int) (lo hi p q : Int) (w : World) (h : IRow w v zs) (hz : zs.length ≤ 1000) :
    Calls Try.prog 8 #[v, .int .i64 lo, .int .i64 hi, .int .i64 p, .int .i64 q] w (Out w (quantL zs lo p q (candN lo hi)) (qErr zs lo hi p q)) := by
  have hv : ∃ A c, v = .slice A zs.length c := by obtain ⟨A, c, rfl, _⟩ := h; exact ⟨A, c, rfl⟩
  obtain ⟨A, c, rfl⟩ := hv
  have HB3 : Hid (∀ u1 u2 u3 : Obj, Below w.heap.size w (((w.alloc u1).alloc u2).alloc u3)) := fun _ _ _ => by go_grown
  have HH := Lib.hid (fun u1 u2 u3 : Obj => (h.below (HB3 u1 u2 u3)))
  refine (callsIn_wide (n := 6)).1 ?_
  have h1 : 1 ≤ 6 := by omega
  refine callsIn_of_wp_marks Try.func8 rfl trivial ?_ rfl
  simp only [Try.ntmps8, List.size_toArray, List.length_cons, List.length_nil, Nat.reduceAdd, Nat.reduceSub, Array.replicate_succ, Array.replicate_zero, List.push_toArray, List.append_toArray, List.nil_append, List.cons_append]
  rcases checkE_cases (zs := zs) (lo := lo) (hi := hi) with ⟨hE, hl, c1, c2, c3, c4⟩ | hE | hE
  rotate_left
  · have HE := Lib.hid hE
    have HQ := Lib.hid (show qErr zs lo hi p q = 4 by simp [qErr, hE])
    clear hE h
    gi_wp2_with (refine ⟨trivial, ?_⟩; gi_at_call 17; refine (callsIn_wide.2 (check_any _ zs _ _ _ (.inl (HH.out _ _ _)))).mono ?_; rintro e w' ⟨rfl, rfl⟩; rw [HE.out])
    exact ⟨_, by simp [results, Try.f8, go_sem]; rfl, .slice none 0 0, by rw [HQ.out], by rw [HQ.out]; exact IRow.nil _, HB3.out _ _ _⟩
  · have HE := Lib.hid hE
    have HQ := Lib.hid (show qErr zs lo hi p q = 2 by simp [qErr, hE])
    clear hE h
    gi_wp2_with (refine ⟨trivial, ?_⟩; gi_at_call 17; refine (callsIn_wide.2 (check_any _ zs _ _ _ (.inl (HH.out _ _ _)))).mono ?_; rintro e w' ⟨rfl, rfl⟩; rw [HE.out])
    exact ⟨_, by simp [results, Try.f8, go_sem]; rfl, .slice none 0 0, by rw [HQ.out], by rw [HQ.out]; exact IRow.nil _, HB3.out _ _ _⟩
  have HE := Lib.hid hE
  cases hvl : validB p q with
  | false =>
    have HQ := Lib.hid (show qErr zs lo hi p q = 2 by simp [qErr, hE, hvl])
    have HL := Lib.hid hvl
    clear hE h hvl
    gi_wp2_with (first
      | (refine ⟨trivial, ?_⟩; gi_at_call 17; refine (callsIn_wide.2 (check_any _ zs _ _ _ (.inl (HH.out _ _ _)))).mono ?_; rintro e w' ⟨rfl, rfl⟩; rw [HE.out])
      | (refine ⟨trivial, ?_⟩; gi_at_call 18; refine (callsIn_wide.2 (valid_any _ _ _)).mono ?_; rintro e w' ⟨rfl, rfl⟩; rw [HL.out]))
    exact ⟨_, by simp [results, Try.f8, go_sem]; rfl, .slice none 0 0, by rw [HQ.out], by rw [HQ.out]; exact IRow.nil _, HB3.out _ _ _⟩
  | true =>
    have HQ := Lib.hid (show qErr zs lo hi p q = 0 by simp [qErr, hE, hvl])
    obtain ⟨b1, b2, b3, b4⟩ : 1 ≤ q ∧ q ≤ 1000 ∧ 0 ≤ p ∧ p ≤ q := by simpa [validB] using hvl
    have HL := Lib.hid hvl
    clear hE h hvl
    gi_wp2_with (first
      | (refine ⟨trivial, ?_⟩; gi_at_call 17; refine (callsIn_wide.2 (check_any _ zs _ _ _ (.inl (HH.out _ _ _)))).mono ?_; rintro e w' ⟨rfl, rfl⟩; rw [HE.out])
      | (refine ⟨trivial, ?_⟩; gi_at_call 18; refine (callsIn_wide.2 (valid_any _ _ _)).mono ?_; rintro e w' ⟨rfl, rfl⟩; rw [HL.out])
      | (refine ⟨trivial, ?_⟩; gi_at_call 19; refine (callsIn_wide.2 (clone_any _ zs _ (HH.out _ _ _) (by omega))).mono ?_; rintro e w1 ⟨v1, rfl, hown1, hb1⟩; obtain ⟨A1, cp1, rfl⟩ := slice_of_owns hown1)
      | (refine ⟨trivial, ?_⟩; gi_at_call 20; refine (callsIn_wide.2 (sort_any _ zs _ _ (hown1.alloc _) (by omega))).mono ?_; rintro e w2 ⟨rfl, hown2, hg2⟩; have bx2 := (box_sorted hown1 22 hg2); have cx2 := bx2.cell)
      | (refine ⟨trivial, ?_⟩; gi_at_call 21; refine (callsIn_wide.2 (candidates_any _ _ _)).mono ?_; rintro e w3 ⟨rfl, rfl⟩))
    obtain ⟨wB, hwB⟩ : ∃ wB : World, ((w.alloc (.cells #[.slice A zs.length c] 22)).alloc (.cells #[.int .i64 p] 3)).alloc (.cells #[.int .i64 q] 3) = wB := ⟨_, rfl⟩
    have sB : wB.heap.size = w.heap.size + 1 + 1 + 1 := by rw [← hwB]; simp
    have xV : Boxed wB w.heap.size 22 (.slice A zs.length c) := by rw [← hwB]; exact ((Boxed.new w 22 _).alloc _).alloc _
    have xP : Boxed wB (w.heap.size + 1) 3 (.int .i64 p) := by
      have := (Boxed.new (w.alloc (.cells #[.slice A zs.length c] 22)) 3 (.int .i64 p)).alloc (.cells #[.int .i64 q] 3)
      rw [← hwB]; simpa only [World.size_alloc] using this
    have xQ : Boxed wB (w.heap.size + 1 + 1) 3 (.int .i64 q) := by
      have := Boxed.new ((w.alloc (.cells #[.slice A zs.length c] 22)).alloc (.cells #[.int .i64 p] 3)) 3 (.int .i64 q)
      rw [← hwB]; simpa only [World.size_alloc] using this
    have hBw : Below w.heap.size w wB := by rw [← hwB]; exact HB3.out _ _ _
    rw [hwB] at hb1 hown1 hown2
    clear hwB
    have hb2 : Below wB.heap.size wB w2 := below_app hb1 hb1.size hown1 hg2
    have hrow2 := iRow_of_owns hown2
    have hblk : ∀ g o l c, Value.slice A1 zs.length cp1 = .slice (some ⟨g, o, none⟩) l c → g ≠ w2.heap.size := by
      intro g o l c e
      rcases hown2.2 with ⟨e1, _⟩ | ⟨g1, cap, cur, e1, _, hgb, _⟩
      · rw [e1] at e; cases e
      · rw [e1] at e; cases e; have := (Array.getElem?_eq_some_iff.1 hgb).1; omega
    have hS : ∀ o1 o2 o3 : Obj, ∀ B t v, Boxed w2 B t v → Boxed (((w2.alloc o1).alloc o2).alloc o3) B t v := fun _ _ _ _ _ _ h => ((h.alloc _).alloc _).alloc _
    have hsz1 := hb1.size
    have hsz2 : w1.heap.size < w2.heap.size := bx2.lt
    have bV := hS (.cells #[.slice none 0 0] 22) (.cells #[.int .i64 lo] 3) (.cells #[.int .i64 hi] 3) _ _ _ ((hb2.block _ (by omega)).trans xV)
    have bP := hS (.cells #[.slice none 0 0] 22) (.cells #[.int .i64 lo] 3) (.cells #[.int .i64 hi] 3) _ _ _ ((hb2.block _ (by omega)).trans xP)
    have bQ := hS (.cells #[.slice none 0 0] 22) (.cells #[.int .i64 lo] 3) (.cells #[.int .i64 hi] 3) _ _ _ ((hb2.block _ (by omega)).trans xQ)
    have bS := hS (.cells #[.slice none 0 0] 22) (.cells #[.int .i64 lo] 3) (.cells #[.int .i64 hi] 3) _ _ _ bx2
    have bO : Boxed (((w2.alloc (.cells #[.slice none 0 0] 22)).alloc (.cells #[.int .i64 lo] 3)).alloc (.cells #[.int .i64 hi] 3)) w2.heap.size 22 (.slice none 0 0) := ((Boxed.new w2 22 _).alloc _).alloc _
    have bL : Boxed (((w2.alloc (.cells #[.slice none 0 0] 22)).alloc (.cells #[.int .i64 lo] 3)).alloc (.cells #[.int .i64 hi] 3)) (w2.heap.size + 1) 3 (.int .i64 lo) := by
      have := (Boxed.new (w2.alloc (.cells #[.slice none 0 0] 22)) 3 (.int .i64 lo)).alloc (.cells #[.int .i64 hi] 3)
      simpa only [World.size_alloc] using this
    have bH : Boxed (((w2.alloc (.cells #[.slice none 0 0] 22)).alloc (.cells #[.int .i64 lo] 3)).alloc (.cells #[.int .i64 hi] 3)) (w2.heap.size + 1 + 1) 3 (.int .i64 hi) := by
      have := Boxed.new ((w2.alloc (.cells #[.slice none 0 0] 22)).alloc (.cells #[.int .i64 lo] 3)) 3 (.int .i64 hi)
      simpa only [World.size_alloc] using this
    have s0 : (((w2.alloc (.cells #[.slice none 0 0] 22)).alloc (.cells #[.int .i64 lo] 3)).alloc (.cells #[.int .i64 hi] 3)).heap.size = w2.heap.size + 1 + 1 + 1 := by simp
    have hB3 : Below w2.heap.size w2 (((w2.alloc (.cells #[.slice none 0 0] 22)).alloc (.cells #[.int .i64 lo] 3)).alloc (.cells #[.int .i64 hi] 3)) := by go_grown
    have rS := hrow2.below hB3
    have hB0 : Below w.heap.size w (((w2.alloc (.cells #[.slice none 0 0] 22)).alloc (.cells #[.int .i64 lo] 3)).alloc (.cells #[.int .i64 hi] 3)) := (hBw.trans (hb2.mono (by omega))).trans (hB3.mono (by omega))
    generalize (((w2.alloc (.cells #[.slice none 0 0] 22)).alloc (.cells #[.int .i64 lo] 3)).alloc (.cells #[.int .i64 hi] 3)) = W0 at *
    have HS0 := Lib.hid s0
    have hlt0 : w2.heap.size + 1 + 1 < W0.heap.size := by omega
    have hltS : w1.heap.size < W0.heap.size := by omega
    have hltw : w.heap.size + 1 + 1 < w1.heap.size := by omega
    have HbO := Lib.hid bO
    clear s0 hS xV xP xQ sB hown1 hown2 hg2 bx2 cx2 hb1 hb2 hrow2 hsz1 hB3 hBw bO
    refine wpIn_range_ord rfl h1 (gf := 31) (lb := #[.pointer (some ⟨w2.heap.size + 1 + 1, 0, none⟩), .pointer (some ⟨w2.heap.size + 1, 0, none⟩)]) rfl trivial eg_cand
      (cand_seq Fence.wide 5 trivial rfl (by omega) (w2.heap.size + 1) (w2.heap.size + 1 + 1) lo hi c1 c2 c3) (fun _ => rfl)
      (fun pre W => KB w2.heap.size W0.heap.size W0 W ∧ (∃ u, Boxed W w2.heap.size 22 u ∧ W.ownsRow W0.heap.size 3 1 u pre.length (I (quantL zs lo p q pre.length)) ∧ True))
      (fun _ _ _ => False) ?hG ?hI (fun _ _ _ _ _ hs _ _ => hs) ⟨KB.refl _ _ _, _, HbO.out, World.ownsRow_nil _ _ _ _, trivial⟩ ?round ?done ?stop
    case hG =>
      rintro pre W ⟨hK, _⟩
      exact ⟨(hK.boxed bL (by omega) (by omega)).cell, (hK.boxed bH (by omega) (by omega)).cell⟩
    case hI =>
      exact OwnFrom.and (KB.ownFrom _ _ _ _ (Nat.le_refl _) (Nat.le_refl _)) (Own.from (holdsRow_own W0.heap.size w2.heap.size 22 3 1 (fun pre : List Nat => pre.length) (fun pre => I (quantL zs lo p q pre.length)) (fun _ _ => True)) _)
    case stop =>
      rintro D c pre x' W hD _ h _
      exact h.elim
    case done =>
      rintro D ys W hD rfl ⟨hK, u, hu, hrow, _⟩ hKd
      rw [List.length_range] at hrow
      have c5 := hu.cell
      have hBf := hB0.trans (hK.below (n := w.heap.size) (by omega) (by omega))
      have hiR := iRow_of_owns (ownsRow_putObj hrow (.deferred none) hKd rfl)
      obtain ⟨Au, cu, rfl⟩ := slice_of_owns hrow
      clear hK hrow bV bP bQ bS bL bH rS hB0
      gi_wp2
      refine ⟨by simp, .inl ⟨_, _, rfl, run_takeDeferred hKd, ?_⟩⟩
      have hbk := belowK_b (w := w) (Nat.le_refl _) W D (.deferred (some [])) (.deferred none) (by omega) hKd rfl rfl
      exact ⟨.tuple #[.slice Au (candN lo hi) cu, .int .i64 0], by simp [results, Try.f8, go_sem], _, by rw [HQ.out], by rw [HQ.out]; exact hiR, hBf.trans hbk⟩
    case round =>
      rintro l pre x W K hi hnx hK
      obtain ⟨hx, rfl⟩ := hnx
      gi_wp2
      refine hK _ _ (KeepsOthers.refl _) hi ?_
      clear hK hi HbO
      rintro Wb _ ⟨hKB, u, hu, hrow, _⟩
      rw [List.length_range] at hrow
      obtain ⟨Au, cu, rfl⟩ := slice_of_owns hrow
      have hx2 : lo + (x : Int) ≤ hi := by unfold candN at hx; omega
      have hx1 : x < 64 := by unfold candN at hx; omega
      have bVb := hKB.boxed bV (by omega) (by omega)
      have bQb := hKB.boxed bQ (by omega) (by omega)
      have bSb := hKB.boxed bS (by omega) (by omega)
      have hbs := hKB.iRow rS rfl hblk
      have HBS := Lib.hid (fun n => show IRow (Wb.drewN n) _ _ from hbs)
      have cS := bSb.cell
      have cV := bVb.cell
      have cQ := bQb.cell
      have cP := (hKB.boxed bP (by omega) (by omega)).cell
      have cO := hu.cell
      have fO := hu.frozen
      have n1 := (cnt_le zs (lo + (x : Int))).1
      have n2 := (cnt_le zs (lo + (x : Int))).2.1
      have HKB := Lib.hid hKB
      clear hKB bV bP bQ bS bL bH rS hB0 hx
      obtain ⟨d1, d2⟩ := mul_bd (n := 0) b3 (show p ≤ 1000 by omega) (show (0 : Int) ≤ (zs.length : Int) by omega) (by omega)
      have HBS0 := Lib.hid (show IRow Wb _ _ from hbs)
      clear hbs
      gi_wp2_with (refine ⟨trivial, ?_⟩; gi_at_call 22; refine (CallsIn.inRound l (callsIn_wide.2 (bs_any _ zs _ _ (by first | exact HBS0.out | exact HBS.out _) (by omega)))).mono ?_; rintro e _ ⟨bb, rfl, q1, rfl⟩; first | rw [cntLt_succ] | skip)
      obtain ⟨d1, d2⟩ := mul_bd (n := 0) b3 (show p ≤ 1000 by omega) (show (0 : Int) ≤ (zs.length : Int) by omega) (by omega)
      obtain ⟨e1, e2⟩ := mul_bd (n := 0) (show 0 ≤ q by omega) b2 (show (0 : Int) ≤ (cntLe zs (lo + (x : Int)) : Int) by omega) (by omega)
      obtain ⟨f1, f2⟩ := mul_bd (n := 0) (show 0 ≤ q by omega) b2 (show (0 : Int) ≤ (cntLt zs (lo + (x : Int)) : Int) by omega) (by omega)
      have hk0 : w2.heap.size < Wb.heap.size := hu.lt
      have hk1 : w.heap.size + 1 + 1 < Wb.heap.size := bQb.lt
      have xO := fun (n : Nat) (X : SameAt (Wb.drewN n) fun k => k = w2.heap.size ∨ k = w.heap.size + 1 + 1) => X.cell (.inl rfl) cO
      have xQ := fun (n : Nat) (X : SameAt (Wb.drewN n) fun k => k = w2.heap.size ∨ k = w.heap.size + 1 + 1) => X.cell (.inr rfl) cQ
      have hmx : Try.prog.follows .mixedOrders = true := by kernel_rfl
      have g1 : IntKind.i64.wrap (q * (cntLe zs (lo + (x : Int)) : Int)) = q * (cntLe zs (lo + (x : Int)) : Int) := IntWalk.i64_in _ (by omega)
      have g2 : IntKind.i64.wrap (p * (zs.length : Int) - q * (cntLe zs (lo + (x : Int)) : Int)) = p * (zs.length : Int) - q * (cntLe zs (lo + (x : Int)) : Int) := IntWalk.i64_in _ (by omega)
      have g3 : IntKind.i64.wrap (q * (cntLt zs (lo + (x : Int)) : Int)) = q * (cntLt zs (lo + (x : Int)) : Int) := IntWalk.i64_in _ (by omega)
      have g4 : IntKind.i64.wrap (q * (cntLt zs (lo + (x : Int)) : Int) - p * (zs.length : Int)) = q * (cntLt zs (lo + (x : Int)) : Int) - p * (zs.length : Int) := IntWalk.i64_in _ (by omega)
      refine wpIn_same (fun k => k = w2.heap.size ∨ k = w.heap.size + 1 + 1) 11 hmx (by kernel_rfl) (by decide) ?_
      simp only [List.take_succ_cons, List.take_zero, List.drop_succ_cons, List.drop_zero]
      repeat (gi_big_quiet_step (fail))
      refine wpQuietIn_nil ?_
      clear g1 g2 g3 g4 xO xQ
      have mb1 : 0 ≤ mx (mx 0 (p * (zs.length : Int) - q * (cntLe zs (lo + (x : Int)) : Int))) (q * (cntLt zs (lo + (x : Int)) : Int) - p * (zs.length : Int)) := by unfold mx; split <;> split <;> omega
      have mb2 : mx (mx 0 (p * (zs.length : Int) - q * (cntLe zs (lo + (x : Int)) : Int))) (q * (cntLt zs (lo + (x : Int)) : Int) - p * (zs.length : Int)) ≤ 100000000 := by unfold mx; split <;> split <;> omega
      have HQL := Lib.hid (quantL_succ zs lo p q x)
      obtain ⟨i0, hi3, hz0, hz1, hz2⟩ := info_parts Try.info3
      generalize q1 = qb
      refine tail_step ?_
      gi_wp2
      refine tail_post (isSame_below (n := Wb.heap.size) (by go_grown; exact below_draws _ _ _ _) (by intro k hk; omega)) ?_
      refine tail_step ?_
      gi_wp2_with (refine ⟨trivial, ?_⟩; gi_at_call 23; refine (CallsIn.inRound l (callsIn_wide.2 (great2_any _ _ _ _ _ _ (cell_new2 _ _ _ _).1 (cell_new2 _ _ _ _).2))).mono ?_; rintro e w5 ⟨rfl, rfl⟩)
      refine tail_post (isSame_below (n := Wb.heap.size) (by go_grown; exact below_draws _ _ _ _) (by intro k hk; omega)) ?_
      refine tail_step ?_
      gi_wp2
      refine tail_post (isSame_below (n := Wb.heap.size) (by go_grown; exact below_draws _ _ _ _) (by intro k hk; omega)) ?_
      refine tail_step ?_
      gi_wp2
      refine tail_post (isSame_below (n := Wb.heap.size) (by go_grown; exact below_draws _ _ _ _) (by intro k hk; omega)) ?_
      refine tail_step ?_
      have hrowN : ∀ (n : Nat) (o1 o2 : Obj), (((Wb.drewN n).alloc o1).alloc o2).ownsRow W0.heap.size 3 1 (.slice Au x cu) x (I (quantL zs lo p q x)) := fun n o1 o2 => ((show (Wb.drewN n).ownsRow W0.heap.size 3 1 (.slice Au x cu) x (I (quantL zs lo p q x)) from hrow).alloc o1).alloc o2
      have hsz := HKB.out.size
      gi_wp2_with (gi_at_builtin; refine wpListIn_append_own _ rfl _ _ 22 rfl W0.heap.size 3 i0 (.int .i64 0) 1 8 Try.underlying22 hi3 hz0 hz1 hz2 rfl (by decide) _ _ _ rfl (hrowN _ _ _) ⟨Wb.heap.size + 1, 0, none⟩ 1 1 [.int .i64 _] rfl rfl (cell_one_at _ _ _ _ (by simp)) (by simp [Value.oneCell']) (by unfold maxLen; omega) (by omega) (by simp; omega) ?_; intro v1 w6 hown1 hgrow1 _)
      obtain ⟨Av, cv, rfl⟩ := slice_of_owns hown1
      have hrowM : ∀ (n : Nat) (o1 : Obj), ((Wb.drewN n).alloc o1).ownsRow W0.heap.size 3 1 (.slice Au x cu) x (I (quantL zs lo p q x)) := fun n o1 => (show (Wb.drewN n).ownsRow W0.heap.size 3 1 (.slice Au x cu) x (I (quantL zs lo p q x)) from hrow).alloc o1
      have huM : ∀ (n : Nat) (o1 : Obj), Boxed ((Wb.drewN n).alloc o1) w2.heap.size 22 (.slice Au x cu) := fun n o1 => (show Boxed (Wb.drewN n) w2.heap.size 22 (.slice Au x cu) from hu).alloc o1
      obtain ⟨r1, r2, r3, r4, r5, r6⟩ := appended3 (huM _ _) (by decide) (hrowM _ _) (by simp; omega) (by omega) hown1 hgrow1
      refine tail_post (isSame_below (n := W0.heap.size) (below_over (by go_grown; exact below_draws _ _ _ _) r6) (by intro k hk; omega)) ?_
      refine tail_step ?_
      have c6 := r1.cell
      have f6 := r1.frozen
      gi_wp2
      refine tail_last ?_
      gi_wp2
      have hlen : (List.range x ++ [x]).length = x + 1 := by simp
      refine ⟨KeepsOthers.trans (keeps_of_below (by go_grown; exact below_draws Wb _ 0 _)) r4, (HKB.out.trans (KB.of_below (by go_grown; exact below_draws Wb _ 0 _))).trans r5, _, r2, ?_, trivial⟩
      rw [hlen, HQL.out]
      exact own_snoc r3 (by unfold qv; rfl)
end Go.Proofs.Ytopllfkhkglogaa
