/- QuantNames: the walk. -/
import Derived.Test.YtopllfkhkglogaaReach
import Derived.OwnWalk
import Derived.Deep.LoopGhost
namespace Go.Proofs.Ytopllfkhkglogaa
open Go.RowKit Go.Shelf

theorem mode_long (A : Option Addr) (n c : Nat) (lo hi : Int) (w : World) (hn : 100000 < n) :
    Calls Try.prog 12 #[.slice A n c, .int .i64 lo, .int .i64 hi] w fun e w' => ∃ v, e = .returned (.tuple #[v, .int .i64 4]) ∧ Below w.heap.size w w' := by
  have hl : (List.replicate n (0 : Int)).length = n := List.length_replicate
  have h := mode_any (.slice A n c) (List.replicate n 0) lo hi w (.inr ⟨by rw [hl]; exact hn, A, c, by rw [hl]⟩) (.inr (by rw [hl]; exact hn))
  have hE : checkE (List.replicate n (0 : Int)) lo hi = 4 := by simp [checkE, hn]
  refine h.mono ?_
  rintro e w' ⟨v, rfl, _, hb⟩
  rw [hE]
  exact ⟨v, rfl, hb⟩
/-- A call whose list does not matter. -/
theorem quant_err (v : Value) (zs : List Int) (lo hi p q : Int) (x : Int) (w : World) (h : IRow w v zs) (hz : zs.length ≤ 1000) (hx : qErr zs lo hi p q = x) :
    Calls Try.prog 8 #[v, .int .i64 lo, .int .i64 hi, .int .i64 p, .int .i64 q] w fun e w' => ∃ v, e = .returned (.tuple #[v, .int .i64 x]) ∧ Below w.heap.size w w' := by
  refine (quant_any v zs lo hi p q w h hz).mono ?_
  rintro e w' ⟨v', rfl, _, hb⟩
  rw [hx]
  exact ⟨v', rfl, hb⟩
theorem mode_err (v : Value) (zs : List Int) (lo hi : Int) (x : Int) (w : World) (h : IRow w v zs) (hz : zs.length ≤ 1000) (hx : checkE zs lo hi = x) :
    Calls Try.prog 12 #[v, .int .i64 lo, .int .i64 hi] w fun e w' => ∃ v, e = .returned (.tuple #[v, .int .i64 x]) ∧ Below w.heap.size w w' := by
  refine (mode_any v zs lo hi w (.inl h) (.inl hz)).mono ?_
  rintro e w' ⟨v', rfl, _, hb⟩
  rw [hx]
  exact ⟨v', rfl, hb⟩
theorem reach_val (p q x y : Int) (w : World) (hx : (if validB p q then mx p (q - p) else 0) = x) (hy : (if validB p q then 0 else 2 : Int) = y) : Calls Try.prog 11 #[.int .i64 p, .int .i64 q] w fun e w' => e = .returned (.tuple #[.int .i64 x, .int .i64 y]) ∧ Below w.heap.size w w' := by
  have := reach_any p q w
  rwa [hx, hy] at this
theorem built1 (w : World) (x : Int) : IRow (w.alloc (.cells #[.int .i64 x] 3)) (.slice (some ⟨w.heap.size, 0, none⟩) 1 1) [x] := by simpa [I] using iRow_built w [x] (by simp)

theorem names64 : modeL [1] 1 (candN 1 64) = 1 :: List.replicate 63 0 := by decide

set_option maxRecDepth 100000 in
set_option maxHeartbeats 4000000 in
theorem names_any (w : World) : Calls Try.prog 4 #[] w fun e w' => e = .returned (.bool true) ∧ Below w.heap.size w w' := by
  obtain ⟨i0, hi3, hz0, hz1, hz2⟩ := info_parts Try.info3
  go_enter Try.func4, Try.ntmps4
  go_wp2_with fail
  refine (lives_any _).mono ?_
  rintro e w1 ⟨rfl, b1⟩
  have bb := b1
  clear b1
  go_wp2_with fail
  have q1 : qErr [] 1 3 1 2 = 0 := by decide
  have q2 : quantL [] 1 1 2 (candN 1 3) = [0, 0, 0] := by decide
  refine (quant_any _ [] 1 3 1 2 _ (IRow.nil _) (by decide)).mono ?_
  rintro e w2 ⟨va, rfl, ra, b2⟩
  rw [q1, q2] at ra
  rw [q1]
  clear q1 q2
  replace ra : IRow w2 va [0, 0, 0] := ra
  replace bb := bnext bb b2
  clear b2
  go_wp2_with fail
  refine (reach_val 1 4 3 0 _ (by decide) (by decide)).mono ?_
  rintro e w3 ⟨rfl, b2⟩
  replace ra := ra.below b2
  replace bb := bnext bb b2
  clear b2
  go_wp2_with fail
  refine (reach_val 1 0 0 2 _ (by decide) (by decide)).mono ?_
  rintro e w4 ⟨rfl, b2⟩
  replace ra := ra.below b2
  replace bb := bnext bb b2
  clear b2
  go_wp2_with fail
  refine (quant_err _ [1] 5 4 1 2 2 _ (built1 _ _) (by decide) (by decide)).mono ?_
  rintro e w5 ⟨v5, rfl, b2⟩
  replace ra := (ra.below ((Below.refl _ _).alloc (Nat.le_refl _) (.cells #[.int .i64 1] 3))).below b2
  replace bb := bstep bb b2
  clear b2
  go_wp2_with fail
  refine (quant_err _ [1] 1 65 1 2 2 _ (built1 _ _) (by decide) (by decide)).mono ?_
  rintro e w6 ⟨v6, rfl, b2⟩
  replace ra := (ra.below ((Below.refl _ _).alloc (Nat.le_refl _) (.cells #[.int .i64 1] 3))).below b2
  replace bb := bstep bb b2
  clear b2
  go_wp2_with fail
  have q1 : checkE [1] 1 64 = 0 := by decide
  have q2 := names64
  refine (mode_any _ [1] 1 64 _ (.inl (built1 _ _)) (.inl (by decide))).mono ?_
  rintro e w7 ⟨vf, rfl, rf, b2⟩
  rw [q1, q2] at rf
  rw [q1]
  clear q1 q2
  replace rf : IRow w7 vf (1 :: List.replicate 63 0) := rf
  replace ra := (ra.below ((Below.refl _ _).alloc (Nat.le_refl _) (.cells #[.int .i64 1] 3))).below b2
  replace bb := bstep bb b2
  clear b2
  go_wp2_with fail
  refine (reach_val 3 2 0 2 _ (by decide) (by decide)).mono ?_
  rintro e w8 ⟨rfl, b2⟩
  replace ra := ra.below b2
  replace rf := rf.below b2
  replace bb := bnext bb b2
  clear b2
  go_wp2_with fail
  refine (reach_val 1 1001 0 2 _ (by decide) (by decide)).mono ?_
  rintro e w9 ⟨rfl, b2⟩
  replace ra := ra.below b2
  replace rf := rf.below b2
  replace bb := bnext bb b2
  clear b2
  go_wp2_with fail
  refine (mode_err _ [1125899906842625] 1 2 2 _ (built1 _ _) (by decide) (by decide)).mono ?_
  rintro e w10 ⟨v10, rfl, b2⟩
  replace ra := (ra.below ((Below.refl _ _).alloc (Nat.le_refl _) (.cells #[.int .i64 1125899906842625] 3))).below b2
  replace rf := (rf.below ((Below.refl _ _).alloc (Nat.le_refl _) (.cells #[.int .i64 1125899906842625] 3))).below b2
  replace bb := bstep bb b2
  clear b2
  go_wp2_with (at_make; refine wpList_make_full _ rfl _ _ 22 rfl w10.heap.size 3 i0 (.int .i64 0) 1 Try.underlying22 hi3 hz0 hz1 .i64 .i64 100001 100001 100001 rfl rfl rfl rfl (by rw [hz2]; omega) (by unfold maxLen; omega) (Nat.le_refl _) ?_; intro w11 _ hg11; have b11 : Below w10.heap.size w10 w11 := ⟨hg11.os, hg11.tape, hg11.output, hg11.size, fun k hk => hg11.block k hk (by simp)⟩; clear hg11)
  replace ra := ra.below b11
  replace rf := rf.below b11
  replace bb := bnext bb b11
  clear b11
  refine (mode_long _ 100001 _ 1 2 _ (by omega)).mono ?_
  rintro e w12 ⟨v12, rfl, b2⟩
  replace ra := ra.below b2
  replace rf := rf.below b2
  replace bb := bnext bb b2
  clear b2
  go_wp2_with fail
  refine (mode_err _ [] 1125899906842624 1125899906842625 2 _ (IRow.nil _) (by decide) (by decide)).mono ?_
  rintro e w13 ⟨v13, rfl, b2⟩
  replace ra := ra.below b2
  replace rf := rf.below b2
  replace bb := bnext bb b2
  clear b2
  go_wp2_with fail
  refine (quant_err _ [] 1 2 (-1) 2 2 _ (IRow.nil _) (by decide) (by decide)).mono ?_
  rintro e w14 ⟨v14, rfl, b2⟩
  replace ra := ra.below b2
  replace rf := rf.below b2
  replace bb := bnext bb b2
  clear b2
  have hl : (1 :: List.replicate 63 (0 : Int)).length = 64 := by simp
  obtain ⟨A, c, hv⟩ := rf.open
  rw [hl] at hv
  subst hv
  clear hl
  obtain ⟨b, o, rfl, hc⟩ := rf.get (by omega)
  have HC := Lib.hid (show ∀ j, 1 ≤ j → j < 64 → w14.cell? ⟨b, o + j, none⟩ = some (.int .i64 0) from fun j h1 h2 => by
    rw [hc j h2]
    obtain ⟨m, rfl⟩ : ∃ m, j = m + 1 := ⟨j - 1, by omega⟩
    have : (1 :: List.replicate 63 (0 : Int))[m + 1]?.getD 0 = 0 := by
      rw [List.getElem?_cons_succ]
      cases h : (List.replicate 63 (0 : Int))[m]? with
      | none => rfl
      | some x =>
        have := List.eq_of_mem_replicate (List.mem_of_getElem? h)
        rw [this]; rfl
    rw [this])
  have c0 : w14.cell? ⟨b, o, none⟩ = some (.int .i64 1) := hc 0 (by omega)
  clear hc rf
  go_wp2_with fail
  go_loop [25] (fun i => ∃ k : Nat, 1 ≤ k ∧ k ≤ 64 ∧ i = .int .i64 (k : Int)) (fun i => 64 - (intOf i).toNat)
  case atStart => exact ⟨1, Nat.le_refl _, by omega, rfl⟩
  case round =>
    obtain ⟨k, hk1, hk, rfl⟩ := hrel
    clear c0
    rcases Nat.lt_or_ge k 64 with hlt | hge
    · have c1 := HC.out k hk1 hlt
      have hi0 : (0 : Int) ≤ (k : Int) := by omega
      have hi1 : (k : Int) < 64 := by omega
      go_wp2_with fail
      go_round
      case rel => exact ⟨k + 1, by omega, by omega, by simp⟩
      case measure => simp [intOf]; omega
    · have hi1 : ¬ (k : Int) < 64 := by omega
      go_wp2_with fail
      refine (same_yes _ _ [0, 0, 0] _ (ra.below ((Below.refl _ _).alloc (Nat.le_refl _) _)) (by simpa [I] using iRow_built w14 [0, 0, 0] (by decide))).mono ?_
      rintro e w15 ⟨rfl, b2⟩
      go_wp2_with fail
      go_ret
      exact ⟨rfl, bstep bb b2⟩
end Go.Proofs.Ytopllfkhkglogaa
