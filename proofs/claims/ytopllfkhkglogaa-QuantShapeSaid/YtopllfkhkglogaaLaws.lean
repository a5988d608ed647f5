/- The statements' walks: lives, QuantCalls. -/
import Derived.Test.YtopllfkhkglogaaMode
namespace Go.Proofs.Ytopllfkhkglogaa
open Go.RowKit Go.Shelf

abbrev Bd (n : Int) : Prop := -9223372036854775808 ≤ n ∧ n ≤ 9223372036854775807

theorem iRow_built (w : World) (zs : List Int) (h : zs.length ≤ 1000) : IRow (w.alloc (.cells (I zs).toArray 3)) (.slice (some ⟨w.heap.size, 0, none⟩) zs.length zs.length) zs := by
  refine ⟨_, _, rfl, Nat.le_refl _, by unfold maxLen; omega, fun h0 => ⟨w.heap.size, 0, rfl, by simp, fun j x hx => ?_⟩⟩
  rw [World.cell?_alloc_at _ _ _ _ rfl]
  simpa using hx

theorem bstep {w0 w w' : World} {o : Obj} (h : Below w0.heap.size w0 w) (hb : Below (w.alloc o).heap.size (w.alloc o) w') : Below w0.heap.size w0 w' := (h.alloc h.size o).trans (hb.mono (by simp; have := h.size; omega))
theorem bnext {w0 w w' : World} (h : Below w0.heap.size w0 w) (hb : Below w.heap.size w w') : Below w0.heap.size w0 w' := h.trans (hb.mono h.size)

theorem same_yes (va vb : Value) (xs : List Int) (w : World) (ha : IRow w va xs) (hb : IRow w vb xs) : Calls Try.prog 9 #[va, vb] w fun e w' => e = .returned (.bool true) ∧ Below w.heap.size w w' := by
  refine (same_any va vb xs xs w ha hb).mono ?_
  rintro e _ ⟨rfl, m, rfl⟩
  exact ⟨by simp, below_draws w _ 0 m⟩

set_option maxRecDepth 100000 in
set_option maxHeartbeats 1000000 in
theorem lives_any (w : World) : Calls Try.prog 7 #[] w fun e w' => e = .returned (.bool true) ∧ Below w.heap.size w w' := by
  have q1 : qErr [1, 3, 3, 9] 1 4 1 2 = 0 := by decide
  have q2 : checkE [1, 3, 3, 9] 1 4 = 0 := by decide
  have q3 : quantL [1, 3, 3, 9] 1 1 2 (candN 1 4) = [-2, -2, 0, -2] := by decide
  have q4 : modeL [1, 3, 3, 9] 1 (candN 1 4) = [1, 0, 2, 0] := by decide
  have Q1 := Lib.hid q1
  have Q2 := Lib.hid q2
  have Q3 := Lib.hid q3
  have Q4 := Lib.hid q4
  clear q1 q2 q3 q4
  have tok1 : True := trivial
  go_enter Try.func7, Try.ntmps7
  go_wp2_with (first
    | (go_at_call 8; refine (quant_any _ [1, 3, 3, 9] 1 4 1 2 _ (by simpa [I] using iRow_built w [1, 3, 3, 9] (by decide)) (by decide)).mono ?_; rintro e w1 ⟨v1, rfl, hr1, hb1⟩; rw [Q1.out, Q3.out] at hr1; rw [Q1.out])
    | (go_at_call 12; refine (mode_any _ [1, 3, 3, 9] 1 4 _ (.inl (by simpa [I] using iRow_built w1 [1, 3, 3, 9] (by decide))) (.inl (by decide))).mono ?_; rintro e w2 ⟨v2, rfl, hr2, hb2⟩; rw [Q2.out, Q4.out] at hr2; rw [Q2.out])
    | (go_at_call 9; have _t := tok1; refine (same_yes _ _ [-2, -2, 0, -2] _ (((IRow.below hr1 ((Below.refl _ _).alloc (Nat.le_refl _) _)).below hb2).below ((Below.refl _ _).alloc (Nat.le_refl _) _)) (by simpa [I] using iRow_built w2 [-2, -2, 0, -2] (by decide))).mono ?_; rintro e w3 ⟨rfl, hb3⟩; clear tok1)
    | (go_at_call 9; refine (same_yes _ _ [1, 0, 2, 0] _ (((IRow.below hr2 ((Below.refl _ _).alloc (Nat.le_refl _) _)).below hb3).below ((Below.refl _ _).alloc (Nat.le_refl _) _)) (by simpa [I] using iRow_built w3 [1, 0, 2, 0] (by decide))).mono ?_; rintro e w4 ⟨rfl, hb4⟩))
  go_ret
  exact ⟨rfl, bstep (bstep (bstep (bstep (Below.refl _ _) hb1) hb2) hb3) hb4⟩

set_option maxRecDepth 100000 in
set_option maxHeartbeats 2000000 in
theorem calls_any (v : Value) (zs : List Int) (lo hi p q : Int) (w : World) (h : IRow w v zs) (_ : Bd lo) (_ : Bd hi) (_ : Bd p) (_ : Bd q) :
    Calls Try.prog 5 #[v, .int .i64 lo, .int .i64 hi, .int .i64 p, .int .i64 q] w fun e w' => e = .returned (.bool true) ∧ Below w.heap.size w w' := by
  have hv : ∃ A c, v = .slice A zs.length c := by obtain ⟨A, c, rfl, _⟩ := h; exact ⟨A, c, rfl⟩
  obtain ⟨A, c, rfl⟩ := hv
  by_cases hl : 300 < zs.length
  · have hl' : (300 : Int) < (zs.length : Int) := by omega
    go_enter Try.func5, Try.ntmps5
    go_wp2_with (go_at_call 7; refine (lives_any _).mono ?_; rintro e w1 ⟨rfl, b1⟩)
    go_ret
    exact ⟨rfl, b1⟩
  have hl' : ¬ (300 : Int) < (zs.length : Int) := by omega
  have hz : zs.length ≤ 300 := by omega
  clear hl
  have hs : ∀ (a b : Value) (L1 L2 : List Int) (e1 e2 : Int), True → True := fun _ _ _ _ _ _ _ => trivial
  clear hs
  go_enter Try.func5, Try.ntmps5
  go_wp2_with (first
    | (go_at_call 7; refine (lives_any _).mono ?_; rintro e w1 ⟨rfl, b1⟩; have rv := h.below b1; have bb := b1)
    | (go_at_call 13; refine (own_any _ zs _ rv (by omega)).mono ?_; rintro e w2 ⟨vl, rfl, rl, b2, _⟩; replace rv := rv.below b2; replace bb := bnext bb b2)
    | (go_at_call 8; refine (quant_any _ zs lo hi p q _ rl (by omega)).mono ?_; rintro e w3 ⟨va, rfl, ra, b3⟩; replace rv := rv.below b3; replace rl := rl.below b3; replace bb := bnext bb b3)
    | (go_at_call 14; refine (quantRef_any _ zs lo hi p q _ rv).mono ?_; rintro e w4 ⟨vb, rfl, rb, b4⟩; replace rv := rv.below b4; replace rl := rl.below b4; replace ra := ra.below b4; replace bb := bnext bb b4)
    | (go_at_call 12; refine (mode_any _ zs lo hi _ (.inl rl) (.inl (by omega))).mono ?_; rintro e w5 ⟨vc, rfl, rc, b5⟩; replace rv := rv.below b5; replace rl := rl.below b5; replace ra := ra.below b5; replace rb := rb.below b5; replace bb := bnext bb b5)
    | (go_at_call 15; refine (modeRef_any _ zs lo hi _ rv).mono ?_; rintro e w6 ⟨vd, rfl, rd, b6⟩; replace rv := rv.below b6; replace rl := rl.below b6; replace ra := ra.below b6; replace rb := rb.below b6; replace rc := rc.below b6; replace bb := bnext bb b6)
    | (go_at_call 11; refine (reach_any p q _).mono ?_; rintro e w7 ⟨rfl, b7⟩; replace rv := rv.below b7; replace rl := rl.below b7; replace ra := ra.below b7; replace rb := rb.below b7; replace rc := rc.below b7; replace rd := rd.below b7; replace bb := bnext bb b7)
    | (go_at_call 16; refine (reachRef_any p q _).mono ?_; rintro e w8 ⟨rfl, rfl⟩)
    | (go_at_call 9; refine (same_yes _ _ _ _ (by first | exact ra | exact rc | exact rl) (by first | exact rb | exact rd | exact rv)).mono ?_; rintro e w9 ⟨rfl, b9⟩; replace rv := rv.below b9; replace rl := rl.below b9; replace ra := ra.below b9; replace rb := rb.below b9; replace rc := rc.below b9; replace rd := rd.below b9; replace bb := bnext bb b9))
  all_goals (go_ret; exact ⟨rfl, bb⟩)
end Go.Proofs.Ytopllfkhkglogaa
