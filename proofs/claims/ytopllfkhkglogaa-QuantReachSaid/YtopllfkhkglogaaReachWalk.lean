/- QuantReach: the walk. -/
import Derived.Test.YtopllfkhkglogaaReach
namespace Go.Proofs.Ytopllfkhkglogaa
open Go.RowKit Go.Shelf

theorem app_iRow {w W w1 : World} {n : Nat} {u v1 : Value} {zs : List Int} {x : Int} (h : w1.ownsRow w.heap.size 3 1 v1 n (I zs ++ [.int .i64 x])) : IRow w1 v1 (zs ++ [x]) := by
  rw [I_snoc] at h
  exact iRow_of_owns h

set_option maxRecDepth 100000 in
set_option maxHeartbeats 4000000 in
theorem reachLaw_any (v : Value) (zs : List Int) (more lo hi p q : Int) (w : World) (h : IRow w v zs) (_ : Bd more) (_ : Bd lo) (_ : Bd hi) (_ : Bd p) (_ : Bd q) :
    Calls Try.prog 6 #[v, .int .i64 more, .int .i64 lo, .int .i64 hi, .int .i64 p, .int .i64 q] w fun e w' => e = .returned (.bool true) ∧ Below w.heap.size w w' := by
  obtain ⟨A, c, rfl⟩ := h.open
  by_cases hl : 300 < zs.length
  · have hl' : (300 : Int) < (zs.length : Int) := by omega
    go_enter Try.func6, Try.ntmps6
    go_wp2_with (go_at_call 7; refine (lives_any _).mono ?_; rintro e w1 ⟨rfl, b1⟩)
    go_ret
    exact ⟨rfl, b1⟩
  have hl' : ¬ (300 : Int) < (zs.length : Int) := by omega
  have hz : zs.length ≤ 300 := by omega
  have hz2 : (zs ++ [more]).length ≤ 301 := by simp; omega
  clear hl
  obtain ⟨i0, hi3, hz0, hz1, hz3⟩ := info_parts Try.info3
  go_enter Try.func6, Try.ntmps6
  go_wp2_with fail
  refine (lives_any _).mono ?_
  rintro e w1 ⟨rfl, b1⟩
  have rv := h.below b1
  have bb := b1
  clear b1
  go_wp2_with fail
  refine (own_any _ zs _ rv (by omega)).mono ?_
  rintro e w2 ⟨vl, rfl, rl, b2, hown⟩
  obtain ⟨Al, cl, rfl⟩ := slice_of_owns hown
  have hsz := b2.size
  go_wp2_with (at_builtin; refine wpList_append_own _ rfl _ _ 22 rfl w1.heap.size 3 i0 (.int .i64 0) 1 8 Try.underlying22 hi3 hz0 hz1 hz3 rfl (by decide) _ _ _ rfl (hown.alloc _) ⟨w2.heap.size, 0, none⟩ 1 1 [.int .i64 more] rfl rfl (cell_one_new _ _ _) (by simp [Value.oneCell']) (by unfold maxLen; omega) (by omega) (by simp; omega) ?_; intro v1 w3 hown1 hgrow1 _; have b3 := below_app b2 b2.size hown hgrow1; have rw' := iRow_of_owns (by rw [← I_snoc]; exact hown1); have bb3 := bnext bb b3; clear hown1 hgrow1)
  replace rv := rv.below b3
  clear b2 b3 hown rl hsz bb
  have bb := bb3
  clear bb3
  refine (quant_any _ zs lo hi p q _ rv (by omega)).mono ?_
  rintro e w4 ⟨va, rfl, ra, b2⟩
  replace rv := rv.below b2
  replace rw' := rw'.below b2
  replace bb := bnext bb b2
  clear b2
  go_wp2_with fail
  refine (quant_any _ (zs ++ [more]) lo hi p q _ rw' (by omega)).mono ?_
  rintro e w5 ⟨vb, rfl, rb, b2⟩
  replace rv := rv.below b2
  replace rw' := rw'.below b2
  replace ra := ra.below b2
  replace bb := bnext bb b2
  clear b2
  go_wp2_with fail
  refine (mode_any _ zs lo hi _ (.inl rv) (.inl (by omega))).mono ?_
  rintro e w6 ⟨vc, rfl, rc, b2⟩
  replace rw' := rw'.below b2
  replace ra := ra.below b2
  replace rb := rb.below b2
  replace bb := bnext bb b2
  clear b2 rv
  go_wp2_with fail
  refine (mode_any _ (zs ++ [more]) lo hi _ (.inl rw') (.inl (by omega))).mono ?_
  rintro e w7 ⟨vd, rfl, rd, b2⟩
  replace ra := ra.below b2
  replace rb := rb.below b2
  replace rc := rc.below b2
  replace bb := bnext bb b2
  clear b2 rw'
  go_wp2_with fail
  refine (reach_any p q _).mono ?_
  rintro e w8 ⟨rfl, b2⟩
  replace ra := ra.below b2
  replace rb := rb.below b2
  replace rc := rc.below b2
  replace rd := rd.below b2
  replace bb := bnext bb b2
  clear b2
  have HZ := Lib.hid (And.intro hz hz2)
  clear hz hz2 h
  rcases checkE_cases (zs := zs ++ [more]) (lo := lo) (hi := hi) with ⟨hE, _, c1, c2, c3, c4⟩ | hE | hE
  rotate_left
  · have hF : ∀ x, x = checkE zs lo hi → qErr zs lo hi p q = if x = 0 then (if validB p q then 0 else 2) else x := fun x e => by rw [e]; rfl
    rw [hE] at rd
    replace rd : IRow w8 vd [] := by simpa using rd
    obtain ⟨Ad, cd, rfl⟩ := rd.open
    rw [hE]
    clear hE rd rb
    rcases checkE_cases (zs := zs) (lo := lo) (hi := hi) with ⟨hG, _⟩ | hG | hG
    · rw [hG]
      clear ra rc hF hG
      go_wp2_with fail
      all_goals (go_ret; exact ⟨rfl, bb⟩)
    · have hq := hF 4 hG.symm
      replace hq : qErr zs lo hi p q = 4 := by simpa using hq
      rw [hG] at rc
      rw [hq] at ra
      rw [hG, hq]
      replace ra : IRow w8 va [] := by simpa using ra
      replace rc : IRow w8 vc [] := by simpa using rc
      obtain ⟨Aa, ca, rfl⟩ := ra.open
      obtain ⟨Ac, cc, rfl⟩ := rc.open
      clear ra rc hF hG hq
      go_wp2_with fail
      all_goals (go_ret; exact ⟨rfl, bb⟩)
    · have hq := hF 2 hG.symm
      replace hq : qErr zs lo hi p q = 2 := by simpa using hq
      rw [hG] at rc
      rw [hq] at ra
      rw [hG, hq]
      replace ra : IRow w8 va [] := by simpa using ra
      replace rc : IRow w8 vc [] := by simpa using rc
      obtain ⟨Aa, ca, rfl⟩ := ra.open
      obtain ⟨Ac, cc, rfl⟩ := rc.open
      clear ra rc hF hG hq
      go_wp2_with fail
      all_goals (go_ret; exact ⟨rfl, bb⟩)
  · have hF : ∀ x, x = checkE zs lo hi → qErr zs lo hi p q = if x = 0 then (if validB p q then 0 else 2) else x := fun x e => by rw [e]; rfl
    rw [hE] at rd
    replace rd : IRow w8 vd [] := by simpa using rd
    obtain ⟨Ad, cd, rfl⟩ := rd.open
    rw [hE]
    clear hE rd rb
    rcases checkE_cases (zs := zs) (lo := lo) (hi := hi) with ⟨hG, _⟩ | hG | hG
    · rw [hG]
      clear ra rc hF hG
      go_wp2_with fail
      all_goals (go_ret; exact ⟨rfl, bb⟩)
    · have hq := hF 4 hG.symm
      replace hq : qErr zs lo hi p q = 4 := by simpa using hq
      rw [hG] at rc
      rw [hq] at ra
      rw [hG, hq]
      replace ra : IRow w8 va [] := by simpa using ra
      replace rc : IRow w8 vc [] := by simpa using rc
      obtain ⟨Aa, ca, rfl⟩ := ra.open
      obtain ⟨Ac, cc, rfl⟩ := rc.open
      clear ra rc hF hG hq
      go_wp2_with fail
      all_goals (go_ret; exact ⟨rfl, bb⟩)
    · have hq := hF 2 hG.symm
      replace hq : qErr zs lo hi p q = 2 := by simpa using hq
      rw [hG] at rc
      rw [hq] at ra
      rw [hG, hq]
      replace ra : IRow w8 va [] := by simpa using ra
      replace rc : IRow w8 vc [] := by simpa using rc
      obtain ⟨Aa, ca, rfl⟩ := ra.open
      obtain ⟨Ac, cc, rfl⟩ := rc.open
      clear ra rc hF hG hq
      go_wp2_with fail
      all_goals (go_ret; exact ⟨rfl, bb⟩)
  have hG := checkE_snoc hE
  obtain ⟨y, hy⟩ : ∃ y : Int, (if validB p q then 0 else 2 : Int) = y := ⟨_, rfl⟩
  obtain ⟨mm, hmm⟩ : ∃ mm : Int, (if validB p q then mx p (q - p) else 0 : Int) = mm := ⟨_, rfl⟩
  have q1 : qErr zs lo hi p q = y := by simp [qErr, hG, hy]
  have q2 : qErr (zs ++ [more]) lo hi p q = y := by simp [qErr, hE, hy]
  rw [q1] at ra
  rw [q2] at rb
  rw [hG] at rc
  rw [hE] at rd
  rw [q1, q2, hG, hE, hy, hmm]
  replace rc : IRow w8 vc (modeL zs lo (candN lo hi)) := by simpa using rc
  replace rd : IRow w8 vd (modeL (zs ++ [more]) lo (candN lo hi)) := by simpa using rd
  have HY := Lib.hid hy
  have HMM := Lib.hid hmm
  have hN : (candN lo hi : Int) = hi - lo + 1 := by unfold candN; omega
  have hN2 : candN lo hi ≤ 64 := by omega
  clear q1 q2 hG hE hy hmm
  obtain ⟨Ac, cc, hvc⟩ := rc.open
  obtain ⟨Ad, cd, hvd⟩ := rd.open
  rw [modeL_length] at hvc hvd
  subst hvc
  subst hvd
  generalize hNN : candN lo hi = N at *
  have HNN := Lib.hid hNN
  have HN := Lib.hid hN
  have t0 : ((N : Int) != hi - lo + 1) = false := by simp [hN]
  have t1 : ((N : Int) != (N : Int)) = false := by simp
  have HRC := Lib.hid rc
  have HRD := Lib.hid rd
  clear hNN hN rc rd
  go_wp2_with fail
  go_loopw [24] (fun i wr => ∃ k : Nat, k ≤ N ∧ i = .int .i64 (k : Int) ∧ ∃ m, wr = w8.drewN m) (fun i _ => N - (intOf i).toNat)
  case atStart => exact ⟨0, Nat.zero_le _, rfl, 0, rfl⟩
  case round =>
    obtain ⟨k, hk, rfl, m, rfl⟩ := hrel
    clear t0 t1
    rcases Nat.lt_or_ge k N with hlt | hge
    · have hNi := HN.out
      obtain ⟨b, o, rfl, hcc⟩ := HRC.out.get (by omega)
      obtain ⟨b', o', rfl, hcd⟩ := HRD.out.get (by omega)
      have cC := hcc k hlt
      have cD := hcd k hlt
      rw [modeL_get hlt] at cC cD
      rw [cntEq_snoc] at cD
      have hcn := (cnt_le zs (lo + (k : Int))).2.2
      have hz := HZ.out.1
      have hi0 : (0 : Int) ≤ (k : Int) := by omega
      have hi1 : (k : Int) < (N : Int) := by omega
      have hlk : lo + (k : Int) ≤ 1125899906842624 := by omega
      have hlk2 : -1125899906842624 ≤ lo + (k : Int) := by omega
      clear hcc hcd hNi
      generalize cntEq zs (lo + (k : Int)) = n1 at *
      have hn1 : (n1 : Int) ≤ 300 := by omega
      have hmx : Try.prog.follows .mixedOrders = true := by kernel_rfl
      by_cases he : more = lo + (k : Int)
      · rw [if_pos he] at cD
        replace cD : w8.cell? ⟨b', o' + k, none⟩ = some (.int .i64 ((n1 : Int) + 1)) := by rw [cD]; simp
        have u1 : ((n1 : Int) + 1 != (n1 : Int)) = true := by simp; omega
        have u2 : ((n1 : Int) + 1 != (n1 : Int) + 1) = false := by simp
        have u3 : (lo + (k : Int) != more) = false := by simp [he]
        have u4 : ((n1 : Int) + 1 == (n1 : Int)) = false := by simp; omega
        have g1 : IntKind.i64.wrap ((n1 : Int) + 1) = (n1 : Int) + 1 := IntWalk.i64_in _ (by omega)
        have g2 : IntKind.i64.wrap (lo + (k : Int)) = lo + (k : Int) := IntWalk.i64_in _ (by omega)
        clear he
        go_wp2_with fail
        go_quiet (fail)
        clear g1 g2
        go_wp2_with fail
        go_roundw
        case rel => exact ⟨k + 1, by omega, by simp, _, rfl⟩
        case measure => simp [intOf]; omega
      · rw [if_neg he] at cD
        replace cD : w8.cell? ⟨b', o' + k, none⟩ = some (.int .i64 (n1 : Int)) := by rw [cD]; simp
        have u1 : ((n1 : Int) != (n1 : Int)) = false := by simp
        have u2 : ((n1 : Int) == (n1 : Int)) = true := by simp
        have u3 : (lo + (k : Int) == more) = false := by simp; omega
        have g2 : IntKind.i64.wrap (lo + (k : Int)) = lo + (k : Int) := IntWalk.i64_in _ (by omega)
        clear he
        go_wp2_with fail
        go_quiet (fail)
        clear g2
        go_wp2_with fail
        go_roundw
        case rel => exact ⟨k + 1, by omega, by simp, _, rfl⟩
        case measure => simp [intOf]; omega
    · have hge' : ¬ (k : Int) < (N : Int) := by omega
      cases hvl : validB p q with
      | false =>
        have hyy : 2 = y := by rw [← HY.out, hvl]; rfl
        subst hyy
        replace ra : IRow w8 va [] := by simpa using ra
        replace rb : IRow w8 vb [] := by simpa using rb
        obtain ⟨Aa, ca, rfl⟩ := ra.open
        obtain ⟨Ab, cb, rfl⟩ := rb.open
        clear hvl
        go_wp2_with fail
        go_ret
        exact ⟨rfl, bnext bb (below_draws w8 _ 0 m)⟩
      | true =>
        have hyy : 0 = y := by rw [← HY.out, hvl]; rfl
        subst hyy
        have hm2 : mx p (q - p) = mm := by rw [← HMM.out, hvl]; rfl
        subst hm2
        replace ra : IRow w8 va (quantL zs lo p q N) := by simpa using ra
        replace rb : IRow w8 vb (quantL (zs ++ [more]) lo p q N) := by simpa using rb
        obtain ⟨Aa, ca, hva⟩ := ra.open
        obtain ⟨Ab, cb, hvb⟩ := rb.open
        rw [quantL_length] at hva hvb
        subst hva
        subst hvb
        have HRA := Lib.hid ra
        have HRB := Lib.hid rb
        obtain ⟨b1, b2, b3, b4⟩ : 1 ≤ q ∧ q ≤ 1000 ∧ 0 ≤ p ∧ p ≤ q := by simpa [validB] using hvl
        have HVL := Lib.hid hvl
        have t1 : ((N : Int) != (N : Int)) = false := by simp
        have hmx1 : mx p (q - p) ≤ 1000 := by unfold mx; split <;> omega
        have hmx0 : 0 ≤ mx p (q - p) := by unfold mx; split <;> omega
        have HNR := Lib.hid (fun x => qv_near zs more p q x b3 b4)
        generalize mx p (q - p) = d at *
        clear ra rb hvl
        go_wp2_with fail
        go_loopw [25] (fun i wr => ∃ k : Nat, k ≤ N ∧ i = .int .i64 (k : Int) ∧ ∃ m, wr = w8.drewN m) (fun i _ => N - (intOf i).toNat)
        case atStart => exact ⟨0, Nat.zero_le _, rfl, m, rfl⟩
        case round =>
          obtain ⟨k2, hk2, rfl, m2, rfl⟩ := hrel
          clear t1
          rcases Nat.lt_or_ge k2 N with hlt2 | hge2
          · obtain ⟨ba, oa, rfl, hca⟩ := HRA.out.get (by omega)
            obtain ⟨bb', ob, rfl, hcb⟩ := HRB.out.get (by omega)
            have cA := hca k2 hlt2
            have cB := hcb k2 hlt2
            rw [quantL_get hlt2] at cA cB
            obtain ⟨r1, r2⟩ := HNR.out (lo + (k2 : Int))
            have r3 := qv_nonpos zs p q (lo + (k2 : Int))
            have r4 := qv_nonpos (zs ++ [more]) p q (lo + (k2 : Int))
            have r5 := qv_low zs p q (lo + (k2 : Int)) HVL.out (by have := HZ.out.1; omega)
            have r6 := qv_low (zs ++ [more]) p q (lo + (k2 : Int)) HVL.out (by have := HZ.out.2; omega)
            have hi0 : (0 : Int) ≤ (k2 : Int) := by omega
            have hi1 : (k2 : Int) < (N : Int) := by omega
            clear hca hcb
            generalize qv zs p q (lo + (k2 : Int)) = x1 at *
            generalize qv (zs ++ [more]) p q (lo + (k2 : Int)) = x2 at *
            have u1 : decide (0 < x1) = false := by simp; omega
            have u2 : decide (0 < x2) = false := by simp; omega
            have u3 : decide (d < x1 - x2) = false := by simp; omega
            have u4 : decide (d < x2 - x1) = false := by simp; omega
            have g1 : IntKind.i64.wrap (x1 - x2) = x1 - x2 := IntWalk.i64_in _ (by omega)
            have g2 : IntKind.i64.wrap (x2 - x1) = x2 - x1 := IntWalk.i64_in _ (by omega)
            have hmx : Try.prog.follows .mixedOrders = true := by kernel_rfl
            go_wp2_with fail
            go_quiet (fail)
            clear g1 g2
            go_wp2_with fail
            go_roundw
            case rel => exact ⟨k2 + 1, by omega, by simp, _, rfl⟩
            case measure => simp [intOf]; omega
          · have hge3 : ¬ (k2 : Int) < (N : Int) := by omega
            go_wp2_with fail
            go_ret
            exact ⟨rfl, bnext bb (below_draws w8 _ 0 m2)⟩
end Go.Proofs.Ytopllfkhkglogaa
