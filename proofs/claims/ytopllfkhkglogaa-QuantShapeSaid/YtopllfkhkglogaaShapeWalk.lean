/- QuantShape: the walk. -/
import Derived.Test.YtopllfkhkglogaaShape
namespace Go.Proofs.Ytopllfkhkglogaa
open Go.RowKit Go.Shelf

theorem iRow_small {w : World} {v : Value} {n : Nat} {base : Nat} {L : List Int} (h : w.ownsRow base 3 1 v n (I L)) : IRow w v L := iRow_of_owns h

set_option maxRecDepth 100000 in
set_option maxHeartbeats 8000000 in
theorem shape_any (v : Value) (zs : List Int) (lo hi p q : Int) (w : World) (h : IRow w v zs) (_ : Bd lo) (_ : Bd hi) (_ : Bd p) (_ : Bd q) :
    Calls Try.prog 3 #[v, .int .i64 lo, .int .i64 hi, .int .i64 p, .int .i64 q] w fun e w' => e = .returned (.bool true) ∧ Below w.heap.size w w' := by
  obtain ⟨A, c, rfl⟩ := h.open
  by_cases hl : 300 < zs.length
  · have hl' : (300 : Int) < (zs.length : Int) := by omega
    go_enter Try.func3, Try.ntmps3
    go_wp2_with (go_at_call 7; refine (lives_any _).mono ?_; rintro e w1 ⟨rfl, b1⟩)
    go_ret
    exact ⟨rfl, b1⟩
  have hl' : ¬ (300 : Int) < (zs.length : Int) := by omega
  have hz : zs.length ≤ 300 := by omega
  clear hl
  obtain ⟨i0, hi3, hz0, hz1, hz3⟩ := info_parts Try.info3
  go_enter Try.func3, Try.ntmps3
  go_wp2_with fail
  refine (lives_any _).mono ?_
  rintro e w1 ⟨rfl, b1⟩
  have rv := h.below b1
  have bb := b1
  clear b1 h
  go_wp2_with fail
  refine (quant_any _ zs lo hi p q _ rv (by omega)).mono ?_
  rintro e w2 ⟨va, rfl, ra, b2⟩
  replace rv := rv.below b2
  replace bb := bnext bb b2
  clear b2
  have RV := Lib.hid rv
  have HZ := Lib.hid hz
  clear rv
  go_wp2_with fail
  go_loopw [13, 14] (fun u i wr => ∃ r : Nat, r ≤ zs.length ∧ i = .int .i64 ((r : Int) - 1) ∧ wr.ownsRow w2.heap.size 3 1 u (zs.length - r) (I (zs.drop r).reverse) ∧ Below w2.heap.size w2 wr) (fun _ i _ => (intOf i + 1).toNat)
  case atStart => exact ⟨zs.length, Nat.le_refl _, rfl, by simpa [I] using World.ownsRow_nil w2 w2.heap.size 3 1, Below.refl _ _⟩
  case round =>
    obtain ⟨r, hr, rfl, hown, hbr⟩ := hrel
    cases r with
    | succ s =>
      have e : ((s + 1 : Nat) : Int) - 1 = (s : Int) := by omega
      rw [e]
      clear e
      have hs : s < zs.length := by omega
      obtain ⟨b, o, rfl, hcell⟩ := (RV.out.below hbr).get (by omega)
      have c0 := hcell s hs
      have HD := Lib.hid (drop_rev hs)
      have hi0 : (0 : Int) ≤ (s : Int) := by omega
      have hi1 : (s : Int) < (zs.length : Int) := by omega
      have hsub : zs.length - (s + 1) + 1 = zs.length - s := by omega
      have HSUB := Lib.hid hsub
      clear hcell hsub
      generalize zs[s]?.getD 0 = z at *
      generalize zs.length - (s + 1) = t at *
      have ht : t ≤ 300 := by have := HSUB.out; omega
      go_wp2_with (at_builtin; refine wpList_append_own _ rfl _ _ 22 rfl w2.heap.size 3 i0 (.int .i64 0) 1 8 Try.underlying22 hi3 hz0 hz1 hz3 rfl (by decide) _ _ _ rfl (hown.alloc _) ⟨wr.heap.size, 0, none⟩ 1 1 [.int .i64 _] rfl rfl (cell_one_new _ _ _) (by simp [Value.oneCell']) (by unfold maxLen; omega) (by omega) (by simp; have := hbr.size; omega) ?_; intro v1 w3 hown1 hgrow1 _)
      go_roundw
      case rel => exact ⟨s, by omega, rfl, by rw [HD.out, ← HSUB.out]; exact own_snoc hown1 rfl, below_app hbr hbr.size hown hgrow1⟩
      case measure => simp [intOf]
    | zero =>
      have hz' : ¬ (0 : Int) ≤ ((0 : Nat) : Int) - 1 := by omega
      have rb := iRow_of_owns hown
      rw [List.drop_zero] at rb
      replace ra := ra.below hbr
      replace bb := bnext bb hbr
      have RV2 := Lib.hid (RV.out.below hbr)
      clear hown hbr
      clear RV
      go_wp2_with fail
      refine (quant_any _ zs.reverse lo hi p q _ rb (by rw [List.length_reverse]; omega)).mono ?_
      rintro e w4 ⟨vb, rfl, rb2, b2⟩
      rw [qErr_rev, quantL_rev] at rb2
      rw [qErr_rev]
      replace ra := ra.below b2
      replace bb := bnext bb b2
      have RV3 := Lib.hid (RV2.out.below b2)
      clear b2 RV2 rb
      have hee : (qErr zs lo hi p q != qErr zs lo hi p q) = false := by simp
      go_wp2_with fail
      refine (same_yes _ _ _ _ ra rb2).mono ?_
      rintro e w5 ⟨rfl, b2⟩
      replace ra := ra.below b2
      replace bb := bnext bb b2
      have RV4 := Lib.hid (RV3.out.below b2)
      clear b2 RV3 rb2 hee
      -- the list of utilities
      obtain ⟨N, hN, hfacts⟩ : ∃ N : Nat, (if qErr zs lo hi p q = 0 then quantL zs lo p q (candN lo hi) else []).length = N ∧ (0 < N → N ≤ 64 ∧ 0 ≤ q ∧ validB p q = true ∧ ∀ k, k < N → (if qErr zs lo hi p q = 0 then quantL zs lo p q (candN lo hi) else [])[k]?.getD 0 = qv zs p q (lo + (k : Int))) := by
        by_cases hq : qErr zs lo hi p q = 0
        · refine ⟨candN lo hi, by rw [if_pos hq, quantL_length], fun _ => ?_⟩
          have hc : checkE zs lo hi = 0 := by
            unfold qErr at hq
            split at hq
            · assumption
            · exact absurd hq (by assumption)
          have hv : validB p q = true := by
            unfold qErr at hq
            rw [hc] at hq
            cases h : validB p q with
            | true => rfl
            | false => rw [h] at hq; simp at hq
          have hqq : 1 ≤ q ∧ q ≤ 1000 ∧ 0 ≤ p ∧ p ≤ q := by simpa [validB] using hv
          rcases checkE_cases (zs := zs) (lo := lo) (hi := hi) with ⟨_, _, c1, c2, c3, c4⟩ | h | h
          · refine ⟨by unfold candN; omega, by omega, hv, fun k hk => ?_⟩
            rw [if_pos hq, quantL_get hk]
          · rw [hc] at h; cases h
          · rw [hc] at h; cases h
        · exact ⟨0, by rw [if_neg hq]; rfl, fun h => by omega⟩
      obtain ⟨Aa, ca, hva⟩ := ra.open
      rw [hN] at hva
      subst hva
      have HRA := Lib.hid ra
      have HF := Lib.hid hfacts
      clear ra hN hfacts
      go_wp2_with fail
      go_loopw [17, 18] (fun f i wr => ∃ (k : Nat) (fb : Bool), i = .int .i64 ((k : Int) + 1) ∧ k ≤ N ∧ f = .bool fb ∧ (fb = true → Down zs p q (lo + (k : Int))) ∧ ∃ m, wr = w5.drewN m) (fun _ i _ => N + 1 - (intOf i).toNat)
      case atStart => exact ⟨0, false, rfl, Nat.zero_le _, rfl, (fun h => by cases h), 0, rfl⟩
      case round =>
        obtain ⟨k, fb, rfl, hk, rfl, hdn, m, rfl⟩ := hrel
        have hz := HZ.out
        rcases Nat.lt_or_ge (k + 1) N with hlt | hge
        · obtain ⟨n64, hq0, hvl, hget⟩ := HF.out (by omega)
          obtain ⟨b, o, rfl, hcell⟩ := HRA.out.get (by omega)
          have c0 := hcell k (by omega)
          have c1 := hcell (k + 1) hlt
          rw [hget k (by omega)] at c0
          rw [hget (k + 1) hlt] at c1
          have HD1 := Lib.hid (fun h => down_step (zs := zs) (p := p) (x := lo + (k : Int)) (y := lo + ((k + 1 : Nat) : Int)) hq0 (by omega) h)
          have HD2 := Lib.hid (fun h => down_start (zs := zs) (p := p) (x := lo + (k : Int)) (y := lo + ((k + 1 : Nat) : Int)) hq0 (by omega) h)
          have hi0 : (0 : Int) ≤ (k : Int) := by omega
          have hi1 : (k : Int) + 1 < (N : Int) := by omega
          have hk2 : (k : Int) ≤ 64 := by omega
          have e1 : (k : Int) + 1 - 1 = (k : Int) := by omega
          have e2 : ((k : Int) + 1).toNat = k + 1 := by omega
          have hmx : Try.prog.follows .mixedOrders = true := by kernel_rfl
          have HDN := Lib.hid hdn
          clear hget hcell hdn
          generalize hv0 : qv zs p q (lo + (k : Int)) = v0 at *
          generalize hv1 : qv zs p q (lo + ((k + 1 : Nat) : Int)) = v1 at *
          clear hv0 hv1
          cases fb with
          | true =>
            obtain ⟨g1, g2⟩ := HD1.out (HDN.out rfl)
            have HG2 := Lib.hid g2
            have u1 : decide (v0 < v1) = false := by simp; omega
            clear g2
            go_wp2_with fail
            go_quiet (fail)
            go_wp2_with fail
            go_quiet (fail)
            go_wp2_with fail
            go_roundw
            case rel => exact ⟨k + 1, true, by simp, by omega, rfl, fun _ => HG2.out, _, rfl⟩
            case measure => simp [intOf]; omega
          | false =>
            by_cases hlt2 : v1 < v0
            · have HG2 := Lib.hid (HD2.out hlt2)
              have u1 : decide (v1 < v0) = true := by simpa using hlt2
              go_wp2_with fail
              go_quiet (fail)
              go_wp2_with fail
              go_quiet (fail)
              go_wp2_with fail
              go_roundw
              case rel => exact ⟨k + 1, true, by simp, by omega, rfl, fun _ => HG2.out, _, rfl⟩
              case measure => simp [intOf]; omega
            · have u1 : decide (v1 < v0) = false := by simp; omega
              go_wp2_with fail
              go_quiet (fail)
              go_wp2_with fail
              go_quiet (fail)
              go_wp2_with fail
              go_roundw
              case rel => exact ⟨k + 1, false, by simp, by omega, rfl, (fun h => by cases h), _, rfl⟩
              case measure => simp [intOf]; omega
        · have hge' : ¬ (k : Int) + 1 < (N : Int) := by omega
          have bbd := bnext bb (below_draws w5 _ 0 m)
          have RV5 := Lib.hid (show IRow (w5.drewN m) _ _ from RV4.out)
          clear hdn RV4 HRA HF bb
          generalize w5.drewN m = w6 at *
          go_wp2_with fail
          go_loopw [19, 20, 21, 22] (fun u lst mst i wr => ∃ (j : Nat) (a b : Int), j ≤ zs.length ∧ i = .int .i64 (j : Int) ∧ lst = .int .i64 a ∧ mst = .int .i64 b ∧ 0 ≤ a ∧ a ≤ 40 ∧ 0 ≤ b ∧ b ≤ 40 ∧ (∀ y ∈ (zs.take j).map (· % 41), a ≤ y ∧ y ≤ b) ∧
            wr.ownsRow w6.heap.size 3 1 u j (I ((zs.take j).map (· % 41))) ∧ Below w6.heap.size w6 wr) (fun _ _ _ i _ => zs.length - (intOf i).toNat)
          case atStart => exact ⟨0, 40, 0, Nat.zero_le _, rfl, rfl, rfl, by omega, by omega, by omega, by omega, by simp, World.ownsRow_nil _ _ _ _, Below.refl _ _⟩
          case round =>
            obtain ⟨j, a, b, hj, rfl, rfl, rfl, ha0, ha1, hb0, hb1, hall, hown, hbr⟩ := hrel
            have HALL := Lib.hid hall
            clear hall
            rcases Nat.lt_or_ge j zs.length with hlt | hge2
            · obtain ⟨bb1, o, rfl, hcell⟩ := (RV5.out.below hbr).get (by omega)
              have c0 := hcell j hlt
              have HS := Lib.hid (small_snoc hlt)
              have hi0 : (0 : Int) ≤ (j : Int) := by omega
              have hi1 : (j : Int) < (zs.length : Int) := by omega
              clear hcell
              generalize zs[j]?.getD 0 = z at *
              have z0 : 0 ≤ z % 41 := Int.emod_nonneg _ (by omega)
              have z1 : z % 41 ≤ 40 := by have := Int.emod_lt_of_pos z (show (0 : Int) < 41 by omega); omega
              have fin : ∀ a' b' : Int, a' ≤ a → a' ≤ z % 41 → b ≤ b' → z % 41 ≤ b' → ∀ y ∈ (zs.take (j + 1)).map (· % 41), a' ≤ y ∧ y ≤ b' := by
                intro a' b' h1 h2 h3 h4 y hy
                rw [HS.out] at hy
                rcases List.mem_append.1 hy with hy | hy
                · have := HALL.out y hy; omega
                · simp at hy; subst hy; exact ⟨h2, h4⟩
              have FIN := Lib.hid fin
              clear fin
              go_wp2_with (first
                | (go_at_call 10; refine (pick_any z 41 _ (by omega) (by omega)).mono ?_; rintro e w9 ⟨rfl, rfl⟩)
                | (at_builtin; refine wpList_append_own _ rfl _ _ 22 rfl w6.heap.size 3 i0 (.int .i64 0) 1 8 Try.underlying22 hi3 hz0 hz1 hz3 rfl (by decide) _ _ _ rfl (hown.alloc _) ⟨w9.heap.size, 0, none⟩ 1 1 [.int .i64 _] rfl rfl (cell_one_new _ _ _) (by simp [Value.oneCell']) (by unfold maxLen; omega) (by omega) (by simp; have := hbr.size; omega) ?_; intro v1 w3 hown1 hgrow1 _))
              go_roundw
              case rel => exact ⟨j + 1, min a (z % 41), max b (z % 41), by omega, by simp, rfl, rfl, by omega, by omega, by omega, by omega, FIN.out _ _ (by omega) (by omega) (by omega) (by omega), by rw [HS.out]; exact own_snoc hown1 rfl, below_app hbr hbr.size hown hgrow1⟩
              case measure => simp [intOf]; omega
            · have hge3 : ¬ (j : Int) < (zs.length : Int) := by omega
              obtain rfl : j = zs.length := by omega
              rw [List.take_length] at hown
              have hall2 : ∀ y ∈ zs.map (· % 41), a ≤ y ∧ y ≤ b := by have := HALL.out; rwa [List.take_length] at this
              have hsm : Small (zs.map (· % 41)) := by
                intro y hy
                obtain ⟨x, _, rfl⟩ := List.mem_map.1 hy
                have := Int.emod_nonneg x (show (41 : Int) ≠ 0 by omega)
                have := Int.emod_lt_of_pos x (show (0 : Int) < 41 by omega)
                exact ⟨by assumption, by omega⟩
              have hlS : (zs.map (· % 41)).length = zs.length := List.length_map _
              have rs := iRow_of_owns hown
              obtain ⟨As, cs, rfl⟩ := slice_of_owns hown
              have bb6 := bnext bbd hbr
              clear hown hbr bbd
              generalize zs.map (· % 41) = S at *
              have HLS := Lib.hid hlS
              clear hlS
              by_cases hn0 : zs.length = 0
              · have hz0' : ((zs.length : Int) == 0) = true := by simp [hn0]
                clear hn0
                go_wp2_with fail
                go_ret
                exact ⟨rfl, bb6⟩
              · have hz0' : ((zs.length : Int) == 0) = false := by simpa using hn0
                have hn1 : 1 ≤ zs.length := by omega
                clear hn0
                have hle := HLS.out
                rename_i wS _ _ _
                go_wp2_with fail
                refine (quant_any _ S 0 40 0 1 _ rs (by omega)).mono ?_
                rintro e wa ⟨vx, rfl, rx, b2⟩
                rw [small_qErr hsm (by omega) (by decide)] at rx
                rw [small_qErr hsm (by omega) (by decide)]
                replace rx : IRow wa vx (quantL S 0 0 1 41) := rx
                replace rs := rs.below b2
                replace bb6 := bnext bb6 b2
                clear b2
                go_wp2_with fail
                refine (quant_any _ S 0 40 1 1 _ rs (by omega)).mono ?_
                rintro e wb ⟨vy, rfl, ry, b2⟩
                rw [small_qErr hsm (by omega) (by decide)] at ry
                rw [small_qErr hsm (by omega) (by decide)]
                replace ry : IRow wb vy (quantL S 0 1 1 41) := ry
                replace rs := rs.below b2
                replace rx := rx.below b2
                replace bb6 := bnext bb6 b2
                clear b2
                go_wp2_with fail
                refine (quant_any _ S 0 40 1 2 _ rs (by omega)).mono ?_
                rintro e wc ⟨vz, rfl, rz, b2⟩
                rw [small_qErr hsm (by omega) (by decide)] at rz
                rw [small_qErr hsm (by omega) (by decide)]
                replace rz : IRow wc vz (quantL S 0 1 2 41) := rz
                replace rs := rs.below b2
                replace rx := rx.below b2
                replace ry := ry.below b2
                replace bb6 := bnext bb6 b2
                clear b2
                obtain ⟨Ax, cx, hvx⟩ := rx.open
                obtain ⟨Ay, cy, hvy⟩ := ry.open
                obtain ⟨Az, cz, hvz⟩ := rz.open
                rw [quantL_length] at hvx hvy hvz
                subst hvx hvy hvz
                have RS := Lib.hid rs
                have RX := Lib.hid rx
                have RY := Lib.hid ry
                have RZ := Lib.hid rz
                have HSM := Lib.hid hsm
                have HAL := Lib.hid hall2
                clear rs rx ry rz hsm hall2
                go_wp2_with fail
                have HSUM := Lib.hid (fun x => cnt_sum S x)
                have H0 : Hid (cntLt S 0 = 0) := Lib.hid (cntLt_zero fun y hy => (HSM.out y hy).1)
                have H40 : Hid (cntLe S 40 = zs.length) := Lib.hid ((cntLe_all fun y hy => (HSM.out y hy).2).trans HLS.out)
                have hz3 := HZ.out
                go_loop [30, 31] (fun mid n => ∃ m : Nat, m ≤ 40 ∧ mid = .int .i64 (m : Int) ∧ n = .int .i64 (cntLt S (m : Int) : Int) ∧ (m = 0 ∨ 2 * cntLt S (m : Int) < zs.length)) (fun mid _ => 41 - (intOf mid).toNat)
                case atStart => exact ⟨0, by omega, rfl, by rw [show ((0 : Nat) : Int) = 0 from rfl, H0.out]; rfl, .inl rfl⟩
                case round =>
                  obtain ⟨mm, hmm, rfl, rfl, hlow⟩ := hrel
                  have HLOW := Lib.hid hlow
                  clear hlow
                  have hclt := (cnt_le S (mm : Int)).1
                  have hcle := (cnt_le S (mm : Int)).2.1
                  have hsum := HSUM.out (mm : Int)
                  go_wp2_with fail
                  go_loop [31, 32] (fun n kk => ∃ t : Nat, t ≤ zs.length ∧ kk = .int .i64 (t : Int) ∧ n = .int .i64 ((cntLt S (mm : Int) + cntEq (S.take t) (mm : Int) : Nat) : Int)) (fun _ kk => zs.length - (intOf kk).toNat)
                  case atStart => exact ⟨0, Nat.zero_le _, rfl, by simp [cntEq]⟩
                  case round =>
                    obtain ⟨t, ht, rfl, rfl⟩ := hrel
                    have hle2 := HLS.out
                    rcases Nat.lt_or_ge t zs.length with hlt | hge4
                    · obtain ⟨b1, o1, rfl, hcell⟩ := RS.out.get (by omega)
                      have c0 := hcell t hlt
                      have hi0 : (0 : Int) ≤ (t : Int) := by omega
                      have hi1 : (t : Int) < (zs.length : Int) := by omega
                      have hn3 := (cnt_le (S.take t) (mm : Int)).2.2
                      rw [List.length_take] at hn3
                      have hn4 : cntLt S (mm : Int) + cntEq (S.take t) (mm : Int) ≤ 1000 := by omega
                      have HA := Lib.hid (show cntEq (S.take (t + 1)) (mm : Int) = _ from take_cnt (by omega) _)
                      change Hid (cntEq (S.take (t + 1)) (mm : Int) = cntEq (S.take t) (mm : Int) + _) at HA
                      clear hcell hn3
                      generalize S[t]?.getD 0 = z at *
                      have HNX : Hid (∀ x : Nat, x = (if decide (z = (mm : Int)) = true then 1 else 0) → cntLt S (mm : Int) + cntEq (S.take (t + 1)) (mm : Int) = cntLt S (mm : Int) + cntEq (S.take t) (mm : Int) + x) := fun x e => by rw [HA.out, e]; omega
                      generalize cntLt S (mm : Int) + cntEq (S.take t) (mm : Int) = nn at *
                      by_cases hz5 : z = (mm : Int)
                      · have hA := Lib.hid (HNX.out 1 (by rw [if_pos (by simpa using hz5)]))
                        have hz' : (z == (mm : Int)) = true := by simpa using hz5
                        clear hz5 HA HNX
                        go_wp2_with fail
                        go_round
                        case rel => exact ⟨t + 1, hlt, by simp, by rw [hA.out]; simp⟩
                        case measure => simp [intOf]; omega
                      · have hA := Lib.hid (HNX.out 0 (by rw [if_neg (by simpa using hz5)]))
                        have hz' : (z == (mm : Int)) = false := by simpa using hz5
                        clear hz5 HA HNX
                        go_wp2_with fail
                        go_round
                        case rel => exact ⟨t + 1, hlt, by simp, by rw [hA.out]; rfl⟩
                        case measure => simp [intOf]; omega
                    · have hge5 : ¬ (t : Int) < (zs.length : Int) := by omega
                      have htk : S.take t = S := List.take_of_length_le (by omega)
                      rw [htk, hsum]
                      clear htk
                      have hcle2 : cntLe S (mm : Int) ≤ 300 := by omega
                      by_cases hbig : zs.length ≤ 2 * cntLe S (mm : Int)
                      · have hbig' : (zs.length : Int) ≤ 2 * (cntLe S (mm : Int) : Int) := by omega
                        have hzx := least_zero (fun y hy => (HAL.out y hy).1)
                        have hzy := most_zero (fun y hy => (HAL.out y hy).2)
                        have hzz : qv S 1 2 (mm : Int) = 0 := middle_zero (by omega) (by
                          rcases HLOW.out with h | h
                          · subst h; rw [show ((0 : Nat) : Int) = 0 from rfl, H0.out]; omega
                          · omega)
                        obtain ⟨na, rfl⟩ := Int.eq_ofNat_of_zero_le ha0
                        obtain ⟨nb, rfl⟩ := Int.eq_ofNat_of_zero_le hb0
                        obtain ⟨bx, ox, rfl, hcx⟩ := RX.out.get (by omega)
                        obtain ⟨by', oy, rfl, hcy⟩ := RY.out.get (by omega)
                        obtain ⟨bz, oz, rfl, hcz⟩ := RZ.out.get (by omega)
                        have cx0 := hcx na (by omega)
                        have cy0 := hcy nb (by omega)
                        have cz0 := hcz mm (by omega)
                        rw [quantL_get (by omega), show (0 : Int) + (na : Int) = (na : Int) by omega, hzx] at cx0
                        rw [quantL_get (by omega), show (0 : Int) + (nb : Int) = (nb : Int) by omega, hzy] at cy0
                        rw [quantL_get (by omega), show (0 : Int) + (mm : Int) = (mm : Int) by omega, hzz] at cz0
                        have hm1 : (mm : Int) < 41 := by omega
                        have hna1 : (na : Int) < 41 := by omega
                        have hnb1 : (nb : Int) < 41 := by omega
                        clear hcx hcy hcz hzx hzy hzz hsum
                        go_wp2_with fail
                        go_ret
                        exact ⟨rfl, bb6⟩
                      · have hbig' : ¬ (zs.length : Int) ≤ 2 * (cntLe S (mm : Int) : Int) := by omega
                        have hm40 : mm < 40 := by
                          rcases Nat.lt_or_ge mm 40 with h | h
                          · exact h
                          · obtain rfl : mm = 40 := by omega
                            have := H40.out
                            rw [show ((40 : Nat) : Int) = 40 from rfl, this] at hbig
                            omega
                        have HNXT := Lib.hid (show cntLt S ((mm : Int) + 1) = _ from cntLt_succ S (mm : Int))
                        clear hsum
                        go_wp2_with fail
                        go_round
                        case rel => exact ⟨mm + 1, by omega, by simp, by rw [show ((mm + 1 : Nat) : Int) = (mm : Int) + 1 by omega, HNXT.out], .inr (by rw [show ((mm + 1 : Nat) : Int) = (mm : Int) + 1 by omega, HNXT.out]; omega)⟩
                        case measure => simp [intOf]; omega
end Go.Proofs.Ytopllfkhkglogaa
