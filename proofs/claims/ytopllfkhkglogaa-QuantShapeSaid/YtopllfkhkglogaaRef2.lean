/- The reference's Mode, and the statements' helpers: walks. -/
import Derived.Test.YtopllfkhkglogaaRef
import Derived.Deep.LoopGhost
namespace Go.Proofs.Ytopllfkhkglogaa
open Go.RowKit

set_option maxRecDepth 100000 in
set_option maxHeartbeats 4000000 in
theorem modeRef_any (v : Value) (zs : List Int) (lo hi : Int) (w : World) (h : IRow w v zs) :
    Calls Try.prog 15 #[v, .int .i64 lo, .int .i64 hi] w (Out w (modeL zs lo (candN lo hi)) (checkE zs lo hi)) := by
  obtain ⟨A, c, rfl, hc1, hc2, hr⟩ := id h
  have HH := Lib.hid h
  have HE := checkE_eq zs lo hi
  rcases checkV_cases (zs := zs) with ⟨hv, hl⟩ | hv | hv
  rotate_left
  · have HQ := Lib.hid (show checkE zs lo hi = 4 by simp [HE, hv])
    have HV := Lib.hid hv
    clear hv HE hr h
    go_enter Try.func15, Try.ntmps15
    go_wp2_with (go_at_call 24; refine (refCheck_any _ zs _ HH.out).mono ?_; rintro e w' ⟨rfl, rfl⟩; rw [HV.out])
    go_ret2
    exact ⟨.slice none 0 0, by rw [HQ.out]; rfl, by rw [HQ.out]; exact IRow.nil _, Below.refl _ _⟩
  · have HQ := Lib.hid (show checkE zs lo hi = 2 by simp [HE, hv])
    have HV := Lib.hid hv
    clear hv HE hr h
    go_enter Try.func15, Try.ntmps15
    go_wp2_with (go_at_call 24; refine (refCheck_any _ zs _ HH.out).mono ?_; rintro e w' ⟨rfl, rfl⟩; rw [HV.out])
    go_ret2
    exact ⟨.slice none 0 0, by rw [HQ.out]; rfl, by rw [HQ.out]; exact IRow.nil _, Below.refl _ _⟩
  rcases candE_cases (lo := lo) (hi := hi) with ⟨hcd, c1, c2, c3, c4⟩ | hcd
  rotate_left
  · have HQ := Lib.hid (show checkE zs lo hi = 2 by simp [HE, hv, hcd])
    have HV := Lib.hid hv
    have HC := Lib.hid hcd
    clear hv HE hr h hcd
    go_enter Try.func15, Try.ntmps15
    go_wp2_with (first
      | (go_at_call 24; refine (refCheck_any _ zs _ HH.out).mono ?_; rintro e w' ⟨rfl, rfl⟩; rw [HV.out])
      | (go_at_call 25; refine (cand_any _ _ _).mono ?_; rintro e w' ⟨rfl, rfl⟩; rw [HC.out]))
    go_ret2
    exact ⟨.slice none 0 0, by rw [HQ.out]; rfl, by rw [HQ.out]; exact IRow.nil _, Below.refl _ _⟩
  have HQ := Lib.hid (show checkE zs lo hi = 0 by simp [HE, hv, hcd])
  have HV := Lib.hid hv
  have HC := Lib.hid hcd
  have HR := Lib.hid hr
  obtain ⟨i0, hi3, hz0, hz1, hz2⟩ := info_parts Try.info3
  clear hv HE hr h hcd hc1 hc2
  go_enter Try.func15, Try.ntmps15
  go_wp2_with (first
    | (go_at_call 24; refine (refCheck_any _ zs _ HH.out).mono ?_; rintro e w' ⟨rfl, rfl⟩; rw [HV.out])
    | (go_at_call 25; refine (cand_any _ _ _).mono ?_; rintro e w' ⟨rfl, rfl⟩; rw [HC.out]))
  go_loopw [10, 11] (fun u i wr => ∃ k : Nat, lo + (k : Int) ≤ hi + 1 ∧ i = .int .i64 (lo + (k : Int)) ∧ wr.ownsRow w'.heap.size 3 1 u k (I (modeL zs lo k)) ∧ Below w'.heap.size w' wr) (fun _ i _ => (hi + 1 - intOf i).toNat)
  case atStart => exact ⟨0, by omega, by simp, World.ownsRow_nil _ _ _ _, Below.refl _ _⟩
  case round =>
    obtain ⟨k, hk, rfl, hown, hbel⟩ := hrel
    obtain ⟨wo, rfl⟩ : ∃ wo : World, wo = wr := ⟨_, rfl⟩
    by_cases hkh : lo + (k : Int) ≤ hi
    · have hR := HR.out.below hbel
      have HRR := Lib.hid hR
      have hk64 : k < 64 := by omega
      clear hR
      go_wp2
      go_loop [12, 13] (fun b i => ∃ m : Nat, m ≤ zs.length ∧ i = .int .i64 (m : Int) ∧ b = .int .i64 (cntEq (zs.take m) (lo + (k : Int)) : Int)) (fun _ i => zs.length - (intOf i).toNat)
      case atStart => exact ⟨0, Nat.zero_le _, rfl, by simp [cntEq]⟩
      case round =>
        obtain ⟨m, hm, rfl, rfl⟩ := hrel
        rcases Nat.lt_or_ge m zs.length with hlt | hge
        · obtain ⟨b, o, rfl, hb, hcc⟩ := HRR.out.at (by omega)
          have c0 := hcc m hlt
          have hi0 : (0 : Int) ≤ (m : Int) := by omega
          have hi1 : (m : Int) < (zs.length : Int) := by omega
          have n1 := (cnt_le (zs.take m) (lo + (k : Int))).2.2
          rw [List.length_take] at n1
          have n1' : cntEq (zs.take m) (lo + (k : Int)) ≤ 100000 := by omega
          have HA := Lib.hid (show cntEq (zs.take (m + 1)) (lo + (k : Int)) = _ from take_cnt hlt _)
          change Hid (cntEq (zs.take (m + 1)) (lo + (k : Int)) = cntEq (zs.take m) (lo + (k : Int)) + _) at HA
          clear hcc n1
          generalize zs[m]?.getD 0 = z at *
          generalize cntEq (zs.take m) (lo + (k : Int)) = a1 at *
          by_cases hz : z = lo + (k : Int)
          · have hA := Lib.hid (show cntEq (zs.take (m + 1)) (lo + (k : Int)) = a1 + 1 by rw [HA.out, if_pos (by simpa using hz)])
            have hz' : (z == lo + (k : Int)) = true := by simpa using hz
            clear hz HA
            go_wp2
            go_round
            case rel => exact ⟨m + 1, hlt, by simp, by rw [hA.out]; simp⟩
            case measure => simp [intOf]; omega
          · have hA := Lib.hid (show cntEq (zs.take (m + 1)) (lo + (k : Int)) = a1 by rw [HA.out, if_neg (by simpa using hz)]; omega)
            have hz' : (z == lo + (k : Int)) = false := by simpa using hz
            clear hz HA
            go_wp2
            go_round
            case rel => exact ⟨m + 1, hlt, by simp, by rw [hA.out]⟩
            case measure => simp [intOf]; omega
        · have hge' : ¬ ((m : Int) < (zs.length : Int)) := by omega
          have ht : zs.take m = zs := List.take_of_length_le hge
          have HS := Lib.hid (modeL_succ zs lo k)
          have hcu := (cnt_le zs (lo + (k : Int))).2.2
          rw [ht]
          clear ht
          generalize cntEq zs (lo + (k : Int)) = cl at *
          have hcap : k + 1 ≤ 64 := by omega
          go_wp2_with (at_builtin; refine wpList_append_own _ rfl _ _ 22 rfl w'.heap.size 3 i0 (.int .i64 0) 1 8 Try.underlying22 hi3 hz0 hz1 hz2 rfl (by decide) _ _ _ rfl (hown.alloc _) ⟨wo.heap.size, 0, none⟩ 1 1 [.int .i64 _] rfl rfl (cell_one_new _ _ _) (by simp [Value.oneCell']) (by unfold maxLen; omega) (by omega) (by simp; have := hbel.size; omega) ?_; intro v1 w1 hown1 hgrow1 _)
          go_roundw
          case rel => exact ⟨k + 1, by omega, by simp; omega, by rw [HS.out]; exact own_snoc hown1 rfl, below_app hbel hbel.size hown hgrow1⟩
          case measure => simp [intOf]; omega
    · have HN : Hid (candN lo hi = k) := by unfold candN; show _ = _; omega
      go_wp2
      go_ret2
      exact ⟨_, by rw [HQ.out]; rfl, by rw [HQ.out, HN.out]; exact iRow_of_owns hown, hbel⟩

set_option maxHeartbeats 1000000 in
theorem same_any (va vb : Value) (xs ys : List Int) (w : World) (ha : IRow w va xs) (hb : IRow w vb ys) : Calls Try.prog 9 #[va, vb] w fun e w' => e = .returned (.bool (decide (xs = ys))) ∧ ∃ m, w' = w.drewN m := by
  obtain ⟨A, ca, rfl, ha1, ha2, hra⟩ := ha
  obtain ⟨B, cb, rfl, hb1, hb2, hrb⟩ := hb
  have m1 : xs.length ≤ maxLen := by omega
  have m2 : ys.length ≤ maxLen := by omega
  unfold maxLen at m1 m2
  clear ha1 ha2 hb1 hb2
  by_cases hl : xs.length = ys.length
  · have hle : ((xs.length : Int) != (ys.length : Int)) = false := by simp [hl]
    have HRA := Lib.hid hra
    have HRB := Lib.hid hrb
    have HL := Lib.hid hl
    clear hra hrb hl
    go_enter Try.func9, Try.ntmps9
    go_wp2
    go_loopw [5] (fun i wr => ∃ k : Nat, k ≤ xs.length ∧ i = .int .i64 (k : Int) ∧ (∃ m, wr = w.drewN m) ∧ ∀ j, j < k → xs[j]?.getD 0 = ys[j]?.getD 0) (fun i _ => xs.length - (intOf i).toNat)
    case atStart => exact ⟨0, Nat.zero_le _, rfl, ⟨0, rfl⟩, fun j hj => by omega⟩
    case round =>
      obtain ⟨k, hk, rfl, ⟨m, rfl⟩, hbk⟩ := hrel
      have HBK := Lib.hid hbk
      clear hbk
      rcases Nat.lt_or_ge k xs.length with hlt | hge
      · have hi0 : (0 : Int) ≤ (k : Int) := by omega
        have hi1 : (k : Int) < (xs.length : Int) := by omega
        have hi2 : (k : Int) < (ys.length : Int) := by have := HL.out; omega
        obtain ⟨ga, oa, rfl, _, hca⟩ := HRA.out.at (by omega)
        obtain ⟨gb, ob, rfl, _, hcb⟩ := HRB.out.at (by have := HL.out; omega)
        have c1 := hca k hlt
        have c2 := hcb k (by have := HL.out; omega)
        have HX := Lib.hid (show xs[k]?.getD 0 = ys[k]?.getD 0 → ∀ j, j < k + 1 → xs[j]?.getD 0 = ys[j]?.getD 0 from fun h j hj => by
          rcases Nat.lt_or_ge j k with h' | h'
          · exact HBK.out j h'
          · obtain rfl : j = k := by omega
            exact h)
        have HY := Lib.hid (show xs[k]?.getD 0 ≠ ys[k]?.getD 0 → xs ≠ ys from fun h e => h (by rw [e]))
        clear hca hcb
        generalize xs[k]?.getD 0 = x at *
        generalize ys[k]?.getD 0 = y at *
        by_cases hxy : x = y
        · have HZ := Lib.hid (HX.out hxy)
          have hb : (x != y) = false := by simpa using hxy
          clear hxy HX HY
          go_wp2
          go_quiet (fail)
          go_wp2
          go_roundw
          case rel => exact ⟨k + 1, by omega, by simp, ⟨_, rfl⟩, HZ.out⟩
          case measure => simp [intOf]; omega
        · have HZ := Lib.hid (HY.out hxy)
          have hb : (x != y) = true := by simpa using hxy
          clear hxy HX HY
          go_wp2
          go_quiet (fail)
          go_wp2
          go_ret
          exact ⟨by simp [HZ.out], m + nq, by simp [World.drewN, Nat.add_assoc]⟩
      · have hge' : ¬ ((k : Int) < (xs.length : Int)) := by omega
        go_wp2
        go_ret
        have heq : xs = ys := List.ext_getElem HL.out fun i h1 h2 => by
          have := HBK.out i (by omega)
          simpa [h1, h2] using this
        exact ⟨by simp [heq], m, rfl⟩
  · have hle : ((xs.length : Int) != (ys.length : Int)) = true := by simp; omega
    have hne : xs ≠ ys := fun e => hl (by rw [e])
    have HN := Lib.hid hne
    clear hra hrb hne hl
    go_enter Try.func9, Try.ntmps9
    go_wp2
    go_ret
    exact ⟨by simp [HN.out], 0, rfl⟩
end Go.Proofs.Ytopllfkhkglogaa
