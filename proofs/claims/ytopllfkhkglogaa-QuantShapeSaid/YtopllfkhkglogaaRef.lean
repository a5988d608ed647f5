/- The reference of quant, and the statements' helpers: walks. -/
import Derived.Test.YtopllfkhkglogaaBase
import Derived.OwnWalkIn
namespace Go.Proofs.Ytopllfkhkglogaa
open Go.RowKit

def cntLt (zs : List Int) (x : Int) : Nat := (zs.filter fun z => decide (z < x)).length
def cntLe (zs : List Int) (x : Int) : Nat := (zs.filter fun z => decide (z ≤ x)).length
def cntEq (zs : List Int) (x : Int) : Nat := (zs.filter fun z => decide (z = x)).length
def mx (a b : Int) : Int := if a < b then b else a
/-- The utility of a candidate. -/
def qv (zs : List Int) (p q x : Int) : Int := -(mx (mx 0 (p * (zs.length : Int) - q * (cntLe zs x : Int))) (q * (cntLt zs x : Int) - p * (zs.length : Int)))
def candN (lo hi : Int) : Nat := (hi - lo + 1).toNat
def quantL (zs : List Int) (lo p q : Int) (n : Nat) : List Int := (List.range n).map fun i : Nat => qv zs p q (lo + (i : Int))
def modeL (zs : List Int) (lo : Int) (n : Nat) : List Int := (List.range n).map fun i : Nat => (cntEq zs (lo + (i : Int)) : Int)
theorem quantL_succ (zs : List Int) (lo p q : Int) (n : Nat) : quantL zs lo p q (n + 1) = quantL zs lo p q n ++ [qv zs p q (lo + (n : Int))] := by simp [quantL, List.range_succ]
theorem modeL_succ (zs : List Int) (lo : Int) (n : Nat) : modeL zs lo (n + 1) = modeL zs lo n ++ [(cntEq zs (lo + (n : Int)) : Int)] := by simp [modeL, List.range_succ]
theorem quantL_length (zs : List Int) (lo p q : Int) (n : Nat) : (quantL zs lo p q n).length = n := by simp [quantL]
theorem modeL_length (zs : List Int) (lo : Int) (n : Nat) : (modeL zs lo n).length = n := by simp [modeL]

def checkV (zs : List Int) : Int := if 100000 < zs.length then 4 else if zs.any wildB then 2 else 0
def candE (lo hi : Int) : Int := if wildB lo then 2 else if wildB hi then 2 else if hi < lo then 2 else if 64 ≤ hi - lo then 2 else 0
theorem checkE_eq (zs : List Int) (lo hi : Int) : checkE zs lo hi = if checkV zs = 0 then candE lo hi else checkV zs := by
  unfold checkE checkV candE
  split
  · simp
  · split <;> simp

theorem take_cnt {zs : List Int} {k : Nat} (hk : k < zs.length) (f : Int → Bool) : ((zs.take (k + 1)).filter f).length = ((zs.take k).filter f).length + if f (zs[k]?.getD 0) then 1 else 0 := by
  rw [List.take_succ_eq_append_getElem hk, List.filter_append, List.length_append]
  simp only [hk, List.getElem?_eq_getElem, Option.getD_some]
  cases h : f zs[k] <;> simp [h]

theorem refCheck_any (v : Value) (zs : List Int) (w : World) (h : IRow w v zs) : Calls Try.prog 24 #[v] w fun e w' => e = .returned (.int .i64 (checkV zs)) ∧ w' = w := by
  obtain ⟨A, c, rfl, _, _, hr⟩ := h
  by_cases hl : 100000 < zs.length
  · have HE := Lib.hid (show checkV zs = 4 by simp [checkV, hl])
    have hl' : (100000 : Int) < (zs.length : Int) := by omega
    clear hr
    go_enter Try.func24, Try.ntmps24
    go_wp2
    go_ret
    exact ⟨by rw [HE.out]; rfl, rfl⟩
  have hl' : ¬ (100000 : Int) < (zs.length : Int) := by omega
  have HR := Lib.hid hr
  clear hr
  go_enter Try.func24, Try.ntmps24
  go_wp2
  go_loop [3] (fun i => ∃ k : Nat, k ≤ zs.length ∧ i = .int .i64 (k : Int) ∧ ∀ m, m < k → wildB (zs[m]?.getD 0) = false) (fun i => zs.length - (intOf i).toNat)
  case atStart => exact ⟨0, Nat.zero_le _, rfl, fun m hm => by omega⟩
  case round =>
    obtain ⟨k, hk, rfl, hno⟩ := hrel
    have HNO := Lib.hid hno
    clear hno
    rcases Nat.lt_or_ge k zs.length with hlt | hge
    · obtain ⟨b, o, rfl, hb, hc⟩ := HR.out.at (by omega)
      have c0 := hc k hlt
      have hi0 : (0 : Int) ≤ (k : Int) := by omega
      have hi1 : (k : Int) < (zs.length : Int) := by omega
      clear hc
      have HY := Lib.hid (show wildB (zs[k]?.getD 0) = true → checkV zs = 2 from fun h => by simp [checkV, hl, any_yes hlt h])
      have HN := Lib.hid (show wildB (zs[k]?.getD 0) = false → ∀ m, m < k + 1 → wildB (zs[m]?.getD 0) = false from fun h m hm => by
        rcases Nat.lt_or_ge m k with h' | h'
        · exact HNO.out m h'
        · obtain rfl : m = k := by omega
          exact h)
      generalize zs[k]?.getD 0 = x at *
      by_cases h1 : x < -1125899906842624
      · have HX := Lib.hid (HY.out (by simp [wildB, h1]))
        go_wp2
        go_ret
        exact ⟨by rw [HX.out]; rfl, rfl⟩
      · by_cases h2 : 1125899906842624 < x
        · have HX := Lib.hid (HY.out (by simp [wildB, h2]))
          go_wp2
          go_ret
          exact ⟨by rw [HX.out]; rfl, rfl⟩
        · have HX := Lib.hid (HN.out (by simp [wildB, h1, h2]))
          go_wp2
          go_round
          case rel => exact ⟨k + 1, by omega, by simp, HX.out⟩
          case measure => simp [intOf]; omega
    · have hge' : ¬ ((k : Int) < (zs.length : Int)) := by omega
      have HF := Lib.hid (show checkV zs = 0 by simp [checkV, hl, any_no (zs := zs) (fun m hm => HNO.out m (by omega))])
      go_wp2
      go_ret
      exact ⟨by rw [HF.out]; rfl, rfl⟩

set_option maxHeartbeats 1000000 in
theorem cand_any (lo hi : Int) (w : World) : Calls Try.prog 25 #[.int .i64 lo, .int .i64 hi] w fun e w' => e = .returned (.int .i64 (candE lo hi)) ∧ w' = w := by
  by_cases h1 : lo < -1125899906842624
  · have HE := Lib.hid (show candE lo hi = 2 by simp [candE, wildB, h1])
    go_enter Try.func25, Try.ntmps25
    go_wp2
    go_ret
    exact ⟨by rw [HE.out]; rfl, rfl⟩
  by_cases h2 : 1125899906842624 < lo
  · have HE := Lib.hid (show candE lo hi = 2 by simp [candE, wildB, h2])
    go_enter Try.func25, Try.ntmps25
    go_wp2
    go_ret
    exact ⟨by rw [HE.out]; rfl, rfl⟩
  by_cases h3 : hi < -1125899906842624
  · have HE := Lib.hid (show candE lo hi = 2 by simp [candE, wildB, h3])
    go_enter Try.func25, Try.ntmps25
    go_wp2
    go_ret
    exact ⟨by rw [HE.out]; rfl, rfl⟩
  by_cases h4 : 1125899906842624 < hi
  · have HE := Lib.hid (show candE lo hi = 2 by simp [candE, wildB, h4])
    go_enter Try.func25, Try.ntmps25
    go_wp2
    go_ret
    exact ⟨by rw [HE.out]; rfl, rfl⟩
  by_cases h5 : hi < lo
  · have HE := Lib.hid (show candE lo hi = 2 by simp [candE, h5])
    go_enter Try.func25, Try.ntmps25
    go_wp2
    go_ret
    exact ⟨by rw [HE.out]; rfl, rfl⟩
  by_cases h6 : 64 ≤ hi - lo
  · have HE := Lib.hid (show candE lo hi = 2 by simp [candE, h6])
    go_enter Try.func25, Try.ntmps25
    go_wp2
    go_ret
    exact ⟨by rw [HE.out]; rfl, rfl⟩
  · have HE := Lib.hid (show candE lo hi = 0 by simp [candE, wildB, h1, h2, h3, h4, h5, h6])
    go_enter Try.func25, Try.ntmps25
    go_wp2
    go_ret
    exact ⟨by rw [HE.out]; rfl, rfl⟩

theorem reachRef_any (p q : Int) (w : World) : Calls Try.prog 16 #[.int .i64 p, .int .i64 q] w fun e w' => e = .returned (.tuple #[.int .i64 (if validB p q then mx p (q - p) else 0), .int .i64 (if validB p q then 0 else 2)]) ∧ w' = w := by
  cases hv : validB p q with
  | false =>
    have HV := Lib.hid hv
    clear hv
    go_enter Try.func16, Try.ntmps16
    go_wp2_with (go_at_call 26; refine (level_any _ _ _).mono ?_; rintro e w' ⟨rfl, rfl⟩; rw [HV.out])
    go_ret2
    exact ⟨by simp, rfl⟩
  | true =>
    have HV := Lib.hid hv
    have hb : 1 ≤ q ∧ q ≤ 1000 ∧ 0 ≤ p ∧ p ≤ q := by simpa [validB] using hv
    obtain ⟨b1, b2, b3, b4⟩ := hb
    clear hv
    by_cases hm : p < q - p
    all_goals
      go_enter Try.func16, Try.ntmps16
      go_wp2_with (go_at_call 26; refine (level_any _ _ _).mono ?_; rintro e w' ⟨rfl, rfl⟩; rw [HV.out])
      go_ret2
      exact ⟨by simp [mx]; omega, rfl⟩

theorem Try.info3 : (Try.prog.info? 3).map (fun i => (i.zero, i.size, i.bytes)) = some (some (.int .i64 0), 1, 8) := by kernel_rfl
theorem own_snoc {w : World} {base n : Nat} {v : Value} {L : List Int} {x y : Int} (h : w.ownsRow base 3 1 v n (I L ++ [.int .i64 x])) (e : x = y) : w.ownsRow base 3 1 v n (I (L ++ [y])) := by
  rw [← I_snoc, ← e]; exact h
theorem cnt_le (zs : List Int) (x : Int) : cntLt zs x ≤ zs.length ∧ cntLe zs x ≤ zs.length ∧ cntEq zs x ≤ zs.length := ⟨List.length_filter_le _ _, List.length_filter_le _ _, List.length_filter_le _ _⟩
theorem mul_bd {a b : Int} {n : Nat} (h0 : 0 ≤ a) (h1 : a ≤ 1000) (hb0 : 0 ≤ b) (hb : b ≤ 100000) : 0 ≤ a * b ∧ a * b ≤ 100000000 := by
  refine ⟨Int.mul_nonneg h0 hb0, ?_⟩
  have := Int.mul_le_mul h1 hb hb0 (by omega)
  omega

/-- What Quantile's reference and Mode's say: the list, or nil, and the error. -/
def qErr (zs : List Int) (lo hi p q : Int) : Int := if checkE zs lo hi = 0 then (if validB p q then 0 else 2) else checkE zs lo hi
def Out (w : World) (L : List Int) (err : Int) (e : Ending) (w' : World) : Prop := ∃ v, e = .returned (.tuple #[v, .int .i64 err]) ∧ IRow w' v (if err = 0 then L else []) ∧ Below w.heap.size w w'

theorem checkV_cases {zs : List Int} : checkV zs = 0 ∧ zs.length ≤ 100000 ∨ checkV zs = 4 ∨ checkV zs = 2 := by
  unfold checkV
  split
  · simp
  · split
    · simp
    · left; exact ⟨rfl, by omega⟩
theorem candE_cases {lo hi : Int} : candE lo hi = 0 ∧ -1125899906842624 ≤ lo ∧ lo ≤ hi ∧ hi ≤ 1125899906842624 ∧ hi - lo < 64 ∨ candE lo hi = 2 := by
  unfold candE
  split
  · simp
  · rename_i h1
    split
    · simp
    · rename_i h2
      split
      · simp
      · split
        · simp
        · left
          have a := wild_no (by simpa using h1)
          have b := wild_no (by simpa using h2)
          exact ⟨rfl, by omega, by omega, by omega, by omega⟩

set_option maxRecDepth 100000 in
set_option maxHeartbeats 4000000 in
theorem quantRef_any (v : Value) (zs : List Int) (lo hi p q : Int) (w : World) (h : IRow w v zs) :
    Calls Try.prog 14 #[v, .int .i64 lo, .int .i64 hi, .int .i64 p, .int .i64 q] w (Out w (quantL zs lo p q (candN lo hi)) (qErr zs lo hi p q)) := by
  obtain ⟨A, c, rfl, hc1, hc2, hr⟩ := id h
  have HH := Lib.hid h
  have HE := checkE_eq zs lo hi
  rcases checkV_cases (zs := zs) with ⟨hv, hl⟩ | hv | hv
  rotate_left
  · have HQ := Lib.hid (show qErr zs lo hi p q = 4 by simp [qErr, HE, hv])
    have HV := Lib.hid hv
    clear hv HE hr h
    go_enter Try.func14, Try.ntmps14
    go_wp2_with (go_at_call 24; refine (refCheck_any _ zs _ HH.out).mono ?_; rintro e w' ⟨rfl, rfl⟩; rw [HV.out])
    go_ret2
    exact ⟨.slice none 0 0, by rw [HQ.out]; rfl, by rw [HQ.out]; exact IRow.nil _, Below.refl _ _⟩
  · have HQ := Lib.hid (show qErr zs lo hi p q = 2 by simp [qErr, HE, hv])
    have HV := Lib.hid hv
    clear hv HE hr h
    go_enter Try.func14, Try.ntmps14
    go_wp2_with (go_at_call 24; refine (refCheck_any _ zs _ HH.out).mono ?_; rintro e w' ⟨rfl, rfl⟩; rw [HV.out])
    go_ret2
    exact ⟨.slice none 0 0, by rw [HQ.out]; rfl, by rw [HQ.out]; exact IRow.nil _, Below.refl _ _⟩
  rcases candE_cases (lo := lo) (hi := hi) with ⟨hcd, c1, c2, c3, c4⟩ | hcd
  rotate_left
  · have HQ := Lib.hid (show qErr zs lo hi p q = 2 by simp [qErr, HE, hv, hcd])
    have HV := Lib.hid hv
    have HC := Lib.hid hcd
    clear hv HE hr h hcd
    go_enter Try.func14, Try.ntmps14
    go_wp2_with (first
      | (go_at_call 24; refine (refCheck_any _ zs _ HH.out).mono ?_; rintro e w' ⟨rfl, rfl⟩; rw [HV.out])
      | (go_at_call 25; refine (cand_any _ _ _).mono ?_; rintro e w' ⟨rfl, rfl⟩; rw [HC.out]))
    go_ret2
    exact ⟨.slice none 0 0, by rw [HQ.out]; rfl, by rw [HQ.out]; exact IRow.nil _, Below.refl _ _⟩
  cases hvl : validB p q with
  | false =>
    have HQ := Lib.hid (show qErr zs lo hi p q = 2 by simp [qErr, HE, hv, hcd, hvl])
    have HV := Lib.hid hv
    have HC := Lib.hid hcd
    have HL := Lib.hid hvl
    clear hv HE hr h hcd hvl
    go_enter Try.func14, Try.ntmps14
    go_wp2_with (first
      | (go_at_call 24; refine (refCheck_any _ zs _ HH.out).mono ?_; rintro e w' ⟨rfl, rfl⟩; rw [HV.out])
      | (go_at_call 25; refine (cand_any _ _ _).mono ?_; rintro e w' ⟨rfl, rfl⟩; rw [HC.out])
      | (go_at_call 26; refine (level_any _ _ _).mono ?_; rintro e w' ⟨rfl, rfl⟩; rw [HL.out]))
    go_ret2
    exact ⟨.slice none 0 0, by rw [HQ.out]; rfl, by rw [HQ.out]; exact IRow.nil _, Below.refl _ _⟩
  | true =>
    have HQ := Lib.hid (show qErr zs lo hi p q = 0 by simp [qErr, HE, hv, hcd, hvl])
    obtain ⟨b1, b2, b3, b4⟩ : 1 ≤ q ∧ q ≤ 1000 ∧ 0 ≤ p ∧ p ≤ q := by simpa [validB] using hvl
    have HV := Lib.hid hv
    have HC := Lib.hid hcd
    have HL := Lib.hid hvl
    have HR := Lib.hid hr
    obtain ⟨i0, hi3, hz0, hz1, hz2⟩ := info_parts Try.info3
    clear hv HE hr h hcd hvl hc1 hc2
    go_enter Try.func14, Try.ntmps14
    go_wp2_with (first
      | (go_at_call 24; refine (refCheck_any _ zs _ HH.out).mono ?_; rintro e w' ⟨rfl, rfl⟩; rw [HV.out])
      | (go_at_call 25; refine (cand_any _ _ _).mono ?_; rintro e w' ⟨rfl, rfl⟩; rw [HC.out])
      | (go_at_call 26; refine (level_any _ _ _).mono ?_; rintro e w' ⟨rfl, rfl⟩; rw [HL.out]))
    go_loopw [14, 15] (fun u i wr => ∃ k : Nat, lo + (k : Int) ≤ hi + 1 ∧ i = .int .i64 (lo + (k : Int)) ∧ wr.ownsRow w'.heap.size 3 1 u k (I (quantL zs lo p q k)) ∧ Below w'.heap.size w' wr) (fun _ i _ => (hi + 1 - intOf i).toNat)
    case atStart => exact ⟨0, by omega, by simp, World.ownsRow_nil _ _ _ _, Below.refl _ _⟩
    case round =>
      obtain ⟨k, hk, rfl, hown, hbel⟩ := hrel
      obtain ⟨wo, rfl⟩ : ∃ wo : World, wo = wr := ⟨_, rfl⟩
      by_cases hkh : lo + (k : Int) ≤ hi
      · have hR := HR.out.below hbel
        have HRR := Lib.hid hR
        have hk64 : k < 64 := by omega
        clear hR
        go_wp2
        go_loop [16, 17, 18] (fun b u i => ∃ m : Nat, m ≤ zs.length ∧ i = .int .i64 (m : Int) ∧ b = .int .i64 (cntLt (zs.take m) (lo + (k : Int)) : Int) ∧ u = .int .i64 (cntLe (zs.take m) (lo + (k : Int)) : Int)) (fun _ _ i => zs.length - (intOf i).toNat)
        case atStart => exact ⟨0, Nat.zero_le _, rfl, by simp [cntLt], by simp [cntLe]⟩
        case round =>
          obtain ⟨m, hm, rfl, rfl, rfl⟩ := hrel
          rcases Nat.lt_or_ge m zs.length with hlt | hge
          · obtain ⟨b, o, rfl, hb, hcc⟩ := HRR.out.at (by omega)
            have c0 := hcc m hlt
            have hi0 : (0 : Int) ≤ (m : Int) := by omega
            have hi1 : (m : Int) < (zs.length : Int) := by omega
            have n1 := (cnt_le (zs.take m) (lo + (k : Int))).1
            have n2 := (cnt_le (zs.take m) (lo + (k : Int))).2.1
            rw [List.length_take] at n1 n2
            have n1' : cntLt (zs.take m) (lo + (k : Int)) ≤ 100000 := by omega
            have n2' : cntLe (zs.take m) (lo + (k : Int)) ≤ 100000 := by omega
            have HA := Lib.hid (show cntLt (zs.take (m + 1)) (lo + (k : Int)) = _ from take_cnt hlt _)
            have HB := Lib.hid (show cntLe (zs.take (m + 1)) (lo + (k : Int)) = _ from take_cnt hlt _)
            change Hid (cntLt (zs.take (m + 1)) (lo + (k : Int)) = cntLt (zs.take m) (lo + (k : Int)) + _) at HA
            change Hid (cntLe (zs.take (m + 1)) (lo + (k : Int)) = cntLe (zs.take m) (lo + (k : Int)) + _) at HB
            clear hcc n1 n2
            generalize zs[m]?.getD 0 = z at *
            generalize cntLt (zs.take m) (lo + (k : Int)) = a1 at *
            generalize cntLe (zs.take m) (lo + (k : Int)) = a2 at *
            rcases Int.lt_trichotomy z (lo + (k : Int)) with hz | hz | hz
            · have hz2 : z ≤ lo + (k : Int) := by omega
              have hA := Lib.hid (show cntLt (zs.take (m + 1)) (lo + (k : Int)) = a1 + 1 by rw [HA.out]; simp [hz])
              have hB := Lib.hid (show cntLe (zs.take (m + 1)) (lo + (k : Int)) = a2 + 1 by rw [HB.out]; simp [hz2])
              go_wp2
              go_round
              case rel => exact ⟨m + 1, hlt, by simp, by rw [hA.out]; simp, by rw [hB.out]; simp⟩
              case measure => simp [intOf]; omega
            · have hz1 : ¬ z < lo + (k : Int) := by omega
              have hz2 : z ≤ lo + (k : Int) := by omega
              have hA := Lib.hid (show cntLt (zs.take (m + 1)) (lo + (k : Int)) = a1 by rw [HA.out, if_neg (by simpa using hz1)]; omega)
              have hB := Lib.hid (show cntLe (zs.take (m + 1)) (lo + (k : Int)) = a2 + 1 by rw [HB.out]; simp [hz2])
              clear hz
              go_wp2
              go_round
              case rel => exact ⟨m + 1, hlt, by simp, by rw [hA.out], by rw [hB.out]; simp⟩
              case measure => simp [intOf]; omega
            · have hz1 : ¬ z < lo + (k : Int) := by omega
              have hz2 : ¬ z ≤ lo + (k : Int) := by omega
              have hA := Lib.hid (show cntLt (zs.take (m + 1)) (lo + (k : Int)) = a1 by rw [HA.out, if_neg (by simpa using hz1)]; omega)
              have hB := Lib.hid (show cntLe (zs.take (m + 1)) (lo + (k : Int)) = a2 by rw [HB.out, if_neg (by simpa using hz2)]; omega)
              go_wp2
              go_round
              case rel => exact ⟨m + 1, hlt, by simp, by rw [hA.out], by rw [hB.out]⟩
              case measure => simp [intOf]; omega
          · have hge' : ¬ ((m : Int) < (zs.length : Int)) := by omega
            have hcl := (cnt_le zs (lo + (k : Int))).1
            have hcu := (cnt_le zs (lo + (k : Int))).2.1
            have ht : zs.take m = zs := List.take_of_length_le hge
            have HS := Lib.hid (quantL_succ zs lo p q k)
            have HV2 : Hid (qv zs p q (lo + (k : Int)) = -(mx (mx 0 (p * (zs.length : Int) - q * (cntLe zs (lo + (k : Int)) : Int))) (q * (cntLt zs (lo + (k : Int)) : Int) - p * (zs.length : Int)))) := rfl
            rw [ht]
            clear ht
            generalize qv zs p q (lo + (k : Int)) = val at *
            generalize cntLt zs (lo + (k : Int)) = cl at *
            generalize cntLe zs (lo + (k : Int)) = cu at *
            obtain ⟨d1, d2⟩ := mul_bd (n := 0) b3 (show p ≤ 1000 by omega) (show (0 : Int) ≤ (zs.length : Int) by omega) (by omega)
            obtain ⟨e1, e2⟩ := mul_bd (n := 0) (show 0 ≤ q by omega) b2 (show (0 : Int) ≤ (cu : Int) by omega) (by omega)
            obtain ⟨f1, f2⟩ := mul_bd (n := 0) (show 0 ≤ q by omega) b2 (show (0 : Int) ≤ (cl : Int) by omega) (by omega)
            have HM := Lib.hid (show ∀ x : Int, x = -(mx (mx 0 (p * (zs.length : Int) - q * (cu : Int))) (q * (cl : Int) - p * (zs.length : Int))) → x = val from fun x e => e.trans HV2.out.symm)
            have hcap : k + 1 ≤ 64 := by omega
            by_cases hA : 0 < p * (zs.length : Int) - q * (cu : Int)
            · by_cases hB : p * (zs.length : Int) - q * (cu : Int) < q * (cl : Int) - p * (zs.length : Int)
              all_goals
                go_wp2_with (at_builtin; refine wpList_append_own _ rfl _ _ 22 rfl w'.heap.size 3 i0 (.int .i64 0) 1 8 Try.underlying22 hi3 hz0 hz1 hz2 rfl (by decide) _ _ _ rfl (hown.alloc _) ⟨wo.heap.size, 0, none⟩ 1 1 [.int .i64 _] rfl rfl (cell_one_new _ _ _) (by simp [Value.oneCell']) (by unfold maxLen; omega) (by omega) (by simp; have := hbel.size; omega) ?_; intro v1 w1 hown1 hgrow1 _)
                go_roundw
                case rel => exact ⟨k + 1, by omega, by simp; omega, by rw [HS.out]; exact own_snoc hown1 (HM.out _ (by simp [mx, hA, hB]; try omega)), below_app hbel hbel.size hown hgrow1⟩
                case measure => simp [intOf]; omega
            · by_cases hB : 0 < q * (cl : Int) - p * (zs.length : Int)
              all_goals
                go_wp2_with (at_builtin; refine wpList_append_own _ rfl _ _ 22 rfl w'.heap.size 3 i0 (.int .i64 0) 1 8 Try.underlying22 hi3 hz0 hz1 hz2 rfl (by decide) _ _ _ rfl (hown.alloc _) ⟨wo.heap.size, 0, none⟩ 1 1 [.int .i64 _] rfl rfl (cell_one_new _ _ _) (by simp [Value.oneCell']) (by unfold maxLen; omega) (by omega) (by simp; have := hbel.size; omega) ?_; intro v1 w1 hown1 hgrow1 _)
                go_roundw
                case rel => exact ⟨k + 1, by omega, by simp; omega, by rw [HS.out]; exact own_snoc hown1 (HM.out _ (by simp [mx, hA, hB]; try omega)), below_app hbel hbel.size hown hgrow1⟩
                case measure => simp [intOf]; omega
      · have HN : Hid (candN lo hi = k) := by unfold candN; show _ = _; omega
        go_wp2
        go_ret2
        exact ⟨_, by rw [HQ.out]; rfl, by rw [HQ.out, HN.out]; exact iRow_of_owns hown, hbel⟩
end Go.Proofs.Ytopllfkhkglogaa
