/- The reference's functions of two numbers, on texts of numbers. The reference of chapter 10: at. The reference of chapter 10: both. The reference of chapter 10: then. Curves of canonical texts: sums, sizes, what Add and None come to. Comparing curves. moment.Fits: the walk. moment.Of: the walk. loss.valid: the first error of a list of losses leaves the computation. limited, plus and above of losses. above: the loss with the greater parts. fold: losses combined, from None on; Add, Sum and Max. -/
import Derived.Test.YtbfhonhjejeaiaaGreatDoorRb10
import Derived.Test.YtbfhonhjejeaiaaGreatDoorRb13
import Derived.Test.YtbfhonhjejeaiaaGreatDoorRb14
import Derived.Test.YtbfhonhjejeaiaaGreatDoorRb11
import Derived.Test.YtbfhonhjejeaiaaGreatDoorRb03
import Derived.Test.YtbfhonhjejeaiaaGreatDoorRb08
namespace Go.Proofs.YtbfhonhjejeaiaaGreatDoor
open Go.RowKit Go.Shelf
open Lim

section
variable {a b c : ByteArray} {p q : Rat} (w : World)
theorem raddT (ha : IsT a p) (hb : IsT b q) (hc : IsT c (p + q)) :
    Calls Tryz.prog 68 #[.string a, .string b] w fun e w' => e = .returned (.tuple #[.string c, .int .i64 0]) ∧ Below w.heap.size w w' := by
  refine (refAdd_any a b w ha.size hb.size).mono ?_
  rintro e w' ⟨rfl, h⟩
  rw [two_T ha hb, out_T hc]
  exact ⟨rfl, h⟩
theorem rmulT (ha : IsT a p) (hb : IsT b q) (hc : IsT c (p * q)) :
    Calls Tryz.prog 34 #[.string a, .string b] w fun e w' => e = .returned (.tuple #[.string c, .int .i64 0]) ∧ Below w.heap.size w w' := by
  refine (refMul_any a b w ha.size hb.size).mono ?_
  rintro e w' ⟨rfl, h⟩
  rw [two_T ha hb, out_T hc]
  exact ⟨rfl, h⟩
theorem rcmpT (ha : IsT a p) (hb : IsT b q) :
    Calls Tryz.prog 35 #[.string a, .string b] w fun e w' => e = .returned (.tuple #[.int .i64 (cmpQ p q), .int .i64 0]) ∧ Below w.heap.size w w' := by
  refine (refCmp_any a b w ha.size hb.size).mono ?_
  rintro e w' ⟨rfl, h⟩
  rw [two_I ha hb]
  exact ⟨rfl, h⟩
theorem rminT (ha : IsT a p) (hb : IsT b q) :
    Calls Tryz.prog 113 #[.string a, .string b] w fun e w' => e = .returned (.tuple #[.string (rT (minQ p q)), .int .i64 0]) ∧ Below w.heap.size w w' := by
  refine (refMin_any a b w ha.size hb.size).mono ?_
  rintro e w' ⟨rfl, h⟩
  refine ⟨?_, h⟩
  rw [two_I ha hb, ← rT_min ha hb]
  unfold chooseQ resS
  simp only [ne_eq, not_true_eq_false, if_false, Int.mul_one]
  split <;> rfl
end
end Go.Proofs.YtbfhonhjejeaiaaGreatDoor
namespace Go.Proofs.YtbfhonhjejeaiaaGreatDoor
open Go.RowKit Go.Shelf
open Lim

set_option maxRecDepth 100000 in
set_option maxHeartbeats 2000000 in
theorem rat10_any {a b : ByteArray} {p q : Rat} (w : World) (ha : IsT a p) (hb : IsT b q) :
    Calls Tryz.prog 98 #[.string a, .string b] w fun e w' => e = .returned (.bool (decide (cmpQ p q ≤ 0))) ∧ Below w.heap.size w w' := by
  have HC := Lib.hid (rcmpT w ha hb)
  generalize cmpQ p q = x at *
  clear ha hb
  go_enter Tryz.func98, Tryz.ntmps98
  go_wp2_with (go_at_call 35; refine HC.out.mono ?_; rintro e w1 ⟨rfl, hb⟩; have HB := Lib.hid hb; clear hb)
  go_ret
  exact ⟨rfl, HB.out⟩
/-- Where the reference's Check stands. -/
structure RCk (w : World) (c : CT) (W : World) : Prop where
  c : CBlk W w.heap.size c
  below : Below w.heap.size w W
theorem RCk.later {w W W' : World} {c : CT} (h : RCk w c W) (hb : Below W.heap.size W W') : RCk w c W' := ⟨h.c.later hb, h.below.trans (hb.mono h.below.size)⟩
set_option maxRecDepth 100000 in
set_option maxHeartbeats 8000000 in
theorem refMCheck_any (c : CT) (w : World) (hs : ∀ k, k < 8 → (c k).size ≤ 270000) :
    Calls Tryz.prog 39 #[.agg #[.string (c 0), .string (c 1), .string (c 2), .string (c 3), .string (c 4), .string (c 5), .string (c 6), .string (c 7)]] w fun e w' => e = .returned (.int .i64 (errCT c : Int)) ∧ Below w.heap.size w w' := by
  have HS := Lib.hid hs
  have H0 : RCk w c (w.alloc (.cells #[.string (c 0), .string (c 1), .string (c 2), .string (c 3), .string (c 4), .string (c 5), .string (c 6), .string (c 7)] 52)) := ⟨CBlk.new w c, below_alloc (Below.refl _ _) _⟩
  clear hs
  go_enter Tryz.func39, Tryz.ntmps39
  go_wp2
  go_loopw [3] (fun v3 wr => ∃ k : Nat, k ≤ 7 ∧ v3 = .int .i64 (k : Int) ∧ Hid (∀ j, j < k → errQ (c j).data.toList = 0) ∧ Hid (RCk w c wr)) (fun v3 _ => 7 - (intOf v3).toNat)
  case atStart => exact ⟨0, by omega, rfl, Lib.hid (fun j h => absurd h (by omega)), Lib.hid H0⟩
  case round =>
    obtain ⟨k, hk, rfl, HE, H⟩ := hrel
    clear H0
    rcases Nat.lt_or_ge k 7 with hlt | hge
    · have hck := H.out.c.cell (k := k) (by omega)
      have hi0 : (0 : Int) ≤ (k : Int) := by omega
      have hi1 : (k : Int) < 7 := by omega
      have hF := refCheck_any (c k) wr (HS.out k (by omega))
      by_cases he : errQ (c k).data.toList = 0
      · rw [he] at hF
        have HF := Lib.hid hF
        have HE1 := Lib.hid he
        clear hF he
        go_wp2_with (go_at_call 82; refine HF.out.mono ?_; rintro e w1 ⟨rfl, hb⟩; have H1 := Lib.hid (H.out.later hb); clear hb)
        go_roundw
        case rel => exact ⟨k + 1, by omega, by go_num, Lib.hid (fun j hj => by
          rcases Nat.lt_or_ge j k with h | h
          · exact HE.out j h
          · obtain rfl : j = k := by omega
            exact HE1.out), H1⟩
        case measure => simp [intOf]; omega
      · have HN := Lib.hid he
        obtain ⟨z, hz⟩ : ∃ z : Int, (errQ (c k).data.toList : Int) = z := ⟨_, rfl⟩
        rw [hz] at hF
        have hne : (z == 0) = false := by rw [beq_eq_false_iff_ne]; omega
        have HZ := Lib.hid hz
        have HF := Lib.hid hF
        clear hF he hz
        go_wp2_with (go_at_call 82; refine HF.out.mono ?_; rintro e w1 ⟨rfl, hb⟩; have H1 := Lib.hid (H.out.later hb); clear hb)
        go_ret
        exact ⟨by rw [errCT_first (by omega) HE.out HN.out, HZ.out]; rfl, H1.out.below⟩
    · obtain rfl : k = 7 := by omega
      have hck := H.out.c.cell (k := 7) (by omega)
      have hF := refCheck_any (c 7) wr (HS.out 7 (by omega))
      by_cases he : errQ (c 7).data.toList = 0
      · rw [he] at hF
        have HF := Lib.hid hF
        have HE8 := Lib.hid (show ∀ j, j < 8 → errQ (c j).data.toList = 0 from fun j hj => by
          rcases Nat.lt_or_ge j 7 with h | h
          · exact HE.out j h
          · obtain rfl : j = 7 := by omega
            exact he)
        clear hF he
        go_wp2_with (go_at_call 82; refine HF.out.mono ?_; rintro e w1 ⟨rfl, hb⟩; have H1 := Lib.hid (H.out.later hb); clear hb)
        go_loopw [6] (fun v6 wq => ∃ k : Nat, k ≤ 7 ∧ v6 = .int .i64 (k : Int) ∧ Hid (∀ j, j < k → cmpQ 1 (valQ (c j).data.toList) ≤ 0) ∧ Hid (RCk w c wq)) (fun v6 _ => 7 - (intOf v6).toNat)
        case atStart => exact ⟨0, by omega, rfl, Lib.hid (fun j h => absurd h (by omega)), H1⟩
        case round =>
          obtain ⟨k, hk2, rfl, HL, HQ⟩ := hrel
          clear H1
          rcases Nat.lt_or_ge k 7 with hlt | hge2
          · have hcq := HQ.out.c.cell (k := k) (by omega)
            have hi0 : (0 : Int) ≤ (k : Int) := by omega
            have hi1 : (k : Int) < 7 := by omega
            have HA := Lib.hid (fun w => rat10_any w IsT.one (IsT.of (HE8.out k (by omega))))
            by_cases hle : cmpQ 1 (valQ (c k).data.toList) ≤ 0
            · rw [decide_eq_true hle] at HA
              have HLE := Lib.hid hle
              clear hle
              go_wp2_with (go_at_call 98; refine (HA.out _).mono ?_; rintro e w2 ⟨rfl, hb⟩; have HQ1 := Lib.hid (HQ.out.later hb); clear hb)
              go_roundw
              case rel => exact ⟨k + 1, by omega, by go_num, Lib.hid (fun j hj => by
                rcases Nat.lt_or_ge j k with h | h
                · exact HL.out j h
                · obtain rfl : j = k := by omega
                  exact HLE.out), HQ1⟩
              case measure => simp [intOf]; omega
            · rw [decide_eq_false hle] at HA
              have HLE := Lib.hid hle
              clear hle
              go_wp2_with (go_at_call 98; refine (HA.out _).mono ?_; rintro e w2 ⟨rfl, hb⟩; have HQ1 := Lib.hid (HQ.out.later hb); clear hb)
              go_ret
              exact ⟨by rw [errCT_low HE8.out ⟨k, hlt, by have h1 := HLE.out; have h2 := cmpQ_swap 1 (valQ (c k).data.toList); omega⟩]; rfl, HQ1.out.below⟩
          · obtain rfl : k = 7 := by omega
            have hcq := HQ.out.c.cell (k := 7) (by omega)
            have HT7 := IsT.of (HE8.out 7 (by omega))
            have HA1 := Lib.hid (fun w => rat10_any w IsT.zero HT7)
            have HA2 := Lib.hid (fun w => rat10_any w HT7 IsT.one)
            have HER := Lib.hid (errCT_top HE8.out (fun i hi => by have h1 := HL.out i hi; have h2 := cmpQ_swap 1 (valQ (c i).data.toList); omega))
            have hU : errU (c 7) = if cmpQ 0 (valQ (c 7).data.toList) ≤ 0 ∧ cmpQ (valQ (c 7).data.toList) 1 ≤ 0 then 0 else 2 := by
              have h2 := cmpQ_swap 0 (valQ (c 7).data.toList)
              unfold errU
              split <;> split <;> omega
            clear HT7
            generalize cmpQ 0 (valQ (c 7).data.toList) = x at *
            generalize cmpQ (valQ (c 7).data.toList) 1 = y at *
            have HU := Lib.hid hU
            clear hU
            by_cases hx : x ≤ 0
            · by_cases hy : y ≤ 0
              · rw [decide_eq_true hx] at HA1
                rw [decide_eq_true hy] at HA2
                rw [if_pos ⟨hx, hy⟩] at HU
                clear hx hy
                have TK1 : True := trivial
                go_wp2_with (first
                  | (clear TK1; go_at_call 98; refine (HA1.out _).mono ?_; rintro e w2 ⟨rfl, hb⟩; have HQ1 := Lib.hid (HQ.out.later hb); have hcr := HQ1.out.c.cell (k := 7) (by omega); clear hb)
                  | (go_at_call 98; refine (HA2.out _).mono ?_; rintro e w3 ⟨rfl, hb⟩; have HQ2 := Lib.hid (HQ1.out.later hb); clear hb))
                go_ret
                exact ⟨by rw [HER.out, HU.out]; rfl, HQ2.out.below⟩
              · rw [decide_eq_true hx] at HA1
                rw [decide_eq_false hy] at HA2
                rw [if_neg (fun h => hy h.2)] at HU
                clear hx hy
                have TK1 : True := trivial
                go_wp2_with (first
                  | (clear TK1; go_at_call 98; refine (HA1.out _).mono ?_; rintro e w2 ⟨rfl, hb⟩; have HQ1 := Lib.hid (HQ.out.later hb); have hcr := HQ1.out.c.cell (k := 7) (by omega); clear hb)
                  | (go_at_call 98; refine (HA2.out _).mono ?_; rintro e w3 ⟨rfl, hb⟩; have HQ2 := Lib.hid (HQ1.out.later hb); clear hb))
                go_ret
                exact ⟨by rw [HER.out, HU.out]; rfl, HQ2.out.below⟩
            · rw [decide_eq_false hx] at HA1
              rw [if_neg (fun h => hx h.1)] at HU
              clear hx
              go_wp2_with (go_at_call 98; refine (HA1.out _).mono ?_; rintro e w2 ⟨rfl, hb⟩; have HQ1 := Lib.hid (HQ.out.later hb); clear hb)
              go_ret
              exact ⟨by rw [HER.out, HU.out]; rfl, HQ1.out.below⟩
      · have HN := Lib.hid he
        obtain ⟨z, hz⟩ : ∃ z : Int, (errQ (c 7).data.toList : Int) = z := ⟨_, rfl⟩
        rw [hz] at hF
        have hne : (z == 0) = false := by rw [beq_eq_false_iff_ne]; omega
        have HZ := Lib.hid hz
        have HF := Lib.hid hF
        clear hF he hz
        go_wp2_with (go_at_call 82; refine HF.out.mono ?_; rintro e w1 ⟨rfl, hb⟩; have H1 := Lib.hid (H.out.later hb); clear hb)
        go_ret
        exact ⟨by rw [errCT_first (by omega) HE.out HN.out, HZ.out]; rfl, H1.out.below⟩
end Go.Proofs.YtbfhonhjejeaiaaGreatDoor
namespace Go.Proofs.YtbfhonhjejeaiaaGreatDoor
open Go.RowKit Go.Shelf
open Lim

set_option maxRecDepth 100000 in
set_option maxHeartbeats 2000000 in
theorem rmboth_any (a b : CT) (w : World) (ha : SmC a) (hb : SmC b) (hr : Res w) :
    Calls Tryz.prog 112 #[cv a, cv b] w fun e w' => e = .returned (.int .i64 (errCC a b : Int)) ∧ Below w.heap.size w w' := by
  have k1 := (CBlk.new w a).alloc (cvO b)
  have k2 := CBlk.new (w.alloc (cvO a)) b
  rw [World.size_alloc] at k2
  have HB := Lib.hid (below_alloc (below_alloc (Below.refl w.heap.size w) (cvO a)) (cvO b))
  have HR := Lib.hid (hr.below HB.out)
  have HA := Lib.hid (fun (w : World) (_ : Res w) => refMCheck_any a w ha)
  have HC := Lib.hid (fun (w : World) (_ : Res w) => refMCheck_any b w hb)
  have HK := Lib.hid (And.intro k1 k2)
  obtain ⟨c0, c1, c2, c3, c4, c5, c6, c7⟩ := k1.cells
  clear k1 k2 hr
  by_cases h0 : errCT a = 0
  · have e1 : errCC a b = errCT b := by unfold errCC; rw [if_neg (by omega)]
    rw [e1]
    rw [h0] at HA
    have TK1 : True := trivial
    clear h0 e1 ha hb
    go_enter Tryz.func112, Tryz.ntmps112
    go_wp2_with (first
      | (clear TK1; go_at_call 39; refine (HA.out _ HR.out).mono ?_; rintro e w1 ⟨rfl, hb⟩; have HB1 := Lib.hid (HB.out.trans (hb.mono HB.out.size)); have HR1 := Lib.hid (HR.out.below hb); obtain ⟨d0, d1, d2, d3, d4, d5, d6, d7⟩ := (HK.out.2.later hb).cells; clear hb c0 c1 c2 c3 c4 c5 c6 c7)
      | (go_at_call 39; refine (HC.out _ HR1.out).mono ?_; rintro e w2 ⟨rfl, hb⟩; have HB2 := Lib.hid (HB1.out.trans (hb.mono HB1.out.size)); clear hb))
    go_ret
    exact ⟨rfl, HB2.out⟩
  · have e1 : errCC a b = errCT a := by unfold errCC; rw [if_pos h0]
    rw [e1]
    obtain ⟨z, hz⟩ : ∃ z : Int, (errCT a : Int) = z := ⟨_, rfl⟩
    rw [hz] at HA ⊢
    have hne : (z == 0) = false := by rw [beq_eq_false_iff_ne]; omega
    clear h0 e1 hz ha hb
    go_enter Tryz.func112, Tryz.ntmps112
    go_wp2_with (go_at_call 39; refine (HA.out _ HR.out).mono ?_; rintro e w1 ⟨rfl, hb⟩; have HB1 := Lib.hid (HB.out.trans (hb.mono HB.out.size)); clear hb)
    go_ret
    exact ⟨rfl, HB1.out⟩
end Go.Proofs.YtbfhonhjejeaiaaGreatDoor
namespace Go.Proofs.YtbfhonhjejeaiaaGreatDoor
open Go.RowKit Go.Shelf
open Lim

end Go.Proofs.YtbfhonhjejeaiaaGreatDoor
namespace Go.Proofs.YtbfhonhjejeaiaaGreatDoor
open Go.RowKit Go.Shelf
open Lim

/-- The eight texts are those of a curve's numbers (number 7 is the lateness). -/
structure CIs (c : CT) (m : Nat → Rat) : Prop where
  t : ∀ i, i < 8 → IsT (c i) (m i)
  one : ∀ i, i < 7 → 1 ≤ m i
  zero : 0 ≤ m 7
  top : m 7 ≤ 1
def valM (c : CT) : Nat → Rat := fun i => valQ (c i).data.toList
def txt (m : Nat → Rat) : CT := fun i => rT (m i)
theorem seven_at {α : Type} {f : Nat → α} {i : Nat} {x : α} (h : [f 0, f 1, f 2, f 3, f 4, f 5, f 6][i]? = some x) : i < 7 ∧ x = f i := by
  match i, h with
  | 0, h => exact ⟨by omega, (Option.some.inj h).symm⟩
  | 1, h => exact ⟨by omega, (Option.some.inj h).symm⟩
  | 2, h => exact ⟨by omega, (Option.some.inj h).symm⟩
  | 3, h => exact ⟨by omega, (Option.some.inj h).symm⟩
  | 4, h => exact ⟨by omega, (Option.some.inj h).symm⟩
  | 5, h => exact ⟨by omega, (Option.some.inj h).symm⟩
  | 6, h => exact ⟨by omega, (Option.some.inj h).symm⟩
  | i + 7, h => simp at h
theorem at_seven {α : Type} (f : Nat → α) {i : Nat} (h : i < 7) : [f 0, f 1, f 2, f 3, f 4, f 5, f 6][i]? = some (f i) := by
  match i, h with
  | 0, _ => rfl
  | 1, _ => rfl
  | 2, _ => rfl
  | 3, _ => rfl
  | 4, _ => rfl
  | 5, _ => rfl
  | 6, _ => rfl
theorem CIs.of {c : CT} (h : errCT c = 0) : CIs c (valM c) := by
  have h1 := errC_zero (ms := [c 0, c 1, c 2, c 3, c 4, c 5, c 6]) rfl h
  have hm : ∀ i, i < 7 → IsT (c i) (valM c i) ∧ 1 ≤ valM c i := fun i hi =>
    h1.m i (c i) (valM c i) (at_seven c hi) (by
      unfold valC
      dsimp only
      rw [List.getElem?_map, at_seven c hi]
      rfl)
  refine ⟨fun i hi => ?_, fun i hi => (hm i hi).2, h1.zero, h1.top⟩
  by_cases h7 : i = 7
  · subst h7; exact h1.l
  · exact (hm i (by omega)).1
theorem CIs.err {c : CT} {m : Nat → Rat} (h : CIs c m) : errCT c = 0 :=
  CurveIs.err (c := ([m 0, m 1, m 2, m 3, m 4, m 5, m 6], m 7)) ⟨rfl, rfl, fun i a q ha hq => by
    obtain ⟨h1, rfl⟩ := seven_at ha
    obtain ⟨_, rfl⟩ := seven_at hq
    exact ⟨h.t i (by omega), h.one i h1⟩, h.t 7 (by omega), h.zero, h.top⟩
theorem CIs.sm {c : CT} {m : Nat → Rat} (h : CIs c m) : SmC c := fun k hk => (h.t k hk).size
theorem CIs.errs {a b : CT} {m n : Nat → Rat} (ha : CIs a m) (hb : CIs b n) : errCC a b = 0 := by
  unfold errCC; rw [if_neg (by rw [ha.err]; decide), hb.err]
theorem cv_ext {a b : CT} (h : ∀ k, k < 8 → a k = b k) : cv a = cv b := congrArg Value.agg (cvA_ext h)
theorem CIs.txt_eq {c : CT} {m : Nat → Rat} (h : CIs c m) {k : Nat} (hk : k < 8) : c k = txt m k := (h.t k hk).text
def SzC (k : Nat) (m : Nat → Rat) : Prop := ∀ i, i < 8 → Sz k (m i)
theorem SzC.mono {j k : Nat} {m : Nat → Rat} (h : SzC j m) (hk : j ≤ k) : SzC k m := fun i hi => (h i hi).mono hk
theorem szC_of {c : CT} {k : Nat} (h : errCT c = 0) (hs : ∀ i, i < 8 → (c i).size ≤ k) : SzC k (valM c) := fun i hi =>
  sz_of_text ((CIs.of h).t i hi).err (hs i hi)
theorem CIs.mk' {m : Nat → Rat} {k : Nat} (hs : SzC k m) (hk : k ≤ maxD) (h1 : ∀ i, i < 7 → 1 ≤ m i) (h0 : 0 ≤ m 7) (ht : m 7 ≤ 1) : CIs (txt m) m :=
  ⟨fun i hi => isT_rT (fits_sz.2 ((hs i hi).mono hk)), h1, h0, ht⟩
/-- The sum of two curves. -/
def sumM (a b : Nat → Rat) : Nat → Rat := fun i => if i = 7 then minQ (a 7 + b 7) 1 else a i * b i
theorem sumM_7 (a b : Nat → Rat) : sumM a b 7 = minQ (a 7 + b 7) 1 := if_pos rfl
theorem sumM_i (a b : Nat → Rat) {i : Nat} (h : i < 7) : sumM a b i = a i * b i := if_neg (by omega)
section
variable {a b : CT} {m n : Nat → Rat} {j k : Nat}
theorem szC_sum (sm : SzC j m) (sn : SzC k n) : SzC (j + k + 1) (sumM m n) := by
  intro i hi
  by_cases h : i = 7
  · subst h
    rw [sumM_7]
    have h2 := (sm 7 (by omega)).add (sn 7 (by omega))
    unfold minQ
    split
    · exact Sz.one.mono (by omega)
    · exact h2
  · rw [sumM_i m n (by omega)]
    exact ((sm i hi).mul (sn i hi)).mono (by omega)
theorem sumM_is (ha : CIs a m) (hb : CIs b n) (sm : SzC j m) (sn : SzC k n) (h : j + k + 1 ≤ maxD) : CIs (txt (sumM m n)) (sumM m n) := by
  refine CIs.mk' (szC_sum sm sn) h (fun i hi => ?_) ?_ ?_
  · rw [sumM_i m n hi]
    exact mul_ge_one (ha.one i hi) (hb.one i hi)
  · rw [sumM_7]
    have := ha.zero; have := hb.zero
    exact le_minQ (by grind) (by decide +kernel)
  · rw [sumM_7]
    exact (minQ_le _ _).2
/-- Add of two curves whose sum fits. -/
theorem maddV (ha : CIs a m) (hb : CIs b n) (sm : SzC j m) (sn : SzC k n) (h : j + k + 1 ≤ maxD) (w : World) (hr : Res w) :
    Calls Tryz.prog 44 #[cv a, cv b] w fun e w' => e = .returned (.tuple #[cv (txt (sumM m n)), .int .i64 0]) ∧ Below w.heap.size w w' := by
  have hs := sumM_is ha hb sm sn h
  have h7 : Sz (j + k + 1) (m 7 + n 7) := (sm 7 (by omega)).add (sn 7 (by omega))
  refine madd_ok a b (txt (sumM m n)) (rT (m 7 + n 7)) w ha.sm hb.sm hr (by rw [ha.errs hb]; rfl) (Lib.hid fun i hi => ?_) (Lib.hid ?_) (Lib.hid ?_)
  · refine doIs_ok (runs_of Tryz.func78 (by kernel_rfl) (by kernel_rfl)) fun w hr => mulT w (ha.t i (by omega)) (hb.t i (by omega)) ?_ hr
    have := hs.t i (by omega)
    rwa [sumM_i m n hi] at this
  · exact doIs_ok (runs_of Tryz.func77 (by kernel_rfl) (by kernel_rfl)) fun w hr => addT w (ha.t 7 (by omega)) (hb.t 7 (by omega)) (isT_rT (fits_sz.2 (h7.mono h))) hr
  · refine doIs_ok (runs_of Tryz.func107 (by kernel_rfl) (by kernel_rfl)) fun w hr => minT w (isT_rT (fits_sz.2 (h7.mono h))) IsT.one ?_ hr
    show rT (sumM m n 7) = _
    rw [sumM_7]
    exact (rT_min (isT_rT (fits_sz.2 (h7.mono h))) IsT.one).symm
end
/-! ### None -/
def noneM : Nat → Rat := fun i => if i = 7 then 0 else 1
theorem noneT_i {i : Nat} (h : i < 7) : noneT i = ⟨#[49]⟩ := by unfold noneT mixC; rw [if_pos h]; rfl
theorem none_cis : CIs noneT noneM := by
  refine ⟨fun i hi => ?_, fun i hi => ?_, ?_, ?_⟩
  · by_cases h : i = 7
    · subst h; exact IsT.zero
    · rw [noneT_i (by omega), show noneM i = 1 from if_neg h]; exact IsT.one
  · rw [show noneM i = 1 from if_neg (by omega)]; exact Rat.le_refl
  · exact Rat.le_refl
  · show (0 : Rat) ≤ 1; decide +kernel
theorem none_szC : SzC 1 noneM := by
  intro i _
  unfold noneM
  split
  · exact Sz.zero
  · exact Sz.one
/-! ### the order of curves -/
def leM (a b : Nat → Rat) : Bool := (List.range 8).all fun i => decide (a i ≤ b i)
theorem leM_iff {a b : Nat → Rat} : leM a b = true ↔ ∀ i, i < 8 → a i ≤ b i := by
  unfold leM
  rw [List.all_eq_true]
  simp only [List.mem_range, decide_eq_true_eq]
theorem sumM_comm (a b : Nat → Rat) : sumM a b = sumM b a := by
  funext i
  unfold sumM
  split
  · rw [Rat.add_comm]
  · rw [Rat.mul_comm]
theorem sumM_assoc {a b c : Nat → Rat} (ha : 0 ≤ a 7) (hc : 0 ≤ c 7) : sumM (sumM a b) c = sumM a (sumM b c) := by
  funext i
  by_cases h : i = 7
  · subst h
    rw [sumM_7, sumM_7, sumM_7, sumM_7, min_assoc ha hc]
  · have e : ∀ x y : Nat → Rat, sumM x y i = x i * y i := fun x y => if_neg h
    rw [e, e, e, e, Rat.mul_assoc]
theorem sumM_none {a : Nat → Rat} (ha : a 7 ≤ 1) : ∀ i, sumM a noneM i = a i := by
  intro i
  by_cases h : i = 7
  · subst h
    rw [sumM_7, show noneM 7 = 0 from rfl, Rat.add_zero, min_top ha]
  · rw [show sumM a noneM i = a i * noneM i from if_neg h, show noneM i = 1 from if_neg h, Rat.mul_one]
theorem le_sumM {a b : Nat → Rat} {c d : CT} (ha : CIs c a) (hb : CIs d b) : ∀ i, i < 8 → a i ≤ sumM a b i := by
  intro i hi
  by_cases h : i = 7
  · subst h
    rw [sumM_7]
    have := hb.zero
    exact le_minQ (by grind) ha.top
  · rw [sumM_i a b (by omega)]
    have h1 := ha.one i (by omega)
    have h2 := Rat.mul_le_mul_of_nonneg_left (hb.one i (by omega)) (show 0 ≤ a i by grind)
    rwa [Rat.mul_one] at h2
end Go.Proofs.YtbfhonhjejeaiaaGreatDoor
namespace Go.Proofs.YtbfhonhjejeaiaaGreatDoor
open Go.RowKit Go.Shelf
open Lim

set_option maxRecDepth 100000 in
set_option maxHeartbeats 2000000 in
theorem eq7_any (d : Nat) (a0 a1 a2 a3 a4 a5 a6 b0 b1 b2 b3 b4 b5 b6 : ByteArray) (w : World) : (Op.equalIn (d + 1 + 1) 50 (.agg #[.string a0, .string a1, .string a2, .string a3, .string a4, .string a5, .string a6]) (.agg #[.string b0, .string b1, .string b2, .string b3, .string b4, .string b5, .string b6])).run Tryz.prog w = .ok (a0.toList == b0.toList && (a1.toList == b1.toList && (a2.toList == b2.toList && (a3.toList == b3.toList && (a4.toList == b4.toList && (a5.toList == b5.toList && (a6.toList == b6.toList))))))) w := by
  have tu := Tryz.underlying22
  have ta := Tryz.isAgg22
  have tz := Tryz.sizeOf22
  rw [Op.equalIn]
  simp only [Sem.run_bind, run_underlying Tryz.underlying50, Result.andThen_ok]
  simp only [Std.Legacy.Range.forIn_eq_forIn_range', Std.Legacy.Range.size, Nat.sub_zero, Nat.add_sub_cancel, Nat.div_one, List.range'_succ, List.range'_zero, List.forIn_cons, List.forIn_nil]
  go_simp
  by_cases h0 : a0.toList = b0.toList
  case neg => simp [h0]
  by_cases h1 : a1.toList = b1.toList
  case neg => simp [h0, h1]
  by_cases h2 : a2.toList = b2.toList
  case neg => simp [h0, h1, h2]
  by_cases h3 : a3.toList = b3.toList
  case neg => simp [h0, h1, h2, h3]
  by_cases h4 : a4.toList = b4.toList
  case neg => simp [h0, h1, h2, h3, h4]
  by_cases h5 : a5.toList = b5.toList
  case neg => simp [h0, h1, h2, h3, h4, h5]
  by_cases h6 : a6.toList = b6.toList
  case neg => simp [h0, h1, h2, h3, h4, h5, h6]
  simp [h0, h1, h2, h3, h4, h5, h6]
theorem eq7_top (a0 a1 a2 a3 a4 a5 a6 b0 b1 b2 b3 b4 b5 b6 : ByteArray) (w : World) : (Op.equalIn 10000 50 (.agg #[.string a0, .string a1, .string a2, .string a3, .string a4, .string a5, .string a6]) (.agg #[.string b0, .string b1, .string b2, .string b3, .string b4, .string b5, .string b6])).run Tryz.prog w = .ok (a0.toList == b0.toList && (a1.toList == b1.toList && (a2.toList == b2.toList && (a3.toList == b3.toList && (a4.toList == b4.toList && (a5.toList == b5.toList && (a6.toList == b6.toList))))))) w := eq7_any 9998 a0 a1 a2 a3 a4 a5 a6 b0 b1 b2 b3 b4 b5 b6 w
theorem eq7_in (a0 a1 a2 a3 a4 a5 a6 b0 b1 b2 b3 b4 b5 b6 : ByteArray) (w : World) : (Op.equalIn 9999 50 (.agg #[.string a0, .string a1, .string a2, .string a3, .string a4, .string a5, .string a6]) (.agg #[.string b0, .string b1, .string b2, .string b3, .string b4, .string b5, .string b6])).run Tryz.prog w = .ok (a0.toList == b0.toList && (a1.toList == b1.toList && (a2.toList == b2.toList && (a3.toList == b3.toList && (a4.toList == b4.toList && (a5.toList == b5.toList && (a6.toList == b6.toList))))))) w := eq7_any 9997 a0 a1 a2 a3 a4 a5 a6 b0 b1 b2 b3 b4 b5 b6 w
set_option maxRecDepth 100000 in
set_option maxHeartbeats 2000000 in
theorem eq8_top (a0 a1 a2 a3 a4 a5 a6 a7 b0 b1 b2 b3 b4 b5 b6 b7 : ByteArray) (w : World) : (Op.equalIn 10000 52 (.agg #[.string a0, .string a1, .string a2, .string a3, .string a4, .string a5, .string a6, .string a7]) (.agg #[.string b0, .string b1, .string b2, .string b3, .string b4, .string b5, .string b6, .string b7])).run Tryz.prog w = .ok ((a0.toList == b0.toList && (a1.toList == b1.toList && (a2.toList == b2.toList && (a3.toList == b3.toList && (a4.toList == b4.toList && (a5.toList == b5.toList && (a6.toList == b6.toList))))))) && a7.toList == b7.toList) w := by
  have tu := Tryz.underlying22
  have ta := Tryz.isAgg22
  have tz := Tryz.sizeOf22
  have ta7 := Tryz.isAgg50
  have tz7 := Tryz.sizeOf50
  have hS : Tryz.prog.underlying 52 = some (.struct (Tryz.prog.fieldsOf 52)) := by kernel_rfl
  have hp : Tryz.prog.stoodInHeld 52 = false := by kernel_rfl
  have e7 := eq7_in a0 a1 a2 a3 a4 a5 a6 b0 b1 b2 b3 b4 b5 b6 w
  rw [show (10000 : Nat) = 9999 + 1 from rfl, run_equalIn_agg w 9999 52 _ _ hS hp]
  simp only [Program.fieldsOf, Tryz.underlying52]
  go_simp
  by_cases h0 : a0.toList = b0.toList
  case neg => simp [h0]
  by_cases h1 : a1.toList = b1.toList
  case neg => simp [h0, h1]
  by_cases h2 : a2.toList = b2.toList
  case neg => simp [h0, h1, h2]
  by_cases h3 : a3.toList = b3.toList
  case neg => simp [h0, h1, h2, h3]
  by_cases h4 : a4.toList = b4.toList
  case neg => simp [h0, h1, h2, h3, h4]
  by_cases h5 : a5.toList = b5.toList
  case neg => simp [h0, h1, h2, h3, h4, h5]
  by_cases h6 : a6.toList = b6.toList
  case neg => simp [h0, h1, h2, h3, h4, h5, h6]
  by_cases h7 : a7.toList = b7.toList
  case neg => simp [h0, h1, h2, h3, h4, h5, h6, h7]
  simp [h0, h1, h2, h3, h4, h5, h6, h7]
/-- Two curves are equal. -/
def eqCT (a b : CT) : Bool := ((a 0).toList == (b 0).toList && ((a 1).toList == (b 1).toList && ((a 2).toList == (b 2).toList && ((a 3).toList == (b 3).toList && ((a 4).toList == (b 4).toList && ((a 5).toList == (b 5).toList && ((a 6).toList == (b 6).toList))))))) && (a 7).toList == (b 7).toList
end Go.Proofs.YtbfhonhjejeaiaaGreatDoor
namespace Go.Proofs.YtbfhonhjejeaiaaGreatDoor
open Go.RowKit Go.Shelf
open Lim

attribute [local go_sem] Oper.semAt_some

/-- A curve of empty texts but the last. -/
def lastT (x : ByteArray) : CT := fun k => if k = 7 then x else ⟨#[]⟩
/-- What a call of rat.Max returns. -/
def MaxIs (a b r : ByteArray) : Prop := ∀ w, Res w → Calls Tryz.prog 109 #[.string a, .string b] w fun e w' => e = .returned (.tuple #[.string r, .int .i64 0]) ∧ Below w.heap.size w w'
/-- What the walk of Fits keeps. -/
structure FitAt (w : World) (gg go : Nat) (c l r : CT) (m : Nat) (W : World) : Prop where
  kc : CBlk W w.heap.size c
  kl : CBlk W (w.heap.size + 1) l
  kg : CBlk W gg (mixC (lastT (r 7)) r m)
  ko : CBlk W go c
  below : Below w.heap.size w W
theorem FitAt.later {w W W' : World} {gg go : Nat} {c l r : CT} {m : Nat} (h : FitAt w gg go c l r m W) (hb : Below W.heap.size W W') : FitAt w gg go c l r m W' :=
  ⟨h.kc.later hb, h.kl.later hb, h.kg.later hb, h.ko.later hb, h.below.trans (hb.mono h.below.size)⟩
theorem FitAt.cells7 {w W : World} {gg go : Nat} {c l r : CT} (h : FitAt w gg go c l r 7 W) : W.cell? ⟨gg, 0, none⟩ = some (.string (r 0)) ∧ W.cell? ⟨gg, 1, none⟩ = some (.string (r 1)) ∧ W.cell? ⟨gg, 2, none⟩ = some (.string (r 2)) ∧ W.cell? ⟨gg, 3, none⟩ = some (.string (r 3)) ∧
    W.cell? ⟨gg, 4, none⟩ = some (.string (r 4)) ∧ W.cell? ⟨gg, 5, none⟩ = some (.string (r 5)) ∧ W.cell? ⟨gg, 6, none⟩ = some (.string (r 6)) ∧ W.cell? ⟨gg, 7, none⟩ = some (.string (r 7)) := h.kg.cells
set_option maxRecDepth 100000 in
set_option maxHeartbeats 8000000 in
theorem mfits_ok (c l r : CT) (w : World) (hc : SmC c) (hl : SmC l) (hr : Res w) (hn : (errCC c l : Int) = 0) (H8 : Hid (∀ i, i < 8 → MaxIs (c i) (l i) (r i))) :
    Calls Tryz.prog 46 #[cv c, cv l] w fun e w' => e = .returned (.tuple #[.bool (eqCT r l), .int .i64 0]) ∧ Below w.heap.size w w' := by
  have k1 := (CBlk.new w c).alloc (cvO l)
  have k2 := CBlk.new (w.alloc (cvO c)) l
  rw [World.size_alloc] at k2
  have HB := Lib.hid (below_alloc (below_alloc (Below.refl w.heap.size w) (cvO c)) (cvO l))
  have HR := Lib.hid hr
  have HBO := Lib.hid (fun (w : World) hr => mboth_any c l w hc hl hr)
  have HK := Lib.hid (And.intro k1 k2)
  obtain ⟨c0, c1, c2, c3, c4, c5, c6, c7⟩ := k1.cells
  obtain ⟨d0, d1, d2, d3, d4, d5, d6, d7⟩ := k2.cells
  rw [hn] at HBO
  clear k1 k2 hr hc hl hn
  refine (callsIn_wide (n := 3)).1 ?_
  have h1 : 1 ≤ 3 := by omega
  have hmx : Tryz.prog.follows .mixedOrders = true := by kernel_rfl
  refine callsIn_of_wp_marks Tryz.func46 rfl trivial ?_ rfl
  simp only [Tryz.ntmps46, List.size_toArray, List.length_cons, List.length_nil, Nat.reduceAdd, Nat.reduceSub, Array.replicate_succ, Array.replicate_zero, List.push_toArray, List.append_toArray, List.nil_append, List.cons_append]
  gi_wp2_with (first
    | (refine ⟨trivial, ?_⟩; gi_at_call 108; refine (callsIn_wide.2 (HBO.out _ (HR.out.below HB.out))).mono ?_; rintro e w1 ⟨rfl, hb⟩; have HB1 := Lib.hid (HB.out.trans (hb.mono HB.out.size)); have HK1 := Lib.hid (And.intro (HK.out.1.later hb) (HK.out.2.later hb)); have e7 := HK1.out.1.cell (k := 7) (by omega); have f7 := HK1.out.2.cell (k := 7) (by omega); clear hb c0 c1 c2 c3 c4 c5 c6 c7 d0 d1 d2 d3 d4 d5 d6 d7)
    | (refine ⟨trivial, ?_⟩; gi_at_call 109; refine (callsIn_wide.2 (H8.out 7 (by omega) _ (HR.out.below HB1.out))).mono ?_; rintro e w2 ⟨rfl, hb⟩; have HB2 := Lib.hid (HB1.out.trans (hb.mono HB1.out.size)); have HK2 := Lib.hid (And.intro (HK1.out.1.later hb) (HK1.out.2.later hb)); obtain ⟨g0, g1, g2, g3, g4, g5, g6, g7⟩ := HK2.out.1.cells; have hl2 := HK2.out.1.lt; clear hb e7 f7)
    | (refine ⟨trivial, ?_⟩; gi_at_call 99; refine (orders_in Fence.wide 2 trivial rfl c _).mono ?_; rintro e w' ⟨rfl, rfl⟩; clear g0 g1 g2 g3 g4 g5 g6 g7))
  have hg : CBlk _ _ (lastT (r 7)) := (CBlk.new w2 (lastT (r 7))).alloc (cvO c)
  have ho := CBlk.new (w2.alloc (.cells #[.string ⟨#[]⟩, .string ⟨#[]⟩, .string ⟨#[]⟩, .string ⟨#[]⟩, .string ⟨#[]⟩, .string ⟨#[]⟩, .string ⟨#[]⟩, .string (r 7)] 52)) c
  rw [World.size_alloc] at ho
  have hbb := below_alloc (below_alloc (Below.refl w2.heap.size w2) (.cells #[.string ⟨#[]⟩, .string ⟨#[]⟩, .string ⟨#[]⟩, .string ⟨#[]⟩, .string ⟨#[]⟩, .string ⟨#[]⟩, .string ⟨#[]⟩, .string (r 7)] 52)) (cvO c)
  have hI0 : FitAt w w2.heap.size (w2.heap.size + 1) c l r 0 ((w2.alloc (.cells #[.string ⟨#[]⟩, .string ⟨#[]⟩, .string ⟨#[]⟩, .string ⟨#[]⟩, .string ⟨#[]⟩, .string ⟨#[]⟩, .string ⟨#[]⟩, .string (r 7)] 52)).alloc (cvO c)) :=
    ⟨HK2.out.1.later hbb, HK2.out.2.later hbb, by rw [mixC_zero]; exact hg, ho, HB2.out.trans (hbb.mono HB2.out.size)⟩
  have hw1 := HK2.out.2.lt
  clear hg ho hbb HK2 HK1 HK
  generalize (w2.alloc (.cells #[.string ⟨#[]⟩, .string ⟨#[]⟩, .string ⟨#[]⟩, .string ⟨#[]⟩, .string ⟨#[]⟩, .string ⟨#[]⟩, .string ⟨#[]⟩, .string (r 7)] 52)).alloc (cvO c) = WR at *
  generalize w2.heap.size = gg at *
  have HW1 := Lib.hid hw1
  have hgo := hI0.ko.lt
  refine wpIn_range_ord rfl h1 (gf := 144) (lb := #[.pointer (some ⟨gg + 1, 0, none⟩)]) rfl trivial eg_orders
    (orders_seq Fence.wide 2 trivial rfl (by omega) (gg + 1) c) (fun _ => rfl)
    (fun pre W => FitAt w gg (gg + 1) c l r pre.length W) (fun _ _ _ => False)
    ?hG ?hI (fun _ _ _ _ _ hs _ _ => hs) hI0 ?round ?done ?stop
  case hG => rintro pre W h; exact h.ko
  case hI =>
    rintro s W W' row h hg hr
    exact ⟨Blk.own_ h.kc hg hr, Blk.own_ h.kl hg hr, Blk.own_ h.kg hg hr, Blk.own_ h.ko hg hr, below_own_ h.below (Nat.le_refl _) (by have := hI0.below.size; omega) hg hr⟩
  case round =>
    rintro l' pre i W K hi hnx hK
    have HNX := Lib.hid hnx
    clear hnx hI0
    gi_wp2
    refine hK _ _ (KeepsOthers.refl _) hi ?_
    clear hK hi
    rintro Wb _ hm
    obtain ⟨hpre, hi7⟩ := HNX.out
    have hlen : pre.length = i := by rw [hpre, List.length_range]
    rw [hlen] at hm
    have HLEN := Lib.hid hlen
    have HI7 := Lib.hid hi7
    have hcb := hm.kl.cell (k := i) (by omega)
    have HM0 := Lib.hid hm
    have hi0 : (0 : Int) ≤ (i : Int) := by omega
    have hi1 : (i : Int) < 7 := by omega
    clear hm hpre hi7 hlen
    gi_wp2_with (refine ⟨trivial, ?_⟩; gi_at_call 109; refine (CallsIn.inRound l' (callsIn_wide.2 (H8.out i (Nat.lt_succ_of_lt HI7.out) Wb (HR.out.below HM0.out.below)))).mono ?_; rintro e w2 ⟨rfl, hb⟩; have HM1 := Lib.hid (HM0.out.later hb); have HB2 := Lib.hid hb; have hca := HM1.out.kg.cell (k := i) (Nat.lt_succ_of_lt HI7.out); have hza := HM1.out.kg.frozen i; clear hb)
    have hg1 := HW1.out
    refine ⟨(keeps_of_below HB2.out).trans (KeepsOthers.setCell _ _ _), ?_⟩
    have el : (pre ++ [i]).length = i + 1 := by rw [List.length_append, HLEN.out]; rfl
    show FitAt w gg (gg + 1) c l r (pre ++ [i]).length _
    rw [el]
    have hbw := HM1.out.below.size
    exact ⟨Blk.far HM1.out.kc (p := ⟨gg, i, none⟩) (by show w.heap.size ≠ gg; omega) _, Blk.far HM1.out.kl (p := ⟨gg, i, none⟩) (by show w.heap.size + 1 ≠ gg; omega) _,
      by rw [← mixC_upd]; exact HM1.out.kg.set_ (Nat.lt_succ_of_lt HI7.out) (r i), Blk.far HM1.out.ko (p := ⟨gg, i, none⟩) (by show gg + 1 ≠ gg; omega) _, HM1.out.below.setCell (by show w.heap.size ≤ gg; omega) _⟩
  case done =>
    rintro D ys W hD hS hm hK
    rw [hS, List.length_range] at hm
    obtain ⟨q0, q1, q2, q3, q4, q5, q6, q7⟩ := hm.cells7
    obtain ⟨z0, z1, z2, z3, z4, z5, z6, z7⟩ := hm.kl.cells
    have HM0 := Lib.hid hm
    have HKD := Lib.hid hK
    have hsz : w.heap.size ≤ WR.heap.size := hI0.below.size
    have HDD := Lib.hid (Nat.le_trans hsz hD)
    clear hS hm hK hI0 hsz
    have e7 := fun W => eq7_top (r 0) (r 1) (r 2) (r 3) (r 4) (r 5) (r 6) (l 0) (l 1) (l 2) (l 3) (l 4) (l 5) (l 6) W
    have HC8 : Hid (eqCT r l = (((r 0).toList == (l 0).toList && ((r 1).toList == (l 1).toList && ((r 2).toList == (l 2).toList && ((r 3).toList == (l 3).toList && ((r 4).toList == (l 4).toList && ((r 5).toList == (l 5).toList && ((r 6).toList == (l 6).toList))))))) && (r 7).toList == (l 7).toList)) := Lib.hid rfl
    cases hb : ((r 0).toList == (l 0).toList && ((r 1).toList == (l 1).toList && ((r 2).toList == (l 2).toList && ((r 3).toList == (l 3).toList && ((r 4).toList == (l 4).toList && ((r 5).toList == (l 5).toList && ((r 6).toList == (l 6).toList))))))) with
    | true =>
      rw [hb] at e7 HC8
      clear hb
      gi_wp2
      exact ⟨by simp, .inl ⟨_, _, rfl, run_takeDeferred HKD.out, ⟨_, results_tmp2 rfl _ _ _, by rw [HC8.out]; rfl, HM0.out.below.trans (belowK_b (w := w) (Nat.le_refl _) _ D _ _ HDD.out HKD.out rfl rfl)⟩⟩⟩
    | false =>
      rw [hb] at e7 HC8
      clear hb
      gi_wp2
      exact ⟨by simp, .inl ⟨_, _, rfl, run_takeDeferred HKD.out, ⟨_, results_tmp2 rfl _ _ _, by rw [HC8.out]; rfl, HM0.out.below.trans (belowK_b (w := w) (Nat.le_refl _) _ D _ _ HDD.out HKD.out rfl rfl)⟩⟩⟩
  case stop =>
    rintro D cd pre x' W hD _ h hK
    exact h.elim
end Go.Proofs.YtbfhonhjejeaiaaGreatDoor
namespace Go.Proofs.YtbfhonhjejeaiaaGreatDoor
open Go.RowKit Go.Shelf
open Lim

attribute [local go_sem] Oper.semAt_some

/-- What a power of a chain in state n returns. -/
def PowIs (n : Int) (a : ByteArray) (m : Int) (r : ByteArray) : Prop := ∀ (h : Nat) (w : World), Res w → Blk w h 134 #[.int .i64 n] → Calls Tryz.prog 105 #[.pointer (some ⟨h, 0, none⟩), .string a, .int .i64 m] w fun e w' => e = .returned (.string r) ∧ Below w.heap.size w w'
/-- The error of the arguments of Of. -/
def errOf (F L : ByteArray) : Nat := if errQ F.data.toList ≠ 0 then errQ F.data.toList else if errQ L.data.toList ≠ 0 then errQ L.data.toList else if cmpQ (valQ F.data.toList) 1 < 0 ∨ errU L ≠ 0 then 2 else 0
/-- What the loop over the two texts keeps. -/
structure OfChk (w : World) (F L : ByteArray) (W : World) : Prop where
  kf : Blk W w.heap.size 22 #[.string F]
  kz : CBlk W (w.heap.size + 1) zC
  ks : Blk W (w.heap.size + 1 + 1) 22 #[.string F, .string L]
  below : Below w.heap.size w W
theorem OfChk.later {w W W' : World} {F L : ByteArray} (h : OfChk w F L W) (hb : Below W.heap.size W W') : OfChk w F L W' :=
  ⟨h.kf.below hb h.kf.lt, h.kz.later hb, h.ks.below hb h.ks.lt, h.below.trans (hb.mono h.below.size)⟩
theorem OfChk.new (w : World) (F L : ByteArray) : OfChk w F L (((w.alloc (.cells #[.string F] 22)).alloc (cvO zC)).alloc (.cells #[.string F, .string L] 22)) := by
  have k1 := Blk.new w 22 #[.string F]
  have k2 := CBlk.new (w.alloc (.cells #[.string F] 22)) zC
  have k3 := Blk.new ((w.alloc (.cells #[.string F] 22)).alloc (cvO zC)) 22 #[.string F, .string L]
  rw [World.size_alloc] at k2
  rw [World.size_alloc, World.size_alloc] at k3
  exact ⟨(k1.alloc _).alloc _, k2.alloc _, k3, below_alloc (below_alloc (below_alloc (Below.refl _ _) _) _) _⟩
def two2 (F L : ByteArray) : Nat → ByteArray := fun k => if k = 0 then F else L
/-- What the walk of Of keeps behind the checks. -/
structure OfAt (w : World) (gh gn : Nat) (F nx : ByteArray) (r : CT) (m : Nat) (W : World) : Prop where
  kf : Blk W w.heap.size 22 #[.string F]
  kz : CBlk W (w.heap.size + 1) zC
  kh : Blk W gh 134 #[.int .i64 0]
  kn : Blk W gn 22 #[.string nx]
  ku : CBlk W (gn + 1) (mixC (lastT (r 7)) r m)
  ko : CBlk W (gn + 1 + 1) (lastT (r 7))
  below : Below w.heap.size w W
theorem OfAt.later {w W W' : World} {gh gn : Nat} {F nx : ByteArray} {r : CT} {m : Nat} (h : OfAt w gh gn F nx r m W) (hb : Below W.heap.size W W') : OfAt w gh gn F nx r m W' :=
  ⟨h.kf.below hb h.kf.lt, h.kz.later hb, h.kh.below hb h.kh.lt, h.kn.below hb h.kn.lt, h.ku.later hb, h.ko.later hb, h.below.trans (hb.mono h.below.size)⟩
theorem OfAt.cells7 {w W : World} {gh gn : Nat} {F nx : ByteArray} {r : CT} (h : OfAt w gh gn F nx r 7 W) : W.cell? ⟨gn + 1, 0, none⟩ = some (.string (r 0)) ∧ W.cell? ⟨gn + 1, 1, none⟩ = some (.string (r 1)) ∧ W.cell? ⟨gn + 1, 2, none⟩ = some (.string (r 2)) ∧ W.cell? ⟨gn + 1, 3, none⟩ = some (.string (r 3)) ∧
    W.cell? ⟨gn + 1, 4, none⟩ = some (.string (r 4)) ∧ W.cell? ⟨gn + 1, 5, none⟩ = some (.string (r 5)) ∧ W.cell? ⟨gn + 1, 6, none⟩ = some (.string (r 6)) ∧ W.cell? ⟨gn + 1, 7, none⟩ = some (.string (r 7)) := h.ku.cells
theorem curve_ret {F : Fence} {n : Nat} {fn : Func} {tmps : Array Value} {R : Ending → World → Prop} {p u : Tmp} {W w : World} {g : Nat} {z c : CT} (hres : fn.results = #[.cell p 52, .tmp u]) (hp : tmps.getD p undef = .pointer (some ⟨g, 0, none⟩)) (hz : CBlk W g z)
    (hg : w.heap.size ≤ g) (hB : Below w.heap.size w W) (hR : ∀ W', Below w.heap.size w W' → R (.returned (.tuple #[cv c, tmps.getD u undef])) W') :
    bodyPostM F n Tryz.prog fn R .ret { tmps := tmps, defers := [] } (fin8 W g c) :=
  leavesM_nil ⟨_, run_cell_tmp hres hp (load_curve (fin8_blk c hz)), hR _ (fin8_below hB hg c)⟩
/-- The iterator over a curve of empty texts but the last. -/
theorem orders_last (F : Fence) (n : Nat) (hF : F.fn 99) (hro : F.round = none) (x : ByteArray) (w : World) :
    CallsIn F n Tryz.prog 99 #[.agg #[.string ⟨#[]⟩, .string ⟨#[]⟩, .string ⟨#[]⟩, .string ⟨#[]⟩, .string ⟨#[]⟩, .string ⟨#[]⟩, .string ⟨#[]⟩, .string x]] w fun e w' => e = .returned (.func (.func 144) #[] #[.pointer (some ⟨w.heap.size, 0, none⟩)]) ∧
      w' = w.alloc (.cells #[.string ⟨#[]⟩, .string ⟨#[]⟩, .string ⟨#[]⟩, .string ⟨#[]⟩, .string ⟨#[]⟩, .string ⟨#[]⟩, .string ⟨#[]⟩, .string x] 52) := orders_in F n hF hro (lastT x) w
/-- Ahead of the curve: the chain is there. -/
structure OfCh (w : World) (gh : Nat) (F : ByteArray) (W : World) : Prop where
  kf : Blk W w.heap.size 22 #[.string F]
  kz : CBlk W (w.heap.size + 1) zC
  kh : Blk W gh 134 #[.int .i64 0]
  below : Below w.heap.size w W
theorem OfCh.later {w W W' : World} {gh : Nat} {F : ByteArray} (h : OfCh w gh F W) (hb : Below W.heap.size W W') : OfCh w gh F W' :=
  ⟨h.kf.below hb h.kf.lt, h.kz.later hb, h.kh.below hb h.kh.lt, h.below.trans (hb.mono h.below.size)⟩
theorem OfChk.chain {w W : World} {F L : ByteArray} (h : OfChk w F L W) : OfCh w W.heap.size F (W.alloc (.cells #[.int .i64 0] 134)) :=
  have hb := below_alloc (Below.refl W.heap.size W) (.cells #[.int .i64 0] 134)
  ⟨h.kf.below hb h.kf.lt, h.kz.later hb, Blk.new W 134 #[.int .i64 0], h.below.trans (hb.mono h.below.size)⟩
theorem OfCh.at {w W : World} {gh : Nat} {F nx : ByteArray} {r : CT} (h : OfCh w gh F W) : OfAt w gh W.heap.size F nx r 0 (((W.alloc (.cells #[.string nx] 22)).alloc (.cells #[.string ⟨#[]⟩, .string ⟨#[]⟩, .string ⟨#[]⟩, .string ⟨#[]⟩, .string ⟨#[]⟩, .string ⟨#[]⟩, .string ⟨#[]⟩, .string (r 7)] 52)).alloc (.cells #[.string ⟨#[]⟩, .string ⟨#[]⟩, .string ⟨#[]⟩, .string ⟨#[]⟩, .string ⟨#[]⟩, .string ⟨#[]⟩, .string ⟨#[]⟩, .string (r 7)] 52)) := by
  have hb := below_alloc (below_alloc (below_alloc (Below.refl W.heap.size W) (.cells #[.string nx] 22)) (.cells #[.string ⟨#[]⟩, .string ⟨#[]⟩, .string ⟨#[]⟩, .string ⟨#[]⟩, .string ⟨#[]⟩, .string ⟨#[]⟩, .string ⟨#[]⟩, .string (r 7)] 52)) (.cells #[.string ⟨#[]⟩, .string ⟨#[]⟩, .string ⟨#[]⟩, .string ⟨#[]⟩, .string ⟨#[]⟩, .string ⟨#[]⟩, .string ⟨#[]⟩, .string (r 7)] 52)
  have k1 := ((Blk.new W 22 #[.string nx]).alloc (.cells #[.string ⟨#[]⟩, .string ⟨#[]⟩, .string ⟨#[]⟩, .string ⟨#[]⟩, .string ⟨#[]⟩, .string ⟨#[]⟩, .string ⟨#[]⟩, .string (r 7)] 52)).alloc (.cells #[.string ⟨#[]⟩, .string ⟨#[]⟩, .string ⟨#[]⟩, .string ⟨#[]⟩, .string ⟨#[]⟩, .string ⟨#[]⟩, .string ⟨#[]⟩, .string (r 7)] 52)
  have k2 : CBlk _ _ (lastT (r 7)) := (CBlk.new (W.alloc (.cells #[.string nx] 22)) (lastT (r 7))).alloc (.cells #[.string ⟨#[]⟩, .string ⟨#[]⟩, .string ⟨#[]⟩, .string ⟨#[]⟩, .string ⟨#[]⟩, .string ⟨#[]⟩, .string ⟨#[]⟩, .string (r 7)] 52)
  have k3 : CBlk (((W.alloc (.cells #[.string nx] 22)).alloc (.cells #[.string ⟨#[]⟩, .string ⟨#[]⟩, .string ⟨#[]⟩, .string ⟨#[]⟩, .string ⟨#[]⟩, .string ⟨#[]⟩, .string ⟨#[]⟩, .string (r 7)] 52)).alloc (.cells #[.string ⟨#[]⟩, .string ⟨#[]⟩, .string ⟨#[]⟩, .string ⟨#[]⟩, .string ⟨#[]⟩, .string ⟨#[]⟩, .string ⟨#[]⟩, .string (r 7)] 52)) ((W.alloc (.cells #[.string nx] 22)).alloc (.cells #[.string ⟨#[]⟩, .string ⟨#[]⟩, .string ⟨#[]⟩, .string ⟨#[]⟩, .string ⟨#[]⟩, .string ⟨#[]⟩, .string ⟨#[]⟩, .string (r 7)] 52)).heap.size (lastT (r 7)) := CBlk.new ((W.alloc (.cells #[.string nx] 22)).alloc (.cells #[.string ⟨#[]⟩, .string ⟨#[]⟩, .string ⟨#[]⟩, .string ⟨#[]⟩, .string ⟨#[]⟩, .string ⟨#[]⟩, .string ⟨#[]⟩, .string (r 7)] 52)) (lastT (r 7))
  rw [World.size_alloc] at k2
  rw [World.size_alloc, World.size_alloc] at k3
  exact ⟨h.kf.below hb h.kf.lt, h.kz.later hb, h.kh.below hb h.kh.lt, k1, by rw [mixC_zero]; exact k2, k3, h.below.trans (hb.mono h.below.size)⟩
/-- What Of returns. -/
def ofRes (r : CT) (n : Nat) : Value := if n = 0 then .tuple #[cv r, .int .i64 0] else .tuple #[cv zC, .int .i64 (n : Int)]
theorem ofRes_ok (r : CT) : ofRes r 0 = .tuple #[cv r, .int .i64 0] := rfl
theorem ofRes_no (r : CT) {n : Nat} (h : n ≠ 0) : ofRes r n = .tuple #[cv zC, .int .i64 (n : Int)] := if_neg h
set_option maxRecDepth 100000 in
set_option maxHeartbeats 8000000 in
theorem mof_walk (F L nx : ByteArray) (x y s r : CT) (w : World) (hF : F.size ≤ 270000) (hL : L.size ≤ 270000) (hr : Res w) (hr7 : r 7 = L)
    (HN : Hid (errOf F L = 0 → DoIs 0 77 F ⟨#[49]⟩ nx)) (HX : Hid (errOf F L = 0 → ∀ i : Nat, i < 7 → PowIs 0 F ((i : Int) + 2) (x i))) (HY : Hid (errOf F L = 0 → ∀ i : Nat, i < 7 → PowIs 0 F (1 - ((i : Int) + 2)) (y i)))
    (HS : Hid (errOf F L = 0 → ∀ i : Nat, i < 7 → DoIs 0 77 (x i) (y i) (s i))) (HD : Hid (errOf F L = 0 → ∀ i : Nat, i < 7 → DoIs 0 86 (s i) nx (r i))) :
    Calls Tryz.prog 47 #[.string F, .string L] w fun e w' => e = .returned (ofRes r (errOf F L)) ∧ Below w.heap.size w w' := by
  subst hr7
  have H0 := Lib.hid (OfChk.new w F (r 7))
  have HR := Lib.hid hr
  have HSZ := Lib.hid (And.intro hF hL)
  clear hr hF hL
  refine (callsIn_wide (n := 3)).1 ?_
  have h1 : 1 ≤ 3 := by omega
  have hmx : Tryz.prog.follows .mixedOrders = true := by kernel_rfl
  refine callsIn_of_wp_marks Tryz.func47 rfl trivial ?_ rfl
  simp only [Tryz.ntmps47, List.size_toArray, List.length_cons, List.length_nil, Nat.reduceAdd, Nat.reduceSub, Array.replicate_succ, Array.replicate_zero, List.push_toArray, List.append_toArray, List.nil_append, List.cons_append]
  gi_wp2
  gi_loopw [19] (fun v19 wr => ∃ k : Nat, k ≤ 2 ∧ v19 = .int .i64 (k : Int) ∧ Hid (∀ j, j < k → errQ (two2 F (r 7) j).data.toList = 0) ∧ Hid (OfChk w F (r 7) wr)) (fun v19 _ => 2 - (intOf v19).toNat)
  case atStart => exact ⟨0, by omega, rfl, Lib.hid (fun j h => absurd h (by omega)), H0⟩
  case round =>
    obtain ⟨k, hk, rfl, HE, HM⟩ := hrel
    clear H0
    rcases Nat.lt_or_ge k 2 with hlt | hge
    · have hck : wr.cell? ⟨w.heap.size + 1 + 1, k, none⟩ = some (.string (two2 F (r 7) k)) := by
        have := cells2 HM.out.ks
        match k, hlt with
        | 0, _ => exact this.1
        | 1, _ => exact this.2
      have hlt' : (k : Int) < 2 := by omega
      have hsz : (two2 F (r 7) k).size ≤ 270000 := by
        unfold two2
        split
        · exact HSZ.out.1
        · exact HSZ.out.2
      have hF := ratCheck_any (two2 F (r 7) k) wr hsz (HR.out.below HM.out.below)
      by_cases he : errQ (two2 F (r 7) k).data.toList = 0
      · rw [he] at hF
        have HF := Lib.hid hF
        have HE1 := Lib.hid he
        clear hF he hsz
        gi_wp2_with (refine ⟨trivial, ?_⟩; gi_at_call 81; refine (callsIn_wide.2 HF.out).mono ?_; rintro e w1 ⟨rfl, hb⟩; have HM1 := Lib.hid (HM.out.later hb); clear hb)
        go_roundw
        case rel => exact ⟨k + 1, hlt, by go_num, Lib.hid (fun j hj => by
          rcases Nat.lt_or_ge j k with h | h
          · exact HE.out j h
          · obtain rfl : j = k := by omega
            exact HE1.out), HM1⟩
        case measure => simp [intOf]; omega
      · have HEO : Hid (errOf F (r 7) = errQ (two2 F (r 7) k).data.toList) := Lib.hid (by
          unfold errOf
          match k, hlt, HE, he with
          | 0, _, _, he => exact if_pos he
          | 1, _, HE, he =>
            have h0 : errQ F.data.toList = 0 := HE.out 0 (by omega)
            rw [if_neg (by omega)]
            exact if_pos he)
        obtain ⟨z, hz⟩ : ∃ z : Int, (errQ (two2 F (r 7) k).data.toList : Int) = z := ⟨_, rfl⟩
        rw [hz] at hF
        have hne : (z == 0) = false := by rw [beq_eq_false_iff_ne]; omega
        have HRS : Hid (ofRes r (errOf F (r 7)) = .tuple #[cv zC, .int .i64 z]) := Lib.hid (by rw [HEO.out, ofRes_no r he, hz])
        have HF := Lib.hid hF
        clear hF he hz hsz
        gi_wp2_with (refine ⟨trivial, ?_⟩; gi_at_call 81; refine (callsIn_wide.2 HF.out).mono ?_; rintro e w1 ⟨rfl, hb⟩; have HM1 := Lib.hid (HM.out.later hb); obtain ⟨z0, z1, z2, z3, z4, z5, z6, z7⟩ := HM1.out.kz.cells; obtain ⟨y0, y1, y2, y3, y4, y5, y6, y7⟩ := HM1.out.kz.frozens; clear hb)
        exact curve_ret (g := w.heap.size + 1) (c := zC) rfl rfl HM1.out.kz (Nat.le_succ _) HM1.out.below (fun W' h => ⟨by rw [HRS.out]; rfl, h⟩)
    · obtain rfl : k = 2 := by omega
      have he0 : errQ F.data.toList = 0 := HE.out 0 (by omega)
      have he1 : errQ (r 7).data.toList = 0 := HE.out 1 (by omega)
      have TF := IsT.of he0
      have TL := IsT.of he1
      have eo : errOf F (r 7) = if cmpQ (valQ F.data.toList) 1 < 0 ∨ errU (r 7) ≠ 0 then 2 else 0 := by
        unfold errOf
        rw [if_neg (by omega), if_neg (by omega)]
      have hcf := cell0 HM.out.kf
      have HL := Lib.hid (mleast_any wr TF (HR.out.below HM.out.below))
      have HBW := Lib.hid (fun (w : World) hr => between_any w TL hr)
      have HEO := Lib.hid eo
      clear HE he0 he1 TF TL eo hk hge
      generalize hkk : cmpQ (valQ F.data.toList) 1 = kk at HL HEO
      clear hkk
      by_cases hk0 : 0 ≤ kk
      · have d1 : decide (0 ≤ kk) = true := decide_eq_true hk0
        have n1 : ¬ kk < 0 := by omega
        by_cases hu : errU (r 7) = 0
        · rw [hu] at HBW
          have e0 : errOf F (r 7) = 0 := by
            rw [HEO.out, if_neg]
            rintro (h | h)
            · exact n1 h
            · exact h hu
          have HN := Lib.hid (HN.out e0)
          have HX := Lib.hid (HX.out e0)
          have HY := Lib.hid (HY.out e0)
          have HS := Lib.hid (HS.out e0)
          have HD := Lib.hid (HD.out e0)
          have HRS : Hid (ofRes r (errOf F (r 7)) = .tuple #[cv r, .int .i64 0]) := Lib.hid (by rw [e0]; rfl)
          clear hk0 n1 hu HEO e0
          gi_wp2_with (first
            | (refine ⟨trivial, ?_⟩; gi_at_call 103; refine (callsIn_wide.2 HL.out).mono ?_; rintro e w1 ⟨rfl, hb⟩; have HM1 := Lib.hid (HM.out.later hb); clear hb)
            | (refine ⟨trivial, ?_⟩; gi_at_call 110; refine (callsIn_wide.2 (HBW.out _ (HR.out.below HM1.out.below))).mono ?_; rintro e w2 ⟨rfl, hb⟩; have HM2 := Lib.hid (HM1.out.later hb); have hcf2 := cell0 HM2.out.kf; have hlf2 := HM2.out.kf.lt; clear hb hcf))
          have TK0 : True := trivial
          have H3 := Lib.hid HM2.out.chain
          gi_wp2_with ((clear TK0; refine ⟨trivial, ?_⟩; gi_at_call 104; refine (callsIn_wide.2 (HN.out w2.heap.size _ (HR.out.below H3.out.below) H3.out.kh)).mono ?_; rintro e w3 ⟨rfl, hb⟩; have H4 := Lib.hid (H3.out.later hb); clear hb hcf2))
          gi_wp2_with (refine ⟨trivial, ?_⟩; gi_at_call 99; refine (orders_last Fence.wide 2 trivial rfl (r 7) _).mono ?_; rintro e w' ⟨rfl, rfl⟩)
          have hI0 : OfAt w w2.heap.size w3.heap.size F nx r 0 _ := H4.out.at
          have hw2 := HM2.out.kz.lt
          have hw3 := H4.out.kh.lt
          clear H3 H4 HM2 HM1 HM
          generalize ((w3.alloc (.cells #[.string nx] 22)).alloc (.cells #[.string ⟨#[]⟩, .string ⟨#[]⟩, .string ⟨#[]⟩, .string ⟨#[]⟩, .string ⟨#[]⟩, .string ⟨#[]⟩, .string ⟨#[]⟩, .string (r 7)] 52)).alloc (.cells #[.string ⟨#[]⟩, .string ⟨#[]⟩, .string ⟨#[]⟩, .string ⟨#[]⟩, .string ⟨#[]⟩, .string ⟨#[]⟩, .string ⟨#[]⟩, .string (r 7)] 52) = WR at *
          generalize w2.heap.size = gh at *
          generalize w3.heap.size = gn at *
          have HW1 := Lib.hid (And.intro hw2 hw3)
          refine wpIn_range_ord rfl h1 (gf := 144) (lb := #[.pointer (some ⟨gn + 1 + 1, 0, none⟩)]) rfl trivial eg_orders
            (orders_seq Fence.wide 2 trivial rfl (by omega) (gn + 1 + 1) (lastT (r 7))) (fun _ => rfl)
            (fun pre W => OfAt w gh gn F nx r pre.length W) (fun _ _ _ => False)
            ?hG ?hI (fun _ _ _ _ _ hs _ _ => hs) hI0 ?round ?done ?stop
          case hG => rintro pre W h; exact h.ko
          case hI =>
            rintro s W W' row h hg hr
            exact ⟨Blk.own_ h.kf hg hr, Blk.own_ h.kz hg hr, Blk.own_ h.kh hg hr, Blk.own_ h.kn hg hr, Blk.own_ h.ku hg hr, Blk.own_ h.ko hg hr, below_own_ h.below (Nat.le_refl _) (by have := hI0.below.size; omega) hg hr⟩
          case round =>
            rintro l pre i W K hi hnx hK
            have HNX := Lib.hid hnx
            clear hnx hI0
            gi_wp2
            refine hK _ _ (KeepsOthers.refl _) hi ?_
            clear hK hi
            rintro Wb _ hm
            obtain ⟨hpre, hi7⟩ := HNX.out
            have hlen : pre.length = i := by rw [hpre, List.length_range]
            rw [hlen] at hm
            have HLEN := Lib.hid hlen
            have HI7 := Lib.hid hi7
            have hcf := cell0 hm.kf
            have HM0 := Lib.hid hm
            have hi0 : (0 : Int) ≤ (i : Int) := by omega
            have hi1 : (i : Int) < 7 := by omega
            have TK1 : True := trivial
            clear hm hpre hi7 hlen
            gi_wp2_with ((clear TK1; refine ⟨trivial, ?_⟩; gi_at_call 105; refine (CallsIn.inRound l (callsIn_wide.2 (HX.out i HI7.out gh Wb (HR.out.below HM0.out.below) HM0.out.kh))).mono ?_; rintro e w5 ⟨rfl, hb⟩; have HM1 := Lib.hid (HM0.out.later hb); have HB1 := Lib.hid hb; have hcg := cell0 HM1.out.kf; clear hb hcf))
            have TK2 : True := trivial
            gi_wp2_with ((clear TK2; refine ⟨trivial, ?_⟩; gi_at_call 105; refine (CallsIn.inRound l (callsIn_wide.2 (HY.out i HI7.out gh w5 (HR.out.below HM1.out.below) HM1.out.kh))).mono ?_; rintro e w6 ⟨rfl, hb⟩; have HM2 := Lib.hid (HM1.out.later hb); have HB2 := Lib.hid (HB1.out.trans (hb.mono HB1.out.size)); clear hb hcg))
            gi_upto_region 17 with fail
            have hln := HM2.out.kn.lt
            have xn : ∀ x : SameAt w6 (fun k => k < w6.heap.size ∧ k ≠ gn + 1), x.W.cell? ⟨gn, 0, none⟩ = some (.string nx) := fun x => x.cell ⟨hln, by omega⟩ (cell0 HM2.out.kn)
            clear hln
            refine wpIn_stage (IsSame w6 (fun k => k < w6.heap.size ∧ k ≠ gn + 1)) [0, 1, 2, 3, 5, 7, 8] [] hmx (by kernel_rfl) (isSame_of fun _ _ => rfl) ?_
            change wpStage _ _ _ _ _ _ _ _ (4 + 6) _ _ _
            refine stage_reads [0, 1, 2, 3, 5, 7] 4 _ _ (by kernel_rfl) ?_
            change wpQuietIn _ _ _ _ (fun W' => ∃ x : SameAt w6 (fun k => k < w6.heap.size ∧ k ≠ gn + 1), W' = x.W) _ _ _
            simp only [pick_cons, pick_nil, List.getElem?_cons_zero, List.getElem?_cons_succ, Option.elim_some]
            repeat (gi_big_quiet_step (fail))
            refine wpQuietIn_nil ?_
            have HD0 := Lib.hid (HM2.out.later (below_drew (Below.refl w6.heap.size w6)))
            refine stage_one 4 (by kernel_rfl) rfl ?_
            gi_wp2
            refine ⟨trivial, ?_⟩
            refine (CallsIn.inRound l (callsIn_wide.2 (HS.out i HI7.out gh w6.drew (HR.out.below HD0.out.below) HD0.out.kh))).mono ?_
            rintro e w20 ⟨rfl, hb⟩
            have H20 := Lib.hid (HD0.out.later hb)
            have B20 := Lib.hid (below_undrew hb)
            clear hb
            gi_wp2
            refine stage_post (isSame_below B20.out (fun k hk => hk.1)) ?_
            refine stage_one 6 (by kernel_rfl) rfl ?_
            gi_wp2
            refine ⟨trivial, ?_⟩
            refine (CallsIn.inRound l (callsIn_wide.2 (HD.out i HI7.out gh w20 (HR.out.below H20.out.below) H20.out.kh))).mono ?_
            rintro e w21 ⟨rfl, hb⟩
            have H21 := Lib.hid (H20.out.later hb)
            have B21 := Lib.hid (B20.out.trans (hb.mono B20.out.size))
            have hcu := H21.out.ku.cell (k := i) (Nat.lt_succ_of_lt HI7.out)
            have hfu := H21.out.ku.frozen i
            clear hb xn
            gi_wp2
            refine stage_post (isSame_below B21.out (fun k hk => hk.1)) ?_
            change wpStage _ _ _ _ _ _ _ _ (1 + 1) _ _ _
            refine stage_reads [8] 1 _ _ (by kernel_rfl) ?_
            change wpQuietIn _ _ _ _ (fun W' => ∃ x : SameAt w6 (fun k => k < w6.heap.size ∧ k ≠ gn + 1), W' = x.W) _ _ _
            simp only [pick_cons, pick_nil, List.getElem?_cons_zero, List.getElem?_cons_succ, Option.elim_some]
            repeat (gi_big_quiet_step (fail))
            refine wpQuietIn_nil ?_
            refine stage_one 9 (by kernel_rfl) rfl ?_
            gi_wp2
            refine stage_post (isSame_of fun j hj => (set_far _ (p := ⟨gn + 1, i, none⟩) hj.2 _).trans (B21.out.block j hj.1)) ?_
            refine stage_done (by kernel_rfl) ?_
            gi_wp2
            obtain ⟨hg1, hg2⟩ := HW1.out
            refine ⟨(keeps_of_below (HB2.out.trans (B21.out.mono HB2.out.size))).trans (KeepsOthers.setCell _ _ _), ?_⟩
            have el : (pre ++ [i]).length = i + 1 := by rw [List.length_append, HLEN.out]; rfl
            show OfAt w gh gn F nx r (pre ++ [i]).length _
            rw [el]
            exact ⟨Blk.far H21.out.kf (p := ⟨gn + 1, i, none⟩) (by show w.heap.size ≠ gn + 1; omega) _, Blk.far H21.out.kz (p := ⟨gn + 1, i, none⟩) (by show w.heap.size + 1 ≠ gn + 1; omega) _, Blk.far H21.out.kh (p := ⟨gn + 1, i, none⟩) (by show gh ≠ gn + 1; omega) _,
              Blk.far H21.out.kn (p := ⟨gn + 1, i, none⟩) (by show gn ≠ gn + 1; omega) _, by rw [← mixC_upd]; exact H21.out.ku.set_ (Nat.lt_succ_of_lt HI7.out) (r i), Blk.far H21.out.ko (p := ⟨gn + 1, i, none⟩) (by show gn + 1 + 1 ≠ gn + 1; omega) _, H21.out.below.setCell (by show w.heap.size ≤ gn + 1; omega) _⟩
          case done =>
            rintro D ys W hD hS hm hK
            rw [hS, List.length_range] at hm
            have HM0 := Lib.hid hm
            have HKD := Lib.hid hK
            obtain ⟨q0, q1, q2, q3, q4, q5, q6, q7⟩ := hm.cells7
            obtain ⟨z0, z1, z2, z3, z4, z5, z6, z7⟩ := hm.kz.cells
            obtain ⟨y0, y1, y2, y3, y4, y5, y6, y7⟩ := hm.kz.frozens
            have ch := cell0 hm.kh
            have HDD := Lib.hid (Nat.le_trans hI0.below.size hD)
            clear hS hm hK hI0
            gi_wp2
            exact curve_end (W := W) (g := w.heap.size + 1) (c := r) rfl rfl HM0.out.kz HDD.out HKD.out (Nat.le_succ _) HM0.out.below (fun W' h => ⟨by rw [HRS.out]; rfl, h⟩)
          case stop =>
            rintro D cd pre x' W hD _ h hK
            exact h.elim
        · have e2 : errOf F (r 7) = 2 := by rw [HEO.out, if_pos (.inr hu)]
          have HRS : Hid (ofRes r (errOf F (r 7)) = .tuple #[cv zC, .int .i64 2]) := Lib.hid (by rw [e2]; rfl)
          obtain ⟨z, hz⟩ : ∃ z : Int, (errU (r 7) : Int) = z := ⟨_, rfl⟩
          rw [hz] at HBW
          have hne : (z == 0) = false := by rw [beq_eq_false_iff_ne]; omega
          clear hk0 n1 hu HEO e2 hz HN HX HY HS HD
          gi_wp2_with (first
            | (refine ⟨trivial, ?_⟩; gi_at_call 103; refine (callsIn_wide.2 HL.out).mono ?_; rintro e w1 ⟨rfl, hb⟩; have HM1 := Lib.hid (HM.out.later hb); clear hb)
            | (refine ⟨trivial, ?_⟩; gi_at_call 110; refine (callsIn_wide.2 (HBW.out _ (HR.out.below HM1.out.below))).mono ?_; rintro e w2 ⟨rfl, hb⟩; have HM2 := Lib.hid (HM1.out.later hb); obtain ⟨z0, z1, z2, z3, z4, z5, z6, z7⟩ := HM2.out.kz.cells; obtain ⟨y0, y1, y2, y3, y4, y5, y6, y7⟩ := HM2.out.kz.frozens; clear hb hcf))
          exact curve_ret (g := w.heap.size + 1) (c := zC) rfl rfl HM2.out.kz (Nat.le_succ _) HM2.out.below (fun W' h => ⟨by rw [HRS.out]; rfl, h⟩)
      · have d1 : decide (0 ≤ kk) = false := decide_eq_false hk0
        have e2 : errOf F (r 7) = 2 := by rw [HEO.out, if_pos (.inl (by omega))]
        have HRS : Hid (ofRes r (errOf F (r 7)) = .tuple #[cv zC, .int .i64 2]) := Lib.hid (by rw [e2]; rfl)
        clear hk0 HEO e2 HN HX HY HS HD HBW
        gi_wp2_with (first | (refine ⟨trivial, ?_⟩; gi_at_call 103; refine (callsIn_wide.2 HL.out).mono ?_; rintro e w1 ⟨rfl, hb⟩; have HM1 := Lib.hid (HM.out.later hb); obtain ⟨z0, z1, z2, z3, z4, z5, z6, z7⟩ := HM1.out.kz.cells; obtain ⟨y0, y1, y2, y3, y4, y5, y6, y7⟩ := HM1.out.kz.frozens; clear hb hcf) | (refine ⟨trivial, ?_⟩))
        exact curve_ret (g := w.heap.size + 1) (c := zC) rfl rfl HM1.out.kz (Nat.le_succ _) HM1.out.below (fun W' h => ⟨by rw [HRS.out]; rfl, h⟩)
end Go.Proofs.YtbfhonhjejeaiaaGreatDoor
namespace Go.Proofs.YtbfhonhjejeaiaaGreatDoor
open Go.RowKit Go.Shelf
open Lim

end Go.Proofs.YtbfhonhjejeaiaaGreatDoor
namespace Go.Proofs.YtbfhonhjejeaiaaGreatDoor
open Go.RowKit Go.Shelf
open Lim

/-! ### plus -/
end Go.Proofs.YtbfhonhjejeaiaaGreatDoor
namespace Go.Proofs.YtbfhonhjejeaiaaGreatDoor
open Go.RowKit Go.Shelf
open Lim

end Go.Proofs.YtbfhonhjejeaiaaGreatDoor
namespace Go.Proofs.YtbfhonhjejeaiaaGreatDoor
open Go.RowKit Go.Shelf
open Lim

set_option maxRecDepth 100000 in
theorem none_any (w : World) : Calls Tryz.prog 27 #[] w fun e w' => e = .returned (.agg #[.string ⟨#[49]⟩, .string ⟨#[48]⟩]) ∧ Below w.heap.size w w' := by
  have HX := Lib.hid (below_alloc (Below.refl w.heap.size w) (.cells #[.string ⟨#[]⟩, .string ⟨#[]⟩] 24))
  have HK := Lib.hid (Blk.new w 24 #[.string ⟨#[]⟩, .string ⟨#[]⟩])
  go_enter Tryz.func27, Tryz.ntmps27
  go_wp2
  have hk := (HK.out.set_ 0 (.string ⟨#[49]⟩)).set_ 1 (.string ⟨#[48]⟩)
  first
    | exact bodyPost_ret (run_cell rfl rfl (load_loss hk)) rfl ⟨rfl, (HX.out.setCell (Nat.le_refl _) _).setCell (Nat.le_refl _) _⟩
    | (refine bodyPost_ret (run_cell rfl rfl (load_loss (Blk.new w 24 #[.string ⟨#[49]⟩, .string ⟨#[48]⟩]))) rfl ⟨rfl, below_alloc (Below.refl w.heap.size w) _⟩)
theorem Blk.two_set {w : World} {b : Nat} {t : TypeId} {u v x y : Value} (h : Blk w b t #[u, v]) : Blk ((w.setCell ⟨b, 0, none⟩ x).setCell ⟨b, 1, none⟩ y) b t #[x, y] := (h.set_ 0 x).set_ 1 y
theorem Blk.two_far {w : World} {b g : Nat} {t : TypeId} {cs : Array Value} {x y : Value} (h : Blk w g t cs) (hg : g ≠ b) : Blk ((w.setCell ⟨b, 0, none⟩ x).setCell ⟨b, 1, none⟩ y) g t cs :=
  (h.far (p := ⟨b, 0, none⟩) hg x).far (p := ⟨b, 1, none⟩) hg y
end Go.Proofs.YtbfhonhjejeaiaaGreatDoor
