/- same: whether two lists of strings are equal. -/
import Derived.Test.YtneclonahddipaaLists
namespace Go.Proofs.Ytneclonahddipaa
open Go.RowKit Go.Maps Go.Sort Go.Shelf

/-- A slice of strings that can be read. -/
def StrRow (w : World) (v : Value) (xs : List ByteArray) : Prop :=
  ∃ (A : Option Addr) (cap : Nat), v = .slice A xs.length cap ∧ (0 < xs.length → ∃ g, A = some ⟨g, 0, none⟩ ∧ ∀ i, i < xs.length → w.cell? ⟨g, i, none⟩ = some (.string (xs[i]?.getD ByteArray.empty)))

theorem StrRow.kept {w w' : World} {v : Value} {xs : List ByteArray} (h : StrRow w v xs) (hg : w.grownBy w' none) : StrRow w' v xs := by
  obtain ⟨A, cap, rfl, hr⟩ := h
  exact ⟨A, cap, rfl, fun h0 => by obtain ⟨g, rfl, hc⟩ := hr h0; exact ⟨g, rfl, fun i hi => hg.cell (hc i hi) (by simp)⟩⟩

theorem strRow_of_owns {w : World} {base : Nat} {v : Value} {xs : List (List UInt8)} (h : w.ownsRow base 9 1 v xs.length (xs.map encStr)) : StrRow w v (xs.map fun x => ⟨x.toArray⟩) := by
  rcases h.2 with ⟨rfl, hz⟩ | ⟨g, cap, cur, rfl, hb, hgb, r1, r2, r3, r4⟩
  · exact ⟨none, 0, by simp [hz], fun h0 => by simp [hz] at h0⟩
  · refine ⟨_, cap, by simp, fun _ => ⟨g, rfl, fun i hi => ?_⟩⟩
    have hi' : i < xs.length := by simpa using hi
    have e1 : (cur.toList.take (xs.length * 1))[i]? = (xs.map encStr)[i]? := by rw [r4]
    rw [List.getElem?_take_of_lt (by omega)] at e1
    simp only [World.cell?, hgb]
    simp at e1 ⊢
    rw [e1]
    simp [hi', encStr]

theorem getD_lt {α : Type} {l : List α} {i : Nat} (h : i < l.length) (d : α) : l[i]?.getD d = l[i] := by simp [h]

set_option maxHeartbeats 2000000 in
set_option maxRecDepth 100000 in
theorem same_any (va vb : Value) (xs ys : List ByteArray) (w : World) (ha : StrRow w va xs) (hb : StrRow w vb ys) (hx : xs.length ≤ 1000000) (hy : ys.length ≤ 1000000) :
    Calls Try.prog 14 #[va, vb] w fun e w' => e = .returned (.bool (decide (xs = ys))) ∧ ∃ m, w' = w.drewN m := by
  obtain ⟨A, ca, rfl, hra⟩ := ha
  obtain ⟨B, cb, rfl, hrb⟩ := hb
  by_cases hl : xs.length = ys.length
  · have hle : ((xs.length : Int) == (ys.length : Int)) = true := by simp [hl]
    have HRA := Lib.hid hra
    have HRB := Lib.hid hrb
    have HL := Lib.hid hl
    clear hra hrb hl
    go_enter Try.func14, Try.ntmps14
    go_wp2
    go_loopw [5, 6] (fun e i wr => ∃ (k : Nat) (b : Bool), k ≤ xs.length ∧ e = .bool b ∧ i = .int .i64 (k : Int) ∧ (∃ m, wr = w.drewN m) ∧ (b = true ↔ ∀ j, j < k → xs[j]?.getD ByteArray.empty = ys[j]?.getD ByteArray.empty)) (fun _ i _ => xs.length - (intOf i).toNat)
    case atStart => exact ⟨0, true, Nat.zero_le _, rfl, rfl, ⟨0, rfl⟩, by simp⟩
    case round =>
      obtain ⟨k, b, hk, rfl, rfl, ⟨m, rfl⟩, hbk⟩ := hrel
      have HBK := Lib.hid hbk
      clear hbk
      cases b with
      | false =>
        go_wp2
        go_ret
        refine ⟨?_, m, rfl⟩
        have hne : xs ≠ ys := by
          rintro rfl
          have := HBK.out
          simp at this
        simp [hne]
      | true =>
        rcases Nat.lt_or_ge k xs.length with hlt | hge
        · have hi0 : (0 : Int) ≤ (k : Int) := by omega
          have hi1 : (k : Int) < (xs.length : Int) := by omega
          have hi2 : (k : Int) < (ys.length : Int) := by have := HL.out; omega
          obtain ⟨ga, rfl, hca⟩ := HRA.out (by omega)
          obtain ⟨gb, rfl, hcb⟩ := HRB.out (by have := HL.out; omega)
          have c1 : w.cell? ⟨ga, k, none⟩ = some (.string (xs[k]?.getD ByteArray.empty)) := hca k hlt
          have c2 : w.cell? ⟨gb, k, none⟩ = some (.string (ys[k]?.getD ByteArray.empty)) := hcb k (by have := HL.out; omega)
          have HEQ : Hid (∀ c d : ByteArray, c = xs[k]?.getD ByteArray.empty → d = ys[k]?.getD ByteArray.empty → ((c.toList == d.toList) = true ↔ ∀ j, j < k + 1 → xs[j]?.getD ByteArray.empty = ys[j]?.getD ByteArray.empty)) := by
            intro c d hc hd
            have h0 := HBK.out.1 rfl
            by_cases hcd : c = d
            · subst hcd
              simp only [beq_self_eq_true, true_iff]
              intro j hj
              rcases Nat.lt_or_ge j k with h | h
              · exact h0 j h
              · obtain rfl : j = k := by omega
                rw [← hc, hd]
            · simp only [toList_beq_false hcd, Bool.false_eq_true, false_iff]
              intro h
              exact hcd (hc.trans ((h k (by omega)).trans hd.symm))
          generalize hcx : xs[k]?.getD ByteArray.empty = cx at *
          generalize hcy : ys[k]?.getD ByteArray.empty = cy at *
          have HE := Lib.hid (HEQ.out cx cy rfl rfl)
          clear hcx hcy HEQ hca hcb
          go_wp2
          go_quiet (fail)
          go_wp2
          go_roundw
          case rel => exact ⟨k + 1, _, by omega, rfl, by simp, ⟨_, rfl⟩, HE.out⟩
          case measure => simp [intOf]; omega
        · have H0 := Lib.hid (HBK.out.1 rfl)
          have hge' : ¬ ((k : Int) < (xs.length : Int)) := by omega
          go_wp2
          go_ret
          refine ⟨?_, m, rfl⟩
          have heq : xs = ys := by
            refine List.ext_getElem HL.out fun i h1 h2 => ?_
            have := H0.out i (by omega)
            rwa [getD_lt h1, getD_lt h2] at this
          simp [heq]
  · have hle : ((xs.length : Int) == (ys.length : Int)) = false := by simp; omega
    clear hra hrb
    have hne : xs ≠ ys := fun e => hl (by rw [e])
    go_enter Try.func14, Try.ntmps14
    go_wp2
    go_loopw [5, 6] (fun e i wr => e = .bool false ∧ i = .int .i64 0 ∧ wr = w) (fun _ _ _ => 0)
    case atStart => exact ⟨rfl, rfl, rfl⟩
    case round =>
      obtain ⟨rfl, rfl, rfl⟩ := hrel
      go_wp2
      go_ret
      exact ⟨by simp [hne], 0, rfl⟩
end Go.Proofs.Ytneclonahddipaa
