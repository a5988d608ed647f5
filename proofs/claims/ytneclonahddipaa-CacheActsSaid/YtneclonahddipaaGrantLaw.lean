/- granted: whether one of the acts grants the key to the name. -/
import Derived.Test.YtneclonahddipaaStaysWalk
namespace Go.Proofs.Ytneclonahddipaa
open Go.RowKit Go.Maps Go.Sort Go.Shelf

def isGrant (key name : ByteArray) (x : ActV) : Bool := (x.kd == 2 || x.kd == 3) && (decide (x.k = key) && decide (x.nm = name))

theorem any_prefix {α : Type} {p : α → Bool} {l : List α} {d : α} (h : ∀ m, m < l.length → p (l[m]?.getD d) = false) : l.any p = false := by
  rw [List.any_eq_false]
  intro x hx
  obtain ⟨m, hm, rfl⟩ := List.getElem_of_mem hx
  have := h m hm
  rw [getD_lt hm] at this
  simp [this]
theorem any_at {α : Type} {p : α → Bool} {l : List α} {d : α} {m : Nat} (hm : m < l.length) (h : p (l[m]?.getD d) = true) : l.any p = true := by
  rw [List.any_eq_true]
  rw [getD_lt hm] at h
  exact ⟨_, List.getElem_mem hm, h⟩

set_option maxRecDepth 100000 in
set_option maxHeartbeats 4000000 in
theorem grantedLaw_any (v : Value) (xs : List ActV) (key name : ByteArray) (w : World) (ha : ActRow w v xs) (hx : xs.length ≤ 1000) :
    Calls Try.prog 18 #[v, .string key, .string name] w fun e w' => e = .returned (.bool (xs.any (isGrant key name))) ∧ w' = w := by
  obtain ⟨A, ca, rfl, hra⟩ := ha
  have HRA := Lib.hid hra
  have HX := Lib.hid hx
  clear hra hx
  go_enter Try.func18, Try.ntmps18
  go_wp2
  go_loopw [7] (fun i wr => ∃ j : Nat, j ≤ xs.length ∧ i = .int .i64 (j : Int) ∧ wr = w ∧ ∀ m, m < j → isGrant key name (xs[m]?.getD default) = false) (fun i _ => xs.length - (intOf i).toNat)
  case atStart => exact ⟨0, Nat.zero_le _, rfl, rfl, fun m h => by omega⟩
  case round =>
    obtain ⟨j, hj, rfl, rfl, hno⟩ := hrel
    have HNO := Lib.hid hno
    clear hno
    have hx1 := HX.out
    rcases Nat.lt_or_ge j xs.length with hlt | hge
    · obtain ⟨g, off, rfl, hc⟩ := HRA.out (by omega)
      obtain ⟨⟨g0, g1, g2, g3⟩, _⟩ := hc j hlt
      clear hc
      have HAT := Lib.hid (fun h => any_at (p := isGrant key name) (d := default) hlt h)
      have HNX := Lib.hid (show isGrant key name (xs[j]?.getD default) = false → ∀ m, m < j + 1 → isGrant key name (xs[m]?.getD default) = false from fun h m hm => by
        rcases Nat.lt_or_ge m j with h' | h'
        · exact HNO.out m h'
        · obtain rfl : m = j := by omega
          exact h)
      generalize xs[j]?.getD default = x at *
      have hi0 : (0 : Int) ≤ (j : Int) := by omega
      have hi1 : (j : Int) < (xs.length : Int) := by omega
      have done : ∀ u : Value, isGrant key name x = false → True := fun _ _ => trivial
      clear done
      by_cases h2 : x.kd = 2
      · rw [h2] at g0
        by_cases hk : x.k = key
        · by_cases hn : x.nm = name
          · rw [hk] at g2
            rw [hn] at g1
            have ht : xs.any (isGrant key name) = true := HAT.out (by simp [isGrant, h2, hk, hn])
            clear h2 hk hn
            go_wp2
            go_ret
            exact ⟨by rw [ht]; rfl, rfl⟩
          · rw [hk] at g2
            have hne := toList_beq_false hn
            have hf := Lib.hid (HNX.out (by simp [isGrant, hn]))
            clear h2 hk hn
            go_wp2
            go_roundw
            case rel => exact ⟨j + 1, by omega, by simp, trivial, hf.out⟩
            case measure => simp [intOf]; omega
        · have hne := toList_beq_false hk
          have hf := Lib.hid (HNX.out (by simp [isGrant, hk]))
          clear h2 hk
          go_wp2
          go_roundw
          case rel => exact ⟨j + 1, by omega, by simp, trivial, hf.out⟩
          case measure => simp [intOf]; omega
      · by_cases h3 : x.kd = 3
        · rw [h3] at g0
          by_cases hk : x.k = key
          · by_cases hn : x.nm = name
            · rw [hk] at g2
              rw [hn] at g1
              have ht : xs.any (isGrant key name) = true := HAT.out (by simp [isGrant, h3, hk, hn])
              clear h2 h3 hk hn
              go_wp2
              go_ret
              exact ⟨by rw [ht]; rfl, rfl⟩
            · rw [hk] at g2
              have hne := toList_beq_false hn
              have hf := Lib.hid (HNX.out (by simp [isGrant, hn]))
              clear h2 h3 hk hn
              go_wp2
              go_roundw
              case rel => exact ⟨j + 1, by omega, by simp, trivial, hf.out⟩
              case measure => simp [intOf]; omega
          · have hne := toList_beq_false hk
            have hf := Lib.hid (HNX.out (by simp [isGrant, hk]))
            clear h2 h3 hk
            go_wp2
            go_roundw
            case rel => exact ⟨j + 1, by omega, by simp, trivial, hf.out⟩
            case measure => simp [intOf]; omega
        · have e2 : (x.kd == 2) = false := by simpa using h2
          have e3 : (x.kd == 3) = false := by simpa using h3
          have hf := Lib.hid (HNX.out (by simp [isGrant, e2, e3]))
          clear h2 h3
          go_wp2
          go_roundw
          case rel => exact ⟨j + 1, by omega, by simp, trivial, hf.out⟩
          case measure => simp [intOf]; omega
    · have hge' : ¬ ((j : Int) < (xs.length : Int)) := by omega
      have hf : xs.any (isGrant key name) = false := any_prefix (d := default) fun m hm => HNO.out m (by omega)
      have HF := Lib.hid hf
      clear hf
      go_wp2
      go_ret
      exact ⟨by rw [HF.out]; rfl, rfl⟩
end Go.Proofs.Ytneclonahddipaa
