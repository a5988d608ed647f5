/- The words of a column: IndexFunc, ContainsFunc, double, words. -/
import Derived.Test.YtlocafmglficnaaGreatDoorTabName
namespace Go.Proofs.YtlocafmglficnaaGreatDoor
open Go.RowKit Go.Maps

theorem SRow.strs {C : TypeId → Nat → Prop} {w : World} {v : Value} {ss : List ByteArray} (h : SRow strK C w v ss) :
    ∃ A c, v = .slice A ss.length c ∧ ss.length ≤ c ∧ c ≤ maxLen ∧ (∀ j (hj : j < ss.length), ss[j].size ≤ maxLen) ∧ (0 < ss.length → ∃ b o, A = some ⟨b, o, none⟩ ∧ ∀ j (hj : j < ss.length), w.cell? ⟨b, o + j, none⟩ = some (.string ss[j])) := by
  obtain ⟨A, c, e, h1, h2, h3⟩ := h
  refine ⟨A, c, e, h1, h2, fun j hj => ?_, fun h0 => ?_⟩
  · obtain ⟨b, o, _, _, _, hx⟩ := h3 (by omega)
    obtain ⟨l, ⟨_, hs⟩, _⟩ := hx j ss[j] (by simp [hj])
    exact hs
  · obtain ⟨b, o, eA, _, _, hx⟩ := h3 h0
    refine ⟨b, o, eA, fun j hj => ?_⟩
    obtain ⟨l, ⟨rfl, _⟩, hc⟩ := hx j ss[j] (by simp [hj])
    have := hc 0 (.string ss[j]) rfl
    simpa [strK] using this

/-- IndexFunc's answer. -/
def idxOf {α : Type} (p : α → Bool) (xs : List α) : Int := match xs.findIdx? p with | some i => (i : Int) | none => -1
theorem idx_hit {α : Type} {p : α → Bool} {xs : List α} {k : Nat} (hk : k < xs.length) (h1 : (xs.take k).any p = false) (h2 : p xs[k] = true) : idxOf p xs = (k : Int) := by
  have : xs.findIdx? p = some k := by
    rw [List.findIdx?_eq_some_iff_getElem]
    refine ⟨hk, h2, fun j hj => ?_⟩
    have := List.any_eq_false.1 h1 xs[j] (by
      rw [List.mem_take_iff_getElem]
      exact ⟨j, by omega, rfl⟩)
    simpa using this
  unfold idxOf; rw [this]
theorem idx_miss {α : Type} {p : α → Bool} {xs : List α} (h1 : xs.any p = false) : idxOf p xs = -1 := by
  have : xs.findIdx? p = none := by
    rw [List.findIdx?_eq_none_iff]
    intro x hx
    have := List.any_eq_false.1 h1 x hx
    simpa using this
  unfold idxOf; rw [this]
theorem idx_ge {α : Type} (p : α → Bool) (xs : List α) : decide (0 ≤ idxOf p xs) = xs.any p := by
  cases h : xs.any p with
  | false => rw [idx_miss h]; rfl
  | true =>
    unfold idxOf
    cases hf : xs.findIdx? p with
    | none =>
      rw [List.findIdx?_eq_none_iff] at hf
      obtain ⟨x, hx, hp⟩ := List.any_eq_true.1 h
      rw [hf x hx] at hp; cases hp
    | some i => simp
theorem idx_lt {α : Type} (p : α → Bool) (xs : List α) : -1 ≤ idxOf p xs ∧ idxOf p xs < xs.length := by
  unfold idxOf
  cases hf : xs.findIdx? p with
  | none => simp; omega
  | some i =>
    have := (List.findIdx?_eq_some_iff_getElem.1 hf).1
    simp; omega
theorem take_anyS {α : Type} {p : α → Bool} {xs : List α} {k : Nat} (hk : k < xs.length) : (xs.take (k + 1)).any p = ((xs.take k).any p || p xs[k]) := by
  rw [List.take_succ_eq_append_getElem hk, List.any_append]; simp

theorem bad_any (s : ByteArray) (w : World) (hs : s.size ≤ maxLen) (hr : Res w) : Calls Tryz.prog 111 #[.string s] w fun e w' => e = .returned (.bool (!nameB s)) ∧ w = w' := by
  have HR := Lib.hid hr
  clear hr
  go_enter Tryz.func111, Tryz.ntmps111
  go_wp2_with (go_at_call 86; refine (name_any _ _ hs HR.out).mono ?_; rintro e w' ⟨rfl, rfl⟩)
  go_ret
  exact ⟨rfl, rfl⟩

set_option maxHeartbeats 1000000 in
theorem idxBad_any (C : TypeId → Nat → Prop) (v : Value) (ss : List ByteArray) (w : World) (h : SRow strK C w v ss) (hr : Res w) :
    Calls Tryz.prog 121 #[v, .func (.func 111) #[] #[]] w fun e w' => e = .returned (.int .i64 (idxOf (fun s => !nameB s) ss)) ∧ w = w' := by
  obtain ⟨A, c, rfl, hle, hmx, hsz, hc⟩ := h.strs
  have HR := Lib.hid hr
  have HC := Lib.hid hc
  have HZ := Lib.hid hsz
  unfold maxLen at hmx
  clear hr hc hsz h
  go_enter Tryz.func121, Tryz.ntmps121
  go_wp2
  go_loop [8] (fun i => ∃ k : Nat, k ≤ ss.length ∧ i = .int .i64 k ∧ (ss.take k).any (fun s => !nameB s) = false) (fun i => ss.length - (intOf i).toNat)
  case atStart => exact ⟨0, Nat.zero_le _, rfl, by simp⟩
  case round =>
    obtain ⟨k, hk, rfl, hany⟩ := hrel
    have HA := Lib.hid hany
    clear hany
    by_cases hlt : k < ss.length
    · obtain ⟨b, o, rfl, hcell⟩ := HC.out (by omega)
      have hck := hcell k hlt
      have hzk := HZ.out k hlt
      have hi0 : (0 : Int) ≤ (k : Int) := by omega
      have hi1 : (k : Int) < (ss.length : Int) := by omega
      have hsn := take_anyS (p := fun s => !nameB s) hlt
      rw [HA.out, Bool.false_or] at hsn
      have HSN := Lib.hid hsn
      clear hcell hsn
      cases hn : nameB ss[k] with
      | true =>
        have HS := Lib.hid (show (ss.take (k + 1)).any (fun s => !nameB s) = false by rw [HSN.out, hn]; rfl)
        generalize ss[k] = sk at *
        have HN := Lib.hid hn
        clear HSN hn
        go_wp2_with (go_at_call 111; refine (bad_any _ _ hzk HR.out).mono ?_; rintro e w' ⟨rfl, rfl⟩; rw [HN.out])
        go_round
        case rel => exact ⟨k + 1, by omega, by go_num, HS.out⟩
        case measure => simp [intOf]; omega
      | false =>
        have HV := Lib.hid (idx_hit (p := fun s => !nameB s) hlt HA.out (by rw [hn]; rfl))
        generalize ss[k] = sk at *
        have HN := Lib.hid hn
        clear HSN hn
        go_wp2_with (go_at_call 111; refine (bad_any _ _ hzk HR.out).mono ?_; rintro e w' ⟨rfl, rfl⟩; rw [HN.out])
        go_ret
        exact ⟨by rw [HV.out]; rfl, rfl⟩
    · obtain rfl : k = ss.length := by omega
      have HV := Lib.hid (idx_miss (p := fun s => !nameB s) (xs := ss) (by have := HA.out; rwa [List.take_of_length_le (Nat.le_refl _)] at this))
      clear hlt
      go_wp2
      go_ret
      exact ⟨by rw [HV.out]; rfl, rfl⟩
theorem hasBad_any (C : TypeId → Nat → Prop) (v : Value) (ss : List ByteArray) (w : World) (h : SRow strK C w v ss) (hr : Res w) :
    Calls Tryz.prog 110 #[v, .func (.func 111) #[] #[]] w fun e w' => e = .returned (.bool (ss.any fun s => !nameB s)) ∧ w = w' := by
  have HR := Lib.hid hr
  have H := Lib.hid h
  have HV := Lib.hid (idx_ge (fun s => !nameB s) ss)
  clear hr h
  go_enter Tryz.func110, Tryz.ntmps110
  go_wp2_with (go_at_call 121; refine (idxBad_any C _ ss _ H.out HR.out).mono ?_; rintro e w' ⟨rfl, rfl⟩)
  all_goals
    go_ret
    exact ⟨by rw [← HV.out]; rfl, rfl⟩
end Go.Proofs.YtlocafmglficnaaGreatDoor
