/- The reference: Name, twice, the error of a column's values, Valid, Clamp. -/
import Derived.Test.YtlocafmglficnaaGreatDoorTabRMore
import Derived.Test.YtlocafmglficnaaGreatDoorTabClamp
namespace Go.Proofs.YtlocafmglficnaaGreatDoor
open Go.RowKit Go.Maps Go.Sort Go.Shelf

theorem reserved_any (w : World) : Calls Tryz.prog 76 #[] w fun e w' => e = .returned (.slice (some ⟨w.heap.size, 0, none⟩) 35 35) ∧ w' = w.alloc (.cells ((List.range 35).map fun i => Value.string (resS i)).toArray 9) := by
  go_enter Tryz.func76, Tryz.ntmps76
  go_wp2
  go_ret
  exact ⟨rfl, rfl⟩
theorem reserved_cell (w : World) (k : Nat) (hk : k < 35) : (w.alloc (.cells ((List.range 35).map fun i => Value.string (resS i)).toArray 9)).cell? ⟨w.heap.size, k, none⟩ = some (.string (resS k)) := by
  rw [World.cell?_alloc_at _ _ _ _ rfl]
  simp [hk]
theorem reserved_ex (w : World) : Calls Tryz.prog 76 #[] w fun e w' => ∃ nb, e = .returned (.slice (some ⟨nb, 0, none⟩) 35 35) ∧ (∀ k, k < 35 → w'.cell? ⟨nb, k, none⟩ = some (.string (resS k))) ∧ nb < w'.heap.size ∧ Below w.heap.size w w' :=
  (reserved_any w).mono fun e w' ⟨he, hw⟩ => by
    subst he hw
    exact ⟨_, rfl, reserved_cell w, by simp, below_alloc _ _⟩
theorem beq_str {a b : ByteArray} (h : a = b) : (a.toList == b.toList) = true := by rw [h]; simp
theorem bne_str {a b : ByteArray} (h : a ≠ b) : (a.toList == b.toList) = false := by simpa [Lib.toList_data] using fun e => h (ByteArray.ext (Array.toList_inj.1 e))

set_option maxRecDepth 100000 in
set_option maxHeartbeats 2000000 in
theorem rname_any (s : ByteArray) (w : World) (hs : s.size ≤ maxLen) : Calls Tryz.prog 61 #[.string s] w fun e w' => e = .returned (.bool (nameB s)) ∧ Below w.heap.size w w' := by
  unfold maxLen at hs
  by_cases h1 : s.size < 1
  · have hv : nameB s = false := by
      have : s.data.toList = [] := List.eq_nil_of_length_eq_zero (by simpa using (show s.data.size = 0 by have : s.size = s.data.size := rfl; omega))
      simp [nameB, headOk, this]
    have HV := Lib.hid hv
    clear hv
    have h1' : (s.size : Int) < 1 := by omega
    go_enter Tryz.func61, Tryz.ntmps61
    go_wp2
    go_ret
    exact ⟨by rw [HV.out]; rfl, Below.refl _ _⟩
  by_cases h2 : 20 < s.size
  · have hv : nameB s = false := by simp [nameB, show ¬ s.size ≤ 20 by omega]
    have HV := Lib.hid hv
    clear hv
    have h1' : ¬ (s.size : Int) < 1 := by omega
    have h2' : (20 : Int) < (s.size : Int) := by omega
    go_enter Tryz.func61, Tryz.ntmps61
    go_wp2
    go_ret
    exact ⟨by rw [HV.out]; rfl, Below.refl _ _⟩
  have h1' : ¬ (s.size : Int) < 1 := by omega
  have h2' : ¬ (20 : Int) < (s.size : Int) := by omega
  have h0 : 0 < s.size := by omega
  have hhd : headOk s = decide ((97 : Int) ≤ s[0].toNat ∧ (s[0].toNat : Int) ≤ 122) := by
    unfold headOk
    have : s.data.toList.head? = some s[0] := by
      rw [List.head?_eq_getElem?, List.getElem?_eq_getElem (by simpa using h0)]; rfl
    rw [this]
  by_cases h3 : (97 : Int) ≤ s[0].toNat ∧ (s[0].toNat : Int) ≤ 122
  · obtain ⟨h3a, h3b⟩ := h3
    have hhd' : headOk s = true := by rw [hhd]; simp; omega
    have HH := Lib.hid hhd'
    clear hhd hhd'
    go_enter Tryz.func61, Tryz.ntmps61
    go_wp2
    go_loop [3] (fun i => ∃ k : Nat, k ≤ s.size ∧ i = .int .i64 k ∧ (s.data.toList.take k).all (fun c => decide (ChOk c.toNat)) = true) (fun i => s.size - (intOf i).toNat)
    case atStart => exact ⟨0, Nat.zero_le _, rfl, by simp⟩
    case round =>
      obtain ⟨k, hk, rfl, hall⟩ := hrel
      have HALL := Lib.hid hall
      clear hall
      by_cases hlt : k < s.size
      · have hlt' : (k : Int) < (s.size : Int) := by omega
        have hk0 : (0 : Int) ≤ (k : Int) := by omega
        have hsn := take_snocB s k hlt
        by_cases hok : ChOk (s[k].toNat : Int)
        · have HS := Lib.hid (show (s.data.toList.take (k + 1)).all (fun c => decide (ChOk c.toNat)) = true by rw [hsn, List.all_append, HALL.out]; simpa using hok)
          clear hsn
          unfold ChOk at hok
          go_wp2
          all_goals first
            | (refine ⟨⟨k + 1, ?_, ?_, HS.out⟩, ?_⟩; (· omega); (· go_num); (· simp [intOf]; omega))
            | (exfalso; (try simp only [bne_iff_ne, ne_eq] at *); omega)
        · have HV := Lib.hid (show nameB s = false by
            have : s.data.toList.all (fun c => decide (ChOk c.toNat)) = false := by
              rw [List.all_eq_false]
              exact ⟨s[k], List.getElem_mem (l := s.data.toList) (n := k) (by simpa using hlt), by simpa using hok⟩
            simp [nameB, this])
          clear hsn
          unfold ChOk at hok
          go_wp2
          all_goals first
            | (exfalso; (try simp only [bne_iff_ne, ne_eq, bne_eq_false_iff_eq] at *); omega)
            | (go_ret; exact ⟨by rw [HV.out]; rfl, Below.refl _ _⟩)
      · obtain rfl : k = s.size := by omega
        have HV := Lib.hid (show nameB s = !inN 35 resS s by
          have h1 := HALL.out
          rw [List.take_of_length_le (by simp)] at h1
          unfold nameB
          rw [h1, HH.out, show decide (s.size ≤ 20) = true by simp; omega]
          simp)
        clear hlt
        go_wp2_with (go_at_call 76; refine (reserved_ex w).mono ?_; rintro e w1 ⟨nb, rfl, hcl, hbl, hb1⟩; have HRC := Lib.hid hcl; have HB1 := Lib.hid hb1; clear hcl hb1)
        go_loop [6] (fun i => ∃ k : Nat, k ≤ 35 ∧ i = .int .i64 k ∧ ∀ j, j < k → resS j ≠ s) (fun i => 35 - (intOf i).toNat)
        case atStart => exact ⟨0, Nat.zero_le _, rfl, fun j hj => by omega⟩
        case round =>
          obtain ⟨k, hk, rfl, hall⟩ := hrel
          have HALL2 := Lib.hid hall
          have hk0 : (0 : Int) ≤ (k : Int) := by omega
          clear hall
          by_cases hlt : k < 35
          · have hlt' : (k : Int) < 35 := by omega
            have hck := HRC.out k hlt
            by_cases he : resS k = s
            · have HV2 := Lib.hid (show nameB s = false by
                rw [HV.out]
                have : inN 35 resS s = true := by
                  unfold inN
                  rw [List.any_eq_true]
                  exact ⟨k, List.mem_range.2 hlt, by simpa using he⟩
                rw [this]; rfl)
              have e1 := beq_str he
              clear he
              generalize resS k = rk at *
              go_wp2
              go_ret
              exact ⟨by rw [HV2.out]; rfl, HB1.out⟩
            · have HN := Lib.hid (show ∀ j, j < k + 1 → resS j ≠ s from fun j hj => by
                rcases Nat.lt_or_ge j k with h | h
                · exact HALL2.out j h
                · obtain rfl : j = k := by omega
                  exact he)
              have e1 := bne_str he
              clear he
              generalize hrk : resS k = rk at *
              clear hrk
              go_wp2
              go_round
              case rel => exact ⟨k + 1, by omega, by go_num, HN.out⟩
              case measure => simp [intOf]; omega
          · obtain rfl : k = 35 := by omega
            have HV2 := Lib.hid (show nameB s = true by
              rw [HV.out]
              have : inN 35 resS s = false := by
                unfold inN
                rw [List.any_eq_false]
                intro j hj
                simpa using HALL2.out j (List.mem_range.1 hj)
              rw [this]; rfl)
            clear hlt
            go_wp2
            go_ret
            exact ⟨by rw [HV2.out]; rfl, HB1.out⟩
  · have hv : nameB s = false := by
      have : headOk s = false := by rw [hhd]; simpa using h3
      simp [nameB, this]
    have HV := Lib.hid hv
    clear hv hhd
    go_enter Tryz.func61, Tryz.ntmps61
    go_wp2
    all_goals
      go_ret
      exact ⟨by rw [HV.out]; rfl, Below.refl _ _⟩
end Go.Proofs.YtlocafmglficnaaGreatDoor
