/- The kit's own Same[int] and SameRows. -/
import Derived.Test.YtlocafmglficnaaGreatDoorTabPeople
namespace Go.Proofs.YtlocafmglficnaaGreatDoor
open Go.RowKit Go.Maps Go.Sort Go.Shelf

set_option maxRecDepth 100000 in
set_option maxHeartbeats 2000000 in
theorem same14_any (C C' : TypeId → Nat → Prop) (v v' : Value) (xs ys : List Int) (w : World) (h : SRow intK C w v xs) (h' : SRow intK C' w v' ys) :
    Calls Tryz.prog 29 #[v, v'] w fun e w' => e = .returned (.bool (eqB xs ys)) ∧ Below w.heap.size w w' := by
  obtain ⟨A, ca, rfl, hl, hm, _, hc⟩ := h.ints
  obtain ⟨B, cb, rfl, hl', hm', _, hd⟩ := h'.ints
  unfold maxLen at hm hm'
  have HC := Lib.hid hc
  have HD := Lib.hid hd
  clear hc hd h h'
  by_cases hn : xs.length = ys.length
  case neg =>
    have HV := Lib.hid (show eqB xs ys = false from eqB_false (fun e => hn (by rw [e])))
    have hn' : ((xs.length : Int) != (ys.length : Int)) = true := by simpa using fun e => hn (by omega)
    clear hn
    go_enter Tryz.func29, Tryz.ntmps29
    go_wp2
    go_ret
    exact ⟨by rw [HV.out]; rfl, Below.refl _ _⟩
  have hn' : ((xs.length : Int) != (ys.length : Int)) = false := by simp [hn]
  have HN := Lib.hid hn
  clear hn
  go_enter Tryz.func29, Tryz.ntmps29
  go_wp2
  go_loopw [5] (fun i wr => ∃ k : Nat, k ≤ xs.length ∧ i = .int .i64 k ∧ (∀ j (h1 : j < xs.length) (h2 : j < ys.length), j < k → xs[j] = ys[j]) ∧ Below w.heap.size w wr) (fun i _ => xs.length - (intOf i).toNat)
  case atStart => exact ⟨0, Nat.zero_le _, rfl, fun j _ _ hj => by omega, Below.refl _ _⟩
  case round =>
    obtain ⟨k, hk, rfl, he, hB⟩ := hrel
    have HE := Lib.hid he
    have HB := Lib.hid hB
    clear he
    by_cases hlt : k < xs.length
    · have hlt' : k < ys.length := by have := HN.out; omega
      obtain ⟨b, o, rfl, hcell⟩ := HC.out (by omega)
      obtain ⟨b2, o2, rfl, hcell2⟩ := HD.out (by omega)
      have pc := cell_later hB (hcell k hlt)
      have qc := cell_later hB (hcell2 k hlt')
      have hi0 : (0 : Int) ≤ (k : Int) := by omega
      have hi1 : (k : Int) < (xs.length : Int) := by omega
      have hi2 : (k : Int) < (ys.length : Int) := by omega
      have HXY := Lib.hid (show ∀ j (h1 : j < xs.length) (h2 : j < ys.length), xs[k] = ys[k] → j < k + 1 → xs[j] = ys[j] from fun j h1 h2 e hj => by
        rcases Nat.lt_or_ge j k with h | h
        · exact HE.out j h1 h2 h
        · obtain rfl : j = k := by omega
          exact e)
      have HNE := Lib.hid (show xs[k] ≠ ys[k] → xs ≠ ys from fun hne e => hne (by subst e; rfl))
      clear hcell hcell2 hB
      generalize xs[k] = x at *
      generalize ys[k] = y at *
      have hmx : Tryz.prog.follows .mixedOrders = true := by kernel_rfl
      by_cases hxy : x = y
      · have HX := Lib.hid (show ∀ j (h1 : j < xs.length) (h2 : j < ys.length), j < k + 1 → xs[j] = ys[j] from fun j h1 h2 hj => HXY.out j h1 h2 hxy hj)
        have hne : (x != y) = false := by simp [hxy]
        clear hxy
        go_wp2_with fail
        go_quiet (fail)
        go_wp2_with fail
        go_roundw
        case rel => exact ⟨k + 1, by omega, by go_num, HX.out, below_drewN' HB.out _⟩
        case measure => simp [intOf]; omega
      · have HV := Lib.hid (eqB_false (HNE.out hxy))
        have hne : (x != y) = true := by simp [hxy]
        clear hxy
        go_wp2_with fail
        go_quiet (fail)
        go_wp2_with fail
        go_ret
        exact ⟨by rw [HV.out]; rfl, below_drewN' HB.out _⟩
    · obtain rfl : k = xs.length := by omega
      have HV := Lib.hid (show eqB xs ys = true from eqB_true (List.ext_getElem HN.out fun j h1 h2 => HE.out j h1 h2 h1))
      clear hlt hB
      go_wp2
      go_ret
      exact ⟨by rw [HV.out]; rfl, HB.out⟩

end Go.Proofs.YtlocafmglficnaaGreatDoor
