/- The reference's equality of schemas, rows, tables and bases. -/
import Derived.Test.YtlocafmglficnaaGreatDoorTabROwn
import Derived.Test.YtlocafmglficnaaGreatDoorTabAwake
import Derived.Test.YtlocafmglficnaaGreatDoorTabClamp
namespace Go.Proofs.YtlocafmglficnaaGreatDoor
open Go.RowKit Go.Maps Go.Sort Go.Shelf
/-- A block of four cells stays. -/
def Box4 (w : World) (p : Nat) (v0 v1 v2 v3 : Value) : Prop := ∀ w', Below w.heap.size w w' → w'.cell? ⟨p, 0, none⟩ = some v0 ∧ w'.cell? ⟨p, 1, none⟩ = some v1 ∧ w'.cell? ⟨p, 2, none⟩ = some v2 ∧ w'.cell? ⟨p, 3, none⟩ = some v3
theorem two_at (w : World) (o1 o2 : Obj) : ((w.alloc o1).alloc o2).drew.heap[w.heap.size]? = some o1 ∧ ((w.alloc o1).alloc o2).drew.heap[w.heap.size + 1]? = some o2 ∧ Below w.heap.size w ((w.alloc o1).alloc o2).drew := by
  refine ⟨(heap_alloc_old (w.alloc o1) o2 (by simp)).trans (heap_alloc_new w o1), ?_, by go_grown⟩
  have := heap_alloc_new (w.alloc o1) o2
  show ((w.alloc o1).alloc o2).heap[w.heap.size + 1]? = some o2
  simpa using this
theorem box4_of {w : World} {p : Nat} {t : TypeId} {v0 v1 v2 v3 : Value} (h : w.heap[p]? = some (.cells #[v0, v1, v2, v3] t (0, 0))) : Box4 w p v0 v1 v2 v3 := fun w' hb => by
  have e := (hb.block p (Array.getElem?_eq_some_iff.1 h).1).trans h
  exact ⟨(cellrow e 0 (by simp)).1, (cellrow e 1 (by simp)).1, (cellrow e 2 (by simp)).1, (cellrow e 3 (by simp)).1⟩

set_option maxRecDepth 100000 in
set_option maxHeartbeats 4000000 in
theorem rrows_any (C C' : TypeId → Nat → Prop) (v v' : Value) (xs ys : List RowV) (w : World) (h : SRow rowK C w v xs) (h' : SRow rowK C' w v' ys) :
    Calls Tryz.prog 46 #[v, v'] w fun e w' => e = .returned (.bool (eqB xs ys)) ∧ Below w.heap.size w w' := by
  obtain ⟨A, ca, rfl, hl, hm, hc⟩ := h.rows
  obtain ⟨B, cb, rfl, hl', hm', hd⟩ := h'.rows
  unfold maxLen at hm hm'
  have HC := Lib.hid hc
  have HD := Lib.hid hd
  clear hc hd h h'
  by_cases hn : xs.length = ys.length
  case neg =>
    have HV := Lib.hid (show eqB xs ys = false from eqB_false (fun e => hn (by rw [e])))
    have hn' : ((xs.length : Int) != (ys.length : Int)) = true := by simpa using fun e => hn (by omega)
    clear hn
    go_enter Tryz.func46, Tryz.ntmps46
    go_wp2
    go_ret
    exact ⟨by rw [HV.out]; rfl, Below.refl _ _⟩
  have hn' : ((xs.length : Int) != (ys.length : Int)) = false := by simp [hn]
  have HN := Lib.hid hn
  clear hn
  go_enter Tryz.func46, Tryz.ntmps46
  go_wp2
  go_loopw [5] (fun i wr => ∃ k : Nat, k ≤ xs.length ∧ i = .int .i64 k ∧ (∀ j (h1 : j < xs.length) (h2 : j < ys.length), j < k → xs[j] = ys[j]) ∧ Below w.heap.size w wr) (fun i _ => xs.length - (intOf i).toNat)
  case atStart => exact ⟨0, Nat.zero_le _, rfl, fun j _ _ hj => by omega, Below.refl _ _⟩
  case round =>
    obtain ⟨k, hk, rfl, he, hB⟩ := hrel
    have HE := Lib.hid he
    have HB := Lib.hid hB
    clear he
    by_cases hlt : k < xs.length
    · have hlt' : k < ys.length := by have := HN.out; omega
      obtain ⟨b, o, rfl, hcell⟩ := HC.out (by omega)
      obtain ⟨b2, o2, rfl, hcell2⟩ := HD.out (by omega)
      obtain ⟨pu, p0, p1, pr, _⟩ := hcell k hlt
      obtain ⟨qu, q0, q1, qr, _⟩ := hcell2 k hlt'
      have pc0 := cell_later hB p0
      have pc1 := cell_later hB p1
      have qc0 := cell_later hB q0
      have qc1 := cell_later hB q1
      have HP1 := Lib.hid p1
      have HQ1 := Lib.hid q1
      obtain ⟨pA, pc, rfl, hpl, hpm, _, hpv⟩ := pr.ints
      obtain ⟨qA, qc, rfl, hql, hqm, _, hqv⟩ := qr.ints
      unfold maxLen at hpm hqm
      have HPV := Lib.hid hpv
      have HQV := Lib.hid hqv
      have hi0 : (0 : Int) ≤ (k : Int) := by omega
      have hi1 : (k : Int) < (xs.length : Int) := by omega
      have hi2 : (k : Int) < (ys.length : Int) := by omega
      have HXY := Lib.hid (show ∀ j (h1 : j < xs.length) (h2 : j < ys.length), xs[k] = ys[k] → j < k + 1 → xs[j] = ys[j] from fun j h1 h2 e hj => by
        rcases Nat.lt_or_ge j k with h | h
        · exact HE.out j h1 h2 h
        · obtain rfl : j = k := by omega
          exact e)
      have HNE := Lib.hid (show xs[k] ≠ ys[k] → xs ≠ ys from fun hne e => hne (by subst e; rfl))
      have HLT := Lib.hid hlt
      clear hcell hcell2 hB p0 p1 q0 q1 pr qr hpv hqv
      generalize xs[k] = x at *
      generalize ys[k] = y at *
      clear hlt hlt'
      have hmx : Tryz.prog.follows .mixedOrders = true := by kernel_rfl
      by_cases hxo : x.owner = y.owner
      case neg =>
        have hne : (x.owner != y.owner) = true := by simpa using hxo
        have HV := Lib.hid (eqB_false (HNE.out fun e => hxo (rowEq.1 e).1))
        clear hxo
        go_wp2_with fail
        go_quiet (fail)
        go_wp2_with fail
        go_ret
        exact ⟨by rw [HV.out]; rfl, below_drewN' HB.out _⟩
      have hne : (x.owner != y.owner) = false := by simp [hxo]
      have HXO := Lib.hid hxo
      clear hxo
      by_cases hxl : x.vals.length = y.vals.length
      case neg =>
        have hne2 : ((x.vals.length : Int) != (y.vals.length : Int)) = true := by simpa using fun e => hxl (by omega)
        have HV := Lib.hid (eqB_false (HNE.out fun e => hxl (by rw [(rowEq.1 e).2])))
        clear hxl
        go_wp2_with fail
        go_quiet (fail)
        go_wp2_with fail
        go_ret
        exact ⟨by rw [HV.out]; rfl, below_drewN' HB.out _⟩
      have hne2 : ((x.vals.length : Int) != (y.vals.length : Int)) = false := by simp [hxl]
      have HXL := Lib.hid hxl
      clear hxl
      go_wp2_with fail
      go_quiet (fail)
      go_wp2_with fail
      clear pc0 pc1 qc0 qc1
      go_loopw [6] (fun j wi => ∃ q : Nat, q ≤ x.vals.length ∧ j = .int .i64 q ∧ (∀ m (h1 : m < x.vals.length) (h2 : m < y.vals.length), m < q → x.vals[m] = y.vals[m]) ∧ Below w.heap.size w wi) (fun j _ => x.vals.length - (intOf j).toNat)
      case atStart => exact ⟨0, Nat.zero_le _, rfl, fun m _ _ hm => by omega, below_drewN' HB.out _⟩
      case round =>
        obtain ⟨q, hq, rfl, hev, hBi⟩ := hrel
        have HEV := Lib.hid hev
        have HBI := Lib.hid hBi
        have pi1 := cell_later hBi HP1.out
        have qi1 := cell_later hBi HQ1.out
        clear hev
        have hj0 : (0 : Int) ≤ (q : Int) := by omega
        by_cases hqlt : q < x.vals.length
        · have hqlt' : q < y.vals.length := by have := HXL.out; omega
          obtain ⟨rb, ro, rfl, hrc⟩ := HPV.out (by omega)
          obtain ⟨rb2, ro2, rfl, hrc2⟩ := HQV.out (by omega)
          have ri := cell_later hBi (hrc q hqlt)
          have ri2 := cell_later hBi (hrc2 q hqlt')
          have hj1 : (q : Int) < (x.vals.length : Int) := by omega
          have hj2 : (q : Int) < (y.vals.length : Int) := by omega
          have HXV := Lib.hid (show ∀ m (h1 : m < x.vals.length) (h2 : m < y.vals.length), x.vals[q] = y.vals[q] → m < q + 1 → x.vals[m] = y.vals[m] from fun m h1 h2 e hm => by
            rcases Nat.lt_or_ge m q with h | h
            · exact HEV.out m h1 h2 h
            · obtain rfl : m = q := by omega
              exact e)
          have HNV := Lib.hid (show x.vals[q] ≠ y.vals[q] → xs ≠ ys from fun hne => HNE.out fun e => hne (by
            have := (rowEq.1 e).2
            simp only [this]))
          have HQL := Lib.hid hqlt
          clear hrc hrc2 hBi
          generalize x.vals[q] = a at *
          generalize y.vals[q] = c at *
          clear hqlt hqlt'
          by_cases hac : a = c
          · have hne3 : (a != c) = false := by simp [hac]
            have HX := Lib.hid (show ∀ m (h1 : m < x.vals.length) (h2 : m < y.vals.length), m < q + 1 → x.vals[m] = y.vals[m] from fun m h1 h2 hm => HXV.out m h1 h2 hac hm)
            clear hac
            go_wp2_with fail
            go_quiet (fail)
            go_wp2_with fail
            go_roundw
            case rel => exact ⟨q + 1, HQL.out, by go_num, HX.out, below_drewN' HBI.out _⟩
            case measure => have := HQL.out; simp [intOf]; omega
          · have hne3 : (a != c) = true := by simpa using hac
            have HV := Lib.hid (eqB_false (HNV.out hac))
            clear hac
            go_wp2_with fail
            go_quiet (fail)
            go_wp2_with fail
            go_ret
            exact ⟨by rw [HV.out]; rfl, below_drewN' HBI.out _⟩
        · have hj1 : ¬ (q : Int) < (x.vals.length : Int) := by omega
          obtain rfl : q = x.vals.length := by omega
          have HX := Lib.hid (show ∀ j (h1 : j < xs.length) (h2 : j < ys.length), j < k + 1 → xs[j] = ys[j] from fun j h1 h2 hj => HXY.out j h1 h2 (rowEq.2 ⟨HXO.out, List.ext_getElem HXL.out fun m h1 h2 => HEV.out m h1 h2 h1⟩) hj)
          clear hqlt hBi
          go_wp2
          go_roundw
          case rel => exact ⟨k + 1, HLT.out, by go_num, HX.out, HBI.out⟩
          case measure => have := HLT.out; simp [intOf]; omega
    · obtain rfl : k = xs.length := by omega
      have HV := Lib.hid (show eqB xs ys = true from eqB_true (List.ext_getElem HN.out fun j h1 h2 => HE.out j h1 h2 h1))
      clear hlt hB
      go_wp2
      go_ret
      exact ⟨by rw [HV.out]; rfl, HB.out⟩
end Go.Proofs.YtlocafmglficnaaGreatDoor
