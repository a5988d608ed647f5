/- The reference's cache: what only reads. -/
import Derived.Test.YtneclonahddipaaRefMem
namespace Go.Proofs.Ytneclonahddipaa
open Go.RowKit Go.Maps Go.Sort Go.Shelf

theorem bytes_beq_self (k : ByteArray) : (k.toList == k.toList) = true := by simp

/-- A slice of strings of the call's own, read. -/
theorem names_get {w : World} {base : Nat} {v : Value} {xs : List ByteArray} (h : w.ownsRow base 9 1 v xs.length (xs.map Value.string)) : ∃ A cap, v = .slice A xs.length cap ∧ (0 < xs.length → ∃ g, A = some ⟨g, 0, none⟩ ∧ ∀ i, i < xs.length → w.cell? ⟨g, i, none⟩ = some (.string (xs[i]?.getD s0))) := by
  rcases h.2 with ⟨rfl, hz⟩ | ⟨g, cap, cur, rfl, hb, hgb, _⟩
  · exact ⟨none, 0, by rw [hz], fun h0 => by omega⟩
  · refine ⟨_, cap, rfl, fun _ => ⟨g, rfl, fun i hi => ?_⟩⟩
    have hx : (xs.map Value.string)[i]? = some (.string (xs[i]?.getD s0)) := by simp [hi]
    have := h.cells (g := g) rfl i _ hx
    rwa [addr_add3, Nat.zero_add] at this

def memB (xs : List ByteArray) (k : ByteArray) : Bool := xs.any fun x => decide (x = k)
theorem memB_yes {xs : List ByteArray} {k : ByteArray} (h : k ∈ xs) : memB xs k = true := by
  unfold memB; rw [List.any_eq_true]; exact ⟨k, h, by simp⟩
theorem memB_no {xs : List ByteArray} {k : ByteArray} (h : k ∉ xs) : memB xs k = false := by
  unfold memB; rw [List.any_eq_false]; intro x hx; simp; exact fun e => h (e ▸ hx)
theorem memB_iff {xs : List ByteArray} {k : ByteArray} : memB xs k = true ↔ k ∈ xs := by
  unfold memB; rw [List.any_eq_true]; simp

theorem hasRef_any (v : Value) (xs : List ByteArray) (k : ByteArray) (base : Nat) (w : World) (h : w.ownsRow base 9 1 v xs.length (xs.map Value.string)) (hl : xs.length ≤ 1000000) :
    Calls Try.prog 34 #[v, .string k] w fun e w' => e = .returned (.bool (memB xs k)) ∧ w = w' := by
  obtain ⟨A, cap, rfl, hr⟩ := names_get h
  have HR := Lib.hid hr
  clear hr h
  go_enter Try.func34, Try.ntmps34
  go_wp2
  go_loop [5] (fun i => ∃ j : Nat, j ≤ xs.length ∧ i = .int .i64 (j : Int) ∧ ∀ m, m < j → xs[m]?.getD s0 ≠ k) (fun i => xs.length - (intOf i).toNat)
  case atStart => exact ⟨0, Nat.zero_le _, rfl, fun m hm => by omega⟩
  case round =>
    obtain ⟨j, hj, rfl, hno⟩ := hrel
    have HNO := Lib.hid hno
    clear hno
    rcases Nat.lt_or_ge j xs.length with hlt | hge
    · obtain ⟨g, rfl, hc⟩ := HR.out (by omega)
      have c0 := hc j hlt
      have hi0 : (0 : Int) ≤ (j : Int) := by omega
      have hi1 : (j : Int) < (xs.length : Int) := by omega
      clear hc
      by_cases hk : xs[j]?.getD s0 = k
      · have HF := Lib.hid (memB_yes (show k ∈ xs by rw [← hk, getD_lt hlt]; exact List.getElem_mem hlt))
        rw [hk] at c0
        clear hk
        go_wp2
        go_ret
        exact ⟨by rw [HF.out]; rfl, rfl⟩
      · have hne := toList_beq_false hk
        have HN := Lib.hid (show ∀ m, m < j + 1 → xs[m]?.getD s0 ≠ k from fun m hm => by
          rcases Nat.lt_or_ge m j with h | h
          · exact HNO.out m h
          · obtain rfl : m = j := by omega
            exact hk)
        clear hk
        generalize xs[j]?.getD s0 = kk at *
        go_wp2
        go_round
        case rel => exact ⟨j + 1, by omega, by simp, HN.out⟩
        case measure => simp [intOf]; omega
    · have hge' : ¬ ((j : Int) < (xs.length : Int)) := by omega
      have HF := Lib.hid (memB_no (show k ∉ xs from fun hk => by
        obtain ⟨m, hm, e⟩ := List.getElem_of_mem hk
        exact HNO.out m (by omega) (by rw [getD_lt hm, e])))
      go_wp2
      go_ret
      exact ⟨by rw [HF.out]; rfl, rfl⟩

/-- What the reference knows of a key. -/
def entOf (es : List Ent) (k : ByteArray) : Option Ent := es.find? fun e => decide (e.key = k)
def textOf (es : List Ent) (k : ByteArray) : ByteArray := match entOf es k with | some a => a.text | none => s0
def isOf (es : List Ent) (k : ByteArray) : Bool := (entOf es k).isSome
def hasOf (es : List Ent) (a k : ByteArray) : Bool := match entOf es k with | some x => memB x.names a | none => false
theorem findI_cases (es : List Ent) (k : ByteArray) : (findI es k = -1 ∧ entOf es k = none ∧ ∀ e ∈ es, e.key ≠ k) ∨ ∃ i, i < es.length ∧ findI es k = (i : Int) ∧ entOf es k = some (es[i]?.getD default) ∧ (es[i]?.getD default).key = k := by
  unfold findI entOf
  cases h : es.findIdx? (fun e => decide (e.key = k)) with
  | none =>
    left
    have := List.findIdx?_eq_none_iff.1 h
    refine ⟨rfl, ?_, fun e he => by simpa using this e he⟩
    rw [List.find?_eq_none]
    intro x hx
    simp [this x hx]
  | some i =>
    right
    obtain ⟨hi, h1, h2⟩ := List.findIdx?_eq_some_iff_getElem.1 h
    refine ⟨i, hi, rfl, ?_, by simpa [hi] using h1⟩
    rw [List.find?_eq_some_iff_getElem]
    refine ⟨by simpa [hi] using h1, i, hi, by simp [hi], fun j hj => by simpa using h2 j hj⟩

theorem getRef_any (base p : Nat) (E : Value) (es : List Ent) (k : ByteArray) (w : World) (h : IsRef base w p E es) (hl : es.length ≤ 1000000) :
    Calls Try.prog 24 #[.pointer (some ⟨p, 0, none⟩), .string k] w fun e w' => e = .returned (.tuple #[.string (textOf es k), .bool (isOf es k)]) ∧ w = w' := by
  obtain ⟨A, cap, rfl⟩ := h.slice
  have cb := h.box.cell
  have HI := Lib.hid h
  rcases findI_cases es k with ⟨h1, h2, _⟩ | ⟨i, hi, h1, h2, _⟩
  · have H1 := Lib.hid h1
    have H2 := Lib.hid h2
    clear h1 h2 h
    go_enter Try.func24, Try.ntmps24
    go_wp2_with (go_at_call 33; refine (find_any _ _ _ es k _ HI.out hl).mono ?_; rintro e w' ⟨rfl, rfl⟩; rw [H1.out])
    go_ret2
    exact ⟨by unfold textOf isOf; rw [H2.out]; rfl, rfl⟩
  · obtain ⟨g, rfl, _, _, _, _, c1, _⟩ := h.ent hi
    have H1 := Lib.hid h1
    have H2 := Lib.hid h2
    have hi0 : (0 : Int) ≤ (i : Int) := by omega
    have hi1 : (i : Int) < (es.length : Int) := by omega
    clear h1 h2 h hi
    go_enter Try.func24, Try.ntmps24
    go_wp2_with (go_at_call 33; refine (find_any _ _ _ es k _ HI.out hl).mono ?_; rintro e w' ⟨rfl, rfl⟩; rw [H1.out])
    go_ret2
    exact ⟨by unfold textOf isOf; rw [H2.out]; rfl, rfl⟩

theorem hasRefC_any (base p : Nat) (E : Value) (es : List Ent) (a k : ByteArray) (w : World) (h : IsRef base w p E es) (hl : es.length ≤ 1000000) (hn : ∀ e ∈ es, e.names.length ≤ 1000000) :
    Calls Try.prog 25 #[.pointer (some ⟨p, 0, none⟩), .string a, .string k] w fun e w' => e = .returned (.bool (hasOf es a k)) ∧ w = w' := by
  obtain ⟨A, cap, rfl⟩ := h.slice
  have cb := h.box.cell
  have HI := Lib.hid h
  rcases findI_cases es k with ⟨h1, h2, _⟩ | ⟨i, hi, h1, h2, _⟩
  · have H1 := Lib.hid h1
    have H2 := Lib.hid h2
    clear h1 h2 h
    go_enter Try.func25, Try.ntmps25
    go_wp2_with (go_at_call 33; refine (find_any _ _ _ es k _ HI.out hl).mono ?_; rintro e w' ⟨rfl, rfl⟩; rw [H1.out])
    go_ret
    exact ⟨by unfold hasOf; rw [H2.out]; rfl, rfl⟩
  · obtain ⟨g, rfl, _, _, _, _, _, c2⟩ := h.ent hi
    have hns := h.ns i (es[i]?.getD default) (by simp [hi])
    have hnl := hn (es[i]?.getD default) (by simp [hi])
    have H1 := Lib.hid h1
    have H2 := Lib.hid h2
    have HNS := Lib.hid hns
    have hi0 : (0 : Int) ≤ (i : Int) := by omega
    have hi1 : (i : Int) < (es.length : Int) := by omega
    clear h1 h2 h hi hns
    go_enter Try.func25, Try.ntmps25
    go_wp2_with (first
      | (go_at_call 33; refine (find_any _ _ _ es k _ HI.out hl).mono ?_; rintro e w' ⟨rfl, rfl⟩; rw [H1.out])
      | (go_at_call 34; refine (hasRef_any _ _ a _ _ HNS.out hnl).mono ?_; rintro e w' ⟨rfl, rfl⟩))
    go_ret
    exact ⟨by unfold hasOf; rw [H2.out]; rfl, rfl⟩
end Go.Proofs.Ytneclonahddipaa
