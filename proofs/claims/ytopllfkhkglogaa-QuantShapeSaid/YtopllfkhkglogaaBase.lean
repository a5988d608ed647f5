/- Words for a slice of ints; the small functions of quant and its reference. -/
import Derived.Test.YtopllfkhkglogaaProg
import Derived.ProofKit
import Derived.WalkKit
import Derived.Handy
import Derived.Lib.Hide
import Derived.BigQuiet
import Derived.Maps.AppendAt
import Derived.WalkLawsBesides
import Derived.WalkSpells
namespace Go.Proofs.Ytopllfkhkglogaa
open Go.RowKit

/-- The cells from an address on hold xs. -/
def Row (w : World) (A : Option Addr) (xs : List Value) : Prop :=
  0 < xs.length → ∃ b o, A = some ⟨b, o, none⟩ ∧ b < w.heap.size ∧ ∀ (j : Nat) (x : Value), xs[j]? = some x → w.cell? ⟨b, o + j, none⟩ = some x
theorem Row.below {w w' : World} {A : Option Addr} {xs : List Value} (h : Row w A xs) (hb : Below w.heap.size w w') : Row w' A xs := fun h0 => by
  obtain ⟨b, o, e, hlt, hc⟩ := h h0
  exact ⟨b, o, e, Nat.lt_of_lt_of_le hlt hb.size, fun j x hx => (hb.cell (p := ⟨b, o + j, none⟩) hlt).trans (hc j x hx)⟩
def I (l : List Int) : List Value := l.map (Value.int .i64)
theorem I_length (l : List Int) : (I l).length = l.length := by simp [I]
theorem I_get {l : List Int} {j : Nat} (h : j < l.length) : (I l)[j]? = some (.int .i64 (l[j]?.getD 0)) := by simp [I, h]
theorem I_snoc (l : List Int) (x : Int) : I l ++ [.int .i64 x] = I (l ++ [x]) := by simp [I]

/-- A slice of ints. -/
def IRow (w : World) (v : Value) (zs : List Int) : Prop := ∃ A c, v = .slice A zs.length c ∧ zs.length ≤ c ∧ c ≤ maxLen ∧ Row w A (I zs)
theorem IRow.below {w w' : World} {v : Value} {zs : List Int} (h : IRow w v zs) (hb : Below w.heap.size w w') : IRow w' v zs := by
  obtain ⟨A, c, e, h1, h2, h3⟩ := h
  exact ⟨A, c, e, h1, h2, h3.below hb⟩
theorem IRow.nil (w : World) : IRow w (.slice none 0 0) [] := ⟨none, 0, rfl, Nat.le_refl _, by unfold maxLen; omega, fun h => absurd h (by simp [I])⟩
theorem Row.at {w : World} {A : Option Addr} {zs : List Int} (h : Row w A (I zs)) (h0 : 0 < zs.length) : ∃ b o, A = some ⟨b, o, none⟩ ∧ b < w.heap.size ∧ ∀ j, j < zs.length → w.cell? ⟨b, o + j, none⟩ = some (.int .i64 (zs[j]?.getD 0)) := by
  obtain ⟨b, o, e, hb, hc⟩ := h (by rw [I_length]; exact h0)
  exact ⟨b, o, e, hb, fun j hj => hc j _ (I_get hj)⟩

theorem row_of_owns {w : World} {base e n : Nat} {A : Option Addr} {c : Nat} {xs : List Value} (h : w.ownsRow base e 1 (.slice A n c) n xs) : n = xs.length ∧ n ≤ c ∧ c ≤ maxLen ∧ Row w A xs := by
  have hl : n = xs.length := by have := h.1; omega
  rcases h.2 with ⟨e1, rfl⟩ | ⟨g, cap, cur, e1, _, hh, h1, h2, _⟩
  · injection e1 with e1 e2 e3
    subst e1; subst e3
    exact ⟨hl, Nat.le_refl _, by unfold maxLen; omega, fun h0 => by omega⟩
  · injection e1 with e1 e2 e3
    subst e1; subst e3
    refine ⟨hl, h1, h2, fun _ => ⟨g, 0, rfl, (Array.getElem?_eq_some_iff.1 hh).1, fun j x hx => ?_⟩⟩
    have := h.cells (g := g) rfl j x hx
    rw [show (⟨g, 0, none⟩ : Addr).add j = ⟨g, 0 + j, none⟩ by unfold Addr.add; split <;> simp_all] at this
    exact this
theorem slice_of_owns {w : World} {base e n : Nat} {v : Value} {xs : List Value} (h : w.ownsRow base e 1 v n xs) : ∃ A c, v = .slice A n c := by
  rcases h.2 with ⟨e1, rfl⟩ | ⟨g, cap, cur, e1, _⟩
  · exact ⟨_, _, e1⟩
  · exact ⟨_, _, e1⟩
theorem iRow_of_owns {w : World} {base e n : Nat} {v : Value} {zs : List Int} (h : w.ownsRow base e 1 v n (I zs)) : IRow w v zs := by
  obtain ⟨A, c, rfl⟩ := slice_of_owns h
  obtain ⟨h0, h1, h2, h3⟩ := row_of_owns h
  rw [I_length] at h0
  subst h0
  exact ⟨A, c, rfl, h1, h2, h3⟩

theorem below_app {B n : Nat} {w W w1 : World} {o : Obj} {u : Value} {xs : List Value} {e : TypeId} {size : Nat} (hb : Below B w W) (hB : B ≤ W.heap.size) (hown : W.ownsRow B e size u n xs) (hg : (W.alloc o).grownBy w1 u.ownBlock) : Below B w w1 := by
  refine (hb.alloc hB o).grown hg (by simp; omega) (fun k hk => ?_)
  rcases hown.2 with ⟨rfl, _⟩ | ⟨g, cap, cur, rfl, hbase, _⟩
  · simp [Value.ownBlock] at hk
  · simp only [Value.ownBlock, Option.some.injEq] at hk
    omega

def wildB (n : Int) : Bool := decide (n < -1125899906842624) || decide (1125899906842624 < n)
def validB (p q : Int) : Bool := decide (1 ≤ q) && (decide (q ≤ 1000) && (decide (0 ≤ p) && decide (p ≤ q)))

theorem wild_any (n : Int) (w : World) : Calls Try.prog 28 #[.int .i64 n] w fun e w' => e = .returned (.bool (wildB n)) ∧ w' = w := by
  by_cases h1 : n < -1125899906842624
  · go_enter Try.func28, Try.ntmps28
    go_wp2
    go_ret
    exact ⟨by simp [wildB, h1], rfl⟩
  · by_cases h2 : 1125899906842624 < n
    all_goals
      go_enter Try.func28, Try.ntmps28
      go_wp2
      go_ret
      exact ⟨by simp [wildB, h1, h2], rfl⟩

theorem valid_any (p q : Int) (w : World) : Calls Try.prog 18 #[.int .i64 p, .int .i64 q] w fun e w' => e = .returned (.bool (validB p q)) ∧ w' = w := by
  by_cases h1 : 1 ≤ q
  · by_cases h2 : q ≤ 1000
    · by_cases h3 : 0 ≤ p
      · by_cases h4 : p ≤ q
        all_goals
          go_enter Try.func18, Try.ntmps18
          go_wp2
          go_ret
          exact ⟨by simp [validB, h1, h2, h3, h4], rfl⟩
      · go_enter Try.func18, Try.ntmps18
        go_wp2
        go_ret
        exact ⟨by simp [validB, h1, h2, h3]; omega, rfl⟩
    · go_enter Try.func18, Try.ntmps18
      go_wp2
      go_ret
      exact ⟨by simp [validB, h1, h2]; omega, rfl⟩
  · go_enter Try.func18, Try.ntmps18
    go_wp2
    go_ret
    exact ⟨by simp [validB, h1]; omega, rfl⟩
theorem level_any (p q : Int) (w : World) : Calls Try.prog 26 #[.int .i64 p, .int .i64 q] w fun e w' => e = .returned (.bool (validB p q)) ∧ w' = w := by
  by_cases h1 : 1 ≤ q
  · by_cases h2 : q ≤ 1000
    · by_cases h3 : 0 ≤ p
      · by_cases h4 : p ≤ q
        all_goals
          go_enter Try.func26, Try.ntmps26
          go_wp2
          go_ret
          exact ⟨by simp [validB, h1, h2, h3, h4], rfl⟩
      · go_enter Try.func26, Try.ntmps26
        go_wp2
        go_ret
        exact ⟨by simp [validB, h1, h2, h3]; omega, rfl⟩
    · go_enter Try.func26, Try.ntmps26
      go_wp2
      go_ret
      exact ⟨by simp [validB, h1, h2]; omega, rfl⟩
  · go_enter Try.func26, Try.ntmps26
    go_wp2
    go_ret
    exact ⟨by simp [validB, h1]; omega, rfl⟩

/-- The index of the first wild number, or -1. -/
def IdxOf (zs : List Int) (w : World) (e : Ending) (w' : World) : Prop := ∃ r : Int, e = .returned (.int .i64 r) ∧ decide (0 ≤ r) = zs.any wildB ∧ w' = w
theorem any_no {zs : List Int} (h : ∀ m, m < zs.length → wildB (zs[m]?.getD 0) = false) : zs.any wildB = false := by
  rw [List.any_eq_false]
  intro x hx
  obtain ⟨m, hm, rfl⟩ := List.getElem_of_mem hx
  have := h m hm
  simp [hm] at this
  simp [this]
theorem any_yes {zs : List Int} {m : Nat} (hm : m < zs.length) (h : wildB (zs[m]?.getD 0) = true) : zs.any wildB = true := by
  rw [List.any_eq_true]
  simp [hm] at h
  exact ⟨_, List.getElem_mem hm, h⟩

theorem indexFunc_any (v : Value) (zs : List Int) (w : World) (h : IRow w v zs) (hl : zs.length ≤ 100000) : Calls Try.prog 34 #[v, .func (.func 28) #[] #[]] w (IdxOf zs w) := by
  obtain ⟨A, c, rfl, _, _, hr⟩ := h
  have HR := Lib.hid hr
  clear hr
  go_enter Try.func34, Try.ntmps34
  go_wp2
  go_loop [8] (fun i => ∃ k : Nat, k ≤ zs.length ∧ i = .int .i64 (k : Int) ∧ ∀ m, m < k → wildB (zs[m]?.getD 0) = false) (fun i => zs.length - (intOf i).toNat)
  case atStart => exact ⟨0, Nat.zero_le _, rfl, fun m hm => by omega⟩
  case round =>
    obtain ⟨k, hk, rfl, hno⟩ := hrel
    have HNO := Lib.hid hno
    clear hno
    rcases Nat.lt_or_ge k zs.length with hlt | hge
    · obtain ⟨b, o, rfl, hb, hc⟩ := HR.out.at (by omega)
      have c0 := hc k hlt
      have hi0 : (0 : Int) ≤ (k : Int) := by omega
      have hi1 : (k : Int) < (zs.length : Int) := by omega
      clear hc
      have HY := Lib.hid (any_yes hlt)
      have HN := Lib.hid (show wildB (zs[k]?.getD 0) = false → ∀ m, m < k + 1 → wildB (zs[m]?.getD 0) = false from fun h m hm => by
        rcases Nat.lt_or_ge m k with h' | h'
        · exact HNO.out m h'
        · obtain rfl : m = k := by omega
          exact h)
      generalize zs[k]?.getD 0 = x at *
      cases hx : wildB x with
      | true =>
        have HX := Lib.hid hx
        clear hx
        go_wp2_with (go_at_call 28; refine (wild_any _ _).mono ?_; rintro e w' ⟨rfl, rfl⟩; rw [HX.out])
        go_ret
        exact ⟨(k : Int), rfl, by rw [HY.out HX.out]; simp, rfl⟩
      | false =>
        have HX := Lib.hid hx
        clear hx
        go_wp2_with (go_at_call 28; refine (wild_any _ _).mono ?_; rintro e w' ⟨rfl, rfl⟩; rw [HX.out])
        go_round
        case rel => exact ⟨k + 1, by omega, by simp, HN.out HX.out⟩
        case measure => simp [intOf]; omega
    · have hge' : ¬ ((k : Int) < (zs.length : Int)) := by omega
      have HF := Lib.hid (any_no (zs := zs) (fun m hm => HNO.out m (by omega)))
      go_wp2
      go_ret
      exact ⟨-1, rfl, by rw [HF.out]; rfl, rfl⟩

theorem contains_any (v : Value) (zs : List Int) (w : World) (h : IRow w v zs) (hl : zs.length ≤ 100000) : Calls Try.prog 27 #[v, .func (.func 28) #[] #[]] w fun e w' => e = .returned (.bool (zs.any wildB)) ∧ w' = w := by
  have hv : ∃ A c, v = .slice A zs.length c := by obtain ⟨A, c, rfl, _⟩ := h; exact ⟨A, c, rfl⟩
  obtain ⟨A, c, rfl⟩ := hv
  go_enter Try.func27, Try.ntmps27
  go_wp2_with (go_at_call 34; refine (indexFunc_any _ zs _ h hl).mono ?_; rintro e w' ⟨r, rfl, hr, rfl⟩)
  go_ret
  exact ⟨by rw [← hr]; rfl, rfl⟩

/-- The error of values and candidates. -/
def checkE (zs : List Int) (lo hi : Int) : Int :=
  if 100000 < zs.length then 4 else if zs.any wildB then 2 else if wildB lo then 2 else if wildB hi then 2 else if hi < lo then 2 else if 64 ≤ hi - lo then 2 else 0

theorem wild_no {n : Int} (h : wildB n = false) : -1125899906842624 ≤ n ∧ n ≤ 1125899906842624 := by
  simp [wildB] at h
  omega

set_option maxHeartbeats 1000000 in
theorem check_any (v : Value) (zs : List Int) (lo hi : Int) (w : World) (h : IRow w v zs ∨ (100000 < zs.length ∧ ∃ A c, v = .slice A zs.length c)) :
    Calls Try.prog 17 #[v, .int .i64 lo, .int .i64 hi] w fun e w' => e = .returned (.int .i64 (checkE zs lo hi)) ∧ w' = w := by
  have hv : ∃ A c, v = .slice A zs.length c := by
    rcases h with h | h
    · obtain ⟨A, c, rfl, _⟩ := h; exact ⟨A, c, rfl⟩
    · exact h.2
  obtain ⟨A, c, rfl⟩ := hv
  by_cases hl : 100000 < zs.length
  · have HE := Lib.hid (show checkE zs lo hi = 4 by simp [checkE, hl])
    have hl' : (100000 : Int) < (zs.length : Int) := by omega
    clear h
    go_enter Try.func17, Try.ntmps17
    go_wp2
    go_ret
    exact ⟨by rw [HE.out]; rfl, rfl⟩
  have hr : IRow w (.slice A zs.length c) zs := by
    rcases h with h | h
    · exact h
    · omega
  clear h
  have hl' : ¬ (100000 : Int) < (zs.length : Int) := by omega
  have HL := Lib.hid hl
  cases h1 : zs.any wildB with
  | true =>
    have HE := Lib.hid (show checkE zs lo hi = 2 by simp [checkE, hl, h1])
    have H1 := Lib.hid h1
    clear h1 hl
    go_enter Try.func17, Try.ntmps17
    go_wp2_with (go_at_call 27; refine (contains_any _ zs _ hr (by omega)).mono ?_; rintro e w' ⟨rfl, rfl⟩; rw [H1.out])
    go_ret
    exact ⟨by rw [HE.out]; rfl, rfl⟩
  | false =>
    cases h2 : wildB lo with
    | true =>
      have HE := Lib.hid (show checkE zs lo hi = 2 by simp [checkE, hl, h1, h2])
      have H1 := Lib.hid h1
      have H2 := Lib.hid h2
      clear h1 h2 hl
      go_enter Try.func17, Try.ntmps17
      go_wp2_with (first
        | (go_at_call 27; refine (contains_any _ zs _ hr (by omega)).mono ?_; rintro e w' ⟨rfl, rfl⟩; rw [H1.out])
        | (go_at_call 28; refine (wild_any _ _).mono ?_; rintro e w' ⟨rfl, rfl⟩; rw [H2.out]))
      go_ret
      exact ⟨by rw [HE.out]; rfl, rfl⟩
    | false =>
      cases h3 : wildB hi with
      | true =>
        have HE := Lib.hid (show checkE zs lo hi = 2 by simp [checkE, hl, h1, h2, h3])
        have H1 := Lib.hid h1
        have H2 := Lib.hid h2
        have H3 := Lib.hid h3
        clear h1 h2 h3 hl
        go_enter Try.func17, Try.ntmps17
        go_wp2_with (first
          | (go_at_call 27; refine (contains_any _ zs _ hr (by omega)).mono ?_; rintro e w' ⟨rfl, rfl⟩; rw [H1.out])
          | (go_at_call 28; refine (wild_any _ _).mono ?_; rintro e w' ⟨rfl, rfl⟩; first | rw [H2.out] | rw [H3.out]))
        go_ret
        exact ⟨by rw [HE.out]; rfl, rfl⟩
      | false =>
        obtain ⟨a1, a2⟩ := wild_no h2
        obtain ⟨b1, b2⟩ := wild_no h3
        by_cases h4 : hi < lo
        · have HE := Lib.hid (show checkE zs lo hi = 2 by simp [checkE, hl, h1, h2, h3, h4])
          have H1 := Lib.hid h1
          have H2 := Lib.hid h2
          have H3 := Lib.hid h3
          clear h1 h2 h3 hl
          go_enter Try.func17, Try.ntmps17
          go_wp2_with (first
            | (go_at_call 27; refine (contains_any _ zs _ hr (by omega)).mono ?_; rintro e w' ⟨rfl, rfl⟩; rw [H1.out])
            | (go_at_call 28; refine (wild_any _ _).mono ?_; rintro e w' ⟨rfl, rfl⟩; first | rw [H2.out] | rw [H3.out]))
          go_ret
          exact ⟨by rw [HE.out]; rfl, rfl⟩
        · by_cases h5 : 64 ≤ hi - lo
          all_goals
            have HE := Lib.hid (show checkE zs lo hi = _ by simp [checkE, hl, h1, h2, h3, h4, h5]; rfl)
            have H1 := Lib.hid h1
            have H2 := Lib.hid h2
            have H3 := Lib.hid h3
            clear h1 h2 h3 hl
            go_enter Try.func17, Try.ntmps17
            go_wp2_with (first
              | (go_at_call 27; refine (contains_any _ zs _ hr (by omega)).mono ?_; rintro e w' ⟨rfl, rfl⟩; rw [H1.out])
              | (go_at_call 28; refine (wild_any _ _).mono ?_; rintro e w' ⟨rfl, rfl⟩; first | rw [H2.out] | rw [H3.out]))
            go_ret
            exact ⟨by rw [HE.out]; rfl, rfl⟩
end Go.Proofs.Ytopllfkhkglogaa
