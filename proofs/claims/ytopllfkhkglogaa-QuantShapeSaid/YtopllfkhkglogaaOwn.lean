/- Own, Pick, greatest, Reach, candidates: walks. -/
import Derived.Test.YtopllfkhkglogaaRef2
namespace Go.Proofs.Ytopllfkhkglogaa
open Go.RowKit

theorem cell_new1 (w : World) (x : Value) (t : TypeId) : (w.alloc (.cells #[x] t)).cell? ⟨w.heap.size, 0, none⟩ = some x := by rw [World.cell?_alloc_at _ _ _ _ rfl]; rfl
theorem cell_new2 (w : World) (x y : Value) (t : TypeId) : (w.alloc (.cells #[x, y] t)).cell? ⟨w.heap.size, 0, none⟩ = some x ∧ (w.alloc (.cells #[x, y] t)).cell? ⟨w.heap.size, 1, none⟩ = some y := by
  constructor <;> (rw [World.cell?_alloc_at _ _ _ _ rfl]; rfl)
theorem own_empty (w : World) (e : TypeId) : (w.alloc (.cells #[] e)).ownsRow w.heap.size e 1 (.slice (some ⟨w.heap.size, 0, none⟩) 0 0) 0 [] :=
  ⟨rfl, .inr ⟨_, 0, #[], rfl, Nat.le_refl _, heap_alloc_new w _, Nat.le_refl _, by unfold maxLen; omega, by simp, by simp⟩⟩
theorem I_mem {zs : List Int} : ∀ u ∈ I zs, u.oneCell' = true := by
  intro u hu
  obtain ⟨x, _, rfl⟩ := List.mem_map.1 hu
  rfl
theorem addr_add (b o j : Nat) : (⟨b, o, none⟩ : Addr).add j = ⟨b, o + j, none⟩ := by unfold Addr.add; split <;> simp_all

theorem own_any (v : Value) (zs : List Int) (w : World) (h : IRow w v zs) (hz : zs.length ≤ 1000000) : Calls Try.prog 13 #[v] w fun e w' => ∃ v', e = .returned v' ∧ IRow w' v' zs ∧ Below w.heap.size w w' ∧ w'.ownsRow w.heap.size 3 1 v' zs.length (I zs) := by
  obtain ⟨A, c, rfl, h1, h2, hr⟩ := h
  obtain ⟨i0, hi3, hz0, hz1, hz2⟩ := info_parts Try.info3
  have hE := own_empty w 3
  cases A with
  | none =>
    have h0 : zs.length = 0 := by
      rcases Nat.eq_zero_or_pos zs.length with h0 | h0
      · exact h0
      · obtain ⟨b, o, e, _⟩ := hr.at h0; cases e
    have hzn : zs = [] := List.eq_nil_of_length_eq_zero h0
    subst hzn
    simp only [List.length_nil]
    clear h0 hr
    go_enter Try.func13, Try.ntmps13
    go_wp2_with (at_builtin; refine wpList_append_own_none _ rfl _ _ 22 rfl w.heap.size 3 i0 (.int .i64 0) 1 8 Try.underlying22 hi3 hz0 hz1 hz2 rfl (by decide) _ _ _ rfl hE _ _ rfl (by simp) ?_; intro v1 w1 hown1 hgrow1 _)
    go_ret
    exact ⟨_, rfl, iRow_of_owns hE, (Below.refl _ _).alloc (Nat.le_refl _) _, hE⟩
  | some ad =>
    obtain ⟨b, o, hsp⟩ : ∃ b o, 0 < zs.length → ad = ⟨b, o, none⟩ := by
      rcases Nat.eq_zero_or_pos zs.length with h0 | h0
      · exact ⟨0, 0, fun h => by omega⟩
      · obtain ⟨b, o, e, _⟩ := hr.at h0; exact ⟨b, o, fun _ => by simpa using e⟩
    have hnews : ∀ j u, (I zs)[j]? = some u → (w.alloc (.cells #[] 3)).cell? (ad.add j) = some u := by
      intro j u hu
      have hj : j < zs.length := by have := (List.getElem?_eq_some_iff.1 hu).1; rwa [I_length] at this
      obtain ⟨b', o', e, hb, hc⟩ := hr (by rw [I_length]; omega)
      simp only [Option.some.injEq] at e
      subst e
      rw [addr_add]
      exact (((Below.refl w.heap.size w).alloc (Nat.le_refl _) (.cells #[] 3)).cell (p := ⟨b', o' + j, none⟩) hb).trans (hc j u hu)
    clear hsp
    go_enter Try.func13, Try.ntmps13
    go_wp2_with (at_builtin; refine wpList_append_own _ rfl _ _ 22 rfl w.heap.size 3 i0 (.int .i64 0) 1 8 Try.underlying22 hi3 hz0 hz1 hz2 rfl (by decide) _ _ _ rfl hE ad zs.length c (I zs) rfl (by rw [I_length]; omega) hnews I_mem (by unfold maxLen; omega) (by omega) (by simp) ?_; intro v1 w1 hown1 hgrow1 _)
    go_ret
    simp only [Nat.zero_add, List.nil_append] at hown1
    exact ⟨_, rfl, iRow_of_owns hown1, ((Below.refl _ _).alloc (Nat.le_refl _) _).grown hgrow1 (by simp) (fun k hk => by cases hk; exact Nat.le_refl _), hown1⟩

theorem pick_any (x n : Int) (w : World) (hn : 1 ≤ n) (hn2 : n ≤ 1000000) : Calls Try.prog 10 #[.int .i64 x, .int .i64 n] w fun e w' => e = .returned (.int .i64 (x % n)) ∧ w' = w := by
  have t1 : -n < x.tmod n := by have := Int.lt_tmod_of_pos x (show 0 < n by omega); omega
  have t2 : x.tmod n < n := Int.tmod_lt_of_pos x (by omega)
  have hm : x % n = if x.tmod n < 0 then x.tmod n + n else x.tmod n := by
    have e := Int.tmod_eq_emod (a := x) (b := n)
    have e0 := Int.emod_nonneg x (show n ≠ 0 by omega)
    have e1 := Int.emod_lt_of_pos x (show 0 < n by omega)
    split at e <;> split <;> omega
  have HM := Lib.hid hm
  clear hm
  have hnz : (n == 0) = false := by simp; omega
  go_enter Try.func10, Try.ntmps10
  go_wp2
  · go_ret
    exact ⟨by rw [HM.out, if_pos (by assumption)]; rfl, rfl⟩
  · go_ret
    exact ⟨by rw [HM.out, if_neg (by omega)]; rfl, rfl⟩

/-- greatest, of two. -/
theorem great2_any (a b c : Int) (A : Nat) (cp : Nat) (w : World) (hb : w.cell? ⟨A, 0, none⟩ = some (.int .i64 b)) (hc : w.cell? ⟨A, 1, none⟩ = some (.int .i64 c)) :
    Calls Try.prog 23 #[.int .i64 a, .slice (some ⟨A, 0, none⟩) 2 cp] w fun e w' => e = .returned (.int .i64 (mx (mx a b) c)) ∧ w' = w := by
  have m1 : mx a b = a ∧ ¬ a < b ∨ mx a b = b ∧ a < b := by unfold mx; split <;> simp_all
  go_enter Try.func23, Try.ntmps23
  go_wp2
  go_loop [0, 9] (fun u i => ∃ k : Nat, k ≤ 2 ∧ i = .int .i64 (k : Int) ∧ u = .int .i64 (if k = 0 then a else if k = 1 then mx a b else mx (mx a b) c)) (fun _ i => 2 - (intOf i).toNat)
  case atStart => exact ⟨0, by omega, rfl, rfl⟩
  case round =>
    obtain ⟨k, hk, rfl, rfl⟩ := hrel
    have hk3 : k = 0 ∨ k = 1 ∨ k = 2 := by omega
    rcases hk3 with rfl | rfl | rfl
    · by_cases h : a < b
      all_goals
        go_wp2
        go_round
        case rel => exact ⟨1, by omega, rfl, by simp [mx, h]; try omega⟩
        case measure => simp [intOf]
    · simp only [Nat.one_ne_zero, if_false, if_true]
      generalize mx a b = d at *
      by_cases h : d < c
      all_goals
        go_wp2
        go_round
        case rel => exact ⟨2, by omega, rfl, by simp [mx, h]; try omega⟩
        case measure => simp [intOf]
    · go_wp2
      go_ret
      exact ⟨by simp, rfl⟩
theorem great1_any (a b : Int) (A : Nat) (cp : Nat) (w : World) (hb : w.cell? ⟨A, 0, none⟩ = some (.int .i64 b)) :
    Calls Try.prog 23 #[.int .i64 a, .slice (some ⟨A, 0, none⟩) 1 cp] w fun e w' => e = .returned (.int .i64 (mx a b)) ∧ w' = w := by
  go_enter Try.func23, Try.ntmps23
  go_wp2
  go_loop [0, 9] (fun u i => ∃ k : Nat, k ≤ 1 ∧ i = .int .i64 (k : Int) ∧ u = .int .i64 (if k = 0 then a else mx a b)) (fun _ i => 1 - (intOf i).toNat)
  case atStart => exact ⟨0, by omega, rfl, rfl⟩
  case round =>
    obtain ⟨k, hk, rfl, rfl⟩ := hrel
    have hk3 : k = 0 ∨ k = 1 := by omega
    rcases hk3 with rfl | rfl
    · by_cases h : a < b
      all_goals
        go_wp2
        go_round
        case rel => exact ⟨1, by omega, rfl, by simp [mx, h]; try omega⟩
        case measure => simp [intOf]
    · go_wp2
      go_ret
      exact ⟨by simp, rfl⟩

theorem reach_any (p q : Int) (w : World) : Calls Try.prog 11 #[.int .i64 p, .int .i64 q] w fun e w' => e = .returned (.tuple #[.int .i64 (if validB p q then mx p (q - p) else 0), .int .i64 (if validB p q then 0 else 2)]) ∧ Below w.heap.size w w' := by
  cases hv : validB p q with
  | false =>
    have HV := Lib.hid hv
    clear hv
    go_enter Try.func11, Try.ntmps11
    go_wp2_with (go_at_call 18; refine (valid_any _ _ _).mono ?_; rintro e w' ⟨rfl, rfl⟩; rw [HV.out])
    go_ret2
    exact ⟨by simp, Below.refl _ _⟩
  | true =>
    have HV := Lib.hid hv
    have hb : 1 ≤ q ∧ q ≤ 1000 ∧ 0 ≤ p ∧ p ≤ q := by simpa [validB] using hv
    obtain ⟨b1, b2, b3, b4⟩ := hb
    clear hv
    go_enter Try.func11, Try.ntmps11
    go_wp2_with (first
      | (go_at_call 18; refine (valid_any _ _ _).mono ?_; rintro e w' ⟨rfl, rfl⟩; rw [HV.out])
      | (go_at_call 23; refine (great1_any _ _ _ _ _ (cell_new1 _ _ _)).mono ?_; rintro e w2 ⟨rfl, rfl⟩))
    go_ret2
    exact ⟨by simp, by go_grown⟩

/-- candidates: a function value over two new boxes. -/
theorem candidates_any (lo hi : Int) (w : World) : Calls Try.prog 21 #[.int .i64 lo, .int .i64 hi] w fun e w' => e = .returned (.func (.func 31) #[] #[.pointer (some ⟨w.heap.size + 1, 0, none⟩), .pointer (some ⟨w.heap.size, 0, none⟩)]) ∧ w' = (w.alloc (.cells #[.int .i64 lo] 3)).alloc (.cells #[.int .i64 hi] 3) := by
  go_enter Try.func21, Try.ntmps21
  go_wp2
  go_ret
  exact ⟨by simp, rfl⟩
end Go.Proofs.Ytopllfkhkglogaa
