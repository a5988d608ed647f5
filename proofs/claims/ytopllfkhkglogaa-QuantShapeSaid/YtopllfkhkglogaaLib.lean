/- Go's library at ints: Clone, Sort, BinarySearch in the words of the walks. -/
import Derived.Test.YtopllfkhkglogaaLays
import Derived.Test.YtopllfkhkglogaaOwn
import Derived.Sort.OwnSortedInts
namespace Go.Proofs.Ytopllfkhkglogaa
open Go.RowKit Go.Sort

theorem clone_any (v : Value) (zs : List Int) (w : World) (h : IRow w v zs) (hz : zs.length ≤ 1000000) : Calls Try.prog 19 #[v] w fun e w' => ∃ v', e = .returned v' ∧ w'.ownsRow w.heap.size 3 1 v' zs.length (I zs) ∧ Below w.heap.size w w' := by
  obtain ⟨A, c, rfl, h1, h2, hr⟩ := h
  rcases Nat.eq_zero_or_pos zs.length with h0 | h0
  · obtain rfl : zs = [] := List.eq_nil_of_length_eq_zero h0
    cases A with
    | none =>
      refine (Try.slices_Clone_int_nil 0 c w).mono ?_
      rintro e w' ⟨rfl, rfl⟩
      exact ⟨_, rfl, World.ownsRow_nil _ _ _ _, Below.refl _ _⟩
    | some a =>
      refine (Try.slices_Clone_int_zero a c w).mono ?_
      rintro e w' ⟨v', rfl, hown, _, hb⟩
      exact ⟨_, rfl, hown, hb⟩
  · obtain ⟨b, o, rfl, hb, hc⟩ := hr.at h0
    refine (Try.slices_Clone_int b o zs.length c zs w (Nat.le_refl _) (by omega) (fun j hj => by rw [hc j hj]; simp [hj])).mono ?_
    rintro e w' ⟨v', rfl, hown, _, hb⟩
    rw [List.take_length] at hown
    exact ⟨_, rfl, hown, hb⟩

def srt (zs : List Int) : List Int := zs.mergeSort fun x y => decide (x ≤ y)
theorem srt_perm (zs : List Int) : (srt zs).Perm zs := List.mergeSort_perm _ _
theorem srt_length (zs : List Int) : (srt zs).length = zs.length := (srt_perm zs).length_eq
theorem srt_sorted (zs : List Int) : (srt zs).Pairwise (· ≤ ·) := by
  have := List.pairwise_mergeSort (le := fun x y : Int => decide (x ≤ y)) (fun a b c h1 h2 => by simp at *; omega) (fun a b => by simp; omega) zs
  exact this.imp (fun h => by simpa using h)
theorem srt_count (zs : List Int) (x : Int) : (srt zs).countP (· < x) = cntLt zs x := by
  rw [(srt_perm zs).countP_eq, List.countP_eq_length_filter]; rfl
theorem srt_count1 (zs : List Int) (x : Int) : (srt zs).countP (· < x + 1) = cntLe zs x := by
  rw [srt_count]; unfold cntLt cntLe
  congr 2
  funext z
  simp only [decide_eq_decide]
  omega

theorem cntLt_succ (zs : List Int) (x : Int) : cntLt zs (x + 1) = cntLe zs x := by
  unfold cntLt cntLe
  congr 2
  funext z
  simp only [decide_eq_decide]
  omega

theorem sort_any (v : Value) (zs : List Int) (base : Nat) (w : World) (hown : w.ownsRow base 3 1 v zs.length (I zs)) (hz : zs.length ≤ 1000000) :
    Calls Try.prog 20 #[v] w fun e w' => e = .returned (.tuple #[]) ∧ w'.ownsRow base 3 1 v zs.length (I (srt zs)) ∧ w.grownBy w' v.ownBlock := by
  rcases hown.2 with ⟨rfl, hl0⟩ | ⟨gb, cap, cur, rfl, hbase, hgb, r1, r2, r3, r4⟩
  · obtain rfl : zs = [] := List.eq_nil_of_length_eq_zero hl0
    refine (Try.slices_Sort_int_none none 0 w).mono ?_
    rintro e w' ⟨rfl, rfl⟩
    exact ⟨rfl, by simpa [srt, I] using World.ownsRow_nil w' base 3 1, ⟨rfl, rfl, rfl, Nat.le_refl _, fun _ _ _ => rfl⟩⟩
  · have hH : Holds (Value.int .i64) w gb 0 zs.toArray := holds_of_blockI hgb (by simpa [I] using r4)
    refine (Try.slices_Sort_int gb 0 cap zs w hH (Array.getElem?_eq_some_iff.1 hgb).1 (by omega)).mono ?_
    rintro e w' ⟨rfl, nn, os, rfl⟩
    refine ⟨rfl, ?_, ?_⟩
    · exact ownsRow_sortedI (w := w) (n := nn) (os := os) (ss := zs) (ts := srt zs) (srt_length zs) hbase hgb r1 r2 r3
    · exact grownBy_sortedI (w := w) (g := gb) (n := nn) (os := os) (srt zs).toArray

theorem bs_any (v : Value) (zs : List Int) (x : Int) (w : World) (h : IRow w v (srt zs)) (hz : zs.length ≤ 1000000) :
    Calls Try.prog 22 #[v, .int .i64 x] w fun e w' => ∃ b, e = .returned (.tuple #[.int .i64 (cntLt zs x : Int), .bool b]) ∧ ∃ q, w' = w.drewN q := by
  obtain ⟨A, c, rfl, h1, h2, hr⟩ := h
  rcases Nat.eq_zero_or_pos (srt zs).length with h0 | h0
  · have hs : srt zs = [] := List.eq_nil_of_length_eq_zero h0
    rw [hs]
    refine (Try.slices_BinarySearch_int_empty A c x w).mono ?_
    rintro e w' ⟨rfl, rfl⟩
    have : cntLt zs x = 0 := by rw [← srt_count, hs]; rfl
    exact ⟨false, by rw [this]; rfl, 0, rfl⟩
  · obtain ⟨b, o, rfl, hb, hc⟩ := hr.at h0
    have hlen := srt_length zs
    refine (Try.slices_BinarySearch_int b o (srt zs).length c (srt zs) x w (Nat.le_refl _) (by omega) (fun j hj => by rw [hc j hj]; simp [hj]) (by rw [List.take_length]; exact srt_sorted zs)).mono ?_
    rintro e w' ⟨rfl, q, rfl⟩
    rw [List.take_length, srt_count]
    exact ⟨_, rfl, q, rfl⟩
end Go.Proofs.Ytopllfkhkglogaa
