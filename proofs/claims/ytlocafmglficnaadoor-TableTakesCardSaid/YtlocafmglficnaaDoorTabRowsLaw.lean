/- TableRows: Pick, and what Check says of the law's table. Plain. -/
import Derived.Test.YtlocafmglficnaaDoorTabAwake
namespace Go.Proofs.YtlocafmglficnaaDoor
open Go.RowKit Go.Maps Go.Sort Go.Shelf

def rowN (pub : Bool) (i : Nat) : RowV := ⟨if pub then 0 else (i : Int) + 1, [(i : Int) % 10]⟩
def rowsN (pub : Bool) (n : Nat) : List RowV := (List.range n).map (rowN pub)
theorem rowsN_succ (pub : Bool) (n : Nat) : rowsN pub (n + 1) = rowsN pub n ++ [rowN pub n] := by
  unfold rowsN
  rw [List.range_succ, List.map_append]
  rfl
def bT : ByteArray := ⟨#[116]⟩
def bC : ByteArray := ⟨#[99]⟩
def schN (pub : Bool) (many : Int) : Sch := ⟨bT, pub, many, [⟨bC, 0, 9, []⟩]⟩
def tblN (pub : Bool) (n : Nat) : Tbl := ⟨schN pub (if pub then 0 else 1), rowsN pub n⟩
theorem rowsN_length (pub : Bool) (n : Nat) : (rowsN pub n).length = n := by simp [rowsN]
theorem rowsN_at (pub : Bool) {n i : Nat} (h : i < n) : (rowsN pub n)[i]?.getD default = rowN pub i := by simp [rowsN, h]
theorem cnt_rows : ∀ n o : Nat, cnt (rowsN false n) ((o : Int) + 1) = if o < n then 1 else 0
  | 0, o => by simp [cnt, rowsN]
  | n + 1, o => by
    rw [rowsN_succ]
    have ih := cnt_rows n o
    unfold cnt at ih ⊢
    rw [List.countP_append, ih]
    simp only [List.countP_cons, List.countP_nil, rowN]
    by_cases h : o < n
    · have : ¬ (n : Int) + 1 = (o : Int) + 1 := by omega
      simp [h, this, Nat.lt_succ_of_lt h]
    · by_cases h2 : n = o
      · subst h2; simp
      · have : ¬ (n : Int) + 1 = (o : Int) + 1 := by omega
        have h3 : ¬ o < n + 1 := by omega
        simp [h, this, h3]
theorem rowsN_take (pub : Bool) {n i : Nat} (h : i ≤ n) : (rowsN pub n).take i = rowsN pub i := by
  unfold rowsN
  rw [← List.map_take, List.take_range, Nat.min_eq_left h]
theorem schErr_t : schErr (schN true 0) = schErr (schN true 0) := rfl
theorem sch_ok (pub : Bool) : (schErr (schN pub (if pub then 0 else 1))).1 = 0 := by
  cases pub
  · kernel_rfl
  · kernel_rfl
theorem tblErr_N (pub : Bool) (n : Nat) (hn : n ≤ 100000) : tblErr (tblN pub n) = if 2000 < n then (4, -1) else (0, -1) := by
  unfold tblErr
  have h0 : (schErr (tblN pub n).sch).1 = 0 := sch_ok pub
  have hl : (tblN pub n).rows.length = n := rowsN_length pub n
  rw [if_neg (by rw [h0]; simp), hl]
  by_cases h : 2000 < n
  · rw [if_pos h, if_pos h]
  · rw [if_neg h, if_neg h]
    refine firstErr_miss fun i hi => ?_
    unfold rowErr
    have hrow : (tblN pub n).rows[i]?.getD default = rowN pub i := rowsN_at pub hi
    rw [hrow]
    have h1 : ¬ (rowN pub i).vals.length ≠ (tblN pub n).sch.cols.length := by simp [rowN, tblN, schN]
    have h2 : ¬ ownBad (tblN pub n).sch.pub (rowN pub i).owner = true := by
      cases pub
      · simp [ownBad, tblN, schN, rowN]; omega
      · simp [ownBad, tblN, schN, rowN]
    have h3 : ¬ valsBad (tblN pub n).sch.cols (rowN pub i).vals = true := by
      simp [valsBad, tblN, schN, rowN, valBad, List.range_succ]
      omega
    have h4 : ¬ (!(tblN pub n).sch.pub && decide ((tblN pub n).sch.many < (cnt ((tblN pub n).rows.take (i + 1)) (rowN pub i).owner : Int))) = true := by
      cases pub
      · have := cnt_rows (i + 1) i
        rw [if_pos (by omega)] at this
        have ht : (tblN false n).rows.take (i + 1) = rowsN false (i + 1) := rowsN_take false (by omega)
        rw [ht]
        have hc : cnt (rowsN false (i + 1)) (rowN false i).owner = 1 := this
        rw [hc]
        simp [tblN, schN]
      · simp [tblN, schN]
    rw [if_neg h1, if_neg h2, if_neg h3, if_neg h4]

theorem pick_any (n m : Int) (hm : 0 < m) (hm' : m ≤ 1000000) (hn : Fit n) (w : World) : Calls Tryd.prog 9 #[.int .i64 n, .int .i64 m] w fun e w' => ∃ p : Int, e = .returned (.int .i64 p) ∧ 0 ≤ p ∧ p < m ∧ w = w' := by
  obtain ⟨hn1, hn2⟩ := hn
  have hr1 : n.tmod m < m := Int.tmod_lt_of_pos _ hm
  have hr2 : -m < n.tmod m := by have := Int.lt_tmod_of_pos n hm; omega
  have hm0 : m ≠ 0 := by omega
  by_cases h : n.tmod m < 0
  all_goals
    go_enter Tryd.func9, Tryd.ntmps9
    go_wp2
    go_ret
    exact ⟨_, rfl, by omega, by omega, rfl⟩
end Go.Proofs.YtlocafmglficnaaDoor
