/- Opening an argument: a slice of ints. -/
import Derived.Test.YtopllfkhkglogaaBase
import Derived.ChangeSlices
import Derived.Deep.Slices
namespace Go.Proofs.Ytopllfkhkglogaa
open Go.RowKit

theorem laidOut : laidOutB Try.prog = true := by kernel_rfl
theorem open_irow {H : Type} {enc : TypeId × Value → H} {w : World} {base : Nat} {sp : Nat → Bool} {held : Bool} {fuel : Nat} {v : Value} {d : DataW H × List MemPlace} (h : DataW.trod enc Try.prog w base sp held fuel 22 v.cells.toList = some d)
    {a0 : Option Addr} {len0 cap0 : Nat} (hv : v = .slice a0 len0 cap0) : ∃ zs : List Int, IRow w v zs := by
  subst hv
  have c3 : Try.prog.cellsOf 3 = 1 := by kernel_rfl
  rcases Go.Deep.open_slice1 Try.underlying22 c3 h with ⟨hcs, _⟩ | ⟨a, len, cap, m, n, V, D, Pl, hcs, hb, hl, hm, hmm, _, hx⟩
  · simp [Value.cells] at hcs
    obtain ⟨rfl, rfl, rfl⟩ := hcs
    exact ⟨[], IRow.nil w⟩
  · simp [Value.cells] at hcs
    obtain ⟨rfl, rfl, rfl⟩ := hcs
    have hlm : len0 ≤ m := by rw [hmm]; split <;> omega
    have each : ∀ i, i < len0 → ∃ x : Int, w.cell? (a.add i) = some (.int .i64 x) := by
      intro i hi
      obtain ⟨h1, h2⟩ := hx i (by omega)
      obtain ⟨x, hk, _, _⟩ := DataW.trod_int Try.underlying3 h2
      simp only [List.cons.injEq, and_true] at hk
      exact ⟨x, by rw [h1, hk]⟩
    obtain ⟨f, hf⟩ := Go.Deep.choose_lt each
    refine ⟨(List.range len0).map f, some a, cap0, by simp, by simpa using hl, hm, fun h0 => ?_⟩
    rw [I_length] at h0
    simp at h0
    obtain ⟨g, off, spot⟩ := a
    have hspot : spot = none := by
      have := hf 0 h0
      simpa [Addr.add] using World.cell?_spot this
    subst hspot
    have hlt : g < w.heap.size := World.block_lt_of_cell? w _ (hf 0 h0) 
    refine ⟨g, off, rfl, by simpa [Addr.add] using hlt, fun j x hx' => ?_⟩
    have hj : j < len0 := by have := (List.getElem?_eq_some_iff.1 hx').1; rw [I_length] at this; simpa using this
    have e : (I ((List.range len0).map f))[j]? = some (.int .i64 (f j)) := by simp [I, hj]
    rw [e] at hx'
    cases hx'
    have := hf j hj
    unfold Addr.add at this
    split at this <;> simp_all
theorem int_bd {n : Int} (h : (Lit.int .i64 n).wf = true) : -9223372036854775808 ≤ n ∧ n ≤ 9223372036854775807 := by
  simp only [Lit.wf, IntKind.min, IntKind.max, IntKind.signed, IntKind.bits, Bool.and_eq_true, decide_eq_true_eq] at h
  simp at h
  omega
end Go.Proofs.Ytopllfkhkglogaa
