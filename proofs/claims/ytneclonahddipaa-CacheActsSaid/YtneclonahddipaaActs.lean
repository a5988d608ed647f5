/- Acts that came in: a slice of structs of an int and three strings, read. -/
import Derived.Test.YtneclonahddipaaPerform
import Derived.Deep.Slices
import Derived.Lib.SmallJoins
namespace Go.Proofs.Ytneclonahddipaa
open Go.RowKit Go.Maps Go.Sort Go.Shelf Go.Deep

structure ActV where
  kd : Int
  nm : ByteArray
  k : ByteArray
  t : ByteArray
instance : Inhabited ActV := ⟨⟨0, s0, s0, s0⟩⟩

def ActAt (w : World) (g o : Nat) (x : ActV) : Prop :=
  w.cell? ⟨g, o, none⟩ = some (.int .i64 x.kd) ∧ w.cell? ⟨g, o + 1, none⟩ = some (.string x.nm) ∧ w.cell? ⟨g, o + 2, none⟩ = some (.string x.k) ∧ w.cell? ⟨g, o + 3, none⟩ = some (.string x.t)
def ActOk (x : ActV) : Prop := x.nm.size ≤ maxLen ∧ x.k.size ≤ maxLen ∧ x.t.size ≤ maxLen

def ActRow (w : World) (v : Value) (xs : List ActV) : Prop :=
  ∃ (A : Option Addr) (cap : Nat), v = .slice A xs.length cap ∧ (0 < xs.length → ∃ g off, A = some ⟨g, off, none⟩ ∧ ∀ i, i < xs.length → ActAt w g (off + i * 4) (xs[i]?.getD default) ∧ ActOk (xs[i]?.getD default))

theorem open_acts {H : Type} {enc : TypeId × Value → H} {w : World} {base : Nat} {sp : Nat → Bool} {held : Bool} {fuel : Nat} {v : Value} {d : DataW H × List MemPlace} (h : DataW.trod enc Try.prog w base sp held fuel 36 v.cells.toList = some d)
    {a0 : Option Addr} {len0 cap0 : Nat} (hv : v = .slice a0 len0 cap0) : ∃ xs : List ActV, ActRow w v xs := by
  subst hv
  rcases open_slice Try.underlying36 h with ⟨hcs, _⟩ | ⟨a, len, cap, m, n, D, Pl, hcs, _, hl, hm, hmm, _, hx⟩
  · simp [Value.cells] at hcs
    obtain ⟨rfl, rfl, rfl⟩ := hcs
    exact ⟨[], none, 0, rfl, fun h => by simp at h⟩
  · simp [Value.cells] at hcs
    obtain ⟨rfl, rfl, rfl⟩ := hcs
    have hlm : len0 ≤ m := by rw [hmm]; split <;> omega
    have c39 : Try.prog.cellsOf 39 = 4 := by kernel_rfl
    have each : ∀ i, i < len0 → ∃ x : ActV, (w.cell? (a.add (i * 4)) = some (.int .i64 x.kd) ∧ w.cell? (a.add (i * 4 + 1)) = some (.string x.nm) ∧ w.cell? (a.add (i * 4 + 2)) = some (.string x.k) ∧ w.cell? (a.add (i * 4 + 3)) = some (.string x.t)) ∧ ActOk x := by
      intro i hi
      obtain ⟨cs', h1, h2⟩ := hx i (by omega)
      rw [c39] at h1
      obtain ⟨_, hlen, hcell⟩ := World.cells?_some h1
      match cs', hlen with
      | [v0, v1, v2, v3], _ =>
        obtain ⟨y0, y1, y2, y3, n', _, _, g0, g1, g2, g3⟩ := Joins.trod_struct4 Try.underlying39 h2
        have e0 := hcell 0 (by omega)
        have e1 := hcell 1 (by omega)
        have e2 := hcell 2 (by omega)
        have e3 := hcell 3 (by omega)
        rw [add_add] at e0 e1 e2 e3
        have k3 : Try.prog.cellsOf 3 = 1 := by kernel_rfl
        simp [k3, cells9] at g0 g1 g2 g3
        obtain ⟨kd, hk, _, _⟩ := DataW.trod_int Try.underlying3 g0
        obtain ⟨nm, hn, _, z1⟩ := DataW.trod_string Try.underlying9 g1
        obtain ⟨k, hk2, _, z2⟩ := DataW.trod_string Try.underlying9 g2
        obtain ⟨t, ht, _, z3⟩ := DataW.trod_string Try.underlying9 g3
        simp only [List.cons.injEq, and_true] at hk hn hk2 ht
        subst hk hn hk2 ht
        exact ⟨⟨kd, nm, k, t⟩, ⟨by simpa using e0, by simpa using e1, by simpa using e2, by simpa using e3⟩, z1, z2, z3⟩
    obtain ⟨f, hf⟩ := choose_lt each
    refine ⟨(List.range len0).map f, some a, cap0, by simp, fun h0 => ?_⟩
    simp at h0
    obtain ⟨g, off, spot⟩ := a
    have hspot : spot = none := by
      have := (hf 0 h0).1.1
      simpa [Addr.add] using World.cell?_spot this
    subst hspot
    refine ⟨g, off, rfl, fun i hi => ?_⟩
    simp at hi
    have e : ((List.range len0).map f)[i]?.getD default = f i := by simp [hi]
    rw [e]
    obtain ⟨⟨e0, e1, e2, e3⟩, hok⟩ := hf i hi
    refine ⟨⟨?_, ?_, ?_, ?_⟩, hok⟩
    · have := e0; unfold Addr.add at this; split at this <;> simp_all
    · simpa [Addr.add, Nat.add_assoc] using e1
    · simpa [Addr.add, Nat.add_assoc] using e2
    · simpa [Addr.add, Nat.add_assoc] using e3
end Go.Proofs.Ytneclonahddipaa
