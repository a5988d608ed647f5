/- Opening an argument: a base, read as a list of tables. -/
import Derived.Test.YtlocafmglficnaaGreatDoorTabMem
import Derived.ChangeSlices
import Derived.Deep.Slices
import Derived.Lib.SmallJoins
namespace Go.Proofs.YtlocafmglficnaaGreatDoor
open Go.RowKit Go.ChangeShapes

theorem laidOut : laidOutB Tryz.prog = true := by kernel_rfl
section
variable {H : Type} {enc : TypeId × Value → H} {w : World} {base : Nat} {sp : Nat → Bool} {held : Bool} {fuel : Nat}
theorem open_kind {α : Type} {K : Kind α} {T : TypeId} (hu : Tryz.prog.underlying T = some (.slice K.ty)) (hk : Tryz.prog.cellsOf K.ty = K.k) (hk0 : 0 < K.k)
    (hel : ∀ n cs y, DataW.trod enc Tryz.prog w base sp held n K.ty cs = some y → ∃ x, K.is Any w cs x) {cs : List Value} {y : DataW H × List MemPlace} (h : DataW.trod enc Tryz.prog w base sp held fuel T cs = some y) :
    ∃ v xs, cs = [v] ∧ SRow K Any w v xs := by
  rcases Go.Deep.open_slice hu h with ⟨hcs, _⟩ | ⟨a, len, cap, m, n, D, Pl, hcs, _, hl, hm, hmm, _, hx⟩
  · exact ⟨_, [], hcs, SRow.nil K Any w⟩
  · have hlm : len ≤ m := by rw [hmm]; split <;> omega
    have each : ∀ i, i < len → ∃ z : Option α × List Value, ∃ x, z.1 = some x ∧ K.is Any w z.2 x ∧ ∀ j, j < K.k → w.cell? (a.add (i * K.k + j)) = z.2[j]? := by
      intro i hi
      obtain ⟨cs', h1, h2⟩ := hx i (by omega)
      rw [hk] at h1
      obtain ⟨_, hlen, hcell⟩ := World.cells?_some h1
      obtain ⟨x, hi'⟩ := hel _ _ _ h2
      exact ⟨(some x, cs'), x, rfl, hi', fun j hj => by rw [← Go.Deep.add_add]; exact hcell j hj⟩
    obtain ⟨f, hf⟩ := Go.Deep.choose_lt each
    by_cases h0 : 0 < len
    case neg =>
      obtain rfl : len = 0 := by omega
      exact ⟨_, [], hcs, some a, cap, rfl, Nat.zero_le _, hm, fun h => absurd h (by simp)⟩
    have hne : ∃ g : Nat → α, ∀ i, i < len → (f i).1 = some (g i) := by
      obtain ⟨x0, e0, _⟩ := hf 0 h0
      refine ⟨fun i => (f i).1.getD x0, fun i hi => ?_⟩
      obtain ⟨x, e, _⟩ := hf i hi
      simp [e]
    obtain ⟨g, hg⟩ := hne
    refine ⟨_, (List.range len).map g, hcs, some a, cap, by simp, by simpa using hl, hm, fun _ => ?_⟩
    have hcl : ∀ i, i < len → ∀ j u, (f i).2[j]? = some u → w.cell? (a.add (i * K.k + j)) = some u := fun i hi j u hu => by
      obtain ⟨x, e, hi', hc⟩ := hf i hi
      have := K.len hi'
      have hj : j < K.k := by have := (List.getElem?_eq_some_iff.1 hu).1; omega
      rw [hc j hj, hu]
    obtain ⟨b, o, spot⟩ := a
    have h00 : ∃ u, (f 0).2[0]? = some u := by
      obtain ⟨x, e, hi', hc⟩ := hf 0 h0
      have := K.len hi'
      exact ⟨_, List.getElem?_eq_getElem (by omega)⟩
    obtain ⟨u0, hu0⟩ := h00
    have hc0 := hcl 0 h0 0 u0 hu0
    have hspot : spot = none := by simpa [Addr.add] using World.cell?_spot hc0
    subst hspot
    have hlt := World.block_lt_of_cell? w _ hc0
    refine ⟨b, o, rfl, trivial, by simpa [Addr.add] using hlt, fun j x hj => ?_⟩
    have hjl : j < len := by have := (List.getElem?_eq_some_iff.1 hj).1; simpa using this
    obtain ⟨x', e, hi', _⟩ := hf j hjl
    have ex : x = x' := by
      rw [List.getElem?_map, List.getElem?_range hjl] at hj
      simp only [Option.map_some, Option.some.injEq] at hj
      have := hg j hjl
      rw [e] at this
      simp only [Option.some.injEq] at this
      rw [← hj, ← this]
    subst ex
    refine ⟨(f j).2, hi', fun i u hu => ?_⟩
    have := hcl j hjl i u hu
    unfold Addr.add at this
    split at this
    · simp_all
    · rw [show o + j * K.k + i = o + (j * K.k + i) by omega]
      exact this
theorem fit_of_wf {n : Int} (h : (Lit.int .i64 n).wf = true) : Fit n := by
  have e1 : IntKind.i64.min = -9223372036854775808 := by decide
  have e2 : IntKind.i64.max = 9223372036854775807 := by decide
  simp [Lit.wf, e1, e2] at h
  exact ⟨by omega, by omega⟩
theorem cells3 : Tryz.prog.cellsOf 3 = 1 := by kernel_rfl
theorem cells4' : Tryz.prog.cellsOf 4 = 1 := by kernel_rfl
theorem cells9' : Tryz.prog.cellsOf 9 = 1 := by kernel_rfl
theorem cells23 : Tryz.prog.cellsOf 23 = 1 := by kernel_rfl
theorem cells25 : Tryz.prog.cellsOf 25 = 4 := by kernel_rfl
theorem cells26 : Tryz.prog.cellsOf 32 = 1 := by kernel_rfl
theorem cells28 : Tryz.prog.cellsOf 34 = 4 := by kernel_rfl
theorem cells29 : Tryz.prog.cellsOf 35 = 1 := by kernel_rfl
theorem cells31 : Tryz.prog.cellsOf 37 = 5 := by kernel_rfl
theorem cells32 : Tryz.prog.cellsOf 51 = 1 := by kernel_rfl
theorem cells34 : Tryz.prog.cellsOf 53 = 2 := by kernel_rfl
theorem open_int1 (n : Nat) (cs : List Value) (y : DataW H × List MemPlace) (h : DataW.trod enc Tryz.prog w base sp held n 3 cs = some y) : ∃ x, intK.is Any w cs x := by
  obtain ⟨x, e, _, hw⟩ := DataW.trod_int Tryz.underlying3 h
  exact ⟨x, e, fit_of_wf hw⟩
theorem open_str1 (n : Nat) (cs : List Value) (y : DataW H × List MemPlace) (h : DataW.trod enc Tryz.prog w base sp held n 9 cs = some y) : ∃ x, strK.is Any w cs x := by
  obtain ⟨x, e, _, hw⟩ := DataW.trod_string Tryz.underlying9 h
  exact ⟨x, e, hw⟩
set_option maxRecDepth 100000 in
theorem open_col1 (n : Nat) (cs : List Value) (y : DataW H × List MemPlace) (h : DataW.trod enc Tryz.prog w base sp held n 25 cs = some y) : ∃ x, colK.is Any w cs x := by
  obtain ⟨y0, y1, y2, y3, n', _, hl, g0, g1, g2, g3⟩ := Joins.trod_struct4 Tryz.underlying25 h
  rw [cells25] at hl
  match cs, hl with
  | [c0, c1, c2, c3], _ =>
    simp [cells3, cells9', cells23] at g0 g1 g2 g3
    obtain ⟨nm, e0, _, z0⟩ := DataW.trod_string Tryz.underlying9 g0
    obtain ⟨lo, e1, _, z1⟩ := DataW.trod_int Tryz.underlying3 g1
    obtain ⟨hi, e2, _, z2⟩ := DataW.trod_int Tryz.underlying3 g2
    obtain ⟨v, xs, e3, hr⟩ := open_kind (K := strK) Tryz.underlying23 cells9' (by decide) open_str1 g3
    simp only [List.cons.injEq, and_true] at e0 e1 e2 e3
    subst e0 e1 e2 e3
    exact ⟨⟨nm, lo, hi, xs⟩, _, rfl, hr, z0, fit_of_wf z1, fit_of_wf z2⟩
set_option maxRecDepth 100000 in
theorem open_row1 (n : Nat) (cs : List Value) (y : DataW H × List MemPlace) (h : DataW.trod enc Tryz.prog w base sp held n 53 cs = some y) : ∃ x, rowK.is Any w cs x := by
  obtain ⟨y0, y1, n', _, hl, g0, g1⟩ := trod_struct2 Tryz.underlying53 h
  rw [cells34] at hl
  match cs, hl with
  | [c0, c1], _ =>
    simp [cells3, cells32] at g0 g1
    obtain ⟨ow, e0, _, z0⟩ := DataW.trod_int Tryz.underlying3 g0
    obtain ⟨v, xs, e1, hr⟩ := open_kind (K := intK) Tryz.underlying51 cells3 (by decide) open_int1 g1
    simp only [List.cons.injEq, and_true] at e0 e1
    subst e0 e1
    exact ⟨⟨ow, xs⟩, _, rfl, hr, fit_of_wf z0⟩
set_option maxRecDepth 100000 in
theorem open_sch1 (n : Nat) (cs : List Value) (y : DataW H × List MemPlace) (h : DataW.trod enc Tryz.prog w base sp held n 34 cs = some y) : ∃ x, schK.is Any w cs x := by
  obtain ⟨y0, y1, y2, y3, n', _, hl, g0, g1, g2, g3⟩ := Joins.trod_struct4 Tryz.underlying34 h
  rw [cells28] at hl
  match cs, hl with
  | [c0, c1, c2, c3], _ =>
    simp [cells3, cells4', cells9', cells26] at g0 g1 g2 g3
    obtain ⟨nm, e0, _, z0⟩ := DataW.trod_string Tryz.underlying9 g0
    obtain ⟨pb, e1, _⟩ := DataW.trod_bool Tryz.underlying4 g1
    obtain ⟨mn, e2, _, z2⟩ := DataW.trod_int Tryz.underlying3 g2
    obtain ⟨v, xs, e3, hr⟩ := open_kind (K := colK) Tryz.underlying32 cells25 (by decide) open_col1 g3
    simp only [List.cons.injEq, and_true] at e0 e1 e2 e3
    subst e0 e1 e2 e3
    exact ⟨⟨nm, pb, mn, xs⟩, _, rfl, hr, z0, fit_of_wf z2⟩
set_option maxRecDepth 100000 in
theorem open_tbl1 (n : Nat) (cs : List Value) (y : DataW H × List MemPlace) (h : DataW.trod enc Tryz.prog w base sp held n 37 cs = some y) : ∃ x, tblK.is Any w cs x := by
  obtain ⟨y0, y1, n', _, hl, g0, g1⟩ := trod_struct2 Tryz.underlying37 h
  rw [cells31] at hl
  match cs, hl with
  | [c0, c1, c2, c3, c4], _ =>
    simp [cells28, cells29] at g0 g1
    obtain ⟨S, hs⟩ := open_sch1 _ _ _ g0
    obtain ⟨v, xs, e1, hr⟩ := open_kind (K := rowK) Tryz.underlying35 cells34 (by decide) open_row1 g1
    simp only [List.cons.injEq, and_true] at e1
    subst e1
    exact ⟨⟨S, xs⟩, [c0, c1, c2, c3], _, rfl, hs, hr⟩
theorem open_base {v : Value} {y : DataW H × List MemPlace} (h : DataW.trod enc Tryz.prog w base sp held fuel 22 v.cells.toList = some y) {a0 : Option Addr} {len0 cap0 : Nat} (hv : v = .slice a0 len0 cap0) : ∃ ts, SRow tblK Any w v ts := by
  obtain ⟨v', ts, e, hr⟩ := open_kind (K := tblK) Tryz.underlying22 cells31 (by decide) open_tbl1 h
  subst hv
  simp [Value.cells] at e
  subst e
  exact ⟨ts, hr⟩
end
end Go.Proofs.YtlocafmglficnaaGreatDoor
