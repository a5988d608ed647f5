/- Helpers of the walks: tables of a list, values of Without, schemas that are copied. -/
import Derived.Test.YtlocafmglficnaaGreatDoorTabRSameO
import Derived.Test.YtlocafmglficnaaGreatDoorTabDifferO
import Derived.Test.YtlocafmglficnaaGreatDoorTabVast
import Derived.Test.YtlocafmglficnaaGreatDoorTabWithoutOf
import Derived.Sort.CutIn
namespace Go.Proofs.YtlocafmglficnaaGreatDoor
open Go.RowKit Go.Maps Go.Sort Go.Shelf
theorem Tame1.small {T : Tbl} (h : Tame1 T) : Small T :=
  ⟨by have := h.2.1.1; omega, fun c hc => by have := h.2.1.2 c hc; omega, by have := h.1; omega, fun r hr => by have := h.2.2 r hr; omega⟩
theorem rwithout_val {C : TypeId → Nat → Prop} {v : Value} {T : Tbl} (o : Int) {w : World} (h : TblVal C w v T) (hs : Small T) :
    Calls Tryz.prog 59 #[v, .int .i64 o] w fun e w' => ∃ u, e = .returned u ∧ TblVal Any w' u (withoutT T o) ∧ Below w.heap.size w w' := by
  have hh := h
  obtain ⟨_, _, _, _, _, hst⟩ := hh
  refine (rwithout_any C v T o w h hs).mono fun e w' => ?_
  rintro ⟨cu, ru, rfl, h1, h2, hb⟩
  exact ⟨_, rfl, ⟨cu, ru, rfl, h1.any, h2.any, hst⟩, hb⟩
theorem without_valA {C : TypeId → Nat → Prop} {v : Value} {T : Tbl} (o : Int) {w : World} (h : TblVal C w v T) (hs : Small T) :
    Calls Tryz.prog 41 #[v, .int .i64 o] w fun e w' => ∃ u, e = .returned u ∧ TblVal Any w' u (withoutT T o) ∧ Below w.heap.size w w' := by
  have hh := h
  obtain ⟨_, _, _, _, _, hst⟩ := hh
  refine (without_any C v T o w h hs.1 hs.2.1 hs.2.2.1 hs.2.2.2).mono fun e w' => ?_
  rintro ⟨cu, ru, rfl, h1, h2, hb⟩
  exact ⟨_, rfl, ⟨cu, ru, rfl, h1.any, h2.any, hst⟩, hb⟩
/-- A table of a list that is read, by value; the cells are read in whatever world keeps them. -/
theorem tbl_at {C : TypeId → Nat → Prop} {w : World} {v : Value} {ts : List Tbl} (h : SRow tblK C w v ts) {k : Nat} (hk : k < ts.length) :
    ∃ (b o c : Nat) (nm : ByteArray) (pb : Bool) (mn : Int) (cu ru : Option Addr × Nat × Nat), v = .slice (some ⟨b, o, none⟩) ts.length c ∧ b < w.heap.size ∧ w.cell? ⟨b, o + k * 5, none⟩ = some (.string nm) ∧ w.cell? ⟨b, o + k * 5 + 1, none⟩ = some (.bool pb) ∧ w.cell? ⟨b, o + k * 5 + 2, none⟩ = some (.int .i64 mn) ∧
      w.cell? ⟨b, o + k * 5 + 3, none⟩ = some (.slice cu.1 cu.2.1 cu.2.2) ∧ w.cell? ⟨b, o + k * 5 + 4, none⟩ = some (.slice ru.1 ru.2.1 ru.2.2) ∧ TblVal C w (.agg #[.string nm, .bool pb, .int .i64 mn, .slice cu.1 cu.2.1 cu.2.2, .slice ru.1 ru.2.1 ru.2.2]) ts[k] := by
  obtain ⟨A, c, rfl, _, _, hc⟩ := h.tbls
  obtain ⟨b, o, rfl, hcell⟩ := hc (by omega)
  obtain ⟨pu, pv, p0, p1, p2, p3, p4, pr, px, ps⟩ := hcell k hk
  obtain ⟨pA, pc, rfl, _, _⟩ := pr.slice
  obtain ⟨pB, pd, rfl, _, _⟩ := px.slice
  exact ⟨b, o, c, _, _, _, (pA, _, pc), (pB, _, pd), rfl, World.block_lt_of_cell? w _ p0, p0, p1, p2, p3, p4, _, _, rfl, pr, px, ps⟩
theorem OSeq.push {α : Type} {K : Kind α} {base : Nat} {W W' : World} {v v' : Value} {xs : List α} {us l : List Value} {x : α} {o : Obj} (h : OSeq K base W v xs) (hin : K.ty ∉ K.inner) (hx : K.is (Own base W) W l x) (hus : (W.alloc o).ownsRow base K.ty K.k v xs.length us)
    (hown : W'.ownsRow base K.ty K.k v' (xs.length + 1) (us ++ l)) (hg : (W.alloc o).grownBy W' v.ownBlock) : OSeq K base W' v' (xs ++ [x]) :=
  (h.later (below_alloc W o)).app2 hin (K.keep hx fun E b _ _ hO => own_below (below_alloc W o) hO) hus hown hg
theorem cell_lt {w : World} {b o : Nat} {v : Value} (h : w.cell? ⟨b, o, none⟩ = some v) : b < w.heap.size := by
  rcases Nat.lt_or_ge b w.heap.size with h1 | h1
  · exact h1
  · simp [World.cell?, Array.getElem?_eq_none_iff.2 h1] at h
/-- A table of a list that is read, by value; the cells are read in whatever world keeps them. -/
theorem tbl_at2 {C : TypeId → Nat → Prop} {w : World} {v : Value} {ts : List Tbl} (h : SRow tblK C w v ts) {k : Nat} (hk : k < ts.length) :
    ∃ (b o c : Nat) (nm : ByteArray) (pb : Bool) (mn : Int) (cu ru : Option Addr × Nat × Nat), v = .slice (some ⟨b, o, none⟩) ts.length c ∧ b < w.heap.size ∧ w.cell? ⟨b, o + k * 5, none⟩ = some (.string nm) ∧ w.cell? ⟨b, o + k * 5 + 1, none⟩ = some (.bool pb) ∧ w.cell? ⟨b, o + k * 5 + 2, none⟩ = some (.int .i64 mn) ∧
      w.cell? ⟨b, o + k * 5 + 3, none⟩ = some (.slice cu.1 cu.2.1 cu.2.2) ∧ w.cell? ⟨b, o + k * 5 + 4, none⟩ = some (.slice ru.1 ru.2.1 ru.2.2) ∧ TblVal C w (.agg #[.string nm, .bool pb, .int .i64 mn, .slice cu.1 cu.2.1 cu.2.2, .slice ru.1 ru.2.1 ru.2.2]) ts[k] := by
  obtain ⟨A, c, rfl, _, _, hc⟩ := h.tbls
  obtain ⟨b, o, rfl, hcell⟩ := hc (by omega)
  obtain ⟨pu, pv, p0, p1, p2, p3, p4, pr, px, ps⟩ := hcell k hk
  obtain ⟨pA, pc, rfl, _, _⟩ := pr.slice
  obtain ⟨pB, pd, rfl, _, _⟩ := px.slice
  exact ⟨b, o, c, _, _, _, (pA, _, pc), (pB, _, pd), rfl, World.block_lt_of_cell? w _ p0, p0, p1, p2, p3, p4, _, _, rfl, pr, px, ps⟩
theorem withoutT_small {T : Tbl} (h : Small T) (a : Int) : Small (withoutT T a) ∧ (withoutT T a).rows.length ≤ T.rows.length := by
  have hk : (keptR T a).length ≤ T.rows.length := List.length_filter_le _ _
  refine ⟨⟨h.1, h.2.1, ?_, fun r hr => h.2.2.2 r ((List.mem_filter.1 hr).1)⟩, hk⟩
  show (keptR T a).length ≤ _
  have := h.2.2.1
  omega
theorem withoutB_len (ts : List Tbl) (a : Int) : (withoutB ts a).length = ts.length := by simp [withoutB]
theorem withoutB_small {ts : List Tbl} (h : SmallB ts) (a : Int) : SmallB (withoutB ts a) := by
  refine ⟨by rw [withoutB_len]; exact h.1, fun U hU => ?_⟩
  obtain ⟨T, hT, rfl⟩ := List.mem_map.1 hU
  have h1 := h.2 T hT
  have h2 := withoutT_small h1.1 a
  exact ⟨h2.1, by have := h1.2; omega⟩
end Go.Proofs.YtlocafmglficnaaGreatDoor
