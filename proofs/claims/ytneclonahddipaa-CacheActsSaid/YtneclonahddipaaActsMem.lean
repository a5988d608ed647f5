/- The cache and the reference's cache, side by side in memory. -/
import Derived.Test.YtneclonahddipaaActsRelB
import Derived.Test.YtneclonahddipaaCopy
namespace Go.Proofs.Ytneclonahddipaa
open Go.RowKit Go.Maps Go.Sort Go.Shelf

/-- Both caches, behind the world w of the law's call: what each holds, and that they hold the like. -/
structure Both (w wi : World) (b ma mg n p : Nat) (A G : DataW Unit) (E : Value) (es : List Ent) : Prop where
  c : IsCache wi b ma mg n A G
  bx : CacheBox wi b ma mg
  r : IsRef w.heap.size wi p E es
  rel : RelE A G es
  below : Below w.heap.size w wi
  hb : w.heap.size ≤ b
  ha : w.heap.size ≤ ma
  hg : w.heap.size ≤ mg
  hp : w.heap.size ≤ p
  le : es.length ≤ n
  names : ∀ e ∈ es, e.names.length ≤ n

theorem Both.later {w wi w' : World} {b ma mg n p : Nat} {A G : DataW Unit} {E : Value} {es : List Ent} (h : Both w wi b ma mg n p A G E es) (hB : Below wi.heap.size wi w') : Both w w' b ma mg n p A G E es := by
  have hg0 : wi.grownBy w' none := grown_none hB none
  refine ⟨h.c.kept hg0 (by simp) (by simp) (by simp), (hB.block b (Array.getElem?_eq_some_iff.1 h.bx).1).trans h.bx, h.r.later hB, h.rel, h.below.trans (hB.mono h.below.size), h.hb, h.ha, h.hg, h.hp, h.le, h.names⟩

theorem map_no_cells {w : World} {k : TypeId} {R : Value → Option (DataW Unit × List MemPlace)} {b n : Nat} {D : DataW Unit} (h : w.ownsMap Try.prog k R b n D) : ∀ cur t f, w.heap[b]? ≠ some (.cells cur t f) := by
  obtain ⟨es, clock, hb, _⟩ := h
  intro cur t f e
  rw [hb] at e; cases e

/-- A turn of one of the cache's maps. -/
theorem Both.turn {w wi w' : World} {b ma mg n n' p : Nat} {A G A' G' : DataW Unit} {E : Value} {es : List Ent} {m : Nat} (h : Both w wi b ma mg n p A G E es) (hm : m = ma ∨ m = mg) (hgr : wi.grownBy w' (some m)) (hc : IsCache w' b ma mg n' A' G') (hn : n ≤ n') :
    CacheBox w' b ma mg ∧ IsRef w.heap.size w' p E es ∧ Below w.heap.size w w' := by
  have hnc : ∀ cur t f, wi.heap[m]? ≠ some (.cells cur t f) := by
    rcases hm with rfl | rfl
    · exact map_no_cells h.c.am
    · exact map_no_cells h.c.gm
  have hge : w.heap.size ≤ m := by rcases hm with rfl | rfl; exact h.ha; exact h.hg
  refine ⟨(hgr.block b (Array.getElem?_eq_some_iff.1 h.bx).1 (fun e => ?_)).trans h.bx, h.r.kept hgr fun r hr => ?_, ?_⟩
  · simp only [Option.some.injEq] at e
    subst e
    exact hnc _ _ _ h.bx
  · simp only [Option.some.injEq] at hr
    subst hr
    exact ⟨fun e => by subst e; exact hnc _ _ _ h.r.box, fun cur t hc => absurd hc (hnc _ _ _)⟩
  · refine ⟨hgr.os.trans h.below.os, hgr.tape.trans h.below.tape, hgr.output.trans h.below.output, Nat.le_trans h.below.size hgr.size, fun k hk => ?_⟩
    exact (hgr.block k (by have := h.below.size; omega) (fun e => by simp only [Option.some.injEq] at e; omega)).trans (h.below.block k hk)

/-- A turn of the reference. -/
theorem RefTurn.both {w wi w' : World} {b ma mg n p : Nat} {A G : DataW Unit} {E : Value} {es : List Ent} (hc : IsCache wi b ma mg n A G) (hbx : CacheBox wi b ma mg) (hr : IsRef w.heap.size wi p E es) (hB : Below w.heap.size w wi) (ht : RefTurn w.heap.size p wi w') :
    IsCache w' b ma mg n A G ∧ CacheBox w' b ma mg ∧ Below w.heap.size w w' := by
  have hbl := (Array.getElem?_eq_some_iff.1 hbx).1
  have hbp : b ≠ p := fun e => by
    have h1 := hbx
    unfold CacheBox at h1
    rw [e, show wi.heap[p]? = _ from hr.box] at h1
    cases h1
  have kb := ht.block b hbl hbp fun cur t hcc => by
    rw [show wi.heap[b]? = _ from hbx] at hcc
    cases hcc
    exact ⟨by decide, by decide⟩
  have keepM : ∀ m, m < wi.heap.size → (∀ cur t f, wi.heap[m]? ≠ some (.cells cur t f)) → w'.heap[m]? = wi.heap[m]? := fun m hm hn =>
    ht.block m hm (fun e => by subst e; exact hn _ _ _ hr.box) fun cur t hcc => absurd hcc (hn _ _ _)
  have ka := keepM ma hc.am.lt (map_no_cells hc.am)
  have kg := keepM mg hc.gm.lt (map_no_cells hc.gm)
  have kc : CacheBox w' b ma mg := kb.trans hbx
  refine ⟨⟨?_, ?_, ?_, ?_, hc.ne⟩, kc, ?_⟩
  · rw [cell_of_row _ _ _ _ _ _ kc]; rfl
  · rw [cell_of_row _ _ _ _ _ _ kc]; rfl
  · obtain ⟨es1, clock, hb, hO⟩ := ownsMap_block hc.am
    exact hO _ _ (ka.trans hb)
  · obtain ⟨es1, clock, hb, hO⟩ := ownsMap_block hc.gm
    exact hO _ _ (kg.trans hb)
  · exact hB.trans ht.below
end Go.Proofs.Ytneclonahddipaa
