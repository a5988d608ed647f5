/- A list that grows in a field of a struct of the call's own. -/
import Derived.Test.YtlocafmglficnaaGreatDoorTabNeigh
namespace Go.Proofs.YtlocafmglficnaaGreatDoor
open Go.RowKit Go.Maps Go.Sort Go.Shelf

theorem OSeq.of_src {α : Type} {K : Kind α} (hK : K.inner = []) {C : TypeId → Nat → Prop} {w w' : World} {base : Nat} {v' : Value} {xs : List α} {ls : List (List Value)} (hll : ls.length = xs.length)
    (hls : ∀ (j : Nat) (x : α), xs[j]? = some x → ∃ l, ls[j]? = some l ∧ K.is C w l x) (ho : w'.ownsRow base K.ty K.k v' xs.length ls.flatten) : OSeq K base w' v' xs :=
  ⟨ls, ho, hll, fun j x hj => by
    obtain ⟨l, e, hi⟩ := hls j x hj
    exact ⟨l, e, K.keep hi fun E b hE => by rw [hK] at hE; cases hE⟩⟩
/-- The struct in block b, of type tb, holds mk v, v a list of the call's own. -/
structure BoxI {α : Type} (K : Kind α) (W0 : World) (b : Nat) (tb : TypeId) (mk : Value → Array Value) (xs : List α) (wr : World) : Prop where
  bx : ∃ v, wr.heap[b]? = some (.cells (mk v) tb (0, 0)) ∧ OSeq K W0.heap.size wr v xs
  g : W0.grownBy wr (some b)
theorem BoxI.nil {α : Type} {K : Kind α} {W0 : World} {b : Nat} {tb : TypeId} {mk : Value → Array Value} (h : W0.heap[b]? = some (.cells (mk (.slice none 0 0)) tb (0, 0))) : BoxI K W0 b tb mk [] W0 :=
  ⟨⟨_, h, OSeq.nil _ _ _⟩, rfl, rfl, rfl, Nat.le_refl _, fun _ _ _ => rfl⟩
theorem BoxI.below {α : Type} {K : Kind α} {W0 wr : World} {b n : Nat} {tb : TypeId} {mk : Value → Array Value} {xs : List α} {w : World} (h : BoxI K W0 b tb mk xs wr) (hb : Below n w W0) (hn : n ≤ W0.heap.size) (hb0 : n ≤ b) : Below n w wr :=
  hb.grown h.g hn fun k e => by simp only [Option.some.injEq] at e; omega
theorem BoxI.step {α : Type} {K : Kind α} {W0 wr Wp w1 : World} {b f : Nat} {tb : TypeId} {mk : Value → Array Value} {xs : List α} {x : α} {v v' : Value} {us l : List Value} {o : Obj} (h : BoxI K W0 b tb mk xs wr)
    (hin : K.ty ∉ K.inner) (htb : tb ∉ K.ty :: K.inner) (hm1 : ∀ v v', (mk v).setIfInBounds f v' = mk v') (hm2 : (mk v)[f]? = some v) (hbl : b < W0.heap.size)
    (hbx : wr.heap[b]? = some (.cells (mk v) tb (0, 0))) (hv : OSeq K W0.heap.size wr v xs) (hp : Below wr.heap.size wr Wp) (hx : K.is (Own W0.heap.size Wp) Wp l x) (hus : (Wp.alloc o).ownsRow W0.heap.size K.ty K.k v xs.length us)
    (hown : w1.ownsRow W0.heap.size K.ty K.k v' (xs.length + 1) (us ++ l)) (hg : (Wp.alloc o).grownBy w1 v.ownBlock) :
    BoxI K W0 b tb mk (xs ++ [x]) (w1.setCell ⟨b, f, none⟩ v') ∧ w1.cell? ⟨b, f, none⟩ = some v ∧ w1.frozen? ⟨b, f, none⟩ = false := by
  have hsz := h.g.size
  have hpz := hp.size
  have hgz := hg.size
  simp at hgz
  have hba : Below Wp.heap.size Wp (Wp.alloc o) := (Below.refl _ _).alloc (Nat.le_refl _) _
  have hva : OSeq K W0.heap.size (Wp.alloc o) v xs := (hv.later hp).later hba
  have hxa : K.is (Own W0.heap.size (Wp.alloc o)) (Wp.alloc o) l x := K.keep hx fun E b hE _ hO => own_keep (grown_of_below hba none) (fun r hr => by cases hr) hO
  have hnew : OSeq K W0.heap.size w1 v' (xs ++ [x]) := hva.app2 hin hxa hus hown hg
  have hb1p : (Wp.alloc o).heap[b]? = some (.cells (mk v) tb (0, 0)) := (heap_alloc_old _ _ (by omega)).trans ((hp.block b (by omega)).trans hbx)
  have hne : some b ≠ v.ownBlock := fun e => by
    obtain ⟨cur, hc⟩ := owned_block hus e.symm
    rw [hb1p] at hc
    simp only [Option.some.injEq, Obj.cells.injEq] at hc
    exact htb (by rw [hc.2.1]; simp)
  have hb1 : w1.heap[b]? = some (.cells (mk v) tb (0, 0)) := (hg.block b (by simp; omega) hne).trans hb1p
  have hfl : f < (mk v).size := (Array.getElem?_eq_some_iff.1 hm2).1
  refine ⟨⟨⟨v', ?_, ?_⟩, ?_⟩, by simp only [World.cell?, hb1]; simpa using hm2, by simp [World.frozen?, hb1]⟩
  · rw [heap_setCell_same _ _ _ _ _ _ hb1, hm1]
  · refine hnew.other (r := b) (grown_set _ _ _ _) fun E hE cu' e => ?_
    rw [hb1] at e
    simp only [Option.some.injEq, Obj.cells.injEq] at e
    exact htb (e.2.1 ▸ hE)
  · refine ⟨(by show w1.os = _; rw [hg.os]; exact hp.os.trans h.g.os), (by show w1.tape = _; rw [hg.tape]; exact hp.tape.trans h.g.tape), (by show w1.output = _; rw [hg.output]; exact hp.output.trans h.g.output), by simp [World.setCell]; omega, fun k hk hne' => ?_⟩
    have hkb : k ≠ b := fun e => hne' (by rw [e])
    rw [Below.heap_setCell _ _ _ _ (by exact hkb)]
    refine (hg.block k (by simp; omega) fun e => ?_).trans ((heap_alloc_old _ _ (by omega)).trans ((hp.block k (by omega)).trans (h.g.block k hk hne')))
    have := (hus.lt k e.symm).1
    omega
end Go.Proofs.YtlocafmglficnaaGreatDoor
