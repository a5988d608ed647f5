/- Kind 4 at both caches: copies, and what is done to the old cache. -/
import Derived.Test.YtneclonahddipaaActsStep
namespace Go.Proofs.Ytneclonahddipaa
open Go.RowKit Go.Maps Go.Sort Go.Shelf

theorem IsRef.base_le {base base' p : Nat} {w : World} {E : Value} {es : List Ent} (h : IsRef base w p E es) (hb : base' ≤ base) : IsRef base' w p E es :=
  ⟨h.box, ownsRow_base_le h.row hb, fun i e he => ownsRow_base_le (h.ns i e he) hb, h.dis, h.ok⟩
theorem like_names {es es' : List Ent} (h : Like es' es) {n : Nat} (hn : ∀ e ∈ es, e.names.length ≤ n) : ∀ e ∈ es', e.names.length ≤ n := by
  intro e he
  have h1 : (e.key, e.text, e.names) ∈ es'.map fun e => (e.key, e.text, e.names) := List.mem_map_of_mem he
  rw [show es'.map (fun e => (e.key, e.text, e.names)) = es.map (fun e => (e.key, e.text, e.names)) from h] at h1
  obtain ⟨e2, he2, e3⟩ := List.mem_map.1 h1
  have := hn e2 he2
  simp only [Prod.mk.injEq] at e3
  rw [← e3.2.2]; exact this

/-- A turn of another map than the cache's. -/
theorem Both.far {w wi w' : World} {b ma mg n p m nn : Nat} {A G D : DataW Unit} {E : Value} {es : List Ent} {k : TypeId} {R : Value → Option (DataW Unit × List MemPlace)} (h : Both w wi b ma mg n p A G E es) (hm : wi.ownsMap Try.prog k R m nn D)
    (h1 : m ≠ ma) (h2 : m ≠ mg) (hge : w.heap.size ≤ m) (hgr : wi.grownBy w' (some m)) : Both w w' b ma mg n p A G E es := by
  have hnc := map_no_cells hm
  have hbm : some b ≠ some m := fun e => by simp only [Option.some.injEq] at e; subst e; exact hnc _ _ _ h.bx
  refine ⟨h.c.kept hgr hbm (by simpa using fun e => h1 e.symm) (by simpa using fun e => h2 e.symm), (hgr.block b (Array.getElem?_eq_some_iff.1 h.bx).1 hbm).trans h.bx, h.r.kept hgr fun r hr => ?_, h.rel, ?_, h.hb, h.ha, h.hg, h.hp, h.le, h.names⟩
  · simp only [Option.some.injEq] at hr
    subst hr
    exact ⟨fun e => by subst e; exact hnc _ _ _ h.r.box, fun cur t hc => absurd hc (hnc _ _ _)⟩
  · refine ⟨hgr.os.trans h.below.os, hgr.tape.trans h.below.tape, hgr.output.trans h.below.output, Nat.le_trans h.below.size hgr.size, fun k hk => ?_⟩
    exact (hgr.block k (by have := h.below.size; omega) (fun e => by simp only [Option.some.injEq] at e; omega)).trans (h.below.block k hk)

/-- Put, whatever lies there. -/
theorem put_free {w : World} {b ma mg n : Nat} {A G : DataW Unit} (h : IsCache w b ma mg n A G) (k t : ByteArray) (hk : k.size ≤ maxLen) (ht : t.size ≤ maxLen) (hn : n < 1000000) :
    Calls Try.prog 10 #[.pointer (some ⟨b, 0, none⟩), .string k, .string t] w fun e w' => ∃ (x : Int) (A' : DataW Unit), e = .returned (.int .i64 x) ∧ IsCache w' b ma mg (n + 1) A' G ∧ w.grownBy w' (some ma) := by
  by_cases hx : Maps.has A (aKey k) = true
  · obtain ⟨told, _, hat⟩ := h.text hk
    by_cases he : told = t
    · subst he
      refine (put_same b ma mg n A G k told w h hk ht hn hx hat).mono ?_
      rintro e w' ⟨rfl, hc, hg⟩
      exact ⟨_, _, rfl, hc, hg⟩
    · refine (put_other b ma mg n A G k t told w h hk hx hat he).mono ?_
      rintro e w' ⟨rfl, rfl⟩
      exact ⟨_, A, rfl, ⟨h.c0, h.c1, h.am.mono (Nat.le_succ n), h.gm.mono (Nat.le_succ n), h.ne⟩, ⟨rfl, rfl, rfl, Nat.le_refl _, fun _ _ _ => rfl⟩⟩
  · refine (put_new b ma mg n A G k t w h hk ht hn (by simpa using hx)).mono ?_
    rintro e w' ⟨rfl, hc, hg⟩
    exact ⟨_, _, rfl, hc, hg⟩
theorem grant_free {w : World} {b ma mg n : Nat} {A G : DataW Unit} (h : IsCache w b ma mg n A G) (a k : ByteArray) (ha : a.size ≤ maxLen) (hk : k.size ≤ maxLen) (hn : n < 1000000) :
    Calls Try.prog 11 #[.pointer (some ⟨b, 0, none⟩), .string a, .string k] w fun e w' => ∃ (r : Bool) (x : Int) (G' : DataW Unit), e = .returned (.tuple #[.bool r, .int .i64 x]) ∧ IsCache w' b ma mg (n + 1) A G' ∧ w.grownBy w' (some mg) := by
  by_cases hx : Maps.has A (aKey k) = true
  · refine (grant_old b ma mg n A G a k w h ha hk hn hx).mono ?_
    rintro e w' ⟨rfl, hc, hg⟩
    exact ⟨_, _, _, rfl, hc, hg⟩
  · refine (grant_none b ma mg n A G a k w h hk (by simpa using hx)).mono ?_
    rintro e w' ⟨rfl, rfl⟩
    exact ⟨_, _, G, rfl, ⟨h.c0, h.c1, h.am.mono (Nat.le_succ n), h.gm.mono (Nat.le_succ n), h.ne⟩, ⟨rfl, rfl, rfl, Nat.le_refl _, fun _ _ _ => rfl⟩⟩

/-- The cache's Copy: the new one takes the old one's place; the old one is a cache still. -/
theorem copy_both {w wi : World} {b ma mg n p : Nat} {A G : DataW Unit} {E : Value} {es : List Ent} (h : Both w wi b ma mg n p A G E es) :
    Calls Try.prog 22 #[.pointer (some ⟨b, 0, none⟩)] wi fun e w' => ∃ nb ma' mg', e = .returned (.pointer (some ⟨nb, 0, none⟩)) ∧ Both w w' nb ma' mg' n p A G E es ∧ IsCache w' b ma mg n A G ∧ (ma ≠ ma' ∧ ma ≠ mg' ∧ mg ≠ ma' ∧ mg ≠ mg') ∧ Keep39 wi w' := by
  refine (copy_any b ma mg n A G wi h.c).mono ?_
  rintro e w' ⟨nb, ma', mg', rfl, ⟨hc, hbx⟩, ⟨h1, h2, h3⟩, hB⟩
  have hl := h.later hB
  have hs := h.below.size
  have e1 := h.c.am.lt
  have e2 := h.c.gm.lt
  exact ⟨nb, ma', mg', rfl, ⟨hc, hbx, hl.r, h.rel, hl.below, by omega, by omega, by omega, h.hp, h.le, h.names⟩, hl.c, ⟨by omega, by omega, by omega, by omega⟩, Keep39.later hB⟩

/-- The reference's Copy. -/
theorem copyRef_both {w wi : World} {b ma mg n p : Nat} {A G : DataW Unit} {E : Value} {es : List Ent} (h : Both w wi b ma mg n p A G E es) (hn : n ≤ 1000000) :
    Calls Try.prog 23 #[.pointer (some ⟨p, 0, none⟩)] wi fun e w' => ∃ p' E' es', e = .returned (.pointer (some ⟨p', 0, none⟩)) ∧ Both w w' b ma mg n p' A G E' es' ∧ Keep39 wi w' := by
  refine (copyRef_any _ p E es wi h.r (by have := h.le; omega) (fun e he => by have := h.names e he; omega)).mono ?_
  rintro e w' ⟨rfl, E', es', hr, hlike, hB⟩
  have hl := h.later hB
  exact ⟨_, E', es', rfl, ⟨hl.c, hl.bx, hr.base_le h.below.size, h.rel.like hlike, hl.below, h.hb, h.ha, h.hg, h.below.size, by rw [like_length hlike]; exact h.le, like_names hlike h.names⟩, Keep39.later hB⟩
end Go.Proofs.Ytneclonahddipaa
