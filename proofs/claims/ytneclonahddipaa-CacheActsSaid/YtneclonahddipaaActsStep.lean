/- One act at both caches. -/
import Derived.Test.YtneclonahddipaaActsMem
namespace Go.Proofs.Ytneclonahddipaa
open Go.RowKit Go.Maps Go.Sort Go.Shelf

/-- What Put answers. -/
def putAns (es : List Ent) (k t : ByteArray) : Int := if isOf es k then putErr es k t else 0
def putEs (es : List Ent) (k t : ByteArray) : List Ent := if isOf es k then es else insE es k t

theorem insE_length (es : List Ent) (k t : ByteArray) : (insE es k t).length = es.length + 1 := by
  unfold insE
  have h : insAt es k ≤ es.length := by unfold insAt; exact (List.takeWhile_sublist _).length_le
  simp; omega
theorem insE_names {es : List Ent} {k t : ByteArray} {n : Nat} (h : ∀ e ∈ es, e.names.length ≤ n) : ∀ e ∈ insE es k t, e.names.length ≤ n := by
  intro e he
  unfold insE at he
  rcases List.mem_append.1 he with h1 | h1
  · exact h e (List.mem_of_mem_take h1)
  · rcases List.mem_cons.1 h1 with rfl | h1
    · simp
    · exact h e (List.mem_of_mem_drop h1)
theorem isOf_findI {es : List Ent} {k : ByteArray} (h : isOf es k = false) : findI es k = -1 := by
  rcases findI_cases es k with ⟨h1, _⟩ | ⟨i, _, _, h2, _⟩
  · exact h1
  · unfold isOf at h; rw [h2] at h; cases h

/-- The law's own copies of acts stay. -/
def Keep39 (w w' : World) : Prop := ∀ (j : Nat) (cur : Array Value), w.heap[j]? = some (.cells cur 39 (0, 0)) → w'.heap[j]? = some (.cells cur 39 (0, 0))
theorem Keep39.refl (w : World) : Keep39 w w := fun _ _ h => h
theorem Keep39.trans {a b c : World} (h : Keep39 a b) (k : Keep39 b c) : Keep39 a c := fun j cur e => k j cur (h j cur e)
theorem Keep39.later {w w' : World} (h : Below w.heap.size w w') : Keep39 w w' := fun j _ e => (h.block j (Array.getElem?_eq_some_iff.1 e).1).trans e
theorem Keep39.map {w w' : World} {k : TypeId} {R : Value → Option (DataW Unit × List MemPlace)} {m n : Nat} {D : DataW Unit} (hm : w.ownsMap Try.prog k R m n D) (h : w.grownBy w' (some m)) : Keep39 w w' := fun j cur e =>
  (h.block j (Array.getElem?_eq_some_iff.1 e).1 fun e' => by simp only [Option.some.injEq] at e'; subst e'; exact map_no_cells hm _ _ _ e).trans e
theorem Keep39.ref {base p : Nat} {w w' : World} {E : Value} (hb : Boxed w p 63 E) (h : RefTurn base p w w') : Keep39 w w' := fun j cur e =>
  (h.block j (Array.getElem?_eq_some_iff.1 e).1 (fun e' => by subst e'; rw [show w.heap[j]? = _ from hb] at e; cases e) fun cur2 t hc => by rw [e] at hc; cases hc; exact ⟨by decide, by decide⟩).trans e

/-- The cache's Put: the answer, and what holds before the reference's. -/
theorem put_both {w wi : World} {b ma mg n p : Nat} {A G : DataW Unit} {E : Value} {es : List Ent} (h : Both w wi b ma mg n p A G E es) (k t : ByteArray) (hk : k.size ≤ maxLen) (ht : t.size ≤ maxLen) (hn : n < 1000000) :
    Calls Try.prog 10 #[.pointer (some ⟨b, 0, none⟩), .string k, .string t] wi fun e w' => e = .returned (.int .i64 (putAns es k t)) ∧ ∃ A', IsCache w' b ma mg (n + 1) A' G ∧ CacheBox w' b ma mg ∧ IsRef w.heap.size w' p E es ∧ Below w.heap.size w w' ∧ RelE A' G (putEs es k t) ∧ Keep39 wi w' := by
  have hA := h.c.am.isMap
  by_cases hx : isOf es k = true
  · have hh : Maps.has A (aKey k) = true := by rw [h.rel.has, hx]
    have htx := h.rel.text k hx
    by_cases he : textOf es k = t
    · have hans : putAns es k t = 0 := by unfold putAns putErr; rw [if_pos hx, if_pos he]
      have hes : putEs es k t = es := by unfold putEs; rw [if_pos hx]
      rw [hans, hes]
      refine (put_same b ma mg n A G k t wi h.c hk ht hn hh (by rw [htx, he])).mono ?_
      rintro e w' ⟨rfl, hc, hg⟩
      obtain ⟨t1, t2, t3⟩ := h.turn (.inl rfl) hg hc (Nat.le_succ n)
      exact ⟨rfl, _, hc, t1, t2, t3, h.rel.put_same hA hx he, Keep39.map h.c.am hg⟩
    · have hans : putAns es k t = 8 := by unfold putAns putErr; rw [if_pos hx, if_neg he]
      have hes : putEs es k t = es := by unfold putEs; rw [if_pos hx]
      rw [hans, hes]
      refine (put_other b ma mg n A G k t _ wi h.c hk hh htx he).mono ?_
      rintro e w' ⟨rfl, rfl⟩
      exact ⟨rfl, A, ⟨h.c.c0, h.c.c1, h.c.am.mono (Nat.le_succ n), h.c.gm.mono (Nat.le_succ n), h.c.ne⟩, h.bx, h.r, h.below, h.rel, Keep39.refl _⟩
  · have hx' : isOf es k = false := by simpa using hx
    have hans : putAns es k t = 0 := by unfold putAns; rw [if_neg hx]
    have hes : putEs es k t = insE es k t := by unfold putEs; rw [if_neg hx]
    rw [hans, hes]
    refine (put_new b ma mg n A G k t wi h.c hk ht hn (by rw [h.rel.has, hx'])).mono ?_
    rintro e w' ⟨rfl, hc, hg⟩
    obtain ⟨t1, t2, t3⟩ := h.turn (.inl rfl) hg hc (Nat.le_succ n)
    exact ⟨rfl, _, hc, t1, t2, t3, h.rel.put_new hA hk hx', Keep39.map h.c.am hg⟩

/-- The reference's Put behind it. -/
theorem putRef_both {w wi : World} {b ma mg n p : Nat} {A G : DataW Unit} {E : Value} {es : List Ent} (k t : ByteArray) (hk : k.size ≤ maxLen) (ht : t.size ≤ maxLen) (hn : n < 1000000)
    (hc : IsCache wi b ma mg (n + 1) A G) (hbx : CacheBox wi b ma mg) (hr : IsRef w.heap.size wi p E es) (hB : Below w.heap.size w wi) (hrel : RelE A G (putEs es k t)) (hs : w.heap.size ≤ b ∧ w.heap.size ≤ ma ∧ w.heap.size ≤ mg ∧ w.heap.size ≤ p)
    (hle : es.length ≤ n) (hnm : ∀ e ∈ es, e.names.length ≤ n) :
    Calls Try.prog 20 #[.pointer (some ⟨p, 0, none⟩), .string k, .string t] wi fun e w' => e = .returned (.int .i64 (putAns es k t)) ∧ ∃ E', Both w w' b ma mg (n + 1) p A G E' (putEs es k t) ∧ Keep39 wi w' := by
  by_cases hx : isOf es k = true
  · have hans : putAns es k t = putErr es k t := by unfold putAns; rw [if_pos hx]
    have hes : putEs es k t = es := by unfold putEs; rw [if_pos hx]
    rw [hes] at hrel
    rw [hans, hes]
    refine (putRef_old _ _ _ es k t wi hr (by omega) hx).mono ?_
    rintro e w' ⟨rfl, rfl⟩
    exact ⟨rfl, E, ⟨hc, hbx, hr, hrel, hB, hs.1, hs.2.1, hs.2.2.1, hs.2.2.2, by omega, fun e he => by have := hnm e he; omega⟩, Keep39.refl _⟩
  · have hx' : isOf es k = false := by simpa using hx
    have hans : putAns es k t = 0 := by unfold putAns; rw [if_neg hx]
    have hes : putEs es k t = insE es k t := by unfold putEs; rw [if_neg hx]
    rw [hes] at hrel
    rw [hans, hes]
    refine (putRef_new _ _ _ es k t wi hr (by omega) hk ht hs.2.2.2 (isOf_findI hx')).mono ?_
    rintro e w' ⟨rfl, E', hr', htn⟩
    obtain ⟨c1, c2, c3⟩ := RefTurn.both hc hbx hr hB htn
    exact ⟨rfl, E', ⟨c1, c2, hr', hrel, c3, hs.1, hs.2.1, hs.2.2.1, hs.2.2.2, by rw [insE_length]; omega, fun e he => by have := insE_names hnm e he; omega⟩, Keep39.ref hr.box htn⟩

/-! ### Grant -/
def grantNew (es : List Ent) (a k : ByteArray) : Bool := isOf es k && !hasOf es a k
theorem ent_at {es : List Ent} {k : ByteArray} (h : isOf es k = true) : ∃ (i : Nat) (e : Ent), es[i]? = some e ∧ findI es k = (i : Int) ∧ entOf es k = some e ∧ e.key = k ∧ i < es.length := by
  rcases findI_cases es k with ⟨_, h2, _⟩ | ⟨i, hi, h1, h2, h3⟩
  · unfold isOf at h; rw [h2] at h; cases h
  · exact ⟨i, es[i]?.getD default, by simp [hi], h1, h2, h3, hi⟩

/-- The cache's Grant: the answer, and what holds before the reference's. -/
theorem grant_both {w wi : World} {b ma mg n p : Nat} {A G : DataW Unit} {E : Value} {es : List Ent} (h : Both w wi b ma mg n p A G E es) (a k : ByteArray) (ha : a.size ≤ maxLen) (hk : k.size ≤ maxLen) (hn : n < 1000000) :
    Calls Try.prog 11 #[.pointer (some ⟨b, 0, none⟩), .string a, .string k] wi fun e w' => e = .returned (.tuple #[.bool (grantNew es a k), .int .i64 (errOf es k)]) ∧ ∃ G', IsCache w' b ma mg (n + 1) A G' ∧ CacheBox w' b ma mg ∧ IsRef w.heap.size w' p E es ∧ Below w.heap.size w w' ∧
      (G' = (if isOf es k then G.put (gKey a k) (.agg []) else G)) ∧ Keep39 wi w' := by
  by_cases hx : isOf es k = true
  · have hans : grantNew es a k = !Maps.has G (gKey a k) := by unfold grantNew; rw [hx, h.rel.gr a k ha hk]; rfl
    have herr : errOf es k = 0 := by unfold errOf; rw [if_pos hx]
    rw [hans, herr, if_pos hx]
    refine (grant_old b ma mg n A G a k wi h.c ha hk hn (by rw [h.rel.has, hx])).mono ?_
    rintro e w' ⟨rfl, hc, hg⟩
    obtain ⟨t1, t2, t3⟩ := h.turn (.inr rfl) hg hc (Nat.le_succ n)
    exact ⟨rfl, _, hc, t1, t2, t3, rfl, Keep39.map h.c.gm hg⟩
  · have hx' : isOf es k = false := by simpa using hx
    have hans : grantNew es a k = false := by unfold grantNew; rw [hx']; rfl
    have herr : errOf es k = 7 := by unfold errOf; rw [if_neg hx]
    rw [hans, herr, if_neg hx]
    refine (grant_none b ma mg n A G a k wi h.c hk (by rw [h.rel.has, hx'])).mono ?_
    rintro e w' ⟨rfl, rfl⟩
    exact ⟨rfl, G, ⟨h.c.c0, h.c.c1, h.c.am.mono (Nat.le_succ n), h.c.gm.mono (Nat.le_succ n), h.c.ne⟩, h.bx, h.r, h.below, rfl, Keep39.refl _⟩

/-- The reference's Grant behind it. -/
theorem grantRef_both {w wi : World} {b ma mg n p : Nat} {A G : DataW Unit} {E : Value} {es : List Ent} (a k : ByteArray) (ha : a.size ≤ maxLen) (hk : k.size ≤ maxLen) (hn : n < 1000000) (hm : IsMap G) (hrel : RelE A G es)
    (hc : IsCache wi b ma mg (n + 1) A (if isOf es k then G.put (gKey a k) (.agg []) else G)) (hbx : CacheBox wi b ma mg) (hr : IsRef w.heap.size wi p E es) (hB : Below w.heap.size w wi) (hs : w.heap.size ≤ b ∧ w.heap.size ≤ ma ∧ w.heap.size ≤ mg ∧ w.heap.size ≤ p)
    (hle : es.length ≤ n) (hnm : ∀ e ∈ es, e.names.length ≤ n) :
    Calls Try.prog 21 #[.pointer (some ⟨p, 0, none⟩), .string a, .string k] wi fun e w' => e = .returned (.tuple #[.bool (grantNew es a k), .int .i64 (errOf es k)]) ∧ ∃ es', Both w w' b ma mg (n + 1) p A (if isOf es k then G.put (gKey a k) (.agg []) else G) E es' ∧ Keep39 wi w' := by
  by_cases hx : isOf es k = true
  · by_cases hh : hasOf es a k = true
    · have hans : grantNew es a k = false := by unfold grantNew; rw [hx, hh]; rfl
      rw [if_pos hx] at hc ⊢
      rw [hans]
      refine (grantRef_old _ _ _ es a k wi hr (by omega) (fun e he => by have := hnm e he; omega) (.inr hh)).mono ?_
      rintro e w' ⟨rfl, rfl⟩
      exact ⟨rfl, es, ⟨hc, hbx, hr, hrel.grant_old hm ha hk hh, hB, hs.1, hs.2.1, hs.2.2.1, hs.2.2.2, by omega, fun e he => by have := hnm e he; omega⟩, Keep39.refl _⟩
    · have hh' : hasOf es a k = false := by simpa using hh
      have hans : grantNew es a k = true := by unfold grantNew; rw [hx, hh']; rfl
      have herr : errOf es k = 0 := by unfold errOf; rw [if_pos hx]
      rw [if_pos hx] at hc ⊢
      rw [hans, herr]
      obtain ⟨i, en, hi, hf, hen, hek, hil⟩ := ent_at hx
      have hget : es[i]?.getD default = en := by rw [hi]; rfl
      refine (grantRef_new _ _ _ es a k i wi hr (by omega) ha hs.2.2.2 hil hf (by rw [hget]; have := hnm en (List.mem_of_getElem? hi); omega) (by rw [hget]; rw [hasOf_def, hen] at hh'; exact hh')).mono ?_
      rintro e w' ⟨rfl, v', hr', htn⟩
      rw [hget] at hr'
      obtain ⟨c1, c2, c3⟩ := RefTurn.both hc hbx hr hB htn
      refine ⟨rfl, _, ⟨c1, c2, hr', by rw [← hek]; exact hrel.grant hm hi ha v', c3, hs.1, hs.2.1, hs.2.2.1, hs.2.2.2, by rw [List.length_set]; omega, fun e he => ?_⟩, Keep39.ref hr.box htn⟩
      rcases List.mem_or_eq_of_mem_set he with h1 | h1
      · have := hnm e h1; omega
      · subst h1
        have := hnm en (List.mem_of_getElem? hi)
        simp; omega
  · have hx' : isOf es k = false := by simpa using hx
    have hans : grantNew es a k = false := by unfold grantNew; rw [hx']; rfl
    rw [if_neg hx] at hc ⊢
    rw [hans]
    refine (grantRef_old _ _ _ es a k wi hr (by omega) (fun e he => by have := hnm e he; omega) (.inl hx')).mono ?_
    rintro e w' ⟨rfl, rfl⟩
    exact ⟨rfl, es, ⟨hc, hbx, hr, hrel, hB, hs.1, hs.2.1, hs.2.2.1, hs.2.2.2, by omega, fun e he => by have := hnm e he; omega⟩, Keep39.refl _⟩
end Go.Proofs.Ytneclonahddipaa
