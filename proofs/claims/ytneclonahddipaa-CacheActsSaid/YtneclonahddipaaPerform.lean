/- perform: what an act does to the law's own cache. -/
import Derived.Test.YtneclonahddipaaKnownWalk
namespace Go.Proofs.Ytneclonahddipaa
open Go.RowKit Go.Maps Go.Sort Go.Shelf

theorem IsCache.text {w : World} {b ma mg n : Nat} {A G : DataW Unit} (h : IsCache w b ma mg n A G) {k : ByteArray} (hk : k.size ≤ maxLen) : ∃ t : ByteArray, t.size ≤ maxLen ∧ A.atKey (aKey k) (.lit (.string [])) = .lit (.string t.data.toList) := by
  obtain ⟨v, ps, _, hv⟩ := h.am.look_ok lawS Try.underlying45 (zero9 w) (plainElem_string (H := Unit) Try.underlying9 (s := ByteArray.empty) (by decide)) (keyOf9 hk)
  obtain ⟨t, _, ht, hts⟩ := plainElem_string_inv Try.underlying9 hv
  simp only [Prod.mk.injEq] at ht
  exact ⟨t, hts, ht.1⟩

/-- What Put makes of the answers. -/
def PutTo (k t : ByteArray) (A A' : DataW Unit) (e : Int) : Prop :=
  (Maps.has A (aKey k) = true ∧ (∃ told : ByteArray, told ≠ t ∧ A.atKey (aKey k) (.lit (.string [])) = .lit (.string told.data.toList)) ∧ A' = A ∧ e = 8) ∨
  ((Maps.has A (aKey k) = false ∨ A.atKey (aKey k) (.lit (.string [])) = .lit (.string t.data.toList)) ∧ A' = A.put (aKey k) (.lit (.string t.data.toList)) ∧ e = 0)
/-- What Grant makes of the grants. -/
def GrantTo (a k : ByteArray) (A G G' : DataW Unit) (r : Bool) (e : Int) : Prop :=
  (Maps.has A (aKey k) = true ∧ G' = G.put (gKey a k) (.agg []) ∧ r = (!Maps.has G (gKey a k)) ∧ e = 0) ∨ (Maps.has A (aKey k) = false ∧ G' = G ∧ r = false ∧ e = 7)

theorem Kc.mono {w wi : World} {n n' : Nat} {A G : DataW Unit} (h : Kc w wi n A G) (hn : n ≤ n') : Kc w wi n' A G := ⟨⟨h.c.c0, h.c.c1, h.c.am.mono hn, h.c.gm.mono hn, h.c.ne⟩, h.b⟩

theorem put_kc {w wi : World} {n : Nat} {A G : DataW Unit} (h : Kc w wi n A G) (k t : ByteArray) (hk : k.size ≤ maxLen) (ht : t.size ≤ maxLen) (hn : n < 1000000) :
    Calls Try.prog 10 #[.pointer (some ⟨w.heap.size + 1 + 1, 0, none⟩), .string k, .string t] wi fun e w' => ∃ A' x, e = .returned (.int .i64 x) ∧ Kc w w' (n + 1) A' G ∧ PutTo k t A A' x := by
  obtain ⟨told, _, hat⟩ := h.c.text hk
  cases hh : Maps.has A (aKey k) with
  | false =>
    refine (put_new _ _ _ _ _ _ k t wi h.c hk ht hn hh).mono ?_
    rintro e w' ⟨rfl, hc, hg⟩
    exact ⟨_, 0, rfl, h.put hc hg, .inr ⟨.inl hh, rfl, rfl⟩⟩
  | true =>
    by_cases htt : told = t
    · subst htt
      refine (put_same _ _ _ _ _ _ k told wi h.c hk ht hn hh hat).mono ?_
      rintro e w' ⟨rfl, hc, hg⟩
      exact ⟨_, 0, rfl, h.put hc hg, .inr ⟨.inr hat, rfl, rfl⟩⟩
    · refine (put_other _ _ _ _ _ _ k t told wi h.c hk hh hat htt).mono ?_
      rintro e w' ⟨rfl, rfl⟩
      exact ⟨A, 8, rfl, h.mono (by omega), .inl ⟨hh, ⟨told, htt, hat⟩, rfl, rfl⟩⟩

theorem grant_kc {w wi : World} {n : Nat} {A G : DataW Unit} (h : Kc w wi n A G) (a k : ByteArray) (ha : a.size ≤ maxLen) (hk : k.size ≤ maxLen) (hn : n < 1000000) :
    Calls Try.prog 11 #[.pointer (some ⟨w.heap.size + 1 + 1, 0, none⟩), .string a, .string k] wi fun e w' => ∃ G' r x, e = .returned (.tuple #[.bool r, .int .i64 x]) ∧ Kc w w' (n + 1) A G' ∧ GrantTo a k A G G' r x := by
  cases hh : Maps.has A (aKey k) with
  | false =>
    refine (grant_none _ _ _ _ _ _ a k wi h.c hk hh).mono ?_
    rintro e w' ⟨rfl, rfl⟩
    exact ⟨G, false, 7, rfl, h.mono (by omega), .inr ⟨hh, rfl, rfl, rfl⟩⟩
  | true =>
    refine (grant_old _ _ _ _ _ _ a k wi h.c ha hk hn hh).mono ?_
    rintro e w' ⟨rfl, hc, hg⟩
    exact ⟨_, _, 0, rfl, h.grant hc hg, .inl ⟨hh, rfl, rfl, rfl⟩⟩

/-- What an act makes of the cache. -/
def ActTo (kd : Int) (nm k t : ByteArray) (A G A' G' : DataW Unit) : Prop :=
  ((kd = 0 ∨ kd = 1) ∧ G' = G ∧ ∃ x, PutTo k t A A' x) ∨ ((kd = 2 ∨ kd = 3) ∧ A' = A ∧ ∃ r x, GrantTo nm k A G G' r x) ∨ ((kd ≠ 0 ∧ kd ≠ 1 ∧ kd ≠ 2 ∧ kd ≠ 3) ∧ A' = A ∧ G' = G)

theorem cells4 (w : World) (c0 c1 c2 c3 : Value) (t : TypeId) : (w.alloc (.cells #[c0, c1, c2, c3] t)).cell? ⟨w.heap.size, 0, none⟩ = some c0 ∧ (w.alloc (.cells #[c0, c1, c2, c3] t)).cell? ⟨w.heap.size, 1, none⟩ = some c1 ∧
    (w.alloc (.cells #[c0, c1, c2, c3] t)).cell? ⟨w.heap.size, 2, none⟩ = some c2 ∧ (w.alloc (.cells #[c0, c1, c2, c3] t)).cell? ⟨w.heap.size, 3, none⟩ = some c3 := by
  refine ⟨?_, ?_, ?_, ?_⟩ <;> (rw [World.cell?_alloc_at _ _ _ _ rfl]; rfl)

set_option maxHeartbeats 2000000 in
theorem perform_kc {w wi : World} {n : Nat} {A G : DataW Unit} (h : Kc w wi n A G) (kd : Int) (nm k t : ByteArray) (hnm : nm.size ≤ maxLen) (hk : k.size ≤ maxLen) (ht : t.size ≤ maxLen) (hn : n < 1000000) :
    Calls Try.prog 17 #[.pointer (some ⟨w.heap.size + 1 + 1, 0, none⟩), .agg #[.int .i64 kd, .string nm, .string k, .string t]] wi fun e w' => e = .returned (.tuple #[]) ∧ ∃ A' G', Kc w w' (n + 1) A' G' ∧ ActTo kd nm k t A G A' G' := by
  have h1 := h.alloc (.cells #[.int .i64 kd, .string nm, .string k, .string t] 39)
  obtain ⟨c0, c1, c2, c3⟩ := cells4 wi (.int .i64 kd) (.string nm) (.string k) (.string t) 39
  by_cases k0 : kd = 0
  · subst k0
    go_enter Try.func17, Try.ntmps17
    go_wp2_with (go_at_call 10; refine (put_kc h1 k t hk ht hn).mono ?_; rintro e w' ⟨A', x, rfl, hk', hp⟩)
    go_end0
    exact ⟨rfl, A', G, hk', .inl ⟨.inl rfl, rfl, x, hp⟩⟩
  by_cases k1 : kd = 1
  · subst k1
    go_enter Try.func17, Try.ntmps17
    go_wp2_with (go_at_call 10; refine (put_kc h1 k t hk ht hn).mono ?_; rintro e w' ⟨A', x, rfl, hk', hp⟩)
    go_end0
    exact ⟨rfl, A', G, hk', .inl ⟨.inr rfl, rfl, x, hp⟩⟩
  by_cases k2 : kd = 2
  · subst k2
    go_enter Try.func17, Try.ntmps17
    go_wp2_with (go_at_call 11; refine (grant_kc h1 nm k hnm hk hn).mono ?_; rintro e w' ⟨G', r, x, rfl, hk', hp⟩)
    go_end0
    exact ⟨rfl, A, G', hk', .inr (.inl ⟨.inl rfl, rfl, r, x, hp⟩)⟩
  by_cases k3 : kd = 3
  · subst k3
    go_enter Try.func17, Try.ntmps17
    go_wp2_with (go_at_call 11; refine (grant_kc h1 nm k hnm hk hn).mono ?_; rintro e w' ⟨G', r, x, rfl, hk', hp⟩)
    go_end0
    exact ⟨rfl, A, G', hk', .inr (.inl ⟨.inr rfl, rfl, r, x, hp⟩)⟩
  have e0 : (kd == 0) = false := by simpa using k0
  have e1 : (kd == 1) = false := by simpa using k1
  have e2 : (kd == 2) = false := by simpa using k2
  have e3 : (kd == 3) = false := by simpa using k3
  have K := Lib.hid (And.intro k0 (And.intro k1 (And.intro k2 k3)))
  clear k0 k1 k2 k3
  go_enter Try.func17, Try.ntmps17
  go_wp2
  go_end0
  exact ⟨rfl, A, G, h1.mono (by omega), .inr (.inr ⟨K.out, rfl, rfl⟩)⟩
end Go.Proofs.Ytneclonahddipaa
