/- The law CacheKnown returns true. -/
import Derived.Test.YtneclonahddipaaAwake
import Derived.Test.YtneclonahddipaaSame
import Derived.Test.YtneclonahddipaaGrantedList
namespace Go.Proofs.Ytneclonahddipaa
open Go.RowKit Go.Maps Go.Sort Go.Shelf

abbrev sann : ByteArray := ⟨#[97, 110, 110]⟩
abbrev sbob : ByteArray := ⟨#[98, 111, 98]⟩
abbrev sr : ByteArray := ⟨#[114]⟩
abbrev sa : ByteArray := ⟨#[97]⟩
abbrev s0 : ByteArray := ⟨#[]⟩

/-- The law's own cache, and that nothing older has turned. -/
structure Kc (w wi : World) (n : Nat) (A G : DataW Unit) : Prop where
  c : IsCache wi (w.heap.size + 1 + 1) w.heap.size (w.heap.size + 1) n A G
  b : Below w.heap.size w wi
theorem Kc.keep {w wi w' : World} {n : Nat} {A G : DataW Unit} (h : Kc w wi n A G) (hb : Below wi.heap.size wi w') : Kc w w' n A G :=
  ⟨h.c.kept (grown_none hb none) (by simp) (by simp) (by simp), h.b.trans (hb.mono h.b.size)⟩
theorem Kc.draw {w wi : World} {n : Nat} {A G : DataW Unit} (h : Kc w wi n A G) (m : Nat) : Kc w (wi.drewN m) n A G :=
  h.keep ⟨rfl, rfl, rfl, Nat.le_refl _, fun _ _ => rfl⟩
theorem Kc.put {w wi w' : World} {n n' : Nat} {A A' G : DataW Unit} (h : Kc w wi n A G) (hc : IsCache w' (w.heap.size + 1 + 1) w.heap.size (w.heap.size + 1) n' A' G) (hg : wi.grownBy w' (some w.heap.size)) : Kc w w' n' A' G :=
  ⟨hc, h.b.grown hg h.b.size (fun k e => by cases e; exact Nat.le_refl _)⟩
theorem Kc.grant {w wi w' : World} {n n' : Nat} {A G G' : DataW Unit} (h : Kc w wi n A G) (hc : IsCache w' (w.heap.size + 1 + 1) w.heap.size (w.heap.size + 1) n' A G') (hg : wi.grownBy w' (some (w.heap.size + 1))) : Kc w w' n' A G' :=
  ⟨hc, h.b.grown hg h.b.size (fun k e => by cases e; omega)⟩
theorem Kc.alloc {w wi : World} {n : Nat} {A G : DataW Unit} (h : Kc w wi n A G) (o : Obj) : Kc w (wi.alloc o) n A G := h.keep ((Below.refl _ _).alloc (Nat.le_refl _) o)

abbrev D0 : DataW Unit := .map []
abbrev A1 : DataW Unit := D0.put (aKey sq) (.lit (.string s5.data.toList))
abbrev A2 : DataW Unit := A1.put (aKey sq) (.lit (.string s5.data.toList))
abbrev A3 : DataW Unit := A2.put (aKey sa) (.lit (.string s0.data.toList))
abbrev G1 : DataW Unit := D0.put (gKey sann sq) (.agg [])
abbrev G2 : DataW Unit := G1.put (gKey sann sq) (.agg [])
theorem isA1 : IsMap A1 := isMap0.put _ _
theorem isA2 : IsMap A2 := isA1.put _ _
theorem isG1 : IsMap G1 := isMap0.put _ _
theorem hasA1 : Maps.has A1 (aKey sq) = true := has_put_same isMap0 (aKey_isKey _) _
theorem atA1 : A1.atKey (aKey sq) (.lit (.string [])) = .lit (.string s5.data.toList) := atKey_put_same isMap0 (aKey_isKey _) _ _
theorem hasA2 : Maps.has A2 (aKey sq) = true := has_put_same isA1 (aKey_isKey _) _
theorem hasA2r : Maps.has A2 (aKey sr) = false := by
  rw [has_put_other (by simp [aKey]), has_put_other (by simp [aKey])]; rfl
theorem hasA2a : Maps.has A2 (aKey sa) = false := by
  rw [has_put_other (by simp [aKey]), has_put_other (by simp [aKey])]; rfl
theorem hasG1 : Maps.has G1 (gKey sann sq) = true := has_put_same isMap0 (gKey_isKey _ _) _
theorem hasG2 : Maps.has G2 (gKey sann sq) = true := has_put_same isG1 (gKey_isKey _ _) _
theorem hasG2_not {a k : ByteArray} (ha : a.size ≤ maxLen) (hk : k.size ≤ maxLen) (h : a ≠ sann ∨ k ≠ sq) : Maps.has G2 (gKey a k) = false := by
  have hne : gKey a k ≠ gKey sann sq := fun e => by
    obtain ⟨e1, e2⟩ := gKey_inj ha hk (by decide) (by decide) e
    rcases h with h | h
    · exact h e1
    · exact h e2
  rw [has_put_other hne, has_put_other hne]; rfl
theorem strKeysA3 : strKeys A3 = [[97], [113]] := by
  simp [A3, A2, A1, D0, DataW.put, aKey, strKeys, strOf, DataW.insert, Lit.before, Lit.sameKey, bytesBefore]

theorem nodup_only {α : Type} {l : List α} {x : α} (hn : l.Nodup) (h : ∀ y, y ∈ l ↔ y = x) : l = [x] := by
  match l, hn with
  | [], _ => have := (h x).2 rfl; cases this
  | [y], _ => rw [(h y).1 (by simp)]
  | y :: z :: r, hn =>
    have h1 := (h y).1 (by simp)
    have h2 := (h z).1 (by simp)
    subst h1 h2
    simp at hn
theorem grantedAnn {ss : List ByteArray} (h : GAll sann G2 ss) : ss = [sq] := by
  refine nodup_only h.1 fun y => ⟨fun hy => ?_, fun e => ?_⟩
  · have hs := h.2.1 y hy
    have := (h.2.2 y hs).1 hy
    by_cases hq : y = sq
    · exact hq
    · rw [hasG2_not (by decide) hs (.inr hq)] at this; cases this
  · subst e
    exact (h.2.2 sq (by decide)).2 hasG2
theorem grantedBob {ss : List ByteArray} (h : GAll sbob G2 ss) : ss = [] := by
  refine List.eq_nil_iff_forall_not_mem.2 fun y hy => ?_
  have hs := h.2.1 y hy
  have := (h.2.2 y hs).1 hy
  rw [hasG2_not (by decide) hs (.inl (by decide))] at this; cases this
theorem keysSorted {ss : List (List UInt8)} (h : ss.Perm (strKeys A3)) : ss.mergeSort leB = [[97], [113]] := by
  rw [mergeSort_of_perm h, strKeysA3]
  exact List.mergeSort_of_pairwise (by decide)
end Go.Proofs.Ytneclonahddipaa
