/- What is read at both caches behind an act. -/
import Derived.Test.YtneclonahddipaaActsCopy
namespace Go.Proofs.Ytneclonahddipaa
open Go.RowKit Go.Maps Go.Sort Go.Shelf

theorem get_both {w wi : World} {b ma mg n p : Nat} {A G : DataW Unit} {E : Value} {es : List Ent} (h : Both w wi b ma mg n p A G E es) (k : ByteArray) (hk : k.size ≤ maxLen) :
    Calls Try.prog 9 #[.pointer (some ⟨b, 0, none⟩), .string k] wi fun e w' => e = .returned (.tuple #[.string (textOf es k), .bool (isOf es k)]) ∧ wi = w' := by
  refine (get_any _ _ _ _ _ _ k _ h.c hk).mono ?_
  rintro e w' ⟨hw, t, ht, rfl, hat⟩
  refine ⟨?_, hw.symm⟩
  rw [h.rel.has]
  by_cases hx : isOf es k = true
  · rw [h.rel.text k hx] at hat
    rw [str_of_lit hat]
  · have hx' : isOf es k = false := by simpa using hx
    rw [Maps.atKey_of_not_has (by rw [h.rel.has, hx'])] at hat
    have e0 : t = s0 := str_of_lit (hat.symm.trans rfl)
    have e1 : textOf es k = s0 := by
      unfold textOf
      unfold isOf at hx'
      cases he : entOf es k with
      | none => rfl
      | some a => rw [he] at hx'; cases hx'
    rw [e0, e1]
theorem getRef_both {w wi : World} {b ma mg n p : Nat} {A G : DataW Unit} {E : Value} {es : List Ent} (h : Both w wi b ma mg n p A G E es) (k : ByteArray) (hn : n ≤ 1000000) :
    Calls Try.prog 24 #[.pointer (some ⟨p, 0, none⟩), .string k] wi fun e w' => e = .returned (.tuple #[.string (textOf es k), .bool (isOf es k)]) ∧ wi = w' :=
  getRef_any _ _ _ es k _ h.r (by have := h.le; omega)
theorem has_both {w wi : World} {b ma mg n p : Nat} {A G : DataW Unit} {E : Value} {es : List Ent} (h : Both w wi b ma mg n p A G E es) (a k : ByteArray) (ha : a.size ≤ maxLen) (hk : k.size ≤ maxLen) :
    Calls Try.prog 12 #[.pointer (some ⟨b, 0, none⟩), .string a, .string k] wi fun e w' => e = .returned (.bool (hasOf es a k)) ∧ Both w w' b ma mg n p A G E es ∧ Keep39 wi w' := by
  refine (has_any _ _ _ _ _ _ a k _ h.c ha hk).mono ?_
  rintro e w' ⟨rfl, hB⟩
  exact ⟨by rw [h.rel.gr a k ha hk], h.later hB, Keep39.later hB⟩
theorem hasRef_both {w wi : World} {b ma mg n p : Nat} {A G : DataW Unit} {E : Value} {es : List Ent} (h : Both w wi b ma mg n p A G E es) (a k : ByteArray) (hn : n ≤ 1000000) :
    Calls Try.prog 25 #[.pointer (some ⟨p, 0, none⟩), .string a, .string k] wi fun e w' => e = .returned (.bool (hasOf es a k)) ∧ wi = w' :=
  hasRefC_any _ _ _ es a k _ h.r (by have := h.le; omega) (fun e he => by have := h.names e he; omega)
theorem keys_both {w wi : World} {b ma mg n p : Nat} {A G : DataW Unit} {E : Value} {es : List Ent} (h : Both w wi b ma mg n p A G E es) (hn : n ≤ 1000000) :
    Calls Try.prog 15 #[.pointer (some ⟨b, 0, none⟩)] wi fun e w' => ∃ v, e = .returned v ∧ StrRow w' v (es.map Ent.key) ∧ Both w w' b ma mg n p A G E es ∧ Keep39 wi w' := by
  refine (keys_any _ _ _ _ _ _ _ h.c hn).mono ?_
  rintro e w' ⟨v, ss, rfl, hp, hrow, _, hB⟩
  refine ⟨v, rfl, ?_, h.later hB, Keep39.later hB⟩
  rw [← keys_eq h.rel h.c.am hp]
  have hl : (ss.mergeSort leB).length = ss.length := List.length_mergeSort _
  rw [← hl] at hrow
  exact strRow_of_owns hrow
theorem keysRef_both {w wi : World} {b ma mg n p : Nat} {A G : DataW Unit} {E : Value} {es : List Ent} {v : Value} (h : Both w wi b ma mg n p A G E es) (hv : StrRow wi v (es.map Ent.key)) (hn : n ≤ 1000000) :
    Calls Try.prog 26 #[.pointer (some ⟨p, 0, none⟩)] wi fun e w' => ∃ v2, e = .returned v2 ∧ StrRow w' v (es.map Ent.key) ∧ StrRow w' v2 (es.map Ent.key) ∧ Both w w' b ma mg n p A G E es ∧ Keep39 wi w' := by
  refine (keysRef_any _ _ _ es _ h.r (by have := h.le; omega)).mono ?_
  rintro e w' ⟨v2, rfl, hrow, hB⟩
  exact ⟨v2, rfl, hv.kept (grown_none hB none), hrow, h.later hB, Keep39.later hB⟩
theorem same_both {w wi : World} {b ma mg n p : Nat} {A G : DataW Unit} {E : Value} {es : List Ent} {v v2 : Value} {xs : List ByteArray} (h : Both w wi b ma mg n p A G E es) (hv : StrRow wi v xs) (hv2 : StrRow wi v2 xs) (hn : xs.length ≤ 1000000) :
    Calls Try.prog 14 #[v, v2] wi fun e w' => e = .returned (.bool true) ∧ Both w w' b ma mg n p A G E es ∧ Keep39 wi w' := by
  refine (same_any v v2 xs xs wi hv hv2 hn hn).mono ?_
  rintro e w' ⟨rfl, m, rfl⟩
  have hB : Below wi.heap.size wi (wi.drewN m) := ⟨rfl, rfl, rfl, Nat.le_refl _, fun _ _ => rfl⟩
  exact ⟨by simp, h.later hB, Keep39.later hB⟩
theorem granted_both {w wi : World} {b ma mg n p : Nat} {A G : DataW Unit} {E : Value} {es : List Ent} (h : Both w wi b ma mg n p A G E es) (a : ByteArray) (ha : a.size ≤ maxLen) (hn : n ≤ 1000000) :
    Calls Try.prog 16 #[.pointer (some ⟨b, 0, none⟩), .string a] wi fun e w' => ∃ v, e = .returned v ∧ StrRow w' v (grantedL es a) ∧ Both w w' b ma mg n p A G E es ∧ Keep39 wi w' := by
  refine (granted_any _ _ _ _ _ _ a _ h.c ha hn).mono ?_
  rintro e w' ⟨v, ss, rfl, ⟨hg, _⟩, hrow, _, hB⟩
  refine ⟨v, rfl, ?_, h.later hB, Keep39.later hB⟩
  rw [← granted_eq h.rel ha hg]
  have hl : ((raw ss).mergeSort leB).length = ss.length := by rw [List.length_mergeSort]; simp [raw]
  rw [← hl] at hrow
  exact strRow_of_owns hrow
theorem grantedL_length (es : List Ent) (a : ByteArray) : (grantedL es a).length ≤ es.length := by
  unfold grantedL; rw [List.length_map]; exact List.length_filter_le _ _
theorem grantedRef_both {w wi : World} {b ma mg n p : Nat} {A G : DataW Unit} {E : Value} {es : List Ent} {v : Value} (h : Both w wi b ma mg n p A G E es) (a : ByteArray) (hv : StrRow wi v (grantedL es a)) (hn : n ≤ 1000000) :
    Calls Try.prog 27 #[.pointer (some ⟨p, 0, none⟩), .string a] wi fun e w' => ∃ v2, e = .returned v2 ∧ StrRow w' v (grantedL es a) ∧ StrRow w' v2 (grantedL es a) ∧ Both w w' b ma mg n p A G E es ∧ Keep39 wi w' := by
  refine (grantedRef_any _ _ _ es a _ h.r (by have := h.le; omega) (fun e he => by have := h.names e he; omega)).mono ?_
  rintro e w' ⟨v2, rfl, hrow, hB⟩
  exact ⟨v2, rfl, hv.kept (grown_none hB none), hrow, h.later hB, Keep39.later hB⟩
end Go.Proofs.Ytneclonahddipaa
