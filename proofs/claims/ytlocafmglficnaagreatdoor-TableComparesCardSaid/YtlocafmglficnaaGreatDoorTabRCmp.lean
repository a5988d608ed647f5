/- The reference's neighbours: the walk and the plain law: the reference and the program agree. -/
import Derived.Test.YtlocafmglficnaaGreatDoorTabRMore
import Derived.Test.YtlocafmglficnaaGreatDoorTabFindsLaw
namespace Go.Proofs.YtlocafmglficnaaGreatDoor
open Go.RowKit Go.Maps Go.Sort Go.Shelf

/-! ### The plain law -/
/-- What a search for the least number returns. -/
def LeastOf (S : Int → Prop) (r : Int × Bool) : Prop := (r = (0, false) ∧ ∀ o, ¬ S o) ∨ ∃ o, S o ∧ r = (o, true) ∧ ∀ o', S o' → o ≤ o'
theorem LeastOf.uniq {S : Int → Prop} {r r' : Int × Bool} (h : LeastOf S r) (h' : LeastOf S r') : r = r' := by
  rcases h with ⟨e, h⟩ | ⟨o, ho, e, hm⟩
  · rcases h' with ⟨e', _⟩ | ⟨o', ho', _, _⟩
    · rw [e, e']
    · exact absurd ho' (h o')
  · rcases h' with ⟨_, h'⟩ | ⟨o', ho', e', hm'⟩
    · exact absurd ho (h' o)
    · have := hm o' ho'
      have := hm' o ho
      rw [e, e', show o = o' by omega]
theorem LeastOf.congr {S S' : Int → Prop} {r : Int × Bool} (h : LeastOf S r) (he : ∀ o, S o ↔ S' o) : LeastOf S' r := by
  have : S = S' := funext fun o => propext (he o)
  exact this ▸ h
theorem LeastOf.step {S : Int → Prop} {st : Int × Bool} (p : Int → Bool) (x : Int) (h : LeastOf S st) : LeastOf (fun o => S o ∨ (o = x ∧ p x = true)) (stepP p st x) := by
  unfold stepP
  by_cases hp : p x = true
  · rcases h with ⟨rfl, h⟩ | ⟨o, ho, rfl, hm⟩
    · rw [if_pos (by simp [hp])]
      refine .inr ⟨x, .inr ⟨rfl, hp⟩, rfl, fun o' ho' => ?_⟩
      rcases ho' with ho' | ⟨rfl, _⟩
      · exact absurd ho' (h o')
      · omega
    · by_cases hlt : x < o
      · rw [if_pos (by simp [hp, hlt])]
        refine .inr ⟨x, .inr ⟨rfl, hp⟩, rfl, fun o' ho' => ?_⟩
        rcases ho' with ho' | ⟨rfl, _⟩
        · have := hm o' ho'
          omega
        · omega
      · rw [if_neg (by simp [hlt])]
        refine .inr ⟨o, .inl ho, rfl, fun o' ho' => ?_⟩
        rcases ho' with ho' | ⟨rfl, _⟩
        · exact hm o' ho'
        · omega
  · rw [if_neg (by simp [hp])]
    exact h.congr fun o => ⟨.inl, fun h => by
      rcases h with h | ⟨_, h⟩
      · exact h
      · exact absurd h hp⟩
theorem LeastOf.fold (p : Int → Bool) : ∀ (l : List Int) {S : Int → Prop} {st : Int × Bool}, LeastOf S st → LeastOf (fun o => S o ∨ (o ∈ l ∧ p o = true)) (l.foldl (stepP p) st)
  | [], S, st, h => h.congr fun o => ⟨.inl, fun h => by
      rcases h with h | ⟨h, _⟩
      · exact h
      · cases h⟩
  | x :: l, S, st, h => by
    rw [List.foldl_cons]
    refine (LeastOf.fold p l (h.step p x)).congr fun o => ?_
    constructor
    · rintro ((h | ⟨rfl, h⟩) | ⟨h1, h2⟩)
      · exact .inl h
      · exact .inr ⟨by simp, h⟩
      · exact .inr ⟨by simp [h1], h2⟩
    · rintro (h | ⟨h1, h2⟩)
      · exact .inl (.inl h)
      · rcases List.mem_cons.1 h1 with rfl | h1
        · exact .inl (.inr ⟨rfl, h2⟩)
        · exact .inr ⟨h1, h2⟩
/-- The reference's answer: the first of the ascending owners that serves. -/
noncomputable def firstB (l : List Int) (q : Int → Bool) : Int × Bool := match l.find? q with | some o => (o, true) | none => (0, false)
theorem firstB_least {l : List Int} (q : Int → Bool) (hl : l.Pairwise (· < ·)) : LeastOf (fun o => o ∈ l ∧ q o = true) (firstB l q) := by
  unfold firstB
  cases h : l.find? q with
  | none =>
    refine .inl ⟨rfl, fun o ho => ?_⟩
    have := List.find?_eq_none.1 h o ho.1
    exact this ho.2
  | some o =>
    obtain ⟨hq, l1, l2, e, hn⟩ := List.find?_eq_some_iff_append.1 h
    refine .inr ⟨o, ⟨by rw [e]; simp, hq⟩, rfl, fun o' ho' => ?_⟩
    rw [e] at ho' hl
    rw [List.pairwise_append, List.pairwise_cons] at hl
    rcases List.mem_append.1 ho'.1 with h1 | h1
    · have := hn o' h1
      rw [ho'.2] at this
      cases this
    · rcases List.mem_cons.1 h1 with rfl | h1
      · omega
      · have := hl.2.1.1 o' h1
        omega
noncomputable def nbrB (ts us : List Tbl) : Int × Bool := if eqB ts us = true then (0, false) else firstB (asc (ownersOf (ts ++ us))) fun o => eqB (withoutB ts o) us || eqB ts (withoutB us o)
theorem withoutB_self {ts : List Tbl} {a : Int} (h : a ∉ ownersOf ts) : withoutB ts a = ts := by
  unfold withoutB
  have : ∀ T ∈ ts, withoutT T a = T := fun T hT => withoutT_self fun h' => h (mem_ownersOf.2 ⟨T, hT, h'⟩)
  rw [List.map_congr_left this, List.map_id']
theorem nbrB_eq (ts us : List Tbl) : nbrB ts us = differB ts us := by
  have hd : LeastOf (fun o => (o ∈ ownersOf ts ∧ withoutB ts o = us) ∨ (o ∈ ownersOf us ∧ withoutB us o = ts)) (differB ts us) := by
    rw [differB_eq]
    have h0 : LeastOf (fun _ => False) (0, false) := .inl ⟨rfl, fun _ h => h⟩
    refine (LeastOf.fold _ _ (LeastOf.fold _ _ h0)).congr fun o => ?_
    simp only [mem_asc, eqB_iff, false_or]
  refine LeastOf.uniq ?_ hd
  unfold nbrB
  by_cases he : ts = us
  · subst he
    rw [if_pos (eqB_true rfl)]
    refine .inl ⟨rfl, fun o ho => ?_⟩
    have hx : o ∈ ownersOf ts ∧ withoutB ts o = ts := by
      rcases ho with h | h
      · exact h
      · exact h
    have := mem_ownersOf_without.1 (show o ∈ ownersOf (withoutB ts o) by rw [hx.2]; exact hx.1)
    exact this.2 rfl
  · rw [if_neg (by rw [eqB_false he]; simp)]
    refine (firstB_least _ (asc_sorted _)).congr fun o => ?_
    have hmem : o ∈ ownersOf (ts ++ us) ↔ o ∈ ownersOf ts ∨ o ∈ ownersOf us := by simp [ownersOf]
    rw [mem_asc, hmem]
    simp only [Bool.or_eq_true, eqB_iff]
    constructor
    · rintro ⟨_, h | h⟩
      · refine .inl ⟨?_, h⟩
        by_cases hm : o ∈ ownersOf ts
        · exact hm
        · rw [withoutB_self hm] at h
          exact absurd h he
      · refine .inr ⟨?_, h.symm⟩
        by_cases hm : o ∈ ownersOf us
        · exact hm
        · rw [withoutB_self hm] at h
          exact absurd h he
    · rintro (⟨h1, h2⟩ | ⟨h1, h2⟩)
      · exact ⟨.inl h1, .inl h2⟩
      · exact ⟨.inr h1, .inr h2.symm⟩
theorem differT_B (T U : Tbl) : differB [T] [U] = differT T U := by
  rw [differB_eq, differT_eq]
  have e1 : ∀ X : Tbl, ownersOf [X] = ownersT X := fun X => by simp [ownersOf]
  have e2 : ∀ X Y : Tbl, eqB [X] [Y] = eqB X Y := fun X Y => by
    by_cases h : X = Y
    · rw [eqB_true h, eqB_true (by rw [h])]
    · rw [eqB_false h, eqB_false (by simpa using h)]
  have e3 : ∀ (X : Tbl) (o : Int), withoutB [X] o = [withoutT X o] := fun X o => rfl
  rw [e1, e1]
  simp only [e3, e2]

/-! ### The walk -/
theorem SRow.of_own {α : Type} {K : Kind α} {C : TypeId → Nat → Prop} {base : Nat} {w : World} {v : Value} {xs : List α} {ls : List (List Value)} (ho : w.ownsRow base K.ty K.k v xs.length ls.flatten) (hl : ls.length = xs.length)
    (hx : ∀ (j : Nat) (x : α), xs[j]? = some x → ∃ l, ls[j]? = some l ∧ K.is C w l x) : SRow K Any w v xs := by
  have hlen : ∀ l ∈ ls, l.length = K.k := by
    intro l hm
    obtain ⟨j, hj, e⟩ := List.getElem_of_mem hm
    have hjx : j < xs.length := by omega
    obtain ⟨l', e', hi⟩ := hx j xs[j] (by simp [hjx])
    rw [List.getElem?_eq_getElem hj, Option.some.injEq] at e'
    rw [← e, e']
    exact K.len hi
  rcases ho.2 with ⟨e, hz⟩ | ⟨g, cap, cur, e, hb, hh, h1, h2, _⟩
  · have : xs = [] := List.eq_nil_of_length_eq_zero hz
    subst this
    rw [e]
    exact SRow.nil _ _ _
  · refine ⟨_, _, e, h1, h2, fun _ => ⟨g, 0, rfl, trivial, (Array.getElem?_eq_some_iff.1 hh).1, fun j x hj => ?_⟩⟩
    obtain ⟨l, e', hi⟩ := hx j x hj
    refine ⟨l, K.keep hi fun _ _ _ _ _ => ⟨trivial, rfl⟩, fun i u hu => ?_⟩
    have := ho.cells (g := g) (by rw [e]; rfl) (j * K.k + i) u (flatten_at hlen e' hu)
    rw [show (⟨g, 0, none⟩ : Addr).add (j * K.k + i) = ⟨g, 0 + (j * K.k + i), none⟩ by unfold Addr.add; split <;> simp_all] at this
    rw [show (0 + j * K.k + i) = 0 + (j * K.k + i) by omega]
    exact this
theorem one_tbls {C : TypeId → Nat → Prop} {w : World} {xs : List Tbl} {ls : List (List Value)} (hll : ls.length = xs.length) (hls : ∀ (j : Nat) (x : Tbl), xs[j]? = some x → ∃ l, ls[j]? = some l ∧ tblK.is C w l x) : ∀ u ∈ ls.flatten, u.oneCell' = true := by
  intro u hu
  obtain ⟨l, hl', hul⟩ := List.mem_flatten.1 hu
  obtain ⟨j, hj, rfl⟩ := List.getElem_of_mem hl'
  obtain ⟨l2, e2, l3, v3, e3, ⟨v4, e4, hc, _⟩, hr⟩ := hls j (xs[j]'(by omega)) (List.getElem?_eq_getElem (by omega))
  obtain ⟨A1, c1, rfl, _, _⟩ := hc.slice
  obtain ⟨A2, c2, rfl, _, _⟩ := hr.slice
  rw [List.getElem?_eq_getElem hj, Option.some.injEq] at e2
  rw [e2, e3, e4] at hul
  simp at hul
  rcases hul with h | h | h | h | h <;> rw [h] <;> rfl
theorem find_none_take {L : List Int} {q : Int → Bool} (h : ∀ j (hj : j < L.length), q L[j] = false) : L.find? q = none := by
  rw [List.find?_eq_none]
  intro o ho
  obtain ⟨j, hj, rfl⟩ := List.getElem_of_mem ho
  simp [h j hj]
theorem find_some_take {L : List Int} {q : Int → Bool} {k : Nat} (hk : k < L.length) (h : ∀ j (hj : j < L.length), j < k → q L[j] = false) (hq : q L[k] = true) : L.find? q = some L[k] := by
  rw [List.find?_eq_some_iff_append]
  refine ⟨hq, L.take k, L.drop (k + 1), by rw [List.getElem_cons_drop, List.take_append_drop], fun o ho => ?_⟩
  obtain ⟨j, hj, rfl⟩ := List.mem_take_iff_getElem.1 ho
  simp [h j (by omega) (by omega)]
