/- The maps and the reference's entries: the plain law. -/
import Derived.Test.YtneclonahddipaaRefCopyWalk
namespace Go.Proofs.Ytneclonahddipaa
open Go.RowKit Go.Maps Go.Sort Go.Shelf

theorem aKey_inj' {a b : ByteArray} (h : aKey a = aKey b) : a = b := by
  unfold aKey at h
  injection h with h
  cases a; cases b
  congr
  exact Array.ext' h

theorem textOf_def (es : List Ent) (k : ByteArray) : textOf es k = ((entOf es k).map Ent.text).getD s0 := by unfold textOf; cases entOf es k <;> rfl
theorem hasOf_def (es : List Ent) (a k : ByteArray) : hasOf es a k = ((entOf es k).map fun e => memB e.names a).getD false := by unfold hasOf; cases entOf es k <;> rfl

/-- The maps hold what the entries hold. -/
structure RelE (A G : DataW Unit) (es : List Ent) : Prop where
  has : ∀ k, Maps.has A (aKey k) = isOf es k
  text : ∀ k, isOf es k = true → A.atKey (aKey k) (.lit (.string [])) = .lit (.string (textOf es k).data.toList)
  gr : ∀ a k, a.size ≤ maxLen → k.size ≤ maxLen → Maps.has G (gKey a k) = hasOf es a k
  asc : (es.map Ent.key).Pairwise fun x y => x.data.toList < y.data.toList
  key : ∀ k ∈ es.map Ent.key, k.size ≤ maxLen

theorem RelE.nil : RelE (.map []) (.map []) [] := ⟨fun k => rfl, fun k h => by simp [isOf, entOf] at h, fun a k _ _ => rfl, List.Pairwise.nil, fun e h => by simp at h⟩

theorem RelE.put_same {A G : DataW Unit} {es : List Ent} (h : RelE A G es) (hm : IsMap A) {k t : ByteArray} (hx : isOf es k = true) (ht : textOf es k = t) : RelE (A.put (aKey k) (.lit (.string t.data.toList))) G es := by
  refine ⟨fun k' => ?_, fun k' hk' => ?_, h.gr, h.asc, h.key⟩
  · by_cases e : k' = k
    · subst e; rw [has_put_same hm (aKey_isKey _), hx]
    · rw [has_put_other (fun e' => e (aKey_inj' e')), h.has]
  · by_cases e : k' = k
    · subst e; rw [atKey_put_same hm (aKey_isKey _), ht]
    · rw [atKey_put_other (fun e' => e (aKey_inj' e')), h.text k' hk']

theorem ins_split (es : List Ent) (key : ByteArray) : es.take (insAt es key) = es.takeWhile (fun e => Op.bytesLess e.key.toList key.toList) ∧ es.drop (insAt es key) = es.dropWhile (fun e => Op.bytesLess e.key.toList key.toList) := by
  unfold insAt
  have h := List.takeWhile_append_dropWhile (p := fun e : Ent => Op.bytesLess e.key.toList key.toList) (l := es)
  generalize es.takeWhile (fun e => Op.bytesLess e.key.toList key.toList) = t at *
  generalize es.dropWhile (fun e => Op.bytesLess e.key.toList key.toList) = d at *
  subst h
  exact ⟨List.take_left, List.drop_left⟩
theorem entOf_ins {es : List Ent} {key text : ByteArray} (hx : isOf es key = false) (k : ByteArray) : entOf (insE es key text) k = if k = key then some ⟨key, text, .slice none 0 0, []⟩ else entOf es k := by
  have hno : ∀ e ∈ es, e.key ≠ key := by
    intro e he hk
    unfold isOf entOf at hx
    simp only [Option.isSome_eq_false_iff, Option.isNone_iff_eq_none, List.find?_eq_none] at hx
    exact hx e he (by simp [hk])
  unfold insE entOf
  rw [List.find?_append, List.find?_cons]
  by_cases e : k = key
  · subst e
    rw [if_pos rfl, List.find?_eq_none.2 (fun x hx => by simpa using hno x (List.mem_of_mem_take hx))]
    simp
  · rw [if_neg e, show decide ((⟨key, text, .slice none 0 0, []⟩ : Ent).key = k) = false by simpa using fun h => e h.symm]
    dsimp only
    conv => rhs; rw [← List.take_append_drop (insAt es key) es]
    rw [List.find?_append]

theorem isOf_no {es : List Ent} {key : ByteArray} (hx : isOf es key = false) : ∀ e ∈ es, e.key ≠ key := by
  intro e he hk
  unfold isOf entOf at hx
  simp only [Option.isSome_eq_false_iff, Option.isNone_iff_eq_none, List.find?_eq_none] at hx
  exact hx e he (by simp [hk])
theorem isOf_mem {es : List Ent} {k : ByteArray} : isOf es k = true ↔ k ∈ es.map Ent.key := by
  unfold isOf entOf
  rw [List.find?_isSome]
  simp

theorem asc_ins {es : List Ent} {key text : ByteArray} (hx : isOf es key = false) (h : (es.map Ent.key).Pairwise fun x y => x.data.toList < y.data.toList) : ((insE es key text).map Ent.key).Pairwise fun x y => x.data.toList < y.data.toList := by
  have hno := isOf_no hx
  obtain ⟨h1, h2⟩ := ins_split es key
  have hes := List.take_append_drop (insAt es key) es
  unfold insE
  have hlt : ∀ e ∈ es.take (insAt es key), e.key.data.toList < key.data.toList := by
    intro e he
    rw [h1] at he
    have := List.all_takeWhile (p := fun e : Ent => Op.bytesLess e.key.toList key.toList) (l := es)
    have h3 := List.all_eq_true.1 this e he
    rwa [bytesLess_lt, toList_data, toList_data] at h3
  have hgt : ∀ e ∈ es.drop (insAt es key), key.data.toList < e.key.data.toList := by
    intro e he
    have hpw : ((es.drop (insAt es key)).map Ent.key).Pairwise fun x y => x.data.toList < y.data.toList := by
      rw [← hes, List.map_append, List.pairwise_append] at h
      exact h.2.1
    have hmem : ∀ e ∈ es.drop (insAt es key), e.key ≠ key := fun e he => hno e (List.mem_of_mem_drop he)
    have hd0 : ∀ x, (es.drop (insAt es key)).head? = some x → Op.bytesLess x.key.toList key.toList = false := by
      intro x hx
      rw [h2] at hx
      have := List.head?_dropWhile_not (p := fun e : Ent => Op.bytesLess e.key.toList key.toList) (l := es)
      rw [hx] at this
      simpa using this
    cases hd : es.drop (insAt es key) with
    | nil => rw [hd] at he; cases he
    | cons x l =>
      rw [hd] at he hpw hd0 hmem
      have hx0 := hd0 x rfl
      have hxk : key.data.toList < x.key.data.toList := by
        rcases List.le_total key.data.toList x.key.data.toList with hle | hle
        · rcases List.le_iff_lt_or_eq.1 hle with h | h
          · exact h
          · exact absurd (aKey_inj' (by unfold aKey; rw [h])) (hmem x (by simp))
        · rcases List.le_iff_lt_or_eq.1 hle with h | h
          · rw [← toList_data, ← toList_data, ← bytesLess_lt] at h
            rw [h] at hx0; cases hx0
          · exact absurd (aKey_inj' (by unfold aKey; rw [h])) (hmem x (by simp))
      rcases List.mem_cons.1 he with rfl | he
      · exact hxk
      · have := (List.pairwise_cons.1 hpw).1 e.key (List.mem_map_of_mem he)
        exact List.lt_trans hxk this
  rw [List.map_append, List.map_cons, List.pairwise_append]
  have hparts : ((es.take (insAt es key)).map Ent.key).Pairwise (fun x y => x.data.toList < y.data.toList) ∧ ((es.drop (insAt es key)).map Ent.key).Pairwise (fun x y => x.data.toList < y.data.toList) := by
    rw [← hes, List.map_append, List.pairwise_append] at h
    exact ⟨h.1, h.2.1⟩
  refine ⟨hparts.1, List.pairwise_cons.2 ⟨fun k hk => ?_, hparts.2⟩, fun a ha b hb => ?_⟩
  · obtain ⟨e, he, rfl⟩ := List.mem_map.1 hk
    exact hgt e he
  · obtain ⟨e, he, rfl⟩ := List.mem_map.1 ha
    rcases List.mem_cons.1 hb with rfl | hb
    · exact hlt e he
    · obtain ⟨e2, he2, rfl⟩ := List.mem_map.1 hb
      exact List.lt_trans (hlt e he) (hgt e2 he2)

theorem RelE.put_new {A G : DataW Unit} {es : List Ent} (h : RelE A G es) (hm : IsMap A) {k t : ByteArray} (hk : k.size ≤ maxLen) (hx : isOf es k = false) : RelE (A.put (aKey k) (.lit (.string t.data.toList))) G (insE es k t) := by
  have he := fun k' => entOf_ins (text := t) hx k'
  refine ⟨fun k' => ?_, fun k' hk' => ?_, fun a k' ha hk' => ?_, asc_ins hx h.asc, fun k' hk' => ?_⟩
  · by_cases e : k' = k
    · subst e; rw [has_put_same hm (aKey_isKey _)]; unfold isOf; rw [he, if_pos rfl]; rfl
    · rw [has_put_other (fun e' => e (aKey_inj' e')), h.has]; unfold isOf; rw [he, if_neg e]
  · by_cases e : k' = k
    · subst e; rw [atKey_put_same hm (aKey_isKey _)]; unfold textOf; rw [he, if_pos rfl]
    · have h0 : isOf es k' = true := by unfold isOf at hk' ⊢; rwa [he, if_neg e] at hk'
      rw [atKey_put_other (fun e' => e (aKey_inj' e')), h.text k' h0]; unfold textOf; rw [he, if_neg e]
  · rw [h.gr a k' ha hk', hasOf_def, hasOf_def, he]
    by_cases e : k' = k
    · subst e
      rw [if_pos rfl]
      have : entOf es k' = none := by unfold isOf at hx; simpa using hx
      rw [this]; rfl
    · rw [if_neg e]
  · unfold insE at hk'
    rw [List.map_append, List.map_cons] at hk'
    rcases List.mem_append.1 hk' with h1 | h1
    · obtain ⟨e, he, rfl⟩ := List.mem_map.1 h1; exact h.key _ (List.mem_map_of_mem (List.mem_of_mem_take he))
    · rcases List.mem_cons.1 h1 with rfl | h1
      · exact hk
      · obtain ⟨e, he, rfl⟩ := List.mem_map.1 h1; exact h.key _ (List.mem_map_of_mem (List.mem_of_mem_drop he))
end Go.Proofs.Ytneclonahddipaa
