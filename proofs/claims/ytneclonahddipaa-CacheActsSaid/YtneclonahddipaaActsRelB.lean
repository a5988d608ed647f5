/- The maps and the reference's entries: grants, copies, lists. -/
import Derived.Test.YtneclonahddipaaActsRel
namespace Go.Proofs.Ytneclonahddipaa
open Go.RowKit Go.Maps Go.Sort Go.Shelf

theorem map_key_set {es : List Ent} {i : Nat} {e x : Ent} (he : es[i]? = some e) (hk : x.key = e.key) : (es.set i x).map Ent.key = es.map Ent.key := by
  rw [List.map_set, hk]
  obtain ⟨hi, rfl⟩ := List.getElem?_eq_some_iff.1 he
  apply List.ext_getElem?
  intro j
  by_cases hj : i = j
  · subst hj
    rw [List.getElem?_set_self (by simpa using hi)]
    simp [hi]
  · rw [List.getElem?_set_ne hj]
theorem entOf_set : ∀ (es : List Ent) (i : Nat) (e x : Ent), es[i]? = some e → x.key = e.key → (es.map Ent.key).Pairwise (fun x y => x.data.toList < y.data.toList) → ∀ k, entOf (es.set i x) k = if k = x.key then some x else entOf es k
  | [], _, _, _, h, _, _, _ => by simp at h
  | y :: es, 0, e, x, h, hk, _, k => by
    simp only [List.getElem?_cons_zero, Option.some.injEq] at h
    subst h
    unfold entOf
    rw [List.set_cons_zero, List.find?_cons, List.find?_cons, hk]
    by_cases e : k = y.key
    · subst e; simp
    · rw [if_neg e]
      have e' : ¬ y.key = k := fun h => e h.symm
      simp [e']
  | y :: es, i + 1, e, x, h, hk, ha, k => by
    rw [List.map_cons, List.pairwise_cons] at ha
    have ih := entOf_set es i e x (by simpa using h) hk ha.2 k
    unfold entOf at ih ⊢
    rw [List.set_cons_succ, List.find?_cons, List.find?_cons, ih]
    have hm : e ∈ es := List.mem_of_getElem? (by simpa using h)
    have hne : y.key ≠ e.key := fun h => by
      have := ha.1 e.key (List.mem_map_of_mem hm)
      rw [h] at this
      exact List.lt_irrefl _ this
    by_cases hy : y.key = k
    · have : ¬ k = x.key := by rw [hk, ← hy]; exact hne
      simp [hy, this]
    · simp [hy]
theorem entOf_at : ∀ (es : List Ent) (i : Nat) (e : Ent), es[i]? = some e → (es.map Ent.key).Pairwise (fun x y => x.data.toList < y.data.toList) → entOf es e.key = some e := by
  intro es i e h ha
  have := entOf_set es i e e h rfl ha e.key
  rw [if_pos rfl] at this
  rw [← this]
  congr 1
  obtain ⟨hi, rfl⟩ := List.getElem?_eq_some_iff.1 h
  simp

theorem RelE.grant {A G : DataW Unit} {es : List Ent} (h : RelE A G es) (hm : IsMap G) {a : ByteArray} {i : Nat} {e : Ent} (he : es[i]? = some e) (ha : a.size ≤ maxLen) (v : Value) :
    RelE A (G.put (gKey a e.key) (.agg [])) (es.set i { e with ns := v, names := e.names ++ [a] }) := by
  have hkm : (es.set i { e with ns := v, names := e.names ++ [a] }).map Ent.key = es.map Ent.key := map_key_set he rfl
  have hx := entOf_set es i e { e with ns := v, names := e.names ++ [a] } he rfl h.asc
  have hy := entOf_at es i e he h.asc
  have hek : e.key.size ≤ maxLen := h.key _ (List.mem_map_of_mem (List.mem_of_getElem? he))
  dsimp only at hx
  refine ⟨fun k => ?_, fun k hk => ?_, fun a' k ha' hk => ?_, by rw [hkm]; exact h.asc, by rw [hkm]; exact h.key⟩
  · rw [h.has]; unfold isOf; rw [hx]
    by_cases hk : k = e.key
    · subst hk; rw [if_pos rfl, hy]; rfl
    · rw [if_neg hk]
  · unfold isOf at hk
    rw [hx] at hk
    by_cases hke : k = e.key
    · subst hke
      rw [h.text _ (by unfold isOf; rw [hy]; rfl)]
      unfold textOf
      rw [hx, if_pos rfl, hy]
    · rw [if_neg hke] at hk
      rw [h.text k hk]
      unfold textOf
      rw [hx, if_neg hke]
  · rw [hasOf_def, hx]
    by_cases hk2 : k = e.key
    · subst hk2
      rw [if_pos rfl]
      dsimp only [Option.map_some, Option.getD_some]
      by_cases haa : a' = a
      · subst haa
        rw [has_put_same hm (gKey_isKey _ _)]
        exact (memB_yes (by simp)).symm
      · rw [has_put_other (fun e' => haa (gKey_inj ha' hk ha hek e').1), h.gr a' _ ha' hk, hasOf_def, hy]
        unfold memB
        rw [List.any_append]
        simp
        exact fun h => absurd h.symm haa
    · rw [if_neg hk2, has_put_other (fun e' => hk2 (gKey_inj ha' hk ha hek e').2), h.gr a' _ ha' hk, hasOf_def]
theorem RelE.grant_old {A G : DataW Unit} {es : List Ent} (h : RelE A G es) (hm : IsMap G) {a k : ByteArray} (ha : a.size ≤ maxLen) (hk : k.size ≤ maxLen) (hh : hasOf es a k = true) : RelE A (G.put (gKey a k) (.agg [])) es := by
  refine ⟨h.has, h.text, fun a' k' ha' hk' => ?_, h.asc, h.key⟩
  by_cases e : a' = a ∧ k' = k
  · obtain ⟨rfl, rfl⟩ := e
    rw [has_put_same hm (gKey_isKey _ _), hh]
  · rw [has_put_other (fun e' => e (gKey_inj ha' hk' ha hk e')), h.gr a' k' ha' hk']

/-! ### copies -/
def trip (e : Ent) : ByteArray × ByteArray × List ByteArray := (e.key, e.text, e.names)
theorem entOf_trip (es : List Ent) (k : ByteArray) : (entOf es k).map trip = (es.map trip).find? fun t => decide (t.1 = k) := by
  unfold entOf
  rw [List.find?_map]
  rfl
theorem like_ent {es es' : List Ent} (h : Like es' es) (k : ByteArray) : (entOf es' k).map trip = (entOf es k).map trip := by
  rw [entOf_trip, entOf_trip]
  exact congrArg _ h
theorem like_keys {es es' : List Ent} (h : Like es' es) : es'.map Ent.key = es.map Ent.key := by
  have := congrArg (List.map fun t : ByteArray × ByteArray × List ByteArray => t.1) h
  simpa [Like, List.map_map, Function.comp_def] using this
theorem like_length {es es' : List Ent} (h : Like es' es) : es'.length = es.length := by
  have := congrArg List.length (like_keys h)
  simpa using this
theorem like_is {es es' : List Ent} (h : Like es' es) (k : ByteArray) : isOf es' k = isOf es k := by
  have := congrArg Option.isSome (like_ent h k)
  simpa [isOf] using this
theorem like_text {es es' : List Ent} (h : Like es' es) (k : ByteArray) : textOf es' k = textOf es k := by
  have := congrArg (fun o : Option (ByteArray × ByteArray × List ByteArray) => (o.map fun t => t.2.1).getD s0) (like_ent h k)
  rw [textOf_def, textOf_def]
  simpa [Option.map_map, Function.comp_def, trip] using this
theorem like_has {es es' : List Ent} (h : Like es' es) (a k : ByteArray) : hasOf es' a k = hasOf es a k := by
  have := congrArg (fun o : Option (ByteArray × ByteArray × List ByteArray) => (o.map fun t => memB t.2.2 a).getD false) (like_ent h k)
  rw [hasOf_def, hasOf_def]
  simpa [Option.map_map, Function.comp_def, trip] using this
theorem RelE.like {A G : DataW Unit} {es es' : List Ent} (h : RelE A G es) (hl : Like es' es) : RelE A G es' :=
  ⟨fun k => by rw [h.has, like_is hl], fun k hk => by rw [like_text hl, h.text k (by rwa [like_is hl] at hk)], fun a k ha hk => by rw [h.gr a k ha hk, like_has hl], by rw [like_keys hl]; exact h.asc, by rw [like_keys hl]; exact h.key⟩

/-! ### lists -/
theorem raw_sorted {ks : List ByteArray} (h : ks.Pairwise fun x y => x.data.toList < y.data.toList) : (raw ks).mergeSort leB = raw ks := by
  refine List.mergeSort_of_pairwise ?_
  unfold raw
  rw [List.pairwise_map]
  refine h.imp fun {x y} hlt => ?_
  simp only [leB, decide_eq_true_eq]
  exact List.le_of_lt hlt
theorem raw_nodup {ks : List ByteArray} (h : ks.Pairwise fun x y => x.data.toList < y.data.toList) : (raw ks).Nodup := by
  unfold raw
  unfold List.Nodup
  rw [List.pairwise_map]
  refine h.imp fun {x y} hlt e => ?_
  rw [e] at hlt
  exact List.lt_irrefl _ hlt
theorem mem_raw {ks : List ByteArray} {x : List UInt8} : x ∈ raw ks ↔ mkB x ∈ ks := by
  unfold raw
  rw [List.mem_map]
  constructor
  · rintro ⟨k, hk, rfl⟩; exact hk
  · intro h; exact ⟨mkB x, h, rfl⟩

theorem keys_eq {A G : DataW Unit} {es : List Ent} {w : World} {b n : Nat} (h : RelE A G es) (hown : w.ownsMap Try.prog 9 (plainElem Try.prog 9) b n A) {ss : List (List UInt8)} (hp : ss.Perm (strKeys A)) : (ss.mergeSort leB).map mkB = es.map Ent.key := by
  obtain ⟨l, rfl, hpw, _⟩ := hown.entries lawS
  obtain ⟨l', e, hks⟩ := hown.keysOf
  cases e
  have hperm : (raw (es.map Ent.key)).Perm (strKeys (.map l)) := by
    refine perm_strKeys hpw (fun p hp => ?_) (raw_nodup h.asc) fun x => ?_
    · obtain ⟨v, hv⟩ := hks p hp
      obtain ⟨x, _, hx, _⟩ := keyOf_str Try.underlying9 hv
      exact ⟨x, hx⟩
    · rw [mem_raw, ← isOf_mem, ← h.has]
      rfl
  rw [mergeSort_of_perm (hp.trans hperm.symm), raw_sorted h.asc, raw_mk]

theorem grantedL_asc {es : List Ent} (h : (es.map Ent.key).Pairwise fun x y => x.data.toList < y.data.toList) (a : ByteArray) : (grantedL es a).Pairwise fun x y => x.data.toList < y.data.toList := by
  unfold grantedL
  rw [List.pairwise_map] at h ⊢
  exact h.sublist List.filter_sublist
theorem entOf_mem {es : List Ent} {k : ByteArray} {e : Ent} (h : entOf es k = some e) : e ∈ es ∧ e.key = k := by
  unfold entOf at h
  exact ⟨List.mem_of_find?_eq_some h, by simpa using List.find?_some h⟩
theorem granted_eq {A G : DataW Unit} {es : List Ent} {a : ByteArray} {ss : List ByteArray} (h : RelE A G es) (ha : a.size ≤ maxLen) (hg : GAll a G ss) : ((raw ss).mergeSort leB).map mkB = grantedL es a := by
  have hasc := grantedL_asc h.asc a
  have hmem : ∀ k, k.size ≤ maxLen → (k ∈ grantedL es a ↔ hasOf es a k = true) := by
    intro k _
    unfold grantedL
    rw [List.mem_map, hasOf_def]
    constructor
    · rintro ⟨e, he, rfl⟩
      obtain ⟨he, hme⟩ := List.mem_filter.1 he
      obtain ⟨i, hi, rfl⟩ := List.getElem_of_mem he
      rw [entOf_at es i _ (by simp [hi]) h.asc]
      exact hme
    · intro hh
      cases hq : entOf es k with
      | none => rw [hq] at hh; cases hh
      | some e =>
        rw [hq] at hh
        obtain ⟨h1, h2⟩ := entOf_mem hq
        exact ⟨e, List.mem_filter.2 ⟨h1, hh⟩, h2⟩
  have hsz : ∀ k ∈ grantedL es a, k.size ≤ maxLen := by
    intro k hk
    unfold grantedL at hk
    obtain ⟨e, he, rfl⟩ := List.mem_map.1 hk
    exact h.key _ (List.mem_map_of_mem (List.mem_filter.1 he).1)
  have hnd : (grantedL es a).Nodup := hasc.imp fun {x y} hlt e => by rw [e] at hlt; exact List.lt_irrefl _ hlt
  have hperm : ss.Perm (grantedL es a) := (List.perm_ext_iff_of_nodup hg.1 hnd).2 fun k => by
    constructor
    · intro hk
      have hs := hg.2.1 k hk
      rw [hmem k hs, ← h.gr a k ha hs]
      exact (hg.2.2 k hs).1 hk
    · intro hk
      have hs := hsz k hk
      rw [hmem k hs, ← h.gr a k ha hs] at hk
      exact (hg.2.2 k hs).2 hk
  rw [mergeSort_of_perm (l := raw ss) (l' := raw (grantedL es a)) (hperm.map _), raw_sorted hasc, raw_mk]
end Go.Proofs.Ytneclonahddipaa
