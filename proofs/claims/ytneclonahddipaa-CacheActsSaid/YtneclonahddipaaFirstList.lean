/- CacheFirst: what is known of the list that Granted returns, and a region that reads in every later world. -/
import Derived.Test.YtneclonahddipaaFirstFacts
import Derived.BigQuiet
namespace Go.Proofs.Ytneclonahddipaa
open Go.RowKit Go.Maps Go.Sort Go.Shelf

theorem bytesLess_lt : ∀ (a b : List UInt8), Op.bytesLess a b = true ↔ a < b
  | [], [] => by simp [Op.bytesLess]
  | _ :: _, [] => by simp [Op.bytesLess]
  | [], _ :: _ => by simp [Op.bytesLess]
  | a :: x, b :: y => by
    rw [List.cons_lt_cons_iff, ← bytesLess_lt x y]
    simp [Op.bytesLess]

abbrev mkB (x : List UInt8) : ByteArray := ⟨x.toArray⟩
theorem raw_mk (ss : List ByteArray) : (raw ss).map mkB = ss := by
  unfold raw
  rw [List.map_map]
  exact (List.map_congr_left fun x _ => rfl).trans (List.map_id ss)

theorem first_list {ss L : List ByteArray} {a key : ByteArray} {G : DataW Unit} (hG : GAll a G ss) (hL : ((raw ss).mergeSort leB).map mkB = L) :
    (∀ p, p < L.length → (L[p]?.getD ByteArray.empty).size ≤ maxLen ∧ Maps.has G (gKey a (L[p]?.getD ByteArray.empty)) = true) ∧
    (∀ p, 0 < p → p < L.length → Op.bytesLess (L[p - 1]?.getD ByteArray.empty).toList (L[p]?.getD ByteArray.empty).toList = true) ∧
    (key.size ≤ maxLen → Maps.has G (gKey a key) = true → ∃ q, q < L.length ∧ L[q]?.getD ByteArray.empty = key) := by
  have hperm : L.Perm ss := by
    rw [← hL]
    have := (List.mergeSort_perm (raw ss) leB).map mkB
    rwa [raw_mk] at this
  have hpw : ((raw ss).mergeSort leB).Pairwise (fun x y => leB x y = true) := by
    apply List.pairwise_mergeSort
    · intro x y z h1 h2; simp only [leB, decide_eq_true_eq] at *; exact List.le_trans h1 h2
    · intro x y; simp only [leB, Bool.or_eq_true, decide_eq_true_eq]; exact List.le_total x y
  have hnd : L.Nodup := hperm.nodup_iff.2 hG.1
  refine ⟨fun p hp => ?_, fun p h0 hp => ?_, fun hk hh => ?_⟩
  · have hm : L[p] ∈ ss := hperm.mem_iff.1 (List.getElem_mem hp)
    rw [getD_lt hp]
    have hs := hG.2.1 _ hm
    exact ⟨hs, (hG.2.2 _ hs).1 hm⟩
  · have hp' : p - 1 < L.length := by omega
    rw [getD_lt hp, getD_lt hp', bytesLess_lt, toList_data, toList_data]
    have hne : L[p - 1] ≠ L[p] := by
      intro e
      exact List.pairwise_iff_getElem.1 hnd (p - 1) p hp' hp (by omega) e
    subst hL
    simp only [List.length_map] at hp hp'
    simp only [List.getElem_map] at hne ⊢
    have hle := List.pairwise_iff_getElem.1 hpw (p - 1) p hp' hp (by omega)
    simp only [leB, decide_eq_true_eq] at hle
    rcases List.le_iff_lt_or_eq.1 hle with h | h
    · exact h
    · exact absurd (by rw [h]) hne
  · have hm : key ∈ L := hperm.mem_iff.2 ((hG.2.2 key hk).2 hh)
    obtain ⟨q, hq, e⟩ := List.getElem_of_mem hm
    exact ⟨q, hq, by rw [getD_lt hq, e]⟩

theorem geq_less {x y : ByteArray} (h : Op.bytesLess x.toList y.toList = true) (w : World) : (binOp .geq 9 (.string x) (.string y)).run Try.prog w = .ok (.bool false) w := by
  have : (binOp .geq 9 (.string x) (.string y)).run Try.prog w = .ok (.bool (!Op.bytesLess x.toList y.toList)) w := by kernel_rfl
  rw [this, h]; rfl

/-- A later world: what lay before lies as it did. -/
structure LaterW (w : World) where
  W : World
  h : Below w.heap.size w W

instance (w : World) : Nonempty (LaterW w) := ⟨⟨w, Below.refl _ _⟩⟩

theorem wp_region_later {P : Program} {id : Nat} {Q : Exit → Act → World → Prop} {a : Act} {w : World} {l : List Oper} (hm : P.follows .mixedOrders = true) (hB : Region.lexB .any l.toArray = true)
    (h : wpQuiet P l.toArray (fun W => ∃ x : LaterW w, W = x.W) (fun a' => ∀ W, (∃ x : LaterW w, W = x.W) → Q .normal a' W) l a) : (Code.region id l.toArray true).wp P Q a w :=
  wp_region_quiet (C := fun W => ∃ x : LaterW w, W = x.W) hm hB ⟨⟨{ w with drawn := w.drawn + 1 }, ⟨rfl, rfl, rfl, Nat.le_refl _, fun _ _ => rfl⟩⟩, rfl⟩ (by simpa using h)
end Go.Proofs.Ytneclonahddipaa
