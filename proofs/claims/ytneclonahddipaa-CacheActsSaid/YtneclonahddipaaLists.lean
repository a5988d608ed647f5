/- Keys and Granted: the sorted lists that they return. -/
import Derived.Test.YtneclonahddipaaGranted
namespace Go.Proofs.Ytneclonahddipaa
open Go.RowKit Go.Maps Go.Sort Go.Shelf

attribute [local go_sem] Oper.semAt_some

theorem info9 : (Try.prog.info? 9).map (fun i => (i.zero, i.size, i.bytes)) = some (some (.string ByteArray.empty), 1, 16) := by kernel_rfl

theorem appended2 {W w1 : World} {n₁ B : Nat} {t e : TypeId} {size : Nat} {v v' : Value} {k m : Nat} {xs ys : List Value} {tmp : Obj}
    (hv : Boxed W B t v) (hte : t ≠ e) (hrow : W.ownsRow n₁ e size v k xs) (hn₁ : n₁ ≤ W.heap.size) (hB : B < n₁)
    (hown' : w1.ownsRow n₁ e size v' m ys) (hgrow : (W.alloc tmp).grownBy w1 v.ownBlock) :
    Boxed w1 B t v ∧ Boxed (w1.setCell ⟨B, 0, none⟩ v') B t v' ∧ (w1.setCell ⟨B, 0, none⟩ v').ownsRow n₁ e size v' m ys ∧ KeepsOthers W (w1.setCell ⟨B, 0, none⟩ v') ∧ KpG B n₁ W (w1.setCell ⟨B, 0, none⟩ v') ∧ Below B W (w1.setCell ⟨B, 0, none⟩ v') := by
  obtain ⟨r1, r2, _, r4, r5⟩ := hv.appended hte (ownsRow_base_a hrow (Nat.zero_le _)) (Nat.zero_le _) (Nat.zero_le _) (ownsRow_base_a hown' (Nat.zero_le _)) hgrow
  have hblk : ∀ k, k < n₁ → k ≠ B → (w1.setCell ⟨B, 0, none⟩ v').heap[k]? = W.heap[k]? := by
    intro k hk hkB
    have h1 : (w1.setCell ⟨B, 0, none⟩ v').heap[k]? = w1.heap[k]? := Below.heap_setCell _ _ _ _ hkB
    have h2 : w1.heap[k]? = (W.alloc tmp).heap[k]? := hgrow.block k (by simp; omega) (by
      rcases hrow.2 with ⟨rfl, _⟩ | ⟨g, cap, cur, rfl, hb, _⟩
      · simp [Value.ownBlock]
      · simp only [Value.ownBlock, ne_eq, Option.some.injEq]; omega)
    exact (h1.trans h2).trans (Below.heap_alloc _ _ _ (by omega))
  refine ⟨r1, r2, hown'.kept (grownBy_setCell' w1 B v') (.inr (r1.not_row hte hown').symm), r4, ⟨r4.walks, hblk⟩, ⟨r5.os, r5.tape, r5.output, r5.size, fun k hk => hblk k (by omega) (by omega)⟩⟩

set_option maxHeartbeats 1000000 in
/-- Keys. -/
theorem keys_any (b ma mg n : Nat) (A G : DataW Unit) (w : World) (h : IsCache w b ma mg n A G) (hn : n ≤ 1000000) :
    Calls Try.prog 15 #[.pointer (some ⟨b, 0, none⟩)] w fun e w' => ∃ (v : Value) (ss : List (List UInt8)), e = .returned v ∧ ss.Perm (strKeys A) ∧
      w'.ownsRow w.heap.size 9 1 v ss.length ((ss.mergeSort leB).map encStr) ∧ (v = .slice none 0 0 ↔ ss = []) ∧ Below w.heap.size w w' := by
  have hsz := h.am.size_le
  have hmax : Maps.size A ≤ maxLen := by unfold maxLen; omega
  have hbytes : Maps.size A * 16 ≤ 140737488355328 := by omega
  have hc := h.c0
  have hown := h.am
  refine (callsIn_wide (n := 6)).1 ?_
  have hfK : Fence.wide.fn 30 := trivial
  have hfS : Fence.wide.fn 29 := trivial
  refine callsIn_of_wp Try.func15 rfl trivial ?_ rfl
  simp only [Try.ntmps15, List.size_toArray, List.length_cons, List.length_nil, Nat.reduceAdd, Nat.reduceSub, Array.replicate_succ, Array.replicate_zero, List.push_toArray, List.append_toArray, List.nil_append, List.cons_append]
  gi_wp2_with (first
    | (refine ⟨trivial, ?_⟩; gi_at_call 28; refine (callsIn_wide.2 (none_cache b ma _ hc)).mono ?_; rintro e w' ⟨rfl, rfl⟩)
    | (gi_at_call 30; refine (Try.maps_Keys_30 _ _).mono ?_; rintro e w' ⟨rfl, rfl⟩)
    | (gi_at_call 29; refine (Try.slices_Sorted_keys_29_30 ma n A (plainElem Try.prog 9) _ hown hmax hbytes).mono ?_; rintro e w' ⟨v, ss, rfl, hS, hrow, hnil, hb⟩))
  go_ret
  exact ⟨v, ss, rfl, hS, ownsRow_base_a hrow (by simp), hnil, ((Below.refl _ _).alloc (Nat.le_refl _) _).trans (hb.mono (by simp))⟩
end Go.Proofs.Ytneclonahddipaa
