/- The cache's Copy. -/
import Derived.Test.YtneclonahddipaaClone
import Derived.Test.YtneclonahddipaaRefPutWalk
namespace Go.Proofs.Ytneclonahddipaa
open Go.RowKit Go.Maps Go.Sort Go.Shelf

theorem ownsMap_block {w : World} {k : TypeId} {R : Value → Option (DataW Unit × List MemPlace)} {b n : Nat} {D : DataW Unit} (h : w.ownsMap Try.prog k R b n D) : ∃ es clock, w.heap[b]? = some (.map es clock) ∧
    ∀ (w' : World) (b' : Nat), w'.heap[b']? = some (.map es clock) → w'.ownsMap Try.prog k R b' n D := by
  obtain ⟨es, clock, hb, F, hs, hD⟩ := h
  exact ⟨es, clock, hb, fun w' b' hb' => ⟨es, clock, hb', F, hs, hD⟩⟩

/-- The cache's struct, whole. -/
def CacheBox (w : World) (b ma mg : Nat) : Prop := w.heap[b]? = some (.cells #[.map (some ma), .map (some mg)] 48 (0, 0))

theorem new_any2 (w : World) : Calls Try.prog 8 #[] w fun e w' => e = .returned (.pointer (some ⟨w.heap.size + 1 + 1, 0, none⟩)) ∧ (IsCache w' (w.heap.size + 1 + 1) w.heap.size (w.heap.size + 1) 0 (.map []) (.map []) ∧ CacheBox w' (w.heap.size + 1 + 1) w.heap.size (w.heap.size + 1)) ∧ Below w.heap.size w w' := by
  have hmm := @run_makeMap Try.prog
  go_enter Try.func8, Try.ntmps8
  go_wp2
  go_ret
  have e0 := heap_alloc_new ((w.alloc (.map #[] 0)).alloc (.map #[] 0)) (.cells #[.map (some w.heap.size), .map (some (w.heap.size + 1))] 48)
  have e1 : (((w.alloc (.map #[] 0)).alloc (.map #[] 0)).alloc (.cells #[.map (some w.heap.size), .map (some (w.heap.size + 1))] 48)).heap[w.heap.size + 1 + 1]? = some (.cells #[.map (some w.heap.size), .map (some (w.heap.size + 1))] 48) := by simpa using e0
  have eA := (heap_alloc_old ((w.alloc (.map #[] 0)).alloc (.map #[] 0)) (.cells #[.map (some w.heap.size), .map (some (w.heap.size + 1))] 48) (by simp; omega)).trans (heap2a w (.map #[] 0) (.map #[] 0))
  refine ⟨by simp, ⟨⟨?_, ?_, ?_, ?_, by omega⟩, ?_⟩, by go_grown⟩
  · first | (rw [cell_of_row _ _ _ _ _ _ e1]; rfl) | (rw [World.cell?_alloc_at _ _ _ _ (by simp)]; rfl)
  · first | (rw [cell_of_row _ _ _ _ _ _ e1]; rfl) | (rw [World.cell?_alloc_at _ _ _ _ (by simp)]; rfl)
  · exact ((World.ownsMap_made w _ _ _).alloc _).alloc _
  · have := (World.ownsMap_made (w.alloc (.map #[] 0)) Try.prog 53 unitElem (H := Unit)).alloc (.cells #[.map (some w.heap.size), .map (some (w.heap.size + 1))] 48)
    simpa using this
  · exact e1

attribute [local go_sem] Oper.semAt_some
set_option maxRecDepth 100000 in
set_option maxHeartbeats 2000000 in
theorem copy_any (b ma mg n : Nat) (A G : DataW Unit) (w : World) (h : IsCache w b ma mg n A G) :
    Calls Try.prog 22 #[.pointer (some ⟨b, 0, none⟩)] w fun e w' => ∃ nb ma' mg', e = .returned (.pointer (some ⟨nb, 0, none⟩)) ∧ (IsCache w' nb ma' mg' n A G ∧ CacheBox w' nb ma' mg') ∧ (w.heap.size ≤ nb ∧ w.heap.size ≤ ma' ∧ w.heap.size ≤ mg') ∧ Below w.heap.size w w' := by
  have hc := h.c0
  have hc1 := h.c1
  obtain ⟨es, clock, hb, hO⟩ := ownsMap_block h.am
  obtain ⟨es2, clock2, hb2, hO2⟩ := ownsMap_block h.gm
  have hbs := World.block_lt_of_cell? w _ hc
  dsimp only at hbs
  have hmgs := h.gm.lt
  have hmas := h.am.lt
  have HB2 := Lib.hid hb2
  have HB := Lib.hid hb
  have HO := Lib.hid hO
  have HO2 := Lib.hid hO2
  clear h hb hb2 hO hO2
  refine (callsIn_wide (n := 6)).1 ?_
  have h1 : 1 ≤ 6 := by omega
  refine callsIn_of_wp Try.func22 rfl trivial ?_ rfl
  simp only [Try.ntmps22, List.size_toArray, List.length_cons, List.length_nil, Nat.reduceAdd, Nat.reduceSub, Array.replicate_succ, Array.replicate_zero, List.push_toArray, List.append_toArray, List.nil_append, List.cons_append]
  gi_wp2_with (refine ⟨trivial, ?_⟩; gi_at_call 28; refine (callsIn_wide.2 (none_cache b ma _ hc)).mono ?_; rintro e w' ⟨rfl, rfl⟩)
  have hmx : Try.prog.follows .mixedOrders = true := by kernel_rfl
  have xE : ∀ X : LaterD w', X.W.cell? ⟨b, 0, none⟩ = some (.map (some ma)) := fun X => X.cell hbs hc
  have xE1 : ∀ X : LaterD w', X.W.cell? ⟨b, 1, none⟩ = some (.map (some mg)) := fun X => X.cell hbs hc1
  refine wpIn_open (IsLaterD w') [0, 1, 2, 3, 5, 6, 7, 8] [] hmx (by kernel_rfl) (isLaterD_of ⟨rfl, rfl, rfl, Nat.le_refl _, fun _ _ => rfl⟩) ?_
  change wpQuietIn _ _ _ _ (fun W => ∃ x : LaterD w', W = x.W) _ _ _
  simp only [pick_cons, pick_nil, List.getElem?_cons_zero, List.getElem?_cons_succ, Option.elim_some]
  repeat (gi_big_quiet_step (fail))
  refine wpQuietIn_nil ?_
  clear xE xE1
  change wpRest _ _ _ _ _ _ _ (4 + 1) _ _ _
  refine rest_one 4 (by kernel_rfl) rfl ?_
  have hb1' : w'.drew.heap[ma]? = some (.map es clock) := HB.out
  gi_wp2_with (refine ⟨trivial, ?_⟩; gi_at_call 35; refine (callsIn_wide.2 (clone45 ma es clock _ hb1')).mono ?_; rintro e w1 ⟨rfl, rfl⟩)
  refine rest_post (isLaterD_of (by go_grown)) ?_
  refine rest_one 9 (by kernel_rfl) rfl ?_
  have hb2' : (w'.drew.alloc (.map es clock)).heap[mg]? = some (.map es2 clock2) := (Below.heap_alloc _ _ _ hmgs).trans HB2.out
  gi_wp2_with (refine ⟨trivial, ?_⟩; gi_at_call 36; refine (callsIn_wide.2 (clone46 mg es2 clock2 _ hb2')).mono ?_; rintro e w2 ⟨rfl, rfl⟩)
  refine rest_post (isLaterD_of (by go_grown)) ?_
  refine rest_one 10 (by kernel_rfl) rfl ?_
  gi_wp2
  refine rest_post (isLaterD_of (by go_grown)) ?_
  refine rest_one 11 (by kernel_rfl) rfl ?_
  gi_wp2
  refine rest_post (isLaterD_of (by go_grown)) ?_
  refine rest_one 12 (by kernel_rfl) rfl ?_
  gi_wp2
  refine rest_post (isLaterD_of (by go_grown)) ?_
  refine rest_done (by kernel_rfl) ?_
  gi_wp2
  go_ret
  have e0 : ((((w'.alloc (.map es clock)).alloc (.map es2 clock2)).alloc (.cells #[.map (some w'.heap.size), .map (some (w'.heap.size + 1))] 48)).drew).heap[w'.heap.size + 1 + 1]? = some (.cells #[.map (some w'.heap.size), .map (some (w'.heap.size + 1))] 48) := by
    have := heap_alloc_new ((w'.alloc (.map es clock)).alloc (.map es2 clock2)) (.cells #[.map (some w'.heap.size), .map (some (w'.heap.size + 1))] 48)
    show (((w'.alloc (.map es clock)).alloc (.map es2 clock2)).alloc (.cells #[.map (some w'.heap.size), .map (some (w'.heap.size + 1))] 48)).heap[w'.heap.size + 1 + 1]? = _
    simpa using this
  have eA := (heap_alloc_old ((w'.alloc (.map es clock)).alloc (.map es2 clock2)) (.cells #[.map (some w'.heap.size), .map (some (w'.heap.size + 1))] 48) (by simp; omega)).trans (heap2a w' (.map es clock) (.map es2 clock2))
  have eG := (heap_alloc_old ((w'.alloc (.map es clock)).alloc (.map es2 clock2)) (.cells #[.map (some w'.heap.size), .map (some (w'.heap.size + 1))] 48) (by simp)).trans (heap2b w' (.map es clock) (.map es2 clock2))
  refine ⟨w'.heap.size + 1 + 1, w'.heap.size, w'.heap.size + 1, rfl, ⟨⟨?_, ?_, HO.out _ _ eA, HO2.out _ _ eG, by omega⟩, e0⟩, ⟨by omega, by omega, by omega⟩, by go_grown⟩
  · rw [cell_of_row _ _ _ _ _ _ e0]; rfl
  · rw [cell_of_row _ _ _ _ _ _ e0]; rfl
end Go.Proofs.Ytneclonahddipaa
