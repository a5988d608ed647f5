/- The reference's Copy: the walk; its Put of a key that lies there. -/
import Derived.Test.YtneclonahddipaaRefCopy
namespace Go.Proofs.Ytneclonahddipaa
open Go.RowKit Go.Maps Go.Sort Go.Shelf

def putErr (es : List Ent) (key text : ByteArray) : Int := if textOf es key = text then 0 else 8
set_option maxHeartbeats 1000000 in
theorem putRef_old (base p : Nat) (E : Value) (es : List Ent) (key text : ByteArray) (w : World) (h : IsRef base w p E es) (hl : es.length ≤ 1000000) (hx : isOf es key = true) :
    Calls Try.prog 20 #[.pointer (some ⟨p, 0, none⟩), .string key, .string text] w fun e w' => e = .returned (.int .i64 (putErr es key text)) ∧ w = w' := by
  obtain ⟨A, cap, rfl⟩ := h.slice
  have cb := h.box.cell
  have HI := Lib.hid h
  rcases findI_cases es key with ⟨h1, h2, _⟩ | ⟨i, hi, h1, h2, _⟩
  · unfold isOf at hx; rw [h2] at hx; cases hx
  · obtain ⟨g, rfl, _, _, _, _, c1, _⟩ := h.ent hi
    have H1 := Lib.hid h1
    have HT := Lib.hid (show textOf es key = (es[i]?.getD default).text by unfold textOf; rw [h2])
    have hi0 : (0 : Int) ≤ (i : Int) := by omega
    have hi1 : (i : Int) < (es.length : Int) := by omega
    clear h1 h2 h hi hx
    by_cases ht : (es[i]?.getD default).text = text
    · have hself := bytes_beq_self text
      rw [ht] at c1 HT
      have HF := Lib.hid (show putErr es key text = 0 by unfold putErr; rw [HT.out, if_pos rfl])
      clear ht HT
      go_enter Try.func20, Try.ntmps20
      go_wp2_with (go_at_call 33; refine (find_any _ _ _ es key _ HI.out hl).mono ?_; rintro e w' ⟨rfl, rfl⟩; rw [H1.out])
      go_ret
      exact ⟨by rw [HF.out]; rfl, rfl⟩
    · have hne := toList_beq_false ht
      have HF := Lib.hid (show putErr es key text = 8 by unfold putErr; rw [HT.out, if_neg ht])
      generalize (es[i]?.getD default).text = tt at *
      clear ht HT
      go_enter Try.func20, Try.ntmps20
      go_wp2_with (go_at_call 33; refine (find_any _ _ _ es key _ HI.out hl).mono ?_; rintro e w' ⟨rfl, rfl⟩; rw [H1.out])
      go_ret
      exact ⟨by rw [HF.out]; rfl, rfl⟩

/-- The like entries. -/
def Like (a b : List Ent) : Prop := a.map (fun e => (e.key, e.text, e.names)) = b.map (fun e => (e.key, e.text, e.names))
theorem like_step {es es' : List Ent} {j : Nat} (hj : j < es.length) (h : Like es' (es.take j)) (v : Value) : Like (es' ++ [⟨(es[j]?.getD default).key, (es[j]?.getD default).text, v, (es[j]?.getD default).names⟩]) (es.take (j + 1)) := by
  unfold Like at h ⊢
  rw [List.take_succ_eq_append_getElem hj, List.map_append, List.map_append, h]
  simp [hj]

theorem one_str (l : List ByteArray) : ∀ u ∈ l.map Value.string, u.oneCell' = true := by
  intro u hu
  obtain ⟨x, _, rfl⟩ := List.mem_map.1 hu
  rfl

attribute [local go_sem] Oper.semAt_some
set_option maxRecDepth 100000 in
set_option maxHeartbeats 2000000 in
theorem copyRef_any (base p : Nat) (E : Value) (es : List Ent) (w : World) (h : IsRef base w p E es) (hl : es.length ≤ 1000000) (hn : ∀ e ∈ es, e.names.length ≤ 1000000) :
    Calls Try.prog 23 #[.pointer (some ⟨p, 0, none⟩)] w fun e w' => e = .returned (.pointer (some ⟨w.heap.size, 0, none⟩)) ∧
      ∃ v' es', IsRef w.heap.size w' w.heap.size v' es' ∧ Like es' es ∧ Below w.heap.size w w' := by
  obtain ⟨A, cap, rfl⟩ := h.slice
  have cb := h.box.cell
  have hp := h.box.lt
  have HI := Lib.hid h
  clear h
  refine (callsIn_wide (n := 6)).1 ?_
  have h1 : 1 ≤ 6 := by omega
  refine callsIn_of_wp Try.func23 rfl trivial ?_ rfl
  simp only [Try.ntmps23, List.size_toArray, List.length_cons, List.length_nil, Nat.reduceAdd, Nat.reduceSub, Array.replicate_succ, Array.replicate_zero, List.push_toArray, List.append_toArray, List.nil_append, List.cons_append]
  gi_wp2
  gi_loopw [4] (fun i wr => ∃ j : Nat, j ≤ es.length ∧ i = .int .i64 (j : Int) ∧ Below w.heap.size w wr ∧ ∃ v' es', es'.length = j ∧ IsRef w.heap.size wr w.heap.size v' es' ∧ Like es' (es.take j)) (fun i _ => es.length - (intOf i).toNat)
  case atStart => exact ⟨0, Nat.zero_le _, rfl, by go_grown, .slice none 0 0, [], rfl, ⟨Boxed.new w 63 _, World.ownsRow_nil _ _ _ _, fun i e h => by simp at h, fun i j a b h => by simp at h, fun i e h => by simp at h⟩, by simp [Like]⟩
  case round =>
    obtain ⟨j, hj, rfl, hBw, v', es', hlen, HD, hlike⟩ := hrel
    have hI2 := HI.out.later hBw
    obtain ⟨A2, cap2, rfl⟩ := HD.slice
    have cb2 : wr.cell? ⟨p, 0, none⟩ = some (.slice A es.length cap) := hI2.box.cell
    have cd : wr.cell? ⟨w.heap.size, 0, none⟩ = some (.slice A2 es'.length cap2) := HD.box.cell
    have hNs := HD.box.lt
    clear cb
    rcases Nat.lt_or_ge j es.length with hlt | hge
    · obtain ⟨g, rfl, _, hg, _, c0, c1, c2⟩ := hI2.ent hlt
      have hi0 : (0 : Int) ≤ (j : Int) := by omega
      have hi1 : (j : Int) < (es.length : Int) := by omega
      have hns := hI2.ns j (es[j]?.getD default) (by simp [hlt])
      have hok := hI2.ok j (es[j]?.getD default) (by simp [hlt])
      have hnl := hn (es[j]?.getD default) (by simp [hlt])
      obtain ⟨i0, hi66, hz0, hz1, hz2⟩ := info_parts info66
      obtain ⟨i9, hi9, hy0, hy1, hy2⟩ := info_parts info9
      have hmx : Try.prog.follows .mixedOrders = true := by kernel_rfl
      have HLK := Lib.hid (like_step hlt hlike)
      have HHD := Lib.hid HD
      have HNS := Lib.hid hns
      have HOK := Lib.hid hok
      have HBW := Lib.hid hBw
      clear hlike HD hns hok hBw hI2
      generalize es[j]?.getD default = en at *
      obtain ⟨kk, tt, nn, nms⟩ := en
      dsimp only at *
      have xE : ∀ X : SameAt wr (fun k => k = p ∨ k = g ∨ k = w.heap.size), X.W.cell? ⟨p, 0, none⟩ = some (.slice (some ⟨g, 0, none⟩) es.length cap) := fun X => X.cell (.inl rfl) cb2
      have xD : ∀ X : SameAt wr (fun k => k = p ∨ k = g ∨ k = w.heap.size), X.W.cell? ⟨w.heap.size, 0, none⟩ = some (.slice A2 es'.length cap2) := fun X => X.cell (.inr (.inr rfl)) cd
      have x0 : ∀ X : SameAt wr (fun k => k = p ∨ k = g ∨ k = w.heap.size), X.W.cell? ⟨g, j * 3, none⟩ = some (.string kk) := fun X => X.cell (.inr (.inl rfl)) c0
      have x1 : ∀ X : SameAt wr (fun k => k = p ∨ k = g ∨ k = w.heap.size), X.W.cell? ⟨g, j * 3 + 1, none⟩ = some (.string tt) := fun X => X.cell (.inr (.inl rfl)) c1
      have x2 : ∀ X : SameAt wr (fun k => k = p ∨ k = g ∨ k = w.heap.size), X.W.cell? ⟨g, j * 3 + 2, none⟩ = some nn := fun X => X.cell (.inr (.inl rfl)) c2
      clear c0 c1 c2
      have hgw : g < w.heap.size := (HI.out.row.lt g rfl).2
      have hS : ∀ k, (k = p ∨ k = g ∨ k = w.heap.size) → k < wr.heap.size := by rintro k (rfl | rfl | rfl) <;> omega
      gi_wp2
      refine wpIn_open (IsSame wr (fun k => k = p ∨ k = g ∨ k = w.heap.size)) [0, 1, 2, 3, 4, 5, 6, 7, 8, 9, 10, 11, 12, 13, 14, 15, 16, 17, 18, 19, 20, 22, 23, 24, 25, 26, 27, 28, 29] [34, 35, 36] hmx (by kernel_rfl) (isSame_of fun _ _ => rfl) ?_
      change wpQuietIn _ _ _ _ (fun W => ∃ x : SameAt wr (fun k => k = p ∨ k = g ∨ k = w.heap.size), W = x.W) _ _ _
      simp only [pick_cons, pick_nil, List.getElem?_cons_zero, List.getElem?_cons_succ, Option.elim_some]
      repeat (gi_big_quiet_step (fail))
      refine wpQuietIn_nil ?_
      clear xE xD x0 x1 x2
      change wpRest _ _ _ _ _ _ _ (7 + 1) _ _ _
      refine rest_one 21 (by kernel_rfl) rfl ?_
      gi_wp2
      refine rest_post (isSame_below (n := wr.heap.size) (by go_grown) hS) ?_
      refine rest_one 30 (by kernel_rfl) rfl ?_
      have ho0 : ((wr.alloc (.cells #[] 9)).drew).ownsRow wr.heap.size 9 1 (.slice (some ⟨wr.heap.size, 0, none⟩) 0 0) 0 [] := own0g (Nat.le_refl _) (heap1 wr _)
      have hn0 : ((wr.alloc (.cells #[] 9)).drew).ownsRow base 9 1 nn nms.length (nms.map Value.string) := HNS.out.alloc _
      have hB0 : Below wr.heap.size wr (wr.alloc (.cells #[] 9)).drew := by go_grown
      refine wpListIn_append_src _ rfl _ _ 33 rfl wr.heap.size 9 i9 (.string ByteArray.empty) 1 16 Try.underlying33 hi9 hy0 hy1 hy2 rfl (by decide) (.slice (some ⟨wr.heap.size, 0, none⟩) 0 0) 0 [] rfl ho0 _ nms.length (nms.map Value.string) rfl (src_row hn0) (one_str nms) (by unfold maxLen; omega) (by omega) (by first | omega | (simp; try omega)) ?_
      intro v46 w3 hown3 hgrow3
      rw [Nat.zero_add, List.nil_append] at hown3
      gi_wp2
      have hB3 := below_grow hB0 hB0.size ho0 hgrow3
      obtain ⟨A6, c6, rfl⟩ := slice_of hown3
      refine rest_post (isSame_below hB3 hS) ?_
      refine rest_one 31 (by kernel_rfl) rfl ?_
      gi_wp2
      refine rest_post (isSame_below hB3 hS) ?_
      refine rest_one 32 (by kernel_rfl) rfl ?_
      gi_wp2
      have hB4 : Below wr.heap.size wr (w3.alloc (.cells #[.string kk, .string tt, .slice A6 nms.length c6] 66)) := hB3.alloc hB3.size _
      have h46 := hown3.alloc (.cells #[.string kk, .string tt, .slice A6 nms.length c6] 66)
      have h58 : (w3.alloc (.cells #[.string kk, .string tt, .slice A6 nms.length c6] 66)).heap[w3.heap.size]? = some (.cells #[.string kk, .string tt, .slice A6 nms.length c6] 66) := heap_alloc_new w3 _
      generalize w3.alloc (.cells #[.string kk, .string tt, .slice A6 nms.length c6] 66) = W4 at *
      have hs4 := hB4.size
      have hrow4 : W4.ownsRow w.heap.size 66 3 (.slice A2 j cap2) j (es'.flatMap Ent.cells) := by
        have := HHD.out.row.kept (grown_none hB4 none) (by cases (Value.slice A2 es'.length cap2).ownBlock <;> simp)
        rw [hlen] at this
        exact this
      refine rest_post (isSame_below hB4 hS) ?_
      refine rest_one 33 (by kernel_rfl) rfl ?_
      refine wpListIn_append_src _ rfl _ _ 61 rfl w.heap.size 66 i0 (.agg #[.string ByteArray.empty, .string ByteArray.empty, .slice none 0 0]) 3 56 Try.underlying61 hi66 hz0 hz1 hz2 rfl (by decide) (.slice A2 j cap2) j (es'.flatMap Ent.cells) rfl hrow4 _ 1 [.string kk, .string tt, .slice A6 nms.length c6] rfl (src58 h58) (one58 _ _ _ _ _) (by unfold maxLen; omega) (by omega) (by omega) ?_
      intro v49 w5 hown5 hgrow5
      gi_wp2
      obtain ⟨A7, c7, rfl⟩ := slice_of hown5
      have hfar : ∀ k, (k = p ∨ k = g ∨ k = w.heap.size) → some k ≠ (Value.slice A2 j cap2).ownBlock := by
        intro k hk e
        have h1 := (hrow4.lt k e.symm).1
        rcases hk with rfl | rfl | rfl
        · omega
        · omega
        · have := HHD.out.box.not_row (by decide) HHD.out.row
          rw [hlen] at this
          exact this e
      have hsame5 : ∀ k, (k = p ∨ k = g ∨ k = w.heap.size) → w5.heap[k]? = wr.heap[k]? := fun k hk => (hgrow5.block k (by have := hS k hk; omega) (hfar k hk)).trans (hB4.block k (hS k hk))
      have b5 : Boxed w5 w.heap.size 63 (.slice A2 es'.length cap2) := (hsame5 _ (.inr (.inr rfl))).trans HHD.out.box
      have c5 := b5.cell
      have f5 := b5.frozen
      refine rest_post (isSame_of hsame5) ?_
      refine rest_one 34 (by kernel_rfl) rfl ?_
      gi_wp2
      refine rest_last (by kernel_rfl) ?_
      refine rest_one 35 (by kernel_rfl) rfl ?_
      gi_wp2
      refine rest_last (by kernel_rfl) ?_
      refine rest_one 36 (by kernel_rfl) rfl ?_
      gi_wp2
      refine rest_last (by kernel_rfl) ?_
      refine rest_done (by kernel_rfl) ?_
      have hfin := copy_fin (key := kk) (text := tt) (names := nms) HHD.out HOK.out.1 HOK.out.2.1 HOK.out.2.2 hB4 h46 (by rw [hlen]; exact hgrow5) (by rw [hlen]; exact hown5)
      have hbel := copy_below (v49 := .slice A7 (j + 1) c7) HBW.out rfl HHD.out hB4 (by rw [hlen]; exact hgrow5)
      have HFIN := Lib.hid hfin
      have HBEL := Lib.hid hbel
      clear hfin hbel b5 c5 f5 hsame5 hfar hrow4 h58 h46 hB4 hB3 hgrow5 hown5 hgrow3 hown3
      gi_wp2
      go_roundw
      case rel => exact ⟨j + 1, by omega, by simp, HBEL.out, _, _, by simp [hlen], HFIN.out, HLK.out _⟩
      case measure => simp [intOf]; omega
    · have hje : j = es.length := by omega
      have hi1 : ¬ (j : Int) < (es.length : Int) := by omega
      have HLK := Lib.hid (show Like es' es by rw [hje, List.take_length] at hlike; exact hlike)
      have HHD := Lib.hid HD
      have HBW := Lib.hid hBw
      clear hlike HD hBw hI2 hje
      gi_wp2
      go_ret
      exact ⟨rfl, _, _, HHD.out, HLK.out, HBW.out⟩
end Go.Proofs.Ytneclonahddipaa
