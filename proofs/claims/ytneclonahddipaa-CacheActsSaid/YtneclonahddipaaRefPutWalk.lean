/- The reference's Put: the walk. -/
import Derived.Test.YtneclonahddipaaRefPut
namespace Go.Proofs.Ytneclonahddipaa
open Go.RowKit Go.Maps Go.Sort Go.Shelf

def keyLess (es : List Ent) (key : ByteArray) (m : Nat) : Bool := Op.bytesLess (es[m]?.getD default).key.toList key.toList
def insAt (es : List Ent) (key : ByteArray) : Nat := (es.takeWhile fun e => Op.bytesLess e.key.toList key.toList).length
def insE (es : List Ent) (key text : ByteArray) : List Ent := es.take (insAt es key) ++ ⟨key, text, .slice none 0 0, []⟩ :: es.drop (insAt es key)
theorem insAt_eq : ∀ (es : List Ent) (key : ByteArray) (j : Nat), j ≤ es.length → (∀ m, m < j → keyLess es key m = true) → (j < es.length → keyLess es key j = false) → j = insAt es key
  | [], key, j, hj, _, _ => by simp at hj; subst hj; rfl
  | x :: es, key, 0, _, _, h => by
    have := h (by simp)
    unfold keyLess at this
    unfold insAt
    rw [List.takeWhile_cons, if_neg (by simpa using this)]; rfl
  | x :: es, key, j + 1, hj, h1, h2 => by
    have h0 := h1 0 (by omega)
    unfold keyLess at h0
    have ih := insAt_eq es key j (by simpa using hj) (fun m hm => by have := h1 (m + 1) (by omega); unfold keyLess at this ⊢; simpa using this) (fun hlt => by have := h2 (by simpa using hlt); unfold keyLess at this ⊢; simpa using this)
    unfold insAt at ih ⊢
    rw [List.takeWhile_cons, if_pos (by simpa using h0), List.length_cons, ← ih]

theorem LaterD.cell {w : World} (X : LaterD w) {b o : Nat} (hb : b < w.heap.size) {v : Value} (h : w.cell? ⟨b, o, none⟩ = some v) : X.W.cell? ⟨b, o, none⟩ = some v := (X.h.cell (p := ⟨b, o, none⟩) hb).trans h
theorem info66 : (Try.prog.info? 66).map (fun i => (i.zero, i.size, i.bytes)) = some (some (.agg #[.string ByteArray.empty, .string ByteArray.empty, .slice none 0 0]), 3, 56) := by kernel_rfl

theorem own0 {W : World} {n b : Nat} (hb : n ≤ b) (h : W.heap[b]? = some (.cells #[] 66 (0, 0))) : W.ownsRow n 66 3 (.slice (some ⟨b, 0, none⟩) 0 0) 0 [] :=
  ⟨rfl, .inr ⟨b, 0, #[], rfl, hb, h, Nat.le_refl _, Nat.zero_le _, rfl, rfl⟩⟩
theorem slice_of {w : World} {base n size : Nat} {e : TypeId} {v : Value} {xs : List Value} (h : w.ownsRow base e size v n xs) : ∃ A c, v = .slice A n c := by
  rcases h.2 with ⟨e1, rfl⟩ | ⟨g, cap, cur, e1, _⟩
  · exact ⟨_, _, e1⟩
  · exact ⟨_, _, e1⟩
theorem src57 {W : World} {B : Nat} {key text : ByteArray} (h : W.heap[B]? = some (.cells #[.string key, .string text, .slice none 0 0] 66 (0, 0))) : Src W 3 (.slice (some ⟨B, 0, none⟩) 1 1) 1 [.string key, .string text, .slice none 0 0] :=
  ⟨rfl, .inr ⟨_, _, rfl, fun j u hu => World.news_of_block h j u hu⟩⟩
theorem one57 (key text : ByteArray) : ∀ u ∈ [Value.string key, .string text, .slice none 0 0], u.oneCell' = true := by
  intro u hu
  simp at hu
  rcases hu with rfl | rfl | rfl <;> rfl
theorem ns_slice {base : Nat} {w : World} {p : Nat} {E : Value} {es : List Ent} (h : IsRef base w p E es) {i : Nat} {e : Ent} (he : es[i]? = some e) : ∃ A c, e.ns = .slice A e.names.length c := by
  rcases (h.ns i e he).2 with ⟨e1, e2⟩ | ⟨g, cap, cur, e1, _⟩
  · exact ⟨none, 0, by rw [e1, e2]⟩
  · exact ⟨_, _, e1⟩
theorem one_flat {base : Nat} {w : World} {p : Nat} {E : Value} {es : List Ent} (h : IsRef base w p E es) {l : List Ent} (hl : ∀ e ∈ l, e ∈ es) : ∀ u ∈ l.flatMap Ent.cells, u.oneCell' = true := by
  intro u hu
  obtain ⟨e, he, hu⟩ := List.mem_flatMap.1 hu
  obtain ⟨i, hi, rfl⟩ := List.getElem_of_mem (hl e he)
  obtain ⟨A, c, hns⟩ := ns_slice h (i := i) (e := es[i]) (by simp [hi])
  simp [Ent.cells] at hu
  rcases hu with rfl | rfl | rfl
  · rfl
  · rfl
  · rw [hns]; rfl
theorem flat_take : ∀ (es : List Ent) (j : Nat), (es.take j).flatMap Ent.cells = (es.flatMap Ent.cells).take (j * 3)
  | [], j => by simp
  | x :: es, 0 => by simp
  | x :: es, j + 1 => by
    rw [List.take_succ_cons, List.flatMap_cons, List.flatMap_cons, flat_take es j, show (j + 1) * 3 = x.cells.length + j * 3 by simp [Ent.cells]; omega, List.take_length_add_append]
theorem flat_drop : ∀ (es : List Ent) (j : Nat), (es.drop j).flatMap Ent.cells = (es.flatMap Ent.cells).drop (j * 3)
  | [], j => by simp
  | x :: es, 0 => by simp
  | x :: es, j + 1 => by
    rw [List.drop_succ_cons, List.flatMap_cons, flat_drop es j, show (j + 1) * 3 = x.cells.length + j * 3 by simp [Ent.cells]; omega, List.drop_length_add_append]
theorem heap1 (w : World) (o : Obj) : (w.alloc o).drew.heap[w.heap.size]? = some o := heap_alloc_new w o
theorem heap2a (w : World) (o1 o2 : Obj) : ((w.alloc o1).alloc o2).drew.heap[w.heap.size]? = some o1 := (heap_alloc_old (w.alloc o1) o2 (by simp)).trans (heap_alloc_new w o1)
theorem heap2b (w : World) (o1 o2 : Obj) : ((w.alloc o1).alloc o2).drew.heap[w.heap.size + 1]? = some o2 := by
  have := heap_alloc_new (w.alloc o1) o2
  show ((w.alloc o1).alloc o2).heap[w.heap.size + 1]? = some o2
  simpa using this
theorem src0 {W : World} {A : Option Addr} {c : Nat} : Src W 3 (.slice A 0 c) 0 [] := by
  refine ⟨rfl, ?_⟩
  cases A with
  | none => exact .inl ⟨c, rfl, rfl⟩
  | some a => exact .inr ⟨a, c, rfl, fun j u h => by simp at h⟩
theorem srcA {base p g cap : Nat} {w W : World} {es : List Ent} (h : IsRef base w p (.slice (some ⟨g, 0, none⟩) es.length cap) es) {j : Nat} (hj : j ≤ es.length) (hB : Below w.heap.size w W) : Src W 3 (.slice (some ⟨g, 0, none⟩) j cap) j ((es.take j).flatMap Ent.cells) := by
  refine ⟨by rw [flat_length, List.length_take]; congr 1; omega, .inr ⟨_, _, rfl, fun i u hu => ?_⟩⟩
  rw [flat_take, List.getElem?_take] at hu
  split at hu
  · exact (h.later hB).row.cells (g := g) rfl i u hu
  · cases hu
theorem srcB {base p g cap : Nat} {w W : World} {es : List Ent} (h : IsRef base w p (.slice (some ⟨g, 0, none⟩) es.length cap) es) {j : Nat} (hB : Below w.heap.size w W) : Src W 3 (.slice (some ⟨g, j * 3, none⟩) (es.length - j) (cap - j)) (es.length - j) ((es.drop j).flatMap Ent.cells) := by
  refine ⟨by rw [flat_length, List.length_drop], .inr ⟨_, _, rfl, fun i u hu => ?_⟩⟩
  rw [flat_drop, List.getElem?_drop] at hu
  have := (h.later hB).row.cells (g := g) rfl _ u hu
  rw [addr_add3] at this ⊢
  rw [← this]
  congr 2
  omega
theorem srcB0 {W : World} {A : Option Addr} {c j : Nat} {es : List Ent} (h : es.length ≤ j) : Src W 3 (.slice A (es.length - j) c) (es.length - j) ((es.drop j).flatMap Ent.cells) := by
  rw [List.drop_of_length_le h, show es.length - j = 0 by omega]
  exact src0
theorem below_grow {n size m : Nat} {w W W' : World} {e : TypeId} {v : Value} {xs : List Value} (h : Below n w W) (hn : n ≤ W.heap.size) (ho : W.ownsRow n e size v m xs) (hg : W.grownBy W' v.ownBlock) : Below n w W' :=
  ⟨hg.os.trans h.os, hg.tape.trans h.tape, hg.output.trans h.output, Nat.le_trans h.size hg.size, fun k hk => (hg.block k (by omega) fun e => by have := (ho.lt k e.symm).1; omega).trans (h.block k hk)⟩

attribute [local go_sem] Oper.semAt_some
set_option maxRecDepth 100000 in
set_option maxHeartbeats 2000000 in
theorem putRef_new (base p : Nat) (E : Value) (es : List Ent) (key text : ByteArray) (w : World) (h : IsRef base w p E es) (hl : es.length ≤ 1000000) (hkey : key.size ≤ maxLen) (htext : text.size ≤ maxLen) (hb0 : base ≤ p) (hf : findI es key = -1) :
    Calls Try.prog 20 #[.pointer (some ⟨p, 0, none⟩), .string key, .string text] w fun e w' => e = .returned (.int .i64 0) ∧
      ∃ v', IsRef base w' p v' (insE es key text) ∧ RefTurn base p w w' := by
  obtain ⟨A, cap, rfl⟩ := h.slice
  have cb := h.box.cell
  have hp := h.box.lt
  have HI := Lib.hid h
  have HF := Lib.hid hf
  clear h hf
  refine (callsIn_wide (n := 6)).1 ?_
  have h1 : 1 ≤ 6 := by omega
  refine callsIn_of_wp Try.func20 rfl trivial ?_ rfl
  simp only [Try.ntmps20, List.size_toArray, List.length_cons, List.length_nil, Nat.reduceAdd, Nat.reduceSub, Array.replicate_succ, Array.replicate_zero, List.push_toArray, List.append_toArray, List.nil_append, List.cons_append]
  gi_wp2_with (refine ⟨trivial, ?_⟩; gi_at_call 33; refine (callsIn_wide.2 (find_any _ _ _ es key _ HI.out hl)).mono ?_; rintro e w' ⟨rfl, rfl⟩; rw [HF.out])
  gi_loopw [8] (fun i wr => w = wr ∧ ∃ j : Nat, j ≤ es.length ∧ i = .int .i64 (j : Int) ∧ ∀ m, m < j → keyLess es key m = true) (fun i _ => es.length - (intOf i).toNat)
  case atStart => exact ⟨rfl, 0, Nat.zero_le _, rfl, fun m hm => by omega⟩
  case round =>
    obtain ⟨rfl, j, hj, rfl, hno⟩ := hrel
    have HNO := Lib.hid hno
    clear hno
    by_cases hcase : j < es.length ∧ keyLess es key j = true
    · obtain ⟨hlt, hless⟩ := hcase
      obtain ⟨g, rfl, _, _, _, c0, _, _⟩ := HI.out.ent hlt
      have hi0 : (0 : Int) ≤ (j : Int) := by omega
      have hi1 : (j : Int) < (es.length : Int) := by omega
      have HN := Lib.hid (show ∀ m, m < j + 1 → keyLess es key m = true from fun m hm => by
        rcases Nat.lt_or_ge m j with h | h
        · exact HNO.out m h
        · obtain rfl : m = j := by omega
          exact hless)
      unfold keyLess at hless
      generalize (es[j]?.getD default).key = kk at *
      gi_wp2
      go_roundw
      case rel => exact ⟨trivial, j + 1, by omega, by simp, HN.out⟩
      case measure => simp [intOf]; omega
    · have hK : j = insAt es key := insAt_eq es key j hj HNO.out fun hlt => by simpa using fun e => hcase ⟨hlt, e⟩
      have HK := Lib.hid hK
      have hmx : Try.prog.follows .mixedOrders = true := by kernel_rfl
      clear hK
      obtain ⟨i0, hi66, hz0, hz1, hz2⟩ := info_parts info66
      have hi0 : (0 : Int) ≤ (j : Int) := by omega
      have hcap : A = none ∧ cap = 0 ∧ es.length = 0 ∨ ∃ g, A = some ⟨g, 0, none⟩ ∧ es.length ≤ cap ∧ cap ≤ maxLen := by
        rcases HI.out.row.2 with ⟨e, h0⟩ | ⟨g, c', cur, e, _, _, h1, h2, _⟩
        · simp only [Value.slice.injEq] at e; exact .inl ⟨e.1, e.2.2, h0⟩
        · simp only [Value.slice.injEq] at e; exact .inr ⟨g, e.1, by omega, by omega⟩
      have xE : ∀ X : LaterD w, X.W.cell? ⟨p, 0, none⟩ = some (.slice A es.length cap) := fun X => X.cell hp cb
      by_cases hlt : j < es.length
      · obtain ⟨g, rfl, _, _, _, c0, _, _⟩ := HI.out.ent hlt
        have hless : keyLess es key j = false := by simpa using fun e => hcase ⟨hlt, e⟩
        unfold keyLess at hless
        have hi1 : (j : Int) < (es.length : Int) := by omega
        have hi2 : (j : Int) ≤ (es.length : Int) := by omega
        have hi3 : (j : Int) ≤ (cap : Int) := by rcases hcap with h | ⟨_, _, h, _⟩ <;> omega
        clear hcase
        generalize (es[j]?.getD default).key = kk at *
        gi_wp2
        refine wpIn_open (IsLaterD w) [0, 2, 3, 4, 5, 6, 7, 9, 10, 11, 14, 15, 16, 17, 18, 19] [21, 22, 23] hmx (by kernel_rfl) (isLaterD_of ⟨rfl, rfl, rfl, Nat.le_refl _, fun _ _ => rfl⟩) ?_
        change wpQuietIn _ _ _ _ (fun W => ∃ x : LaterD w, W = x.W) _ _ _
        simp only [pick_cons, pick_nil, List.getElem?_cons_zero, List.getElem?_cons_succ, Option.elim_some]
        repeat (gi_big_quiet_step (fail))
        refine wpQuietIn_nil ?_
        clear xE c0
        have hN : w.heap.size ≤ w.heap.size := Nat.le_refl _
        change wpRest _ _ _ _ _ _ _ (7 + 1) _ _ _
        refine rest_two 1 12 (by kernel_rfl) rfl rfl ?_ ?_
        · gi_wp2
          refine rest_post (isLaterD_of (by go_grown)) ?_
          refine rest_two 8 12 (by kernel_rfl) rfl rfl ?_ ?_
          · have ho0 : ((w.alloc (.cells #[] 66)).drew).ownsRow w.heap.size 66 3 (.slice (some ⟨w.heap.size, 0, none⟩) 0 0) 0 [] := own0 (Nat.le_refl _) (heap1 w _)
            have hB0 : Below w.heap.size w (w.alloc (.cells #[] 66)).drew := by go_grown
            refine wpListIn_append_src _ rfl _ _ 61 rfl w.heap.size 66 i0 (.agg #[.string ByteArray.empty, .string ByteArray.empty, .slice none 0 0]) 3 56 Try.underlying61 hi66 hz0 hz1 hz2 rfl (by decide) (.slice (some ⟨w.heap.size, 0, none⟩) 0 0) 0 [] rfl ho0 _ j ((es.take j).flatMap Ent.cells) rfl (srcA HI.out hj hB0) (one_flat HI.out (fun e he => List.mem_of_mem_take he)) (by unfold maxLen; omega) (by omega) (by first | omega | (simp; try omega)) ?_
            intro v53 w3 hown2 hgrow3
            rw [Nat.zero_add, List.nil_append] at hown2
            gi_wp2
            have hB2 := below_grow hB0 hB0.size ho0 hgrow3
            refine rest_post (isLaterD_of hB2) ?_
            refine rest_one 12 (by kernel_rfl) rfl ?_
            gi_wp2
            have hB3 : Below w.heap.size w (w3.alloc (.cells #[.string key, .string text, .slice none 0 0] 66)) := hB2.alloc hB2.size _
            have hown3 := hown2.alloc (.cells #[.string key, .string text, .slice none 0 0] 66)
            have h57 : (w3.alloc (.cells #[.string key, .string text, .slice none 0 0] 66)).heap[w3.heap.size]? = some (.cells #[.string key, .string text, .slice none 0 0] 66) := heap_alloc_new w3 _
            generalize w3.alloc (.cells #[.string key, .string text, .slice none 0 0] 66) = W3 at *
            have hN3 : w.heap.size ≤ W3.heap.size := hB3.size
            refine rest_post (isLaterD_of hB3) ?_
            refine rest_one 13 (by kernel_rfl) rfl ?_
            refine wpListIn_append_src _ rfl _ _ 61 rfl w.heap.size 66 i0 (.agg #[.string ByteArray.empty, .string ByteArray.empty, .slice none 0 0]) 3 56 Try.underlying61 hi66 hz0 hz1 hz2 rfl (by decide) v53 j ((es.take j).flatMap Ent.cells) rfl hown3 _ 1 [.string key, .string text, .slice none 0 0] rfl (src57 h57) (one57 _ _) (by unfold maxLen; omega) (by omega) (by first | omega | (simp; try omega)) ?_
            intro v58 w4 hown4 hgrow4
            gi_wp2
            have hB4 := below_grow hB3 hN3 hown3 hgrow4
            have hN4 := hB4.size
            refine rest_post (isLaterD_of hB4) ?_
            refine rest_one 20 (by kernel_rfl) rfl ?_
            refine wpListIn_append_src _ rfl _ _ 61 rfl w.heap.size 66 i0 (.agg #[.string ByteArray.empty, .string ByteArray.empty, .slice none 0 0]) 3 56 Try.underlying61 hi66 hz0 hz1 hz2 rfl (by decide) v58 (j + 1) _ rfl hown4 _ (es.length - j) ((es.drop j).flatMap Ent.cells) rfl (srcB HI.out hB4) (one_flat HI.out (fun e he => List.mem_of_mem_drop he)) (by unfold maxLen; omega) (by omega) (by first | omega | (simp; try omega)) ?_
            intro v65 w5 hown5 hgrow5
            gi_wp2
            have hB5 := below_grow hB4 hN4 hown4 hgrow5
            obtain ⟨A5, cap5, rfl⟩ := slice_of hown5
            have c5 : w5.cell? ⟨p, 0, none⟩ = some _ := (hB5.cell (p := ⟨p, 0, none⟩) hp).trans cb
            have f5 : w5.frozen? ⟨p, 0, none⟩ = false := (Boxed.frozen (show Boxed w5 p 63 _ from (hB5.block p hp).trans HI.out.box))
            refine rest_post (isLaterD_of hB5) ?_
            refine rest_one 21 (by kernel_rfl) rfl ?_
            gi_wp2
            refine rest_post (isLaterD_of hB5) ?_
            refine rest_one 22 (by kernel_rfl) rfl ?_
            gi_wp2
            refine rest_post (isLaterD_of hB5) ?_
            refine rest_one 23 (by kernel_rfl) rfl ?_
            gi_wp2
            refine rest_last (by kernel_rfl) ?_
            refine rest_done (by kernel_rfl) ?_
            gi_wp2
            go_ret
            refine ⟨rfl, .slice A5 (j + 1 + (es.length - j)) cap5, ?_⟩
            unfold insE
            rw [← HK.out]
            exact put_fin HI.out hb0 (by omega) hkey htext hB5 hown5
          · gi_wp2
            refine rest_post (isLaterD_of (by go_grown)) ?_
            refine rest_one 8 (by kernel_rfl) rfl ?_
            have ho0 := own0 (Nat.le_refl _) (heap2a w (.cells #[] 66) (.cells #[.string key, .string text, .slice none 0 0] 66))
            have hB0 : Below w.heap.size w ((w.alloc (.cells #[] 66)).alloc (.cells #[.string key, .string text, .slice none 0 0] 66)).drew := by go_grown
            refine wpListIn_append_src _ rfl _ _ 61 rfl w.heap.size 66 i0 (.agg #[.string ByteArray.empty, .string ByteArray.empty, .slice none 0 0]) 3 56 Try.underlying61 hi66 hz0 hz1 hz2 rfl (by decide) (.slice (some ⟨w.heap.size, 0, none⟩) 0 0) 0 [] rfl ho0 _ j ((es.take j).flatMap Ent.cells) rfl (srcA HI.out hj hB0) (one_flat HI.out (fun e he => List.mem_of_mem_take he)) (by unfold maxLen; omega) (by omega) (by first | omega | (simp; try omega)) ?_
            intro v53 W3 hown3 hgrow3
            rw [Nat.zero_add, List.nil_append] at hown3
            gi_wp2
            have hB3 := below_grow hB0 hB0.size ho0 hgrow3
            have h57 := (hgrow3.block (w.heap.size + 1) (by simp) (by simp [Value.ownBlock])).trans (heap2b w (.cells #[] 66) (.cells #[.string key, .string text, .slice none 0 0] 66))
            have hN3 : w.heap.size ≤ W3.heap.size := hB3.size
            refine rest_post (isLaterD_of hB3) ?_
            refine rest_one 13 (by kernel_rfl) rfl ?_
            refine wpListIn_append_src _ rfl _ _ 61 rfl w.heap.size 66 i0 (.agg #[.string ByteArray.empty, .string ByteArray.empty, .slice none 0 0]) 3 56 Try.underlying61 hi66 hz0 hz1 hz2 rfl (by decide) v53 j ((es.take j).flatMap Ent.cells) rfl hown3 _ 1 [.string key, .string text, .slice none 0 0] rfl (src57 h57) (one57 _ _) (by unfold maxLen; omega) (by omega) (by first | omega | (simp; try omega)) ?_
            intro v58 w4 hown4 hgrow4
            gi_wp2
            have hB4 := below_grow hB3 hN3 hown3 hgrow4
            have hN4 := hB4.size
            refine rest_post (isLaterD_of hB4) ?_
            refine rest_one 20 (by kernel_rfl) rfl ?_
            refine wpListIn_append_src _ rfl _ _ 61 rfl w.heap.size 66 i0 (.agg #[.string ByteArray.empty, .string ByteArray.empty, .slice none 0 0]) 3 56 Try.underlying61 hi66 hz0 hz1 hz2 rfl (by decide) v58 (j + 1) _ rfl hown4 _ (es.length - j) ((es.drop j).flatMap Ent.cells) rfl (srcB HI.out hB4) (one_flat HI.out (fun e he => List.mem_of_mem_drop he)) (by unfold maxLen; omega) (by omega) (by first | omega | (simp; try omega)) ?_
            intro v65 w5 hown5 hgrow5
            gi_wp2
            have hB5 := below_grow hB4 hN4 hown4 hgrow5
            obtain ⟨A5, cap5, rfl⟩ := slice_of hown5
            have c5 : w5.cell? ⟨p, 0, none⟩ = some _ := (hB5.cell (p := ⟨p, 0, none⟩) hp).trans cb
            have f5 : w5.frozen? ⟨p, 0, none⟩ = false := (Boxed.frozen (show Boxed w5 p 63 _ from (hB5.block p hp).trans HI.out.box))
            refine rest_post (isLaterD_of hB5) ?_
            refine rest_one 21 (by kernel_rfl) rfl ?_
            gi_wp2
            refine rest_post (isLaterD_of hB5) ?_
            refine rest_one 22 (by kernel_rfl) rfl ?_
            gi_wp2
            refine rest_post (isLaterD_of hB5) ?_
            refine rest_one 23 (by kernel_rfl) rfl ?_
            gi_wp2
            refine rest_last (by kernel_rfl) ?_
            refine rest_done (by kernel_rfl) ?_
            gi_wp2
            go_ret
            refine ⟨rfl, .slice A5 (j + 1 + (es.length - j)) cap5, ?_⟩
            unfold insE
            rw [← HK.out]
            exact put_fin HI.out hb0 (by omega) hkey htext hB5 hown5
        · gi_wp2
          refine rest_post (isLaterD_of (by go_grown)) ?_
          refine rest_one 1 (by kernel_rfl) rfl ?_
          gi_wp2
          refine rest_post (isLaterD_of (by go_grown)) ?_
          refine rest_one 8 (by kernel_rfl) rfl ?_
          have ho0 := own0 (n := w.heap.size) (Nat.le_succ _) (heap2b w (.cells #[.string key, .string text, .slice none 0 0] 66) (.cells #[] 66))
          have hB0 : Below w.heap.size w ((w.alloc (.cells #[.string key, .string text, .slice none 0 0] 66)).alloc (.cells #[] 66)).drew := by go_grown
          refine wpListIn_append_src _ rfl _ _ 61 rfl w.heap.size 66 i0 (.agg #[.string ByteArray.empty, .string ByteArray.empty, .slice none 0 0]) 3 56 Try.underlying61 hi66 hz0 hz1 hz2 rfl (by decide) (.slice (some ⟨w.heap.size + 1, 0, none⟩) 0 0) 0 [] rfl ho0 _ j ((es.take j).flatMap Ent.cells) rfl (srcA HI.out hj hB0) (one_flat HI.out (fun e he => List.mem_of_mem_take he)) (by unfold maxLen; omega) (by omega) (by first | omega | (simp; try omega)) ?_
          intro v53 W3 hown3 hgrow3
          rw [Nat.zero_add, List.nil_append] at hown3
          gi_wp2
          have hB3 := below_grow hB0 hB0.size ho0 hgrow3
          have h57 := (hgrow3.block w.heap.size (by simp; omega) (by simp [Value.ownBlock])).trans (heap2a w (.cells #[.string key, .string text, .slice none 0 0] 66) (.cells #[] 66))
          have hN3 : w.heap.size ≤ W3.heap.size := hB3.size
          refine rest_post (isLaterD_of hB3) ?_
          refine rest_one 13 (by kernel_rfl) rfl ?_
          refine wpListIn_append_src _ rfl _ _ 61 rfl w.heap.size 66 i0 (.agg #[.string ByteArray.empty, .string ByteArray.empty, .slice none 0 0]) 3 56 Try.underlying61 hi66 hz0 hz1 hz2 rfl (by decide) v53 j ((es.take j).flatMap Ent.cells) rfl hown3 _ 1 [.string key, .string text, .slice none 0 0] rfl (src57 h57) (one57 _ _) (by unfold maxLen; omega) (by omega) (by first | omega | (simp; try omega)) ?_
          intro v58 w4 hown4 hgrow4
          gi_wp2
          have hB4 := below_grow hB3 hN3 hown3 hgrow4
          have hN4 := hB4.size
          refine rest_post (isLaterD_of hB4) ?_
          refine rest_one 20 (by kernel_rfl) rfl ?_
          refine wpListIn_append_src _ rfl _ _ 61 rfl w.heap.size 66 i0 (.agg #[.string ByteArray.empty, .string ByteArray.empty, .slice none 0 0]) 3 56 Try.underlying61 hi66 hz0 hz1 hz2 rfl (by decide) v58 (j + 1) _ rfl hown4 _ (es.length - j) ((es.drop j).flatMap Ent.cells) rfl (srcB HI.out hB4) (one_flat HI.out (fun e he => List.mem_of_mem_drop he)) (by unfold maxLen; omega) (by omega) (by first | omega | (simp; try omega)) ?_
          intro v65 w5 hown5 hgrow5
          gi_wp2
          have hB5 := below_grow hB4 hN4 hown4 hgrow5
          obtain ⟨A5, cap5, rfl⟩ := slice_of hown5
          have c5 : w5.cell? ⟨p, 0, none⟩ = some _ := (hB5.cell (p := ⟨p, 0, none⟩) hp).trans cb
          have f5 : w5.frozen? ⟨p, 0, none⟩ = false := (Boxed.frozen (show Boxed w5 p 63 _ from (hB5.block p hp).trans HI.out.box))
          refine rest_post (isLaterD_of hB5) ?_
          refine rest_one 21 (by kernel_rfl) rfl ?_
          gi_wp2
          refine rest_post (isLaterD_of hB5) ?_
          refine rest_one 22 (by kernel_rfl) rfl ?_
          gi_wp2
          refine rest_post (isLaterD_of hB5) ?_
          refine rest_one 23 (by kernel_rfl) rfl ?_
          gi_wp2
          refine rest_last (by kernel_rfl) ?_
          refine rest_done (by kernel_rfl) ?_
          gi_wp2
          go_ret
          refine ⟨rfl, .slice A5 (j + 1 + (es.length - j)) cap5, ?_⟩
          unfold insE
          rw [← HK.out]
          exact put_fin HI.out hb0 (by omega) hkey htext hB5 hown5
      · have hi1 : ¬ (j : Int) < (es.length : Int) := by omega
        have hi2 : (j : Int) ≤ (es.length : Int) := by omega
        by_cases hcz : cap = 0
        · have hnil : es.length = 0 := by rcases hcap with ⟨_, _, h⟩ | ⟨_, _, h, _⟩ <;> omega
          obtain rfl : es = [] := List.eq_nil_of_length_eq_zero hnil
          obtain rfl : j = 0 := by simpa using hj
          subst hcz
          have cb2 : w.cell? ⟨p, 0, none⟩ = some (.slice A 0 0) := cb
          have xE2 : ∀ X : LaterD w, X.W.cell? ⟨p, 0, none⟩ = some (.slice A 0 0) := xE
          have hA : A = none ∨ ∃ g, A = some ⟨g, 0, none⟩ := by rcases hcap with ⟨h, _⟩ | ⟨g, h, _⟩; exact .inl h; exact .inr ⟨g, h⟩
          have i1 : ¬ ((0 : Int) < (0 : Int)) := by omega
          clear hnil hcap hcase hlt hi1 hi2 hi0 xE
          have cb := cb2
          clear cb2
          rcases hA with rfl | ⟨g, rfl⟩
          · skip
            gi_wp2
            refine wpIn_open (IsLaterD w) [0, 2, 3, 4, 5, 6, 7, 9, 10, 11, 14, 15, 16, 17, 18, 19] [21, 22, 23] hmx (by kernel_rfl) (isLaterD_of ⟨rfl, rfl, rfl, Nat.le_refl _, fun _ _ => rfl⟩) ?_
            change wpQuietIn _ _ _ _ (fun W => ∃ x : LaterD w, W = x.W) _ _ _
            simp only [pick_cons, pick_nil, List.getElem?_cons_zero, List.getElem?_cons_succ, Option.elim_some]
            repeat (gi_big_quiet_step (fail))
            refine wpQuietIn_nil ?_
            clear xE2
            have hN : w.heap.size ≤ w.heap.size := Nat.le_refl _
            change wpRest _ _ _ _ _ _ _ (7 + 1) _ _ _
            refine rest_two 1 12 (by kernel_rfl) rfl rfl ?_ ?_
            · gi_wp2
              refine rest_post (isLaterD_of (by go_grown)) ?_
              refine rest_two 8 12 (by kernel_rfl) rfl rfl ?_ ?_
              · have ho0 : ((w.alloc (.cells #[] 66)).drew).ownsRow w.heap.size 66 3 (.slice (some ⟨w.heap.size, 0, none⟩) 0 0) 0 [] := own0 (Nat.le_refl _) (heap1 w _)
                have hB0 : Below w.heap.size w (w.alloc (.cells #[] 66)).drew := by go_grown
                refine wpListIn_append_src _ rfl _ _ 61 rfl w.heap.size 66 i0 (.agg #[.string ByteArray.empty, .string ByteArray.empty, .slice none 0 0]) 3 56 Try.underlying61 hi66 hz0 hz1 hz2 rfl (by decide) (.slice (some ⟨w.heap.size, 0, none⟩) 0 0) 0 [] rfl ho0 _ 0 [] rfl src0 (by simp) (by unfold maxLen; omega) (by omega) (by first | omega | (simp; try omega)) ?_
                intro v53 w3 hown2 hgrow3
                rw [Nat.zero_add, List.nil_append] at hown2
                gi_wp2
                have hB2 := below_grow hB0 hB0.size ho0 hgrow3
                refine rest_post (isLaterD_of hB2) ?_
                refine rest_one 12 (by kernel_rfl) rfl ?_
                gi_wp2
                have hB3 : Below w.heap.size w (w3.alloc (.cells #[.string key, .string text, .slice none 0 0] 66)) := hB2.alloc hB2.size _
                have hown3 := hown2.alloc (.cells #[.string key, .string text, .slice none 0 0] 66)
                have h57 : (w3.alloc (.cells #[.string key, .string text, .slice none 0 0] 66)).heap[w3.heap.size]? = some (.cells #[.string key, .string text, .slice none 0 0] 66) := heap_alloc_new w3 _
                generalize w3.alloc (.cells #[.string key, .string text, .slice none 0 0] 66) = W3 at *
                have hN3 : w.heap.size ≤ W3.heap.size := hB3.size
                refine rest_post (isLaterD_of hB3) ?_
                refine rest_one 13 (by kernel_rfl) rfl ?_
                refine wpListIn_append_src _ rfl _ _ 61 rfl w.heap.size 66 i0 (.agg #[.string ByteArray.empty, .string ByteArray.empty, .slice none 0 0]) 3 56 Try.underlying61 hi66 hz0 hz1 hz2 rfl (by decide) v53 0 [] rfl hown3 _ 1 [.string key, .string text, .slice none 0 0] rfl (src57 h57) (one57 _ _) (by unfold maxLen; omega) (by omega) (by first | omega | (simp; try omega)) ?_
                intro v58 w4 hown4 hgrow4
                gi_wp2
                have hB4 := below_grow hB3 hN3 hown3 hgrow4
                have hN4 := hB4.size
                refine rest_post (isLaterD_of hB4) ?_
                refine rest_one 20 (by kernel_rfl) rfl ?_
                refine wpListIn_append_src _ rfl _ _ 61 rfl w.heap.size 66 i0 (.agg #[.string ByteArray.empty, .string ByteArray.empty, .slice none 0 0]) 3 56 Try.underlying61 hi66 hz0 hz1 hz2 rfl (by decide) v58 (0 + 1) _ rfl hown4 _ 0 [] rfl src0 (by simp) (by unfold maxLen; omega) (by omega) (by first | omega | (simp; try omega)) ?_
                intro v65 w5 hown5 hgrow5
                gi_wp2
                have hB5 := below_grow hB4 hN4 hown4 hgrow5
                obtain ⟨A5, cap5, rfl⟩ := slice_of hown5
                have c5 : w5.cell? ⟨p, 0, none⟩ = some _ := (hB5.cell (p := ⟨p, 0, none⟩) hp).trans cb
                have f5 : w5.frozen? ⟨p, 0, none⟩ = false := (Boxed.frozen (show Boxed w5 p 63 _ from (hB5.block p hp).trans HI.out.box))
                refine rest_post (isLaterD_of hB5) ?_
                refine rest_one 21 (by kernel_rfl) rfl ?_
                gi_wp2
                refine rest_post (isLaterD_of hB5) ?_
                refine rest_one 22 (by kernel_rfl) rfl ?_
                gi_wp2
                refine rest_post (isLaterD_of hB5) ?_
                refine rest_one 23 (by kernel_rfl) rfl ?_
                gi_wp2
                refine rest_last (by kernel_rfl) ?_
                refine rest_done (by kernel_rfl) ?_
                gi_wp2
                go_ret
                refine ⟨rfl, .slice A5 (0 + 1 + 0) cap5, ?_⟩
                unfold insE
                rw [← HK.out]
                exact put_fin (k := 0) (es := []) HI.out hb0 (Nat.le_refl _) hkey htext hB5 hown5
              · gi_wp2
                refine rest_post (isLaterD_of (by go_grown)) ?_
                refine rest_one 8 (by kernel_rfl) rfl ?_
                have ho0 := own0 (Nat.le_refl _) (heap2a w (.cells #[] 66) (.cells #[.string key, .string text, .slice none 0 0] 66))
                have hB0 : Below w.heap.size w ((w.alloc (.cells #[] 66)).alloc (.cells #[.string key, .string text, .slice none 0 0] 66)).drew := by go_grown
                refine wpListIn_append_src _ rfl _ _ 61 rfl w.heap.size 66 i0 (.agg #[.string ByteArray.empty, .string ByteArray.empty, .slice none 0 0]) 3 56 Try.underlying61 hi66 hz0 hz1 hz2 rfl (by decide) (.slice (some ⟨w.heap.size, 0, none⟩) 0 0) 0 [] rfl ho0 _ 0 [] rfl src0 (by simp) (by unfold maxLen; omega) (by omega) (by first | omega | (simp; try omega)) ?_
                intro v53 W3 hown3 hgrow3
                rw [Nat.zero_add, List.nil_append] at hown3
                gi_wp2
                have hB3 := below_grow hB0 hB0.size ho0 hgrow3
                have h57 := (hgrow3.block (w.heap.size + 1) (by simp) (by simp [Value.ownBlock])).trans (heap2b w (.cells #[] 66) (.cells #[.string key, .string text, .slice none 0 0] 66))
                have hN3 : w.heap.size ≤ W3.heap.size := hB3.size
                refine rest_post (isLaterD_of hB3) ?_
                refine rest_one 13 (by kernel_rfl) rfl ?_
                refine wpListIn_append_src _ rfl _ _ 61 rfl w.heap.size 66 i0 (.agg #[.string ByteArray.empty, .string ByteArray.empty, .slice none 0 0]) 3 56 Try.underlying61 hi66 hz0 hz1 hz2 rfl (by decide) v53 0 [] rfl hown3 _ 1 [.string key, .string text, .slice none 0 0] rfl (src57 h57) (one57 _ _) (by unfold maxLen; omega) (by omega) (by first | omega | (simp; try omega)) ?_
                intro v58 w4 hown4 hgrow4
                gi_wp2
                have hB4 := below_grow hB3 hN3 hown3 hgrow4
                have hN4 := hB4.size
                refine rest_post (isLaterD_of hB4) ?_
                refine rest_one 20 (by kernel_rfl) rfl ?_
                refine wpListIn_append_src _ rfl _ _ 61 rfl w.heap.size 66 i0 (.agg #[.string ByteArray.empty, .string ByteArray.empty, .slice none 0 0]) 3 56 Try.underlying61 hi66 hz0 hz1 hz2 rfl (by decide) v58 (0 + 1) _ rfl hown4 _ 0 [] rfl src0 (by simp) (by unfold maxLen; omega) (by omega) (by first | omega | (simp; try omega)) ?_
                intro v65 w5 hown5 hgrow5
                gi_wp2
                have hB5 := below_grow hB4 hN4 hown4 hgrow5
                obtain ⟨A5, cap5, rfl⟩ := slice_of hown5
                have c5 : w5.cell? ⟨p, 0, none⟩ = some _ := (hB5.cell (p := ⟨p, 0, none⟩) hp).trans cb
                have f5 : w5.frozen? ⟨p, 0, none⟩ = false := (Boxed.frozen (show Boxed w5 p 63 _ from (hB5.block p hp).trans HI.out.box))
                refine rest_post (isLaterD_of hB5) ?_
                refine rest_one 21 (by kernel_rfl) rfl ?_
                gi_wp2
                refine rest_post (isLaterD_of hB5) ?_
                refine rest_one 22 (by kernel_rfl) rfl ?_
                gi_wp2
                refine rest_post (isLaterD_of hB5) ?_
                refine rest_one 23 (by kernel_rfl) rfl ?_
                gi_wp2
                refine rest_last (by kernel_rfl) ?_
                refine rest_done (by kernel_rfl) ?_
                gi_wp2
                go_ret
                refine ⟨rfl, .slice A5 (0 + 1 + 0) cap5, ?_⟩
                unfold insE
                rw [← HK.out]
                exact put_fin (k := 0) (es := []) HI.out hb0 (Nat.le_refl _) hkey htext hB5 hown5
            · gi_wp2
              refine rest_post (isLaterD_of (by go_grown)) ?_
              refine rest_one 1 (by kernel_rfl) rfl ?_
              gi_wp2
              refine rest_post (isLaterD_of (by go_grown)) ?_
              refine rest_one 8 (by kernel_rfl) rfl ?_
              have ho0 := own0 (n := w.heap.size) (Nat.le_succ _) (heap2b w (.cells #[.string key, .string text, .slice none 0 0] 66) (.cells #[] 66))
              have hB0 : Below w.heap.size w ((w.alloc (.cells #[.string key, .string text, .slice none 0 0] 66)).alloc (.cells #[] 66)).drew := by go_grown
              refine wpListIn_append_src _ rfl _ _ 61 rfl w.heap.size 66 i0 (.agg #[.string ByteArray.empty, .string ByteArray.empty, .slice none 0 0]) 3 56 Try.underlying61 hi66 hz0 hz1 hz2 rfl (by decide) (.slice (some ⟨w.heap.size + 1, 0, none⟩) 0 0) 0 [] rfl ho0 _ 0 [] rfl src0 (by simp) (by unfold maxLen; omega) (by omega) (by first | omega | (simp; try omega)) ?_
              intro v53 W3 hown3 hgrow3
              rw [Nat.zero_add, List.nil_append] at hown3
              gi_wp2
              have hB3 := below_grow hB0 hB0.size ho0 hgrow3
              have h57 := (hgrow3.block w.heap.size (by simp; omega) (by simp [Value.ownBlock])).trans (heap2a w (.cells #[.string key, .string text, .slice none 0 0] 66) (.cells #[] 66))
              have hN3 : w.heap.size ≤ W3.heap.size := hB3.size
              refine rest_post (isLaterD_of hB3) ?_
              refine rest_one 13 (by kernel_rfl) rfl ?_
              refine wpListIn_append_src _ rfl _ _ 61 rfl w.heap.size 66 i0 (.agg #[.string ByteArray.empty, .string ByteArray.empty, .slice none 0 0]) 3 56 Try.underlying61 hi66 hz0 hz1 hz2 rfl (by decide) v53 0 [] rfl hown3 _ 1 [.string key, .string text, .slice none 0 0] rfl (src57 h57) (one57 _ _) (by unfold maxLen; omega) (by omega) (by first | omega | (simp; try omega)) ?_
              intro v58 w4 hown4 hgrow4
              gi_wp2
              have hB4 := below_grow hB3 hN3 hown3 hgrow4
              have hN4 := hB4.size
              refine rest_post (isLaterD_of hB4) ?_
              refine rest_one 20 (by kernel_rfl) rfl ?_
              refine wpListIn_append_src _ rfl _ _ 61 rfl w.heap.size 66 i0 (.agg #[.string ByteArray.empty, .string ByteArray.empty, .slice none 0 0]) 3 56 Try.underlying61 hi66 hz0 hz1 hz2 rfl (by decide) v58 (0 + 1) _ rfl hown4 _ 0 [] rfl src0 (by simp) (by unfold maxLen; omega) (by omega) (by first | omega | (simp; try omega)) ?_
              intro v65 w5 hown5 hgrow5
              gi_wp2
              have hB5 := below_grow hB4 hN4 hown4 hgrow5
              obtain ⟨A5, cap5, rfl⟩ := slice_of hown5
              have c5 : w5.cell? ⟨p, 0, none⟩ = some _ := (hB5.cell (p := ⟨p, 0, none⟩) hp).trans cb
              have f5 : w5.frozen? ⟨p, 0, none⟩ = false := (Boxed.frozen (show Boxed w5 p 63 _ from (hB5.block p hp).trans HI.out.box))
              refine rest_post (isLaterD_of hB5) ?_
              refine rest_one 21 (by kernel_rfl) rfl ?_
              gi_wp2
              refine rest_post (isLaterD_of hB5) ?_
              refine rest_one 22 (by kernel_rfl) rfl ?_
              gi_wp2
              refine rest_post (isLaterD_of hB5) ?_
              refine rest_one 23 (by kernel_rfl) rfl ?_
              gi_wp2
              refine rest_last (by kernel_rfl) ?_
              refine rest_done (by kernel_rfl) ?_
              gi_wp2
              go_ret
              refine ⟨rfl, .slice A5 (0 + 1 + 0) cap5, ?_⟩
              unfold insE
              rw [← HK.out]
              exact put_fin (k := 0) (es := []) HI.out hb0 (Nat.le_refl _) hkey htext hB5 hown5
          · skip
            gi_wp2
            refine wpIn_open (IsLaterD w) [0, 2, 3, 4, 5, 6, 7, 9, 10, 11, 14, 15, 16, 17, 18, 19] [21, 22, 23] hmx (by kernel_rfl) (isLaterD_of ⟨rfl, rfl, rfl, Nat.le_refl _, fun _ _ => rfl⟩) ?_
            change wpQuietIn _ _ _ _ (fun W => ∃ x : LaterD w, W = x.W) _ _ _
            simp only [pick_cons, pick_nil, List.getElem?_cons_zero, List.getElem?_cons_succ, Option.elim_some]
            repeat (gi_big_quiet_step (fail))
            refine wpQuietIn_nil ?_
            clear xE2
            have hN : w.heap.size ≤ w.heap.size := Nat.le_refl _
            change wpRest _ _ _ _ _ _ _ (7 + 1) _ _ _
            refine rest_two 1 12 (by kernel_rfl) rfl rfl ?_ ?_
            · gi_wp2
              refine rest_post (isLaterD_of (by go_grown)) ?_
              refine rest_two 8 12 (by kernel_rfl) rfl rfl ?_ ?_
              · have ho0 : ((w.alloc (.cells #[] 66)).drew).ownsRow w.heap.size 66 3 (.slice (some ⟨w.heap.size, 0, none⟩) 0 0) 0 [] := own0 (Nat.le_refl _) (heap1 w _)
                have hB0 : Below w.heap.size w (w.alloc (.cells #[] 66)).drew := by go_grown
                refine wpListIn_append_src _ rfl _ _ 61 rfl w.heap.size 66 i0 (.agg #[.string ByteArray.empty, .string ByteArray.empty, .slice none 0 0]) 3 56 Try.underlying61 hi66 hz0 hz1 hz2 rfl (by decide) (.slice (some ⟨w.heap.size, 0, none⟩) 0 0) 0 [] rfl ho0 _ 0 [] rfl src0 (by simp) (by unfold maxLen; omega) (by omega) (by first | omega | (simp; try omega)) ?_
                intro v53 w3 hown2 hgrow3
                rw [Nat.zero_add, List.nil_append] at hown2
                gi_wp2
                have hB2 := below_grow hB0 hB0.size ho0 hgrow3
                refine rest_post (isLaterD_of hB2) ?_
                refine rest_one 12 (by kernel_rfl) rfl ?_
                gi_wp2
                have hB3 : Below w.heap.size w (w3.alloc (.cells #[.string key, .string text, .slice none 0 0] 66)) := hB2.alloc hB2.size _
                have hown3 := hown2.alloc (.cells #[.string key, .string text, .slice none 0 0] 66)
                have h57 : (w3.alloc (.cells #[.string key, .string text, .slice none 0 0] 66)).heap[w3.heap.size]? = some (.cells #[.string key, .string text, .slice none 0 0] 66) := heap_alloc_new w3 _
                generalize w3.alloc (.cells #[.string key, .string text, .slice none 0 0] 66) = W3 at *
                have hN3 : w.heap.size ≤ W3.heap.size := hB3.size
                refine rest_post (isLaterD_of hB3) ?_
                refine rest_one 13 (by kernel_rfl) rfl ?_
                refine wpListIn_append_src _ rfl _ _ 61 rfl w.heap.size 66 i0 (.agg #[.string ByteArray.empty, .string ByteArray.empty, .slice none 0 0]) 3 56 Try.underlying61 hi66 hz0 hz1 hz2 rfl (by decide) v53 0 [] rfl hown3 _ 1 [.string key, .string text, .slice none 0 0] rfl (src57 h57) (one57 _ _) (by unfold maxLen; omega) (by omega) (by first | omega | (simp; try omega)) ?_
                intro v58 w4 hown4 hgrow4
                gi_wp2
                have hB4 := below_grow hB3 hN3 hown3 hgrow4
                have hN4 := hB4.size
                refine rest_post (isLaterD_of hB4) ?_
                refine rest_one 20 (by kernel_rfl) rfl ?_
                refine wpListIn_append_src _ rfl _ _ 61 rfl w.heap.size 66 i0 (.agg #[.string ByteArray.empty, .string ByteArray.empty, .slice none 0 0]) 3 56 Try.underlying61 hi66 hz0 hz1 hz2 rfl (by decide) v58 (0 + 1) _ rfl hown4 _ 0 [] rfl src0 (by simp) (by unfold maxLen; omega) (by omega) (by first | omega | (simp; try omega)) ?_
                intro v65 w5 hown5 hgrow5
                gi_wp2
                have hB5 := below_grow hB4 hN4 hown4 hgrow5
                obtain ⟨A5, cap5, rfl⟩ := slice_of hown5
                have c5 : w5.cell? ⟨p, 0, none⟩ = some _ := (hB5.cell (p := ⟨p, 0, none⟩) hp).trans cb
                have f5 : w5.frozen? ⟨p, 0, none⟩ = false := (Boxed.frozen (show Boxed w5 p 63 _ from (hB5.block p hp).trans HI.out.box))
                refine rest_post (isLaterD_of hB5) ?_
                refine rest_one 21 (by kernel_rfl) rfl ?_
                gi_wp2
                refine rest_post (isLaterD_of hB5) ?_
                refine rest_one 22 (by kernel_rfl) rfl ?_
                gi_wp2
                refine rest_post (isLaterD_of hB5) ?_
                refine rest_one 23 (by kernel_rfl) rfl ?_
                gi_wp2
                refine rest_last (by kernel_rfl) ?_
                refine rest_done (by kernel_rfl) ?_
                gi_wp2
                go_ret
                refine ⟨rfl, .slice A5 (0 + 1 + 0) cap5, ?_⟩
                unfold insE
                rw [← HK.out]
                exact put_fin (k := 0) (es := []) HI.out hb0 (Nat.le_refl _) hkey htext hB5 hown5
              · gi_wp2
                refine rest_post (isLaterD_of (by go_grown)) ?_
                refine rest_one 8 (by kernel_rfl) rfl ?_
                have ho0 := own0 (Nat.le_refl _) (heap2a w (.cells #[] 66) (.cells #[.string key, .string text, .slice none 0 0] 66))
                have hB0 : Below w.heap.size w ((w.alloc (.cells #[] 66)).alloc (.cells #[.string key, .string text, .slice none 0 0] 66)).drew := by go_grown
                refine wpListIn_append_src _ rfl _ _ 61 rfl w.heap.size 66 i0 (.agg #[.string ByteArray.empty, .string ByteArray.empty, .slice none 0 0]) 3 56 Try.underlying61 hi66 hz0 hz1 hz2 rfl (by decide) (.slice (some ⟨w.heap.size, 0, none⟩) 0 0) 0 [] rfl ho0 _ 0 [] rfl src0 (by simp) (by unfold maxLen; omega) (by omega) (by first | omega | (simp; try omega)) ?_
                intro v53 W3 hown3 hgrow3
                rw [Nat.zero_add, List.nil_append] at hown3
                gi_wp2
                have hB3 := below_grow hB0 hB0.size ho0 hgrow3
                have h57 := (hgrow3.block (w.heap.size + 1) (by simp) (by simp [Value.ownBlock])).trans (heap2b w (.cells #[] 66) (.cells #[.string key, .string text, .slice none 0 0] 66))
                have hN3 : w.heap.size ≤ W3.heap.size := hB3.size
                refine rest_post (isLaterD_of hB3) ?_
                refine rest_one 13 (by kernel_rfl) rfl ?_
                refine wpListIn_append_src _ rfl _ _ 61 rfl w.heap.size 66 i0 (.agg #[.string ByteArray.empty, .string ByteArray.empty, .slice none 0 0]) 3 56 Try.underlying61 hi66 hz0 hz1 hz2 rfl (by decide) v53 0 [] rfl hown3 _ 1 [.string key, .string text, .slice none 0 0] rfl (src57 h57) (one57 _ _) (by unfold maxLen; omega) (by omega) (by first | omega | (simp; try omega)) ?_
                intro v58 w4 hown4 hgrow4
                gi_wp2
                have hB4 := below_grow hB3 hN3 hown3 hgrow4
                have hN4 := hB4.size
                refine rest_post (isLaterD_of hB4) ?_
                refine rest_one 20 (by kernel_rfl) rfl ?_
                refine wpListIn_append_src _ rfl _ _ 61 rfl w.heap.size 66 i0 (.agg #[.string ByteArray.empty, .string ByteArray.empty, .slice none 0 0]) 3 56 Try.underlying61 hi66 hz0 hz1 hz2 rfl (by decide) v58 (0 + 1) _ rfl hown4 _ 0 [] rfl src0 (by simp) (by unfold maxLen; omega) (by omega) (by first | omega | (simp; try omega)) ?_
                intro v65 w5 hown5 hgrow5
                gi_wp2
                have hB5 := below_grow hB4 hN4 hown4 hgrow5
                obtain ⟨A5, cap5, rfl⟩ := slice_of hown5
                have c5 : w5.cell? ⟨p, 0, none⟩ = some _ := (hB5.cell (p := ⟨p, 0, none⟩) hp).trans cb
                have f5 : w5.frozen? ⟨p, 0, none⟩ = false := (Boxed.frozen (show Boxed w5 p 63 _ from (hB5.block p hp).trans HI.out.box))
                refine rest_post (isLaterD_of hB5) ?_
                refine rest_one 21 (by kernel_rfl) rfl ?_
                gi_wp2
                refine rest_post (isLaterD_of hB5) ?_
                refine rest_one 22 (by kernel_rfl) rfl ?_
                gi_wp2
                refine rest_post (isLaterD_of hB5) ?_
                refine rest_one 23 (by kernel_rfl) rfl ?_
                gi_wp2
                refine rest_last (by kernel_rfl) ?_
                refine rest_done (by kernel_rfl) ?_
                gi_wp2
                go_ret
                refine ⟨rfl, .slice A5 (0 + 1 + 0) cap5, ?_⟩
                unfold insE
                rw [← HK.out]
                exact put_fin (k := 0) (es := []) HI.out hb0 (Nat.le_refl _) hkey htext hB5 hown5
            · gi_wp2
              refine rest_post (isLaterD_of (by go_grown)) ?_
              refine rest_one 1 (by kernel_rfl) rfl ?_
              gi_wp2
              refine rest_post (isLaterD_of (by go_grown)) ?_
              refine rest_one 8 (by kernel_rfl) rfl ?_
              have ho0 := own0 (n := w.heap.size) (Nat.le_succ _) (heap2b w (.cells #[.string key, .string text, .slice none 0 0] 66) (.cells #[] 66))
              have hB0 : Below w.heap.size w ((w.alloc (.cells #[.string key, .string text, .slice none 0 0] 66)).alloc (.cells #[] 66)).drew := by go_grown
              refine wpListIn_append_src _ rfl _ _ 61 rfl w.heap.size 66 i0 (.agg #[.string ByteArray.empty, .string ByteArray.empty, .slice none 0 0]) 3 56 Try.underlying61 hi66 hz0 hz1 hz2 rfl (by decide) (.slice (some ⟨w.heap.size + 1, 0, none⟩) 0 0) 0 [] rfl ho0 _ 0 [] rfl src0 (by simp) (by unfold maxLen; omega) (by omega) (by first | omega | (simp; try omega)) ?_
              intro v53 W3 hown3 hgrow3
              rw [Nat.zero_add, List.nil_append] at hown3
              gi_wp2
              have hB3 := below_grow hB0 hB0.size ho0 hgrow3
              have h57 := (hgrow3.block w.heap.size (by simp; omega) (by simp [Value.ownBlock])).trans (heap2a w (.cells #[.string key, .string text, .slice none 0 0] 66) (.cells #[] 66))
              have hN3 : w.heap.size ≤ W3.heap.size := hB3.size
              refine rest_post (isLaterD_of hB3) ?_
              refine rest_one 13 (by kernel_rfl) rfl ?_
              refine wpListIn_append_src _ rfl _ _ 61 rfl w.heap.size 66 i0 (.agg #[.string ByteArray.empty, .string ByteArray.empty, .slice none 0 0]) 3 56 Try.underlying61 hi66 hz0 hz1 hz2 rfl (by decide) v53 0 [] rfl hown3 _ 1 [.string key, .string text, .slice none 0 0] rfl (src57 h57) (one57 _ _) (by unfold maxLen; omega) (by omega) (by first | omega | (simp; try omega)) ?_
              intro v58 w4 hown4 hgrow4
              gi_wp2
              have hB4 := below_grow hB3 hN3 hown3 hgrow4
              have hN4 := hB4.size
              refine rest_post (isLaterD_of hB4) ?_
              refine rest_one 20 (by kernel_rfl) rfl ?_
              refine wpListIn_append_src _ rfl _ _ 61 rfl w.heap.size 66 i0 (.agg #[.string ByteArray.empty, .string ByteArray.empty, .slice none 0 0]) 3 56 Try.underlying61 hi66 hz0 hz1 hz2 rfl (by decide) v58 (0 + 1) _ rfl hown4 _ 0 [] rfl src0 (by simp) (by unfold maxLen; omega) (by omega) (by first | omega | (simp; try omega)) ?_
              intro v65 w5 hown5 hgrow5
              gi_wp2
              have hB5 := below_grow hB4 hN4 hown4 hgrow5
              obtain ⟨A5, cap5, rfl⟩ := slice_of hown5
              have c5 : w5.cell? ⟨p, 0, none⟩ = some _ := (hB5.cell (p := ⟨p, 0, none⟩) hp).trans cb
              have f5 : w5.frozen? ⟨p, 0, none⟩ = false := (Boxed.frozen (show Boxed w5 p 63 _ from (hB5.block p hp).trans HI.out.box))
              refine rest_post (isLaterD_of hB5) ?_
              refine rest_one 21 (by kernel_rfl) rfl ?_
              gi_wp2
              refine rest_post (isLaterD_of hB5) ?_
              refine rest_one 22 (by kernel_rfl) rfl ?_
              gi_wp2
              refine rest_post (isLaterD_of hB5) ?_
              refine rest_one 23 (by kernel_rfl) rfl ?_
              gi_wp2
              refine rest_last (by kernel_rfl) ?_
              refine rest_done (by kernel_rfl) ?_
              gi_wp2
              go_ret
              refine ⟨rfl, .slice A5 (0 + 1 + 0) cap5, ?_⟩
              unfold insE
              rw [← HK.out]
              exact put_fin (k := 0) (es := []) HI.out hb0 (Nat.le_refl _) hkey htext hB5 hown5
        · have hcap : ∃ g, A = some ⟨g, 0, none⟩ ∧ es.length ≤ cap := by
            rcases hcap with ⟨_, h, _⟩ | ⟨g, h1, h2, _⟩
            · exact absurd h hcz
            · exact ⟨g, h1, h2⟩
          obtain ⟨g, rfl, hc1⟩ := hcap
          have hi3 : (j : Int) ≤ (cap : Int) := by omega
          clear hcase hlt
          by_cases hcj : cap = j
          · skip
            gi_wp2
            refine wpIn_open (IsLaterD w) [0, 2, 3, 4, 5, 6, 7, 9, 10, 11, 14, 15, 16, 17, 18, 19] [21, 22, 23] hmx (by kernel_rfl) (isLaterD_of ⟨rfl, rfl, rfl, Nat.le_refl _, fun _ _ => rfl⟩) ?_
            change wpQuietIn _ _ _ _ (fun W => ∃ x : LaterD w, W = x.W) _ _ _
            simp only [pick_cons, pick_nil, List.getElem?_cons_zero, List.getElem?_cons_succ, Option.elim_some]
            repeat (gi_big_quiet_step (fail))
            refine wpQuietIn_nil ?_
            clear xE
            have hN : w.heap.size ≤ w.heap.size := Nat.le_refl _
            change wpRest _ _ _ _ _ _ _ (7 + 1) _ _ _
            refine rest_two 1 12 (by kernel_rfl) rfl rfl ?_ ?_
            · gi_wp2
              refine rest_post (isLaterD_of (by go_grown)) ?_
              refine rest_two 8 12 (by kernel_rfl) rfl rfl ?_ ?_
              · have ho0 : ((w.alloc (.cells #[] 66)).drew).ownsRow w.heap.size 66 3 (.slice (some ⟨w.heap.size, 0, none⟩) 0 0) 0 [] := own0 (Nat.le_refl _) (heap1 w _)
                have hB0 : Below w.heap.size w (w.alloc (.cells #[] 66)).drew := by go_grown
                refine wpListIn_append_src _ rfl _ _ 61 rfl w.heap.size 66 i0 (.agg #[.string ByteArray.empty, .string ByteArray.empty, .slice none 0 0]) 3 56 Try.underlying61 hi66 hz0 hz1 hz2 rfl (by decide) (.slice (some ⟨w.heap.size, 0, none⟩) 0 0) 0 [] rfl ho0 _ j ((es.take j).flatMap Ent.cells) rfl (by have h := srcA HI.out hj hB0; rw [hcj] at h; exact h) (one_flat HI.out (fun e he => List.mem_of_mem_take he)) (by unfold maxLen; omega) (by omega) (by first | omega | (simp; try omega)) ?_
                intro v53 w3 hown2 hgrow3
                rw [Nat.zero_add, List.nil_append] at hown2
                gi_wp2
                have hB2 := below_grow hB0 hB0.size ho0 hgrow3
                refine rest_post (isLaterD_of hB2) ?_
                refine rest_one 12 (by kernel_rfl) rfl ?_
                gi_wp2
                have hB3 : Below w.heap.size w (w3.alloc (.cells #[.string key, .string text, .slice none 0 0] 66)) := hB2.alloc hB2.size _
                have hown3 := hown2.alloc (.cells #[.string key, .string text, .slice none 0 0] 66)
                have h57 : (w3.alloc (.cells #[.string key, .string text, .slice none 0 0] 66)).heap[w3.heap.size]? = some (.cells #[.string key, .string text, .slice none 0 0] 66) := heap_alloc_new w3 _
                generalize w3.alloc (.cells #[.string key, .string text, .slice none 0 0] 66) = W3 at *
                have hN3 : w.heap.size ≤ W3.heap.size := hB3.size
                refine rest_post (isLaterD_of hB3) ?_
                refine rest_one 13 (by kernel_rfl) rfl ?_
                refine wpListIn_append_src _ rfl _ _ 61 rfl w.heap.size 66 i0 (.agg #[.string ByteArray.empty, .string ByteArray.empty, .slice none 0 0]) 3 56 Try.underlying61 hi66 hz0 hz1 hz2 rfl (by decide) v53 j ((es.take j).flatMap Ent.cells) rfl hown3 _ 1 [.string key, .string text, .slice none 0 0] rfl (src57 h57) (one57 _ _) (by unfold maxLen; omega) (by omega) (by first | omega | (simp; try omega)) ?_
                intro v58 w4 hown4 hgrow4
                gi_wp2
                have hB4 := below_grow hB3 hN3 hown3 hgrow4
                have hN4 := hB4.size
                refine rest_post (isLaterD_of hB4) ?_
                refine rest_one 20 (by kernel_rfl) rfl ?_
                refine wpListIn_append_src _ rfl _ _ 61 rfl w.heap.size 66 i0 (.agg #[.string ByteArray.empty, .string ByteArray.empty, .slice none 0 0]) 3 56 Try.underlying61 hi66 hz0 hz1 hz2 rfl (by decide) v58 (j + 1) _ rfl hown4 _ (es.length - j) ((es.drop j).flatMap Ent.cells) rfl (by first | exact srcB HI.out hB4 | exact srcB0 (by omega)) (one_flat HI.out (fun e he => List.mem_of_mem_drop he)) (by unfold maxLen; omega) (by omega) (by first | omega | (simp; try omega)) ?_
                intro v65 w5 hown5 hgrow5
                gi_wp2
                have hB5 := below_grow hB4 hN4 hown4 hgrow5
                obtain ⟨A5, cap5, rfl⟩ := slice_of hown5
                have c5 : w5.cell? ⟨p, 0, none⟩ = some _ := (hB5.cell (p := ⟨p, 0, none⟩) hp).trans cb
                have f5 : w5.frozen? ⟨p, 0, none⟩ = false := (Boxed.frozen (show Boxed w5 p 63 _ from (hB5.block p hp).trans HI.out.box))
                refine rest_post (isLaterD_of hB5) ?_
                refine rest_one 21 (by kernel_rfl) rfl ?_
                gi_wp2
                refine rest_post (isLaterD_of hB5) ?_
                refine rest_one 22 (by kernel_rfl) rfl ?_
                gi_wp2
                refine rest_post (isLaterD_of hB5) ?_
                refine rest_one 23 (by kernel_rfl) rfl ?_
                gi_wp2
                refine rest_last (by kernel_rfl) ?_
                refine rest_done (by kernel_rfl) ?_
                gi_wp2
                go_ret
                refine ⟨rfl, .slice A5 (j + 1 + (es.length - j)) cap5, ?_⟩
                unfold insE
                rw [← HK.out]
                exact put_fin HI.out hb0 (by omega) hkey htext hB5 hown5
              · gi_wp2
                refine rest_post (isLaterD_of (by go_grown)) ?_
                refine rest_one 8 (by kernel_rfl) rfl ?_
                have ho0 := own0 (Nat.le_refl _) (heap2a w (.cells #[] 66) (.cells #[.string key, .string text, .slice none 0 0] 66))
                have hB0 : Below w.heap.size w ((w.alloc (.cells #[] 66)).alloc (.cells #[.string key, .string text, .slice none 0 0] 66)).drew := by go_grown
                refine wpListIn_append_src _ rfl _ _ 61 rfl w.heap.size 66 i0 (.agg #[.string ByteArray.empty, .string ByteArray.empty, .slice none 0 0]) 3 56 Try.underlying61 hi66 hz0 hz1 hz2 rfl (by decide) (.slice (some ⟨w.heap.size, 0, none⟩) 0 0) 0 [] rfl ho0 _ j ((es.take j).flatMap Ent.cells) rfl (by have h := srcA HI.out hj hB0; rw [hcj] at h; exact h) (one_flat HI.out (fun e he => List.mem_of_mem_take he)) (by unfold maxLen; omega) (by omega) (by first | omega | (simp; try omega)) ?_
                intro v53 W3 hown3 hgrow3
                rw [Nat.zero_add, List.nil_append] at hown3
                gi_wp2
                have hB3 := below_grow hB0 hB0.size ho0 hgrow3
                have h57 := (hgrow3.block (w.heap.size + 1) (by simp) (by simp [Value.ownBlock])).trans (heap2b w (.cells #[] 66) (.cells #[.string key, .string text, .slice none 0 0] 66))
                have hN3 : w.heap.size ≤ W3.heap.size := hB3.size
                refine rest_post (isLaterD_of hB3) ?_
                refine rest_one 13 (by kernel_rfl) rfl ?_
                refine wpListIn_append_src _ rfl _ _ 61 rfl w.heap.size 66 i0 (.agg #[.string ByteArray.empty, .string ByteArray.empty, .slice none 0 0]) 3 56 Try.underlying61 hi66 hz0 hz1 hz2 rfl (by decide) v53 j ((es.take j).flatMap Ent.cells) rfl hown3 _ 1 [.string key, .string text, .slice none 0 0] rfl (src57 h57) (one57 _ _) (by unfold maxLen; omega) (by omega) (by first | omega | (simp; try omega)) ?_
                intro v58 w4 hown4 hgrow4
                gi_wp2
                have hB4 := below_grow hB3 hN3 hown3 hgrow4
                have hN4 := hB4.size
                refine rest_post (isLaterD_of hB4) ?_
                refine rest_one 20 (by kernel_rfl) rfl ?_
                refine wpListIn_append_src _ rfl _ _ 61 rfl w.heap.size 66 i0 (.agg #[.string ByteArray.empty, .string ByteArray.empty, .slice none 0 0]) 3 56 Try.underlying61 hi66 hz0 hz1 hz2 rfl (by decide) v58 (j + 1) _ rfl hown4 _ (es.length - j) ((es.drop j).flatMap Ent.cells) rfl (by first | exact srcB HI.out hB4 | exact srcB0 (by omega)) (one_flat HI.out (fun e he => List.mem_of_mem_drop he)) (by unfold maxLen; omega) (by omega) (by first | omega | (simp; try omega)) ?_
                intro v65 w5 hown5 hgrow5
                gi_wp2
                have hB5 := below_grow hB4 hN4 hown4 hgrow5
                obtain ⟨A5, cap5, rfl⟩ := slice_of hown5
                have c5 : w5.cell? ⟨p, 0, none⟩ = some _ := (hB5.cell (p := ⟨p, 0, none⟩) hp).trans cb
                have f5 : w5.frozen? ⟨p, 0, none⟩ = false := (Boxed.frozen (show Boxed w5 p 63 _ from (hB5.block p hp).trans HI.out.box))
                refine rest_post (isLaterD_of hB5) ?_
                refine rest_one 21 (by kernel_rfl) rfl ?_
                gi_wp2
                refine rest_post (isLaterD_of hB5) ?_
                refine rest_one 22 (by kernel_rfl) rfl ?_
                gi_wp2
                refine rest_post (isLaterD_of hB5) ?_
                refine rest_one 23 (by kernel_rfl) rfl ?_
                gi_wp2
                refine rest_last (by kernel_rfl) ?_
                refine rest_done (by kernel_rfl) ?_
                gi_wp2
                go_ret
                refine ⟨rfl, .slice A5 (j + 1 + (es.length - j)) cap5, ?_⟩
                unfold insE
                rw [← HK.out]
                exact put_fin HI.out hb0 (by omega) hkey htext hB5 hown5
            · gi_wp2
              refine rest_post (isLaterD_of (by go_grown)) ?_
              refine rest_one 1 (by kernel_rfl) rfl ?_
              gi_wp2
              refine rest_post (isLaterD_of (by go_grown)) ?_
              refine rest_one 8 (by kernel_rfl) rfl ?_
              have ho0 := own0 (n := w.heap.size) (Nat.le_succ _) (heap2b w (.cells #[.string key, .string text, .slice none 0 0] 66) (.cells #[] 66))
              have hB0 : Below w.heap.size w ((w.alloc (.cells #[.string key, .string text, .slice none 0 0] 66)).alloc (.cells #[] 66)).drew := by go_grown
              refine wpListIn_append_src _ rfl _ _ 61 rfl w.heap.size 66 i0 (.agg #[.string ByteArray.empty, .string ByteArray.empty, .slice none 0 0]) 3 56 Try.underlying61 hi66 hz0 hz1 hz2 rfl (by decide) (.slice (some ⟨w.heap.size + 1, 0, none⟩) 0 0) 0 [] rfl ho0 _ j ((es.take j).flatMap Ent.cells) rfl (by have h := srcA HI.out hj hB0; rw [hcj] at h; exact h) (one_flat HI.out (fun e he => List.mem_of_mem_take he)) (by unfold maxLen; omega) (by omega) (by first | omega | (simp; try omega)) ?_
              intro v53 W3 hown3 hgrow3
              rw [Nat.zero_add, List.nil_append] at hown3
              gi_wp2
              have hB3 := below_grow hB0 hB0.size ho0 hgrow3
              have h57 := (hgrow3.block w.heap.size (by simp; omega) (by simp [Value.ownBlock])).trans (heap2a w (.cells #[.string key, .string text, .slice none 0 0] 66) (.cells #[] 66))
              have hN3 : w.heap.size ≤ W3.heap.size := hB3.size
              refine rest_post (isLaterD_of hB3) ?_
              refine rest_one 13 (by kernel_rfl) rfl ?_
              refine wpListIn_append_src _ rfl _ _ 61 rfl w.heap.size 66 i0 (.agg #[.string ByteArray.empty, .string ByteArray.empty, .slice none 0 0]) 3 56 Try.underlying61 hi66 hz0 hz1 hz2 rfl (by decide) v53 j ((es.take j).flatMap Ent.cells) rfl hown3 _ 1 [.string key, .string text, .slice none 0 0] rfl (src57 h57) (one57 _ _) (by unfold maxLen; omega) (by omega) (by first | omega | (simp; try omega)) ?_
              intro v58 w4 hown4 hgrow4
              gi_wp2
              have hB4 := below_grow hB3 hN3 hown3 hgrow4
              have hN4 := hB4.size
              refine rest_post (isLaterD_of hB4) ?_
              refine rest_one 20 (by kernel_rfl) rfl ?_
              refine wpListIn_append_src _ rfl _ _ 61 rfl w.heap.size 66 i0 (.agg #[.string ByteArray.empty, .string ByteArray.empty, .slice none 0 0]) 3 56 Try.underlying61 hi66 hz0 hz1 hz2 rfl (by decide) v58 (j + 1) _ rfl hown4 _ (es.length - j) ((es.drop j).flatMap Ent.cells) rfl (by first | exact srcB HI.out hB4 | exact srcB0 (by omega)) (one_flat HI.out (fun e he => List.mem_of_mem_drop he)) (by unfold maxLen; omega) (by omega) (by first | omega | (simp; try omega)) ?_
              intro v65 w5 hown5 hgrow5
              gi_wp2
              have hB5 := below_grow hB4 hN4 hown4 hgrow5
              obtain ⟨A5, cap5, rfl⟩ := slice_of hown5
              have c5 : w5.cell? ⟨p, 0, none⟩ = some _ := (hB5.cell (p := ⟨p, 0, none⟩) hp).trans cb
              have f5 : w5.frozen? ⟨p, 0, none⟩ = false := (Boxed.frozen (show Boxed w5 p 63 _ from (hB5.block p hp).trans HI.out.box))
              refine rest_post (isLaterD_of hB5) ?_
              refine rest_one 21 (by kernel_rfl) rfl ?_
              gi_wp2
              refine rest_post (isLaterD_of hB5) ?_
              refine rest_one 22 (by kernel_rfl) rfl ?_
              gi_wp2
              refine rest_post (isLaterD_of hB5) ?_
              refine rest_one 23 (by kernel_rfl) rfl ?_
              gi_wp2
              refine rest_last (by kernel_rfl) ?_
              refine rest_done (by kernel_rfl) ?_
              gi_wp2
              go_ret
              refine ⟨rfl, .slice A5 (j + 1 + (es.length - j)) cap5, ?_⟩
              unfold insE
              rw [← HK.out]
              exact put_fin HI.out hb0 (by omega) hkey htext hB5 hown5
          · skip
            gi_wp2
            refine wpIn_open (IsLaterD w) [0, 2, 3, 4, 5, 6, 7, 9, 10, 11, 14, 15, 16, 17, 18, 19] [21, 22, 23] hmx (by kernel_rfl) (isLaterD_of ⟨rfl, rfl, rfl, Nat.le_refl _, fun _ _ => rfl⟩) ?_
            change wpQuietIn _ _ _ _ (fun W => ∃ x : LaterD w, W = x.W) _ _ _
            simp only [pick_cons, pick_nil, List.getElem?_cons_zero, List.getElem?_cons_succ, Option.elim_some]
            repeat (gi_big_quiet_step (fail))
            refine wpQuietIn_nil ?_
            clear xE
            have hN : w.heap.size ≤ w.heap.size := Nat.le_refl _
            change wpRest _ _ _ _ _ _ _ (7 + 1) _ _ _
            refine rest_two 1 12 (by kernel_rfl) rfl rfl ?_ ?_
            · gi_wp2
              refine rest_post (isLaterD_of (by go_grown)) ?_
              refine rest_two 8 12 (by kernel_rfl) rfl rfl ?_ ?_
              · have ho0 : ((w.alloc (.cells #[] 66)).drew).ownsRow w.heap.size 66 3 (.slice (some ⟨w.heap.size, 0, none⟩) 0 0) 0 [] := own0 (Nat.le_refl _) (heap1 w _)
                have hB0 : Below w.heap.size w (w.alloc (.cells #[] 66)).drew := by go_grown
                refine wpListIn_append_src _ rfl _ _ 61 rfl w.heap.size 66 i0 (.agg #[.string ByteArray.empty, .string ByteArray.empty, .slice none 0 0]) 3 56 Try.underlying61 hi66 hz0 hz1 hz2 rfl (by decide) (.slice (some ⟨w.heap.size, 0, none⟩) 0 0) 0 [] rfl ho0 _ j ((es.take j).flatMap Ent.cells) rfl (srcA HI.out hj hB0) (one_flat HI.out (fun e he => List.mem_of_mem_take he)) (by unfold maxLen; omega) (by omega) (by first | omega | (simp; try omega)) ?_
                intro v53 w3 hown2 hgrow3
                rw [Nat.zero_add, List.nil_append] at hown2
                gi_wp2
                have hB2 := below_grow hB0 hB0.size ho0 hgrow3
                refine rest_post (isLaterD_of hB2) ?_
                refine rest_one 12 (by kernel_rfl) rfl ?_
                gi_wp2
                have hB3 : Below w.heap.size w (w3.alloc (.cells #[.string key, .string text, .slice none 0 0] 66)) := hB2.alloc hB2.size _
                have hown3 := hown2.alloc (.cells #[.string key, .string text, .slice none 0 0] 66)
                have h57 : (w3.alloc (.cells #[.string key, .string text, .slice none 0 0] 66)).heap[w3.heap.size]? = some (.cells #[.string key, .string text, .slice none 0 0] 66) := heap_alloc_new w3 _
                generalize w3.alloc (.cells #[.string key, .string text, .slice none 0 0] 66) = W3 at *
                have hN3 : w.heap.size ≤ W3.heap.size := hB3.size
                refine rest_post (isLaterD_of hB3) ?_
                refine rest_one 13 (by kernel_rfl) rfl ?_
                refine wpListIn_append_src _ rfl _ _ 61 rfl w.heap.size 66 i0 (.agg #[.string ByteArray.empty, .string ByteArray.empty, .slice none 0 0]) 3 56 Try.underlying61 hi66 hz0 hz1 hz2 rfl (by decide) v53 j ((es.take j).flatMap Ent.cells) rfl hown3 _ 1 [.string key, .string text, .slice none 0 0] rfl (src57 h57) (one57 _ _) (by unfold maxLen; omega) (by omega) (by first | omega | (simp; try omega)) ?_
                intro v58 w4 hown4 hgrow4
                gi_wp2
                have hB4 := below_grow hB3 hN3 hown3 hgrow4
                have hN4 := hB4.size
                refine rest_post (isLaterD_of hB4) ?_
                refine rest_one 20 (by kernel_rfl) rfl ?_
                refine wpListIn_append_src _ rfl _ _ 61 rfl w.heap.size 66 i0 (.agg #[.string ByteArray.empty, .string ByteArray.empty, .slice none 0 0]) 3 56 Try.underlying61 hi66 hz0 hz1 hz2 rfl (by decide) v58 (j + 1) _ rfl hown4 _ (es.length - j) ((es.drop j).flatMap Ent.cells) rfl (by first | exact srcB HI.out hB4 | exact srcB0 (by omega)) (one_flat HI.out (fun e he => List.mem_of_mem_drop he)) (by unfold maxLen; omega) (by omega) (by first | omega | (simp; try omega)) ?_
                intro v65 w5 hown5 hgrow5
                gi_wp2
                have hB5 := below_grow hB4 hN4 hown4 hgrow5
                obtain ⟨A5, cap5, rfl⟩ := slice_of hown5
                have c5 : w5.cell? ⟨p, 0, none⟩ = some _ := (hB5.cell (p := ⟨p, 0, none⟩) hp).trans cb
                have f5 : w5.frozen? ⟨p, 0, none⟩ = false := (Boxed.frozen (show Boxed w5 p 63 _ from (hB5.block p hp).trans HI.out.box))
                refine rest_post (isLaterD_of hB5) ?_
                refine rest_one 21 (by kernel_rfl) rfl ?_
                gi_wp2
                refine rest_post (isLaterD_of hB5) ?_
                refine rest_one 22 (by kernel_rfl) rfl ?_
                gi_wp2
                refine rest_post (isLaterD_of hB5) ?_
                refine rest_one 23 (by kernel_rfl) rfl ?_
                gi_wp2
                refine rest_last (by kernel_rfl) ?_
                refine rest_done (by kernel_rfl) ?_
                gi_wp2
                go_ret
                refine ⟨rfl, .slice A5 (j + 1 + (es.length - j)) cap5, ?_⟩
                unfold insE
                rw [← HK.out]
                exact put_fin HI.out hb0 (by omega) hkey htext hB5 hown5
              · gi_wp2
                refine rest_post (isLaterD_of (by go_grown)) ?_
                refine rest_one 8 (by kernel_rfl) rfl ?_
                have ho0 := own0 (Nat.le_refl _) (heap2a w (.cells #[] 66) (.cells #[.string key, .string text, .slice none 0 0] 66))
                have hB0 : Below w.heap.size w ((w.alloc (.cells #[] 66)).alloc (.cells #[.string key, .string text, .slice none 0 0] 66)).drew := by go_grown
                refine wpListIn_append_src _ rfl _ _ 61 rfl w.heap.size 66 i0 (.agg #[.string ByteArray.empty, .string ByteArray.empty, .slice none 0 0]) 3 56 Try.underlying61 hi66 hz0 hz1 hz2 rfl (by decide) (.slice (some ⟨w.heap.size, 0, none⟩) 0 0) 0 [] rfl ho0 _ j ((es.take j).flatMap Ent.cells) rfl (srcA HI.out hj hB0) (one_flat HI.out (fun e he => List.mem_of_mem_take he)) (by unfold maxLen; omega) (by omega) (by first | omega | (simp; try omega)) ?_
                intro v53 W3 hown3 hgrow3
                rw [Nat.zero_add, List.nil_append] at hown3
                gi_wp2
                have hB3 := below_grow hB0 hB0.size ho0 hgrow3
                have h57 := (hgrow3.block (w.heap.size + 1) (by simp) (by simp [Value.ownBlock])).trans (heap2b w (.cells #[] 66) (.cells #[.string key, .string text, .slice none 0 0] 66))
                have hN3 : w.heap.size ≤ W3.heap.size := hB3.size
                refine rest_post (isLaterD_of hB3) ?_
                refine rest_one 13 (by kernel_rfl) rfl ?_
                refine wpListIn_append_src _ rfl _ _ 61 rfl w.heap.size 66 i0 (.agg #[.string ByteArray.empty, .string ByteArray.empty, .slice none 0 0]) 3 56 Try.underlying61 hi66 hz0 hz1 hz2 rfl (by decide) v53 j ((es.take j).flatMap Ent.cells) rfl hown3 _ 1 [.string key, .string text, .slice none 0 0] rfl (src57 h57) (one57 _ _) (by unfold maxLen; omega) (by omega) (by first | omega | (simp; try omega)) ?_
                intro v58 w4 hown4 hgrow4
                gi_wp2
                have hB4 := below_grow hB3 hN3 hown3 hgrow4
                have hN4 := hB4.size
                refine rest_post (isLaterD_of hB4) ?_
                refine rest_one 20 (by kernel_rfl) rfl ?_
                refine wpListIn_append_src _ rfl _ _ 61 rfl w.heap.size 66 i0 (.agg #[.string ByteArray.empty, .string ByteArray.empty, .slice none 0 0]) 3 56 Try.underlying61 hi66 hz0 hz1 hz2 rfl (by decide) v58 (j + 1) _ rfl hown4 _ (es.length - j) ((es.drop j).flatMap Ent.cells) rfl (by first | exact srcB HI.out hB4 | exact srcB0 (by omega)) (one_flat HI.out (fun e he => List.mem_of_mem_drop he)) (by unfold maxLen; omega) (by omega) (by first | omega | (simp; try omega)) ?_
                intro v65 w5 hown5 hgrow5
                gi_wp2
                have hB5 := below_grow hB4 hN4 hown4 hgrow5
                obtain ⟨A5, cap5, rfl⟩ := slice_of hown5
                have c5 : w5.cell? ⟨p, 0, none⟩ = some _ := (hB5.cell (p := ⟨p, 0, none⟩) hp).trans cb
                have f5 : w5.frozen? ⟨p, 0, none⟩ = false := (Boxed.frozen (show Boxed w5 p 63 _ from (hB5.block p hp).trans HI.out.box))
                refine rest_post (isLaterD_of hB5) ?_
                refine rest_one 21 (by kernel_rfl) rfl ?_
                gi_wp2
                refine rest_post (isLaterD_of hB5) ?_
                refine rest_one 22 (by kernel_rfl) rfl ?_
                gi_wp2
                refine rest_post (isLaterD_of hB5) ?_
                refine rest_one 23 (by kernel_rfl) rfl ?_
                gi_wp2
                refine rest_last (by kernel_rfl) ?_
                refine rest_done (by kernel_rfl) ?_
                gi_wp2
                go_ret
                refine ⟨rfl, .slice A5 (j + 1 + (es.length - j)) cap5, ?_⟩
                unfold insE
                rw [← HK.out]
                exact put_fin HI.out hb0 (by omega) hkey htext hB5 hown5
            · gi_wp2
              refine rest_post (isLaterD_of (by go_grown)) ?_
              refine rest_one 1 (by kernel_rfl) rfl ?_
              gi_wp2
              refine rest_post (isLaterD_of (by go_grown)) ?_
              refine rest_one 8 (by kernel_rfl) rfl ?_
              have ho0 := own0 (n := w.heap.size) (Nat.le_succ _) (heap2b w (.cells #[.string key, .string text, .slice none 0 0] 66) (.cells #[] 66))
              have hB0 : Below w.heap.size w ((w.alloc (.cells #[.string key, .string text, .slice none 0 0] 66)).alloc (.cells #[] 66)).drew := by go_grown
              refine wpListIn_append_src _ rfl _ _ 61 rfl w.heap.size 66 i0 (.agg #[.string ByteArray.empty, .string ByteArray.empty, .slice none 0 0]) 3 56 Try.underlying61 hi66 hz0 hz1 hz2 rfl (by decide) (.slice (some ⟨w.heap.size + 1, 0, none⟩) 0 0) 0 [] rfl ho0 _ j ((es.take j).flatMap Ent.cells) rfl (srcA HI.out hj hB0) (one_flat HI.out (fun e he => List.mem_of_mem_take he)) (by unfold maxLen; omega) (by omega) (by first | omega | (simp; try omega)) ?_
              intro v53 W3 hown3 hgrow3
              rw [Nat.zero_add, List.nil_append] at hown3
              gi_wp2
              have hB3 := below_grow hB0 hB0.size ho0 hgrow3
              have h57 := (hgrow3.block w.heap.size (by simp; omega) (by simp [Value.ownBlock])).trans (heap2a w (.cells #[.string key, .string text, .slice none 0 0] 66) (.cells #[] 66))
              have hN3 : w.heap.size ≤ W3.heap.size := hB3.size
              refine rest_post (isLaterD_of hB3) ?_
              refine rest_one 13 (by kernel_rfl) rfl ?_
              refine wpListIn_append_src _ rfl _ _ 61 rfl w.heap.size 66 i0 (.agg #[.string ByteArray.empty, .string ByteArray.empty, .slice none 0 0]) 3 56 Try.underlying61 hi66 hz0 hz1 hz2 rfl (by decide) v53 j ((es.take j).flatMap Ent.cells) rfl hown3 _ 1 [.string key, .string text, .slice none 0 0] rfl (src57 h57) (one57 _ _) (by unfold maxLen; omega) (by omega) (by first | omega | (simp; try omega)) ?_
              intro v58 w4 hown4 hgrow4
              gi_wp2
              have hB4 := below_grow hB3 hN3 hown3 hgrow4
              have hN4 := hB4.size
              refine rest_post (isLaterD_of hB4) ?_
              refine rest_one 20 (by kernel_rfl) rfl ?_
              refine wpListIn_append_src _ rfl _ _ 61 rfl w.heap.size 66 i0 (.agg #[.string ByteArray.empty, .string ByteArray.empty, .slice none 0 0]) 3 56 Try.underlying61 hi66 hz0 hz1 hz2 rfl (by decide) v58 (j + 1) _ rfl hown4 _ (es.length - j) ((es.drop j).flatMap Ent.cells) rfl (by first | exact srcB HI.out hB4 | exact srcB0 (by omega)) (one_flat HI.out (fun e he => List.mem_of_mem_drop he)) (by unfold maxLen; omega) (by omega) (by first | omega | (simp; try omega)) ?_
              intro v65 w5 hown5 hgrow5
              gi_wp2
              have hB5 := below_grow hB4 hN4 hown4 hgrow5
              obtain ⟨A5, cap5, rfl⟩ := slice_of hown5
              have c5 : w5.cell? ⟨p, 0, none⟩ = some _ := (hB5.cell (p := ⟨p, 0, none⟩) hp).trans cb
              have f5 : w5.frozen? ⟨p, 0, none⟩ = false := (Boxed.frozen (show Boxed w5 p 63 _ from (hB5.block p hp).trans HI.out.box))
              refine rest_post (isLaterD_of hB5) ?_
              refine rest_one 21 (by kernel_rfl) rfl ?_
              gi_wp2
              refine rest_post (isLaterD_of hB5) ?_
              refine rest_one 22 (by kernel_rfl) rfl ?_
              gi_wp2
              refine rest_post (isLaterD_of hB5) ?_
              refine rest_one 23 (by kernel_rfl) rfl ?_
              gi_wp2
              refine rest_last (by kernel_rfl) ?_
              refine rest_done (by kernel_rfl) ?_
              gi_wp2
              go_ret
              refine ⟨rfl, .slice A5 (j + 1 + (es.length - j)) cap5, ?_⟩
              unfold insE
              rw [← HK.out]
              exact put_fin HI.out hb0 (by omega) hkey htext hB5 hown5
end Go.Proofs.Ytneclonahddipaa
