/- The law's own columns: names, Own, CopyColumn, column. -/
import Derived.Test.YtlocafmglficnaaDoorTabTake
namespace Go.Proofs.YtlocafmglficnaaDoor
open Go.RowKit Go.Maps Go.Sort Go.Shelf

def nms0 : List ByteArray := [⟨#[112, 101, 111, 112, 108, 101]⟩, ⟨#[118, 105, 115, 105, 116, 115]⟩, ⟨#[112, 108, 97, 99, 101, 115]⟩, ⟨#[110, 111, 116, 101, 115]⟩]
def nms1 : List ByteArray := [⟨#[97, 103, 101]⟩, ⟨#[99, 111, 108, 111, 117, 114]⟩, ⟨#[104, 101, 105, 103, 104, 116]⟩, ⟨#[112, 108, 97, 99, 101]⟩, ⟨#[115, 99, 111, 114, 101]⟩]
def nms2 : List ByteArray := [⟨#[114, 101, 100]⟩, ⟨#[103, 114, 101, 101, 110]⟩, ⟨#[98, 108, 117, 101]⟩, ⟨#[103, 114, 101, 121]⟩, ⟨#[112, 105, 110, 107]⟩]
abbrev strV (x : ByteArray) : Value := .string x
theorem names0_any (w : World) : Calls Tryd.prog 75 #[.int .i64 0] w fun e w' => e = .returned (.slice (some ⟨w.heap.size, 0, none⟩) 4 4) ∧ w' = w.alloc (.cells (nms0.map strV).toArray 9) := by
  go_enter Tryd.func75, Tryd.ntmps75
  go_wp2
  go_ret
  exact ⟨rfl, rfl⟩
theorem names1_any (w : World) : Calls Tryd.prog 75 #[.int .i64 1] w fun e w' => e = .returned (.slice (some ⟨w.heap.size, 0, none⟩) 5 5) ∧ w' = w.alloc (.cells (nms1.map strV).toArray 9) := by
  go_enter Tryd.func75, Tryd.ntmps75
  go_wp2
  go_ret
  exact ⟨rfl, rfl⟩
theorem names2_any (w : World) : Calls Tryd.prog 75 #[.int .i64 2] w fun e w' => e = .returned (.slice (some ⟨w.heap.size, 0, none⟩) 5 5) ∧ w' = w.alloc (.cells (nms2.map strV).toArray 9) := by
  go_enter Tryd.func75, Tryd.ntmps75
  go_wp2
  go_ret
  exact ⟨rfl, rfl⟩
theorem strs_block {w : World} {b : Nat} {ss : List ByteArray} (hb : w.heap[b]? = some (.cells (ss.map strV).toArray 9 (0, 0))) (hs : ∀ s ∈ ss, s.size ≤ maxLen) (hl : ss.length ≤ maxLen) : SRow strK Any w (.slice (some ⟨b, 0, none⟩) ss.length ss.length) ss := by
  refine SRow.block (K := strK) (ss.map fun x => [strV x]) hb trivial (by rw [flat1]) (by simp) (fun j x hj => ?_) hl
  have hjl : j < ss.length := (List.getElem?_eq_some_iff.1 hj).1
  have e : ss[j] = x := by rw [List.getElem?_eq_getElem hjl] at hj; simpa using hj
  exact ⟨[strV x], by simp [hj], rfl, by rw [← e]; exact hs _ (List.getElem_mem hjl)⟩
attribute [local go_sem] Oper.semAt_some
set_option maxHeartbeats 2000000 in
theorem ownStrs_any (C : TypeId → Nat → Prop) (v : Value) (ss : List ByteArray) (w : World) (h : SRow strK C w v ss) (hn : ss.length ≤ 1000000) :
    Calls Tryd.prog 94 #[v] w fun e w' => ∃ v', e = .returned v' ∧ OSeq strK w.heap.size w' v' ss ∧ Below w.heap.size w w' := by
  obtain ⟨A, c, rfl, hl, hm⟩ := h.slice
  obtain ⟨ls, hls, hsrc⟩ := h.words
  have HLS := Lib.hid hls
  have HSRC := Lib.hid (hsrc.later (below_alloc w (.cells #[] 9)))
  have HE := Lib.hid (own_empty w w.heap.size 9 1 (Nat.le_refl _))
  have HB := Lib.hid (below_alloc w (.cells #[] 9))
  obtain ⟨i9, hi9, hz90, hz91, hz92⟩ := info_parts info9
  clear h hls hsrc
  refine (callsIn_wide (n := 6)).1 ?_
  have h1 : 1 ≤ 6 := by omega
  refine callsIn_of_wp Tryd.func94 rfl trivial ?_ rfl
  simp only [Tryd.ntmps94, List.size_toArray, List.length_cons, List.length_nil, Nat.reduceAdd, Nat.reduceSub, Array.replicate_succ, Array.replicate_zero, List.push_toArray, List.append_toArray, List.nil_append, List.cons_append]
  gi_wp2_with (gi_at_builtin; go_loud (refine wpListIn_append_src _ rfl _ _ 23 rfl w.heap.size 9 i9 (.string ByteArray.empty) 1 16 Tryd.underlying23 hi9 hz90 hz91 hz92 rfl (by decide) (.slice (some ⟨w.heap.size, 0, none⟩) 0 0) 0 [] rfl HE.out _ ss.length ls.flatten rfl HSRC.out (one_strs HLS.out.1 HLS.out.2) (by unfold maxLen; omega) (by omega) (by simp) ?_; intro v1 w6 hown1 hgrow1))
  rw [Nat.zero_add, List.nil_append] at hown1
  refine bodyPost_ret (results_tmp rfl _ _ _) rfl ?_
  exact ⟨v1, rfl, OSeq.of_src (K := strK) rfl HLS.out.1 HLS.out.2 hown1, HB.out.grown hgrow1 HB.out.size (fun r hr => by have : w.heap.size = r := Option.some.inj hr; omega)⟩
/-- A box of four cells, and the world's growth besides. -/
def colCells (c : Col) (u : Value) : Array Value := #[.string c.name, .int .i64 c.lo, .int .i64 c.hi, u]
set_option maxRecDepth 100000 in
set_option maxHeartbeats 4000000 in
theorem copyCol_any (C : TypeId → Nat → Prop) (v : Value) (c : Col) (w : World) (h : ColVal C w v c) (hn : c.words.length ≤ 1000000) :
    Calls Tryd.prog 76 #[v] w fun e w' => ∃ u, e = .returned (.agg (colCells c u)) ∧ OSeq strK w.heap.size w' u c.words ∧ Below w.heap.size w w' := by
  obtain ⟨u, rfl, hr, hst⟩ := h
  obtain ⟨A, cc, rfl, _, _⟩ := hr.slice
  have HB0 := Lib.hid (show Below w.heap.size w ((w.alloc (.cells #[.string c.name, .int .i64 c.lo, .int .i64 c.hi, .slice A c.words.length cc] 25)).alloc (.cells #[.string ByteArray.empty, .int .i64 0, .int .i64 0, .slice none 0 0] 25)) by go_grown)
  have HX := Lib.hid (show ((w.alloc (.cells #[.string c.name, .int .i64 c.lo, .int .i64 c.hi, .slice A c.words.length cc] 25)).alloc (.cells #[.string ByteArray.empty, .int .i64 0, .int .i64 0, .slice none 0 0] 25)).heap[w.heap.size]? = some (.cells #[.string c.name, .int .i64 c.lo, .int .i64 c.hi, .slice A c.words.length cc] 25 (0, 0)) from (heap_alloc_old _ _ (by simp)).trans (heap_alloc_new w _))
  have HR := Lib.hid (show ((w.alloc (.cells #[.string c.name, .int .i64 c.lo, .int .i64 c.hi, .slice A c.words.length cc] 25)).alloc (.cells #[.string ByteArray.empty, .int .i64 0, .int .i64 0, .slice none 0 0] 25)).heap[w.heap.size + 1]? = some (.cells #[.string ByteArray.empty, .int .i64 0, .int .i64 0, .slice none 0 0] 25 (0, 0)) from by
    have := heap_alloc_new (w.alloc (.cells #[.string c.name, .int .i64 c.lo, .int .i64 c.hi, .slice A c.words.length cc] 25)) (.cells #[.string ByteArray.empty, .int .i64 0, .int .i64 0, .slice none 0 0] 25)
    simpa using this)
  have HS := Lib.hid (hr.below HB0.out)
  clear hr hst
  refine (callsIn_wide (n := 6)).1 ?_
  have h1 : 1 ≤ 6 := by omega
  refine callsIn_of_wp Tryd.func76 rfl trivial ?_ rfl
  simp only [Tryd.ntmps76, List.size_toArray, List.length_cons, List.length_nil, Nat.reduceAdd, Nat.reduceSub, Array.replicate_succ, Array.replicate_zero, List.push_toArray, List.append_toArray, List.nil_append, List.cons_append]
  gi_wp2
  refine ⟨trivial, ?_⟩
  gi_at_call 94
  refine (callsIn_wide.2 (ownStrs_any C _ c.words _ HS.out hn)).mono ?_
  rintro e w1 ⟨v1, rfl, ho1, hb1⟩
  obtain ⟨A1, c1, rfl, _, _⟩ := ho1.slice
  have hX1 := (hb1.block w.heap.size (by simp; omega)).trans HX.out
  have hR1 := (hb1.block (w.heap.size + 1) (by simp)).trans HR.out
  obtain ⟨x0, _⟩ := cellrow hX1 0 (by simp)
  obtain ⟨x1, _⟩ := cellrow hX1 1 (by simp)
  obtain ⟨x2, _⟩ := cellrow hX1 2 (by simp)
  obtain ⟨x3, f3⟩ := cellrow hX1 3 (by simp)
  obtain ⟨r0, s0⟩ := cellrow hR1 0 (by simp)
  obtain ⟨r1, s1⟩ := cellrow hR1 1 (by simp)
  obtain ⟨r2, s2⟩ := cellrow hR1 2 (by simp)
  obtain ⟨r3, s3⟩ := cellrow hR1 3 (by simp)
  have hsz : w.heap.size + 1 < w1.heap.size := (Array.getElem?_eq_some_iff.1 hR1).1
  have HO := Lib.hid ho1
  have HB1 := Lib.hid (HB0.out.trans (hb1.mono HB0.out.size))
  have HX1 := Lib.hid hX1
  have HR1 := Lib.hid hR1
  have HBS := Lib.hid hb1.size
  clear ho1 hb1 hX1 hR1
  gi_wp2
  have hlt : w.heap.size + 1 < w1.heap.size := hsz
  refine bodyPost_ret (v := .agg #[.string c.name, .int .i64 c.lo, .int .i64 c.hi, .slice A1 c.words.length c1]) (by simp [results, Tryd.results76, go_sem, r0, r1, r2, r3]) rfl ⟨_, rfl, ?_, ?_⟩
  · have h1 := (HO.out.base_le (show w.heap.size ≤ _ by simp; omega)).setOther (b := w.heap.size) (i := 3) (u := .slice A1 c.words.length c1) HX1.out (by decide)
    refine h1.other (r := w.heap.size + 1) ((((grown_set _ _ _ _).trans (grown_set _ _ _ _)).trans (grown_set _ _ _ _)).trans (grown_set _ _ _ _)) (other31 (b := w.heap.size + 1) (cs := _) ((Below.heap_setCell _ _ _ _ (by simp)).trans HR1.out) (by decide))
  · exact (((((HB1.out.setCell (by show _ ≤ w.heap.size; omega) _).setCell (by show _ ≤ w.heap.size + 1; omega) _).setCell (by show _ ≤ w.heap.size + 1; omega) _).setCell (by show _ ≤ w.heap.size + 1; omega) _).setCell (by show _ ≤ w.heap.size + 1; omega) _)
end Go.Proofs.YtlocafmglficnaaDoor
