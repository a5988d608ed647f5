/- The reference's copy of a schema. -/
import Derived.Test.YtlocafmglficnaaGreatDoorTabBox
namespace Go.Proofs.YtlocafmglficnaaGreatDoor
open Go.RowKit Go.Maps Go.Sort Go.Shelf

theorem info9 : (Tryz.prog.info? 9).map (fun i => (i.zero, i.size, i.bytes)) = some (some (.string ByteArray.empty), 1, 16) := by kernel_rfl
theorem four_new (w : World) (a b c d : Value) (E : TypeId) : ∀ (j : Nat) (u : Value), [a, b, c, d][j]? = some u → (w.alloc (.cells #[a, b, c, d] E)).cell? ((⟨w.heap.size, 0, none⟩ : Addr).add j) = some u
  | 0, u, h => by rw [addr_add0]; exact cell_newk _ _ _ _ _ _ rfl (by simpa using h)
  | 1, u, h => by rw [addr_add0]; exact cell_newk _ _ _ _ _ _ rfl (by simpa using h)
  | 2, u, h => by rw [addr_add0]; exact cell_newk _ _ _ _ _ _ rfl (by simpa using h)
  | 3, u, h => by rw [addr_add0]; exact cell_newk _ _ _ _ _ _ rfl (by simpa using h)
  | j + 4, u, h => by simp at h
/-- Strings are one cell each. -/
theorem one_strs {C : TypeId → Nat → Prop} {w : World} {xs : List ByteArray} {ls : List (List Value)} (hll : ls.length = xs.length) (hls : ∀ (j : Nat) (x : ByteArray), xs[j]? = some x → ∃ l, ls[j]? = some l ∧ strK.is C w l x) : ∀ u ∈ ls.flatten, u.oneCell' = true := by
  intro u hu
  obtain ⟨l, hl', hul⟩ := List.mem_flatten.1 hu
  obtain ⟨j, hj, rfl⟩ := List.getElem_of_mem hl'
  obtain ⟨l2, e2, e3, _⟩ := hls j (xs[j]'(by omega)) (List.getElem?_eq_getElem (by omega))
  rw [List.getElem?_eq_getElem hj, Option.some.injEq] at e2
  rw [e2, e3] at hul
  simp at hul
  rw [hul]; rfl
theorem one_ints {C : TypeId → Nat → Prop} {w : World} {xs : List Int} {ls : List (List Value)} (hll : ls.length = xs.length) (hls : ∀ (j : Nat) (x : Int), xs[j]? = some x → ∃ l, ls[j]? = some l ∧ intK.is C w l x) : ∀ u ∈ ls.flatten, u.oneCell' = true := by
  intro u hu
  obtain ⟨l, hl', hul⟩ := List.mem_flatten.1 hu
  obtain ⟨j, hj, rfl⟩ := List.getElem_of_mem hl'
  obtain ⟨l2, e2, e3, _⟩ := hls j (xs[j]'(by omega)) (List.getElem?_eq_getElem (by omega))
  rw [List.getElem?_eq_getElem hj, Option.some.injEq] at e2
  rw [e2, e3] at hul
  simp at hul
  rw [hul]; rfl
theorem Src.later {w w' : World} {size m : Nat} {v : Value} {news : List Value} (h : Src w size v m news) (hb : Below w.heap.size w w') : Src w' size v m news := by
  refine ⟨h.1, ?_⟩
  rcases h.2 with ⟨c, e, hz⟩ | ⟨ad, c, e, hc⟩
  · exact .inl ⟨c, e, hz⟩
  · exact .inr ⟨ad, c, e, fun j u hj => cell_later hb (hc j u hj)⟩
theorem SRow.words {C : TypeId → Nat → Prop} {w : World} {v : Value} {xs : List ByteArray} (h : SRow strK C w v xs) : ∃ ls : List (List Value), (ls.length = xs.length ∧ ∀ (j : Nat) (x : ByteArray), xs[j]? = some x → ∃ l, ls[j]? = some l ∧ strK.is C w l x) ∧ Src w 1 v xs.length ls.flatten := by
  obtain ⟨ls, h1, h2, h3⟩ := h.list (by decide)
  exact ⟨ls, ⟨h1, h2⟩, h3⟩
theorem SRow.nums {C : TypeId → Nat → Prop} {w : World} {v : Value} {xs : List Int} (h : SRow intK C w v xs) : ∃ ls : List (List Value), (ls.length = xs.length ∧ ∀ (j : Nat) (x : Int), xs[j]? = some x → ∃ l, ls[j]? = some l ∧ intK.is C w l x) ∧ Src w 1 v xs.length ls.flatten := by
  obtain ⟨ls, h1, h2, h3⟩ := h.list (by decide)
  exact ⟨ls, ⟨h1, h2⟩, h3⟩

theorem OSeq.setOther {α : Type} {K : Kind α} {base b i : Nat} {w : World} {v u : Value} {xs : List α} {cs : Array Value} {t : TypeId} (h : OSeq K base w v xs) (hb : w.heap[b]? = some (.cells cs t (0, 0))) (ht : t ∉ K.ty :: K.inner) : OSeq K base (w.setCell ⟨b, i, none⟩ u) v xs :=
  h.other (r := b) (grown_set _ _ _ _) fun E hE cu e => by
    rw [hb] at e
    simp only [Option.some.injEq, Obj.cells.injEq] at e
    exact ht (e.2.1 ▸ hE)
def mkS (S : Sch) (v : Value) : Array Value := #[.string S.name, .bool S.pub, .int .i64 S.many, v]
/-- A column's box in the round, and the world behind the words' copy. -/
abbrev colRow (x : Col) (u : Value) : Array Value := #[.string x.name, .int .i64 x.lo, .int .i64 x.hi, u]
structure ColMid (W0 wr w6 : World) (bS : Nat) (S : Sch) (k : Nat) (x : Col) (v : Value) (Av1 : Option Addr) (cv1 : Nat) : Prop where
  x0 : w6.cell? ⟨wr.heap.size, 0, none⟩ = some (.string x.name)
  x1 : w6.cell? ⟨wr.heap.size, 1, none⟩ = some (.int .i64 x.lo)
  x2 : w6.cell? ⟨wr.heap.size, 2, none⟩ = some (.int .i64 x.hi)
  x3 : ∃ u : Option Addr × Nat × Nat, w6.cell? ⟨wr.heap.size, 3, none⟩ = some (.slice u.1 u.2.1 u.2.2)
  x4 : w6.frozen? ⟨wr.heap.size, 3, none⟩ = false
  y3 : w6.cell? ⟨bS, 3, none⟩ = some v
  y4 : w6.frozen? ⟨bS, 3, none⟩ = false
  sz : wr.heap.size < w6.heap.size
  be : Below wr.heap.size wr (w6.setCell ⟨wr.heap.size, 3, none⟩ (.slice Av1 x.words.length cv1))
  us : ∃ us, ((w6.setCell ⟨wr.heap.size, 3, none⟩ (.slice Av1 x.words.length cv1)).alloc (.cells (colRow x (.slice Av1 x.words.length cv1)) 25)).ownsRow W0.heap.size 25 4 v k us
  nw : ∀ (j : Nat) (u : Value), [Value.string x.name, .int .i64 x.lo, .int .i64 x.hi, .slice Av1 x.words.length cv1][j]? = some u → ((w6.setCell ⟨wr.heap.size, 3, none⟩ (.slice Av1 x.words.length cv1)).alloc (.cells (colRow x (.slice Av1 x.words.length cv1)) 25)).cell? ((⟨w6.heap.size, 0, none⟩ : Addr).add j) = some u
  kx : colK.is (Own W0.heap.size (w6.setCell ⟨wr.heap.size, 3, none⟩ (.slice Av1 x.words.length cv1))) (w6.setCell ⟨wr.heap.size, 3, none⟩ (.slice Av1 x.words.length cv1)) [.string x.name, .int .i64 x.lo, .int .i64 x.hi, .slice Av1 x.words.length cv1] x
theorem ColMid.mk' {C : TypeId → Nat → Prop} {w W0 wr w6 : World} {bS k : Nat} {S : Sch} {x : Col} {v v1 : Value} {Aw : Option Addr} {cw : Nat} {ls : List (List Value)} (hk : (S.cols.take k).length = k) (hI : BoxI colK W0 bS 34 (mkS S) (S.cols.take k) wr)
    (hbl : bS < W0.heap.size) (hbx : wr.heap[bS]? = some (.cells (mkS S v) 34 (0, 0))) (hseq : OSeq colK W0.heap.size wr v (S.cols.take k)) (hll : ls.length = x.words.length) (hls : ∀ (j : Nat) (s : ByteArray), x.words[j]? = some s → ∃ l, ls[j]? = some l ∧ strK.is C w l s) (hft : x.name.size ≤ maxLen ∧ Fit x.lo ∧ Fit x.hi)
    (hown : w6.ownsRow W0.heap.size 9 1 v1 (0 + x.words.length) ([] ++ ls.flatten)) (hg : ((wr.alloc (.cells (colRow x (.slice Aw x.words.length cw)) 25)).alloc (.cells #[] 9)).grownBy w6 (some (wr.heap.size + 1))) :
    ∃ Av1 cv1, v1 = .slice Av1 x.words.length cv1 ∧ ColMid W0 wr w6 bS S k x v Av1 cv1 := by
  rw [Nat.zero_add, List.nil_append] at hown
  obtain ⟨Av1, cv1, rfl⟩ := slice_of hown
  have hsw := hI.g.size
  have hxc : ((wr.alloc (.cells (colRow x (.slice Aw x.words.length cw)) 25)).alloc (.cells #[] 9)).heap[wr.heap.size]? = some (.cells (colRow x (.slice Aw x.words.length cw)) 25 (0, 0)) := (heap_alloc_old _ _ (by simp)).trans (heap_alloc_new _ _)
  have hba : Below wr.heap.size wr ((wr.alloc (.cells (colRow x (.slice Aw x.words.length cw)) 25)).alloc (.cells #[] 9)) := by go_grown
  have hxc6 := (hg.block wr.heap.size (by simp; omega) (by simp)).trans hxc
  have hbw : Below wr.heap.size wr w6 := hba.grown hg hba.size fun r hr => by simp only [Option.some.injEq] at hr; omega
  have hbx6 := (hbw.block bS (by omega)).trans hbx
  have hsz := hg.size
  simp at hsz
  have hp6 : Below wr.heap.size wr (w6.setCell ⟨wr.heap.size, 3, none⟩ (.slice Av1 x.words.length cv1)) := hbw.setCell (Nat.le_refl _) _
  have ho6 : OSeq strK W0.heap.size w6 (.slice Av1 x.words.length cv1) x.words := OSeq.of_src (K := strK) rfl hll hls hown
  have hsz7 : (w6.setCell ⟨wr.heap.size, 3, none⟩ (.slice Av1 x.words.length cv1)).heap.size = w6.heap.size := by simp [World.setCell]
  refine ⟨Av1, cv1, rfl, (cellrow hxc6 0 (by simp)).1, (cellrow hxc6 1 (by simp)).1, (cellrow hxc6 2 (by simp)).1, ⟨(Aw, _, cw), (cellrow hxc6 3 (by simp)).1⟩, (cellrow hxc6 3 (by simp)).2, (cellrow hbx6 3 (by simp [mkS])).1, (cellrow hbx6 3 (by simp [mkS])).2, by omega, hp6, ?_, ?_, ⟨_, rfl, (ho6.setOther hxc6 (by decide)).row, hft⟩⟩
  · obtain ⟨us, h⟩ := ((hseq.later hp6).later (below_alloc _ (.cells (colRow x (.slice Av1 x.words.length cv1)) 25))).raw
    rw [hk] at h
    exact ⟨us, h⟩
  · have := four_new (w6.setCell ⟨wr.heap.size, 3, none⟩ (.slice Av1 x.words.length cv1)) (.string x.name) (.int .i64 x.lo) (.int .i64 x.hi) (.slice Av1 x.words.length cv1) 25
    rw [hsz7] at this
    exact this
attribute [local go_sem] Oper.semAt_some
set_option maxRecDepth 100000 in
set_option maxHeartbeats 4000000 in
theorem rscopy_any (C : TypeId → Nat → Prop) (v : Value) (S : Sch) (w : World) (h : SchVal C w v S) (hn : S.cols.length ≤ 1000000) (hw : ∀ c ∈ S.cols, c.words.length ≤ 1000000) :
    Calls Tryz.prog 51 #[v] w fun e w' => ∃ u, e = .returned (.agg #[.string S.name, .bool S.pub, .int .i64 S.many, u]) ∧ OSeq colK w.heap.size w' u S.cols ∧ Below w.heap.size w w' := by
  obtain ⟨u, rfl, hrw, hs⟩ := h
  obtain ⟨A, c, rfl, hl, hm, hc⟩ := hrw.cols
  unfold maxLen at hm
  have HC := Lib.hid hc
  have HW := Lib.hid hw
  clear hc hw hrw hs
  obtain ⟨i9, hi9, hz90, hz91, hz92⟩ := info_parts info9
  obtain ⟨i25, hi25, hz20, hz21, hz22⟩ := info_parts info25
  refine (callsIn_wide (n := 6)).1 ?_
  have h1 : 1 ≤ 6 := by omega
  refine callsIn_of_wp Tryz.func51 rfl trivial ?_ rfl
  simp only [Tryz.ntmps51, List.size_toArray, List.length_cons, List.length_nil, Nat.reduceAdd, Nat.reduceSub, Array.replicate_succ, Array.replicate_zero, List.push_toArray, List.append_toArray, List.nil_append, List.cons_append]
  gi_wp2
  change Code.wpIn _ _ _ _ _ _ ((w.alloc (.cells (mkS S (.slice none 0 0)) 34)).alloc (.cells #[.string ByteArray.empty, .bool false, .int .i64 0, .slice none 0 0] 34))
  have HX := Lib.hid (show ((w.alloc (.cells (mkS S (.slice none 0 0)) 34)).alloc (.cells #[.string ByteArray.empty, .bool false, .int .i64 0, .slice none 0 0] 34)).heap[w.heap.size]? = some (.cells (mkS S (.slice none 0 0)) 34 (0, 0)) from (heap_alloc_old _ _ (by simp)).trans (heap_alloc_new w _))
  have HR := Lib.hid (show ((w.alloc (.cells (mkS S (.slice none 0 0)) 34)).alloc (.cells #[.string ByteArray.empty, .bool false, .int .i64 0, .slice none 0 0] 34)).heap[w.heap.size + 1]? = some (.cells #[.string ByteArray.empty, .bool false, .int .i64 0, .slice none 0 0] 34 (0, 0)) from by
    have := heap_alloc_new (w.alloc (.cells (mkS S (.slice none 0 0)) 34)) (.cells #[.string ByteArray.empty, .bool false, .int .i64 0, .slice none 0 0] 34)
    simpa using this)
  have HB0 := Lib.hid (show Below w.heap.size w ((w.alloc (.cells (mkS S (.slice none 0 0)) 34)).alloc (.cells #[.string ByteArray.empty, .bool false, .int .i64 0, .slice none 0 0] 34)) by go_grown)
  have hsz0 : ((w.alloc (.cells (mkS S (.slice none 0 0)) 34)).alloc (.cells #[.string ByteArray.empty, .bool false, .int .i64 0, .slice none 0 0] 34)).heap.size = w.heap.size + 1 + 1 := by simp
  generalize ((w.alloc (.cells (mkS S (.slice none 0 0)) 34)).alloc (.cells #[.string ByteArray.empty, .bool false, .int .i64 0, .slice none 0 0] 34)) = W0 at *
  have HST := Lib.hid (BoxI.nil (K := colK) HX.out)
  have hw0 : w.heap.size + 1 + 1 ≤ W0.heap.size := by omega
  clear hsz0 HX
  gi_loopw [4] (fun i wr => ∃ k : Nat, k ≤ S.cols.length ∧ i = .int .i64 k ∧ BoxI colK W0 w.heap.size 34 (mkS S) (S.cols.take k) wr) (fun i _ => S.cols.length - (intOf i).toNat)
  case atStart => exact ⟨0, Nat.zero_le _, rfl, HST.out⟩
  case round =>
    obtain ⟨k, hk, rfl, hI⟩ := hrel
    have hlen : (S.cols.take k).length = k := by simp; omega
    obtain ⟨vc, hbx, hseq⟩ := hI.bx
    obtain ⟨us, hraw⟩ := hseq.raw
    rw [hlen] at hraw
    obtain ⟨Av, cv, rfl⟩ := slice_of hraw
    have HI := Lib.hid hI
    have HSEQ := Lib.hid hseq
    have HBX := Lib.hid hbx
    have HLEN := Lib.hid hlen
    have HBW := Lib.hid (hI.below HB0.out (by omega) (Nat.le_refl _))
    have hsw := hI.g.size
    obtain ⟨y3, f3⟩ := cellrow hbx 3 (by simp [mkS])
    have hi0 : (0 : Int) ≤ (k : Int) := by omega
    clear hI hbx hseq hlen
    by_cases hlt : k < S.cols.length
    · have hi1 : (k : Int) < (S.cols.length : Int) := by omega
      obtain ⟨b, o, rfl, hcell⟩ := HC.out (by omega)
      obtain ⟨uw, p0, p1, p2, p3, hwr, hfit⟩ := hcell k hlt
      have q0 := cell_later HBW.out p0
      have q1 := cell_later HBW.out p1
      have q2 := cell_later HBW.out p2
      have q3 := cell_later HBW.out p3
      obtain ⟨Aw, cw, rfl, _, _⟩ := hwr.slice
      obtain ⟨ls, hlsb, hsrc⟩ := hwr.words
      have hwn : S.cols[k].words.length ≤ 1000000 := HW.out _ (List.getElem_mem hlt)
      have HTK := Lib.hid (show S.cols.take (k + 1) = S.cols.take k ++ [S.cols[k]] from List.take_succ_eq_append_getElem hlt)
      have HLS := Lib.hid hlsb
      have HFT := Lib.hid hfit
      have HLT := Lib.hid hlt
      clear hcell p0 p1 p2 p3 hwr hlsb hfit
      generalize S.cols[k] = x at *
      clear hlt
      have HSRC := Lib.hid ((hsrc.later HBW.out).later (show Below wr.heap.size wr ((wr.alloc (.cells #[.string x.name, .int .i64 x.lo, .int .i64 x.hi, .slice Aw x.words.length cw] 25)).alloc (.cells #[] 9)) by go_grown))
      have HE := Lib.hid (by have := own_empty (wr.alloc (.cells #[.string x.name, .int .i64 x.lo, .int .i64 x.hi, .slice Aw x.words.length cw] 25)) W0.heap.size 9 1 (by simp; omega); simpa using this : ((wr.alloc (.cells #[.string x.name, .int .i64 x.lo, .int .i64 x.hi, .slice Aw x.words.length cw] 25)).alloc (.cells #[] 9)).ownsRow W0.heap.size 9 1 (.slice (some ⟨wr.heap.size + 1, 0, none⟩) 0 0) 0 [])
      clear hsrc
      have hne6 : w.heap.size ≠ wr.heap.size := by omega
      gi_wp2_with (first
        | (gi_at_builtin; refine wpListIn_append_src _ rfl _ _ 23 rfl W0.heap.size 9 i9 (.string ByteArray.empty) 1 16 Tryz.underlying23 hi9 hz90 hz91 hz92 rfl (by decide) (.slice (some ⟨wr.heap.size + 1, 0, none⟩) 0 0) 0 [] rfl HE.out _ x.words.length ls.flatten rfl HSRC.out (one_strs HLS.out.1 HLS.out.2) (by unfold maxLen; omega) (by omega) (by simp; omega) ?_; intro v1 w6 hown1 hgrow1; obtain ⟨Av1, cv1, rfl, hmid⟩ := ColMid.mk' HLEN.out HI.out (by omega) HBX.out HSEQ.out HLS.out.1 HLS.out.2 HFT.out hown1 hgrow1; obtain ⟨us2, hus2⟩ := hmid.us; obtain ⟨x30, hx3⟩ := hmid.x3; have hx0 := hmid.x0; have hx1 := hmid.x1; have hx2 := hmid.x2; have hx4 := hmid.x4; have hy3 := hmid.y3; have hy4 := hmid.y4; have hs6 := hmid.sz; have HM := Lib.hid hmid; have HUS := Lib.hid hus2; clear hmid hus2 hown1 hgrow1)
        | (gi_at_builtin; go_loud (refine wpListIn_append_own _ rfl _ _ 32 rfl W0.heap.size 25 i25 _ 4 56 Tryz.underlying32 hi25 hz20 hz21 hz22 rfl (by decide) _ _ us2 rfl HUS.out ⟨w6.heap.size, 0, none⟩ 1 1 [.string x.name, .int .i64 x.lo, .int .i64 x.hi, .slice Av1 x.words.length cv1] rfl rfl HM.out.nw (by simp [Value.oneCell']) (by unfold maxLen; omega) (by omega) (by simp [World.setCell]; omega) ?_; intro v2 w7 hown2 hgrow2 _; obtain ⟨Av2, cv2, rfl⟩ := slice_of hown2; obtain ⟨hst, hc7, hf7⟩ := BoxI.step (f := 3) HI.out (by decide) (by decide) (fun _ _ => rfl) rfl (by omega) HBX.out HSEQ.out HM.out.be HM.out.kx (by rw [HLEN.out]; exact HUS.out) (by rw [HLEN.out]; exact hown2) hgrow2; have HST2 := Lib.hid hst; clear hst hown2 hgrow2)))
      go_roundw
      case rel => exact ⟨k + 1, HLT.out, by go_num, by rw [HTK.out]; exact HST2.out⟩
      case measure => have := HLT.out; simp [intOf]; omega
    · obtain rfl : k = S.cols.length := by omega
      have HF := Lib.hid (show OSeq colK W0.heap.size wr (.slice Av S.cols.length cv) S.cols by
        have := HSEQ.out
        rwa [List.take_of_length_le (Nat.le_refl _)] at this)
      have hres := (HI.out.g.block (w.heap.size + 1) (by omega) (by simp)).trans HR.out
      have HRES := Lib.hid hres
      obtain ⟨q0, _⟩ := cellrow HBX.out 0 (by simp [mkS])
      obtain ⟨q1, _⟩ := cellrow HBX.out 1 (by simp [mkS])
      obtain ⟨q2, _⟩ := cellrow HBX.out 2 (by simp [mkS])
      obtain ⟨r0, s0⟩ := cellrow hres 0 (by simp)
      obtain ⟨r1, s1⟩ := cellrow hres 1 (by simp)
      obtain ⟨r2, s2⟩ := cellrow hres 2 (by simp)
      obtain ⟨r3, s3⟩ := cellrow hres 3 (by simp)
      simp only [mkS] at q0 q1 q2 y3
      clear hlt hres
      gi_wp2
      have hr1 : w.heap.size + 1 < wr.heap.size := by omega
      refine bodyPost_ret (v := .agg #[.string S.name, .bool S.pub, .int .i64 S.many, .slice Av S.cols.length cv]) (by simp [results, Tryz.results51, go_sem, r0, r1, r2, r3]) rfl ⟨_, rfl, ?_, ?_⟩
      · refine (HF.out.base_le (show w.heap.size ≤ W0.heap.size by omega)).other (r := w.heap.size + 1) ((((grown_set _ _ _ _).trans (grown_set _ _ _ _)).trans (grown_set _ _ _ _)).trans (grown_set _ _ _ _)) fun E hE cu e => ?_
        rw [HRES.out] at e
        simp only [Option.some.injEq, Obj.cells.injEq] at e
        have : E = 25 ∨ E = 9 := by simpa [colK] using hE
        rcases this with rfl | rfl <;> exact absurd e.2.1 (by decide)
      · exact ((((HBW.out.setCell (by show _ ≤ w.heap.size + 1; omega) _).setCell (by show _ ≤ w.heap.size + 1; omega) _).setCell (by show _ ≤ w.heap.size + 1; omega) _).setCell (by show _ ≤ w.heap.size + 1; omega) _)
end Go.Proofs.YtlocafmglficnaaGreatDoor
