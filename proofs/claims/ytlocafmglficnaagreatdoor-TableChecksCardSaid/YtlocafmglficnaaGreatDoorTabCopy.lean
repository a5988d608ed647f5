/- Copy of a schema. -/
import Derived.Test.YtlocafmglficnaaGreatDoorTabClone
namespace Go.Proofs.YtlocafmglficnaaGreatDoor
open Go.RowKit Go.Maps Go.Sort Go.Shelf

theorem flatten_set {k : Nat} : ∀ {ls : List (List Value)}, (∀ l ∈ ls, l.length = k) → ∀ {j i : Nat} {l : List Value} (u : Value), ls[j]? = some l → i < k → ls.flatten.set (j * k + i) u = (ls.set j (l.set i u)).flatten
  | [], _, j, i, l, u, hj, _ => by simp at hj
  | l0 :: ls, hl, 0, i, l, u, hj, hi => by
    simp only [List.getElem?_cons_zero, Option.some.injEq] at hj
    subst hj
    have h0 : l0.length = k := hl l0 (by simp)
    rw [List.flatten_cons, Nat.zero_mul, Nat.zero_add, List.set_append_left _ _ (by omega), List.set_cons_zero, List.flatten_cons]
  | l0 :: ls, hl, j + 1, i, l, u, hj, hi => by
    have h0 : l0.length = k := hl l0 (by simp)
    have he : (j + 1) * k + i = l0.length + (j * k + i) := by rw [Nat.add_mul, Nat.one_mul, h0]; omega
    rw [List.flatten_cons, he, List.set_append_right _ _ (by omega), Nat.add_sub_cancel_left, flatten_set (fun l hl' => hl l (List.mem_cons_of_mem _ hl')) u (by simpa using hj) hi, List.set_cons_succ, List.flatten_cons]
theorem slice_of {w : World} {base e size n : Nat} {v : Value} {us : List Value} (h : w.ownsRow base e size v n us) : ∃ A c, v = .slice A n c := by
  rcases h.2 with ⟨e1, rfl⟩ | ⟨g, cap, cur, e1, _⟩
  · exact ⟨_, _, e1⟩
  · exact ⟨_, _, e1⟩

/-- A column's cells behind or ahead of the k-th round of Copy. -/
def CpAt (C : TypeId → Nat → Prop) (w0 wr : World) (base k : Nat) (ls : List (List Value)) (cs : List Col) : Prop :=
  ls.length = cs.length ∧ ∀ (j : Nat) (x : Col), cs[j]? = some x → ∃ l, ls[j]? = some l ∧ (j < k → colK.is (Own base wr) wr l x) ∧ (k ≤ j → colK.is C w0 l x)
theorem CpAt.len {C : TypeId → Nat → Prop} {w0 wr : World} {base k : Nat} {ls : List (List Value)} {cs : List Col} (h : CpAt C w0 wr base k ls cs) : ∀ l ∈ ls, l.length = 4 := by
  intro l hl
  obtain ⟨j, hj, rfl⟩ := List.getElem_of_mem hl
  have hjc : j < cs.length := by rw [← h.1]; exact hj
  obtain ⟨l', e, h1, h2⟩ := h.2 j cs[j] (List.getElem?_eq_getElem hjc)
  rw [List.getElem?_eq_getElem hj, Option.some.injEq] at e
  rw [e]
  rcases Nat.lt_or_ge j k with h | h
  · exact colK.len (h1 h)
  · exact colK.len (h2 h)
/-- One round: a clone of the words is stored. -/
theorem CpAt.step {C : TypeId → Nat → Prop} {w0 wr wc : World} {base k g n c : Nat} {ls : List (List Value)} {cs : List Col} {x : Col} {u v5 : Value} (h : CpAt C w0 wr base k ls cs) (hx : cs[k]? = some x) (hu : ls[k]? = some [.string x.name, .int .i64 x.lo, .int .i64 x.hi, u])
    (hrow : wr.ownsRow base 25 4 (.slice (some ⟨g, 0, none⟩) n c) n ls.flatten) (hb : Below wr.heap.size wr wc) (hv : OSeq strK wr.heap.size wc v5 x.words) (hbase : base ≤ wr.heap.size) (hz : x.name.size ≤ maxLen ∧ Fit x.lo ∧ Fit x.hi) :
    ∃ ls', CpAt C w0 (wc.setCell ⟨g, k * 4 + 3, none⟩ v5) base (k + 1) ls' cs ∧ (wc.setCell ⟨g, k * 4 + 3, none⟩ v5).ownsRow base 25 4 (.slice (some ⟨g, 0, none⟩) n c) n ls'.flatten := by
  have hgb : wc.grownBy wc none := ⟨rfl, rfl, rfl, Nat.le_refl _, fun _ _ _ => rfl⟩
  have hrow2 : wc.ownsRow base 25 4 (.slice (some ⟨g, 0, none⟩) n c) n ls.flatten := hrow.kept (grown_of_below hb none) (.inr (by simp [Value.ownBlock]))
  obtain ⟨hr3, hg3⟩ := hrow2.stored (k * 4 + 3) v5
  obtain ⟨cur, hcur⟩ := owned_block hrow2 (r := g) rfl
  have hE : ∀ r, some g = some r → ∀ E ∈ colK.inner, ∀ cu, wc.heap[r]? ≠ some (.cells cu E (0, 0)) := by
    intro r hr E hin cu e
    simp only [Option.some.injEq] at hr
    subst hr
    rw [hcur] at e
    simp only [Option.some.injEq, Obj.cells.injEq] at e
    have : E = 9 := by simpa [colK] using hin
    rw [this] at e
    exact absurd e.2.1 (by decide)
  refine ⟨ls.set k [.string x.name, .int .i64 x.lo, .int .i64 x.hi, v5], ⟨by rw [List.length_set, h.1], fun j y hj => ?_⟩, ?_⟩
  · obtain ⟨l, e, h1, h2⟩ := h.2 j y hj
    by_cases hjk : j = k
    · subst hjk
      rw [hx, Option.some.injEq] at hj
      subst hj
      refine ⟨_, by rw [List.getElem?_set_self (List.getElem?_eq_some_iff.1 hu).1], fun _ => ?_, fun hh => by omega⟩
      have h0 : colK.is (Own base wc) wc [.string x.name, .int .i64 x.lo, .int .i64 x.hi, v5] x := ⟨v5, rfl, hv.row.mono fun E b hO => ⟨Nat.le_trans hbase hO.1, hO.2⟩, hz⟩
      exact colK.keepOwn h0 hg3 hE
    · refine ⟨l, by rw [List.getElem?_set_ne (fun e => hjk e.symm)]; exact e, fun hh => ?_, fun hh => h2 (by omega)⟩
      have h3 : colK.is (Own base wc) wc l y := colK.keepOwn (h1 (by omega)) (grown_of_below hb none) fun r hr => by cases hr
      exact colK.keepOwn h3 hg3 hE
  · have := flatten_set h.len (j := k) (i := 3) v5 hu (by omega)
    rw [this] at hr3
    exact hr3

theorem cellrow {w : World} {b : Nat} {cs : Array Value} {t : TypeId} (h : w.heap[b]? = some (.cells cs t (0, 0))) (i : Nat) (hi : i < cs.size) : w.cell? ⟨b, i, none⟩ = some cs[i] ∧ w.frozen? ⟨b, i, none⟩ = false := by
  refine ⟨by simp [World.cell?, h, hi], by simp [World.frozen?, h]⟩
theorem OSeq.other {α : Type} {K : Kind α} {base r : Nat} {w w' : World} {v : Value} {xs : List α} (h : OSeq K base w v xs) (hg : w.grownBy w' (some r)) (hr : ∀ E ∈ K.ty :: K.inner, ∀ cu, w.heap[r]? ≠ some (.cells cu E (0, 0))) : OSeq K base w' v xs := by
  obtain ⟨ls, ho, hl, hx⟩ := h
  refine ⟨ls, ho.kept hg (.inr fun e => ?_), hl, fun j x hj => ?_⟩
  · obtain ⟨cu, hc⟩ := owned_block ho e
    exact hr K.ty (by simp) cu hc
  · obtain ⟨l, e, hi⟩ := hx j x hj
    exact ⟨l, e, K.keepOwn hi hg fun r' hr' E hE => by
      simp only [Option.some.injEq] at hr'
      subst hr'
      exact hr E (List.mem_cons_of_mem _ hE)⟩
theorem grown_set (w : World) (b i : Nat) (u : Value) : w.grownBy (w.setCell ⟨b, i, none⟩ u) (some b) := ⟨rfl, rfl, rfl, by simp [World.setCell], fun k _ hne => Below.heap_setCell _ _ _ _ (fun e => hne (by rw [e]))⟩
/-- Blocks below n. -/
def Lt (n : Nat) (_ : TypeId) (b : Nat) : Prop := b < n
/-- What holds ahead of the k-th round of Copy. -/
structure CpInv (C : TypeId → Nat → Prop) (w w0 : World) (S : Sch) (v1 : Value) (k : Nat) (wr : World) : Prop where
  bx : wr.heap[w.heap.size]? = some (.cells #[.string S.name, .bool S.pub, .int .i64 S.many, v1] 34 (0, 0))
  rx : wr.heap[w.heap.size + 1]? = some (.cells #[.string ByteArray.empty, .bool false, .int .i64 0, .slice none 0 0] 34 (0, 0))
  row : ∃ ls, CpAt C w0 wr (w.heap.size + 1 + 1) k ls S.cols ∧ wr.ownsRow (w.heap.size + 1 + 1) 25 4 v1 S.cols.length ls.flatten
  be : Below w.heap.size w wr
  sz : w.heap.size + 1 + 1 ≤ wr.heap.size
theorem CpInv.start {C : TypeId → Nat → Prop} {w w0 w1 : World} {S : Sch} {v0 v1 : Value} {ls : List (List Value)} (hw0 : w0.heap.size = w.heap.size + 1 + 1) (h0 : Below w.heap.size w w0) (hb : Below w0.heap.size w0 w1)
    (hB : w1.heap[w.heap.size]? = some (.cells #[.string S.name, .bool S.pub, .int .i64 S.many, v0] 34 (0, 0))) (hR : w1.heap[w.heap.size + 1]? = some (.cells #[.string ByteArray.empty, .bool false, .int .i64 0, .slice none 0 0] 34 (0, 0)))
    (hrow : w1.ownsRow w0.heap.size 25 4 v1 S.cols.length ls.flatten) (hl : ls.length = S.cols.length) (hls : ∀ (j : Nat) (x : Col), S.cols[j]? = some x → ∃ l, ls[j]? = some l ∧ colK.is C w0 l x) :
    CpInv C w w0 S v1 0 (w1.setCell ⟨w.heap.size, 3, none⟩ v1) := by
  rw [hw0] at hrow
  refine ⟨?_, ?_, ⟨ls, ⟨hl, fun j x hj => ?_⟩, ?_⟩, ?_, ?_⟩
  · rw [heap_setCell_same _ _ _ _ _ _ hB]; rfl
  · rw [Below.heap_setCell _ _ _ _ (by simp)]; exact hR
  · obtain ⟨l, e, hi⟩ := hls j x hj
    exact ⟨l, e, fun h => by omega, fun _ => hi⟩
  · exact ownsRow_setCell_below hrow (by show w.heap.size < _; omega) _
  · exact (h0.trans (hb.mono h0.size)).setCell (by show _ ≤ w.heap.size; exact Nat.le_refl _) _
  · have := hb.size
    simp [World.setCell]; omega
theorem CpInv.at' {C : TypeId → Nat → Prop} {w w0 wr : World} {S : Sch} {A : Option Addr} {c k : Nat} (h : CpInv C w w0 S (.slice A S.cols.length c) k wr) (hk : k < S.cols.length) :
    ∃ g u ls, A = some ⟨g, 0, none⟩ ∧ w.heap.size + 1 + 1 ≤ g ∧ CpAt C w0 wr (w.heap.size + 1 + 1) k ls S.cols ∧ wr.ownsRow (w.heap.size + 1 + 1) 25 4 (.slice A S.cols.length c) S.cols.length ls.flatten ∧
      ls[k]? = some [.string S.cols[k].name, .int .i64 S.cols[k].lo, .int .i64 S.cols[k].hi, u] ∧ SRow strK C w0 u S.cols[k].words ∧ (S.cols[k].name.size ≤ maxLen ∧ Fit S.cols[k].lo ∧ Fit S.cols[k].hi) ∧
      wr.cell? ⟨g, k * 4 + 3, none⟩ = some u ∧ wr.frozen? ⟨g, k * 4 + 3, none⟩ = false ∧ g < wr.heap.size := by
  obtain ⟨ls, hat, hrow⟩ := h.row
  obtain ⟨l, el, _, h2⟩ := hat.2 k S.cols[k] (List.getElem?_eq_getElem hk)
  obtain ⟨u, rfl, hr, hz⟩ := h2 (Nat.le_refl _)
  rcases hrow.2 with ⟨e, h0⟩ | ⟨g, cap, cur, e, hg, hh, _⟩
  · omega
  · have e' := e
    simp only [Value.slice.injEq, true_and] at e'
    obtain ⟨rfl, _⟩ := e'
    have hc := hrow.cells (g := g) rfl (k * 4 + 3) u (flatten_at hat.len el rfl)
    rw [addr_add0, Nat.zero_add] at hc
    exact ⟨g, u, ls, rfl, hg, hat, hrow, el, hr, hz, hc, by simp [World.frozen?, hh], (Array.getElem?_eq_some_iff.1 hh).1⟩
theorem CpInv.step {C : TypeId → Nat → Prop} {w w0 wr wc : World} {S : Sch} {g c k : Nat} {u v5 : Value} {ls : List (List Value)} (h : CpInv C w w0 S (.slice (some ⟨g, 0, none⟩) S.cols.length c) k wr) (hk : k < S.cols.length) (hg : w.heap.size + 1 + 1 ≤ g)
    (hat : CpAt C w0 wr (w.heap.size + 1 + 1) k ls S.cols) (hrow : wr.ownsRow (w.heap.size + 1 + 1) 25 4 (.slice (some ⟨g, 0, none⟩) S.cols.length c) S.cols.length ls.flatten) (hu : ls[k]? = some [.string S.cols[k].name, .int .i64 S.cols[k].lo, .int .i64 S.cols[k].hi, u])
    (hz : S.cols[k].name.size ≤ maxLen ∧ Fit S.cols[k].lo ∧ Fit S.cols[k].hi) (hb : Below wr.heap.size wr wc) (hv : OSeq strK wr.heap.size wc v5 S.cols[k].words) :
    CpInv C w w0 S (.slice (some ⟨g, 0, none⟩) S.cols.length c) (k + 1) (wc.setCell ⟨g, k * 4 + 3, none⟩ v5) := by
  have hsz := h.sz
  have hbs := hb.size
  obtain ⟨ls', h1, h2⟩ := hat.step (List.getElem?_eq_getElem hk) hu hrow hb hv hsz hz
  refine ⟨?_, ?_, ⟨ls', h1, h2⟩, ?_, ?_⟩
  · rw [Below.heap_setCell _ _ _ _ (by show w.heap.size ≠ g; omega)]; exact (hb.block _ (by omega)).trans h.bx
  · rw [Below.heap_setCell _ _ _ _ (by show w.heap.size + 1 ≠ g; omega)]; exact (hb.block _ (by omega)).trans h.rx
  · exact (h.be.trans (hb.mono h.be.size)).setCell (by show _ ≤ g; omega) _
  · simp [World.setCell]; omega
theorem CpInv.fin {C : TypeId → Nat → Prop} {w w0 wr : World} {S : Sch} {v1 : Value} (h : CpInv C w w0 S v1 S.cols.length wr) : OSeq colK w.heap.size wr v1 S.cols := by
  obtain ⟨ls, hat, hrow⟩ := h.row
  have h1 : OSeq colK (w.heap.size + 1 + 1) wr v1 S.cols := ⟨ls, hrow, hat.1, fun j x hj => by
    obtain ⟨l, e, h2, _⟩ := hat.2 j x hj
    exact ⟨l, e, h2 (List.getElem?_eq_some_iff.1 hj).1⟩⟩
  exact h1.base_le (by omega)

attribute [local go_sem] Oper.semAt_some
set_option maxRecDepth 100000 in
set_option maxHeartbeats 4000000 in
theorem scopy_any (C : TypeId → Nat → Prop) (v : Value) (S : Sch) (w : World) (h : SchVal C w v S) (hn : S.cols.length ≤ 1000000) (hw : ∀ c ∈ S.cols, c.words.length ≤ 1000000) :
    Calls Tryz.prog 50 #[v] w fun e w' => ∃ u, e = .returned (.agg #[.string S.name, .bool S.pub, .int .i64 S.many, u]) ∧ OSeq colK w.heap.size w' u S.cols ∧ Below w.heap.size w w' := by
  obtain ⟨u, rfl, hrw, hs⟩ := h
  obtain ⟨A, c, rfl, hl, hm⟩ := hrw.slice
  have hb0 : Below w.heap.size w ((w.alloc (.cells #[.string S.name, .bool S.pub, .int .i64 S.many, .slice A S.cols.length c] 34)).alloc (.cells #[.string ByteArray.empty, .bool false, .int .i64 0, .slice none 0 0] 34)) := by go_grown
  have HROW := Lib.hid (hrw.keep (C' := Lt w.heap.size) fun E b _ hlt _ => ⟨hlt, hb0.block b hlt⟩)
  have HB0 := Lib.hid hb0
  have HW := Lib.hid hw
  have h0B : ((w.alloc (.cells #[.string S.name, .bool S.pub, .int .i64 S.many, .slice A S.cols.length c] 34)).alloc (.cells #[.string ByteArray.empty, .bool false, .int .i64 0, .slice none 0 0] 34)).heap[w.heap.size]? = some (.cells #[.string S.name, .bool S.pub, .int .i64 S.many, .slice A S.cols.length c] 34 (0, 0)) := (heap_alloc_old _ _ (by simp)).trans (heap_alloc_new w _)
  have H0B := Lib.hid h0B
  have h0R : ((w.alloc (.cells #[.string S.name, .bool S.pub, .int .i64 S.many, .slice A S.cols.length c] 34)).alloc (.cells #[.string ByteArray.empty, .bool false, .int .i64 0, .slice none 0 0] 34)).heap[w.heap.size + 1]? = some (.cells #[.string ByteArray.empty, .bool false, .int .i64 0, .slice none 0 0] 34 (0, 0)) := by
    have := heap_alloc_new (w.alloc (.cells #[.string S.name, .bool S.pub, .int .i64 S.many, .slice A S.cols.length c] 34)) (.cells #[.string ByteArray.empty, .bool false, .int .i64 0, .slice none 0 0] 34)
    simpa using this
  have H0R := Lib.hid h0R
  clear hrw hb0 hw h0B h0R
  refine (callsIn_wide (n := 6)).1 ?_
  have h1 : 1 ≤ 6 := by omega
  refine callsIn_of_wp Tryz.func50 rfl trivial ?_ rfl
  simp only [Tryz.ntmps50, List.size_toArray, List.length_cons, List.length_nil, Nat.reduceAdd, Nat.reduceSub, Array.replicate_succ, Array.replicate_zero, List.push_toArray, List.append_toArray, List.nil_append, List.cons_append]
  have hsz0 : ((w.alloc (.cells #[.string S.name, .bool S.pub, .int .i64 S.many, .slice A S.cols.length c] 34)).alloc (.cells #[.string ByteArray.empty, .bool false, .int .i64 0, .slice none 0 0] 34)).heap.size = w.heap.size + 1 + 1 := by simp
  have HSZ0 := Lib.hid hsz0
  clear hsz0
  gi_wp2_with (refine ⟨trivial, ?_⟩; gi_at_call 69; refine (callsIn_wide.2 (cloneCols_any (Lt w.heap.size) _ S.cols _ HROW.out hn)).mono ?_; rintro e w1 ⟨v1, ls1, rfl, hrow1, hll1, hls1, hb1⟩; obtain ⟨A1, c1, rfl⟩ := slice_of hrow1; have hB1 := (hb1.block w.heap.size (by simp; omega)).trans H0B.out; have hR1 := (hb1.block (w.heap.size + 1) (by simp)).trans H0R.out; obtain ⟨k3, f3⟩ := cellrow hB1 3 (by simp); have HST := Lib.hid (CpInv.start HSZ0.out HB0.out hb1 hB1 hR1 hrow1 hll1 hls1); clear hrow1 hll1 hls1 hb1 hB1 hR1)
  gi_loopw [11] (fun i wr => ∃ k : Nat, k ≤ S.cols.length ∧ i = .int .i64 k ∧ CpInv (Lt w.heap.size) w ((w.alloc (.cells #[.string S.name, .bool S.pub, .int .i64 S.many, .slice A S.cols.length c] 34)).alloc (.cells #[.string ByteArray.empty, .bool false, .int .i64 0, .slice none 0 0] 34)) S (.slice A1 S.cols.length c1) k wr) (fun i _ => S.cols.length - (intOf i).toNat)
  case atStart => exact ⟨0, Nat.zero_le _, rfl, HST.out⟩
  case round =>
    obtain ⟨k, hk, rfl, hinv⟩ := hrel
    have HI := Lib.hid hinv
    have y3 := (cellrow hinv.bx 3 (by simp)).1
    clear hinv k3 f3
    by_cases hlt : k < S.cols.length
    · obtain ⟨g, u, ls, rfl, hgb, hat, hrow, hu, hsr, hz, hcu, hfz, hgl⟩ := HI.out.at' hlt
      obtain ⟨Au, cu, rfl, _, _⟩ := hsr.slice
      have HF := Lib.hid (And.intro hat (And.intro hrow (And.intro hu (And.intro hsr hz))))
      have hi0 : (0 : Int) ≤ (k : Int) := by omega
      have hi1 : (k : Int) < (S.cols.length : Int) := by omega
      have hwl : S.cols[k].words.length ≤ 1000000 := HW.out _ (List.getElem_mem hlt)
      have hmx : Tryz.prog.follows .mixedOrders = true := by kernel_rfl
      have hBl : w.heap.size < wr.heap.size := by have := HI.out.sz; omega
      have xB : ∀ X : SameAt wr (fun k => k = w.heap.size ∨ k = g), X.W.cell? ⟨w.heap.size, 3, none⟩ = some (.slice (some ⟨g, 0, none⟩) S.cols.length c1) := fun X => X.cell (.inl rfl) y3
      have xG : ∀ X : SameAt wr (fun k => k = w.heap.size ∨ k = g), X.W.cell? ⟨g, k * 4 + 3, none⟩ = some (.slice Au S.cols[k].words.length cu) := fun X => X.cell (.inr rfl) hcu
      have HCU := Lib.hid (And.intro hcu hfz)
      clear hat hrow hu hsr hz hcu hfz y3
      gi_wp2
      refine wpIn_stage (IsSame wr (fun k => k = w.heap.size ∨ k = g)) [0, 1, 2, 3, 4, 5, 6, 7, 8] [12] hmx (by kernel_rfl) (isSame_of fun _ _ => rfl) ?_
      change wpStage _ _ _ _ _ _ _ _ (4 + 9) _ _ _
      refine stage_reads [0, 1, 2, 3, 4, 5, 6, 7, 8] 4 _ _ (by kernel_rfl) ?_
      change wpQuietIn _ _ _ _ (fun W => ∃ x : SameAt wr (fun k => k = w.heap.size ∨ k = g), W = x.W) _ _ _
      simp only [pick_cons, pick_nil, List.getElem?_cons_zero, List.getElem?_cons_succ, Option.elim_some]
      repeat (gi_big_quiet_step (fail))
      refine wpQuietIn_nil ?_
      clear xB xG
      refine stage_one 9 (by kernel_rfl) rfl ?_
      have hs5 : SRow strK (Lt w.heap.size) wr.drew (.slice Au S.cols[k].words.length cu) S.cols[k].words := HF.out.2.2.2.1.keep fun E b _ _ hb => ⟨hb, (HI.out.be.block b hb).trans (HB0.out.block b hb).symm⟩
      have HS5 := Lib.hid hs5
      clear hs5
      gi_wp2_with (refine ⟨trivial, ?_⟩; gi_at_call 70; refine (callsIn_wide.2 (cloneStrs_any (Lt w.heap.size) _ S.cols[k].words _ HS5.out hwl)).mono ?_; rintro e wc ⟨v5, rfl, ho5, hb5⟩; obtain ⟨A5, c5, rfl, _, _⟩ := ho5.slice)
      have hcw : wc.cell? ⟨g, k * 4 + 3, none⟩ = some (.slice Au S.cols[k].words.length cu) := (hb5.cell (p := ⟨g, k * 4 + 3, none⟩) hgl).trans HCU.out.1
      have hfw : wc.frozen? ⟨g, k * 4 + 3, none⟩ = false := (hb5.frozen (p := ⟨g, k * 4 + 3, none⟩) hgl).trans HCU.out.2
      have HST2 := Lib.hid (CpInv.step HI.out hlt hgb HF.out.1 HF.out.2.1 HF.out.2.2.1 HF.out.2.2.2.2 (show Below wr.heap.size wr wc from ⟨hb5.os, hb5.tape, hb5.output, hb5.size, hb5.block⟩) ho5)
      have HSM := Lib.hid (show IsSame wr (fun k => k = w.heap.size ∨ k = g) wc from isSame_of fun j hj => hb5.block j (by rcases hj with rfl | rfl; exact hBl; exact hgl))
      clear ho5 hb5
      refine stage_post HSM.out ?_
      refine stage_one 10 (by kernel_rfl) rfl ?_
      gi_wp2
      refine stage_post HSM.out ?_
      refine stage_one 11 (by kernel_rfl) rfl ?_
      gi_wp2
      refine stage_post HSM.out ?_
      refine stage_one 12 (by kernel_rfl) rfl ?_
      gi_wp2
      refine stage_last rfl ?_
      refine stage_done (by kernel_rfl) ?_
      gi_wp2
      go_roundw
      case rel => exact ⟨k + 1, by omega, by go_num, HST2.out⟩
      case measure => simp [intOf]; omega
    · obtain rfl : k = S.cols.length := by omega
      have hfin := Lib.hid HI.out.fin
      obtain ⟨q0, _⟩ := cellrow HI.out.bx 0 (by simp)
      obtain ⟨q1, _⟩ := cellrow HI.out.bx 1 (by simp)
      obtain ⟨q2, _⟩ := cellrow HI.out.bx 2 (by simp)
      obtain ⟨r0, s0⟩ := cellrow HI.out.rx 0 (by simp)
      obtain ⟨r1, s1⟩ := cellrow HI.out.rx 1 (by simp)
      obtain ⟨r2, s2⟩ := cellrow HI.out.rx 2 (by simp)
      obtain ⟨r3, s3⟩ := cellrow HI.out.rx 3 (by simp)
      clear hlt
      gi_wp2
      have hr1 : w.heap.size + 1 < wr.heap.size := by have := HI.out.sz; omega
      refine bodyPost_ret (v := .agg #[.string S.name, .bool S.pub, .int .i64 S.many, .slice A1 S.cols.length c1]) (by simp [results, Tryz.results50, go_sem, r0, r1, r2, r3]) rfl ⟨_, rfl, ?_, ?_⟩
      · refine hfin.out.other (r := w.heap.size + 1) ((((grown_set _ _ _ _).trans (grown_set _ _ _ _)).trans (grown_set _ _ _ _)).trans (grown_set _ _ _ _)) fun E hE cu e => ?_
        rw [HI.out.rx] at e
        simp only [Option.some.injEq, Obj.cells.injEq] at e
        have : E = 25 ∨ E = 9 := by simpa [colK] using hE
        rcases this with rfl | rfl <;> exact absurd e.2.1 (by decide)
      · exact ((((HI.out.be.setCell (by show _ ≤ w.heap.size + 1; omega) _).setCell (by show _ ≤ w.heap.size + 1; omega) _).setCell (by show _ ≤ w.heap.size + 1; omega) _).setCell (by show _ ≤ w.heap.size + 1; omega) _)
end Go.Proofs.YtlocafmglficnaaGreatDoor
