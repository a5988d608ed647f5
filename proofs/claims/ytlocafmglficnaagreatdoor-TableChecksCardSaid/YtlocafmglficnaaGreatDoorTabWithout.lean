/- A table without an owner. -/
import Derived.Test.YtlocafmglficnaaGreatDoorTabRows
namespace Go.Proofs.YtlocafmglficnaaGreatDoor
open Go.RowKit Go.Maps Go.Sort Go.Shelf

theorem own_uniq {base E size n : Nat} {w : World} {v : Value} {us us' : List Value} (h : w.ownsRow base E size v n us) (h' : w.ownsRow base E size v n us') : us = us' := by
  rcases h.2 with ⟨e, h0⟩ | ⟨g, cap, cur, e, _, hh, _, _, _, ht⟩
  · have h1 := h.1
    have h2 := h'.1
    rw [h0] at h1 h2
    have e1 : us = [] := List.eq_nil_of_length_eq_zero (by simpa using h1)
    have e2 : us' = [] := List.eq_nil_of_length_eq_zero (by simpa using h2)
    rw [e1, e2]
  · rcases h'.2 with ⟨e', _⟩ | ⟨g', cap', cur', e', _, hh', _, _, _, ht'⟩
    · rw [e] at e'; cases e'
    · rw [e] at e'
      simp only [Value.slice.injEq, Option.some.injEq, Addr.mk.injEq, and_true, true_and] at e'
      obtain ⟨rfl, _⟩ := e'
      rw [hh] at hh'
      simp only [Option.some.injEq, Obj.cells.injEq] at hh'
      rw [← ht, ← ht', hh'.1]
theorem OSeq.app2 {α : Type} {K : Kind α} {base : Nat} {w w' : World} {v v' : Value} {xs : List α} {us l : List Value} {x : α} (h : OSeq K base w v xs) (hK : K.ty ∉ K.inner) (hi : K.is (Own base w) w l x) (ho : w.ownsRow base K.ty K.k v xs.length us)
    (ho' : w'.ownsRow base K.ty K.k v' (xs.length + 1) (us ++ l)) (hg : w.grownBy w' v.ownBlock) : OSeq K base w' v' (xs ++ [x]) :=
  h.app hK hi (fun us' h' => by rw [own_uniq h' ho]; exact ho') hg
theorem OSeq.raw {α : Type} {K : Kind α} {base : Nat} {w : World} {v : Value} {xs : List α} (h : OSeq K base w v xs) : ∃ us, w.ownsRow base K.ty K.k v xs.length us := by
  obtain ⟨ls, ho, _⟩ := h
  exact ⟨_, ho⟩
/-- A turn of a block that holds no cells, or of none. -/
theorem OSeq.turn {α : Type} {K : Kind α} {base : Nat} {w w' : World} {row : Option Nat} {v : Value} {xs : List α} (h : OSeq K base w v xs) (hg : w.grownBy w' row) (hr : ∀ r, row = some r → ∃ o : Obj, w.heap[r]? = some o ∧ o.isCells = false) : OSeq K base w' v xs := by
  have hno : ∀ r, row = some r → ∀ E cu, w.heap[r]? ≠ some (.cells cu E (0, 0)) := fun r e E cu hc => by
    obtain ⟨o, ho, hn⟩ := hr r e
    rw [ho] at hc
    cases hc
    cases hn
  obtain ⟨ls, ho, hl, hx⟩ := h
  refine ⟨ls, ho.kept hg ?_, hl, fun j x hj => ?_⟩
  · cases hv : v.ownBlock with
    | none => exact .inl rfl
    | some g =>
      refine .inr fun e => ?_
      obtain ⟨cu, hc⟩ := owned_block ho hv
      exact hno g e.symm _ cu hc
  · obtain ⟨l, e, hi⟩ := hx j x hj
    exact ⟨l, e, K.keepOwn hi hg fun r hr' E _ cu => hno r hr' E cu⟩

/-- The table that Without builds. -/
structure WtI (T : Tbl) (w w0 : World) (bO : Nat) (cu : Value) (pre : List (RowV × Value)) (W : World) : Prop where
  bx : ∃ v, W.heap[bO]? = some (.cells #[.string T.sch.name, .bool T.sch.pub, .int .i64 T.sch.many, cu, v] 37 (0, 0)) ∧ OSeq rowK w0.heap.size W v (pre.map Prod.fst)
  rd : RdG w0 w0.heap.size bO W
theorem WtI.below {T : Tbl} {w w0 W : World} {bO : Nat} {cu : Value} {pre : List (RowV × Value)} (h : WtI T w w0 bO cu pre W) (hb : Below w.heap.size w w0) (hbO : w.heap.size ≤ bO) (hos : W.os = w0.os) (htp : W.tape = w0.tape) (hou : W.output = w0.output) : Below w.heap.size w W :=
  ⟨hos.trans hb.os, htp.trans hb.tape, hou.trans hb.output, Nat.le_trans hb.size h.rd.size, fun k hk => (h.rd.blk k (Nat.lt_of_lt_of_le hk hb.size) (by omega)).trans (hb.block k hk)⟩
theorem WtI.own {T : Tbl} {w w0 : World} {bO B : Nat} {cu : Value} (hB : w0.heap.size ≤ B) : OwnFrom B (WtI T w w0 bO cu) := by
  intro s A A' row hs hg hr
  obtain ⟨v, hb, ho⟩ := hs.bx
  have hne : ∀ k cu t f, A.heap[k]? = some (.cells cu t f) → some k ≠ row := fun k cu t f hc e => by
    obtain ⟨_, o, ho, hn⟩ := hr k e.symm
    rw [ho] at hc; cases hc; cases hn
  refine ⟨⟨v, (hg.block bO (Array.getElem?_eq_some_iff.1 hb).1 (hne _ _ _ _ hb)).trans hb, ho.turn hg fun r e => (hr r e).2⟩, ⟨Nat.le_trans hs.rd.size hg.size, fun k hk hkO => ?_⟩⟩
  refine (hg.block k (Nat.lt_of_lt_of_le hk hs.rd.size) fun e => ?_).trans (hs.rd.blk k hk hkO)
  have := (hr k e.symm).1
  omega
theorem info34 : (Tryz.prog.info? 53).map (fun i => (i.zero, i.size, i.bytes)) = some (some (.agg #[.int .i64 0, .slice none 0 0]), 2, 32) := by kernel_rfl
theorem rows_fn (v : Value) (o : Int) (c0 c1 c2 c3 c4 : Value) (hv : v = .agg #[c0, c1, c2, c3, c4]) (_h1 : ∀ c ∈ [c0, c1, c2, c3, c4], c.oneCell' = true) (w : World) : Calls Tryz.prog 64 #[v, .int .i64 o] w fun e w' => e = .returned (.func (.func 78) #[] #[.pointer (some ⟨w.heap.size, 0, none⟩), .pointer (some ⟨w.heap.size + 1, 0, none⟩)]) ∧
    w' = (w.alloc (.cells #[c0, c1, c2, c3, c4] 37)).alloc (.cells #[.int .i64 o] 3) := by
  subst hv
  go_enter Tryz.func64, Tryz.ntmps64
  go_wp2
  go_ret
  exact ⟨rfl, rfl⟩

set_option maxHeartbeats 1000000 in
/-- One row more. -/
theorem WtI.step {T : Tbl} {w w0 Wb w1 : World} {bO : Nat} {cu v v' : Value} {pre : List (RowV × Value)} {x : RowV × Value} {us : List Value} {o : Obj} (h : WtI T w w0 bO cu pre Wb) (hbO : bO < w0.heap.size) (hb : Wb.heap[bO]? = some (.cells #[.string T.sch.name, .bool T.sch.pub, .int .i64 T.sch.many, cu, v] 37 (0, 0)))
    (hv : OSeq rowK w0.heap.size Wb v (pre.map Prod.fst)) (hx : OSeq intK w0.heap.size Wb x.2 x.1.vals) (hf : Fit x.1.owner) (hus : (Wb.alloc o).ownsRow w0.heap.size 53 2 v (pre.map Prod.fst).length us)
    (hown : w1.ownsRow w0.heap.size 53 2 v' ((pre.map Prod.fst).length + 1) (us ++ [.int .i64 x.1.owner, x.2])) (hg : (Wb.alloc o).grownBy w1 v.ownBlock) :
    WtI T w w0 bO cu (pre ++ [x]) (w1.setCell ⟨bO, 4, none⟩ v') ∧ KeepsOthers Wb (w1.setCell ⟨bO, 4, none⟩ v') ∧ w1.cell? ⟨bO, 4, none⟩ = some v ∧ w1.frozen? ⟨bO, 4, none⟩ = false := by
  have hba : Below Wb.heap.size Wb (Wb.alloc o) := below_alloc Wb o
  have hva := hv.later hba
  have hxa := hx.later hba
  have hrowE : rowK.ty ∉ rowK.inner := by decide
  have hnew : OSeq rowK w0.heap.size w1 v' (pre.map Prod.fst ++ [x.1]) := hva.app2 hrowE ⟨x.2, rfl, hxa.row, hf⟩ hus hown hg
  have hbl : bO < Wb.heap.size := (Array.getElem?_eq_some_iff.1 hb).1
  have hbOne : some bO ≠ v.ownBlock := fun e => by
    obtain ⟨cur, hc⟩ := owned_block hus e.symm
    rw [Below.heap_alloc _ _ _ hbl, hb] at hc
    simp only [Option.some.injEq, Obj.cells.injEq] at hc
    exact absurd hc.2.1 (by decide)
  have hb1 : w1.heap[bO]? = some (.cells #[.string T.sch.name, .bool T.sch.pub, .int .i64 T.sch.many, cu, v] 37 (0, 0)) := (hg.block bO (by simp; omega) hbOne).trans ((Below.heap_alloc _ _ _ hbl).trans hb)
  have hsz := hg.size
  simp at hsz
  refine ⟨⟨⟨v', ?_, ?_⟩, ⟨?_, fun k hk hkO => ?_⟩⟩, ?_, by simp [World.cell?, hb1], by simp [World.frozen?, hb1]⟩
  · rw [heap_setCell_same _ _ _ _ _ _ hb1]; rfl
  · rw [List.map_append]
    refine hnew.other (r := bO) (grown_set _ _ _ _) fun E hE cu' e => ?_
    rw [hb1] at e
    simp only [Option.some.injEq, Obj.cells.injEq] at e
    have : E = 53 ∨ E = 3 := by simpa [rowK] using hE
    rcases this with rfl | rfl <;> exact absurd e.2.1 (by decide)
  · have := h.rd.size
    simp [World.setCell]; omega
  · rw [Below.heap_setCell _ _ _ _ (by exact hkO)]
    have hkb : k < Wb.heap.size := by have := h.rd.size; omega
    refine (hg.block k (by simp; omega) fun e => ?_).trans ((Below.heap_alloc _ _ _ hkb).trans (h.rd.blk k hk hkO))
    have := (hus.lt k e.symm).1
    omega
  · refine ⟨by simp [World.setCell]; omega, fun k ob hk hn => ?_⟩
    have hkl := (Array.getElem?_eq_some_iff.1 hk).1
    have hk1 : k ≠ bO := fun e => by subst e; rw [hb] at hk; cases hk; cases hn
    rw [Below.heap_setCell _ _ _ _ (by exact hk1)]
    refine (hg.block k (by simp; omega) fun e => ?_).trans ((Below.heap_alloc _ _ _ hkl).trans hk)
    obtain ⟨cur, hc⟩ := owned_block hus e.symm
    rw [Below.heap_alloc _ _ _ hkl, hk] at hc
    cases hc; cases hn
/-- With the world's rest. -/
def GtI (T : Tbl) (w w0 : World) (bO : Nat) (cu : Value) (pre : List (RowV × Value)) (W : World) : Prop := WtI T w w0 bO cu pre W ∧ w0.grownBy W (some bO)
theorem GtI.own {T : Tbl} {w w0 : World} {bO B : Nat} {cu : Value} (hB : w0.heap.size ≤ B) : OwnFrom B (GtI T w w0 bO cu) := by
  intro s A A' row hs hg hr
  refine ⟨WtI.own hB s A A' row hs.1 hg hr, hg.os.trans hs.2.os, hg.tape.trans hs.2.tape, hg.output.trans hs.2.output, Nat.le_trans hs.2.size hg.size, fun k hk hne => ?_⟩
  refine (hg.block k (Nat.lt_of_lt_of_le hk hs.2.size) fun e => ?_).trans (hs.2.block k hk hne)
  have := (hr k e.symm).1
  omega
theorem GtI.nil {T : Tbl} {w w0 : World} {bO : Nat} {cu : Value} (h : w0.heap[bO]? = some (.cells #[.string T.sch.name, .bool T.sch.pub, .int .i64 T.sch.many, cu, .slice none 0 0] 37 (0, 0))) : GtI T w w0 bO cu [] w0 :=
  ⟨⟨⟨_, h, OSeq.nil _ _ _⟩, ⟨Nat.le_refl _, fun _ _ _ => rfl⟩⟩, rfl, rfl, rfl, Nat.le_refl _, fun _ _ _ => rfl⟩
theorem GtI.step {T : Tbl} {w w0 Wb w1 : World} {bO : Nat} {cu v v' : Value} {pre : List (RowV × Value)} {x : RowV × Value} {us : List Value} {o : Obj} (h : GtI T w w0 bO cu pre Wb) (hbO : bO < w0.heap.size) (hb : Wb.heap[bO]? = some (.cells #[.string T.sch.name, .bool T.sch.pub, .int .i64 T.sch.many, cu, v] 37 (0, 0)))
    (hv : OSeq rowK w0.heap.size Wb v (pre.map Prod.fst)) (hx : OSeq intK w0.heap.size Wb x.2 x.1.vals) (hf : Fit x.1.owner) (hus : (Wb.alloc o).ownsRow w0.heap.size 53 2 v pre.length us)
    (hown : w1.ownsRow w0.heap.size 53 2 v' (pre.length + 1) (us ++ [.int .i64 x.1.owner, x.2])) (hg : (Wb.alloc o).grownBy w1 v.ownBlock) :
    (KeepsOthers Wb (w1.setCell ⟨bO, 4, none⟩ v') ∧ GtI T w w0 bO cu (pre ++ [x]) (w1.setCell ⟨bO, 4, none⟩ v')) ∧ w1.cell? ⟨bO, 4, none⟩ = some v ∧ w1.frozen? ⟨bO, 4, none⟩ = false := by
  obtain ⟨h1, h2, h3, h4⟩ := WtI.step h.1 hbO hb hv hx hf (by simpa using hus) (by simpa using hown) hg
  refine ⟨⟨h2, h1, ?_⟩, h3, h4⟩
  have g2 := h.2
  have hsz := hg.size
  simp at hsz
  refine ⟨(by show w1.os = _; rw [hg.os]; exact g2.os), (by show w1.tape = _; rw [hg.tape]; exact g2.tape), (by show w1.output = _; rw [hg.output]; exact g2.output), ?_, fun k hk hne => ?_⟩
  · have := g2.size; simp [World.setCell]; omega
  · have hkO : k ≠ bO := fun e => hne (by rw [e])
    have hkb : k < Wb.heap.size := by have := g2.size; omega
    rw [Below.heap_setCell _ _ _ _ (by exact hkO)]
    refine (hg.block k (by simp; omega) fun e => ?_).trans ((Below.heap_alloc _ _ _ hkb).trans (g2.block k hk hne))
    have := (hus.lt k e.symm).1
    omega
theorem two_new (w : World) (a b : Value) (E : TypeId) : ∀ (j : Nat) (u : Value), [a, b][j]? = some u → (w.alloc (.cells #[a, b] E)).cell? ((⟨w.heap.size, 0, none⟩ : Addr).add j) = some u
  | 0, u, h => by rw [addr_add0]; exact cell_newk _ _ _ _ _ _ rfl (by simpa using h)
  | 1, u, h => by rw [addr_add0]; exact cell_newk _ _ _ _ _ _ rfl (by simpa using h)
  | j + 2, u, h => by simp at h
theorem info34p : ∃ i, Tryz.prog.info? 53 = some i ∧ i.zero = some (.agg #[.int .i64 0, .slice none 0 0]) ∧ i.size = 2 ∧ i.bytes = 32 := by
  have h := info34
  cases e : Tryz.prog.info? 53 with
  | none => rw [e] at h; cases h
  | some i =>
    rw [e] at h
    simp only [Option.map_some, Option.some.injEq, Prod.mk.injEq] at h
    exact ⟨i, rfl, h.1, h.2.1, h.2.2⟩
attribute [local go_sem] Oper.semAt_some
set_option maxRecDepth 100000 in
set_option maxHeartbeats 4000000 in
theorem without_any (C : TypeId → Nat → Prop) (v : Value) (T : Tbl) (o : Int) (w : World) (h : TblVal C w v T) (hn : T.sch.cols.length ≤ 1000000) (hw : ∀ c ∈ T.sch.cols, c.words.length ≤ 1000000) (hrl : T.rows.length ≤ 1000000) (hvs : ∀ r ∈ T.rows, r.vals.length ≤ 1000000) :
    Calls Tryz.prog 41 #[v, .int .i64 o] w fun e w' => ∃ cu ru, e = .returned (.agg #[.string T.sch.name, .bool T.sch.pub, .int .i64 T.sch.many, cu, ru]) ∧ OSeq colK w.heap.size w' cu T.sch.cols ∧ OSeq rowK w.heap.size w' ru (keptR T o) ∧ Below w.heap.size w w' := by
  obtain ⟨cu, ru, rfl, hcu, hru, hnm⟩ := h
  have HT := Lib.hid (show TblVal C w (.agg #[.string T.sch.name, .bool T.sch.pub, .int .i64 T.sch.many, cu, ru]) T from ⟨cu, ru, rfl, hcu, hru, hnm⟩)
  obtain ⟨Ac, cc, rfl, _, _⟩ := hcu.slice
  obtain ⟨Ar, cr, rfl, _, _⟩ := hru.slice
  have HRU := Lib.hid hru
  have HN := Lib.hid hn
  have HW := Lib.hid hw
  have HRL := Lib.hid hrl
  have HVS := Lib.hid hvs
  clear hcu hru hnm hn hw hrl hvs
  refine (callsIn_wide (n := 6)).1 ?_
  have h1 : 1 ≤ 6 := by omega
  refine callsIn_of_wp_marks Tryz.func41 rfl trivial ?_ rfl
  simp only [Tryz.ntmps41, List.size_toArray, List.length_cons, List.length_nil, Nat.reduceAdd, Nat.reduceSub, Array.replicate_succ, Array.replicate_zero, List.push_toArray, List.append_toArray, List.nil_append, List.cons_append]
  have hb0 : Below w.heap.size w ((w.alloc (.cells #[.string T.sch.name, .bool T.sch.pub, .int .i64 T.sch.many, .slice Ac T.sch.cols.length cc, .slice Ar T.rows.length cr] 37)).alloc (.cells #[.string ByteArray.empty, .bool false, .int .i64 0, .slice none 0 0, .slice none 0 0] 37)) := by go_grown
  have HB0 := Lib.hid hb0
  have HS := Lib.hid (TblVal.sch (HT.out.below hb0))
  have HP := Lib.hid (show ((w.alloc (.cells #[.string T.sch.name, .bool T.sch.pub, .int .i64 T.sch.many, .slice Ac T.sch.cols.length cc, .slice Ar T.rows.length cr] 37)).alloc (.cells #[.string ByteArray.empty, .bool false, .int .i64 0, .slice none 0 0, .slice none 0 0] 37)).heap[w.heap.size]? = some (.cells #[.string T.sch.name, .bool T.sch.pub, .int .i64 T.sch.many, .slice Ac T.sch.cols.length cc, .slice Ar T.rows.length cr] 37 (0, 0)) from (heap_alloc_old _ _ (by simp)).trans (heap_alloc_new w _))
  have HR := Lib.hid (show ((w.alloc (.cells #[.string T.sch.name, .bool T.sch.pub, .int .i64 T.sch.many, .slice Ac T.sch.cols.length cc, .slice Ar T.rows.length cr] 37)).alloc (.cells #[.string ByteArray.empty, .bool false, .int .i64 0, .slice none 0 0, .slice none 0 0] 37)).heap[w.heap.size + 1]? = some (.cells #[.string ByteArray.empty, .bool false, .int .i64 0, .slice none 0 0, .slice none 0 0] 37 (0, 0)) from by
    have := heap_alloc_new (w.alloc (.cells #[.string T.sch.name, .bool T.sch.pub, .int .i64 T.sch.many, .slice Ac T.sch.cols.length cc, .slice Ar T.rows.length cr] 37)) (.cells #[.string ByteArray.empty, .bool false, .int .i64 0, .slice none 0 0, .slice none 0 0] 37)
    simpa using this)
  clear hb0
  gi_wp2
  refine ⟨trivial, ?_⟩
  gi_at_call 50
  refine (callsIn_wide.2 (scopy_any C _ T.sch _ HS.out HN.out HW.out)).mono ?_
  rintro e w1 ⟨u1, rfl, ho1, hb1⟩
  obtain ⟨A1, c1, rfl, _, _⟩ := ho1.slice
  have HO1 := Lib.hid ho1
  have HB1 := Lib.hid hb1
  have hs1 : w.heap.size + 1 + 1 ≤ w1.heap.size := by (have := hb1.size; simp at this; omega)
  have hP1 := (hb1.block w.heap.size (by simp; omega)).trans HP.out
  have y0 := (cellrow hP1 0 (by simp)).1
  have y1 := (cellrow hP1 1 (by simp)).1
  have y2 := (cellrow hP1 2 (by simp)).1
  have y3 := (cellrow hP1 3 (by simp)).1
  have y4 := (cellrow hP1 4 (by simp)).1
  clear ho1 hb1 hP1
  have hlt0 : w.heap.size < w1.heap.size := by omega
  gi_wp2
  refine ⟨trivial, ?_⟩
  gi_at_call 64
  refine (callsIn_wide.2 (rows_fn _ o _ _ _ _ _ rfl (by simp [Value.oneCell']) _)).mono ?_
  rintro e w2 ⟨rfl, rfl⟩
  gi_wp2
  have HO0 := Lib.hid (HO1.out.later (w' := (((w1.alloc (.cells #[.string T.sch.name, .bool T.sch.pub, .int .i64 T.sch.many, .slice A1 T.sch.cols.length c1, .slice none 0 0] 37)).alloc (.cells #[.string T.sch.name, .bool T.sch.pub, .int .i64 T.sch.many, .slice Ac T.sch.cols.length cc, .slice Ar T.rows.length cr] 37)).alloc (.cells #[.int .i64 o] 3))) (by go_grown))
  have HBW := Lib.hid ((HB0.out.trans (HB1.out.mono (by simp; omega))).trans (show Below w.heap.size w1 (((w1.alloc (.cells #[.string T.sch.name, .bool T.sch.pub, .int .i64 T.sch.many, .slice A1 T.sch.cols.length c1, .slice none 0 0] 37)).alloc (.cells #[.string T.sch.name, .bool T.sch.pub, .int .i64 T.sch.many, .slice Ac T.sch.cols.length cc, .slice Ar T.rows.length cr] 37)).alloc (.cells #[.int .i64 o] 3)) from by go_grown))
  have HBO := Lib.hid (show (((w1.alloc (.cells #[.string T.sch.name, .bool T.sch.pub, .int .i64 T.sch.many, .slice A1 T.sch.cols.length c1, .slice none 0 0] 37)).alloc (.cells #[.string T.sch.name, .bool T.sch.pub, .int .i64 T.sch.many, .slice Ac T.sch.cols.length cc, .slice Ar T.rows.length cr] 37)).alloc (.cells #[.int .i64 o] 3)).heap[w1.heap.size]? = some (.cells #[.string T.sch.name, .bool T.sch.pub, .int .i64 T.sch.many, .slice A1 T.sch.cols.length c1, .slice none 0 0] 37 (0, 0)) from (heap_alloc_old _ _ (by simp; omega)).trans ((heap_alloc_old _ _ (by simp)).trans (heap_alloc_new w1 _)))
  have HRV := Lib.hid (show (((w1.alloc (.cells #[.string T.sch.name, .bool T.sch.pub, .int .i64 T.sch.many, .slice A1 T.sch.cols.length c1, .slice none 0 0] 37)).alloc (.cells #[.string T.sch.name, .bool T.sch.pub, .int .i64 T.sch.many, .slice Ac T.sch.cols.length cc, .slice Ar T.rows.length cr] 37)).alloc (.cells #[.int .i64 o] 3)).heap[w.heap.size + 1]? = some (.cells #[.string ByteArray.empty, .bool false, .int .i64 0, .slice none 0 0, .slice none 0 0] 37 (0, 0)) from
    (heap_alloc_old _ _ (by simp; omega)).trans ((heap_alloc_old _ _ (by simp; omega)).trans ((heap_alloc_old _ _ (by omega)).trans ((HB1.out.block (w.heap.size + 1) (by simp)).trans HR.out))))
  have HP1 := Lib.hid (show (((w1.alloc (.cells #[.string T.sch.name, .bool T.sch.pub, .int .i64 T.sch.many, .slice A1 T.sch.cols.length c1, .slice none 0 0] 37)).alloc (.cells #[.string T.sch.name, .bool T.sch.pub, .int .i64 T.sch.many, .slice Ac T.sch.cols.length cc, .slice Ar T.rows.length cr] 37)).alloc (.cells #[.int .i64 o] 3)).heap[w1.heap.size + 1]? = some (.cells #[.string T.sch.name, .bool T.sch.pub, .int .i64 T.sch.many, .slice Ac T.sch.cols.length cc, .slice Ar T.rows.length cr] 37 (0, 0)) from
    (heap_alloc_old _ _ (by simp)).trans (by have := heap_alloc_new (w1.alloc (.cells #[.string T.sch.name, .bool T.sch.pub, .int .i64 T.sch.many, .slice A1 T.sch.cols.length c1, .slice none 0 0] 37)) (.cells #[.string T.sch.name, .bool T.sch.pub, .int .i64 T.sch.many, .slice Ac T.sch.cols.length cc, .slice Ar T.rows.length cr] 37); simpa using this))
  have HP2 := Lib.hid (show (((w1.alloc (.cells #[.string T.sch.name, .bool T.sch.pub, .int .i64 T.sch.many, .slice A1 T.sch.cols.length c1, .slice none 0 0] 37)).alloc (.cells #[.string T.sch.name, .bool T.sch.pub, .int .i64 T.sch.many, .slice Ac T.sch.cols.length cc, .slice Ar T.rows.length cr] 37)).alloc (.cells #[.int .i64 o] 3)).heap[w1.heap.size + 1 + 1]? = some (.cells #[.int .i64 o] 3 (0, 0)) from
    (by have := heap_alloc_new ((w1.alloc (.cells #[.string T.sch.name, .bool T.sch.pub, .int .i64 T.sch.many, .slice A1 T.sch.cols.length c1, .slice none 0 0] 37)).alloc (.cells #[.string T.sch.name, .bool T.sch.pub, .int .i64 T.sch.many, .slice Ac T.sch.cols.length cc, .slice Ar T.rows.length cr] 37)) (.cells #[.int .i64 o] 3); simpa using this))
  have HSZ := Lib.hid (show (((w1.alloc (.cells #[.string T.sch.name, .bool T.sch.pub, .int .i64 T.sch.many, .slice A1 T.sch.cols.length c1, .slice none 0 0] 37)).alloc (.cells #[.string T.sch.name, .bool T.sch.pub, .int .i64 T.sch.many, .slice Ac T.sch.cols.length cc, .slice Ar T.rows.length cr] 37)).alloc (.cells #[.int .i64 o] 3)).heap.size = w1.heap.size + 1 + 1 + 1 from by simp)
  clear y0 y1 y2 y3 y4 HB1 HO1 HS HP HR HB0
  generalize (((w1.alloc (.cells #[.string T.sch.name, .bool T.sch.pub, .int .i64 T.sch.many, .slice A1 T.sch.cols.length c1, .slice none 0 0] 37)).alloc (.cells #[.string T.sch.name, .bool T.sch.pub, .int .i64 T.sch.many, .slice Ac T.sch.cols.length cc, .slice Ar T.rows.length cr] 37)).alloc (.cells #[.int .i64 o] 3)) = W0 at *
  have hszW := HSZ.out
  refine wpIn_range_ord rfl h1 (gf := 78) (lb := #[.pointer (some ⟨w1.heap.size + 1, 0, none⟩), .pointer (some ⟨w1.heap.size + 1 + 1, 0, none⟩)]) rfl trivial (enters_of Tryz.func78 (by kernel_rfl) rfl)
    (rows_seq C T o w W0 (w1.heap.size + 1) (w1.heap.size + 1 + 1) W0.heap.size w1.heap.size (.slice A1 T.sch.cols.length c1) _ ⟨A1, c1, rfl⟩ HRU.out HBW.out (by omega) (by omega) (by omega) (by omega) (by omega) (by omega) (cellrow HP1.out 1 (by simp)).1 (cellrow HP1.out 4 (by simp)).1 (cellrow HP2.out 0 (by simp)).1 HVS.out) (fun _ => rfl)
    (GtI T w W0 w1.heap.size (.slice A1 T.sch.cols.length c1)) (fun _ _ _ => False) ?hG ?hI (fun _ _ _ _ _ hs _ _ => hs) (GtI.nil HBO.out) ?round ?done ?stop
  case hG => exact fun pre W h => h.1.rd
  case hI => exact GtI.own (Nat.le_refl _)
  case stop =>
    rintro D c pre x' W hD h _
    exact h.elim
  case done =>
    rintro D ys W hD hys ⟨hW, hg⟩ hKd
    obtain ⟨v, hbx, hrows⟩ := hW.bx
    rw [hys] at hrows
    obtain ⟨Av, cv, rfl, _, _⟩ := hrows.slice
    have hsW := hg.size
    have HRW := (hg.block (w.heap.size + 1) (by omega) (by simp; omega)).trans HRV.out
    have x0 := (cellrow hbx 0 (by simp)).1
    have x1 := (cellrow hbx 1 (by simp)).1
    have x2 := (cellrow hbx 2 (by simp)).1
    have x3 := (cellrow hbx 3 (by simp)).1
    have x4 := (cellrow hbx 4 (by simp)).1
    obtain ⟨r0, s0⟩ := cellrow HRW 0 (by simp)
    obtain ⟨r1, s1⟩ := cellrow HRW 1 (by simp)
    obtain ⟨r2, s2⟩ := cellrow HRW 2 (by simp)
    obtain ⟨r3, s3⟩ := cellrow HRW 3 (by simp)
    obtain ⟨r4, s4⟩ := cellrow HRW 4 (by simp)
    have hcols := HO0.out.other (r := w1.heap.size) hg fun E hE cu e => by
      rw [HBO.out] at e
      simp only [Option.some.injEq, Obj.cells.injEq] at e
      have : E = 25 ∨ E = 9 := by simpa [colK] using hE
      rcases this with rfl | rfl <;> exact absurd e.2.1 (by decide)
    have hrows' := hrows.base_le (show w.heap.size ≤ W0.heap.size by omega)
    have hBW : Below w.heap.size w W := HBW.out.grown hg (by omega) (fun k e => by simp at e; omega)
    have HC := Lib.hid hcols
    have HRR := Lib.hid hrows'
    have HBF := Lib.hid hBW
    have HKD := Lib.hid hKd
    have HRW2 := Lib.hid HRW
    clear hcols hrows' hBW hrows hbx hW hg hKd HRW
    gi_wp2
    refine ⟨by simp, .inl ⟨_, _, rfl, run_takeDeferred ?hd, ?_⟩⟩
    case hd =>
      have hne : D ≠ w.heap.size + 1 := by omega
      rw [Below.heap_setCell _ _ _ _ hne, Below.heap_setCell _ _ _ _ hne, Below.heap_setCell _ _ _ _ hne, Below.heap_setCell _ _ _ _ hne, Below.heap_setCell _ _ _ _ hne]
      exact HKD.out
    have HRF := HRW2
    have g5 : W.grownBy (((((W.setCell ⟨w.heap.size + 1, 0, none⟩ (.string T.sch.name)).setCell ⟨w.heap.size + 1, 1, none⟩ (.bool T.sch.pub)).setCell ⟨w.heap.size + 1, 2, none⟩ (.int .i64 T.sch.many)).setCell ⟨w.heap.size + 1, 3, none⟩ (.slice A1 T.sch.cols.length c1)).setCell ⟨w.heap.size + 1, 4, none⟩ (.slice Av (keptR T o).length cv)) (some (w.heap.size + 1)) :=
      ((((grown_set _ _ _ _).trans (grown_set _ _ _ _)).trans (grown_set _ _ _ _)).trans (grown_set _ _ _ _)).trans (grown_set _ _ _ _)
    have e5 := heap_setCell_same _ _ 4 _ _ (.slice Av (keptR T o).length cv) (heap_setCell_same _ _ 3 _ _ (.slice A1 T.sch.cols.length c1) (heap_setCell_same _ _ 2 _ _ (.int .i64 T.sch.many) (heap_setCell_same _ _ 1 _ _ (.bool T.sch.pub) (heap_setCell_same _ _ 0 _ _ (.string T.sch.name) HRF.out))))
    simp at e5
    have hbf := HBF.out.grown g5 HBF.out.size (fun k e => by simp at e; omega)
    have hc5 := HC.out.other (r := w.heap.size + 1) g5 fun E hE cu e => by
      rw [HRF.out] at e
      simp only [Option.some.injEq, Obj.cells.injEq] at e
      have : E = 25 ∨ E = 9 := by simpa [colK] using hE
      rcases this with rfl | rfl <;> exact absurd e.2.1 (by decide)
    have hr5 := HRR.out.other (r := w.heap.size + 1) g5 fun E hE cu e => by
      rw [HRF.out] at e
      simp only [Option.some.injEq, Obj.cells.injEq] at e
      have : E = 53 ∨ E = 3 := by simpa [rowK] using hE
      rcases this with rfl | rfl <;> exact absurd e.2.1 (by decide)
    have hd5 : (((((W.setCell ⟨w.heap.size + 1, 0, none⟩ (.string T.sch.name)).setCell ⟨w.heap.size + 1, 1, none⟩ (.bool T.sch.pub)).setCell ⟨w.heap.size + 1, 2, none⟩ (.int .i64 T.sch.many)).setCell ⟨w.heap.size + 1, 3, none⟩ (.slice A1 T.sch.cols.length c1)).setCell ⟨w.heap.size + 1, 4, none⟩ (.slice Av (keptR T o).length cv)).heap[D]? = some (.deferred (some [])) :=
      (g5.block D (Array.getElem?_eq_some_iff.1 HKD.out).1 (by simp; omega)).trans HKD.out
    have hneD : w.heap.size + 1 ≠ D := by omega
    generalize (((((W.setCell ⟨w.heap.size + 1, 0, none⟩ (.string T.sch.name)).setCell ⟨w.heap.size + 1, 1, none⟩ (.bool T.sch.pub)).setCell ⟨w.heap.size + 1, 2, none⟩ (.int .i64 T.sch.many)).setCell ⟨w.heap.size + 1, 3, none⟩ (.slice A1 T.sch.cols.length c1)).setCell ⟨w.heap.size + 1, 4, none⟩ (.slice Av (keptR T o).length cv)) = Wf at *
    have hgD := grownBy_putObj' Wf D (.deferred none)
    have hDw : w.heap.size ≤ D := by omega
    have e6 := (World.putObj_heap_other (o := .deferred none) hneD).trans e5
    have t0 := (cellrow e6 0 (by simp)).1
    have t1 := (cellrow e6 1 (by simp)).1
    have t2 := (cellrow e6 2 (by simp)).1
    have t3 := (cellrow e6 3 (by simp)).1
    have t4 := (cellrow e6 4 (by simp)).1
    refine ⟨.agg #[.string T.sch.name, .bool T.sch.pub, .int .i64 T.sch.many, .slice A1 T.sch.cols.length c1, .slice Av (keptR T o).length cv], by simp [results, Tryz.results41, go_sem, t0, t1, t2, t3, t4], _, _, rfl,
      (hc5.turn hgD fun k e => by (cases e; exact ⟨_, hd5, rfl⟩)).base_le (by simp; omega), hr5.turn hgD fun k e => by (cases e; exact ⟨_, hd5, rfl⟩), hbf.grown hgD hbf.size (fun k e => by simp at e; omega)⟩
  case round =>
    rintro l pre ⟨r, v5⟩ W K hi hnx hK
    obtain ⟨k, hk, hpre, rfl, hv5, hf, A5, c5, hv5e⟩ := hnx
    dsimp only at hv5 hf hv5e hpre
    subst hv5e
    have hlen : (pre.map Prod.fst).length ≤ k := by rw [hpre]; exact Nat.le_trans (List.length_filter_le _ _) (by simp; omega)
    have hrl := HRL.out
    generalize T.rows[k] = r at *
    have HI := Lib.hid hi
    have HK := Lib.hid hK
    have HV5 := Lib.hid hv5
    have HF := Lib.hid hf
    clear hi hK hv5 hf hpre
    gi_wp2
    refine HK.out _ _ ?_ ?_ ?_
    · exact keeps_of_below (below_alloc W _)
    · exact OwnFrom.alloc (GtI.own (Nat.le_refl _)) _ HI.out
    · rintro Wb hT hIb
      have HIB := Lib.hid hIb
      obtain ⟨⟨⟨v, hbx, hrows⟩, hrd⟩, hg⟩ := hIb
      have HRO := Lib.hid hrows
      obtain ⟨us, hraw⟩ := hrows.raw
      rw [List.length_map] at hraw hlen
      obtain ⟨Av, cv, rfl⟩ := slice_of hraw
      obtain ⟨b4, b4f⟩ := cellrow hbx 4 (by simp)
      obtain ⟨rT, oT, oT', hrT, hoT, hcT, rfl⟩ := hT
      have hneT : W.heap.size ≠ rT := fun e => by
        subst e
        rw [heap_alloc_new] at hoT
        cases hoT; cases hcT
      have hbw : (((W.alloc (.cells #[.int .i64 r.owner, .slice A5 r.vals.length c5] 53)).putObj rT oT')).heap[W.heap.size]? = some (.cells #[.int .i64 r.owner, .slice A5 r.vals.length c5] 53 (0, 0)) := (World.putObj_heap_other hneT).trans (heap_alloc_new _ _)
      have hv5b : OSeq intK W0.heap.size ((W.alloc (.cells #[.int .i64 r.owner, .slice A5 r.vals.length c5] 53)).putObj rT oT') (.slice A5 r.vals.length c5) r.vals :=
        (HV5.out.later (below_alloc W _)).turn (grownBy_putObj' _ _ _) fun k e => by cases e; exact ⟨_, hoT, hcT⟩
      have HV := Lib.hid hv5b
      have HBX := Lib.hid hbx
      have hWb := hg.size
      have hbwl : W.heap.size < ((W.alloc (.cells #[.int .i64 r.owner, .slice A5 r.vals.length c5] 53)).putObj rT oT').heap.size := (Array.getElem?_eq_some_iff.1 hbw).1
      have q0 := (cellrow hbw 0 (by simp)).1
      have q1 := (cellrow hbw 1 (by simp)).1
      have hbOl : w1.heap.size < ((W.alloc (.cells #[.int .i64 r.owner, .slice A5 r.vals.length c5] 53)).putObj rT oT').heap.size := by omega
      have HG := Lib.hid hg
      clear hbx hrows hrd hg hoT hcT hv5b hbw
      generalize (W.alloc (.cells #[.int .i64 r.owner, .slice A5 r.vals.length c5] 53)).putObj rT oT' = Wb at *
      obtain ⟨i0, hi3, hz0, hz1, hz2⟩ := info34p
      gi_wp2_with (gi_at_builtin; refine wpListIn_append_own _ rfl _ _ 35 rfl W0.heap.size 53 i0 _ 2 32 Tryz.underlying35 hi3 hz0 hz1 hz2 rfl (by decide) _ _ us rfl (hraw.alloc _) ⟨Wb.heap.size, 0, none⟩ 1 1 [.int .i64 r.owner, .slice A5 r.vals.length c5] rfl rfl (two_new _ _ _ _) (by simp [Value.oneCell']) (by unfold maxLen; omega) (by omega) (by simp; omega) ?_; intro v1 w6 hown1 hgrow1 _; obtain ⟨Av1, cv1, rfl⟩ := slice_of hown1; obtain ⟨hst, hc6, hf6⟩ := GtI.step (x := (r, .slice A5 r.vals.length c5)) HIB.out (by omega) HBX.out HRO.out HV.out HF.out (hraw.alloc _) hown1 hgrow1; have HST := Lib.hid hst; clear hst)
      exact HST.out
end Go.Proofs.YtlocafmglficnaaGreatDoor
