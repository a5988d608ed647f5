/- The law's own columns: column. -/
import Derived.Test.YtlocafmglficnaaDoorTabGenCol
namespace Go.Proofs.YtlocafmglficnaaDoor
open Go.RowKit Go.Maps Go.Sort Go.Shelf

/-- The column that the numbers select, and where the Taker stands then. -/
def colOf (l : List Int) (a : Nat) (nm : ByteArray) : Col :=
  if tkV l a 3 = 1 then ⟨nm, 0, tkV l (tkA l a 3) 5, nms2.take (1 + (tkV l (tkA l a 3) 5).toNat)⟩
  else ⟨nm, tkV l (tkA l a 3) 9 - 3, tkV l (tkA l a 3) 9 - 3 + tkV l (tkA l (tkA l a 3) 9) 8, []⟩
def colA (l : List Int) (a : Nat) : Nat := if tkV l a 3 = 1 then tkA l (tkA l a 3) 5 else tkA l (tkA l (tkA l a 3) 9) 8
theorem TkrAt.later {w w' : World} {p : Nat} {v : Value} {l : List Int} {a : Nat} (h : TkrAt w p v l a) (hb : Below w.heap.size w w') : TkrAt w' p v l a := by
  have hl : p < w.heap.size := (Array.getElem?_eq_some_iff.1 h.bx).1
  exact ⟨(hb.block p hl).trans h.bx, h.row.keep fun E k _ hk hO => ⟨hO, hb.block k hk⟩, h.le⟩
theorem TkrAt.set {w : World} {p b i : Nat} {u v : Value} {l : List Int} {a : Nat} (h : TkrAt w p v l a) (hb : p < b) : TkrAt (w.setCell ⟨b, i, none⟩ u) p v l a :=
  ⟨(Below.heap_setCell _ _ _ _ (by show p ≠ b; omega)).trans h.bx, h.row.keep fun E k _ _ hO => ⟨hO, Below.heap_setCell _ _ _ _ (by show k ≠ b; have : k < p := hO; omega)⟩, h.le⟩
theorem TkrAt.other {w w' : World} {p b : Nat} {v : Value} {l : List Int} {a : Nat} (h : TkrAt w p v l a) (hb : p < b) (hg : w.grownBy w' (some b)) : TkrAt w' p v l a := by
  have hl : p < w.heap.size := (Array.getElem?_eq_some_iff.1 h.bx).1
  exact ⟨(hg.block p hl (by simp; omega)).trans h.bx, h.row.keep fun E k _ hk hO => ⟨hO, hg.block k hk (by have : k < p := hO; simp; omega)⟩, h.le⟩
theorem SRow.grown {α : Type} {K : Kind α} {p : Nat} {w w' : World} {v : Value} {xs : List α} {row : Option Nat} (h : SRow K (Lt p) w v xs) (hg : w.grownBy w' row) (hp : ∀ r, row = some r → p ≤ r) : SRow K (Lt p) w' v xs :=
  h.keep fun E k _ hk hO => ⟨hO, hg.block k hk fun e => by have : k < p := hO; have := hp k e.symm; omega⟩
theorem grown_setNew {w w' : World} {p b i : Nat} {u : Value} (h : w.grownBy w' (some p)) (hb : w.heap.size ≤ b) : w.grownBy (w'.setCell ⟨b, i, none⟩ u) (some p) :=
  ⟨h.os, h.tape, h.output, by have := h.size; simp [World.setCell]; omega, fun k hk hne => (Below.heap_setCell _ _ _ _ (by show k ≠ b; omega)).trans (h.block k hk hne)⟩
theorem set2 (w : World) (b i j : Nat) (u0 u1 : Value) : w.grownBy ((w.setCell ⟨b, i, none⟩ u0).setCell ⟨b, j, none⟩ u1) (some b) := (grown_set _ _ _ _).trans (grown_set _ _ _ _)
theorem set4 (w : World) (b : Nat) (u0 u1 u2 u3 : Value) : w.grownBy ((((w.setCell ⟨b, 0, none⟩ u0).setCell ⟨b, 1, none⟩ u1).setCell ⟨b, 2, none⟩ u2).setCell ⟨b, 3, none⟩ u3) (some b) :=
  (((grown_set _ _ _ _).trans (grown_set _ _ _ _)).trans (grown_set _ _ _ _)).trans (grown_set _ _ _ _)
theorem set4_new {w w' : World} {p b : Nat} {u0 u1 u2 u3 : Value} (h : w.grownBy w' (some p)) (hb : w.heap.size ≤ b) : w.grownBy ((((w'.setCell ⟨b, 0, none⟩ u0).setCell ⟨b, 1, none⟩ u1).setCell ⟨b, 2, none⟩ u2).setCell ⟨b, 3, none⟩ u3) (some p) :=
  grown_setNew (grown_setNew (grown_setNew (grown_setNew h hb) hb) hb) hb
theorem TkrAt.set4 {w : World} {p b : Nat} {u0 u1 u2 u3 v : Value} {l : List Int} {a : Nat} (h : TkrAt w p v l a) (hb : p < b) : TkrAt ((((w.setCell ⟨b, 0, none⟩ u0).setCell ⟨b, 1, none⟩ u1).setCell ⟨b, 2, none⟩ u2).setCell ⟨b, 3, none⟩ u3) p v l a :=
  (((h.set hb).set hb).set hb).set hb
attribute [local go_sem] Oper.semAt_some
set_option maxRecDepth 100000 in
set_option maxHeartbeats 8000000 in
theorem column_gen (p : Nat) (v : Value) (l : List Int) (a : Nat) (nm : ByteArray) (w : World) (h : TkrAt w p v l a) :
    Calls Tryd.prog 74 #[.pointer (some ⟨p, 0, none⟩), .string nm] w fun e w' => ∃ u, e = .returned (.agg (colCells (colOf l a nm) u)) ∧ OSeq strK w.heap.size w' u (colOf l a nm).words ∧ TkrAt w' p v l (colA l a) ∧ w.grownBy w' (some p) := by
  have HT := Lib.hid h
  have hpl : p < w.heap.size := (Array.getElem?_eq_some_iff.1 h.bx).1
  clear h
  have HB0 := Lib.hid (show Below w.heap.size w ((w.alloc (.cells #[.string ByteArray.empty, .int .i64 0, .int .i64 0, .slice none 0 0] 25)).alloc (.cells #[.string nm, .int .i64 0, .int .i64 0, .slice none 0 0] 25)) by go_grown)
  have HR := Lib.hid (show ((w.alloc (.cells #[.string ByteArray.empty, .int .i64 0, .int .i64 0, .slice none 0 0] 25)).alloc (.cells #[.string nm, .int .i64 0, .int .i64 0, .slice none 0 0] 25)).heap[w.heap.size]? = some (.cells #[.string ByteArray.empty, .int .i64 0, .int .i64 0, .slice none 0 0] 25 (0, 0)) from (heap_alloc_old _ _ (by simp)).trans (heap_alloc_new w _))
  have HX := Lib.hid (show ((w.alloc (.cells #[.string ByteArray.empty, .int .i64 0, .int .i64 0, .slice none 0 0] 25)).alloc (.cells #[.string nm, .int .i64 0, .int .i64 0, .slice none 0 0] 25)).heap[w.heap.size + 1]? = some (.cells #[.string nm, .int .i64 0, .int .i64 0, .slice none 0 0] 25 (0, 0)) from by
    have := heap_alloc_new (w.alloc (.cells #[.string ByteArray.empty, .int .i64 0, .int .i64 0, .slice none 0 0] 25)) (.cells #[.string nm, .int .i64 0, .int .i64 0, .slice none 0 0] 25)
    simpa using this)
  have HT0 := Lib.hid (HT.out.later HB0.out)
  refine (callsIn_wide (n := 6)).1 ?_
  have h1 : 1 ≤ 6 := by omega
  refine callsIn_of_wp Tryd.func74 rfl trivial ?_ rfl
  simp only [Tryd.ntmps74, List.size_toArray, List.length_cons, List.length_nil, Nat.reduceAdd, Nat.reduceSub, Array.replicate_succ, Array.replicate_zero, List.push_toArray, List.append_toArray, List.nil_append, List.cons_append]
  gi_wp2
  refine ⟨trivial, ?_⟩
  gi_at_call 54
  refine (callsIn_wide.2 (take_any p v l a 3 _ HT0.out (by omega) (by omega))).mono ?_
  rintro e w1 ⟨rfl, ht1, hg1⟩
  have hr1 := (hg1.block w.heap.size (by simp; omega) (by simp; omega)).trans HR.out
  have hx1 := (hg1.block (w.heap.size + 1) (by simp) (by simp; omega)).trans HX.out
  have hs1 : w.heap.size + 1 < w1.heap.size := (Array.getElem?_eq_some_iff.1 hx1).1
  have HT1 := Lib.hid ht1
  have HR1 := Lib.hid hr1
  have HX1 := Lib.hid hx1
  have HG1 := Lib.hid ((grown_of_below HB0.out (some p)).trans hg1)
  clear ht1 hr1 hx1 hg1 HB0 HT0 HR HX
  by_cases hw : tkV l a 3 = 1
  · have hwb : (tkV l a 3 == 1) = true := by simpa using hw
    have HC := Lib.hid (show colOf l a nm = ⟨nm, 0, tkV l (tkA l a 3) 5, nms2.take (1 + (tkV l (tkA l a 3) 5).toNat)⟩ ∧ colA l a = tkA l (tkA l a 3) 5 from ⟨by unfold colOf; rw [if_pos hw], by unfold colA; rw [if_pos hw]⟩)
    have hlt5 := tkV_lt l (tkA l a 3) (n := 5) (by omega)
    obtain ⟨y, hy⟩ : ∃ y : Nat, tkV l (tkA l a 3) 5 = (y : Int) := ⟨(tkV l (tkA l a 3) 5).toNat, by omega⟩
    have hy4 : y ≤ 4 := by omega
    have HY := Lib.hid hy
    have htn : ((1 : Int) + (y : Int)).toNat = y + 1 := by omega
    have HLN := Lib.hid (show (nms2.take (y + 1)).length = y + 1 by rw [List.length_take]; show min (y + 1) 5 = y + 1; omega)
    clear hw hlt5 hy
    gi_wp2_with (refine ⟨trivial, ?_⟩; gi_at_call 75; refine (callsIn_wide.2 (names2_any _)).mono ?_; rintro e w2 ⟨rfl, rfl⟩)
    have HN2 := Lib.hid (heap_alloc_new w1 (.cells (nms2.map strV).toArray 9))
    have HBN := Lib.hid (below_alloc w1 (.cells (nms2.map strV).toArray 9))
    gi_wp2_with (first
      | (refine ⟨trivial, ?_⟩; gi_at_call 54; refine (callsIn_wide.2 (take_any p v l (tkA l a 3) 5 _ (HT1.out.later HBN.out) (by omega) (by omega))).mono ?_; rintro e w3 ⟨rfl, ht3, hg3⟩; rw [HY.out]; have HT3 := Lib.hid ht3; have HG3 := Lib.hid hg3; have HN3 := Lib.hid ((hg3.block w1.heap.size (by simp) (by simp; omega)).trans HN2.out); clear ht3 hg3)
      | (refine ⟨trivial, ?_⟩; gi_at_call 94; go_loud (refine (callsIn_wide.2 (ownStrs_any Any _ (nms2.take (y + 1)) _ ((strs_block HN3.out (by decide) (by decide)).take (n := y + 1) (by show y + 1 ≤ 5; omega)) (by rw [HLN.out]; omega))).mono ?_; rintro e w4 ⟨v4, rfl, ho4, hb4⟩; obtain ⟨A4, c4, e4, _, _⟩ := ho4.slice; rw [HLN.out] at e4; subst e4; have HO4 := Lib.hid ho4; have HB4 := Lib.hid hb4; have HG4 := Lib.hid (((grown_of_below HBN.out (some p)).trans HG3.out).trans (grown_of_below hb4 (some p))); have hx4 := (HG4.out.block (w.heap.size + 1) hs1 (by simp; omega)).trans HX1.out; have hr4 := (HG4.out.block w.heap.size (by omega) (by simp; omega)).trans HR1.out; obtain ⟨x0, _⟩ := cellrow hx4 0 (by simp); obtain ⟨x1, _⟩ := cellrow hx4 1 (by simp); obtain ⟨x2, g2⟩ := cellrow hx4 2 (by simp); obtain ⟨x3, g3⟩ := cellrow hx4 3 (by simp); obtain ⟨r0, s0⟩ := cellrow hr4 0 (by simp); obtain ⟨r1, s1⟩ := cellrow hr4 1 (by simp); obtain ⟨r2, s2⟩ := cellrow hr4 2 (by simp); obtain ⟨r3, s3⟩ := cellrow hr4 3 (by simp); have hsz4 : w.heap.size + 1 < w4.heap.size := (Array.getElem?_eq_some_iff.1 hx4).1; have HX4 := Lib.hid hx4; have HR4 := Lib.hid hr4; clear ho4 hb4 hx4 hr4)))
    rw [HC.out.1, HC.out.2]
    refine bodyPost_ret (v := .agg #[.string nm, .int .i64 0, .int .i64 (y : Int), .slice A4 (y + 1) c4]) (by simp [results, Tryd.results74, go_sem, r0, r1, r2, r3]) rfl ⟨.slice A4 (y + 1) c4, ?_, ?_, ?_, ?_⟩
    · show _ = Ending.returned (.agg #[.string nm, .int .i64 0, .int .i64 (tkV l (tkA l a 3) 5), .slice A4 (y + 1) c4])
      rw [HY.out]
    · show OSeq strK w.heap.size _ _ (nms2.take (1 + (tkV l (tkA l a 3) 5).toNat))
      rw [HY.out, show 1 + ((y : Int)).toNat = y + 1 by omega]
      have hO := HO4.out.base_le (show w.heap.size ≤ _ by have := HG1.out.size; have := HG3.out.size; simp at this; omega)
      exact (hO.other (set2 _ _ _ _ _ _) (other31 HX4.out (by decide))).other (set4 _ _ _ _ _ _) (other31 ((Below.heap_setCell _ _ _ _ (by simp)).trans ((Below.heap_setCell _ _ _ _ (by simp)).trans HR4.out)) (by decide))
    · exact (((HT3.out.later HB4.out).set (by omega)).set (by omega)).set4 (by omega)
    · exact set4_new (grown_setNew (grown_setNew (HG1.out.trans HG4.out) (by omega)) (by omega)) (Nat.le_refl _)
  · have hwb : (tkV l a 3 == 1) = false := by simpa using hw
    have HC := Lib.hid (show colOf l a nm = ⟨nm, tkV l (tkA l a 3) 9 - 3, tkV l (tkA l a 3) 9 - 3 + tkV l (tkA l (tkA l a 3) 9) 8, []⟩ ∧ colA l a = tkA l (tkA l (tkA l a 3) 9) 8 from ⟨by unfold colOf; rw [if_neg hw], by unfold colA; rw [if_neg hw]⟩)
    have hl1 := tkV_lt l (tkA l a 3) (n := 9) (by omega)
    have hl2 := tkV_lt l (tkA l (tkA l a 3) 9) (n := 8) (by omega)
    have HL12 := Lib.hid (And.intro hl1 hl2)
    clear hw
    generalize hy : tkV l (tkA l a 3) 9 = y at *
    generalize hz : tkV l (tkA l (tkA l a 3) 9) 8 = z at *
    have HY := Lib.hid hy
    have HZ := Lib.hid hz
    clear hy hz
    obtain ⟨hl10, hl11⟩ := hl1
    obtain ⟨hl20, hl21⟩ := hl2
    gi_wp2
    refine ⟨trivial, ?_⟩
    gi_at_call 54
    refine (callsIn_wide.2 (take_any p v l (tkA l a 3) 9 _ HT1.out (by omega) (by omega))).mono ?_
    rintro e w2 ⟨rfl, ht2, hg2⟩
    rw [HY.out]
    have hr2 := (hg2.block w.heap.size (by omega) (by simp; omega)).trans HR1.out
    have hx2 := (hg2.block (w.heap.size + 1) hs1 (by simp; omega)).trans HX1.out
    obtain ⟨x0, _⟩ := cellrow hx2 0 (by simp)
    obtain ⟨x1, g1⟩ := cellrow hx2 1 (by simp)
    obtain ⟨x2, g2⟩ := cellrow hx2 2 (by simp)
    obtain ⟨x3, g3⟩ := cellrow hx2 3 (by simp)
    have hs2 : w.heap.size + 1 < w2.heap.size := (Array.getElem?_eq_some_iff.1 hx2).1
    have HT2 := Lib.hid ht2
    have HR2 := Lib.hid hr2
    have HX2 := Lib.hid hx2
    have HG2 := Lib.hid (HG1.out.trans hg2)
    clear ht2 hr2 hx2 hg2
    gi_wp2
    have hx3 : (w2.setCell ⟨w.heap.size + 1, 1, none⟩ (.int .i64 (y - 3))).heap[w.heap.size + 1]? = some (.cells #[.string nm, .int .i64 (y - 3), .int .i64 0, .slice none 0 0] 25 (0, 0)) := heap_setCell_same w2 _ 1 _ _ _ HX2.out
    have hr3 : (w2.setCell ⟨w.heap.size + 1, 1, none⟩ (.int .i64 (y - 3))).heap[w.heap.size]? = some (.cells #[.string ByteArray.empty, .int .i64 0, .int .i64 0, .slice none 0 0] 25 (0, 0)) := (Below.heap_setCell _ _ _ _ (by simp)).trans HR2.out
    have HT3 := Lib.hid (HT2.out.set (i := 1) (u := .int .i64 (y - 3)) (show p < w.heap.size + 1 by omega))
    have HG3 := Lib.hid (grown_setNew (b := w.heap.size + 1) (i := 1) (u := .int .i64 (y - 3)) HG2.out (by omega))
    clear HT2 HG2 HR2 HX2 x0 x1 x2 x3 g1 g2 g3 hs2
    generalize w2.setCell ⟨w.heap.size + 1, 1, none⟩ (.int .i64 (y - 3)) = W2 at *
    have hs2 : w.heap.size + 1 < W2.heap.size := (Array.getElem?_eq_some_iff.1 hx3).1
    have HX3 := Lib.hid hx3
    have HR3 := Lib.hid hr3
    have xL : ∀ X : SameAt W2 (fun k => k = w.heap.size + 1), X.W.cell? ⟨w.heap.size + 1, 1, none⟩ = some (.int .i64 (y - 3)) := fun X => X.cell rfl (cellrow hx3 1 (by simp)).1
    have hmx : Tryd.prog.follows .mixedOrders = true := by kernel_rfl
    clear hx3 hr3
    refine wpIn_stage (IsSame W2 (fun k => k = w.heap.size + 1)) [0, 1, 2] [5, 6] hmx (by kernel_rfl) (isSame_of fun _ _ => rfl) ?_
    change wpStage _ _ _ _ _ _ _ _ (4 + 3) _ _ _
    refine stage_reads [0, 1, 2] 4 _ _ (by kernel_rfl) ?_
    change wpQuietIn _ _ _ _ (fun W => ∃ x : SameAt W2 (fun k => k = w.heap.size + 1), W = x.W) _ _ _
    simp only [pick_cons, pick_nil, List.getElem?_cons_zero, List.getElem?_cons_succ, Option.elim_some]
    repeat (gi_big_quiet_step (fail))
    refine wpQuietIn_nil ?_
    clear xL
    refine stage_one 3 (by kernel_rfl) rfl ?_
    have HT3d := Lib.hid (show TkrAt W2.drew p v l (tkA l (tkA l a 3) 9) from HT3.out.later ⟨rfl, rfl, rfl, Nat.le_refl _, fun _ _ => rfl⟩)
    gi_wp2_with (refine ⟨trivial, ?_⟩; gi_at_call 54; refine (callsIn_wide.2 (take_any p v l _ 8 _ HT3d.out (by omega) (by omega))).mono ?_; rintro e w3 ⟨rfl, ht3, hg3⟩; rw [HZ.out]; have HT4 := Lib.hid ht3; have HG4 := Lib.hid (HG3.out.trans (show W2.grownBy w3 (some p) from ⟨hg3.os, hg3.tape, hg3.output, hg3.size, hg3.block⟩)); have HX4 := Lib.hid ((hg3.block (w.heap.size + 1) hs2 (by simp; omega)).trans HX3.out); have HR4 := Lib.hid ((hg3.block w.heap.size (show w.heap.size < W2.heap.size by omega) (by simp; omega)).trans HR3.out); clear ht3 hg3)
    have HSM := Lib.hid (show IsSame W2 (fun k => k = w.heap.size + 1) w3 from isSame_of fun k hk => by rw [hk, HX4.out, HX3.out])
    refine stage_post HSM.out ?_
    refine stage_one 4 (by kernel_rfl) rfl ?_
    gi_wp2
    refine stage_post HSM.out ?_
    refine stage_one 5 (by kernel_rfl) rfl ?_
    gi_wp2
    refine stage_last rfl ?_
    obtain ⟨x0, _⟩ := cellrow HX4.out 0 (by simp)
    obtain ⟨x1, _⟩ := cellrow HX4.out 1 (by simp)
    obtain ⟨x2, g2⟩ := cellrow HX4.out 2 (by simp)
    obtain ⟨x3, _⟩ := cellrow HX4.out 3 (by simp)
    obtain ⟨r0, s0⟩ := cellrow HR4.out 0 (by simp)
    obtain ⟨r1, s1⟩ := cellrow HR4.out 1 (by simp)
    obtain ⟨r2, s2⟩ := cellrow HR4.out 2 (by simp)
    obtain ⟨r3, s3⟩ := cellrow HR4.out 3 (by simp)
    have hs3 : w.heap.size + 1 < w3.heap.size := (Array.getElem?_eq_some_iff.1 HX4.out).1
    refine stage_one 6 (by kernel_rfl) rfl ?_
    gi_wp2
    refine stage_last rfl ?_
    refine stage_done (by kernel_rfl) ?_
    gi_wp2
    rw [HC.out.1, HC.out.2]
    refine bodyPost_ret (v := .agg #[.string nm, .int .i64 (y - 3), .int .i64 (y - 3 + z), .slice none 0 0]) (by simp [results, Tryd.results74, go_sem, r0, r1, r2, r3]) rfl ⟨.slice none 0 0, rfl, OSeq.nil _ _ _, ?_, ?_⟩
    · exact (HT4.out.set (by omega)).set4 (by omega)
    · exact set4_new (grown_setNew HG4.out (by omega)) (Nat.le_refl _)
end Go.Proofs.YtlocafmglficnaaDoor
