/- The owners of a table. -/
import Derived.Test.YtlocafmglficnaaGreatDoorTabAsc
namespace Go.Proofs.YtlocafmglficnaaGreatDoor
open Go.RowKit Go.Maps Go.Sort Go.Shelf

/-- The owners of a table's rows, as they come. -/
def ownersT (T : Tbl) : List Int := if T.sch.pub then [] else T.rows.map RowV.owner
theorem grown_of_below {w w' : World} (h : Below w.heap.size w w') (row : Option Nat) : w.grownBy w' row := ⟨h.os, h.tape, h.output, h.size, fun k hk _ => h.block k hk⟩

set_option maxRecDepth 100000 in
set_option maxHeartbeats 1000000 in
theorem collect_any (C : TypeId → Nat → Prop) (v : Value) (T : Tbl) (mb n : Nat) (D : DataW Unit) (l : List Int) (w w0 : World) (h : TblVal C w0 v T) (h0 : Below w0.heap.size w0 w) (hmb : w0.heap.size ≤ mb) (hown : w.ownsMap Tryz.prog 3 unitElem mb n D) (hl : SetI D l) (hn : n + T.rows.length ≤ 1000000) :
    Calls Tryz.prog 56 #[.map (some mb), v] w fun e w' => e = .returned (.map (some mb)) ∧ ∃ D', w'.ownsMap Tryz.prog 3 unitElem mb (n + T.rows.length) D' ∧ SetI D' (l ++ ownersT T) ∧ w.grownBy w' (some mb) := by
  obtain ⟨cu, ru, rfl, hcols, hrows, hst⟩ := h
  obtain ⟨Ac, cc, rfl, hcl, hcm⟩ := hcols.slice
  obtain ⟨Ar, cr, rfl, hrl, hrm, hrc⟩ := hrows.rows
  have HRC := Lib.hid hrc
  have HL := Lib.hid hl
  have hmlt := hown.lt
  have HOWN := Lib.hid (hown.alloc (.cells #[.string T.sch.name, .bool T.sch.pub, .int .i64 T.sch.many, .slice Ac T.sch.cols.length cc, .slice Ar T.rows.length cr] 37))
  have HB0 := Lib.hid h0
  have HN := Lib.hid hn
  have HOT := Lib.hid (show ownersT T = if T.sch.pub then [] else T.rows.map RowV.owner from rfl)
  unfold maxLen at hrm
  clear hcols hrows hrc hl hown h0 hst hn
  generalize T.sch.pub = pub at *
  go_enter Tryz.func56, Tryz.ntmps56
  go_wp2
  go_loopw [10] (fun i wr => ∃ (k : Nat) (D' : DataW Unit), k ≤ T.rows.length ∧ i = .int .i64 k ∧ wr.ownsMap Tryz.prog 3 unitElem mb (n + k) D' ∧ SetI D' (l ++ if pub then [] else (T.rows.take k).map RowV.owner) ∧
    (w.alloc (.cells #[.string T.sch.name, .bool pub, .int .i64 T.sch.many, .slice Ac T.sch.cols.length cc, .slice Ar T.rows.length cr] 37)).grownBy wr (some mb)) (fun i _ => T.rows.length - (intOf i).toNat)
  case atStart => exact ⟨0, D, Nat.zero_le _, rfl, HOWN.out, by simpa using HL.out, ⟨rfl, rfl, rfl, Nat.le_refl _, fun _ _ _ => rfl⟩⟩
  case round =>
    obtain ⟨k, D', hk, rfl, hown, hinv, hg⟩ := hrel
    have HG := Lib.hid hg
    have HI := Lib.hid hinv
    have hwb : w.heap.size ≠ mb := by omega
    have b1 : wr.cell? ⟨w.heap.size, 1, none⟩ = some (.bool pub) := hg.cell (cell_newk _ _ _ _ _ _ rfl rfl) (by simp; omega)
    have hzr : w.heap.size < wr.heap.size := by have := hg.size; simp at this; omega
    clear hg hinv
    by_cases hlt : k < T.rows.length
    · obtain ⟨b, o, rfl, hcell⟩ := HRC.out (by omega)
      obtain ⟨u, d0, d1, hvals, hfo⟩ := hcell k hlt
      obtain ⟨Av, cv, rfl, _, _⟩ := hvals.slice
      have hb0 := World.block_lt_of_cell? w0 _ d0
      have c0 : wr.cell? ⟨b, o + k * 2, none⟩ = some (.int .i64 T.rows[k].owner) := HG.out.cell (cell_later (below_alloc w _) (cell_later HB0.out d0)) (by simp at hb0 ⊢; omega)
      have c1 : wr.cell? ⟨b, o + k * 2 + 1, none⟩ = some (.slice Av T.rows[k].vals.length cv) := HG.out.cell (cell_later (below_alloc w _) (cell_later HB0.out d1)) (by simp at hb0 ⊢; omega)
      have hi0 : (0 : Int) ≤ (k : Int) := by omega
      have hi1 : (k : Int) < (T.rows.length : Int) := by omega
      have hkm : n + k < maxLen := by have := HN.out; unfold maxLen; omega
      have hmw := hown.lt
      have HTK := Lib.hid (show T.rows.take (k + 1) = T.rows.take k ++ [T.rows[k]] from List.take_succ_eq_append_getElem hlt)
      clear hcell d0 d1 hvals
      generalize T.rows[k] = r at *
      cases pub with
      | true =>
        have HO := Lib.hid (hown.alloc (.cells #[.int .i64 r.owner, .slice Av r.vals.length cv] 53))
        clear hown
        go_wp2
        go_roundw
        case rel => exact ⟨k + 1, D', by omega, by go_num, HO.out.mono (by omega), by simpa using HI.out, HG.out.trans (World.grownBy_alloc _ _ _)⟩
        case measure => simp [intOf]; omega
      | false =>
        have hown2 := hown.alloc (.cells #[.int .i64 r.owner, .slice Av r.vals.length cv] 53)
        clear hown
        go_wp2_with (at_mapUpdate; refine wpList_mapUpdate_own _ rfl _ _ _ 80 rfl 3 81 lawI Tryz.underlying80 unitElem mb (n + k) D' rfl hown2 hkm _ _ _ rfl rfl (keyOf_int_mk Tryz.underlying3 (wf_fit hfo)) _ [] unitElem_mk ?_; intro w3 hown3 hgrow3)
        go_roundw
        case rel => exact ⟨k + 1, _, by omega, by go_num, hown3, by
          have := HI.out.snoc r.owner (.agg [])
          rw [HTK.out]
          simpa using this, (HG.out.trans (World.grownBy_alloc _ _ _)).trans hgrow3⟩
        case measure => simp [intOf]; omega
    · obtain rfl : k = T.rows.length := by omega
      have HO := Lib.hid hown
      have HI2 := Lib.hid (show SetI D' (l ++ ownersT T) by
        have := HI.out
        rw [List.take_of_length_le (Nat.le_refl _)] at this
        rw [HOT.out]; exact this)
      clear hlt hown
      go_wp2
      go_ret
      exact ⟨rfl, D', HO.out, HI2.out, (grown_of_below (below_alloc w _) _).trans HG.out⟩

theorem OSeq.base_le {α : Type} {K : Kind α} {base base' : Nat} {w : World} {v : Value} {xs : List α} (h : OSeq K base w v xs) (hb : base' ≤ base) : OSeq K base' w v xs := by
  obtain ⟨ls, ho, hl, hx⟩ := h
  refine ⟨ls, ⟨ho.1, ?_⟩, hl, fun j x hj => ?_⟩
  · rcases ho.2 with e | ⟨g, cap, cur, e, hg, r⟩
    · exact .inl e
    · exact .inr ⟨g, cap, cur, e, Nat.le_trans hb hg, r⟩
  · obtain ⟨l, e, hi⟩ := hx j x hj
    exact ⟨l, e, K.keep hi fun E b _ _ hO => ⟨⟨Nat.le_trans hb hO.1, hO.2⟩, rfl⟩⟩

set_option maxHeartbeats 1000000 in
theorem owners_any (C : TypeId → Nat → Prop) (v : Value) (T : Tbl) (w : World) (h : TblVal C w v T) (hn : T.rows.length ≤ 1000000) :
    Calls Tryz.prog 30 #[v] w fun e w' => ∃ v', e = .returned v' ∧ OSeq intK w.heap.size w' v' (asc (ownersT T)) ∧ Below w.heap.size w w' := by
  have HT := Lib.hid h
  obtain ⟨cu, ru, rfl, hcols, hrows, hst⟩ := h
  obtain ⟨Ac, cc, rfl, hcl, hcm⟩ := hcols.slice
  obtain ⟨Ar, cr, rfl, hrl, hrm⟩ := hrows.slice
  have hmm := @run_makeMap Tryz.prog
  have HMK := Lib.hid (World.ownsMap_made (w.alloc (.cells #[.string T.sch.name, .bool T.sch.pub, .int .i64 T.sch.many, .slice Ac T.sch.cols.length cc, .slice Ar T.rows.length cr] 37)) Tryz.prog 3 (unitElem (H := Unit)))
  have HB1 := Lib.hid (show Below w.heap.size w ((w.alloc (.cells #[.string T.sch.name, .bool T.sch.pub, .int .i64 T.sch.many, .slice Ac T.sch.cols.length cc, .slice Ar T.rows.length cr] 37)).alloc (.map #[] 0)) by go_grown)
  have hsz : (w.alloc (.cells #[.string T.sch.name, .bool T.sch.pub, .int .i64 T.sch.many, .slice Ac T.sch.cols.length cc, .slice Ar T.rows.length cr] 37)).heap.size = w.heap.size + 1 := by simp
  rw [hsz] at HMK
  clear hcols hrows hst hsz
  go_enter Tryz.func30, Tryz.ntmps30
  go_wp2_with (first
    | (go_at_call 56; refine (collect_any C _ T (w.heap.size + 1) 0 (.map []) [] _ w HT.out HB1.out (by omega) HMK.out SetI.nil (by omega)).mono ?_; rintro e w2 ⟨rfl, D2, hown2, hs2, hg2⟩; have HB2 := Lib.hid (HB1.out.grown hg2 HB1.out.size (fun r hr => (by simp only [Option.some.injEq] at hr; omega))))
    | (go_at_call 55; refine (keys_any _ _).mono ?_; rintro e w3 ⟨rfl, rfl⟩)
    | (go_at_call 54; refine (sortedKeys_any (w.heap.size + 1) _ D2 _ w2 hown2 hs2 (by omega)).mono ?_; rintro e w4 ⟨v4, rfl, ho4, hb4⟩))
  go_ret
  refine ⟨v4, rfl, ?_, HB2.out.trans (((below_alloc w2 _).mono HB2.out.size).trans (hb4.mono (Nat.le_trans HB2.out.size (below_alloc w2 _).size)))⟩
  rw [List.nil_append] at ho4
  exact ho4.base_le (Nat.le_trans HB2.out.size (below_alloc w2 _).size)
end Go.Proofs.YtlocafmglficnaaGreatDoor
