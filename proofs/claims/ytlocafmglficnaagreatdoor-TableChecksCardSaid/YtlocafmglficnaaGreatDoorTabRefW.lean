/- The reference's table without an owner. -/
import Derived.Test.YtlocafmglficnaaGreatDoorTabRefT
namespace Go.Proofs.YtlocafmglficnaaGreatDoor
open Go.RowKit Go.Maps Go.Sort Go.Shelf

theorem BoxI.later {α : Type} {K : Kind α} {W0 wr wr' : World} {b : Nat} {tb : TypeId} {mk : Value → Array Value} {xs : List α} (h : BoxI K W0 b tb mk xs wr) (hb : b < W0.heap.size) (hl : Below wr.heap.size wr wr') : BoxI K W0 b tb mk xs wr' := by
  obtain ⟨⟨v, hbx, hv⟩, g⟩ := h
  have := g.size
  exact ⟨⟨v, (hl.block b (by omega)).trans hbx, hv.later hl⟩, g.trans (grown_of_below hl _)⟩
attribute [local go_sem] Oper.semAt_some
set_option maxRecDepth 100000 in
set_option maxHeartbeats 4000000 in
theorem rwithout_any (C : TypeId → Nat → Prop) (v : Value) (T : Tbl) (own : Int) (w : World) (h : TblVal C w v T) (hs : Small T) :
    Calls Tryz.prog 59 #[v, .int .i64 own] w fun e w' => ∃ cu ru, e = .returned (.agg #[.string T.sch.name, .bool T.sch.pub, .int .i64 T.sch.many, cu, ru]) ∧ OSeq colK w.heap.size w' cu T.sch.cols ∧ OSeq rowK w.heap.size w' ru (keptR T own) ∧ Below w.heap.size w w' := by
  obtain ⟨⟨nm, pub, many, cols⟩, rows⟩ := T
  obtain ⟨cu, ru, rfl, hcu, hru, hnm⟩ := h
  dsimp only at hcu hru hnm
  have HT := Lib.hid (show TblVal C w (.agg #[.string nm, .bool pub, .int .i64 many, cu, ru]) ⟨⟨nm, pub, many, cols⟩, rows⟩ from ⟨cu, ru, rfl, hcu, hru, hnm⟩)
  obtain ⟨Ac, cc, rfl, _, _⟩ := hcu.slice
  obtain ⟨Ar, cr, rfl, hrl, hrm, hrc⟩ := hru.rows
  unfold maxLen at hrm
  have HRC := Lib.hid hrc
  have HS := Lib.hid hs
  clear hcu hru hnm hs hrc
  obtain ⟨i3, hi3, hz30, hz31, hz32⟩ := info_parts info3
  obtain ⟨i34, hi34, hz40, hz41, hz42⟩ := info34p
  refine (callsIn_wide (n := 6)).1 ?_
  have h1 : 1 ≤ 6 := by omega
  refine callsIn_of_wp Tryz.func59 rfl trivial ?_ rfl
  simp only [Tryz.ntmps59, List.size_toArray, List.length_cons, List.length_nil, Nat.reduceAdd, Nat.reduceSub, Array.replicate_succ, Array.replicate_zero, List.push_toArray, List.append_toArray, List.nil_append, List.cons_append]
  have HB0 := Lib.hid (show Below w.heap.size w ((w.alloc (.cells #[.string nm, .bool pub, .int .i64 many, .slice Ac cols.length cc, .slice Ar rows.length cr] 37)).alloc (.cells #[.string ByteArray.empty, .bool false, .int .i64 0, .slice none 0 0, .slice none 0 0] 37)) by go_grown)
  have HSV := Lib.hid (TblVal.sch (HT.out.below HB0.out))
  have HP := Lib.hid (show ((w.alloc (.cells #[.string nm, .bool pub, .int .i64 many, .slice Ac cols.length cc, .slice Ar rows.length cr] 37)).alloc (.cells #[.string ByteArray.empty, .bool false, .int .i64 0, .slice none 0 0, .slice none 0 0] 37)).heap[w.heap.size]? = some (.cells #[.string nm, .bool pub, .int .i64 many, .slice Ac cols.length cc, .slice Ar rows.length cr] 37 (0, 0)) from (heap_alloc_old _ _ (by simp)).trans (heap_alloc_new w _))
  have HR := Lib.hid (show ((w.alloc (.cells #[.string nm, .bool pub, .int .i64 many, .slice Ac cols.length cc, .slice Ar rows.length cr] 37)).alloc (.cells #[.string ByteArray.empty, .bool false, .int .i64 0, .slice none 0 0, .slice none 0 0] 37)).heap[w.heap.size + 1]? = some (.cells #[.string ByteArray.empty, .bool false, .int .i64 0, .slice none 0 0, .slice none 0 0] 37 (0, 0)) from by
    have := heap_alloc_new (w.alloc (.cells #[.string nm, .bool pub, .int .i64 many, .slice Ac cols.length cc, .slice Ar rows.length cr] 37)) (.cells #[.string ByteArray.empty, .bool false, .int .i64 0, .slice none 0 0, .slice none 0 0] 37)
    simpa using this)
  gi_wp2
  refine ⟨trivial, ?_⟩
  gi_at_call 51
  refine (callsIn_wide.2 (rscopy_any C _ ⟨nm, pub, many, cols⟩ _ HSV.out HS.out.1 HS.out.2.1)).mono ?_
  rintro e w1 ⟨u1, rfl, ho1, hb1⟩
  dsimp only at ho1
  obtain ⟨A1, c1, rfl, _, _⟩ := ho1.slice
  have hs1 : w.heap.size + 1 + 1 ≤ w1.heap.size := by (have := hb1.size; simp at this; omega)
  have HO1 := Lib.hid ho1
  have HB1 := Lib.hid hb1
  clear ho1 hb1
  gi_wp2
  change Code.wpIn _ _ _ _ _ _ (w1.alloc (.cells (mkT ⟨nm, pub, many, cols⟩ (.slice A1 cols.length c1) (.slice none 0 0)) 37))
  have HBW := Lib.hid ((HB0.out.trans (HB1.out.mono (by simp; omega))).trans (show Below w.heap.size w1 (w1.alloc (.cells (mkT ⟨nm, pub, many, cols⟩ (.slice A1 cols.length c1) (.slice none 0 0)) 37)) from by go_grown))
  have HO0 := Lib.hid (HO1.out.later (below_alloc w1 (.cells (mkT ⟨nm, pub, many, cols⟩ (.slice A1 cols.length c1) (.slice none 0 0)) 37)))
  have HPT := Lib.hid (show (w1.alloc (.cells (mkT ⟨nm, pub, many, cols⟩ (.slice A1 cols.length c1) (.slice none 0 0)) 37)).heap[w.heap.size]? = some (.cells #[.string nm, .bool pub, .int .i64 many, .slice Ac cols.length cc, .slice Ar rows.length cr] 37 (0, 0)) from (heap_alloc_old _ _ (by omega)).trans ((HB1.out.block w.heap.size (by simp; omega)).trans HP.out))
  have HRV := Lib.hid (show (w1.alloc (.cells (mkT ⟨nm, pub, many, cols⟩ (.slice A1 cols.length c1) (.slice none 0 0)) 37)).heap[w.heap.size + 1]? = some (.cells #[.string ByteArray.empty, .bool false, .int .i64 0, .slice none 0 0, .slice none 0 0] 37 (0, 0)) from (heap_alloc_old _ _ (by omega)).trans ((HB1.out.block (w.heap.size + 1) (by simp)).trans HR.out))
  have HBO := Lib.hid (heap_alloc_new w1 (.cells (mkT ⟨nm, pub, many, cols⟩ (.slice A1 cols.length c1) (.slice none 0 0)) 37))
  have hsz0 : (w1.alloc (.cells (mkT ⟨nm, pub, many, cols⟩ (.slice A1 cols.length c1) (.slice none 0 0)) 37)).heap.size = w1.heap.size + 1 := by simp
  generalize w1.alloc (.cells (mkT ⟨nm, pub, many, cols⟩ (.slice A1 cols.length c1) (.slice none 0 0)) 37) = W0 at *
  have hw0 : w1.heap.size < W0.heap.size := by omega
  clear HB1 HO1 HP HR HB0 HSV hsz0
  have HST := Lib.hid (BoxI.nil (K := rowK) HBO.out)
  gi_loopw [6] (fun i wr => ∃ k : Nat, k ≤ rows.length ∧ i = .int .i64 k ∧ BoxI rowK W0 w1.heap.size 37 (mkT ⟨nm, pub, many, cols⟩ (.slice A1 cols.length c1)) ((rows.take k).filter (stays pub own)) wr) (fun i _ => rows.length - (intOf i).toNat)
  case atStart => exact ⟨0, Nat.zero_le _, rfl, HST.out⟩
  case round =>
    obtain ⟨k, hk, rfl, hI⟩ := hrel
    have hlen : ((rows.take k).filter (stays pub own)).length ≤ k := Nat.le_trans (List.length_filter_le _ _) (by simp; omega)
    have HTK0 := Lib.hid (show ∀ hlt : k < rows.length, (rows.take (k + 1)).filter (stays pub own) = (rows.take k).filter (stays pub own) ++ if stays pub own rows[k] = true then [rows[k]] else [] from fun hlt => by
      rw [List.take_succ_eq_append_getElem hlt, List.filter_append]
      congr 1
      by_cases hst : stays pub own rows[k] = true
      · simp [hst]
      · simp [hst])
    have HTE := Lib.hid (show k = rows.length → (rows.take k).filter (stays pub own) = keptR ⟨⟨nm, pub, many, cols⟩, rows⟩ own from fun e => by rw [e, List.take_of_length_le (Nat.le_refl _)]; rfl)
    obtain ⟨vc, hbx, hseq⟩ := hI.bx
    obtain ⟨us, hraw⟩ := hseq.raw
    generalize (rows.take k).filter (stays pub own) = xs at *
    obtain ⟨Av, cv, rfl⟩ := slice_of hraw
    have HI := Lib.hid hI
    have HSEQ := Lib.hid hseq
    have HRAW := Lib.hid hraw
    have HBX := Lib.hid hbx
    have HBR := Lib.hid (hI.below HBW.out (by omega) (by omega))
    have hsw := hI.g.size
    have y4 : wr.cell? ⟨w1.heap.size, 4, none⟩ = some (.slice Av xs.length cv) := (cellrow hbx 4 (by simp [mkT])).1
    have hpt := (hI.g.block w.heap.size (by omega) (by simp; omega)).trans HPT.out
    have z4 : wr.cell? ⟨w.heap.size, 4, none⟩ = some (.slice Ar rows.length cr) := (cellrow hpt 4 (by simp)).1
    have z1 : wr.cell? ⟨w.heap.size, 1, none⟩ = some (.bool pub) := (cellrow hpt 1 (by simp)).1
    have hi0 : (0 : Int) ≤ (k : Int) := by omega
    have hwl : w.heap.size < wr.heap.size := by omega
    have hwl1 : w1.heap.size < wr.heap.size := by omega
    clear hI hbx hseq hraw hpt
    by_cases hlt : k < rows.length
    · have hi1 : (k : Int) < (rows.length : Int) := by omega
      obtain ⟨b, o, rfl, hcell⟩ := HRC.out (by omega)
      obtain ⟨uw, p0, p1, hvr, hfit⟩ := hcell k hlt
      have hb := World.block_lt_of_cell? w _ p0
      have q0 := cell_later HBR.out p0
      have q1 := cell_later HBR.out p1
      obtain ⟨Aw, cw, rfl, _, _⟩ := hvr.slice
      obtain ⟨ls, hlsb, hsrc⟩ := hvr.nums
      have hwn : rows[k].vals.length ≤ 1000000 := HS.out.2.2.2 _ (List.getElem_mem hlt)
      have HTK := Lib.hid (HTK0.out hlt)
      have hrn : rows.length ≤ 1000000 := HS.out.2.2.1
      have HLS := Lib.hid hlsb
      have HFT := Lib.hid hfit
      have HLT := Lib.hid hlt
      clear hcell p0 p1 hvr hlsb hfit HTK0 HTE
      generalize rows[k] = x at *
      clear hlt
      simp only at hb
      by_cases hst : stays pub own x = true
      case neg =>
        have hp0 : pub = false := by cases pub <;> simp_all [stays]
        subst hp0
        have hne : (x.owner != own) = false := by simpa [stays] using hst
        have HX := Lib.hid (show List.filter (stays false own) (rows.take (k + 1)) = xs by rw [HTK.out, if_neg hst, List.append_nil])
        clear hst HTK
        gi_wp2
        go_roundw
        case rel => exact ⟨k + 1, HLT.out, by go_num, by rw [HX.out]; exact HI.out.later (by omega) (below_alloc _ _)⟩
        case measure => have := HLT.out; simp [intOf]; omega
      have HX := Lib.hid (show List.filter (stays pub own) (rows.take (k + 1)) = xs ++ [x] by rw [HTK.out, if_pos hst])
      clear HTK
      have HSRC := Lib.hid ((hsrc.later HBR.out).later (show Below wr.heap.size wr ((wr.alloc (.cells #[.int .i64 x.owner, .slice Aw x.vals.length cw] 53)).alloc (.cells #[] 3)).drew by go_grown))
      have HE := Lib.hid (show ((wr.alloc (.cells #[.int .i64 x.owner, .slice Aw x.vals.length cw] 53)).alloc (.cells #[] 3)).drew.ownsRow W0.heap.size 3 1 (.slice (some ⟨wr.heap.size + 1, 0, none⟩) 0 0) 0 [] by
        have := own_empty (wr.alloc (.cells #[.int .i64 x.owner, .slice Aw x.vals.length cw] 53)) W0.heap.size 3 1 (by simp; omega)
        have h2 : ((wr.alloc (.cells #[.int .i64 x.owner, .slice Aw x.vals.length cw] 53)).alloc (.cells #[] 3)).ownsRow W0.heap.size 3 1 (.slice (some ⟨wr.heap.size + 1, 0, none⟩) 0 0) 0 [] := by simpa using this
        exact h2)
      have HSQ := Lib.hid (HSEQ.out.later (below_alloc wr (.cells #[.int .i64 x.owner, .slice Aw x.vals.length cw] 53)))
      have HBN := Lib.hid (below_alloc wr (.cells #[.int .i64 x.owner, .slice Aw x.vals.length cw] 53))
      have hszb : (wr.alloc (.cells #[.int .i64 x.owner, .slice Aw x.vals.length cw] 53)).heap.size = wr.heap.size + 1 := by simp
      have HSB := Lib.hid hszb
      have hmx : Tryz.prog.follows .mixedOrders = true := by kernel_rfl
      have xO : ∀ X : SameAt (wr.alloc (.cells #[.int .i64 x.owner, .slice Aw x.vals.length cw] 53)) (fun k => k < W0.heap.size ∨ k = wr.heap.size), X.W.cell? ⟨w1.heap.size, 4, none⟩ = some (.slice Av xs.length cv) := fun X => X.cell (by omega) (cell_later HBN.out y4)
      have x0 : ∀ X : SameAt (wr.alloc (.cells #[.int .i64 x.owner, .slice Aw x.vals.length cw] 53)) (fun k => k < W0.heap.size ∨ k = wr.heap.size), X.W.cell? ⟨wr.heap.size, 0, none⟩ = some (.int .i64 x.owner) := fun X => X.cell (.inr rfl) (cell_newk _ _ _ _ _ _ rfl rfl)
      have x1 : ∀ X : SameAt (wr.alloc (.cells #[.int .i64 x.owner, .slice Aw x.vals.length cw] 53)) (fun k => k < W0.heap.size ∨ k = wr.heap.size), X.W.cell? ⟨wr.heap.size, 1, none⟩ = some (.slice Aw x.vals.length cw) := fun X => X.cell (.inr rfl) (cell_newk _ _ _ _ _ _ rfl rfl)
      clear hsrc hszb
      cases pub
      all_goals
        first
        | have hne : (x.owner != own) = true := by simpa [stays] using hst
        | skip
        clear hst
        gi_wp2
        refine wpIn_stage (IsSame (wr.alloc (.cells #[.int .i64 x.owner, .slice Aw x.vals.length cw] 53)) (fun k => k < W0.heap.size ∨ k = wr.heap.size)) [0, 1, 2, 3, 5, 6] [11, 12] hmx (by kernel_rfl) (isSame_of fun _ _ => rfl) ?_
        change wpStage _ _ _ _ _ _ _ _ (7 + 6) _ _ _
        refine stage_reads [0, 1, 2, 3, 5, 6] 7 _ _ (by kernel_rfl) ?_
        change wpQuietIn _ _ _ _ (fun W => ∃ x : SameAt (wr.alloc (.cells #[.int .i64 x.owner, .slice Aw x.vals.length cw] 53)) (fun k => k < W0.heap.size ∨ k = wr.heap.size), W = x.W) _ _ _
        simp only [pick_cons, pick_nil, List.getElem?_cons_zero, List.getElem?_cons_succ, Option.elim_some]
        repeat (gi_big_quiet_step (fail))
        refine wpQuietIn_nil ?_
        clear xO x0 x1
        refine stage_one 4 (by kernel_rfl) rfl ?_
        gi_wp2
        refine stage_post (isSame_below (show Below (wr.heap.size + 1) _ _ by go_grown) (fun _ h => by omega)) ?_
        refine stage_one 7 (by kernel_rfl) rfl ?_
        gi_wp2_with (gi_at_builtin; go_loud (refine wpListIn_append_src _ rfl _ _ 51 rfl W0.heap.size 3 i3 (.int .i64 0) 1 8 Tryz.underlying51 hi3 hz30 hz31 hz32 rfl (by decide) (.slice (some ⟨wr.heap.size + 1, 0, none⟩) 0 0) 0 [] rfl HE.out _ x.vals.length ls.flatten rfl HSRC.out (one_ints HLS.out.1 HLS.out.2) (by unfold maxLen; omega) (by omega) (by simp; omega) ?_; intro v1 w6 hown1 hgrow1; obtain ⟨Av1, cv1, rfl, hmid⟩ := RowMid.mk' (wr := wr.alloc (.cells #[.int .i64 x.owner, .slice Aw x.vals.length cw] 53)) rfl (by rw [HSB.out]; omega) HSQ.out HLS.out.1 HLS.out.2 HFT.out hown1 (by rw [HSB.out]; exact hgrow1); obtain ⟨us2, hus2⟩ := hmid.us; have hs6 := hmid.sz; rw [HSB.out] at hs6; have HM := Lib.hid hmid; have HBM := Lib.hid hmid.be; rw [HSB.out] at HBM; have HUS := Lib.hid hus2; clear hmid hus2 hown1 hgrow1))
        refine stage_post (isSame_below HBM.out (fun _ h => by omega)) ?_
        refine stage_one 8 (by kernel_rfl) rfl ?_
        gi_wp2
        refine stage_post (isSame_below HBM.out (fun _ h => by omega)) ?_
        refine stage_one 9 (by kernel_rfl) rfl ?_
        gi_wp2
        refine stage_post (isSame_below (HBM.out.trans ((below_alloc _ _).mono (Nat.le_of_lt hs6))) (fun _ h => by omega)) ?_
        refine stage_one 10 (by kernel_rfl) rfl ?_
        gi_wp2_with (gi_at_builtin; go_loud (refine wpListIn_append_own _ rfl _ _ 35 rfl W0.heap.size 53 i34 _ 2 32 Tryz.underlying35 hi34 hz40 hz41 hz42 rfl (by decide) _ _ us2 rfl HUS.out ⟨w6.heap.size, 0, none⟩ 1 1 [.int .i64 x.owner, .slice Av1 x.vals.length cv1] rfl rfl HM.out.nw (by simp [Value.oneCell']) (by unfold maxLen; omega) (by omega) (by simp; omega) ?_; intro v2 w7 hown2 hgrow2 _; obtain ⟨Av2, cv2, rfl⟩ := slice_of hown2; obtain ⟨hst, hc7, hf7⟩ := BoxI.step (f := 4) HI.out (by decide) (by decide) (fun _ _ => rfl) rfl (by omega) HBX.out HSEQ.out ((HBN.out).trans (HBM.out.mono (Nat.le_succ _))) HM.out.kx HUS.out hown2 hgrow2; have HSM := Lib.hid (row_same (S := fun k => k < W0.heap.size ∨ k = wr.heap.size) HRAW.out hgrow2 (fun _ h => (by omega)) (m := wr.heap.size + 1) (fun _ h => by omega) (HBM.out.trans ((below_alloc _ _).mono (Nat.le_of_lt hs6))) (by simp; omega)); have HST2 := Lib.hid hst; clear hst hown2 hgrow2))
        refine stage_post HSM.out ?_
        refine stage_one 11 (by kernel_rfl) rfl ?_
        gi_wp2
        refine stage_last rfl ?_
        refine stage_one 12 (by kernel_rfl) rfl ?_
        gi_wp2
        refine stage_last rfl ?_
        refine stage_done (by kernel_rfl) ?_
        gi_wp2
        go_roundw
        case rel => exact ⟨k + 1, HLT.out, by go_num, by rw [HX.out]; exact HST2.out⟩
        case measure => have := HLT.out; simp [intOf]; omega
    · obtain rfl : k = rows.length := by omega
      obtain rfl := HTE.out rfl
      have HF := Lib.hid HSEQ.out
      have HCO := Lib.hid (HO0.out.other (r := w1.heap.size) HI.out.g fun E hE cu e => by
        rw [HBO.out] at e
        simp only [Option.some.injEq, Obj.cells.injEq] at e
        have : E = 25 ∨ E = 9 := by simpa [colK] using hE
        rcases this with rfl | rfl <;> exact absurd e.2.1 (by decide))
      have hres := (HI.out.g.block (w.heap.size + 1) (by omega) (by simp; omega)).trans HRV.out
      have HRES := Lib.hid hres
      obtain ⟨q0, _⟩ := cellrow HBX.out 0 (by simp [mkT])
      obtain ⟨q1, _⟩ := cellrow HBX.out 1 (by simp [mkT])
      obtain ⟨q2, _⟩ := cellrow HBX.out 2 (by simp [mkT])
      obtain ⟨q3, _⟩ := cellrow HBX.out 3 (by simp [mkT])
      obtain ⟨r0, s0⟩ := cellrow hres 0 (by simp)
      obtain ⟨r1, s1⟩ := cellrow hres 1 (by simp)
      obtain ⟨r2, s2⟩ := cellrow hres 2 (by simp)
      obtain ⟨r3, s3⟩ := cellrow hres 3 (by simp)
      obtain ⟨r4, s4⟩ := cellrow hres 4 (by simp)
      simp only [mkT] at q0 q1 q2 q3
      clear hlt hres
      gi_wp2
      have hr1 : w.heap.size + 1 < wr.heap.size := by omega
      refine bodyPost_ret (v := .agg #[.string nm, .bool pub, .int .i64 many, .slice A1 cols.length c1, .slice Av (keptR ⟨⟨nm, pub, many, cols⟩, rows⟩ own).length cv]) (by simp [results, Tryz.results59, go_sem, r0, r1, r2, r3, r4]) rfl ⟨_, _, rfl, ?_, ?_, ?_⟩
      · exact (HCO.out.base_le (by simp; omega)).other (r := w.heap.size + 1) (set5 _ _ _ _ _ _ _) (other31 HRES.out (by decide))
      · exact (HF.out.base_le (show w.heap.size ≤ W0.heap.size by omega)).other (r := w.heap.size + 1) (set5 _ _ _ _ _ _ _) (other31 HRES.out (by decide))
      · exact HBR.out.grown (set5 _ _ _ _ _ _ _) HBR.out.size (fun k e => by simp only [Option.some.injEq] at e; omega)
end Go.Proofs.YtlocafmglficnaaGreatDoor
