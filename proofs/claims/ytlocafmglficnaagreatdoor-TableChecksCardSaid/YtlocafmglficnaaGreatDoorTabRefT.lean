/- The reference's copy of a table, and a table without an owner. -/
import Derived.Test.YtlocafmglficnaaGreatDoorTabRefS
namespace Go.Proofs.YtlocafmglficnaaGreatDoor
open Go.RowKit Go.Maps Go.Sort Go.Shelf

/-- A row's numbers are copied: what the world behind it is good for. -/
structure RowMid (W0 wr w6 : World) (k : Nat) (x : RowV) (v : Value) (Av1 : Option Addr) (cv1 : Nat) : Prop where
  sz : wr.heap.size < w6.heap.size
  be : Below wr.heap.size wr w6
  us : ∃ us, (w6.alloc (.cells #[.int .i64 x.owner, .slice Av1 x.vals.length cv1] 53)).ownsRow W0.heap.size 53 2 v k us
  nw : ∀ (j : Nat) (u : Value), [Value.int .i64 x.owner, .slice Av1 x.vals.length cv1][j]? = some u → (w6.alloc (.cells #[.int .i64 x.owner, .slice Av1 x.vals.length cv1] 53)).cell? ((⟨w6.heap.size, 0, none⟩ : Addr).add j) = some u
  kx : rowK.is (Own W0.heap.size w6) w6 [.int .i64 x.owner, .slice Av1 x.vals.length cv1] x
theorem RowMid.mk' {C : TypeId → Nat → Prop} {w W0 wr w6 : World} {k : Nat} {x : RowV} {v v1 : Value} {xs : List RowV} {ls : List (List Value)} (hk : xs.length = k) (h0 : W0.heap.size ≤ wr.heap.size) (hseq : OSeq rowK W0.heap.size wr v xs)
    (hll : ls.length = x.vals.length) (hls : ∀ (j : Nat) (s : Int), x.vals[j]? = some s → ∃ l, ls[j]? = some l ∧ intK.is C w l s) (hft : Fit x.owner)
    (hown : w6.ownsRow W0.heap.size 3 1 v1 (0 + x.vals.length) ([] ++ ls.flatten)) (hg : ((wr.alloc (.cells #[] 3)).drew).grownBy w6 (some wr.heap.size)) :
    ∃ Av1 cv1, v1 = .slice Av1 x.vals.length cv1 ∧ RowMid W0 wr w6 k x v Av1 cv1 := by
  rw [Nat.zero_add, List.nil_append] at hown
  obtain ⟨Av1, cv1, rfl⟩ := slice_of hown
  have hba : Below wr.heap.size wr (wr.alloc (.cells #[] 3)).drew := by go_grown
  have hbw : Below wr.heap.size wr w6 := hba.grown hg hba.size fun r hr => by simp only [Option.some.injEq] at hr; omega
  have hsz := hg.size
  simp at hsz
  have ho6 : OSeq intK W0.heap.size w6 (.slice Av1 x.vals.length cv1) x.vals := OSeq.of_src (K := intK) rfl hll hls hown
  refine ⟨Av1, cv1, rfl, by omega, hbw, ?_, two_new _ _ _ _, ⟨_, rfl, ho6.row, hft⟩⟩
  obtain ⟨us, h⟩ := ((hseq.later hbw).later (below_alloc _ (.cells #[.int .i64 x.owner, .slice Av1 x.vals.length cv1] 53))).raw
  rw [hk] at h
  exact ⟨us, h⟩
/-- The append of a row leaves what lies below W0, and what was laid behind the list. -/
theorem row_same {W0 wr wz wb w7 : World} {v : Value} {n m : Nat} {us : List Value} {S : Nat → Prop} (hraw : wr.ownsRow W0.heap.size 53 2 v n us) (hg : wb.grownBy w7 v.ownBlock) (hS : ∀ k, S k → k < W0.heap.size ∨ wr.heap.size ≤ k) (hm : ∀ k, S k → k < m)
    (hb : Below m wz wb) (hmb : m ≤ wb.heap.size) : IsSame wz S w7 :=
  isSame_of fun k hk => (hg.block k (by have := hm k hk; omega) fun e => by
    have := hraw.lt k e.symm
    rcases hS k hk with h | h <;> omega).trans (hb.block k (hm k hk))

theorem info3 : (Tryz.prog.info? 3).map (fun i => (i.zero, i.size, i.bytes)) = some (some (.int .i64 0), 1, 8) := by kernel_rfl
theorem set5 (w : World) (b : Nat) (u0 u1 u2 u3 u4 : Value) : w.grownBy (((((w.setCell ⟨b, 0, none⟩ u0).setCell ⟨b, 1, none⟩ u1).setCell ⟨b, 2, none⟩ u2).setCell ⟨b, 3, none⟩ u3).setCell ⟨b, 4, none⟩ u4) (some b) :=
  ((((grown_set _ _ _ _).trans (grown_set _ _ _ _)).trans (grown_set _ _ _ _)).trans (grown_set _ _ _ _)).trans (grown_set _ _ _ _)
theorem other31 {w : World} {b : Nat} {cs : Array Value} {t : TypeId} {l : List TypeId} (hb : w.heap[b]? = some (.cells cs t (0, 0))) (ht : t ∉ l) : ∀ E ∈ l, ∀ cu, w.heap[b]? ≠ some (.cells cu E (0, 0)) := fun E hE cu e => by
  rw [hb] at e
  simp only [Option.some.injEq, Obj.cells.injEq] at e
  exact ht (e.2.1 ▸ hE)
def mkT (S : Sch) (cu v : Value) : Array Value := #[.string S.name, .bool S.pub, .int .i64 S.many, cu, v]
attribute [local go_sem] Oper.semAt_some
set_option maxRecDepth 100000 in
set_option maxHeartbeats 4000000 in
theorem rcopy_any (C : TypeId → Nat → Prop) (v : Value) (T : Tbl) (w : World) (h : TblVal C w v T) (hs : Small T) :
    Calls Tryz.prog 47 #[v] w fun e w' => ∃ cu ru, e = .returned (.agg #[.string T.sch.name, .bool T.sch.pub, .int .i64 T.sch.many, cu, ru]) ∧ OSeq colK w.heap.size w' cu T.sch.cols ∧ OSeq rowK w.heap.size w' ru T.rows ∧ Below w.heap.size w w' := by
  obtain ⟨cu, ru, rfl, hcu, hru, hnm⟩ := h
  have HT := Lib.hid (show TblVal C w (.agg #[.string T.sch.name, .bool T.sch.pub, .int .i64 T.sch.many, cu, ru]) T from ⟨cu, ru, rfl, hcu, hru, hnm⟩)
  obtain ⟨Ac, cc, rfl, _, _⟩ := hcu.slice
  obtain ⟨Ar, cr, rfl, hrl, hrm, hrc⟩ := hru.rows
  unfold maxLen at hrm
  have HRC := Lib.hid hrc
  have HS := Lib.hid hs
  clear hcu hru hnm hs hrc
  obtain ⟨i3, hi3, hz30, hz31, hz32⟩ := info_parts info3
  obtain ⟨i34, hi34, hz40, hz41, hz42⟩ := info34p
  refine (callsIn_wide (n := 6)).1 ?_
  have h1 : 1 ≤ 6 := by omega
  refine callsIn_of_wp Tryz.func47 rfl trivial ?_ rfl
  simp only [Tryz.ntmps47, List.size_toArray, List.length_cons, List.length_nil, Nat.reduceAdd, Nat.reduceSub, Array.replicate_succ, Array.replicate_zero, List.push_toArray, List.append_toArray, List.nil_append, List.cons_append]
  have HB0 := Lib.hid (show Below w.heap.size w ((w.alloc (.cells #[.string T.sch.name, .bool T.sch.pub, .int .i64 T.sch.many, .slice Ac T.sch.cols.length cc, .slice Ar T.rows.length cr] 37)).alloc (.cells #[.string ByteArray.empty, .bool false, .int .i64 0, .slice none 0 0, .slice none 0 0] 37)) by go_grown)
  have HSV := Lib.hid (TblVal.sch (HT.out.below HB0.out))
  have HP := Lib.hid (show ((w.alloc (.cells #[.string T.sch.name, .bool T.sch.pub, .int .i64 T.sch.many, .slice Ac T.sch.cols.length cc, .slice Ar T.rows.length cr] 37)).alloc (.cells #[.string ByteArray.empty, .bool false, .int .i64 0, .slice none 0 0, .slice none 0 0] 37)).heap[w.heap.size]? = some (.cells #[.string T.sch.name, .bool T.sch.pub, .int .i64 T.sch.many, .slice Ac T.sch.cols.length cc, .slice Ar T.rows.length cr] 37 (0, 0)) from (heap_alloc_old _ _ (by simp)).trans (heap_alloc_new w _))
  have HR := Lib.hid (show ((w.alloc (.cells #[.string T.sch.name, .bool T.sch.pub, .int .i64 T.sch.many, .slice Ac T.sch.cols.length cc, .slice Ar T.rows.length cr] 37)).alloc (.cells #[.string ByteArray.empty, .bool false, .int .i64 0, .slice none 0 0, .slice none 0 0] 37)).heap[w.heap.size + 1]? = some (.cells #[.string ByteArray.empty, .bool false, .int .i64 0, .slice none 0 0, .slice none 0 0] 37 (0, 0)) from by
    have := heap_alloc_new (w.alloc (.cells #[.string T.sch.name, .bool T.sch.pub, .int .i64 T.sch.many, .slice Ac T.sch.cols.length cc, .slice Ar T.rows.length cr] 37)) (.cells #[.string ByteArray.empty, .bool false, .int .i64 0, .slice none 0 0, .slice none 0 0] 37)
    simpa using this)
  gi_wp2
  refine ⟨trivial, ?_⟩
  gi_at_call 51
  refine (callsIn_wide.2 (rscopy_any C _ T.sch _ HSV.out HS.out.1 HS.out.2.1)).mono ?_
  rintro e w1 ⟨u1, rfl, ho1, hb1⟩
  obtain ⟨A1, c1, rfl, _, _⟩ := ho1.slice
  have hs1 : w.heap.size + 1 + 1 ≤ w1.heap.size := by (have := hb1.size; simp at this; omega)
  have HO1 := Lib.hid ho1
  have HB1 := Lib.hid hb1
  clear ho1 hb1
  gi_wp2
  change Code.wpIn _ _ _ _ _ _ (w1.alloc (.cells (mkT T.sch (.slice A1 T.sch.cols.length c1) (.slice none 0 0)) 37))
  have HBW := Lib.hid ((HB0.out.trans (HB1.out.mono (by simp; omega))).trans (show Below w.heap.size w1 (w1.alloc (.cells (mkT T.sch (.slice A1 T.sch.cols.length c1) (.slice none 0 0)) 37)) from by go_grown))
  have HO0 := Lib.hid (HO1.out.later (below_alloc w1 (.cells (mkT T.sch (.slice A1 T.sch.cols.length c1) (.slice none 0 0)) 37)))
  have HPT := Lib.hid (show (w1.alloc (.cells (mkT T.sch (.slice A1 T.sch.cols.length c1) (.slice none 0 0)) 37)).heap[w.heap.size]? = some (.cells #[.string T.sch.name, .bool T.sch.pub, .int .i64 T.sch.many, .slice Ac T.sch.cols.length cc, .slice Ar T.rows.length cr] 37 (0, 0)) from (heap_alloc_old _ _ (by omega)).trans ((HB1.out.block w.heap.size (by simp; omega)).trans HP.out))
  have HRV := Lib.hid (show (w1.alloc (.cells (mkT T.sch (.slice A1 T.sch.cols.length c1) (.slice none 0 0)) 37)).heap[w.heap.size + 1]? = some (.cells #[.string ByteArray.empty, .bool false, .int .i64 0, .slice none 0 0, .slice none 0 0] 37 (0, 0)) from (heap_alloc_old _ _ (by omega)).trans ((HB1.out.block (w.heap.size + 1) (by simp)).trans HR.out))
  have HBO := Lib.hid (heap_alloc_new w1 (.cells (mkT T.sch (.slice A1 T.sch.cols.length c1) (.slice none 0 0)) 37))
  have hsz0 : (w1.alloc (.cells (mkT T.sch (.slice A1 T.sch.cols.length c1) (.slice none 0 0)) 37)).heap.size = w1.heap.size + 1 := by simp
  generalize w1.alloc (.cells (mkT T.sch (.slice A1 T.sch.cols.length c1) (.slice none 0 0)) 37) = W0 at *
  have hw0 : w1.heap.size < W0.heap.size := by omega
  clear HB1 HO1 HP HR HB0 HSV hsz0
  have HST := Lib.hid (BoxI.nil (K := rowK) HBO.out)
  gi_loopw [4] (fun i wr => ∃ k : Nat, k ≤ T.rows.length ∧ i = .int .i64 k ∧ BoxI rowK W0 w1.heap.size 37 (mkT T.sch (.slice A1 T.sch.cols.length c1)) (T.rows.take k) wr) (fun i _ => T.rows.length - (intOf i).toNat)
  case atStart => exact ⟨0, Nat.zero_le _, rfl, HST.out⟩
  case round =>
    obtain ⟨k, hk, rfl, hI⟩ := hrel
    have hlen : (T.rows.take k).length = k := by simp; omega
    obtain ⟨vc, hbx, hseq⟩ := hI.bx
    obtain ⟨us, hraw⟩ := hseq.raw
    rw [hlen] at hraw
    obtain ⟨Av, cv, rfl⟩ := slice_of hraw
    have HI := Lib.hid hI
    have HSEQ := Lib.hid hseq
    have HRAW := Lib.hid hraw
    have HBX := Lib.hid hbx
    have HLEN := Lib.hid hlen
    have HBR := Lib.hid (hI.below HBW.out (by omega) (by omega))
    have hsw := hI.g.size
    have y4 : wr.cell? ⟨w1.heap.size, 4, none⟩ = some (.slice Av k cv) := (cellrow hbx 4 (by simp [mkT])).1
    have hpt := (hI.g.block w.heap.size (by omega) (by simp; omega)).trans HPT.out
    have z4 : wr.cell? ⟨w.heap.size, 4, none⟩ = some (.slice Ar T.rows.length cr) := (cellrow hpt 4 (by simp)).1
    have hi0 : (0 : Int) ≤ (k : Int) := by omega
    clear hI hbx hseq hraw hlen hpt
    by_cases hlt : k < T.rows.length
    · have hi1 : (k : Int) < (T.rows.length : Int) := by omega
      obtain ⟨b, o, rfl, hcell⟩ := HRC.out (by omega)
      obtain ⟨uw, p0, p1, hvr, hfit⟩ := hcell k hlt
      have hb := World.block_lt_of_cell? w _ p0
      have q0 := cell_later HBR.out p0
      have q1 := cell_later HBR.out p1
      obtain ⟨Aw, cw, rfl, _, _⟩ := hvr.slice
      obtain ⟨ls, hlsb, hsrc⟩ := hvr.nums
      have hwn : T.rows[k].vals.length ≤ 1000000 := HS.out.2.2.2 _ (List.getElem_mem hlt)
      have HTK := Lib.hid (show T.rows.take (k + 1) = T.rows.take k ++ [T.rows[k]] from List.take_succ_eq_append_getElem hlt)
      have hrn : T.rows.length ≤ 1000000 := HS.out.2.2.1
      have HLS := Lib.hid hlsb
      have HFT := Lib.hid hfit
      have HLT := Lib.hid hlt
      clear hcell p0 p1 hvr hlsb hfit
      generalize T.rows[k] = x at *
      clear hlt
      simp only at hb
      have HSRC := Lib.hid ((hsrc.later HBR.out).later (show Below wr.heap.size wr (wr.alloc (.cells #[] 3)).drew by go_grown))
      have HE := Lib.hid (show (wr.alloc (.cells #[] 3)).drew.ownsRow W0.heap.size 3 1 (.slice (some ⟨wr.heap.size, 0, none⟩) 0 0) 0 [] from own_empty wr W0.heap.size 3 1 hsw)
      have hmx : Tryz.prog.follows .mixedOrders = true := by kernel_rfl
      have xO : ∀ X : SameAt wr (fun k => k < W0.heap.size), X.W.cell? ⟨w1.heap.size, 4, none⟩ = some (.slice Av k cv) := fun X => X.cell (by omega) y4
      have xT : ∀ X : SameAt wr (fun k => k < W0.heap.size), X.W.cell? ⟨w.heap.size, 4, none⟩ = some (.slice (some ⟨b, o, none⟩) T.rows.length cr) := fun X => X.cell (by omega) z4
      have x0 : ∀ X : SameAt wr (fun k => k < W0.heap.size), X.W.cell? ⟨b, o + k * 2, none⟩ = some (.int .i64 x.owner) := fun X => X.cell (by omega) q0
      have x1 : ∀ X : SameAt wr (fun k => k < W0.heap.size), X.W.cell? ⟨b, o + k * 2 + 1, none⟩ = some (.slice Aw x.vals.length cw) := fun X => X.cell (by omega) q1
      clear hsrc q0 q1
      gi_wp2
      refine wpIn_stage (IsSame wr (fun k => k < W0.heap.size)) [0, 1, 2, 3, 4, 5, 6, 7, 9, 10, 11, 12, 13, 14] [19, 20] hmx (by kernel_rfl) (isSame_of fun _ _ => rfl) ?_
      change wpStage _ _ _ _ _ _ _ _ (7 + 14) _ _ _
      refine stage_reads [0, 1, 2, 3, 4, 5, 6, 7, 9, 10, 11, 12, 13, 14] 7 _ _ (by kernel_rfl) ?_
      change wpQuietIn _ _ _ _ (fun W => ∃ x : SameAt wr (fun k => k < W0.heap.size), W = x.W) _ _ _
      simp only [pick_cons, pick_nil, List.getElem?_cons_zero, List.getElem?_cons_succ, Option.elim_some]
      repeat (gi_big_quiet_step (fail))
      refine wpQuietIn_nil ?_
      clear xO xT x0 x1
      refine stage_one 8 (by kernel_rfl) rfl ?_
      gi_wp2
      refine stage_post (isSame_below (show Below wr.heap.size wr _ by go_grown) (fun _ h => by omega)) ?_
      refine stage_one 15 (by kernel_rfl) rfl ?_
      gi_wp2_with (gi_at_builtin; go_loud (refine wpListIn_append_src _ rfl _ _ 51 rfl W0.heap.size 3 i3 (.int .i64 0) 1 8 Tryz.underlying51 hi3 hz30 hz31 hz32 rfl (by decide) (.slice (some ⟨wr.heap.size, 0, none⟩) 0 0) 0 [] rfl HE.out _ x.vals.length ls.flatten rfl HSRC.out (one_ints HLS.out.1 HLS.out.2) (by unfold maxLen; omega) (by omega) (by simp; omega) ?_; intro v1 w6 hown1 hgrow1; obtain ⟨Av1, cv1, rfl, hmid⟩ := RowMid.mk' HLEN.out hsw HSEQ.out HLS.out.1 HLS.out.2 HFT.out hown1 hgrow1; obtain ⟨us2, hus2⟩ := hmid.us; have hs6 := hmid.sz; have HM := Lib.hid hmid; have HUS := Lib.hid hus2; clear hmid hus2 hown1 hgrow1))
      refine stage_post (isSame_below HM.out.be (fun _ h => by omega)) ?_
      refine stage_one 16 (by kernel_rfl) rfl ?_
      gi_wp2
      refine stage_post (isSame_below HM.out.be (fun _ h => by omega)) ?_
      refine stage_one 17 (by kernel_rfl) rfl ?_
      gi_wp2
      refine stage_post (isSame_below (HM.out.be.trans ((below_alloc _ _).mono (Nat.le_of_lt hs6))) (fun _ h => by omega)) ?_
      refine stage_one 18 (by kernel_rfl) rfl ?_
      gi_wp2_with (gi_at_builtin; go_loud (refine wpListIn_append_own _ rfl _ _ 35 rfl W0.heap.size 53 i34 _ 2 32 Tryz.underlying35 hi34 hz40 hz41 hz42 rfl (by decide) _ _ us2 rfl HUS.out ⟨w6.heap.size, 0, none⟩ 1 1 [.int .i64 x.owner, .slice Av1 x.vals.length cv1] rfl rfl HM.out.nw (by simp [Value.oneCell']) (by unfold maxLen; omega) (by omega) (by simp; omega) ?_; intro v2 w7 hown2 hgrow2 _; obtain ⟨Av2, cv2, rfl⟩ := slice_of hown2; obtain ⟨hst, hc7, hf7⟩ := BoxI.step (f := 4) HI.out (by decide) (by decide) (fun _ _ => rfl) rfl (by omega) HBX.out HSEQ.out HM.out.be HM.out.kx (by rw [HLEN.out]; exact HUS.out) (by rw [HLEN.out]; exact hown2) hgrow2; have HSM := Lib.hid (row_same (S := fun k => k < W0.heap.size) HRAW.out hgrow2 (fun _ h => .inl h) (m := wr.heap.size) (fun _ h => by omega) (HM.out.be.trans ((below_alloc _ _).mono (Nat.le_of_lt hs6))) (by simp; omega)); have HST2 := Lib.hid hst; clear hst hown2 hgrow2))
      refine stage_post HSM.out ?_
      refine stage_one 19 (by kernel_rfl) rfl ?_
      gi_wp2
      refine stage_last rfl ?_
      refine stage_one 20 (by kernel_rfl) rfl ?_
      gi_wp2
      refine stage_last rfl ?_
      refine stage_done (by kernel_rfl) ?_
      gi_wp2
      go_roundw
      case rel => exact ⟨k + 1, HLT.out, by go_num, by rw [HTK.out]; exact HST2.out⟩
      case measure => have := HLT.out; simp [intOf]; omega
    · obtain rfl : k = T.rows.length := by omega
      have HF := Lib.hid (show OSeq rowK W0.heap.size wr (.slice Av T.rows.length cv) T.rows by
        have := HSEQ.out
        rwa [List.take_of_length_le (Nat.le_refl _)] at this)
      have HCO := Lib.hid (HO0.out.other (r := w1.heap.size) HI.out.g fun E hE cu e => by
        rw [HBO.out] at e
        simp only [Option.some.injEq, Obj.cells.injEq] at e
        have : E = 25 ∨ E = 9 := by simpa [colK] using hE
        rcases this with rfl | rfl <;> exact absurd e.2.1 (by decide))
      have hres := (HI.out.g.block (w.heap.size + 1) (by omega) (by simp; omega)).trans HRV.out
      have HRES := Lib.hid hres
      obtain ⟨q0, _⟩ := cellrow HBX.out 0 (by simp [mkT])
      obtain ⟨q1, _⟩ := cellrow HBX.out 1 (by simp [mkT])
      obtain ⟨q2, _⟩ := cellrow HBX.out 2 (by simp [mkT])
      obtain ⟨q3, _⟩ := cellrow HBX.out 3 (by simp [mkT])
      obtain ⟨r0, s0⟩ := cellrow hres 0 (by simp)
      obtain ⟨r1, s1⟩ := cellrow hres 1 (by simp)
      obtain ⟨r2, s2⟩ := cellrow hres 2 (by simp)
      obtain ⟨r3, s3⟩ := cellrow hres 3 (by simp)
      obtain ⟨r4, s4⟩ := cellrow hres 4 (by simp)
      simp only [mkT] at q0 q1 q2 q3
      clear hlt hres
      gi_wp2
      have hr1 : w.heap.size + 1 < wr.heap.size := by omega
      refine bodyPost_ret (v := .agg #[.string T.sch.name, .bool T.sch.pub, .int .i64 T.sch.many, .slice A1 T.sch.cols.length c1, .slice Av T.rows.length cv]) (by simp [results, Tryz.results47, go_sem, r0, r1, r2, r3, r4]) rfl ⟨_, _, rfl, ?_, ?_, ?_⟩
      · exact (HCO.out.base_le (by simp; omega)).other (r := w.heap.size + 1) (set5 _ _ _ _ _ _ _) (other31 HRES.out (by decide))
      · exact (HF.out.base_le (show w.heap.size ≤ W0.heap.size by omega)).other (r := w.heap.size + 1) (set5 _ _ _ _ _ _ _) (other31 HRES.out (by decide))
      · exact HBR.out.grown (set5 _ _ _ _ _ _ _) HBR.out.size (fun k e => by simp only [Option.some.injEq] at e; omega)
end Go.Proofs.YtlocafmglficnaaGreatDoor
