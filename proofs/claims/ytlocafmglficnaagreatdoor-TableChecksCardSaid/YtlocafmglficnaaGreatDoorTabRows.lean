/- The iterator of a table's rows without an owner. -/
import Derived.Test.YtlocafmglficnaaGreatDoorTabCopy
import Derived.Test.YtlocafmglficnaaGreatDoorRangeW
namespace Go.Proofs.YtlocafmglficnaaGreatDoor
open Go.RowKit Go.Maps Go.Sort Go.Shelf

/-- The rows that stay. -/
def stays (pub : Bool) (o : Int) (r : RowV) : Bool := pub || r.owner != o
def keptR (T : Tbl) (o : Int) : List RowV := T.rows.filter (stays T.sch.pub o)
/-- What the consumer leaves alone. -/
structure RdG (w0 : World) (n₁ bO : Nat) (W : World) : Prop where
  size : n₁ ≤ W.heap.size
  blk : ∀ k, k < n₁ → k ≠ bO → W.heap[k]? = w0.heap[k]?
theorem RdG.cell {w0 W : World} {n₁ bO b i : Nat} {v : Value} (h : RdG w0 n₁ bO W) (hb : b < n₁) (hne : b ≠ bO) (hc : w0.cell? ⟨b, i, none⟩ = some v) : W.cell? ⟨b, i, none⟩ = some v := (World.cell?_of_block (w := w0) (h.blk b hb hne)).trans hc
/-- What comes next. -/
def NextR (T : Tbl) (o : Int) (n₁ : Nat) (pre : List (RowV × Value)) (x : RowV × Value) (W : World) : Prop :=
  ∃ k, ∃ h : k < T.rows.length, pre.map Prod.fst = (T.rows.take k).filter (stays T.sch.pub o) ∧ x.1 = T.rows[k] ∧ OSeq intK n₁ W x.2 x.1.vals ∧ Fit x.1.owner ∧ ∃ A c, x.2 = .slice A x.1.vals.length c

theorem sameNone (w W : World) : IsSame w (fun _ => False) W := isSame_of fun _ (hk : False) => hk.elim
attribute [local go_sem] Oper.semAt_some
set_option maxRecDepth 100000 in
set_option maxHeartbeats 8000000 in
theorem rows_seq (C : TypeId → Nat → Prop) (T : Tbl) (o : Int) (w w0 : World) (p1 p2 n₁ bO : Nat) (cu ru : Value) (_hcu : ∃ A c, cu = .slice A T.sch.cols.length c) (hrows : SRow rowK C w ru T.rows) (hb0 : Below w.heap.size w w0) (hbO : w.heap.size ≤ bO) (hn1 : w.heap.size ≤ n₁)
    (hp1 : p1 < n₁) (hp1' : p1 ≠ bO) (hp2 : p2 < n₁) (hp2' : p2 ≠ bO) (b1 : w0.cell? ⟨p1, 1, none⟩ = some (.bool T.sch.pub)) (b4 : w0.cell? ⟨p1, 4, none⟩ = some ru) (bo : w0.cell? ⟨p2, 0, none⟩ = some (.int .i64 o))
    (hvs : ∀ r ∈ T.rows, r.vals.length ≤ 1000000) :
    SeqOrd Fence.wide 5 Tryz.prog 78 #[.pointer (some ⟨p1, 0, none⟩), .pointer (some ⟨p2, 0, none⟩)] (fun x : RowV × Value => #[Value.agg #[.int .i64 x.1.owner, x.2]]) (NextR T o n₁) (fun xs => xs.map Prod.fst = keptR T o) (RdG w0 n₁ bO) := by
  intro l J Jx W hG hA _ hY h0
  obtain ⟨Ar, cr, rfl, hrl, hrm, hrc⟩ := hrows.rows
  refine callsIn_of_wp Tryz.func78 rfl trivial ?_ rfl
  simp only [Tryz.ntmps78, List.size_toArray, List.length_cons, List.length_nil, Nat.reduceAdd, Nat.reduceSub, Array.replicate_succ, Array.replicate_zero, List.push_toArray, List.append_toArray, List.nil_append, List.cons_append]
  have gW := hG _ _ h0
  have g4 := gW.cell hp1 hp1' b4
  have hWs := gW.size
  have HG := Lib.hid hG
  have HY := Lib.hid hY
  have HA := Lib.hid hA
  have HRC := Lib.hid hrc
  have HVS := Lib.hid hvs
  have HB0 := Lib.hid hb0
  have HC1 := Lib.hid b1
  have HC2 := Lib.hid bo
  have HKR := Lib.hid (show keptR T o = T.rows.filter (stays T.sch.pub o) from rfl)
  have hmx : Tryz.prog.follows .mixedOrders = true := by kernel_rfl
  unfold maxLen at hrm
  clear hG hY hA hrc hvs hb0 gW hrows b1 b4 bo
  generalize hpub : T.sch.pub = pub at *
  have HPUB := Lib.hid hpub
  clear hpub
  gi_wp2
  gi_loopw [9] (fun i wr => ∃ (k : Nat) (pre : List (RowV × Value)), k ≤ T.rows.length ∧ i = .int .i64 (k : Int) ∧ pre.map Prod.fst = (T.rows.take k).filter (stays pub o) ∧ J pre wr) (fun i _ => T.rows.length - (intOf i).toNat)
  case atStart => exact ⟨0, [], Nat.zero_le _, rfl, rfl, h0⟩
  case round =>
    obtain ⟨k, pre, hk, rfl, hpre, hJs⟩ := hrel
    clear g4 h0
    rcases Nat.lt_or_ge k T.rows.length with hlt | hge
    · have hGr := HG.out _ _ hJs
      have g1 := hGr.cell hp1 hp1' HC1.out
      have g2 := hGr.cell hp2 hp2' HC2.out
      obtain ⟨b, ob, rfl, hcell⟩ := HRC.out (by omega)
      obtain ⟨u, d0, d1, hvals, hfo⟩ := hcell k hlt
      obtain ⟨Av, cv, rfl, _, _⟩ := hvals.slice
      have hbl := World.block_lt_of_cell? w _ d0
      have c0 := hGr.cell (by simp at hbl; omega) (by simp at hbl; omega) (cell_later HB0.out d0)
      have c1 := hGr.cell (by simp at hbl; omega) (by simp at hbl; omega) (cell_later HB0.out d1)
      have hp1r : p1 < wr.heap.size := by have := hGr.size; omega
      have hp2r : p2 < wr.heap.size := by have := hGr.size; omega
      have hi0 : (0 : Int) ≤ (k : Int) := by omega
      have hi1 : (k : Int) < (T.rows.length : Int) := by omega
      have hvl : T.rows[k].vals.length ≤ 1000000 := HVS.out _ (List.getElem_mem hlt)
      have hst : (T.rows.take (k + 1)).filter (stays pub o) = (T.rows.take k).filter (stays pub o) ++ (if stays pub o T.rows[k] = true then [T.rows[k]] else []) := by
        rw [List.take_succ_eq_append_getElem hlt, List.filter_append]
        congr 1
        by_cases hs : stays pub o T.rows[k] = true
        · rw [if_pos hs]; simp [hs]
        · rw [if_neg hs]; simp [hs]
      have HPRE := Lib.hid hpre
      have HJW := Lib.hid (show J pre (wr.alloc (.cells #[.int .i64 T.rows[k].owner, .slice Av T.rows[k].vals.length cv] 53)) from HA.out pre wr _ none hJs (World.grownBy_alloc _ _ _) (fun r e => by cases e))
      have HGR := Lib.hid hGr
      have hSI : SRow intK (Lt w.heap.size) wr (.slice Av T.rows[k].vals.length cv) T.rows[k].vals := hvals.keep fun E b _ hlt' _ => ⟨hlt', (hGr.blk b (by omega) (by omega)).trans (HB0.out.block b hlt')⟩
      have HSI0 := Lib.hid hSI
      have HK0 := Lib.hid (show ∀ x : RowV × Value, x.1 = T.rows[k] → (stays pub o T.rows[k] = true) → (pre ++ [x]).map Prod.fst = (T.rows.take (k + 1)).filter (stays pub o) from fun x hx hs => by rw [List.map_append, HPRE.out, hst, if_pos hs, ← hx]; rfl)
      have HK1 := Lib.hid (show stays pub o T.rows[k] = false → pre.map Prod.fst = (T.rows.take (k + 1)).filter (stays pub o) from fun hs => by rw [hst, HPRE.out, if_neg (by rw [hs]; simp)]; simp)
      have HN0 := Lib.hid (show ∀ (v5 : Value) (wc : World), OSeq intK n₁ wc v5 T.rows[k].vals → (∃ A c, v5 = .slice A T.rows[k].vals.length c) → NextR T o n₁ pre (T.rows[k], v5) wc from fun v5 wc h5 hs5 => ⟨k, hlt, by rw [HPUB.out]; exact HPRE.out, rfl, h5, hfo, hs5⟩)
      clear hcell d0 d1 hvals hst hGr hpre hJs hSI
      generalize T.rows[k] = r at *
      have hrow0 : (wr.alloc (.cells #[.int .i64 r.owner, .slice Av r.vals.length cv] 53)).cell? ⟨wr.heap.size, 0, none⟩ = some (.int .i64 r.owner) := cell_newk _ _ _ _ _ _ rfl rfl
      have hsz1 : n₁ ≤ wr.heap.size := HGR.out.size
      have HSI := Lib.hid (show SRow intK (Lt w.heap.size) ((wr.alloc (.cells #[.int .i64 r.owner, .slice Av r.vals.length cv] 53)).drew) (.slice Av r.vals.length cv) r.vals from HSI0.out.keep fun E b _ hlt' hC => ⟨hC, Below.heap_alloc wr _ b hlt'⟩)
      have hJc : ∀ wc, Below ((wr.alloc (.cells #[.int .i64 r.owner, .slice Av r.vals.length cv] 53)).drew).heap.size ((wr.alloc (.cells #[.int .i64 r.owner, .slice Av r.vals.length cv] 53)).drew) wc → J pre wc := fun wc hb => HA.out pre (wr.alloc (.cells #[.int .i64 r.owner, .slice Av r.vals.length cv] 53)) wc none HJW.out ⟨hb.os, hb.tape, hb.output, hb.size, fun k hk _ => hb.block k hk⟩ (fun r e => by cases e)
      have HJC := Lib.hid hJc
      clear hJc
      cases hs : stays pub o r with
      | true =>
        have HTK := Lib.hid (fun (x : RowV × Value) (hx : x.1 = r) => HK0.out x hx hs)
        have HNX := Lib.hid (fun (v5 : Value) (wc : World) (hb : Below ((wr.alloc (.cells #[.int .i64 r.owner, .slice Av r.vals.length cv] 53)).drew).heap.size ((wr.alloc (.cells #[.int .i64 r.owner, .slice Av r.vals.length cv] 53)).drew) wc) (h5 : OSeq intK ((wr.alloc (.cells #[.int .i64 r.owner, .slice Av r.vals.length cv] 53)).drew).heap.size wc v5 r.vals) (hsl : ∃ A c, v5 = .slice A r.vals.length c) => HN0.out v5 wc (h5.base_le (Nat.le_trans hsz1 (by simp))) hsl)
        have hcs : (pub = true) ∨ (pub = false ∧ (r.owner != o) = true) := by
          cases pub with
          | true => exact .inl rfl
          | false => exact .inr ⟨rfl, by simpa [stays] using hs⟩
        clear hs
        rcases hcs with rfl | ⟨rfl, hne⟩
        all_goals
          gi_wp2
          refine wpIn_stage (IsSame wr (fun _ => False)) [0, 1, 3, 4, 7, 8, 9, 10, 11, 13] [] hmx (by kernel_rfl) (sameNone _ _) ?_
          change wpStage _ _ _ _ _ _ _ _ (18 + 2) _ _ _
          refine stage_reads [0, 1] 18 _ _ (by kernel_rfl) ?_
          change wpQuietIn _ _ _ _ (fun W => ∃ x : SameAt wr (fun _ => False), W = x.W) _ _ _
          simp only [pick_cons, pick_nil, List.getElem?_cons_zero, List.getElem?_cons_succ, Option.elim_some]
          repeat (gi_big_quiet_step (fail))
          refine wpQuietIn_nil ?_
          refine stage_one 2 (by kernel_rfl) rfl ?_
          gi_wp2
          refine stage_post (sameNone _ _) ?_
          change wpStage _ _ _ _ _ _ _ _ (15 + 2) _ _ _
          refine stage_reads [3, 4] 15 _ _ (by kernel_rfl) ?_
          change wpQuietIn _ _ _ _ (fun W => ∃ x : SameAt wr (fun _ => False), W = x.W) _ _ _
          simp only [pick_cons, pick_nil, List.getElem?_cons_zero, List.getElem?_cons_succ, Option.elim_some]
          repeat (gi_big_quiet_step (fail))
          refine wpQuietIn_nil ?_
          refine stage_two 5 6 (by kernel_rfl) rfl rfl ?_ ?_
          · gi_wp2
            refine stage_post (sameNone _ _) ?_
            refine stage_one 6 (by kernel_rfl) rfl ?_
            gi_wp2
            refine stage_post (sameNone _ _) ?_
            change wpStage _ _ _ _ _ _ _ _ (7 + 6) _ _ _
            refine stage_reads [7, 8, 9, 10, 11, 13] 7 _ _ (by kernel_rfl) ?_
            change wpQuietIn _ _ _ _ (fun W => ∃ x : SameAt wr (fun _ => False), W = x.W) _ _ _
            simp only [pick_cons, pick_nil, List.getElem?_cons_zero, List.getElem?_cons_succ, Option.elim_some]
            repeat (gi_big_quiet_step (fail))
            refine wpQuietIn_nil ?_
            refine stage_two 12 14 (by kernel_rfl) rfl rfl ?_ ?_
            · gi_wp2
              refine stage_post (sameNone _ _) ?_
              refine stage_one 14 (by kernel_rfl) rfl ?_
              gi_wp2
              refine stage_post (sameNone _ _) ?_
              refine stage_one 15 (by kernel_rfl) rfl ?_
              gi_wp2_with (refine ⟨trivial, ?_⟩; gi_at_call 79; refine (callsIn_wide.2 (cloneInts_any _ _ r.vals _ HSI.out hvl)).mono ?_; rintro e wc ⟨v5, rfl, ho5, hb5⟩; obtain ⟨A5, c5, rfl, _, _⟩ := ho5.slice; have HO5 := Lib.hid ho5; have HB5 := Lib.hid hb5; have h12 := (hb5.cell (p := ⟨wr.heap.size, 0, none⟩) (by simp)).trans hrow0; clear ho5 hb5)
              refine stage_post (sameNone _ _) ?_
              refine stage_one 16 (by kernel_rfl) rfl ?_
              gi_wp2
              refine stage_post (sameNone _ _) ?_
              refine stage_one 17 (by kernel_rfl) rfl ?_
              have hnx := HNX.out _ wc HB5.out HO5.out ⟨_, _, rfl⟩
              obtain ⟨fn, tmps, assign, body, hy, hR⟩ := HY.out pre (r, .slice A5 r.vals.length c5) wc (HJC.out wc HB5.out) hnx
              gi_wp2
              refine hR.mono ?_
              rintro e W3 (⟨rfl, hJ3⟩ | ⟨rfl, hJx3⟩)
              · gi_wp2
                refine stage_post (sameNone _ _) ?_
                refine stage_one 18 (by kernel_rfl) rfl ?_
                gi_wp2
                refine stage_post (sameNone _ _) ?_
                refine stage_one 19 (by kernel_rfl) rfl ?_
                gi_wp2
                refine stage_post (sameNone _ _) ?_
                refine stage_done (by kernel_rfl) ?_
                gi_wp2
                go_roundw
                case rel => exact ⟨k + 1, _, by omega, by go_num, HTK.out (r, .slice A5 r.vals.length c5) rfl, hJ3⟩
                case measure => simp [intOf]; omega
              · gi_wp2
                refine stage_post (sameNone _ _) ?_
                refine stage_one 18 (by kernel_rfl) rfl ?_
                gi_wp2
                refine stage_post (sameNone _ _) ?_
                refine stage_one 19 (by kernel_rfl) rfl ?_
                gi_wp2
                refine stage_post (sameNone _ _) ?_
                refine stage_done (by kernel_rfl) ?_
                gi_wp2
                refine bodyPost_ret (results_none rfl _ _ _) rfl ?_
                exact ⟨⟨_, rfl⟩, .inr ⟨_, _, hJx3⟩⟩
            · gi_wp2
              refine stage_post (sameNone _ _) ?_
              refine stage_two 12 15 (by kernel_rfl) rfl rfl ?_ ?_
              · gi_wp2
                refine stage_post (sameNone _ _) ?_
                refine stage_one 15 (by kernel_rfl) rfl ?_
                gi_wp2_with (refine ⟨trivial, ?_⟩; gi_at_call 79; refine (callsIn_wide.2 (cloneInts_any _ _ r.vals _ HSI.out hvl)).mono ?_; rintro e wc ⟨v5, rfl, ho5, hb5⟩; obtain ⟨A5, c5, rfl, _, _⟩ := ho5.slice; have HO5 := Lib.hid ho5; have HB5 := Lib.hid hb5; have h12 := (hb5.cell (p := ⟨wr.heap.size, 0, none⟩) (by simp)).trans hrow0; clear ho5 hb5)
                refine stage_post (sameNone _ _) ?_
                refine stage_one 16 (by kernel_rfl) rfl ?_
                gi_wp2
                refine stage_post (sameNone _ _) ?_
                refine stage_one 17 (by kernel_rfl) rfl ?_
                have hnx := HNX.out _ wc HB5.out HO5.out ⟨_, _, rfl⟩
                obtain ⟨fn, tmps, assign, body, hy, hR⟩ := HY.out pre (r, .slice A5 r.vals.length c5) wc (HJC.out wc HB5.out) hnx
                gi_wp2
                refine hR.mono ?_
                rintro e W3 (⟨rfl, hJ3⟩ | ⟨rfl, hJx3⟩)
                · gi_wp2
                  refine stage_post (sameNone _ _) ?_
                  refine stage_one 18 (by kernel_rfl) rfl ?_
                  gi_wp2
                  refine stage_post (sameNone _ _) ?_
                  refine stage_one 19 (by kernel_rfl) rfl ?_
                  gi_wp2
                  refine stage_post (sameNone _ _) ?_
                  refine stage_done (by kernel_rfl) ?_
                  gi_wp2
                  go_roundw
                  case rel => exact ⟨k + 1, _, by omega, by go_num, HTK.out (r, .slice A5 r.vals.length c5) rfl, hJ3⟩
                  case measure => simp [intOf]; omega
                · gi_wp2
                  refine stage_post (sameNone _ _) ?_
                  refine stage_one 18 (by kernel_rfl) rfl ?_
                  gi_wp2
                  refine stage_post (sameNone _ _) ?_
                  refine stage_one 19 (by kernel_rfl) rfl ?_
                  gi_wp2
                  refine stage_post (sameNone _ _) ?_
                  refine stage_done (by kernel_rfl) ?_
                  gi_wp2
                  refine bodyPost_ret (results_none rfl _ _ _) rfl ?_
                  exact ⟨⟨_, rfl⟩, .inr ⟨_, _, hJx3⟩⟩
              · gi_wp2_with (refine ⟨trivial, ?_⟩; gi_at_call 79; refine (callsIn_wide.2 (cloneInts_any _ _ r.vals _ HSI.out hvl)).mono ?_; rintro e wc ⟨v5, rfl, ho5, hb5⟩; obtain ⟨A5, c5, rfl, _, _⟩ := ho5.slice; have HO5 := Lib.hid ho5; have HB5 := Lib.hid hb5; have h12 := (hb5.cell (p := ⟨wr.heap.size, 0, none⟩) (by simp)).trans hrow0; clear ho5 hb5)
                refine stage_post (sameNone _ _) ?_
                refine stage_one 12 (by kernel_rfl) rfl ?_
                have hdummy := trivial
                gi_wp2
                refine stage_post (sameNone _ _) ?_
                refine stage_one 16 (by kernel_rfl) rfl ?_
                gi_wp2
                refine stage_post (sameNone _ _) ?_
                refine stage_one 17 (by kernel_rfl) rfl ?_
                have hnx := HNX.out _ wc HB5.out HO5.out ⟨_, _, rfl⟩
                obtain ⟨fn, tmps, assign, body, hy, hR⟩ := HY.out pre (r, .slice A5 r.vals.length c5) wc (HJC.out wc HB5.out) hnx
                gi_wp2
                refine hR.mono ?_
                rintro e W3 (⟨rfl, hJ3⟩ | ⟨rfl, hJx3⟩)
                · gi_wp2
                  refine stage_post (sameNone _ _) ?_
                  refine stage_one 18 (by kernel_rfl) rfl ?_
                  gi_wp2
                  refine stage_post (sameNone _ _) ?_
                  refine stage_one 19 (by kernel_rfl) rfl ?_
                  gi_wp2
                  refine stage_post (sameNone _ _) ?_
                  refine stage_done (by kernel_rfl) ?_
                  gi_wp2
                  go_roundw
                  case rel => exact ⟨k + 1, _, by omega, by go_num, HTK.out (r, .slice A5 r.vals.length c5) rfl, hJ3⟩
                  case measure => simp [intOf]; omega
                · gi_wp2
                  refine stage_post (sameNone _ _) ?_
                  refine stage_one 18 (by kernel_rfl) rfl ?_
                  gi_wp2
                  refine stage_post (sameNone _ _) ?_
                  refine stage_one 19 (by kernel_rfl) rfl ?_
                  gi_wp2
                  refine stage_post (sameNone _ _) ?_
                  refine stage_done (by kernel_rfl) ?_
                  gi_wp2
                  refine bodyPost_ret (results_none rfl _ _ _) rfl ?_
                  exact ⟨⟨_, rfl⟩, .inr ⟨_, _, hJx3⟩⟩
          · gi_wp2
            refine stage_post (sameNone _ _) ?_
            refine stage_one 5 (by kernel_rfl) rfl ?_
            gi_wp2
            refine stage_post (sameNone _ _) ?_
            change wpStage _ _ _ _ _ _ _ _ (7 + 6) _ _ _
            refine stage_reads [7, 8, 9, 10, 11, 13] 7 _ _ (by kernel_rfl) ?_
            change wpQuietIn _ _ _ _ (fun W => ∃ x : SameAt wr (fun _ => False), W = x.W) _ _ _
            simp only [pick_cons, pick_nil, List.getElem?_cons_zero, List.getElem?_cons_succ, Option.elim_some]
            repeat (gi_big_quiet_step (fail))
            refine wpQuietIn_nil ?_
            refine stage_two 12 14 (by kernel_rfl) rfl rfl ?_ ?_
            · gi_wp2
              refine stage_post (sameNone _ _) ?_
              refine stage_one 14 (by kernel_rfl) rfl ?_
              gi_wp2
              refine stage_post (sameNone _ _) ?_
              refine stage_one 15 (by kernel_rfl) rfl ?_
              gi_wp2_with (refine ⟨trivial, ?_⟩; gi_at_call 79; refine (callsIn_wide.2 (cloneInts_any _ _ r.vals _ HSI.out hvl)).mono ?_; rintro e wc ⟨v5, rfl, ho5, hb5⟩; obtain ⟨A5, c5, rfl, _, _⟩ := ho5.slice; have HO5 := Lib.hid ho5; have HB5 := Lib.hid hb5; have h12 := (hb5.cell (p := ⟨wr.heap.size, 0, none⟩) (by simp)).trans hrow0; clear ho5 hb5)
              refine stage_post (sameNone _ _) ?_
              refine stage_one 16 (by kernel_rfl) rfl ?_
              gi_wp2
              refine stage_post (sameNone _ _) ?_
              refine stage_one 17 (by kernel_rfl) rfl ?_
              have hnx := HNX.out _ wc HB5.out HO5.out ⟨_, _, rfl⟩
              obtain ⟨fn, tmps, assign, body, hy, hR⟩ := HY.out pre (r, .slice A5 r.vals.length c5) wc (HJC.out wc HB5.out) hnx
              gi_wp2
              refine hR.mono ?_
              rintro e W3 (⟨rfl, hJ3⟩ | ⟨rfl, hJx3⟩)
              · gi_wp2
                refine stage_post (sameNone _ _) ?_
                refine stage_one 18 (by kernel_rfl) rfl ?_
                gi_wp2
                refine stage_post (sameNone _ _) ?_
                refine stage_one 19 (by kernel_rfl) rfl ?_
                gi_wp2
                refine stage_post (sameNone _ _) ?_
                refine stage_done (by kernel_rfl) ?_
                gi_wp2
                go_roundw
                case rel => exact ⟨k + 1, _, by omega, by go_num, HTK.out (r, .slice A5 r.vals.length c5) rfl, hJ3⟩
                case measure => simp [intOf]; omega
              · gi_wp2
                refine stage_post (sameNone _ _) ?_
                refine stage_one 18 (by kernel_rfl) rfl ?_
                gi_wp2
                refine stage_post (sameNone _ _) ?_
                refine stage_one 19 (by kernel_rfl) rfl ?_
                gi_wp2
                refine stage_post (sameNone _ _) ?_
                refine stage_done (by kernel_rfl) ?_
                gi_wp2
                refine bodyPost_ret (results_none rfl _ _ _) rfl ?_
                exact ⟨⟨_, rfl⟩, .inr ⟨_, _, hJx3⟩⟩
            · gi_wp2
              refine stage_post (sameNone _ _) ?_
              refine stage_two 12 15 (by kernel_rfl) rfl rfl ?_ ?_
              · gi_wp2
                refine stage_post (sameNone _ _) ?_
                refine stage_one 15 (by kernel_rfl) rfl ?_
                gi_wp2_with (refine ⟨trivial, ?_⟩; gi_at_call 79; refine (callsIn_wide.2 (cloneInts_any _ _ r.vals _ HSI.out hvl)).mono ?_; rintro e wc ⟨v5, rfl, ho5, hb5⟩; obtain ⟨A5, c5, rfl, _, _⟩ := ho5.slice; have HO5 := Lib.hid ho5; have HB5 := Lib.hid hb5; have h12 := (hb5.cell (p := ⟨wr.heap.size, 0, none⟩) (by simp)).trans hrow0; clear ho5 hb5)
                refine stage_post (sameNone _ _) ?_
                refine stage_one 16 (by kernel_rfl) rfl ?_
                gi_wp2
                refine stage_post (sameNone _ _) ?_
                refine stage_one 17 (by kernel_rfl) rfl ?_
                have hnx := HNX.out _ wc HB5.out HO5.out ⟨_, _, rfl⟩
                obtain ⟨fn, tmps, assign, body, hy, hR⟩ := HY.out pre (r, .slice A5 r.vals.length c5) wc (HJC.out wc HB5.out) hnx
                gi_wp2
                refine hR.mono ?_
                rintro e W3 (⟨rfl, hJ3⟩ | ⟨rfl, hJx3⟩)
                · gi_wp2
                  refine stage_post (sameNone _ _) ?_
                  refine stage_one 18 (by kernel_rfl) rfl ?_
                  gi_wp2
                  refine stage_post (sameNone _ _) ?_
                  refine stage_one 19 (by kernel_rfl) rfl ?_
                  gi_wp2
                  refine stage_post (sameNone _ _) ?_
                  refine stage_done (by kernel_rfl) ?_
                  gi_wp2
                  go_roundw
                  case rel => exact ⟨k + 1, _, by omega, by go_num, HTK.out (r, .slice A5 r.vals.length c5) rfl, hJ3⟩
                  case measure => simp [intOf]; omega
                · gi_wp2
                  refine stage_post (sameNone _ _) ?_
                  refine stage_one 18 (by kernel_rfl) rfl ?_
                  gi_wp2
                  refine stage_post (sameNone _ _) ?_
                  refine stage_one 19 (by kernel_rfl) rfl ?_
                  gi_wp2
                  refine stage_post (sameNone _ _) ?_
                  refine stage_done (by kernel_rfl) ?_
                  gi_wp2
                  refine bodyPost_ret (results_none rfl _ _ _) rfl ?_
                  exact ⟨⟨_, rfl⟩, .inr ⟨_, _, hJx3⟩⟩
              · gi_wp2_with (refine ⟨trivial, ?_⟩; gi_at_call 79; refine (callsIn_wide.2 (cloneInts_any _ _ r.vals _ HSI.out hvl)).mono ?_; rintro e wc ⟨v5, rfl, ho5, hb5⟩; obtain ⟨A5, c5, rfl, _, _⟩ := ho5.slice; have HO5 := Lib.hid ho5; have HB5 := Lib.hid hb5; have h12 := (hb5.cell (p := ⟨wr.heap.size, 0, none⟩) (by simp)).trans hrow0; clear ho5 hb5)
                refine stage_post (sameNone _ _) ?_
                refine stage_one 12 (by kernel_rfl) rfl ?_
                have hdummy := trivial
                gi_wp2
                refine stage_post (sameNone _ _) ?_
                refine stage_one 16 (by kernel_rfl) rfl ?_
                gi_wp2
                refine stage_post (sameNone _ _) ?_
                refine stage_one 17 (by kernel_rfl) rfl ?_
                have hnx := HNX.out _ wc HB5.out HO5.out ⟨_, _, rfl⟩
                obtain ⟨fn, tmps, assign, body, hy, hR⟩ := HY.out pre (r, .slice A5 r.vals.length c5) wc (HJC.out wc HB5.out) hnx
                gi_wp2
                refine hR.mono ?_
                rintro e W3 (⟨rfl, hJ3⟩ | ⟨rfl, hJx3⟩)
                · gi_wp2
                  refine stage_post (sameNone _ _) ?_
                  refine stage_one 18 (by kernel_rfl) rfl ?_
                  gi_wp2
                  refine stage_post (sameNone _ _) ?_
                  refine stage_one 19 (by kernel_rfl) rfl ?_
                  gi_wp2
                  refine stage_post (sameNone _ _) ?_
                  refine stage_done (by kernel_rfl) ?_
                  gi_wp2
                  go_roundw
                  case rel => exact ⟨k + 1, _, by omega, by go_num, HTK.out (r, .slice A5 r.vals.length c5) rfl, hJ3⟩
                  case measure => simp [intOf]; omega
                · gi_wp2
                  refine stage_post (sameNone _ _) ?_
                  refine stage_one 18 (by kernel_rfl) rfl ?_
                  gi_wp2
                  refine stage_post (sameNone _ _) ?_
                  refine stage_one 19 (by kernel_rfl) rfl ?_
                  gi_wp2
                  refine stage_post (sameNone _ _) ?_
                  refine stage_done (by kernel_rfl) ?_
                  gi_wp2
                  refine bodyPost_ret (results_none rfl _ _ _) rfl ?_
                  exact ⟨⟨_, rfl⟩, .inr ⟨_, _, hJx3⟩⟩
      | false =>
        have HTS := Lib.hid (HK1.out hs)
        have hcs : pub = false ∧ (r.owner != o) = false := by
          cases pub with
          | true => simp [stays] at hs
          | false => exact ⟨rfl, by simpa [stays] using hs⟩
        obtain ⟨rfl, hne⟩ := hcs
        clear hs
        gi_wp2
        refine wpIn_stage (IsSame wr (fun _ => False)) [0, 1, 3, 4, 7, 8, 9, 10, 11, 13] [] hmx (by kernel_rfl) (sameNone _ _) ?_
        change wpStage _ _ _ _ _ _ _ _ (18 + 2) _ _ _
        refine stage_reads [0, 1] 18 _ _ (by kernel_rfl) ?_
        change wpQuietIn _ _ _ _ (fun W => ∃ x : SameAt wr (fun _ => False), W = x.W) _ _ _
        simp only [pick_cons, pick_nil, List.getElem?_cons_zero, List.getElem?_cons_succ, Option.elim_some]
        repeat (gi_big_quiet_step (fail))
        refine wpQuietIn_nil ?_
        refine stage_one 2 (by kernel_rfl) rfl ?_
        gi_wp2
        refine stage_post (sameNone _ _) ?_
        change wpStage _ _ _ _ _ _ _ _ (15 + 2) _ _ _
        refine stage_reads [3, 4] 15 _ _ (by kernel_rfl) ?_
        change wpQuietIn _ _ _ _ (fun W => ∃ x : SameAt wr (fun _ => False), W = x.W) _ _ _
        simp only [pick_cons, pick_nil, List.getElem?_cons_zero, List.getElem?_cons_succ, Option.elim_some]
        repeat (gi_big_quiet_step (fail))
        refine wpQuietIn_nil ?_
        refine stage_two 5 6 (by kernel_rfl) rfl rfl ?_ ?_
        · gi_wp2
          refine stage_post (sameNone _ _) ?_
          refine stage_one 6 (by kernel_rfl) rfl ?_
          gi_wp2
          refine stage_post (sameNone _ _) ?_
          change wpStage _ _ _ _ _ _ _ _ (7 + 6) _ _ _
          refine stage_reads [7, 8, 9, 10, 11, 13] 7 _ _ (by kernel_rfl) ?_
          change wpQuietIn _ _ _ _ (fun W => ∃ x : SameAt wr (fun _ => False), W = x.W) _ _ _
          simp only [pick_cons, pick_nil, List.getElem?_cons_zero, List.getElem?_cons_succ, Option.elim_some]
          repeat (gi_big_quiet_step (fail))
          refine wpQuietIn_nil ?_
          refine stage_two 12 14 (by kernel_rfl) rfl rfl ?_ ?_
          · gi_wp2
            refine stage_post (sameNone _ _) ?_
            refine stage_one 14 (by kernel_rfl) rfl ?_
            gi_wp2
            refine stage_post (sameNone _ _) ?_
            refine stage_one 15 (by kernel_rfl) rfl ?_
            gi_wp2
            refine ⟨trivial, ?_⟩
            gi_wp2
            refine stage_post (sameNone _ _) ?_
            refine stage_one 16 (by kernel_rfl) rfl ?_
            gi_wp2
            refine stage_post (sameNone _ _) ?_
            refine stage_one 17 (by kernel_rfl) rfl ?_
            gi_wp2
            first
              | (refine ⟨fun _ h => (by cases h), ?_⟩; gi_wp2)
              | skip
            refine stage_post (sameNone _ _) ?_
            refine stage_one 18 (by kernel_rfl) rfl ?_
            gi_wp2
            refine stage_post (sameNone _ _) ?_
            refine stage_one 19 (by kernel_rfl) rfl ?_
            gi_wp2
            refine stage_post (sameNone _ _) ?_
            refine stage_done (by kernel_rfl) ?_
            gi_wp2
            go_roundw
            case rel => exact ⟨k + 1, pre, by omega, by go_num, HTS.out, HJC.out _ (Below.refl _ _)⟩
            case measure => simp [intOf]; omega
          · gi_wp2
            refine stage_post (sameNone _ _) ?_
            refine stage_two 12 15 (by kernel_rfl) rfl rfl ?_ ?_
            · gi_wp2
              refine stage_post (sameNone _ _) ?_
              refine stage_one 15 (by kernel_rfl) rfl ?_
              gi_wp2
              refine ⟨trivial, ?_⟩
              gi_wp2
              refine stage_post (sameNone _ _) ?_
              refine stage_one 16 (by kernel_rfl) rfl ?_
              gi_wp2
              refine stage_post (sameNone _ _) ?_
              refine stage_one 17 (by kernel_rfl) rfl ?_
              gi_wp2
              first
                | (refine ⟨fun _ h => (by cases h), ?_⟩; gi_wp2)
                | skip
              refine stage_post (sameNone _ _) ?_
              refine stage_one 18 (by kernel_rfl) rfl ?_
              gi_wp2
              refine stage_post (sameNone _ _) ?_
              refine stage_one 19 (by kernel_rfl) rfl ?_
              gi_wp2
              refine stage_post (sameNone _ _) ?_
              refine stage_done (by kernel_rfl) ?_
              gi_wp2
              go_roundw
              case rel => exact ⟨k + 1, pre, by omega, by go_num, HTS.out, HJC.out _ (Below.refl _ _)⟩
              case measure => simp [intOf]; omega
            · gi_wp2
              refine ⟨trivial, ?_⟩
              gi_wp2
              refine stage_post (sameNone _ _) ?_
              refine stage_one 12 (by kernel_rfl) rfl ?_
              have hdummy := trivial
              gi_wp2
              refine stage_post (sameNone _ _) ?_
              refine stage_one 16 (by kernel_rfl) rfl ?_
              gi_wp2
              refine stage_post (sameNone _ _) ?_
              refine stage_one 17 (by kernel_rfl) rfl ?_
              gi_wp2
              first
                | (refine ⟨fun _ h => (by cases h), ?_⟩; gi_wp2)
                | skip
              refine stage_post (sameNone _ _) ?_
              refine stage_one 18 (by kernel_rfl) rfl ?_
              gi_wp2
              refine stage_post (sameNone _ _) ?_
              refine stage_one 19 (by kernel_rfl) rfl ?_
              gi_wp2
              refine stage_post (sameNone _ _) ?_
              refine stage_done (by kernel_rfl) ?_
              gi_wp2
              go_roundw
              case rel => exact ⟨k + 1, pre, by omega, by go_num, HTS.out, HJC.out _ (Below.refl _ _)⟩
              case measure => simp [intOf]; omega
        · gi_wp2
          refine stage_post (sameNone _ _) ?_
          refine stage_one 5 (by kernel_rfl) rfl ?_
          gi_wp2
          refine stage_post (sameNone _ _) ?_
          change wpStage _ _ _ _ _ _ _ _ (7 + 6) _ _ _
          refine stage_reads [7, 8, 9, 10, 11, 13] 7 _ _ (by kernel_rfl) ?_
          change wpQuietIn _ _ _ _ (fun W => ∃ x : SameAt wr (fun _ => False), W = x.W) _ _ _
          simp only [pick_cons, pick_nil, List.getElem?_cons_zero, List.getElem?_cons_succ, Option.elim_some]
          repeat (gi_big_quiet_step (fail))
          refine wpQuietIn_nil ?_
          refine stage_two 12 14 (by kernel_rfl) rfl rfl ?_ ?_
          · gi_wp2
            refine stage_post (sameNone _ _) ?_
            refine stage_one 14 (by kernel_rfl) rfl ?_
            gi_wp2
            refine stage_post (sameNone _ _) ?_
            refine stage_one 15 (by kernel_rfl) rfl ?_
            gi_wp2
            refine ⟨trivial, ?_⟩
            gi_wp2
            refine stage_post (sameNone _ _) ?_
            refine stage_one 16 (by kernel_rfl) rfl ?_
            gi_wp2
            refine stage_post (sameNone _ _) ?_
            refine stage_one 17 (by kernel_rfl) rfl ?_
            gi_wp2
            first
              | (refine ⟨fun _ h => (by cases h), ?_⟩; gi_wp2)
              | skip
            refine stage_post (sameNone _ _) ?_
            refine stage_one 18 (by kernel_rfl) rfl ?_
            gi_wp2
            refine stage_post (sameNone _ _) ?_
            refine stage_one 19 (by kernel_rfl) rfl ?_
            gi_wp2
            refine stage_post (sameNone _ _) ?_
            refine stage_done (by kernel_rfl) ?_
            gi_wp2
            go_roundw
            case rel => exact ⟨k + 1, pre, by omega, by go_num, HTS.out, HJC.out _ (Below.refl _ _)⟩
            case measure => simp [intOf]; omega
          · gi_wp2
            refine stage_post (sameNone _ _) ?_
            refine stage_two 12 15 (by kernel_rfl) rfl rfl ?_ ?_
            · gi_wp2
              refine stage_post (sameNone _ _) ?_
              refine stage_one 15 (by kernel_rfl) rfl ?_
              gi_wp2
              refine ⟨trivial, ?_⟩
              gi_wp2
              refine stage_post (sameNone _ _) ?_
              refine stage_one 16 (by kernel_rfl) rfl ?_
              gi_wp2
              refine stage_post (sameNone _ _) ?_
              refine stage_one 17 (by kernel_rfl) rfl ?_
              gi_wp2
              first
                | (refine ⟨fun _ h => (by cases h), ?_⟩; gi_wp2)
                | skip
              refine stage_post (sameNone _ _) ?_
              refine stage_one 18 (by kernel_rfl) rfl ?_
              gi_wp2
              refine stage_post (sameNone _ _) ?_
              refine stage_one 19 (by kernel_rfl) rfl ?_
              gi_wp2
              refine stage_post (sameNone _ _) ?_
              refine stage_done (by kernel_rfl) ?_
              gi_wp2
              go_roundw
              case rel => exact ⟨k + 1, pre, by omega, by go_num, HTS.out, HJC.out _ (Below.refl _ _)⟩
              case measure => simp [intOf]; omega
            · gi_wp2
              refine ⟨trivial, ?_⟩
              gi_wp2
              refine stage_post (sameNone _ _) ?_
              refine stage_one 12 (by kernel_rfl) rfl ?_
              have hdummy := trivial
              gi_wp2
              refine stage_post (sameNone _ _) ?_
              refine stage_one 16 (by kernel_rfl) rfl ?_
              gi_wp2
              refine stage_post (sameNone _ _) ?_
              refine stage_one 17 (by kernel_rfl) rfl ?_
              gi_wp2
              first
                | (refine ⟨fun _ h => (by cases h), ?_⟩; gi_wp2)
                | skip
              refine stage_post (sameNone _ _) ?_
              refine stage_one 18 (by kernel_rfl) rfl ?_
              gi_wp2
              refine stage_post (sameNone _ _) ?_
              refine stage_one 19 (by kernel_rfl) rfl ?_
              gi_wp2
              refine stage_post (sameNone _ _) ?_
              refine stage_done (by kernel_rfl) ?_
              gi_wp2
              go_roundw
              case rel => exact ⟨k + 1, pre, by omega, by go_num, HTS.out, HJC.out _ (Below.refl _ _)⟩
              case measure => simp [intOf]; omega
    · have hge' : ¬ ((k : Int) < (T.rows.length : Int)) := by omega
      obtain rfl : k = T.rows.length := by omega
      have HF := Lib.hid (show pre.map Prod.fst = keptR T o by rw [hpre, List.take_of_length_le (Nat.le_refl _), HKR.out])
      clear hpre
      gi_wp2
      go_end0
      exact ⟨⟨_, rfl⟩, .inl ⟨pre, HF.out, hJs⟩⟩
end Go.Proofs.YtlocafmglficnaaGreatDoor
