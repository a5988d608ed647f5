/- OwnersOf and WithoutOf of a base. -/
import Derived.Test.YtlocafmglficnaaGreatDoorTabNeigh
namespace Go.Proofs.YtlocafmglficnaaGreatDoor
open Go.RowKit Go.Maps Go.Sort Go.Shelf

theorem info31 : (Tryz.prog.info? 37).map (fun i => (i.zero, i.size, i.bytes)) = some (some (.agg #[.string ByteArray.empty, .bool false, .int .i64 0, .slice none 0 0, .slice none 0 0]), 5, 80) := by kernel_rfl
theorem own_below {base : Nat} {w w' : World} (hb : Below w.heap.size w w') {E : TypeId} {b : Nat} (h : Own base w E b) : Own base w' E b ∧ w'.heap[b]? = w.heap[b]? :=
  own_keep (grown_of_below hb none) (fun r hr => by cases hr) h
theorem SRow.ownLater {α : Type} {K : Kind α} {base : Nat} {w w' : World} {v : Value} {xs : List α} (h : SRow K (Own base w) w v xs) (hb : Below w.heap.size w w') : SRow K (Own base w') w' v xs :=
  h.keep fun _ _ _ _ hO => own_below hb hO
theorem SRow.ownBase {α : Type} {K : Kind α} {base base' : Nat} {w : World} {v : Value} {xs : List α} (h : SRow K (Own base w) w v xs) (hb : base' ≤ base) : SRow K (Own base' w) w v xs :=
  h.mono fun _ _ hO => ⟨Nat.le_trans hb hO.1, hO.2⟩
/-- One table more. -/
theorem OSeq.tbl {base : Nat} {W W' : World} {v v' : Value} {xs : List Tbl} {us : List Value} {x : Tbl} {cu ru : Value} {o : Obj} (h : OSeq tblK base W v xs) (hcu : SRow colK (Own base W) W cu x.sch.cols) (hru : SRow rowK (Own base W) W ru x.rows)
    (hst : x.sch.name.size ≤ maxLen ∧ Fit x.sch.many) (hus : (W.alloc o).ownsRow base 37 5 v xs.length us) (hown : W'.ownsRow base 37 5 v' (xs.length + 1) (us ++ [.string x.sch.name, .bool x.sch.pub, .int .i64 x.sch.many, cu, ru]))
    (hg : (W.alloc o).grownBy W' v.ownBlock) : OSeq tblK base W' v' (xs ++ [x]) :=
  (h.later (below_alloc W o)).app2 (by decide) ⟨[.string x.sch.name, .bool x.sch.pub, .int .i64 x.sch.many, cu], ru, rfl, ⟨cu, rfl, hcu.ownLater (below_alloc W o), hst⟩, hru.ownLater (below_alloc W o)⟩ hus hown hg
theorem grow_below {n size m : Nat} {w W W' : World} {e : TypeId} {v : Value} {xs : List Value} (h : Below n w W) (hn : n ≤ W.heap.size) (ho : W.ownsRow n e size v m xs) (hg : W.grownBy W' v.ownBlock) : Below n w W' :=
  ⟨hg.os.trans h.os, hg.tape.trans h.tape, hg.output.trans h.output, Nat.le_trans h.size hg.size, fun k hk => (hg.block k (by omega) fun e => by have := (ho.lt k e.symm).1; omega).trans (h.block k hk)⟩
theorem five_new (w : World) (a b c d e : Value) (E : TypeId) : ∀ (j : Nat) (u : Value), [a, b, c, d, e][j]? = some u → (w.alloc (.cells #[a, b, c, d, e] E)).cell? ((⟨w.heap.size, 0, none⟩ : Addr).add j) = some u
  | 0, u, h => by rw [addr_add0]; exact cell_newk _ _ _ _ _ _ rfl (by simpa using h)
  | 1, u, h => by rw [addr_add0]; exact cell_newk _ _ _ _ _ _ rfl (by simpa using h)
  | 2, u, h => by rw [addr_add0]; exact cell_newk _ _ _ _ _ _ rfl (by simpa using h)
  | 3, u, h => by rw [addr_add0]; exact cell_newk _ _ _ _ _ _ rfl (by simpa using h)
  | 4, u, h => by rw [addr_add0]; exact cell_newk _ _ _ _ _ _ rfl (by simpa using h)
  | j + 5, u, h => by simp at h
set_option maxRecDepth 100000 in
set_option maxHeartbeats 2000000 in
theorem withoutOf_any (C : TypeId → Nat → Prop) (v : Value) (ts : List Tbl) (o : Int) (w : World) (h : SRow tblK C w v ts) (hs : ∀ T ∈ ts, Small T) (hn : ts.length ≤ 1000000) :
    Calls Tryz.prog 33 #[v, .int .i64 o] w fun e w' => ∃ v', e = .returned v' ∧ OSeq tblK w.heap.size w' v' (ts.map fun T => withoutT T o) ∧ Below w.heap.size w w' := by
  obtain ⟨A, ca, rfl, hl, hm, hc⟩ := h.tbls
  unfold maxLen at hm
  have HC := Lib.hid hc
  have HS := Lib.hid hs
  clear hc h hs
  obtain ⟨i0, hi, hz0, hz1, hz2⟩ := info_parts info31
  refine (callsIn_wide (n := 6)).1 ?_
  have h1 : 1 ≤ 6 := by omega
  refine callsIn_of_wp Tryz.func33 rfl trivial ?_ rfl
  simp only [Tryz.ntmps33, List.size_toArray, List.length_cons, List.length_nil, Nat.reduceAdd, Nat.reduceSub, Array.replicate_succ, Array.replicate_zero, List.push_toArray, List.append_toArray, List.nil_append, List.cons_append]
  gi_wp2
  gi_loopw [5, 10] (fun u i wr => ∃ k : Nat, k ≤ ts.length ∧ i = .int .i64 k ∧ OSeq tblK w.heap.size wr u ((ts.take k).map fun T => withoutT T o) ∧ Below w.heap.size w wr) (fun _ i _ => ts.length - (intOf i).toNat)
  case atStart => exact ⟨0, Nat.zero_le _, rfl, OSeq.nil _ _ _, Below.refl _ _⟩
  case round =>
    obtain ⟨k, hk, rfl, hseq, hB⟩ := hrel
    have hlen : ((ts.take k).map fun T => withoutT T o).length = k := by simp; omega
    obtain ⟨Au, cu, e, _, _⟩ := hseq.slice
    rw [hlen] at e
    subst e
    have HQ := Lib.hid hseq
    have HB := Lib.hid hB
    clear hseq hB
    have hi0 : (0 : Int) ≤ (k : Int) := by omega
    by_cases hlt : k < ts.length
    · have hi1 : (k : Int) < (ts.length : Int) := by omega
      obtain ⟨b, of, rfl, hcell⟩ := HC.out (by omega)
      obtain ⟨pu, pv, p0, p1, p2, p3, p4, pr, px, ps⟩ := hcell k hlt
      have pc0 := cell_later HB.out p0
      have pc1 := cell_later HB.out p1
      have pc2 := cell_later HB.out p2
      have pc3 := cell_later HB.out p3
      have pc4 := cell_later HB.out p4
      obtain ⟨pA, pc, rfl, _, _⟩ := pr.slice
      obtain ⟨pB, pd, rfl, _, _⟩ := px.slice
      have HVX := Lib.hid (show TblVal C wr (.agg #[.string ts[k].sch.name, .bool ts[k].sch.pub, .int .i64 ts[k].sch.many, .slice pA ts[k].sch.cols.length pc, .slice pB ts[k].rows.length pd]) ts[k] from ⟨_, _, rfl, pr.below HB.out, px.below HB.out, ps⟩)
      have HSM := Lib.hid (HS.out ts[k] (List.getElem_mem hlt))
      have HTK := Lib.hid (show ((ts.take (k + 1)).map fun T => withoutT T o) = ((ts.take k).map fun T => withoutT T o) ++ [withoutT ts[k] o] by rw [List.take_succ_eq_append_getElem hlt, List.map_append]; rfl)
      have HPS := Lib.hid ps
      have HLEN := Lib.hid hlen
      have HLT := Lib.hid hlt
      clear hcell p0 p1 p2 p3 p4 pr px ps
      generalize ts[k] = T at *
      clear hlt
      have HB2 := Lib.hid (below_alloc wr (.cells #[.string T.sch.name, .bool T.sch.pub, .int .i64 T.sch.many, .slice pA T.sch.cols.length pc, .slice pB T.rows.length pd] 37))
      gi_wp2_with (first
        | (refine ⟨trivial, ?_⟩; gi_at_call 41; refine (callsIn_wide.2 (without_any C _ T o _ (HVX.out.below HB2.out) HSM.out.1 HSM.out.2.1 HSM.out.2.2.1 HSM.out.2.2.2)).mono ?_; rintro e w1 ⟨cu1, ru1, rfl, hcu1, hru1, hb1⟩; obtain ⟨A1, c1, rfl, _, _⟩ := hcu1.slice; obtain ⟨A2, c2, rfl, _, _⟩ := hru1.slice; have hbw := HB2.out.trans (hb1.mono HB2.out.size); have hsz1 := hbw.size; have hsz0 := HB.out.size; obtain ⟨us, hraw⟩ := (HQ.out.later hbw).raw; rw [HLEN.out] at hraw; have HUS := Lib.hid (hraw.alloc (.cells #[.string T.sch.name, .bool T.sch.pub, .int .i64 T.sch.many, .slice A1 T.sch.cols.length c1, .slice A2 (keptR T o).length c2] 37)); have HBW := Lib.hid (HB.out.trans (hbw.mono HB.out.size)); have HBX := Lib.hid hbw; have HCU := Lib.hid (hcu1.row.ownBase (base' := w.heap.size) (by simp; omega)); have HRU := Lib.hid (hru1.row.ownBase (base' := w.heap.size) (by simp; omega)); clear hcu1 hru1 hb1 hbw hraw; have HNW := Lib.hid (five_new w1 (.string T.sch.name) (.bool T.sch.pub) (.int .i64 T.sch.many) (.slice A1 T.sch.cols.length c1) (.slice A2 (keptR T o).length c2) 37))
        | (gi_at_builtin; go_loud (refine wpListIn_append_own _ rfl _ _ 22 rfl w.heap.size 37 i0 _ 5 80 Tryz.underlying22 hi hz0 hz1 hz2 rfl (by decide) _ _ us rfl HUS.out ⟨w1.heap.size, 0, none⟩ 1 1 [.string T.sch.name, .bool T.sch.pub, .int .i64 T.sch.many, .slice A1 T.sch.cols.length c1, .slice A2 (keptR T o).length c2] rfl rfl HNW.out (by simp [Value.oneCell']) (by unfold maxLen; omega) (by omega) (by simp; omega) ?_; intro v1 w6 hown1 hgrow1 _; obtain ⟨Av1, cv1, rfl⟩ := slice_of hown1; have HST := Lib.hid (OSeq.tbl (x := withoutT T o) (HQ.out.later HBX.out) HCU.out HRU.out HPS.out (by rw [HLEN.out]; exact HUS.out) (by rw [HLEN.out]; exact hown1) hgrow1); have HB6 := Lib.hid (grow_below (HBW.out.trans ((below_alloc _ _).mono HBW.out.size)) (by simp; omega) HUS.out hgrow1); clear hown1 hgrow1)))
      go_roundw
      case rel => exact ⟨k + 1, HLT.out, by go_num, by rw [HTK.out]; exact HST.out, HB6.out⟩
      case measure => have := HLT.out; simp [intOf]; omega
    · obtain rfl : k = ts.length := by omega
      have HF := Lib.hid (show OSeq tblK w.heap.size wr (.slice Au ts.length cu) (ts.map fun T => withoutT T o) by
        have := HQ.out
        rwa [List.take_of_length_le (Nat.le_refl _)] at this)
      clear hlt
      gi_wp2
      refine bodyPost_ret (results_tmp rfl _ _ _) rfl ?_
      exact ⟨_, rfl, HF.out, HB.out⟩
end Go.Proofs.YtlocafmglficnaaGreatDoor
