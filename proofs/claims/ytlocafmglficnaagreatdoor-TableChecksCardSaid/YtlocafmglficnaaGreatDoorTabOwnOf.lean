/- The owners of a base: the program's list, and the reference's. -/
import Derived.Test.YtlocafmglficnaaGreatDoorTabRefO
namespace Go.Proofs.YtlocafmglficnaaGreatDoor
open Go.RowKit Go.Maps Go.Sort Go.Shelf

def ownersOf (ts : List Tbl) : List Int := ts.flatMap ownersT
theorem ownersT_le (T : Tbl) : (ownersT T).length ≤ T.rows.length := by unfold ownersT; split <;> simp
set_option maxRecDepth 100000 in
set_option maxHeartbeats 2000000 in
theorem ownersOf_any (C : TypeId → Nat → Prop) (v : Value) (ts : List Tbl) (w : World) (h : SRow tblK C w v ts) (hn : ts.length ≤ 1000) (hr : ∀ T ∈ ts, T.rows.length ≤ 1000) :
    Calls Tryz.prog 32 #[v] w fun e w' => ∃ v', e = .returned v' ∧ OSeq intK w.heap.size w' v' (asc (ownersOf ts)) ∧ Below w.heap.size w w' := by
  obtain ⟨A, ca, rfl, hl, hm, hc⟩ := h.tbls
  unfold maxLen at hm
  have HC := Lib.hid hc
  have HR := Lib.hid hr
  clear hc h hr
  have hmm := @run_makeMap Tryz.prog
  have HMK := Lib.hid (World.ownsMap_made w Tryz.prog 3 (unitElem (H := Unit)))
  have HB0 := Lib.hid (below_alloc w (.map #[] 0))
  have hsz0 : w.heap.size < (w.alloc (.map #[] 0)).heap.size := by simp
  go_enter Tryz.func32, Tryz.ntmps32
  go_wp2
  generalize w.alloc (.map #[] 0) = W0 at *
  go_loopw [9] (fun i wr => ∃ (k : Nat) (D : DataW Unit), k ≤ ts.length ∧ i = .int .i64 k ∧ wr.ownsMap Tryz.prog 3 unitElem w.heap.size (k * 1000) D ∧ SetI D (ownersOf (ts.take k)) ∧ Below w.heap.size w wr) (fun i _ => ts.length - (intOf i).toNat)
  case atStart => exact ⟨0, .map [], Nat.zero_le _, rfl, by simpa using HMK.out, SetI.nil, HB0.out⟩
  case round =>
    obtain ⟨k, D, hk, rfl, hown, hinv, hB⟩ := hrel
    have HI := Lib.hid hinv
    have HB := Lib.hid hB
    have HO := Lib.hid hown
    have hzr : w.heap.size < wr.heap.size := hown.lt
    have hi0 : (0 : Int) ≤ (k : Int) := by omega
    clear hinv hB hown
    by_cases hlt : k < ts.length
    · have hi1 : (k : Int) < (ts.length : Int) := by omega
      obtain ⟨b, of, rfl, hcell⟩ := HC.out (by omega)
      obtain ⟨pu, pv, p0, p1, p2, p3, p4, pr, px, ps⟩ := hcell k hlt
      have pc0 := cell_later HB.out p0
      have pc1 := cell_later HB.out p1
      have pc2 := cell_later HB.out p2
      have pc3 := cell_later HB.out p3
      have pc4 := cell_later HB.out p4
      obtain ⟨pA, pc, rfl, _, _⟩ := pr.slice
      obtain ⟨pB, pd, rfl, _, _⟩ := px.slice
      have HV := Lib.hid (show TblVal C w (.agg #[.string ts[k].sch.name, .bool ts[k].sch.pub, .int .i64 ts[k].sch.many, .slice pA ts[k].sch.cols.length pc, .slice pB ts[k].rows.length pd]) ts[k] from ⟨_, _, rfl, pr, px, ps⟩)
      have HTK := Lib.hid (show ownersOf (ts.take (k + 1)) = ownersOf (ts.take k) ++ ownersT ts[k] by unfold ownersOf; rw [List.take_succ_eq_append_getElem hlt, List.flatMap_append]; simp only [List.flatMap_cons, List.flatMap_nil, List.append_nil])
      have HRN := Lib.hid (HR.out ts[k] (List.getElem_mem hlt))
      have HLT := Lib.hid hlt
      clear hcell p0 p1 p2 p3 p4 pr px ps
      generalize ts[k] = T at *
      clear hlt
      have HO2 := Lib.hid (HO.out.alloc (.cells #[.string T.sch.name, .bool T.sch.pub, .int .i64 T.sch.many, .slice pA T.sch.cols.length pc, .slice pB T.rows.length pd] 37))
      have HB2 := Lib.hid (HB.out.trans ((below_alloc wr (.cells #[.string T.sch.name, .bool T.sch.pub, .int .i64 T.sch.many, .slice pA T.sch.cols.length pc, .slice pB T.rows.length pd] 37)).mono HB.out.size))
      go_wp2_with (go_at_call 56; refine (collect_any C _ T w.heap.size (k * 1000) D _ _ w HV.out HB2.out (Nat.le_refl _) HO2.out HI.out (by have := HRN.out; omega)).mono ?_; rintro e w2 ⟨rfl, D2, hown2, hs2, hg2⟩; have HOW := Lib.hid hown2; have HSE := Lib.hid hs2; have HB3 := Lib.hid (HB2.out.grown hg2 HB2.out.size (fun r hr => (by simp only [Option.some.injEq] at hr; omega))); clear hown2 hs2 hg2)
      go_roundw
      case rel => exact ⟨k + 1, D2, HLT.out, by go_num, HOW.out.mono (by have := HRN.out; omega), by rw [HTK.out]; exact HSE.out, HB3.out⟩
      case measure => have := HLT.out; simp [intOf]; omega
    · obtain rfl : k = ts.length := by omega
      have HS2 := Lib.hid (show SetI D (ownersOf ts) by
        have := HI.out
        rwa [List.take_of_length_le (Nat.le_refl _)] at this)
      clear hlt
      go_wp2_with (first
        | (go_at_call 55; refine (keys_any _ _).mono ?_; rintro e w3 ⟨rfl, rfl⟩)
        | (go_at_call 54; refine (sortedKeys_any w.heap.size _ D _ wr HO.out HS2.out (by omega)).mono ?_; rintro e w4 ⟨v4, rfl, ho4, hb4⟩))
      go_ret
      refine ⟨v4, rfl, ho4.base_le (Nat.le_trans HB.out.size (below_alloc wr _).size), HB.out.trans (((below_alloc wr _).mono HB.out.size).trans (hb4.mono (Nat.le_trans HB.out.size (below_alloc wr _).size)))⟩
end Go.Proofs.YtlocafmglficnaaGreatDoor
