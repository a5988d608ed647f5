/- table.CheckBase. -/
import Derived.Test.YtlocafmglficnaaGreatDoorTabAll
namespace Go.Proofs.YtlocafmglficnaaGreatDoor
open Go.RowKit Go.Maps Go.Sort Go.Shelf

def noT : Tbl := ⟨⟨ByteArray.empty, false, 0, []⟩, []⟩
def tblAt (ts : List Tbl) (i : Nat) : Int × Int × Int := if (tblErr (ts[i]?.getD noT)).1 ≠ 0 then ((tblErr (ts[i]?.getD noT)).1, (i : Int), (tblErr (ts[i]?.getD noT)).2) else (0, -1, -1)
/-- CheckBase. -/
def baseErr (ts : List Tbl) : Int × Int × Int := if (allErr (ts.map fun T => T.sch)).1 ≠ 0 then ((allErr (ts.map fun T => T.sch)).1, (allErr (ts.map fun T => T.sch)).2.1, -1) else firstOf ts.length (tblAt ts)

set_option maxRecDepth 100000 in
set_option maxHeartbeats 4000000 in
theorem checkBase_any (C : TypeId → Nat → Prop) (v : Value) (ts : List Tbl) (w : World) (h : SRow tblK C w v ts) (hs : ∀ T ∈ ts, Small T) (hn : ts.length ≤ 1000000) (hr : Res w) :
    Calls Tryz.prog 16 #[v] w fun e w' => e = .returned (.tuple #[.int .i64 (baseErr ts).1, .int .i64 (baseErr ts).2.1, .int .i64 (baseErr ts).2.2]) ∧ Below w.heap.size w w' := by
  have HV := Lib.hid h
  have HR := Lib.hid hr
  have HSM := Lib.hid hs
  obtain ⟨A, ca, rfl, hl, hm⟩ := h.slice
  unfold maxLen at hm
  clear h hr hs
  refine (callsIn_wide (n := 6)).1 ?_
  have h1 : 1 ≤ 6 := by omega
  refine callsIn_of_wp Tryz.func16 rfl trivial ?_ rfl
  simp only [Tryz.ntmps16, List.size_toArray, List.length_cons, List.length_nil, Nat.reduceAdd, Nat.reduceSub, Array.replicate_succ, Array.replicate_zero, List.push_toArray, List.append_toArray, List.nil_append, List.cons_append]
  obtain ⟨ea, hea⟩ : ∃ ea, allErr (ts.map fun T => T.sch) = ea := ⟨_, rfl⟩
  obtain ⟨a1, a2, a3⟩ := ea
  have HEA := Lib.hid hea
  have HBE := Lib.hid (show baseErr ts = if a1 ≠ 0 then (a1, a2, -1) else firstOf ts.length (tblAt ts) by unfold baseErr; rw [hea])
  clear hea
  have TK1 : True := trivial
  gi_wp2_with (clear TK1; refine ⟨trivial, ?_⟩; gi_at_call 19; refine (callsIn_wide.2 (schemasT_any C _ ts _ HV.out HSM.out hn)).mono ?_; rintro e w1 ⟨v1, rfl, ho, hb⟩; have HO := Lib.hid ho.any; have HB1 := Lib.hid hb; clear ho hb)
  by_cases he : a1 = 0
  · subst he
    have HE := Lib.hid (show baseErr ts = firstOf ts.length (tblAt ts) by rw [HBE.out, if_neg (by simp)])
    have TK2 : True := trivial
    gi_wp2_with (clear TK2; refine ⟨trivial, ?_⟩; gi_at_call 48; refine (callsIn_wide.2 (checkAll_any Any _ _ _ HO.out (HR.out.later HB1.out))).mono ?_; rintro e w2 ⟨rfl, hb⟩; rw [HEA.out]; have HB2 := Lib.hid (HB1.out.trans (hb.mono HB1.out.size)); clear hb)
    gi_loopw [25] (fun i wr => ∃ k : Nat, k ≤ ts.length ∧ i = .int .i64 k ∧ (∀ j, j < k → (tblAt ts j).1 = 0) ∧ Below w.heap.size w wr) (fun i _ => ts.length - (intOf i).toNat)
    case atStart => exact ⟨0, Nat.zero_le _, rfl, fun j hj => by omega, HB2.out⟩
    case round =>
      obtain ⟨k, hk, rfl, hall, hB⟩ := hrel
      have HB := Lib.hid hB
      have HA := Lib.hid hall
      have hi0 : (0 : Int) ≤ (k : Int) := by omega
      by_cases hlt : k < ts.length
      · have hi1 : (k : Int) < (ts.length : Int) := by omega
        obtain ⟨b, of, ca', nm, pb, mn, ⟨A4, l4, d4⟩, ⟨A5, l5, d5⟩, e1, hbl, p0, p1, p2, p3, p4, hval⟩ := tbl_at2 (HV.out.below hB) hlt
        simp only [Value.slice.injEq, true_and] at e1
        obtain ⟨rfl, rfl⟩ := e1
        dsimp only at p3 p4 hval
        have HX := Lib.hid hval
        have HG := Lib.hid (show ts[k]?.getD noT = ts[k] by simp [hlt])
        have HHIT := Lib.hid (fun h1 => firstOf_hit (f := tblAt ts) hlt HA.out h1)
        have HLT := Lib.hid hlt
        have HAT := Lib.hid (show tblAt ts k = if (tblErr ts[k]).1 ≠ 0 then ((tblErr ts[k]).1, (k : Int), (tblErr ts[k]).2) else (0, -1, -1) by unfold tblAt; rw [HG.out]; rfl)
        clear HG hall hval
        generalize ts[k] = T at *
        clear hlt
        have HBX := Lib.hid (below_alloc wr (.cells #[.string nm, .bool pb, .int .i64 mn, .slice A4 l4 d4, .slice A5 l5 d5] 37))
        obtain ⟨es, hes⟩ : ∃ es, tblErr T = es := ⟨_, rfl⟩
        obtain ⟨e1, e2⟩ := es
        rw [hes] at HAT
        have HES := Lib.hid hes
        dsimp only at HAT
        clear hes hB
        have TK3 : True := trivial
        by_cases he : e1 = 0
        · subst he
          have HAK := Lib.hid (show tblAt ts k = (0, -1, -1) by rw [HAT.out, if_neg (by simp)])
          gi_wp2_with (clear TK3; refine ⟨trivial, ?_⟩; gi_at_call 21; go_loud (refine (callsIn_wide.2 (tcheck_any C _ T _ (HX.out.below HBX.out) (HR.out.later (HB.out.trans (HBX.out.mono HB.out.size))))).mono ?_; rintro e w3 ⟨rfl, hb⟩; rw [HES.out]; have HB3 := Lib.hid (HBX.out.trans (hb.mono HBX.out.size)); clear hb))
          go_roundw
          case rel => exact ⟨k + 1, HLT.out, by go_num, fun j hj => by
            rcases Nat.lt_or_ge j k with h | h
            · exact HA.out j h
            · obtain rfl : j = k := by omega
              rw [HAK.out], HB.out.trans (HB3.out.mono HB.out.size)⟩
          case measure => have := HLT.out; simp [intOf]; omega
        · have HAK := Lib.hid (show tblAt ts k = (e1, (k : Int), e2) by rw [HAT.out, if_pos he])
          have he1 : decide (e1 = 0) = false := by simp [he]
          have he2 : (e1 != 0) = true := by simp [he]
          have HNE := Lib.hid he
          gi_wp2_with (clear TK3; refine ⟨trivial, ?_⟩; gi_at_call 21; go_loud (refine (callsIn_wide.2 (tcheck_any C _ T _ (HX.out.below HBX.out) (HR.out.later (HB.out.trans (HBX.out.mono HB.out.size))))).mono ?_; rintro e w3 ⟨rfl, hb⟩; rw [HES.out]; have HB3 := Lib.hid (HBX.out.trans (hb.mono HBX.out.size)); clear hb))
          refine bodyPost_ret (results_tmp3 rfl _ _ _) rfl ?_
          exact ⟨by rw [HE.out, HHIT.out (by rw [HAK.out]; exact HNE.out), HAK.out]; rfl, HB.out.trans (HB3.out.mono HB.out.size)⟩
      · have hi1 : ¬ (k : Int) < (ts.length : Int) := by omega
        obtain rfl : k = ts.length := by omega
        have HF := Lib.hid (firstOf_miss HA.out)
        clear hall hB
        gi_wp2
        refine bodyPost_ret (results_tmp3 rfl _ _ _) rfl ?_
        exact ⟨by rw [HE.out, HF.out]; rfl, HB.out⟩
  · have HE := Lib.hid (show baseErr ts = (a1, a2, -1) by rw [HBE.out, if_pos he])
    have he1 : decide (a1 = 0) = false := by simp [he]
    have he2 : (a1 != 0) = true := by simp [he]
    have TK2 : True := trivial
    gi_wp2_with (clear TK2; refine ⟨trivial, ?_⟩; gi_at_call 48; refine (callsIn_wide.2 (checkAll_any Any _ _ _ HO.out (HR.out.later HB1.out))).mono ?_; rintro e w2 ⟨rfl, hb⟩; rw [HEA.out]; have HB2 := Lib.hid (HB1.out.trans (hb.mono HB1.out.size)); clear hb)
    refine bodyPost_ret (results_tmp3 rfl _ _ _) rfl ?_
    exact ⟨by rw [HE.out]; rfl, HB2.out⟩
end Go.Proofs.YtlocafmglficnaaGreatDoor
