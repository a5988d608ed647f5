/- The reference's round, Floor, Ceil, Sign (printed by mkrround.py). The reference's functions of numbers, as the plain model of chapter 8 speaks of them (printed by mkdref.py). The reference 08: Check, both, find, At, within, Same (printed by mkdref.py). A region that draws its order and only reads and calls what lays blocks of its own: one walk. A long region's order check, reckoned without an array of what has come: quick for the kernel. The reference's Power of natural numbers; odd. Powers that are too great. -/
import Derived.Test.YtigapglmipmbeaaGreatDoorRb14
import Derived.Test.YtigapglmipmbeaaGreatDoorRb10
import Derived.Test.YtigapglmipmbeaaGreatDoorRb08
import Derived.Test.YtigapglmipmbeaaGreatDoorRb11
import Derived.Test.YtigapglmipmbeaaGreatDoorRb01
import Derived.BigQuiet
import Derived.Below
import Derived.Test.YtigapglmipmbeaaGreatDoorRb09
import Derived.Laws.Bits128
namespace Go.Proofs.YtigapglmipmbeaaGreatDoor
open Go.RowKit Go.Shelf
open Lim
set_option maxRecDepth 100000 in
set_option maxHeartbeats 1000000 in
theorem refsign_zero (a : ByteArray) (q : Rat) (w : World) (ha : a.size ≤ 270000) (he : errQ a.data.toList = 0) (hq : valQ a.data.toList = q) (h0 : nm q = 0) :
    Calls Tryz.prog 110 #[.string a] w fun e w' => e = .returned (.tuple #[.int .i64 0, .int .i64 0]) ∧ Below w.heap.size w w' := by
  have HP := Lib.hid (rq_any a w ha)
  have hne : ((errQ a.data.toList : Int) == 0) = true := by rw [he]; rfl
  have HE := Lib.hid he
  rw [hq] at HP
  have HF := Lib.hid (fun (b : Bool) (N : Nat) (h : ng q = b ∧ nm q = N) => show (((toL N).length : Int) == 0) = true ∧ b = b from ⟨by rw [len_zero, ← h.2, decide_eq_true h0], rfl⟩)
  clear h0
  clear he hq
  go_enter Tryz.func110, Tryz.ntmps110
  go_wp2_with (go_at_call 155; refine HP.out.mono ?_; rintro e w1 ⟨v, rfl, hv, -, hb⟩; obtain ⟨bq, N, D, A, c, A', c', rfl, hn, hd, HQ⟩ := isQ_open (hv HE.out); have HB := Lib.hid hb; have HX := Lib.hid (below_alloc (Below.refl w1.heap.size w1) (.cells #[.bool bq, .slice A (toL N).length c, .slice A' (toL D).length c'] 170)); have HBX := Lib.hid (HB.out.trans (HX.out.mono HB.out.size)); have HN := Lib.hid (hn.below HX.out); have HD := Lib.hid (hd.below HX.out); clear hb hv hn hd; obtain ⟨f1, f2⟩ := HF.out _ _ ⟨HQ.out.1, HQ.out.2.1⟩)
  all_goals first
    | (refine bodyPost_ret (results_tmp2 rfl _ _ _) rfl ?_; refine ⟨?_, HBX.out⟩; show Ending.returned (.tuple #[.int .i64 0, .int .i64 (errQ a.data.toList : Int)]) = _; rw [HE.out]; rfl)
    | (exfalso; have := HE.out; omega)
    | (exfalso; simp_all)
set_option maxRecDepth 100000 in
set_option maxHeartbeats 1000000 in
theorem refsign_neg (a : ByteArray) (q : Rat) (w : World) (ha : a.size ≤ 270000) (he : errQ a.data.toList = 0) (hq : valQ a.data.toList = q) (h0 : nm q ≠ 0) (hb : ng q = true) :
    Calls Tryz.prog 110 #[.string a] w fun e w' => e = .returned (.tuple #[.int .i64 (-1), .int .i64 0]) ∧ Below w.heap.size w w' := by
  have HP := Lib.hid (rq_any a w ha)
  have hne : ((errQ a.data.toList : Int) == 0) = true := by rw [he]; rfl
  have HE := Lib.hid he
  rw [hq] at HP
  have HF := Lib.hid (fun (b : Bool) (N : Nat) (h : ng q = b ∧ nm q = N) => show (((toL N).length : Int) == 0) = false ∧ b = true from ⟨by rw [len_zero, ← h.2, decide_eq_false h0], h.1.symm.trans hb⟩)
  clear h0 hb
  clear he hq
  go_enter Tryz.func110, Tryz.ntmps110
  go_wp2_with (go_at_call 155; refine HP.out.mono ?_; rintro e w1 ⟨v, rfl, hv, -, hb⟩; obtain ⟨bq, N, D, A, c, A', c', rfl, hn, hd, HQ⟩ := isQ_open (hv HE.out); have HB := Lib.hid hb; have HX := Lib.hid (below_alloc (Below.refl w1.heap.size w1) (.cells #[.bool bq, .slice A (toL N).length c, .slice A' (toL D).length c'] 170)); have HBX := Lib.hid (HB.out.trans (HX.out.mono HB.out.size)); have HN := Lib.hid (hn.below HX.out); have HD := Lib.hid (hd.below HX.out); clear hb hv hn hd; obtain ⟨f1, f2⟩ := HF.out _ _ ⟨HQ.out.1, HQ.out.2.1⟩; subst f2)
  all_goals first
    | (refine bodyPost_ret (results_tmp2 rfl _ _ _) rfl ?_; exact ⟨rfl, HBX.out⟩)
    | (exfalso; have := beq_eq_false_iff_ne.1 f1; omega)
    | (exfalso; simp_all)
set_option maxRecDepth 100000 in
set_option maxHeartbeats 1000000 in
theorem refsign_pos (a : ByteArray) (q : Rat) (w : World) (ha : a.size ≤ 270000) (he : errQ a.data.toList = 0) (hq : valQ a.data.toList = q) (h0 : nm q ≠ 0) (hb : ng q = false) :
    Calls Tryz.prog 110 #[.string a] w fun e w' => e = .returned (.tuple #[.int .i64 1, .int .i64 0]) ∧ Below w.heap.size w w' := by
  have HP := Lib.hid (rq_any a w ha)
  have hne : ((errQ a.data.toList : Int) == 0) = true := by rw [he]; rfl
  have HE := Lib.hid he
  rw [hq] at HP
  have HF := Lib.hid (fun (b : Bool) (N : Nat) (h : ng q = b ∧ nm q = N) => show (((toL N).length : Int) == 0) = false ∧ b = false from ⟨by rw [len_zero, ← h.2, decide_eq_false h0], h.1.symm.trans hb⟩)
  clear h0 hb
  clear he hq
  go_enter Tryz.func110, Tryz.ntmps110
  go_wp2_with (go_at_call 155; refine HP.out.mono ?_; rintro e w1 ⟨v, rfl, hv, -, hb⟩; obtain ⟨bq, N, D, A, c, A', c', rfl, hn, hd, HQ⟩ := isQ_open (hv HE.out); have HB := Lib.hid hb; have HX := Lib.hid (below_alloc (Below.refl w1.heap.size w1) (.cells #[.bool bq, .slice A (toL N).length c, .slice A' (toL D).length c'] 170)); have HBX := Lib.hid (HB.out.trans (HX.out.mono HB.out.size)); have HN := Lib.hid (hn.below HX.out); have HD := Lib.hid (hd.below HX.out); clear hb hv hn hd; obtain ⟨f1, f2⟩ := HF.out _ _ ⟨HQ.out.1, HQ.out.2.1⟩; subst f2)
  all_goals first
    | (refine bodyPost_ret (results_tmp2 rfl _ _ _) rfl ?_; exact ⟨rfl, HBX.out⟩)
    | (exfalso; have := beq_eq_false_iff_ne.1 f1; omega)
    | (exfalso; simp_all)
set_option maxRecDepth 100000 in
set_option maxHeartbeats 1000000 in
theorem refSign_err (a : ByteArray) (w : World) (ha : a.size ≤ 270000) (he : errQ a.data.toList ≠ 0) :
    Calls Tryz.prog 110 #[.string a] w fun e w' => e = .returned (.tuple #[.int .i64 0, .int .i64 (errQ a.data.toList : Int)]) ∧ Below w.heap.size w w' := by
  have HP := Lib.hid (rq_any a w ha)
  have hne : ((errQ a.data.toList : Int) == 0) = false := by rw [beq_eq_false_iff_ne]; omega
  have HE := Lib.hid he
  clear he
  go_enter Tryz.func110, Tryz.ntmps110
  go_wp2_with ((go_at_call 155; refine HP.out.mono ?_; rintro e w1 ⟨v, rfl, -, hz, hb⟩; obtain rfl := hz HE.out; have HB := Lib.hid hb; clear hb hz))
  all_goals first
    | (refine bodyPost_ret (results_tmp2 rfl _ _ _) rfl ?_; exact ⟨rfl, below_alloc HB.out _⟩)
    | (exfalso; have := HE.out; omega)
    | (exfalso; simp_all)
theorem refSign_any (a : ByteArray) (w : World) (ha : a.size ≤ 270000) :
    Calls Tryz.prog 110 #[.string a] w fun e w' => e = .returned (resI (oneI (fun p => (sgQ p, 0)) a.data.toList)) ∧ Below w.heap.size w w' := by
  unfold oneI
  by_cases he : errQ a.data.toList = 0
  · rw [if_neg (by omega)]
    unfold resI sgQ
    dsimp only
    by_cases h0 : nm (valQ a.data.toList) = 0
    · rw [if_pos h0]
      exact refsign_zero a _ w ha he rfl h0
    · rw [if_neg h0]
      cases hb : ng (valQ a.data.toList) with
      | true => exact refsign_neg a _ w ha he rfl h0 hb
      | false => exact refsign_pos a _ w ha he rfl h0 hb
  · rw [if_pos he]
    exact refSign_err a w ha he
end Go.Proofs.YtigapglmipmbeaaGreatDoor
namespace Go.Proofs.YtigapglmipmbeaaGreatDoor
open Go.RowKit Go.Shelf
open Lim
section
variable {a b : ByteArray} (ha : a.size ≤ 270000) (hb : b.size ≤ 270000)
include ha hb
theorem retRPlX : Ret 59 #[.string a, .string b] (resX (plX a b)) := fun w _ => by
  unfold plX
  rw [← resX_ex (plX_t a b)]
  exact refAdd_any a b w ha hb
theorem retRSubX : Ret 61 #[.string a, .string b] (resX (subX a b)) := fun w _ => by
  unfold subX
  rw [← resX_ex (subX_t a b)]
  exact refSub_any a b w ha hb
theorem retRMulX : Ret 149 #[.string a, .string b] (resX (mulX a b)) := fun w _ => by
  unfold mulX
  rw [← resX_ex (mulX_t a b)]
  exact refMul_any a b w ha hb
theorem retRDivX : Ret 160 #[.string a, .string b] (resX (divX a b)) := fun w _ => by
  unfold divX
  rw [← resX_ex (divX_t a b)]
  exact refDiv_any a b w ha hb
theorem retRMaxX : Ret 57 #[.string a, .string b] (resX (maxX a b)) := fun w _ => by
  rw [← maxX_res]
  exact refMax_any a b w ha hb
end
theorem retRSign {a : ByteArray} (ha : a.size ≤ 270000) : Ret 110 #[.string a] (.tuple #[.int .i64 (if errQ a.data.toList ≠ 0 then 0 else sgQ (valQ a.data.toList)), .int .i64 (errQ a.data.toList : Int)]) := fun w _ => by
  refine (refSign_any a w ha).mono ?_
  rintro e w' ⟨rfl, h⟩
  refine ⟨?_, h⟩
  unfold oneI resI
  split
  · rfl
  · rename_i h0
    rw [show errQ a.data.toList = 0 from Classical.byContradiction h0]
theorem retRSign_err {a : ByteArray} (ha : a.size ≤ 270000) (h : errQ a.data.toList ≠ 0) : Ret 110 #[.string a] (.tuple #[.int .i64 0, .int .i64 (errQ a.data.toList : Int)]) := by
  have := retRSign ha
  rwa [if_pos h] at this
theorem retRSign_ok {a : ByteArray} (ha : a.size ≤ 270000) (h : errQ a.data.toList = 0) : Ret 110 #[.string a] (.tuple #[.int .i64 (sgQ (valQ a.data.toList)), .int .i64 0]) := by
  have := retRSign ha
  rw [if_neg (by simpa using h), h] at this
  exact this
theorem posE_err {p : ByteArray} (h : errQ p.data.toList ≠ 0) : posE p = errQ p.data.toList := if_pos h
end Go.Proofs.YtigapglmipmbeaaGreatDoor
namespace Go.Proofs.YtigapglmipmbeaaGreatDoor
open Go.RowKit Go.Shelf
open Lim
attribute [local go_sem] Oper.semAt_some
set_option maxRecDepth 100000 in
set_option maxHeartbeats 8000000 in
theorem rdcheck_any (ls : List L2) (v : Value) (w : World) (hv : LRow w v ls) (hs : Short ls) (hr : Res w) :
    Calls Tryz.prog 37 #[v] w fun e w' => e = .returned (.int .i64 (chkD ls : Int)) ∧ Below w.heap.size w w' := by
  have HV := Lib.hid hv
  obtain ⟨A, c, rfl, hlen, hcells⟩ := hv
  have HS := Lib.hid hs
  have H0 := Lib.hid (NW.refl hr)
  clear hr hcells hs
  go_enter Tryz.func37, Tryz.ntmps37
  go_wp2
  go_loopw [3] (fun v3 wr => ∃ k : Nat, k ≤ ls.length ∧ v3 = .int .i64 (k : Int) ∧ Hid (chkL none ls = chkL (keyAt ls k) (ls.drop k)) ∧ Hid (NW w wr)) (fun v3 _ => ls.length - (intOf v3).toNat)
  case atStart => exact ⟨0, Nat.zero_le _, rfl, Lib.hid (by simp [keyAt]), H0⟩
  case round =>
    clear H0
    obtain ⟨k, hk, rfl, HE, HN⟩ := hrel
    by_cases hlt : k < ls.length
    · obtain ⟨x, hx⟩ : ∃ x, ls[k]? = some x := ⟨_, List.getElem?_eq_getElem hlt⟩
      obtain ⟨b, o, c', e', hb2, c0, c1⟩ := HV.out.at HN.out.below hx
      simp only [Value.slice.injEq, true_and] at e'
      obtain ⟨rfl, rfl⟩ := e'
      have hlt' : (k : Int) < (ls.length : Int) := by omega
      have hsx := (HS.out x (List.mem_of_getElem? hx)).2
      have HD := Lib.hid (drop_of hx)
      have HLT := Lib.hid (And.intro hlt hlt')
      have HXK := Lib.hid hx
      obtain ⟨f, d⟩ := x
      dsimp only at c0 c1 HD HXK hsx
      clear hx hlt
      by_cases h0 : errQ d.data.toList = 0
      · have HSG := Lib.hid (retRSign_ok hsx h0)
        by_cases h2 : 0 < valQ d.data.toList
        · have d1 : decide (sgQ (valQ d.data.toList) ≤ 0) = false := decide_eq_false (fun h => by have := (sg_gt _).2 h2; omega)
          have h1 : posE d = 0 := posE_zero.2 ⟨h0, by grind⟩
          have HH := Lib.hid (And.intro h1 h2)
          clear h0 h1 h2 hsx
          generalize sgQ (valQ d.data.toList) = sg at *
          rcases Nat.eq_zero_or_pos k with hk0 | hk0
          · have HR := Lib.hid (show chkL none ls = chkL (keyAt ls (k + 1)) (ls.drop (k + 1)) by
              rw [HE.out, HD.out, keyAt_succ HXK.out, hk0]
              exact chkL_go (x := (f, d)) HH.out.1 HH.out.2 rfl)
            have d0 : decide (0 < (k : Int)) = false := decide_eq_false (by omega)
            have d0n : decide (0 < k) = false := decide_eq_false (by omega)
            clear hk0
            go_wp2_with (go_at_call 110; refine (HSG.out _ HN.out.res).mono ?_; rintro e w3 ⟨rfl, hb⟩; have H3 := Lib.hid (HN.out.later hb); have hb3 := Nat.lt_of_lt_of_le hb2 hb.size; clear hb)
            go_quiet (fail)
            have H4 := Lib.hid (fun n => H3.out.drewN n)
            go_wp2
            go_roundw
            case rel => exact ⟨k + 1, HLT.out.1, by go_num, HR, H4.out _⟩
            case measure => have := HLT.out.1; simp [intOf]; omega
          · obtain ⟨j, hj⟩ : ∃ j, k = j + 1 := ⟨k - 1, by omega⟩
            have hjl : (j : Int) < (ls.length : Int) := by have := HLT.out.1; omega
            obtain ⟨y, hy⟩ : ∃ y, ls[j]? = some y := ⟨_, List.getElem?_eq_getElem (by omega)⟩
            have e1 : (k : Int) - 1 = (j : Int) := by omega
            have d0 : decide (0 < (k : Int)) = true := decide_eq_true (by omega)
            have d0n : decide (0 < k) = true := decide_eq_true (by omega)
            have HKJ := Lib.hid hj
            clear hk0 hj
            have HYK := Lib.hid hy
            cases h3 : ltK y.1 f with
            | true =>
              have HR := Lib.hid (show chkL none ls = chkL (keyAt ls (k + 1)) (ls.drop (k + 1)) by
                rw [HE.out, HD.out, keyAt_succ HXK.out, HKJ.out, keyAt_succ hy]
                exact chkL_go (x := (f, d)) HH.out.1 HH.out.2 (by show (!ltK y.1 f) = false; rw [h3]; rfl))
              have TL := lt_bytes y.1 f
              rw [h3] at TL
              clear h3 hy
              go_wp2_with (go_at_call 110; refine (HSG.out _ HN.out.res).mono ?_; rintro e w3 ⟨rfl, hb⟩; have H3 := Lib.hid (HN.out.later hb); have hb3 := Nat.lt_of_lt_of_le hb2 hb.size; obtain ⟨hb4, q0, q1⟩ := HV.out.cell2 H3.out.below HXK.out; obtain ⟨hb5, p0, p1⟩ := HV.out.cell2 H3.out.below HYK.out; clear hb)
              go_quiet (fail)
              have H4 := Lib.hid (fun n => H3.out.drewN n)
              go_wp2
              go_roundw
              case rel => exact ⟨k + 1, HLT.out.1, by go_num, HR, H4.out _⟩
              case measure => have := HLT.out.1; simp [intOf]; omega
            | false =>
              have HR := Lib.hid (show chkL none ls = 9 by
                rw [HE.out, HD.out, HKJ.out, keyAt_succ hy]
                exact chkL_ord (x := (f, d)) HH.out.1 HH.out.2 (by show (!ltK y.1 f) = true; rw [h3]; rfl))
              have TL := lt_bytes y.1 f
              rw [h3] at TL
              clear h3 hy
              go_wp2_with (go_at_call 110; refine (HSG.out _ HN.out.res).mono ?_; rintro e w3 ⟨rfl, hb⟩; have H3 := Lib.hid (HN.out.later hb); have hb3 := Nat.lt_of_lt_of_le hb2 hb.size; obtain ⟨hb4, q0, q1⟩ := HV.out.cell2 H3.out.below HXK.out; obtain ⟨hb5, p0, p1⟩ := HV.out.cell2 H3.out.below HYK.out; clear hb)
              go_quiet (fail)
              have H4 := Lib.hid (fun n => H3.out.drewN n)
              go_wp2
              go_ret
              refine ⟨?_, (H4.out _).below⟩
              unfold chkD
              rw [HR.out]
              rfl
        · have d1 : decide (sgQ (valQ d.data.toList) ≤ 0) = true := decide_eq_true (Classical.byContradiction fun h => h2 ((sg_gt _).1 (by omega)))
          have HR := Lib.hid (show chkL none ls = 2 by
            rw [HE.out, HD.out]
            by_cases h1 : posE d = 0
            · exact chkL_low (x := (f, d)) h1 h2
            · rw [chkL_err (x := (f, d)) h1]
              show posE d = 2
              unfold posE at h1 ⊢
              rw [if_neg (by simpa using h0)] at h1 ⊢
              split
              · rfl
              · rename_i h4; rw [if_neg h4] at h1; exact absurd rfl h1)
          generalize sgQ (valQ d.data.toList) = sg at *
          clear h0 h2 hsx
          go_wp2_with (go_at_call 110; refine (HSG.out _ HN.out.res).mono ?_; rintro e w3 ⟨rfl, hb⟩; have H3 := Lib.hid (HN.out.later hb); have hb3 := Nat.lt_of_lt_of_le hb2 hb.size; clear hb)
          go_ret
          refine ⟨?_, H3.out.below⟩
          unfold chkD
          rw [HR.out]
          rfl
      · have HSG := Lib.hid (retRSign_err hsx h0)
        have HR := Lib.hid (show chkL none ls = errQ d.data.toList ∧ chkL none ls ≠ 0 by
          rw [HE.out, HD.out, chkL_err (x := (f, d)) (by show posE d ≠ 0; rw [posE_err h0]; exact h0)]
          show posE d = _ ∧ posE d ≠ 0
          rw [posE_err h0]
          exact ⟨rfl, h0⟩)
        have hm := ne_zero h0
        clear h0 hsx
        go_wp2_with (go_at_call 110; refine (HSG.out _ HN.out.res).mono ?_; rintro e w3 ⟨rfl, hb⟩; have H3 := Lib.hid (HN.out.later hb); have hb3 := Nat.lt_of_lt_of_le hb2 hb.size; clear hb)
        go_ret
        refine ⟨?_, H3.out.below⟩
        unfold chkD
        rw [if_pos HR.out.2, HR.out.1]
        rfl
    · have hlt' : ¬ (k : Int) < (ls.length : Int) := by omega
      obtain rfl : k = ls.length := by omega
      have h0 : chkL none ls = 0 := by
        have := HE.out
        rw [List.drop_length] at this
        exact this
      have HQ := Lib.hid (show chkD ls = chkS (foldX (fun x : L2 => .ok x.2) zT ls) by unfold chkD; rw [h0]; rfl)
      have HER := Lib.hid (errs_of h0)
      clear h0 hlt hk HE
      go_wp2
      go_loopw [6, 8] (fun v6 v8 wq => ∃ (k : Nat) (s : ByteArray), k ≤ ls.length ∧ v8 = .int .i64 (k : Int) ∧ v6 = .string s ∧ Hid (errQ s.data.toList = 0 ∧ foldX (fun x : L2 => (.ok x.2 : XE)) zT ls = foldX (fun x : L2 => .ok x.2) s (ls.drop k)) ∧ Hid (NW w wq)) (fun _ v8 _ => ls.length - (intOf v8).toNat)
      case atStart => exact ⟨0, zT, Nat.zero_le _, rfl, rfl, Lib.hid ⟨err_zT, by simp⟩, HN⟩
      case round =>
        clear HN hlt'
        obtain ⟨k, s, hk, rfl, rfl, HE, HN⟩ := hrel
        by_cases hlt : k < ls.length
        · obtain ⟨x, hx⟩ : ∃ x, ls[k]? = some x := ⟨_, List.getElem?_eq_getElem hlt⟩
          obtain ⟨b, o, c', e', hb2, c0, c1⟩ := HV.out.at HN.out.below hx
          simp only [Value.slice.injEq, true_and] at e'
          obtain ⟨rfl, rfl⟩ := e'
          have hlt' : (k : Int) < (ls.length : Int) := by omega
          have HD := Lib.hid (drop_of hx)
          have HLT := Lib.hid (And.intro hlt hlt')
          have HA := Lib.hid (retRPlX (size_ok HE.out.1) (HS.out x (List.mem_of_getElem? hx)).2)
          obtain ⟨f, d⟩ := x
          dsimp only at c0 c1 HD HA
          clear hx hlt
          cases ha : plX s d with
          | error n =>
            have HR := Lib.hid (show foldX (fun x : L2 => (.ok x.2 : XE)) zT ls = .error n by rw [HE.out.2, HD.out]; exact foldX_err2 rfl ha)
            have hm := ne_zero (exQ_err ha)
            rw [ha] at HA
            change Hid (Ret _ _ (.tuple #[.string ⟨#[]⟩, .int .i64 (n : Int)])) at HA
            clear ha
            go_wp2_with (go_at_call 59; refine (HA.out _ HN.out.res).mono ?_; rintro e w3 ⟨rfl, hb⟩; have H3 := Lib.hid (HN.out.later hb); clear hb)
            go_ret
            rw [HQ.out, HR.out]
            exact ⟨rfl, H3.out.below⟩
          | ok t =>
            have HR := Lib.hid (show errQ t.data.toList = 0 ∧ foldX (fun x : L2 => (.ok x.2 : XE)) zT ls = foldX (fun x : L2 => .ok x.2) t (ls.drop (k + 1)) from ⟨plX_ok ha, by rw [HE.out.2, HD.out]; exact foldX_ok rfl ha⟩)
            rw [ha] at HA
            change Hid (Ret _ _ (.tuple #[.string t, .int .i64 0])) at HA
            clear ha
            go_wp2_with (go_at_call 59; refine (HA.out _ HN.out.res).mono ?_; rintro e w3 ⟨rfl, hb⟩; have H3 := Lib.hid (HN.out.later hb); clear hb)
            go_roundw
            case rel => exact ⟨k + 1, t, HLT.out.1, by go_num, rfl, HR, H3⟩
            case measure => have := HLT.out.1; simp [intOf]; omega
        · have hlt' : ¬ (k : Int) < (ls.length : Int) := by omega
          obtain rfl : k = ls.length := by omega
          have HR := Lib.hid (show foldX (fun x : L2 => (.ok x.2 : XE)) zT ls = .ok s by
            have := HE.out.2
            rwa [List.drop_length] at this)
          have TE := eq_bytes s oT
          rw [oT_list] at TE
          rw [HR.out, chkS_ok] at HQ
          clear hlt
          by_cases h1 : s = oT
          · rw [decide_eq_true h1] at TE
            rw [if_pos h1] at HQ
            clear h1
            go_wp2
            go_ret
            rw [HQ.out]
            exact ⟨rfl, HN.out.below⟩
          · rw [decide_eq_false h1] at TE
            rw [if_neg h1] at HQ
            clear h1
            go_wp2
            go_ret
            rw [HQ.out]
            exact ⟨rfl, HN.out.below⟩
set_option maxRecDepth 100000 in
theorem rdboth_any (p q : List L2) (vp vq : Value) (w : World) (hp : LRow w vp p) (hq : LRow w vq q) (sp : Short p) (sq : Short q) (hr : Res w) :
    Calls Tryz.prog 114 #[vp, vq] w fun e w' => e = .returned (.int .i64 (chk2 p q : Int)) ∧ Below w.heap.size w w' := by
  have N0 := Lib.hid (NW.refl hr)
  have TKA : True := trivial
  have HP := Lib.hid (rdcheck_any p vp w hp sp hr)
  have HQ := Lib.hid (fun W (hW : NW w W) => rdcheck_any q vq W (hq.below hW.below) sq hW.res)
  clear hp hq sp sq hr
  by_cases h0 : chkD p = 0
  · have HR := Lib.hid (show chk2 p q = chkD q from if_neg (by simpa using h0))
    rw [h0] at HP
    change Hid (Calls _ _ _ _ fun e w' => e = .returned (.int .i64 0) ∧ _) at HP
    clear h0
    go_enter Tryz.func114, Tryz.ntmps114
    go_wp2_with (first
      | (clear TKA; go_at_call 37; refine HP.out.mono ?_; rintro e w1 ⟨rfl, hb⟩; have N1 := Lib.hid (N0.out.later hb); clear hb)
      | (go_at_call 37; refine (HQ.out _ N1.out).mono ?_; rintro e w2 ⟨rfl, hb⟩; have N2 := Lib.hid (N1.out.later hb); clear hb))
    go_ret
    rw [HR.out]
    exact ⟨rfl, N2.out.below⟩
  · have HR := Lib.hid (show chk2 p q = chkD p from if_pos h0)
    have hm := ne_zero h0
    clear h0
    go_enter Tryz.func114, Tryz.ntmps114
    go_wp2_with (clear TKA; go_at_call 37; refine HP.out.mono ?_; rintro e w1 ⟨rfl, hb⟩; have N1 := Lib.hid (N0.out.later hb); clear hb)
    go_ret
    rw [HR.out]
    exact ⟨rfl, N1.out.below⟩
theorem atT_hit {x : L2} {l : List L2} {k : ByteArray} (h : x.1 = k) : atT (x :: l) k = x.2 ∧ hasT (x :: l) k = true := by unfold atT hasT; rw [if_pos h, if_pos h]; exact ⟨rfl, rfl⟩
theorem atT_miss {x : L2} {l : List L2} {k : ByteArray} (h : x.1 ≠ k) : atT (x :: l) k = atT l k ∧ hasT (x :: l) k = hasT l k := by
  constructor
  · conv => lhs; unfold atT
    rw [if_neg h]
  · conv => lhs; unfold hasT
    rw [if_neg h]
set_option maxRecDepth 100000 in
set_option maxHeartbeats 2000000 in
theorem rdfind_any (ls : List L2) (v : Value) (key : ByteArray) (w : World) (hv : LRow w v ls) :
    Calls Tryz.prog 126 #[v, .string key] w fun e w' => e = .returned (.tuple #[.string (atT ls key), .bool (hasT ls key)]) ∧ w' = w := by
  have HV := Lib.hid hv
  obtain ⟨A, c, rfl, hlen, hcells⟩ := hv
  clear hcells
  go_enter Tryz.func126, Tryz.ntmps126
  go_wp2
  go_loopw [6] (fun v6 wr => ∃ k : Nat, k ≤ ls.length ∧ v6 = .int .i64 (k : Int) ∧ Hid (atT ls key = atT (ls.drop k) key ∧ hasT ls key = hasT (ls.drop k) key) ∧ wr = w) (fun v6 _ => ls.length - (intOf v6).toNat)
  case atStart => exact ⟨0, Nat.zero_le _, rfl, Lib.hid (by simp), rfl⟩
  case round =>
    obtain ⟨k, hk, rfl, HE, rfl⟩ := hrel
    by_cases hlt : k < ls.length
    · obtain ⟨x, hx⟩ : ∃ x, ls[k]? = some x := ⟨_, List.getElem?_eq_getElem hlt⟩
      obtain ⟨b, o, c', e', hb2, c0, c1⟩ := HV.out.at (Below.refl _ _) hx
      simp only [Value.slice.injEq, true_and] at e'
      obtain ⟨rfl, rfl⟩ := e'
      have hlt' : (k : Int) < (ls.length : Int) := by omega
      have HD := Lib.hid (drop_of hx)
      have HLT := Lib.hid (And.intro hlt hlt')
      obtain ⟨f, d⟩ := x
      dsimp only at c0 c1 HD
      have TE := eq_bytes f key
      clear hx hlt
      by_cases h1 : f = key
      · rw [decide_eq_true h1] at TE
        have HR := Lib.hid (show atT ls key = d ∧ hasT ls key = true by rw [HE.out.1, HE.out.2, HD.out]; exact atT_hit h1)
        clear h1
        go_wp2
        go_ret2
        rw [HR.out.1, HR.out.2]
        exact ⟨rfl, rfl⟩
      · rw [decide_eq_false h1] at TE
        have HR := Lib.hid (show atT ls key = atT (ls.drop (k + 1)) key ∧ hasT ls key = hasT (ls.drop (k + 1)) key by rw [HE.out.1, HE.out.2, HD.out]; exact atT_miss h1)
        clear h1
        go_wp2
        go_roundw
        case rel => exact ⟨k + 1, HLT.out.1, by go_num, HR, trivial⟩
        case measure => have := HLT.out.1; simp [intOf]; omega
    · have hlt' : ¬ (k : Int) < (ls.length : Int) := by omega
      obtain rfl : k = ls.length := by omega
      have HR := Lib.hid (show atT ls key = zT ∧ hasT ls key = false by
        have := HE.out
        rw [List.drop_length] at this
        exact this)
      clear hlt
      go_wp2
      go_ret2
      rw [HR.out.1, HR.out.2]
      exact ⟨rfl, rfl⟩
set_option maxRecDepth 100000 in
theorem rdAt_any (ls : List L2) (v : Value) (key : ByteArray) (w : World) (hv : LRow w v ls) :
    Calls Tryz.prog 39 #[v, .string key] w fun e w' => e = .returned (.string (atT ls key)) ∧ w' = w := by
  have HF := Lib.hid (rdfind_any ls v key w hv)
  clear hv
  go_enter Tryz.func39, Tryz.ntmps39
  go_wp2_with (go_at_call 126; refine HF.out.mono ?_; rintro e w1 ⟨rfl, rfl⟩)
  go_ret
  exact ⟨rfl, rfl⟩
theorem inX_hit {x : L2} {l q : List L2} (h : hasT q x.1 = true) : inX (x :: l) q = inX l q := by
  conv => lhs; unfold inX
  rw [if_pos h]
theorem inX_miss {x : L2} {l q : List L2} (h : hasT q x.1 = false) : inX (x :: l) q = false := by
  unfold inX
  rw [if_neg (by rw [h]; decide)]
set_option maxRecDepth 100000 in
set_option maxHeartbeats 2000000 in
theorem rdwithin_any (p q : List L2) (vp vq : Value) (w : World) (hp : LRow w vp p) (hq : LRow w vq q) :
    Calls Tryz.prog 159 #[vp, vq] w fun e w' => e = .returned (.bool (inX p q)) ∧ w' = w := by
  have HV := Lib.hid hp
  have HF := Lib.hid (fun k => rdfind_any q vq k w hq)
  obtain ⟨A, c, rfl, hlen, hcells⟩ := hp
  clear hcells hq
  go_enter Tryz.func159, Tryz.ntmps159
  go_wp2
  go_loopw [5] (fun v5 wr => ∃ k : Nat, k ≤ p.length ∧ v5 = .int .i64 (k : Int) ∧ Hid (inX p q = inX (p.drop k) q) ∧ wr = w) (fun v5 _ => p.length - (intOf v5).toNat)
  case atStart => exact ⟨0, Nat.zero_le _, rfl, Lib.hid (by simp), rfl⟩
  case round =>
    obtain ⟨k, hk, rfl, HE, rfl⟩ := hrel
    by_cases hlt : k < p.length
    · obtain ⟨x, hx⟩ : ∃ x, p[k]? = some x := ⟨_, List.getElem?_eq_getElem hlt⟩
      obtain ⟨b, o, c', e', hb2, c0, c1⟩ := HV.out.at (Below.refl _ _) hx
      simp only [Value.slice.injEq, true_and] at e'
      obtain ⟨rfl, rfl⟩ := e'
      have hlt' : (k : Int) < (p.length : Int) := by omega
      have HD := Lib.hid (drop_of hx)
      have HLT := Lib.hid (And.intro hlt hlt')
      obtain ⟨f, d⟩ := x
      dsimp only at c0 c1 HD
      have HFK := Lib.hid (HF.out f)
      clear hx hlt
      cases h1 : hasT q f with
      | true =>
        have HR := Lib.hid (show inX p q = inX (p.drop (k + 1)) q by rw [HE.out, HD.out]; exact inX_hit h1)
        rw [h1] at HFK
        clear h1
        go_wp2_with (go_at_call 126; refine HFK.out.mono ?_; rintro e w1 ⟨rfl, rfl⟩)
        go_roundw
        case rel => exact ⟨k + 1, HLT.out.1, by go_num, HR, trivial⟩
        case measure => have := HLT.out.1; simp [intOf]; omega
      | false =>
        have HR := Lib.hid (show inX p q = false by rw [HE.out, HD.out]; exact inX_miss h1)
        rw [h1] at HFK
        clear h1
        go_wp2_with (go_at_call 126; refine HFK.out.mono ?_; rintro e w1 ⟨rfl, rfl⟩)
        go_ret
        rw [HR.out]
        exact ⟨rfl, rfl⟩
    · have hlt' : ¬ (k : Int) < (p.length : Int) := by omega
      obtain rfl : k = p.length := by omega
      have HR := Lib.hid (show inX p q = true by
        have := HE.out
        rw [List.drop_length] at this
        exact this)
      clear hlt
      go_wp2
      go_ret
      rw [HR.out]
      exact ⟨rfl, rfl⟩
end Go.Proofs.YtigapglmipmbeaaGreatDoor
namespace Go.Proofs.YtigapglmipmbeaaGreatDoor
open Go.RowKit
structure LaterW (w : World) where
  W : World
  h : Below w.heap.size w W
instance (w : World) : Nonempty (LaterW w) := ⟨⟨w, Below.refl _ _⟩⟩
theorem wp_region_later {P : Program} {id : Nat} {Q : Exit → Act → World → Prop} {a : Act} {w : World} {l : List Oper} (hm : P.follows .mixedOrders = true) (hB : Region.lexB .any l.toArray = true)
    (h : wpQuiet P l.toArray (fun W => ∃ x : LaterW w, W = x.W) (fun a' => ∀ W, (∃ x : LaterW w, W = x.W) → Q .normal a' W) l a) : (Code.region id l.toArray true).wp P Q a w :=
  wp_region_quiet (C := fun W => ∃ x : LaterW w, W = x.W) hm hB ⟨⟨{ w with drawn := w.drawn + 1 }, ⟨rfl, rfl, rfl, Nat.le_refl _, fun _ _ => rfl⟩⟩, rfl⟩ (by simpa using h)
end Go.Proofs.YtigapglmipmbeaaGreatDoor
namespace Go.Proofs.YtigapglmipmbeaaGreatDoor
open Go.RowKit
def fastFree (md : Region.Mode) (ops : Array Oper) (k : Nat) (o : Oper) (l : List Oper) : Bool :=
  l.all fun y => y.after.any (fun e => Region.binds md e && e.on == k) || o.apart ops y
def fastLex (md : Region.Mode) (ops : Array Oper) : Nat → List Oper → Bool
  | _, [] => true
  | k, o :: l => (o.after.all fun e => !Region.binds md e || decide (e.on < k)) && fastFree md ops k o l && fastLex md ops (k + 1) l
theorem fast_from {md : Region.Mode} {ops : Array Oper} : ∀ (l : List Oper) (k : Nat) (L : Array Bool), fastLex md ops k l = true → (∀ j, l[j]? = ops[k + j]?) → ops.size = k + l.length →
    (∀ i, i < ops.size → L[i]? = some (decide (i < k))) → Region.lexFrom md ops l.length k L = true
  | [], k, L, _, _, hs, hL => by
    have hall : ∀ i ∈ List.range ops.size, ¬ (!L.getD i true && ((ops[i]?).map (·.after.all fun e => !Region.binds md e || L.getD e.on false)).getD false) = true := fun i hi => by
      have hi := List.mem_range.1 hi
      have hk : i < k := by simpa using (show i < k + ([] : List Oper).length from hs ▸ hi)
      have h1 : L.getD i true = true := by rw [Array.getD_eq_getD_getElem?, hL i hi, decide_eq_true hk]; rfl
      rw [h1]; simp
    show (Region.ready md ops L).isEmpty = true
    unfold Region.ready
    rw [List.isEmpty_iff, List.filter_eq_nil_iff]
    exact hall
  | o :: l, k, L, h, hl, hs, hL => by
    unfold fastLex at h
    simp only [Bool.and_eq_true] at h
    obtain ⟨⟨h1, h2⟩, h3⟩ := h
    have h0 : ops[k]? = some o := by simpa using (hl 0).symm
    have hk : k < ops.size := by rw [hs, List.length_cons]; omega
    have get : ∀ i d, i < ops.size → L.getD i d = decide (i < k) := fun i d hi => by rw [Array.getD_eq_getD_getElem?, hL i hi]; rfl
    have hLs : ops.size ≤ L.size := by
      rcases Nat.lt_or_ge L.size ops.size with h | h
      · have := hL L.size h
        rw [Array.getElem?_eq_none (Nat.le_refl _)] at this
        cases this
      · exact h
    show ((Region.ready md ops L).contains k && Region.free md ops L k && Region.lexFrom md ops l.length (k + 1) (L.setIfInBounds k true)) = true
    simp only [Bool.and_eq_true]
    refine ⟨⟨?_, ?_⟩, fast_from l (k + 1) _ h3 (fun j => ?_) (by rw [hs, List.length_cons]; omega) (fun i hi => ?_)⟩
    · rw [List.contains_iff_mem, mem_ready]
      refine ⟨by rw [get k true hk]; exact decide_eq_false (by omega), o, h0, fun e he hb => ?_⟩
      have := Array.all_eq_true'.1 h1 e he
      rw [hb] at this
      have hlt : e.on < k := by simpa using this
      rw [get e.on false (by omega)]
      exact decide_eq_true hlt
    · unfold Region.free
      rw [h0]
      simp only [List.all_eq_true, List.mem_range]
      intro j hj
      by_cases hjk : j = k
      · subst hjk; simp
      · rcases Nat.lt_or_ge j k with hlt | hge
        · rw [get j true hj, decide_eq_true hlt]; simp
        · have hy : l[j - (k + 1)]? = ops[j]? := by
            have := hl (j - (k + 1) + 1)
            rw [List.getElem?_cons_succ] at this
            rw [this]
            congr 1
            omega
          rw [← hy]
          cases hc : l[j - (k + 1)]? with
          | none => simp
          | some y =>
            have := List.all_eq_true.1 h2 y (List.mem_of_getElem? hc)
            simp only [this, Bool.or_true]
    · have := hl (j + 1)
      rw [List.getElem?_cons_succ] at this
      rw [this]
      congr 1
      omega
    · by_cases e : k = i
      · subst e
        rw [Array.getElem?_setIfInBounds_self_of_lt (by omega), decide_eq_true (by omega)]
      · rw [Array.getElem?_setIfInBounds_ne e, hL i hi]
        congr 1
        by_cases h : i < k
        · rw [decide_eq_true h, decide_eq_true (by omega)]
        · rw [decide_eq_false h, decide_eq_false (by omega)]
theorem lexB_fast {md : Region.Mode} {l : List Oper} (hn : Region.noSelect l.toArray = true) (h : fastLex md l.toArray 0 l = true) : Region.lexB md l.toArray = true := by
  unfold Region.lexB
  rw [hn, Bool.true_and, List.size_toArray]
  exact fast_from l 0 _ h (fun j => by simp) (by simp) (fun i hi => by
    have hi' : i < l.length := by simpa using hi
    rw [Array.getElem?_replicate, if_pos hi']
    rfl)
theorem wp_region_fast {P : Program} {id : Nat} {Q : Exit → Act → World → Prop} {a : Act} {w : World} {l : List Oper} (hm : P.follows .mixedOrders = true) (hn : Region.noSelect l.toArray = true) (hB : fastLex .any l.toArray 0 l = true)
    (h : wpQuiet P l.toArray (fun W => ∃ x : LaterW w, W = x.W) (fun a' => ∀ W, (∃ x : LaterW w, W = x.W) → Q .normal a' W) l a) : (Code.region id l.toArray true).wp P Q a w :=
  wp_region_later hm (lexB_fast hn hB) h
end Go.Proofs.YtigapglmipmbeaaGreatDoor
namespace Go.Proofs.YtigapglmipmbeaaGreatDoor
open Go.RowKit Go.Shelf
open Lim
theorem half_step (n k : Nat) : n / 2 ^ k = 2 * (n / 2 ^ (k + 1)) + n / 2 ^ k % 2 := by
  rw [Nat.pow_succ, ← Nat.div_div_eq_div_mul]; omega
theorem pow_half (x n k : Nat) : x ^ (n / 2 ^ k) = if n / 2 ^ k % 2 = 1 then x ^ (n / 2 ^ (k + 1)) * x ^ (n / 2 ^ (k + 1)) * x else x ^ (n / 2 ^ (k + 1)) * x ^ (n / 2 ^ (k + 1)) := by
  conv => lhs; rw [half_step n k]
  by_cases h : n / 2 ^ k % 2 = 1
  · rw [if_pos h, h, Nat.pow_succ, Nat.two_mul, Nat.pow_add]
  · have h0 : n / 2 ^ k % 2 = 0 := by omega
    rw [if_neg h, h0, Nat.add_zero, Nat.two_mul, Nat.pow_add]
theorem nd_pow_mono {x m n : Nat} (hx : 1 ≤ x) (h : m ≤ n) : Lib.nDigits (x ^ m) ≤ Lib.nDigits (x ^ n) := nDigits_mono (Nat.pow_le_pow_right hx h)
theorem nd_limbs {x : Nat} (h : Lib.nDigits x ≤ 4000) : (toL x).length ≤ 445 := limbs_of_nd h (by omega)
theorem i64_and1 (n : Int) : bits .and .i64 n 1 = n % 2 := by
  have h1 : (BitVec.ofInt 64 1).toNat = 2 ^ 1 - 1 := by decide
  have key : (BitVec.ofInt 64 n &&& BitVec.ofInt 64 1).toNat = (n % ((2 ^ 64 : Nat) : Int)).toNat % 2 ^ 1 := by
    rw [BitVec.toNat_and, BitVec.toNat_ofInt, h1, Nat.and_two_pow_sub_one_eq_mod]
  show IntKind.i64.wrap ((BitVec.ofInt 64 n &&& BitVec.ofInt 64 1).toNat : Nat) = n % 2
  rw [key, IntKind.wrap_i64]
  omega
theorem bit_and (n k : Nat) : bits .and .i64 ((n : Int) / 2 ^ k) 1 = ((n / 2 ^ k % 2 : Nat) : Int) := by
  rw [i64_and1]
  simp
set_option maxRecDepth 100000 in
theorem odd_any (n : Int) (w : World) (_h0 : -9223372036854775808 ≤ n) (_h1 : n ≤ 9223372036854775807) :
    Calls Tryz.prog 271 #[.int .i64 n] w fun e w' => e = .returned (.bool (decide (n.natAbs % 2 = 1))) ∧ w' = w := by
  have hm : (!(n.tmod 2 == 0)) = decide (n.natAbs % 2 = 1) := by
    have h := Int.tmod_eq_emod (a := n) (b := 2)
    by_cases h2 : n.natAbs % 2 = 1
    · rw [decide_eq_true h2]
      have : n.tmod 2 ≠ 0 := by
        intro e
        have := Int.natAbs_tmod n 2
        rw [e] at this
        simp at this
        omega
      simp [this]
    · rw [decide_eq_false h2]
      have : n.tmod 2 = 0 := by
        have := Int.natAbs_tmod n 2
        have h3 : (n.tmod 2).natAbs = 0 := by rw [this]; show n.natAbs % 2 = 0; omega
        exact Int.natAbs_eq_zero.1 h3
      simp [this]
  rw [← hm]
  clear hm
  go_enter Tryz.func271, Tryz.ntmps271
  go_wp2
  go_ret
  exact ⟨rfl, rfl⟩
set_option maxRecDepth 100000 in
set_option maxHeartbeats 4000000 in
theorem power_big (x n : Nat) (vx : Value) (w : World) (hx : IsNatI w vx x) (h2 : 2 ≤ x) (h1 : 1 ≤ n) (hn : n ≤ 9223372036854775807) (hlx : (toL x).length ≤ 500) :
    Calls Tryz.prog 272 #[vx, .int .i64 (n : Int)] w fun e w' => ∃ v, e = .returned (.tuple #[v, .bool (decide (Lib.nDigits (x ^ n) ≤ 4000))]) ∧ (Lib.nDigits (x ^ n) ≤ 4000 → IsNatI w' v (x ^ n)) ∧ (∃ A l c, v = .slice A l c) ∧ Below w.heap.size w w' := by
  obtain ⟨A, c, rfl, _, _, _⟩ := id hx
  have hb1 := below_alloc (Below.refl w.heap.size w) (.cells #[.int .i64 1] 3)
  have e1 : toL 1 = [1] := by rw [toL_pos (by omega)]; simp [B_val, toL_zero]
  have h1n : IsNatI (w.alloc (.cells #[.int .i64 1] 3)) (.slice (some ⟨w.heap.size, 0, none⟩) 1 1) 1 := by
    refine ⟨some ⟨w.heap.size, 0, none⟩, 1, by rw [e1]; rfl, by rw [e1]; decide, by decide, ?_⟩
    rw [e1]
    exact (Blk.new w 3 #[.int .i64 1]).row (xs := [.int .i64 1])
  have HX0 := Lib.hid hx
  have HX := Lib.hid (hx.below hb1)
  have H1 := Lib.hid h1n
  have HB1 := Lib.hid hb1
  have hsg : decide (sgn x 1 ≤ 0) = false := decide_eq_false (by unfold sgn; rw [if_neg (by omega), if_pos (by omega)]; omega)
  have hn0 : ((n : Int) == 0) = false := by rw [beq_eq_false_iff_ne]; omega
  have HL1 := Lib.hid (show (toL 1).length ≤ 100000 by rw [e1]; decide)
  have H2 := Lib.hid h2
  clear hx hb1 h1n e1 h2
  go_enter Tryz.func272, Tryz.ntmps272
  go_wp2_with (go_at_call 232; refine (rorder_any x 1 _ _ _ HX.out H1.out (by omega) HL1.out).mono ?_; rintro e w2 ⟨rfl, hb2⟩; have HB2 := Lib.hid (HB1.out.trans (hb2.mono HB1.out.size)); have HX2 := Lib.hid (HX.out.below hb2); have H12 := Lib.hid (H1.out.below hb2); clear hb2)
  go_loopw [7, 8] (fun v7 s8 wr => ∃ k : Nat, k ≤ 63 ∧ s8 = .int .i64 ((k : Int) - 1) ∧ (∃ A l c, v7 = .slice A l c) ∧ IsNatI wr v7 (x ^ (n / 2 ^ k)) ∧ Lib.nDigits (x ^ (n / 2 ^ k)) ≤ 4000 ∧ Below w.heap.size w wr) (fun _ s8 _ => (intOf s8 + 1).toNat)
  case atStart =>
    have e0 : n / 2 ^ 63 = 0 := Nat.div_eq_of_lt (by omega)
    exact ⟨63, Nat.le_refl _, rfl, ⟨_, _, _, rfl⟩, by rw [e0, Nat.pow_zero]; exact H12.out, by rw [e0, Nat.pow_zero, Lib.nDigits_small (by omega)]; omega, HB2.out⟩
  case round =>
    obtain ⟨k, hk, hs8, ⟨A7, l7, c7, rfl⟩, hv7, hd7, hbr⟩ := hrel
    have HBR := Lib.hid hbr
    have HV7 := Lib.hid hv7
    have HD7 := Lib.hid hd7
    have HX7 := Lib.hid (HX0.out.below hbr)
    clear hv7 hd7 hbr
    rcases Nat.eq_zero_or_pos k with rfl | hkp
    · rw [show ((0 : Nat) : Int) - 1 = -1 from rfl] at hs8
      subst hs8
      have e1 : n / 2 ^ 0 = n := by simp
      go_wp2
      refine bodyPost_ret (results_tmp2 rfl _ _ _) rfl ?_
      have hd := HD7.out
      have hv := HV7.out
      rw [e1] at hd hv
      exact ⟨_, by rw [decide_eq_true hd]; rfl, fun _ => hv, ⟨_, _, _, rfl⟩, HBR.out⟩
    · obtain ⟨j, rfl⟩ : ∃ j, k = j + 1 := ⟨k - 1, by omega⟩
      rw [show ((j + 1 : Nat) : Int) - 1 = (j : Int) by omega] at hs8
      subst hs8
      have hj : j ≤ 62 := by omega
      have hmin : min j 64 = j := Nat.min_eq_left (by omega)
      have hph := pow_half x n j
      have HBA := Lib.hid (bit_and n j)
      have hmono : Lib.nDigits (x ^ (n / 2 ^ j)) ≤ Lib.nDigits (x ^ n) := nd_pow_mono (by have := H2.out; omega) (Nat.div_le_self _ _)
      have ly := nd_limbs HD7.out
      generalize x ^ (n / 2 ^ (j + 1)) = y at *
      have lyy : (toL (y * y)).length ≤ 890 := Nat.le_trans (toL_mul_len _ _) (by omega)
      have lyx : (toL (y * y * x)).length ≤ 1400 := Nat.le_trans (toL_mul_len _ _) (by omega)
      generalize hz : x ^ (n / 2 ^ j) = z at *
      have HZ := Lib.hid hz
      clear hz
      have HM := Lib.hid hmono
      have HLL := Lib.hid (And.intro ly (And.intro lyy lyx))
      clear hmono ly lyy lyx
      have TK1 : True := trivial
      by_cases hb : n / 2 ^ j % 2 = 1
      · rw [if_pos hb] at hph
        have HPH := Lib.hid hph
        have hbv : bits .and .i64 ((n : Int) / 2 ^ j) 1 = 1 := by rw [HBA.out, hb]; rfl
        clear hph hb
        by_cases hbig : 4000 < Lib.nDigits z
        · have HBIG := Lib.hid hbig
          clear hbig
          go_wp2_with (first
            | (clear TK1; go_at_call 231; refine (rtimes_any y y _ _ _ HV7.out HV7.out (Nat.le_trans HLL.out.1 (by omega)) (Nat.le_trans HLL.out.1 (by omega))).mono ?_; rintro e w3 ⟨v3, rfl, hv3, hb3⟩; obtain ⟨A3, c3, rfl, _, _, _⟩ := id hv3; have HV3 := Lib.hid hv3; have HB3 := Lib.hid (HBR.out.trans (hb3.mono HBR.out.size)); have HX3 := Lib.hid (HX7.out.below hb3); clear hv3 hb3)
            | (go_at_call 231; refine (rtimes_any (y * y) x _ _ _ HV3.out HX3.out (Nat.le_trans HLL.out.2.1 (by omega)) (by omega)).mono ?_; rintro e w4 ⟨v4, rfl, hv4, hb4⟩; obtain ⟨A4, c4, rfl, _, _, _⟩ := id hv4; have HV4 := Lib.hid hv4; have HB4 := Lib.hid (HB3.out.trans (hb4.mono HB3.out.size)); clear hv4 hb4)
            | (go_at_call 228; refine (rwrite_is (y * y * x) _ _ HV4.out (Nat.le_trans HLL.out.2.2 (by omega))).mono ?_; rintro e w5 ⟨s5, rfl, hs5, hz5, hb5⟩; rw [← HPH.out] at hz5; have hsz : decide ((4000 : Int) < (s5.size : Int)) = true := (decide_eq_true (by have := HBIG.out; omega)); have HB5 := Lib.hid (HB4.out.trans (hb5.mono HB4.out.size)); have HVZ := Lib.hid (HV4.out.below hb5); clear hb5 hz5 hs5))
          refine bodyPost_ret (results_tmp2 rfl _ _ _) rfl ?_
          have hno : ¬ Lib.nDigits (x ^ n) ≤ 4000 := by have := HM.out; have := HBIG.out; omega
          exact ⟨_, by rw [decide_eq_false hno]; rfl, fun h => absurd h hno, ⟨_, _, _, rfl⟩, HB5.out⟩
        · have HBIG := Lib.hid hbig
          clear hbig
          go_wp2_with (first
            | (clear TK1; go_at_call 231; refine (rtimes_any y y _ _ _ HV7.out HV7.out (Nat.le_trans HLL.out.1 (by omega)) (Nat.le_trans HLL.out.1 (by omega))).mono ?_; rintro e w3 ⟨v3, rfl, hv3, hb3⟩; obtain ⟨A3, c3, rfl, _, _, _⟩ := id hv3; have HV3 := Lib.hid hv3; have HB3 := Lib.hid (HBR.out.trans (hb3.mono HBR.out.size)); have HX3 := Lib.hid (HX7.out.below hb3); clear hv3 hb3)
            | (go_at_call 231; refine (rtimes_any (y * y) x _ _ _ HV3.out HX3.out (Nat.le_trans HLL.out.2.1 (by omega)) (by omega)).mono ?_; rintro e w4 ⟨v4, rfl, hv4, hb4⟩; obtain ⟨A4, c4, rfl, _, _, _⟩ := id hv4; have HV4 := Lib.hid hv4; have HB4 := Lib.hid (HB3.out.trans (hb4.mono HB3.out.size)); clear hv4 hb4)
            | (go_at_call 228; refine (rwrite_is (y * y * x) _ _ HV4.out (Nat.le_trans HLL.out.2.2 (by omega))).mono ?_; rintro e w5 ⟨s5, rfl, hs5, hz5, hb5⟩; rw [← HPH.out] at hz5; have hsz : decide ((4000 : Int) < (s5.size : Int)) = false := (decide_eq_false (by have := HBIG.out; omega)); have HB5 := Lib.hid (HB4.out.trans (hb5.mono HB4.out.size)); have HVZ := Lib.hid (HV4.out.below hb5); clear hb5 hz5 hs5))
          go_roundw
          case rel =>
            refine ⟨j, by omega, by go_num, ⟨_, _, _, rfl⟩, ?_, ?_, HB5.out⟩
            · rw [HZ.out, HPH.out]; exact HVZ.out
            · rw [HZ.out]; have := HBIG.out; omega
          case measure => simp [intOf] <;> omega
      · rw [if_neg hb] at hph
        have HPH := Lib.hid hph
        have hbv : bits .and .i64 ((n : Int) / 2 ^ j) 1 = 0 := by rw [HBA.out, show n / 2 ^ j % 2 = 0 by omega]; rfl
        clear hph hb
        by_cases hbig : 4000 < Lib.nDigits z
        · have HBIG := Lib.hid hbig
          clear hbig
          go_wp2_with (first
            | (clear TK1; go_at_call 231; refine (rtimes_any y y _ _ _ HV7.out HV7.out (Nat.le_trans HLL.out.1 (by omega)) (Nat.le_trans HLL.out.1 (by omega))).mono ?_; rintro e w3 ⟨v3, rfl, hv3, hb3⟩; obtain ⟨A3, c3, rfl, _, _, _⟩ := id hv3; have HV3 := Lib.hid hv3; have HB3 := Lib.hid (HBR.out.trans (hb3.mono HBR.out.size)); have HX3 := Lib.hid (HX7.out.below hb3); clear hv3 hb3)
            | (go_at_call 228; refine (rwrite_is (y * y) _ _ HV3.out (Nat.le_trans HLL.out.2.1 (by omega))).mono ?_; rintro e w5 ⟨s5, rfl, hs5, hz5, hb5⟩; rw [← HPH.out] at hz5; have hsz : decide ((4000 : Int) < (s5.size : Int)) = true := (decide_eq_true (by have := HBIG.out; omega)); have HB5 := Lib.hid (HB3.out.trans (hb5.mono HB3.out.size)); have HVZ := Lib.hid (HV3.out.below hb5); clear hb5 hz5 hs5))
          refine bodyPost_ret (results_tmp2 rfl _ _ _) rfl ?_
          have hno : ¬ Lib.nDigits (x ^ n) ≤ 4000 := by have := HM.out; have := HBIG.out; omega
          exact ⟨_, by rw [decide_eq_false hno]; rfl, fun h => absurd h hno, ⟨_, _, _, rfl⟩, HB5.out⟩
        · have HBIG := Lib.hid hbig
          clear hbig
          go_wp2_with (first
            | (clear TK1; go_at_call 231; refine (rtimes_any y y _ _ _ HV7.out HV7.out (Nat.le_trans HLL.out.1 (by omega)) (Nat.le_trans HLL.out.1 (by omega))).mono ?_; rintro e w3 ⟨v3, rfl, hv3, hb3⟩; obtain ⟨A3, c3, rfl, _, _, _⟩ := id hv3; have HV3 := Lib.hid hv3; have HB3 := Lib.hid (HBR.out.trans (hb3.mono HBR.out.size)); have HX3 := Lib.hid (HX7.out.below hb3); clear hv3 hb3)
            | (go_at_call 228; refine (rwrite_is (y * y) _ _ HV3.out (Nat.le_trans HLL.out.2.1 (by omega))).mono ?_; rintro e w5 ⟨s5, rfl, hs5, hz5, hb5⟩; rw [← HPH.out] at hz5; have hsz : decide ((4000 : Int) < (s5.size : Int)) = false := (decide_eq_false (by have := HBIG.out; omega)); have HB5 := Lib.hid (HB3.out.trans (hb5.mono HB3.out.size)); have HVZ := Lib.hid (HV3.out.below hb5); clear hb5 hz5 hs5))
          go_roundw
          case rel =>
            refine ⟨j, by omega, by go_num, ⟨_, _, _, rfl⟩, ?_, ?_, HB5.out⟩
            · rw [HZ.out, HPH.out]; exact HVZ.out
            · rw [HZ.out]; have := HBIG.out; omega
          case measure => simp [intOf] <;> omega
set_option maxRecDepth 100000 in
set_option maxHeartbeats 1000000 in
theorem power_zero (x : Nat) (vx : Value) (w : World) (hx : IsNatI w vx x) :
    Calls Tryz.prog 272 #[vx, .int .i64 0] w fun e w' => ∃ v, e = .returned (.tuple #[v, .bool true]) ∧ IsNatI w' v 1 ∧ (∃ A l c, v = .slice A l c) ∧ Below w.heap.size w w' := by
  obtain ⟨A, c, rfl, _, _, _⟩ := hx
  have hb1 := below_alloc (Below.refl w.heap.size w) (.cells #[.int .i64 1] 3)
  have e1 : toL 1 = [1] := by rw [toL_pos (by omega)]; simp [B_val, toL_zero]
  have h1n : IsNatI (w.alloc (.cells #[.int .i64 1] 3)) (.slice (some ⟨w.heap.size, 0, none⟩) 1 1) 1 := by
    refine ⟨some ⟨w.heap.size, 0, none⟩, 1, by rw [e1]; rfl, by rw [e1]; decide, by decide, ?_⟩
    rw [e1]
    exact (Blk.new w 3 #[.int .i64 1]).row (xs := [.int .i64 1])
  have H1 := Lib.hid h1n
  have HB1 := Lib.hid hb1
  clear hb1 h1n e1
  go_enter Tryz.func272, Tryz.ntmps272
  go_wp2
  refine bodyPost_ret (results_tmp2 rfl _ _ _) rfl ?_
  exact ⟨_, rfl, H1.out, ⟨_, _, _, rfl⟩, HB1.out⟩
set_option maxRecDepth 100000 in
set_option maxHeartbeats 1000000 in
theorem power_small (x n : Nat) (vx : Value) (w : World) (hx : IsNatI w vx x) (h2 : x ≤ 1) (h1 : 1 ≤ n) (hn : n ≤ 9223372036854775807) :
    Calls Tryz.prog 272 #[vx, .int .i64 (n : Int)] w fun e w' => ∃ v, e = .returned (.tuple #[v, .bool true]) ∧ IsNatI w' v x ∧ (∃ A l c, v = .slice A l c) ∧ Below w.heap.size w w' := by
  have hlx : (toL x).length ≤ 1 := toL_len_le (by rw [B_val]; omega)
  obtain ⟨A, c, rfl, _, _, _⟩ := id hx
  have hb1 := below_alloc (Below.refl w.heap.size w) (.cells #[.int .i64 1] 3)
  have e1 : toL 1 = [1] := by rw [toL_pos (by omega)]; simp [B_val, toL_zero]
  have h1n : IsNatI (w.alloc (.cells #[.int .i64 1] 3)) (.slice (some ⟨w.heap.size, 0, none⟩) 1 1) 1 := by
    refine ⟨some ⟨w.heap.size, 0, none⟩, 1, by rw [e1]; rfl, by rw [e1]; decide, by decide, ?_⟩
    rw [e1]
    exact (Blk.new w 3 #[.int .i64 1]).row (xs := [.int .i64 1])
  have HX := Lib.hid (hx.below hb1)
  have H1 := Lib.hid h1n
  have HB1 := Lib.hid hb1
  have hsg : decide (sgn x 1 ≤ 0) = true := decide_eq_true (by unfold sgn; split <;> (try split) <;> omega)
  have hn0 : ((n : Int) == 0) = false := by rw [beq_eq_false_iff_ne]; omega
  have HL1 := Lib.hid (show (toL 1).length ≤ 100000 by rw [e1]; decide)
  have HN0 := Lib.hid h1
  clear hx hb1 h1n e1 h2 h1
  go_enter Tryz.func272, Tryz.ntmps272
  go_wp2_with (go_at_call 232; refine (rorder_any x 1 _ _ _ HX.out H1.out (by omega) HL1.out).mono ?_; rintro e w2 ⟨rfl, hb2⟩; have HB2 := Lib.hid (HB1.out.trans (hb2.mono HB1.out.size)); have HX2 := Lib.hid (HX.out.below hb2); clear hb2)
  all_goals first
    | (refine bodyPost_ret (results_tmp2 rfl _ _ _) rfl ?_; exact ⟨_, rfl, HX2.out, ⟨_, _, _, rfl⟩, HB2.out⟩)
    | (exfalso; have := HN0.out; omega)
theorem rpower_any (x n : Nat) (vx : Value) (w : World) (hx : IsNatI w vx x) (hn : n ≤ 9223372036854775807) (hlx : (toL x).length ≤ 500) :
    Calls Tryz.prog 272 #[vx, .int .i64 (n : Int)] w fun e w' => ∃ v, e = .returned (.tuple #[v, .bool (decide (Lib.nDigits (x ^ n) ≤ 4000))]) ∧ (Lib.nDigits (x ^ n) ≤ 4000 → IsNatI w' v (x ^ n)) ∧ (∃ A l c, v = .slice A l c) ∧ Below w.heap.size w w' := by
  rcases Nat.eq_zero_or_pos n with rfl | h1
  · refine (power_zero x vx w hx).mono ?_
    rintro e w' ⟨v, rfl, h, hs, hb⟩
    rw [Nat.pow_zero]
    exact ⟨v, by rw [decide_eq_true (by rw [Lib.nDigits_small (by omega)]; omega)], fun _ => h, hs, hb⟩
  · by_cases h2 : 2 ≤ x
    · exact power_big x n vx w hx h2 h1 hn hlx
    · refine (power_small x n vx w hx (by omega) h1 hn).mono ?_
      rintro e w' ⟨v, rfl, h, hs, hb⟩
      have hxn : x ^ n = x := by
        rcases (show x = 0 ∨ x = 1 by omega) with rfl | rfl
        · exact Nat.zero_pow h1
        · exact Nat.one_pow n
      rw [hxn]
      exact ⟨v, by rw [decide_eq_true (by rw [Lib.nDigits_small (by omega)]; omega)], fun _ => h, hs, hb⟩
end Go.Proofs.YtigapglmipmbeaaGreatDoor
namespace Go.Proofs.YtigapglmipmbeaaGreatDoor
open Go.RowKit Go.Shelf
open Lim
end Go.Proofs.YtigapglmipmbeaaGreatDoor
