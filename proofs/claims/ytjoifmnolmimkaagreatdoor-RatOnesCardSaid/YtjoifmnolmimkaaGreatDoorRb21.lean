/- The reference's functions of one number: Neg, Abs, Inv, Sign (printed by mkrone.py). The reference's round, Floor, Ceil, Sign (printed by mkrround.py). -/
import Derived.Test.YtjoifmnolmimkaaGreatDoorRb18
import Derived.Test.YtjoifmnolmimkaaGreatDoorRb17
import Derived.Test.YtjoifmnolmimkaaGreatDoorRb15
import Derived.Test.YtjoifmnolmimkaaGreatDoorRb12
namespace Go.Proofs.YtjoifmnolmimkaaGreatDoor
open Go.RowKit Go.Shelf
open Lim

set_option maxRecDepth 100000 in
set_option maxHeartbeats 4000000 in
theorem refNeg_err (a : ByteArray) (w : World) (ha : a.size ≤ 270000) (he : errQ a.data.toList ≠ 0) :
    Calls Tryz.prog 48 #[.string a] w fun e w' => e = .returned (.tuple #[.string ⟨#[]⟩, .int .i64 (errQ a.data.toList : Int)]) ∧ Below w.heap.size w w' := by
  have HP := Lib.hid (rq_any a w ha)
  have hne : ((errQ a.data.toList : Int) == 0) = false := by rw [beq_eq_false_iff_ne]; omega
  have HE := Lib.hid he
  clear he
  go_enter Tryz.func48, Tryz.ntmps48
  go_wp2_with ((go_at_call 76; refine HP.out.mono ?_; rintro e w1 ⟨v, rfl, -, hz, hb⟩; obtain rfl := hz HE.out; have HB := Lib.hid hb; clear hb hz))
  refine bodyPost_ret (results_tmp2 rfl _ _ _) rfl ?_
  exact ⟨rfl, below_alloc HB.out _⟩
set_option maxRecDepth 100000 in
set_option maxHeartbeats 4000000 in
theorem refNeg_ok (a : ByteArray) (w : World) (ha : a.size ≤ 270000) (he : errQ a.data.toList = 0) :
    Calls Tryz.prog 48 #[.string a] w fun e w' => e = .returned (resN (outQ (-(valQ a.data.toList)))) ∧ Below w.heap.size w w' := by
  have HP := Lib.hid (rq_any a w ha)
  have hne : ((errQ a.data.toList : Int) == 0) = true := by rw [he]; rfl
  have HE := Lib.hid he
  have sq := sz_max he
  generalize valQ a.data.toList = q at *
  obtain ⟨lr, lr'⟩ := sz_limbs2 (k := maxD) sq.neg (by unfold maxD; omega)
  have HW := Lib.hid (fun v w h => rwriteQ_any (-q) v w h lr lr')
  generalize outQ (-q) = r at HW ⊢
  unfold resN at HW
  clear he lr lr' sq
  go_enter Tryz.func48, Tryz.ntmps48
  go_wp2_with (first
    | (go_at_call 76; refine HP.out.mono ?_; rintro e w1 ⟨v, rfl, hv, -, hb⟩; obtain ⟨bq, N, D, A, c, A', c', rfl, hn, hd, HQ⟩ := isQ_open (hv HE.out); have HV := Lib.hid (hv HE.out); have HB := Lib.hid hb; have HX := Lib.hid (below_alloc (Below.refl w1.heap.size w1) (.cells #[.bool bq, .slice A (toL N).length c, .slice A' (toL D).length c'] 64)); have HBX := Lib.hid (HB.out.trans (HX.out.mono HB.out.size)); have HN := Lib.hid hn; have HD := Lib.hid hd; clear hb hv hn hd)
    | (go_at_call 97; refine (rnegQ_any q _ _ (HV.out.below HX.out)).mono ?_; rintro e w2 ⟨v2, rfl, hv2, hb2⟩; obtain ⟨b2, N2, D2, A2, c2, A2', c2', rfl, _, _, _⟩ := isQ_open hv2; have HV2 := Lib.hid hv2; have HB2 := Lib.hid (HBX.out.trans (hb2.mono HBX.out.size)); clear hv2 hb2)
    | (go_at_call 95; refine (HW.out _ _ HV2.out).mono ?_; rintro e w3 ⟨rfl, hb3⟩; have HB3 := Lib.hid (HB2.out.trans (hb3.mono HB2.out.size)); clear hb3))
  refine bodyPost_ret (results_tmp2 rfl _ _ _) rfl ?_
  exact ⟨rfl, HB3.out⟩
/-- The reference's Neg. -/
theorem refNeg_any (a : ByteArray) (w : World) (ha : a.size ≤ 270000) :
    Calls Tryz.prog 48 #[.string a] w fun e w' => e = .returned (resN (oneQ (fun q => outQ (-q)) a.data.toList)) ∧ Below w.heap.size w w' := by
  unfold oneQ
  by_cases he : errQ a.data.toList = 0
  · rw [if_neg (by omega)]
    exact refNeg_ok a w ha he
  · rw [if_pos he]
    exact refNeg_err a w ha he
set_option maxRecDepth 100000 in
set_option maxHeartbeats 4000000 in
theorem refInv_err (a : ByteArray) (w : World) (ha : a.size ≤ 270000) (he : errQ a.data.toList ≠ 0) :
    Calls Tryz.prog 50 #[.string a] w fun e w' => e = .returned (.tuple #[.string ⟨#[]⟩, .int .i64 (errQ a.data.toList : Int)]) ∧ Below w.heap.size w w' := by
  have HP := Lib.hid (rq_any a w ha)
  have hne : ((errQ a.data.toList : Int) == 0) = false := by rw [beq_eq_false_iff_ne]; omega
  have HE := Lib.hid he
  clear he
  go_enter Tryz.func50, Tryz.ntmps50
  go_wp2_with ((go_at_call 76; refine HP.out.mono ?_; rintro e w1 ⟨v, rfl, -, hz, hb⟩; obtain rfl := hz HE.out; have HB := Lib.hid hb; clear hb hz))
  refine bodyPost_ret (results_tmp2 rfl _ _ _) rfl ?_
  exact ⟨rfl, below_alloc HB.out _⟩
set_option maxRecDepth 100000 in
set_option maxHeartbeats 4000000 in
theorem refInv_ok (a : ByteArray) (w : World) (ha : a.size ≤ 270000) (he : errQ a.data.toList = 0) (h0 : valQ a.data.toList ≠ 0) :
    Calls Tryz.prog 50 #[.string a] w fun e w' => e = .returned (resN (outQ ((valQ a.data.toList)⁻¹))) ∧ Below w.heap.size w w' := by
  have HP := Lib.hid (rq_any a w ha)
  have hne : ((errQ a.data.toList : Int) == 0) = true := by rw [he]; rfl
  have HE := Lib.hid he
  have sq := sz_max he
  generalize valQ a.data.toList = q at *
  obtain ⟨lr, lr'⟩ := sz_limbs2 (k := maxD) sq.inv (by unfold maxD; omega)
  have HZ := Lib.hid h0
  clear h0
  have HW := Lib.hid (fun v w h => rwriteQ_any (q⁻¹) v w h lr lr')
  generalize outQ (q⁻¹) = r at HW ⊢
  unfold resN at HW
  clear he lr lr' sq
  have HNZ := Lib.hid (fun (N : Nat) (h : nm q = N) => show (((toL N).length : Int) == 0) = false by rw [len_zero, decide_eq_false (fun h2 => HZ.out (nm_zero.1 (h.trans h2)))])
  go_enter Tryz.func50, Tryz.ntmps50
  go_wp2_with (first
    | (go_at_call 76; refine HP.out.mono ?_; rintro e w1 ⟨v, rfl, hv, -, hb⟩; obtain ⟨bq, N, D, A, c, A', c', rfl, hn, hd, HQ⟩ := isQ_open (hv HE.out); have HV := Lib.hid (hv HE.out); have HB := Lib.hid hb; have HX := Lib.hid (below_alloc (Below.refl w1.heap.size w1) (.cells #[.bool bq, .slice A (toL N).length c, .slice A' (toL D).length c'] 64)); have HBX := Lib.hid (HB.out.trans (HX.out.mono HB.out.size)); have HN := Lib.hid hn; have HD := Lib.hid hd; clear hb hv hn hd; have hln := HNZ.out _ HQ.out.2.1)
    | (go_at_call 99; refine (rover_any q _ _ (HV.out.below HX.out) HZ.out).mono ?_; rintro e w2 ⟨v2, rfl, hv2, hb2⟩; obtain ⟨b2, N2, D2, A2, c2, A2', c2', rfl, _, _, _⟩ := isQ_open hv2; have HV2 := Lib.hid hv2; have HB2 := Lib.hid (HBX.out.trans (hb2.mono HBX.out.size)); clear hv2 hb2)
    | (go_at_call 95; refine (HW.out _ _ HV2.out).mono ?_; rintro e w3 ⟨rfl, hb3⟩; have HB3 := Lib.hid (HB2.out.trans (hb3.mono HB2.out.size)); clear hb3))
  refine bodyPost_ret (results_tmp2 rfl _ _ _) rfl ?_
  exact ⟨rfl, HB3.out⟩
set_option maxRecDepth 100000 in
set_option maxHeartbeats 4000000 in
theorem refInv_zero (a : ByteArray) (w : World) (ha : a.size ≤ 270000) (he : errQ a.data.toList = 0) (h0 : valQ a.data.toList = 0) :
    Calls Tryz.prog 50 #[.string a] w fun e w' => e = .returned (.tuple #[.string ⟨#[]⟩, .int .i64 6]) ∧ Below w.heap.size w w' := by
  have HP := Lib.hid (rq_any a w ha)
  have hne : ((errQ a.data.toList : Int) == 0) = true := by rw [he]; rfl
  have HE := Lib.hid he
  rw [h0] at HP
  have HNZ := Lib.hid (fun (N : Nat) (h : nm (0 : Rat) = N) => show (((toL N).length : Int) == 0) = true by rw [len_zero, decide_eq_true (h ▸ rfl)])
  clear he h0
  go_enter Tryz.func50, Tryz.ntmps50
  go_wp2_with (first
    | (go_at_call 76; refine HP.out.mono ?_; rintro e w1 ⟨v, rfl, hv, -, hb⟩; obtain ⟨bq, N, D, A, c, A', c', rfl, hn, hd, HQ⟩ := isQ_open (hv HE.out); have HV := Lib.hid (hv HE.out); have HB := Lib.hid hb; have HX := Lib.hid (below_alloc (Below.refl w1.heap.size w1) (.cells #[.bool bq, .slice A (toL N).length c, .slice A' (toL D).length c'] 64)); have HBX := Lib.hid (HB.out.trans (HX.out.mono HB.out.size)); have HN := Lib.hid hn; have HD := Lib.hid hd; clear hb hv hn hd; have hln := HNZ.out _ HQ.out.2.1))
  refine bodyPost_ret (results_tmp2 rfl _ _ _) rfl ?_
  exact ⟨rfl, HBX.out⟩
/-- The reference's Inv. -/
theorem refInv_any (a : ByteArray) (w : World) (ha : a.size ≤ 270000) :
    Calls Tryz.prog 50 #[.string a] w fun e w' => e = .returned (resN (twoQ divQ [49] a.data.toList)) ∧ Below w.heap.size w w' := by
  have e1 : errQ [49] = 0 := IsT.one.err
  have e2 : valQ [49] = 1 := IsT.one.val
  unfold twoQ
  rw [e1, if_neg (by omega), e2]
  by_cases he : errQ a.data.toList = 0
  · rw [if_neg (by omega)]
    unfold divQ
    by_cases h0 : valQ a.data.toList = 0
    · rw [if_pos h0]
      exact refInv_zero a w ha he h0
    · rw [if_neg h0, Rat.one_mul]
      exact refInv_ok a w ha he h0
  · rw [if_pos he]
    exact refInv_err a w ha he
set_option maxRecDepth 100000 in
set_option maxHeartbeats 4000000 in
theorem refAbs_err (a : ByteArray) (w : World) (ha : a.size ≤ 270000) (he : errQ a.data.toList ≠ 0) :
    Calls Tryz.prog 49 #[.string a] w fun e w' => e = .returned (.tuple #[.string ⟨#[]⟩, .int .i64 (errQ a.data.toList : Int)]) ∧ Below w.heap.size w w' := by
  have HP := Lib.hid (rq_any a w ha)
  have hne : ((errQ a.data.toList : Int) == 0) = false := by rw [beq_eq_false_iff_ne]; omega
  have HE := Lib.hid he
  clear he
  go_enter Tryz.func49, Tryz.ntmps49
  go_wp2_with ((go_at_call 76; refine HP.out.mono ?_; rintro e w1 ⟨v, rfl, -, hz, hb⟩; obtain rfl := hz HE.out; have HB := Lib.hid hb; clear hb hz))
  refine bodyPost_ret (results_tmp2 rfl _ _ _) rfl ?_
  exact ⟨rfl, below_alloc HB.out _⟩
set_option maxRecDepth 100000 in
set_option maxHeartbeats 4000000 in
theorem refAbs_ok (a : ByteArray) (w : World) (ha : a.size ≤ 270000) (he : errQ a.data.toList = 0) :
    Calls Tryz.prog 49 #[.string a] w fun e w' => e = .returned (resN (outQ ((valQ a.data.toList).abs))) ∧ Below w.heap.size w w' := by
  have HP := Lib.hid (rq_any a w ha)
  have hne : ((errQ a.data.toList : Int) == 0) = true := by rw [he]; rfl
  have HE := Lib.hid he
  have sq := sz_max he
  generalize valQ a.data.toList = q at *
  obtain ⟨a1, a2, a3⟩ := abs_parts q
  have sqa : Sz maxD q.abs := ⟨by rw [a2]; exact sq.1, by rw [a3]; exact sq.2⟩
  obtain ⟨lr, lr'⟩ := sz_limbs2 (k := maxD) sqa (by unfold maxD; omega)
  have HA := Lib.hid (And.intro a1 (And.intro a2 a3))
  clear a1 a2 a3 sqa
  have HW := Lib.hid (fun v w h => rwriteQ_any (q.abs) v w h lr lr')
  generalize outQ (q.abs) = r at HW ⊢
  unfold resN at HW
  clear he lr lr' sq
  go_enter Tryz.func49, Tryz.ntmps49
  go_wp2_with (first
    | (go_at_call 76; refine HP.out.mono ?_; rintro e w1 ⟨v, rfl, hv, -, hb⟩; obtain ⟨bq, N, D, A, c, A', c', rfl, hn, hd, HQ⟩ := isQ_open (hv HE.out); have HV := Lib.hid (hv HE.out); have HB := Lib.hid hb; have HX := Lib.hid (below_alloc (Below.refl w1.heap.size w1) (.cells #[.bool bq, .slice A (toL N).length c, .slice A' (toL D).length c'] 64)); have HBX := Lib.hid (HB.out.trans (HX.out.mono HB.out.size)); have HN := Lib.hid hn; have HD := Lib.hid hd; clear hb hv hn hd)
    | (go_at_call 95; have hba : IsQ (w1.alloc (.cells #[.bool false, .slice A (toL N).length c, .slice A' (toL D).length c'] 64)) (.agg #[.bool false, .slice A (toL N).length c, .slice A' (toL D).length c']) q.abs := (by obtain ⟨p1, p2, p3⟩ := HA.out; obtain ⟨q1, q2, q3⟩ := HQ.out; unfold IsQ; rw [p1, p2, p3, q2, q3]; exact isPartsI_mk (HN.out.below (below_alloc (Below.refl _ _) _)) (HD.out.below (below_alloc (Below.refl _ _) _))); refine (HW.out _ _ hba).mono ?_; rintro e w3 ⟨rfl, hb3⟩; have HB3 := Lib.hid ((below_alloc HB.out _).trans (hb3.mono (below_alloc HB.out _).size)); clear hb3))
  refine bodyPost_ret (results_tmp2 rfl _ _ _) rfl ?_
  exact ⟨rfl, HB3.out⟩
/-- The reference's Abs. -/
theorem refAbs_any (a : ByteArray) (w : World) (ha : a.size ≤ 270000) :
    Calls Tryz.prog 49 #[.string a] w fun e w' => e = .returned (resN (oneQ (fun q => outQ q.abs) a.data.toList)) ∧ Below w.heap.size w w' := by
  unfold oneQ
  by_cases he : errQ a.data.toList = 0
  · rw [if_neg (by omega)]
    exact refAbs_ok a w ha he
  · rw [if_pos he]
    exact refAbs_err a w ha he
end Go.Proofs.YtjoifmnolmimkaaGreatDoor
namespace Go.Proofs.YtjoifmnolmimkaaGreatDoor
open Go.RowKit Go.Shelf
open Lim

theorem len_pos {n : Nat} : decide (0 < (toL n).length) = !decide (n = 0) := by
  by_cases h : n = 0
  · subst h; simp [toL_zero]
  · have := toL_len_pos.2 h
    rw [decide_eq_false h, decide_eq_true (by omega)]; rfl
theorem isQ_int {w : World} {vq vo : Value} {m : Bool} {n : Nat} (h1 : IsNatI w vq n) (h2 : IsNatI w vo 1) : IsQ w (.agg #[.bool (m && decide (0 < (toL n).length)), vq, vo]) (mkQ m n 1) := by
  have e : mkQ m n 1 = mkQ (m && !decide (n = 0)) n 1 := by
    by_cases h : n = 0
    · subst h; rw [mkQ_zero, mkQ_zero]
    · rw [decide_eq_false h, Bool.not_false, Bool.and_true]
  rw [e, len_pos]
  refine isQ_low (by omega) (Nat.gcd_one_right _) ?_ (isPartsI_mk h1 h2)
  intro hm h0
  subst h0
  simp at hm
set_option maxRecDepth 100000 in
set_option maxHeartbeats 1000000 in
theorem refround_err (a : ByteArray) (up : Bool) (w : World) (ha : a.size ≤ 270000) (he : errQ a.data.toList ≠ 0) :
    Calls Tryz.prog 108 #[.string a, .bool up] w fun e w' => e = .returned (.tuple #[.string ⟨#[]⟩, .int .i64 (errQ a.data.toList : Int)]) ∧ Below w.heap.size w w' := by
  have HP := Lib.hid (rq_any a w ha)
  have hne : ((errQ a.data.toList : Int) == 0) = false := by rw [beq_eq_false_iff_ne]; omega
  have HE := Lib.hid he
  clear he
  go_enter Tryz.func108, Tryz.ntmps108
  go_wp2_with ((go_at_call 76; refine HP.out.mono ?_; rintro e w1 ⟨v, rfl, -, hz, hb⟩; obtain rfl := hz HE.out; have HB := Lib.hid hb; clear hb hz))
  refine bodyPost_ret (results_tmp2 rfl _ _ _) rfl ?_
  exact ⟨rfl, below_alloc HB.out _⟩
set_option maxRecDepth 100000 in
set_option maxHeartbeats 2000000 in
theorem refround_ttt (a : ByteArray) (q : Rat) (w : World) (ha : a.size ≤ 270000) (he : errQ a.data.toList = 0) (hq : valQ a.data.toList = q) (hb : ng q = true) (hz : decide (nm q % q.den = 0) = true) (r : List UInt8 × Nat) (hW : ∀ v w, IsQ w v (roundQ q true) → Calls Tryz.prog 95 #[v] w fun e w' => e = .returned (.tuple #[.string ⟨r.1.toArray⟩, .int .i64 (r.2 : Int)]) ∧ Below w.heap.size w w') (sq : Sz maxD q) :
    Calls Tryz.prog 108 #[.string a, .bool true] w fun e w' => e = .returned (.tuple #[.string ⟨r.1.toArray⟩, .int .i64 (r.2 : Int)]) ∧ Below w.heap.size w w' := by
  have HP := Lib.hid (rq_any a w ha)
  have hne : ((errQ a.data.toList : Int) == 0) = true := by rw [he]; rfl
  have HE := Lib.hid he
  rw [hq] at HP
  obtain ⟨lq, lq'⟩ := sz_limbs sq
  have HZ := Lib.hid (fun (N D : Nat) (h1 : nm q = N) (h2 : q.den = D) => show decide (0 < (toL (N % D)).length) = false by rw [len_pos, ← h1, ← h2, hz]; rfl)
  have HRQ := Lib.hid (fun (N D : Nat) (h1 : nm q = N) (h2 : q.den = D) => show roundQ q true = mkQ true (N / D) 1 by
    unfold roundQ
    rw [hb, h1, h2]
    unfold roundP
    rw [h1, h2] at hz
    rw [if_neg (fun x => x.1 (of_decide_eq_true hz))])
  have HLN := Lib.hid (fun (N D : Nat) (h1 : nm q = N) (h2 : q.den = D) => show (toL N).length ≤ 30000 ∧ (toL D).length ≤ 30000 ∧ 0 < D ∧ (toL (N / D)).length ≤ 40000 from ⟨by rw [← h1]; omega, by rw [← h2]; omega, by rw [← h2]; exact den_pos q, by rw [← h1, ← h2]; exact Nat.le_trans (toL_len_mono (Nat.div_le_self _ _)) (by omega)⟩)
  have HBQ := Lib.hid hb
  have HW := Lib.hid hW
  have HO1 := Lib.hid (show (toL 1).length ≤ 40000 from Nat.le_trans (toL_len_le (show 1 < B ^ 1 by rw [B_val]; omega)) (by omega))
  have TK1 : True := trivial
  clear he hq hb hz hW sq
  go_enter Tryz.func108, Tryz.ntmps108
  go_wp2_with (first
    | (go_at_call 76; refine HP.out.mono ?_; rintro e w1 ⟨v, rfl, hv, -, hb⟩; obtain ⟨bq, N, D, A, c, A', c', rfl, hn, hd, HQ⟩ := isQ_open (hv HE.out); have HB := Lib.hid hb; have HX := Lib.hid (below_alloc (Below.refl w1.heap.size w1) (.cells #[.bool bq, .slice A (toL N).length c, .slice A' (toL D).length c'] 64)); have HBX := Lib.hid (HB.out.trans (HX.out.mono HB.out.size)); have HN := Lib.hid (hn.below HX.out); have HD := Lib.hid (hd.below HX.out); clear hb hv hn hd; obtain rfl : bq = true := HQ.out.1.symm.trans HBQ.out; have hzl := HZ.out _ _ HQ.out.2.1 HQ.out.2.2; have HLQ := Lib.hid (HLN.out _ _ HQ.out.2.1 HQ.out.2.2); have HRR := Lib.hid (HRQ.out _ _ HQ.out.2.1 HQ.out.2.2); have HPB := Lib.hid (Blk.new w1 64 #[.bool true, .slice A (toL N).length c, .slice A' (toL D).length c']))
    | (go_at_call 140; refine (rdivide_any N D _ _ _ HN.out HD.out HLQ.out.1 HLQ.out.2.1 HLQ.out.2.2.1).mono ?_; rintro e w2 ⟨vq, vr, rfl, hvq, hvr, hb2⟩; obtain ⟨Aq, cq, rfl, _, _, _⟩ := id hvq; obtain ⟨Ar, cr, rfl, _, _, _⟩ := id hvr; have HVQ := Lib.hid hvq; have HB2 := Lib.hid (HBX.out.trans (hb2.mono HBX.out.size)); obtain ⟨z0, z1, z2⟩ := rows3 (HPB.out.below hb2 HPB.out.lt); have HPB2 := Lib.hid (HPB.out.below hb2 HPB.out.lt); clear hvq hvr hb2)
    | (go_at_call 115; refine (rone_any _).mono ?_; rintro e w5 ⟨v5, rfl, hv5, hb5⟩; obtain ⟨A5, c5, rfl, _, _, _⟩ := id hv5; have HV5 := Lib.hid hv5; have HVQ5 := Lib.hid (HVQ.out.below hb5); have HB5 := Lib.hid (HB2.out.trans (hb5.mono HB2.out.size)); clear hv5 hb5)
    | (go_at_call 95; refine (HW.out _ _ (by rw [HRR.out]; exact isQ_int (m := true) HVQ5.out HV5.out)).mono ?_; rintro e w6 ⟨rfl, hb6⟩; have HB6 := Lib.hid (HB5.out.trans (hb6.mono HB5.out.size)); clear hb6))
  refine bodyPost_ret (results_tmp2 rfl _ _ _) rfl ?_
  exact ⟨rfl, HB6.out⟩
set_option maxRecDepth 100000 in
set_option maxHeartbeats 2000000 in
theorem refround_ttf (a : ByteArray) (q : Rat) (w : World) (ha : a.size ≤ 270000) (he : errQ a.data.toList = 0) (hq : valQ a.data.toList = q) (hb : ng q = true) (hz : decide (nm q % q.den = 0) = false) (r : List UInt8 × Nat) (hW : ∀ v w, IsQ w v (roundQ q true) → Calls Tryz.prog 95 #[v] w fun e w' => e = .returned (.tuple #[.string ⟨r.1.toArray⟩, .int .i64 (r.2 : Int)]) ∧ Below w.heap.size w w') (sq : Sz maxD q) :
    Calls Tryz.prog 108 #[.string a, .bool true] w fun e w' => e = .returned (.tuple #[.string ⟨r.1.toArray⟩, .int .i64 (r.2 : Int)]) ∧ Below w.heap.size w w' := by
  have HP := Lib.hid (rq_any a w ha)
  have hne : ((errQ a.data.toList : Int) == 0) = true := by rw [he]; rfl
  have HE := Lib.hid he
  rw [hq] at HP
  obtain ⟨lq, lq'⟩ := sz_limbs sq
  have HZ := Lib.hid (fun (N D : Nat) (h1 : nm q = N) (h2 : q.den = D) => show decide (0 < (toL (N % D)).length) = true by rw [len_pos, ← h1, ← h2, hz]; rfl)
  have HRQ := Lib.hid (fun (N D : Nat) (h1 : nm q = N) (h2 : q.den = D) => show roundQ q true = mkQ true (N / D) 1 by
    unfold roundQ
    rw [hb, h1, h2]
    unfold roundP
    rw [h1, h2] at hz
    rw [if_neg (fun x => x.2 rfl)])
  have HLN := Lib.hid (fun (N D : Nat) (h1 : nm q = N) (h2 : q.den = D) => show (toL N).length ≤ 30000 ∧ (toL D).length ≤ 30000 ∧ 0 < D ∧ (toL (N / D)).length ≤ 40000 from ⟨by rw [← h1]; omega, by rw [← h2]; omega, by rw [← h2]; exact den_pos q, by rw [← h1, ← h2]; exact Nat.le_trans (toL_len_mono (Nat.div_le_self _ _)) (by omega)⟩)
  have HBQ := Lib.hid hb
  have HW := Lib.hid hW
  have HO1 := Lib.hid (show (toL 1).length ≤ 40000 from Nat.le_trans (toL_len_le (show 1 < B ^ 1 by rw [B_val]; omega)) (by omega))
  have TK1 : True := trivial
  clear he hq hb hz hW sq
  go_enter Tryz.func108, Tryz.ntmps108
  go_wp2_with (first
    | (go_at_call 76; refine HP.out.mono ?_; rintro e w1 ⟨v, rfl, hv, -, hb⟩; obtain ⟨bq, N, D, A, c, A', c', rfl, hn, hd, HQ⟩ := isQ_open (hv HE.out); have HB := Lib.hid hb; have HX := Lib.hid (below_alloc (Below.refl w1.heap.size w1) (.cells #[.bool bq, .slice A (toL N).length c, .slice A' (toL D).length c'] 64)); have HBX := Lib.hid (HB.out.trans (HX.out.mono HB.out.size)); have HN := Lib.hid (hn.below HX.out); have HD := Lib.hid (hd.below HX.out); clear hb hv hn hd; obtain rfl : bq = true := HQ.out.1.symm.trans HBQ.out; have hzl := HZ.out _ _ HQ.out.2.1 HQ.out.2.2; have HLQ := Lib.hid (HLN.out _ _ HQ.out.2.1 HQ.out.2.2); have HRR := Lib.hid (HRQ.out _ _ HQ.out.2.1 HQ.out.2.2); have HPB := Lib.hid (Blk.new w1 64 #[.bool true, .slice A (toL N).length c, .slice A' (toL D).length c']))
    | (go_at_call 140; refine (rdivide_any N D _ _ _ HN.out HD.out HLQ.out.1 HLQ.out.2.1 HLQ.out.2.2.1).mono ?_; rintro e w2 ⟨vq, vr, rfl, hvq, hvr, hb2⟩; obtain ⟨Aq, cq, rfl, _, _, _⟩ := id hvq; obtain ⟨Ar, cr, rfl, _, _, _⟩ := id hvr; have HVQ := Lib.hid hvq; have HB2 := Lib.hid (HBX.out.trans (hb2.mono HBX.out.size)); obtain ⟨z0, z1, z2⟩ := rows3 (HPB.out.below hb2 HPB.out.lt); have HPB2 := Lib.hid (HPB.out.below hb2 HPB.out.lt); clear hvq hvr hb2)
    | (go_at_call 115; refine (rone_any _).mono ?_; rintro e w5 ⟨v5, rfl, hv5, hb5⟩; obtain ⟨A5, c5, rfl, _, _, _⟩ := id hv5; have HV5 := Lib.hid hv5; have HVQ5 := Lib.hid (HVQ.out.below hb5); have HB5 := Lib.hid (HB2.out.trans (hb5.mono HB2.out.size)); clear hv5 hb5)
    | (go_at_call 95; refine (HW.out _ _ (by rw [HRR.out]; exact isQ_int (m := true) HVQ5.out HV5.out)).mono ?_; rintro e w6 ⟨rfl, hb6⟩; have HB6 := Lib.hid (HB5.out.trans (hb6.mono HB5.out.size)); clear hb6))
  refine bodyPost_ret (results_tmp2 rfl _ _ _) rfl ?_
  exact ⟨rfl, HB6.out⟩
set_option maxRecDepth 100000 in
set_option maxHeartbeats 2000000 in
theorem refround_tft (a : ByteArray) (q : Rat) (w : World) (ha : a.size ≤ 270000) (he : errQ a.data.toList = 0) (hq : valQ a.data.toList = q) (hb : ng q = true) (hz : decide (nm q % q.den = 0) = true) (r : List UInt8 × Nat) (hW : ∀ v w, IsQ w v (roundQ q false) → Calls Tryz.prog 95 #[v] w fun e w' => e = .returned (.tuple #[.string ⟨r.1.toArray⟩, .int .i64 (r.2 : Int)]) ∧ Below w.heap.size w w') (sq : Sz maxD q) :
    Calls Tryz.prog 108 #[.string a, .bool false] w fun e w' => e = .returned (.tuple #[.string ⟨r.1.toArray⟩, .int .i64 (r.2 : Int)]) ∧ Below w.heap.size w w' := by
  have HP := Lib.hid (rq_any a w ha)
  have hne : ((errQ a.data.toList : Int) == 0) = true := by rw [he]; rfl
  have HE := Lib.hid he
  rw [hq] at HP
  obtain ⟨lq, lq'⟩ := sz_limbs sq
  have HZ := Lib.hid (fun (N D : Nat) (h1 : nm q = N) (h2 : q.den = D) => show decide (0 < (toL (N % D)).length) = false by rw [len_pos, ← h1, ← h2, hz]; rfl)
  have HRQ := Lib.hid (fun (N D : Nat) (h1 : nm q = N) (h2 : q.den = D) => show roundQ q false = mkQ true (N / D) 1 by
    unfold roundQ
    rw [hb, h1, h2]
    unfold roundP
    rw [h1, h2] at hz
    rw [if_neg (fun x => x.1 (of_decide_eq_true hz))])
  have HLN := Lib.hid (fun (N D : Nat) (h1 : nm q = N) (h2 : q.den = D) => show (toL N).length ≤ 30000 ∧ (toL D).length ≤ 30000 ∧ 0 < D ∧ (toL (N / D)).length ≤ 40000 from ⟨by rw [← h1]; omega, by rw [← h2]; omega, by rw [← h2]; exact den_pos q, by rw [← h1, ← h2]; exact Nat.le_trans (toL_len_mono (Nat.div_le_self _ _)) (by omega)⟩)
  have HBQ := Lib.hid hb
  have HW := Lib.hid hW
  have HO1 := Lib.hid (show (toL 1).length ≤ 40000 from Nat.le_trans (toL_len_le (show 1 < B ^ 1 by rw [B_val]; omega)) (by omega))
  have TK1 : True := trivial
  clear he hq hb hz hW sq
  go_enter Tryz.func108, Tryz.ntmps108
  go_wp2_with (first
    | (go_at_call 76; refine HP.out.mono ?_; rintro e w1 ⟨v, rfl, hv, -, hb⟩; obtain ⟨bq, N, D, A, c, A', c', rfl, hn, hd, HQ⟩ := isQ_open (hv HE.out); have HB := Lib.hid hb; have HX := Lib.hid (below_alloc (Below.refl w1.heap.size w1) (.cells #[.bool bq, .slice A (toL N).length c, .slice A' (toL D).length c'] 64)); have HBX := Lib.hid (HB.out.trans (HX.out.mono HB.out.size)); have HN := Lib.hid (hn.below HX.out); have HD := Lib.hid (hd.below HX.out); clear hb hv hn hd; obtain rfl : bq = true := HQ.out.1.symm.trans HBQ.out; have hzl := HZ.out _ _ HQ.out.2.1 HQ.out.2.2; have HLQ := Lib.hid (HLN.out _ _ HQ.out.2.1 HQ.out.2.2); have HRR := Lib.hid (HRQ.out _ _ HQ.out.2.1 HQ.out.2.2); have HPB := Lib.hid (Blk.new w1 64 #[.bool true, .slice A (toL N).length c, .slice A' (toL D).length c']))
    | (go_at_call 140; refine (rdivide_any N D _ _ _ HN.out HD.out HLQ.out.1 HLQ.out.2.1 HLQ.out.2.2.1).mono ?_; rintro e w2 ⟨vq, vr, rfl, hvq, hvr, hb2⟩; obtain ⟨Aq, cq, rfl, _, _, _⟩ := id hvq; obtain ⟨Ar, cr, rfl, _, _, _⟩ := id hvr; have HVQ := Lib.hid hvq; have HB2 := Lib.hid (HBX.out.trans (hb2.mono HBX.out.size)); obtain ⟨z0, z1, z2⟩ := rows3 (HPB.out.below hb2 HPB.out.lt); have HPB2 := Lib.hid (HPB.out.below hb2 HPB.out.lt); clear hvq hvr hb2)
    | (go_at_call 115; refine (rone_any _).mono ?_; rintro e w5 ⟨v5, rfl, hv5, hb5⟩; obtain ⟨A5, c5, rfl, _, _, _⟩ := id hv5; have HV5 := Lib.hid hv5; have HVQ5 := Lib.hid (HVQ.out.below hb5); have HB5 := Lib.hid (HB2.out.trans (hb5.mono HB2.out.size)); clear hv5 hb5)
    | (go_at_call 95; refine (HW.out _ _ (by rw [HRR.out]; exact isQ_int (m := true) HVQ5.out HV5.out)).mono ?_; rintro e w6 ⟨rfl, hb6⟩; have HB6 := Lib.hid (HB5.out.trans (hb6.mono HB5.out.size)); clear hb6))
  refine bodyPost_ret (results_tmp2 rfl _ _ _) rfl ?_
  exact ⟨rfl, HB6.out⟩
set_option maxRecDepth 100000 in
set_option maxHeartbeats 2000000 in
theorem refround_tff (a : ByteArray) (q : Rat) (w : World) (ha : a.size ≤ 270000) (he : errQ a.data.toList = 0) (hq : valQ a.data.toList = q) (hb : ng q = true) (hz : decide (nm q % q.den = 0) = false) (r : List UInt8 × Nat) (hW : ∀ v w, IsQ w v (roundQ q false) → Calls Tryz.prog 95 #[v] w fun e w' => e = .returned (.tuple #[.string ⟨r.1.toArray⟩, .int .i64 (r.2 : Int)]) ∧ Below w.heap.size w w') (sq : Sz maxD q) :
    Calls Tryz.prog 108 #[.string a, .bool false] w fun e w' => e = .returned (.tuple #[.string ⟨r.1.toArray⟩, .int .i64 (r.2 : Int)]) ∧ Below w.heap.size w w' := by
  have HP := Lib.hid (rq_any a w ha)
  have hne : ((errQ a.data.toList : Int) == 0) = true := by rw [he]; rfl
  have HE := Lib.hid he
  rw [hq] at HP
  obtain ⟨lq, lq'⟩ := sz_limbs sq
  have HZ := Lib.hid (fun (N D : Nat) (h1 : nm q = N) (h2 : q.den = D) => show decide (0 < (toL (N % D)).length) = true by rw [len_pos, ← h1, ← h2, hz]; rfl)
  have HRQ := Lib.hid (fun (N D : Nat) (h1 : nm q = N) (h2 : q.den = D) => show roundQ q false = mkQ true (N / D + 1) 1 by
    unfold roundQ
    rw [hb, h1, h2]
    unfold roundP
    rw [h1, h2] at hz
    rw [if_pos ⟨of_decide_eq_false hz, by decide⟩])
  have HLN := Lib.hid (fun (N D : Nat) (h1 : nm q = N) (h2 : q.den = D) => show (toL N).length ≤ 30000 ∧ (toL D).length ≤ 30000 ∧ 0 < D ∧ (toL (N / D)).length ≤ 40000 from ⟨by rw [← h1]; omega, by rw [← h2]; omega, by rw [← h2]; exact den_pos q, by rw [← h1, ← h2]; exact Nat.le_trans (toL_len_mono (Nat.div_le_self _ _)) (by omega)⟩)
  have HBQ := Lib.hid hb
  have HW := Lib.hid hW
  have HO1 := Lib.hid (show (toL 1).length ≤ 40000 from Nat.le_trans (toL_len_le (show 1 < B ^ 1 by rw [B_val]; omega)) (by omega))
  have TK1 : True := trivial
  clear he hq hb hz hW sq
  go_enter Tryz.func108, Tryz.ntmps108
  go_wp2_with (first
    | (go_at_call 76; refine HP.out.mono ?_; rintro e w1 ⟨v, rfl, hv, -, hb⟩; obtain ⟨bq, N, D, A, c, A', c', rfl, hn, hd, HQ⟩ := isQ_open (hv HE.out); have HB := Lib.hid hb; have HX := Lib.hid (below_alloc (Below.refl w1.heap.size w1) (.cells #[.bool bq, .slice A (toL N).length c, .slice A' (toL D).length c'] 64)); have HBX := Lib.hid (HB.out.trans (HX.out.mono HB.out.size)); have HN := Lib.hid (hn.below HX.out); have HD := Lib.hid (hd.below HX.out); clear hb hv hn hd; obtain rfl : bq = true := HQ.out.1.symm.trans HBQ.out; have hzl := HZ.out _ _ HQ.out.2.1 HQ.out.2.2; have HLQ := Lib.hid (HLN.out _ _ HQ.out.2.1 HQ.out.2.2); have HRR := Lib.hid (HRQ.out _ _ HQ.out.2.1 HQ.out.2.2); have HPB := Lib.hid (Blk.new w1 64 #[.bool true, .slice A (toL N).length c, .slice A' (toL D).length c']))
    | (go_at_call 140; refine (rdivide_any N D _ _ _ HN.out HD.out HLQ.out.1 HLQ.out.2.1 HLQ.out.2.2.1).mono ?_; rintro e w2 ⟨vq, vr, rfl, hvq, hvr, hb2⟩; obtain ⟨Aq, cq, rfl, _, _, _⟩ := id hvq; obtain ⟨Ar, cr, rfl, _, _, _⟩ := id hvr; have HVQ := Lib.hid hvq; have HB2 := Lib.hid (HBX.out.trans (hb2.mono HBX.out.size)); obtain ⟨z0, z1, z2⟩ := rows3 (HPB.out.below hb2 HPB.out.lt); have HPB2 := Lib.hid (HPB.out.below hb2 HPB.out.lt); clear hvq hvr hb2)
    | (clear TK1; go_at_call 115; refine (rone_any _).mono ?_; rintro e w3 ⟨v3, rfl, hv3, hb3⟩; obtain ⟨A3, c3, rfl, _, _, _⟩ := id hv3; have HV3 := Lib.hid hv3; have HVQ3 := Lib.hid (HVQ.out.below hb3); have HB3 := Lib.hid (HB2.out.trans (hb3.mono HB2.out.size)); have HPB3 := Lib.hid (HPB2.out.below hb3 HPB2.out.lt); clear hv3 hb3)
    | (go_at_call 113; refine (rplus_any (N / D) 1 _ _ _ HVQ3.out HV3.out HLQ.out.2.2.2 HO1.out).mono ?_; rintro e w4 ⟨v4, rfl, hv4, hb4⟩; obtain ⟨A4, c4, rfl, _, _, _⟩ := id hv4; have HVQ4 := Lib.hid hv4; have HB4 := Lib.hid (HB3.out.trans (hb4.mono HB3.out.size)); obtain ⟨y0, y1, y2⟩ := rows3 (HPB3.out.below hb4 HPB3.out.lt); clear hv4 hb4)
    | (go_at_call 115; refine (rone_any _).mono ?_; rintro e w5 ⟨v5, rfl, hv5, hb5⟩; obtain ⟨A5, c5, rfl, _, _, _⟩ := id hv5; have HV5 := Lib.hid hv5; have HVQ5 := Lib.hid (HVQ4.out.below hb5); have HB5 := Lib.hid (HB4.out.trans (hb5.mono HB4.out.size)); clear hv5 hb5)
    | (go_at_call 95; refine (HW.out _ _ (by rw [HRR.out]; exact isQ_int (m := true) HVQ5.out HV5.out)).mono ?_; rintro e w6 ⟨rfl, hb6⟩; have HB6 := Lib.hid (HB5.out.trans (hb6.mono HB5.out.size)); clear hb6))
  refine bodyPost_ret (results_tmp2 rfl _ _ _) rfl ?_
  exact ⟨rfl, HB6.out⟩
set_option maxRecDepth 100000 in
set_option maxHeartbeats 2000000 in
theorem refround_ftt (a : ByteArray) (q : Rat) (w : World) (ha : a.size ≤ 270000) (he : errQ a.data.toList = 0) (hq : valQ a.data.toList = q) (hb : ng q = false) (hz : decide (nm q % q.den = 0) = true) (r : List UInt8 × Nat) (hW : ∀ v w, IsQ w v (roundQ q true) → Calls Tryz.prog 95 #[v] w fun e w' => e = .returned (.tuple #[.string ⟨r.1.toArray⟩, .int .i64 (r.2 : Int)]) ∧ Below w.heap.size w w') (sq : Sz maxD q) :
    Calls Tryz.prog 108 #[.string a, .bool true] w fun e w' => e = .returned (.tuple #[.string ⟨r.1.toArray⟩, .int .i64 (r.2 : Int)]) ∧ Below w.heap.size w w' := by
  have HP := Lib.hid (rq_any a w ha)
  have hne : ((errQ a.data.toList : Int) == 0) = true := by rw [he]; rfl
  have HE := Lib.hid he
  rw [hq] at HP
  obtain ⟨lq, lq'⟩ := sz_limbs sq
  have HZ := Lib.hid (fun (N D : Nat) (h1 : nm q = N) (h2 : q.den = D) => show decide (0 < (toL (N % D)).length) = false by rw [len_pos, ← h1, ← h2, hz]; rfl)
  have HRQ := Lib.hid (fun (N D : Nat) (h1 : nm q = N) (h2 : q.den = D) => show roundQ q true = mkQ false (N / D) 1 by
    unfold roundQ
    rw [hb, h1, h2]
    unfold roundP
    rw [h1, h2] at hz
    rw [if_neg (fun x => x.1 (of_decide_eq_true hz))])
  have HLN := Lib.hid (fun (N D : Nat) (h1 : nm q = N) (h2 : q.den = D) => show (toL N).length ≤ 30000 ∧ (toL D).length ≤ 30000 ∧ 0 < D ∧ (toL (N / D)).length ≤ 40000 from ⟨by rw [← h1]; omega, by rw [← h2]; omega, by rw [← h2]; exact den_pos q, by rw [← h1, ← h2]; exact Nat.le_trans (toL_len_mono (Nat.div_le_self _ _)) (by omega)⟩)
  have HBQ := Lib.hid hb
  have HW := Lib.hid hW
  have HO1 := Lib.hid (show (toL 1).length ≤ 40000 from Nat.le_trans (toL_len_le (show 1 < B ^ 1 by rw [B_val]; omega)) (by omega))
  have TK1 : True := trivial
  clear he hq hb hz hW sq
  go_enter Tryz.func108, Tryz.ntmps108
  go_wp2_with (first
    | (go_at_call 76; refine HP.out.mono ?_; rintro e w1 ⟨v, rfl, hv, -, hb⟩; obtain ⟨bq, N, D, A, c, A', c', rfl, hn, hd, HQ⟩ := isQ_open (hv HE.out); have HB := Lib.hid hb; have HX := Lib.hid (below_alloc (Below.refl w1.heap.size w1) (.cells #[.bool bq, .slice A (toL N).length c, .slice A' (toL D).length c'] 64)); have HBX := Lib.hid (HB.out.trans (HX.out.mono HB.out.size)); have HN := Lib.hid (hn.below HX.out); have HD := Lib.hid (hd.below HX.out); clear hb hv hn hd; obtain rfl : bq = false := HQ.out.1.symm.trans HBQ.out; have hzl := HZ.out _ _ HQ.out.2.1 HQ.out.2.2; have HLQ := Lib.hid (HLN.out _ _ HQ.out.2.1 HQ.out.2.2); have HRR := Lib.hid (HRQ.out _ _ HQ.out.2.1 HQ.out.2.2); have HPB := Lib.hid (Blk.new w1 64 #[.bool false, .slice A (toL N).length c, .slice A' (toL D).length c']))
    | (go_at_call 140; refine (rdivide_any N D _ _ _ HN.out HD.out HLQ.out.1 HLQ.out.2.1 HLQ.out.2.2.1).mono ?_; rintro e w2 ⟨vq, vr, rfl, hvq, hvr, hb2⟩; obtain ⟨Aq, cq, rfl, _, _, _⟩ := id hvq; obtain ⟨Ar, cr, rfl, _, _, _⟩ := id hvr; have HVQ := Lib.hid hvq; have HB2 := Lib.hid (HBX.out.trans (hb2.mono HBX.out.size)); obtain ⟨z0, z1, z2⟩ := rows3 (HPB.out.below hb2 HPB.out.lt); have HPB2 := Lib.hid (HPB.out.below hb2 HPB.out.lt); clear hvq hvr hb2)
    | (go_at_call 115; refine (rone_any _).mono ?_; rintro e w5 ⟨v5, rfl, hv5, hb5⟩; obtain ⟨A5, c5, rfl, _, _, _⟩ := id hv5; have HV5 := Lib.hid hv5; have HVQ5 := Lib.hid (HVQ.out.below hb5); have HB5 := Lib.hid (HB2.out.trans (hb5.mono HB2.out.size)); clear hv5 hb5)
    | (go_at_call 95; refine (HW.out _ _ (by rw [HRR.out]; exact isQ_int (m := false) HVQ5.out HV5.out)).mono ?_; rintro e w6 ⟨rfl, hb6⟩; have HB6 := Lib.hid (HB5.out.trans (hb6.mono HB5.out.size)); clear hb6))
  refine bodyPost_ret (results_tmp2 rfl _ _ _) rfl ?_
  exact ⟨rfl, HB6.out⟩
set_option maxRecDepth 100000 in
set_option maxHeartbeats 2000000 in
theorem refround_ftf (a : ByteArray) (q : Rat) (w : World) (ha : a.size ≤ 270000) (he : errQ a.data.toList = 0) (hq : valQ a.data.toList = q) (hb : ng q = false) (hz : decide (nm q % q.den = 0) = false) (r : List UInt8 × Nat) (hW : ∀ v w, IsQ w v (roundQ q true) → Calls Tryz.prog 95 #[v] w fun e w' => e = .returned (.tuple #[.string ⟨r.1.toArray⟩, .int .i64 (r.2 : Int)]) ∧ Below w.heap.size w w') (sq : Sz maxD q) :
    Calls Tryz.prog 108 #[.string a, .bool true] w fun e w' => e = .returned (.tuple #[.string ⟨r.1.toArray⟩, .int .i64 (r.2 : Int)]) ∧ Below w.heap.size w w' := by
  have HP := Lib.hid (rq_any a w ha)
  have hne : ((errQ a.data.toList : Int) == 0) = true := by rw [he]; rfl
  have HE := Lib.hid he
  rw [hq] at HP
  obtain ⟨lq, lq'⟩ := sz_limbs sq
  have HZ := Lib.hid (fun (N D : Nat) (h1 : nm q = N) (h2 : q.den = D) => show decide (0 < (toL (N % D)).length) = true by rw [len_pos, ← h1, ← h2, hz]; rfl)
  have HRQ := Lib.hid (fun (N D : Nat) (h1 : nm q = N) (h2 : q.den = D) => show roundQ q true = mkQ false (N / D + 1) 1 by
    unfold roundQ
    rw [hb, h1, h2]
    unfold roundP
    rw [h1, h2] at hz
    rw [if_pos ⟨of_decide_eq_false hz, by decide⟩])
  have HLN := Lib.hid (fun (N D : Nat) (h1 : nm q = N) (h2 : q.den = D) => show (toL N).length ≤ 30000 ∧ (toL D).length ≤ 30000 ∧ 0 < D ∧ (toL (N / D)).length ≤ 40000 from ⟨by rw [← h1]; omega, by rw [← h2]; omega, by rw [← h2]; exact den_pos q, by rw [← h1, ← h2]; exact Nat.le_trans (toL_len_mono (Nat.div_le_self _ _)) (by omega)⟩)
  have HBQ := Lib.hid hb
  have HW := Lib.hid hW
  have HO1 := Lib.hid (show (toL 1).length ≤ 40000 from Nat.le_trans (toL_len_le (show 1 < B ^ 1 by rw [B_val]; omega)) (by omega))
  have TK1 : True := trivial
  clear he hq hb hz hW sq
  go_enter Tryz.func108, Tryz.ntmps108
  go_wp2_with (first
    | (go_at_call 76; refine HP.out.mono ?_; rintro e w1 ⟨v, rfl, hv, -, hb⟩; obtain ⟨bq, N, D, A, c, A', c', rfl, hn, hd, HQ⟩ := isQ_open (hv HE.out); have HB := Lib.hid hb; have HX := Lib.hid (below_alloc (Below.refl w1.heap.size w1) (.cells #[.bool bq, .slice A (toL N).length c, .slice A' (toL D).length c'] 64)); have HBX := Lib.hid (HB.out.trans (HX.out.mono HB.out.size)); have HN := Lib.hid (hn.below HX.out); have HD := Lib.hid (hd.below HX.out); clear hb hv hn hd; obtain rfl : bq = false := HQ.out.1.symm.trans HBQ.out; have hzl := HZ.out _ _ HQ.out.2.1 HQ.out.2.2; have HLQ := Lib.hid (HLN.out _ _ HQ.out.2.1 HQ.out.2.2); have HRR := Lib.hid (HRQ.out _ _ HQ.out.2.1 HQ.out.2.2); have HPB := Lib.hid (Blk.new w1 64 #[.bool false, .slice A (toL N).length c, .slice A' (toL D).length c']))
    | (go_at_call 140; refine (rdivide_any N D _ _ _ HN.out HD.out HLQ.out.1 HLQ.out.2.1 HLQ.out.2.2.1).mono ?_; rintro e w2 ⟨vq, vr, rfl, hvq, hvr, hb2⟩; obtain ⟨Aq, cq, rfl, _, _, _⟩ := id hvq; obtain ⟨Ar, cr, rfl, _, _, _⟩ := id hvr; have HVQ := Lib.hid hvq; have HB2 := Lib.hid (HBX.out.trans (hb2.mono HBX.out.size)); obtain ⟨z0, z1, z2⟩ := rows3 (HPB.out.below hb2 HPB.out.lt); have HPB2 := Lib.hid (HPB.out.below hb2 HPB.out.lt); clear hvq hvr hb2)
    | (clear TK1; go_at_call 115; refine (rone_any _).mono ?_; rintro e w3 ⟨v3, rfl, hv3, hb3⟩; obtain ⟨A3, c3, rfl, _, _, _⟩ := id hv3; have HV3 := Lib.hid hv3; have HVQ3 := Lib.hid (HVQ.out.below hb3); have HB3 := Lib.hid (HB2.out.trans (hb3.mono HB2.out.size)); have HPB3 := Lib.hid (HPB2.out.below hb3 HPB2.out.lt); clear hv3 hb3)
    | (go_at_call 113; refine (rplus_any (N / D) 1 _ _ _ HVQ3.out HV3.out HLQ.out.2.2.2 HO1.out).mono ?_; rintro e w4 ⟨v4, rfl, hv4, hb4⟩; obtain ⟨A4, c4, rfl, _, _, _⟩ := id hv4; have HVQ4 := Lib.hid hv4; have HB4 := Lib.hid (HB3.out.trans (hb4.mono HB3.out.size)); obtain ⟨y0, y1, y2⟩ := rows3 (HPB3.out.below hb4 HPB3.out.lt); clear hv4 hb4)
    | (go_at_call 115; refine (rone_any _).mono ?_; rintro e w5 ⟨v5, rfl, hv5, hb5⟩; obtain ⟨A5, c5, rfl, _, _, _⟩ := id hv5; have HV5 := Lib.hid hv5; have HVQ5 := Lib.hid (HVQ4.out.below hb5); have HB5 := Lib.hid (HB4.out.trans (hb5.mono HB4.out.size)); clear hv5 hb5)
    | (go_at_call 95; refine (HW.out _ _ (by rw [HRR.out]; exact isQ_int (m := false) HVQ5.out HV5.out)).mono ?_; rintro e w6 ⟨rfl, hb6⟩; have HB6 := Lib.hid (HB5.out.trans (hb6.mono HB5.out.size)); clear hb6))
  refine bodyPost_ret (results_tmp2 rfl _ _ _) rfl ?_
  exact ⟨rfl, HB6.out⟩
set_option maxRecDepth 100000 in
set_option maxHeartbeats 2000000 in
theorem refround_fft (a : ByteArray) (q : Rat) (w : World) (ha : a.size ≤ 270000) (he : errQ a.data.toList = 0) (hq : valQ a.data.toList = q) (hb : ng q = false) (hz : decide (nm q % q.den = 0) = true) (r : List UInt8 × Nat) (hW : ∀ v w, IsQ w v (roundQ q false) → Calls Tryz.prog 95 #[v] w fun e w' => e = .returned (.tuple #[.string ⟨r.1.toArray⟩, .int .i64 (r.2 : Int)]) ∧ Below w.heap.size w w') (sq : Sz maxD q) :
    Calls Tryz.prog 108 #[.string a, .bool false] w fun e w' => e = .returned (.tuple #[.string ⟨r.1.toArray⟩, .int .i64 (r.2 : Int)]) ∧ Below w.heap.size w w' := by
  have HP := Lib.hid (rq_any a w ha)
  have hne : ((errQ a.data.toList : Int) == 0) = true := by rw [he]; rfl
  have HE := Lib.hid he
  rw [hq] at HP
  obtain ⟨lq, lq'⟩ := sz_limbs sq
  have HZ := Lib.hid (fun (N D : Nat) (h1 : nm q = N) (h2 : q.den = D) => show decide (0 < (toL (N % D)).length) = false by rw [len_pos, ← h1, ← h2, hz]; rfl)
  have HRQ := Lib.hid (fun (N D : Nat) (h1 : nm q = N) (h2 : q.den = D) => show roundQ q false = mkQ false (N / D) 1 by
    unfold roundQ
    rw [hb, h1, h2]
    unfold roundP
    rw [h1, h2] at hz
    rw [if_neg (fun x => x.1 (of_decide_eq_true hz))])
  have HLN := Lib.hid (fun (N D : Nat) (h1 : nm q = N) (h2 : q.den = D) => show (toL N).length ≤ 30000 ∧ (toL D).length ≤ 30000 ∧ 0 < D ∧ (toL (N / D)).length ≤ 40000 from ⟨by rw [← h1]; omega, by rw [← h2]; omega, by rw [← h2]; exact den_pos q, by rw [← h1, ← h2]; exact Nat.le_trans (toL_len_mono (Nat.div_le_self _ _)) (by omega)⟩)
  have HBQ := Lib.hid hb
  have HW := Lib.hid hW
  have HO1 := Lib.hid (show (toL 1).length ≤ 40000 from Nat.le_trans (toL_len_le (show 1 < B ^ 1 by rw [B_val]; omega)) (by omega))
  have TK1 : True := trivial
  clear he hq hb hz hW sq
  go_enter Tryz.func108, Tryz.ntmps108
  go_wp2_with (first
    | (go_at_call 76; refine HP.out.mono ?_; rintro e w1 ⟨v, rfl, hv, -, hb⟩; obtain ⟨bq, N, D, A, c, A', c', rfl, hn, hd, HQ⟩ := isQ_open (hv HE.out); have HB := Lib.hid hb; have HX := Lib.hid (below_alloc (Below.refl w1.heap.size w1) (.cells #[.bool bq, .slice A (toL N).length c, .slice A' (toL D).length c'] 64)); have HBX := Lib.hid (HB.out.trans (HX.out.mono HB.out.size)); have HN := Lib.hid (hn.below HX.out); have HD := Lib.hid (hd.below HX.out); clear hb hv hn hd; obtain rfl : bq = false := HQ.out.1.symm.trans HBQ.out; have hzl := HZ.out _ _ HQ.out.2.1 HQ.out.2.2; have HLQ := Lib.hid (HLN.out _ _ HQ.out.2.1 HQ.out.2.2); have HRR := Lib.hid (HRQ.out _ _ HQ.out.2.1 HQ.out.2.2); have HPB := Lib.hid (Blk.new w1 64 #[.bool false, .slice A (toL N).length c, .slice A' (toL D).length c']))
    | (go_at_call 140; refine (rdivide_any N D _ _ _ HN.out HD.out HLQ.out.1 HLQ.out.2.1 HLQ.out.2.2.1).mono ?_; rintro e w2 ⟨vq, vr, rfl, hvq, hvr, hb2⟩; obtain ⟨Aq, cq, rfl, _, _, _⟩ := id hvq; obtain ⟨Ar, cr, rfl, _, _, _⟩ := id hvr; have HVQ := Lib.hid hvq; have HB2 := Lib.hid (HBX.out.trans (hb2.mono HBX.out.size)); obtain ⟨z0, z1, z2⟩ := rows3 (HPB.out.below hb2 HPB.out.lt); have HPB2 := Lib.hid (HPB.out.below hb2 HPB.out.lt); clear hvq hvr hb2)
    | (go_at_call 115; refine (rone_any _).mono ?_; rintro e w5 ⟨v5, rfl, hv5, hb5⟩; obtain ⟨A5, c5, rfl, _, _, _⟩ := id hv5; have HV5 := Lib.hid hv5; have HVQ5 := Lib.hid (HVQ.out.below hb5); have HB5 := Lib.hid (HB2.out.trans (hb5.mono HB2.out.size)); clear hv5 hb5)
    | (go_at_call 95; refine (HW.out _ _ (by rw [HRR.out]; exact isQ_int (m := false) HVQ5.out HV5.out)).mono ?_; rintro e w6 ⟨rfl, hb6⟩; have HB6 := Lib.hid (HB5.out.trans (hb6.mono HB5.out.size)); clear hb6))
  refine bodyPost_ret (results_tmp2 rfl _ _ _) rfl ?_
  exact ⟨rfl, HB6.out⟩
set_option maxRecDepth 100000 in
set_option maxHeartbeats 2000000 in
theorem refround_fff (a : ByteArray) (q : Rat) (w : World) (ha : a.size ≤ 270000) (he : errQ a.data.toList = 0) (hq : valQ a.data.toList = q) (hb : ng q = false) (hz : decide (nm q % q.den = 0) = false) (r : List UInt8 × Nat) (hW : ∀ v w, IsQ w v (roundQ q false) → Calls Tryz.prog 95 #[v] w fun e w' => e = .returned (.tuple #[.string ⟨r.1.toArray⟩, .int .i64 (r.2 : Int)]) ∧ Below w.heap.size w w') (sq : Sz maxD q) :
    Calls Tryz.prog 108 #[.string a, .bool false] w fun e w' => e = .returned (.tuple #[.string ⟨r.1.toArray⟩, .int .i64 (r.2 : Int)]) ∧ Below w.heap.size w w' := by
  have HP := Lib.hid (rq_any a w ha)
  have hne : ((errQ a.data.toList : Int) == 0) = true := by rw [he]; rfl
  have HE := Lib.hid he
  rw [hq] at HP
  obtain ⟨lq, lq'⟩ := sz_limbs sq
  have HZ := Lib.hid (fun (N D : Nat) (h1 : nm q = N) (h2 : q.den = D) => show decide (0 < (toL (N % D)).length) = true by rw [len_pos, ← h1, ← h2, hz]; rfl)
  have HRQ := Lib.hid (fun (N D : Nat) (h1 : nm q = N) (h2 : q.den = D) => show roundQ q false = mkQ false (N / D) 1 by
    unfold roundQ
    rw [hb, h1, h2]
    unfold roundP
    rw [h1, h2] at hz
    rw [if_neg (fun x => x.2 rfl)])
  have HLN := Lib.hid (fun (N D : Nat) (h1 : nm q = N) (h2 : q.den = D) => show (toL N).length ≤ 30000 ∧ (toL D).length ≤ 30000 ∧ 0 < D ∧ (toL (N / D)).length ≤ 40000 from ⟨by rw [← h1]; omega, by rw [← h2]; omega, by rw [← h2]; exact den_pos q, by rw [← h1, ← h2]; exact Nat.le_trans (toL_len_mono (Nat.div_le_self _ _)) (by omega)⟩)
  have HBQ := Lib.hid hb
  have HW := Lib.hid hW
  have HO1 := Lib.hid (show (toL 1).length ≤ 40000 from Nat.le_trans (toL_len_le (show 1 < B ^ 1 by rw [B_val]; omega)) (by omega))
  have TK1 : True := trivial
  clear he hq hb hz hW sq
  go_enter Tryz.func108, Tryz.ntmps108
  go_wp2_with (first
    | (go_at_call 76; refine HP.out.mono ?_; rintro e w1 ⟨v, rfl, hv, -, hb⟩; obtain ⟨bq, N, D, A, c, A', c', rfl, hn, hd, HQ⟩ := isQ_open (hv HE.out); have HB := Lib.hid hb; have HX := Lib.hid (below_alloc (Below.refl w1.heap.size w1) (.cells #[.bool bq, .slice A (toL N).length c, .slice A' (toL D).length c'] 64)); have HBX := Lib.hid (HB.out.trans (HX.out.mono HB.out.size)); have HN := Lib.hid (hn.below HX.out); have HD := Lib.hid (hd.below HX.out); clear hb hv hn hd; obtain rfl : bq = false := HQ.out.1.symm.trans HBQ.out; have hzl := HZ.out _ _ HQ.out.2.1 HQ.out.2.2; have HLQ := Lib.hid (HLN.out _ _ HQ.out.2.1 HQ.out.2.2); have HRR := Lib.hid (HRQ.out _ _ HQ.out.2.1 HQ.out.2.2); have HPB := Lib.hid (Blk.new w1 64 #[.bool false, .slice A (toL N).length c, .slice A' (toL D).length c']))
    | (go_at_call 140; refine (rdivide_any N D _ _ _ HN.out HD.out HLQ.out.1 HLQ.out.2.1 HLQ.out.2.2.1).mono ?_; rintro e w2 ⟨vq, vr, rfl, hvq, hvr, hb2⟩; obtain ⟨Aq, cq, rfl, _, _, _⟩ := id hvq; obtain ⟨Ar, cr, rfl, _, _, _⟩ := id hvr; have HVQ := Lib.hid hvq; have HB2 := Lib.hid (HBX.out.trans (hb2.mono HBX.out.size)); obtain ⟨z0, z1, z2⟩ := rows3 (HPB.out.below hb2 HPB.out.lt); have HPB2 := Lib.hid (HPB.out.below hb2 HPB.out.lt); clear hvq hvr hb2)
    | (go_at_call 115; refine (rone_any _).mono ?_; rintro e w5 ⟨v5, rfl, hv5, hb5⟩; obtain ⟨A5, c5, rfl, _, _, _⟩ := id hv5; have HV5 := Lib.hid hv5; have HVQ5 := Lib.hid (HVQ.out.below hb5); have HB5 := Lib.hid (HB2.out.trans (hb5.mono HB2.out.size)); clear hv5 hb5)
    | (go_at_call 95; refine (HW.out _ _ (by rw [HRR.out]; exact isQ_int (m := false) HVQ5.out HV5.out)).mono ?_; rintro e w6 ⟨rfl, hb6⟩; have HB6 := Lib.hid (HB5.out.trans (hb6.mono HB5.out.size)); clear hb6))
  refine bodyPost_ret (results_tmp2 rfl _ _ _) rfl ?_
  exact ⟨rfl, HB6.out⟩
theorem refround_any (a : ByteArray) (up : Bool) (w : World) (ha : a.size ≤ 270000) :
    Calls Tryz.prog 108 #[.string a, .bool up] w fun e w' => e = .returned (resN (oneQ (fun q => outQ (roundQ q up)) a.data.toList)) ∧ Below w.heap.size w w' := by
  unfold oneQ
  by_cases he : errQ a.data.toList = 0
  · rw [if_neg (by omega)]
    have sq := sz_max he
    generalize hq : valQ a.data.toList = q at sq ⊢
    obtain ⟨l1, l2⟩ := sz_limbs sq
    obtain ⟨lr, lr'⟩ := nm_round_le q up l1
    have hW := fun v w h => rwriteQ_any (roundQ q up) v w h lr lr'
    generalize hb : ng q = b
    generalize hz : decide (nm q % q.den = 0) = z
    unfold resN at hW ⊢
    cases b <;> cases up <;> cases z
    · exact refround_fff a q w ha he hq hb hz _ hW sq
    · exact refround_fft a q w ha he hq hb hz _ hW sq
    · exact refround_ftf a q w ha he hq hb hz _ hW sq
    · exact refround_ftt a q w ha he hq hb hz _ hW sq
    · exact refround_tff a q w ha he hq hb hz _ hW sq
    · exact refround_tft a q w ha he hq hb hz _ hW sq
    · exact refround_ttf a q w ha he hq hb hz _ hW sq
    · exact refround_ttt a q w ha he hq hb hz _ hW sq
  · rw [if_pos he]
    exact refround_err a up w ha he
set_option maxRecDepth 100000 in
theorem refFloor_any (a : ByteArray) (w : World) (ha : a.size ≤ 270000) :
    Calls Tryz.prog 52 #[.string a] w fun e w' => e = .returned (resN (oneQ (fun q => outQ (q.floor : Rat)) a.data.toList)) ∧ Below w.heap.size w w' := by
  have hf : (fun q : Rat => outQ (q.floor : Rat)) = fun q => outQ (roundQ q false) := by funext q; unfold roundQ; rw [round_floor]
  rw [hf]
  have HB := Lib.hid (refround_any a false w ha)
  generalize oneQ (fun q => outQ (roundQ q false)) a.data.toList = r at HB ⊢
  clear hf
  go_enter Tryz.func52, Tryz.ntmps52
  go_wp2_with (go_at_call 108; refine HB.out.mono ?_; rintro e w2 ⟨rfl, hb2⟩; have HB2 := Lib.hid hb2; clear hb2; unfold resN)
  refine bodyPost_ret (results_tmp2 rfl _ _ _) rfl ?_
  exact ⟨rfl, HB2.out⟩
set_option maxRecDepth 100000 in
theorem refCeil_any (a : ByteArray) (w : World) (ha : a.size ≤ 270000) :
    Calls Tryz.prog 53 #[.string a] w fun e w' => e = .returned (resN (oneQ (fun q => outQ (q.ceil : Rat)) a.data.toList)) ∧ Below w.heap.size w w' := by
  have hf : (fun q : Rat => outQ (q.ceil : Rat)) = fun q => outQ (roundQ q true) := by funext q; unfold roundQ; rw [round_ceil]
  rw [hf]
  have HB := Lib.hid (refround_any a true w ha)
  generalize oneQ (fun q => outQ (roundQ q true)) a.data.toList = r at HB ⊢
  clear hf
  go_enter Tryz.func53, Tryz.ntmps53
  go_wp2_with (go_at_call 108; refine HB.out.mono ?_; rintro e w2 ⟨rfl, hb2⟩; have HB2 := Lib.hid hb2; clear hb2; unfold resN)
  refine bodyPost_ret (results_tmp2 rfl _ _ _) rfl ?_
  exact ⟨rfl, HB2.out⟩
set_option maxRecDepth 100000 in
set_option maxHeartbeats 1000000 in
theorem refsign_zero (a : ByteArray) (q : Rat) (w : World) (ha : a.size ≤ 270000) (he : errQ a.data.toList = 0) (hq : valQ a.data.toList = q) (h0 : nm q = 0) :
    Calls Tryz.prog 55 #[.string a] w fun e w' => e = .returned (.tuple #[.int .i64 0, .int .i64 0]) ∧ Below w.heap.size w w' := by
  have HP := Lib.hid (rq_any a w ha)
  have hne : ((errQ a.data.toList : Int) == 0) = true := by rw [he]; rfl
  have HE := Lib.hid he
  rw [hq] at HP
  have HF := Lib.hid (fun (b : Bool) (N : Nat) (h : ng q = b ∧ nm q = N) => show (((toL N).length : Int) == 0) = true ∧ b = b from ⟨by rw [len_zero, ← h.2, decide_eq_true h0], rfl⟩)
  clear h0
  clear he hq
  go_enter Tryz.func55, Tryz.ntmps55
  go_wp2_with (go_at_call 76; refine HP.out.mono ?_; rintro e w1 ⟨v, rfl, hv, -, hb⟩; obtain ⟨bq, N, D, A, c, A', c', rfl, hn, hd, HQ⟩ := isQ_open (hv HE.out); have HB := Lib.hid hb; have HX := Lib.hid (below_alloc (Below.refl w1.heap.size w1) (.cells #[.bool bq, .slice A (toL N).length c, .slice A' (toL D).length c'] 64)); have HBX := Lib.hid (HB.out.trans (HX.out.mono HB.out.size)); have HN := Lib.hid (hn.below HX.out); have HD := Lib.hid (hd.below HX.out); clear hb hv hn hd; obtain ⟨f1, f2⟩ := HF.out _ _ ⟨HQ.out.1, HQ.out.2.1⟩)
  all_goals first
    | (refine bodyPost_ret (results_tmp2 rfl _ _ _) rfl ?_; refine ⟨?_, HBX.out⟩; show Ending.returned (.tuple #[.int .i64 0, .int .i64 (errQ a.data.toList : Int)]) = _; rw [HE.out]; rfl)
    | (exfalso; have := HE.out; omega)
    | (exfalso; simp_all)
set_option maxRecDepth 100000 in
set_option maxHeartbeats 1000000 in
theorem refsign_neg (a : ByteArray) (q : Rat) (w : World) (ha : a.size ≤ 270000) (he : errQ a.data.toList = 0) (hq : valQ a.data.toList = q) (h0 : nm q ≠ 0) (hb : ng q = true) :
    Calls Tryz.prog 55 #[.string a] w fun e w' => e = .returned (.tuple #[.int .i64 (-1), .int .i64 0]) ∧ Below w.heap.size w w' := by
  have HP := Lib.hid (rq_any a w ha)
  have hne : ((errQ a.data.toList : Int) == 0) = true := by rw [he]; rfl
  have HE := Lib.hid he
  rw [hq] at HP
  have HF := Lib.hid (fun (b : Bool) (N : Nat) (h : ng q = b ∧ nm q = N) => show (((toL N).length : Int) == 0) = false ∧ b = true from ⟨by rw [len_zero, ← h.2, decide_eq_false h0], h.1.symm.trans hb⟩)
  clear h0 hb
  clear he hq
  go_enter Tryz.func55, Tryz.ntmps55
  go_wp2_with (go_at_call 76; refine HP.out.mono ?_; rintro e w1 ⟨v, rfl, hv, -, hb⟩; obtain ⟨bq, N, D, A, c, A', c', rfl, hn, hd, HQ⟩ := isQ_open (hv HE.out); have HB := Lib.hid hb; have HX := Lib.hid (below_alloc (Below.refl w1.heap.size w1) (.cells #[.bool bq, .slice A (toL N).length c, .slice A' (toL D).length c'] 64)); have HBX := Lib.hid (HB.out.trans (HX.out.mono HB.out.size)); have HN := Lib.hid (hn.below HX.out); have HD := Lib.hid (hd.below HX.out); clear hb hv hn hd; obtain ⟨f1, f2⟩ := HF.out _ _ ⟨HQ.out.1, HQ.out.2.1⟩; subst f2)
  all_goals first
    | (refine bodyPost_ret (results_tmp2 rfl _ _ _) rfl ?_; exact ⟨rfl, HBX.out⟩)
    | (exfalso; have := beq_eq_false_iff_ne.1 f1; omega)
    | (exfalso; simp_all)
set_option maxRecDepth 100000 in
set_option maxHeartbeats 1000000 in
theorem refsign_pos (a : ByteArray) (q : Rat) (w : World) (ha : a.size ≤ 270000) (he : errQ a.data.toList = 0) (hq : valQ a.data.toList = q) (h0 : nm q ≠ 0) (hb : ng q = false) :
    Calls Tryz.prog 55 #[.string a] w fun e w' => e = .returned (.tuple #[.int .i64 1, .int .i64 0]) ∧ Below w.heap.size w w' := by
  have HP := Lib.hid (rq_any a w ha)
  have hne : ((errQ a.data.toList : Int) == 0) = true := by rw [he]; rfl
  have HE := Lib.hid he
  rw [hq] at HP
  have HF := Lib.hid (fun (b : Bool) (N : Nat) (h : ng q = b ∧ nm q = N) => show (((toL N).length : Int) == 0) = false ∧ b = false from ⟨by rw [len_zero, ← h.2, decide_eq_false h0], h.1.symm.trans hb⟩)
  clear h0 hb
  clear he hq
  go_enter Tryz.func55, Tryz.ntmps55
  go_wp2_with (go_at_call 76; refine HP.out.mono ?_; rintro e w1 ⟨v, rfl, hv, -, hb⟩; obtain ⟨bq, N, D, A, c, A', c', rfl, hn, hd, HQ⟩ := isQ_open (hv HE.out); have HB := Lib.hid hb; have HX := Lib.hid (below_alloc (Below.refl w1.heap.size w1) (.cells #[.bool bq, .slice A (toL N).length c, .slice A' (toL D).length c'] 64)); have HBX := Lib.hid (HB.out.trans (HX.out.mono HB.out.size)); have HN := Lib.hid (hn.below HX.out); have HD := Lib.hid (hd.below HX.out); clear hb hv hn hd; obtain ⟨f1, f2⟩ := HF.out _ _ ⟨HQ.out.1, HQ.out.2.1⟩; subst f2)
  all_goals first
    | (refine bodyPost_ret (results_tmp2 rfl _ _ _) rfl ?_; exact ⟨rfl, HBX.out⟩)
    | (exfalso; have := beq_eq_false_iff_ne.1 f1; omega)
    | (exfalso; simp_all)
set_option maxRecDepth 100000 in
set_option maxHeartbeats 1000000 in
theorem refSign_err (a : ByteArray) (w : World) (ha : a.size ≤ 270000) (he : errQ a.data.toList ≠ 0) :
    Calls Tryz.prog 55 #[.string a] w fun e w' => e = .returned (.tuple #[.int .i64 0, .int .i64 (errQ a.data.toList : Int)]) ∧ Below w.heap.size w w' := by
  have HP := Lib.hid (rq_any a w ha)
  have hne : ((errQ a.data.toList : Int) == 0) = false := by rw [beq_eq_false_iff_ne]; omega
  have HE := Lib.hid he
  clear he
  go_enter Tryz.func55, Tryz.ntmps55
  go_wp2_with ((go_at_call 76; refine HP.out.mono ?_; rintro e w1 ⟨v, rfl, -, hz, hb⟩; obtain rfl := hz HE.out; have HB := Lib.hid hb; clear hb hz))
  all_goals first
    | (refine bodyPost_ret (results_tmp2 rfl _ _ _) rfl ?_; exact ⟨rfl, below_alloc HB.out _⟩)
    | (exfalso; have := HE.out; omega)
    | (exfalso; simp_all)
theorem refSign_any (a : ByteArray) (w : World) (ha : a.size ≤ 270000) :
    Calls Tryz.prog 55 #[.string a] w fun e w' => e = .returned (resI (oneI (fun p => (sgQ p, 0)) a.data.toList)) ∧ Below w.heap.size w w' := by
  unfold oneI
  by_cases he : errQ a.data.toList = 0
  · rw [if_neg (by omega)]
    unfold resI sgQ
    dsimp only
    by_cases h0 : nm (valQ a.data.toList) = 0
    · rw [if_pos h0]
      exact refsign_zero a _ w ha he rfl h0
    · rw [if_neg h0]
      cases hb : ng (valQ a.data.toList) with
      | true => exact refsign_neg a _ w ha he rfl h0 hb
      | false => exact refsign_pos a _ w ha he rfl h0 hb
  · rw [if_pos he]
    exact refSign_err a w ha he
end Go.Proofs.YtjoifmnolmimkaaGreatDoor
