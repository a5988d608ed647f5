/- rat: Div, Inv, Check, Make, Parts. rat.Pow. The reference of rational numbers: the form of texts. The reference's step: one limb of a quotient. -/
import Derived.Test.YtjoifmnolmimkaaGreatDoorRb10
import Derived.Test.YtjoifmnolmimkaaGreatDoorRb09
import Derived.Test.YtjoifmnolmimkaaGreatDoorRb08
import Derived.Deep.CutBlock
namespace Go.Proofs.YtjoifmnolmimkaaGreatDoor
open Go.RowKit Go.Shelf
open Lim

theorem sgQ_zero (q : Rat) : (sgQ q == 0) = decide (q = 0) := by
  unfold sgQ
  by_cases h : q = 0
  · rw [if_pos (nm_zero.2 h), decide_eq_true h]; rfl
  · rw [if_neg (fun e => h (nm_zero.1 e)), decide_eq_false h]
    split <;> rfl
theorem runs_Div : Runs 74 := runs_of Tryz.func74 (by kernel_rfl) (by kernel_rfl)
set_option maxRecDepth 100000 in
set_option maxHeartbeats 2000000 in
theorem Div1_any (p q : Rat) (v v' : Value) (w : World) (hr : Res w) (hv : IsFrac w v p) (hv' : IsFrac w v' q) (sp : Sz maxD p) (sq : Sz maxD q) :
    Calls Tryz.prog 74 #[v, v'] w fun e w' => e = .returned (resN (divQ p q)) ∧ Below w.heap.size w w' := by
  obtain ⟨lp, lp'⟩ := sz_limbs sp
  obtain ⟨lq, lq'⟩ := sz_limbs sq
  obtain ⟨lr, lr'⟩ := sz_limbs2 (sp.mul sq.inv) (by unfold maxD; omega)
  obtain ⟨bq, N, D, A, c, A', c', rfl, hn, hd, HQ⟩ := isFrac_open hv
  obtain ⟨bq', N', D', B, d, B', d', rfl, hn', hd', HQ'⟩ := isFrac_open hv'
  have HX := Lib.hid (below_alloc (below_alloc (Below.refl w.heap.size w) (.cells #[.bool bq, .slice A (toL N).length c, .slice A' (toL D).length c'] 50)) (.cells #[.bool bq', .slice B (toL N').length d, .slice B' (toL D').length d'] 50))
  have HP0 := Lib.hid ((Blk.new w 50 #[.bool bq, .slice A (toL N).length c, .slice A' (toL D).length c']).alloc (.cells #[.bool bq', .slice B (toL N').length d, .slice B' (toL D').length d'] 50))
  have HP1 := Lib.hid (Blk.new (w.alloc (.cells #[.bool bq, .slice A (toL N).length c, .slice A' (toL D).length c'] 50)) 50 #[.bool bq', .slice B (toL N').length d, .slice B' (toL D').length d'])
  have hz := sgQ_zero q
  have HS := Lib.hid (sign_any q _ _ (hv'.below HX.out))
  have HV := Lib.hid hv
  have HV' := Lib.hid hv'
  have HR := Lib.hid hr
  unfold divQ
  by_cases h0 : q = 0
  · rw [if_pos h0]
    rw [decide_eq_true h0] at hz
    clear hr hv hv' hn hd hn' hd' sp sq lp lp' lq lq' lr lr' h0
    go_enter Tryz.func74, Tryz.ntmps74
    go_wp2_with (go_at_call 61; refine HS.out.mono ?_; rintro e w3 ⟨rfl, hb3⟩; have HB3 := Lib.hid (HX.out.trans (hb3.mono HX.out.size)); clear hb3)
    refine bodyPost_ret (results_tmp2 rfl _ _ _) rfl ?_
    exact ⟨rfl, HB3.out⟩
  · rw [if_neg h0]
    rw [decide_eq_false h0] at hz
    have HF := Lib.hid (fun v v' w hv hv' => fdiv_any p q v v' w hv hv' (Lib.hid h0) (by omega) (by omega) (by omega) (by omega))
    have HN := Lib.hid (fun v w hv hr => fnum_any (p * q⁻¹) v w hv hr lr lr')
    generalize outQ (p * q⁻¹) = r at HN ⊢
    clear hr hv hv' hn hd hn' hd' sp sq lp lp' lq lq' lr lr' h0
    go_enter Tryz.func74, Tryz.ntmps74
    go_wp2_with (first
      | (go_at_call 61; refine HS.out.mono ?_; rintro e w3 ⟨rfl, hb3⟩; have HB3 := Lib.hid (HX.out.trans (hb3.mono HX.out.size)); obtain ⟨x0, x1, x2⟩ := rows_of HP0.out hb3 HP0.out.lt; obtain ⟨y0, y1, y2⟩ := rows_of HP1.out hb3 HP1.out.lt; rw [World.size_alloc] at y0 y1 y2; clear hb3)
      | (go_at_call 75; refine (HF.out _ _ _ (HV.out.below HB3.out) (HV'.out.below HB3.out)).mono ?_; rintro e w1 ⟨v1, rfl, hv1, hb1⟩; have HV1 := Lib.hid hv1; have HB1 := Lib.hid (HB3.out.trans (hb1.mono HB3.out.size)); clear hv1 hb1)
      | (go_at_call 64; refine (HN.out _ _ HV1.out (HR.out.below HB1.out)).mono ?_; rintro e w2 ⟨rfl, hb2⟩; have HB2 := Lib.hid (HB1.out.trans (hb2.mono HB1.out.size)); clear hb2))
    refine bodyPost_ret (results_tmp2 rfl _ _ _) rfl ?_
    exact ⟨rfl, HB2.out⟩

set_option maxRecDepth 100000 in
/-- rat.Div. -/
theorem ratDiv_any (a b : ByteArray) (w : World) (ha : a.size ≤ 270000) (hb : b.size ≤ 270000) (hr : Res w) :
    Calls Tryz.prog 22 #[.string a, .string b] w fun e w' => e = .returned (resN (twoQ divQ a.data.toList b.data.toList)) ∧ Below w.heap.size w w' := by
  have HB := Lib.hid (bothN_any 74 runs_Div divQ a b w ha hb hr (fun p q v v' w' hr' hv hv' sp sq => Div1_any p q v v' w' hr' hv hv' sp sq))
  generalize twoQ divQ a.data.toList b.data.toList = r at HB ⊢
  clear hr
  go_enter Tryz.func22, Tryz.ntmps22
  go_wp2_with (go_at_call 65; refine HB.out.mono ?_; rintro e w2 ⟨rfl, hb2⟩; have HB2 := Lib.hid hb2; clear hb2; unfold resN)
  refine bodyPost_ret (results_tmp2 rfl _ _ _) rfl ?_
  exact ⟨rfl, HB2.out⟩

set_option maxRecDepth 100000 in
/-- rat.Inv. -/
theorem ratInv_any (a : ByteArray) (w : World) (ha : a.size ≤ 270000) (hr : Res w) :
    Calls Tryz.prog 15 #[.string a] w fun e w' => e = .returned (resN (twoQ divQ [49] a.data.toList)) ∧ Below w.heap.size w w' := by
  have HB := Lib.hid (ratDiv_any ⟨#[49]⟩ a w (by decide) ha hr)
  have e : (⟨#[49]⟩ : ByteArray).data.toList = [49] := rfl
  rw [e] at HB
  generalize twoQ divQ [49] a.data.toList = r at HB ⊢
  clear hr e
  go_enter Tryz.func15, Tryz.ntmps15
  go_wp2_with (go_at_call 22; refine HB.out.mono ?_; rintro e w2 ⟨rfl, hb2⟩; have HB2 := Lib.hid hb2; clear hb2; unfold resN)
  refine bodyPost_ret (results_tmp2 rfl _ _ _) rfl ?_
  exact ⟨rfl, HB2.out⟩

theorem frac_shape {w : World} {v : Value} {s : List UInt8} (h : errQ s = 0 → IsFrac w v (valQ s)) (hz : errQ s ≠ 0 → v = zV) : ∃ (bq : Bool) (A A' : Option Addr) (l c l' c' : Nat), v = .agg #[.bool bq, .slice A l c, .slice A' l' c'] := by
  by_cases he : errQ s = 0
  · obtain ⟨bq, N, D, A, c, A', c', rfl, _⟩ := isFrac_open (h he)
    exact ⟨_, _, _, _, _, _, _, rfl⟩
  · exact ⟨_, _, _, _, _, _, _, hz he⟩
set_option maxRecDepth 100000 in
/-- rat.Check. -/
theorem ratCheck_any (a : ByteArray) (w : World) (ha : a.size ≤ 270000) (hr : Res w) :
    Calls Tryz.prog 56 #[.string a] w fun e w' => e = .returned (.int .i64 (errQ a.data.toList : Int)) ∧ Below w.heap.size w w' := by
  have HP := Lib.hid (fparse_any a w ha hr)
  clear hr
  go_enter Tryz.func56, Tryz.ntmps56
  go_wp2_with (go_at_call 111; refine HP.out.mono ?_; rintro e w1 ⟨v, rfl, hv, hz, hb⟩; obtain ⟨bq, A, A', l, c, l', c', rfl⟩ := frac_shape hv hz; have HB := Lib.hid hb; clear hb hz hv)
  go_ret
  exact ⟨rfl, below_alloc HB.out _⟩

/-- Make's result. -/
def makeQ (a b : List UInt8) : List UInt8 × Nat :=
  if intOk a = false then ([], 3) else if 4000 < (intP a).2.length then ([], 5) else if errN b ≠ 0 then ([], errN b) else if b = [48] then ([], 6) else outQ (mkQ (intP a).1 (dv (intP a).2) (dv b))
set_option maxRecDepth 100000 in
set_option maxHeartbeats 2000000 in
theorem make1 (a b n2 : ByteArray) (m ok : Bool) (w : World) (ha : a.size ≤ 270000) (_hb : b.size ≤ 270000) (_hn : n2.size ≤ 270000) (hr : Res w) (hi : intP a.data.toList = (m, n2.data.toList)) (hok : intOk a.data.toList = ok) (h0 : ok = false) :
    Calls Tryz.prog 26 #[.string a, .string b] w fun e w' => e = .returned (resN ([], 3)) ∧ Below w.heap.size w w' := by
  have HI := Lib.hid (And.intro hi hok)
  have HR := Lib.hid hr
  subst h0
  clear hi hok hr
  go_enter Tryz.func26, Tryz.ntmps26
  go_wp2_with (first
    | (go_at_call 78; refine (integer_any a _ (by omega)).mono ?_; rintro e w2 ⟨rfl, hb2⟩; rw [HI.out.1, HI.out.2]; dsimp only; rw [beta_ba]; have HB2 := Lib.hid hb2; clear hb2))
  refine bodyPost_ret (results_tmp2 rfl _ _ _) rfl ?_
  exact ⟨rfl, HB2.out⟩

set_option maxRecDepth 100000 in
set_option maxHeartbeats 2000000 in
theorem make2 (a b n2 : ByteArray) (m ok : Bool) (w : World) (ha : a.size ≤ 270000) (_hb : b.size ≤ 270000) (hn : n2.size ≤ 270000) (hr : Res w) (hi : intP a.data.toList = (m, n2.data.toList)) (hok : intOk a.data.toList = ok) (h0 : ok = true) (h1 : 4000 < n2.size) :
    Calls Tryz.prog 26 #[.string a, .string b] w fun e w' => e = .returned (resN ([], 5)) ∧ Below w.heap.size w w' := by
  have HI := Lib.hid (And.intro hi hok)
  have HR := Lib.hid hr
  have hl1 : decide ((4000 : Int) < (n2.size : Int)) = true := decide_eq_true (by omega)
  clear h1
  subst h0
  clear hi hok hr
  go_enter Tryz.func26, Tryz.ntmps26
  go_wp2_with (first
    | (go_at_call 78; refine (integer_any a _ (by omega)).mono ?_; rintro e w2 ⟨rfl, hb2⟩; rw [HI.out.1, HI.out.2]; dsimp only; rw [beta_ba]; have HB2 := Lib.hid hb2; clear hb2))
  refine bodyPost_ret (results_tmp2 rfl _ _ _) rfl ?_
  exact ⟨rfl, HB2.out⟩

set_option maxRecDepth 100000 in
set_option maxHeartbeats 2000000 in
theorem make3 (a b n2 : ByteArray) (m ok : Bool) (w : World) (ha : a.size ≤ 270000) (hb : b.size ≤ 270000) (hn : n2.size ≤ 270000) (hr : Res w) (hi : intP a.data.toList = (m, n2.data.toList)) (hok : intOk a.data.toList = ok) (h0 : ok = true) (h1 : n2.size ≤ 4000) (h2 : errN b.data.toList ≠ 0) :
    Calls Tryz.prog 26 #[.string a, .string b] w fun e w' => e = .returned (resN ([], errN b.data.toList)) ∧ Below w.heap.size w w' := by
  have HI := Lib.hid (And.intro hi hok)
  have HR := Lib.hid hr
  have hl1 : decide ((4000 : Int) < (n2.size : Int)) = false := decide_eq_false (by omega)
  have hne : ((errN b.data.toList : Int) == 0) = false := by rw [beq_eq_false_iff_ne]; omega
  clear h1 h2
  subst h0
  clear hi hok hr
  go_enter Tryz.func26, Tryz.ntmps26
  go_wp2_with (first
    | (go_at_call 78; refine (integer_any a _ (by omega)).mono ?_; rintro e w2 ⟨rfl, hb2⟩; rw [HI.out.1, HI.out.2]; dsimp only; rw [beta_ba]; have HB2 := Lib.hid hb2; clear hb2)
    | (go_at_call 79; refine (ncheck_any b _ (by omega)).mono ?_; rintro e w3 ⟨rfl, hb3⟩; have HB3 := Lib.hid (HB2.out.trans (hb3.mono HB2.out.size)); clear hb3))
  refine bodyPost_ret (results_tmp2 rfl _ _ _) rfl ?_
  exact ⟨rfl, HB3.out⟩

set_option maxRecDepth 100000 in
set_option maxHeartbeats 2000000 in
theorem make4 (a b n2 : ByteArray) (m ok : Bool) (w : World) (ha : a.size ≤ 270000) (hb : b.size ≤ 270000) (hn : n2.size ≤ 270000) (hr : Res w) (hi : intP a.data.toList = (m, n2.data.toList)) (hok : intOk a.data.toList = ok) (h0 : ok = true) (h1 : n2.size ≤ 4000) (h2 : errN b.data.toList = 0) (h3 : (b.toList == [48]) = true) :
    Calls Tryz.prog 26 #[.string a, .string b] w fun e w' => e = .returned (resN ([], 6)) ∧ Below w.heap.size w w' := by
  have HI := Lib.hid (And.intro hi hok)
  have HR := Lib.hid hr
  have hl1 : decide ((4000 : Int) < (n2.size : Int)) = false := decide_eq_false (by omega)
  have hne : ((errN b.data.toList : Int) == 0) = true := by rw [h2]; rfl
  clear h1 h2
  subst h0
  clear hi hok hr
  go_enter Tryz.func26, Tryz.ntmps26
  go_wp2_with (first
    | (go_at_call 78; refine (integer_any a _ (by omega)).mono ?_; rintro e w2 ⟨rfl, hb2⟩; rw [HI.out.1, HI.out.2]; dsimp only; rw [beta_ba]; have HB2 := Lib.hid hb2; clear hb2)
    | (go_at_call 79; refine (ncheck_any b _ (by omega)).mono ?_; rintro e w3 ⟨rfl, hb3⟩; have HB3 := Lib.hid (HB2.out.trans (hb3.mono HB2.out.size)); clear hb3))
  refine bodyPost_ret (results_tmp2 rfl _ _ _) rfl ?_
  exact ⟨rfl, HB3.out⟩

set_option maxRecDepth 100000 in
set_option maxHeartbeats 2000000 in
theorem make5 (a b n2 : ByteArray) (m ok : Bool) (w : World) (ha : a.size ≤ 270000) (hb : b.size ≤ 270000) (hn : n2.size ≤ 270000) (hr : Res w) (hi : intP a.data.toList = (m, n2.data.toList)) (hok : intOk a.data.toList = ok) (h0 : ok = true) (h1 : n2.size ≤ 4000) (h2 : errN b.data.toList = 0) (h3 : (b.toList == [48]) = false) (hd : Dg n2.data.toList) (hd' : Dg b.data.toList) (hd0 : dv b.data.toList ≠ 0) (ln : (toL (dv n2.data.toList)).length ≤ 500) (ld : (toL (dv b.data.toList)).length ≤ 500) (lr : (toL (nm (mkQ m (dv n2.data.toList) (dv b.data.toList)))).length ≤ 500) (lr' : (toL (mkQ m (dv n2.data.toList) (dv b.data.toList)).den).length ≤ 500) :
    Calls Tryz.prog 26 #[.string a, .string b] w fun e w' => e = .returned (resN (outQ (mkQ m (dv n2.data.toList) (dv b.data.toList)))) ∧ Below w.heap.size w w' := by
  have HI := Lib.hid (And.intro hi hok)
  have HR := Lib.hid hr
  have hl1 : decide ((4000 : Int) < (n2.size : Int)) = false := decide_eq_false (by omega)
  have hne : ((errN b.data.toList : Int) == 0) = true := by rw [h2]; rfl
  have HG := Lib.hid (And.intro hd hd')
  have TK1 : True := trivial
  have HM := Lib.hid (fun vn vd w hn hd => fmake_any m (dv n2.data.toList) (dv b.data.toList) vn vd w hn hd hd0 (by omega) (by omega))
  have HN := Lib.hid (fun v w hv hr => fnum_any (mkQ m (dv n2.data.toList) (dv b.data.toList)) v w hv hr (by omega) (by omega))
  generalize outQ (mkQ m (dv n2.data.toList) (dv b.data.toList)) = r at HN ⊢
  clear h1 h2 hd hd' hd0 ln ld lr lr'
  subst h0
  clear hi hok hr
  go_enter Tryz.func26, Tryz.ntmps26
  go_wp2_with (first
    | (go_at_call 78; refine (integer_any a _ (by omega)).mono ?_; rintro e w2 ⟨rfl, hb2⟩; rw [HI.out.1, HI.out.2]; dsimp only; rw [beta_ba]; have HB2 := Lib.hid hb2; clear hb2)
    | (go_at_call 79; refine (ncheck_any b _ (by omega)).mono ?_; rintro e w3 ⟨rfl, hb3⟩; have HB3 := Lib.hid (HB2.out.trans (hb3.mono HB2.out.size)); clear hb3)
    | (clear TK1; go_at_call 81; refine (parse_any n2 _ HG.out.1 (by omega)).mono ?_; rintro e w4 ⟨v4, rfl, hv4, hb4⟩; obtain ⟨A4, c4, rfl, _, _, _⟩ := id hv4; have HV4 := Lib.hid hv4; have HB4 := Lib.hid (HB3.out.trans (hb4.mono HB3.out.size)); clear hv4 hb4)
    | (go_at_call 81; refine (parse_any b _ HG.out.2 (by omega)).mono ?_; rintro e w5 ⟨v5, rfl, hv5, hb5⟩; obtain ⟨A5, c5, rfl, _, _, _⟩ := id hv5; have HV5 := Lib.hid hv5; have HV4' := Lib.hid (HV4.out.below hb5); have HB5 := Lib.hid (HB4.out.trans (hb5.mono HB4.out.size)); clear hv5 hb5)
    | (go_at_call 80; refine (HM.out _ _ _ HV4'.out HV5.out).mono ?_; rintro e w6 ⟨v6, rfl, hv6, hb6⟩; have HV6 := Lib.hid hv6; have HB6 := Lib.hid (HB5.out.trans (hb6.mono HB5.out.size)); clear hv6 hb6)
    | (go_at_call 64; refine (HN.out _ _ HV6.out (HR.out.below HB6.out)).mono ?_; rintro e w7 ⟨rfl, hb7⟩; have HB7 := Lib.hid (HB6.out.trans (hb7.mono HB6.out.size)); clear hb7))
  refine bodyPost_ret (results_tmp2 rfl _ _ _) rfl ?_
  exact ⟨rfl, HB7.out⟩

theorem mkQ_limbs (m : Bool) {n d : Nat} (hd : d ≠ 0) (ln : (toL n).length ≤ 500) (ld : (toL d).length ≤ 500) : (toL (nm (mkQ m n d))).length ≤ 500 ∧ (toL (mkQ m n d).den).length ≤ 500 :=
  ⟨Nat.le_trans (toL_len_mono (mkQ_nm_le hd)) ln, Nat.le_trans (toL_len_mono (mkQ_den_le hd)) ld⟩
/-- rat.Make. -/
theorem ratMake_any (a b : ByteArray) (w : World) (ha : a.size ≤ 270000) (hb : b.size ≤ 270000) (hr : Res w) :
    Calls Tryz.prog 26 #[.string a, .string b] w fun e w' => e = .returned (resN (makeQ a.data.toList b.data.toList)) ∧ Below w.heap.size w w' := by
  have hle := intP_le a.data.toList
  rw [← size_list] at hle
  have hn : (⟨(intP a.data.toList).2.toArray⟩ : ByteArray).size ≤ 270000 := by show (intP a.data.toList).2.toArray.size ≤ _; rw [List.size_toArray]; omega
  have hs : (⟨(intP a.data.toList).2.toArray⟩ : ByteArray).size = (intP a.data.toList).2.length := List.size_toArray
  unfold makeQ
  by_cases hok : intOk a.data.toList = false
  · rw [if_pos hok]
    exact make1 a b ⟨(intP a.data.toList).2.toArray⟩ _ _ w ha hb hn hr rfl hok rfl
  · rw [if_neg hok]
    have hok : intOk a.data.toList = true := by simpa using hok
    have hnf : NForm (intP a.data.toList).2 = true := by
      unfold intOk at hok
      simp only [Bool.and_eq_true] at hok
      exact hok.1
    by_cases hl : 4000 < (intP a.data.toList).2.length
    · rw [if_pos hl]
      exact make2 a b ⟨(intP a.data.toList).2.toArray⟩ _ _ w ha hb hn hr rfl hok rfl (by rw [hs]; exact hl)
    · rw [if_neg hl]
      by_cases he : errN b.data.toList ≠ 0
      · rw [if_pos he]
        exact make3 a b ⟨(intP a.data.toList).2.toArray⟩ _ _ w ha hb hn hr rfl hok rfl (by rw [hs]; omega) he
      · rw [if_neg he]
        have he : errN b.data.toList = 0 := by omega
        by_cases h0 : b.data.toList = [48]
        · rw [if_pos h0]
          exact make4 a b ⟨(intP a.data.toList).2.toArray⟩ _ _ w ha hb hn hr rfl hok rfl (by rw [hs]; omega) he (by rw [Lib.toList_data, h0]; rfl)
        · rw [if_neg h0]
          have hbf : NForm b.data.toList = true ∧ b.data.toList.length ≤ 4000 := by
            unfold errN at he
            split at he
            · split at he
              · cases he
              · exact ⟨by assumption, by omega⟩
            · cases he
          have hd0 : dv b.data.toList ≠ 0 := fun e => h0 (by rw [← NForm.eq hbf.1, e, dec_zero])
          have ln := limbs_of_form hnf (k := 500) (by omega)
          have ld := limbs_of_form hbf.1 (k := 500) (by omega)
          obtain ⟨lr, lr'⟩ := mkQ_limbs (intP a.data.toList).1 hd0 ln ld
          exact make5 a b ⟨(intP a.data.toList).2.toArray⟩ _ _ w ha hb hn hr rfl hok rfl (by rw [hs]; omega) he (by rw [Lib.toList_data, beq_eq_false_iff_ne]; exact h0) (dg_of_form hnf) (dg_of_form hbf.1) hd0 ln ld lr lr'
end Go.Proofs.YtjoifmnolmimkaaGreatDoor
namespace Go.Proofs.YtjoifmnolmimkaaGreatDoor
open Go.RowKit Go.Shelf
open Lim

/-- A power, or the error of a negative exponent of 0. -/
def powQ (q : Rat) (n : Int) : List UInt8 × Nat := if n < 0 ∧ q = 0 then ([], 6) else outQ ((if n < 0 then q⁻¹ else q) ^ n.natAbs)
theorem runs_Pow : Runs 60 := runs_of Tryz.func60 (by kernel_rfl) (by kernel_rfl)

set_option maxRecDepth 100000 in
set_option maxHeartbeats 2000000 in
theorem pow1_zero (q : Rat) (n : Int) (pn : Nat) (v : Value) (w : World) (_hr : Res w) (hv : IsFrac w v q) (hn : Boxed w pn 3 (.int .i64 n)) (hneg : n < 0) (h0 : q = 0) :
    Calls Tryz.prog 60 #[v, .pointer (some ⟨pn, 0, none⟩)] w fun e w' => e = .returned (resN ([], 6)) ∧ Below w.heap.size w w' := by
  obtain ⟨bq, N, D, A, c, A', c', rfl, _, _, HQ⟩ := isFrac_open hv
  have HX := Lib.hid (below_alloc (Below.refl w.heap.size w) (.cells #[.bool bq, .slice A (toL N).length c, .slice A' (toL D).length c'] 50))
  have hz := sgQ_zero q
  rw [decide_eq_true h0] at hz
  have HS := Lib.hid (sign_any q _ _ (hv.below HX.out))
  have cn := (bx_below hn HX.out hn.lt).cell
  have hng : decide (n < 0) = true := decide_eq_true hneg
  clear hv hn hneg h0
  go_enter Tryz.func60, Tryz.ntmps60
  go_wp2_with (go_at_call 61; refine HS.out.mono ?_; rintro e w3 ⟨rfl, hb3⟩; have HB3 := Lib.hid (HX.out.trans (hb3.mono HX.out.size)); clear hb3)
  refine bodyPost_ret (results_tmp2 rfl _ _ _) rfl ?_
  exact ⟨rfl, HB3.out⟩

theorem wrap_pos {M : Nat} (h : M < 18446744073709551616) : IntKind.u64.wrap (M : Int) = (M : Int) := by
  rw [IntKind.wrap_u64]; omega
set_option maxRecDepth 100000 in
set_option maxHeartbeats 4000000 in
theorem pow1_pos (q : Rat) (M : Nat) (pn : Nat) (v : Value) (w : World) (hr : Res w) (hv : IsFrac w v q) (hn : Boxed w pn 3 (.int .i64 (M : Int))) (hn1 : M ≤ 9223372036854775807) (sq : Sz maxD q) :
    Calls Tryz.prog 60 #[v, .pointer (some ⟨pn, 0, none⟩)] w fun e w' => e = .returned (resN (outQ (q ^ M))) ∧ Below w.heap.size w w' := by
  obtain ⟨b, N, D, A, c, A', c', rfl, hnn, hdd, HQ⟩ := isFrac_open hv
  have HX := Lib.hid (below_alloc (Below.refl w.heap.size w) (.cells #[.bool b, .slice A (toL N).length c, .slice A' (toL D).length c'] 50))
  have cn := (bx_below hn HX.out hn.lt).cell
  have hng : decide ((M : Int) < 0) = false := decide_eq_false (by omega)
  have hw := wrap_pos (M := M) (by omega)
  have HM := Lib.hid (show M < 18446744073709551616 by omega)
  have HP := Lib.hid (Blk.new w 50 #[.bool b, .slice A (toL N).length c, .slice A' (toL D).length c'])
  have HNN := Lib.hid (hnn.below HX.out)
  have HDD := Lib.hid (hdd.below HX.out)
  have HRR := Lib.hid (hr.below HX.out)
  have hds := (sz_iff (by decide)).1 sq
  have HL := Lib.hid (show Lib.nDigits N ≤ 4000 ∧ Lib.nDigits D ≤ 4000 by rw [← HQ.out.2.1, ← HQ.out.2.2]; exact hds)
  have TK1 : True := trivial
  clear hr hv hn hn1 sq hnn hdd hds
  have hbig : ¬ (Lib.nDigits (N ^ M) ≤ 4000 ∧ Lib.nDigits (D ^ M) ≤ 4000) → outQ (q ^ M) = ([], 5) := fun h => by
    obtain ⟨e1, e2, _⟩ := pow_parts (q) M
    unfold outQ maxD
    rw [if_pos (by rw [e1, e2, HQ.out.2.1, HQ.out.2.2]; omega)]
  by_cases f1 : Lib.nDigits (N ^ M) ≤ 4000
  · have F1 := Lib.hid (decide_eq_true f1)
    have G1 := Lib.hid f1
    by_cases f2 : Lib.nDigits (D ^ M) ≤ 4000
    · have F2 := Lib.hid (decide_eq_true f2)
      have G2 := Lib.hid f2
      have HLL := Lib.hid (And.intro (Nat.le_trans (limbs_of_nd f1 (show 4000 ≤ 9 * 500 by omega)) (show 500 ≤ 40000 by omega)) (Nat.le_trans (limbs_of_nd f2 (show 4000 ≤ 9 * 500 by omega)) (show 500 ≤ 40000 by omega)))
      obtain ⟨e1, e2, e3⟩ := pow_parts (q) M
      have HO := Lib.hid (show outP (b && decide (M % 2 = 1)) (N ^ M) (D ^ M) = outQ (q ^ M) by rw [← outP_q, e1, e2, e3, HQ.out.1, HQ.out.2.1, HQ.out.2.2])
      by_cases ho : M % 2 = 1
      · have ho1 : ((M : Int) % 2 == 1) = true := by rw [beq_iff_eq]; omega
        rw [decide_eq_true ho] at HO
        clear f1 f2 e1 e2 e3 ho hbig
        cases b <;>
        · rw [← HO.out]
          clear HO
          go_enter Tryz.func60, Tryz.ntmps60
          go_upto_region 6 with fail
          generalize w.alloc (.cells #[.bool _, .slice A (toL N).length c, .slice A' (toL D).length c'] 50) = W at *
          obtain ⟨x0, x1, x2⟩ := rows_of HP.out (Below.refl W.heap.size W) HP.out.lt
          have HBW := HX
          have HPW := HP
          have HNW := HNN
          have HDW := HDD
          have HRW := HRR
          go_wp2_with (first
            | (clear TK1; go_at_call 63; refine (pow_any N M _ _ HNW.out HM.out HL.out.1 (HRW.out)).mono ?_; rintro e w5 ⟨v5, rfl, hv5, hb5⟩; rw [F1.out]; have hv5 := hv5 G1.out; obtain ⟨A5, c5, rfl, _, _, _⟩ := id hv5; have HV5 := Lib.hid hv5; have HB5 := Lib.hid hb5; obtain ⟨z0, z1, z2⟩ := rows_of HPW.out hb5 HPW.out.lt; have HP5 := Lib.hid (HPW.out.below hb5 HPW.out.lt); clear hb5)
            | (go_at_call 63; refine (pow_any D M _ _ (HDW.out.below HB5.out) HM.out HL.out.2 (HRW.out.below HB5.out)).mono ?_; rintro e w6 ⟨v6, rfl, hv6, hb6⟩; rw [F2.out]; have hv6 := hv6 G2.out; obtain ⟨A6, c6, rfl, _, _, _⟩ := id hv6; have HV6 := Lib.hid hv6; have HB6 := Lib.hid (HB5.out.trans (hb6.mono HB5.out.size)); have HV56 := Lib.hid hb6; obtain ⟨y0, y1, y2⟩ := rows_of HP5.out hb6 HP5.out.lt; clear hb6)
            | (go_at_call 64; refine (fnumP_any _ (N ^ M) (D ^ M) _ _ (isParts_mk (HV5.out.below HV56.out) HV6.out) (HRW.out.below HB6.out) HLL.out.1 HLL.out.2).mono ?_; rintro e w7 ⟨rfl, hb7⟩; have HB7 := Lib.hid (HB6.out.trans (hb7.mono HB6.out.size)); clear hb7))
          refine bodyPost_ret (results_tmp2 rfl _ _ _) rfl ?_
          exact ⟨rfl, HBW.out.trans (HB7.out.mono HBW.out.size)⟩
      · have ho1 : ((M : Int) % 2 == 1) = false := by rw [beq_eq_false_iff_ne]; omega
        rw [decide_eq_false ho] at HO
        clear f1 f2 e1 e2 e3 ho hbig
        cases b <;>
        · rw [← HO.out]
          clear HO
          go_enter Tryz.func60, Tryz.ntmps60
          go_upto_region 6 with fail
          generalize w.alloc (.cells #[.bool _, .slice A (toL N).length c, .slice A' (toL D).length c'] 50) = W at *
          obtain ⟨x0, x1, x2⟩ := rows_of HP.out (Below.refl W.heap.size W) HP.out.lt
          have HBW := HX
          have HPW := HP
          have HNW := HNN
          have HDW := HDD
          have HRW := HRR
          go_wp2_with (first
            | (clear TK1; go_at_call 63; refine (pow_any N M _ _ HNW.out HM.out HL.out.1 (HRW.out)).mono ?_; rintro e w5 ⟨v5, rfl, hv5, hb5⟩; rw [F1.out]; have hv5 := hv5 G1.out; obtain ⟨A5, c5, rfl, _, _, _⟩ := id hv5; have HV5 := Lib.hid hv5; have HB5 := Lib.hid hb5; obtain ⟨z0, z1, z2⟩ := rows_of HPW.out hb5 HPW.out.lt; have HP5 := Lib.hid (HPW.out.below hb5 HPW.out.lt); clear hb5)
            | (go_at_call 63; refine (pow_any D M _ _ (HDW.out.below HB5.out) HM.out HL.out.2 (HRW.out.below HB5.out)).mono ?_; rintro e w6 ⟨v6, rfl, hv6, hb6⟩; rw [F2.out]; have hv6 := hv6 G2.out; obtain ⟨A6, c6, rfl, _, _, _⟩ := id hv6; have HV6 := Lib.hid hv6; have HB6 := Lib.hid (HB5.out.trans (hb6.mono HB5.out.size)); have HV56 := Lib.hid hb6; obtain ⟨y0, y1, y2⟩ := rows_of HP5.out hb6 HP5.out.lt; clear hb6)
            | (go_at_call 64; refine (fnumP_any _ (N ^ M) (D ^ M) _ _ (isParts_mk (HV5.out.below HV56.out) HV6.out) (HRW.out.below HB6.out) HLL.out.1 HLL.out.2).mono ?_; rintro e w7 ⟨rfl, hb7⟩; have HB7 := Lib.hid (HB6.out.trans (hb7.mono HB6.out.size)); clear hb7))
          refine bodyPost_ret (results_tmp2 rfl _ _ _) rfl ?_
          exact ⟨rfl, HBW.out.trans (HB7.out.mono HBW.out.size)⟩
    · have F2 := Lib.hid (decide_eq_false f2)
      rw [hbig (fun h => f2 h.2)]
      clear f1 f2 hbig
      go_enter Tryz.func60, Tryz.ntmps60
      go_upto_region 6 with fail
      generalize w.alloc (.cells #[.bool _, .slice A (toL N).length c, .slice A' (toL D).length c'] 50) = W at *
      obtain ⟨x0, x1, x2⟩ := rows_of HP.out (Below.refl W.heap.size W) HP.out.lt
      have HBW := HX
      have HPW := HP
      have HNW := HNN
      have HDW := HDD
      have HRW := HRR
      go_wp2_with (first
        | (clear TK1; go_at_call 63; refine (pow_any N M _ _ HNW.out HM.out HL.out.1 (HRW.out)).mono ?_; rintro e w5 ⟨v5, rfl, hv5, hb5⟩; rw [F1.out]; clear hv5; have HB5 := Lib.hid hb5; obtain ⟨z0, z1, z2⟩ := rows_of HPW.out hb5 HPW.out.lt; have HP5 := Lib.hid (HPW.out.below hb5 HPW.out.lt); clear hb5)
        | (go_at_call 63; refine (pow_any D M _ _ (HDW.out.below HB5.out) HM.out HL.out.2 (HRW.out.below HB5.out)).mono ?_; rintro e w6 ⟨v6, rfl, hv6, hb6⟩; rw [F2.out]; clear hv6; have HB6 := Lib.hid (HB5.out.trans (hb6.mono HB5.out.size)); have HV56 := Lib.hid hb6; obtain ⟨y0, y1, y2⟩ := rows_of HP5.out hb6 HP5.out.lt; clear hb6))
      refine bodyPost_ret (results_tmp2 rfl _ _ _) rfl ?_
      exact ⟨rfl, HBW.out.trans (HB6.out.mono HBW.out.size)⟩
  · have F1 := Lib.hid (decide_eq_false f1)
    rw [hbig (fun h => f1 h.1)]
    by_cases f2 : Lib.nDigits (D ^ M) ≤ 4000
    · have F2 := Lib.hid (decide_eq_true f2)
      clear f1 f2 hbig
      go_enter Tryz.func60, Tryz.ntmps60
      go_upto_region 6 with fail
      generalize w.alloc (.cells #[.bool _, .slice A (toL N).length c, .slice A' (toL D).length c'] 50) = W at *
      obtain ⟨x0, x1, x2⟩ := rows_of HP.out (Below.refl W.heap.size W) HP.out.lt
      have HBW := HX
      have HPW := HP
      have HNW := HNN
      have HDW := HDD
      have HRW := HRR
      go_wp2_with (first
        | (clear TK1; go_at_call 63; refine (pow_any N M _ _ HNW.out HM.out HL.out.1 (HRW.out)).mono ?_; rintro e w5 ⟨v5, rfl, hv5, hb5⟩; rw [F1.out]; clear hv5; have HB5 := Lib.hid hb5; obtain ⟨z0, z1, z2⟩ := rows_of HPW.out hb5 HPW.out.lt; have HP5 := Lib.hid (HPW.out.below hb5 HPW.out.lt); clear hb5)
        | (go_at_call 63; refine (pow_any D M _ _ (HDW.out.below HB5.out) HM.out HL.out.2 (HRW.out.below HB5.out)).mono ?_; rintro e w6 ⟨v6, rfl, hv6, hb6⟩; rw [F2.out]; clear hv6; have HB6 := Lib.hid (HB5.out.trans (hb6.mono HB5.out.size)); have HV56 := Lib.hid hb6; obtain ⟨y0, y1, y2⟩ := rows_of HP5.out hb6 HP5.out.lt; clear hb6))
      refine bodyPost_ret (results_tmp2 rfl _ _ _) rfl ?_
      exact ⟨rfl, HBW.out.trans (HB6.out.mono HBW.out.size)⟩
    · have F2 := Lib.hid (decide_eq_false f2)
      clear f1 f2 hbig
      go_enter Tryz.func60, Tryz.ntmps60
      go_upto_region 6 with fail
      generalize w.alloc (.cells #[.bool _, .slice A (toL N).length c, .slice A' (toL D).length c'] 50) = W at *
      obtain ⟨x0, x1, x2⟩ := rows_of HP.out (Below.refl W.heap.size W) HP.out.lt
      have HBW := HX
      have HPW := HP
      have HNW := HNN
      have HDW := HDD
      have HRW := HRR
      go_wp2_with (first
        | (clear TK1; go_at_call 63; refine (pow_any N M _ _ HNW.out HM.out HL.out.1 (HRW.out)).mono ?_; rintro e w5 ⟨v5, rfl, hv5, hb5⟩; rw [F1.out]; clear hv5; have HB5 := Lib.hid hb5; obtain ⟨z0, z1, z2⟩ := rows_of HPW.out hb5 HPW.out.lt; have HP5 := Lib.hid (HPW.out.below hb5 HPW.out.lt); clear hb5)
        | (go_at_call 63; refine (pow_any D M _ _ (HDW.out.below HB5.out) HM.out HL.out.2 (HRW.out.below HB5.out)).mono ?_; rintro e w6 ⟨v6, rfl, hv6, hb6⟩; rw [F2.out]; clear hv6; have HB6 := Lib.hid (HB5.out.trans (hb6.mono HB5.out.size)); have HV56 := Lib.hid hb6; obtain ⟨y0, y1, y2⟩ := rows_of HP5.out hb6 HP5.out.lt; clear hb6))
      refine bodyPost_ret (results_tmp2 rfl _ _ _) rfl ?_
      exact ⟨rfl, HBW.out.trans (HB6.out.mono HBW.out.size)⟩

set_option maxRecDepth 100000 in
set_option maxHeartbeats 4000000 in
theorem pow1_neg (q : Rat) (n : Int) (M : Nat) (pn : Nat) (v : Value) (w : World) (hr : Res w) (hv : IsFrac w v q) (hn : Boxed w pn 3 (.int .i64 n)) (hneg : n < 0) (hn1 : -9223372036854775808 ≤ n) (hM : M = n.natAbs) (h0 : q ≠ 0) (sq : Sz maxD q) :
    Calls Tryz.prog 60 #[v, .pointer (some ⟨pn, 0, none⟩)] w fun e w' => e = .returned (resN (outQ (q⁻¹ ^ M))) ∧ Below w.heap.size w w' := by
  obtain ⟨b0, N0, D0, A0, c0, A0', c0', rfl, _, _, HQ0⟩ := isFrac_open hv
  have HX := Lib.hid (below_alloc (Below.refl w.heap.size w) (.cells #[.bool b0, .slice A0 (toL N0).length c0, .slice A0' (toL D0).length c0'] 50))
  have hz := sgQ_zero q
  rw [decide_eq_false h0] at hz
  have HS := Lib.hid (sign_any q _ _ (hv.below HX.out))
  have cn := (bx_below hn HX.out hn.lt).cell
  have hng : decide (n < 0) = true := decide_eq_true hneg
  obtain ⟨U, hU⟩ : ∃ U, IntKind.u64.wrap n = U := ⟨_, rfl⟩
  have hU2 : IntKind.u64.wrap (-U) = (M : Int) := by rw [← hU, IntKind.wrap_u64, IntKind.wrap_u64]; omega
  have HN := Lib.hid hn
  have HV := Lib.hid hv
  have HM := Lib.hid (show M < 18446744073709551616 by omega)
  have HP0 := Lib.hid (Blk.new w 50 #[.bool b0, .slice A0 (toL N0).length c0, .slice A0' (toL D0).length c0'])
  have HI := Lib.hid (fun v w hv => finvQ_any q v w hv h0)
  have HR := Lib.hid hr
  have hds := (sz_iff (by decide)).1 sq.inv
  have HDS := Lib.hid hds
  have TK1 : True := trivial
  generalize hres : outQ (q⁻¹ ^ M) = r
  have HRES := Lib.hid hres
  clear hr hv hn sq hn1 hneg h0 hM hds hres
  go_enter Tryz.func60, Tryz.ntmps60
  go_upto_region 6 with (first
    | (go_at_call 61; refine HS.out.mono ?_; rintro e w3 ⟨rfl, hb3⟩; have HB3 := Lib.hid (HX.out.trans (hb3.mono HX.out.size)); obtain ⟨x0, x1, x2⟩ := rows_of HP0.out hb3 HP0.out.lt; have HP3 := Lib.hid (HP0.out.below hb3 HP0.out.lt); have cn3 := (bx_below HN.out HB3.out HN.out.lt).cell; clear hb3)
    | (go_at_call 62; refine (HI.out _ _ (HV.out.below HB3.out)).mono ?_; rintro e w4 ⟨v4, rfl, hv4, hb4⟩; obtain ⟨b, N, D, A, c, A', c', rfl, hnn, hdd, HQ⟩ := isFrac_open hv4; have HB4 := Lib.hid (HB3.out.trans (hb4.mono HB3.out.size)); obtain ⟨t0, t1, t2, t3, t4, t5⟩ := cells6 (HP3.out.below hb4 HP3.out.lt); have HP4 := Lib.hid (HP3.out.below hb4 HP3.out.lt); have HNN := Lib.hid hnn; have HDD := Lib.hid hdd; clear hb4 hv4 hnn hdd))
  have HBW := Lib.hid (set3_below (g := w.heap.size) (x := .bool b) (y := .slice A (toL N).length c) (z := .slice A' (toL D).length c') HB4.out (Nat.le_refl _))
  have HPW := Lib.hid (set3 (x := .bool b) (y := .slice A (toL N).length c) (z := .slice A' (toL D).length c') HP4.out)
  have HNW := Lib.hid (isNat_set3 (m' := b) (D := A) (a := (toL N).length) (b := c) (D' := A') (a' := (toL D).length) (b' := c') HNN.out HP4.out)
  have HDW := Lib.hid (isNat_set3 (m' := b) (D := A) (a := (toL N).length) (b := c) (D' := A') (a' := (toL D).length) (b' := c') HDD.out HP4.out)
  have HRW := Lib.hid (HR.out.below HBW.out)
  have HL := Lib.hid (show Lib.nDigits N ≤ 4000 ∧ Lib.nDigits D ≤ 4000 by rw [← HQ.out.2.1, ← HQ.out.2.2]; exact HDS.out)
  generalize ((w4.setCell ⟨w.heap.size, 0, none⟩ (.bool b)).setCell ⟨w.heap.size, 1, none⟩ (.slice A (toL N).length c)).setCell ⟨w.heap.size, 2, none⟩ (.slice A' (toL D).length c') = W at *
  obtain ⟨x0, x1, x2⟩ := rows_of HPW.out (Below.refl W.heap.size W) HPW.out.lt
  clear t0 t1 t2 t3 t4 t5 cn cn3 hU hU2
  have hbig : ¬ (Lib.nDigits (N ^ M) ≤ 4000 ∧ Lib.nDigits (D ^ M) ≤ 4000) → outQ (q⁻¹ ^ M) = ([], 5) := fun h => by
    obtain ⟨e1, e2, _⟩ := pow_parts (q⁻¹) M
    unfold outQ maxD
    rw [if_pos (by rw [e1, e2, HQ.out.2.1, HQ.out.2.2]; omega)]
  by_cases f1 : Lib.nDigits (N ^ M) ≤ 4000
  · have F1 := Lib.hid (decide_eq_true f1)
    have G1 := Lib.hid f1
    by_cases f2 : Lib.nDigits (D ^ M) ≤ 4000
    · have F2 := Lib.hid (decide_eq_true f2)
      have G2 := Lib.hid f2
      have HLL := Lib.hid (And.intro (Nat.le_trans (limbs_of_nd f1 (show 4000 ≤ 9 * 500 by omega)) (show 500 ≤ 40000 by omega)) (Nat.le_trans (limbs_of_nd f2 (show 4000 ≤ 9 * 500 by omega)) (show 500 ≤ 40000 by omega)))
      obtain ⟨e1, e2, e3⟩ := pow_parts (q⁻¹) M
      have HO := Lib.hid (show outP (b && decide (M % 2 = 1)) (N ^ M) (D ^ M) = outQ (q⁻¹ ^ M) by rw [← outP_q, e1, e2, e3, HQ.out.1, HQ.out.2.1, HQ.out.2.2])
      by_cases ho : M % 2 = 1
      · have ho1 : ((M : Int) % 2 == 1) = true := by rw [beq_iff_eq]; omega
        rw [decide_eq_true ho] at HO
        clear f1 f2 e1 e2 e3 ho hbig
        cases b <;>
        · have HOR := Lib.hid (HO.out.trans HRES.out)
          clear HO HRES
          go_wp2_with (first
            | (clear TK1; go_at_call 63; refine (pow_any N M _ _ HNW.out HM.out HL.out.1 (HRW.out)).mono ?_; rintro e w5 ⟨v5, rfl, hv5, hb5⟩; rw [F1.out]; have hv5 := hv5 G1.out; obtain ⟨A5, c5, rfl, _, _, _⟩ := id hv5; have HV5 := Lib.hid hv5; have HB5 := Lib.hid hb5; obtain ⟨z0, z1, z2⟩ := rows_of HPW.out hb5 HPW.out.lt; have HP5 := Lib.hid (HPW.out.below hb5 HPW.out.lt); clear hb5)
            | (go_at_call 63; refine (pow_any D M _ _ (HDW.out.below HB5.out) HM.out HL.out.2 (HRW.out.below HB5.out)).mono ?_; rintro e w6 ⟨v6, rfl, hv6, hb6⟩; rw [F2.out]; have hv6 := hv6 G2.out; obtain ⟨A6, c6, rfl, _, _, _⟩ := id hv6; have HV6 := Lib.hid hv6; have HB6 := Lib.hid (HB5.out.trans (hb6.mono HB5.out.size)); have HV56 := Lib.hid hb6; obtain ⟨y0, y1, y2⟩ := rows_of HP5.out hb6 HP5.out.lt; clear hb6)
            | (go_at_call 64; refine (fnumP_any _ (N ^ M) (D ^ M) _ _ (isParts_mk (HV5.out.below HV56.out) HV6.out) (HRW.out.below HB6.out) HLL.out.1 HLL.out.2).mono ?_; rintro e w7 ⟨rfl, hb7⟩; have HB7 := Lib.hid (HB6.out.trans (hb7.mono HB6.out.size)); clear hb7))
          refine bodyPost_ret (results_tmp2 rfl _ _ _) rfl ?_
          refine ⟨?_, HBW.out.trans (HB7.out.mono HBW.out.size)⟩
          rw [← HOR.out]
          rfl
      · have ho1 : ((M : Int) % 2 == 1) = false := by rw [beq_eq_false_iff_ne]; omega
        rw [decide_eq_false ho] at HO
        clear f1 f2 e1 e2 e3 ho hbig
        cases b <;>
        · have HOR := Lib.hid (HO.out.trans HRES.out)
          clear HO HRES
          go_wp2_with (first
            | (clear TK1; go_at_call 63; refine (pow_any N M _ _ HNW.out HM.out HL.out.1 (HRW.out)).mono ?_; rintro e w5 ⟨v5, rfl, hv5, hb5⟩; rw [F1.out]; have hv5 := hv5 G1.out; obtain ⟨A5, c5, rfl, _, _, _⟩ := id hv5; have HV5 := Lib.hid hv5; have HB5 := Lib.hid hb5; obtain ⟨z0, z1, z2⟩ := rows_of HPW.out hb5 HPW.out.lt; have HP5 := Lib.hid (HPW.out.below hb5 HPW.out.lt); clear hb5)
            | (go_at_call 63; refine (pow_any D M _ _ (HDW.out.below HB5.out) HM.out HL.out.2 (HRW.out.below HB5.out)).mono ?_; rintro e w6 ⟨v6, rfl, hv6, hb6⟩; rw [F2.out]; have hv6 := hv6 G2.out; obtain ⟨A6, c6, rfl, _, _, _⟩ := id hv6; have HV6 := Lib.hid hv6; have HB6 := Lib.hid (HB5.out.trans (hb6.mono HB5.out.size)); have HV56 := Lib.hid hb6; obtain ⟨y0, y1, y2⟩ := rows_of HP5.out hb6 HP5.out.lt; clear hb6)
            | (go_at_call 64; refine (fnumP_any _ (N ^ M) (D ^ M) _ _ (isParts_mk (HV5.out.below HV56.out) HV6.out) (HRW.out.below HB6.out) HLL.out.1 HLL.out.2).mono ?_; rintro e w7 ⟨rfl, hb7⟩; have HB7 := Lib.hid (HB6.out.trans (hb7.mono HB6.out.size)); clear hb7))
          refine bodyPost_ret (results_tmp2 rfl _ _ _) rfl ?_
          refine ⟨?_, HBW.out.trans (HB7.out.mono HBW.out.size)⟩
          rw [← HOR.out]
          rfl
    · have F2 := Lib.hid (decide_eq_false f2)
      have HOR := Lib.hid ((hbig (fun h => f2 h.2)).symm.trans HRES.out)
      clear f1 f2 hbig
      go_wp2_with (first
        | (clear TK1; go_at_call 63; refine (pow_any N M _ _ HNW.out HM.out HL.out.1 (HRW.out)).mono ?_; rintro e w5 ⟨v5, rfl, hv5, hb5⟩; rw [F1.out]; clear hv5; have HB5 := Lib.hid hb5; obtain ⟨z0, z1, z2⟩ := rows_of HPW.out hb5 HPW.out.lt; have HP5 := Lib.hid (HPW.out.below hb5 HPW.out.lt); clear hb5)
        | (go_at_call 63; refine (pow_any D M _ _ (HDW.out.below HB5.out) HM.out HL.out.2 (HRW.out.below HB5.out)).mono ?_; rintro e w6 ⟨v6, rfl, hv6, hb6⟩; rw [F2.out]; clear hv6; have HB6 := Lib.hid (HB5.out.trans (hb6.mono HB5.out.size)); have HV56 := Lib.hid hb6; obtain ⟨y0, y1, y2⟩ := rows_of HP5.out hb6 HP5.out.lt; clear hb6))
      refine bodyPost_ret (results_tmp2 rfl _ _ _) rfl ?_
      refine ⟨?_, HBW.out.trans (HB6.out.mono HBW.out.size)⟩
      rw [← HOR.out]
      rfl
  · have F1 := Lib.hid (decide_eq_false f1)
    have HOR := Lib.hid ((hbig (fun h => f1 h.1)).symm.trans HRES.out)
    by_cases f2 : Lib.nDigits (D ^ M) ≤ 4000
    · have F2 := Lib.hid (decide_eq_true f2)
      clear f1 f2 hbig
      go_wp2_with (first
        | (clear TK1; go_at_call 63; refine (pow_any N M _ _ HNW.out HM.out HL.out.1 (HRW.out)).mono ?_; rintro e w5 ⟨v5, rfl, hv5, hb5⟩; rw [F1.out]; clear hv5; have HB5 := Lib.hid hb5; obtain ⟨z0, z1, z2⟩ := rows_of HPW.out hb5 HPW.out.lt; have HP5 := Lib.hid (HPW.out.below hb5 HPW.out.lt); clear hb5)
        | (go_at_call 63; refine (pow_any D M _ _ (HDW.out.below HB5.out) HM.out HL.out.2 (HRW.out.below HB5.out)).mono ?_; rintro e w6 ⟨v6, rfl, hv6, hb6⟩; rw [F2.out]; clear hv6; have HB6 := Lib.hid (HB5.out.trans (hb6.mono HB5.out.size)); have HV56 := Lib.hid hb6; obtain ⟨y0, y1, y2⟩ := rows_of HP5.out hb6 HP5.out.lt; clear hb6))
      refine bodyPost_ret (results_tmp2 rfl _ _ _) rfl ?_
      refine ⟨?_, HBW.out.trans (HB6.out.mono HBW.out.size)⟩
      rw [← HOR.out]
      rfl
    · have F2 := Lib.hid (decide_eq_false f2)
      clear f1 f2 hbig
      go_wp2_with (first
        | (clear TK1; go_at_call 63; refine (pow_any N M _ _ HNW.out HM.out HL.out.1 (HRW.out)).mono ?_; rintro e w5 ⟨v5, rfl, hv5, hb5⟩; rw [F1.out]; clear hv5; have HB5 := Lib.hid hb5; obtain ⟨z0, z1, z2⟩ := rows_of HPW.out hb5 HPW.out.lt; have HP5 := Lib.hid (HPW.out.below hb5 HPW.out.lt); clear hb5)
        | (go_at_call 63; refine (pow_any D M _ _ (HDW.out.below HB5.out) HM.out HL.out.2 (HRW.out.below HB5.out)).mono ?_; rintro e w6 ⟨v6, rfl, hv6, hb6⟩; rw [F2.out]; clear hv6; have HB6 := Lib.hid (HB5.out.trans (hb6.mono HB5.out.size)); have HV56 := Lib.hid hb6; obtain ⟨y0, y1, y2⟩ := rows_of HP5.out hb6 HP5.out.lt; clear hb6))
      refine bodyPost_ret (results_tmp2 rfl _ _ _) rfl ?_
      refine ⟨?_, HBW.out.trans (HB6.out.mono HBW.out.size)⟩
      rw [← HOR.out]
      rfl

set_option maxRecDepth 100000 in
/-- rat.Pow. -/
theorem ratPow_any (a : ByteArray) (n : Int) (w : World) (ha : a.size ≤ 270000) (hr : Res w) (h1 : -9223372036854775808 ≤ n) (h2 : n ≤ 9223372036854775807) :
    Calls Tryz.prog 14 #[.string a, .int .i64 n] w fun e w' => e = .returned (resN (oneQ (fun q => powQ q n) a.data.toList)) ∧ Below w.heap.size w w' := by
  have hb := below_alloc (Below.refl w.heap.size w) (.cells #[.int .i64 n] 3)
  have hn : Boxed (w.alloc (.cells #[.int .i64 n] 3)) w.heap.size 3 (.int .i64 n) := Boxed.new w _ _
  have HB := Lib.hid (withN_any 60 runs_Pow #[.pointer (some ⟨w.heap.size, 0, none⟩)] (fun q => powQ q n) a _ ha (hr.below hb) (fun q v w' hb' hr' hv sq => by
    have hn' := bx_below hn hb' hn.lt
    show Calls Tryz.prog 60 #[v, .pointer (some ⟨w.heap.size, 0, none⟩)] w' _
    unfold powQ
    by_cases hneg : n < 0
    · by_cases h0 : q = 0
      · rw [if_pos ⟨hneg, h0⟩]
        exact pow1_zero q n w.heap.size v w' hr' hv hn' hneg h0
      · rw [if_neg (fun h => h0 h.2), if_pos hneg]
        exact pow1_neg q n _ w.heap.size v w' hr' hv hn' hneg h1 rfl h0 sq
    · rw [if_neg (fun h => hneg h.1), if_neg hneg]
      obtain ⟨M, rfl⟩ : ∃ M : Nat, n = (M : Int) := ⟨n.toNat, by omega⟩
      rw [Int.natAbs_natCast]
      exact pow1_pos q M w.heap.size v w' hr' hv hn' (by omega) sq))
  generalize oneQ (fun q => powQ q n) a.data.toList = r at HB ⊢
  have HX := Lib.hid hb
  clear hr hb hn
  go_enter Tryz.func14, Tryz.ntmps14
  go_wp2_with (go_at_call 59; refine HB.out.mono ?_; rintro e w2 ⟨rfl, hb2⟩; have HB2 := Lib.hid (HX.out.trans (hb2.mono HX.out.size)); clear hb2; unfold resN)
  refine bodyPost_ret (results_tmp2 rfl _ _ _) rfl ?_
  exact ⟨rfl, HB2.out⟩
end Go.Proofs.YtjoifmnolmimkaaGreatDoor
namespace Go.Proofs.YtjoifmnolmimkaaGreatDoor
open Go.RowKit Go.Shelf
open Lim

/-- Where the first slash stands, and what that says of the cut. -/
def SlashAt (l : List UInt8) (k : Nat) : Prop := (k < l.length ∧ cutQ l = (l.take k, some (l.drop (k + 1)))) ∨ (k = l.length ∧ cutQ l = (l, none))

set_option maxRecDepth 100000 in
set_option maxHeartbeats 2000000 in
theorem slash_any (s : ByteArray) (w : World) (hlen : s.size ≤ 4000000000) :
    Calls Tryz.prog 109 #[.string s] w fun e w' => ∃ k : Nat, e = .returned (.int .i64 (k : Int)) ∧ SlashAt s.data.toList k ∧ w' = w := by
  have HSL := Lib.hid (size_list s)
  have HGET := Lib.hid (fun (k : Nat) (hk : k < s.size) => show s[k] = s.data.toList[k]'(by rw [← size_list]; exact hk) by rw [Array.getElem_toList]; rfl)

  go_enter Tryz.func109, Tryz.ntmps109
  go_wp2
  go_loopw [3] (fun si wr => ∃ k : Nat, k ≤ s.size ∧ si = .int .i64 (k : Int) ∧ (∀ j (hj : j < s.size), j < k → s[j] ≠ 47) ∧ wr = w) (fun si _ => s.size - (intOf si).toNat)
  case atStart => exact ⟨0, Nat.zero_le _, rfl, fun j _ h => absurd h (Nat.not_lt_zero _), rfl⟩
  case round =>
    obtain ⟨k, hk, rfl, hdk, rfl⟩ := hrel
    have HDK := Lib.hid hdk
    clear hdk
    by_cases hlt : k < s.size
    · have hlt' : (k : Int) < (s.size : Int) := by omega
      by_cases h47 : s[k] = 47
      · have d1 : ((s[k].toNat : Int) == 47) = true := by rw [h47]; rfl
        have HH := Lib.hid h47
        clear h47
        go_wp2
        go_ret
        refine ⟨k, rfl, .inl ⟨by rw [← HSL.out]; exact hlt, ?_⟩, rfl⟩
        have hk' : k < s.data.toList.length := by rw [← HSL.out]; exact hlt
        have hg : s.data.toList[k] = 47 := by rw [← HGET.out k hlt]; exact HH.out
        have hsplit : s.data.toList = s.data.toList.take k ++ 47 :: s.data.toList.drop (k + 1) := by
          rw [← hg, List.getElem_cons_drop, List.take_append_drop]
        have hno : (47 : UInt8) ∉ s.data.toList.take k := by
          intro hm
          obtain ⟨j, hj, e⟩ := List.getElem_of_mem hm
          rw [List.length_take] at hj
          rw [List.getElem_take] at e
          have hj2 : j < s.size := by omega
          exact HDK.out j hj2 (by omega) (by rw [HGET.out j hj2]; exact e)
        conv => lhs; rw [hsplit]
        exact cutQ_slash hno
      · have d1 : ((s[k].toNat : Int) == 47) = false := by
          rw [beq_eq_false_iff_ne]
          intro e
          apply h47
          apply UInt8.toNat_inj.1
          have : s[k].toNat = 47 := by omega
          rw [this]
          rfl
        have HH := Lib.hid h47
        clear h47
        go_wp2
        go_roundw
        case rel =>
          refine ⟨k + 1, hlt, by go_num, fun j hj hjk => ?_, trivial⟩
          by_cases e : j = k
          · subst e; exact HH.out
          · exact HDK.out j hj (by omega)
        case measure => simp [intOf]; omega
    · have hlt' : ¬ (k : Int) < (s.size : Int) := by omega
      go_wp2
      go_ret
      refine ⟨s.size, rfl, .inr ⟨HSL.out, cutQ_none ?_⟩, rfl⟩
      intro hm
      obtain ⟨j, hj, e⟩ := List.getElem_of_mem hm
      have hj2 : j < s.size := by rw [HSL.out]; exact hj
      exact HDK.out j hj2 (by omega) (by rw [HGET.out j hj2]; exact e)

set_option maxRecDepth 100000 in
set_option maxHeartbeats 2000000 in
theorem rdigits_any (s : ByteArray) (w : World) (hlen : s.size ≤ 4000000000) :
    Calls Tryz.prog 128 #[.string s] w fun e w' => e = .returned (.bool (NForm s.data.toList)) ∧ w' = w := by
  have HC := Lib.hid (rcheck_any s w hlen)
  have he : ∃ k : Nat, errN s.data.toList = k ∧ (k = 0 ∧ NForm s.data.toList = true ∨ k = 5 ∧ NForm s.data.toList = true ∨ k = 3 ∧ NForm s.data.toList = false) := by
    unfold errN
    by_cases h : NForm s.data.toList = true
    · rw [if_pos h]
      by_cases h2 : 4000 < s.data.toList.length
      · rw [if_pos h2]; exact ⟨5, rfl, .inr (.inl ⟨rfl, h⟩)⟩
      · rw [if_neg h2]; exact ⟨0, rfl, .inl ⟨rfl, h⟩⟩
    · rw [if_neg h]; exact ⟨3, rfl, .inr (.inr ⟨rfl, by simpa using h⟩)⟩
  obtain ⟨k, hk, h⟩ := he
  rw [hk] at HC
  rcases h with ⟨rfl, hf⟩ | ⟨rfl, hf⟩ | ⟨rfl, hf⟩ <;>
  · rw [hf]
    clear hf hk
    go_enter Tryz.func128, Tryz.ntmps128
    go_wp2_with (go_at_call 24; refine HC.out.mono ?_; rintro e w1 ⟨rfl, hw1⟩; subst hw1)
    go_ret
    exact ⟨rfl, rfl⟩

theorem ba_of (s : ByteArray) {l : List UInt8} (h : s.data.toList = l) : (⟨l.toArray⟩ : ByteArray) = s := by
  subst h
  exact beta_ba s


set_option maxRecDepth 100000 in
set_option maxHeartbeats 2000000 in
theorem rinteger_any (s : ByteArray) (w : World) (hlen : s.size ≤ 4000000000) :
    Calls Tryz.prog 100 #[.string s] w fun e w' => e = .returned (.tuple #[.bool (intP s.data.toList).1, .string ⟨(intP s.data.toList).2.toArray⟩, .bool (intOk s.data.toList)]) ∧ w' = w := by
  have hsz := size_list s
  by_cases h0 : s.size = 0
  · have hl : s.data.toList = [] := List.length_eq_zero_iff.1 (by rw [← hsz]; exact h0)
    obtain rfl : s = ⟨#[]⟩ := by rw [← beta_ba s, hl]
    have HD := Lib.hid (rdigits_any ⟨#[]⟩ w hlen)
    rw [show NForm (⟨#[]⟩ : ByteArray).data.toList = false from rfl] at HD
    clear hsz h0 hl hlen
    go_enter Tryz.func100, Tryz.ntmps100
    go_wp2_with (go_at_call 128; refine HD.out.mono ?_; rintro e w1 ⟨rfl, hw1⟩; subst hw1)
    refine bodyPost_ret (results_tmp3 rfl _ _ _) rfl ?_
    exact ⟨rfl, rfl⟩
  · have hpos : 0 < s.size := by omega
    have hlt0 : (0 : Int) < (s.size : Int) := by omega
    have hle1 : (1 : Int) ≤ (s.size : Int) := by omega
    have hle1n : 1 ≤ s.size := by omega
    have hs0 : s[0] = s.data.toList[0]'(by rw [← size_list]; exact hpos) := by rw [Array.getElem_toList]; rfl
    have hhead : s.data.toList.head? = some s[0] := by rw [hs0, List.head?_eq_getElem?, List.getElem?_eq_getElem]
    by_cases h45 : s[0] = 45
    · have d1 : ((s[0].toNat : Int) == 45) = true := by rw [h45]; rfl
      have hip : intP s.data.toList = (true, s.data.toList.drop 1) := by unfold intP; rw [hhead, h45, if_pos rfl]
      have hx : (s.extract 1 s.size).data.toList = s.data.toList.drop 1 := by rw [extract_list, List.take_of_length_le (by rw [← hsz]; exact Nat.le_refl _)]
      have hxs : (s.extract 1 s.size).size ≤ 4000000000 := by rw [size_list, hx, List.length_drop]; omega
      have hd := rdigits_any (s.extract 1 s.size) w hxs
      have HS2 := Lib.hid (ba_of _ hx)
      have HE := Lib.hid (show (s.extract 1 s.size).toList = s.data.toList.drop 1 by rw [Lib.toList_data, hx])
      unfold intOk
      rw [hip]
      dsimp only
      rw [HS2.out]
      rw [hx] at hd
      generalize NForm (s.data.toList.drop 1) = f at *
      have HD := Lib.hid hd
      clear hs0 hhead h45 hsz hx hxs hd hip
      cases f <;>
      · go_enter Tryz.func100, Tryz.ntmps100
        go_wp2_with (go_at_call 128; refine HD.out.mono ?_; rintro e w1 ⟨rfl, hw1⟩; subst hw1)
        refine bodyPost_ret (results_tmp3 rfl _ _ _) rfl ⟨?_, rfl⟩
        first | rfl | (simp [HE.out])
    · have d1 : ((s[0].toNat : Int) == 45) = false := by
        rw [beq_eq_false_iff_ne]
        intro e
        apply h45
        apply UInt8.toNat_inj.1
        have : s[0].toNat = 45 := by omega
        rw [this]
        rfl
      have hip : intP s.data.toList = (false, s.data.toList) := by unfold intP; rw [hhead, if_neg (by intro e; injection e with e; exact h45 e)]
      have hd := rdigits_any s w hlen
      have HS2 := Lib.hid (beta_ba s)
      unfold intOk
      rw [hip]
      dsimp only
      rw [HS2.out]
      generalize NForm s.data.toList = f at *
      have HD := Lib.hid hd
      clear hs0 hhead h45 hsz hd hip
      cases f <;>
      · go_enter Tryz.func100, Tryz.ntmps100
        go_wp2_with (go_at_call 128; refine HD.out.mono ?_; rintro e w1 ⟨rfl, hw1⟩; subst hw1)
        refine bodyPost_ret (results_tmp3 rfl _ _ _) rfl ⟨?_, rfl⟩
        first | rfl | (simp [Lib.toList_data])
end Go.Proofs.YtjoifmnolmimkaaGreatDoor
namespace Go.Proofs.YtjoifmnolmimkaaGreatDoor
open Go.RowKit Go.Shelf
open Lim

/-- Go's remainder of a number that may be negative, made positive. -/
theorem rem_pos (t : Int) : (t.tmod 1000000000 + 1000000000) % 1000000000 = t % 1000000000 := by
  rw [Int.tmod_eq_emod]
  split <;> omega
theorem rem_pos2 (t : Int) : 0 ≤ t.tmod 1000000000 + 1000000000 := by
  have := Int.lt_tmod_of_pos t (show (0 : Int) < 1000000000 by omega)
  omega

theorem step_val {t : Int} (_h1 : -1000000000000000000 ≤ t) (_h2 : t < 1000000000) : (wrap64 (t.tmod 1000000000 + 1000000000)).tmod 1000000000 = t % 1000000000 := by
  have a := rem_pos t
  have b := rem_pos2 t
  have c := Int.tmod_lt_of_pos t (show (0 : Int) < 1000000000 by omega)
  rw [IntWalk.wrap64_in _ (by omega), Int.tmod_eq_emod_of_nonneg b, a]
theorem step_quo {t : Int} (h1 : -1000000000000000000 ≤ t) (h2 : t < 1000000000) : wrap64 ((wrap64 (t % 1000000000 - t)).tdiv 1000000000) = (t % 1000000000 - t) / 1000000000 := by
  rw [IntWalk.wrap64_in (t % 1000000000 - t) (by omega), Int.tdiv_eq_ediv_of_nonneg (by omega), IntWalk.wrap64_in _ (by omega)]

section
variable {w : World} {g : Nat} {t : TypeId} {P S : List Value} {X : List Nat}
theorem win_getI (h : Blk w g t (P ++ (I64 X ++ S)).toArray) {off i : Nat} (ho : off = P.length) (hi : i < X.length) : w.cell? ⟨g, off + i, none⟩ = some (.int .i64 ((X[i]?.getD 0 : Nat) : Int)) := by
  subst ho
  rw [h.cell, List.getElem?_toArray, List.getElem?_append_right (by omega), show P.length + i - P.length = i by omega, List.getElem?_append_left (by rw [I64_length]; exact hi), I64_get hi]
theorem win_setI (h : Blk w g t (P ++ (I64 X ++ S)).toArray) {off i : Nat} (ho : off = P.length) (hi : i < X.length) (x : Nat) : Blk (w.setCell ⟨g, off + i, none⟩ (.int .i64 (x : Int))) g t (P ++ (I64 (X.set i x) ++ S)).toArray := by
  subst ho
  have h2 := h.set_ (P.length + i) (.int .i64 (x : Int))
  rw [List.setIfInBounds_toArray, List.set_append_right _ _ (by omega), show P.length + i - P.length = i by omega, List.set_append_left _ _ (by rw [I64_length]; exact hi)] at h2
  rw [show I64 (X.set i x) = (I64 X).set i (.int .i64 (x : Int)) by simp [I64, List.map_set]]
  exact h2
end

section
variable {w : World} {g : Nat} {t : TypeId} {P S : List Value} {X : List Nat}
/-- The last cell of the window, whatever it holds. -/
theorem last_get {v : Value} (h : Blk w g t (P ++ (I64 X ++ (v :: S))).toArray) {off n : Nat} (ho : off = P.length) (hn : n = X.length) : w.cell? ⟨g, off + n, none⟩ = some v := by
  subst ho; subst hn
  rw [h.cell, List.getElem?_toArray, List.getElem?_append_right (by omega), show P.length + X.length - P.length = X.length by omega, List.getElem?_append_right (by rw [I64_length]; omega), I64_length]
  simp
theorem last_set {v : Value} (h : Blk w g t (P ++ (I64 X ++ (v :: S))).toArray) {off n : Nat} (ho : off = P.length) (hn : n = X.length) (v' : Value) : Blk (w.setCell ⟨g, off + n, none⟩ v') g t (P ++ (I64 X ++ (v' :: S))).toArray := by
  subst ho; subst hn
  have h2 := h.set_ (P.length + X.length) v'
  rw [List.setIfInBounds_toArray, List.set_append_right _ _ (by omega), show P.length + X.length - P.length = X.length by omega, List.set_append_right _ _ (by rw [I64_length]; omega), I64_length, Nat.sub_self, List.set_cons_zero] at h2
  exact h2
theorem last_split {n : Nat} (hn : X.length = n + 1) : I64 X ++ S = I64 (X.take n) ++ (.int .i64 ((X[n]?.getD 0 : Nat) : Int) :: S) := by
  have e : X = X.take n ++ [X[n]?.getD 0] := by
    have := List.take_succ_eq_append_getElem (l := X) (i := n) (by omega)
    rw [List.take_of_length_le (by omega)] at this
    rw [show X[n]?.getD 0 = X[n]'(by omega) by simp [show n < X.length by omega]]
    exact this
  conv => lhs; rw [e]
  simp [I64]
end

set_option maxRecDepth 100000 in
set_option maxHeartbeats 2000000 in
theorem rstep_any (P S : List Value) (U V : List Nat) (n g off cu cv : Nat) (Av : Option Addr) (w : World) (hD : Div2 U V n) (hoff : off = P.length) (hn : n ≤ 100000)
    (hu : Blk w g 3 (P ++ (I64 U ++ S)).toArray) (hv : Row w Av (I64 V)) (hvg : ∀ a, Av = some a → a.block ≠ g) :
    Calls Tryz.prog 162 #[.slice (some ⟨g, off, none⟩) (n + 1) cu, .slice Av n cv] w fun e w' => ∃ W : List Nat, e = .returned (.int .i64 ((val U / val V : Nat) : Int)) ∧ Sm W ∧ W.length = n + 1 ∧ val W = val U % val V ∧ Blk w' g 3 (P ++ (I64 W ++ S)).toArray ∧ Only g w w' := by
  have h2 := hD.two
  have hlu := hD.lu
  have hlv := hD.lv
  obtain ⟨b, o, rfl, hb, hcell⟩ := hv (by rw [I64_length]; omega)
  have hbg : b ≠ g := hvg _ rfl
  have HV := Lib.hid (show ∀ W, Only g w W → ∀ i, i < n → W.cell? ⟨b, o + i, none⟩ = some (.int .i64 ((V[i]?.getD 0 : Nat) : Int)) from fun W hW i hi => hW.cell hbg (hcell i _ (I64_get (by omega))))
  have HU := Lib.hid hu
  have HD := Lib.hid hD
  have hgs := hu.lt
  clear hcell hvg hv
  -- the limbs that the estimate reads
  have un := hD.su.get n
  have un1 := hD.su.get (n - 1)
  have un2 := hD.su.get (n - 2)
  have vn1 := hD.sv.get (n - 1)
  have vn2 := hD.sv.get (n - 2)
  have vtop := hD.top
  have cun := win_getI hu hoff (i := n) (by omega)
  have cun1 := win_getI hu hoff (i := n - 1) (by omega)
  have cun2 := win_getI hu hoff (i := n - 2) (by omega)
  have cvn1 := HV.out w Only.refl (n - 1) (by omega)
  have cvn2 := HV.out w Only.refl (n - 2) (by omega)
  clear hD hu
  have HST := Lib.hid (fun t ht => Est.start (U := U) (V := V) (n := n) HD.out (t := t) ht)
  have HLO := Lib.hid (fun g r (e : Est U V n g r) hc => Est.lower HD.out e hc)
  have HDN := Lib.hid (fun g r (e : Est U V n g r) hc => Est.done HD.out e hc)
  have HSM := Lib.hid (fun g r (e : Est U V n g r) => e.sum)
  generalize hun : U[n]?.getD 0 = u0 at *
  generalize hun1 : U[n - 1]?.getD 0 = u1 at *
  generalize hun2 : U[n - 2]?.getD 0 = u2 at *
  generalize hvn1 : V[n - 1]?.getD 0 = v1 at *
  generalize hvn2 : V[n - 2]?.getD 0 = v2 at *
  rw [B_val] at un un1 un2 vn1 vn2
  have HEQ := Lib.hid (And.intro hun (And.intro hvn1 hvn2))
  clear hun hun1 hun2 hvn1 hvn2
  have hv1 : 0 < v1 := by omega
  have HO := Lib.hid (And.intro hoff (And.intro hlu hlv))
  clear hoff hlu hlv
  go_enter Tryz.func162, Tryz.ntmps162
  go_wp2
  go_quiet (fail)
  go_wp2
  go_quiet (fail)
  go_upto_block 0 with fail
  go_cut [7, 8] from 43 to 75 (fun sg sr wx => ∃ gg r k : Nat, sg = .int .i64 (gg : Int) ∧ sr = .int .i64 (r : Int) ∧ val U / val V ≤ gg ∧ (gg < B ∧ gg * val V < val U + val V) ∧ wx = w.drewN k)
  case first =>
    go_wp2
    go_loopw [7, 8] (fun sg sr wr => ∃ gg r k : Nat, sg = .int .i64 (gg : Int) ∧ sr = .int .i64 (r : Int) ∧ Est U V n gg r ∧ wr = w.drewN k) (fun sg _ _ => (intOf sg).toNat)
    case atStart => exact ⟨_, _, _, int_eq (quo_cast u0 u1 v1), int_eq (rem_cast u0 u1 v1), HST.out _ rfl, World.drewN_drewN _ _ _⟩
    case round =>
      obtain ⟨gg, r, k, rfl, rfl, he, rfl⟩ := hrel
      have hsum := HSM.out gg r he
      have hgv : gg ≤ gg * v1 := Nat.le_mul_of_pos_right _ hv1
      have hr18 : r ≤ 1000000000000000000 := by rw [B_val] at hsum; omega
      have hg18 : gg ≤ 1000000000000000000 := by rw [B_val] at hsum; omega
      have HE := Lib.hid he
      have HS := Lib.hid hsum
      clear he hsum hgv
      have qun2 : (w.drewN k).cell? ⟨g, off + (n - 2), none⟩ = _ := cun2
      have qvn1 : (w.drewN k).cell? ⟨b, o + (n - 1), none⟩ = _ := cvn1
      have qvn2 : (w.drewN k).cell? ⟨b, o + (n - 2), none⟩ = _ := cvn2
      by_cases hr : r < 1000000000
      · have d1 : decide ((r : Int) < 1000000000) = true := decide_eq_true (by omega)
        by_cases hg : 1000000000 ≤ gg
        · have d2 : decide ((1000000000 : Int) ≤ (gg : Int)) = true := decide_eq_true (by omega)
          have HL := Lib.hid (HLO.out gg r HE.out (.inl (by rw [B_val]; exact hg)))
          have hg1 := HL.out.1
          go_wp2
          go_quiet (fail)
          go_wp2
          go_quiet (fail)
          go_wp2
          go_roundw
          case rel => exact ⟨gg - 1, r + v1, _, int_eq (by omega), int_eq (by omega), HL.out.2, by simp only [World.drewN_drewN]; rfl⟩
          case measure => simp [intOf]; omega
        · have d2 : decide ((1000000000 : Int) ≤ (gg : Int)) = false := decide_eq_false (by omega)
          have hp0 : (0 : Int) ≤ (gg : Int) * (v2 : Int) := Int.mul_nonneg (by omega) (by omega)
          have hp1 : (gg : Int) * (v2 : Int) ≤ 1000000000000000000 := by
            have : gg * v2 ≤ 1000000000 * 1000000000 := Nat.mul_le_mul (by omega) (by omega)
            have e : (gg : Int) * (v2 : Int) = ((gg * v2 : Nat) : Int) := (Int.natCast_mul _ _).symm
            rw [e]; omega
          by_cases hx : r * B + u2 < gg * v2
          · have d3 : decide ((r : Int) * 1000000000 + (u2 : Int) < (gg : Int) * (v2 : Int)) = true := decide_eq_true (by
              have e : (gg : Int) * (v2 : Int) = ((gg * v2 : Nat) : Int) := (Int.natCast_mul _ _).symm
              rw [B_val] at hx; rw [e]; omega)
            have HL := Lib.hid (HLO.out gg r HE.out (.inr hx))
            have hg1 := HL.out.1
            clear hx
            go_wp2
            go_quiet (fail)
            go_wp2
            go_quiet (fail)
            go_wp2
            go_roundw
            case rel => exact ⟨gg - 1, r + v1, _, int_eq (by omega), int_eq (by omega), HL.out.2, by simp only [World.drewN_drewN]; rfl⟩
            case measure => simp [intOf]; omega
          · have d3 : decide ((r : Int) * 1000000000 + (u2 : Int) < (gg : Int) * (v2 : Int)) = false := decide_eq_false (by
              have e : (gg : Int) * (v2 : Int) = ((gg * v2 : Nat) : Int) := (Int.natCast_mul _ _).symm
              rw [B_val] at hx; rw [e]; omega)
            have HX := Lib.hid (HDN.out gg r HE.out (.inr ⟨by rw [B_val]; omega, by omega⟩))
            clear hx
            go_wp2
            go_quiet (fail)
            go_wp2
            go_meet
            case rel => exact ⟨gg, r, _, rfl, rfl, HE.out.low, HX.out, by simp only [World.drewN_drewN]; rfl⟩
      · have d1 : decide ((r : Int) < 1000000000) = false := decide_eq_false (by omega)
        have HX := Lib.hid (HDN.out gg r HE.out (.inl (by rw [B_val]; omega)))
        go_wp2
        go_quiet (fail)
        go_wp2
        go_meet
        case rel => exact ⟨gg, r, _, rfl, rfl, HE.out.low, HX.out, by simp only [World.drewN_drewN]; rfl⟩
  case rest =>
    obtain ⟨gg, r, k, rfl, rfl, hlow, ⟨hgB, hup⟩, rfl⟩ := hcut
    have HG := Lib.hid (And.intro hlow hup)
    rw [B_val] at hgB
    have HBK := Lib.hid (show Blk (w.drewN k) g 3 (P ++ (I64 U ++ S)).toArray from HU.out)
    have HSS := Lib.hid (SubStep.start (U := U) (V := V) (n := n) (g := gg) HD.out.su HD.out.lu)
    clear hlow hup cun cun1 cun2 cvn1 cvn2
    go_wp2
    go_loopw [9, 10] (fun sc si wr => ∃ (i : Nat) (X : List Nat) (c : Nat), i ≤ n ∧ sc = .int .i64 (c : Int) ∧ si = .int .i64 (i : Int) ∧ SubStep U V n gg i X c ∧ c ≤ B ∧ Blk wr g 3 (P ++ (I64 X ++ S)).toArray ∧ Only g w wr) (fun _ si _ => n - (intOf si).toNat)
    case atStart => exact ⟨0, U, 0, Nat.zero_le _, rfl, rfl, HSS.out, Nat.zero_le _, HBK.out, Only.refl.drewN k⟩
    case round =>
      obtain ⟨i, X, c, hi, rfl, rfl, hs, hc, hblk, hon⟩ := hrel
      rw [B_val] at hc
      have hgw := hblk.lt
      by_cases hlt : i < n
      · have hXl := hs.2.1
        have hx0 := hs.1.get i
        have hXU := hs.2.2.2 i (Nat.le_refl _)
        have hy0 := HD.out.sv.get i
        have cx := win_getI hblk HO.out.1 (i := i) (by omega)
        have fx := hblk.frozen (off + i)
        have cy := HV.out wr hon i hlt
        have HSTP := Lib.hid (fun x c' hx he => hs.step (x := x) (c' := c') hlt hx he)
        have HSET1 := Lib.hid (fun (x : Nat) => win_setI hblk HO.out.1 (i := i) (by omega) x)
        have HON := Lib.hid hon
        rw [← hXU] at HSTP
        clear hs hXU hXl hblk hon HSS HBK
        generalize X[i]?.getD 0 = x0 at *
        generalize V[i]?.getD 0 = y0 at *
        rw [B_val] at hx0 hy0
        obtain ⟨q, hq⟩ : ∃ q, gg * y0 = q := ⟨_, rfl⟩
        have e1 : (gg : Int) * (y0 : Int) = (q : Int) := by rw [← hq, Int.natCast_mul]
        have hq18 : q ≤ 999999999 * 999999999 := by rw [← hq]; exact Nat.mul_le_mul (by omega) (by omega)
        rw [hq] at HSTP
        clear hq
        have hq1 : (gg : Int) * (y0 : Int) ≤ 999999998000000001 := by rw [e1]; omega
        have hq0 : (0 : Int) ≤ (gg : Int) * (y0 : Int) := by rw [e1]; omega
        obtain ⟨tt, htt⟩ : ∃ tt : Int, (x0 : Int) - (c : Int) - (q : Int) = tt := ⟨_, rfl⟩
        have htl : -1000000000000000000 ≤ tt := by omega
        have hth : tt < 1000000000 := by omega
        have HV1 := Lib.hid (And.intro (step_val htl hth) (step_quo htl hth))
        have HT := Lib.hid htt
        go_wp2
        go_quiet (fail)
        go_wp2
        rw [HV1.out.1, HV1.out.2]
        obtain ⟨x', hx'⟩ : ∃ x' : Nat, tt % 1000000000 = (x' : Int) := ⟨(tt % 1000000000).toNat, by omega⟩
        obtain ⟨c', hc'⟩ : ∃ c' : Nat, (tt % 1000000000 - tt) / 1000000000 = (c' : Int) := ⟨((tt % 1000000000 - tt) / 1000000000).toNat, by omega⟩
        rw [hx'] at hc' ⊢
        rw [hc']
        have htt2 := HT.out
        have HST := HSTP.out x' c' (by rw [B_val]; omega) (by rw [B_val]; omega)
        go_roundw
        case rel =>
          exact ⟨i + 1, X.set i x', c', hlt, rfl, by go_num, HST, by rw [B_val]; omega, HSET1.out x', (HON.out.drewN nq).setCell _ _ hgw⟩
        case measure => simp [intOf]; omega
      · obtain rfl : i = n := by omega
        have hXl := hs.2.1
        have hXU := hs.2.2.2 i (Nat.le_refl _)
        have cx := win_getI hblk HO.out.1 (i := i) (by omega)
        have fx := hblk.frozen (off + i)
        rw [hXU, HEQ.out.1] at cx
        have HSF := Lib.hid (fun hle => sub_fits HD.out HG.out.1 HG.out.2 hs hle)
        have HSB := Lib.hid (fun hgt => sub_back HD.out HG.out.1 HG.out.2 hs hgt)
        rw [HEQ.out.1] at HSF HSB
        have HBL := Lib.hid hblk
        have HON := Lib.hid hon
        have HXL := Lib.hid hXl
        have HXS := Lib.hid hs.1
        clear hs hXl hXU hblk hon HSS HBK hlt
        by_cases hle : c ≤ u0
        · have e2 : (u0 : Int) - (c : Int) = ((u0 - c : Nat) : Int) := by omega
          have HR := Lib.hid e2
          have HF := Lib.hid (HSF.out hle)
          have hnn : ¬ (u0 : Int) - (c : Int) < 0 := by omega
          clear e2 hle
          go_wp2
          go_loopw [7] (fun sg w3 => sg = .int .i64 (gg : Int) ∧ Blk w3 g 3 (P ++ (I64 (X.set i (u0 - c)) ++ S)).toArray ∧ Only g w w3) (fun _ _ => 0)
          case atStart => exact ⟨rfl, by rw [HR.out]; exact win_setI HBL.out HO.out.1 (by rw [HXL.out]; omega) _, HON.out.setCell _ _ hgw⟩
          case round =>
            obtain ⟨rfl, hblk, hon⟩ := hrel
            have cx2 := win_getI hblk HO.out.1 (i := i) (by rw [List.length_set, HXL.out]; omega)
            rw [List.getElem?_set_self (by rw [HXL.out]; omega)] at cx2
            simp only [Option.getD_some] at cx2
            have hnn2 : ¬ ((u0 - c : Nat) : Int) < 0 := by omega
            clear cx fx
            have HB2 := Lib.hid hblk
            have HON2 := Lib.hid hon
            clear hblk hon
            generalize hz : u0 - c = z at *
            go_wp2
            go_ret
            exact ⟨ret_eq (int_eq (by rw [HF.out.1]; exact Int.natCast_ediv _ _)), X.set i z, HF.out.2.2, by rw [List.length_set]; exact HXL.out, HF.out.2.1, HB2.out, HON2.out⟩
        · have HF := Lib.hid (HSB.out (by omega))
          have HBS := Lib.hid (BackStep.start (U := X) (V := V) (n := i) HXS.out HXL.out)
          have hg1 : 1 ≤ gg := by rw [HF.out.1]; exact Nat.le_add_left 1 _
          have e2 : (u0 : Int) - (c : Int) = -1 := by have := HF.out.2.1; omega
          obtain ⟨wo, rfl⟩ : ∃ wo, wo = wr := ⟨_, rfl⟩
          have hlt2 : (X.take i).length = i := by rw [List.length_take, HXL.out]; omega
          have HLT := Lib.hid hlt2
          have HB3 := Lib.hid (show Blk (wo.setCell ⟨g, off + i, none⟩ (.int .i64 (-1))) g 3 (P ++ (I64 (X.take i) ++ (.int .i64 (-1) :: S))).toArray from by
            have h2 := HBL.out
            rw [last_split HXL.out] at h2
            exact last_set h2 HO.out.1 hlt2.symm _)
          clear hle hlt2
          go_wp2
          go_loopw [7] (fun sg w3 => ∃ G : Nat, sg = .int .i64 (G : Int) ∧ Only g w w3 ∧ ((G = gg ∧ Blk w3 g 3 (P ++ (I64 (X.take i) ++ (.int .i64 (-1) :: S))).toArray) ∨ (G + 1 = gg ∧ ∃ W : List Nat, Sm W ∧ W.length = i + 1 ∧ val W = val U % val V ∧ Blk w3 g 3 (P ++ (I64 W ++ S)).toArray))) (fun sg _ => (intOf sg).toNat)
          case atStart => exact ⟨gg, rfl, HON.out.setCell _ _ hgw, .inl ⟨rfl, by first | exact HB3.out | (rw [e2]; exact HB3.out)⟩⟩
          case round =>
            obtain ⟨G, rfl, hon, hcase⟩ := hrel
            clear cx fx
            rcases hcase with ⟨rfl, hblk⟩ | ⟨hG, W, hW1, hW2, hW3, hblk⟩
            · have cx2 := last_get hblk HO.out.1 HLT.out.symm
              have HB4 := Lib.hid hblk
              have HON2 := Lib.hid hon
              have hgw3 := hblk.lt
              clear hblk hon
              obtain ⟨wq, rfl⟩ : ∃ wq, wq = wr := ⟨_, rfl⟩
              go_wp2
              go_loopw [13, 14] (fun sc sj wr => ∃ (j : Nat) (Y : List Nat) (cy : Nat), j ≤ i ∧ sc = .int .i64 (cy : Int) ∧ sj = .int .i64 (j : Int) ∧ BackStep X V i j Y cy ∧ Blk wr g 3 (P ++ (I64 (Y.take i) ++ (.int .i64 (-1) :: S))).toArray ∧ Only g w wr) (fun _ sj _ => i - (intOf sj).toNat)
              case atStart => exact ⟨0, X, 0, Nat.zero_le _, rfl, rfl, HBS.out, HB4.out, HON2.out⟩
              case round =>
                obtain ⟨j, Y, cy, hj, rfl, rfl, hb4, hblk, hon⟩ := hrel
                have hcy := hb4.2.2.2.1
                have hYl := hb4.2.1
                have hYt : (Y.take i).length = i := by rw [List.length_take, hYl]; omega
                have hgw2 := hblk.lt
                clear cx2
                by_cases hlt : j < i
                · have hx0 := hb4.1.get j
                  have hXY := hb4.2.2.2.2 j (Nat.le_refl _)
                  have hy0 := HD.out.sv.get j
                  have cx := win_getI hblk HO.out.1 (i := j) (by omega)
                  rw [List.getElem?_take_of_lt hlt] at cx
                  have fx := hblk.frozen (off + j)
                  have cv := HV.out wr hon j hlt
                  have HSTP := Lib.hid (hb4.step HXS.out HD.out.sv hlt rfl)
                  have HSET := Lib.hid (fun (x : Nat) => (show Blk (wr.setCell ⟨g, off + j, none⟩ (.int .i64 (x : Int))) g 3 (P ++ (I64 ((Y.set j x).take i) ++ (.int .i64 (-1) :: S))).toArray from by
                    rw [List.take_set]; exact win_setI hblk HO.out.1 (i := j) (by omega) x))
                  have HON3 := Lib.hid hon
                  rw [← hXY] at HSTP
                  clear hb4 hXY hYl hYt hblk hon HBS HB4
                  generalize Y[j]?.getD 0 = x0 at *
                  generalize V[j]?.getD 0 = y0 at *
                  rw [B_val] at hx0 hy0
                  have e1 : ((x0 : Int) + (y0 : Int) + (cy : Int)) % 1000000000 = (((x0 + y0 + cy) % B : Nat) : Int) := by rw [B_val]; omega
                  have HR := Lib.hid e1
                  clear e1
                  go_wp2
                  go_quiet (fail)
                  go_wp2
                  go_roundw
                  case rel =>
                    refine ⟨j + 1, Y.set j ((x0 + y0 + cy) % B), (x0 + y0 + cy) / B, hlt, int_eq (by rw [B_val]; omega), by go_num, HSTP.out, ?_, ?_⟩
                    · rw [HR.out]; exact (HSET.out _)
                    · exact (HON3.out.drewN _).setCell _ _ hgw2
                  case measure => simp [intOf]; omega
                · obtain rfl : j = i := by omega
                  have HE := Lib.hid (HF.out.2.2 hb4)
                  have hc1 : cy = 1 := HE.out.1
                  have cx := last_get hblk HO.out.1 hYt.symm
                  have fx := hblk.frozen (off + j)
                  have HSET := Lib.hid (last_set hblk HO.out.1 hYt.symm (.int .i64 ((0 : Nat) : Int)))
                  have HSP := Lib.hid (last_split (X := Y.set j 0) (S := S) (n := j) (by rw [List.length_set]; exact hYl))
                  have HON3 := Lib.hid hon
                  have HYL := Lib.hid hYl
                  subst hc1
                  clear hb4 hblk hon hYl hYt HBS HB4 HSB HSF hlt
                  go_wp2
                  go_roundw
                  case rel =>
                    refine ⟨G - 1, int_eq (by omega), HON3.out.setCell _ _ hgw2, .inr ⟨by omega, Y.set j 0, HE.out.2.2, by rw [List.length_set]; exact HYL.out, HE.out.2.1, ?_⟩⟩
                    rw [HSP.out, List.getElem?_set_self (by rw [HYL.out]; omega), List.take_set_of_le (Nat.le_refl _)]
                    exact HSET.out
                  case measure => simp [intOf]; omega
            · have cx2 := win_getI hblk HO.out.1 (i := i) (by rw [hW2]; omega)
              have HB4 := Lib.hid hblk
              have HON2 := Lib.hid hon
              have HW := Lib.hid (And.intro hW1 (And.intro hW2 hW3))
              have HGG := Lib.hid hG
              have hnn : ¬ ((W[i]?.getD 0 : Nat) : Int) < 0 := by omega
              clear hblk hon hW1 hW2 hW3 hG
              generalize W[i]?.getD 0 = z at *
              go_wp2
              go_ret
              exact ⟨ret_eq (int_eq (by have h1 := HGG.out; have h2 := HF.out.1; rw [h2] at h1; rw [Nat.add_right_cancel h1]; exact Int.natCast_ediv _ _)), W, HW.out.1, HW.out.2.1, HW.out.2.2, HB4.out, HON2.out⟩
end Go.Proofs.YtjoifmnolmimkaaGreatDoor
