/- rat: Sign, Cmp, choose, Min, Max, Int, Parts. rat: round, Floor, Ceil (printed by mkrate.py). More functions of rat on texts of numbers: comparisons, rounding; the statements' order. -/
import Derived.Test.YtjoifmnolmimkaaGreatDoorRb14
import Derived.Test.YtjoifmnolmimkaaGreatDoorRb13
import Derived.Test.YtjoifmnolmimkaaGreatDoorRb11
namespace Go.Proofs.YtjoifmnolmimkaaGreatDoor
open Go.RowKit Go.Shelf
open Lim

/-- An int and an error as a function returns them. -/
def resI (x : Int × Nat) : Value := .tuple #[.int .i64 x.1, .int .i64 (x.2 : Int)]
def oneI (f : Rat → Int × Nat) (a : List UInt8) : Int × Nat := if errQ a ≠ 0 then (0, errQ a) else f (valQ a)
def twoI (f : Rat → Rat → Int × Nat) (a b : List UInt8) : Int × Nat := if errQ a ≠ 0 then (0, errQ a) else if errQ b ≠ 0 then (0, errQ b) else f (valQ a) (valQ b)

theorem withI_any (F : FuncId) (hrun : Runs F) (caps : Array Value) (g : Rat → Int × Nat) (a : ByteArray) (w : World) (ha : a.size ≤ 270000) (hr : Res w)
    (hF : ∀ p v w', Below w.heap.size w w' → Res w' → IsFrac w' v p → Sz maxD p → Calls Tryz.prog F (#[v] ++ caps) w' fun e w'' => e = .returned (resI (g p)) ∧ Below w'.heap.size w' w'') :
    Calls Tryz.prog 84 #[.string a, .func (.func F) #[] caps] w fun e w' => e = .returned (resI (oneI g a.data.toList)) ∧ Below w.heap.size w w' := by
  by_cases h1 : errQ a.data.toList = 0
  · unfold oneI
    rw [if_neg (by omega)]
    exact WI.with_ok F hrun caps (.int .i64 (g (valQ a.data.toList)).1) _ a w ha hr h1 (fun v w' hb hr' hv => hF _ v w' hb hr' hv (sz_max h1))
  · unfold oneI
    rw [if_pos h1]
    exact WI.with_err a _ w ha hr h1
theorem bothI_any (F : FuncId) (hrun : Runs F) (g : Rat → Rat → Int × Nat) (a b : ByteArray) (w : World) (ha : a.size ≤ 270000) (hb : b.size ≤ 270000) (hr : Res w)
    (hF : ∀ p q v v' w', Res w' → IsFrac w' v p → IsFrac w' v' q → Sz maxD p → Sz maxD q → Calls Tryz.prog F #[v, v'] w' fun e w'' => e = .returned (resI (g p q)) ∧ Below w'.heap.size w' w'') :
    Calls Tryz.prog 102 #[.string a, .string b, .func (.func F) #[] #[]] w fun e w' => e = .returned (resI (twoI g a.data.toList b.data.toList)) ∧ Below w.heap.size w w' := by
  refine (WI.both_any F hrun (fun p q => (.int .i64 (g p q).1, ((g p q).2 : Int))) a b w ha hb hr (fun v v' w' _ hr' hv hv' h1 h2 => hF _ _ v v' w' hr' hv hv' (sz_max h1) (sz_max h2))).mono ?_
  rintro e w' ⟨rfl, hB⟩
  refine ⟨?_, hB⟩
  unfold twoI resI
  split
  · rfl
  · split <;> rfl

theorem runs_Sign : Runs 85 := runs_of Tryz.func85 (by kernel_rfl) (by kernel_rfl)
set_option maxRecDepth 100000 in
set_option maxHeartbeats 2000000 in
theorem Sign1_any (p : Rat) (v : Value) (w : World) (hv : IsFrac w v p) :
    Calls Tryz.prog 85 #[v] w fun e w' => e = .returned (resI (sgQ p, 0)) ∧ Below w.heap.size w w' := by
  obtain ⟨bq, N, D, A, c, A', c', rfl, hn, hd, HQ⟩ := isFrac_open hv
  have HX := Lib.hid (below_alloc (Below.refl w.heap.size w) (.cells #[.bool bq, .slice A (toL N).length c, .slice A' (toL D).length c'] 50))
  have HF := Lib.hid (sign_any p _ _ (hv.below HX.out))
  generalize sgQ p = r at HF ⊢
  clear hv hn hd
  go_enter Tryz.func85, Tryz.ntmps85
  go_wp2_with (go_at_call 61; refine HF.out.mono ?_; rintro e w1 ⟨rfl, hb1⟩; have HB1 := Lib.hid (HX.out.trans (hb1.mono HX.out.size)); clear hb1)
  refine bodyPost_ret (results_tmp2 rfl _ _ _) rfl ?_
  exact ⟨rfl, HB1.out⟩
set_option maxRecDepth 100000 in
/-- rat.Sign. -/
theorem ratSign_any (a : ByteArray) (w : World) (ha : a.size ≤ 270000) (hr : Res w) :
    Calls Tryz.prog 28 #[.string a] w fun e w' => e = .returned (resI (oneI (fun p => (sgQ p, 0)) a.data.toList)) ∧ Below w.heap.size w w' := by
  have HB := Lib.hid (withI_any 85 runs_Sign #[] (fun p => (sgQ p, 0)) a w ha hr (fun p v w' _ _ hv _ => Sign1_any p v w' hv))
  generalize oneI (fun p => (sgQ p, 0)) a.data.toList = r at HB ⊢
  clear hr
  go_enter Tryz.func28, Tryz.ntmps28
  go_wp2_with (go_at_call 84; refine HB.out.mono ?_; rintro e w2 ⟨rfl, hb2⟩; have HB2 := Lib.hid hb2; clear hb2; unfold resI)
  refine bodyPost_ret (results_tmp2 rfl _ _ _) rfl ?_
  exact ⟨rfl, HB2.out⟩

theorem runs_Cmp : Runs 103 := runs_of Tryz.func103 (by kernel_rfl) (by kernel_rfl)
set_option maxRecDepth 100000 in
set_option maxHeartbeats 2000000 in
theorem Cmp1_any (p q : Rat) (v v' : Value) (w : World) (hv : IsFrac w v p) (hv' : IsFrac w v' q) (sp : Sz maxD p) (sq : Sz maxD q) :
    Calls Tryz.prog 103 #[v, v'] w fun e w' => e = .returned (resI (cmpQ p q, 0)) ∧ Below w.heap.size w w' := by
  obtain ⟨lp, lp'⟩ := sz_limbs sp
  obtain ⟨lq, lq'⟩ := sz_limbs sq
  obtain ⟨bq, N, D, A, c, A', c', rfl, hn, hd, HQ⟩ := isFrac_open hv
  obtain ⟨bq', N', D', B, d, B', d', rfl, hn', hd', HQ'⟩ := isFrac_open hv'
  have HX := Lib.hid (below_alloc (below_alloc (Below.refl w.heap.size w) (.cells #[.bool bq, .slice A (toL N).length c, .slice A' (toL D).length c'] 50)) (.cells #[.bool bq', .slice B (toL N').length d, .slice B' (toL D').length d'] 50))
  have HF := Lib.hid (fcmp_any p q _ _ _ (hv.below HX.out) (hv'.below HX.out) (by omega) (by omega) (by omega) (by omega))
  generalize cmpQ p q = r at HF ⊢
  clear hv hv' hn hd hn' hd' sp sq lp lp' lq lq'
  go_enter Tryz.func103, Tryz.ntmps103
  go_wp2_with (go_at_call 104; refine HF.out.mono ?_; rintro e w1 ⟨k, rfl, hk, hb1⟩; subst hk; have HB1 := Lib.hid (HX.out.trans (hb1.mono HX.out.size)); clear hb1)
  refine bodyPost_ret (results_tmp2 rfl _ _ _) rfl ?_
  exact ⟨rfl, HB1.out⟩
set_option maxRecDepth 100000 in
/-- rat.Cmp. -/
theorem ratCmp_any (a b : ByteArray) (w : World) (ha : a.size ≤ 270000) (hb : b.size ≤ 270000) (hr : Res w) :
    Calls Tryz.prog 46 #[.string a, .string b] w fun e w' => e = .returned (resI (twoI (fun p q => (cmpQ p q, 0)) a.data.toList b.data.toList)) ∧ Below w.heap.size w w' := by
  have HB := Lib.hid (bothI_any 103 runs_Cmp (fun p q => (cmpQ p q, 0)) a b w ha hb hr (fun p q v v' w' _ hv hv' sp sq => Cmp1_any p q v v' w' hv hv' sp sq))
  generalize twoI (fun p q => (cmpQ p q, 0)) a.data.toList b.data.toList = r at HB ⊢
  clear hr
  go_enter Tryz.func46, Tryz.ntmps46
  go_wp2_with (go_at_call 102; refine HB.out.mono ?_; rintro e w2 ⟨rfl, hb2⟩; have HB2 := Lib.hid hb2; clear hb2; unfold resI)
  refine bodyPost_ret (results_tmp2 rfl _ _ _) rfl ?_
  exact ⟨rfl, HB2.out⟩

/-- What choose returns. -/
def chooseQ (x : Int × Nat) (s : Int) (a b : ByteArray) : ByteArray × Nat := if x.2 ≠ 0 then (⟨#[]⟩, x.2) else if x.1 * s > 0 then (b, 0) else (a, 0)
def resS (x : ByteArray × Nat) : Value := .tuple #[.string x.1, .int .i64 (x.2 : Int)]
theorem twoI_bound (a b : List UInt8) : -1 ≤ (twoI (fun p q => (cmpQ p q, 0)) a b).1 ∧ (twoI (fun p q => (cmpQ p q, 0)) a b).1 ≤ 1 := by
  unfold twoI
  split
  · show (-1 : Int) ≤ 0 ∧ (0 : Int) ≤ 1; omega
  · split
    · show (-1 : Int) ≤ 0 ∧ (0 : Int) ≤ 1; omega
    · rcases cmpQ_cases (valQ a) (valQ b) with h | h | h <;> simp [h]
set_option maxRecDepth 100000 in
set_option maxHeartbeats 2000000 in
theorem choose_any (a b : ByteArray) (s : Int) (w : World) (ha : a.size ≤ 270000) (hb : b.size ≤ 270000) (hr : Res w) (hs : s = 1 ∨ s = -1) :
    Calls Tryz.prog 92 #[.string a, .string b, .int .i64 s] w fun e w' => e = .returned (resS (chooseQ (twoI (fun p q => (cmpQ p q, 0)) a.data.toList b.data.toList) s a b)) ∧ Below w.heap.size w w' := by
  have HB := Lib.hid (ratCmp_any a b w ha hb hr)
  obtain ⟨z1, z2⟩ := twoI_bound a.data.toList b.data.toList
  generalize twoI (fun p q => (cmpQ p q, 0)) a.data.toList b.data.toList = r at HB z1 z2 ⊢
  obtain ⟨k, e0⟩ := r
  dsimp only at z1 z2
  unfold resI at HB
  unfold chooseQ resS
  dsimp only at HB ⊢
  clear hr
  by_cases he : e0 = 0
  · subst he
    have hks : -1 ≤ k * s ∧ k * s ≤ 1 := by rcases hs with rfl | rfl <;> omega
    rw [if_neg (by omega)]
    by_cases hp : k * s > 0
    · rw [if_pos hp]
      have hp' : decide (k * s > 0) = true := decide_eq_true hp
      go_enter Tryz.func92, Tryz.ntmps92
      go_wp2_with (go_at_call 46; refine HB.out.mono ?_; rintro e w2 ⟨rfl, hb2⟩; have HB2 := Lib.hid hb2; clear hb2)
      refine bodyPost_ret (results_tmp2 rfl _ _ _) rfl ?_
      exact ⟨rfl, HB2.out⟩
    · rw [if_neg hp]
      have hp' : decide (k * s > 0) = false := decide_eq_false hp
      go_enter Tryz.func92, Tryz.ntmps92
      go_wp2_with (go_at_call 46; refine HB.out.mono ?_; rintro e w2 ⟨rfl, hb2⟩; have HB2 := Lib.hid hb2; clear hb2)
      refine bodyPost_ret (results_tmp2 rfl _ _ _) rfl ?_
      exact ⟨rfl, HB2.out⟩
  · rw [if_pos he]
    have hne : ((e0 : Int) == 0) = false := by rw [beq_eq_false_iff_ne]; omega
    have HE := Lib.hid he
    clear he
    go_enter Tryz.func92, Tryz.ntmps92
    go_wp2_with (go_at_call 46; refine HB.out.mono ?_; rintro e w2 ⟨rfl, hb2⟩; have HB2 := Lib.hid hb2; clear hb2)
    refine bodyPost_ret (results_tmp2 rfl _ _ _) rfl ?_
    exact ⟨rfl, HB2.out⟩
set_option maxRecDepth 100000 in
/-- rat.Min. -/
theorem ratMin_any (a b : ByteArray) (w : World) (ha : a.size ≤ 270000) (hb : b.size ≤ 270000) (hr : Res w) :
    Calls Tryz.prog 33 #[.string a, .string b] w fun e w' => e = .returned (resS (chooseQ (twoI (fun p q => (cmpQ p q, 0)) a.data.toList b.data.toList) 1 a b)) ∧ Below w.heap.size w w' := by
  have HB := Lib.hid (choose_any a b 1 w ha hb hr (.inl rfl))
  generalize chooseQ (twoI (fun p q => (cmpQ p q, 0)) a.data.toList b.data.toList) 1 a b = r at HB ⊢
  clear hr
  go_enter Tryz.func33, Tryz.ntmps33
  go_wp2_with (go_at_call 92; refine HB.out.mono ?_; rintro e w2 ⟨rfl, hb2⟩; have HB2 := Lib.hid hb2; clear hb2; unfold resS)
  refine bodyPost_ret (results_tmp2 rfl _ _ _) rfl ?_
  exact ⟨rfl, HB2.out⟩
set_option maxRecDepth 100000 in
/-- rat.Max. -/
theorem ratMax_any (a b : ByteArray) (w : World) (ha : a.size ≤ 270000) (hb : b.size ≤ 270000) (hr : Res w) :
    Calls Tryz.prog 34 #[.string a, .string b] w fun e w' => e = .returned (resS (chooseQ (twoI (fun p q => (cmpQ p q, 0)) a.data.toList b.data.toList) (-1) a b)) ∧ Below w.heap.size w w' := by
  have HB := Lib.hid (choose_any a b (-1) w ha hb hr (.inr rfl))
  generalize chooseQ (twoI (fun p q => (cmpQ p q, 0)) a.data.toList b.data.toList) (-1) a b = r at HB ⊢
  clear hr
  go_enter Tryz.func34, Tryz.ntmps34
  go_wp2_with (go_at_call 92; refine HB.out.mono ?_; rintro e w2 ⟨rfl, hb2⟩; have HB2 := Lib.hid hb2; clear hb2; unfold resS)
  refine bodyPost_ret (results_tmp2 rfl _ _ _) rfl ?_
  exact ⟨rfl, HB2.out⟩
end Go.Proofs.YtjoifmnolmimkaaGreatDoor
namespace Go.Proofs.YtjoifmnolmimkaaGreatDoor
open Go.RowKit Go.Shelf
open Lim
/-- The integer below or above a number. -/
def roundQ (q : Rat) (up : Bool) : Rat := mkQ (ng q) (roundP (ng q) (nm q) q.den up) 1
theorem isFrac_int {w : World} {vq vo : Value} {m : Bool} {Q : Nat} (h1 : IsNat w vq Q) (h2 : IsNat w vo 1) : IsFrac w (.agg #[.bool (m && !decide (Q = 0)), vq, vo]) (mkQ m Q 1) := by
  have e : mkQ m Q 1 = mkQ (m && !decide (Q = 0)) Q 1 := by
    by_cases h : Q = 0
    · subst h; rw [mkQ_zero, mkQ_zero]
    · rw [decide_eq_false h, Bool.not_false, Bool.and_true]
  rw [e]
  refine isFrac_low (by omega) (Nat.gcd_one_right _) ?_ (isParts_mk h1 h2)
  intro hm h0
  subst h0
  simp at hm
theorem lt_pow_succ {x k : Nat} (h : x < B ^ k) : x + 1 < B ^ (k + 1) := by
  have h1 : B ^ (k + 1) = B ^ k * B := Nat.pow_succ ..
  have h2 : B ^ k * 2 ≤ B ^ k * B := Nat.mul_le_mul_left _ (by rw [B_val]; omega)
  have h3 : 0 < B ^ k := Nat.pow_pos (by rw [B_val]; omega)
  generalize B ^ (k + 1) = x1 at *
  generalize B ^ k * B = x2 at *
  generalize B ^ k = x3 at *
  omega
theorem nm_round_le (q : Rat) (up : Bool) (hq : (toL (nm q)).length ≤ 445) : (toL (nm (roundQ q up))).length ≤ 40000 ∧ (toL (roundQ q up).den).length ≤ 40000 := by
  unfold roundQ
  have h1 := mkQ_nm_le (m := ng q) (n := roundP (ng q) (nm q) q.den up) (d := 1) (by omega)
  have h2 := roundP_le (ng q) (nm q) q.den up
  have h3 := lt_pow_succ (toL_lt (nm q))
  refine ⟨Nat.le_trans (toL_len_le (k := (toL (nm q)).length + 1) (Nat.lt_of_le_of_lt (Nat.le_trans h1 h2) h3)) (by omega), ?_⟩
  rw [mkQ_one_den]
  exact Nat.le_trans (toL_len_le (show 1 < B ^ 1 by rw [B_val]; omega)) (by omega)

set_option maxRecDepth 100000 in
set_option maxHeartbeats 2000000 in
theorem round1_ttt (N D pu : Nat) (A A' : Option Addr) (c c' : Nat) (w : World) (hr : Res w) (hn : IsNat w (.slice A (toL N).length c) N) (hd : IsNat w (.slice A' (toL D).length c') D) (hu : Boxed w pu 4 (.bool true)) (hz : decide (N % D = 0) = true) (hD : 0 < D) (hln : (toL N).length ≤ 445) (r : List UInt8 × Nat)
    (hN : ∀ v w, IsFrac w v (mkQ true (N / D) 1) → Res w → Calls Tryz.prog 64 #[v] w fun e w' => e = .returned (.tuple #[.string ⟨r.1.toArray⟩, .int .i64 (r.2 : Int)]) ∧ Below w.heap.size w w') :
    Calls Tryz.prog 141 #[.agg #[.bool true, .slice A (toL N).length c, .slice A' (toL D).length c'], .pointer (some ⟨pu, 0, none⟩)] w fun e w' => e = .returned (resN r) ∧ Below w.heap.size w w' := by
  have HX := Lib.hid (below_alloc (Below.refl w.heap.size w) (.cells #[.bool true, .slice A (toL N).length c, .slice A' (toL D).length c'] 50))
  have HN := Lib.hid (hn.below HX.out)
  have HD := Lib.hid (hd.below HX.out)
  have HU := Lib.hid (bx_below hu HX.out hu.lt)
  have HR := Lib.hid (hr.below HX.out)
  have HZ := Lib.hid hz
  have HNUM := Lib.hid hN
  have HD0 := Lib.hid hD
  have HQL := Lib.hid (show (toL (N / D)).length ≤ 40000 from Nat.le_trans (toL_len_mono (Nat.div_le_self N D)) (by omega))
  have HP := Lib.hid (Blk.new w 50 #[.bool true, .slice A (toL N).length c, .slice A' (toL D).length c'])
  have cu := HU.out.cell
  have TK1 : True := trivial
  have HO1 := Lib.hid (show (toL 1).length ≤ 40000 from Nat.le_trans (toL_len_le (show 1 < B ^ 1 by rw [B_val]; omega)) (by omega))
  clear hr hn hd hu hz hN hD
  go_enter Tryz.func141, Tryz.ntmps141
  go_wp2_with (first
    | (go_at_call 135; refine (divmod_any N D _ _ _ HN.out HD.out (by omega) HD0.out).mono ?_; rintro e w2 ⟨vq, vr, rfl, hq, hr2, hb2⟩; obtain ⟨Aq, cq, rfl, _, _, _⟩ := id hq; obtain ⟨Ar, cr, rfl, _, _, _⟩ := id hr2; have HVQ := Lib.hid hq; have HVR := Lib.hid hr2; have HB := Lib.hid (HX.out.trans (hb2.mono HX.out.size)); have HRW := Lib.hid (HR.out.below hb2); obtain ⟨z0, z1, z2⟩ := rows_of HP.out hb2 HP.out.lt; have HUW := Lib.hid (bx_below HU.out hb2 HU.out.lt); have cu2 := HUW.out.cell; have HBX := Lib.hid hb2; clear hq hr2 hb2 cu)
    | (clear TK1; go_at_call 117; refine (zero_any (N % D) _ _ HVR.out).mono ?_; rintro e w3 ⟨rfl, hw3⟩; subst hw3; rw [HZ.out])

    | (go_at_call 117; refine (zero_any (N / D) _ _ HVQ.out).mono ?_; rintro e w6 ⟨rfl, hw6⟩; subst hw6; generalize hzq : decide (N / D = 0) = zq; have HZQ := Lib.hid hzq; clear hzq)
    | (go_at_call 142; refine (of_any 1 _ (by omega)).mono ?_; rintro e w7 ⟨v7, rfl, hv7, hb7⟩; obtain ⟨A7, c7, rfl, _, _, _⟩ := id hv7; have HV7 := Lib.hid hv7; have HVQ7 := Lib.hid (HVQ.out.below hb7); have HB7 := Lib.hid (HB.out.trans (hb7.mono HB.out.size)); have HRW7 := Lib.hid (HRW.out.below hb7); clear hb7 hv7)
    | (go_at_call 64; refine (HNUM.out _ _ (by have h := isFrac_int (m := true) HVQ7.out HV7.out; rw [HZQ.out, Bool.true_and] at h; exact h) HRW7.out).mono ?_; rintro e w8 ⟨rfl, hb8⟩; have HB8 := Lib.hid (HB7.out.trans (hb8.mono HB7.out.size)); clear hb8))
  refine bodyPost_ret (results_tmp2 rfl _ _ _) rfl ?_
  exact ⟨rfl, HB8.out⟩

set_option maxRecDepth 100000 in
set_option maxHeartbeats 2000000 in
theorem round1_ttf (N D pu : Nat) (A A' : Option Addr) (c c' : Nat) (w : World) (hr : Res w) (hn : IsNat w (.slice A (toL N).length c) N) (hd : IsNat w (.slice A' (toL D).length c') D) (hu : Boxed w pu 4 (.bool true)) (hz : decide (N % D = 0) = false) (hD : 0 < D) (hln : (toL N).length ≤ 445) (r : List UInt8 × Nat)
    (hN : ∀ v w, IsFrac w v (mkQ true (N / D) 1) → Res w → Calls Tryz.prog 64 #[v] w fun e w' => e = .returned (.tuple #[.string ⟨r.1.toArray⟩, .int .i64 (r.2 : Int)]) ∧ Below w.heap.size w w') :
    Calls Tryz.prog 141 #[.agg #[.bool true, .slice A (toL N).length c, .slice A' (toL D).length c'], .pointer (some ⟨pu, 0, none⟩)] w fun e w' => e = .returned (resN r) ∧ Below w.heap.size w w' := by
  have HX := Lib.hid (below_alloc (Below.refl w.heap.size w) (.cells #[.bool true, .slice A (toL N).length c, .slice A' (toL D).length c'] 50))
  have HN := Lib.hid (hn.below HX.out)
  have HD := Lib.hid (hd.below HX.out)
  have HU := Lib.hid (bx_below hu HX.out hu.lt)
  have HR := Lib.hid (hr.below HX.out)
  have HZ := Lib.hid hz
  have HNUM := Lib.hid hN
  have HD0 := Lib.hid hD
  have HQL := Lib.hid (show (toL (N / D)).length ≤ 40000 from Nat.le_trans (toL_len_mono (Nat.div_le_self N D)) (by omega))
  have HP := Lib.hid (Blk.new w 50 #[.bool true, .slice A (toL N).length c, .slice A' (toL D).length c'])
  have cu := HU.out.cell
  have TK1 : True := trivial
  have HO1 := Lib.hid (show (toL 1).length ≤ 40000 from Nat.le_trans (toL_len_le (show 1 < B ^ 1 by rw [B_val]; omega)) (by omega))
  clear hr hn hd hu hz hN hD
  go_enter Tryz.func141, Tryz.ntmps141
  go_wp2_with (first
    | (go_at_call 135; refine (divmod_any N D _ _ _ HN.out HD.out (by omega) HD0.out).mono ?_; rintro e w2 ⟨vq, vr, rfl, hq, hr2, hb2⟩; obtain ⟨Aq, cq, rfl, _, _, _⟩ := id hq; obtain ⟨Ar, cr, rfl, _, _, _⟩ := id hr2; have HVQ := Lib.hid hq; have HVR := Lib.hid hr2; have HB := Lib.hid (HX.out.trans (hb2.mono HX.out.size)); have HRW := Lib.hid (HR.out.below hb2); obtain ⟨z0, z1, z2⟩ := rows_of HP.out hb2 HP.out.lt; have HUW := Lib.hid (bx_below HU.out hb2 HU.out.lt); have cu2 := HUW.out.cell; have HBX := Lib.hid hb2; clear hq hr2 hb2 cu)
    | (clear TK1; go_at_call 117; refine (zero_any (N % D) _ _ HVR.out).mono ?_; rintro e w3 ⟨rfl, hw3⟩; subst hw3; rw [HZ.out])

    | (go_at_call 117; refine (zero_any (N / D) _ _ HVQ.out).mono ?_; rintro e w6 ⟨rfl, hw6⟩; subst hw6; generalize hzq : decide (N / D = 0) = zq; have HZQ := Lib.hid hzq; clear hzq)
    | (go_at_call 142; refine (of_any 1 _ (by omega)).mono ?_; rintro e w7 ⟨v7, rfl, hv7, hb7⟩; obtain ⟨A7, c7, rfl, _, _, _⟩ := id hv7; have HV7 := Lib.hid hv7; have HVQ7 := Lib.hid (HVQ.out.below hb7); have HB7 := Lib.hid (HB.out.trans (hb7.mono HB.out.size)); have HRW7 := Lib.hid (HRW.out.below hb7); clear hb7 hv7)
    | (go_at_call 64; refine (HNUM.out _ _ (by have h := isFrac_int (m := true) HVQ7.out HV7.out; rw [HZQ.out, Bool.true_and] at h; exact h) HRW7.out).mono ?_; rintro e w8 ⟨rfl, hb8⟩; have HB8 := Lib.hid (HB7.out.trans (hb8.mono HB7.out.size)); clear hb8))
  refine bodyPost_ret (results_tmp2 rfl _ _ _) rfl ?_
  exact ⟨rfl, HB8.out⟩

set_option maxRecDepth 100000 in
set_option maxHeartbeats 2000000 in
theorem round1_tft (N D pu : Nat) (A A' : Option Addr) (c c' : Nat) (w : World) (hr : Res w) (hn : IsNat w (.slice A (toL N).length c) N) (hd : IsNat w (.slice A' (toL D).length c') D) (hu : Boxed w pu 4 (.bool false)) (hz : decide (N % D = 0) = true) (hD : 0 < D) (hln : (toL N).length ≤ 445) (r : List UInt8 × Nat)
    (hN : ∀ v w, IsFrac w v (mkQ true (N / D) 1) → Res w → Calls Tryz.prog 64 #[v] w fun e w' => e = .returned (.tuple #[.string ⟨r.1.toArray⟩, .int .i64 (r.2 : Int)]) ∧ Below w.heap.size w w') :
    Calls Tryz.prog 141 #[.agg #[.bool true, .slice A (toL N).length c, .slice A' (toL D).length c'], .pointer (some ⟨pu, 0, none⟩)] w fun e w' => e = .returned (resN r) ∧ Below w.heap.size w w' := by
  have HX := Lib.hid (below_alloc (Below.refl w.heap.size w) (.cells #[.bool true, .slice A (toL N).length c, .slice A' (toL D).length c'] 50))
  have HN := Lib.hid (hn.below HX.out)
  have HD := Lib.hid (hd.below HX.out)
  have HU := Lib.hid (bx_below hu HX.out hu.lt)
  have HR := Lib.hid (hr.below HX.out)
  have HZ := Lib.hid hz
  have HNUM := Lib.hid hN
  have HD0 := Lib.hid hD
  have HQL := Lib.hid (show (toL (N / D)).length ≤ 40000 from Nat.le_trans (toL_len_mono (Nat.div_le_self N D)) (by omega))
  have HP := Lib.hid (Blk.new w 50 #[.bool true, .slice A (toL N).length c, .slice A' (toL D).length c'])
  have cu := HU.out.cell
  have TK1 : True := trivial
  have HO1 := Lib.hid (show (toL 1).length ≤ 40000 from Nat.le_trans (toL_len_le (show 1 < B ^ 1 by rw [B_val]; omega)) (by omega))
  clear hr hn hd hu hz hN hD
  go_enter Tryz.func141, Tryz.ntmps141
  go_wp2_with (first
    | (go_at_call 135; refine (divmod_any N D _ _ _ HN.out HD.out (by omega) HD0.out).mono ?_; rintro e w2 ⟨vq, vr, rfl, hq, hr2, hb2⟩; obtain ⟨Aq, cq, rfl, _, _, _⟩ := id hq; obtain ⟨Ar, cr, rfl, _, _, _⟩ := id hr2; have HVQ := Lib.hid hq; have HVR := Lib.hid hr2; have HB := Lib.hid (HX.out.trans (hb2.mono HX.out.size)); have HRW := Lib.hid (HR.out.below hb2); obtain ⟨z0, z1, z2⟩ := rows_of HP.out hb2 HP.out.lt; have HUW := Lib.hid (bx_below HU.out hb2 HU.out.lt); have cu2 := HUW.out.cell; have HBX := Lib.hid hb2; clear hq hr2 hb2 cu)
    | (clear TK1; go_at_call 117; refine (zero_any (N % D) _ _ HVR.out).mono ?_; rintro e w3 ⟨rfl, hw3⟩; subst hw3; rw [HZ.out])

    | (go_at_call 117; refine (zero_any (N / D) _ _ HVQ.out).mono ?_; rintro e w6 ⟨rfl, hw6⟩; subst hw6; generalize hzq : decide (N / D = 0) = zq; have HZQ := Lib.hid hzq; clear hzq)
    | (go_at_call 142; refine (of_any 1 _ (by omega)).mono ?_; rintro e w7 ⟨v7, rfl, hv7, hb7⟩; obtain ⟨A7, c7, rfl, _, _, _⟩ := id hv7; have HV7 := Lib.hid hv7; have HVQ7 := Lib.hid (HVQ.out.below hb7); have HB7 := Lib.hid (HB.out.trans (hb7.mono HB.out.size)); have HRW7 := Lib.hid (HRW.out.below hb7); clear hb7 hv7)
    | (go_at_call 64; refine (HNUM.out _ _ (by have h := isFrac_int (m := true) HVQ7.out HV7.out; rw [HZQ.out, Bool.true_and] at h; exact h) HRW7.out).mono ?_; rintro e w8 ⟨rfl, hb8⟩; have HB8 := Lib.hid (HB7.out.trans (hb8.mono HB7.out.size)); clear hb8))
  refine bodyPost_ret (results_tmp2 rfl _ _ _) rfl ?_
  exact ⟨rfl, HB8.out⟩

set_option maxRecDepth 100000 in
set_option maxHeartbeats 2000000 in
theorem round1_tff (N D pu : Nat) (A A' : Option Addr) (c c' : Nat) (w : World) (hr : Res w) (hn : IsNat w (.slice A (toL N).length c) N) (hd : IsNat w (.slice A' (toL D).length c') D) (hu : Boxed w pu 4 (.bool false)) (hz : decide (N % D = 0) = false) (hD : 0 < D) (hln : (toL N).length ≤ 445) (r : List UInt8 × Nat)
    (hN : ∀ v w, IsFrac w v (mkQ true (N / D + 1) 1) → Res w → Calls Tryz.prog 64 #[v] w fun e w' => e = .returned (.tuple #[.string ⟨r.1.toArray⟩, .int .i64 (r.2 : Int)]) ∧ Below w.heap.size w w') :
    Calls Tryz.prog 141 #[.agg #[.bool true, .slice A (toL N).length c, .slice A' (toL D).length c'], .pointer (some ⟨pu, 0, none⟩)] w fun e w' => e = .returned (resN r) ∧ Below w.heap.size w w' := by
  have HX := Lib.hid (below_alloc (Below.refl w.heap.size w) (.cells #[.bool true, .slice A (toL N).length c, .slice A' (toL D).length c'] 50))
  have HN := Lib.hid (hn.below HX.out)
  have HD := Lib.hid (hd.below HX.out)
  have HU := Lib.hid (bx_below hu HX.out hu.lt)
  have HR := Lib.hid (hr.below HX.out)
  have HZ := Lib.hid hz
  have HNUM := Lib.hid hN
  have HD0 := Lib.hid hD
  have HQL := Lib.hid (show (toL (N / D)).length ≤ 40000 from Nat.le_trans (toL_len_mono (Nat.div_le_self N D)) (by omega))
  have HP := Lib.hid (Blk.new w 50 #[.bool true, .slice A (toL N).length c, .slice A' (toL D).length c'])
  have cu := HU.out.cell
  have TK1 : True := trivial
  have TK2 : True := trivial
  have HO1 := Lib.hid (show (toL 1).length ≤ 40000 from Nat.le_trans (toL_len_le (show 1 < B ^ 1 by rw [B_val]; omega)) (by omega))
  clear hr hn hd hu hz hN hD
  go_enter Tryz.func141, Tryz.ntmps141
  go_wp2_with (first
    | (go_at_call 135; refine (divmod_any N D _ _ _ HN.out HD.out (by omega) HD0.out).mono ?_; rintro e w2 ⟨vq, vr, rfl, hq, hr2, hb2⟩; obtain ⟨Aq, cq, rfl, _, _, _⟩ := id hq; obtain ⟨Ar, cr, rfl, _, _, _⟩ := id hr2; have HVQ := Lib.hid hq; have HVR := Lib.hid hr2; have HB := Lib.hid (HX.out.trans (hb2.mono HX.out.size)); have HRW := Lib.hid (HR.out.below hb2); obtain ⟨z0, z1, z2⟩ := rows_of HP.out hb2 HP.out.lt; have HUW := Lib.hid (bx_below HU.out hb2 HU.out.lt); have cu2 := HUW.out.cell; have HBX := Lib.hid hb2; clear hq hr2 hb2 cu)
    | (clear TK1; go_at_call 117; refine (zero_any (N % D) _ _ HVR.out).mono ?_; rintro e w3 ⟨rfl, hw3⟩; subst hw3; rw [HZ.out])
    | (clear TK2; go_at_call 142; refine (of_any 1 _ (by omega)).mono ?_; rintro e w4 ⟨v4, rfl, hv4, hb4⟩; obtain ⟨A4, c4, rfl, _, _, _⟩ := id hv4; have HV4 := Lib.hid hv4; have HVQ4 := Lib.hid (HVQ.out.below hb4); have HB4 := Lib.hid (HB.out.trans (hb4.mono HB.out.size)); have HRW4 := Lib.hid (HRW.out.below hb4); have HBX4 := Lib.hid (HBX.out.trans (hb4.mono HBX.out.size)); clear hb4 hv4)
    | (go_at_call 126; refine (add_any (N / D) 1 _ _ _ HVQ4.out HV4.out HQL.out HO1.out).mono ?_; rintro e w5 ⟨v5, rfl, hv5, hb5⟩; obtain ⟨A5, c5, rfl, _, _, _⟩ := id hv5; have HVQ5 := Lib.hid hv5; have HB5 := Lib.hid (HB4.out.trans (hb5.mono HB4.out.size)); have HRW5 := Lib.hid (HRW4.out.below hb5); have HBX5 := Lib.hid (HBX4.out.trans (hb5.mono HBX4.out.size)); obtain ⟨y0, y1, y2⟩ := rows_of HP.out HBX5.out HP.out.lt; clear hb5 hv5)
    | (go_at_call 117; refine (zero_any (N / D + 1) _ _ HVQ5.out).mono ?_; rintro e w6 ⟨rfl, hw6⟩; subst hw6; generalize hzq : decide (N / D + 1 = 0) = zq; have HZQ := Lib.hid hzq; clear hzq)
    | (go_at_call 142; refine (of_any 1 _ (by omega)).mono ?_; rintro e w7 ⟨v7, rfl, hv7, hb7⟩; obtain ⟨A7, c7, rfl, _, _, _⟩ := id hv7; have HV7 := Lib.hid hv7; have HVQ7 := Lib.hid (HVQ5.out.below hb7); have HB7 := Lib.hid (HB5.out.trans (hb7.mono HB5.out.size)); have HRW7 := Lib.hid (HRW5.out.below hb7); clear hb7 hv7)
    | (go_at_call 64; refine (HNUM.out _ _ (by have h := isFrac_int (m := true) HVQ7.out HV7.out; rw [HZQ.out, Bool.true_and] at h; exact h) HRW7.out).mono ?_; rintro e w8 ⟨rfl, hb8⟩; have HB8 := Lib.hid (HB7.out.trans (hb8.mono HB7.out.size)); clear hb8))
  refine bodyPost_ret (results_tmp2 rfl _ _ _) rfl ?_
  exact ⟨rfl, HB8.out⟩

set_option maxRecDepth 100000 in
set_option maxHeartbeats 2000000 in
theorem round1_ftt (N D pu : Nat) (A A' : Option Addr) (c c' : Nat) (w : World) (hr : Res w) (hn : IsNat w (.slice A (toL N).length c) N) (hd : IsNat w (.slice A' (toL D).length c') D) (hu : Boxed w pu 4 (.bool true)) (hz : decide (N % D = 0) = true) (hD : 0 < D) (hln : (toL N).length ≤ 445) (r : List UInt8 × Nat)
    (hN : ∀ v w, IsFrac w v (mkQ false (N / D) 1) → Res w → Calls Tryz.prog 64 #[v] w fun e w' => e = .returned (.tuple #[.string ⟨r.1.toArray⟩, .int .i64 (r.2 : Int)]) ∧ Below w.heap.size w w') :
    Calls Tryz.prog 141 #[.agg #[.bool false, .slice A (toL N).length c, .slice A' (toL D).length c'], .pointer (some ⟨pu, 0, none⟩)] w fun e w' => e = .returned (resN r) ∧ Below w.heap.size w w' := by
  have HX := Lib.hid (below_alloc (Below.refl w.heap.size w) (.cells #[.bool false, .slice A (toL N).length c, .slice A' (toL D).length c'] 50))
  have HN := Lib.hid (hn.below HX.out)
  have HD := Lib.hid (hd.below HX.out)
  have HU := Lib.hid (bx_below hu HX.out hu.lt)
  have HR := Lib.hid (hr.below HX.out)
  have HZ := Lib.hid hz
  have HNUM := Lib.hid hN
  have HD0 := Lib.hid hD
  have HQL := Lib.hid (show (toL (N / D)).length ≤ 40000 from Nat.le_trans (toL_len_mono (Nat.div_le_self N D)) (by omega))
  have HP := Lib.hid (Blk.new w 50 #[.bool false, .slice A (toL N).length c, .slice A' (toL D).length c'])
  have cu := HU.out.cell
  have TK1 : True := trivial
  have HO1 := Lib.hid (show (toL 1).length ≤ 40000 from Nat.le_trans (toL_len_le (show 1 < B ^ 1 by rw [B_val]; omega)) (by omega))
  clear hr hn hd hu hz hN hD
  go_enter Tryz.func141, Tryz.ntmps141
  go_wp2_with (first
    | (go_at_call 135; refine (divmod_any N D _ _ _ HN.out HD.out (by omega) HD0.out).mono ?_; rintro e w2 ⟨vq, vr, rfl, hq, hr2, hb2⟩; obtain ⟨Aq, cq, rfl, _, _, _⟩ := id hq; obtain ⟨Ar, cr, rfl, _, _, _⟩ := id hr2; have HVQ := Lib.hid hq; have HVR := Lib.hid hr2; have HB := Lib.hid (HX.out.trans (hb2.mono HX.out.size)); have HRW := Lib.hid (HR.out.below hb2); obtain ⟨z0, z1, z2⟩ := rows_of HP.out hb2 HP.out.lt; have HUW := Lib.hid (bx_below HU.out hb2 HU.out.lt); have cu2 := HUW.out.cell; have HBX := Lib.hid hb2; clear hq hr2 hb2 cu)
    | (clear TK1; go_at_call 117; refine (zero_any (N % D) _ _ HVR.out).mono ?_; rintro e w3 ⟨rfl, hw3⟩; subst hw3; rw [HZ.out])

    | (go_at_call 142; refine (of_any 1 _ (by omega)).mono ?_; rintro e w7 ⟨v7, rfl, hv7, hb7⟩; obtain ⟨A7, c7, rfl, _, _, _⟩ := id hv7; have HV7 := Lib.hid hv7; have HVQ7 := Lib.hid (HVQ.out.below hb7); have HB7 := Lib.hid (HB.out.trans (hb7.mono HB.out.size)); have HRW7 := Lib.hid (HRW.out.below hb7); clear hb7 hv7)
    | (go_at_call 64; refine (HNUM.out _ _ (by have h := isFrac_int (m := false) HVQ7.out HV7.out; rw [Bool.false_and] at h; exact h) HRW7.out).mono ?_; rintro e w8 ⟨rfl, hb8⟩; have HB8 := Lib.hid (HB7.out.trans (hb8.mono HB7.out.size)); clear hb8))
  refine bodyPost_ret (results_tmp2 rfl _ _ _) rfl ?_
  exact ⟨rfl, HB8.out⟩

set_option maxRecDepth 100000 in
set_option maxHeartbeats 2000000 in
theorem round1_ftf (N D pu : Nat) (A A' : Option Addr) (c c' : Nat) (w : World) (hr : Res w) (hn : IsNat w (.slice A (toL N).length c) N) (hd : IsNat w (.slice A' (toL D).length c') D) (hu : Boxed w pu 4 (.bool true)) (hz : decide (N % D = 0) = false) (hD : 0 < D) (hln : (toL N).length ≤ 445) (r : List UInt8 × Nat)
    (hN : ∀ v w, IsFrac w v (mkQ false (N / D + 1) 1) → Res w → Calls Tryz.prog 64 #[v] w fun e w' => e = .returned (.tuple #[.string ⟨r.1.toArray⟩, .int .i64 (r.2 : Int)]) ∧ Below w.heap.size w w') :
    Calls Tryz.prog 141 #[.agg #[.bool false, .slice A (toL N).length c, .slice A' (toL D).length c'], .pointer (some ⟨pu, 0, none⟩)] w fun e w' => e = .returned (resN r) ∧ Below w.heap.size w w' := by
  have HX := Lib.hid (below_alloc (Below.refl w.heap.size w) (.cells #[.bool false, .slice A (toL N).length c, .slice A' (toL D).length c'] 50))
  have HN := Lib.hid (hn.below HX.out)
  have HD := Lib.hid (hd.below HX.out)
  have HU := Lib.hid (bx_below hu HX.out hu.lt)
  have HR := Lib.hid (hr.below HX.out)
  have HZ := Lib.hid hz
  have HNUM := Lib.hid hN
  have HD0 := Lib.hid hD
  have HQL := Lib.hid (show (toL (N / D)).length ≤ 40000 from Nat.le_trans (toL_len_mono (Nat.div_le_self N D)) (by omega))
  have HP := Lib.hid (Blk.new w 50 #[.bool false, .slice A (toL N).length c, .slice A' (toL D).length c'])
  have cu := HU.out.cell
  have TK1 : True := trivial
  have TK2 : True := trivial
  have HO1 := Lib.hid (show (toL 1).length ≤ 40000 from Nat.le_trans (toL_len_le (show 1 < B ^ 1 by rw [B_val]; omega)) (by omega))
  clear hr hn hd hu hz hN hD
  go_enter Tryz.func141, Tryz.ntmps141
  go_wp2_with (first
    | (go_at_call 135; refine (divmod_any N D _ _ _ HN.out HD.out (by omega) HD0.out).mono ?_; rintro e w2 ⟨vq, vr, rfl, hq, hr2, hb2⟩; obtain ⟨Aq, cq, rfl, _, _, _⟩ := id hq; obtain ⟨Ar, cr, rfl, _, _, _⟩ := id hr2; have HVQ := Lib.hid hq; have HVR := Lib.hid hr2; have HB := Lib.hid (HX.out.trans (hb2.mono HX.out.size)); have HRW := Lib.hid (HR.out.below hb2); obtain ⟨z0, z1, z2⟩ := rows_of HP.out hb2 HP.out.lt; have HUW := Lib.hid (bx_below HU.out hb2 HU.out.lt); have cu2 := HUW.out.cell; have HBX := Lib.hid hb2; clear hq hr2 hb2 cu)
    | (clear TK1; go_at_call 117; refine (zero_any (N % D) _ _ HVR.out).mono ?_; rintro e w3 ⟨rfl, hw3⟩; subst hw3; rw [HZ.out])
    | (clear TK2; go_at_call 142; refine (of_any 1 _ (by omega)).mono ?_; rintro e w4 ⟨v4, rfl, hv4, hb4⟩; obtain ⟨A4, c4, rfl, _, _, _⟩ := id hv4; have HV4 := Lib.hid hv4; have HVQ4 := Lib.hid (HVQ.out.below hb4); have HB4 := Lib.hid (HB.out.trans (hb4.mono HB.out.size)); have HRW4 := Lib.hid (HRW.out.below hb4); have HBX4 := Lib.hid (HBX.out.trans (hb4.mono HBX.out.size)); clear hb4 hv4)
    | (go_at_call 126; refine (add_any (N / D) 1 _ _ _ HVQ4.out HV4.out HQL.out HO1.out).mono ?_; rintro e w5 ⟨v5, rfl, hv5, hb5⟩; obtain ⟨A5, c5, rfl, _, _, _⟩ := id hv5; have HVQ5 := Lib.hid hv5; have HB5 := Lib.hid (HB4.out.trans (hb5.mono HB4.out.size)); have HRW5 := Lib.hid (HRW4.out.below hb5); have HBX5 := Lib.hid (HBX4.out.trans (hb5.mono HBX4.out.size)); obtain ⟨y0, y1, y2⟩ := rows_of HP.out HBX5.out HP.out.lt; clear hb5 hv5)
    | (go_at_call 142; refine (of_any 1 _ (by omega)).mono ?_; rintro e w7 ⟨v7, rfl, hv7, hb7⟩; obtain ⟨A7, c7, rfl, _, _, _⟩ := id hv7; have HV7 := Lib.hid hv7; have HVQ7 := Lib.hid (HVQ5.out.below hb7); have HB7 := Lib.hid (HB5.out.trans (hb7.mono HB5.out.size)); have HRW7 := Lib.hid (HRW5.out.below hb7); clear hb7 hv7)
    | (go_at_call 64; refine (HNUM.out _ _ (by have h := isFrac_int (m := false) HVQ7.out HV7.out; rw [Bool.false_and] at h; exact h) HRW7.out).mono ?_; rintro e w8 ⟨rfl, hb8⟩; have HB8 := Lib.hid (HB7.out.trans (hb8.mono HB7.out.size)); clear hb8))
  refine bodyPost_ret (results_tmp2 rfl _ _ _) rfl ?_
  exact ⟨rfl, HB8.out⟩

set_option maxRecDepth 100000 in
set_option maxHeartbeats 2000000 in
theorem round1_fft (N D pu : Nat) (A A' : Option Addr) (c c' : Nat) (w : World) (hr : Res w) (hn : IsNat w (.slice A (toL N).length c) N) (hd : IsNat w (.slice A' (toL D).length c') D) (hu : Boxed w pu 4 (.bool false)) (hz : decide (N % D = 0) = true) (hD : 0 < D) (hln : (toL N).length ≤ 445) (r : List UInt8 × Nat)
    (hN : ∀ v w, IsFrac w v (mkQ false (N / D) 1) → Res w → Calls Tryz.prog 64 #[v] w fun e w' => e = .returned (.tuple #[.string ⟨r.1.toArray⟩, .int .i64 (r.2 : Int)]) ∧ Below w.heap.size w w') :
    Calls Tryz.prog 141 #[.agg #[.bool false, .slice A (toL N).length c, .slice A' (toL D).length c'], .pointer (some ⟨pu, 0, none⟩)] w fun e w' => e = .returned (resN r) ∧ Below w.heap.size w w' := by
  have HX := Lib.hid (below_alloc (Below.refl w.heap.size w) (.cells #[.bool false, .slice A (toL N).length c, .slice A' (toL D).length c'] 50))
  have HN := Lib.hid (hn.below HX.out)
  have HD := Lib.hid (hd.below HX.out)
  have HU := Lib.hid (bx_below hu HX.out hu.lt)
  have HR := Lib.hid (hr.below HX.out)
  have HZ := Lib.hid hz
  have HNUM := Lib.hid hN
  have HD0 := Lib.hid hD
  have HQL := Lib.hid (show (toL (N / D)).length ≤ 40000 from Nat.le_trans (toL_len_mono (Nat.div_le_self N D)) (by omega))
  have HP := Lib.hid (Blk.new w 50 #[.bool false, .slice A (toL N).length c, .slice A' (toL D).length c'])
  have cu := HU.out.cell
  have TK1 : True := trivial
  have HO1 := Lib.hid (show (toL 1).length ≤ 40000 from Nat.le_trans (toL_len_le (show 1 < B ^ 1 by rw [B_val]; omega)) (by omega))
  clear hr hn hd hu hz hN hD
  go_enter Tryz.func141, Tryz.ntmps141
  go_wp2_with (first
    | (go_at_call 135; refine (divmod_any N D _ _ _ HN.out HD.out (by omega) HD0.out).mono ?_; rintro e w2 ⟨vq, vr, rfl, hq, hr2, hb2⟩; obtain ⟨Aq, cq, rfl, _, _, _⟩ := id hq; obtain ⟨Ar, cr, rfl, _, _, _⟩ := id hr2; have HVQ := Lib.hid hq; have HVR := Lib.hid hr2; have HB := Lib.hid (HX.out.trans (hb2.mono HX.out.size)); have HRW := Lib.hid (HR.out.below hb2); obtain ⟨z0, z1, z2⟩ := rows_of HP.out hb2 HP.out.lt; have HUW := Lib.hid (bx_below HU.out hb2 HU.out.lt); have cu2 := HUW.out.cell; have HBX := Lib.hid hb2; clear hq hr2 hb2 cu)
    | (clear TK1; go_at_call 117; refine (zero_any (N % D) _ _ HVR.out).mono ?_; rintro e w3 ⟨rfl, hw3⟩; subst hw3; rw [HZ.out])

    | (go_at_call 142; refine (of_any 1 _ (by omega)).mono ?_; rintro e w7 ⟨v7, rfl, hv7, hb7⟩; obtain ⟨A7, c7, rfl, _, _, _⟩ := id hv7; have HV7 := Lib.hid hv7; have HVQ7 := Lib.hid (HVQ.out.below hb7); have HB7 := Lib.hid (HB.out.trans (hb7.mono HB.out.size)); have HRW7 := Lib.hid (HRW.out.below hb7); clear hb7 hv7)
    | (go_at_call 64; refine (HNUM.out _ _ (by have h := isFrac_int (m := false) HVQ7.out HV7.out; rw [Bool.false_and] at h; exact h) HRW7.out).mono ?_; rintro e w8 ⟨rfl, hb8⟩; have HB8 := Lib.hid (HB7.out.trans (hb8.mono HB7.out.size)); clear hb8))
  refine bodyPost_ret (results_tmp2 rfl _ _ _) rfl ?_
  exact ⟨rfl, HB8.out⟩

set_option maxRecDepth 100000 in
set_option maxHeartbeats 2000000 in
theorem round1_fff (N D pu : Nat) (A A' : Option Addr) (c c' : Nat) (w : World) (hr : Res w) (hn : IsNat w (.slice A (toL N).length c) N) (hd : IsNat w (.slice A' (toL D).length c') D) (hu : Boxed w pu 4 (.bool false)) (hz : decide (N % D = 0) = false) (hD : 0 < D) (hln : (toL N).length ≤ 445) (r : List UInt8 × Nat)
    (hN : ∀ v w, IsFrac w v (mkQ false (N / D) 1) → Res w → Calls Tryz.prog 64 #[v] w fun e w' => e = .returned (.tuple #[.string ⟨r.1.toArray⟩, .int .i64 (r.2 : Int)]) ∧ Below w.heap.size w w') :
    Calls Tryz.prog 141 #[.agg #[.bool false, .slice A (toL N).length c, .slice A' (toL D).length c'], .pointer (some ⟨pu, 0, none⟩)] w fun e w' => e = .returned (resN r) ∧ Below w.heap.size w w' := by
  have HX := Lib.hid (below_alloc (Below.refl w.heap.size w) (.cells #[.bool false, .slice A (toL N).length c, .slice A' (toL D).length c'] 50))
  have HN := Lib.hid (hn.below HX.out)
  have HD := Lib.hid (hd.below HX.out)
  have HU := Lib.hid (bx_below hu HX.out hu.lt)
  have HR := Lib.hid (hr.below HX.out)
  have HZ := Lib.hid hz
  have HNUM := Lib.hid hN
  have HD0 := Lib.hid hD
  have HQL := Lib.hid (show (toL (N / D)).length ≤ 40000 from Nat.le_trans (toL_len_mono (Nat.div_le_self N D)) (by omega))
  have HP := Lib.hid (Blk.new w 50 #[.bool false, .slice A (toL N).length c, .slice A' (toL D).length c'])
  have cu := HU.out.cell
  have TK1 : True := trivial
  have HO1 := Lib.hid (show (toL 1).length ≤ 40000 from Nat.le_trans (toL_len_le (show 1 < B ^ 1 by rw [B_val]; omega)) (by omega))
  clear hr hn hd hu hz hN hD
  go_enter Tryz.func141, Tryz.ntmps141
  go_wp2_with (first
    | (go_at_call 135; refine (divmod_any N D _ _ _ HN.out HD.out (by omega) HD0.out).mono ?_; rintro e w2 ⟨vq, vr, rfl, hq, hr2, hb2⟩; obtain ⟨Aq, cq, rfl, _, _, _⟩ := id hq; obtain ⟨Ar, cr, rfl, _, _, _⟩ := id hr2; have HVQ := Lib.hid hq; have HVR := Lib.hid hr2; have HB := Lib.hid (HX.out.trans (hb2.mono HX.out.size)); have HRW := Lib.hid (HR.out.below hb2); obtain ⟨z0, z1, z2⟩ := rows_of HP.out hb2 HP.out.lt; have HUW := Lib.hid (bx_below HU.out hb2 HU.out.lt); have cu2 := HUW.out.cell; have HBX := Lib.hid hb2; clear hq hr2 hb2 cu)
    | (clear TK1; go_at_call 117; refine (zero_any (N % D) _ _ HVR.out).mono ?_; rintro e w3 ⟨rfl, hw3⟩; subst hw3; rw [HZ.out])

    | (go_at_call 142; refine (of_any 1 _ (by omega)).mono ?_; rintro e w7 ⟨v7, rfl, hv7, hb7⟩; obtain ⟨A7, c7, rfl, _, _, _⟩ := id hv7; have HV7 := Lib.hid hv7; have HVQ7 := Lib.hid (HVQ.out.below hb7); have HB7 := Lib.hid (HB.out.trans (hb7.mono HB.out.size)); have HRW7 := Lib.hid (HRW.out.below hb7); clear hb7 hv7)
    | (go_at_call 64; refine (HNUM.out _ _ (by have h := isFrac_int (m := false) HVQ7.out HV7.out; rw [Bool.false_and] at h; exact h) HRW7.out).mono ?_; rintro e w8 ⟨rfl, hb8⟩; have HB8 := Lib.hid (HB7.out.trans (hb8.mono HB7.out.size)); clear hb8))
  refine bodyPost_ret (results_tmp2 rfl _ _ _) rfl ?_
  exact ⟨rfl, HB8.out⟩

theorem round1_any (p : Rat) (up : Bool) (pu : Nat) (v : Value) (w : World) (hr : Res w) (hv : IsFrac w v p) (hu : Boxed w pu 4 (.bool up)) (sp : Sz maxD p) :
    Calls Tryz.prog 141 #[v, .pointer (some ⟨pu, 0, none⟩)] w fun e w' => e = .returned (resN (outQ (roundQ p up))) ∧ Below w.heap.size w w' := by
  obtain ⟨l1, l2⟩ := sz_limbs sp
  obtain ⟨lr, lr'⟩ := nm_round_le p up l1
  have hnum := fun v w hv hr => fnum_any (roundQ p up) v w hv hr lr lr'
  have hd0 := den_pos p
  obtain ⟨b, N, D, A, c, A', c', rfl, hn, hd, HQ⟩ := isFrac_open hv
  obtain ⟨q1, q2, q3⟩ := HQ.out
  unfold roundQ at hnum ⊢
  rw [q1, q2, q3] at hnum ⊢
  rw [q3] at hd0
  rw [q2] at l1
  have key : roundP b N D up = if decide (N % D = 0) = false ∧ b ≠ up then N / D + 1 else N / D := by
    unfold roundP
    by_cases h : N % D = 0
    · rw [decide_eq_true h, if_neg (by simp [h]), if_neg (by simp)]
    · rw [decide_eq_false h]
      by_cases h2 : b = up
      · rw [if_neg (fun x => x.2 h2), if_neg (fun x => x.2 h2)]
      · rw [if_pos ⟨h, h2⟩, if_pos ⟨rfl, h2⟩]
  rw [key] at hnum ⊢
  generalize hz : decide (N % D = 0) = z at hnum ⊢
  generalize hQ : mkQ b (if z = false ∧ b ≠ up then N / D + 1 else N / D) 1 = Q at hnum ⊢
  cases b <;> cases up <;> cases z <;> (subst hQ)
  · exact round1_fff N D pu A A' c c' w hr hn hd hu hz hd0 l1 _ hnum
  · exact round1_fft N D pu A A' c c' w hr hn hd hu hz hd0 l1 _ hnum
  · exact round1_ftf N D pu A A' c c' w hr hn hd hu hz hd0 l1 _ hnum
  · exact round1_ftt N D pu A A' c c' w hr hn hd hu hz hd0 l1 _ hnum
  · exact round1_tff N D pu A A' c c' w hr hn hd hu hz hd0 l1 _ hnum
  · exact round1_tft N D pu A A' c c' w hr hn hd hu hz hd0 l1 _ hnum
  · exact round1_ttf N D pu A A' c c' w hr hn hd hu hz hd0 l1 _ hnum
  · exact round1_ttt N D pu A A' c c' w hr hn hd hu hz hd0 l1 _ hnum
theorem runs_round : Runs 141 := runs_of Tryz.func141 (by kernel_rfl) (by kernel_rfl)
set_option maxRecDepth 100000 in
/-- rat.round. -/
theorem ratRound_any (a : ByteArray) (up : Bool) (w : World) (ha : a.size ≤ 270000) (hr : Res w) :
    Calls Tryz.prog 93 #[.string a, .bool up] w fun e w' => e = .returned (resN (oneQ (fun q => outQ (roundQ q up)) a.data.toList)) ∧ Below w.heap.size w w' := by
  have hb := below_alloc (Below.refl w.heap.size w) (.cells #[.bool up] 4)
  have hn : Boxed (w.alloc (.cells #[.bool up] 4)) w.heap.size 4 (.bool up) := Boxed.new w _ _
  have HB := Lib.hid (withN_any 141 runs_round #[.pointer (some ⟨w.heap.size, 0, none⟩)] (fun q => outQ (roundQ q up)) a _ ha (hr.below hb) (fun q v w' hb' hr' hv sq => by
    show Calls Tryz.prog 141 #[v, .pointer (some ⟨w.heap.size, 0, none⟩)] w' _
    exact round1_any q up w.heap.size v w' hr' hv (bx_below hn hb' hn.lt) sq))
  generalize oneQ (fun q => outQ (roundQ q up)) a.data.toList = r at HB ⊢
  have HX := Lib.hid hb
  clear hr hb hn
  go_enter Tryz.func93, Tryz.ntmps93
  go_wp2_with (go_at_call 59; refine HB.out.mono ?_; rintro e w2 ⟨rfl, hb2⟩; have HB2 := Lib.hid (HX.out.trans (hb2.mono HX.out.size)); clear hb2; unfold resN)
  refine bodyPost_ret (results_tmp2 rfl _ _ _) rfl ?_
  exact ⟨rfl, HB2.out⟩
set_option maxRecDepth 100000 in
/-- rat.Floor. -/
theorem ratFloor_any (a : ByteArray) (w : World) (ha : a.size ≤ 270000) (hr : Res w) :
    Calls Tryz.prog 35 #[.string a] w fun e w' => e = .returned (resN (oneQ (fun q => outQ (q.floor : Rat)) a.data.toList)) ∧ Below w.heap.size w w' := by
  have hf : (fun q : Rat => outQ (q.floor : Rat)) = fun q => outQ (roundQ q false) := by funext q; unfold roundQ; rw [round_floor]
  rw [hf]
  have HB := Lib.hid (ratRound_any a false w ha hr)
  generalize oneQ (fun q => outQ (roundQ q false)) a.data.toList = r at HB ⊢
  clear hr hf
  go_enter Tryz.func35, Tryz.ntmps35
  go_wp2_with (go_at_call 93; refine HB.out.mono ?_; rintro e w2 ⟨rfl, hb2⟩; have HB2 := Lib.hid hb2; clear hb2; unfold resN)
  refine bodyPost_ret (results_tmp2 rfl _ _ _) rfl ?_
  exact ⟨rfl, HB2.out⟩
set_option maxRecDepth 100000 in
/-- rat.Ceil. -/
theorem ratCeil_any (a : ByteArray) (w : World) (ha : a.size ≤ 270000) (hr : Res w) :
    Calls Tryz.prog 36 #[.string a] w fun e w' => e = .returned (resN (oneQ (fun q => outQ (q.ceil : Rat)) a.data.toList)) ∧ Below w.heap.size w w' := by
  have hf : (fun q : Rat => outQ (q.ceil : Rat)) = fun q => outQ (roundQ q true) := by funext q; unfold roundQ; rw [round_ceil]
  rw [hf]
  have HB := Lib.hid (ratRound_any a true w ha hr)
  generalize oneQ (fun q => outQ (roundQ q true)) a.data.toList = r at HB ⊢
  clear hr hf
  go_enter Tryz.func36, Tryz.ntmps36
  go_wp2_with (go_at_call 93; refine HB.out.mono ?_; rintro e w2 ⟨rfl, hb2⟩; have HB2 := Lib.hid hb2; clear hb2; unfold resN)
  refine bodyPost_ret (results_tmp2 rfl _ _ _) rfl ?_
  exact ⟨rfl, HB2.out⟩
end Go.Proofs.YtjoifmnolmimkaaGreatDoor
namespace Go.Proofs.YtjoifmnolmimkaaGreatDoor
open Go.RowKit Go.Shelf
open Lim

theorem ne_toList {a b : ByteArray} {p q : Rat} (ha : IsT a p) (hb : IsT b q) (h : p ≠ q) : (a.toList == b.toList) = false := by
  rw [beq_eq_false_iff_ne, Lib.toList_data, Lib.toList_data]
  intro e
  have : a = b := ByteArray.ext (Array.toList_inj.1 e)
  subst this
  exact h (ha.inj hb)
theorem one_I {f : Rat → Int × Nat} {a : ByteArray} {p : Rat} (ha : IsT a p) : oneI f a.data.toList = f p := by
  unfold oneI; rw [ha.err, ha.val]; rfl
theorem two_I {f : Rat → Rat → Int × Nat} {a b : ByteArray} {p q : Rat} (ha : IsT a p) (hb : IsT b q) : twoI f a.data.toList b.data.toList = f p q := by
  unfold twoI; rw [ha.err, hb.err, ha.val, hb.val]; rfl
section
variable {a b c : ByteArray} {p q : Rat} (w : World)
theorem cmpT {k : Int} (ha : IsT a p) (hb : IsT b q) (hk : cmpQ p q = k) (hr : Res w) :
    Calls Tryz.prog 46 #[.string a, .string b] w fun e w' => e = .returned (.tuple #[.int .i64 k, .int .i64 0]) ∧ Below w.heap.size w w' := by
  refine (ratCmp_any a b w ha.size hb.size hr).mono ?_
  rintro e w' ⟨rfl, h⟩
  rw [two_I ha hb, hk]
  exact ⟨rfl, h⟩
theorem signT {k : Int} (ha : IsT a p) (hk : sgQ p = k) (hr : Res w) :
    Calls Tryz.prog 28 #[.string a] w fun e w' => e = .returned (.tuple #[.int .i64 k, .int .i64 0]) ∧ Below w.heap.size w w' := by
  refine (ratSign_any a w ha.size hr).mono ?_
  rintro e w' ⟨rfl, h⟩
  rw [one_I ha, hk]
  exact ⟨rfl, h⟩
theorem minT (ha : IsT a p) (hb : IsT b q) (hc : c = if cmpQ p q > 0 then b else a) (hr : Res w) :
    Calls Tryz.prog 33 #[.string a, .string b] w fun e w' => e = .returned (.tuple #[.string c, .int .i64 0]) ∧ Below w.heap.size w w' := by
  refine (ratMin_any a b w ha.size hb.size hr).mono ?_
  rintro e w' ⟨rfl, h⟩
  refine ⟨?_, h⟩
  rw [two_I ha hb, hc]
  unfold chooseQ resS
  simp only [ne_eq, not_true_eq_false, if_false, Int.mul_one]
  split <;> rfl
theorem maxT (ha : IsT a p) (hb : IsT b q) (hc : c = if cmpQ p q < 0 then b else a) (hr : Res w) :
    Calls Tryz.prog 34 #[.string a, .string b] w fun e w' => e = .returned (.tuple #[.string c, .int .i64 0]) ∧ Below w.heap.size w w' := by
  refine (ratMax_any a b w ha.size hb.size hr).mono ?_
  rintro e w' ⟨rfl, h⟩
  refine ⟨?_, h⟩
  rw [two_I ha hb, hc]
  unfold chooseQ resS
  simp only [ne_eq, not_true_eq_false, if_false]
  by_cases h0 : cmpQ p q < 0
  · rw [if_pos h0, if_pos (by omega)]; rfl
  · rw [if_neg h0, if_neg (by omega)]; rfl
theorem floorT (ha : IsT a p) (hc : IsT c (p.floor : Rat)) (hr : Res w) :
    Calls Tryz.prog 35 #[.string a] w fun e w' => e = .returned (.tuple #[.string c, .int .i64 0]) ∧ Below w.heap.size w w' := by
  refine (ratFloor_any a w ha.size hr).mono ?_
  rintro e w' ⟨rfl, h⟩
  rw [one_T ha, out_T hc]
  exact ⟨rfl, h⟩
theorem ceilT (ha : IsT a p) (hc : IsT c (p.ceil : Rat)) (hr : Res w) :
    Calls Tryz.prog 36 #[.string a] w fun e w' => e = .returned (.tuple #[.string c, .int .i64 0]) ∧ Below w.heap.size w w' := by
  refine (ratCeil_any a w ha.size hr).mono ?_
  rintro e w' ⟨rfl, h⟩
  rw [one_T ha, out_T hc]
  exact ⟨rfl, h⟩
set_option maxRecDepth 100000 in
theorem order_any {k : Int} (ha : IsT a p) (hb : IsT b q) (hk : cmpQ p q = k) (hr : Res w) :
    Calls Tryz.prog 32 #[.string a, .string b] w fun e w' => e = .returned (.int .i64 k) ∧ Below w.heap.size w w' := by
  have HC := Lib.hid (cmpT w ha hb hk hr)
  clear ha hb hk hr
  go_enter Tryz.func32, Tryz.ntmps32
  go_wp2_with (go_at_call 46; refine HC.out.mono ?_; rintro e w1 ⟨rfl, hb1⟩; have HB1 := Lib.hid hb1; clear hb1)
  go_ret
  exact ⟨rfl, HB1.out⟩
end
theorem sz_floor {k : Nat} {p : Rat} (h : Sz k p) : Sz (k + 1) (p.floor : Rat) := by
  rw [← round_floor]
  have h1 := mkQ_nm_le (m := ng p) (n := roundP (ng p) (nm p) p.den false) (d := 1) (by omega)
  have h2 := roundP_le (ng p) (nm p) p.den false
  have h3 : 10 ^ (k + 1) = 10 ^ k * 10 := Nat.pow_succ ..
  have h4 := h.1
  refine ⟨by omega, ?_⟩
  rw [mkQ_one_den]
  omega
theorem sz_ceil {k : Nat} {p : Rat} (h : Sz k p) : Sz (k + 1) (p.ceil : Rat) := by
  rw [Rat.ceil_eq_neg_floor_neg, Rat.intCast_neg]
  exact (sz_floor h.neg).neg
end Go.Proofs.YtjoifmnolmimkaaGreatDoor
