/- rat: Sign, Cmp, choose, Min, Max, Int, Parts. Rounding of rational numbers by their parts. No program in sight. rat: round, Floor, Ceil (printed by mkrate.py). More functions of rat on texts of numbers: comparisons, rounding. Losses in plain rationals: what Check, Add, Max, Fits, Group, Late, Alpha, Beta and Half compute. Computations that are left by a panic: must, and the deferred ends that turns the error into a result. loss.order and loss.Check. loss.Check. loss.valid: the first error of a list of losses leaves the computation. Functions of rat on numbers whose result does not fit. How a function hands back results that lie in cells: a struct and an error. limited, plus and above of losses. above: the loss with the greater parts. The order and the sums of losses, in plain rationals. fold: losses combined, from None on; Add, Sum and Max. loss.Add, Sum and Max. -/
import Derived.Test.YtbfhonhjejeaiaaGreatDoorRb09
import Derived.Test.YtbfhonhjejeaiaaGreatDoorRb05
import Derived.Test.YtbfhonhjejeaiaaGreatDoorRb08
import Derived.Recover
import Derived.Defers
import Derived.Test.YtbfhonhjejeaiaaGreatDoorRb03
import Derived.Test.YtbfhonhjejeaiaaGreatDoorRb07
namespace Go.Proofs.YtbfhonhjejeaiaaGreatDoor
open Go.RowKit Go.Shelf
open Lim

/-- An int and an error as a function returns them. -/
def resI (x : Int × Nat) : Value := .tuple #[.int .i64 x.1, .int .i64 (x.2 : Int)]
def oneI (f : Rat → Int × Nat) (a : List UInt8) : Int × Nat := if errQ a ≠ 0 then (0, errQ a) else f (valQ a)
def twoI (f : Rat → Rat → Int × Nat) (a b : List UInt8) : Int × Nat := if errQ a ≠ 0 then (0, errQ a) else if errQ b ≠ 0 then (0, errQ b) else f (valQ a) (valQ b)

theorem bothI_any (F : FuncId) (hrun : Runs F) (g : Rat → Rat → Int × Nat) (a b : ByteArray) (w : World) (ha : a.size ≤ 270000) (hb : b.size ≤ 270000) (hr : Res w)
    (hF : ∀ p q v v' w', Res w' → IsFrac w' v p → IsFrac w' v' q → Sz maxD p → Sz maxD q → Calls Tryz.prog F #[v, v'] w' fun e w'' => e = .returned (resI (g p q)) ∧ Below w'.heap.size w' w'') :
    Calls Tryz.prog 145 #[.string a, .string b, .func (.func F) #[] #[]] w fun e w' => e = .returned (resI (twoI g a.data.toList b.data.toList)) ∧ Below w.heap.size w w' := by
  refine (WI.both_any F hrun (fun p q => (.int .i64 (g p q).1, ((g p q).2 : Int))) a b w ha hb hr (fun v v' w' _ hr' hv hv' h1 h2 => hF _ _ v v' w' hr' hv hv' (sz_max h1) (sz_max h2))).mono ?_
  rintro e w' ⟨rfl, hB⟩
  refine ⟨?_, hB⟩
  unfold twoI resI
  split
  · rfl
  · split <;> rfl

theorem runs_Cmp : Runs 146 := runs_of Tryz.func146 (by kernel_rfl) (by kernel_rfl)
set_option maxRecDepth 100000 in
set_option maxHeartbeats 2000000 in
theorem Cmp1_any (p q : Rat) (v v' : Value) (w : World) (hv : IsFrac w v p) (hv' : IsFrac w v' q) (sp : Sz maxD p) (sq : Sz maxD q) :
    Calls Tryz.prog 146 #[v, v'] w fun e w' => e = .returned (resI (cmpQ p q, 0)) ∧ Below w.heap.size w w' := by
  obtain ⟨lp, lp'⟩ := sz_limbs sp
  obtain ⟨lq, lq'⟩ := sz_limbs sq
  obtain ⟨bq, N, D, A, c, A', c', rfl, hn, hd, HQ⟩ := isFrac_open hv
  obtain ⟨bq', N', D', B, d, B', d', rfl, hn', hd', HQ'⟩ := isFrac_open hv'
  have HX := Lib.hid (below_alloc (below_alloc (Below.refl w.heap.size w) (.cells #[.bool bq, .slice A (toL N).length c, .slice A' (toL D).length c'] 160)) (.cells #[.bool bq', .slice B (toL N').length d, .slice B' (toL D').length d'] 160))
  have HF := Lib.hid (fcmp_any p q _ _ _ (hv.below HX.out) (hv'.below HX.out) (by omega) (by omega) (by omega) (by omega))
  generalize cmpQ p q = r at HF ⊢
  clear hv hv' hn hd hn' hd' sp sq lp lp' lq lq'
  go_enter Tryz.func146, Tryz.ntmps146
  go_wp2_with (go_at_call 147; refine HF.out.mono ?_; rintro e w1 ⟨k, rfl, hk, hb1⟩; subst hk; have HB1 := Lib.hid (HX.out.trans (hb1.mono HX.out.size)); clear hb1)
  refine bodyPost_ret (results_tmp2 rfl _ _ _) rfl ?_
  exact ⟨rfl, HB1.out⟩
set_option maxRecDepth 100000 in
/-- rat.Cmp. -/
theorem ratCmp_any (a b : ByteArray) (w : World) (ha : a.size ≤ 270000) (hb : b.size ≤ 270000) (hr : Res w) :
    Calls Tryz.prog 102 #[.string a, .string b] w fun e w' => e = .returned (resI (twoI (fun p q => (cmpQ p q, 0)) a.data.toList b.data.toList)) ∧ Below w.heap.size w w' := by
  have HB := Lib.hid (bothI_any 146 runs_Cmp (fun p q => (cmpQ p q, 0)) a b w ha hb hr (fun p q v v' w' _ hv hv' sp sq => Cmp1_any p q v v' w' hv hv' sp sq))
  generalize twoI (fun p q => (cmpQ p q, 0)) a.data.toList b.data.toList = r at HB ⊢
  clear hr
  go_enter Tryz.func102, Tryz.ntmps102
  go_wp2_with (go_at_call 145; refine HB.out.mono ?_; rintro e w2 ⟨rfl, hb2⟩; have HB2 := Lib.hid hb2; clear hb2; unfold resI)
  refine bodyPost_ret (results_tmp2 rfl _ _ _) rfl ?_
  exact ⟨rfl, HB2.out⟩

/-- What choose returns. -/
def chooseQ (x : Int × Nat) (s : Int) (a b : ByteArray) : ByteArray × Nat := if x.2 ≠ 0 then (⟨#[]⟩, x.2) else if x.1 * s > 0 then (b, 0) else (a, 0)
def resS (x : ByteArray × Nat) : Value := .tuple #[.string x.1, .int .i64 (x.2 : Int)]
theorem twoI_bound (a b : List UInt8) : -1 ≤ (twoI (fun p q => (cmpQ p q, 0)) a b).1 ∧ (twoI (fun p q => (cmpQ p q, 0)) a b).1 ≤ 1 := by
  unfold twoI
  split
  · show (-1 : Int) ≤ 0 ∧ (0 : Int) ≤ 1; omega
  · split
    · show (-1 : Int) ≤ 0 ∧ (0 : Int) ≤ 1; omega
    · rcases cmpQ_cases (valQ a) (valQ b) with h | h | h <;> simp [h]
set_option maxRecDepth 100000 in
set_option maxHeartbeats 2000000 in
theorem choose_any (a b : ByteArray) (s : Int) (w : World) (ha : a.size ≤ 270000) (hb : b.size ≤ 270000) (hr : Res w) (hs : s = 1 ∨ s = -1) :
    Calls Tryz.prog 150 #[.string a, .string b, .int .i64 s] w fun e w' => e = .returned (resS (chooseQ (twoI (fun p q => (cmpQ p q, 0)) a.data.toList b.data.toList) s a b)) ∧ Below w.heap.size w w' := by
  have HB := Lib.hid (ratCmp_any a b w ha hb hr)
  obtain ⟨z1, z2⟩ := twoI_bound a.data.toList b.data.toList
  generalize twoI (fun p q => (cmpQ p q, 0)) a.data.toList b.data.toList = r at HB z1 z2 ⊢
  obtain ⟨k, e0⟩ := r
  dsimp only at z1 z2
  unfold resI at HB
  unfold chooseQ resS
  dsimp only at HB ⊢
  clear hr
  by_cases he : e0 = 0
  · subst he
    have hks : -1 ≤ k * s ∧ k * s ≤ 1 := by rcases hs with rfl | rfl <;> omega
    rw [if_neg (by omega)]
    by_cases hp : k * s > 0
    · rw [if_pos hp]
      have hp' : decide (k * s > 0) = true := decide_eq_true hp
      go_enter Tryz.func150, Tryz.ntmps150
      go_wp2_with (go_at_call 102; refine HB.out.mono ?_; rintro e w2 ⟨rfl, hb2⟩; have HB2 := Lib.hid hb2; clear hb2)
      refine bodyPost_ret (results_tmp2 rfl _ _ _) rfl ?_
      exact ⟨rfl, HB2.out⟩
    · rw [if_neg hp]
      have hp' : decide (k * s > 0) = false := decide_eq_false hp
      go_enter Tryz.func150, Tryz.ntmps150
      go_wp2_with (go_at_call 102; refine HB.out.mono ?_; rintro e w2 ⟨rfl, hb2⟩; have HB2 := Lib.hid hb2; clear hb2)
      refine bodyPost_ret (results_tmp2 rfl _ _ _) rfl ?_
      exact ⟨rfl, HB2.out⟩
  · rw [if_pos he]
    have hne : ((e0 : Int) == 0) = false := by rw [beq_eq_false_iff_ne]; omega
    have HE := Lib.hid he
    clear he
    go_enter Tryz.func150, Tryz.ntmps150
    go_wp2_with (go_at_call 102; refine HB.out.mono ?_; rintro e w2 ⟨rfl, hb2⟩; have HB2 := Lib.hid hb2; clear hb2)
    refine bodyPost_ret (results_tmp2 rfl _ _ _) rfl ?_
    exact ⟨rfl, HB2.out⟩
set_option maxRecDepth 100000 in
/-- rat.Min. -/
theorem ratMin_any (a b : ByteArray) (w : World) (ha : a.size ≤ 270000) (hb : b.size ≤ 270000) (hr : Res w) :
    Calls Tryz.prog 107 #[.string a, .string b] w fun e w' => e = .returned (resS (chooseQ (twoI (fun p q => (cmpQ p q, 0)) a.data.toList b.data.toList) 1 a b)) ∧ Below w.heap.size w w' := by
  have HB := Lib.hid (choose_any a b 1 w ha hb hr (.inl rfl))
  generalize chooseQ (twoI (fun p q => (cmpQ p q, 0)) a.data.toList b.data.toList) 1 a b = r at HB ⊢
  clear hr
  go_enter Tryz.func107, Tryz.ntmps107
  go_wp2_with (go_at_call 150; refine HB.out.mono ?_; rintro e w2 ⟨rfl, hb2⟩; have HB2 := Lib.hid hb2; clear hb2; unfold resS)
  refine bodyPost_ret (results_tmp2 rfl _ _ _) rfl ?_
  exact ⟨rfl, HB2.out⟩
set_option maxRecDepth 100000 in
/-- rat.Max. -/
theorem ratMax_any (a b : ByteArray) (w : World) (ha : a.size ≤ 270000) (hb : b.size ≤ 270000) (hr : Res w) :
    Calls Tryz.prog 109 #[.string a, .string b] w fun e w' => e = .returned (resS (chooseQ (twoI (fun p q => (cmpQ p q, 0)) a.data.toList b.data.toList) (-1) a b)) ∧ Below w.heap.size w w' := by
  have HB := Lib.hid (choose_any a b (-1) w ha hb hr (.inr rfl))
  generalize chooseQ (twoI (fun p q => (cmpQ p q, 0)) a.data.toList b.data.toList) (-1) a b = r at HB ⊢
  clear hr
  go_enter Tryz.func109, Tryz.ntmps109
  go_wp2_with (go_at_call 150; refine HB.out.mono ?_; rintro e w2 ⟨rfl, hb2⟩; have HB2 := Lib.hid hb2; clear hb2; unfold resS)
  refine bodyPost_ret (results_tmp2 rfl _ _ _) rfl ?_
  exact ⟨rfl, HB2.out⟩
end Go.Proofs.YtbfhonhjejeaiaaGreatDoor
namespace Go.Proofs.YtbfhonhjejeaiaaGreatDoor
open Lim

/-- The size of the integer below or above a number. -/
def roundP (m : Bool) (n d : Nat) (up : Bool) : Nat := if (n % d ≠ 0) ∧ (m ≠ up) then n / d + 1 else n / d
end Go.Proofs.YtbfhonhjejeaiaaGreatDoor
namespace Go.Proofs.YtbfhonhjejeaiaaGreatDoor
open Go.RowKit Go.Shelf
open Lim
/-- The integer below or above a number. -/
def roundQ (q : Rat) (up : Bool) : Rat := mkQ (ng q) (roundP (ng q) (nm q) q.den up) 1
end Go.Proofs.YtbfhonhjejeaiaaGreatDoor
namespace Go.Proofs.YtbfhonhjejeaiaaGreatDoor
open Go.RowKit Go.Shelf
open Lim

theorem two_I {f : Rat → Rat → Int × Nat} {a b : ByteArray} {p q : Rat} (ha : IsT a p) (hb : IsT b q) : twoI f a.data.toList b.data.toList = f p q := by
  unfold twoI; rw [ha.err, hb.err, ha.val, hb.val]; rfl
section
variable {a b c : ByteArray} {p q : Rat} (w : World)
theorem cmpT {k : Int} (ha : IsT a p) (hb : IsT b q) (hk : cmpQ p q = k) (hr : Res w) :
    Calls Tryz.prog 102 #[.string a, .string b] w fun e w' => e = .returned (.tuple #[.int .i64 k, .int .i64 0]) ∧ Below w.heap.size w w' := by
  refine (ratCmp_any a b w ha.size hb.size hr).mono ?_
  rintro e w' ⟨rfl, h⟩
  rw [two_I ha hb, hk]
  exact ⟨rfl, h⟩
theorem minT (ha : IsT a p) (hb : IsT b q) (hc : c = if cmpQ p q > 0 then b else a) (hr : Res w) :
    Calls Tryz.prog 107 #[.string a, .string b] w fun e w' => e = .returned (.tuple #[.string c, .int .i64 0]) ∧ Below w.heap.size w w' := by
  refine (ratMin_any a b w ha.size hb.size hr).mono ?_
  rintro e w' ⟨rfl, h⟩
  refine ⟨?_, h⟩
  rw [two_I ha hb, hc]
  unfold chooseQ resS
  simp only [ne_eq, not_true_eq_false, if_false, Int.mul_one]
  split <;> rfl
theorem maxT (ha : IsT a p) (hb : IsT b q) (hc : c = if cmpQ p q < 0 then b else a) (hr : Res w) :
    Calls Tryz.prog 109 #[.string a, .string b] w fun e w' => e = .returned (.tuple #[.string c, .int .i64 0]) ∧ Below w.heap.size w w' := by
  refine (ratMax_any a b w ha.size hb.size hr).mono ?_
  rintro e w' ⟨rfl, h⟩
  refine ⟨?_, h⟩
  rw [two_I ha hb, hc]
  unfold chooseQ resS
  simp only [ne_eq, not_true_eq_false, if_false]
  by_cases h0 : cmpQ p q < 0
  · rw [if_pos h0, if_pos (by omega)]; rfl
  · rw [if_neg h0, if_neg (by omega)]; rfl
end
end Go.Proofs.YtbfhonhjejeaiaaGreatDoor
namespace Go.Proofs.YtbfhonhjejeaiaaGreatDoor
open Go.RowKit Go.Shelf
open Lim

/-! ### numbers that fit -/
def rT (q : Rat) : ByteArray := ⟨(ratText q).toArray⟩
def fits (q : Rat) : Bool := !(decide (maxD < Lib.nDigits (nm q) ∨ maxD < Lib.nDigits q.den))
theorem fits_sz {q : Rat} : fits q = true ↔ Sz maxD q := by
  rw [sz_iff (by decide)]
  unfold fits
  rw [Bool.not_eq_true', decide_eq_false_iff_not]
  omega
theorem Sz.fits {k : Nat} {q : Rat} (h : Sz k q) (hk : k ≤ maxD) : fits q = true := fits_sz.2 (h.mono hk)
theorem IsT.fits {a : ByteArray} {q : Rat} (h : IsT a q) : fits q = true := fits_sz.2 h.2
theorem isT_rT {q : Rat} (h : fits q = true) : IsT (rT q) q := ⟨rfl, fits_sz.1 h⟩
theorem IsT.text {a : ByteArray} {q : Rat} (h : IsT a q) : a = rT q := h.1
/-- A number, or the error of one that does not fit. -/
def ovr (q : Rat) : Except Nat Rat := if fits q then .ok q else .error 5
def resE : Except Nat Rat → Value
  | .ok q => .tuple #[.string (rT q), .int .i64 0]
  | .error n => .tuple #[.string ⟨#[]⟩, .int .i64 (n : Int)]
theorem out_ovr (q : Rat) : resN (outQ q) = resE (ovr q) := by
  unfold outQ ovr fits
  by_cases h : maxD < Lib.nDigits (nm q) ∨ maxD < Lib.nDigits q.den
  · rw [if_pos h, decide_eq_true h]; rfl
  · rw [if_neg h, decide_eq_false h]; rfl
theorem ovr_ok {q : Rat} (h : fits q = true) : ovr q = .ok q := by unfold ovr; rw [if_pos h]
theorem ovr_no {q : Rat} (h : fits q = false) : ovr q = .error 5 := by unfold ovr; rw [if_neg (by rw [h]; decide)]
theorem fits_one : fits 1 = true := IsT.one.fits
theorem fits_zero : fits 0 = true := IsT.zero.fits
def minQ (p q : Rat) : Rat := if cmpQ p q > 0 then q else p
def maxQ (p q : Rat) : Rat := if cmpQ p q < 0 then q else p
theorem cmpQ_gt (p q : Rat) : cmpQ p q > 0 ↔ q < p := by
  have := cmpQ_swap p q
  rw [← cmpQ_lt]
  omega
theorem minQ_eq (p q : Rat) : minQ p q = if q < p then q else p := by
  unfold minQ
  by_cases h : q < p
  · rw [if_pos ((cmpQ_gt p q).2 h), if_pos h]
  · rw [if_neg (fun h2 => h ((cmpQ_gt p q).1 h2)), if_neg h]
theorem maxQ_eq (p q : Rat) : maxQ p q = if p < q then q else p := by
  unfold maxQ
  by_cases h : p < q
  · rw [if_pos ((cmpQ_lt p q).2 h), if_pos h]
  · rw [if_neg (fun h2 => h ((cmpQ_lt p q).1 h2)), if_neg h]
theorem minQ_fits {p q : Rat} (hp : fits p = true) (hq : fits q = true) : fits (minQ p q) = true := by
  unfold minQ; split <;> assumption
theorem maxQ_fits {p q : Rat} (hp : fits p = true) (hq : fits q = true) : fits (maxQ p q) = true := by
  unfold maxQ; split <;> assumption
theorem minQ_le (p q : Rat) : minQ p q ≤ p ∧ minQ p q ≤ q := by
  rw [minQ_eq]; split <;> grind
theorem le_minQ {p q r : Rat} (h1 : r ≤ p) (h2 : r ≤ q) : r ≤ minQ p q := by
  rw [minQ_eq]; split <;> assumption
theorem le_maxQ (p q : Rat) : p ≤ maxQ p q ∧ q ≤ maxQ p q := by
  rw [maxQ_eq]; split <;> grind
theorem maxQ_le {p q r : Rat} : maxQ p q ≤ r ↔ p ≤ r ∧ q ≤ r := by
  rw [maxQ_eq]; split <;> grind
theorem rT_min {a b : ByteArray} {p q : Rat} (ha : IsT a p) (hb : IsT b q) : (if cmpQ p q > 0 then b else a) = rT (minQ p q) := by
  unfold minQ; split
  · exact hb.text
  · exact ha.text
theorem rT_max {a b : ByteArray} {p q : Rat} (ha : IsT a p) (hb : IsT b q) : (if cmpQ p q < 0 then b else a) = rT (maxQ p q) := by
  unfold maxQ; split
  · exact hb.text
  · exact ha.text

/-! ### losses -/
/-- The error of a loss of two texts. -/
def errL (f d : ByteArray) : Nat :=
  if errQ f.data.toList ≠ 0 then errQ f.data.toList else if errQ d.data.toList ≠ 0 then errQ d.data.toList
  else if cmpQ (valQ f.data.toList) 1 < 0 ∨ cmpQ (valQ d.data.toList) 0 < 0 ∨ cmpQ (valQ d.data.toList) 1 > 0 then 2 else 0
abbrev LQ := Rat × Rat
def lossT (l : LQ) : Value := .agg #[.string (rT l.1), .string (rT l.2)]
def resL : Except Nat LQ → Value
  | .ok l => .tuple #[lossT l, .int .i64 0]
  | .error n => .tuple #[.agg #[.string ⟨#[]⟩, .string ⟨#[]⟩], .int .i64 (n : Int)]
/-- A loss of two texts. -/
structure LossIs (f d : ByteArray) (l : LQ) : Prop where
  f : IsT f l.1
  d : IsT d l.2
  one : 1 ≤ l.1
  zero : 0 ≤ l.2
  top : l.2 ≤ 1
theorem errL_zero {f d : ByteArray} (h : errL f d = 0) : LossIs f d (valQ f.data.toList, valQ d.data.toList) := by
  unfold errL at h
  by_cases h1 : errQ f.data.toList = 0
  · by_cases h2 : errQ d.data.toList = 0
    · rw [if_neg (by omega), if_neg (by omega)] at h
      by_cases h3 : cmpQ (valQ f.data.toList) 1 < 0 ∨ cmpQ (valQ d.data.toList) 0 < 0 ∨ cmpQ (valQ d.data.toList) 1 > 0
      · rw [if_pos h3] at h; cases h
      · have a1 := (cmpQ_lt (valQ f.data.toList) 1)
        have a2 := (cmpQ_lt (valQ d.data.toList) 0)
        have a3 := (cmpQ_gt (valQ d.data.toList) 1)
        refine ⟨IsT.of h1, IsT.of h2, ?_, ?_, ?_⟩
        · exact Rat.not_lt.1 (fun h4 => h3 (.inl (a1.2 h4)))
        · exact Rat.not_lt.1 (fun h4 => h3 (.inr (.inl (a2.2 h4))))
        · exact Rat.not_lt.1 (fun h4 => h3 (.inr (.inr (a3.2 h4))))
    · rw [if_neg (by omega), if_pos h2] at h; exact absurd h h2
  · rw [if_pos h1] at h; exact absurd h h1
theorem LossIs.err {f d : ByteArray} {l : LQ} (h : LossIs f d l) : errL f d = 0 := by
  unfold errL
  rw [if_neg (by rw [h.f.err]; decide), if_neg (by rw [h.d.err]; decide), h.f.val, h.d.val, if_neg]
  rw [cmpQ_lt, cmpQ_lt, cmpQ_gt]
  have := h.one; have := h.zero; have := h.top
  grind
theorem LossIs.text {f d : ByteArray} {l : LQ} (h : LossIs f d l) : Value.agg #[.string f, .string d] = lossT l := by
  unfold lossT; rw [h.f.text, h.d.text]
/-- A loss whose numbers fit. -/
structure OkL (l : LQ) : Prop where
  f : fits l.1 = true
  d : fits l.2 = true
  one : 1 ≤ l.1
  zero : 0 ≤ l.2
  top : l.2 ≤ 1
theorem LossIs.ok {f d : ByteArray} {l : LQ} (h : LossIs f d l) : OkL l := ⟨h.f.fits, h.d.fits, h.one, h.zero, h.top⟩
theorem OkL.is {l : LQ} (h : OkL l) : LossIs (rT l.1) (rT l.2) l := ⟨isT_rT h.f, isT_rT h.d, h.one, h.zero, h.top⟩
def noneL : LQ := (1, 0)
theorem okL_none : OkL noneL := ⟨fits_one, fits_zero, by decide +kernel, by decide +kernel, by decide +kernel⟩
/-- The sum of two losses. -/
def plusL (a b : LQ) : Except Nat LQ :=
  match ovr (a.1 * b.1) with
  | .error n => .error n
  | .ok f => match ovr (a.2 + b.2) with
    | .error n => .error n
    | .ok d => .ok (f, minQ d 1)
theorem plusL_ok {a b : LQ} (h1 : fits (a.1 * b.1) = true) (h2 : fits (a.2 + b.2) = true) : plusL a b = .ok (a.1 * b.1, minQ (a.2 + b.2) 1) := by
  unfold plusL; rw [ovr_ok h1, ovr_ok h2]
theorem plusL_no1 {a b : LQ} (h1 : fits (a.1 * b.1) = false) : plusL a b = .error 5 := by
  unfold plusL; rw [ovr_no h1]
theorem plusL_no2 {a b : LQ} (h1 : fits (a.1 * b.1) = true) (h2 : fits (a.2 + b.2) = false) : plusL a b = .error 5 := by
  unfold plusL; rw [ovr_ok h1, ovr_no h2]
theorem mul_ge_one {x y : Rat} (hx : 1 ≤ x) (hy : 1 ≤ y) : 1 ≤ x * y := by
  have := Rat.mul_le_mul_of_nonneg_left hy (show (0 : Rat) ≤ x by grind)
  grind
theorem plusL_okL {a b l : LQ} (ha : OkL a) (hb : OkL b) (h : plusL a b = .ok l) : OkL l := by
  cases h1 : fits (a.1 * b.1)
  · rw [plusL_no1 h1] at h; cases h
  cases h2 : fits (a.2 + b.2)
  · rw [plusL_no2 h1 h2] at h; cases h
  rw [plusL_ok h1 h2] at h
  cases h
  have := ha.zero
  have := hb.zero
  exact ⟨h1, minQ_fits h2 fits_one, mul_ge_one ha.one hb.one, le_minQ (by grind) (by decide +kernel), (minQ_le _ _).2⟩
theorem min_top {d : Rat} (h : d ≤ 1) : minQ d 1 = d := by rw [minQ_eq, if_neg (by grind)]
theorem plusL_none {a : LQ} (ha : OkL a) : plusL noneL a = .ok a := by
  unfold noneL
  have e1 : (1 : Rat) * a.1 = a.1 := Rat.one_mul _
  have e2 : (0 : Rat) + a.2 = a.2 := Rat.zero_add _
  rw [plusL_ok (by rw [e1]; exact ha.f) (by rw [e2]; exact ha.d), e1, e2, min_top ha.top]
/-- The loss with the greater parts. -/
def aboveL (a b : LQ) : LQ := (maxQ a.1 b.1, maxQ a.2 b.2)
theorem aboveL_ok {a b : LQ} (ha : OkL a) (hb : OkL b) : OkL (aboveL a b) :=
  ⟨maxQ_fits ha.f hb.f, maxQ_fits ha.d hb.d, Rat.le_trans ha.one (le_maxQ _ _).1, Rat.le_trans ha.zero (le_maxQ _ _).1, maxQ_le.2 ⟨ha.top, hb.top⟩⟩
theorem aboveL_none {a : LQ} (ha : OkL a) : aboveL noneL a = a := by
  unfold aboveL noneL
  have := ha.one
  have := ha.zero
  have e1 : maxQ 1 a.1 = a.1 := by rw [maxQ_eq]; split <;> grind
  have e2 : maxQ 0 a.2 = a.2 := by rw [maxQ_eq]; split <;> grind
  rw [e1, e2]
def fitsL (a b : LQ) : Bool := decide (cmpQ a.1 b.1 ≤ 0) && decide (cmpQ a.2 b.2 ≤ 0)
/-- The factor's powers and their sum, as Group computes them. -/
def powsum (F : Rat) : Nat → Except Nat LQ
  | 0 => .ok (1, 0)
  | k + 1 => match powsum F k with
    | .error n => .error n
    | .ok ps => match ovr (ps.2 + ps.1) with
      | .error n => .error n
      | .ok s => match ovr (ps.1 * F) with
        | .error n => .error n
        | .ok p => .ok (p, s)
def groupL (l : LQ) (k : Nat) : Except Nat LQ :=
  match powsum l.1 k with
  | .error n => .error n
  | .ok ps => match ovr (l.2 * ps.2) with
    | .error n => .error n
    | .ok d => .ok (ps.1, minQ d 1)
def lateL (l : LQ) (u : Rat) : Except Nat LQ :=
  match ovr (l.1 + 1) with
  | .error n => .error n
  | .ok x => match ovr (x * u) with
    | .error n => .error n
    | .ok m => match ovr (l.2 + m) with
      | .error n => .error n
      | .ok d => .ok (l.1, minQ d 1)
/-! ### parameters -/
def errF (s : Int) (f : ByteArray) : Nat :=
  if errQ f.data.toList ≠ 0 then errQ f.data.toList else if cmpQ (valQ f.data.toList) 1 ≤ 0 ∨ s < 1 ∨ s > 1000000 then 2 else 0
def alphaQ (s F : Rat) : Except Nat Rat :=
  if s = 1 then ovr F⁻¹ else
  match ovr (s * F) with
  | .error n => .error n
  | .ok x => match ovr (x + F) with
    | .error n => .error n
    | .ok y => match ovr (y + -1) with
      | .error n => .error n
      | .ok z => ovr (x * z⁻¹)
def betaQ (s F : Rat) : Except Nat Rat :=
  match ovr ((s + s) * F) with
  | .error n => .error n
  | .ok x => match ovr (F + -1) with
    | .error n => .error n
    | .ok y => match ovr (y * x⁻¹) with
      | .error n => .error n
      | .ok z => ovr (1 + z)
def halfQ (F : Rat) : Except Nat Rat :=
  match ovr (2 * F) with
  | .error n => .error n
  | .ok x => match ovr (F + 1) with
    | .error n => .error n
    | .ok y => ovr (x * y⁻¹)
end Go.Proofs.YtbfhonhjejeaiaaGreatDoor
namespace Go.Proofs.YtbfhonhjejeaiaaGreatDoor
open Go.RowKit Go.Shelf
open Lim

/-- The value that a computation is left with for an error. -/
def prob (n : Nat) : Value := .iface 155 (.agg #[.int .i64 (n : Int)])
def pan (n : Nat) : List PanicEntry := [{ v := prob n, recovered := false }]
set_option maxRecDepth 100000 in
theorem mustI_ok (v : Int) (w : World) : Calls Tryz.prog 80 #[.int .i64 v, .int .i64 0] w fun e w' => e = .returned (.int .i64 v) ∧ w' = w := by
  go_enter Tryz.func80, Tryz.ntmps80
  go_wp2
  go_ret
  exact ⟨rfl, rfl⟩
set_option maxRecDepth 100000 in
theorem mustI_no (v : Int) (n : Nat) (w : World) (h : n ≠ 0) : Calls Tryz.prog 80 #[.int .i64 v, .int .i64 (n : Int)] w fun e w' => e = .panicked (pan n) ∧ w' = w := by
  unfold pan prob
  obtain ⟨z, hz⟩ : ∃ z : Int, z = (n : Int) := ⟨_, rfl⟩
  rw [← hz]
  have hn : (z == 0) = false := by rw [beq_eq_false_iff_ne]; omega
  clear hz h
  go_enter Tryz.func80, Tryz.ntmps80
  go_wp2
  exact ⟨rfl, rfl, rfl⟩
set_option maxRecDepth 100000 in
theorem mustN_ok (v : ByteArray) (w : World) : Calls Tryz.prog 76 #[.string v, .int .i64 0] w fun e w' => e = .returned (.string v) ∧ w' = w := by
  go_enter Tryz.func76, Tryz.ntmps76
  go_wp2
  go_ret
  exact ⟨rfl, rfl⟩
set_option maxRecDepth 100000 in
theorem mustN_no (v : ByteArray) (n : Nat) (w : World) (h : n ≠ 0) : Calls Tryz.prog 76 #[.string v, .int .i64 (n : Int)] w fun e w' => e = .panicked (pan n) ∧ w' = w := by
  unfold pan prob
  obtain ⟨z, hz⟩ : ∃ z : Int, z = (n : Int) := ⟨_, rfl⟩
  rw [← hz]
  have hn : (z == 0) = false := by rw [beq_eq_false_iff_ne]; omega
  clear hz h
  go_enter Tryz.func76, Tryz.ntmps76
  go_wp2
  exact ⟨rfl, rfl, rfl⟩

/-! ### the deferred call -/
set_option maxRecDepth 100000 in
theorem ends_idle (p : Addr) (w : World) :
    CallsD Tryz.prog 72 #[.pointer (some p)] .returning w fun e u' w' => e = .returned (.tuple #[]) ∧ u' = .returning ∧ w' = w := by
  refine callsD_of_wpS Tryz.func72 rfl fun c₀ cs hu => ?_
  apply wpS_seq
  apply wpS_region
  simp [wpOpsS, go_sem, recoverD, hu, Tryz.ntmps72, Exit.thenS, Array.replicate_succ, Array.replicate_zero]
  refine wpS_of_wp ?_
  go_wp2
  cases c₀
  simp_all [bodyPostS, results, Tryz.results72]
set_option maxRecDepth 100000 in
set_option maxHeartbeats 1000000 in
theorem ends_panic (b : Nat) (n : Nat) (x : Int) (older : List PanicEntry) (w : World) (hb : Blk w b 27 #[.int .i64 x]) :
    CallsD Tryz.prog 72 #[.pointer (some ⟨b, 0, none⟩)] (.panicking ({ v := prob n, recovered := false } :: older)) w fun e u' w' =>
      e = .returned (.tuple #[]) ∧ u' = .panicking ({ v := prob n, recovered := true } :: older) ∧ w' = (w.setCell ⟨b, 0, none⟩ (.int .i64 (n : Int))).alloc (.cells #[.int .i64 (n : Int)] 155) := by
  unfold prob
  have hta : ∀ (v : Value) (w : World), (Instr.typeAssert (.iface 155 v) 20 155 true).run Tryz.prog w = .ok (.tuple #[v, .bool true]) w := fun _ _ => by kernel_rfl
  have hlt := hb.lt
  have hc := (cellrow hb 0 (by simp)).1
  have hz := hb.frozen 0
  simp only [List.getElem_toArray, List.getElem_cons_zero] at hc
  obtain ⟨z, hz2⟩ : ∃ z : Int, z = (n : Int) := ⟨_, rfl⟩
  rw [← hz2]
  clear hb hz2
  refine callsD_of_wpS Tryz.func72 rfl fun c₀ cs hu => ?_
  apply wpS_seq
  apply wpS_region
  simp [wpOpsS, go_sem, recoverD, hu, Tryz.ntmps72, Exit.thenS, Array.replicate_succ, Array.replicate_zero]
  refine wpS_of_wp ?_
  go_wp2
  simp [bodyPostS, results, Tryz.results72, go_sem]
end Go.Proofs.YtbfhonhjejeaiaaGreatDoor
namespace Go.Proofs.YtbfhonhjejeaiaaGreatDoor
open Go.RowKit Go.Shelf
open Lim

/-! ### the door of a function that defers ends -/
section
variable {fn : Func} {tmps : Array Value} {R : Ending → World → Prop} {b : Nat} {w : World}
theorem door_ret {v : Value} (hr : (results fn tmps).run Tryz.prog w = .ok v w) (hR : R (.returned v) w) :
    Leaves Tryz.prog fn tmps R [{ target := Target.fn (Fn.func 72) #[], args := #[.pointer (some ⟨b, 0, none⟩)] }] .returning w := by
  refine leaves_cons (f := 72) (args := #[.pointer (some ⟨b, 0, none⟩)]) (by simp) (by simp [go_sem]) ?_
  refine (ends_idle _ _).mono ?_
  rintro e u' w'' ⟨rfl, rfl, rfl⟩
  exact ⟨v, hr, hR⟩
theorem door_pan {v : Value} {n : Nat} {x : Int} (hb : Blk w b 27 #[.int .i64 x])
    (hr : ∀ W, Blk W b 27 #[.int .i64 (n : Int)] → (∀ g t cs, g ≠ b → Blk w g t cs → Blk W g t cs) → (∀ B w0, B ≤ b → Below B w0 w → Below B w0 W) → (results fn tmps).run Tryz.prog W = .ok v W ∧ R (.returned v) W) :
    Leaves Tryz.prog fn tmps R [{ target := Target.fn (Fn.func 72) #[], args := #[.pointer (some ⟨b, 0, none⟩)] }] (.panicking (pan n)) w := by
  refine leaves_cons (f := 72) (args := #[.pointer (some ⟨b, 0, none⟩)]) (by simp) (by simp [go_sem]) ?_
  unfold pan
  refine (ends_panic b n x [] w hb).mono ?_
  rintro e u' w'' ⟨rfl, rfl, rfl⟩
  obtain ⟨h1, h2⟩ := hr ((w.setCell ⟨b, 0, none⟩ (.int .i64 (n : Int))).alloc (.cells #[.int .i64 (n : Int)] 155))
    ((hb.set_ 0 _).alloc _) (fun g t cs hg h => (h.far (p := ⟨b, 0, none⟩) hg _).alloc _)
    (fun B w0 hB h => by
      have h3 := h.setCell (p := ⟨b, 0, none⟩) hB (.int .i64 (n : Int))
      exact h3.alloc (Nat.le_trans hB (Nat.le_of_lt (hb.set_ 0 (.int .i64 (n : Int))).lt)) _)
  exact ⟨v, h1, h2⟩
end
set_option maxRecDepth 100000 in
/-- loss.order. -/
theorem lorder_any {a b : ByteArray} {p q : Rat} (w : World) (ha : IsT a p) (hb : IsT b q) (hr : Res w) :
    Calls Tryz.prog 74 #[.string a, .string b] w fun e w' => e = .returned (.int .i64 (cmpQ p q)) ∧ Below w.heap.size w w' := by
  have HC := Lib.hid (cmpT w ha hb rfl hr)
  generalize cmpQ p q = k at HC ⊢
  clear ha hb hr
  go_enter Tryz.func74, Tryz.ntmps74
  go_wp2_with (first
    | (go_at_call 102; refine HC.out.mono ?_; rintro e w1 ⟨rfl, hb1⟩; have HB := Lib.hid hb1; clear hb1)
    | (go_at_call 80; refine (mustI_ok _ _).mono ?_; rintro e w2 ⟨rfl, hw⟩; subst hw))
  go_ret
  exact ⟨rfl, HB.out⟩
end Go.Proofs.YtbfhonhjejeaiaaGreatDoor
namespace Go.Proofs.YtbfhonhjejeaiaaGreatDoor
open Go.RowKit Go.Shelf
open Lim

theorem cell0 {w : World} {b : Nat} {t : TypeId} {v : Value} (h : Blk w b t #[v]) : w.cell? ⟨b, 0, none⟩ = some v := (cellrow h 0 (by simp)).1
theorem cells2 {w : World} {b : Nat} {t : TypeId} {u v : Value} (h : Blk w b t #[u, v]) : w.cell? ⟨b, 0, none⟩ = some u ∧ w.cell? ⟨b, 1, none⟩ = some v := ⟨(cellrow h 0 (by simp)).1, (cellrow h 1 (by simp)).1⟩
/-- What the walk of Check knows at each of its places: its three blocks, the library's tables, what lay there ahead. -/
structure ChkAt (w : World) (g : Nat) (f d : ByteArray) (k : Int) (W : World) : Prop where
  l : Blk W g 24 #[.string f, .string d]
  e : Blk W (g + 1) 27 #[.int .i64 k]
  s : Blk W (g + 1 + 1) 22 #[.string f, .string d]
  res : Res W
  below : Below w.heap.size w W
  g : g = w.heap.size
theorem ChkAt.later {w W W' : World} {g : Nat} {f d : ByteArray} {k : Int} (h : ChkAt w g f d k W) (hb : Below W.heap.size W W') : ChkAt w g f d k W' :=
  ⟨h.l.below hb h.l.lt, h.e.below hb h.e.lt, h.s.below hb h.s.lt, h.res.below hb, h.below.trans (hb.mono h.below.size), h.g⟩
set_option maxRecDepth 100000 in
set_option maxHeartbeats 4000000 in
theorem lcheck_any (f d : ByteArray) (w : World) (hf : f.size ≤ 270000) (hd : d.size ≤ 270000) (hr : Res w) :
    Calls Tryz.prog 25 #[.agg #[.string f, .string d]] w fun e w' => e = .returned (.int .i64 (errL f d : Int)) ∧ Below w.heap.size w w' := by
  have H0 := Lib.hid (show ChkAt w w.heap.size f d 0 (((w.alloc (.cells #[.string f, .string d] 24)).alloc (.cells #[.int .i64 0] 27)).alloc (.cells #[.string f, .string d] 22)) from by
    have b1 := below_alloc (Below.refl w.heap.size w) (.cells #[.string f, .string d] 24)
    have b2 := below_alloc b1 (.cells #[.int .i64 0] 27)
    have b3 := below_alloc b2 (.cells #[.string f, .string d] 22)
    have k1 := Blk.new w 24 #[.string f, .string d]
    have k2 := Blk.new (w.alloc (.cells #[.string f, .string d] 24)) 27 #[.int .i64 0]
    have k3 := Blk.new ((w.alloc (.cells #[.string f, .string d] 24)).alloc (.cells #[.int .i64 0] 27)) 22 #[.string f, .string d]
    have e1 : (w.alloc (.cells #[.string f, .string d] 24)).heap.size = w.heap.size + 1 := by simp
    have e2 : ((w.alloc (.cells #[.string f, .string d] 24)).alloc (.cells #[.int .i64 0] 27)).heap.size = w.heap.size + 1 + 1 := by simp
    rw [e1] at k2
    rw [e2] at k3
    exact ⟨(k1.alloc _).alloc _, k2.alloc _, k3, hr.below b3, b3, rfl⟩)
  clear hr
  go_enter_defers Tryz.func25, Tryz.ntmps25
  go_wp2
  go_loopw [11] (fun v11 wr => ∃ k : Nat, k ≤ 2 ∧ v11 = .int .i64 (k : Int) ∧ (1 ≤ k → errQ f.data.toList = 0) ∧ (2 ≤ k → errQ d.data.toList = 0) ∧ Hid (ChkAt w w.heap.size f d 0 wr)) (fun v11 _ => 2 - (intOf v11).toNat)
  case atStart => exact ⟨0, by omega, rfl, by omega, by omega, H0⟩
  case round =>
    obtain ⟨k, hk, rfl, h1, h2, H⟩ := hrel
    clear H0
    have c0 := (cellrow H.out.s 0 (by simp)).1
    have c1 := (cellrow H.out.s 1 (by simp)).1
    simp only [List.getElem_toArray, List.getElem_cons_zero, List.getElem_cons_succ] at c0 c1
    match k, hk with
    | 0, _ =>
      clear h1 h2 c1
      have HF := Lib.hid (ratCheck_any f wr hf H.out.res)
      by_cases he : errQ f.data.toList = 0
      · rw [he] at HF
        have HE := Lib.hid he
        clear he
        go_wp2_with (first
          | (go_at_call 81; refine HF.out.mono ?_; rintro e w1 ⟨rfl, hb1⟩; have H1 := Lib.hid (H.out.later hb1); clear hb1)
          | (go_at_call 80; refine (mustI_ok _ _).mono ?_; rintro e w2 ⟨rfl, hw⟩; subst hw))
        go_roundw
        case rel => exact ⟨1, by omega, by go_num, fun _ => HE.out, by omega, H1⟩
        case measure => simp [intOf]
      · have HE := Lib.hid (And.intro he (show errL f d = errQ f.data.toList by unfold errL; rw [if_pos he]))
        generalize errQ f.data.toList = n at HF HE
        clear he
        go_wp2_with (first
          | (go_at_call 81; refine HF.out.mono ?_; rintro e w1 ⟨rfl, hb1⟩; have H1 := Lib.hid (H.out.later hb1); clear hb1)
          | (go_at_call 80; refine (mustI_no _ _ _ HE.out.1).mono ?_; rintro e w2 ⟨rfl, hw⟩; subst hw))
        refine door_pan (v := .int .i64 (n : Int)) H1.out.e ?_
        intro W hB _ hbel
        have hc := (cellrow hB 0 (by simp)).1
        simp only [List.getElem_toArray, List.getElem_cons_zero] at hc
        refine ⟨by simp [results, Tryz.results25, go_sem, hc], ?_, hbel _ _ (by omega) H1.out.below⟩
        rw [HE.out.2]
    | 1, _ =>
      have he1 := h1 (by omega)
      clear h1 h2 c0
      have HE1 := Lib.hid he1
      clear he1
      have HF := Lib.hid (ratCheck_any d wr hd H.out.res)
      by_cases he : errQ d.data.toList = 0
      · rw [he] at HF
        have HE := Lib.hid he
        clear he
        go_wp2_with (first
          | (go_at_call 81; refine HF.out.mono ?_; rintro e w1 ⟨rfl, hb1⟩; have H1 := Lib.hid (H.out.later hb1); clear hb1)
          | (go_at_call 80; refine (mustI_ok _ _).mono ?_; rintro e w2 ⟨rfl, hw⟩; subst hw))
        go_roundw
        case rel => exact ⟨2, by omega, by go_num, fun _ => HE1.out, fun _ => HE.out, H1⟩
        case measure => simp [intOf]
      · have HE := Lib.hid (And.intro he (show errL f d = errQ d.data.toList by unfold errL; rw [if_neg (by rw [HE1.out]; decide), if_pos he]))
        generalize errQ d.data.toList = n at HF HE
        clear he
        go_wp2_with (first
          | (go_at_call 81; refine HF.out.mono ?_; rintro e w1 ⟨rfl, hb1⟩; have H1 := Lib.hid (H.out.later hb1); clear hb1)
          | (go_at_call 80; refine (mustI_no _ _ _ HE.out.1).mono ?_; rintro e w2 ⟨rfl, hw⟩; subst hw))
        refine door_pan (v := .int .i64 (n : Int)) H1.out.e ?_
        intro W hB _ hbel
        have hc := (cellrow hB 0 (by simp)).1
        simp only [List.getElem_toArray, List.getElem_cons_zero] at hc
        refine ⟨by simp [results, Tryz.results25, go_sem, hc], ?_, hbel _ _ (by omega) H1.out.below⟩
        rw [HE.out.2]
    | 2, _ =>
      have H1 := IsT.of (h1 (by omega))
      have H2 := IsT.of (h2 (by omega))
      clear c0 c1
      have c0 := (cellrow H.out.l 0 (by simp)).1
      have c1 := (cellrow H.out.l 1 (by simp)).1
      simp only [List.getElem_toArray, List.getElem_cons_zero, List.getElem_cons_succ] at c0 c1
      have HL := Lib.hid (show errL f d = if cmpQ (valQ f.data.toList) 1 < 0 ∨ cmpQ (valQ d.data.toList) 0 < 0 ∨ cmpQ (valQ d.data.toList) 1 > 0 then 2 else 0 by
        unfold errL
        rw [if_neg (by rw [h1 (by omega)]; decide), if_neg (by rw [h2 (by omega)]; decide)])
      have HC1 := Lib.hid (fun w => lorder_any w H1 IsT.one)
      have HC2 := Lib.hid (fun w => lorder_any w H2 IsT.zero)
      have HC3 := Lib.hid (fun w => lorder_any w H2 IsT.one)
      generalize cmpQ (valQ f.data.toList) 1 = x1 at HL HC1
      generalize cmpQ (valQ d.data.toList) 0 = x2 at HL HC2
      generalize cmpQ (valQ d.data.toList) 1 = x3 at HL HC3
      clear h1 h2 H1 H2
      have TK1 : True := trivial
      have TK2 : True := trivial
      have TK3 : True := trivial
      by_cases d1 : x1 < 0
      · have g1 : decide (x1 < 0) = true := decide_eq_true d1
        have D1 := Lib.hid d1
        clear d1
        go_wp2_with (first
          | (clear TK1; go_at_call 74; refine (HC1.out _ H.out.res).mono ?_; rintro e w1 ⟨rfl, hb⟩; have H1 := Lib.hid (H.out.later hb); obtain ⟨-, p1⟩ := cells2 H1.out.l; have q1 := cell0 H1.out.e; have z1 := H1.out.e.frozen 0; clear hb))
        refine door_ret (v := .int .i64 2) (by have hc := cell0 (H1.out.e.set_ 0 (.int .i64 2)); simp [results, Tryz.results25, go_sem] at hc ⊢; simp [hc]) ⟨by rw [HL.out, if_pos (.inl D1.out)]; rfl, H1.out.below.setCell (Nat.le_succ _) _⟩
      by_cases d2 : x2 < 0
      · have g1 : decide (x1 < 0) = false := decide_eq_false d1
        have g2 : decide (x2 < 0) = true := decide_eq_true d2
        have D2 := Lib.hid d2
        clear d1 d2
        go_wp2_with (first
          | (clear TK1; go_at_call 74; refine (HC1.out _ H.out.res).mono ?_; rintro e w1 ⟨rfl, hb⟩; have H1 := Lib.hid (H.out.later hb); obtain ⟨-, p1⟩ := cells2 H1.out.l; have q1 := cell0 H1.out.e; have z1 := H1.out.e.frozen 0; clear hb)
          | (clear TK2; go_at_call 74; refine (HC2.out _ H1.out.res).mono ?_; rintro e w2 ⟨rfl, hb⟩; have H2 := Lib.hid (H1.out.later hb); obtain ⟨-, p2⟩ := cells2 H2.out.l; have q2 := cell0 H2.out.e; have z2 := H2.out.e.frozen 0; clear hb))
        refine door_ret (v := .int .i64 2) (by have hc := cell0 (H2.out.e.set_ 0 (.int .i64 2)); simp [results, Tryz.results25, go_sem] at hc ⊢; simp [hc]) ⟨by rw [HL.out, if_pos (.inr (.inl D2.out))]; rfl, H2.out.below.setCell (Nat.le_succ _) _⟩
      by_cases d3 : x3 > 0
      · have g1 : decide (x1 < 0) = false := decide_eq_false d1
        have g2 : decide (x2 < 0) = false := decide_eq_false d2
        have g3 : decide (0 < x3) = true := decide_eq_true d3
        have D3 := Lib.hid d3
        clear d1 d2 d3
        go_wp2_with (first
          | (clear TK1; go_at_call 74; refine (HC1.out _ H.out.res).mono ?_; rintro e w1 ⟨rfl, hb⟩; have H1 := Lib.hid (H.out.later hb); obtain ⟨-, p1⟩ := cells2 H1.out.l; have q1 := cell0 H1.out.e; have z1 := H1.out.e.frozen 0; clear hb)
          | (clear TK2; go_at_call 74; refine (HC2.out _ H1.out.res).mono ?_; rintro e w2 ⟨rfl, hb⟩; have H2 := Lib.hid (H1.out.later hb); obtain ⟨-, p2⟩ := cells2 H2.out.l; have q2 := cell0 H2.out.e; have z2 := H2.out.e.frozen 0; clear hb)
          | (clear TK3; go_at_call 74; refine (HC3.out _ H2.out.res).mono ?_; rintro e w3 ⟨rfl, hb⟩; have H3 := Lib.hid (H2.out.later hb); obtain ⟨-, p3⟩ := cells2 H3.out.l; have q3 := cell0 H3.out.e; have z3 := H3.out.e.frozen 0; clear hb))
        refine door_ret (v := .int .i64 2) (by have hc := cell0 (H3.out.e.set_ 0 (.int .i64 2)); simp [results, Tryz.results25, go_sem] at hc ⊢; simp [hc]) ⟨by rw [HL.out, if_pos (.inr (.inr D3.out))]; rfl, H3.out.below.setCell (Nat.le_succ _) _⟩
      have g1 : decide (x1 < 0) = false := decide_eq_false d1
      have g2 : decide (x2 < 0) = false := decide_eq_false d2
      have g3 : decide (0 < x3) = false := decide_eq_false d3
      have D3 := Lib.hid (show ¬ (x1 < 0 ∨ x2 < 0 ∨ x3 > 0) by omega)
      clear d1 d2 d3
      go_wp2_with (first
        | (clear TK1; go_at_call 74; refine (HC1.out _ H.out.res).mono ?_; rintro e w1 ⟨rfl, hb⟩; have H1 := Lib.hid (H.out.later hb); obtain ⟨-, p1⟩ := cells2 H1.out.l; have q1 := cell0 H1.out.e; have z1 := H1.out.e.frozen 0; clear hb)
        | (clear TK2; go_at_call 74; refine (HC2.out _ H1.out.res).mono ?_; rintro e w2 ⟨rfl, hb⟩; have H2 := Lib.hid (H1.out.later hb); obtain ⟨-, p2⟩ := cells2 H2.out.l; have q2 := cell0 H2.out.e; have z2 := H2.out.e.frozen 0; clear hb)
        | (clear TK3; go_at_call 74; refine (HC3.out _ H2.out.res).mono ?_; rintro e w3 ⟨rfl, hb⟩; have H3 := Lib.hid (H2.out.later hb); obtain ⟨-, p3⟩ := cells2 H3.out.l; have q3 := cell0 H3.out.e; have z3 := H3.out.e.frozen 0; clear hb))
      refine door_ret (v := .int .i64 0) (by have hc := cell0 (H3.out.e.set_ 0 (.int .i64 0)); simp [results, Tryz.results25, go_sem] at hc ⊢; simp [hc]) ⟨by rw [HL.out, if_neg D3.out]; rfl, H3.out.below.setCell (Nat.le_succ _) _⟩
end Go.Proofs.YtbfhonhjejeaiaaGreatDoor
namespace Go.Proofs.YtbfhonhjejeaiaaGreatDoor
open Go.RowKit Go.Shelf
open Lim

abbrev L2 := ByteArray × ByteArray
/-- A slice of losses. -/
def LRow (w : World) (v : Value) (ls : List L2) : Prop :=
  ∃ A c, v = .slice A ls.length c ∧ ls.length ≤ 1000 ∧ (0 < ls.length → ∃ b o, A = some ⟨b, o, none⟩ ∧ b < w.heap.size ∧
    ∀ (j : Nat) (x : L2), ls[j]? = some x → w.cell? ⟨b, o + j * 2, none⟩ = some (.string x.1) ∧ w.cell? ⟨b, o + j * 2 + 1, none⟩ = some (.string x.2))
theorem LRow.below {w w' : World} {v : Value} {ls : List L2} (h : LRow w v ls) (hb : Below w.heap.size w w') : LRow w' v ls := by
  obtain ⟨A, c, e, h1, h2⟩ := h
  refine ⟨A, c, e, h1, fun h0 => ?_⟩
  obtain ⟨b, o, e2, hlt, hc⟩ := h2 h0
  refine ⟨b, o, e2, Nat.lt_of_lt_of_le hlt hb.size, fun j x hj => ?_⟩
  obtain ⟨c0, c1⟩ := hc j x hj
  exact ⟨by rw [hb.cell (p := ⟨b, o + j * 2, none⟩) hlt]; exact c0, by rw [hb.cell (p := ⟨b, o + j * 2 + 1, none⟩) hlt]; exact c1⟩
theorem LRow.nil (w : World) (A : Option Addr) (c : Nat) : LRow w (.slice A 0 c) [] := ⟨A, c, rfl, by simp, fun h => absurd h (by simp)⟩
theorem LRow.one {w : World} {b : Nat} {t : TypeId} {f d : ByteArray} (h : Blk w b t #[.string f, .string d]) : LRow w (.slice (some ⟨b, 0, none⟩) 1 1) [(f, d)] := by
  refine ⟨_, _, rfl, by simp, fun _ => ⟨b, 0, rfl, h.lt, fun j x hj => ?_⟩⟩
  match j with
  | 0 => cases hj; exact cells2 h
  | j + 1 => simp at hj
theorem LRow.two {w : World} {b : Nat} {t : TypeId} {f d f' d' : ByteArray} (h : Blk w b t #[.string f, .string d, .string f', .string d']) : LRow w (.slice (some ⟨b, 0, none⟩) 2 2) [(f, d), (f', d')] := by
  refine ⟨_, _, rfl, by simp, fun _ => ⟨b, 0, rfl, h.lt, fun j x hj => ?_⟩⟩
  match j with
  | 0 => cases hj; exact ⟨(cellrow h 0 (by simp)).1, (cellrow h 1 (by simp)).1⟩
  | 1 => cases hj; exact ⟨(cellrow h 2 (by simp)).1, (cellrow h 3 (by simp)).1⟩
  | j + 2 => simp at hj
/-- The first error of some losses. -/
def firstL : List L2 → Nat
  | [] => 0
  | x :: l => if errL x.1 x.2 ≠ 0 then errL x.1 x.2 else firstL l
theorem firstL_zero {ls : List L2} : firstL ls = 0 ↔ ∀ x ∈ ls, errL x.1 x.2 = 0 := by
  induction ls with
  | nil => simp [firstL]
  | cons a l ih =>
    unfold firstL
    by_cases h : errL a.1 a.2 = 0
    · rw [if_neg (by omega), ih]; simp [h]
    · rw [if_pos h]; simp [h]
theorem firstL_at : ∀ {ls : List L2} {k : Nat} {x : L2}, (∀ j y, j < k → ls[j]? = some y → errL y.1 y.2 = 0) → ls[k]? = some x → errL x.1 x.2 ≠ 0 → firstL ls = errL x.1 x.2
  | [], _, _, _, h, _ => by simp at h
  | a :: l, 0, x, _, h, hn => by
    cases h
    unfold firstL
    rw [if_pos hn]
  | a :: l, k + 1, x, h0, h, hn => by
    unfold firstL
    rw [if_neg (by have := h0 0 a (by omega) rfl; omega)]
    exact firstL_at (fun j y hj hy => h0 (j + 1) y (by omega) hy) h hn
/-- What a computation without a result comes to. -/
def endV (n : Nat) : Ending := if n = 0 then .returned (.tuple #[]) else .panicked (pan n)
theorem endV_ok : endV 0 = .returned (.tuple #[]) := rfl
theorem endV_no {n : Nat} (h : n ≠ 0) : endV n = .panicked (pan n) := if_neg h
/-- Losses of short texts. -/
def Short (ls : List L2) : Prop := ∀ x ∈ ls, x.1.size ≤ 270000 ∧ x.2.size ≤ 270000
set_option maxRecDepth 100000 in
set_option maxHeartbeats 4000000 in
theorem valid_run (ls : List L2) (v : Value) (w : World) (hv : LRow w v ls) (hs : Short ls) (hr : Res w) :
    Calls Tryz.prog 73 #[v] w fun e w' => e = endV (firstL ls) ∧ Below w.heap.size w w' := by
  obtain ⟨A, c, rfl, hl, hc⟩ := id hv
  have HV := Lib.hid hv
  have HR := Lib.hid hr
  have HC := Lib.hid hc
  clear hv hr hc
  go_enter Tryz.func73, Tryz.ntmps73
  go_wp2
  go_loopw [6] (fun v6 wr => ∃ k : Nat, k ≤ ls.length ∧ v6 = .int .i64 (k : Int) ∧ Hid (∀ j y, j < k → ls[j]? = some y → errL y.1 y.2 = 0) ∧ Hid (Below w.heap.size w wr)) (fun v6 _ => ls.length - (intOf v6).toNat)
  case atStart => exact ⟨0, Nat.zero_le _, rfl, Lib.hid (fun j y h => absurd h (by omega)), Lib.hid (Below.refl _ _)⟩
  case round =>
    obtain ⟨k, hk, rfl, HE, HB⟩ := hrel
    by_cases hlt : k < ls.length
    · obtain ⟨b, o, rfl, hbw, hcell⟩ := HC.out (by omega)
      obtain ⟨x, hx⟩ : ∃ x, ls[k]? = some x := ⟨_, List.getElem?_eq_getElem hlt⟩
      obtain ⟨c0, c1⟩ := hcell k x hx
      rw [← HB.out.cell (p := ⟨b, o + k * 2, none⟩) hbw] at c0
      rw [← HB.out.cell (p := ⟨b, o + k * 2 + 1, none⟩) hbw] at c1
      have hlt' : (k : Int) < (ls.length : Int) := by omega
      have hb2 : b < wr.heap.size := Nat.lt_of_lt_of_le hbw HB.out.size
      obtain ⟨f, d⟩ := x
      have hsx := hs _ (List.mem_of_getElem? hx)
      have HX := Lib.hid (And.intro hx (And.intro hsx (And.intro hlt hlt')))
      dsimp only at c0 c1
      by_cases he : errL f d = 0
      · have HEE := Lib.hid he
        clear he hbw hcell hs hsx hlt hx
        go_wp2_with (first
          | (go_at_call 25; refine (lcheck_any f d _ HX.out.2.1.1 HX.out.2.1.2 (HR.out.below (below_alloc HB.out _))).mono ?_; rintro e w1 ⟨rfl, hb⟩; rw [HEE.out]; have HB1 := Lib.hid ((below_alloc HB.out (.cells #[.string f, .string d] 24)).trans (hb.mono (below_alloc HB.out (.cells #[.string f, .string d] 24)).size)); clear hb)
          | (go_at_call 80; refine (mustI_ok _ _).mono ?_; rintro e w2 ⟨rfl, hw⟩; subst hw))
        go_roundw
        case rel => exact ⟨k + 1, HX.out.2.2.1, by go_num, Lib.hid (fun j y hj hy => by
          rcases Nat.lt_or_ge j k with h | h
          · exact HE.out j y h hy
          · obtain rfl : j = k := by omega
            rw [HX.out.1] at hy
            cases hy
            exact HEE.out), HB1⟩
        case measure => have := HX.out.2.2.1; simp [intOf]; omega
      · have HF := Lib.hid (firstL_at HE.out hx he)
        obtain ⟨n, hn⟩ : ∃ n, errL f d = n := ⟨_, rfl⟩
        dsimp only at HF
        rw [hn] at he HF
        have HEE := Lib.hid (And.intro he hn)
        clear he hn hbw hcell hs hsx hlt hx
        go_wp2_with (first
          | (go_at_call 25; refine (lcheck_any f d _ HX.out.2.1.1 HX.out.2.1.2 (HR.out.below (below_alloc HB.out _))).mono ?_; rintro e w1 ⟨rfl, hb⟩; rw [HEE.out.2]; have HB1 := Lib.hid ((below_alloc HB.out (.cells #[.string f, .string d] 24)).trans (hb.mono (below_alloc HB.out (.cells #[.string f, .string d] 24)).size)); clear hb)
          | (go_at_call 80; refine (mustI_no _ _ _ HEE.out.1).mono ?_; rintro e w2 ⟨rfl, hw⟩; subst hw))
        refine ⟨rfl, ?_, HB1.out⟩
        rw [HF.out, endV_no HEE.out.1]
    · have HF := Lib.hid (firstL_zero.2 (fun x hx => by
        obtain ⟨j, hj⟩ := List.getElem?_of_mem hx
        have := (List.getElem?_eq_some_iff.1 hj).1
        exact HE.out j x (by omega) hj))
      have hlt' : ¬ (k : Int) < (ls.length : Int) := by omega
      obtain rfl : k = ls.length := by omega
      clear hlt
      go_wp2
      rw [HF.out]
      go_end0
      exact ⟨rfl, HB.out⟩
end Go.Proofs.YtbfhonhjejeaiaaGreatDoor
namespace Go.Proofs.YtbfhonhjejeaiaaGreatDoor
open Go.RowKit Go.Shelf
open Lim

theorem out_O {r : Rat} (h : fits r = false) : resN (outQ r) = .tuple #[.string ⟨#[]⟩, .int .i64 5] := by
  rw [out_ovr, ovr_no h]; rfl
section
variable {a b : ByteArray} {p q : Rat} (w : World)
theorem addO (ha : IsT a p) (hb : IsT b q) (hf : fits (p + q) = false) (hr : Res w) :
    Calls Tryz.prog 77 #[.string a, .string b] w fun e w' => e = .returned (.tuple #[.string ⟨#[]⟩, .int .i64 5]) ∧ Below w.heap.size w w' := by
  refine (ratAdd_any a b w ha.size hb.size hr).mono ?_
  rintro e w' ⟨rfl, h⟩
  rw [two_T ha hb, out_O hf]
  exact ⟨rfl, h⟩
theorem mulO (ha : IsT a p) (hb : IsT b q) (hf : fits (p * q) = false) (hr : Res w) :
    Calls Tryz.prog 78 #[.string a, .string b] w fun e w' => e = .returned (.tuple #[.string ⟨#[]⟩, .int .i64 5]) ∧ Below w.heap.size w w' := by
  refine (ratMul_any a b w ha.size hb.size hr).mono ?_
  rintro e w' ⟨rfl, h⟩
  rw [two_T ha hb, out_O hf]
  exact ⟨rfl, h⟩
end
end Go.Proofs.YtbfhonhjejeaiaaGreatDoor
namespace Go.Proofs.YtbfhonhjejeaiaaGreatDoor
open Go.RowKit Go.Shelf
open Lim

theorem lsize : (Tryz.prog.info? 24).map (·.size) = some 2 := by kernel_rfl
theorem bsize : (Tryz.prog.info? 96).map (·.size) = some 2 := by kernel_rfl
theorem run_errno {W : World} {e : Nat} {n : Int} (h : Blk W e 27 #[.int .i64 n]) : (loadVar 27 ⟨e, 0, none⟩).run Tryz.prog W = .ok (.int .i64 n) W := by
  have hc := cell0 h
  simp [go_sem, hc]
theorem load_loss {W : World} {g : Nat} {t : TypeId} {u v : Value} (h : Blk W g t #[u, v]) : (loadVar 24 ⟨g, 0, none⟩).run Tryz.prog W = .ok (.agg #[u, v]) W :=
  run_loadVar_row W g t 24 #[u, v] (0, 0) _ h Tryz.underlying24 rfl lsize
theorem load_bound {W : World} {g : Nat} {t : TypeId} {u v : Value} (h : Blk W g t #[u, v]) : (loadVar 96 ⟨g, 0, none⟩).run Tryz.prog W = .ok (.agg #[u, v]) W :=
  run_loadVar_row W g t 96 #[u, v] (0, 0) _ h Tryz.underlying96 rfl bsize
section
variable {fn : Func} {p q u : Tmp} {tmps : Array Value} {W : World} {g e : Nat} {T : TypeId} {x : Value} {n : Int}
theorem run_cell (h : fn.results = #[.cell p T]) (hp : tmps.getD p undef = .pointer (some ⟨g, 0, none⟩)) (hg : (loadVar T ⟨g, 0, none⟩).run Tryz.prog W = .ok x W) : (results fn tmps).run Tryz.prog W = .ok x W := by
  have hp' : tmps[p]?.getD undef = .pointer (some ⟨g, 0, none⟩) := by simpa using hp
  simp only [results, h]
  simp [hp', asAddr, hg]
theorem run_cell_tmp (h : fn.results = #[.cell p T, .tmp u]) (hp : tmps.getD p undef = .pointer (some ⟨g, 0, none⟩)) (hg : (loadVar T ⟨g, 0, none⟩).run Tryz.prog W = .ok x W) :
    (results fn tmps).run Tryz.prog W = .ok (.tuple #[x, tmps.getD u undef]) W := by
  rw [results_cell_tmp h, hp]
  simp only [asAddr, Sem.run_pure, Result.andThen_ok]
  rw [hg]
  rfl
theorem run_cell_errno (h : fn.results = #[.cell p T, .cell q 27]) (hp : tmps.getD p undef = .pointer (some ⟨g, 0, none⟩)) (hg : (loadVar T ⟨g, 0, none⟩).run Tryz.prog W = .ok x W)
    (hq : tmps.getD q undef = .pointer (some ⟨e, 0, none⟩)) (he : Blk W e 27 #[.int .i64 n]) :
    (results fn tmps).run Tryz.prog W = .ok (.tuple #[x, .int .i64 n]) W := by
  have h2 := run_errno he
  have hp' : tmps[p]?.getD undef = .pointer (some ⟨g, 0, none⟩) := by simpa using hp
  have hq' : tmps[q]?.getD undef = .pointer (some ⟨e, 0, none⟩) := by simpa using hq
  simp only [results, h]
  simp [Sem.run_bind, Result.andThen, hp', hq', asAddr, hg, h2]
theorem run_tmp_errno (h : fn.results = #[.tmp u, .cell q 27]) (hu : tmps.getD u undef = x) (hq : tmps.getD q undef = .pointer (some ⟨e, 0, none⟩)) (he : Blk W e 27 #[.int .i64 n]) :
    (results fn tmps).run Tryz.prog W = .ok (.tuple #[x, .int .i64 n]) W := by
  have h2 := run_errno he
  have hq' : tmps[q]?.getD undef = .pointer (some ⟨e, 0, none⟩) := by simpa using hq
  have hu' : tmps[u]?.getD undef = x := by simpa using hu
  simp only [results, h]
  simp [Result.andThen, hq', hu', asAddr, h2]
end
end Go.Proofs.YtbfhonhjejeaiaaGreatDoor
namespace Go.Proofs.YtbfhonhjejeaiaaGreatDoor
open Go.RowKit Go.Shelf
open Lim

/-- What a computation of a loss comes to. -/
def endL : Except Nat LQ → Ending
  | .ok l => .returned (lossT l)
  | .error n => .panicked (pan n)
theorem five : (5 : Nat) ≠ 0 := by decide
set_option maxRecDepth 100000 in
set_option maxHeartbeats 1000000 in
theorem limited_any {f d : ByteArray} {D : Rat} (w : World) (hd : IsT d D) (hr : Res w) :
    Calls Tryz.prog 79 #[.string f, .string d] w fun e w' => e = .returned (.agg #[.string f, .string (rT (minQ D 1))]) ∧ Below w.heap.size w w' := by
  have HX := Lib.hid (below_alloc (Below.refl w.heap.size w) (.cells #[.string ⟨#[]⟩, .string ⟨#[]⟩] 96))
  have HK := Lib.hid (Blk.new w 96 #[.string ⟨#[]⟩, .string ⟨#[]⟩])
  have HM := Lib.hid (minT (w.alloc (.cells #[.string ⟨#[]⟩, .string ⟨#[]⟩] 96)) hd IsT.one (rT_min hd IsT.one).symm (hr.below HX.out))
  generalize rT (minQ D 1) = m at HM ⊢
  clear hd hr
  go_enter Tryz.func79, Tryz.ntmps79
  go_wp2_with (first
    | (go_at_call 107; refine HM.out.mono ?_; rintro e w1 ⟨rfl, hb⟩; have HB := Lib.hid (HX.out.trans (hb.mono HX.out.size)); have HK1 := Lib.hid (HK.out.below hb HK.out.lt); obtain ⟨p0, p1⟩ := cells2 HK1.out; have z0 := HK1.out.frozen 0; have z1 := HK1.out.frozen 1; clear hb)
    | (go_at_call 76; refine (mustN_ok _ _).mono ?_; rintro e w2 ⟨rfl, hw⟩; subst hw))
  refine bodyPost_ret (run_cell rfl rfl (load_bound ((HK1.out.set_ 0 (.string f)).set_ 1 (.string m)))) rfl ⟨rfl, (HB.out.setCell (Nat.le_refl _) _).setCell (Nat.le_refl _) _⟩
/-! ### plus -/
/-- Three new blocks, and what lay there ahead. -/
structure At3 (w : World) (t1 t2 t3 : TypeId) (c1 c2 c3 : Array Value) (W : World) : Prop where
  a : Blk W w.heap.size t1 c1
  b : Blk W (w.heap.size + 1) t2 c2
  c : Blk W (w.heap.size + 1 + 1) t3 c3
  res : Res W
  below : Below w.heap.size w W
theorem At3.later {w W W' : World} {t1 t2 t3 : TypeId} {c1 c2 c3 : Array Value} (h : At3 w t1 t2 t3 c1 c2 c3 W) (hb : Below W.heap.size W W') : At3 w t1 t2 t3 c1 c2 c3 W' :=
  ⟨h.a.below hb h.a.lt, h.b.below hb h.b.lt, h.c.below hb h.c.lt, h.res.below hb, h.below.trans (hb.mono h.below.size)⟩
theorem At3.new (w : World) (t1 t2 t3 : TypeId) (c1 c2 c3 : Array Value) (hr : Res w) : At3 w t1 t2 t3 c1 c2 c3 (((w.alloc (.cells c1 t1)).alloc (.cells c2 t2)).alloc (.cells c3 t3)) := by
  have b1 := below_alloc (Below.refl w.heap.size w) (.cells c1 t1)
  have b2 := below_alloc b1 (.cells c2 t2)
  have b3 := below_alloc b2 (.cells c3 t3)
  have k1 := Blk.new w t1 c1
  have k2 := Blk.new (w.alloc (.cells c1 t1)) t2 c2
  have k3 := Blk.new ((w.alloc (.cells c1 t1)).alloc (.cells c2 t2)) t3 c3
  have e1 : (w.alloc (.cells c1 t1)).heap.size = w.heap.size + 1 := by simp
  have e2 : ((w.alloc (.cells c1 t1)).alloc (.cells c2 t2)).heap.size = w.heap.size + 1 + 1 := by simp
  rw [e1] at k2
  rw [e2] at k3
  exact ⟨(k1.alloc _).alloc _, k2.alloc _, k3, hr.below b3, b3⟩
theorem le2 (n : Nat) : n ≤ n + 1 + 1 := Nat.le_trans (Nat.le_succ n) (Nat.le_succ _)
set_option maxRecDepth 100000 in
set_option maxHeartbeats 2000000 in
theorem plus_ok {f d f' d' : ByteArray} {a b : LQ} (w : World) (ha : LossIs f d a) (hb : LossIs f' d' b) (h1 : fits (a.1 * b.1) = true) (h2 : fits (a.2 + b.2) = true) (hr : Res w) :
    Calls Tryz.prog 66 #[.agg #[.string f, .string d], .agg #[.string f', .string d']] w fun e w' => e = .returned (.agg #[.string (rT (a.1 * b.1)), .string (rT (minQ (a.2 + b.2) 1))]) ∧ Below w.heap.size w w' := by
  have H := Lib.hid (At3.new w 96 96 96 #[.string f, .string d] #[.string f', .string d'] #[.string ⟨#[]⟩, .string ⟨#[]⟩] hr)
  have HM := Lib.hid (fun w hr => mulT w ha.f hb.f (isT_rT h1) hr)
  have HA := Lib.hid (fun w hr => addT w ha.d hb.d (isT_rT h2) hr)
  have HL := Lib.hid (fun (w : World) hr => limited_any (f := rT (a.1 * b.1)) w (isT_rT h2) hr)
  generalize rT (a.1 * b.1) = m at *
  generalize rT (a.2 + b.2) = s at *
  generalize rT (minQ (a.2 + b.2) 1) = l at *
  have TK1 : True := trivial
  clear ha hb h1 h2 hr
  go_enter Tryz.func66, Tryz.ntmps66
  go_wp2_with (first
    | (go_at_call 78; refine (HM.out _ H.out.res).mono ?_; rintro e w1 ⟨rfl, hb⟩; have H1 := Lib.hid (H.out.later hb); obtain ⟨-, p1⟩ := cells2 H1.out.a; obtain ⟨-, q1⟩ := cells2 H1.out.b; clear hb)
    | (clear TK1; go_at_call 76; refine (mustN_ok _ _).mono ?_; rintro e w2 ⟨rfl, hw⟩; subst hw)
    | (go_at_call 77; refine (HA.out _ H1.out.res).mono ?_; rintro e w3 ⟨rfl, hb⟩; have H3 := Lib.hid (H1.out.later hb); clear hb)
    | (go_at_call 76; refine (mustN_ok _ _).mono ?_; rintro e w4 ⟨rfl, hw⟩; subst hw)
    | (go_at_call 79; refine (HL.out _ H3.out.res).mono ?_; rintro e w5 ⟨rfl, hb⟩; have H5 := Lib.hid (H3.out.later hb); obtain ⟨r5, s5⟩ := cells2 H5.out.c; have y5 := H5.out.c.frozen 0; have z5 := H5.out.c.frozen 1; clear hb))
  refine bodyPost_ret (run_cell rfl rfl (load_bound ((H5.out.c.set_ 0 (.string m)).set_ 1 (.string l)))) rfl ⟨rfl, (H5.out.below.setCell (le2 _) _).setCell (le2 _) _⟩
set_option maxRecDepth 100000 in
set_option maxHeartbeats 2000000 in
theorem plus_no2 {f d f' d' : ByteArray} {a b : LQ} (w : World) (ha : LossIs f d a) (hb : LossIs f' d' b) (h1 : fits (a.1 * b.1) = true) (h2 : fits (a.2 + b.2) = false) (hr : Res w) :
    Calls Tryz.prog 66 #[.agg #[.string f, .string d], .agg #[.string f', .string d']] w fun e w' => e = .panicked (pan 5) ∧ Below w.heap.size w w' := by
  have H := Lib.hid (At3.new w 96 96 96 #[.string f, .string d] #[.string f', .string d'] #[.string ⟨#[]⟩, .string ⟨#[]⟩] hr)
  have HM := Lib.hid (fun w hr => mulT w ha.f hb.f (isT_rT h1) hr)
  have HA := Lib.hid (fun w hr => addO w ha.d hb.d h2 hr)
  generalize rT (a.1 * b.1) = m at *
  have TK1 : True := trivial
  clear ha hb h1 h2 hr
  go_enter Tryz.func66, Tryz.ntmps66
  go_wp2_with (first
    | (go_at_call 78; refine (HM.out _ H.out.res).mono ?_; rintro e w1 ⟨rfl, hb⟩; have H1 := Lib.hid (H.out.later hb); obtain ⟨-, p1⟩ := cells2 H1.out.a; obtain ⟨-, q1⟩ := cells2 H1.out.b; clear hb)
    | (clear TK1; go_at_call 76; refine (mustN_ok _ _).mono ?_; rintro e w2 ⟨rfl, hw⟩; subst hw)
    | (go_at_call 77; refine (HA.out _ H1.out.res).mono ?_; rintro e w3 ⟨rfl, hb⟩; have H3 := Lib.hid (H1.out.later hb); clear hb)
    | (go_at_call 76; refine (mustN_no _ 5 _ five).mono ?_; rintro e w4 ⟨rfl, hw⟩; subst hw))
  exact ⟨rfl, rfl, H3.out.below⟩
set_option maxRecDepth 100000 in
set_option maxHeartbeats 2000000 in
theorem plus_no1 {f d f' d' : ByteArray} {a b : LQ} (w : World) (ha : LossIs f d a) (hb : LossIs f' d' b) (h1 : fits (a.1 * b.1) = false) (hr : Res w) :
    Calls Tryz.prog 66 #[.agg #[.string f, .string d], .agg #[.string f', .string d']] w fun e w' => e = .panicked (pan 5) ∧ Below w.heap.size w w' := by
  have H := Lib.hid (At3.new w 96 96 96 #[.string f, .string d] #[.string f', .string d'] #[.string ⟨#[]⟩, .string ⟨#[]⟩] hr)
  have HM := Lib.hid (fun w hr => mulO w ha.f hb.f h1 hr)
  have TK1 : True := trivial
  clear ha hb h1 hr
  go_enter Tryz.func66, Tryz.ntmps66
  go_wp2_with (first
    | (go_at_call 78; refine (HM.out _ H.out.res).mono ?_; rintro e w1 ⟨rfl, hb⟩; have H1 := Lib.hid (H.out.later hb); obtain ⟨-, p1⟩ := cells2 H1.out.a; obtain ⟨-, q1⟩ := cells2 H1.out.b; clear hb)
    | (go_at_call 76; refine (mustN_no _ 5 _ five).mono ?_; rintro e w2 ⟨rfl, hw⟩; subst hw))
  exact ⟨rfl, rfl, H1.out.below⟩
theorem plus_any {f d f' d' : ByteArray} {a b : LQ} (w : World) (ha : LossIs f d a) (hb : LossIs f' d' b) (hr : Res w) :
    Calls Tryz.prog 66 #[.agg #[.string f, .string d], .agg #[.string f', .string d']] w fun e w' => e = endL (plusL a b) ∧ Below w.heap.size w w' := by
  cases h1 : fits (a.1 * b.1)
  · rw [plusL_no1 h1]; exact plus_no1 w ha hb h1 hr
  cases h2 : fits (a.2 + b.2)
  · rw [plusL_no2 h1 h2]; exact plus_no2 w ha hb h1 h2 hr
  rw [plusL_ok h1 h2]
  exact plus_ok w ha hb h1 h2 hr
end Go.Proofs.YtbfhonhjejeaiaaGreatDoor
namespace Go.Proofs.YtbfhonhjejeaiaaGreatDoor
open Go.RowKit Go.Shelf
open Lim

theorem same_two {W : World} {S : Nat → Prop} {b : Nat} {t : TypeId} {u v : Value} (h : Blk W b t #[u, v]) (hS : S b) : (∀ x : SameAt W S, x.W.cell? ⟨b, 0, none⟩ = some u) ∧ ∀ x : SameAt W S, x.W.cell? ⟨b, 1, none⟩ = some v :=
  ⟨fun x => x.cell hS (cells2 h).1, fun x => x.cell hS (cells2 h).2⟩
theorem set2_heap {w : World} {b k : Nat} {u v : Value} (h : k ≠ b) : ((w.setCell ⟨b, 0, none⟩ u).setCell ⟨b, 1, none⟩ v).heap[k]? = w.heap[k]? :=
  (Below.heap_setCell _ ⟨b, 1, none⟩ _ _ h).trans (Below.heap_setCell _ ⟨b, 0, none⟩ _ _ h)
set_option maxRecDepth 100000 in
set_option maxHeartbeats 4000000 in
theorem above_any {f d f' d' : ByteArray} {a b : LQ} (w : World) (ha : LossIs f d a) (hb : LossIs f' d' b) (hr : Res w) :
    Calls Tryz.prog 70 #[.agg #[.string f, .string d], .agg #[.string f', .string d']] w fun e w' => e = .returned (lossT (aboveL a b)) ∧ Below w.heap.size w w' := by
  have H := At3.new w 96 96 96 #[.string f, .string d] #[.string f', .string d'] #[.string ⟨#[]⟩, .string ⟨#[]⟩] hr
  have HF := Lib.hid (fun w hr => maxT w ha.f hb.f (rT_max ha.f hb.f).symm hr)
  have HD := Lib.hid (fun w hr => maxT w ha.d hb.d (rT_max ha.d hb.d).symm hr)
  unfold lossT aboveL
  dsimp only
  generalize rT (maxQ a.1 b.1) = m at HF ⊢
  generalize rT (maxQ a.2 b.2) = s at HD ⊢
  clear ha hb hr
  refine (callsIn_wide (n := 3)).1 ?_
  have h1 : 1 ≤ 3 := by omega
  have hmx : Tryz.prog.follows .mixedOrders = true := by kernel_rfl
  refine callsIn_of_wp Tryz.func70 rfl trivial ?_ rfl
  simp only [Tryz.ntmps70, List.size_toArray, List.length_cons, List.length_nil, Nat.reduceAdd, Nat.reduceSub, Array.replicate_succ, Array.replicate_zero, List.push_toArray, List.append_toArray, List.nil_append, List.cons_append]
  gi_upto_region 1 with fail
  generalize ((w.alloc (.cells #[.string f, .string d] 96)).alloc (.cells #[.string f', .string d'] 96)).alloc (.cells #[.string ⟨#[]⟩, .string ⟨#[]⟩] 96) = W at *
  have hla := H.a.lt
  have hlb := H.b.lt
  have hlc := H.c.lt
  obtain ⟨x0, x1⟩ := same_two (S := fun k => k < W.heap.size ∧ k ≠ w.heap.size + 1 + 1) H.a ⟨hla, by omega⟩
  obtain ⟨y0, y1⟩ := same_two (S := fun k => k < W.heap.size ∧ k ≠ w.heap.size + 1 + 1) H.b ⟨hlb, by omega⟩
  have HH := Lib.hid H
  clear H hla hlb hlc
  have HR := Lib.hid (HH.out.res.below (below_drew (Below.refl W.heap.size W)))
  refine wpIn_stage (IsSame W (fun k => k < W.heap.size ∧ k ≠ w.heap.size + 1 + 1)) [0, 1, 2, 3, 4, 5, 7, 8, 10, 11, 12, 13, 14, 15, 17, 18, 20, 21] [] hmx (by kernel_rfl) (isSame_of fun _ _ => rfl) ?_
  change wpStage _ _ _ _ _ _ _ _ (11 + 12) _ _ _
  refine stage_reads [0, 1, 2, 3, 4, 5, 10, 11, 12, 13, 14, 15] 11 _ _ (by kernel_rfl) ?_
  change wpQuietIn _ _ _ _ (fun W' => ∃ x : SameAt W (fun k => k < W.heap.size ∧ k ≠ w.heap.size + 1 + 1), W' = x.W) _ _ _
  simp only [pick_cons, pick_nil, List.getElem?_cons_zero, List.getElem?_cons_succ, Option.elim_some]
  repeat (gi_big_quiet_step (fail))
  refine wpQuietIn_nil ?_
  refine stage_one 6 (by kernel_rfl) rfl ?_
  gi_wp2
  refine ⟨trivial, ?_⟩
  refine (callsIn_wide.2 (HF.out _ HR.out)).mono ?_
  rintro e w1 ⟨rfl, hb⟩
  have HB1 := Lib.hid (show Below W.heap.size W w1 from below_undrew hb)
  clear hb
  gi_wp2
  refine stage_post (isSame_below HB1.out (fun k hk => hk.1)) ?_
  change wpStage _ _ _ _ _ _ _ _ (8 + 2) _ _ _
  refine stage_reads [7, 8] 8 _ _ (by kernel_rfl) ?_
  change wpQuietIn _ _ _ _ (fun W' => ∃ x : SameAt W (fun k => k < W.heap.size ∧ k ≠ w.heap.size + 1 + 1), W' = x.W) _ _ _
  simp only [pick_cons, pick_nil, List.getElem?_cons_zero, List.getElem?_cons_succ, Option.elim_some]
  repeat (gi_big_quiet_step (fail))
  refine wpQuietIn_nil ?_
  refine stage_one 9 (by kernel_rfl) rfl ?_
  gi_wp2
  refine ⟨trivial, ?_⟩
  refine (callsIn_wide.2 (mustN_ok _ _)).mono ?_
  rintro e w2 ⟨rfl, hw2⟩
  subst hw2
  gi_wp2
  refine stage_post (isSame_below HB1.out (fun k hk => hk.1)) ?_
  refine stage_one 16 (by kernel_rfl) rfl ?_
  gi_wp2
  refine ⟨trivial, ?_⟩
  refine (callsIn_wide.2 (HD.out _ (HH.out.res.below HB1.out))).mono ?_
  rintro e w3 ⟨rfl, hb⟩
  have HB3 := Lib.hid (HB1.out.trans (hb.mono HB1.out.size))
  clear hb
  gi_wp2
  refine stage_post (isSame_below HB3.out (fun k hk => hk.1)) ?_
  change wpStage _ _ _ _ _ _ _ _ (4 + 2) _ _ _
  refine stage_reads [17, 18] 4 _ _ (by kernel_rfl) ?_
  change wpQuietIn _ _ _ _ (fun W' => ∃ x : SameAt W (fun k => k < W.heap.size ∧ k ≠ w.heap.size + 1 + 1), W' = x.W) _ _ _
  simp only [pick_cons, pick_nil, List.getElem?_cons_zero, List.getElem?_cons_succ, Option.elim_some]
  repeat (gi_big_quiet_step (fail))
  refine wpQuietIn_nil ?_
  refine stage_one 19 (by kernel_rfl) rfl ?_
  gi_wp2
  refine ⟨trivial, ?_⟩
  refine (callsIn_wide.2 (mustN_ok _ _)).mono ?_
  rintro e w4 ⟨rfl, hw4⟩
  subst hw4
  gi_wp2
  refine stage_post (isSame_below HB3.out (fun k hk => hk.1)) ?_
  change wpStage _ _ _ _ _ _ _ _ (1 + 2) _ _ _
  refine stage_reads [20, 21] 1 _ _ (by kernel_rfl) ?_
  change wpQuietIn _ _ _ _ (fun W' => ∃ x : SameAt W (fun k => k < W.heap.size ∧ k ≠ w.heap.size + 1 + 1), W' = x.W) _ _ _
  simp only [pick_cons, pick_nil, List.getElem?_cons_zero, List.getElem?_cons_succ, Option.elim_some]
  repeat (gi_big_quiet_step (fail))
  refine wpQuietIn_nil ?_
  have HC := Lib.hid (HH.out.c.below HB3.out HH.out.c.lt)
  obtain ⟨r0, r1⟩ := cells2 HC.out
  have z0 := HC.out.frozen 0
  have z1 := HC.out.frozen 1
  refine stage_one 22 (by kernel_rfl) rfl ?_
  gi_wp2
  refine stage_post (isSame_of fun k hk => (set2_heap hk.2).trans (HB3.out.block k hk.1)) ?_
  refine stage_done (by kernel_rfl) ?_
  gi_wp2
  refine bodyPost_ret (run_cell rfl rfl (load_bound ((HC.out.set_ 0 (.string m)).set_ 1 (.string s)))) rfl ⟨rfl, ?_⟩
  exact ((HH.out.below.trans (HB3.out.mono HH.out.below.size)).setCell (le2 _) _).setCell (le2 _) _
end Go.Proofs.YtbfhonhjejeaiaaGreatDoor
namespace Go.Proofs.YtbfhonhjejeaiaaGreatDoor
open Go.RowKit Go.Shelf
open Lim

def sumL (a b : LQ) : LQ := (a.1 * b.1, minQ (a.2 + b.2) 1)
theorem sumL_comm (a b : LQ) : sumL a b = sumL b a := by
  unfold sumL; rw [Rat.mul_comm, Rat.add_comm]
theorem min_assoc {x y z : Rat} (hx : 0 ≤ x) (hz : 0 ≤ z) : minQ (minQ (x + y) 1 + z) 1 = minQ (x + minQ (y + z) 1) 1 := by
  rw [minQ_eq (x + y) 1, minQ_eq (y + z) 1, minQ_eq, minQ_eq]
  split <;> split <;> split <;> split <;> grind
theorem sumL_assoc {a b c : LQ} (ha : 0 ≤ a.2) (hc : 0 ≤ c.2) : sumL (sumL a b) c = sumL a (sumL b c) := by
  unfold sumL
  rw [Rat.mul_assoc, min_assoc ha hc]
theorem sumL_none {a : LQ} (ha : a.2 ≤ 1) : sumL a noneL = a := by
  unfold sumL noneL
  dsimp only
  rw [Rat.mul_one, Rat.add_zero, min_top ha]
theorem fitsL_iff {a b : LQ} : fitsL a b = true ↔ a.1 ≤ b.1 ∧ a.2 ≤ b.2 := by
  unfold fitsL
  rw [Bool.and_eq_true, decide_eq_true_iff, decide_eq_true_iff, cmpQ_le, cmpQ_le]
theorem sumL_mono {a b c : LQ} (hc : 1 ≤ c.1) (h : fitsL a b = true) : fitsL (sumL a c) (sumL b c) = true := by
  rw [fitsL_iff] at h ⊢
  unfold sumL
  dsimp only
  refine ⟨Rat.mul_le_mul_of_nonneg_right h.1 (by grind), ?_⟩
  rw [minQ_eq, minQ_eq]
  split <;> split <;> grind
theorem above_left (a b : LQ) : fitsL a (aboveL a b) = true := by
  rw [fitsL_iff]; exact ⟨(le_maxQ _ _).1, (le_maxQ _ _).1⟩
theorem above_right (a b : LQ) : fitsL b (aboveL a b) = true := by
  rw [fitsL_iff]; exact ⟨(le_maxQ _ _).2, (le_maxQ _ _).2⟩
theorem above_iff (a b c : LQ) : fitsL (aboveL a b) c = (fitsL a c && fitsL b c) := by
  rw [Bool.eq_iff_iff, Bool.and_eq_true, fitsL_iff, fitsL_iff, fitsL_iff]
  unfold aboveL
  dsimp only
  rw [maxQ_le, maxQ_le]
  grind
/-- A loss whose numbers have few digits. -/
def SzL (k : Nat) (l : LQ) : Prop := Sz k l.1 ∧ Sz k l.2
theorem SzL.mono {j k : Nat} {l : LQ} (h : SzL j l) (hk : j ≤ k) : SzL k l := ⟨h.1.mono hk, h.2.mono hk⟩
theorem szL_sum {j k : Nat} {a b : LQ} (ha : SzL j a) (hb : SzL k b) : SzL (j + k + 1) (sumL a b) :=
  ⟨(ha.1.mul hb.1).mono (by omega), by
    have h := ha.2.add hb.2
    unfold sumL minQ
    dsimp only
    split
    · exact Sz.one.mono (by omega)
    · exact h⟩
theorem plusL_sum {j k : Nat} {a b : LQ} (ha : SzL j a) (hb : SzL k b) (h : j + k + 1 ≤ maxD) : plusL a b = .ok (sumL a b) :=
  plusL_ok (fits_sz.2 ((ha.1.mul hb.1).mono (by omega))) (fits_sz.2 ((ha.2.add hb.2).mono h))
theorem sumL_ok {j k : Nat} {a b : LQ} (ha : OkL a) (hb : OkL b) (sa : SzL j a) (sb : SzL k b) (h : j + k + 1 ≤ maxD) : OkL (sumL a b) :=
  plusL_okL ha hb (plusL_sum sa sb h)
theorem lossIs_sz {f d : ByteArray} {l : LQ} (h : LossIs f d l) {k : Nat} (hf : f.size ≤ k) (hd : d.size ≤ k) : SzL k l := by
  constructor
  · rw [← h.f.val]; exact sz_of_text h.f.err (by rw [size_list] at hf; exact hf)
  · rw [← h.d.val]; exact sz_of_text h.d.err (by rw [size_list] at hd; exact hd)
end Go.Proofs.YtbfhonhjejeaiaaGreatDoor
namespace Go.Proofs.YtbfhonhjejeaiaaGreatDoor
open Go.RowKit Go.Shelf
open Lim

/-- Losses combined in their order. -/
def foldE (op : LQ → LQ → Except Nat LQ) : LQ → List LQ → Except Nat LQ
  | a, [] => .ok a
  | a, x :: l => match op a x with
    | .error n => .error n
    | .ok b => foldE op b l
def valL (x : L2) : LQ := (valQ x.1.data.toList, valQ x.2.data.toList)
theorem foldE_at {op : LQ → LQ → Except Nat LQ} : ∀ {l : List LQ} {k : Nat} {a b x : LQ}, foldE op a (l.take k) = .ok b → l[k]? = some x → foldE op a (l.take (k + 1)) = op b x
  | [], _, _, _, _, _, h => by simp at h
  | y :: l, 0, a, b, x, h, hx => by
    simp only [List.take_zero, foldE] at h
    cases h
    simp only [List.getElem?_cons_zero, Option.some.injEq] at hx
    subst hx
    simp only [Nat.zero_add, List.take_succ_cons, List.take_zero, foldE]
    cases op a y <;> rfl
  | y :: l, k + 1, a, b, x, h, hx => by
    simp only [List.take_succ_cons, foldE] at h ⊢
    cases hy : op a y with
    | error n => rw [hy] at h; cases h
    | ok c =>
      rw [hy] at h
      dsimp only at h ⊢
      rw [List.getElem?_cons_succ] at hx
      exact foldE_at h hx
theorem foldE_error {op : LQ → LQ → Except Nat LQ} : ∀ {l : List LQ} {k : Nat} {a : LQ} {n : Nat}, foldE op a (l.take k) = .error n → foldE op a l = .error n
  | [], k, a, n, h => by simpa using h
  | y :: l, 0, a, n, h => by simp [foldE] at h
  | y :: l, k + 1, a, n, h => by
    simp only [List.take_succ_cons, foldE] at h ⊢
    cases hy : op a y with
    | error m => rw [hy] at h; exact h
    | ok c => rw [hy] at h; exact foldE_error h
/-- What fold returns. -/
def foldR (op : LQ → LQ → Except Nat LQ) (ls : List L2) : Except Nat LQ := if firstL ls ≠ 0 then .error (firstL ls) else foldE op noneL (ls.map valL)
/-- A combination, as a function of the program. -/
def Combines (F : FuncId) (op : LQ → LQ → Except Nat LQ) : Prop :=
  (∀ {f d f' d' : ByteArray} {a b : LQ} (w : World), LossIs f d a → LossIs f' d' b → Res w →
    Calls Tryz.prog F #[.agg #[.string f, .string d], .agg #[.string f', .string d']] w fun e w' => e = endL (op a b) ∧ Below w.heap.size w w') ∧ (∀ a b l, OkL a → OkL b → op a b = .ok l → OkL l) ∧ ∀ a b n, op a b = .error n → n ≠ 0
theorem plusL_err {a b : LQ} {n : Nat} (h : plusL a b = .error n) : n ≠ 0 := by
  cases h1 : fits (a.1 * b.1)
  · rw [plusL_no1 h1] at h; cases h; decide
  cases h2 : fits (a.2 + b.2)
  · rw [plusL_no2 h1 h2] at h; cases h; decide
  rw [plusL_ok h1 h2] at h; cases h
theorem combines_plus : Combines 66 plusL := ⟨fun w ha hb hr => plus_any w ha hb hr, fun _ _ _ => plusL_okL, fun _ _ _ => plusL_err⟩
theorem combines_above : Combines 70 (fun a b => .ok (aboveL a b)) :=
  ⟨fun w ha hb hr => above_any w ha hb hr, fun _ _ _ ha hb h => by cases h; exact aboveL_ok ha hb, fun _ _ _ h => by cases h⟩
theorem runs_plus : Runs 66 := runs_of Tryz.func66 (by kernel_rfl) (by kernel_rfl)
theorem runs_above : Runs 70 := runs_of Tryz.func70 (by kernel_rfl) (by kernel_rfl)
set_option maxRecDepth 100000 in
theorem none_any (w : World) : Calls Tryz.prog 27 #[] w fun e w' => e = .returned (.agg #[.string ⟨#[49]⟩, .string ⟨#[48]⟩]) ∧ Below w.heap.size w w' := by
  have HX := Lib.hid (below_alloc (Below.refl w.heap.size w) (.cells #[.string ⟨#[]⟩, .string ⟨#[]⟩] 24))
  have HK := Lib.hid (Blk.new w 24 #[.string ⟨#[]⟩, .string ⟨#[]⟩])
  go_enter Tryz.func27, Tryz.ntmps27
  go_wp2
  have hk := (HK.out.set_ 0 (.string ⟨#[49]⟩)).set_ 1 (.string ⟨#[48]⟩)
  first
    | exact bodyPost_ret (run_cell rfl rfl (load_loss hk)) rfl ⟨rfl, (HX.out.setCell (Nat.le_refl _) _).setCell (Nat.le_refl _) _⟩
    | (refine bodyPost_ret (run_cell rfl rfl (load_loss (Blk.new w 24 #[.string ⟨#[49]⟩, .string ⟨#[48]⟩]))) rfl ⟨rfl, below_alloc (Below.refl w.heap.size w) _⟩)
/-- Where fold stands. -/
structure FoldAt (w : World) (g6 : Nat) (acc : LQ) (W : World) : Prop where
  a : Blk W w.heap.size 24 #[.string ⟨#[]⟩, .string ⟨#[]⟩]
  e : Blk W (w.heap.size + 1) 27 #[.int .i64 0]
  s : Blk W g6 96 #[.string (rT acc.1), .string (rT acc.2)]
  far : w.heap.size + 1 < g6
  res : Res W
  below : Below w.heap.size w W
theorem FoldAt.later {w W W' : World} {g6 : Nat} {acc : LQ} (h : FoldAt w g6 acc W) (hb : Below W.heap.size W W') : FoldAt w g6 acc W' :=
  ⟨h.a.below hb h.a.lt, h.e.below hb h.e.lt, h.s.below hb h.s.lt, h.far, h.res.below hb, h.below.trans (hb.mono h.below.size)⟩
theorem Blk.two_set {w : World} {b : Nat} {t : TypeId} {u v x y : Value} (h : Blk w b t #[u, v]) : Blk ((w.setCell ⟨b, 0, none⟩ x).setCell ⟨b, 1, none⟩ y) b t #[x, y] := (h.set_ 0 x).set_ 1 y
theorem Blk.two_far {w : World} {b g : Nat} {t : TypeId} {cs : Array Value} {x y : Value} (h : Blk w g t cs) (hg : g ≠ b) : Blk ((w.setCell ⟨b, 0, none⟩ x).setCell ⟨b, 1, none⟩ y) g t cs :=
  (h.far (p := ⟨b, 0, none⟩) hg x).far (p := ⟨b, 1, none⟩) hg y
/-- Two new blocks, and what lay there ahead. -/
structure At2 (w : World) (t1 t2 : TypeId) (c1 c2 : Array Value) (W : World) : Prop where
  a : Blk W w.heap.size t1 c1
  b : Blk W (w.heap.size + 1) t2 c2
  res : Res W
  below : Below w.heap.size w W
theorem At2.later {w W W' : World} {t1 t2 : TypeId} {c1 c2 : Array Value} (h : At2 w t1 t2 c1 c2 W) (hb : Below W.heap.size W W') : At2 w t1 t2 c1 c2 W' :=
  ⟨h.a.below hb h.a.lt, h.b.below hb h.b.lt, h.res.below hb, h.below.trans (hb.mono h.below.size)⟩
theorem At2.new (w : World) (t1 t2 : TypeId) (c1 c2 : Array Value) (hr : Res w) : At2 w t1 t2 c1 c2 ((w.alloc (.cells c1 t1)).alloc (.cells c2 t2)) := by
  have b1 := below_alloc (Below.refl w.heap.size w) (.cells c1 t1)
  have b2 := below_alloc b1 (.cells c2 t2)
  have k1 := Blk.new w t1 c1
  have k2 := Blk.new (w.alloc (.cells c1 t1)) t2 c2
  have e1 : (w.alloc (.cells c1 t1)).heap.size = w.heap.size + 1 := by simp
  rw [e1] at k2
  exact ⟨k1.alloc _, k2, hr.below b2, b2⟩
theorem LRow.long {w : World} {v : Value} {ls : List L2} (h : LRow w v ls) : ∃ A c, v = .slice A ls.length c := ⟨_, _, h.choose_spec.choose_spec.1⟩
set_option maxRecDepth 100000 in
set_option maxHeartbeats 4000000 in
theorem fold_no (F : FuncId) (ls : List L2) (v : Value) (w : World) (hv : LRow w v ls) (hs : Short ls) (hr : Res w) (hL : firstL ls ≠ 0) :
    Calls Tryz.prog 65 #[v, .func (.func F) #[] #[]] w fun e w' => e = .returned (.tuple #[.agg #[.string ⟨#[]⟩, .string ⟨#[]⟩], .int .i64 (firstL ls : Int)]) ∧ Below w.heap.size w w' := by
  have H := Lib.hid (At2.new w 24 27 #[.string ⟨#[]⟩, .string ⟨#[]⟩] #[.int .i64 0] hr)
  have HV := Lib.hid (valid_run ls v _ (hv.below H.out.below) hs H.out.res)
  obtain ⟨A, c, rfl⟩ := hv.long
  rw [endV_no hL] at HV
  generalize firstL ls = n at HV
  clear hv hs hr hL
  go_enter_defers Tryz.func65, Tryz.ntmps65
  go_wp2_with (go_at_call 73; refine HV.out.mono ?_; rintro e w1 ⟨rfl, hb⟩; have H1 := Lib.hid (H.out.later hb); clear hb)
  refine door_pan (v := .tuple #[.agg #[.string ⟨#[]⟩, .string ⟨#[]⟩], .int .i64 (n : Int)]) H1.out.b ?_
  intro W hB hk hbel
  exact ⟨run_cell_errno rfl rfl (load_loss (hk _ _ _ (by omega) H1.out.a)) rfl hB, rfl, hbel _ _ (by omega) H1.out.below⟩
set_option maxRecDepth 100000 in
set_option maxHeartbeats 8000000 in
theorem fold_ok (F : FuncId) (op : LQ → LQ → Except Nat LQ) (hF : Combines F op) (hrun : Runs F) (ls : List L2) (v : Value) (w : World) (hv : LRow w v ls) (hs : Short ls) (hr : Res w) (hL : firstL ls = 0) :
    Calls Tryz.prog 65 #[v, .func (.func F) #[] #[]] w fun e w' => e = .returned (resL (foldE op noneL (ls.map valL))) ∧ Below w.heap.size w w' := by
  have H := Lib.hid (At2.new w 24 27 #[.string ⟨#[]⟩, .string ⟨#[]⟩] #[.int .i64 0] hr)
  have HV := Lib.hid (valid_run ls v _ (hv.below H.out.below) hs H.out.res)
  have HLR := Lib.hid hv
  obtain ⟨A, c, rfl⟩ := hv.long
  obtain ⟨_, _, _, hlen, hcells⟩ := id hv
  have HCE := Lib.hid hcells
  rw [hL] at HV
  have HF := Lib.hid hF
  have HR0 := Lib.hid hr
  have HL := Lib.hid (firstL_zero.1 hL)
  have hrn := hrun
  unfold Runs at hrn
  clear hv hs hr hL hF hrun hcells
  go_enter_defers Tryz.func65, Tryz.ntmps65
  go_wp2_with (first
    | (go_at_call 73; refine HV.out.mono ?_; rintro e w1 ⟨rfl, hb⟩; rw [endV_ok]; have H1 := Lib.hid (H.out.later hb); clear hb)
    | (go_at_call 27; refine (none_any _).mono ?_; rintro e w2 ⟨rfl, hb⟩; have H2 := Lib.hid (H1.out.later hb); clear hb))
  have hlt2 : w.heap.size + 1 < w2.heap.size := H2.out.b.lt
  have HFA := Lib.hid (show FoldAt w w2.heap.size noneL (w2.alloc (.cells #[.string ⟨#[49]⟩, .string ⟨#[48]⟩] 96)) from
    ⟨H2.out.a.alloc _, H2.out.b.alloc _, by
      have e1 : (⟨#[49]⟩ : ByteArray) = rT 1 := IsT.one.text
      have e0 : (⟨#[48]⟩ : ByteArray) = rT 0 := IsT.zero.text
      rw [e1, e0]
      exact Blk.new w2 _ _, hlt2, H2.out.res.below (below_alloc (Below.refl _ _) _), below_alloc H2.out.below _⟩)
  generalize w2.alloc (.cells #[.string ⟨#[49]⟩, .string ⟨#[48]⟩] 96) = W2 at *
  generalize w2.heap.size = g6 at *
  clear H H1 H2 HV
  go_loopw [15] (fun v15 wr => ∃ (k : Nat) (acc : LQ), k ≤ ls.length ∧ v15 = .int .i64 (k : Int) ∧ Hid (foldE op noneL ((ls.map valL).take k) = .ok acc) ∧ Hid (OkL acc) ∧ Hid (FoldAt w g6 acc wr)) (fun v15 _ => ls.length - (intOf v15).toNat)
  case atStart => exact ⟨0, noneL, Nat.zero_le _, rfl, Lib.hid (by simp [foldE]), Lib.hid okL_none, HFA⟩
  case round =>
    obtain ⟨k, acc, hk, rfl, HE, HO, HA⟩ := hrel
    clear HFA
    obtain ⟨r0, r1⟩ := cells2 HA.out.s
    have hg6 := HA.out.s.lt
    by_cases hlt : k < ls.length
    · obtain ⟨b, o, rfl, hbw, hcell⟩ := HCE.out (by omega)
      obtain ⟨x, hx⟩ : ∃ x, ls[k]? = some x := ⟨_, List.getElem?_eq_getElem hlt⟩
      obtain ⟨c0, c1⟩ := hcell k x hx
      rw [← HA.out.below.cell (p := ⟨b, o + k * 2, none⟩) hbw] at c0
      rw [← HA.out.below.cell (p := ⟨b, o + k * 2 + 1, none⟩) hbw] at c1
      have hlt' : (k : Int) < (ls.length : Int) := by omega
      have hb2 : b < wr.heap.size := Nat.lt_of_lt_of_le hbw HA.out.below.size
      have HX := Lib.hid (below_alloc (Below.refl wr.heap.size wr) (.cells #[.string x.1, .string x.2] 24))
      have HFC := Lib.hid (HF.out.1 (wr.alloc (.cells #[.string x.1, .string x.2] 24)) HO.out.is (errL_zero (HL.out x (List.mem_of_getElem? hx))) (HA.out.res.below HX.out))
      have HAT := Lib.hid (foldE_at HE.out (show (ls.map valL)[k]? = some (valL x) by rw [List.getElem?_map, hx]; rfl))
      change Hid (Calls _ _ _ _ fun e w' => e = endL (op acc (valL x)) ∧ _) at HFC
      have HLT := Lib.hid (And.intro hlt hlt')
      obtain ⟨f, d⟩ := x
      dsimp only at c0 c1 HX HFC
      cases ho : op acc (valL (f, d)) with
      | error m =>
        rw [ho] at HFC HAT
        have HM := Lib.hid (foldE_error HAT.out)
        change Hid (Calls _ _ _ _ fun e w' => e = .panicked (pan m) ∧ _) at HFC
        clear hcell hx hbw hlt ho HL
        have HF2 := Lib.hid HFC.out
        clear HFC
        go_wp2_with (refine HF2.out.mono ?_; rintro e w3 ⟨rfl, hb⟩; have H3 := Lib.hid (HA.out.later (HX.out.trans (hb.mono HX.out.size))); clear hb)
        refine door_pan (v := resL (.error m)) H3.out.e ?_
        intro W hB hkk hbel
        refine ⟨run_cell_errno rfl rfl (load_loss (hkk _ _ _ (by omega) H3.out.a)) rfl hB, ?_, hbel _ _ (by omega) H3.out.below⟩
        rw [HM.out]
      | ok b' =>
        rw [ho] at HFC HAT
        change Hid (Calls _ _ _ _ fun e w' => e = .returned (.agg #[.string (rT b'.1), .string (rT b'.2)]) ∧ _) at HFC
        have HOB := Lib.hid (HF.out.2.1 acc _ b' HO.out (errL_zero (HL.out (f, d) (List.mem_of_getElem? hx))).ok ho)
        clear hcell hx hbw hlt ho
        have HF2 := Lib.hid HFC.out
        clear HFC
        obtain ⟨fb, hfb⟩ : ∃ y, y = rT b'.1 := ⟨_, rfl⟩
        obtain ⟨db, hdb⟩ : ∃ y, y = rT b'.2 := ⟨_, rfl⟩
        rw [← hfb, ← hdb] at HF2
        have HFB := Lib.hid (And.intro hfb hdb)
        clear hfb hdb
        go_wp2_with (refine HF2.out.mono ?_; rintro e w3 ⟨rfl, hb⟩; have H3 := Lib.hid (HA.out.later (HX.out.trans (hb.mono HX.out.size))); obtain ⟨q0, q1⟩ := cells2 H3.out.s; have z0 := H3.out.s.frozen 0; have z1 := H3.out.s.frozen 1; clear hb)
        go_roundw
        case rel =>
          have hb3 := (H3.out.below.setCell (p := ⟨g6, 0, none⟩) (show w.heap.size ≤ g6 by have := H3.out.far; omega) (.string fb)).setCell (p := ⟨g6, 1, none⟩) (show w.heap.size ≤ g6 by have := H3.out.far; omega) (.string db)
          exact ⟨k + 1, b', HLT.out.1, by go_num, HAT, HOB, Lib.hid ⟨H3.out.a.two_far (by have := H3.out.far; omega), H3.out.e.two_far (by have := H3.out.far; omega), by
            rw [← HFB.out.1, ← HFB.out.2]; exact H3.out.s.two_set, H3.out.far, HR0.out.below hb3, hb3⟩⟩
        case measure => have := HLT.out.1; simp [intOf]; omega
    · have hlt' : ¬ (k : Int) < (ls.length : Int) := by omega
      obtain rfl : k = ls.length := by omega
      have HE2 := Lib.hid (show foldE op noneL (ls.map valL) = .ok acc by
        have := HE.out
        rwa [List.take_of_length_le (by simp)] at this)
      obtain ⟨p0, p1⟩ := cells2 HA.out.a
      have z0 := HA.out.a.frozen 0
      have z1 := HA.out.a.frozen 1
      have pe := cell0 HA.out.e
      have ze := HA.out.e.frozen 0
      clear hlt
      go_wp2
      have ha2 := (HA.out.a.two_set (x := .string (rT acc.1)) (y := .string (rT acc.2))).far (p := ⟨w.heap.size + 1, 0, none⟩) (by show w.heap.size ≠ w.heap.size + 1; omega) (.int .i64 0)
      have he2 := (HA.out.e.two_far (b := w.heap.size) (x := .string (rT acc.1)) (y := .string (rT acc.2)) (by omega)).set_ 0 (.int .i64 0)
      refine door_ret (v := resL (.ok acc)) (run_cell_errno rfl rfl (load_loss ha2) rfl he2) ⟨by rw [HE2.out], ?_⟩
      exact (((HA.out.below.setCell (Nat.le_refl _) _).setCell (Nat.le_refl _) _).setCell (Nat.le_succ _) _)
theorem fold_any (F : FuncId) (op : LQ → LQ → Except Nat LQ) (hF : Combines F op) (hrun : Runs F) (ls : List L2) (v : Value) (w : World) (hv : LRow w v ls) (hs : Short ls) (hr : Res w) :
    Calls Tryz.prog 65 #[v, .func (.func F) #[] #[]] w fun e w' => e = .returned (resL (foldR op ls)) ∧ Below w.heap.size w w' := by
  unfold foldR
  by_cases hL : firstL ls = 0
  · rw [if_neg (by omega)]; exact fold_ok F op hF hrun ls v w hv hs hr hL
  · rw [if_pos hL]; exact fold_no F ls v w hv hs hr hL
end Go.Proofs.YtbfhonhjejeaiaaGreatDoor
namespace Go.Proofs.YtbfhonhjejeaiaaGreatDoor
open Go.RowKit Go.Shelf
open Lim

theorem resL_shape (r : Except Nat LQ) : ∃ (x y : ByteArray) (n : Int), resL r = .tuple #[.agg #[.string x, .string y], .int .i64 n] := by
  cases r with
  | ok l => exact ⟨_, _, _, rfl⟩
  | error n => exact ⟨_, _, _, rfl⟩
theorem short_two {f d f' d' : ByteArray} (h1 : f.size ≤ 270000) (h2 : d.size ≤ 270000) (h3 : f'.size ≤ 270000) (h4 : d'.size ≤ 270000) : Short [(f, d), (f', d')] := by
  intro x hx
  simp only [List.mem_cons, List.not_mem_nil, or_false] at hx
  rcases hx with rfl | rfl
  · exact ⟨h1, h2⟩
  · exact ⟨h3, h4⟩
/-- Three new blocks and a row of two losses. -/
theorem at3_row {w : World} {f d f' d' : ByteArray} {c3 : Array Value} {t1 t2 t3 : TypeId} {W : World} (H : At3 w t1 t2 t3 #[.string f, .string d] #[.string f', .string d'] c3 W) :
    Below W.heap.size W (W.alloc (.cells #[.string f, .string d, .string f', .string d'] 24)) ∧ LRow (W.alloc (.cells #[.string f, .string d, .string f', .string d'] 24)) (.slice (some ⟨W.heap.size, 0, none⟩) 2 2) [(f, d), (f', d')] ∧
      Res (W.alloc (.cells #[.string f, .string d, .string f', .string d'] 24)) :=
  ⟨below_alloc (Below.refl _ _) _, LRow.two (Blk.new W _ _), H.res.below (below_alloc (Below.refl _ _) _)⟩
set_option maxRecDepth 100000 in
set_option maxHeartbeats 2000000 in
theorem lossAdd_any (f d f' d' : ByteArray) (w : World) (h1 : f.size ≤ 270000) (h2 : d.size ≤ 270000) (h3 : f'.size ≤ 270000) (h4 : d'.size ≤ 270000) (hr : Res w) :
    Calls Tryz.prog 15 #[.agg #[.string f, .string d], .agg #[.string f', .string d']] w fun e w' => e = .returned (resL (foldR plusL [(f, d), (f', d')])) ∧ Below w.heap.size w w' := by
  have H0 := At3.new w 24 24 24 #[.string f, .string d] #[.string f', .string d'] #[.string ⟨#[]⟩, .string ⟨#[]⟩] hr
  obtain ⟨a1, a2, a3⟩ := at3_row H0
  rw [show (((w.alloc (.cells #[.string f, .string d] 24)).alloc (.cells #[.string f', .string d'] 24)).alloc (.cells #[.string ⟨#[]⟩, .string ⟨#[]⟩] 24)).heap.size = w.heap.size + 1 + 1 + 1 by simp] at a2
  have HF := Lib.hid (fold_any 66 plusL combines_plus runs_plus _ _ _ a2 (short_two h1 h2 h3 h4) a3)
  have H1 := Lib.hid (H0.later a1)
  obtain ⟨x, y, n, hx⟩ := resL_shape (foldR plusL [(f, d), (f', d')])
  rw [hx] at HF ⊢
  clear H0 a1 a2 a3 h1 h2 h3 h4 hr hx
  go_enter Tryz.func15, Tryz.ntmps15
  go_wp2_with (go_at_call 65; refine HF.out.mono ?_; rintro e w1 ⟨rfl, hb⟩; have H2 := Lib.hid (H1.out.later hb); obtain ⟨q0, q1⟩ := cells2 H2.out.c; have z0 := H2.out.c.frozen 0; have z1 := H2.out.c.frozen 1; clear hb)
  refine bodyPost_ret (run_cell_tmp rfl rfl (load_loss H2.out.c.two_set)) rfl ⟨rfl, (H2.out.below.setCell (le2 _) _).setCell (le2 _) _⟩
set_option maxRecDepth 100000 in
set_option maxHeartbeats 2000000 in
theorem lossMax_any (f d f' d' : ByteArray) (w : World) (h1 : f.size ≤ 270000) (h2 : d.size ≤ 270000) (h3 : f'.size ≤ 270000) (h4 : d'.size ≤ 270000) (hr : Res w) :
    Calls Tryz.prog 17 #[.agg #[.string f, .string d], .agg #[.string f', .string d']] w fun e w' => e = .returned (resL (foldR (fun a b => .ok (aboveL a b)) [(f, d), (f', d')])) ∧ Below w.heap.size w w' := by
  have H0 := At3.new w 24 24 24 #[.string f, .string d] #[.string f', .string d'] #[.string ⟨#[]⟩, .string ⟨#[]⟩] hr
  obtain ⟨a1, a2, a3⟩ := at3_row H0
  rw [show (((w.alloc (.cells #[.string f, .string d] 24)).alloc (.cells #[.string f', .string d'] 24)).alloc (.cells #[.string ⟨#[]⟩, .string ⟨#[]⟩] 24)).heap.size = w.heap.size + 1 + 1 + 1 by simp] at a2
  have HF := Lib.hid (fold_any 70 (fun a b => .ok (aboveL a b)) combines_above runs_above _ _ _ a2 (short_two h1 h2 h3 h4) a3)
  have H1 := Lib.hid (H0.later a1)
  obtain ⟨x, y, n, hx⟩ := resL_shape (foldR (fun a b => .ok (aboveL a b)) [(f, d), (f', d')])
  rw [hx] at HF ⊢
  clear H0 a1 a2 a3 h1 h2 h3 h4 hr hx
  go_enter Tryz.func17, Tryz.ntmps17
  go_wp2_with (go_at_call 65; refine HF.out.mono ?_; rintro e w1 ⟨rfl, hb⟩; have H2 := Lib.hid (H1.out.later hb); obtain ⟨q0, q1⟩ := cells2 H2.out.c; have z0 := H2.out.c.frozen 0; have z1 := H2.out.c.frozen 1; clear hb)
  refine bodyPost_ret (run_cell_tmp rfl rfl (load_loss H2.out.c.two_set)) rfl ⟨rfl, (H2.out.below.setCell (le2 _) _).setCell (le2 _) _⟩
set_option maxRecDepth 100000 in
set_option maxHeartbeats 2000000 in
theorem lossSum_any (ls : List L2) (v : Value) (w : World) (hv : LRow w v ls) (hs : Short ls) (hr : Res w) :
    Calls Tryz.prog 36 #[v] w fun e w' => e = .returned (resL (foldR plusL ls)) ∧ Below w.heap.size w w' := by
  have HX := Lib.hid (below_alloc (Below.refl w.heap.size w) (.cells #[.string ⟨#[]⟩, .string ⟨#[]⟩] 24))
  have HK := Lib.hid (Blk.new w 24 #[.string ⟨#[]⟩, .string ⟨#[]⟩])
  have HF := Lib.hid (fold_any 66 plusL combines_plus runs_plus ls v _ (hv.below HX.out) hs (hr.below HX.out))
  obtain ⟨x, y, n, hx⟩ := resL_shape (foldR plusL ls)
  rw [hx] at HF ⊢
  clear hv hs hr hx
  go_enter Tryz.func36, Tryz.ntmps36
  go_wp2_with (go_at_call 65; refine HF.out.mono ?_; rintro e w1 ⟨rfl, hb⟩; have HB := Lib.hid (HX.out.trans (hb.mono HX.out.size)); have HK1 := Lib.hid (HK.out.below hb HK.out.lt); obtain ⟨q0, q1⟩ := cells2 HK1.out; have z0 := HK1.out.frozen 0; have z1 := HK1.out.frozen 1; clear hb)
  refine bodyPost_ret (run_cell_tmp rfl rfl (load_loss HK1.out.two_set)) rfl ⟨rfl, (HB.out.setCell (Nat.le_refl _) _).setCell (Nat.le_refl _) _⟩
end Go.Proofs.YtbfhonhjejeaiaaGreatDoor
