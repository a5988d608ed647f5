/- rat: Sign, Cmp, choose, Min, Max, Int, Parts. Rounding of rational numbers by their parts. No program in sight. rat: round, Floor, Ceil (printed by mkrate.py). More functions of rat on texts of numbers: comparisons, rounding. Losses in plain rationals: what Check, Add, Max, Fits, Group, Late, Alpha, Beta and Half compute. Computations that are left by a panic: must, and the deferred ends that turns the error into a result. loss.order and loss.Check. loss.Check. loss.valid: the first error of a list of losses leaves the computation. The functions of chapter 8 on texts: what the program and the reference compute. No program in sight. What a call returns in every world, new memory aside. The program's functions of numbers, as the plain model of chapter 8 speaks of them. dist: positive, fold, Check, checked. The order and the sums of losses, in plain rationals. Distributions in plain rationals: sums over keys, and what Delta, Factor, Moment, Push, Product and Mix obey. No program in sight. -/
import Derived.Test.YtigapglmipmbeaaGreatDoorRb09
import Derived.Test.YtigapglmipmbeaaGreatDoorRb05
import Derived.Test.YtigapglmipmbeaaGreatDoorRb08
import Derived.Recover
import Derived.Defers
import Derived.Sort.Walk0
import Derived.BigQuiet
namespace Go.Proofs.YtigapglmipmbeaaGreatDoor
open Go.RowKit Go.Shelf
open Lim
def resI (x : Int × Nat) : Value := .tuple #[.int .i64 x.1, .int .i64 (x.2 : Int)]
def oneI (f : Rat → Int × Nat) (a : List UInt8) : Int × Nat := if errQ a ≠ 0 then (0, errQ a) else f (valQ a)
def twoI (f : Rat → Rat → Int × Nat) (a b : List UInt8) : Int × Nat := if errQ a ≠ 0 then (0, errQ a) else if errQ b ≠ 0 then (0, errQ b) else f (valQ a) (valQ b)
theorem withI_any (F : FuncId) (hrun : Runs F) (caps : Array Value) (g : Rat → Int × Nat) (a : ByteArray) (w : World) (ha : a.size ≤ 270000) (hr : Res w)
    (hF : ∀ p v w', Below w.heap.size w w' → Res w' → IsFrac w' v p → Sz maxD p → Calls Tryz.prog F (#[v] ++ caps) w' fun e w'' => e = .returned (resI (g p)) ∧ Below w'.heap.size w' w'') :
    Calls Tryz.prog 241 #[.string a, .func (.func F) #[] caps] w fun e w' => e = .returned (resI (oneI g a.data.toList)) ∧ Below w.heap.size w w' := by
  by_cases h1 : errQ a.data.toList = 0
  · unfold oneI
    rw [if_neg (by omega)]
    exact WI.with_ok F hrun caps (.int .i64 (g (valQ a.data.toList)).1) _ a w ha hr h1 (fun v w' hb hr' hv => hF _ v w' hb hr' hv (sz_max h1))
  · unfold oneI
    rw [if_pos h1]
    exact WI.with_err a _ w ha hr h1
theorem bothI_any (F : FuncId) (hrun : Runs F) (g : Rat → Rat → Int × Nat) (a b : ByteArray) (w : World) (ha : a.size ≤ 270000) (hb : b.size ≤ 270000) (hr : Res w)
    (hF : ∀ p q v v' w', Res w' → IsFrac w' v p → IsFrac w' v' q → Sz maxD p → Sz maxD q → Calls Tryz.prog F #[v, v'] w' fun e w'' => e = .returned (resI (g p q)) ∧ Below w'.heap.size w' w'') :
    Calls Tryz.prog 196 #[.string a, .string b, .func (.func F) #[] #[]] w fun e w' => e = .returned (resI (twoI g a.data.toList b.data.toList)) ∧ Below w.heap.size w w' := by
  refine (WI.both_any F hrun (fun p q => (.int .i64 (g p q).1, ((g p q).2 : Int))) a b w ha hb hr (fun v v' w' _ hr' hv hv' h1 h2 => hF _ _ v v' w' hr' hv hv' (sz_max h1) (sz_max h2))).mono ?_
  rintro e w' ⟨rfl, hB⟩
  refine ⟨?_, hB⟩
  unfold twoI resI
  split
  · rfl
  · split <;> rfl
theorem runs_Sign : Runs 242 := runs_of Tryz.func242 (by kernel_rfl) (by kernel_rfl)
set_option maxRecDepth 100000 in
set_option maxHeartbeats 2000000 in
theorem Sign1_any (p : Rat) (v : Value) (w : World) (hv : IsFrac w v p) :
    Calls Tryz.prog 242 #[v] w fun e w' => e = .returned (resI (sgQ p, 0)) ∧ Below w.heap.size w w' := by
  obtain ⟨bq, N, D, A, c, A', c', rfl, hn, hd, HQ⟩ := isFrac_open hv
  have HX := Lib.hid (below_alloc (Below.refl w.heap.size w) (.cells #[.bool bq, .slice A (toL N).length c, .slice A' (toL D).length c'] 216))
  have HF := Lib.hid (sign_any p _ _ (hv.below HX.out))
  generalize sgQ p = r at HF ⊢
  clear hv hn hd
  go_enter Tryz.func242, Tryz.ntmps242
  go_wp2_with (go_at_call 211; refine HF.out.mono ?_; rintro e w1 ⟨rfl, hb1⟩; have HB1 := Lib.hid (HX.out.trans (hb1.mono HX.out.size)); clear hb1)
  refine bodyPost_ret (results_tmp2 rfl _ _ _) rfl ?_
  exact ⟨rfl, HB1.out⟩
set_option maxRecDepth 100000 in
theorem ratSign_any (a : ByteArray) (w : World) (ha : a.size ≤ 270000) (hr : Res w) :
    Calls Tryz.prog 187 #[.string a] w fun e w' => e = .returned (resI (oneI (fun p => (sgQ p, 0)) a.data.toList)) ∧ Below w.heap.size w w' := by
  have HB := Lib.hid (withI_any 242 runs_Sign #[] (fun p => (sgQ p, 0)) a w ha hr (fun p v w' _ _ hv _ => Sign1_any p v w' hv))
  generalize oneI (fun p => (sgQ p, 0)) a.data.toList = r at HB ⊢
  clear hr
  go_enter Tryz.func187, Tryz.ntmps187
  go_wp2_with (go_at_call 241; refine HB.out.mono ?_; rintro e w2 ⟨rfl, hb2⟩; have HB2 := Lib.hid hb2; clear hb2; unfold resI)
  refine bodyPost_ret (results_tmp2 rfl _ _ _) rfl ?_
  exact ⟨rfl, HB2.out⟩
theorem runs_Cmp : Runs 197 := runs_of Tryz.func197 (by kernel_rfl) (by kernel_rfl)
set_option maxRecDepth 100000 in
set_option maxHeartbeats 2000000 in
theorem Cmp1_any (p q : Rat) (v v' : Value) (w : World) (hv : IsFrac w v p) (hv' : IsFrac w v' q) (sp : Sz maxD p) (sq : Sz maxD q) :
    Calls Tryz.prog 197 #[v, v'] w fun e w' => e = .returned (resI (cmpQ p q, 0)) ∧ Below w.heap.size w w' := by
  obtain ⟨lp, lp'⟩ := sz_limbs sp
  obtain ⟨lq, lq'⟩ := sz_limbs sq
  obtain ⟨bq, N, D, A, c, A', c', rfl, hn, hd, HQ⟩ := isFrac_open hv
  obtain ⟨bq', N', D', B, d, B', d', rfl, hn', hd', HQ'⟩ := isFrac_open hv'
  have HX := Lib.hid (below_alloc (below_alloc (Below.refl w.heap.size w) (.cells #[.bool bq, .slice A (toL N).length c, .slice A' (toL D).length c'] 216)) (.cells #[.bool bq', .slice B (toL N').length d, .slice B' (toL D').length d'] 216))
  have HF := Lib.hid (fcmp_any p q _ _ _ (hv.below HX.out) (hv'.below HX.out) (by omega) (by omega) (by omega) (by omega))
  generalize cmpQ p q = r at HF ⊢
  clear hv hv' hn hd hn' hd' sp sq lp lp' lq lq'
  go_enter Tryz.func197, Tryz.ntmps197
  go_wp2_with (go_at_call 198; refine HF.out.mono ?_; rintro e w1 ⟨k, rfl, hk, hb1⟩; subst hk; have HB1 := Lib.hid (HX.out.trans (hb1.mono HX.out.size)); clear hb1)
  refine bodyPost_ret (results_tmp2 rfl _ _ _) rfl ?_
  exact ⟨rfl, HB1.out⟩
set_option maxRecDepth 100000 in
theorem ratCmp_any (a b : ByteArray) (w : World) (ha : a.size ≤ 270000) (hb : b.size ≤ 270000) (hr : Res w) :
    Calls Tryz.prog 116 #[.string a, .string b] w fun e w' => e = .returned (resI (twoI (fun p q => (cmpQ p q, 0)) a.data.toList b.data.toList)) ∧ Below w.heap.size w w' := by
  have HB := Lib.hid (bothI_any 197 runs_Cmp (fun p q => (cmpQ p q, 0)) a b w ha hb hr (fun p q v v' w' _ hv hv' sp sq => Cmp1_any p q v v' w' hv hv' sp sq))
  generalize twoI (fun p q => (cmpQ p q, 0)) a.data.toList b.data.toList = r at HB ⊢
  clear hr
  go_enter Tryz.func116, Tryz.ntmps116
  go_wp2_with (go_at_call 196; refine HB.out.mono ?_; rintro e w2 ⟨rfl, hb2⟩; have HB2 := Lib.hid hb2; clear hb2; unfold resI)
  refine bodyPost_ret (results_tmp2 rfl _ _ _) rfl ?_
  exact ⟨rfl, HB2.out⟩
def chooseQ (x : Int × Nat) (s : Int) (a b : ByteArray) : ByteArray × Nat := if x.2 ≠ 0 then (⟨#[]⟩, x.2) else if x.1 * s > 0 then (b, 0) else (a, 0)
def resS (x : ByteArray × Nat) : Value := .tuple #[.string x.1, .int .i64 (x.2 : Int)]
theorem twoI_bound (a b : List UInt8) : -1 ≤ (twoI (fun p q => (cmpQ p q, 0)) a b).1 ∧ (twoI (fun p q => (cmpQ p q, 0)) a b).1 ≤ 1 := by
  unfold twoI
  split
  · show (-1 : Int) ≤ 0 ∧ (0 : Int) ≤ 1; omega
  · split
    · show (-1 : Int) ≤ 0 ∧ (0 : Int) ≤ 1; omega
    · rcases cmpQ_cases (valQ a) (valQ b) with h | h | h <;> simp [h]
set_option maxRecDepth 100000 in
set_option maxHeartbeats 2000000 in
theorem choose_any (a b : ByteArray) (s : Int) (w : World) (ha : a.size ≤ 270000) (hb : b.size ≤ 270000) (hr : Res w) (hs : s = 1 ∨ s = -1) :
    Calls Tryz.prog 207 #[.string a, .string b, .int .i64 s] w fun e w' => e = .returned (resS (chooseQ (twoI (fun p q => (cmpQ p q, 0)) a.data.toList b.data.toList) s a b)) ∧ Below w.heap.size w w' := by
  have HB := Lib.hid (ratCmp_any a b w ha hb hr)
  obtain ⟨z1, z2⟩ := twoI_bound a.data.toList b.data.toList
  generalize twoI (fun p q => (cmpQ p q, 0)) a.data.toList b.data.toList = r at HB z1 z2 ⊢
  obtain ⟨k, e0⟩ := r
  dsimp only at z1 z2
  unfold resI at HB
  unfold chooseQ resS
  dsimp only at HB ⊢
  clear hr
  by_cases he : e0 = 0
  · subst he
    have hks : -1 ≤ k * s ∧ k * s ≤ 1 := by rcases hs with rfl | rfl <;> omega
    rw [if_neg (by omega)]
    by_cases hp : k * s > 0
    · rw [if_pos hp]
      have hp' : decide (k * s > 0) = true := decide_eq_true hp
      go_enter Tryz.func207, Tryz.ntmps207
      go_wp2_with (go_at_call 116; refine HB.out.mono ?_; rintro e w2 ⟨rfl, hb2⟩; have HB2 := Lib.hid hb2; clear hb2)
      refine bodyPost_ret (results_tmp2 rfl _ _ _) rfl ?_
      exact ⟨rfl, HB2.out⟩
    · rw [if_neg hp]
      have hp' : decide (k * s > 0) = false := decide_eq_false hp
      go_enter Tryz.func207, Tryz.ntmps207
      go_wp2_with (go_at_call 116; refine HB.out.mono ?_; rintro e w2 ⟨rfl, hb2⟩; have HB2 := Lib.hid hb2; clear hb2)
      refine bodyPost_ret (results_tmp2 rfl _ _ _) rfl ?_
      exact ⟨rfl, HB2.out⟩
  · rw [if_pos he]
    have hne : ((e0 : Int) == 0) = false := by rw [beq_eq_false_iff_ne]; omega
    have HE := Lib.hid he
    clear he
    go_enter Tryz.func207, Tryz.ntmps207
    go_wp2_with (go_at_call 116; refine HB.out.mono ?_; rintro e w2 ⟨rfl, hb2⟩; have HB2 := Lib.hid hb2; clear hb2)
    refine bodyPost_ret (results_tmp2 rfl _ _ _) rfl ?_
    exact ⟨rfl, HB2.out⟩
set_option maxRecDepth 100000 in
theorem ratMax_any (a b : ByteArray) (w : World) (ha : a.size ≤ 270000) (hb : b.size ≤ 270000) (hr : Res w) :
    Calls Tryz.prog 131 #[.string a, .string b] w fun e w' => e = .returned (resS (chooseQ (twoI (fun p q => (cmpQ p q, 0)) a.data.toList b.data.toList) (-1) a b)) ∧ Below w.heap.size w w' := by
  have HB := Lib.hid (choose_any a b (-1) w ha hb hr (.inr rfl))
  generalize chooseQ (twoI (fun p q => (cmpQ p q, 0)) a.data.toList b.data.toList) (-1) a b = r at HB ⊢
  clear hr
  go_enter Tryz.func131, Tryz.ntmps131
  go_wp2_with (go_at_call 207; refine HB.out.mono ?_; rintro e w2 ⟨rfl, hb2⟩; have HB2 := Lib.hid hb2; clear hb2; unfold resS)
  refine bodyPost_ret (results_tmp2 rfl _ _ _) rfl ?_
  exact ⟨rfl, HB2.out⟩
end Go.Proofs.YtigapglmipmbeaaGreatDoor
namespace Go.Proofs.YtigapglmipmbeaaGreatDoor
open Lim
end Go.Proofs.YtigapglmipmbeaaGreatDoor
namespace Go.Proofs.YtigapglmipmbeaaGreatDoor
open Go.RowKit Go.Shelf
open Lim
end Go.Proofs.YtigapglmipmbeaaGreatDoor
namespace Go.Proofs.YtigapglmipmbeaaGreatDoor
open Go.RowKit Go.Shelf
open Lim
theorem two_I {f : Rat → Rat → Int × Nat} {a b : ByteArray} {p q : Rat} (ha : IsT a p) (hb : IsT b q) : twoI f a.data.toList b.data.toList = f p q := by
  unfold twoI; rw [ha.err, hb.err, ha.val, hb.val]; rfl
section
variable {a b c : ByteArray} {p q : Rat} (w : World)
end
end Go.Proofs.YtigapglmipmbeaaGreatDoor
namespace Go.Proofs.YtigapglmipmbeaaGreatDoor
open Go.RowKit Go.Shelf
open Lim
def rT (q : Rat) : ByteArray := ⟨(ratText q).toArray⟩
def fits (q : Rat) : Bool := !(decide (maxD < Lib.nDigits (nm q) ∨ maxD < Lib.nDigits q.den))
theorem fits_sz {q : Rat} : fits q = true ↔ Sz maxD q := by
  rw [sz_iff (by decide)]
  unfold fits
  rw [Bool.not_eq_true', decide_eq_false_iff_not]
  omega
theorem IsT.fits {a : ByteArray} {q : Rat} (h : IsT a q) : fits q = true := fits_sz.2 h.2
theorem isT_rT {q : Rat} (h : fits q = true) : IsT (rT q) q := ⟨rfl, fits_sz.1 h⟩
theorem IsT.text {a : ByteArray} {q : Rat} (h : IsT a q) : a = rT q := h.1
theorem fits_zero : fits 0 = true := IsT.zero.fits
end Go.Proofs.YtigapglmipmbeaaGreatDoor
namespace Go.Proofs.YtigapglmipmbeaaGreatDoor
open Go.RowKit Go.Shelf
open Lim
end Go.Proofs.YtigapglmipmbeaaGreatDoor
namespace Go.Proofs.YtigapglmipmbeaaGreatDoor
open Go.RowKit Go.Shelf
open Lim
section
variable {fn : Func} {tmps : Array Value} {R : Ending → World → Prop} {b : Nat} {w : World}
end
end Go.Proofs.YtigapglmipmbeaaGreatDoor
namespace Go.Proofs.YtigapglmipmbeaaGreatDoor
open Go.RowKit Go.Shelf
open Lim
theorem cell0 {w : World} {b : Nat} {t : TypeId} {v : Value} (h : Blk w b t #[v]) : w.cell? ⟨b, 0, none⟩ = some v := (cellrow h 0 (by simp)).1
theorem cells2 {w : World} {b : Nat} {t : TypeId} {u v : Value} (h : Blk w b t #[u, v]) : w.cell? ⟨b, 0, none⟩ = some u ∧ w.cell? ⟨b, 1, none⟩ = some v := ⟨(cellrow h 0 (by simp)).1, (cellrow h 1 (by simp)).1⟩
theorem below_alloc2 {B : Nat} {w W : World} (h : Below B w W) (hB : B ≤ W.heap.size) (o : Obj) : Below B w (W.alloc o) := h.alloc hB o
end Go.Proofs.YtigapglmipmbeaaGreatDoor
namespace Go.Proofs.YtigapglmipmbeaaGreatDoor
open Go.RowKit Go.Shelf
open Lim
abbrev L2 := ByteArray × ByteArray
def LRow (w : World) (v : Value) (ls : List L2) : Prop :=
  ∃ A c, v = .slice A ls.length c ∧ ls.length ≤ 1000 ∧ (0 < ls.length → ∃ b o, A = some ⟨b, o, none⟩ ∧ b < w.heap.size ∧
    ∀ (j : Nat) (x : L2), ls[j]? = some x → w.cell? ⟨b, o + j * 2, none⟩ = some (.string x.1) ∧ w.cell? ⟨b, o + j * 2 + 1, none⟩ = some (.string x.2))
theorem LRow.below {w w' : World} {v : Value} {ls : List L2} (h : LRow w v ls) (hb : Below w.heap.size w w') : LRow w' v ls := by
  obtain ⟨A, c, e, h1, h2⟩ := h
  refine ⟨A, c, e, h1, fun h0 => ?_⟩
  obtain ⟨b, o, e2, hlt, hc⟩ := h2 h0
  refine ⟨b, o, e2, Nat.lt_of_lt_of_le hlt hb.size, fun j x hj => ?_⟩
  obtain ⟨c0, c1⟩ := hc j x hj
  exact ⟨by rw [hb.cell (p := ⟨b, o + j * 2, none⟩) hlt]; exact c0, by rw [hb.cell (p := ⟨b, o + j * 2 + 1, none⟩) hlt]; exact c1⟩
theorem LRow.nil (w : World) (A : Option Addr) (c : Nat) : LRow w (.slice A 0 c) [] := ⟨A, c, rfl, by simp, fun h => absurd h (by simp)⟩
theorem LRow.one {w : World} {b : Nat} {t : TypeId} {f d : ByteArray} (h : Blk w b t #[.string f, .string d]) : LRow w (.slice (some ⟨b, 0, none⟩) 1 1) [(f, d)] := by
  refine ⟨_, _, rfl, by simp, fun _ => ⟨b, 0, rfl, h.lt, fun j x hj => ?_⟩⟩
  match j with
  | 0 => cases hj; exact cells2 h
  | j + 1 => simp at hj
theorem LRow.two {w : World} {b : Nat} {t : TypeId} {f d f' d' : ByteArray} (h : Blk w b t #[.string f, .string d, .string f', .string d']) : LRow w (.slice (some ⟨b, 0, none⟩) 2 2) [(f, d), (f', d')] := by
  refine ⟨_, _, rfl, by simp, fun _ => ⟨b, 0, rfl, h.lt, fun j x hj => ?_⟩⟩
  match j with
  | 0 => cases hj; exact ⟨(cellrow h 0 (by simp)).1, (cellrow h 1 (by simp)).1⟩
  | 1 => cases hj; exact ⟨(cellrow h 2 (by simp)).1, (cellrow h 3 (by simp)).1⟩
  | j + 2 => simp at hj
def Short (ls : List L2) : Prop := ∀ x ∈ ls, x.1.size ≤ 270000 ∧ x.2.size ≤ 270000
end Go.Proofs.YtigapglmipmbeaaGreatDoor
namespace Go.Proofs.YtigapglmipmbeaaGreatDoor
open Go.RowKit
open Lim
abbrev XE := Except Nat ByteArray
def exQ (r : List UInt8 × Nat) : XE := if r.2 = 0 then .ok ⟨r.1.toArray⟩ else .error r.2
def resX : XE → Value
  | .ok s => .tuple #[.string s, .int .i64 0]
  | .error n => .tuple #[.string ⟨#[]⟩, .int .i64 (n : Int)]
def NoT (r : List UInt8 × Nat) : Prop := (r.2 ≠ 0 → r.1 = []) ∧ (r.2 = 0 → errQ r.1 = 0)
theorem resX_ex {r : List UInt8 × Nat} (h : NoT r) : resN r = resX (exQ r) := by
  unfold resN exQ
  split
  · rename_i h0; rw [h0]; rfl
  · rename_i h0; rw [h.1 h0]; rfl
theorem noT_out (q : Rat) : NoT (outQ q) := by
  unfold outQ
  split
  · exact ⟨fun _ => rfl, fun h => by cases h⟩
  · rename_i h
    refine ⟨fun h2 => absurd rfl h2, fun _ => ?_⟩
    have h1 : Lib.nDigits (nm q) ≤ maxD ∧ Lib.nDigits q.den ≤ maxD := by omega
    exact errQ_rat h1.1 h1.2
theorem noT_err (n : Nat) (h : n ≠ 0) : NoT ([], n) := ⟨fun _ => rfl, fun h2 => absurd h2 h⟩
theorem noT_div (p q : Rat) : NoT (divQ p q) := by
  unfold divQ
  split
  · exact noT_err 6 (by decide)
  · exact noT_out _
theorem noT_pow (q : Rat) (n : Int) : NoT (powQ q n) := by
  unfold powQ
  split
  · exact noT_err 6 (by decide)
  · exact noT_out _
theorem noT_one {f : Rat → List UInt8 × Nat} (h : ∀ q, NoT (f q)) (a : List UInt8) : NoT (oneQ f a) := by
  unfold oneQ
  split
  · rename_i h0; exact noT_err _ h0
  · exact h _
theorem noT_two {f : Rat → Rat → List UInt8 × Nat} (h : ∀ p q, NoT (f p q)) (a b : List UInt8) : NoT (twoQ f a b) := by
  unfold twoQ
  split
  · rename_i h0; exact noT_err _ h0
  · split
    · rename_i h0; exact noT_err _ h0
    · exact h _ _
theorem exQ_err {r : List UInt8 × Nat} {n : Nat} (h : exQ r = .error n) : n ≠ 0 := by
  unfold exQ at h
  split at h
  · cases h
  · rename_i h0; cases h; exact h0
theorem exQ_ok {r : List UInt8 × Nat} {s : ByteArray} (hr : NoT r) (h : exQ r = .ok s) : errQ s.data.toList = 0 := by
  unfold exQ at h
  split at h
  · rename_i h0; cases h; exact hr.2 h0
  · cases h
theorem size_ok {s : ByteArray} (h : errQ s.data.toList = 0) : s.size ≤ 270000 := (IsT.of h).size
def plX (a b : ByteArray) : XE := exQ (twoQ (fun p q => outQ (p + q)) a.data.toList b.data.toList)
def subX (a b : ByteArray) : XE := exQ (twoQ (fun p q => outQ (p + -q)) a.data.toList b.data.toList)
def mulX (a b : ByteArray) : XE := exQ (twoQ (fun p q => outQ (p * q)) a.data.toList b.data.toList)
def divX (a b : ByteArray) : XE := exQ (twoQ divQ a.data.toList b.data.toList)
def powX (a : ByteArray) (n : Int) : XE := exQ (oneQ (fun q => powQ q n) a.data.toList)
theorem plX_t (a b : ByteArray) : NoT (twoQ (fun p q => outQ (p + q)) a.data.toList b.data.toList) := noT_two (fun _ _ => noT_out _) _ _
theorem subX_t (a b : ByteArray) : NoT (twoQ (fun p q => outQ (p + -q)) a.data.toList b.data.toList) := noT_two (fun _ _ => noT_out _) _ _
theorem mulX_t (a b : ByteArray) : NoT (twoQ (fun p q => outQ (p * q)) a.data.toList b.data.toList) := noT_two (fun _ _ => noT_out _) _ _
theorem divX_t (a b : ByteArray) : NoT (twoQ divQ a.data.toList b.data.toList) := noT_two noT_div _ _
theorem powX_t (a : ByteArray) (n : Int) : NoT (oneQ (fun q => powQ q n) a.data.toList) := noT_one (fun q => noT_pow q n) _
theorem plX_ok {a b s : ByteArray} (h : plX a b = .ok s) : errQ s.data.toList = 0 := exQ_ok (plX_t a b) h
theorem subX_ok {a b s : ByteArray} (h : subX a b = .ok s) : errQ s.data.toList = 0 := exQ_ok (subX_t a b) h
theorem mulX_ok {a b s : ByteArray} (h : mulX a b = .ok s) : errQ s.data.toList = 0 := exQ_ok (mulX_t a b) h
theorem divX_ok {a b s : ByteArray} (h : divX a b = .ok s) : errQ s.data.toList = 0 := exQ_ok (divX_t a b) h
theorem powX_ok {a s : ByteArray} {n : Int} (h : powX a n = .ok s) : errQ s.data.toList = 0 := exQ_ok (powX_t a n) h
def zT : ByteArray := ⟨#[48]⟩
def oT : ByteArray := ⟨#[49]⟩
def maxX (a b : ByteArray) : XE :=
  if errQ a.data.toList ≠ 0 then .error (errQ a.data.toList) else if errQ b.data.toList ≠ 0 then .error (errQ b.data.toList) else .ok (if cmpQ (valQ a.data.toList) (valQ b.data.toList) < 0 then b else a)
theorem maxX_res (a b : ByteArray) : resS (chooseQ (twoI (fun p q => (cmpQ p q, 0)) a.data.toList b.data.toList) (-1) a b) = resX (maxX a b) := by
  unfold twoI maxX
  split
  · rename_i h; unfold chooseQ; rw [if_pos h]; rfl
  · split
    · rename_i h; unfold chooseQ; rw [if_pos h]; rfl
    · unfold chooseQ
      rw [if_neg (by simp)]
      dsimp only
      by_cases h : cmpQ (valQ a.data.toList) (valQ b.data.toList) < 0
      · rw [if_pos h, if_pos (by omega)]; rfl
      · rw [if_neg h, if_neg (by omega)]; rfl
def ltK (a b : ByteArray) : Bool := decide (a.data.toList < b.data.toList)
def posE (p : ByteArray) : Nat := if errQ p.data.toList ≠ 0 then errQ p.data.toList else if valQ p.data.toList < 0 then 2 else 0
def badK : Option ByteArray → ByteArray → Bool
  | none, _ => false
  | some k, x => !ltK k x
def chkL : Option ByteArray → List L2 → Nat
  | _, [] => 0
  | k, x :: l => if posE x.2 ≠ 0 then posE x.2 else if ¬ 0 < valQ x.2.data.toList then 2 else if badK k x.1 then 9 else chkL (some x.1) l
def foldX {α : Type} (g : α → XE) : ByteArray → List α → XE
  | s, [] => .ok s
  | s, x :: l => match g x with
    | .error n => .error n
    | .ok p => match plX s p with
      | .error n => .error n
      | .ok t => foldX g t l
def sumX (s : ByteArray) (l : List L2) : XE := foldX (fun x : L2 => .ok x.2) s l
def chkS : XE → Nat
  | .error n => n
  | .ok s => if s = oT then 0 else 15
def chkD (ls : List L2) : Nat := if chkL none ls ≠ 0 then chkL none ls else chkS (sumX zT ls)
def chk2 (a b : List L2) : Nat := if chkD a ≠ 0 then chkD a else chkD b
def atT : List L2 → ByteArray → ByteArray
  | [], _ => zT
  | x :: l, k => if x.1 = k then x.2 else atT l k
def hasT : List L2 → ByteArray → Bool
  | [], _ => false
  | x :: l, k => if x.1 = k then true else hasT l k
def insX : List L2 → L2 → Except Nat (List L2)
  | [], x => .ok [x]
  | y :: l, x => if ltK y.1 x.1 then
      (match insX l x with
        | .error n => .error n
        | .ok m => .ok (y :: m))
    else if y.1 = x.1 then
      (match plX y.2 x.2 with
        | .error n => .error n
        | .ok s => .ok ((y.1, s) :: l))
    else .ok (x :: y :: l)
def collX : List L2 → List L2 → Except Nat (List L2)
  | a, [] => .ok a
  | a, x :: l => match insX a x with
    | .error n => .error n
    | .ok b => collX b l
def posL : List L2 → Nat
  | [] => 0
  | x :: l => if posE x.2 ≠ 0 then posE x.2 else posL l
def keepX (l : List L2) : List L2 := l.filter fun x => decide (x.2 ≠ zT)
def doneX (l : List L2) : Except Nat (List L2) := if chkD (keepX l) ≠ 0 then .error (chkD (keepX l)) else .ok (keepX l)
def makeX (ls : List L2) : Except Nat (List L2) := if posL ls ≠ 0 then .error (posL ls) else match collX [] ls with
  | .error n => .error n
  | .ok a => doneX a
def turnX : List (ByteArray × ByteArray) → ByteArray → ByteArray
  | [], k => k
  | x :: l, k => if x.1 = k then x.2 else turnX l k
def pushX (d : List L2) (f t : List ByteArray) : Except Nat (List L2) := if chkD d ≠ 0 then .error (chkD d) else if f.length ≠ t.length then .error 3 else
  makeX (d.map fun x => (turnX (f.zip t) x.1, x.2))
def partX (f : ByteArray) (q : List L2) (m : L2) : XE := match mulX f (atT q m.1) with
  | .error n => .error n
  | .ok x => match subX m.2 x with
    | .error n => .error n
    | .ok y => maxX zT y
def deltaX (p q : List L2) (f : ByteArray) : XE := if chk2 p q ≠ 0 then .error (chk2 p q) else if posE f ≠ 0 then .error (posE f) else foldX (partX f q) zT p
def inX : List L2 → List L2 → Bool
  | [], _ => true
  | x :: l, q => if hasT q x.1 then inX l q else false
def resF : XE → Value
  | .ok s => .tuple #[.string s, .bool true, .int .i64 0]
  | .error n => .tuple #[.string ⟨#[]⟩, .bool false, .int .i64 (n : Int)]
def powsX (n : Int) (q : List L2) (m : L2) : XE := match powX m.2 n with
  | .error e => .error e
  | .ok x => match powX (atT q m.1) (n - 1) with
    | .error e => .error e
    | .ok y => divX x y
def momV (p q : List L2) (n : Int) : Value := if chk2 p q ≠ 0 then .tuple #[.string ⟨#[]⟩, .bool false, .int .i64 (chk2 p q : Int)] else if n < 1 ∨ 8 < n then .tuple #[.string ⟨#[]⟩, .bool false, .int .i64 2]
  else if inX p q = false then .tuple #[.string ⟨#[]⟩, .bool false, .int .i64 0] else resF (foldX (powsX n q) zT p)
theorem foldX_err {α : Type} {g : α → XE} {s : ByteArray} {x : α} {l : List α} {n : Nat} (h : g x = .error n) : foldX g s (x :: l) = .error n := by simp only [foldX, h]
theorem foldX_err2 {α : Type} {g : α → XE} {s p : ByteArray} {x : α} {l : List α} {n : Nat} (h : g x = .ok p) (h2 : plX s p = .error n) : foldX g s (x :: l) = .error n := by simp only [foldX, h, h2]
theorem foldX_ok {α : Type} {g : α → XE} {s p t : ByteArray} {x : α} {l : List α} (h : g x = .ok p) (h2 : plX s p = .ok t) : foldX g s (x :: l) = foldX g t l := by simp only [foldX, h, h2]
theorem drop_at {α : Type} {l : List α} {k : Nat} (h : k < l.length) : l.drop k = l[k] :: l.drop (k + 1) := by simp
theorem err_zT : errQ zT.data.toList = 0 := IsT.zero.err
theorem val_zT : valQ zT.data.toList = 0 := IsT.zero.val
theorem val_oT : valQ oT.data.toList = 1 := IsT.one.val
end Go.Proofs.YtigapglmipmbeaaGreatDoor
namespace Go.Proofs.YtigapglmipmbeaaGreatDoor
open Go.RowKit Go.Shelf
def Ret (F : FuncId) (args : Array Value) (v : Value) : Prop := ∀ w, Res w → Calls Tryz.prog F args w fun e w' => e = .returned v ∧ Below w.heap.size w w'
end Go.Proofs.YtigapglmipmbeaaGreatDoor
namespace Go.Proofs.YtigapglmipmbeaaGreatDoor
open Go.RowKit Go.Shelf
open Lim
section
variable {a b : ByteArray} (ha : a.size ≤ 270000) (hb : b.size ≤ 270000)
include ha hb
theorem retPlX : Ret 107 #[.string a, .string b] (resX (plX a b)) := fun w hr => by
  unfold plX
  rw [← resX_ex (plX_t a b)]
  exact ratAdd_any a b w ha hb hr
theorem retSubX : Ret 117 #[.string a, .string b] (resX (subX a b)) := fun w hr => by
  unfold subX
  rw [← resX_ex (subX_t a b)]
  exact ratSub_any a b w ha hb hr
theorem retMulX : Ret 130 #[.string a, .string b] (resX (mulX a b)) := fun w hr => by
  unfold mulX
  rw [← resX_ex (mulX_t a b)]
  exact ratMul_any a b w ha hb hr
theorem retDivX : Ret 133 #[.string a, .string b] (resX (divX a b)) := fun w hr => by
  unfold divX
  rw [← resX_ex (divX_t a b)]
  exact ratDiv_any a b w ha hb hr
theorem retMaxX : Ret 131 #[.string a, .string b] (resX (maxX a b)) := fun w hr => by
  rw [← maxX_res]
  exact ratMax_any a b w ha hb hr
end
theorem retPowX {a : ByteArray} (ha : a.size ≤ 270000) (n : Int) (h1 : -9223372036854775808 ≤ n) (h2 : n ≤ 9223372036854775807) : Ret 135 #[.string a, .int .i64 n] (resX (powX a n)) := fun w hr => by
  unfold powX
  rw [← resX_ex (powX_t a n)]
  exact ratPow_any a n w ha hr h1 h2
theorem lt_bytes (a b : ByteArray) : Op.bytesLess a.toList b.toList = ltK a b := by
  unfold ltK
  rw [bytesLess_eq, Lib.toList_data, Lib.toList_data]
theorem eq_bytes (a b : ByteArray) : (a.toList == b.toList) = decide (a = b) := by
  rw [Lib.toList_data, Lib.toList_data]
  by_cases h : a = b
  · subst h; simp
  · have h2 : a.data.toList ≠ b.data.toList := fun e => h (by
      cases a; cases b
      simp only [ByteArray.mk.injEq]
      exact Array.ext' e)
    rw [decide_eq_false h]
    exact beq_eq_false_iff_ne.2 h2
theorem oT_list : oT.toList = [49] := by rw [Lib.toList_data]; rfl
theorem zT_list : zT.toList = [48] := by rw [Lib.toList_data]; rfl
theorem ne_zero {n : Nat} (h : n ≠ 0) : ((n : Int) == 0) = false := by rw [beq_eq_false_iff_ne]; omega
theorem ne_zero2 {n : Nat} (h : n ≠ 0) : ((n : Int) != 0) = true := by unfold bne; rw [ne_zero h]; rfl
theorem num_neg_iff (q : Rat) : q.num < 0 ↔ q < 0 := by
  have h := Rat.num_nonneg (q := q)
  constructor
  · intro h2
    exact Classical.byContradiction fun h3 => absurd (h.2 (by grind)) (by omega)
  · intro h2
    exact Classical.byContradiction fun h3 => by
      have := h.1 (by omega)
      grind
theorem sg_lt (q : Rat) : sgQ q < 0 ↔ q < 0 := by
  rw [sgQ_num, ← num_neg_iff]
  split
  · rename_i h; exact ⟨fun _ => h, fun _ => by omega⟩
  · rename_i h
    split <;> exact ⟨fun h2 => absurd h2 (by omega), fun h2 => absurd h2 h⟩
theorem sg_gt (q : Rat) : 0 < sgQ q ↔ 0 < q := by
  rw [sgQ_num]
  have h1 := num_neg_iff q
  have h0 : q.num = 0 ↔ q = 0 := Rat.num_eq_zero
  split
  · rename_i h
    have := h1.1 h
    exact ⟨fun h2 => absurd h2 (by omega), fun h2 => by grind⟩
  · rename_i h
    have h4 : ¬ q < 0 := fun h5 => h (h1.2 h5)
    split
    · rename_i h3
      have := h0.1 h3
      exact ⟨fun h2 => absurd h2 (by omega), fun h2 => by grind⟩
    · rename_i h3
      have : q ≠ 0 := fun h5 => h3 (h0.2 h5)
      exact ⟨fun _ => by grind, fun _ => by omega⟩
end Go.Proofs.YtigapglmipmbeaaGreatDoor
namespace Go.Proofs.YtigapglmipmbeaaGreatDoor
open Go.RowKit Go.Shelf
open Lim
attribute [local go_sem] Oper.semAt_some
structure NW (w : World) (W : World) : Prop where
  below : Below w.heap.size w W
  res : Res W
theorem NW.refl {w : World} (hr : Res w) : NW w w := ⟨Below.refl _ _, hr⟩
theorem NW.later {w W W' : World} (h : NW w W) (hb : Below W.heap.size W W') : NW w W' := ⟨h.below.trans (hb.mono h.below.size), h.res.below hb⟩
theorem NW.alloc {w W : World} (h : NW w W) (o : Obj) : NW w (W.alloc o) := h.later (below_alloc (Below.refl _ _) _)
theorem NW.drewN {w W : World} (h : NW w W) (n : Nat) : NW w (W.drewN n) := h.later (below_drewN' (Below.refl _ _) n)
def posB (p : ByteArray) : Bool := decide (errQ p.data.toList = 0) && decide (0 < valQ p.data.toList)
set_option maxRecDepth 100000 in
set_option maxHeartbeats 2000000 in
theorem pos_err (p : ByteArray) (s z : Int) (w : World) (HS : Hid (Calls Tryz.prog 187 #[.string p] w fun e w' => e = .returned (.tuple #[.int .i64 s, .int .i64 z]) ∧ Below w.heap.size w w')) (hz : (z == 0) = false) :
    Calls Tryz.prog 106 #[.string p] w fun e w' => e = .returned (.tuple #[.bool (decide (0 < s)), .int .i64 z]) ∧ Below w.heap.size w w' := by
  go_enter Tryz.func106, Tryz.ntmps106
  go_wp2_with (go_at_call 187; refine HS.out.mono ?_; rintro e w1 ⟨rfl, hb⟩; have HB := Lib.hid hb; clear hb)
  go_ret2
  exact ⟨rfl, HB.out⟩
set_option maxRecDepth 100000 in
set_option maxHeartbeats 2000000 in
theorem pos_neg (p : ByteArray) (s : Int) (w : World) (HS : Hid (Calls Tryz.prog 187 #[.string p] w fun e w' => e = .returned (.tuple #[.int .i64 s, .int .i64 0]) ∧ Below w.heap.size w w')) (h1 : decide (s < 0) = true) :
    Calls Tryz.prog 106 #[.string p] w fun e w' => e = .returned (.tuple #[.bool (decide (0 < s)), .int .i64 2]) ∧ Below w.heap.size w w' := by
  go_enter Tryz.func106, Tryz.ntmps106
  go_wp2_with (go_at_call 187; refine HS.out.mono ?_; rintro e w1 ⟨rfl, hb⟩; have HB := Lib.hid hb; clear hb)
  go_ret2
  exact ⟨rfl, HB.out⟩
set_option maxRecDepth 100000 in
set_option maxHeartbeats 2000000 in
theorem pos_ok (p : ByteArray) (s : Int) (w : World) (HS : Hid (Calls Tryz.prog 187 #[.string p] w fun e w' => e = .returned (.tuple #[.int .i64 s, .int .i64 0]) ∧ Below w.heap.size w w')) (h1 : decide (s < 0) = false) :
    Calls Tryz.prog 106 #[.string p] w fun e w' => e = .returned (.tuple #[.bool (decide (0 < s)), .int .i64 0]) ∧ Below w.heap.size w w' := by
  go_enter Tryz.func106, Tryz.ntmps106
  go_wp2_with (go_at_call 187; refine HS.out.mono ?_; rintro e w1 ⟨rfl, hb⟩; have HB := Lib.hid hb; clear hb)
  go_ret2
  exact ⟨rfl, HB.out⟩
theorem positive_any {p : ByteArray} (hp : p.size ≤ 270000) : Ret 106 #[.string p] (.tuple #[.bool (posB p), .int .i64 (posE p : Int)]) := fun w hr => by
  have HS := ratSign_any p w hp hr
  unfold oneI resI at HS
  unfold posB posE
  by_cases he : errQ p.data.toList = 0
  · rw [if_neg (by simpa using he)] at HS
    rw [if_neg (by simpa using he), decide_eq_true he, Bool.true_and]
    dsimp only at HS
    have e1 : decide (0 < valQ p.data.toList) = decide (0 < sgQ (valQ p.data.toList)) := decide_eq_decide.2 (sg_gt _).symm
    rw [e1]
    by_cases hn : valQ p.data.toList < 0
    · rw [if_pos hn]
      exact pos_neg p _ w (Lib.hid HS) (decide_eq_true ((sg_lt _).2 hn))
    · rw [if_neg hn]
      exact pos_ok p _ w (Lib.hid HS) (decide_eq_false fun h => hn ((sg_lt _).1 h))
  · rw [if_pos he] at HS
    rw [if_pos he, decide_eq_false he, Bool.false_and]
    exact pos_err p 0 _ w (Lib.hid HS) (ne_zero he)
theorem runs_check1 : Runs 123 := runs_of Tryz.func123 (by kernel_rfl) (by kernel_rfl)
set_option maxRecDepth 100000 in
theorem check1_any (x : L2) (k : Int) (w : World) : Calls Tryz.prog 123 #[.int .i64 k, .agg #[.string x.1, .string x.2]] w fun e w' => e = .returned (.tuple #[.string x.2, .int .i64 0]) ∧ Below w.heap.size w w' := by
  have H := Lib.hid (below_alloc (Below.refl w.heap.size w) (.cells #[.string x.1, .string x.2] 30))
  go_enter Tryz.func123, Tryz.ntmps123
  go_wp2
  go_ret2
  exact ⟨rfl, H.out⟩
set_option maxRecDepth 100000 in
set_option maxHeartbeats 8000000 in
theorem dfold_any (F : FuncId) (cb : Array Value) (hrun : Runs F) (g : L2 → XE) (ls : List L2) (v : Value) (w : World) (hv : LRow w v ls) (hr : Res w) (hne : ∀ x n, g x = .error n → n ≠ 0) (hok : ∀ x ∈ ls, ∀ s, g x = .ok s → errQ s.data.toList = 0)
    (hg : ∀ (k : Nat) (x : L2), ls[k]? = some x → ∀ W, Below w.heap.size w W → Res W → Calls Tryz.prog F (#[.int .i64 (k : Int), .agg #[.string x.1, .string x.2]] ++ cb) W fun e W' => e = .returned (resX (g x)) ∧ Below W.heap.size W W') :
    Calls Tryz.prog 122 #[v, .func (.func F) #[] cb] w fun e w' => e = .returned (resX (foldX g zT ls)) ∧ Below w.heap.size w w' := by
  obtain ⟨A, c, rfl, hlen, hcells⟩ := hv
  have HCE := Lib.hid hcells
  have HG := Lib.hid hg
  have HOK := Lib.hid hok
  have HNE := Lib.hid hne
  have H0 := Lib.hid (NW.refl hr)
  have hrn := hrun
  unfold Runs at hrn
  clear hr hcells hg hok hne hrun
  go_enter Tryz.func122, Tryz.ntmps122
  go_wp2
  go_loopw [6, 13] (fun v6 v13 wr => ∃ (k : Nat) (s : ByteArray), k ≤ ls.length ∧ v13 = .int .i64 (k : Int) ∧ v6 = .string s ∧ Hid (errQ s.data.toList = 0 ∧ foldX g zT ls = foldX g s (ls.drop k)) ∧ Hid (NW w wr)) (fun _ v13 _ => ls.length - (intOf v13).toNat)
  case atStart => exact ⟨0, zT, Nat.zero_le _, rfl, rfl, Lib.hid ⟨err_zT, by simp⟩, H0⟩
  case round =>
    obtain ⟨k, s, hk, rfl, rfl, HE, HN⟩ := hrel
    by_cases hlt : k < ls.length
    · obtain ⟨b, o, rfl, hbw, hcell⟩ := HCE.out (by omega)
      obtain ⟨x, hx⟩ : ∃ x, ls[k]? = some x := ⟨_, List.getElem?_eq_getElem hlt⟩
      obtain ⟨c0, c1⟩ := hcell k x hx
      rw [← HN.out.below.cell (p := ⟨b, o + k * 2, none⟩) hbw] at c0
      rw [← HN.out.below.cell (p := ⟨b, o + k * 2 + 1, none⟩) hbw] at c1
      have hlt' : (k : Int) < (ls.length : Int) := by omega
      have hb2 : b < wr.heap.size := Nat.lt_of_lt_of_le hbw HN.out.below.size
      have HX := Lib.hid (HN.out.alloc (.cells #[.string x.1, .string x.2] 30))
      have HF := Lib.hid (HG.out k x hx _ HX.out.below HX.out.res)
      have HD := Lib.hid (show ls.drop k = x :: ls.drop (k + 1) by
        rw [List.drop_eq_getElem_cons hlt]
        rw [List.getElem?_eq_getElem hlt] at hx
        cases hx
        rfl)
      have HM := Lib.hid (List.mem_of_getElem? hx)
      have HLT := Lib.hid (And.intro hlt hlt')
      obtain ⟨f, d⟩ := x
      dsimp only at c0 c1 HX HF
      clear hcell hx hbw hlt
      cases hg : g (f, d) with
      | error m =>
        have HR := Lib.hid (show foldX g zT ls = .error m by rw [HE.out.2, HD.out, foldX_err hg])
        rw [hg] at HF
        change Hid (Calls _ _ _ _ fun e w' => e = .returned (.tuple #[.string ⟨#[]⟩, .int .i64 (m : Int)]) ∧ _) at HF
        have hm : ((m : Int) == 0) = false := ne_zero (HNE.out _ _ hg)
        have HF2 := HF.out
        clear HF hg
        go_wp2
        refine HF2.mono ?_
        rintro e w3 ⟨rfl, hb⟩
        have H3 := Lib.hid (HX.out.later hb)
        clear hb
        go_wp2
        go_ret2
        rw [HR.out]
        exact ⟨rfl, H3.out.below⟩
      | ok p =>
        have HA := Lib.hid (retPlX (size_ok HE.out.1) (size_ok (HOK.out _ HM.out p hg)))
        rw [hg] at HF
        change Hid (Calls _ _ _ _ fun e w' => e = .returned (.tuple #[.string p, .int .i64 0]) ∧ _) at HF
        have HF2 := HF.out
        cases ha : plX s p with
        | error n =>
          have HR := Lib.hid (show foldX g zT ls = .error n by rw [HE.out.2, HD.out, foldX_err2 hg ha])
          have hm : ((n : Int) == 0) = false := ne_zero (exQ_err ha)
          rw [ha] at HA
          change Hid (Ret _ _ (.tuple #[.string ⟨#[]⟩, .int .i64 (n : Int)])) at HA
          clear HF hg ha
          go_wp2
          refine HF2.mono ?_
          rintro e w3 ⟨rfl, hb⟩
          have H3 := Lib.hid (HX.out.later hb)
          clear hb HF2
          go_wp2_with (go_at_call 107; refine (HA.out _ H3.out.res).mono ?_; rintro e w4 ⟨rfl, hb⟩; have H4 := Lib.hid (H3.out.later hb); clear hb)
          go_ret2
          rw [HR.out]
          exact ⟨rfl, H4.out.below⟩
        | ok t =>
          have HR := Lib.hid (show errQ t.data.toList = 0 ∧ foldX g zT ls = foldX g t (ls.drop (k + 1)) from ⟨plX_ok ha, by rw [HE.out.2, HD.out, foldX_ok hg ha]⟩)
          rw [ha] at HA
          change Hid (Ret _ _ (.tuple #[.string t, .int .i64 0])) at HA
          clear HF hg ha
          go_wp2
          refine HF2.mono ?_
          rintro e w3 ⟨rfl, hb⟩
          have H3 := Lib.hid (HX.out.later hb)
          clear hb HF2
          go_wp2_with (go_at_call 107; refine (HA.out _ H3.out.res).mono ?_; rintro e w4 ⟨rfl, hb⟩; have H4 := Lib.hid (H3.out.later hb); clear hb)
          go_roundw
          case rel => exact ⟨k + 1, t, HLT.out.1, by go_num, rfl, HR, H4⟩
          case measure => have := HLT.out.1; simp [intOf]; omega
    · have hlt' : ¬ (k : Int) < (ls.length : Int) := by omega
      obtain rfl : k = ls.length := by omega
      have HE2 := Lib.hid (show foldX g zT ls = .ok s by
        have := HE.out.2
        rwa [List.drop_length] at this)
      clear hlt
      go_wp2
      go_ret2
      rw [HE2.out]
      exact ⟨rfl, HN.out.below⟩
end Go.Proofs.YtigapglmipmbeaaGreatDoor
namespace Go.Proofs.YtigapglmipmbeaaGreatDoor
open Go.RowKit Go.Shelf
open Lim
end Go.Proofs.YtigapglmipmbeaaGreatDoor
namespace Go.Proofs.YtigapglmipmbeaaGreatDoor
open Lim
abbrev DL := List (ByteArray × Rat)
def sumBy {α : Type} (f : α → Rat) : List α → Rat
  | [] => 0
  | a :: l => f a + sumBy f l
def pos (x : Rat) : Rat := if 0 < x then x else 0
theorem pos_nonneg (x : Rat) : 0 ≤ pos x := by unfold pos; split <;> grind
theorem pos_le {x y : Rat} (h : x ≤ y) (h0 : 0 ≤ y) : pos x ≤ y := by unfold pos; split <;> grind
theorem pos_add (x y : Rat) : pos (x + y) ≤ pos x + pos y := by unfold pos; split <;> split <;> split <;> grind
theorem pos_of {x : Rat} (h : x ≤ 0) : pos x = 0 := by unfold pos; rw [if_neg (by grind)]
section
variable {α β : Type} {f g : α → Rat} {l m : List α}
theorem sumBy_congr (h : ∀ a ∈ l, f a = g a) : sumBy f l = sumBy g l := by
  induction l with
  | nil => rfl
  | cons a l ih =>
    simp only [sumBy]
    rw [h a (by simp), ih fun b hb => h b (by simp [hb])]
theorem sumBy_le (h : ∀ a ∈ l, f a ≤ g a) : sumBy f l ≤ sumBy g l := by
  induction l with
  | nil => exact Rat.le_refl
  | cons a l ih =>
    simp only [sumBy]
    have h1 := h a (by simp)
    have h2 := ih fun b hb => h b (by simp [hb])
    grind
theorem sumBy_nonneg (h : ∀ a ∈ l, 0 ≤ f a) : 0 ≤ sumBy f l := by
  induction l with
  | nil => exact Rat.le_refl
  | cons a l ih =>
    simp only [sumBy]
    have h1 := h a (by simp)
    have h2 := ih fun b hb => h b (by simp [hb])
    grind
theorem le_sumBy (h : ∀ a ∈ l, 0 ≤ f a) {a : α} (ha : a ∈ l) : f a ≤ sumBy f l := by
  induction l with
  | nil => cases ha
  | cons b l ih =>
    simp only [sumBy]
    have h1 := h b (by simp)
    have h2 : 0 ≤ sumBy f l := sumBy_nonneg fun b hb => h b (by simp [hb])
    rcases List.mem_cons.1 ha with rfl | ha
    · grind
    · have := ih (fun b hb => h b (by simp [hb])) ha
      grind
theorem sumBy_zero (h : ∀ a ∈ l, f a = 0) : sumBy f l = 0 := by
  induction l with
  | nil => rfl
  | cons a l ih =>
    simp only [sumBy]
    rw [h a (by simp), ih fun b hb => h b (by simp [hb])]
    grind
theorem sumBy_add (f g : α → Rat) (l : List α) : sumBy (fun a => f a + g a) l = sumBy f l + sumBy g l := by
  induction l with
  | nil => simp only [sumBy]; grind
  | cons a l ih => simp only [sumBy]; rw [ih]; grind
theorem sumBy_mul (c : Rat) (f : α → Rat) (l : List α) : sumBy (fun a => c * f a) l = c * sumBy f l := by
  induction l with
  | nil => simp [sumBy]
  | cons a l ih => simp only [sumBy]; rw [ih]; grind
theorem sumBy_map (h : β → α) (f : α → Rat) (l : List β) : sumBy f (l.map h) = sumBy (fun b => f (h b)) l := by
  induction l with
  | nil => rfl
  | cons a l ih => simp only [List.map_cons, sumBy]; rw [ih]
theorem sumBy_perm (h : l.Perm m) : sumBy f l = sumBy f m := by
  induction h with
  | nil => rfl
  | cons a _ ih => simp only [sumBy]; rw [ih]
  | swap a b l => simp only [sumBy]; grind
  | trans _ _ h1 h2 => rw [h1, h2]
theorem sumBy_sub [DecidableEq α] : ∀ {l m : List α}, l.Nodup → m.Nodup → (∀ a ∈ l, a ∈ m) → (∀ a ∈ m, a ∉ l → f a = 0) → sumBy f m = sumBy f l
  | [], m, _, _, _, h0 => by
    rw [sumBy_zero fun a ha => h0 a ha (by simp)]
    rfl
  | a :: l, m, hl, hm, hs, h0 => by
    have ha : a ∈ m := hs a (by simp)
    rw [sumBy_perm (List.perm_cons_erase ha)]
    simp only [sumBy]
    rw [List.nodup_cons] at hl
    rw [sumBy_sub (l := l) hl.2 (hm.erase a) (fun b hb => ?_) (fun b hb hn => ?_)]
    · refine (List.mem_erase_of_ne ?_).2 (hs b (by simp [hb]))
      rintro rfl
      exact hl.1 hb
    · have h1 := (hm.mem_erase_iff).1 hb
      exact h0 b h1.2 (by simp [hn, h1.1])
end
def massD (l : DL) (k : ByteArray) : Rat := sumBy (fun e => if e.1 = k then e.2 else 0) l
def keysD (l : DL) : List ByteArray := l.map (·.1)
theorem massD_cons (e : ByteArray × Rat) (l : DL) (k : ByteArray) : massD (e :: l) k = (if e.1 = k then e.2 else 0) + massD l k := rfl
theorem massD_none {l : DL} {k : ByteArray} (h : k ∉ keysD l) : massD l k = 0 := by
  refine sumBy_zero fun e he => if_neg ?_
  rintro rfl
  exact h (List.mem_map_of_mem he)
theorem massD_at {l : DL} (hn : (keysD l).Nodup) {e : ByteArray × Rat} (he : e ∈ l) : massD l e.1 = e.2 := by
  induction l with
  | nil => cases he
  | cons a l ih =>
    have hn2 : a.1 ∉ keysD l ∧ (keysD l).Nodup := List.nodup_cons.1 hn
    rw [massD_cons]
    rcases List.mem_cons.1 he with rfl | h
    · rw [if_pos rfl, massD_none hn2.1, Rat.add_zero]
    · have hk : e.1 ∈ keysD l := List.mem_map_of_mem h
      rw [if_neg (fun h2 => hn2.1 (by rw [h2]; exact hk)), ih hn2.2 h, Rat.zero_add]
theorem sum_key {K : List ByteArray} (hK : K.Nodup) {k : ByteArray} (hk : k ∈ K) (c : ByteArray → Rat) (x : Rat) : sumBy (fun j => c j * (if k = j then x else 0)) K = c k * x := by
  rw [sumBy_sub (l := [k]) (by simp) hK (by simpa using hk) (fun a _ hn => by rw [if_neg (fun h => hn (by simp [h])), Rat.mul_zero])]
  show c k * (if k = k then x else 0) + 0 = c k * x
  rw [if_pos rfl, Rat.add_zero]
theorem sum_mass {K : List ByteArray} (hK : K.Nodup) (c : ByteArray → Rat) : ∀ {l : DL}, (∀ k ∈ keysD l, k ∈ K) → sumBy (fun k => c k * massD l k) K = sumBy (fun e => c e.1 * e.2) l
  | [], _ => sumBy_zero fun a _ => Rat.mul_zero _
  | e :: l, h => by
    have e1 : sumBy (fun k => c k * massD (e :: l) k) K = sumBy (fun k => c k * (if e.1 = k then e.2 else 0) + c k * massD l k) K :=
      sumBy_congr fun k _ => by rw [massD_cons, Rat.mul_add]
    rw [e1, sumBy_add, sum_key hK (h e.1 (by simp [keysD])) c e.2, sum_mass hK c (l := l) fun k hk => h k (by
      unfold keysD at hk ⊢
      simp only [List.map_cons, List.mem_cons]
      exact .inr hk)]
    rfl
theorem sum_mass1 {K : List ByteArray} (hK : K.Nodup) {l : DL} (h : ∀ k ∈ keysD l, k ∈ K) : sumBy (fun k => massD l k) K = sumBy (fun e => e.2) l := by
  have := sum_mass hK (fun _ => 1) h
  simp only [Rat.one_mul] at this
  exact this
structure IsD (d : DL) : Prop where
  once : (keysD d).Nodup
  plus : ∀ e ∈ d, 0 < e.2
  one : sumBy (fun e => e.2) d = 1
theorem IsD.zero {d : DL} (h : IsD d) (k : ByteArray) : 0 ≤ massD d k :=
  sumBy_nonneg fun e he => by have := h.plus e he; split <;> grind
theorem IsD.sum {d : DL} (hn : (keysD d).Nodup) (h : ByteArray → Rat → Rat) : sumBy (fun e => h e.1 e.2) d = sumBy (fun k => h k (massD d k)) (keysD d) := by
  unfold keysD
  rw [sumBy_map]
  exact sumBy_congr fun e he => by rw [massD_at hn he]
theorem once_list : ∀ l : List ByteArray, ∃ K : List ByteArray, K.Nodup ∧ ∀ k, k ∈ K ↔ k ∈ l
  | [] => ⟨[], by simp, by simp⟩
  | a :: l => by
    obtain ⟨K, h1, h2⟩ := once_list l
    by_cases h : a ∈ K
    · refine ⟨K, h1, fun k => ?_⟩
      rw [h2, List.mem_cons]
      constructor
      · exact .inr
      · rintro (rfl | h3)
        · exact (h2 k).1 h
        · exact h3
    · refine ⟨a :: K, List.nodup_cons.2 ⟨h, h1⟩, fun k => ?_⟩
      rw [List.mem_cons, List.mem_cons, h2]
def deltaD (p q : DL) (f : Rat) : Rat := sumBy (fun e => pos (e.2 - f * massD q e.1)) p
theorem delta_keys {p : DL} (hn : (keysD p).Nodup) (q : DL) (f : Rat) : deltaD p q f = sumBy (fun k => pos (massD p k - f * massD q k)) (keysD p) :=
  IsD.sum hn fun k x => pos (x - f * massD q k)
theorem delta_over {p q : DL} (hp : IsD p) (hq : IsD q) {f : Rat} (hf : 0 ≤ f) {K : List ByteArray} (hK : K.Nodup) (hs : ∀ k ∈ keysD p, k ∈ K) :
    deltaD p q f = sumBy (fun k => pos (massD p k - f * massD q k)) K := by
  rw [delta_keys hp.once, sumBy_sub hp.once hK hs]
  intro k _ hn
  rw [massD_none hn]
  have := Rat.mul_nonneg hf (hq.zero k)
  exact pos_of (by grind)
theorem delta_nonneg (p q : DL) (f : Rat) : 0 ≤ deltaD p q f := sumBy_nonneg fun _ _ => pos_nonneg _
theorem delta_top {p q : DL} (hp : IsD p) (hq : IsD q) {f : Rat} (hf : 0 ≤ f) : deltaD p q f ≤ 1 := by
  rw [← hp.one]
  refine sumBy_le fun e he => ?_
  have h1 := Rat.mul_nonneg hf (hq.zero e.1)
  have h2 := hp.plus e he
  exact pos_le (by grind) (by grind)
end Go.Proofs.YtigapglmipmbeaaGreatDoor
