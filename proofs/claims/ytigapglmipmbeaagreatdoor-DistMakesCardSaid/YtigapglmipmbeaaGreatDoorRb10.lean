/- rat: Sign, Cmp, choose, Min, Max, Int, Parts. Rounding of rational numbers by their parts. No program in sight. rat: round, Floor, Ceil (printed by mkrate.py). More functions of rat on texts of numbers: comparisons, rounding. Losses in plain rationals: what Check, Add, Max, Fits, Group, Late, Alpha, Beta and Half compute. Computations that are left by a panic: must, and the deferred ends that turns the error into a result. loss.order and loss.Check. loss.Check. loss.valid: the first error of a list of losses leaves the computation. The functions of chapter 8 on texts: what the program and the reference compute. No program in sight. What a call returns in every world, new memory aside. The program's functions of numbers, as the plain model of chapter 8 speaks of them. dist: positive, fold, Check, checked. The order and the sums of losses, in plain rationals. Distributions in plain rationals: sums over keys, and what Delta, Factor, Moment, Push, Product and Mix obey. No program in sight. -/
import Derived.Test.YtigapglmipmbeaaGreatDoorRb09
import Derived.Test.YtigapglmipmbeaaGreatDoorRb05
import Derived.Test.YtigapglmipmbeaaGreatDoorRb08
import Derived.Recover
import Derived.Defers
import Derived.Sort.Walk0
import Derived.BigQuiet
set_option maxRecDepth 100000
set_option maxHeartbeats 16000000
namespace Go.Proofs.YtigapglmipmbeaaGreatDoor
open Go.RowKit Go.Shelf
open Lim
def resI (x:Int × Nat):Value:=.tuple #[.int .i64 x.1,.int .i64 (x.2:Int)]
def oneI (f:Rat→Int × Nat) (a:List UInt8):Int × Nat:=if errQ a≠0 then (0,errQ a) else f (valQ a)
def twoI (f:Rat→Rat→Int × Nat) (a b:List UInt8):Int × Nat:=if errQ a≠0 then (0,errQ a) else if errQ b≠0 then (0,errQ b) else f (valQ a) (valQ b)
theorem withI_any (F:FuncId) (hrun:Runs F) (caps:Array Value) (g:Rat→Int × Nat) (a:ByteArray) (w:World) (ha:a.size≤270000) (hr:Res w)
  (hF:∀ p v w',Below w.heap.size w w'→Res w'→IsFrac w' v p→Sz maxD p→Calls Tryz.prog F (#[v] ++ caps) w' fun e w''=>e = .returned (resI (g p))∧Below w'.heap.size w' w'') :
  Calls Tryz.prog 241 #[.string a,.func (.func F) #[] caps] w fun e w'=>e = .returned (resI (oneI g a.data.toList))∧Below w.heap.size w w':=by
 by_cases h1:errQ a.data.toList = 0
 ·unfold oneI
  rw [if_neg (by omega)]
  exact WI.with_ok F hrun caps (.int .i64 (g (valQ a.data.toList)).1) _ a w ha hr h1 (fun v w' hb hr' hv=>hF _ v w' hb hr' hv (sz_max h1))
 ·unfold oneI
  rw [if_pos h1]
  exact WI.with_err a _ w ha hr h1
theorem bothI_any (F:FuncId) (hrun:Runs F) (g:Rat→Rat→Int × Nat) (a b:ByteArray) (w:World) (ha:a.size≤270000) (hb:b.size≤270000) (hr:Res w)
  (hF:∀ p q v v' w',Res w'→IsFrac w' v p→IsFrac w' v' q→Sz maxD p→Sz maxD q→Calls Tryz.prog F #[v,v'] w' fun e w''=>e = .returned (resI (g p q))∧Below w'.heap.size w' w'') :
  Calls Tryz.prog 196 #[.string a,.string b,.func (.func F) #[] #[]] w fun e w'=>e = .returned (resI (twoI g a.data.toList b.data.toList))∧Below w.heap.size w w':=by
 refine (WI.both_any F hrun (fun p q=>(.int .i64 (g p q).1,((g p q).2:Int))) a b w ha hb hr (fun v v' w' _ hr' hv hv' h1 h2=>hF _ _ v v' w' hr' hv hv' (sz_max h1) (sz_max h2))).mono ?_
 rintro e w' ⟨rfl,hB⟩
 refine ⟨?_,hB⟩
 unfold twoI resI
 split
 ·rfl
 ·split <;> rfl
theorem runs_Sign:Runs 242:=runs_of Tryz.func242 (by kernel_rfl) (by kernel_rfl)
theorem Sign1_any (p:Rat) (v:Value) (w:World) (hv:IsFrac w v p) :
  Calls Tryz.prog 242 #[v] w fun e w'=>e = .returned (resI (sgQ p,0))∧Below w.heap.size w w':=by
 obtain ⟨bq,N,D,A,c,A',c',rfl,hn,hd,HQ⟩:=isFrac_open hv
 have HX:=Lib.hid (below_alloc (Below.refl w.heap.size w) (.cells #[.bool bq,.slice A (toL N).length c,.slice A' (toL D).length c'] 216))
 have HF:=Lib.hid (sign_any p _ _ (hv.below HX.out))
 generalize sgQ p = r at HF ⊢
 clear hv hn hd
 go_enter Tryz.func242,Tryz.ntmps242
 go_wp2_with (go_at_call 211;refine HF.out.mono ?_;rintro e w1 ⟨rfl,hb1⟩;have HB1:=Lib.hid (HX.out.trans (hb1.mono HX.out.size));clear hb1)
 refine bodyPost_ret (results_tmp2 rfl _ _ _) rfl ?_
 exact ⟨rfl,HB1.out⟩
theorem ratSign_any (a:ByteArray) (w:World) (ha:a.size≤270000) (hr:Res w) :
  Calls Tryz.prog 187 #[.string a] w fun e w'=>e = .returned (resI (oneI (fun p=>(sgQ p,0)) a.data.toList))∧Below w.heap.size w w':=by
 have HB:=Lib.hid (withI_any 242 runs_Sign #[] (fun p=>(sgQ p,0)) a w ha hr (fun p v w' _ _ hv _=>Sign1_any p v w' hv))
 generalize oneI (fun p=>(sgQ p,0)) a.data.toList = r at HB ⊢
 clear hr
 go_enter Tryz.func187,Tryz.ntmps187
 go_wp2_with (go_at_call 241;refine HB.out.mono ?_;rintro e w2 ⟨rfl,hb2⟩;have HB2:=Lib.hid hb2;clear hb2;unfold resI)
 refine bodyPost_ret (results_tmp2 rfl _ _ _) rfl ?_
 exact ⟨rfl,HB2.out⟩
theorem runs_Cmp:Runs 197:=runs_of Tryz.func197 (by kernel_rfl) (by kernel_rfl)
theorem Cmp1_any (p q:Rat) (v v':Value) (w:World) (hv:IsFrac w v p) (hv':IsFrac w v' q) (sp:Sz maxD p) (sq:Sz maxD q) :
  Calls Tryz.prog 197 #[v,v'] w fun e w'=>e = .returned (resI (cmpQ p q,0))∧Below w.heap.size w w':=by
 obtain ⟨lp,lp'⟩:=sz_limbs sp
 obtain ⟨lq,lq'⟩:=sz_limbs sq
 obtain ⟨bq,N,D,A,c,A',c',rfl,hn,hd,HQ⟩:=isFrac_open hv
 obtain ⟨bq',N',D',B,d,B',d',rfl,hn',hd',HQ'⟩:=isFrac_open hv'
 have HX:=Lib.hid (below_alloc (below_alloc (Below.refl w.heap.size w) (.cells #[.bool bq,.slice A (toL N).length c,.slice A' (toL D).length c'] 216)) (.cells #[.bool bq',.slice B (toL N').length d,.slice B' (toL D').length d'] 216))
 have HF:=Lib.hid (fcmp_any p q _ _ _ (hv.below HX.out) (hv'.below HX.out) (by omega) (by omega) (by omega) (by omega))
 generalize cmpQ p q = r at HF ⊢
 clear hv hv' hn hd hn' hd' sp sq lp lp' lq lq'
 go_enter Tryz.func197,Tryz.ntmps197
 go_wp2_with (go_at_call 198;refine HF.out.mono ?_;rintro e w1 ⟨k,rfl,hk,hb1⟩;subst hk;have HB1:=Lib.hid (HX.out.trans (hb1.mono HX.out.size));clear hb1)
 refine bodyPost_ret (results_tmp2 rfl _ _ _) rfl ?_
 exact ⟨rfl,HB1.out⟩
theorem ratCmp_any (a b:ByteArray) (w:World) (ha:a.size≤270000) (hb:b.size≤270000) (hr:Res w) :
  Calls Tryz.prog 116 #[.string a,.string b] w fun e w'=>e = .returned (resI (twoI (fun p q=>(cmpQ p q,0)) a.data.toList b.data.toList))∧Below w.heap.size w w':=by
 have HB:=Lib.hid (bothI_any 197 runs_Cmp (fun p q=>(cmpQ p q,0)) a b w ha hb hr (fun p q v v' w' _ hv hv' sp sq=>Cmp1_any p q v v' w' hv hv' sp sq))
 generalize twoI (fun p q=>(cmpQ p q,0)) a.data.toList b.data.toList = r at HB ⊢
 clear hr
 go_enter Tryz.func116,Tryz.ntmps116
 go_wp2_with (go_at_call 196;refine HB.out.mono ?_;rintro e w2 ⟨rfl,hb2⟩;have HB2:=Lib.hid hb2;clear hb2;unfold resI)
 refine bodyPost_ret (results_tmp2 rfl _ _ _) rfl ?_
 exact ⟨rfl,HB2.out⟩
def chooseQ (x:Int × Nat) (s:Int) (a b:ByteArray):ByteArray × Nat:=if x.2≠0 then (⟨#[]⟩,x.2) else if x.1 * s > 0 then (b,0) else (a,0)
def resS (x:ByteArray × Nat):Value:=.tuple #[.string x.1,.int .i64 (x.2:Int)]
theorem twoI_bound (a b:List UInt8):-1≤(twoI (fun p q=>(cmpQ p q,0)) a b).1∧(twoI (fun p q=>(cmpQ p q,0)) a b).1≤1:=by
 unfold twoI
 split
 ·show (-1:Int)≤0∧(0:Int)≤1;omega
 ·split
  ·show (-1:Int)≤0∧(0:Int)≤1;omega
  ·rcases cmpQ_cases (valQ a) (valQ b) with h | h | h <;> simp [h]
theorem choose_any (a b:ByteArray) (s:Int) (w:World) (ha:a.size≤270000) (hb:b.size≤270000) (hr:Res w) (hs:s = 1 ∨ s = -1) :
  Calls Tryz.prog 207 #[.string a,.string b,.int .i64 s] w fun e w'=>e = .returned (resS (chooseQ (twoI (fun p q=>(cmpQ p q,0)) a.data.toList b.data.toList) s a b))∧Below w.heap.size w w':=by
 have HB:=Lib.hid (ratCmp_any a b w ha hb hr)
 obtain ⟨z1,z2⟩:=twoI_bound a.data.toList b.data.toList
 generalize twoI (fun p q=>(cmpQ p q,0)) a.data.toList b.data.toList = r at HB z1 z2 ⊢
 obtain ⟨k,e0⟩:=r
 dsimp only at z1 z2
 unfold resI at HB
 unfold chooseQ resS
 dsimp only at HB ⊢
 clear hr
 by_cases he:e0 = 0
 ·subst he
  have hks:-1≤k * s∧k * s≤1:=by rcases hs with rfl | rfl <;> omega
  rw [if_neg (by omega)]
  by_cases hp:k * s > 0
  ·rw [if_pos hp]
   have hp':decide (k * s > 0) = true:=decide_eq_true hp
   go_enter Tryz.func207,Tryz.ntmps207
   go_wp2_with (go_at_call 116;refine HB.out.mono ?_;rintro e w2 ⟨rfl,hb2⟩;have HB2:=Lib.hid hb2;clear hb2)
   refine bodyPost_ret (results_tmp2 rfl _ _ _) rfl ?_
   exact ⟨rfl,HB2.out⟩
  ·rw [if_neg hp]
   have hp':decide (k * s > 0) = false:=decide_eq_false hp
   go_enter Tryz.func207,Tryz.ntmps207
   go_wp2_with (go_at_call 116;refine HB.out.mono ?_;rintro e w2 ⟨rfl,hb2⟩;have HB2:=Lib.hid hb2;clear hb2)
   refine bodyPost_ret (results_tmp2 rfl _ _ _) rfl ?_
   exact ⟨rfl,HB2.out⟩
 ·rw [if_pos he]
  have hne:((e0:Int) == 0) = false:=by rw [beq_eq_false_iff_ne];omega
  have HE:=Lib.hid he
  clear he
  go_enter Tryz.func207,Tryz.ntmps207
  go_wp2_with (go_at_call 116;refine HB.out.mono ?_;rintro e w2 ⟨rfl,hb2⟩;have HB2:=Lib.hid hb2;clear hb2)
  refine bodyPost_ret (results_tmp2 rfl _ _ _) rfl ?_
  exact ⟨rfl,HB2.out⟩
theorem ratMin_any (a b:ByteArray) (w:World) (ha:a.size≤270000) (hb:b.size≤270000) (hr:Res w) :
  Calls Tryz.prog 143 #[.string a,.string b] w fun e w'=>e = .returned (resS (chooseQ (twoI (fun p q=>(cmpQ p q,0)) a.data.toList b.data.toList) 1 a b))∧Below w.heap.size w w':=by
 have HB:=Lib.hid (choose_any a b 1 w ha hb hr (.inl rfl))
 generalize chooseQ (twoI (fun p q=>(cmpQ p q,0)) a.data.toList b.data.toList) 1 a b = r at HB ⊢
 clear hr
 go_enter Tryz.func143,Tryz.ntmps143
 go_wp2_with (go_at_call 207;refine HB.out.mono ?_;rintro e w2 ⟨rfl,hb2⟩;have HB2:=Lib.hid hb2;clear hb2;unfold resS)
 refine bodyPost_ret (results_tmp2 rfl _ _ _) rfl ?_
 exact ⟨rfl,HB2.out⟩
theorem ratMax_any (a b:ByteArray) (w:World) (ha:a.size≤270000) (hb:b.size≤270000) (hr:Res w) :
  Calls Tryz.prog 131 #[.string a,.string b] w fun e w'=>e = .returned (resS (chooseQ (twoI (fun p q=>(cmpQ p q,0)) a.data.toList b.data.toList) (-1) a b))∧Below w.heap.size w w':=by
 have HB:=Lib.hid (choose_any a b (-1) w ha hb hr (.inr rfl))
 generalize chooseQ (twoI (fun p q=>(cmpQ p q,0)) a.data.toList b.data.toList) (-1) a b = r at HB ⊢
 clear hr
 go_enter Tryz.func131,Tryz.ntmps131
 go_wp2_with (go_at_call 207;refine HB.out.mono ?_;rintro e w2 ⟨rfl,hb2⟩;have HB2:=Lib.hid hb2;clear hb2;unfold resS)
 refine bodyPost_ret (results_tmp2 rfl _ _ _) rfl ?_
 exact ⟨rfl,HB2.out⟩
end Go.Proofs.YtigapglmipmbeaaGreatDoor
namespace Go.Proofs.YtigapglmipmbeaaGreatDoor
open Lim
end Go.Proofs.YtigapglmipmbeaaGreatDoor
namespace Go.Proofs.YtigapglmipmbeaaGreatDoor
open Go.RowKit Go.Shelf
open Lim
end Go.Proofs.YtigapglmipmbeaaGreatDoor
namespace Go.Proofs.YtigapglmipmbeaaGreatDoor
open Go.RowKit Go.Shelf
open Lim
theorem two_I {f:Rat→Rat→Int × Nat} {a b:ByteArray} {p q:Rat} (ha:IsT a p) (hb:IsT b q):twoI f a.data.toList b.data.toList = f p q:=by
 unfold twoI;rw [ha.err,hb.err,ha.val,hb.val];rfl
section
variable {a b c:ByteArray} {p q:Rat} (w:World)
theorem cmpT {k:Int} (ha:IsT a p) (hb:IsT b q) (hk:cmpQ p q = k) (hr:Res w) :
  Calls Tryz.prog 116 #[.string a,.string b] w fun e w'=>e = .returned (.tuple #[.int .i64 k,.int .i64 0])∧Below w.heap.size w w':=by
 refine (ratCmp_any a b w ha.size hb.size hr).mono ?_
 rintro e w' ⟨rfl,h⟩
 rw [two_I ha hb,hk]
 exact ⟨rfl,h⟩
theorem minT (ha:IsT a p) (hb:IsT b q) (hc:c = if cmpQ p q > 0 then b else a) (hr:Res w) :
  Calls Tryz.prog 143 #[.string a,.string b] w fun e w'=>e = .returned (.tuple #[.string c,.int .i64 0])∧Below w.heap.size w w':=by
 refine (ratMin_any a b w ha.size hb.size hr).mono ?_
 rintro e w' ⟨rfl,h⟩
 refine ⟨?_,h⟩
 rw [two_I ha hb,hc]
 unfold chooseQ resS
 simp only [ne_eq,not_true_eq_false,if_false,Int.mul_one]
 split <;> rfl
end
end Go.Proofs.YtigapglmipmbeaaGreatDoor
namespace Go.Proofs.YtigapglmipmbeaaGreatDoor
open Go.RowKit Go.Shelf
open Lim
def rT (q:Rat):ByteArray:=⟨(ratText q).toArray⟩
def fits (q:Rat):Bool:=!(decide (maxD < Lib.nDigits (nm q) ∨ maxD < Lib.nDigits q.den))
theorem fits_sz {q:Rat}:fits q = true↔Sz maxD q:=by
 rw [sz_iff (by decide)]
 unfold fits
 rw [Bool.not_eq_true',decide_eq_false_iff_not]
 omega
theorem IsT.fits {a:ByteArray} {q:Rat} (h:IsT a q):fits q = true:=fits_sz.2 h.2
theorem isT_rT {q:Rat} (h:fits q = true):IsT (rT q) q:=⟨rfl,fits_sz.1 h⟩
theorem IsT.text {a:ByteArray} {q:Rat} (h:IsT a q):a = rT q:=h.1
def ovr (q:Rat):Except Nat Rat:=if fits q then .ok q else .error 5
def resE:Except Nat Rat→Value
 | .ok q=>.tuple #[.string (rT q),.int .i64 0]
 | .error n=>.tuple #[.string ⟨#[]⟩,.int .i64 (n:Int)]
theorem out_ovr (q:Rat):resN (outQ q) = resE (ovr q):=by
 unfold outQ ovr fits
 by_cases h:maxD < Lib.nDigits (nm q) ∨ maxD < Lib.nDigits q.den
 ·rw [if_pos h,decide_eq_true h];rfl
 ·rw [if_neg h,decide_eq_false h];rfl
theorem ovr_ok {q:Rat} (h:fits q = true):ovr q = .ok q:=by unfold ovr;rw [if_pos h]
theorem ovr_no {q:Rat} (h:fits q = false):ovr q = .error 5:=by unfold ovr;rw [if_neg (by rw [h];decide)]
theorem fits_one:fits 1 = true:=IsT.one.fits
theorem fits_zero:fits 0 = true:=IsT.zero.fits
def minQ (p q:Rat):Rat:=if cmpQ p q > 0 then q else p
def maxQ (p q:Rat):Rat:=if cmpQ p q < 0 then q else p
theorem cmpQ_gt (p q:Rat):cmpQ p q > 0↔q < p:=by
 have:=cmpQ_swap p q
 rw [← cmpQ_lt]
 omega
theorem minQ_eq (p q:Rat):minQ p q = if q < p then q else p:=by
 unfold minQ
 by_cases h:q < p
 ·rw [if_pos ((cmpQ_gt p q).2 h),if_pos h]
 ·rw [if_neg (fun h2=>h ((cmpQ_gt p q).1 h2)),if_neg h]
theorem maxQ_eq (p q:Rat):maxQ p q = if p < q then q else p:=by
 unfold maxQ
 by_cases h:p < q
 ·rw [if_pos ((cmpQ_lt p q).2 h),if_pos h]
 ·rw [if_neg (fun h2=>h ((cmpQ_lt p q).1 h2)),if_neg h]
theorem minQ_fits {p q:Rat} (hp:fits p = true) (hq:fits q = true):fits (minQ p q) = true:=by
 unfold minQ;split <;> assumption
theorem minQ_le (p q:Rat):minQ p q≤p∧minQ p q≤q:=by
 rw [minQ_eq];split <;> grind
theorem le_minQ {p q r:Rat} (h1:r≤p) (h2:r≤q):r≤minQ p q:=by
 rw [minQ_eq];split <;> assumption
theorem le_maxQ (p q:Rat):p≤maxQ p q∧q≤maxQ p q:=by
 rw [maxQ_eq];split <;> grind
theorem maxQ_le {p q r:Rat}:maxQ p q≤r↔p≤r∧q≤r:=by
 rw [maxQ_eq];split <;> grind
theorem rT_min {a b:ByteArray} {p q:Rat} (ha:IsT a p) (hb:IsT b q):(if cmpQ p q > 0 then b else a) = rT (minQ p q):=by
 unfold minQ;split
 ·exact hb.text
 ·exact ha.text
theorem rT_max {a b:ByteArray} {p q:Rat} (ha:IsT a p) (hb:IsT b q):(if cmpQ p q < 0 then b else a) = rT (maxQ p q):=by
 unfold maxQ;split
 ·exact hb.text
 ·exact ha.text
def errL (f d:ByteArray):Nat :=
 if errQ f.data.toList≠0 then errQ f.data.toList else if errQ d.data.toList≠0 then errQ d.data.toList
 else if cmpQ (valQ f.data.toList) 1 < 0 ∨ cmpQ (valQ d.data.toList) 0 < 0 ∨ cmpQ (valQ d.data.toList) 1 > 0 then 2 else 0
abbrev LQ:=Rat × Rat
def lossT (l:LQ):Value:=.agg #[.string (rT l.1),.string (rT l.2)]
def resL:Except Nat LQ→Value
 | .ok l=>.tuple #[lossT l,.int .i64 0]
 | .error n=>.tuple #[.agg #[.string ⟨#[]⟩,.string ⟨#[]⟩],.int .i64 (n:Int)]
structure LossIs (f d:ByteArray) (l:LQ):Prop where
 f:IsT f l.1
 d:IsT d l.2
 one:1≤l.1
 zero:0≤l.2
 top:l.2≤1
theorem errL_zero {f d:ByteArray} (h:errL f d = 0):LossIs f d (valQ f.data.toList,valQ d.data.toList):=by
 unfold errL at h
 by_cases h1:errQ f.data.toList = 0
 ·by_cases h2:errQ d.data.toList = 0
  ·rw [if_neg (by omega),if_neg (by omega)] at h
   by_cases h3:cmpQ (valQ f.data.toList) 1 < 0 ∨ cmpQ (valQ d.data.toList) 0 < 0 ∨ cmpQ (valQ d.data.toList) 1 > 0
   ·rw [if_pos h3] at h;cases h
   ·have a1:=(cmpQ_lt (valQ f.data.toList) 1)
    have a2:=(cmpQ_lt (valQ d.data.toList) 0)
    have a3:=(cmpQ_gt (valQ d.data.toList) 1)
    refine ⟨IsT.of h1,IsT.of h2,?_,?_,?_⟩
    ·exact Rat.not_lt.1 (fun h4=>h3 (.inl (a1.2 h4)))
    ·exact Rat.not_lt.1 (fun h4=>h3 (.inr (.inl (a2.2 h4))))
    ·exact Rat.not_lt.1 (fun h4=>h3 (.inr (.inr (a3.2 h4))))
  ·rw [if_neg (by omega),if_pos h2] at h;exact absurd h h2
 ·rw [if_pos h1] at h;exact absurd h h1
theorem LossIs.err {f d:ByteArray} {l:LQ} (h:LossIs f d l):errL f d = 0:=by
 unfold errL
 rw [if_neg (by rw [h.f.err];decide),if_neg (by rw [h.d.err];decide),h.f.val,h.d.val,if_neg]
 rw [cmpQ_lt,cmpQ_lt,cmpQ_gt]
 have:=h.one;have:=h.zero;have:=h.top
 grind
structure OkL (l:LQ):Prop where
 f:fits l.1 = true
 d:fits l.2 = true
 one:1≤l.1
 zero:0≤l.2
 top:l.2≤1
theorem LossIs.ok {f d:ByteArray} {l:LQ} (h:LossIs f d l):OkL l:=⟨h.f.fits,h.d.fits,h.one,h.zero,h.top⟩
theorem OkL.is {l:LQ} (h:OkL l):LossIs (rT l.1) (rT l.2) l:=⟨isT_rT h.f,isT_rT h.d,h.one,h.zero,h.top⟩
def noneL:LQ:=(1,0)
theorem okL_none:OkL noneL:=⟨fits_one,fits_zero,by decide +kernel,by decide +kernel,by decide +kernel⟩
def plusL (a b:LQ):Except Nat LQ :=
 match ovr (a.1 * b.1) with
 | .error n=>.error n
 | .ok f=>match ovr (a.2 + b.2) with
  | .error n=>.error n
  | .ok d=>.ok (f,minQ d 1)
theorem plusL_ok {a b:LQ} (h1:fits (a.1 * b.1) = true) (h2:fits (a.2 + b.2) = true):plusL a b = .ok (a.1 * b.1,minQ (a.2 + b.2) 1):=by
 unfold plusL;rw [ovr_ok h1,ovr_ok h2]
theorem plusL_no1 {a b:LQ} (h1:fits (a.1 * b.1) = false):plusL a b = .error 5:=by
 unfold plusL;rw [ovr_no h1]
theorem plusL_no2 {a b:LQ} (h1:fits (a.1 * b.1) = true) (h2:fits (a.2 + b.2) = false):plusL a b = .error 5:=by
 unfold plusL;rw [ovr_ok h1,ovr_no h2]
theorem mul_ge_one {x y:Rat} (hx:1≤x) (hy:1≤y):1≤x * y:=by
 have:=Rat.mul_le_mul_of_nonneg_left hy (show (0:Rat)≤x by grind)
 grind
theorem plusL_okL {a b l:LQ} (ha:OkL a) (hb:OkL b) (h:plusL a b = .ok l):OkL l:=by
 cases h1:fits (a.1 * b.1)
 ·rw [plusL_no1 h1] at h;cases h
 cases h2:fits (a.2 + b.2)
 ·rw [plusL_no2 h1 h2] at h;cases h
 rw [plusL_ok h1 h2] at h
 cases h
 have:=ha.zero
 have:=hb.zero
 exact ⟨h1,minQ_fits h2 fits_one,mul_ge_one ha.one hb.one,le_minQ (by grind) (by decide +kernel),(minQ_le _ _).2⟩
theorem min_top {d:Rat} (h:d≤1):minQ d 1 = d:=by rw [minQ_eq,if_neg (by grind)]
theorem plusL_none {a:LQ} (ha:OkL a):plusL noneL a = .ok a:=by
 unfold noneL
 have e1:(1:Rat) * a.1 = a.1:=Rat.one_mul _
 have e2:(0:Rat) + a.2 = a.2:=Rat.zero_add _
 rw [plusL_ok (by rw [e1];exact ha.f) (by rw [e2];exact ha.d),e1,e2,min_top ha.top]
def aboveL (a b:LQ):LQ:=(maxQ a.1 b.1,maxQ a.2 b.2)
theorem aboveL_none {a:LQ} (ha:OkL a):aboveL noneL a = a:=by
 unfold aboveL noneL
 have:=ha.one
 have:=ha.zero
 have e1:maxQ 1 a.1 = a.1:=by rw [maxQ_eq];split <;> grind
 have e2:maxQ 0 a.2 = a.2:=by rw [maxQ_eq];split <;> grind
 rw [e1,e2]
def powsum (F:Rat):Nat→Except Nat LQ
 | 0=>.ok (1,0)
 | k + 1=>match powsum F k with
  | .error n=>.error n
  | .ok ps=>match ovr (ps.2 + ps.1) with
   | .error n=>.error n
   | .ok s=>match ovr (ps.1 * F) with
    | .error n=>.error n
    | .ok p=>.ok (p,s)
def groupL (l:LQ) (k:Nat):Except Nat LQ :=
 match powsum l.1 k with
 | .error n=>.error n
 | .ok ps=>match ovr (l.2 * ps.2) with
  | .error n=>.error n
  | .ok d=>.ok (ps.1,minQ d 1)
def lateL (l:LQ) (u:Rat):Except Nat LQ :=
 match ovr (l.1 + 1) with
 | .error n=>.error n
 | .ok x=>match ovr (x * u) with
  | .error n=>.error n
  | .ok m=>match ovr (l.2 + m) with
   | .error n=>.error n
   | .ok d=>.ok (l.1,minQ d 1)
def errF (s:Int) (f:ByteArray):Nat :=
 if errQ f.data.toList≠0 then errQ f.data.toList else if cmpQ (valQ f.data.toList) 1≤0 ∨ s < 1 ∨ s > 1000000 then 2 else 0
end Go.Proofs.YtigapglmipmbeaaGreatDoor
namespace Go.Proofs.YtigapglmipmbeaaGreatDoor
open Go.RowKit Go.Shelf
open Lim
def prob (n:Nat):Value:=.iface 251 (.agg #[.int .i64 (n:Int)])
def pan (n:Nat):List PanicEntry:=[{ v:=prob n,recovered:=false }]
theorem mustI_ok (v:Int) (w:World):Calls Tryz.prog 168 #[.int .i64 v,.int .i64 0] w fun e w'=>e = .returned (.int .i64 v)∧w' = w:=by
 go_enter Tryz.func168,Tryz.ntmps168
 go_wp2
 go_ret
 exact ⟨rfl,rfl⟩
theorem mustI_no (v:Int) (n:Nat) (w:World) (h:n≠0):Calls Tryz.prog 168 #[.int .i64 v,.int .i64 (n:Int)] w fun e w'=>e = .panicked (pan n)∧w' = w:=by
 unfold pan prob
 obtain ⟨z,hz⟩:∃ z:Int,z = (n:Int):=⟨_,rfl⟩
 rw [← hz]
 have hn:(z == 0) = false:=by rw [beq_eq_false_iff_ne];omega
 clear hz h
 go_enter Tryz.func168,Tryz.ntmps168
 go_wp2
 exact ⟨rfl,rfl,rfl⟩
theorem mustN_ok (v:ByteArray) (w:World):Calls Tryz.prog 165 #[.string v,.int .i64 0] w fun e w'=>e = .returned (.string v)∧w' = w:=by
 go_enter Tryz.func165,Tryz.ntmps165
 go_wp2
 go_ret
 exact ⟨rfl,rfl⟩
theorem mustN_no (v:ByteArray) (n:Nat) (w:World) (h:n≠0):Calls Tryz.prog 165 #[.string v,.int .i64 (n:Int)] w fun e w'=>e = .panicked (pan n)∧w' = w:=by
 unfold pan prob
 obtain ⟨z,hz⟩:∃ z:Int,z = (n:Int):=⟨_,rfl⟩
 rw [← hz]
 have hn:(z == 0) = false:=by rw [beq_eq_false_iff_ne];omega
 clear hz h
 go_enter Tryz.func165,Tryz.ntmps165
 go_wp2
 exact ⟨rfl,rfl,rfl⟩
theorem ends_idle (p:Addr) (w:World) :
  CallsD Tryz.prog 163 #[.pointer (some p)] .returning w fun e u' w'=>e = .returned (.tuple #[])∧u' = .returning∧w' = w:=by
 refine callsD_of_wpS Tryz.func163 rfl fun c₀ cs hu=>?_
 apply wpS_seq
 apply wpS_region
 simp [wpOpsS,go_sem,recoverD,hu,Tryz.ntmps163,Exit.thenS,Array.replicate_succ,Array.replicate_zero]
 refine wpS_of_wp ?_
 go_wp2
 cases c₀
 simp_all [bodyPostS,results,Tryz.results163]
theorem ends_panic (b:Nat) (n:Nat) (x:Int) (older:List PanicEntry) (w:World) (hb:Blk w b 32 #[.int .i64 x]) :
  CallsD Tryz.prog 163 #[.pointer (some ⟨b,0,none⟩)] (.panicking ({ v:=prob n,recovered:=false } :: older)) w fun e u' w' =>
   e = .returned (.tuple #[])∧u' = .panicking ({ v:=prob n,recovered:=true } :: older)∧w' = (w.setCell ⟨b,0,none⟩ (.int .i64 (n:Int))).alloc (.cells #[.int .i64 (n:Int)] 251):=by
 unfold prob
 have hta:∀ (v:Value) (w:World),(Instr.typeAssert (.iface 251 v) 20 251 true).run Tryz.prog w = .ok (.tuple #[v,.bool true]) w:=fun _ _=>by kernel_rfl
 have hlt:=hb.lt
 have hc:=(cellrow hb 0 (by simp)).1
 have hz:=hb.frozen 0
 simp only [List.getElem_toArray,List.getElem_cons_zero] at hc
 obtain ⟨z,hz2⟩:∃ z:Int,z = (n:Int):=⟨_,rfl⟩
 rw [← hz2]
 clear hb hz2
 refine callsD_of_wpS Tryz.func163 rfl fun c₀ cs hu=>?_
 apply wpS_seq
 apply wpS_region
 simp [wpOpsS,go_sem,recoverD,hu,Tryz.ntmps163,Exit.thenS,Array.replicate_succ,Array.replicate_zero]
 refine wpS_of_wp ?_
 go_wp2
 simp [bodyPostS,results,Tryz.results163,go_sem]
end Go.Proofs.YtigapglmipmbeaaGreatDoor
namespace Go.Proofs.YtigapglmipmbeaaGreatDoor
open Go.RowKit Go.Shelf
open Lim
section
variable {fn:Func} {tmps:Array Value} {R:Ending→World→Prop} {b:Nat} {w:World}
theorem door_ret {v:Value} (hr:(results fn tmps).run Tryz.prog w = .ok v w) (hR:R (.returned v) w) :
  Leaves Tryz.prog fn tmps R [{ target:=Target.fn (Fn.func 163) #[],args:=#[.pointer (some ⟨b,0,none⟩)] }] .returning w:=by
 refine leaves_cons (f:=163) (args:=#[.pointer (some ⟨b,0,none⟩)]) (by simp) (by simp [go_sem]) ?_
 refine (ends_idle _ _).mono ?_
 rintro e u' w'' ⟨rfl,rfl,rfl⟩
 exact ⟨v,hr,hR⟩
theorem door_pan {v:Value} {n:Nat} {x:Int} (hb:Blk w b 32 #[.int .i64 x])
  (hr:∀ W,Blk W b 32 #[.int .i64 (n:Int)]→(∀ g t cs,g≠b→Blk w g t cs→Blk W g t cs)→(∀ B w0,B≤b→Below B w0 w→Below B w0 W)→(results fn tmps).run Tryz.prog W = .ok v W∧R (.returned v) W) :
  Leaves Tryz.prog fn tmps R [{ target:=Target.fn (Fn.func 163) #[],args:=#[.pointer (some ⟨b,0,none⟩)] }] (.panicking (pan n)) w:=by
 refine leaves_cons (f:=163) (args:=#[.pointer (some ⟨b,0,none⟩)]) (by simp) (by simp [go_sem]) ?_
 unfold pan
 refine (ends_panic b n x [] w hb).mono ?_
 rintro e u' w'' ⟨rfl,rfl,rfl⟩
 obtain ⟨h1,h2⟩:=hr ((w.setCell ⟨b,0,none⟩ (.int .i64 (n:Int))).alloc (.cells #[.int .i64 (n:Int)] 251))
  ((hb.set_ 0 _).alloc _) (fun g t cs hg h=>(h.far (p:=⟨b,0,none⟩) hg _).alloc _)
  (fun B w0 hB h=>by
   have h3:=h.setCell (p:=⟨b,0,none⟩) hB (.int .i64 (n:Int))
   exact h3.alloc (Nat.le_trans hB (Nat.le_of_lt (hb.set_ 0 (.int .i64 (n:Int))).lt)) _)
 exact ⟨v,h1,h2⟩
end
theorem lorder_any {a b:ByteArray} {p q:Rat} (w:World) (ha:IsT a p) (hb:IsT b q) (hr:Res w) :
  Calls Tryz.prog 169 #[.string a,.string b] w fun e w'=>e = .returned (.int .i64 (cmpQ p q))∧Below w.heap.size w w':=by
 have HC:=Lib.hid (cmpT w ha hb rfl hr)
 generalize cmpQ p q = k at HC ⊢
 clear ha hb hr
 go_enter Tryz.func169,Tryz.ntmps169
 go_wp2_with (first
  | (go_at_call 116;refine HC.out.mono ?_;rintro e w1 ⟨rfl,hb1⟩;have HB:=Lib.hid hb1;clear hb1)
  | (go_at_call 168;refine (mustI_ok _ _).mono ?_;rintro e w2 ⟨rfl,hw⟩;subst hw))
 go_ret
 exact ⟨rfl,HB.out⟩
end Go.Proofs.YtigapglmipmbeaaGreatDoor
namespace Go.Proofs.YtigapglmipmbeaaGreatDoor
open Go.RowKit Go.Shelf
open Lim
theorem cell0 {w:World} {b:Nat} {t:TypeId} {v:Value} (h:Blk w b t #[v]):w.cell? ⟨b,0,none⟩ = some v:=(cellrow h 0 (by simp)).1
theorem cells2 {w:World} {b:Nat} {t:TypeId} {u v:Value} (h:Blk w b t #[u,v]):w.cell? ⟨b,0,none⟩ = some u∧w.cell? ⟨b,1,none⟩ = some v:=⟨(cellrow h 0 (by simp)).1,(cellrow h 1 (by simp)).1⟩
theorem below_alloc2 {B:Nat} {w W:World} (h:Below B w W) (hB:B≤W.heap.size) (o:Obj):Below B w (W.alloc o):=h.alloc hB o
structure ChkAt (w:World) (g:Nat) (f d:ByteArray) (k:Int) (W:World):Prop where
 l:Blk W g 63 #[.string f,.string d]
 e:Blk W (g + 1) 32 #[.int .i64 k]
 s:Blk W (g + 1 + 1) 23 #[.string f,.string d]
 res:Res W
 below:Below w.heap.size w W
 g:g = w.heap.size
theorem ChkAt.later {w W W':World} {g:Nat} {f d:ByteArray} {k:Int} (h:ChkAt w g f d k W) (hb:Below W.heap.size W W'):ChkAt w g f d k W' :=
 ⟨h.l.below hb h.l.lt,h.e.below hb h.e.lt,h.s.below hb h.s.lt,h.res.below hb,h.below.trans (hb.mono h.below.size),h.g⟩
theorem lcheck_any (f d:ByteArray) (w:World) (hf:f.size≤270000) (hd:d.size≤270000) (hr:Res w) :
  Calls Tryz.prog 182 #[.agg #[.string f,.string d]] w fun e w'=>e = .returned (.int .i64 (errL f d:Int))∧Below w.heap.size w w':=by
 have H0:=Lib.hid (show ChkAt w w.heap.size f d 0 (((w.alloc (.cells #[.string f,.string d] 63)).alloc (.cells #[.int .i64 0] 32)).alloc (.cells #[.string f,.string d] 23)) from by
  have b1:=below_alloc (Below.refl w.heap.size w) (.cells #[.string f,.string d] 63)
  have b2:=below_alloc b1 (.cells #[.int .i64 0] 32)
  have b3:=below_alloc b2 (.cells #[.string f,.string d] 23)
  have k1:=Blk.new w 63 #[.string f,.string d]
  have k2:=Blk.new (w.alloc (.cells #[.string f,.string d] 63)) 32 #[.int .i64 0]
  have k3:=Blk.new ((w.alloc (.cells #[.string f,.string d] 63)).alloc (.cells #[.int .i64 0] 32)) 23 #[.string f,.string d]
  have e1:(w.alloc (.cells #[.string f,.string d] 63)).heap.size = w.heap.size + 1:=by simp
  have e2:((w.alloc (.cells #[.string f,.string d] 63)).alloc (.cells #[.int .i64 0] 32)).heap.size = w.heap.size + 1 + 1:=by simp
  rw [e1] at k2
  rw [e2] at k3
  exact ⟨(k1.alloc _).alloc _,k2.alloc _,k3,hr.below b3,b3,rfl⟩)
 clear hr
 go_enter_defers Tryz.func182,Tryz.ntmps182
 go_wp2
 go_loopw [11] (fun v11 wr=>∃ k:Nat,k≤2∧v11 = .int .i64 (k:Int)∧(1≤k→errQ f.data.toList = 0)∧(2≤k→errQ d.data.toList = 0)∧Hid (ChkAt w w.heap.size f d 0 wr)) (fun v11 _=>2 - (intOf v11).toNat)
 case atStart=>exact ⟨0,by omega,rfl,by omega,by omega,H0⟩
 case round =>
  obtain ⟨k,hk,rfl,h1,h2,H⟩:=hrel
  clear H0
  have c0:=(cellrow H.out.s 0 (by simp)).1
  have c1:=(cellrow H.out.s 1 (by simp)).1
  simp only [List.getElem_toArray,List.getElem_cons_zero,List.getElem_cons_succ] at c0 c1
  match k,hk with
  | 0,_ =>
   clear h1 h2 c1
   have HF:=Lib.hid (ratCheck_any f wr hf H.out.res)
   by_cases he:errQ f.data.toList = 0
   ·rw [he] at HF
    have HE:=Lib.hid he
    clear he
    go_wp2_with (first
     | (go_at_call 138;refine HF.out.mono ?_;rintro e w1 ⟨rfl,hb1⟩;have H1:=Lib.hid (H.out.later hb1);clear hb1)
     | (go_at_call 168;refine (mustI_ok _ _).mono ?_;rintro e w2 ⟨rfl,hw⟩;subst hw))
    go_roundw
    case rel=>exact ⟨1,by omega,by go_num,fun _=>HE.out,by omega,H1⟩
    case measure=>simp [intOf]
   ·have HE:=Lib.hid (And.intro he (show errL f d = errQ f.data.toList by unfold errL;rw [if_pos he]))
    generalize errQ f.data.toList = n at HF HE
    clear he
    go_wp2_with (first
     | (go_at_call 138;refine HF.out.mono ?_;rintro e w1 ⟨rfl,hb1⟩;have H1:=Lib.hid (H.out.later hb1);clear hb1)
     | (go_at_call 168;refine (mustI_no _ _ _ HE.out.1).mono ?_;rintro e w2 ⟨rfl,hw⟩;subst hw))
    refine door_pan (v:=.int .i64 (n:Int)) H1.out.e ?_
    intro W hB _ hbel
    have hc:=(cellrow hB 0 (by simp)).1
    simp only [List.getElem_toArray,List.getElem_cons_zero] at hc
    refine ⟨by simp [results,Tryz.results182,go_sem,hc],?_,hbel _ _ (by omega) H1.out.below⟩
    rw [HE.out.2]
  | 1,_ =>
   have he1:=h1 (by omega)
   clear h1 h2 c0
   have HE1:=Lib.hid he1
   clear he1
   have HF:=Lib.hid (ratCheck_any d wr hd H.out.res)
   by_cases he:errQ d.data.toList = 0
   ·rw [he] at HF
    have HE:=Lib.hid he
    clear he
    go_wp2_with (first
     | (go_at_call 138;refine HF.out.mono ?_;rintro e w1 ⟨rfl,hb1⟩;have H1:=Lib.hid (H.out.later hb1);clear hb1)
     | (go_at_call 168;refine (mustI_ok _ _).mono ?_;rintro e w2 ⟨rfl,hw⟩;subst hw))
    go_roundw
    case rel=>exact ⟨2,by omega,by go_num,fun _=>HE1.out,fun _=>HE.out,H1⟩
    case measure=>simp [intOf]
   ·have HE:=Lib.hid (And.intro he (show errL f d = errQ d.data.toList by unfold errL;rw [if_neg (by rw [HE1.out];decide),if_pos he]))
    generalize errQ d.data.toList = n at HF HE
    clear he
    go_wp2_with (first
     | (go_at_call 138;refine HF.out.mono ?_;rintro e w1 ⟨rfl,hb1⟩;have H1:=Lib.hid (H.out.later hb1);clear hb1)
     | (go_at_call 168;refine (mustI_no _ _ _ HE.out.1).mono ?_;rintro e w2 ⟨rfl,hw⟩;subst hw))
    refine door_pan (v:=.int .i64 (n:Int)) H1.out.e ?_
    intro W hB _ hbel
    have hc:=(cellrow hB 0 (by simp)).1
    simp only [List.getElem_toArray,List.getElem_cons_zero] at hc
    refine ⟨by simp [results,Tryz.results182,go_sem,hc],?_,hbel _ _ (by omega) H1.out.below⟩
    rw [HE.out.2]
  | 2,_ =>
   have H1:=IsT.of (h1 (by omega))
   have H2:=IsT.of (h2 (by omega))
   clear c0 c1
   have c0:=(cellrow H.out.l 0 (by simp)).1
   have c1:=(cellrow H.out.l 1 (by simp)).1
   simp only [List.getElem_toArray,List.getElem_cons_zero,List.getElem_cons_succ] at c0 c1
   have HL:=Lib.hid (show errL f d = if cmpQ (valQ f.data.toList) 1 < 0 ∨ cmpQ (valQ d.data.toList) 0 < 0 ∨ cmpQ (valQ d.data.toList) 1 > 0 then 2 else 0 by
    unfold errL
    rw [if_neg (by rw [h1 (by omega)];decide),if_neg (by rw [h2 (by omega)];decide)])
   have HC1:=Lib.hid (fun w=>lorder_any w H1 IsT.one)
   have HC2:=Lib.hid (fun w=>lorder_any w H2 IsT.zero)
   have HC3:=Lib.hid (fun w=>lorder_any w H2 IsT.one)
   generalize cmpQ (valQ f.data.toList) 1 = x1 at HL HC1
   generalize cmpQ (valQ d.data.toList) 0 = x2 at HL HC2
   generalize cmpQ (valQ d.data.toList) 1 = x3 at HL HC3
   clear h1 h2 H1 H2
   have TK1:True:=trivial
   have TK2:True:=trivial
   have TK3:True:=trivial
   by_cases d1:x1 < 0
   ·have g1:decide (x1 < 0) = true:=decide_eq_true d1
    have D1:=Lib.hid d1
    clear d1
    go_wp2_with (first
     | (clear TK1;go_at_call 169;refine (HC1.out _ H.out.res).mono ?_;rintro e w1 ⟨rfl,hb⟩;have H1:=Lib.hid (H.out.later hb);obtain ⟨-,p1⟩:=cells2 H1.out.l;have q1:=cell0 H1.out.e;have z1:=H1.out.e.frozen 0;clear hb))
    refine door_ret (v:=.int .i64 2) (by have hc:=cell0 (H1.out.e.set_ 0 (.int .i64 2));simp [results,Tryz.results182,go_sem] at hc ⊢;simp [hc]) ⟨by rw [HL.out,if_pos (.inl D1.out)];rfl,H1.out.below.setCell (Nat.le_succ _) _⟩
   by_cases d2:x2 < 0
   ·have g1:decide (x1 < 0) = false:=decide_eq_false d1
    have g2:decide (x2 < 0) = true:=decide_eq_true d2
    have D2:=Lib.hid d2
    clear d1 d2
    go_wp2_with (first
     | (clear TK1;go_at_call 169;refine (HC1.out _ H.out.res).mono ?_;rintro e w1 ⟨rfl,hb⟩;have H1:=Lib.hid (H.out.later hb);obtain ⟨-,p1⟩:=cells2 H1.out.l;have q1:=cell0 H1.out.e;have z1:=H1.out.e.frozen 0;clear hb)
     | (clear TK2;go_at_call 169;refine (HC2.out _ H1.out.res).mono ?_;rintro e w2 ⟨rfl,hb⟩;have H2:=Lib.hid (H1.out.later hb);obtain ⟨-,p2⟩:=cells2 H2.out.l;have q2:=cell0 H2.out.e;have z2:=H2.out.e.frozen 0;clear hb))
    refine door_ret (v:=.int .i64 2) (by have hc:=cell0 (H2.out.e.set_ 0 (.int .i64 2));simp [results,Tryz.results182,go_sem] at hc ⊢;simp [hc]) ⟨by rw [HL.out,if_pos (.inr (.inl D2.out))];rfl,H2.out.below.setCell (Nat.le_succ _) _⟩
   by_cases d3:x3 > 0
   ·have g1:decide (x1 < 0) = false:=decide_eq_false d1
    have g2:decide (x2 < 0) = false:=decide_eq_false d2
    have g3:decide (0 < x3) = true:=decide_eq_true d3
    have D3:=Lib.hid d3
    clear d1 d2 d3
    go_wp2_with (first
     | (clear TK1;go_at_call 169;refine (HC1.out _ H.out.res).mono ?_;rintro e w1 ⟨rfl,hb⟩;have H1:=Lib.hid (H.out.later hb);obtain ⟨-,p1⟩:=cells2 H1.out.l;have q1:=cell0 H1.out.e;have z1:=H1.out.e.frozen 0;clear hb)
     | (clear TK2;go_at_call 169;refine (HC2.out _ H1.out.res).mono ?_;rintro e w2 ⟨rfl,hb⟩;have H2:=Lib.hid (H1.out.later hb);obtain ⟨-,p2⟩:=cells2 H2.out.l;have q2:=cell0 H2.out.e;have z2:=H2.out.e.frozen 0;clear hb)
     | (clear TK3;go_at_call 169;refine (HC3.out _ H2.out.res).mono ?_;rintro e w3 ⟨rfl,hb⟩;have H3:=Lib.hid (H2.out.later hb);obtain ⟨-,p3⟩:=cells2 H3.out.l;have q3:=cell0 H3.out.e;have z3:=H3.out.e.frozen 0;clear hb))
    refine door_ret (v:=.int .i64 2) (by have hc:=cell0 (H3.out.e.set_ 0 (.int .i64 2));simp [results,Tryz.results182,go_sem] at hc ⊢;simp [hc]) ⟨by rw [HL.out,if_pos (.inr (.inr D3.out))];rfl,H3.out.below.setCell (Nat.le_succ _) _⟩
   have g1:decide (x1 < 0) = false:=decide_eq_false d1
   have g2:decide (x2 < 0) = false:=decide_eq_false d2
   have g3:decide (0 < x3) = false:=decide_eq_false d3
   have D3:=Lib.hid (show ¬ (x1 < 0 ∨ x2 < 0 ∨ x3 > 0) by omega)
   clear d1 d2 d3
   go_wp2_with (first
    | (clear TK1;go_at_call 169;refine (HC1.out _ H.out.res).mono ?_;rintro e w1 ⟨rfl,hb⟩;have H1:=Lib.hid (H.out.later hb);obtain ⟨-,p1⟩:=cells2 H1.out.l;have q1:=cell0 H1.out.e;have z1:=H1.out.e.frozen 0;clear hb)
    | (clear TK2;go_at_call 169;refine (HC2.out _ H1.out.res).mono ?_;rintro e w2 ⟨rfl,hb⟩;have H2:=Lib.hid (H1.out.later hb);obtain ⟨-,p2⟩:=cells2 H2.out.l;have q2:=cell0 H2.out.e;have z2:=H2.out.e.frozen 0;clear hb)
    | (clear TK3;go_at_call 169;refine (HC3.out _ H2.out.res).mono ?_;rintro e w3 ⟨rfl,hb⟩;have H3:=Lib.hid (H2.out.later hb);obtain ⟨-,p3⟩:=cells2 H3.out.l;have q3:=cell0 H3.out.e;have z3:=H3.out.e.frozen 0;clear hb))
   refine door_ret (v:=.int .i64 0) (by have hc:=cell0 (H3.out.e.set_ 0 (.int .i64 0));simp [results,Tryz.results182,go_sem] at hc ⊢;simp [hc]) ⟨by rw [HL.out,if_neg D3.out];rfl,H3.out.below.setCell (Nat.le_succ _) _⟩
end Go.Proofs.YtigapglmipmbeaaGreatDoor
namespace Go.Proofs.YtigapglmipmbeaaGreatDoor
open Go.RowKit Go.Shelf
open Lim
abbrev L2:=ByteArray × ByteArray
def LRow (w:World) (v:Value) (ls:List L2):Prop :=
 ∃ A c,v = .slice A ls.length c∧ls.length≤1000∧(0 < ls.length→∃ b o,A = some ⟨b,o,none⟩∧b < w.heap.size ∧
  ∀ (j:Nat) (x:L2),ls[j]? = some x→w.cell? ⟨b,o + j * 2,none⟩ = some (.string x.1)∧w.cell? ⟨b,o + j * 2 + 1,none⟩ = some (.string x.2))
theorem LRow.below {w w':World} {v:Value} {ls:List L2} (h:LRow w v ls) (hb:Below w.heap.size w w'):LRow w' v ls:=by
 obtain ⟨A,c,e,h1,h2⟩:=h
 refine ⟨A,c,e,h1,fun h0=>?_⟩
 obtain ⟨b,o,e2,hlt,hc⟩:=h2 h0
 refine ⟨b,o,e2,Nat.lt_of_lt_of_le hlt hb.size,fun j x hj=>?_⟩
 obtain ⟨c0,c1⟩:=hc j x hj
 exact ⟨by rw [hb.cell (p:=⟨b,o + j * 2,none⟩) hlt];exact c0,by rw [hb.cell (p:=⟨b,o + j * 2 + 1,none⟩) hlt];exact c1⟩
theorem LRow.nil (w:World) (A:Option Addr) (c:Nat):LRow w (.slice A 0 c) []:=⟨A,c,rfl,by simp,fun h=>absurd h (by simp)⟩
theorem LRow.one {w:World} {b:Nat} {t:TypeId} {f d:ByteArray} (h:Blk w b t #[.string f,.string d]):LRow w (.slice (some ⟨b,0,none⟩) 1 1) [(f,d)]:=by
 refine ⟨_,_,rfl,by simp,fun _=>⟨b,0,rfl,h.lt,fun j x hj=>?_⟩⟩
 match j with
 | 0=>cases hj;exact cells2 h
 | j + 1=>simp at hj
theorem LRow.two {w:World} {b:Nat} {t:TypeId} {f d f' d':ByteArray} (h:Blk w b t #[.string f,.string d,.string f',.string d']):LRow w (.slice (some ⟨b,0,none⟩) 2 2) [(f,d),(f',d')]:=by
 refine ⟨_,_,rfl,by simp,fun _=>⟨b,0,rfl,h.lt,fun j x hj=>?_⟩⟩
 match j with
 | 0=>cases hj;exact ⟨(cellrow h 0 (by simp)).1,(cellrow h 1 (by simp)).1⟩
 | 1=>cases hj;exact ⟨(cellrow h 2 (by simp)).1,(cellrow h 3 (by simp)).1⟩
 | j + 2=>simp at hj
def firstL:List L2→Nat
 | []=>0
 | x :: l=>if errL x.1 x.2≠0 then errL x.1 x.2 else firstL l
theorem firstL_zero {ls:List L2}:firstL ls = 0↔∀ x∈ls,errL x.1 x.2 = 0:=by
 induction ls with
 | nil=>simp [firstL]
 | cons a l ih =>
  unfold firstL
  by_cases h:errL a.1 a.2 = 0
  ·rw [if_neg (by omega),ih];simp [h]
  ·rw [if_pos h];simp [h]
theorem firstL_at:∀ {ls:List L2} {k:Nat} {x:L2},(∀ j y,j < k→ls[j]? = some y→errL y.1 y.2 = 0)→ls[k]? = some x→errL x.1 x.2≠0→firstL ls = errL x.1 x.2
 | [],_,_,_,h,_=>by simp at h
 | a :: l,0,x,_,h,hn=>by
  cases h
  unfold firstL
  rw [if_pos hn]
 | a :: l,k + 1,x,h0,h,hn=>by
  unfold firstL
  rw [if_neg (by have:=h0 0 a (by omega) rfl;omega)]
  exact firstL_at (fun j y hj hy=>h0 (j + 1) y (by omega) hy) h hn
def endV (n:Nat):Ending:=if n = 0 then .returned (.tuple #[]) else .panicked (pan n)
theorem endV_ok:endV 0 = .returned (.tuple #[]):=rfl
theorem endV_no {n:Nat} (h:n≠0):endV n = .panicked (pan n):=if_neg h
def Short (ls:List L2):Prop:=∀ x∈ls,x.1.size≤270000∧x.2.size≤270000
theorem valid_run (ls:List L2) (v:Value) (w:World) (hv:LRow w v ls) (hs:Short ls) (hr:Res w) :
  Calls Tryz.prog 164 #[v] w fun e w'=>e = endV (firstL ls)∧Below w.heap.size w w':=by
 obtain ⟨A,c,rfl,hl,hc⟩:=id hv
 have HV:=Lib.hid hv
 have HR:=Lib.hid hr
 have HC:=Lib.hid hc
 clear hv hr hc
 go_enter Tryz.func164,Tryz.ntmps164
 go_wp2
 go_loopw [6] (fun v6 wr=>∃ k:Nat,k≤ls.length∧v6 = .int .i64 (k:Int)∧Hid (∀ j y,j < k→ls[j]? = some y→errL y.1 y.2 = 0)∧Hid (Below w.heap.size w wr)) (fun v6 _=>ls.length - (intOf v6).toNat)
 case atStart=>exact ⟨0,Nat.zero_le _,rfl,Lib.hid (fun j y h=>absurd h (by omega)),Lib.hid (Below.refl _ _)⟩
 case round =>
  obtain ⟨k,hk,rfl,HE,HB⟩:=hrel
  by_cases hlt:k < ls.length
  ·obtain ⟨b,o,rfl,hbw,hcell⟩:=HC.out (by omega)
   obtain ⟨x,hx⟩:∃ x,ls[k]? = some x:=⟨_,List.getElem?_eq_getElem hlt⟩
   obtain ⟨c0,c1⟩:=hcell k x hx
   rw [← HB.out.cell (p:=⟨b,o + k * 2,none⟩) hbw] at c0
   rw [← HB.out.cell (p:=⟨b,o + k * 2 + 1,none⟩) hbw] at c1
   have hlt':(k:Int) < (ls.length:Int):=by omega
   have hb2:b < wr.heap.size:=Nat.lt_of_lt_of_le hbw HB.out.size
   obtain ⟨f,d⟩:=x
   have hsx:=hs _ (List.mem_of_getElem? hx)
   have HX:=Lib.hid (And.intro hx (And.intro hsx (And.intro hlt hlt')))
   dsimp only at c0 c1
   by_cases he:errL f d = 0
   ·have HEE:=Lib.hid he
    clear he hbw hcell hs hsx hlt hx
    go_wp2_with (first
     | (go_at_call 182;refine (lcheck_any f d _ HX.out.2.1.1 HX.out.2.1.2 (HR.out.below (below_alloc HB.out _))).mono ?_;rintro e w1 ⟨rfl,hb⟩;rw [HEE.out];have HB1:=Lib.hid ((below_alloc HB.out (.cells #[.string f,.string d] 63)).trans (hb.mono (below_alloc HB.out (.cells #[.string f,.string d] 63)).size));clear hb)
     | (go_at_call 168;refine (mustI_ok _ _).mono ?_;rintro e w2 ⟨rfl,hw⟩;subst hw))
    go_roundw
    case rel=>exact ⟨k + 1,HX.out.2.2.1,by go_num,Lib.hid (fun j y hj hy=>by
     rcases Nat.lt_or_ge j k with h | h
     ·exact HE.out j y h hy
     ·obtain rfl:j = k:=by omega
      rw [HX.out.1] at hy
      cases hy
      exact HEE.out),HB1⟩
    case measure=>have:=HX.out.2.2.1;simp [intOf];omega
   ·have HF:=Lib.hid (firstL_at HE.out hx he)
    obtain ⟨n,hn⟩:∃ n,errL f d = n:=⟨_,rfl⟩
    dsimp only at HF
    rw [hn] at he HF
    have HEE:=Lib.hid (And.intro he hn)
    clear he hn hbw hcell hs hsx hlt hx
    go_wp2_with (first
     | (go_at_call 182;refine (lcheck_any f d _ HX.out.2.1.1 HX.out.2.1.2 (HR.out.below (below_alloc HB.out _))).mono ?_;rintro e w1 ⟨rfl,hb⟩;rw [HEE.out.2];have HB1:=Lib.hid ((below_alloc HB.out (.cells #[.string f,.string d] 63)).trans (hb.mono (below_alloc HB.out (.cells #[.string f,.string d] 63)).size));clear hb)
     | (go_at_call 168;refine (mustI_no _ _ _ HEE.out.1).mono ?_;rintro e w2 ⟨rfl,hw⟩;subst hw))
    refine ⟨rfl,?_,HB1.out⟩
    rw [HF.out,endV_no HEE.out.1]
  ·have HF:=Lib.hid (firstL_zero.2 (fun x hx=>by
    obtain ⟨j,hj⟩:=List.getElem?_of_mem hx
    have:=(List.getElem?_eq_some_iff.1 hj).1
    exact HE.out j x (by omega) hj))
   have hlt':¬ (k:Int) < (ls.length:Int):=by omega
   obtain rfl:k = ls.length:=by omega
   clear hlt
   go_wp2
   rw [HF.out]
   go_end0
   exact ⟨rfl,HB.out⟩
end Go.Proofs.YtigapglmipmbeaaGreatDoor
namespace Go.Proofs.YtigapglmipmbeaaGreatDoor
open Go.RowKit
open Lim
abbrev XE:=Except Nat ByteArray
def exQ (r:List UInt8 × Nat):XE:=if r.2 = 0 then .ok ⟨r.1.toArray⟩ else .error r.2
def resX:XE→Value
 | .ok s=>.tuple #[.string s,.int .i64 0]
 | .error n=>.tuple #[.string ⟨#[]⟩,.int .i64 (n:Int)]
def NoT (r:List UInt8 × Nat):Prop:=(r.2≠0→r.1 = [])∧(r.2 = 0→errQ r.1 = 0)
theorem resX_ex {r:List UInt8 × Nat} (h:NoT r):resN r = resX (exQ r):=by
 unfold resN exQ
 split
 ·rename_i h0;rw [h0];rfl
 ·rename_i h0;rw [h.1 h0];rfl
theorem noT_out (q:Rat):NoT (outQ q):=by
 unfold outQ
 split
 ·exact ⟨fun _=>rfl,fun h=>by cases h⟩
 ·rename_i h
  refine ⟨fun h2=>absurd rfl h2,fun _=>?_⟩
  have h1:Lib.nDigits (nm q)≤maxD∧Lib.nDigits q.den≤maxD:=by omega
  exact errQ_rat h1.1 h1.2
theorem noT_err (n:Nat) (h:n≠0):NoT ([],n):=⟨fun _=>rfl,fun h2=>absurd h2 h⟩
theorem noT_div (p q:Rat):NoT (divQ p q):=by
 unfold divQ
 split
 ·exact noT_err 6 (by decide)
 ·exact noT_out _
theorem noT_pow (q:Rat) (n:Int):NoT (powQ q n):=by
 unfold powQ
 split
 ·exact noT_err 6 (by decide)
 ·exact noT_out _
theorem noT_one {f:Rat→List UInt8 × Nat} (h:∀ q,NoT (f q)) (a:List UInt8):NoT (oneQ f a):=by
 unfold oneQ
 split
 ·rename_i h0;exact noT_err _ h0
 ·exact h _
theorem noT_two {f:Rat→Rat→List UInt8 × Nat} (h:∀ p q,NoT (f p q)) (a b:List UInt8):NoT (twoQ f a b):=by
 unfold twoQ
 split
 ·rename_i h0;exact noT_err _ h0
 ·split
  ·rename_i h0;exact noT_err _ h0
  ·exact h _ _
theorem exQ_err {r:List UInt8 × Nat} {n:Nat} (h:exQ r = .error n):n≠0:=by
 unfold exQ at h
 split at h
 ·cases h
 ·rename_i h0;cases h;exact h0
theorem exQ_ok {r:List UInt8 × Nat} {s:ByteArray} (hr:NoT r) (h:exQ r = .ok s):errQ s.data.toList = 0:=by
 unfold exQ at h
 split at h
 ·rename_i h0;cases h;exact hr.2 h0
 ·cases h
theorem size_ok {s:ByteArray} (h:errQ s.data.toList = 0):s.size≤270000:=(IsT.of h).size
def plX (a b:ByteArray):XE:=exQ (twoQ (fun p q=>outQ (p + q)) a.data.toList b.data.toList)
def subX (a b:ByteArray):XE:=exQ (twoQ (fun p q=>outQ (p + -q)) a.data.toList b.data.toList)
def mulX (a b:ByteArray):XE:=exQ (twoQ (fun p q=>outQ (p * q)) a.data.toList b.data.toList)
def divX (a b:ByteArray):XE:=exQ (twoQ divQ a.data.toList b.data.toList)
def powX (a:ByteArray) (n:Int):XE:=exQ (oneQ (fun q=>powQ q n) a.data.toList)
theorem plX_t (a b:ByteArray):NoT (twoQ (fun p q=>outQ (p + q)) a.data.toList b.data.toList):=noT_two (fun _ _=>noT_out _) _ _
theorem subX_t (a b:ByteArray):NoT (twoQ (fun p q=>outQ (p + -q)) a.data.toList b.data.toList):=noT_two (fun _ _=>noT_out _) _ _
theorem mulX_t (a b:ByteArray):NoT (twoQ (fun p q=>outQ (p * q)) a.data.toList b.data.toList):=noT_two (fun _ _=>noT_out _) _ _
theorem divX_t (a b:ByteArray):NoT (twoQ divQ a.data.toList b.data.toList):=noT_two noT_div _ _
theorem powX_t (a:ByteArray) (n:Int):NoT (oneQ (fun q=>powQ q n) a.data.toList):=noT_one (fun q=>noT_pow q n) _
theorem plX_ok {a b s:ByteArray} (h:plX a b = .ok s):errQ s.data.toList = 0:=exQ_ok (plX_t a b) h
theorem subX_ok {a b s:ByteArray} (h:subX a b = .ok s):errQ s.data.toList = 0:=exQ_ok (subX_t a b) h
theorem mulX_ok {a b s:ByteArray} (h:mulX a b = .ok s):errQ s.data.toList = 0:=exQ_ok (mulX_t a b) h
theorem divX_ok {a b s:ByteArray} (h:divX a b = .ok s):errQ s.data.toList = 0:=exQ_ok (divX_t a b) h
theorem powX_ok {a s:ByteArray} {n:Int} (h:powX a n = .ok s):errQ s.data.toList = 0:=exQ_ok (powX_t a n) h
def zT:ByteArray:=⟨#[48]⟩
def oT:ByteArray:=⟨#[49]⟩
def maxX (a b:ByteArray):XE :=
 if errQ a.data.toList≠0 then .error (errQ a.data.toList) else if errQ b.data.toList≠0 then .error (errQ b.data.toList) else .ok (if cmpQ (valQ a.data.toList) (valQ b.data.toList) < 0 then b else a)
theorem maxX_res (a b:ByteArray):resS (chooseQ (twoI (fun p q=>(cmpQ p q,0)) a.data.toList b.data.toList) (-1) a b) = resX (maxX a b):=by
 unfold twoI maxX
 split
 ·rename_i h;unfold chooseQ;rw [if_pos h];rfl
 ·split
  ·rename_i h;unfold chooseQ;rw [if_pos h];rfl
  ·unfold chooseQ
   rw [if_neg (by simp)]
   dsimp only
   by_cases h:cmpQ (valQ a.data.toList) (valQ b.data.toList) < 0
   ·rw [if_pos h,if_pos (by omega)];rfl
   ·rw [if_neg h,if_neg (by omega)];rfl
def ltK (a b:ByteArray):Bool:=decide (a.data.toList < b.data.toList)
def posE (p:ByteArray):Nat:=if errQ p.data.toList≠0 then errQ p.data.toList else if valQ p.data.toList < 0 then 2 else 0
def badK:Option ByteArray→ByteArray→Bool
 | none,_=>false
 | some k,x=>!ltK k x
def chkL:Option ByteArray→List L2→Nat
 | _,[]=>0
 | k,x :: l=>if posE x.2≠0 then posE x.2 else if ¬ 0 < valQ x.2.data.toList then 2 else if badK k x.1 then 9 else chkL (some x.1) l
def foldX {α:Type} (g:α→XE):ByteArray→List α→XE
 | s,[]=>.ok s
 | s,x :: l=>match g x with
  | .error n=>.error n
  | .ok p=>match plX s p with
   | .error n=>.error n
   | .ok t=>foldX g t l
def sumX (s:ByteArray) (l:List L2):XE:=foldX (fun x:L2=>.ok x.2) s l
def chkS:XE→Nat
 | .error n=>n
 | .ok s=>if s = oT then 0 else 15
def chkD (ls:List L2):Nat:=if chkL none ls≠0 then chkL none ls else chkS (sumX zT ls)
def chk2 (a b:List L2):Nat:=if chkD a≠0 then chkD a else chkD b
def atT:List L2→ByteArray→ByteArray
 | [],_=>zT
 | x :: l,k=>if x.1 = k then x.2 else atT l k
def hasT:List L2→ByteArray→Bool
 | [],_=>false
 | x :: l,k=>if x.1 = k then true else hasT l k
def insX:List L2→L2→Except Nat (List L2)
 | [],x=>.ok [x]
 | y :: l,x=>if ltK y.1 x.1 then
   (match insX l x with
    | .error n=>.error n
    | .ok m=>.ok (y :: m))
  else if y.1 = x.1 then
   (match plX y.2 x.2 with
    | .error n=>.error n
    | .ok s=>.ok ((y.1,s) :: l))
  else .ok (x :: y :: l)
def collX:List L2→List L2→Except Nat (List L2)
 | a,[]=>.ok a
 | a,x :: l=>match insX a x with
  | .error n=>.error n
  | .ok b=>collX b l
def posL:List L2→Nat
 | []=>0
 | x :: l=>if posE x.2≠0 then posE x.2 else posL l
def keepX (l:List L2):List L2:=l.filter fun x=>decide (x.2≠zT)
def doneX (l:List L2):Except Nat (List L2):=if chkD (keepX l)≠0 then .error (chkD (keepX l)) else .ok (keepX l)
def makeX (ls:List L2):Except Nat (List L2):=if posL ls≠0 then .error (posL ls) else match collX [] ls with
 | .error n=>.error n
 | .ok a=>doneX a
def scaleX (ls:List L2) (b:ByteArray):Except Nat (List L2):=match ls with
 | []=>.ok []
 | x :: l=>match mulX x.2 b with
  | .error n=>.error n
  | .ok p=>match scaleX l b with
   | .error n=>.error n
   | .ok m=>.ok ((x.1,p) :: m)
def joinT (a b:ByteArray):ByteArray:=a ++ ⟨#[124]⟩ ++ b
def pairX (a b:List L2):Except Nat (List L2):=match a with
 | []=>.ok []
 | x :: l=>match scaleX b x.2 with
  | .error n=>.error n
  | .ok m=>match pairX l b with
   | .error n=>.error n
   | .ok r=>.ok (m.map (fun y=>(joinT x.1 y.1,y.2)) ++ r)
def prodX (a b:List L2):Except Nat (List L2):=if chk2 a b≠0 then .error (chk2 a b) else if 4096 < a.length * b.length then .error 12 else match pairX a b with
 | .error n=>.error n
 | .ok l=>makeX l
def mixX (p:ByteArray) (a b:List L2):Except Nat (List L2):=if chk2 a b≠0 then .error (chk2 a b) else if posE p≠0 then .error (posE p) else if 1 < valQ p.data.toList then .error 2 else
 match subX oT p with
 | .error n=>.error n
 | .ok r=>match scaleX a p with
  | .error n=>.error n
  | .ok x=>match scaleX b r with
   | .error n=>.error n
   | .ok y=>makeX (x ++ y)
def turnX:List (ByteArray × ByteArray)→ByteArray→ByteArray
 | [],k=>k
 | x :: l,k=>if x.1 = k then x.2 else turnX l k
def pushX (d:List L2) (f t:List ByteArray):Except Nat (List L2):=if chkD d≠0 then .error (chkD d) else if f.length≠t.length then .error 3 else
 makeX (d.map fun x=>(turnX (f.zip t) x.1,x.2))
def partX (f:ByteArray) (q:List L2) (m:L2):XE:=match mulX f (atT q m.1) with
 | .error n=>.error n
 | .ok x=>match subX m.2 x with
  | .error n=>.error n
  | .ok y=>maxX zT y
def deltaX (p q:List L2) (f:ByteArray):XE:=if chk2 p q≠0 then .error (chk2 p q) else if posE f≠0 then .error (posE f) else foldX (partX f q) zT p
def inX:List L2→List L2→Bool
 | [],_=>true
 | x :: l,q=>if hasT q x.1 then inX l q else false
def resF:XE→Value
 | .ok s=>.tuple #[.string s,.bool true,.int .i64 0]
 | .error n=>.tuple #[.string ⟨#[]⟩,.bool false,.int .i64 (n:Int)]
def powsX (n:Int) (q:List L2) (m:L2):XE:=match powX m.2 n with
 | .error e=>.error e
 | .ok x=>match powX (atT q m.1) (n - 1) with
  | .error e=>.error e
  | .ok y=>divX x y
def momV (p q:List L2) (n:Int):Value:=if chk2 p q≠0 then .tuple #[.string ⟨#[]⟩,.bool false,.int .i64 (chk2 p q:Int)] else if n < 1 ∨ 8 < n then .tuple #[.string ⟨#[]⟩,.bool false,.int .i64 2]
 else if inX p q = false then .tuple #[.string ⟨#[]⟩,.bool false,.int .i64 0] else resF (foldX (powsX n q) zT p)
theorem foldX_err {α:Type} {g:α→XE} {s:ByteArray} {x:α} {l:List α} {n:Nat} (h:g x = .error n):foldX g s (x :: l) = .error n:=by simp only [foldX,h]
theorem foldX_err2 {α:Type} {g:α→XE} {s p:ByteArray} {x:α} {l:List α} {n:Nat} (h:g x = .ok p) (h2:plX s p = .error n):foldX g s (x :: l) = .error n:=by simp only [foldX,h,h2]
theorem foldX_ok {α:Type} {g:α→XE} {s p t:ByteArray} {x:α} {l:List α} (h:g x = .ok p) (h2:plX s p = .ok t):foldX g s (x :: l) = foldX g t l:=by simp only [foldX,h,h2]
theorem drop_at {α:Type} {l:List α} {k:Nat} (h:k < l.length):l.drop k = l[k] :: l.drop (k + 1):=by simp
theorem err_zT:errQ zT.data.toList = 0:=IsT.zero.err
theorem err_oT:errQ oT.data.toList = 0:=IsT.one.err
theorem val_zT:valQ zT.data.toList = 0:=IsT.zero.val
theorem val_oT:valQ oT.data.toList = 1:=IsT.one.val
end Go.Proofs.YtigapglmipmbeaaGreatDoor
namespace Go.Proofs.YtigapglmipmbeaaGreatDoor
open Go.RowKit Go.Shelf
def Ret (F:FuncId) (args:Array Value) (v:Value):Prop:=∀ w,Res w→Calls Tryz.prog F args w fun e w'=>e = .returned v∧Below w.heap.size w w'
end Go.Proofs.YtigapglmipmbeaaGreatDoor
namespace Go.Proofs.YtigapglmipmbeaaGreatDoor
open Go.RowKit Go.Shelf
open Lim
section
variable {a b:ByteArray} (ha:a.size≤270000) (hb:b.size≤270000)
include ha hb
theorem retPlX:Ret 107 #[.string a,.string b] (resX (plX a b)):=fun w hr=>by
 unfold plX
 rw [← resX_ex (plX_t a b)]
 exact ratAdd_any a b w ha hb hr
theorem retSubX:Ret 117 #[.string a,.string b] (resX (subX a b)):=fun w hr=>by
 unfold subX
 rw [← resX_ex (subX_t a b)]
 exact ratSub_any a b w ha hb hr
theorem retMulX:Ret 130 #[.string a,.string b] (resX (mulX a b)):=fun w hr=>by
 unfold mulX
 rw [← resX_ex (mulX_t a b)]
 exact ratMul_any a b w ha hb hr
theorem retDivX:Ret 133 #[.string a,.string b] (resX (divX a b)):=fun w hr=>by
 unfold divX
 rw [← resX_ex (divX_t a b)]
 exact ratDiv_any a b w ha hb hr
theorem retMaxX:Ret 131 #[.string a,.string b] (resX (maxX a b)):=fun w hr=>by
 rw [← maxX_res]
 exact ratMax_any a b w ha hb hr
end
theorem retPowX {a:ByteArray} (ha:a.size≤270000) (n:Int) (h1:-9223372036854775808≤n) (h2:n≤9223372036854775807):Ret 135 #[.string a,.int .i64 n] (resX (powX a n)):=fun w hr=>by
 unfold powX
 rw [← resX_ex (powX_t a n)]
 exact ratPow_any a n w ha hr h1 h2
theorem lt_bytes (a b:ByteArray):Op.bytesLess a.toList b.toList = ltK a b:=by
 unfold ltK
 rw [bytesLess_eq,Lib.toList_data,Lib.toList_data]
theorem eq_bytes (a b:ByteArray):(a.toList == b.toList) = decide (a = b):=by
 rw [Lib.toList_data,Lib.toList_data]
 by_cases h:a = b
 ·subst h;simp
 ·have h2:a.data.toList≠b.data.toList:=fun e=>h (by
   cases a;cases b
   simp only [ByteArray.mk.injEq]
   exact Array.ext' e)
  rw [decide_eq_false h]
  exact beq_eq_false_iff_ne.2 h2
theorem oT_list:oT.toList = [49]:=by rw [Lib.toList_data];rfl
theorem zT_list:zT.toList = [48]:=by rw [Lib.toList_data];rfl
theorem ne_zero {n:Nat} (h:n≠0):((n:Int) == 0) = false:=by rw [beq_eq_false_iff_ne];omega
theorem ne_zero2 {n:Nat} (h:n≠0):((n:Int) != 0) = true:=by unfold bne;rw [ne_zero h];rfl
theorem num_neg_iff (q:Rat):q.num < 0↔q < 0:=by
 have h:=Rat.num_nonneg (q:=q)
 constructor
 ·intro h2
  exact Classical.byContradiction fun h3=>absurd (h.2 (by grind)) (by omega)
 ·intro h2
  exact Classical.byContradiction fun h3=>by
   have:=h.1 (by omega)
   grind
theorem sg_lt (q:Rat):sgQ q < 0↔q < 0:=by
 rw [sgQ_num,← num_neg_iff]
 split
 ·rename_i h;exact ⟨fun _=>h,fun _=>by omega⟩
 ·rename_i h
  split <;> exact ⟨fun h2=>absurd h2 (by omega),fun h2=>absurd h2 h⟩
theorem sg_gt (q:Rat):0 < sgQ q↔0 < q:=by
 rw [sgQ_num]
 have h1:=num_neg_iff q
 have h0:q.num = 0↔q = 0:=Rat.num_eq_zero
 split
 ·rename_i h
  have:=h1.1 h
  exact ⟨fun h2=>absurd h2 (by omega),fun h2=>by grind⟩
 ·rename_i h
  have h4:¬ q < 0:=fun h5=>h (h1.2 h5)
  split
  ·rename_i h3
   have:=h0.1 h3
   exact ⟨fun h2=>absurd h2 (by omega),fun h2=>by grind⟩
  ·rename_i h3
   have:q≠0:=fun h5=>h3 (h0.2 h5)
   exact ⟨fun _=>by grind,fun _=>by omega⟩
end Go.Proofs.YtigapglmipmbeaaGreatDoor
namespace Go.Proofs.YtigapglmipmbeaaGreatDoor
open Go.RowKit Go.Shelf
open Lim
attribute [local go_sem] Oper.semAt_some
structure NW (w:World) (W:World):Prop where
 below:Below w.heap.size w W
 res:Res W
theorem NW.refl {w:World} (hr:Res w):NW w w:=⟨Below.refl _ _,hr⟩
theorem NW.later {w W W':World} (h:NW w W) (hb:Below W.heap.size W W'):NW w W':=⟨h.below.trans (hb.mono h.below.size),h.res.below hb⟩
theorem NW.alloc {w W:World} (h:NW w W) (o:Obj):NW w (W.alloc o):=h.later (below_alloc (Below.refl _ _) _)
theorem NW.drewN {w W:World} (h:NW w W) (n:Nat):NW w (W.drewN n):=h.later (below_drewN' (Below.refl _ _) n)
def posB (p:ByteArray):Bool:=decide (errQ p.data.toList = 0) && decide (0 < valQ p.data.toList)
theorem pos_err (p:ByteArray) (s z:Int) (w:World) (HS:Hid (Calls Tryz.prog 187 #[.string p] w fun e w'=>e = .returned (.tuple #[.int .i64 s,.int .i64 z])∧Below w.heap.size w w')) (hz:(z == 0) = false) :
  Calls Tryz.prog 106 #[.string p] w fun e w'=>e = .returned (.tuple #[.bool (decide (0 < s)),.int .i64 z])∧Below w.heap.size w w':=by
 go_enter Tryz.func106,Tryz.ntmps106
 go_wp2_with (go_at_call 187;refine HS.out.mono ?_;rintro e w1 ⟨rfl,hb⟩;have HB:=Lib.hid hb;clear hb)
 go_ret2
 exact ⟨rfl,HB.out⟩
theorem pos_neg (p:ByteArray) (s:Int) (w:World) (HS:Hid (Calls Tryz.prog 187 #[.string p] w fun e w'=>e = .returned (.tuple #[.int .i64 s,.int .i64 0])∧Below w.heap.size w w')) (h1:decide (s < 0) = true) :
  Calls Tryz.prog 106 #[.string p] w fun e w'=>e = .returned (.tuple #[.bool (decide (0 < s)),.int .i64 2])∧Below w.heap.size w w':=by
 go_enter Tryz.func106,Tryz.ntmps106
 go_wp2_with (go_at_call 187;refine HS.out.mono ?_;rintro e w1 ⟨rfl,hb⟩;have HB:=Lib.hid hb;clear hb)
 go_ret2
 exact ⟨rfl,HB.out⟩
theorem pos_ok (p:ByteArray) (s:Int) (w:World) (HS:Hid (Calls Tryz.prog 187 #[.string p] w fun e w'=>e = .returned (.tuple #[.int .i64 s,.int .i64 0])∧Below w.heap.size w w')) (h1:decide (s < 0) = false) :
  Calls Tryz.prog 106 #[.string p] w fun e w'=>e = .returned (.tuple #[.bool (decide (0 < s)),.int .i64 0])∧Below w.heap.size w w':=by
 go_enter Tryz.func106,Tryz.ntmps106
 go_wp2_with (go_at_call 187;refine HS.out.mono ?_;rintro e w1 ⟨rfl,hb⟩;have HB:=Lib.hid hb;clear hb)
 go_ret2
 exact ⟨rfl,HB.out⟩
theorem positive_any {p:ByteArray} (hp:p.size≤270000):Ret 106 #[.string p] (.tuple #[.bool (posB p),.int .i64 (posE p:Int)]):=fun w hr=>by
 have HS:=ratSign_any p w hp hr
 unfold oneI resI at HS
 unfold posB posE
 by_cases he:errQ p.data.toList = 0
 ·rw [if_neg (by simpa using he)] at HS
  rw [if_neg (by simpa using he),decide_eq_true he,Bool.true_and]
  dsimp only at HS
  have e1:decide (0 < valQ p.data.toList) = decide (0 < sgQ (valQ p.data.toList)):=decide_eq_decide.2 (sg_gt _).symm
  rw [e1]
  by_cases hn:valQ p.data.toList < 0
  ·rw [if_pos hn]
   exact pos_neg p _ w (Lib.hid HS) (decide_eq_true ((sg_lt _).2 hn))
  ·rw [if_neg hn]
   exact pos_ok p _ w (Lib.hid HS) (decide_eq_false fun h=>hn ((sg_lt _).1 h))
 ·rw [if_pos he] at HS
  rw [if_pos he,decide_eq_false he,Bool.false_and]
  exact pos_err p 0 _ w (Lib.hid HS) (ne_zero he)
theorem runs_check1:Runs 123:=runs_of Tryz.func123 (by kernel_rfl) (by kernel_rfl)
theorem check1_any (x:L2) (k:Int) (w:World):Calls Tryz.prog 123 #[.int .i64 k,.agg #[.string x.1,.string x.2]] w fun e w'=>e = .returned (.tuple #[.string x.2,.int .i64 0])∧Below w.heap.size w w':=by
 have H:=Lib.hid (below_alloc (Below.refl w.heap.size w) (.cells #[.string x.1,.string x.2] 30))
 go_enter Tryz.func123,Tryz.ntmps123
 go_wp2
 go_ret2
 exact ⟨rfl,H.out⟩
theorem dfold_any (F:FuncId) (cb:Array Value) (hrun:Runs F) (g:L2→XE) (ls:List L2) (v:Value) (w:World) (hv:LRow w v ls) (hr:Res w) (hne:∀ x n,g x = .error n→n≠0) (hok:∀ x∈ls,∀ s,g x = .ok s→errQ s.data.toList = 0)
  (hg:∀ (k:Nat) (x:L2),ls[k]? = some x→∀ W,Below w.heap.size w W→Res W→Calls Tryz.prog F (#[.int .i64 (k:Int),.agg #[.string x.1,.string x.2]] ++ cb) W fun e W'=>e = .returned (resX (g x))∧Below W.heap.size W W') :
  Calls Tryz.prog 122 #[v,.func (.func F) #[] cb] w fun e w'=>e = .returned (resX (foldX g zT ls))∧Below w.heap.size w w':=by
 obtain ⟨A,c,rfl,hlen,hcells⟩:=hv
 have HCE:=Lib.hid hcells
 have HG:=Lib.hid hg
 have HOK:=Lib.hid hok
 have HNE:=Lib.hid hne
 have H0:=Lib.hid (NW.refl hr)
 have hrn:=hrun
 unfold Runs at hrn
 clear hr hcells hg hok hne hrun
 go_enter Tryz.func122,Tryz.ntmps122
 go_wp2
 go_loopw [6,13] (fun v6 v13 wr=>∃ (k:Nat) (s:ByteArray),k≤ls.length∧v13 = .int .i64 (k:Int)∧v6 = .string s∧Hid (errQ s.data.toList = 0∧foldX g zT ls = foldX g s (ls.drop k))∧Hid (NW w wr)) (fun _ v13 _=>ls.length - (intOf v13).toNat)
 case atStart=>exact ⟨0,zT,Nat.zero_le _,rfl,rfl,Lib.hid ⟨err_zT,by simp⟩,H0⟩
 case round =>
  obtain ⟨k,s,hk,rfl,rfl,HE,HN⟩:=hrel
  by_cases hlt:k < ls.length
  ·obtain ⟨b,o,rfl,hbw,hcell⟩:=HCE.out (by omega)
   obtain ⟨x,hx⟩:∃ x,ls[k]? = some x:=⟨_,List.getElem?_eq_getElem hlt⟩
   obtain ⟨c0,c1⟩:=hcell k x hx
   rw [← HN.out.below.cell (p:=⟨b,o + k * 2,none⟩) hbw] at c0
   rw [← HN.out.below.cell (p:=⟨b,o + k * 2 + 1,none⟩) hbw] at c1
   have hlt':(k:Int) < (ls.length:Int):=by omega
   have hb2:b < wr.heap.size:=Nat.lt_of_lt_of_le hbw HN.out.below.size
   have HX:=Lib.hid (HN.out.alloc (.cells #[.string x.1,.string x.2] 30))
   have HF:=Lib.hid (HG.out k x hx _ HX.out.below HX.out.res)
   have HD:=Lib.hid (show ls.drop k = x :: ls.drop (k + 1) by
    rw [List.drop_eq_getElem_cons hlt]
    rw [List.getElem?_eq_getElem hlt] at hx
    cases hx
    rfl)
   have HM:=Lib.hid (List.mem_of_getElem? hx)
   have HLT:=Lib.hid (And.intro hlt hlt')
   obtain ⟨f,d⟩:=x
   dsimp only at c0 c1 HX HF
   clear hcell hx hbw hlt
   cases hg:g (f,d) with
   | error m =>
    have HR:=Lib.hid (show foldX g zT ls = .error m by rw [HE.out.2,HD.out,foldX_err hg])
    rw [hg] at HF
    change Hid (Calls _ _ _ _ fun e w'=>e = .returned (.tuple #[.string ⟨#[]⟩,.int .i64 (m:Int)])∧_) at HF
    have hm:((m:Int) == 0) = false:=ne_zero (HNE.out _ _ hg)
    have HF2:=HF.out
    clear HF hg
    go_wp2
    refine HF2.mono ?_
    rintro e w3 ⟨rfl,hb⟩
    have H3:=Lib.hid (HX.out.later hb)
    clear hb
    go_wp2
    go_ret2
    rw [HR.out]
    exact ⟨rfl,H3.out.below⟩
   | ok p =>
    have HA:=Lib.hid (retPlX (size_ok HE.out.1) (size_ok (HOK.out _ HM.out p hg)))
    rw [hg] at HF
    change Hid (Calls _ _ _ _ fun e w'=>e = .returned (.tuple #[.string p,.int .i64 0])∧_) at HF
    have HF2:=HF.out
    cases ha:plX s p with
    | error n =>
     have HR:=Lib.hid (show foldX g zT ls = .error n by rw [HE.out.2,HD.out,foldX_err2 hg ha])
     have hm:((n:Int) == 0) = false:=ne_zero (exQ_err ha)
     rw [ha] at HA
     change Hid (Ret _ _ (.tuple #[.string ⟨#[]⟩,.int .i64 (n:Int)])) at HA
     clear HF hg ha
     go_wp2
     refine HF2.mono ?_
     rintro e w3 ⟨rfl,hb⟩
     have H3:=Lib.hid (HX.out.later hb)
     clear hb HF2
     go_wp2_with (go_at_call 107;refine (HA.out _ H3.out.res).mono ?_;rintro e w4 ⟨rfl,hb⟩;have H4:=Lib.hid (H3.out.later hb);clear hb)
     go_ret2
     rw [HR.out]
     exact ⟨rfl,H4.out.below⟩
    | ok t =>
     have HR:=Lib.hid (show errQ t.data.toList = 0∧foldX g zT ls = foldX g t (ls.drop (k + 1)) from ⟨plX_ok ha,by rw [HE.out.2,HD.out,foldX_ok hg ha]⟩)
     rw [ha] at HA
     change Hid (Ret _ _ (.tuple #[.string t,.int .i64 0])) at HA
     clear HF hg ha
     go_wp2
     refine HF2.mono ?_
     rintro e w3 ⟨rfl,hb⟩
     have H3:=Lib.hid (HX.out.later hb)
     clear hb HF2
     go_wp2_with (go_at_call 107;refine (HA.out _ H3.out.res).mono ?_;rintro e w4 ⟨rfl,hb⟩;have H4:=Lib.hid (H3.out.later hb);clear hb)
     go_roundw
     case rel=>exact ⟨k + 1,t,HLT.out.1,by go_num,rfl,HR,H4⟩
     case measure=>have:=HLT.out.1;simp [intOf];omega
  ·have hlt':¬ (k:Int) < (ls.length:Int):=by omega
   obtain rfl:k = ls.length:=by omega
   have HE2:=Lib.hid (show foldX g zT ls = .ok s by
    have:=HE.out.2
    rwa [List.drop_length] at this)
   clear hlt
   go_wp2
   go_ret2
   rw [HE2.out]
   exact ⟨rfl,HN.out.below⟩
end Go.Proofs.YtigapglmipmbeaaGreatDoor
namespace Go.Proofs.YtigapglmipmbeaaGreatDoor
open Go.RowKit Go.Shelf
open Lim
end Go.Proofs.YtigapglmipmbeaaGreatDoor
namespace Go.Proofs.YtigapglmipmbeaaGreatDoor
open Lim
abbrev DL:=List (ByteArray × Rat)
def sumBy {α:Type} (f:α→Rat):List α→Rat
 | []=>0
 | a :: l=>f a + sumBy f l
def pos (x:Rat):Rat:=if 0 < x then x else 0
theorem pos_nonneg (x:Rat):0≤pos x:=by unfold pos;split <;> grind
theorem le_pos (x:Rat):x≤pos x:=by unfold pos;split <;> grind
theorem pos_le {x y:Rat} (h:x≤y) (h0:0≤y):pos x≤y:=by unfold pos;split <;> grind
theorem pos_add (x y:Rat):pos (x + y)≤pos x + pos y:=by unfold pos;split <;> split <;> split <;> grind
theorem pos_of {x:Rat} (h:x≤0):pos x = 0:=by unfold pos;rw [if_neg (by grind)]
theorem pos_mono {x y:Rat} (h:x≤y):pos x≤pos y:=pos_le (Rat.le_trans h (le_pos y)) (pos_nonneg y)
theorem pos_mul {c:Rat} (hc:0≤c) (x:Rat):pos (c * x) = c * pos x:=by
 by_cases h:0 < x
 ·have e:pos x = x:=if_pos h
  have h2:0≤c * x:=Rat.mul_nonneg hc (by grind)
  rw [e]
  unfold pos
  split
  ·rfl
  ·grind
 ·have e:pos x = 0:=if_neg h
  have h2:0≤c * (-x):=Rat.mul_nonneg hc (by grind)
  have h3:c * (-x) = -(c * x):=by grind
  rw [e,Rat.mul_zero]
  exact pos_of (by grind)
section
variable {α β:Type} {f g:α→Rat} {l m:List α}
theorem sumBy_append (f:α→Rat) (l m:List α):sumBy f (l ++ m) = sumBy f l + sumBy f m:=by
 induction l with
 | nil=>simp only [List.nil_append,sumBy];grind
 | cons a l ih=>simp only [List.cons_append,sumBy];grind
theorem sumBy_congr (h:∀ a∈l,f a = g a):sumBy f l = sumBy g l:=by
 induction l with
 | nil=>rfl
 | cons a l ih =>
  simp only [sumBy]
  rw [h a (by simp),ih fun b hb=>h b (by simp [hb])]
theorem sumBy_le (h:∀ a∈l,f a≤g a):sumBy f l≤sumBy g l:=by
 induction l with
 | nil=>exact Rat.le_refl
 | cons a l ih =>
  simp only [sumBy]
  have h1:=h a (by simp)
  have h2:=ih fun b hb=>h b (by simp [hb])
  grind
theorem sumBy_nonneg (h:∀ a∈l,0≤f a):0≤sumBy f l:=by
 induction l with
 | nil=>exact Rat.le_refl
 | cons a l ih =>
  simp only [sumBy]
  have h1:=h a (by simp)
  have h2:=ih fun b hb=>h b (by simp [hb])
  grind
theorem le_sumBy (h:∀ a∈l,0≤f a) {a:α} (ha:a∈l):f a≤sumBy f l:=by
 induction l with
 | nil=>cases ha
 | cons b l ih =>
  simp only [sumBy]
  have h1:=h b (by simp)
  have h2:0≤sumBy f l:=sumBy_nonneg fun b hb=>h b (by simp [hb])
  rcases List.mem_cons.1 ha with rfl | ha
  ·grind
  ·have:=ih (fun b hb=>h b (by simp [hb])) ha
   grind
theorem sumBy_zero (h:∀ a∈l,f a = 0):sumBy f l = 0:=by
 induction l with
 | nil=>rfl
 | cons a l ih =>
  simp only [sumBy]
  rw [h a (by simp),ih fun b hb=>h b (by simp [hb])]
  grind
theorem sumBy_add (f g:α→Rat) (l:List α):sumBy (fun a=>f a + g a) l = sumBy f l + sumBy g l:=by
 induction l with
 | nil=>simp only [sumBy];grind
 | cons a l ih=>simp only [sumBy];rw [ih];grind
theorem sumBy_mul (c:Rat) (f:α→Rat) (l:List α):sumBy (fun a=>c * f a) l = c * sumBy f l:=by
 induction l with
 | nil=>simp [sumBy]
 | cons a l ih=>simp only [sumBy];rw [ih];grind
theorem sumBy_map (h:β→α) (f:α→Rat) (l:List β):sumBy f (l.map h) = sumBy (fun b=>f (h b)) l:=by
 induction l with
 | nil=>rfl
 | cons a l ih=>simp only [List.map_cons,sumBy];rw [ih]
theorem sumBy_perm (h:l.Perm m):sumBy f l = sumBy f m:=by
 induction h with
 | nil=>rfl
 | cons a _ ih=>simp only [sumBy];rw [ih]
 | swap a b l=>simp only [sumBy];grind
 | trans _ _ h1 h2=>rw [h1,h2]
theorem sumBy_sub [DecidableEq α]:∀ {l m:List α},l.Nodup→m.Nodup→(∀ a∈l,a∈m)→(∀ a∈m,a ∉ l→f a = 0)→sumBy f m = sumBy f l
 | [],m,_,_,_,h0=>by
  rw [sumBy_zero fun a ha=>h0 a ha (by simp)]
  rfl
 | a :: l,m,hl,hm,hs,h0=>by
  have ha:a∈m:=hs a (by simp)
  rw [sumBy_perm (List.perm_cons_erase ha)]
  simp only [sumBy]
  rw [List.nodup_cons] at hl
  rw [sumBy_sub (l:=l) hl.2 (hm.erase a) (fun b hb=>?_) (fun b hb hn=>?_)]
  ·refine (List.mem_erase_of_ne ?_).2 (hs b (by simp [hb]))
   rintro rfl
   exact hl.1 hb
  ·have h1:=(hm.mem_erase_iff).1 hb
   exact h0 b h1.2 (by simp [hn,h1.1])
end
def massD (l:DL) (k:ByteArray):Rat:=sumBy (fun e=>if e.1 = k then e.2 else 0) l
def keysD (l:DL):List ByteArray:=l.map (·.1)
theorem massD_cons (e:ByteArray × Rat) (l:DL) (k:ByteArray):massD (e :: l) k = (if e.1 = k then e.2 else 0) + massD l k:=rfl
theorem massD_append (l m:DL) (k:ByteArray):massD (l ++ m) k = massD l k + massD m k:=sumBy_append _ l m
theorem massD_none {l:DL} {k:ByteArray} (h:k ∉ keysD l):massD l k = 0:=by
 refine sumBy_zero fun e he=>if_neg ?_
 rintro rfl
 exact h (List.mem_map_of_mem he)
theorem massD_at {l:DL} (hn:(keysD l).Nodup) {e:ByteArray × Rat} (he:e∈l):massD l e.1 = e.2:=by
 induction l with
 | nil=>cases he
 | cons a l ih =>
  have hn2:a.1 ∉ keysD l∧(keysD l).Nodup:=List.nodup_cons.1 hn
  rw [massD_cons]
  rcases List.mem_cons.1 he with rfl | h
  ·rw [if_pos rfl,massD_none hn2.1,Rat.add_zero]
  ·have hk:e.1∈keysD l:=List.mem_map_of_mem h
   rw [if_neg (fun h2=>hn2.1 (by rw [h2];exact hk)),ih hn2.2 h,Rat.zero_add]
theorem sum_key {K:List ByteArray} (hK:K.Nodup) {k:ByteArray} (hk:k∈K) (c:ByteArray→Rat) (x:Rat):sumBy (fun j=>c j * (if k = j then x else 0)) K = c k * x:=by
 rw [sumBy_sub (l:=[k]) (by simp) hK (by simpa using hk) (fun a _ hn=>by rw [if_neg (fun h=>hn (by simp [h])),Rat.mul_zero])]
 show c k * (if k = k then x else 0) + 0 = c k * x
 rw [if_pos rfl,Rat.add_zero]
theorem sum_mass {K:List ByteArray} (hK:K.Nodup) (c:ByteArray→Rat):∀ {l:DL},(∀ k∈keysD l,k∈K)→sumBy (fun k=>c k * massD l k) K = sumBy (fun e=>c e.1 * e.2) l
 | [],_=>sumBy_zero fun a _=>Rat.mul_zero _
 | e :: l,h=>by
  have e1:sumBy (fun k=>c k * massD (e :: l) k) K = sumBy (fun k=>c k * (if e.1 = k then e.2 else 0) + c k * massD l k) K :=
   sumBy_congr fun k _=>by rw [massD_cons,Rat.mul_add]
  rw [e1,sumBy_add,sum_key hK (h e.1 (by simp [keysD])) c e.2,sum_mass hK c (l:=l) fun k hk=>h k (by
   unfold keysD at hk ⊢
   simp only [List.map_cons,List.mem_cons]
   exact .inr hk)]
  rfl
theorem sum_mass1 {K:List ByteArray} (hK:K.Nodup) {l:DL} (h:∀ k∈keysD l,k∈K):sumBy (fun k=>massD l k) K = sumBy (fun e=>e.2) l:=by
 have:=sum_mass hK (fun _=>1) h
 simp only [Rat.one_mul] at this
 exact this
structure IsD (d:DL):Prop where
 once:(keysD d).Nodup
 plus:∀ e∈d,0 < e.2
 one:sumBy (fun e=>e.2) d = 1
theorem IsD.zero {d:DL} (h:IsD d) (k:ByteArray):0≤massD d k :=
 sumBy_nonneg fun e he=>by have:=h.plus e he;split <;> grind
theorem IsD.pos_iff {d:DL} (h:IsD d) (k:ByteArray):0 < massD d k↔k∈keysD d:=by
 constructor
 ·intro hp
  refine Classical.byContradiction fun hn=>?_
  rw [massD_none hn] at hp
  exact Rat.lt_irrefl hp
 ·intro hk
  obtain ⟨e,he,rfl⟩:=List.mem_map.1 hk
  rw [massD_at h.once he]
  exact h.plus e he
theorem IsD.total {d:DL} (h:IsD d) {K:List ByteArray} (hK:K.Nodup) (hs:∀ k∈keysD d,k∈K):sumBy (massD d) K = 1:=by
 rw [← h.one]
 exact sum_mass1 hK hs
theorem IsD.sum {d:DL} (hn:(keysD d).Nodup) (h:ByteArray→Rat→Rat):sumBy (fun e=>h e.1 e.2) d = sumBy (fun k=>h k (massD d k)) (keysD d):=by
 unfold keysD
 rw [sumBy_map]
 exact sumBy_congr fun e he=>by rw [massD_at hn he]
theorem once_list:∀ l:List ByteArray,∃ K:List ByteArray,K.Nodup∧∀ k,k∈K↔k∈l
 | []=>⟨[],by simp,by simp⟩
 | a :: l=>by
  obtain ⟨K,h1,h2⟩:=once_list l
  by_cases h:a∈K
  ·refine ⟨K,h1,fun k=>?_⟩
   rw [h2,List.mem_cons]
   constructor
   ·exact .inr
   ·rintro (rfl | h3)
    ·exact (h2 k).1 h
    ·exact h3
  ·refine ⟨a :: K,List.nodup_cons.2 ⟨h,h1⟩,fun k=>?_⟩
   rw [List.mem_cons,List.mem_cons,h2]
def hasK (k:ByteArray) (l:List ByteArray):Bool:=l.any fun j=>decide (j = k)
theorem hasK_iff {k:ByteArray} {l:List ByteArray}:hasK k l = true↔k∈l:=by
 unfold hasK
 rw [List.any_eq_true]
 constructor
 ·rintro ⟨x,h1,h2⟩
  rw [← of_decide_eq_true h2];exact h1
 ·intro h
  exact ⟨k,h,decide_eq_true rfl⟩
def deltaD (p q:DL) (f:Rat):Rat:=sumBy (fun e=>pos (e.2 - f * massD q e.1)) p
theorem delta_keys {p:DL} (hn:(keysD p).Nodup) (q:DL) (f:Rat):deltaD p q f = sumBy (fun k=>pos (massD p k - f * massD q k)) (keysD p) :=
 IsD.sum hn fun k x=>pos (x - f * massD q k)
theorem delta_over {p q:DL} (hp:IsD p) (hq:IsD q) {f:Rat} (hf:0≤f) {K:List ByteArray} (hK:K.Nodup) (hs:∀ k∈keysD p,k∈K) :
  deltaD p q f = sumBy (fun k=>pos (massD p k - f * massD q k)) K:=by
 rw [delta_keys hp.once,sumBy_sub hp.once hK hs]
 intro k _ hn
 rw [massD_none hn]
 have:=Rat.mul_nonneg hf (hq.zero k)
 exact pos_of (by grind)
theorem delta_nonneg (p q:DL) (f:Rat):0≤deltaD p q f:=sumBy_nonneg fun _ _=>pos_nonneg _
theorem delta_top {p q:DL} (hp:IsD p) (hq:IsD q) {f:Rat} (hf:0≤f):deltaD p q f≤1:=by
 rw [← hp.one]
 refine sumBy_le fun e he=>?_
 have h1:=Rat.mul_nonneg hf (hq.zero e.1)
 have h2:=hp.plus e he
 exact pos_le (by grind) (by grind)
theorem delta_mix {a b c d x y:DL} (ha:IsD a) (hb:IsD b) (hc:IsD c) (hd:IsD d) (hx:IsD x) (hy:IsD y) {t f:Rat} (h0:0≤t) (h1:t≤1) (hf:0≤f)
  (ex:∀ k,massD x k = t * massD a k + (1 - t) * massD c k) (ey:∀ k,massD y k = t * massD b k + (1 - t) * massD d k) :
  deltaD x y f≤t * deltaD a b f + (1 - t) * deltaD c d f:=by
 obtain ⟨K,hK,m⟩:=once_list (keysD x ++ keysD a ++ keysD c)
 rw [delta_over hx hy hf hK (fun k hk=>(m k).2 (by simp [hk])),delta_over ha hb hf hK (fun k hk=>(m k).2 (by simp [hk])),delta_over hc hd hf hK (fun k hk=>(m k).2 (by simp [hk])),
  ← sumBy_mul,← sumBy_mul,← sumBy_add]
 refine sumBy_le fun k _=>?_
 rw [ex,ey,← pos_mul h0,← pos_mul (by grind)]
 refine Rat.le_trans (pos_mono ?_) (pos_add _ _)
 grind
end Go.Proofs.YtigapglmipmbeaaGreatDoor
