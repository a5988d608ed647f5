/- rat.with and rat.both over ints (printed by mkwithi.py). The order of rational numbers by their parts. No program in sight. rat: comparisons: frac.Cmp, rat.Sign, Cmp, choose, Min, Max (printed by mkratc.py). rat: Sign, Cmp, choose, Min, Max, Int, Parts. Rounding of rational numbers by their parts. No program in sight. rat: round, Floor, Ceil (printed by mkrate.py). More functions of rat on texts of numbers: comparisons, rounding. Losses in plain rationals: what Check, Add, Max, Fits, Group, Late, Alpha, Beta and Half compute. Computations that are left by a panic: must, and the deferred ends that turns the error into a result. loss.order and loss.Check. loss.Check. loss.valid: the first error of a list of losses leaves the computation. The functions of chapter 8 on texts: what the program and the reference compute. No program in sight. What a call returns in every world, new memory aside. The program's functions of numbers, as the plain model of chapter 8 speaks of them. dist: positive, fold, Check, checked. The order and the sums of losses, in plain rationals. Distributions in plain rationals: sums over keys, and what Delta, Factor, Moment, Push, Product and Mix obey. No program in sight. Distributions in plain rationals: Push, Product, moments, and what Make collects. No program in sight. Common denominators: how long sums of many numbers are. No program in sight. Losses and moments of distributions in plain rationals: groups, late outcomes, the conversion of moments. No program in sight. -/
import Derived.Test.YtigapglmipmbeaaGreatDoorLwDistNames06
import Derived.Test.YtigapglmipmbeaaGreatDoorLwDistNames05
import Derived.Test.YtigapglmipmbeaaGreatDoorLwDistNames07
import Derived.Recover
import Derived.Defers
import Derived.Sort.Walk0
import Derived.BigQuiet
set_option maxRecDepth 100000
set_option maxHeartbeats 16000000
namespace Go.Proofs.YtigapglmipmbeaaGreatDoor
open Go.RowKit Go.Shelf
open Lim
namespace WI
theorem runs_both1:Runs 256:=runs_of Tryz.func256 (by kernel_rfl) (by kernel_rfl)
theorem runs_both2:Runs 257:=runs_of Tryz.func257 (by kernel_rfl) (by kernel_rfl)
theorem with_err (s:ByteArray) (fv:Value) (w:World) (hlen:s.size≤270000) (hr:Res w) (he:errQ s.data.toList≠0) :
  Calls Tryz.prog 241 #[.string s,fv] w fun e w'=>e=.returned (.tuple #[.int .i64 0,.int .i64 (errQ s.data.toList:Int)])∧Below w.heap.size w w':=by
 have HR:=Lib.hid hr
 have hne:((errQ s.data.toList:Int)==0)=false:=by rw [beq_eq_false_iff_ne];omega
 have HE:=Lib.hid he
 have HP:=Lib.hid (fparse_any s w hlen hr)
 clear hr he
 go_enter Tryz.func241,Tryz.ntmps241
 go_wp2_with (go_at_call 217;refine HP.out.mono ?_;rintro e w1 ⟨v,rfl,-,hz,hb⟩;obtain rfl:=hz HE.out;have HB:=Lib.hid hb;clear hb hz)
 refine bodyPost_ret (results_tmp2 rfl _ _ _) rfl ?_
 exact ⟨rfl,below_alloc HB.out _⟩
theorem with_ok (F:FuncId) (hrun:Runs F) (caps:Array Value) (rv:Value) (k:Int) (s:ByteArray) (w:World) (hlen:s.size≤270000) (hr:Res w) (he:errQ s.data.toList=0)
  (hF:∀ v w',Below w.heap.size w w'→Res w'→IsFrac w' v (valQ s.data.toList)→Calls Tryz.prog F (#[v]++caps) w' fun e w''=>e=.returned (.tuple #[rv,.int .i64 k])∧Below w'.heap.size w' w'') :
  Calls Tryz.prog 241 #[.string s,.func (.func F) #[] caps] w fun e w'=>e=.returned (.tuple #[rv,.int .i64 k])∧Below w.heap.size w w':=by
 have HR:=Lib.hid hr
 have hne:((errQ s.data.toList:Int)==0)=true:=by rw [he];rfl
 have HE:=Lib.hid he
 have HP:=Lib.hid (fparse_any s w hlen hr)
 have HF:=Lib.hid hF
 have hrn:=hrun
 unfold Runs at hrn
 clear hr he hF hrun
 go_enter Tryz.func241,Tryz.ntmps241
 go_wp2_with (go_at_call 217;refine HP.out.mono ?_;rintro e w1 ⟨v,rfl,hv,-,hb⟩;obtain ⟨bq,N,D,A,c,A',c',rfl,hn,hd,HQ⟩:=isFrac_open (hv HE.out);have HV:=Lib.hid (hv HE.out);have HB:=Lib.hid hb;clear hb hv hn hd)
 have hx:=below_alloc HB.out (.cells #[.bool bq,.slice A (toL N).length c,.slice A' (toL D).length c'] 216)
 have hx1:Below w1.heap.size w1 (w1.alloc (.cells #[.bool bq,.slice A (toL N).length c,.slice A' (toL D).length c'] 216)):=below_alloc (Below.refl _ _) _
 have HX:=Lib.hid hx
 refine (HF.out _ _ HX.out (HR.out.below HX.out) (HV.out.below hx1)).mono ?_
 rintro e w2 ⟨rfl,hb2⟩
 have HB2:=Lib.hid (HX.out.trans (hb2.mono HX.out.size))
 clear hx hx1 hb2
 go_wp2
 refine bodyPost_ret (results_tmp2 rfl _ _ _) rfl ?_
 exact ⟨rfl,HB2.out⟩
theorem both2_ok (F:FuncId) (hrun:Runs F) (rv:Value) (k:Int) (pf px:Nat) (q q':Rat) (v v':Value) (w:World) (hpf:Boxed w pf 225 (.func (.func F) #[] #[]))
  (hv:IsFrac w v q) (hv':IsFrac w v' q') (vs:Array Value) (hvs:v=.agg vs) (hpx:Blk w px 216 vs) (_hr:Res w)
  (hF:∀ w',Below w.heap.size w w'→Calls Tryz.prog F #[v,v'] w' fun e w''=>e=.returned (.tuple #[rv,.int .i64 k])∧Below w'.heap.size w' w'') :
  Calls Tryz.prog 257 #[v',.pointer (some ⟨pf,0,none⟩),.pointer (some ⟨px,0,none⟩)] w fun e w'=>e=.returned (.tuple #[rv,.int .i64 k])∧Below w.heap.size w w':=by
 obtain ⟨bq,N,D,A,c,A',c',rfl,hn,hd,HQ⟩:=isFrac_open hv
 obtain ⟨bq',N',D',B,d,B',d',rfl,hn',hd',HQ'⟩:=isFrac_open hv'
 obtain rfl:#[.bool bq,.slice A (toL N).length c,.slice A' (toL D).length c']=vs:=by injection hvs
 have hrn:=hrun
 unfold Runs at hrn
 have HF:=Lib.hid hF
 have HX:=Lib.hid (below_alloc (Below.refl w.heap.size w) (.cells #[.bool bq',.slice B (toL N').length d,.slice B' (toL D').length d'] 216))
 have cf:=(bx_below hpf HX.out hpf.lt).cell
 obtain ⟨x0,x1,x2⟩:=rows_of hpx HX.out hpx.lt
 clear hrun hF hn hd hn' hd' hv hv' hpf hvs hpx
 go_enter Tryz.func257,Tryz.ntmps257
 go_wp2
 refine (HF.out _ HX.out).mono ?_
 rintro e w2 ⟨rfl,hb2⟩
 have HB2:=Lib.hid (HX.out.trans (hb2.mono HX.out.size))
 clear hb2
 go_wp2
 refine bodyPost_ret (results_tmp2 rfl _ _ _) rfl ?_
 exact ⟨rfl,HB2.out⟩
section
variable (F:FuncId) (b:ByteArray) (pb pf:Nat) (q:Rat) (v:Value) (w:World)
theorem both1_err (hlen:b.size≤270000) (hpb:Boxed w pb 23 (.string b)) (hpf:Boxed w pf 225 (.func (.func F) #[] #[]))
  (hv:IsFrac w v q) (hr:Res w) (he:errQ b.data.toList≠0) :
  Calls Tryz.prog 256 #[v,.pointer (some ⟨pb,0,none⟩),.pointer (some ⟨pf,0,none⟩)] w fun e w'=>e=.returned (.tuple #[.int .i64 0,.int .i64 (errQ b.data.toList:Int)])∧Below w.heap.size w w':=by
 obtain ⟨bq,N,D,A,c,A',c',rfl,hn,hd,HQ⟩:=isFrac_open hv
 have HX:=Lib.hid (below_alloc (Below.refl w.heap.size w) (.cells #[.bool bq,.slice A (toL N).length c,.slice A' (toL D).length c'] 216))
 have cf:=(bx_below hpf HX.out hpf.lt).cell
 have cb:=(bx_below hpb HX.out hpb.lt).cell
 have HW:=Lib.hid (fun fv=>with_err b fv _ hlen (hr.below HX.out) he)
 clear hn hd hv hpf hpb hr he
 go_enter Tryz.func256,Tryz.ntmps256
 go_wp2_with (go_at_call 241;refine (HW.out _).mono ?_;rintro e w2 ⟨rfl,hb2⟩;have HB2:=Lib.hid (HX.out.trans (hb2.mono HX.out.size));clear hb2)
 refine bodyPost_ret (results_tmp2 rfl _ _ _) rfl ?_
 exact ⟨rfl,HB2.out⟩
theorem both1_ok (hrun:Runs F) (rv:Value) (k:Int) (hlen:b.size≤270000) (hpb:Boxed w pb 23 (.string b)) (hpf:Boxed w pf 225 (.func (.func F) #[] #[]))
  (hv:IsFrac w v q) (hr:Res w) (he:errQ b.data.toList=0)
  (hF:∀ v' w',Below w.heap.size w w'→Res w'→IsFrac w' v q→IsFrac w' v' (valQ b.data.toList)→Calls Tryz.prog F #[v,v'] w' fun e w''=>e=.returned (.tuple #[rv,.int .i64 k])∧Below w'.heap.size w' w'') :
  Calls Tryz.prog 256 #[v,.pointer (some ⟨pb,0,none⟩),.pointer (some ⟨pf,0,none⟩)] w fun e w'=>e=.returned (.tuple #[rv,.int .i64 k])∧Below w.heap.size w w':=by
 obtain ⟨bq,N,D,A,c,A',c',rfl,hn,hd,HQ⟩:=isFrac_open hv
 have HX:=Lib.hid (below_alloc (Below.refl w.heap.size w) (.cells #[.bool bq,.slice A (toL N).length c,.slice A' (toL D).length c'] 216))
 have cf:=(bx_below hpf HX.out hpf.lt).cell
 have cb:=(bx_below hpb HX.out hpb.lt).cell
 have HW:=Lib.hid (with_ok 257 runs_both2 #[.pointer (some ⟨pf,0,none⟩),.pointer (some ⟨w.heap.size,0,none⟩)] rv k b (w.alloc (.cells #[.bool bq,.slice A (toL N).length c,.slice A' (toL D).length c'] 216)) hlen (hr.below HX.out) he (fun v' w' hb' hr' hv'=>by
  have hB:Below w.heap.size w w':=HX.out.trans (hb'.mono HX.out.size)
  exact both2_ok F hrun rv k pf w.heap.size q _ _ v' w' (bx_below hpf hB hpf.lt) (hv.below hB) hv' _ rfl ((Blk.new w _ _).below hb' (by simp)) hr' (fun w2 hb2=>hF v' w2 (hB.trans (hb2.mono hB.size)) (hr'.below hb2) ((hv.below hB).below hb2) (hv'.below hb2))))
 clear hn hd hv hpf hpb hr he hF hrun
 go_enter Tryz.func256,Tryz.ntmps256
 go_wp2_with (go_at_call 241;refine HW.out.mono ?_;rintro e w2 ⟨rfl,hb2⟩;have HB2:=Lib.hid (HX.out.trans (hb2.mono HX.out.size));clear hb2)
 refine bodyPost_ret (results_tmp2 rfl _ _ _) rfl ?_
 exact ⟨rfl,HB2.out⟩
end
theorem box_both (w:World) (b:ByteArray) (fv:Value):Boxed ((w.alloc (.cells #[.string b] 23)).alloc (.cells #[fv] 225)) w.heap.size 23 (.string b) ∧
  Boxed ((w.alloc (.cells #[.string b] 23)).alloc (.cells #[fv] 225)) (w.heap.size+1) 225 fv∧Below w.heap.size w ((w.alloc (.cells #[.string b] 23)).alloc (.cells #[fv] 225)):=by
 refine ⟨(Boxed.new w _ _).alloc _,?_,below_alloc (below_alloc (Below.refl _ _) _) _⟩
 have:=Boxed.new (w.alloc (.cells #[.string b] 23)) 225 fv
 rwa [World.size_alloc] at this
theorem both_any (F:FuncId) (hrun:Runs F) (f:Rat→Rat→Value × Int) (a b:ByteArray) (w:World) (ha:a.size≤270000) (hb:b.size≤270000) (hr:Res w)
  (hF:∀ v v' w',Below w.heap.size w w'→Res w'→IsFrac w' v (valQ a.data.toList)→IsFrac w' v' (valQ b.data.toList)→errQ a.data.toList=0→errQ b.data.toList=0→Calls Tryz.prog F #[v,v'] w' fun e w''=>e=.returned (.tuple #[(f (valQ a.data.toList) (valQ b.data.toList)).1,.int .i64 (f (valQ a.data.toList) (valQ b.data.toList)).2])∧Below w'.heap.size w' w'') :
  Calls Tryz.prog 196 #[.string a,.string b,.func (.func F) #[] #[]] w fun e w' =>
   e=.returned (if errQ a.data.toList≠0 then .tuple #[.int .i64 0,.int .i64 (errQ a.data.toList:Int)] else if errQ b.data.toList≠0 then .tuple #[.int .i64 0,.int .i64 (errQ b.data.toList:Int)] else .tuple #[(f (valQ a.data.toList) (valQ b.data.toList)).1,.int .i64 (f (valQ a.data.toList) (valQ b.data.toList)).2])∧Below w.heap.size w w':=by
 obtain ⟨b4,b5,hB⟩:=box_both w b (.func (.func F) #[] #[])
 by_cases h1:errQ a.data.toList≠0
 ·rw [if_pos h1]
  have HW:=Lib.hid (fun fv=>with_err a fv _ ha (hr.below hB) h1)
  have HB:=Lib.hid hB
  clear b4 b5 hB hrun hF hr h1
  go_enter Tryz.func196,Tryz.ntmps196
  go_wp2_with (go_at_call 241;refine (HW.out _).mono ?_;rintro e w2 ⟨rfl,hb2⟩;have HB2:=Lib.hid (HB.out.trans (hb2.mono HB.out.size));clear hb2)
  refine bodyPost_ret (results_tmp2 rfl _ _ _) rfl ?_
  exact ⟨rfl,HB2.out⟩
 ·rw [if_neg h1]
  have h1:errQ a.data.toList=0:=by omega
  by_cases h2:errQ b.data.toList≠0
  ·rw [if_pos h2]
   have HW:=Lib.hid (with_ok 256 runs_both1 #[.pointer (some ⟨w.heap.size,0,none⟩),.pointer (some ⟨w.heap.size+1,0,none⟩)] (.int .i64 0) (errQ b.data.toList:Int) a _ ha (hr.below hB) h1 (fun v w' hb' hr' hv =>
    both1_err F b w.heap.size (w.heap.size+1) _ v w' hb (bx_below b4 hb' b4.lt) (bx_below b5 hb' b5.lt) hv hr' h2))
   have HB:=Lib.hid hB
   clear b4 b5 hB hrun hF hr h1 h2
   go_enter Tryz.func196,Tryz.ntmps196
   go_wp2_with (go_at_call 241;refine HW.out.mono ?_;rintro e w2 ⟨rfl,hb2⟩;have HB2:=Lib.hid (HB.out.trans (hb2.mono HB.out.size));clear hb2)
   refine bodyPost_ret (results_tmp2 rfl _ _ _) rfl ?_
   exact ⟨rfl,HB2.out⟩
  ·rw [if_neg h2]
   have h2:errQ b.data.toList=0:=by omega
   generalize hR:f (valQ a.data.toList) (valQ b.data.toList)=R at *
   obtain ⟨rv,k⟩:=R
   dsimp only at hF ⊢
   have HW:=Lib.hid (with_ok 256 runs_both1 #[.pointer (some ⟨w.heap.size,0,none⟩),.pointer (some ⟨w.heap.size+1,0,none⟩)] rv k a _ ha (hr.below hB) h1 (fun v w' hb' hr' hv =>
    both1_ok F b w.heap.size (w.heap.size+1) _ v w' hrun rv k hb (bx_below b4 hb' b4.lt) (bx_below b5 hb' b5.lt) hv hr' h2 (fun v' w2 hb2 hr2 hv2 hv2'=>hF v v' w2 (hB.trans ((hb'.mono hB.size).trans (hb2.mono (Nat.le_trans hB.size hb'.size)))) hr2 hv2 hv2' h1 h2)))
   have HB:=Lib.hid hB
   clear b4 b5 hB hrun hF hr h1 h2 hR
   go_enter Tryz.func196,Tryz.ntmps196
   go_wp2_with (go_at_call 241;refine HW.out.mono ?_;rintro e w2 ⟨rfl,hb2⟩;have HB2:=Lib.hid (HB.out.trans (hb2.mono HB.out.size));clear hb2)
   refine bodyPost_ret (results_tmp2 rfl _ _ _) rfl ?_
   exact ⟨rfl,HB2.out⟩
end WI
end Go.Proofs.YtigapglmipmbeaaGreatDoor
namespace Go.Proofs.YtigapglmipmbeaaGreatDoor
open Lim
def cmpQ (p q:Rat):Int:=if p < q then -1 else if p=q then 0 else 1
theorem cmpQ_lt (p q:Rat):cmpQ p q < 0↔p < q:=by
 unfold cmpQ
 by_cases h:p < q
 ·rw [if_pos h];exact ⟨fun _=>h,fun _=>by omega⟩
 ·rw [if_neg h];split<;>exact ⟨fun h=>absurd h (by omega),fun h3=>absurd h3 h⟩
theorem cmpQ_swap (p q:Rat):cmpQ q p=- cmpQ p q:=by
 unfold cmpQ
 by_cases h:p < q
 ·rw [if_pos h,if_neg (fun h2=>Rat.not_le.2 h (Rat.le_of_lt h2)),if_neg (fun e=>by subst e;exact Rat.lt_irrefl h)];rfl
 ·by_cases h2:p=q
  ·subst h2;rw [if_neg h,if_pos rfl];rfl
  ·have h3:q < p:=by
    have:=Rat.not_lt.1 h
    exact Rat.lt_of_le_of_ne this (fun e=>h2 e.symm)
   rw [if_pos h3,if_neg h,if_neg h2]
theorem cmpQ_cases (p q:Rat):cmpQ p q=-1∨cmpQ p q=0∨cmpQ p q=1:=by
 unfold cmpQ
 split
 ·exact .inl rfl
 ·split
  ·exact .inr (.inl rfl)
  ·exact .inr (.inr rfl)
theorem cmpQ_cross (p q:Rat):cmpQ p q=if p.num*q.den < q.num*p.den then -1 else if q.num*p.den < p.num*q.den then 1 else 0:=by
 unfold cmpQ
 by_cases h:p < q
 ·rw [if_pos h,if_pos ((Rat.lt_iff p q).1 h)]
 ·rw [if_neg h,if_neg (fun h2=>h ((Rat.lt_iff p q).2 h2))]
  by_cases h2:p=q
  ·subst h2;rw [if_pos rfl,if_neg (Int.lt_irrefl _)]
  ·rw [if_neg h2,if_pos ((Rat.lt_iff q p).1 (Rat.lt_of_le_of_ne (Rat.not_lt.1 h) (fun e=>h2 e.symm)))]
theorem sgQ_num (q:Rat):sgQ q=if q.num < 0 then -1 else if q.num=0 then 0 else 1:=by
 unfold sgQ nm ng
 by_cases h:q.num=0
 ·simp [h]
 ·have h1:q.num.natAbs≠0:=by omega
  rw [if_neg h1,if_neg h]
  by_cases h2:q.num < 0
  ·simp [h2]
  ·simp [h2]
theorem cross_sign (p:Rat) {d:Nat} (hd:0 < d):(p.num < 0↔p.num*(d:Int) < 0)∧(p.num=0↔p.num*(d:Int)=0)∧(0 < p.num↔0 < p.num*(d:Int)):=by
 have hd':(0:Int) < (d:Int):=by omega
 rcases Int.lt_trichotomy p.num 0 with h|h|h
 ·have:=Int.mul_neg_of_neg_of_pos h hd'
  omega
 ·rw [h,Int.zero_mul];omega
 ·have:=Int.mul_pos h hd'
  omega
theorem cmp_signs {p q:Rat} (h:sgQ p≠sgQ q):max (-1) (min 1 (sgQ p - sgQ q))=cmpQ p q:=by
 rw [cmpQ_cross]
 rw [sgQ_num,sgQ_num] at *
 obtain ⟨a1,a2,a3⟩:=cross_sign p (den_pos q)
 obtain ⟨b1,b2,b3⟩:=cross_sign q (den_pos p)
 generalize p.num*(q.den:Int)=X at *
 generalize q.num*(p.den:Int)=Y at *
 split at h<;>split at h<;>(try split at h)<;>(try split at h)<;>(try split)<;>(try split)<;>omega
theorem cmp_pos {p q:Rat} (h:sgQ p=sgQ q) (hn:ng p=false):sgn (nm p*q.den) (nm q*p.den)=cmpQ p q:=by
 have hq:ng q=false:=by
  rw [sgQ_num,sgQ_num] at h
  unfold ng at *
  have:=of_decide_eq_false hn
  apply decide_eq_false
  intro hq
  rw [if_neg this,if_pos hq] at h
  split at h<;>cases h
 rw [cmpQ_cross,num_of p,num_of q,hn,hq]
 simp only [Bool.false_eq_true,if_false]
 unfold sgn
 rw [← Int.natCast_mul,← Int.natCast_mul]
 generalize nm p*q.den=X
 generalize nm q*p.den=Y
 by_cases h1:X < Y
 ·rw [if_pos h1,if_pos (by omega)]
 ·rw [if_neg h1,if_neg (show ¬ ((X:Int) < (Y:Int)) by omega)]
  by_cases h2:Y < X
  ·rw [if_pos h2,if_pos (by omega)]
  ·rw [if_neg h2,if_neg (by omega)]
theorem cmp_neg {p q:Rat} (h:sgQ p=sgQ q) (hn:ng p=true):-sgn (nm p*q.den) (nm q*p.den)=cmpQ p q:=by
 have hq:ng q=true:=by
  rw [sgQ_num,sgQ_num] at h
  unfold ng at *
  have:=of_decide_eq_true hn
  apply decide_eq_true
  rw [if_pos this] at h
  split at h
  ·assumption
  ·split at h<;>cases h
 rw [cmpQ_cross,num_of p,num_of q,hn,hq]
 simp only [if_true]
 unfold sgn
 rw [Int.neg_mul,Int.neg_mul,← Int.natCast_mul,← Int.natCast_mul]
 generalize nm p*q.den=X
 generalize nm q*p.den=Y
 by_cases h1:X < Y
 ·rw [if_pos h1,if_neg (by omega),if_pos (by omega)];rfl
 ·rw [if_neg h1]
  by_cases h2:Y < X
  ·rw [if_pos h2,if_pos (by omega)]
  ·rw [if_neg h2,if_neg (by omega),if_neg (by omega)];rfl
end Go.Proofs.YtigapglmipmbeaaGreatDoor
namespace Go.Proofs.YtigapglmipmbeaaGreatDoor
open Go.RowKit Go.Shelf
open Lim
attribute [local go_sem] Oper.semAt_some
theorem box2_blk (w:World) (m vn vd m' vn' vd':Value):Blk ((w.alloc (.cells #[m,vn,vd] 216)).alloc (.cells #[m',vn',vd'] 216)) w.heap.size 216 #[m,vn,vd] ∧
  Blk ((w.alloc (.cells #[m,vn,vd] 216)).alloc (.cells #[m',vn',vd'] 216)) (w.heap.size+1) 216 #[m',vn',vd'] ∧
  Below w.heap.size w ((w.alloc (.cells #[m,vn,vd] 216)).alloc (.cells #[m',vn',vd'] 216))∧((w.alloc (.cells #[m,vn,vd] 216)).alloc (.cells #[m',vn',vd'] 216)).heap.size=w.heap.size+2:=by
 refine ⟨(Blk.new w _ _).alloc _,?_,((Below.refl _ _).alloc (Nat.le_refl _) _).alloc (by simp) _,by simp⟩
 have:=Blk.new (w.alloc (.cells #[m,vn,vd] 216)) 216 #[m',vn',vd']
 rwa [World.size_alloc] at this
theorem sgQ_bound (q:Rat):-1≤sgQ q∧sgQ q≤1:=by
 unfold sgQ
 split
 ·omega
 ·split<;>omega
theorem sgn_bound (x y:Nat):-1≤sgn x y∧sgn x y≤1:=by
 unfold sgn
 split
 ·omega
 ·split<;>omega
theorem clamp_id {c:Int} (h:-1≤c∧c≤1):max (-1) (min 1 c)=c:=by omega
theorem fcmp_ne (p q:Rat) (v v':Value) (w:World) (h:IsFrac w v p) (h':IsFrac w v' q) (l1:(toL (nm p)).length≤10000) (_l2:(toL p.den).length≤10000) (_l3:(toL (nm q)).length≤10000) (l4:(toL q.den).length≤10000) (hne:sgQ p≠sgQ q) :
  Calls Tryz.prog 198 #[v,v'] w fun e w'=>∃ c:Int,e=.returned (.int .i64 c)∧max (-1) (min 1 c)=cmpQ p q∧Below w.heap.size w w':=by
 have HV:=Lib.hid h
 have HV':=Lib.hid h'
 have HE:=Lib.hid (cmp_signs hne)
 have hxy:(sgQ p==sgQ q)=false:=by rw [beq_eq_false_iff_ne];exact hne
 obtain ⟨bx1,bx2⟩:=sgQ_bound p
 obtain ⟨by1,by2⟩:=sgQ_bound q
 clear hne
 obtain ⟨b,N,D,An,cn,Ad,cd,rfl,hn,hd,HP⟩:=isFrac_open h
 obtain ⟨b',N',D',An',cn',Ad',cd',rfl,hn',hd',HQ⟩:=isFrac_open h'
 obtain ⟨e1,e2,e3⟩:=HP.out
 obtain ⟨f1,f2,f3⟩:=HQ.out
 rw [e2] at l1
 rw [f3] at l4
 have HN:=Lib.hid hn
 have HD:=Lib.hid hd
 have HN':=Lib.hid hn'
 have HD':=Lib.hid hd'
 have HI:=Lib.hid (And.intro (rfl:sgQ p=sgQ p) (rfl:sgQ q=sgQ q))
 clear hn hd hn' hd' h h' e1 e2 e3 f1 f2 f3
 have lx:=Nat.le_trans (toL_mul_len N D') (show _≤20000 by omega)
 generalize hgx:sgQ p=x at hxy bx1 bx2 HE
 generalize hgy:sgQ q=y at hxy by1 by2 HE
 have HGX:=Lib.hid hgx
 have HGY:=Lib.hid hgy
 clear hgx hgy HI
 refine (callsIn_wide (n:=3)).1 ?_
 have h1:1≤3:=by omega
 have hmx:Tryz.prog.follows .mixedOrders=true:=by kernel_rfl
 refine callsIn_of_wp Tryz.func198 rfl trivial ?_ rfl
 simp only [Tryz.ntmps198,List.size_toArray,List.length_cons,List.length_nil,Nat.reduceAdd,Nat.reduceSub,Array.replicate_succ,Array.replicate_zero,List.push_toArray,List.append_toArray,List.nil_append,List.cons_append]
 gi_upto_region 1 with fail
 obtain ⟨b0,b1,hB,hs⟩:=box2_blk w (.bool b) (.slice An (toL N).length cn) (.slice Ad (toL D).length cd) (.bool b') (.slice An' (toL N').length cn') (.slice Ad' (toL D').length cd')
 generalize (w.alloc (.cells #[.bool b,.slice An (toL N).length cn,.slice Ad (toL D).length cd] 216)).alloc (.cells #[.bool b',.slice An' (toL N').length cn',.slice Ad' (toL D').length cd'] 216)=W at *
 obtain ⟨x0,x1,x2⟩:=same_cells (S:=fun k=>k < W.heap.size) b0 (by omega)
 obtain ⟨y0,y1,y2⟩:=same_cells (S:=fun k=>k < W.heap.size) b1 (by omega)
 have HB:=Lib.hid (below_drew hB)
 have HS:=Lib.hid hs
 have P0:=Lib.hid b0
 have P1:=Lib.hid b1
 clear b0 b1 hB hs
 refine wpIn_stage (IsSame W (fun k=>k < W.heap.size)) [0,2] [] hmx (by kernel_rfl) (isSame_of fun _ _=>rfl) ?_
 change wpStage _ _ _ _ _ _ _ _ (4+2) _ _ _
 refine stage_reads [0,2] 4 _ _ (by kernel_rfl) ?_
 change wpQuietIn _ _ _ _ (fun W'=>∃ x:SameAt W (fun k=>k < W.heap.size),W'=x.W) _ _ _
 simp only [pick_cons,pick_nil,List.getElem?_cons_zero,List.getElem?_cons_succ,Option.elim_some]
 repeat (gi_big_quiet_step (fail))
 refine wpQuietIn_nil ?_
 refine stage_one 1 (by kernel_rfl) rfl ?_
 gi_wp2
 refine ⟨trivial,?_⟩
 refine (callsIn_wide.2 (sign_any p _ W.drew (HV.out.below HB.out))).mono ?_
 rintro e w3 ⟨rfl,hb3⟩
 rw [HGX.out]
 have hB3:Below W.heap.size W w3:=below_undrew hb3
 have HB3:=Lib.hid hB3
 clear hb3 hB3
 gi_wp2
 refine stage_post (isSame_below HB3.out (fun k hk=>hk)) ?_
 refine stage_one 3 (by kernel_rfl) rfl ?_
 gi_wp2
 refine ⟨trivial,?_⟩
 refine (callsIn_wide.2 (sign_any q _ w3 (HV'.out.below (HB.out.trans ((below_drew3 HB3.out).mono HB.out.size))))).mono ?_
 rintro e w4 ⟨rfl,hb4⟩
 rw [HGY.out]
 have hB4:Below W.heap.size W w4:=HB3.out.trans (hb4.mono HB3.out.size)
 have HB4:=Lib.hid hB4
 clear hb4 hB4
 gi_wp2
 refine stage_post (isSame_below HB4.out (fun k hk=>hk)) ?_
 refine stage_one 4 (by kernel_rfl) rfl ?_
 gi_wp2
 refine stage_post (isSame_below HB4.out (fun k hk=>hk)) ?_
 refine stage_one 5 (by kernel_rfl) rfl ?_
 gi_wp2
 refine stage_post (isSame_below HB4.out (fun k hk=>hk)) ?_
 refine stage_done (by kernel_rfl) ?_
 clear x0 x1 x2 y0 y1 y2
 have hsz:=HS.out
 obtain ⟨x0,x1,x2⟩:=rows3 (P0.out.below HB4.out (by omega))
 obtain ⟨y0,y1,y2⟩:=rows3 (P1.out.below HB4.out (by omega))
 clear hsz
 gi_wp2
 refine bodyPost_ret (results_tmp rfl _ _ _) rfl ?_
 exact ⟨_,rfl,HE.out,HB.out.trans ((below_drew3 HB4.out).mono HB.out.size)⟩
theorem fcmp_pos (p q:Rat) (v v':Value) (w:World) (h:IsFrac w v p) (h':IsFrac w v' q) (l1:(toL (nm p)).length≤10000) (l2:(toL p.den).length≤10000) (l3:(toL (nm q)).length≤10000) (l4:(toL q.den).length≤10000) (heq:sgQ p=sgQ q) (hm:ng p=false) :
  Calls Tryz.prog 198 #[v,v'] w fun e w'=>∃ c:Int,e=.returned (.int .i64 c)∧max (-1) (min 1 c)=cmpQ p q∧Below w.heap.size w w':=by
 have HV:=Lib.hid h
 have HV':=Lib.hid h'
 have HE:=Lib.hid (cmp_pos heq hm)
 have hxy:(sgQ p==sgQ q)=true:=by rw [beq_iff_eq];exact heq
 clear heq
 obtain ⟨b,N,D,An,cn,Ad,cd,rfl,hn,hd,HP⟩:=isFrac_open h
 obtain ⟨b',N',D',An',cn',Ad',cd',rfl,hn',hd',HQ⟩:=isFrac_open h'
 obtain ⟨e1,e2,e3⟩:=HP.out
 obtain ⟨f1,f2,f3⟩:=HQ.out
 rw [e2] at l1
 rw [e3] at l2
 rw [f2] at l3
 rw [f3] at l4
 have HN:=Lib.hid hn
 have HD:=Lib.hid hd
 have HN':=Lib.hid hn'
 have HD':=Lib.hid hd'
 obtain rfl:b=false:=e1.symm.trans hm
 have hz:=sgn_bound (N*D') (N'*D)
 rw [e2,e3,f2,f3] at HE
 clear hm
 clear hn hd hn' hd' h h' e1 e2 e3 f1 f2 f3
 have lx:=Nat.le_trans (toL_mul_len N D') (show _≤20000 by omega)
 generalize hgx:sgQ p=x at hxy
 generalize hgy:sgQ q=y at hxy
 have HGX:=Lib.hid hgx
 have HGY:=Lib.hid hgy
 clear hgx hgy
 refine (callsIn_wide (n:=3)).1 ?_
 have h1:1≤3:=by omega
 have hmx:Tryz.prog.follows .mixedOrders=true:=by kernel_rfl
 refine callsIn_of_wp Tryz.func198 rfl trivial ?_ rfl
 simp only [Tryz.ntmps198,List.size_toArray,List.length_cons,List.length_nil,Nat.reduceAdd,Nat.reduceSub,Array.replicate_succ,Array.replicate_zero,List.push_toArray,List.append_toArray,List.nil_append,List.cons_append]
 gi_upto_region 1 with fail
 obtain ⟨b0,b1,hB,hs⟩:=box2_blk w (.bool false) (.slice An (toL N).length cn) (.slice Ad (toL D).length cd) (.bool b') (.slice An' (toL N').length cn') (.slice Ad' (toL D').length cd')
 generalize (w.alloc (.cells #[.bool false,.slice An (toL N).length cn,.slice Ad (toL D).length cd] 216)).alloc (.cells #[.bool b',.slice An' (toL N').length cn',.slice Ad' (toL D').length cd'] 216)=W at *
 obtain ⟨x0,x1,x2⟩:=same_cells (S:=fun k=>k < W.heap.size) b0 (by omega)
 obtain ⟨y0,y1,y2⟩:=same_cells (S:=fun k=>k < W.heap.size) b1 (by omega)
 have HB:=Lib.hid (below_drew hB)
 have HS:=Lib.hid hs
 have P0:=Lib.hid b0
 have P1:=Lib.hid b1
 clear b0 b1 hB hs
 refine wpIn_stage (IsSame W (fun k=>k < W.heap.size)) [0,2] [] hmx (by kernel_rfl) (isSame_of fun _ _=>rfl) ?_
 change wpStage _ _ _ _ _ _ _ _ (4+2) _ _ _
 refine stage_reads [0,2] 4 _ _ (by kernel_rfl) ?_
 change wpQuietIn _ _ _ _ (fun W'=>∃ x:SameAt W (fun k=>k < W.heap.size),W'=x.W) _ _ _
 simp only [pick_cons,pick_nil,List.getElem?_cons_zero,List.getElem?_cons_succ,Option.elim_some]
 repeat (gi_big_quiet_step (fail))
 refine wpQuietIn_nil ?_
 refine stage_one 1 (by kernel_rfl) rfl ?_
 gi_wp2
 refine ⟨trivial,?_⟩
 refine (callsIn_wide.2 (sign_any p _ W.drew (HV.out.below HB.out))).mono ?_
 rintro e w3 ⟨rfl,hb3⟩
 rw [HGX.out]
 have hB3:Below W.heap.size W w3:=below_undrew hb3
 have HB3:=Lib.hid hB3
 clear hb3 hB3
 gi_wp2
 refine stage_post (isSame_below HB3.out (fun k hk=>hk)) ?_
 refine stage_one 3 (by kernel_rfl) rfl ?_
 gi_wp2
 refine ⟨trivial,?_⟩
 refine (callsIn_wide.2 (sign_any q _ w3 (HV'.out.below (HB.out.trans ((below_drew3 HB3.out).mono HB.out.size))))).mono ?_
 rintro e w4 ⟨rfl,hb4⟩
 rw [HGY.out]
 have hB4:Below W.heap.size W w4:=HB3.out.trans (hb4.mono HB3.out.size)
 have HB4:=Lib.hid hB4
 clear hb4 hB4
 gi_wp2
 refine stage_post (isSame_below HB4.out (fun k hk=>hk)) ?_
 refine stage_one 4 (by kernel_rfl) rfl ?_
 gi_wp2
 refine stage_post (isSame_below HB4.out (fun k hk=>hk)) ?_
 refine stage_one 5 (by kernel_rfl) rfl ?_
 gi_wp2
 refine stage_post (isSame_below HB4.out (fun k hk=>hk)) ?_
 refine stage_done (by kernel_rfl) ?_
 clear x0 x1 x2 y0 y1 y2
 have hsz:=HS.out
 obtain ⟨x0,x1,x2⟩:=rows3 (P0.out.below HB4.out (by omega))
 obtain ⟨y0,y1,y2⟩:=rows3 (P1.out.below HB4.out (by omega))
 clear hsz
 have Q0:=Lib.hid (P0.out.below HB4.out (by have:=HS.out;omega))
 have Q1:=Lib.hid (P1.out.below HB4.out (by have:=HS.out;omega))
 have h42:=HB4.out.size
 gi_upto_region 4 with fail
 clear x0 x1 x2 y0 y1 y2
 have hsz:=HS.out
 obtain ⟨x0,x1,x2⟩:=same_cells (S:=fun k=>k < w4.heap.size) Q0.out (by omega)
 obtain ⟨y0,y1,y2⟩:=same_cells (S:=fun k=>k < w4.heap.size) Q1.out (by omega)
 clear hsz
 have HB40:=Lib.hid (below_drew (HB.out.trans ((below_drew3 HB4.out).mono HB.out.size)))
 refine wpIn_stage (IsSame w4 (fun k=>k < w4.heap.size)) [0,1,2,3,5,6,7,8] [] hmx (by kernel_rfl) (isSame_of fun _ _=>rfl) ?_
 change wpStage _ _ _ _ _ _ _ _ (4+8) _ _ _
 refine stage_reads [0,1,2,3,5,6,7,8] 4 _ _ (by kernel_rfl) ?_
 change wpQuietIn _ _ _ _ (fun W'=>∃ x:SameAt w4 (fun k=>k < w4.heap.size),W'=x.W) _ _ _
 simp only [pick_cons,pick_nil,List.getElem?_cons_zero,List.getElem?_cons_succ,Option.elim_some]
 repeat (gi_big_quiet_step (fail))
 refine wpQuietIn_nil ?_
 refine stage_one 4 (by kernel_rfl) rfl ?_
 gi_wp2
 refine ⟨trivial,?_⟩
 refine (callsIn_wide.2 (mul_any N D' _ _ w4.drew (HN.out.below HB40.out) (HD'.out.below HB40.out) (by omega) (by omega))).mono ?_
 rintro e w5 ⟨v5,rfl,hv5,hb5⟩
 obtain ⟨A5,c5,rfl,_,_,_⟩:=id hv5
 have HV5:=Lib.hid hv5
 have hB5:Below w4.heap.size w4 w5:=below_undrew hb5
 have HB5:=Lib.hid hB5
 clear hv5 hb5 hB5
 gi_wp2
 refine stage_post (isSame_below HB5.out (fun k hk=>hk)) ?_
 refine stage_one 9 (by kernel_rfl) rfl ?_
 gi_wp2
 have HB50:=Lib.hid (HB40.out.trans ((below_drew3 HB5.out).mono HB40.out.size))
 refine ⟨trivial,?_⟩
 refine (callsIn_wide.2 (mul_any N' D _ _ w5 (HN'.out.below HB50.out) (HD.out.below HB50.out) (by omega) (by omega))).mono ?_
 rintro e w6 ⟨v6,rfl,hv6,hb6⟩
 obtain ⟨A6,c6,rfl,_,_,_⟩:=id hv6
 have HV6:=Lib.hid hv6
 have HV5:=Lib.hid (HV5.out.below hb6)
 have hB6:Below w4.heap.size w4 w6:=HB5.out.trans (hb6.mono HB5.out.size)
 have HB6:=Lib.hid hB6
 clear hv6 hb6 hB6
 gi_wp2
 refine stage_post (isSame_below HB6.out (fun k hk=>hk)) ?_
 refine stage_one 10 (by kernel_rfl) rfl ?_
 gi_wp2
 refine ⟨trivial,?_⟩
 refine (callsIn_wide.2 (cmp_any (N*D') (N'*D) _ _ w6 HV5.out HV6.out (by omega))).mono ?_
 rintro e w7 ⟨rfl,hb7⟩
 generalize hgz:sgn (N*D') (N'*D)=z at hz HE ⊢
 obtain ⟨hz1,hz2⟩:=hz
 clear hgz
 have hB7:Below w4.heap.size w4 w7:=HB6.out.trans (hb7.mono HB6.out.size)
 have HB7:=Lib.hid hB7
 clear hb7 hB7
 gi_wp2
 refine stage_post (isSame_below HB7.out (fun k hk=>hk)) ?_
 refine stage_one 11 (by kernel_rfl) rfl ?_
 gi_wp2
 refine stage_post (isSame_below HB7.out (fun k hk=>hk)) ?_
 refine stage_done (by kernel_rfl) ?_
 clear x0 x1 x2 y0 y1 y2
 obtain ⟨x0,x1,x2⟩:=rows3 (Q0.out.below HB7.out (by have:=HS.out;omega))
 gi_wp2
 refine bodyPost_ret (results_tmp rfl _ _ _) rfl ?_
 exact ⟨_,rfl,by rw [clamp_id (by omega)];exact HE.out,HB.out.trans ((below_drew3 (HB4.out.trans (HB7.out.mono h42))).mono HB.out.size)⟩
theorem fcmp_neg (p q:Rat) (v v':Value) (w:World) (h:IsFrac w v p) (h':IsFrac w v' q) (l1:(toL (nm p)).length≤10000) (l2:(toL p.den).length≤10000) (l3:(toL (nm q)).length≤10000) (l4:(toL q.den).length≤10000) (heq:sgQ p=sgQ q) (hm:ng p=true) :
  Calls Tryz.prog 198 #[v,v'] w fun e w'=>∃ c:Int,e=.returned (.int .i64 c)∧max (-1) (min 1 c)=cmpQ p q∧Below w.heap.size w w':=by
 have HV:=Lib.hid h
 have HV':=Lib.hid h'
 have HE:=Lib.hid (cmp_neg heq hm)
 have hxy:(sgQ p==sgQ q)=true:=by rw [beq_iff_eq];exact heq
 clear heq
 obtain ⟨b,N,D,An,cn,Ad,cd,rfl,hn,hd,HP⟩:=isFrac_open h
 obtain ⟨b',N',D',An',cn',Ad',cd',rfl,hn',hd',HQ⟩:=isFrac_open h'
 obtain ⟨e1,e2,e3⟩:=HP.out
 obtain ⟨f1,f2,f3⟩:=HQ.out
 rw [e2] at l1
 rw [e3] at l2
 rw [f2] at l3
 rw [f3] at l4
 have HN:=Lib.hid hn
 have HD:=Lib.hid hd
 have HN':=Lib.hid hn'
 have HD':=Lib.hid hd'
 obtain rfl:b=true:=e1.symm.trans hm
 have hz:=sgn_bound (N*D') (N'*D)
 rw [e2,e3,f2,f3] at HE
 clear hm
 clear hn hd hn' hd' h h' e1 e2 e3 f1 f2 f3
 have lx:=Nat.le_trans (toL_mul_len N D') (show _≤20000 by omega)
 generalize hgx:sgQ p=x at hxy
 generalize hgy:sgQ q=y at hxy
 have HGX:=Lib.hid hgx
 have HGY:=Lib.hid hgy
 clear hgx hgy
 refine (callsIn_wide (n:=3)).1 ?_
 have h1:1≤3:=by omega
 have hmx:Tryz.prog.follows .mixedOrders=true:=by kernel_rfl
 refine callsIn_of_wp Tryz.func198 rfl trivial ?_ rfl
 simp only [Tryz.ntmps198,List.size_toArray,List.length_cons,List.length_nil,Nat.reduceAdd,Nat.reduceSub,Array.replicate_succ,Array.replicate_zero,List.push_toArray,List.append_toArray,List.nil_append,List.cons_append]
 gi_upto_region 1 with fail
 obtain ⟨b0,b1,hB,hs⟩:=box2_blk w (.bool true) (.slice An (toL N).length cn) (.slice Ad (toL D).length cd) (.bool b') (.slice An' (toL N').length cn') (.slice Ad' (toL D').length cd')
 generalize (w.alloc (.cells #[.bool true,.slice An (toL N).length cn,.slice Ad (toL D).length cd] 216)).alloc (.cells #[.bool b',.slice An' (toL N').length cn',.slice Ad' (toL D').length cd'] 216)=W at *
 obtain ⟨x0,x1,x2⟩:=same_cells (S:=fun k=>k < W.heap.size) b0 (by omega)
 obtain ⟨y0,y1,y2⟩:=same_cells (S:=fun k=>k < W.heap.size) b1 (by omega)
 have HB:=Lib.hid (below_drew hB)
 have HS:=Lib.hid hs
 have P0:=Lib.hid b0
 have P1:=Lib.hid b1
 clear b0 b1 hB hs
 refine wpIn_stage (IsSame W (fun k=>k < W.heap.size)) [0,2] [] hmx (by kernel_rfl) (isSame_of fun _ _=>rfl) ?_
 change wpStage _ _ _ _ _ _ _ _ (4+2) _ _ _
 refine stage_reads [0,2] 4 _ _ (by kernel_rfl) ?_
 change wpQuietIn _ _ _ _ (fun W'=>∃ x:SameAt W (fun k=>k < W.heap.size),W'=x.W) _ _ _
 simp only [pick_cons,pick_nil,List.getElem?_cons_zero,List.getElem?_cons_succ,Option.elim_some]
 repeat (gi_big_quiet_step (fail))
 refine wpQuietIn_nil ?_
 refine stage_one 1 (by kernel_rfl) rfl ?_
 gi_wp2
 refine ⟨trivial,?_⟩
 refine (callsIn_wide.2 (sign_any p _ W.drew (HV.out.below HB.out))).mono ?_
 rintro e w3 ⟨rfl,hb3⟩
 rw [HGX.out]
 have hB3:Below W.heap.size W w3:=below_undrew hb3
 have HB3:=Lib.hid hB3
 clear hb3 hB3
 gi_wp2
 refine stage_post (isSame_below HB3.out (fun k hk=>hk)) ?_
 refine stage_one 3 (by kernel_rfl) rfl ?_
 gi_wp2
 refine ⟨trivial,?_⟩
 refine (callsIn_wide.2 (sign_any q _ w3 (HV'.out.below (HB.out.trans ((below_drew3 HB3.out).mono HB.out.size))))).mono ?_
 rintro e w4 ⟨rfl,hb4⟩
 rw [HGY.out]
 have hB4:Below W.heap.size W w4:=HB3.out.trans (hb4.mono HB3.out.size)
 have HB4:=Lib.hid hB4
 clear hb4 hB4
 gi_wp2
 refine stage_post (isSame_below HB4.out (fun k hk=>hk)) ?_
 refine stage_one 4 (by kernel_rfl) rfl ?_
 gi_wp2
 refine stage_post (isSame_below HB4.out (fun k hk=>hk)) ?_
 refine stage_one 5 (by kernel_rfl) rfl ?_
 gi_wp2
 refine stage_post (isSame_below HB4.out (fun k hk=>hk)) ?_
 refine stage_done (by kernel_rfl) ?_
 clear x0 x1 x2 y0 y1 y2
 have hsz:=HS.out
 obtain ⟨x0,x1,x2⟩:=rows3 (P0.out.below HB4.out (by omega))
 obtain ⟨y0,y1,y2⟩:=rows3 (P1.out.below HB4.out (by omega))
 clear hsz
 have Q0:=Lib.hid (P0.out.below HB4.out (by have:=HS.out;omega))
 have Q1:=Lib.hid (P1.out.below HB4.out (by have:=HS.out;omega))
 have h42:=HB4.out.size
 gi_upto_region 4 with fail
 clear x0 x1 x2 y0 y1 y2
 have hsz:=HS.out
 obtain ⟨x0,x1,x2⟩:=same_cells (S:=fun k=>k < w4.heap.size) Q0.out (by omega)
 obtain ⟨y0,y1,y2⟩:=same_cells (S:=fun k=>k < w4.heap.size) Q1.out (by omega)
 clear hsz
 have HB40:=Lib.hid (below_drew (HB.out.trans ((below_drew3 HB4.out).mono HB.out.size)))
 refine wpIn_stage (IsSame w4 (fun k=>k < w4.heap.size)) [0,1,2,3,5,6,7,8] [] hmx (by kernel_rfl) (isSame_of fun _ _=>rfl) ?_
 change wpStage _ _ _ _ _ _ _ _ (4+8) _ _ _
 refine stage_reads [0,1,2,3,5,6,7,8] 4 _ _ (by kernel_rfl) ?_
 change wpQuietIn _ _ _ _ (fun W'=>∃ x:SameAt w4 (fun k=>k < w4.heap.size),W'=x.W) _ _ _
 simp only [pick_cons,pick_nil,List.getElem?_cons_zero,List.getElem?_cons_succ,Option.elim_some]
 repeat (gi_big_quiet_step (fail))
 refine wpQuietIn_nil ?_
 refine stage_one 4 (by kernel_rfl) rfl ?_
 gi_wp2
 refine ⟨trivial,?_⟩
 refine (callsIn_wide.2 (mul_any N D' _ _ w4.drew (HN.out.below HB40.out) (HD'.out.below HB40.out) (by omega) (by omega))).mono ?_
 rintro e w5 ⟨v5,rfl,hv5,hb5⟩
 obtain ⟨A5,c5,rfl,_,_,_⟩:=id hv5
 have HV5:=Lib.hid hv5
 have hB5:Below w4.heap.size w4 w5:=below_undrew hb5
 have HB5:=Lib.hid hB5
 clear hv5 hb5 hB5
 gi_wp2
 refine stage_post (isSame_below HB5.out (fun k hk=>hk)) ?_
 refine stage_one 9 (by kernel_rfl) rfl ?_
 gi_wp2
 have HB50:=Lib.hid (HB40.out.trans ((below_drew3 HB5.out).mono HB40.out.size))
 refine ⟨trivial,?_⟩
 refine (callsIn_wide.2 (mul_any N' D _ _ w5 (HN'.out.below HB50.out) (HD.out.below HB50.out) (by omega) (by omega))).mono ?_
 rintro e w6 ⟨v6,rfl,hv6,hb6⟩
 obtain ⟨A6,c6,rfl,_,_,_⟩:=id hv6
 have HV6:=Lib.hid hv6
 have HV5:=Lib.hid (HV5.out.below hb6)
 have hB6:Below w4.heap.size w4 w6:=HB5.out.trans (hb6.mono HB5.out.size)
 have HB6:=Lib.hid hB6
 clear hv6 hb6 hB6
 gi_wp2
 refine stage_post (isSame_below HB6.out (fun k hk=>hk)) ?_
 refine stage_one 10 (by kernel_rfl) rfl ?_
 gi_wp2
 refine ⟨trivial,?_⟩
 refine (callsIn_wide.2 (cmp_any (N*D') (N'*D) _ _ w6 HV5.out HV6.out (by omega))).mono ?_
 rintro e w7 ⟨rfl,hb7⟩
 generalize hgz:sgn (N*D') (N'*D)=z at hz HE ⊢
 obtain ⟨hz1,hz2⟩:=hz
 clear hgz
 have hB7:Below w4.heap.size w4 w7:=HB6.out.trans (hb7.mono HB6.out.size)
 have HB7:=Lib.hid hB7
 clear hb7 hB7
 gi_wp2
 refine stage_post (isSame_below HB7.out (fun k hk=>hk)) ?_
 refine stage_one 11 (by kernel_rfl) rfl ?_
 gi_wp2
 refine stage_post (isSame_below HB7.out (fun k hk=>hk)) ?_
 refine stage_done (by kernel_rfl) ?_
 clear x0 x1 x2 y0 y1 y2
 obtain ⟨x0,x1,x2⟩:=rows3 (Q0.out.below HB7.out (by have:=HS.out;omega))
 gi_wp2
 refine bodyPost_ret (results_tmp rfl _ _ _) rfl ?_
 exact ⟨_,rfl,by rw [clamp_id (by omega)];exact HE.out,HB.out.trans ((below_drew3 (HB4.out.trans (HB7.out.mono h42))).mono HB.out.size)⟩
theorem fcmp_any (p q:Rat) (v v':Value) (w:World) (h:IsFrac w v p) (h':IsFrac w v' q) (l1:(toL (nm p)).length≤10000) (l2:(toL p.den).length≤10000) (l3:(toL (nm q)).length≤10000) (l4:(toL q.den).length≤10000) :
  Calls Tryz.prog 198 #[v,v'] w fun e w'=>∃ c:Int,e=.returned (.int .i64 c)∧max (-1) (min 1 c)=cmpQ p q∧Below w.heap.size w w':=by
 by_cases hs:sgQ p=sgQ q
 ·cases hm:ng p with
  | false=>exact fcmp_pos p q v v' w h h' l1 l2 l3 l4 hs hm
  | true=>exact fcmp_neg p q v v' w h h' l1 l2 l3 l4 hs hm
 ·exact fcmp_ne p q v v' w h h' l1 l2 l3 l4 hs
end Go.Proofs.YtigapglmipmbeaaGreatDoor
namespace Go.Proofs.YtigapglmipmbeaaGreatDoor
open Go.RowKit Go.Shelf
open Lim
def resI (x:Int × Nat):Value:=.tuple #[.int .i64 x.1,.int .i64 (x.2:Int)]
def oneI (f:Rat→Int × Nat) (a:List UInt8):Int × Nat:=if errQ a≠0 then (0,errQ a) else f (valQ a)
def twoI (f:Rat→Rat→Int × Nat) (a b:List UInt8):Int × Nat:=if errQ a≠0 then (0,errQ a) else if errQ b≠0 then (0,errQ b) else f (valQ a) (valQ b)
theorem withI_any (F:FuncId) (hrun:Runs F) (caps:Array Value) (g:Rat→Int × Nat) (a:ByteArray) (w:World) (ha:a.size≤270000) (hr:Res w)
  (hF:∀ p v w',Below w.heap.size w w'→Res w'→IsFrac w' v p→Sz maxD p→Calls Tryz.prog F (#[v]++caps) w' fun e w''=>e=.returned (resI (g p))∧Below w'.heap.size w' w'') :
  Calls Tryz.prog 241 #[.string a,.func (.func F) #[] caps] w fun e w'=>e=.returned (resI (oneI g a.data.toList))∧Below w.heap.size w w':=by
 by_cases h1:errQ a.data.toList=0
 ·unfold oneI
  rw [if_neg (by omega)]
  exact WI.with_ok F hrun caps (.int .i64 (g (valQ a.data.toList)).1) _ a w ha hr h1 (fun v w' hb hr' hv=>hF _ v w' hb hr' hv (sz_max h1))
 ·unfold oneI
  rw [if_pos h1]
  exact WI.with_err a _ w ha hr h1
theorem bothI_any (F:FuncId) (hrun:Runs F) (g:Rat→Rat→Int × Nat) (a b:ByteArray) (w:World) (ha:a.size≤270000) (hb:b.size≤270000) (hr:Res w)
  (hF:∀ p q v v' w',Res w'→IsFrac w' v p→IsFrac w' v' q→Sz maxD p→Sz maxD q→Calls Tryz.prog F #[v,v'] w' fun e w''=>e=.returned (resI (g p q))∧Below w'.heap.size w' w'') :
  Calls Tryz.prog 196 #[.string a,.string b,.func (.func F) #[] #[]] w fun e w'=>e=.returned (resI (twoI g a.data.toList b.data.toList))∧Below w.heap.size w w':=by
 refine (WI.both_any F hrun (fun p q=>(.int .i64 (g p q).1,((g p q).2:Int))) a b w ha hb hr (fun v v' w' _ hr' hv hv' h1 h2=>hF _ _ v v' w' hr' hv hv' (sz_max h1) (sz_max h2))).mono ?_
 rintro e w' ⟨rfl,hB⟩
 refine ⟨?_,hB⟩
 unfold twoI resI
 split
 ·rfl
 ·split<;>rfl
theorem runs_Sign:Runs 242:=runs_of Tryz.func242 (by kernel_rfl) (by kernel_rfl)
theorem Sign1_any (p:Rat) (v:Value) (w:World) (hv:IsFrac w v p) :
  Calls Tryz.prog 242 #[v] w fun e w'=>e=.returned (resI (sgQ p,0))∧Below w.heap.size w w':=by
 obtain ⟨bq,N,D,A,c,A',c',rfl,hn,hd,HQ⟩:=isFrac_open hv
 have HX:=Lib.hid (below_alloc (Below.refl w.heap.size w) (.cells #[.bool bq,.slice A (toL N).length c,.slice A' (toL D).length c'] 216))
 have HF:=Lib.hid (sign_any p _ _ (hv.below HX.out))
 generalize sgQ p=r at HF ⊢
 clear hv hn hd
 go_enter Tryz.func242,Tryz.ntmps242
 go_wp2_with (go_at_call 211;refine HF.out.mono ?_;rintro e w1 ⟨rfl,hb1⟩;have HB1:=Lib.hid (HX.out.trans (hb1.mono HX.out.size));clear hb1)
 refine bodyPost_ret (results_tmp2 rfl _ _ _) rfl ?_
 exact ⟨rfl,HB1.out⟩
theorem ratSign_any (a:ByteArray) (w:World) (ha:a.size≤270000) (hr:Res w) :
  Calls Tryz.prog 187 #[.string a] w fun e w'=>e=.returned (resI (oneI (fun p=>(sgQ p,0)) a.data.toList))∧Below w.heap.size w w':=by
 have HB:=Lib.hid (withI_any 242 runs_Sign #[] (fun p=>(sgQ p,0)) a w ha hr (fun p v w' _ _ hv _=>Sign1_any p v w' hv))
 generalize oneI (fun p=>(sgQ p,0)) a.data.toList=r at HB ⊢
 clear hr
 go_enter Tryz.func187,Tryz.ntmps187
 go_wp2_with (go_at_call 241;refine HB.out.mono ?_;rintro e w2 ⟨rfl,hb2⟩;have HB2:=Lib.hid hb2;clear hb2;unfold resI)
 refine bodyPost_ret (results_tmp2 rfl _ _ _) rfl ?_
 exact ⟨rfl,HB2.out⟩
theorem runs_Cmp:Runs 197:=runs_of Tryz.func197 (by kernel_rfl) (by kernel_rfl)
theorem Cmp1_any (p q:Rat) (v v':Value) (w:World) (hv:IsFrac w v p) (hv':IsFrac w v' q) (sp:Sz maxD p) (sq:Sz maxD q) :
  Calls Tryz.prog 197 #[v,v'] w fun e w'=>e=.returned (resI (cmpQ p q,0))∧Below w.heap.size w w':=by
 obtain ⟨lp,lp'⟩:=sz_limbs sp
 obtain ⟨lq,lq'⟩:=sz_limbs sq
 obtain ⟨bq,N,D,A,c,A',c',rfl,hn,hd,HQ⟩:=isFrac_open hv
 obtain ⟨bq',N',D',B,d,B',d',rfl,hn',hd',HQ'⟩:=isFrac_open hv'
 have HX:=Lib.hid (below_alloc (below_alloc (Below.refl w.heap.size w) (.cells #[.bool bq,.slice A (toL N).length c,.slice A' (toL D).length c'] 216)) (.cells #[.bool bq',.slice B (toL N').length d,.slice B' (toL D').length d'] 216))
 have HF:=Lib.hid (fcmp_any p q _ _ _ (hv.below HX.out) (hv'.below HX.out) (by omega) (by omega) (by omega) (by omega))
 generalize cmpQ p q=r at HF ⊢
 clear hv hv' hn hd hn' hd' sp sq lp lp' lq lq'
 go_enter Tryz.func197,Tryz.ntmps197
 go_wp2_with (go_at_call 198;refine HF.out.mono ?_;rintro e w1 ⟨k,rfl,hk,hb1⟩;subst hk;have HB1:=Lib.hid (HX.out.trans (hb1.mono HX.out.size));clear hb1)
 refine bodyPost_ret (results_tmp2 rfl _ _ _) rfl ?_
 exact ⟨rfl,HB1.out⟩
theorem ratCmp_any (a b:ByteArray) (w:World) (ha:a.size≤270000) (hb:b.size≤270000) (hr:Res w) :
  Calls Tryz.prog 116 #[.string a,.string b] w fun e w'=>e=.returned (resI (twoI (fun p q=>(cmpQ p q,0)) a.data.toList b.data.toList))∧Below w.heap.size w w':=by
 have HB:=Lib.hid (bothI_any 197 runs_Cmp (fun p q=>(cmpQ p q,0)) a b w ha hb hr (fun p q v v' w' _ hv hv' sp sq=>Cmp1_any p q v v' w' hv hv' sp sq))
 generalize twoI (fun p q=>(cmpQ p q,0)) a.data.toList b.data.toList=r at HB ⊢
 clear hr
 go_enter Tryz.func116,Tryz.ntmps116
 go_wp2_with (go_at_call 196;refine HB.out.mono ?_;rintro e w2 ⟨rfl,hb2⟩;have HB2:=Lib.hid hb2;clear hb2;unfold resI)
 refine bodyPost_ret (results_tmp2 rfl _ _ _) rfl ?_
 exact ⟨rfl,HB2.out⟩
def chooseQ (x:Int × Nat) (s:Int) (a b:ByteArray):ByteArray × Nat:=if x.2≠0 then (⟨#[]⟩,x.2) else if x.1*s > 0 then (b,0) else (a,0)
def resS (x:ByteArray × Nat):Value:=.tuple #[.string x.1,.int .i64 (x.2:Int)]
theorem twoI_bound (a b:List UInt8):-1≤(twoI (fun p q=>(cmpQ p q,0)) a b).1∧(twoI (fun p q=>(cmpQ p q,0)) a b).1≤1:=by
 unfold twoI
 split
 ·show (-1:Int)≤0∧(0:Int)≤1;omega
 ·split
  ·show (-1:Int)≤0∧(0:Int)≤1;omega
  ·rcases cmpQ_cases (valQ a) (valQ b) with h|h|h<;>simp [h]
theorem choose_any (a b:ByteArray) (s:Int) (w:World) (ha:a.size≤270000) (hb:b.size≤270000) (hr:Res w) (hs:s=1∨s=-1) :
  Calls Tryz.prog 207 #[.string a,.string b,.int .i64 s] w fun e w'=>e=.returned (resS (chooseQ (twoI (fun p q=>(cmpQ p q,0)) a.data.toList b.data.toList) s a b))∧Below w.heap.size w w':=by
 have HB:=Lib.hid (ratCmp_any a b w ha hb hr)
 obtain ⟨z1,z2⟩:=twoI_bound a.data.toList b.data.toList
 generalize twoI (fun p q=>(cmpQ p q,0)) a.data.toList b.data.toList=r at HB z1 z2 ⊢
 obtain ⟨k,e0⟩:=r
 dsimp only at z1 z2
 unfold resI at HB
 unfold chooseQ resS
 dsimp only at HB ⊢
 clear hr
 by_cases he:e0=0
 ·subst he
  have hks:-1≤k*s∧k*s≤1:=by rcases hs with rfl|rfl<;>omega
  rw [if_neg (by omega)]
  by_cases hp:k*s > 0
  ·rw [if_pos hp]
   have hp':decide (k*s > 0)=true:=decide_eq_true hp
   go_enter Tryz.func207,Tryz.ntmps207
   go_wp2_with (go_at_call 116;refine HB.out.mono ?_;rintro e w2 ⟨rfl,hb2⟩;have HB2:=Lib.hid hb2;clear hb2)
   refine bodyPost_ret (results_tmp2 rfl _ _ _) rfl ?_
   exact ⟨rfl,HB2.out⟩
  ·rw [if_neg hp]
   have hp':decide (k*s > 0)=false:=decide_eq_false hp
   go_enter Tryz.func207,Tryz.ntmps207
   go_wp2_with (go_at_call 116;refine HB.out.mono ?_;rintro e w2 ⟨rfl,hb2⟩;have HB2:=Lib.hid hb2;clear hb2)
   refine bodyPost_ret (results_tmp2 rfl _ _ _) rfl ?_
   exact ⟨rfl,HB2.out⟩
 ·rw [if_pos he]
  have hne:((e0:Int)==0)=false:=by rw [beq_eq_false_iff_ne];omega
  have HE:=Lib.hid he
  clear he
  go_enter Tryz.func207,Tryz.ntmps207
  go_wp2_with (go_at_call 116;refine HB.out.mono ?_;rintro e w2 ⟨rfl,hb2⟩;have HB2:=Lib.hid hb2;clear hb2)
  refine bodyPost_ret (results_tmp2 rfl _ _ _) rfl ?_
  exact ⟨rfl,HB2.out⟩
theorem ratMax_any (a b:ByteArray) (w:World) (ha:a.size≤270000) (hb:b.size≤270000) (hr:Res w) :
  Calls Tryz.prog 131 #[.string a,.string b] w fun e w'=>e=.returned (resS (chooseQ (twoI (fun p q=>(cmpQ p q,0)) a.data.toList b.data.toList) (-1) a b))∧Below w.heap.size w w':=by
 have HB:=Lib.hid (choose_any a b (-1) w ha hb hr (.inr rfl))
 generalize chooseQ (twoI (fun p q=>(cmpQ p q,0)) a.data.toList b.data.toList) (-1) a b=r at HB ⊢
 clear hr
 go_enter Tryz.func131,Tryz.ntmps131
 go_wp2_with (go_at_call 207;refine HB.out.mono ?_;rintro e w2 ⟨rfl,hb2⟩;have HB2:=Lib.hid hb2;clear hb2;unfold resS)
 refine bodyPost_ret (results_tmp2 rfl _ _ _) rfl ?_
 exact ⟨rfl,HB2.out⟩
end Go.Proofs.YtigapglmipmbeaaGreatDoor
namespace Go.Proofs.YtigapglmipmbeaaGreatDoor
open Lim
end Go.Proofs.YtigapglmipmbeaaGreatDoor
namespace Go.Proofs.YtigapglmipmbeaaGreatDoor
open Go.RowKit Go.Shelf
open Lim
theorem two_I {f:Rat→Rat→Int × Nat} {a b:ByteArray} {p q:Rat} (ha:IsT a p) (hb:IsT b q):twoI f a.data.toList b.data.toList=f p q:=by
 unfold twoI;rw [ha.err,hb.err,ha.val,hb.val];rfl
section
variable {a b c:ByteArray} {p q:Rat} (w:World)
theorem cmpT {k:Int} (ha:IsT a p) (hb:IsT b q) (hk:cmpQ p q=k) (hr:Res w) :
  Calls Tryz.prog 116 #[.string a,.string b] w fun e w'=>e=.returned (.tuple #[.int .i64 k,.int .i64 0])∧Below w.heap.size w w':=by
 refine (ratCmp_any a b w ha.size hb.size hr).mono ?_
 rintro e w' ⟨rfl,h⟩
 rw [two_I ha hb,hk]
 exact ⟨rfl,h⟩
end
def rT (q:Rat):ByteArray:=⟨(ratText q).toArray⟩
def fits (q:Rat):Bool:=!(decide (maxD < Lib.nDigits (nm q)∨maxD < Lib.nDigits q.den))
theorem fits_sz {q:Rat}:fits q=true↔Sz maxD q:=by
 rw [sz_iff (by decide)]
 unfold fits
 rw [Bool.not_eq_true',decide_eq_false_iff_not]
 omega
theorem isT_rT {q:Rat} (h:fits q=true):IsT (rT q) q:=⟨rfl,fits_sz.1 h⟩
section
variable {fn:Func} {tmps:Array Value} {R:Ending→World→Prop} {b:Nat} {w:World}
end
theorem cell0 {w:World} {b:Nat} {t:TypeId} {v:Value} (h:Blk w b t #[v]):w.cell? ⟨b,0,none⟩=some v:=(cellrow h 0 (by simp)).1
theorem cells2 {w:World} {b:Nat} {t:TypeId} {u v:Value} (h:Blk w b t #[u,v]):w.cell? ⟨b,0,none⟩=some u∧w.cell? ⟨b,1,none⟩=some v:=⟨(cellrow h 0 (by simp)).1,(cellrow h 1 (by simp)).1⟩
abbrev L2:=ByteArray × ByteArray
def LRow (w:World) (v:Value) (ls:List L2):Prop :=
 ∃ A c,v=.slice A ls.length c∧ls.length≤1000∧(0 < ls.length→∃ b o,A=some ⟨b,o,none⟩∧b < w.heap.size ∧
  ∀ (j:Nat) (x:L2),ls[j]?=some x→w.cell? ⟨b,o+j*2,none⟩=some (.string x.1)∧w.cell? ⟨b,o+j*2+1,none⟩=some (.string x.2))
theorem LRow.below {w w':World} {v:Value} {ls:List L2} (h:LRow w v ls) (hb:Below w.heap.size w w'):LRow w' v ls:=by
 obtain ⟨A,c,e,h1,h2⟩:=h
 refine ⟨A,c,e,h1,fun h0=>?_⟩
 obtain ⟨b,o,e2,hlt,hc⟩:=h2 h0
 refine ⟨b,o,e2,Nat.lt_of_lt_of_le hlt hb.size,fun j x hj=>?_⟩
 obtain ⟨c0,c1⟩:=hc j x hj
 exact ⟨by rw [hb.cell (p:=⟨b,o+j*2,none⟩) hlt];exact c0,by rw [hb.cell (p:=⟨b,o+j*2+1,none⟩) hlt];exact c1⟩
theorem LRow.nil (w:World) (A:Option Addr) (c:Nat):LRow w (.slice A 0 c) []:=⟨A,c,rfl,by simp,fun h=>absurd h (by simp)⟩
theorem LRow.one {w:World} {b:Nat} {t:TypeId} {f d:ByteArray} (h:Blk w b t #[.string f,.string d]):LRow w (.slice (some ⟨b,0,none⟩) 1 1) [(f,d)]:=by
 refine ⟨_,_,rfl,by simp,fun _=>⟨b,0,rfl,h.lt,fun j x hj=>?_⟩⟩
 match j with
 | 0=>cases hj;exact cells2 h
 | j+1=>simp at hj
theorem LRow.two {w:World} {b:Nat} {t:TypeId} {f d f' d':ByteArray} (h:Blk w b t #[.string f,.string d,.string f',.string d']):LRow w (.slice (some ⟨b,0,none⟩) 2 2) [(f,d),(f',d')]:=by
 refine ⟨_,_,rfl,by simp,fun _=>⟨b,0,rfl,h.lt,fun j x hj=>?_⟩⟩
 match j with
 | 0=>cases hj;exact ⟨(cellrow h 0 (by simp)).1,(cellrow h 1 (by simp)).1⟩
 | 1=>cases hj;exact ⟨(cellrow h 2 (by simp)).1,(cellrow h 3 (by simp)).1⟩
 | j+2=>simp at hj
def Short (ls:List L2):Prop:=∀ x∈ls,x.1.size≤270000∧x.2.size≤270000
end Go.Proofs.YtigapglmipmbeaaGreatDoor
namespace Go.Proofs.YtigapglmipmbeaaGreatDoor
open Go.RowKit
open Lim
abbrev XE:=Except Nat ByteArray
def exQ (r:List UInt8 × Nat):XE:=if r.2=0 then .ok ⟨r.1.toArray⟩ else .error r.2
def resX:XE→Value
 | .ok s=>.tuple #[.string s,.int .i64 0]
 | .error n=>.tuple #[.string ⟨#[]⟩,.int .i64 (n:Int)]
def NoT (r:List UInt8 × Nat):Prop:=(r.2≠0→r.1=[])∧(r.2=0→errQ r.1=0)
theorem resX_ex {r:List UInt8 × Nat} (h:NoT r):resN r=resX (exQ r):=by
 unfold resN exQ
 split
 ·rename_i h0;rw [h0];rfl
 ·rename_i h0;rw [h.1 h0];rfl
theorem noT_out (q:Rat):NoT (outQ q):=by
 unfold outQ
 split
 ·exact ⟨fun _=>rfl,fun h=>by cases h⟩
 ·rename_i h
  refine ⟨fun h2=>absurd rfl h2,fun _=>?_⟩
  have h1:Lib.nDigits (nm q)≤maxD∧Lib.nDigits q.den≤maxD:=by omega
  exact errQ_rat h1.1 h1.2
theorem noT_err (n:Nat) (h:n≠0):NoT ([],n):=⟨fun _=>rfl,fun h2=>absurd h2 h⟩
theorem noT_div (p q:Rat):NoT (divQ p q):=by
 unfold divQ
 split
 ·exact noT_err 6 (by decide)
 ·exact noT_out _
theorem noT_pow (q:Rat) (n:Int):NoT (powQ q n):=by
 unfold powQ
 split
 ·exact noT_err 6 (by decide)
 ·exact noT_out _
theorem noT_one {f:Rat→List UInt8 × Nat} (h:∀ q,NoT (f q)) (a:List UInt8):NoT (oneQ f a):=by
 unfold oneQ
 split
 ·rename_i h0;exact noT_err _ h0
 ·exact h _
theorem noT_two {f:Rat→Rat→List UInt8 × Nat} (h:∀ p q,NoT (f p q)) (a b:List UInt8):NoT (twoQ f a b):=by
 unfold twoQ
 split
 ·rename_i h0;exact noT_err _ h0
 ·split
  ·rename_i h0;exact noT_err _ h0
  ·exact h _ _
theorem exQ_err {r:List UInt8 × Nat} {n:Nat} (h:exQ r=.error n):n≠0:=by
 unfold exQ at h
 split at h
 ·cases h
 ·rename_i h0;cases h;exact h0
theorem exQ_ok {r:List UInt8 × Nat} {s:ByteArray} (hr:NoT r) (h:exQ r=.ok s):errQ s.data.toList=0:=by
 unfold exQ at h
 split at h
 ·rename_i h0;cases h;exact hr.2 h0
 ·cases h
theorem size_ok {s:ByteArray} (h:errQ s.data.toList=0):s.size≤270000:=(IsT.of h).size
def plX (a b:ByteArray):XE:=exQ (twoQ (fun p q=>outQ (p+q)) a.data.toList b.data.toList)
def subX (a b:ByteArray):XE:=exQ (twoQ (fun p q=>outQ (p+-q)) a.data.toList b.data.toList)
def mulX (a b:ByteArray):XE:=exQ (twoQ (fun p q=>outQ (p*q)) a.data.toList b.data.toList)
def divX (a b:ByteArray):XE:=exQ (twoQ divQ a.data.toList b.data.toList)
def powX (a:ByteArray) (n:Int):XE:=exQ (oneQ (fun q=>powQ q n) a.data.toList)
theorem plX_t (a b:ByteArray):NoT (twoQ (fun p q=>outQ (p+q)) a.data.toList b.data.toList):=noT_two (fun _ _=>noT_out _) _ _
theorem subX_t (a b:ByteArray):NoT (twoQ (fun p q=>outQ (p+-q)) a.data.toList b.data.toList):=noT_two (fun _ _=>noT_out _) _ _
theorem mulX_t (a b:ByteArray):NoT (twoQ (fun p q=>outQ (p*q)) a.data.toList b.data.toList):=noT_two (fun _ _=>noT_out _) _ _
theorem divX_t (a b:ByteArray):NoT (twoQ divQ a.data.toList b.data.toList):=noT_two noT_div _ _
theorem powX_t (a:ByteArray) (n:Int):NoT (oneQ (fun q=>powQ q n) a.data.toList):=noT_one (fun q=>noT_pow q n) _
theorem plX_ok {a b s:ByteArray} (h:plX a b=.ok s):errQ s.data.toList=0:=exQ_ok (plX_t a b) h
theorem subX_ok {a b s:ByteArray} (h:subX a b=.ok s):errQ s.data.toList=0:=exQ_ok (subX_t a b) h
theorem mulX_ok {a b s:ByteArray} (h:mulX a b=.ok s):errQ s.data.toList=0:=exQ_ok (mulX_t a b) h
theorem divX_ok {a b s:ByteArray} (h:divX a b=.ok s):errQ s.data.toList=0:=exQ_ok (divX_t a b) h
theorem powX_ok {a s:ByteArray} {n:Int} (h:powX a n=.ok s):errQ s.data.toList=0:=exQ_ok (powX_t a n) h
def zT:ByteArray:=⟨#[48]⟩
def oT:ByteArray:=⟨#[49]⟩
def maxX (a b:ByteArray):XE :=
 if errQ a.data.toList≠0 then .error (errQ a.data.toList) else if errQ b.data.toList≠0 then .error (errQ b.data.toList) else .ok (if cmpQ (valQ a.data.toList) (valQ b.data.toList) < 0 then b else a)
theorem maxX_res (a b:ByteArray):resS (chooseQ (twoI (fun p q=>(cmpQ p q,0)) a.data.toList b.data.toList) (-1) a b)=resX (maxX a b):=by
 unfold twoI maxX
 split
 ·rename_i h;unfold chooseQ;rw [if_pos h];rfl
 ·split
  ·rename_i h;unfold chooseQ;rw [if_pos h];rfl
  ·unfold chooseQ
   rw [if_neg (by simp)]
   dsimp only
   by_cases h:cmpQ (valQ a.data.toList) (valQ b.data.toList) < 0
   ·rw [if_pos h,if_pos (by omega)];rfl
   ·rw [if_neg h,if_neg (by omega)];rfl
def ltK (a b:ByteArray):Bool:=decide (a.data.toList < b.data.toList)
def posE (p:ByteArray):Nat:=if errQ p.data.toList≠0 then errQ p.data.toList else if valQ p.data.toList < 0 then 2 else 0
def badK:Option ByteArray→ByteArray→Bool
 | none,_=>false
 | some k,x=>!ltK k x
def chkL:Option ByteArray→List L2→Nat
 | _,[]=>0
 | k,x::l=>if posE x.2≠0 then posE x.2 else if ¬ 0 < valQ x.2.data.toList then 2 else if badK k x.1 then 9 else chkL (some x.1) l
def foldX {α:Type} (g:α→XE):ByteArray→List α→XE
 | s,[]=>.ok s
 | s,x::l=>match g x with
  | .error n=>.error n
  | .ok p=>match plX s p with
   | .error n=>.error n
   | .ok t=>foldX g t l
def sumX (s:ByteArray) (l:List L2):XE:=foldX (fun x:L2=>.ok x.2) s l
def chkS:XE→Nat
 | .error n=>n
 | .ok s=>if s=oT then 0 else 15
def chkD (ls:List L2):Nat:=if chkL none ls≠0 then chkL none ls else chkS (sumX zT ls)
def chk2 (a b:List L2):Nat:=if chkD a≠0 then chkD a else chkD b
def atT:List L2→ByteArray→ByteArray
 | [],_=>zT
 | x::l,k=>if x.1=k then x.2 else atT l k
def hasT:List L2→ByteArray→Bool
 | [],_=>false
 | x::l,k=>if x.1=k then true else hasT l k
def insX:List L2→L2→Except Nat (List L2)
 | [],x=>.ok [x]
 | y::l,x=>if ltK y.1 x.1 then
   (match insX l x with
    | .error n=>.error n
    | .ok m=>.ok (y::m))
  else if y.1=x.1 then
   (match plX y.2 x.2 with
    | .error n=>.error n
    | .ok s=>.ok ((y.1,s)::l))
  else .ok (x::y::l)
def collX:List L2→List L2→Except Nat (List L2)
 | a,[]=>.ok a
 | a,x::l=>match insX a x with
  | .error n=>.error n
  | .ok b=>collX b l
def posL:List L2→Nat
 | []=>0
 | x::l=>if posE x.2≠0 then posE x.2 else posL l
def keepX (l:List L2):List L2:=l.filter fun x=>decide (x.2≠zT)
def doneX (l:List L2):Except Nat (List L2):=if chkD (keepX l)≠0 then .error (chkD (keepX l)) else .ok (keepX l)
def makeX (ls:List L2):Except Nat (List L2):=if posL ls≠0 then .error (posL ls) else match collX [] ls with
 | .error n=>.error n
 | .ok a=>doneX a
def scaleX (ls:List L2) (b:ByteArray):Except Nat (List L2):=match ls with
 | []=>.ok []
 | x::l=>match mulX x.2 b with
  | .error n=>.error n
  | .ok p=>match scaleX l b with
   | .error n=>.error n
   | .ok m=>.ok ((x.1,p)::m)
def joinT (a b:ByteArray):ByteArray:=a++⟨#[124]⟩++b
def pairX (a b:List L2):Except Nat (List L2):=match a with
 | []=>.ok []
 | x::l=>match scaleX b x.2 with
  | .error n=>.error n
  | .ok m=>match pairX l b with
   | .error n=>.error n
   | .ok r=>.ok (m.map (fun y=>(joinT x.1 y.1,y.2))++r)
def prodX (a b:List L2):Except Nat (List L2):=if chk2 a b≠0 then .error (chk2 a b) else if 4096 < a.length*b.length then .error 12 else match pairX a b with
 | .error n=>.error n
 | .ok l=>makeX l
def mixX (p:ByteArray) (a b:List L2):Except Nat (List L2):=if chk2 a b≠0 then .error (chk2 a b) else if posE p≠0 then .error (posE p) else if 1 < valQ p.data.toList then .error 2 else
 match subX oT p with
 | .error n=>.error n
 | .ok r=>match scaleX a p with
  | .error n=>.error n
  | .ok x=>match scaleX b r with
   | .error n=>.error n
   | .ok y=>makeX (x++y)
def turnX:List (ByteArray × ByteArray)→ByteArray→ByteArray
 | [],k=>k
 | x::l,k=>if x.1=k then x.2 else turnX l k
def pushX (d:List L2) (f t:List ByteArray):Except Nat (List L2):=if chkD d≠0 then .error (chkD d) else if f.length≠t.length then .error 3 else
 makeX (d.map fun x=>(turnX (f.zip t) x.1,x.2))
def partX (f:ByteArray) (q:List L2) (m:L2):XE:=match mulX f (atT q m.1) with
 | .error n=>.error n
 | .ok x=>match subX m.2 x with
  | .error n=>.error n
  | .ok y=>maxX zT y
def deltaX (p q:List L2) (f:ByteArray):XE:=if chk2 p q≠0 then .error (chk2 p q) else if posE f≠0 then .error (posE f) else foldX (partX f q) zT p
def inX:List L2→List L2→Bool
 | [],_=>true
 | x::l,q=>if hasT q x.1 then inX l q else false
def mostX (q:List L2):ByteArray→List L2→XE
 | s,[]=>.ok s
 | s,m::l=>match divX m.2 (atT q m.1) with
  | .error n=>.error n
  | .ok x=>mostX q (if cmpQ (valQ s.data.toList) (valQ x.data.toList) < 0 then x else s) l
def resF:XE→Value
 | .ok s=>.tuple #[.string s,.bool true,.int .i64 0]
 | .error n=>.tuple #[.string ⟨#[]⟩,.bool false,.int .i64 (n:Int)]
def facV (p q:List L2):Value:=if chk2 p q≠0 then .tuple #[.string ⟨#[]⟩,.bool false,.int .i64 (chk2 p q:Int)] else if inX p q=false then .tuple #[.string ⟨#[]⟩,.bool false,.int .i64 0] else resF (mostX q zT p)
def powsX (n:Int) (q:List L2) (m:L2):XE:=match powX m.2 n with
 | .error e=>.error e
 | .ok x=>match powX (atT q m.1) (n - 1) with
  | .error e=>.error e
  | .ok y=>divX x y
def momV (p q:List L2) (n:Int):Value:=if chk2 p q≠0 then .tuple #[.string ⟨#[]⟩,.bool false,.int .i64 (chk2 p q:Int)] else if n < 1∨8 < n then .tuple #[.string ⟨#[]⟩,.bool false,.int .i64 2]
 else if inX p q=false then .tuple #[.string ⟨#[]⟩,.bool false,.int .i64 0] else resF (foldX (powsX n q) zT p)
theorem foldX_err {α:Type} {g:α→XE} {s:ByteArray} {x:α} {l:List α} {n:Nat} (h:g x=.error n):foldX g s (x::l)=.error n:=by simp only [foldX,h]
theorem foldX_err2 {α:Type} {g:α→XE} {s p:ByteArray} {x:α} {l:List α} {n:Nat} (h:g x=.ok p) (h2:plX s p=.error n):foldX g s (x::l)=.error n:=by simp only [foldX,h,h2]
theorem foldX_ok {α:Type} {g:α→XE} {s p t:ByteArray} {x:α} {l:List α} (h:g x=.ok p) (h2:plX s p=.ok t):foldX g s (x::l)=foldX g t l:=by simp only [foldX,h,h2]
theorem drop_at {α:Type} {l:List α} {k:Nat} (h:k < l.length):l.drop k=l[k]::l.drop (k+1):=by simp
theorem err_zT:errQ zT.data.toList=0:=IsT.zero.err
theorem val_zT:valQ zT.data.toList=0:=IsT.zero.val
theorem val_oT:valQ oT.data.toList=1:=IsT.one.val
end Go.Proofs.YtigapglmipmbeaaGreatDoor
namespace Go.Proofs.YtigapglmipmbeaaGreatDoor
open Go.RowKit Go.Shelf
def Ret (F:FuncId) (args:Array Value) (v:Value):Prop:=∀ w,Res w→Calls Tryz.prog F args w fun e w'=>e=.returned v∧Below w.heap.size w w'
end Go.Proofs.YtigapglmipmbeaaGreatDoor
namespace Go.Proofs.YtigapglmipmbeaaGreatDoor
open Go.RowKit Go.Shelf
open Lim
section
variable {a b:ByteArray} (ha:a.size≤270000) (hb:b.size≤270000)
include ha hb
theorem retPlX:Ret 107 #[.string a,.string b] (resX (plX a b)):=fun w hr=>by
 unfold plX
 rw [← resX_ex (plX_t a b)]
 exact ratAdd_any a b w ha hb hr
theorem retSubX:Ret 117 #[.string a,.string b] (resX (subX a b)):=fun w hr=>by
 unfold subX
 rw [← resX_ex (subX_t a b)]
 exact ratSub_any a b w ha hb hr
theorem retMulX:Ret 130 #[.string a,.string b] (resX (mulX a b)):=fun w hr=>by
 unfold mulX
 rw [← resX_ex (mulX_t a b)]
 exact ratMul_any a b w ha hb hr
theorem retDivX:Ret 133 #[.string a,.string b] (resX (divX a b)):=fun w hr=>by
 unfold divX
 rw [← resX_ex (divX_t a b)]
 exact ratDiv_any a b w ha hb hr
theorem retMaxX:Ret 131 #[.string a,.string b] (resX (maxX a b)):=fun w hr=>by
 rw [← maxX_res]
 exact ratMax_any a b w ha hb hr
end
theorem retPowX {a:ByteArray} (ha:a.size≤270000) (n:Int) (h1:-9223372036854775808≤n) (h2:n≤9223372036854775807):Ret 135 #[.string a,.int .i64 n] (resX (powX a n)):=fun w hr=>by
 unfold powX
 rw [← resX_ex (powX_t a n)]
 exact ratPow_any a n w ha hr h1 h2
theorem lt_bytes (a b:ByteArray):Op.bytesLess a.toList b.toList=ltK a b:=by
 unfold ltK
 rw [bytesLess_eq,Lib.toList_data,Lib.toList_data]
theorem eq_bytes (a b:ByteArray):(a.toList==b.toList)=decide (a=b):=by
 rw [Lib.toList_data,Lib.toList_data]
 by_cases h:a=b
 ·subst h;simp
 ·have h2:a.data.toList≠b.data.toList:=fun e=>h (by
   cases a;cases b
   simp only [ByteArray.mk.injEq]
   exact Array.ext' e)
  rw [decide_eq_false h]
  exact beq_eq_false_iff_ne.2 h2
theorem oT_list:oT.toList=[49]:=by rw [Lib.toList_data];rfl
theorem zT_list:zT.toList=[48]:=by rw [Lib.toList_data];rfl
theorem ne_zero {n:Nat} (h:n≠0):((n:Int)==0)=false:=by rw [beq_eq_false_iff_ne];omega
theorem ne_zero2 {n:Nat} (h:n≠0):((n:Int) != 0)=true:=by unfold bne;rw [ne_zero h];rfl
theorem num_neg_iff (q:Rat):q.num < 0↔q < 0:=by
 have h:=Rat.num_nonneg (q:=q)
 constructor
 ·intro h2
  exact Classical.byContradiction fun h3=>absurd (h.2 (by grind)) (by omega)
 ·intro h2
  exact Classical.byContradiction fun h3=>by
   have:=h.1 (by omega)
   grind
theorem sg_lt (q:Rat):sgQ q < 0↔q < 0:=by
 rw [sgQ_num,← num_neg_iff]
 split
 ·rename_i h;exact ⟨fun _=>h,fun _=>by omega⟩
 ·rename_i h
  split<;>exact ⟨fun h2=>absurd h2 (by omega),fun h2=>absurd h2 h⟩
theorem sg_gt (q:Rat):0 < sgQ q↔0 < q:=by
 rw [sgQ_num]
 have h1:=num_neg_iff q
 have h0:q.num=0↔q=0:=Rat.num_eq_zero
 split
 ·rename_i h
  have:=h1.1 h
  exact ⟨fun h2=>absurd h2 (by omega),fun h2=>by grind⟩
 ·rename_i h
  have h4:¬ q < 0:=fun h5=>h (h1.2 h5)
  split
  ·rename_i h3
   have:=h0.1 h3
   exact ⟨fun h2=>absurd h2 (by omega),fun h2=>by grind⟩
  ·rename_i h3
   have:q≠0:=fun h5=>h3 (h0.2 h5)
   exact ⟨fun _=>by grind,fun _=>by omega⟩
end Go.Proofs.YtigapglmipmbeaaGreatDoor
namespace Go.Proofs.YtigapglmipmbeaaGreatDoor
open Go.RowKit Go.Shelf
open Lim
attribute [local go_sem] Oper.semAt_some
structure NW (w:World) (W:World):Prop where
 below:Below w.heap.size w W
 res:Res W
theorem NW.refl {w:World} (hr:Res w):NW w w:=⟨Below.refl _ _,hr⟩
theorem NW.later {w W W':World} (h:NW w W) (hb:Below W.heap.size W W'):NW w W':=⟨h.below.trans (hb.mono h.below.size),h.res.below hb⟩
theorem NW.alloc {w W:World} (h:NW w W) (o:Obj):NW w (W.alloc o):=h.later (below_alloc (Below.refl _ _) _)
theorem NW.drewN {w W:World} (h:NW w W) (n:Nat):NW w (W.drewN n):=h.later (below_drewN' (Below.refl _ _) n)
def posB (p:ByteArray):Bool:=decide (errQ p.data.toList=0)&&decide (0 < valQ p.data.toList)
theorem pos_err (p:ByteArray) (s z:Int) (w:World) (HS:Hid (Calls Tryz.prog 187 #[.string p] w fun e w'=>e=.returned (.tuple #[.int .i64 s,.int .i64 z])∧Below w.heap.size w w')) (hz:(z==0)=false) :
  Calls Tryz.prog 106 #[.string p] w fun e w'=>e=.returned (.tuple #[.bool (decide (0 < s)),.int .i64 z])∧Below w.heap.size w w':=by
 go_enter Tryz.func106,Tryz.ntmps106
 go_wp2_with (go_at_call 187;refine HS.out.mono ?_;rintro e w1 ⟨rfl,hb⟩;have HB:=Lib.hid hb;clear hb)
 go_ret2
 exact ⟨rfl,HB.out⟩
theorem pos_neg (p:ByteArray) (s:Int) (w:World) (HS:Hid (Calls Tryz.prog 187 #[.string p] w fun e w'=>e=.returned (.tuple #[.int .i64 s,.int .i64 0])∧Below w.heap.size w w')) (h1:decide (s < 0)=true) :
  Calls Tryz.prog 106 #[.string p] w fun e w'=>e=.returned (.tuple #[.bool (decide (0 < s)),.int .i64 2])∧Below w.heap.size w w':=by
 go_enter Tryz.func106,Tryz.ntmps106
 go_wp2_with (go_at_call 187;refine HS.out.mono ?_;rintro e w1 ⟨rfl,hb⟩;have HB:=Lib.hid hb;clear hb)
 go_ret2
 exact ⟨rfl,HB.out⟩
theorem pos_ok (p:ByteArray) (s:Int) (w:World) (HS:Hid (Calls Tryz.prog 187 #[.string p] w fun e w'=>e=.returned (.tuple #[.int .i64 s,.int .i64 0])∧Below w.heap.size w w')) (h1:decide (s < 0)=false) :
  Calls Tryz.prog 106 #[.string p] w fun e w'=>e=.returned (.tuple #[.bool (decide (0 < s)),.int .i64 0])∧Below w.heap.size w w':=by
 go_enter Tryz.func106,Tryz.ntmps106
 go_wp2_with (go_at_call 187;refine HS.out.mono ?_;rintro e w1 ⟨rfl,hb⟩;have HB:=Lib.hid hb;clear hb)
 go_ret2
 exact ⟨rfl,HB.out⟩
theorem positive_any {p:ByteArray} (hp:p.size≤270000):Ret 106 #[.string p] (.tuple #[.bool (posB p),.int .i64 (posE p:Int)]):=fun w hr=>by
 have HS:=ratSign_any p w hp hr
 unfold oneI resI at HS
 unfold posB posE
 by_cases he:errQ p.data.toList=0
 ·rw [if_neg (by simpa using he)] at HS
  rw [if_neg (by simpa using he),decide_eq_true he,Bool.true_and]
  dsimp only at HS
  have e1:decide (0 < valQ p.data.toList)=decide (0 < sgQ (valQ p.data.toList)):=decide_eq_decide.2 (sg_gt _).symm
  rw [e1]
  by_cases hn:valQ p.data.toList < 0
  ·rw [if_pos hn]
   exact pos_neg p _ w (Lib.hid HS) (decide_eq_true ((sg_lt _).2 hn))
  ·rw [if_neg hn]
   exact pos_ok p _ w (Lib.hid HS) (decide_eq_false fun h=>hn ((sg_lt _).1 h))
 ·rw [if_pos he] at HS
  rw [if_pos he,decide_eq_false he,Bool.false_and]
  exact pos_err p 0 _ w (Lib.hid HS) (ne_zero he)
theorem runs_check1:Runs 123:=runs_of Tryz.func123 (by kernel_rfl) (by kernel_rfl)
theorem check1_any (x:L2) (k:Int) (w:World):Calls Tryz.prog 123 #[.int .i64 k,.agg #[.string x.1,.string x.2]] w fun e w'=>e=.returned (.tuple #[.string x.2,.int .i64 0])∧Below w.heap.size w w':=by
 have H:=Lib.hid (below_alloc (Below.refl w.heap.size w) (.cells #[.string x.1,.string x.2] 30))
 go_enter Tryz.func123,Tryz.ntmps123
 go_wp2
 go_ret2
 exact ⟨rfl,H.out⟩
theorem dfold_any (F:FuncId) (cb:Array Value) (hrun:Runs F) (g:L2→XE) (ls:List L2) (v:Value) (w:World) (hv:LRow w v ls) (hr:Res w) (hne:∀ x n,g x=.error n→n≠0) (hok:∀ x∈ls,∀ s,g x=.ok s→errQ s.data.toList=0)
  (hg:∀ (k:Nat) (x:L2),ls[k]?=some x→∀ W,Below w.heap.size w W→Res W→Calls Tryz.prog F (#[.int .i64 (k:Int),.agg #[.string x.1,.string x.2]]++cb) W fun e W'=>e=.returned (resX (g x))∧Below W.heap.size W W') :
  Calls Tryz.prog 122 #[v,.func (.func F) #[] cb] w fun e w'=>e=.returned (resX (foldX g zT ls))∧Below w.heap.size w w':=by
 obtain ⟨A,c,rfl,hlen,hcells⟩:=hv
 have HCE:=Lib.hid hcells
 have HG:=Lib.hid hg
 have HOK:=Lib.hid hok
 have HNE:=Lib.hid hne
 have H0:=Lib.hid (NW.refl hr)
 have hrn:=hrun
 unfold Runs at hrn
 clear hr hcells hg hok hne hrun
 go_enter Tryz.func122,Tryz.ntmps122
 go_wp2
 go_loopw [6,13] (fun v6 v13 wr=>∃ (k:Nat) (s:ByteArray),k≤ls.length∧v13=.int .i64 (k:Int)∧v6=.string s∧Hid (errQ s.data.toList=0∧foldX g zT ls=foldX g s (ls.drop k))∧Hid (NW w wr)) (fun _ v13 _=>ls.length - (intOf v13).toNat)
 case atStart=>exact ⟨0,zT,Nat.zero_le _,rfl,rfl,Lib.hid ⟨err_zT,by simp⟩,H0⟩
 case round =>
  obtain ⟨k,s,hk,rfl,rfl,HE,HN⟩:=hrel
  by_cases hlt:k < ls.length
  ·obtain ⟨b,o,rfl,hbw,hcell⟩:=HCE.out (by omega)
   obtain ⟨x,hx⟩:∃ x,ls[k]?=some x:=⟨_,List.getElem?_eq_getElem hlt⟩
   obtain ⟨c0,c1⟩:=hcell k x hx
   rw [← HN.out.below.cell (p:=⟨b,o+k*2,none⟩) hbw] at c0
   rw [← HN.out.below.cell (p:=⟨b,o+k*2+1,none⟩) hbw] at c1
   have hlt':(k:Int) < (ls.length:Int):=by omega
   have hb2:b < wr.heap.size:=Nat.lt_of_lt_of_le hbw HN.out.below.size
   have HX:=Lib.hid (HN.out.alloc (.cells #[.string x.1,.string x.2] 30))
   have HF:=Lib.hid (HG.out k x hx _ HX.out.below HX.out.res)
   have HD:=Lib.hid (show ls.drop k=x::ls.drop (k+1) by
    rw [List.drop_eq_getElem_cons hlt]
    rw [List.getElem?_eq_getElem hlt] at hx
    cases hx
    rfl)
   have HM:=Lib.hid (List.mem_of_getElem? hx)
   have HLT:=Lib.hid (And.intro hlt hlt')
   obtain ⟨f,d⟩:=x
   dsimp only at c0 c1 HX HF
   clear hcell hx hbw hlt
   cases hg:g (f,d) with
   | error m =>
    have HR:=Lib.hid (show foldX g zT ls=.error m by rw [HE.out.2,HD.out,foldX_err hg])
    rw [hg] at HF
    change Hid (Calls _ _ _ _ fun e w'=>e=.returned (.tuple #[.string ⟨#[]⟩,.int .i64 (m:Int)])∧_) at HF
    have hm:((m:Int)==0)=false:=ne_zero (HNE.out _ _ hg)
    have HF2:=HF.out
    clear HF hg
    go_wp2
    refine HF2.mono ?_
    rintro e w3 ⟨rfl,hb⟩
    have H3:=Lib.hid (HX.out.later hb)
    clear hb
    go_wp2
    go_ret2
    rw [HR.out]
    exact ⟨rfl,H3.out.below⟩
   | ok p =>
    have HA:=Lib.hid (retPlX (size_ok HE.out.1) (size_ok (HOK.out _ HM.out p hg)))
    rw [hg] at HF
    change Hid (Calls _ _ _ _ fun e w'=>e=.returned (.tuple #[.string p,.int .i64 0])∧_) at HF
    have HF2:=HF.out
    cases ha:plX s p with
    | error n =>
     have HR:=Lib.hid (show foldX g zT ls=.error n by rw [HE.out.2,HD.out,foldX_err2 hg ha])
     have hm:((n:Int)==0)=false:=ne_zero (exQ_err ha)
     rw [ha] at HA
     change Hid (Ret _ _ (.tuple #[.string ⟨#[]⟩,.int .i64 (n:Int)])) at HA
     clear HF hg ha
     go_wp2
     refine HF2.mono ?_
     rintro e w3 ⟨rfl,hb⟩
     have H3:=Lib.hid (HX.out.later hb)
     clear hb HF2
     go_wp2_with (go_at_call 107;refine (HA.out _ H3.out.res).mono ?_;rintro e w4 ⟨rfl,hb⟩;have H4:=Lib.hid (H3.out.later hb);clear hb)
     go_ret2
     rw [HR.out]
     exact ⟨rfl,H4.out.below⟩
    | ok t =>
     have HR:=Lib.hid (show errQ t.data.toList=0∧foldX g zT ls=foldX g t (ls.drop (k+1)) from ⟨plX_ok ha,by rw [HE.out.2,HD.out,foldX_ok hg ha]⟩)
     rw [ha] at HA
     change Hid (Ret _ _ (.tuple #[.string t,.int .i64 0])) at HA
     clear HF hg ha
     go_wp2
     refine HF2.mono ?_
     rintro e w3 ⟨rfl,hb⟩
     have H3:=Lib.hid (HX.out.later hb)
     clear hb HF2
     go_wp2_with (go_at_call 107;refine (HA.out _ H3.out.res).mono ?_;rintro e w4 ⟨rfl,hb⟩;have H4:=Lib.hid (H3.out.later hb);clear hb)
     go_roundw
     case rel=>exact ⟨k+1,t,HLT.out.1,by go_num,rfl,HR,H4⟩
     case measure=>have:=HLT.out.1;simp [intOf];omega
  ·have hlt':¬ (k:Int) < (ls.length:Int):=by omega
   obtain rfl:k=ls.length:=by omega
   have HE2:=Lib.hid (show foldX g zT ls=.ok s by
    have:=HE.out.2
    rwa [List.drop_length] at this)
   clear hlt
   go_wp2
   go_ret2
   rw [HE2.out]
   exact ⟨rfl,HN.out.below⟩
end Go.Proofs.YtigapglmipmbeaaGreatDoor
namespace Go.Proofs.YtigapglmipmbeaaGreatDoor
open Go.RowKit Go.Shelf
open Lim
end Go.Proofs.YtigapglmipmbeaaGreatDoor
namespace Go.Proofs.YtigapglmipmbeaaGreatDoor
open Lim
abbrev DL:=List (ByteArray × Rat)
def sumBy {α:Type} (f:α→Rat):List α→Rat
 | []=>0
 | a::l=>f a+sumBy f l
def pos (x:Rat):Rat:=if 0 < x then x else 0
section
variable {α β:Type} {f g:α→Rat} {l m:List α}
theorem sumBy_congr (h:∀ a∈l,f a=g a):sumBy f l=sumBy g l:=by
 induction l with
 | nil=>rfl
 | cons a l ih =>
  simp only [sumBy]
  rw [h a (by simp),ih fun b hb=>h b (by simp [hb])]
theorem sumBy_nonneg (h:∀ a∈l,0≤f a):0≤sumBy f l:=by
 induction l with
 | nil=>exact Rat.le_refl
 | cons a l ih =>
  simp only [sumBy]
  have h1:=h a (by simp)
  have h2:=ih fun b hb=>h b (by simp [hb])
  grind
theorem sumBy_zero (h:∀ a∈l,f a=0):sumBy f l=0:=by
 induction l with
 | nil=>rfl
 | cons a l ih =>
  simp only [sumBy]
  rw [h a (by simp),ih fun b hb=>h b (by simp [hb])]
  grind
theorem sumBy_add (f g:α→Rat) (l:List α):sumBy (fun a=>f a+g a) l=sumBy f l+sumBy g l:=by
 induction l with
 | nil=>simp only [sumBy];grind
 | cons a l ih=>simp only [sumBy];rw [ih];grind
theorem sumBy_map (h:β→α) (f:α→Rat) (l:List β):sumBy f (l.map h)=sumBy (fun b=>f (h b)) l:=by
 induction l with
 | nil=>rfl
 | cons a l ih=>simp only [List.map_cons,sumBy];rw [ih]
theorem sumBy_perm (h:l.Perm m):sumBy f l=sumBy f m:=by
 induction h with
 | nil=>rfl
 | cons a _ ih=>simp only [sumBy];rw [ih]
 | swap a b l=>simp only [sumBy];grind
 | trans _ _ h1 h2=>rw [h1,h2]
theorem sumBy_sub [DecidableEq α]:∀ {l m:List α},l.Nodup→m.Nodup→(∀ a∈l,a∈m)→(∀ a∈m,a ∉ l→f a=0)→sumBy f m=sumBy f l
 | [],m,_,_,_,h0=>by
  rw [sumBy_zero fun a ha=>h0 a ha (by simp)]
  rfl
 | a::l,m,hl,hm,hs,h0=>by
  have ha:a∈m:=hs a (by simp)
  rw [sumBy_perm (List.perm_cons_erase ha)]
  simp only [sumBy]
  rw [List.nodup_cons] at hl
  rw [sumBy_sub (l:=l) hl.2 (hm.erase a) (fun b hb=>?_) (fun b hb hn=>?_)]
  ·refine (List.mem_erase_of_ne ?_).2 (hs b (by simp [hb]))
   rintro rfl
   exact hl.1 hb
  ·have h1:=(hm.mem_erase_iff).1 hb
   exact h0 b h1.2 (by simp [hn,h1.1])
end
def massD (l:DL) (k:ByteArray):Rat:=sumBy (fun e=>if e.1=k then e.2 else 0) l
def keysD (l:DL):List ByteArray:=l.map (·.1)
theorem massD_cons (e:ByteArray × Rat) (l:DL) (k:ByteArray):massD (e::l) k=(if e.1=k then e.2 else 0)+massD l k:=rfl
theorem massD_none {l:DL} {k:ByteArray} (h:k ∉ keysD l):massD l k=0:=by
 refine sumBy_zero fun e he=>if_neg ?_
 rintro rfl
 exact h (List.mem_map_of_mem he)
theorem massD_at {l:DL} (hn:(keysD l).Nodup) {e:ByteArray × Rat} (he:e∈l):massD l e.1=e.2:=by
 induction l with
 | nil=>cases he
 | cons a l ih =>
  have hn2:a.1 ∉ keysD l∧(keysD l).Nodup:=List.nodup_cons.1 hn
  rw [massD_cons]
  rcases List.mem_cons.1 he with rfl|h
  ·rw [if_pos rfl,massD_none hn2.1,Rat.add_zero]
  ·have hk:e.1∈keysD l:=List.mem_map_of_mem h
   rw [if_neg (fun h2=>hn2.1 (by rw [h2];exact hk)),ih hn2.2 h,Rat.zero_add]
theorem sum_key {K:List ByteArray} (hK:K.Nodup) {k:ByteArray} (hk:k∈K) (c:ByteArray→Rat) (x:Rat):sumBy (fun j=>c j*(if k=j then x else 0)) K=c k*x:=by
 rw [sumBy_sub (l:=[k]) (by simp) hK (by simpa using hk) (fun a _ hn=>by rw [if_neg (fun h=>hn (by simp [h])),Rat.mul_zero])]
 show c k*(if k=k then x else 0)+0=c k*x
 rw [if_pos rfl,Rat.add_zero]
theorem sum_mass {K:List ByteArray} (hK:K.Nodup) (c:ByteArray→Rat):∀ {l:DL},(∀ k∈keysD l,k∈K)→sumBy (fun k=>c k*massD l k) K=sumBy (fun e=>c e.1*e.2) l
 | [],_=>sumBy_zero fun a _=>Rat.mul_zero _
 | e::l,h=>by
  have e1:sumBy (fun k=>c k*massD (e::l) k) K=sumBy (fun k=>c k*(if e.1=k then e.2 else 0)+c k*massD l k) K :=
   sumBy_congr fun k _=>by rw [massD_cons,Rat.mul_add]
  rw [e1,sumBy_add,sum_key hK (h e.1 (by simp [keysD])) c e.2,sum_mass hK c (l:=l) fun k hk=>h k (by
   unfold keysD at hk ⊢
   simp only [List.map_cons,List.mem_cons]
   exact .inr hk)]
  rfl
theorem sum_mass1 {K:List ByteArray} (hK:K.Nodup) {l:DL} (h:∀ k∈keysD l,k∈K):sumBy (fun k=>massD l k) K=sumBy (fun e=>e.2) l:=by
 have:=sum_mass hK (fun _=>1) h
 simp only [Rat.one_mul] at this
 exact this
structure IsD (d:DL):Prop where
 once:(keysD d).Nodup
 plus:∀ e∈d,0 < e.2
 one:sumBy (fun e=>e.2) d=1
theorem IsD.zero {d:DL} (h:IsD d) (k:ByteArray):0≤massD d k :=
 sumBy_nonneg fun e he=>by have:=h.plus e he;split<;>grind
end Go.Proofs.YtigapglmipmbeaaGreatDoor
