/- rat.with and rat.both over ints (printed by mkwithi.py). The order of rational numbers by their parts. No program in sight. rat: comparisons: frac.Cmp, rat.Sign, Cmp, choose, Min, Max (printed by mkratc.py). rat: Sign, Cmp, choose, Min, Max, Int, Parts. Rounding of rational numbers by their parts. No program in sight. rat: round, Floor, Ceil (printed by mkrate.py). More functions of rat on texts of numbers: comparisons, rounding. Losses in plain rationals: what Check, Add, Max, Fits, Group, Late, Alpha, Beta and Half compute. Computations that are left by a panic: must, and the deferred ends that turns the error into a result. loss.order and loss.Check. loss.Check. loss.valid: the first error of a list of losses leaves the computation. Functions of rat on numbers whose result does not fit. How a function hands back results that lie in cells: a struct and an error. -/
import Derived.Test.YtigapglmipmbeaaGreatDoorLwLedgerKnown06
import Derived.Test.YtigapglmipmbeaaGreatDoorLwLedgerKnown05
import Derived.Test.YtigapglmipmbeaaGreatDoorLwLedgerKnown07
import Derived.Recover
import Derived.Defers
set_option maxRecDepth 100000
set_option maxHeartbeats 16000000
namespace Go.Proofs.YtigapglmipmbeaaGreatDoor
open Go.RowKit Go.Shelf
open Lim
namespace WI
theorem runs_both1:Runs 256:=runs_of Tryz.func256 (by kernel_rfl) (by kernel_rfl)
theorem runs_both2:Runs 257:=runs_of Tryz.func257 (by kernel_rfl) (by kernel_rfl)
theorem with_err (s:ByteArray) (fv:Value) (w:World) (hlen:s.size≤270000) (hr:Res w) (he:errQ s.data.toList≠0) :
  Calls Tryz.prog 241 #[.string s,fv] w fun e w'=>e=.returned (.tuple #[.int .i64 0,.int .i64 (errQ s.data.toList:Int)])∧Below w.heap.size w w':=by
 have HR:=Lib.hid hr
 have hne:((errQ s.data.toList:Int)==0)=false:=by rw [beq_eq_false_iff_ne];omega
 have HE:=Lib.hid he
 have HP:=Lib.hid (fparse_any s w hlen hr)
 clear hr he
 go_enter Tryz.func241,Tryz.ntmps241
 go_wp2_with (go_at_call 217;refine HP.out.mono ?_;rintro e w1 ⟨v,rfl,-,hz,hb⟩;obtain rfl:=hz HE.out;have HB:=Lib.hid hb;clear hb hz)
 refine bodyPost_ret (results_tmp2 rfl _ _ _) rfl ?_
 exact ⟨rfl,below_alloc HB.out _⟩
theorem with_ok (F:FuncId) (hrun:Runs F) (caps:Array Value) (rv:Value) (k:Int) (s:ByteArray) (w:World) (hlen:s.size≤270000) (hr:Res w) (he:errQ s.data.toList=0)
  (hF:∀ v w',Below w.heap.size w w'→Res w'→IsFrac w' v (valQ s.data.toList)→Calls Tryz.prog F (#[v]++caps) w' fun e w''=>e=.returned (.tuple #[rv,.int .i64 k])∧Below w'.heap.size w' w'') :
  Calls Tryz.prog 241 #[.string s,.func (.func F) #[] caps] w fun e w'=>e=.returned (.tuple #[rv,.int .i64 k])∧Below w.heap.size w w':=by
 have HR:=Lib.hid hr
 have hne:((errQ s.data.toList:Int)==0)=true:=by rw [he];rfl
 have HE:=Lib.hid he
 have HP:=Lib.hid (fparse_any s w hlen hr)
 have HF:=Lib.hid hF
 have hrn:=hrun
 unfold Runs at hrn
 clear hr he hF hrun
 go_enter Tryz.func241,Tryz.ntmps241
 go_wp2_with (go_at_call 217;refine HP.out.mono ?_;rintro e w1 ⟨v,rfl,hv,-,hb⟩;obtain ⟨bq,N,D,A,c,A',c',rfl,hn,hd,HQ⟩:=isFrac_open (hv HE.out);have HV:=Lib.hid (hv HE.out);have HB:=Lib.hid hb;clear hb hv hn hd)
 have hx:=below_alloc HB.out (.cells #[.bool bq,.slice A (toL N).length c,.slice A' (toL D).length c'] 216)
 have hx1:Below w1.heap.size w1 (w1.alloc (.cells #[.bool bq,.slice A (toL N).length c,.slice A' (toL D).length c'] 216)):=below_alloc (Below.refl _ _) _
 have HX:=Lib.hid hx
 refine (HF.out _ _ HX.out (HR.out.below HX.out) (HV.out.below hx1)).mono ?_
 rintro e w2 ⟨rfl,hb2⟩
 have HB2:=Lib.hid (HX.out.trans (hb2.mono HX.out.size))
 clear hx hx1 hb2
 go_wp2
 refine bodyPost_ret (results_tmp2 rfl _ _ _) rfl ?_
 exact ⟨rfl,HB2.out⟩
theorem both2_ok (F:FuncId) (hrun:Runs F) (rv:Value) (k:Int) (pf px:Nat) (q q':Rat) (v v':Value) (w:World) (hpf:Boxed w pf 225 (.func (.func F) #[] #[]))
  (hv:IsFrac w v q) (hv':IsFrac w v' q') (vs:Array Value) (hvs:v=.agg vs) (hpx:Blk w px 216 vs) (_hr:Res w)
  (hF:∀ w',Below w.heap.size w w'→Calls Tryz.prog F #[v,v'] w' fun e w''=>e=.returned (.tuple #[rv,.int .i64 k])∧Below w'.heap.size w' w'') :
  Calls Tryz.prog 257 #[v',.pointer (some ⟨pf,0,none⟩),.pointer (some ⟨px,0,none⟩)] w fun e w'=>e=.returned (.tuple #[rv,.int .i64 k])∧Below w.heap.size w w':=by
 obtain ⟨bq,N,D,A,c,A',c',rfl,hn,hd,HQ⟩:=isFrac_open hv
 obtain ⟨bq',N',D',B,d,B',d',rfl,hn',hd',HQ'⟩:=isFrac_open hv'
 obtain rfl:#[.bool bq,.slice A (toL N).length c,.slice A' (toL D).length c']=vs:=by injection hvs
 have hrn:=hrun
 unfold Runs at hrn
 have HF:=Lib.hid hF
 have HX:=Lib.hid (below_alloc (Below.refl w.heap.size w) (.cells #[.bool bq',.slice B (toL N').length d,.slice B' (toL D').length d'] 216))
 have cf:=(bx_below hpf HX.out hpf.lt).cell
 obtain ⟨x0,x1,x2⟩:=rows_of hpx HX.out hpx.lt
 clear hrun hF hn hd hn' hd' hv hv' hpf hvs hpx
 go_enter Tryz.func257,Tryz.ntmps257
 go_wp2
 refine (HF.out _ HX.out).mono ?_
 rintro e w2 ⟨rfl,hb2⟩
 have HB2:=Lib.hid (HX.out.trans (hb2.mono HX.out.size))
 clear hb2
 go_wp2
 refine bodyPost_ret (results_tmp2 rfl _ _ _) rfl ?_
 exact ⟨rfl,HB2.out⟩
section
variable (F:FuncId) (b:ByteArray) (pb pf:Nat) (q:Rat) (v:Value) (w:World)
theorem both1_err (hlen:b.size≤270000) (hpb:Boxed w pb 23 (.string b)) (hpf:Boxed w pf 225 (.func (.func F) #[] #[]))
  (hv:IsFrac w v q) (hr:Res w) (he:errQ b.data.toList≠0) :
  Calls Tryz.prog 256 #[v,.pointer (some ⟨pb,0,none⟩),.pointer (some ⟨pf,0,none⟩)] w fun e w'=>e=.returned (.tuple #[.int .i64 0,.int .i64 (errQ b.data.toList:Int)])∧Below w.heap.size w w':=by
 obtain ⟨bq,N,D,A,c,A',c',rfl,hn,hd,HQ⟩:=isFrac_open hv
 have HX:=Lib.hid (below_alloc (Below.refl w.heap.size w) (.cells #[.bool bq,.slice A (toL N).length c,.slice A' (toL D).length c'] 216))
 have cf:=(bx_below hpf HX.out hpf.lt).cell
 have cb:=(bx_below hpb HX.out hpb.lt).cell
 have HW:=Lib.hid (fun fv=>with_err b fv _ hlen (hr.below HX.out) he)
 clear hn hd hv hpf hpb hr he
 go_enter Tryz.func256,Tryz.ntmps256
 go_wp2_with (go_at_call 241;refine (HW.out _).mono ?_;rintro e w2 ⟨rfl,hb2⟩;have HB2:=Lib.hid (HX.out.trans (hb2.mono HX.out.size));clear hb2)
 refine bodyPost_ret (results_tmp2 rfl _ _ _) rfl ?_
 exact ⟨rfl,HB2.out⟩
theorem both1_ok (hrun:Runs F) (rv:Value) (k:Int) (hlen:b.size≤270000) (hpb:Boxed w pb 23 (.string b)) (hpf:Boxed w pf 225 (.func (.func F) #[] #[]))
  (hv:IsFrac w v q) (hr:Res w) (he:errQ b.data.toList=0)
  (hF:∀ v' w',Below w.heap.size w w'→Res w'→IsFrac w' v q→IsFrac w' v' (valQ b.data.toList)→Calls Tryz.prog F #[v,v'] w' fun e w''=>e=.returned (.tuple #[rv,.int .i64 k])∧Below w'.heap.size w' w'') :
  Calls Tryz.prog 256 #[v,.pointer (some ⟨pb,0,none⟩),.pointer (some ⟨pf,0,none⟩)] w fun e w'=>e=.returned (.tuple #[rv,.int .i64 k])∧Below w.heap.size w w':=by
 obtain ⟨bq,N,D,A,c,A',c',rfl,hn,hd,HQ⟩:=isFrac_open hv
 have HX:=Lib.hid (below_alloc (Below.refl w.heap.size w) (.cells #[.bool bq,.slice A (toL N).length c,.slice A' (toL D).length c'] 216))
 have cf:=(bx_below hpf HX.out hpf.lt).cell
 have cb:=(bx_below hpb HX.out hpb.lt).cell
 have HW:=Lib.hid (with_ok 257 runs_both2 #[.pointer (some ⟨pf,0,none⟩),.pointer (some ⟨w.heap.size,0,none⟩)] rv k b (w.alloc (.cells #[.bool bq,.slice A (toL N).length c,.slice A' (toL D).length c'] 216)) hlen (hr.below HX.out) he (fun v' w' hb' hr' hv'=>by
  have hB:Below w.heap.size w w':=HX.out.trans (hb'.mono HX.out.size)
  exact both2_ok F hrun rv k pf w.heap.size q _ _ v' w' (bx_below hpf hB hpf.lt) (hv.below hB) hv' _ rfl ((Blk.new w _ _).below hb' (by simp)) hr' (fun w2 hb2=>hF v' w2 (hB.trans (hb2.mono hB.size)) (hr'.below hb2) ((hv.below hB).below hb2) (hv'.below hb2))))
 clear hn hd hv hpf hpb hr he hF hrun
 go_enter Tryz.func256,Tryz.ntmps256
 go_wp2_with (go_at_call 241;refine HW.out.mono ?_;rintro e w2 ⟨rfl,hb2⟩;have HB2:=Lib.hid (HX.out.trans (hb2.mono HX.out.size));clear hb2)
 refine bodyPost_ret (results_tmp2 rfl _ _ _) rfl ?_
 exact ⟨rfl,HB2.out⟩
end
theorem box_both (w:World) (b:ByteArray) (fv:Value):Boxed ((w.alloc (.cells #[.string b] 23)).alloc (.cells #[fv] 225)) w.heap.size 23 (.string b) ∧
  Boxed ((w.alloc (.cells #[.string b] 23)).alloc (.cells #[fv] 225)) (w.heap.size+1) 225 fv∧Below w.heap.size w ((w.alloc (.cells #[.string b] 23)).alloc (.cells #[fv] 225)):=by
 refine ⟨(Boxed.new w _ _).alloc _,?_,below_alloc (below_alloc (Below.refl _ _) _) _⟩
 have:=Boxed.new (w.alloc (.cells #[.string b] 23)) 225 fv
 rwa [World.size_alloc] at this
theorem both_any (F:FuncId) (hrun:Runs F) (f:Rat→Rat→Value × Int) (a b:ByteArray) (w:World) (ha:a.size≤270000) (hb:b.size≤270000) (hr:Res w)
  (hF:∀ v v' w',Below w.heap.size w w'→Res w'→IsFrac w' v (valQ a.data.toList)→IsFrac w' v' (valQ b.data.toList)→errQ a.data.toList=0→errQ b.data.toList=0→Calls Tryz.prog F #[v,v'] w' fun e w''=>e=.returned (.tuple #[(f (valQ a.data.toList) (valQ b.data.toList)).1,.int .i64 (f (valQ a.data.toList) (valQ b.data.toList)).2])∧Below w'.heap.size w' w'') :
  Calls Tryz.prog 196 #[.string a,.string b,.func (.func F) #[] #[]] w fun e w' =>
   e=.returned (if errQ a.data.toList≠0 then .tuple #[.int .i64 0,.int .i64 (errQ a.data.toList:Int)] else if errQ b.data.toList≠0 then .tuple #[.int .i64 0,.int .i64 (errQ b.data.toList:Int)] else .tuple #[(f (valQ a.data.toList) (valQ b.data.toList)).1,.int .i64 (f (valQ a.data.toList) (valQ b.data.toList)).2])∧Below w.heap.size w w':=by
 obtain ⟨b4,b5,hB⟩:=box_both w b (.func (.func F) #[] #[])
 by_cases h1:errQ a.data.toList≠0
 ·rw [if_pos h1]
  have HW:=Lib.hid (fun fv=>with_err a fv _ ha (hr.below hB) h1)
  have HB:=Lib.hid hB
  clear b4 b5 hB hrun hF hr h1
  go_enter Tryz.func196,Tryz.ntmps196
  go_wp2_with (go_at_call 241;refine (HW.out _).mono ?_;rintro e w2 ⟨rfl,hb2⟩;have HB2:=Lib.hid (HB.out.trans (hb2.mono HB.out.size));clear hb2)
  refine bodyPost_ret (results_tmp2 rfl _ _ _) rfl ?_
  exact ⟨rfl,HB2.out⟩
 ·rw [if_neg h1]
  have h1:errQ a.data.toList=0:=by omega
  by_cases h2:errQ b.data.toList≠0
  ·rw [if_pos h2]
   have HW:=Lib.hid (with_ok 256 runs_both1 #[.pointer (some ⟨w.heap.size,0,none⟩),.pointer (some ⟨w.heap.size+1,0,none⟩)] (.int .i64 0) (errQ b.data.toList:Int) a _ ha (hr.below hB) h1 (fun v w' hb' hr' hv =>
    both1_err F b w.heap.size (w.heap.size+1) _ v w' hb (bx_below b4 hb' b4.lt) (bx_below b5 hb' b5.lt) hv hr' h2))
   have HB:=Lib.hid hB
   clear b4 b5 hB hrun hF hr h1 h2
   go_enter Tryz.func196,Tryz.ntmps196
   go_wp2_with (go_at_call 241;refine HW.out.mono ?_;rintro e w2 ⟨rfl,hb2⟩;have HB2:=Lib.hid (HB.out.trans (hb2.mono HB.out.size));clear hb2)
   refine bodyPost_ret (results_tmp2 rfl _ _ _) rfl ?_
   exact ⟨rfl,HB2.out⟩
  ·rw [if_neg h2]
   have h2:errQ b.data.toList=0:=by omega
   generalize hR:f (valQ a.data.toList) (valQ b.data.toList)=R at *
   obtain ⟨rv,k⟩:=R
   dsimp only at hF ⊢
   have HW:=Lib.hid (with_ok 256 runs_both1 #[.pointer (some ⟨w.heap.size,0,none⟩),.pointer (some ⟨w.heap.size+1,0,none⟩)] rv k a _ ha (hr.below hB) h1 (fun v w' hb' hr' hv =>
    both1_ok F b w.heap.size (w.heap.size+1) _ v w' hrun rv k hb (bx_below b4 hb' b4.lt) (bx_below b5 hb' b5.lt) hv hr' h2 (fun v' w2 hb2 hr2 hv2 hv2'=>hF v v' w2 (hB.trans ((hb'.mono hB.size).trans (hb2.mono (Nat.le_trans hB.size hb'.size)))) hr2 hv2 hv2' h1 h2)))
   have HB:=Lib.hid hB
   clear b4 b5 hB hrun hF hr h1 h2 hR
   go_enter Tryz.func196,Tryz.ntmps196
   go_wp2_with (go_at_call 241;refine HW.out.mono ?_;rintro e w2 ⟨rfl,hb2⟩;have HB2:=Lib.hid (HB.out.trans (hb2.mono HB.out.size));clear hb2)
   refine bodyPost_ret (results_tmp2 rfl _ _ _) rfl ?_
   exact ⟨rfl,HB2.out⟩
end WI
end Go.Proofs.YtigapglmipmbeaaGreatDoor
namespace Go.Proofs.YtigapglmipmbeaaGreatDoor
open Lim
def cmpQ (p q:Rat):Int:=if p < q then -1 else if p=q then 0 else 1
theorem cmpQ_lt (p q:Rat):cmpQ p q < 0↔p < q:=by
 unfold cmpQ
 by_cases h:p < q
 ·rw [if_pos h];exact ⟨fun _=>h,fun _=>by omega⟩
 ·rw [if_neg h];split<;>exact ⟨fun h=>absurd h (by omega),fun h3=>absurd h3 h⟩
theorem cmpQ_swap (p q:Rat):cmpQ q p=- cmpQ p q:=by
 unfold cmpQ
 by_cases h:p < q
 ·rw [if_pos h,if_neg (fun h2=>Rat.not_le.2 h (Rat.le_of_lt h2)),if_neg (fun e=>by subst e;exact Rat.lt_irrefl h)];rfl
 ·by_cases h2:p=q
  ·subst h2;rw [if_neg h,if_pos rfl];rfl
  ·have h3:q < p:=by
    have:=Rat.not_lt.1 h
    exact Rat.lt_of_le_of_ne this (fun e=>h2 e.symm)
   rw [if_pos h3,if_neg h,if_neg h2]
theorem cmpQ_cases (p q:Rat):cmpQ p q=-1∨cmpQ p q=0∨cmpQ p q=1:=by
 unfold cmpQ
 split
 ·exact .inl rfl
 ·split
  ·exact .inr (.inl rfl)
  ·exact .inr (.inr rfl)
theorem cmpQ_cross (p q:Rat):cmpQ p q=if p.num*q.den < q.num*p.den then -1 else if q.num*p.den < p.num*q.den then 1 else 0:=by
 unfold cmpQ
 by_cases h:p < q
 ·rw [if_pos h,if_pos ((Rat.lt_iff p q).1 h)]
 ·rw [if_neg h,if_neg (fun h2=>h ((Rat.lt_iff p q).2 h2))]
  by_cases h2:p=q
  ·subst h2;rw [if_pos rfl,if_neg (Int.lt_irrefl _)]
  ·rw [if_neg h2,if_pos ((Rat.lt_iff q p).1 (Rat.lt_of_le_of_ne (Rat.not_lt.1 h) (fun e=>h2 e.symm)))]
theorem sgQ_num (q:Rat):sgQ q=if q.num < 0 then -1 else if q.num=0 then 0 else 1:=by
 unfold sgQ nm ng
 by_cases h:q.num=0
 ·simp [h]
 ·have h1:q.num.natAbs≠0:=by omega
  rw [if_neg h1,if_neg h]
  by_cases h2:q.num < 0
  ·simp [h2]
  ·simp [h2]
theorem cross_sign (p:Rat) {d:Nat} (hd:0 < d):(p.num < 0↔p.num*(d:Int) < 0)∧(p.num=0↔p.num*(d:Int)=0)∧(0 < p.num↔0 < p.num*(d:Int)):=by
 have hd':(0:Int) < (d:Int):=by omega
 rcases Int.lt_trichotomy p.num 0 with h|h|h
 ·have:=Int.mul_neg_of_neg_of_pos h hd'
  omega
 ·rw [h,Int.zero_mul];omega
 ·have:=Int.mul_pos h hd'
  omega
theorem cmp_signs {p q:Rat} (h:sgQ p≠sgQ q):max (-1) (min 1 (sgQ p - sgQ q))=cmpQ p q:=by
 rw [cmpQ_cross]
 rw [sgQ_num,sgQ_num] at *
 obtain ⟨a1,a2,a3⟩:=cross_sign p (den_pos q)
 obtain ⟨b1,b2,b3⟩:=cross_sign q (den_pos p)
 generalize p.num*(q.den:Int)=X at *
 generalize q.num*(p.den:Int)=Y at *
 split at h<;>split at h<;>(try split at h)<;>(try split at h)<;>(try split)<;>(try split)<;>omega
theorem cmp_pos {p q:Rat} (h:sgQ p=sgQ q) (hn:ng p=false):sgn (nm p*q.den) (nm q*p.den)=cmpQ p q:=by
 have hq:ng q=false:=by
  rw [sgQ_num,sgQ_num] at h
  unfold ng at *
  have:=of_decide_eq_false hn
  apply decide_eq_false
  intro hq
  rw [if_neg this,if_pos hq] at h
  split at h<;>cases h
 rw [cmpQ_cross,num_of p,num_of q,hn,hq]
 simp only [Bool.false_eq_true,if_false]
 unfold sgn
 rw [← Int.natCast_mul,← Int.natCast_mul]
 generalize nm p*q.den=X
 generalize nm q*p.den=Y
 by_cases h1:X < Y
 ·rw [if_pos h1,if_pos (by omega)]
 ·rw [if_neg h1,if_neg (show ¬ ((X:Int) < (Y:Int)) by omega)]
  by_cases h2:Y < X
  ·rw [if_pos h2,if_pos (by omega)]
  ·rw [if_neg h2,if_neg (by omega)]
theorem cmp_neg {p q:Rat} (h:sgQ p=sgQ q) (hn:ng p=true):-sgn (nm p*q.den) (nm q*p.den)=cmpQ p q:=by
 have hq:ng q=true:=by
  rw [sgQ_num,sgQ_num] at h
  unfold ng at *
  have:=of_decide_eq_true hn
  apply decide_eq_true
  rw [if_pos this] at h
  split at h
  ·assumption
  ·split at h<;>cases h
 rw [cmpQ_cross,num_of p,num_of q,hn,hq]
 simp only [if_true]
 unfold sgn
 rw [Int.neg_mul,Int.neg_mul,← Int.natCast_mul,← Int.natCast_mul]
 generalize nm p*q.den=X
 generalize nm q*p.den=Y
 by_cases h1:X < Y
 ·rw [if_pos h1,if_neg (by omega),if_pos (by omega)];rfl
 ·rw [if_neg h1]
  by_cases h2:Y < X
  ·rw [if_pos h2,if_pos (by omega)]
  ·rw [if_neg h2,if_neg (by omega),if_neg (by omega)];rfl
end Go.Proofs.YtigapglmipmbeaaGreatDoor
namespace Go.Proofs.YtigapglmipmbeaaGreatDoor
open Go.RowKit Go.Shelf
open Lim
attribute [local go_sem] Oper.semAt_some
theorem box2_blk (w:World) (m vn vd m' vn' vd':Value):Blk ((w.alloc (.cells #[m,vn,vd] 216)).alloc (.cells #[m',vn',vd'] 216)) w.heap.size 216 #[m,vn,vd] ∧
  Blk ((w.alloc (.cells #[m,vn,vd] 216)).alloc (.cells #[m',vn',vd'] 216)) (w.heap.size+1) 216 #[m',vn',vd'] ∧
  Below w.heap.size w ((w.alloc (.cells #[m,vn,vd] 216)).alloc (.cells #[m',vn',vd'] 216))∧((w.alloc (.cells #[m,vn,vd] 216)).alloc (.cells #[m',vn',vd'] 216)).heap.size=w.heap.size+2:=by
 refine ⟨(Blk.new w _ _).alloc _,?_,((Below.refl _ _).alloc (Nat.le_refl _) _).alloc (by simp) _,by simp⟩
 have:=Blk.new (w.alloc (.cells #[m,vn,vd] 216)) 216 #[m',vn',vd']
 rwa [World.size_alloc] at this
theorem sgQ_bound (q:Rat):-1≤sgQ q∧sgQ q≤1:=by
 unfold sgQ
 split
 ·omega
 ·split<;>omega
theorem sgn_bound (x y:Nat):-1≤sgn x y∧sgn x y≤1:=by
 unfold sgn
 split
 ·omega
 ·split<;>omega
theorem clamp_id {c:Int} (h:-1≤c∧c≤1):max (-1) (min 1 c)=c:=by omega
theorem fcmp_ne (p q:Rat) (v v':Value) (w:World) (h:IsFrac w v p) (h':IsFrac w v' q) (l1:(toL (nm p)).length≤10000) (_l2:(toL p.den).length≤10000) (_l3:(toL (nm q)).length≤10000) (l4:(toL q.den).length≤10000) (hne:sgQ p≠sgQ q) :
  Calls Tryz.prog 198 #[v,v'] w fun e w'=>∃ c:Int,e=.returned (.int .i64 c)∧max (-1) (min 1 c)=cmpQ p q∧Below w.heap.size w w':=by
 have HV:=Lib.hid h
 have HV':=Lib.hid h'
 have HE:=Lib.hid (cmp_signs hne)
 have hxy:(sgQ p==sgQ q)=false:=by rw [beq_eq_false_iff_ne];exact hne
 obtain ⟨bx1,bx2⟩:=sgQ_bound p
 obtain ⟨by1,by2⟩:=sgQ_bound q
 clear hne
 obtain ⟨b,N,D,An,cn,Ad,cd,rfl,hn,hd,HP⟩:=isFrac_open h
 obtain ⟨b',N',D',An',cn',Ad',cd',rfl,hn',hd',HQ⟩:=isFrac_open h'
 obtain ⟨e1,e2,e3⟩:=HP.out
 obtain ⟨f1,f2,f3⟩:=HQ.out
 rw [e2] at l1
 rw [f3] at l4
 have HN:=Lib.hid hn
 have HD:=Lib.hid hd
 have HN':=Lib.hid hn'
 have HD':=Lib.hid hd'
 have HI:=Lib.hid (And.intro (rfl:sgQ p=sgQ p) (rfl:sgQ q=sgQ q))
 clear hn hd hn' hd' h h' e1 e2 e3 f1 f2 f3
 have lx:=Nat.le_trans (toL_mul_len N D') (show _≤20000 by omega)
 generalize hgx:sgQ p=x at hxy bx1 bx2 HE
 generalize hgy:sgQ q=y at hxy by1 by2 HE
 have HGX:=Lib.hid hgx
 have HGY:=Lib.hid hgy
 clear hgx hgy HI
 refine (callsIn_wide (n:=3)).1 ?_
 have h1:1≤3:=by omega
 have hmx:Tryz.prog.follows .mixedOrders=true:=by kernel_rfl
 refine callsIn_of_wp Tryz.func198 rfl trivial ?_ rfl
 simp only [Tryz.ntmps198,List.size_toArray,List.length_cons,List.length_nil,Nat.reduceAdd,Nat.reduceSub,Array.replicate_succ,Array.replicate_zero,List.push_toArray,List.append_toArray,List.nil_append,List.cons_append]
 gi_upto_region 1 with fail
 obtain ⟨b0,b1,hB,hs⟩:=box2_blk w (.bool b) (.slice An (toL N).length cn) (.slice Ad (toL D).length cd) (.bool b') (.slice An' (toL N').length cn') (.slice Ad' (toL D').length cd')
 generalize (w.alloc (.cells #[.bool b,.slice An (toL N).length cn,.slice Ad (toL D).length cd] 216)).alloc (.cells #[.bool b',.slice An' (toL N').length cn',.slice Ad' (toL D').length cd'] 216)=W at *
 obtain ⟨x0,x1,x2⟩:=same_cells (S:=fun k=>k < W.heap.size) b0 (by omega)
 obtain ⟨y0,y1,y2⟩:=same_cells (S:=fun k=>k < W.heap.size) b1 (by omega)
 have HB:=Lib.hid (below_drew hB)
 have HS:=Lib.hid hs
 have P0:=Lib.hid b0
 have P1:=Lib.hid b1
 clear b0 b1 hB hs
 refine wpIn_stage (IsSame W (fun k=>k < W.heap.size)) [0,2] [] hmx (by kernel_rfl) (isSame_of fun _ _=>rfl) ?_
 change wpStage _ _ _ _ _ _ _ _ (4+2) _ _ _
 refine stage_reads [0,2] 4 _ _ (by kernel_rfl) ?_
 change wpQuietIn _ _ _ _ (fun W'=>∃ x:SameAt W (fun k=>k < W.heap.size),W'=x.W) _ _ _
 simp only [pick_cons,pick_nil,List.getElem?_cons_zero,List.getElem?_cons_succ,Option.elim_some]
 repeat (gi_big_quiet_step (fail))
 refine wpQuietIn_nil ?_
 refine stage_one 1 (by kernel_rfl) rfl ?_
 gi_wp2
 refine ⟨trivial,?_⟩
 refine (callsIn_wide.2 (sign_any p _ W.drew (HV.out.below HB.out))).mono ?_
 rintro e w3 ⟨rfl,hb3⟩
 rw [HGX.out]
 have hB3:Below W.heap.size W w3:=below_undrew hb3
 have HB3:=Lib.hid hB3
 clear hb3 hB3
 gi_wp2
 refine stage_post (isSame_below HB3.out (fun k hk=>hk)) ?_
 refine stage_one 3 (by kernel_rfl) rfl ?_
 gi_wp2
 refine ⟨trivial,?_⟩
 refine (callsIn_wide.2 (sign_any q _ w3 (HV'.out.below (HB.out.trans ((below_drew3 HB3.out).mono HB.out.size))))).mono ?_
 rintro e w4 ⟨rfl,hb4⟩
 rw [HGY.out]
 have hB4:Below W.heap.size W w4:=HB3.out.trans (hb4.mono HB3.out.size)
 have HB4:=Lib.hid hB4
 clear hb4 hB4
 gi_wp2
 refine stage_post (isSame_below HB4.out (fun k hk=>hk)) ?_
 refine stage_one 4 (by kernel_rfl) rfl ?_
 gi_wp2
 refine stage_post (isSame_below HB4.out (fun k hk=>hk)) ?_
 refine stage_one 5 (by kernel_rfl) rfl ?_
 gi_wp2
 refine stage_post (isSame_below HB4.out (fun k hk=>hk)) ?_
 refine stage_done (by kernel_rfl) ?_
 clear x0 x1 x2 y0 y1 y2
 have hsz:=HS.out
 obtain ⟨x0,x1,x2⟩:=rows3 (P0.out.below HB4.out (by omega))
 obtain ⟨y0,y1,y2⟩:=rows3 (P1.out.below HB4.out (by omega))
 clear hsz
 gi_wp2
 refine bodyPost_ret (results_tmp rfl _ _ _) rfl ?_
 exact ⟨_,rfl,HE.out,HB.out.trans ((below_drew3 HB4.out).mono HB.out.size)⟩
theorem fcmp_pos (p q:Rat) (v v':Value) (w:World) (h:IsFrac w v p) (h':IsFrac w v' q) (l1:(toL (nm p)).length≤10000) (l2:(toL p.den).length≤10000) (l3:(toL (nm q)).length≤10000) (l4:(toL q.den).length≤10000) (heq:sgQ p=sgQ q) (hm:ng p=false) :
  Calls Tryz.prog 198 #[v,v'] w fun e w'=>∃ c:Int,e=.returned (.int .i64 c)∧max (-1) (min 1 c)=cmpQ p q∧Below w.heap.size w w':=by
 have HV:=Lib.hid h
 have HV':=Lib.hid h'
 have HE:=Lib.hid (cmp_pos heq hm)
 have hxy:(sgQ p==sgQ q)=true:=by rw [beq_iff_eq];exact heq
 clear heq
 obtain ⟨b,N,D,An,cn,Ad,cd,rfl,hn,hd,HP⟩:=isFrac_open h
 obtain ⟨b',N',D',An',cn',Ad',cd',rfl,hn',hd',HQ⟩:=isFrac_open h'
 obtain ⟨e1,e2,e3⟩:=HP.out
 obtain ⟨f1,f2,f3⟩:=HQ.out
 rw [e2] at l1
 rw [e3] at l2
 rw [f2] at l3
 rw [f3] at l4
 have HN:=Lib.hid hn
 have HD:=Lib.hid hd
 have HN':=Lib.hid hn'
 have HD':=Lib.hid hd'
 obtain rfl:b=false:=e1.symm.trans hm
 have hz:=sgn_bound (N*D') (N'*D)
 rw [e2,e3,f2,f3] at HE
 clear hm
 clear hn hd hn' hd' h h' e1 e2 e3 f1 f2 f3
 have lx:=Nat.le_trans (toL_mul_len N D') (show _≤20000 by omega)
 generalize hgx:sgQ p=x at hxy
 generalize hgy:sgQ q=y at hxy
 have HGX:=Lib.hid hgx
 have HGY:=Lib.hid hgy
 clear hgx hgy
 refine (callsIn_wide (n:=3)).1 ?_
 have h1:1≤3:=by omega
 have hmx:Tryz.prog.follows .mixedOrders=true:=by kernel_rfl
 refine callsIn_of_wp Tryz.func198 rfl trivial ?_ rfl
 simp only [Tryz.ntmps198,List.size_toArray,List.length_cons,List.length_nil,Nat.reduceAdd,Nat.reduceSub,Array.replicate_succ,Array.replicate_zero,List.push_toArray,List.append_toArray,List.nil_append,List.cons_append]
 gi_upto_region 1 with fail
 obtain ⟨b0,b1,hB,hs⟩:=box2_blk w (.bool false) (.slice An (toL N).length cn) (.slice Ad (toL D).length cd) (.bool b') (.slice An' (toL N').length cn') (.slice Ad' (toL D').length cd')
 generalize (w.alloc (.cells #[.bool false,.slice An (toL N).length cn,.slice Ad (toL D).length cd] 216)).alloc (.cells #[.bool b',.slice An' (toL N').length cn',.slice Ad' (toL D').length cd'] 216)=W at *
 obtain ⟨x0,x1,x2⟩:=same_cells (S:=fun k=>k < W.heap.size) b0 (by omega)
 obtain ⟨y0,y1,y2⟩:=same_cells (S:=fun k=>k < W.heap.size) b1 (by omega)
 have HB:=Lib.hid (below_drew hB)
 have HS:=Lib.hid hs
 have P0:=Lib.hid b0
 have P1:=Lib.hid b1
 clear b0 b1 hB hs
 refine wpIn_stage (IsSame W (fun k=>k < W.heap.size)) [0,2] [] hmx (by kernel_rfl) (isSame_of fun _ _=>rfl) ?_
 change wpStage _ _ _ _ _ _ _ _ (4+2) _ _ _
 refine stage_reads [0,2] 4 _ _ (by kernel_rfl) ?_
 change wpQuietIn _ _ _ _ (fun W'=>∃ x:SameAt W (fun k=>k < W.heap.size),W'=x.W) _ _ _
 simp only [pick_cons,pick_nil,List.getElem?_cons_zero,List.getElem?_cons_succ,Option.elim_some]
 repeat (gi_big_quiet_step (fail))
 refine wpQuietIn_nil ?_
 refine stage_one 1 (by kernel_rfl) rfl ?_
 gi_wp2
 refine ⟨trivial,?_⟩
 refine (callsIn_wide.2 (sign_any p _ W.drew (HV.out.below HB.out))).mono ?_
 rintro e w3 ⟨rfl,hb3⟩
 rw [HGX.out]
 have hB3:Below W.heap.size W w3:=below_undrew hb3
 have HB3:=Lib.hid hB3
 clear hb3 hB3
 gi_wp2
 refine stage_post (isSame_below HB3.out (fun k hk=>hk)) ?_
 refine stage_one 3 (by kernel_rfl) rfl ?_
 gi_wp2
 refine ⟨trivial,?_⟩
 refine (callsIn_wide.2 (sign_any q _ w3 (HV'.out.below (HB.out.trans ((below_drew3 HB3.out).mono HB.out.size))))).mono ?_
 rintro e w4 ⟨rfl,hb4⟩
 rw [HGY.out]
 have hB4:Below W.heap.size W w4:=HB3.out.trans (hb4.mono HB3.out.size)
 have HB4:=Lib.hid hB4
 clear hb4 hB4
 gi_wp2
 refine stage_post (isSame_below HB4.out (fun k hk=>hk)) ?_
 refine stage_one 4 (by kernel_rfl) rfl ?_
 gi_wp2
 refine stage_post (isSame_below HB4.out (fun k hk=>hk)) ?_
 refine stage_one 5 (by kernel_rfl) rfl ?_
 gi_wp2
 refine stage_post (isSame_below HB4.out (fun k hk=>hk)) ?_
 refine stage_done (by kernel_rfl) ?_
 clear x0 x1 x2 y0 y1 y2
 have hsz:=HS.out
 obtain ⟨x0,x1,x2⟩:=rows3 (P0.out.below HB4.out (by omega))
 obtain ⟨y0,y1,y2⟩:=rows3 (P1.out.below HB4.out (by omega))
 clear hsz
 have Q0:=Lib.hid (P0.out.below HB4.out (by have:=HS.out;omega))
 have Q1:=Lib.hid (P1.out.below HB4.out (by have:=HS.out;omega))
 have h42:=HB4.out.size
 gi_upto_region 4 with fail
 clear x0 x1 x2 y0 y1 y2
 have hsz:=HS.out
 obtain ⟨x0,x1,x2⟩:=same_cells (S:=fun k=>k < w4.heap.size) Q0.out (by omega)
 obtain ⟨y0,y1,y2⟩:=same_cells (S:=fun k=>k < w4.heap.size) Q1.out (by omega)
 clear hsz
 have HB40:=Lib.hid (below_drew (HB.out.trans ((below_drew3 HB4.out).mono HB.out.size)))
 refine wpIn_stage (IsSame w4 (fun k=>k < w4.heap.size)) [0,1,2,3,5,6,7,8] [] hmx (by kernel_rfl) (isSame_of fun _ _=>rfl) ?_
 change wpStage _ _ _ _ _ _ _ _ (4+8) _ _ _
 refine stage_reads [0,1,2,3,5,6,7,8] 4 _ _ (by kernel_rfl) ?_
 change wpQuietIn _ _ _ _ (fun W'=>∃ x:SameAt w4 (fun k=>k < w4.heap.size),W'=x.W) _ _ _
 simp only [pick_cons,pick_nil,List.getElem?_cons_zero,List.getElem?_cons_succ,Option.elim_some]
 repeat (gi_big_quiet_step (fail))
 refine wpQuietIn_nil ?_
 refine stage_one 4 (by kernel_rfl) rfl ?_
 gi_wp2
 refine ⟨trivial,?_⟩
 refine (callsIn_wide.2 (mul_any N D' _ _ w4.drew (HN.out.below HB40.out) (HD'.out.below HB40.out) (by omega) (by omega))).mono ?_
 rintro e w5 ⟨v5,rfl,hv5,hb5⟩
 obtain ⟨A5,c5,rfl,_,_,_⟩:=id hv5
 have HV5:=Lib.hid hv5
 have hB5:Below w4.heap.size w4 w5:=below_undrew hb5
 have HB5:=Lib.hid hB5
 clear hv5 hb5 hB5
 gi_wp2
 refine stage_post (isSame_below HB5.out (fun k hk=>hk)) ?_
 refine stage_one 9 (by kernel_rfl) rfl ?_
 gi_wp2
 have HB50:=Lib.hid (HB40.out.trans ((below_drew3 HB5.out).mono HB40.out.size))
 refine ⟨trivial,?_⟩
 refine (callsIn_wide.2 (mul_any N' D _ _ w5 (HN'.out.below HB50.out) (HD.out.below HB50.out) (by omega) (by omega))).mono ?_
 rintro e w6 ⟨v6,rfl,hv6,hb6⟩
 obtain ⟨A6,c6,rfl,_,_,_⟩:=id hv6
 have HV6:=Lib.hid hv6
 have HV5:=Lib.hid (HV5.out.below hb6)
 have hB6:Below w4.heap.size w4 w6:=HB5.out.trans (hb6.mono HB5.out.size)
 have HB6:=Lib.hid hB6
 clear hv6 hb6 hB6
 gi_wp2
 refine stage_post (isSame_below HB6.out (fun k hk=>hk)) ?_
 refine stage_one 10 (by kernel_rfl) rfl ?_
 gi_wp2
 refine ⟨trivial,?_⟩
 refine (callsIn_wide.2 (cmp_any (N*D') (N'*D) _ _ w6 HV5.out HV6.out (by omega))).mono ?_
 rintro e w7 ⟨rfl,hb7⟩
 generalize hgz:sgn (N*D') (N'*D)=z at hz HE ⊢
 obtain ⟨hz1,hz2⟩:=hz
 clear hgz
 have hB7:Below w4.heap.size w4 w7:=HB6.out.trans (hb7.mono HB6.out.size)
 have HB7:=Lib.hid hB7
 clear hb7 hB7
 gi_wp2
 refine stage_post (isSame_below HB7.out (fun k hk=>hk)) ?_
 refine stage_one 11 (by kernel_rfl) rfl ?_
 gi_wp2
 refine stage_post (isSame_below HB7.out (fun k hk=>hk)) ?_
 refine stage_done (by kernel_rfl) ?_
 clear x0 x1 x2 y0 y1 y2
 obtain ⟨x0,x1,x2⟩:=rows3 (Q0.out.below HB7.out (by have:=HS.out;omega))
 gi_wp2
 refine bodyPost_ret (results_tmp rfl _ _ _) rfl ?_
 exact ⟨_,rfl,by rw [clamp_id (by omega)];exact HE.out,HB.out.trans ((below_drew3 (HB4.out.trans (HB7.out.mono h42))).mono HB.out.size)⟩
theorem fcmp_neg (p q:Rat) (v v':Value) (w:World) (h:IsFrac w v p) (h':IsFrac w v' q) (l1:(toL (nm p)).length≤10000) (l2:(toL p.den).length≤10000) (l3:(toL (nm q)).length≤10000) (l4:(toL q.den).length≤10000) (heq:sgQ p=sgQ q) (hm:ng p=true) :
  Calls Tryz.prog 198 #[v,v'] w fun e w'=>∃ c:Int,e=.returned (.int .i64 c)∧max (-1) (min 1 c)=cmpQ p q∧Below w.heap.size w w':=by
 have HV:=Lib.hid h
 have HV':=Lib.hid h'
 have HE:=Lib.hid (cmp_neg heq hm)
 have hxy:(sgQ p==sgQ q)=true:=by rw [beq_iff_eq];exact heq
 clear heq
 obtain ⟨b,N,D,An,cn,Ad,cd,rfl,hn,hd,HP⟩:=isFrac_open h
 obtain ⟨b',N',D',An',cn',Ad',cd',rfl,hn',hd',HQ⟩:=isFrac_open h'
 obtain ⟨e1,e2,e3⟩:=HP.out
 obtain ⟨f1,f2,f3⟩:=HQ.out
 rw [e2] at l1
 rw [e3] at l2
 rw [f2] at l3
 rw [f3] at l4
 have HN:=Lib.hid hn
 have HD:=Lib.hid hd
 have HN':=Lib.hid hn'
 have HD':=Lib.hid hd'
 obtain rfl:b=true:=e1.symm.trans hm
 have hz:=sgn_bound (N*D') (N'*D)
 rw [e2,e3,f2,f3] at HE
 clear hm
 clear hn hd hn' hd' h h' e1 e2 e3 f1 f2 f3
 have lx:=Nat.le_trans (toL_mul_len N D') (show _≤20000 by omega)
 generalize hgx:sgQ p=x at hxy
 generalize hgy:sgQ q=y at hxy
 have HGX:=Lib.hid hgx
 have HGY:=Lib.hid hgy
 clear hgx hgy
 refine (callsIn_wide (n:=3)).1 ?_
 have h1:1≤3:=by omega
 have hmx:Tryz.prog.follows .mixedOrders=true:=by kernel_rfl
 refine callsIn_of_wp Tryz.func198 rfl trivial ?_ rfl
 simp only [Tryz.ntmps198,List.size_toArray,List.length_cons,List.length_nil,Nat.reduceAdd,Nat.reduceSub,Array.replicate_succ,Array.replicate_zero,List.push_toArray,List.append_toArray,List.nil_append,List.cons_append]
 gi_upto_region 1 with fail
 obtain ⟨b0,b1,hB,hs⟩:=box2_blk w (.bool true) (.slice An (toL N).length cn) (.slice Ad (toL D).length cd) (.bool b') (.slice An' (toL N').length cn') (.slice Ad' (toL D').length cd')
 generalize (w.alloc (.cells #[.bool true,.slice An (toL N).length cn,.slice Ad (toL D).length cd] 216)).alloc (.cells #[.bool b',.slice An' (toL N').length cn',.slice Ad' (toL D').length cd'] 216)=W at *
 obtain ⟨x0,x1,x2⟩:=same_cells (S:=fun k=>k < W.heap.size) b0 (by omega)
 obtain ⟨y0,y1,y2⟩:=same_cells (S:=fun k=>k < W.heap.size) b1 (by omega)
 have HB:=Lib.hid (below_drew hB)
 have HS:=Lib.hid hs
 have P0:=Lib.hid b0
 have P1:=Lib.hid b1
 clear b0 b1 hB hs
 refine wpIn_stage (IsSame W (fun k=>k < W.heap.size)) [0,2] [] hmx (by kernel_rfl) (isSame_of fun _ _=>rfl) ?_
 change wpStage _ _ _ _ _ _ _ _ (4+2) _ _ _
 refine stage_reads [0,2] 4 _ _ (by kernel_rfl) ?_
 change wpQuietIn _ _ _ _ (fun W'=>∃ x:SameAt W (fun k=>k < W.heap.size),W'=x.W) _ _ _
 simp only [pick_cons,pick_nil,List.getElem?_cons_zero,List.getElem?_cons_succ,Option.elim_some]
 repeat (gi_big_quiet_step (fail))
 refine wpQuietIn_nil ?_
 refine stage_one 1 (by kernel_rfl) rfl ?_
 gi_wp2
 refine ⟨trivial,?_⟩
 refine (callsIn_wide.2 (sign_any p _ W.drew (HV.out.below HB.out))).mono ?_
 rintro e w3 ⟨rfl,hb3⟩
 rw [HGX.out]
 have hB3:Below W.heap.size W w3:=below_undrew hb3
 have HB3:=Lib.hid hB3
 clear hb3 hB3
 gi_wp2
 refine stage_post (isSame_below HB3.out (fun k hk=>hk)) ?_
 refine stage_one 3 (by kernel_rfl) rfl ?_
 gi_wp2
 refine ⟨trivial,?_⟩
 refine (callsIn_wide.2 (sign_any q _ w3 (HV'.out.below (HB.out.trans ((below_drew3 HB3.out).mono HB.out.size))))).mono ?_
 rintro e w4 ⟨rfl,hb4⟩
 rw [HGY.out]
 have hB4:Below W.heap.size W w4:=HB3.out.trans (hb4.mono HB3.out.size)
 have HB4:=Lib.hid hB4
 clear hb4 hB4
 gi_wp2
 refine stage_post (isSame_below HB4.out (fun k hk=>hk)) ?_
 refine stage_one 4 (by kernel_rfl) rfl ?_
 gi_wp2
 refine stage_post (isSame_below HB4.out (fun k hk=>hk)) ?_
 refine stage_one 5 (by kernel_rfl) rfl ?_
 gi_wp2
 refine stage_post (isSame_below HB4.out (fun k hk=>hk)) ?_
 refine stage_done (by kernel_rfl) ?_
 clear x0 x1 x2 y0 y1 y2
 have hsz:=HS.out
 obtain ⟨x0,x1,x2⟩:=rows3 (P0.out.below HB4.out (by omega))
 obtain ⟨y0,y1,y2⟩:=rows3 (P1.out.below HB4.out (by omega))
 clear hsz
 have Q0:=Lib.hid (P0.out.below HB4.out (by have:=HS.out;omega))
 have Q1:=Lib.hid (P1.out.below HB4.out (by have:=HS.out;omega))
 have h42:=HB4.out.size
 gi_upto_region 4 with fail
 clear x0 x1 x2 y0 y1 y2
 have hsz:=HS.out
 obtain ⟨x0,x1,x2⟩:=same_cells (S:=fun k=>k < w4.heap.size) Q0.out (by omega)
 obtain ⟨y0,y1,y2⟩:=same_cells (S:=fun k=>k < w4.heap.size) Q1.out (by omega)
 clear hsz
 have HB40:=Lib.hid (below_drew (HB.out.trans ((below_drew3 HB4.out).mono HB.out.size)))
 refine wpIn_stage (IsSame w4 (fun k=>k < w4.heap.size)) [0,1,2,3,5,6,7,8] [] hmx (by kernel_rfl) (isSame_of fun _ _=>rfl) ?_
 change wpStage _ _ _ _ _ _ _ _ (4+8) _ _ _
 refine stage_reads [0,1,2,3,5,6,7,8] 4 _ _ (by kernel_rfl) ?_
 change wpQuietIn _ _ _ _ (fun W'=>∃ x:SameAt w4 (fun k=>k < w4.heap.size),W'=x.W) _ _ _
 simp only [pick_cons,pick_nil,List.getElem?_cons_zero,List.getElem?_cons_succ,Option.elim_some]
 repeat (gi_big_quiet_step (fail))
 refine wpQuietIn_nil ?_
 refine stage_one 4 (by kernel_rfl) rfl ?_
 gi_wp2
 refine ⟨trivial,?_⟩
 refine (callsIn_wide.2 (mul_any N D' _ _ w4.drew (HN.out.below HB40.out) (HD'.out.below HB40.out) (by omega) (by omega))).mono ?_
 rintro e w5 ⟨v5,rfl,hv5,hb5⟩
 obtain ⟨A5,c5,rfl,_,_,_⟩:=id hv5
 have HV5:=Lib.hid hv5
 have hB5:Below w4.heap.size w4 w5:=below_undrew hb5
 have HB5:=Lib.hid hB5
 clear hv5 hb5 hB5
 gi_wp2
 refine stage_post (isSame_below HB5.out (fun k hk=>hk)) ?_
 refine stage_one 9 (by kernel_rfl) rfl ?_
 gi_wp2
 have HB50:=Lib.hid (HB40.out.trans ((below_drew3 HB5.out).mono HB40.out.size))
 refine ⟨trivial,?_⟩
 refine (callsIn_wide.2 (mul_any N' D _ _ w5 (HN'.out.below HB50.out) (HD.out.below HB50.out) (by omega) (by omega))).mono ?_
 rintro e w6 ⟨v6,rfl,hv6,hb6⟩
 obtain ⟨A6,c6,rfl,_,_,_⟩:=id hv6
 have HV6:=Lib.hid hv6
 have HV5:=Lib.hid (HV5.out.below hb6)
 have hB6:Below w4.heap.size w4 w6:=HB5.out.trans (hb6.mono HB5.out.size)
 have HB6:=Lib.hid hB6
 clear hv6 hb6 hB6
 gi_wp2
 refine stage_post (isSame_below HB6.out (fun k hk=>hk)) ?_
 refine stage_one 10 (by kernel_rfl) rfl ?_
 gi_wp2
 refine ⟨trivial,?_⟩
 refine (callsIn_wide.2 (cmp_any (N*D') (N'*D) _ _ w6 HV5.out HV6.out (by omega))).mono ?_
 rintro e w7 ⟨rfl,hb7⟩
 generalize hgz:sgn (N*D') (N'*D)=z at hz HE ⊢
 obtain ⟨hz1,hz2⟩:=hz
 clear hgz
 have hB7:Below w4.heap.size w4 w7:=HB6.out.trans (hb7.mono HB6.out.size)
 have HB7:=Lib.hid hB7
 clear hb7 hB7
 gi_wp2
 refine stage_post (isSame_below HB7.out (fun k hk=>hk)) ?_
 refine stage_one 11 (by kernel_rfl) rfl ?_
 gi_wp2
 refine stage_post (isSame_below HB7.out (fun k hk=>hk)) ?_
 refine stage_done (by kernel_rfl) ?_
 clear x0 x1 x2 y0 y1 y2
 obtain ⟨x0,x1,x2⟩:=rows3 (Q0.out.below HB7.out (by have:=HS.out;omega))
 gi_wp2
 refine bodyPost_ret (results_tmp rfl _ _ _) rfl ?_
 exact ⟨_,rfl,by rw [clamp_id (by omega)];exact HE.out,HB.out.trans ((below_drew3 (HB4.out.trans (HB7.out.mono h42))).mono HB.out.size)⟩
theorem fcmp_any (p q:Rat) (v v':Value) (w:World) (h:IsFrac w v p) (h':IsFrac w v' q) (l1:(toL (nm p)).length≤10000) (l2:(toL p.den).length≤10000) (l3:(toL (nm q)).length≤10000) (l4:(toL q.den).length≤10000) :
  Calls Tryz.prog 198 #[v,v'] w fun e w'=>∃ c:Int,e=.returned (.int .i64 c)∧max (-1) (min 1 c)=cmpQ p q∧Below w.heap.size w w':=by
 by_cases hs:sgQ p=sgQ q
 ·cases hm:ng p with
  | false=>exact fcmp_pos p q v v' w h h' l1 l2 l3 l4 hs hm
  | true=>exact fcmp_neg p q v v' w h h' l1 l2 l3 l4 hs hm
 ·exact fcmp_ne p q v v' w h h' l1 l2 l3 l4 hs
end Go.Proofs.YtigapglmipmbeaaGreatDoor
namespace Go.Proofs.YtigapglmipmbeaaGreatDoor
open Go.RowKit Go.Shelf
open Lim
def resI (x:Int × Nat):Value:=.tuple #[.int .i64 x.1,.int .i64 (x.2:Int)]
def oneI (f:Rat→Int × Nat) (a:List UInt8):Int × Nat:=if errQ a≠0 then (0,errQ a) else f (valQ a)
def twoI (f:Rat→Rat→Int × Nat) (a b:List UInt8):Int × Nat:=if errQ a≠0 then (0,errQ a) else if errQ b≠0 then (0,errQ b) else f (valQ a) (valQ b)
theorem withI_any (F:FuncId) (hrun:Runs F) (caps:Array Value) (g:Rat→Int × Nat) (a:ByteArray) (w:World) (ha:a.size≤270000) (hr:Res w)
  (hF:∀ p v w',Below w.heap.size w w'→Res w'→IsFrac w' v p→Sz maxD p→Calls Tryz.prog F (#[v]++caps) w' fun e w''=>e=.returned (resI (g p))∧Below w'.heap.size w' w'') :
  Calls Tryz.prog 241 #[.string a,.func (.func F) #[] caps] w fun e w'=>e=.returned (resI (oneI g a.data.toList))∧Below w.heap.size w w':=by
 by_cases h1:errQ a.data.toList=0
 ·unfold oneI
  rw [if_neg (by omega)]
  exact WI.with_ok F hrun caps (.int .i64 (g (valQ a.data.toList)).1) _ a w ha hr h1 (fun v w' hb hr' hv=>hF _ v w' hb hr' hv (sz_max h1))
 ·unfold oneI
  rw [if_pos h1]
  exact WI.with_err a _ w ha hr h1
theorem bothI_any (F:FuncId) (hrun:Runs F) (g:Rat→Rat→Int × Nat) (a b:ByteArray) (w:World) (ha:a.size≤270000) (hb:b.size≤270000) (hr:Res w)
  (hF:∀ p q v v' w',Res w'→IsFrac w' v p→IsFrac w' v' q→Sz maxD p→Sz maxD q→Calls Tryz.prog F #[v,v'] w' fun e w''=>e=.returned (resI (g p q))∧Below w'.heap.size w' w'') :
  Calls Tryz.prog 196 #[.string a,.string b,.func (.func F) #[] #[]] w fun e w'=>e=.returned (resI (twoI g a.data.toList b.data.toList))∧Below w.heap.size w w':=by
 refine (WI.both_any F hrun (fun p q=>(.int .i64 (g p q).1,((g p q).2:Int))) a b w ha hb hr (fun v v' w' _ hr' hv hv' h1 h2=>hF _ _ v v' w' hr' hv hv' (sz_max h1) (sz_max h2))).mono ?_
 rintro e w' ⟨rfl,hB⟩
 refine ⟨?_,hB⟩
 unfold twoI resI
 split
 ·rfl
 ·split<;>rfl
theorem runs_Sign:Runs 242:=runs_of Tryz.func242 (by kernel_rfl) (by kernel_rfl)
theorem Sign1_any (p:Rat) (v:Value) (w:World) (hv:IsFrac w v p) :
  Calls Tryz.prog 242 #[v] w fun e w'=>e=.returned (resI (sgQ p,0))∧Below w.heap.size w w':=by
 obtain ⟨bq,N,D,A,c,A',c',rfl,hn,hd,HQ⟩:=isFrac_open hv
 have HX:=Lib.hid (below_alloc (Below.refl w.heap.size w) (.cells #[.bool bq,.slice A (toL N).length c,.slice A' (toL D).length c'] 216))
 have HF:=Lib.hid (sign_any p _ _ (hv.below HX.out))
 generalize sgQ p=r at HF ⊢
 clear hv hn hd
 go_enter Tryz.func242,Tryz.ntmps242
 go_wp2_with (go_at_call 211;refine HF.out.mono ?_;rintro e w1 ⟨rfl,hb1⟩;have HB1:=Lib.hid (HX.out.trans (hb1.mono HX.out.size));clear hb1)
 refine bodyPost_ret (results_tmp2 rfl _ _ _) rfl ?_
 exact ⟨rfl,HB1.out⟩
theorem ratSign_any (a:ByteArray) (w:World) (ha:a.size≤270000) (hr:Res w) :
  Calls Tryz.prog 187 #[.string a] w fun e w'=>e=.returned (resI (oneI (fun p=>(sgQ p,0)) a.data.toList))∧Below w.heap.size w w':=by
 have HB:=Lib.hid (withI_any 242 runs_Sign #[] (fun p=>(sgQ p,0)) a w ha hr (fun p v w' _ _ hv _=>Sign1_any p v w' hv))
 generalize oneI (fun p=>(sgQ p,0)) a.data.toList=r at HB ⊢
 clear hr
 go_enter Tryz.func187,Tryz.ntmps187
 go_wp2_with (go_at_call 241;refine HB.out.mono ?_;rintro e w2 ⟨rfl,hb2⟩;have HB2:=Lib.hid hb2;clear hb2;unfold resI)
 refine bodyPost_ret (results_tmp2 rfl _ _ _) rfl ?_
 exact ⟨rfl,HB2.out⟩
theorem runs_Cmp:Runs 197:=runs_of Tryz.func197 (by kernel_rfl) (by kernel_rfl)
theorem Cmp1_any (p q:Rat) (v v':Value) (w:World) (hv:IsFrac w v p) (hv':IsFrac w v' q) (sp:Sz maxD p) (sq:Sz maxD q) :
  Calls Tryz.prog 197 #[v,v'] w fun e w'=>e=.returned (resI (cmpQ p q,0))∧Below w.heap.size w w':=by
 obtain ⟨lp,lp'⟩:=sz_limbs sp
 obtain ⟨lq,lq'⟩:=sz_limbs sq
 obtain ⟨bq,N,D,A,c,A',c',rfl,hn,hd,HQ⟩:=isFrac_open hv
 obtain ⟨bq',N',D',B,d,B',d',rfl,hn',hd',HQ'⟩:=isFrac_open hv'
 have HX:=Lib.hid (below_alloc (below_alloc (Below.refl w.heap.size w) (.cells #[.bool bq,.slice A (toL N).length c,.slice A' (toL D).length c'] 216)) (.cells #[.bool bq',.slice B (toL N').length d,.slice B' (toL D').length d'] 216))
 have HF:=Lib.hid (fcmp_any p q _ _ _ (hv.below HX.out) (hv'.below HX.out) (by omega) (by omega) (by omega) (by omega))
 generalize cmpQ p q=r at HF ⊢
 clear hv hv' hn hd hn' hd' sp sq lp lp' lq lq'
 go_enter Tryz.func197,Tryz.ntmps197
 go_wp2_with (go_at_call 198;refine HF.out.mono ?_;rintro e w1 ⟨k,rfl,hk,hb1⟩;subst hk;have HB1:=Lib.hid (HX.out.trans (hb1.mono HX.out.size));clear hb1)
 refine bodyPost_ret (results_tmp2 rfl _ _ _) rfl ?_
 exact ⟨rfl,HB1.out⟩
theorem ratCmp_any (a b:ByteArray) (w:World) (ha:a.size≤270000) (hb:b.size≤270000) (hr:Res w) :
  Calls Tryz.prog 116 #[.string a,.string b] w fun e w'=>e=.returned (resI (twoI (fun p q=>(cmpQ p q,0)) a.data.toList b.data.toList))∧Below w.heap.size w w':=by
 have HB:=Lib.hid (bothI_any 197 runs_Cmp (fun p q=>(cmpQ p q,0)) a b w ha hb hr (fun p q v v' w' _ hv hv' sp sq=>Cmp1_any p q v v' w' hv hv' sp sq))
 generalize twoI (fun p q=>(cmpQ p q,0)) a.data.toList b.data.toList=r at HB ⊢
 clear hr
 go_enter Tryz.func116,Tryz.ntmps116
 go_wp2_with (go_at_call 196;refine HB.out.mono ?_;rintro e w2 ⟨rfl,hb2⟩;have HB2:=Lib.hid hb2;clear hb2;unfold resI)
 refine bodyPost_ret (results_tmp2 rfl _ _ _) rfl ?_
 exact ⟨rfl,HB2.out⟩
def chooseQ (x:Int × Nat) (s:Int) (a b:ByteArray):ByteArray × Nat:=if x.2≠0 then (⟨#[]⟩,x.2) else if x.1*s > 0 then (b,0) else (a,0)
def resS (x:ByteArray × Nat):Value:=.tuple #[.string x.1,.int .i64 (x.2:Int)]
theorem twoI_bound (a b:List UInt8):-1≤(twoI (fun p q=>(cmpQ p q,0)) a b).1∧(twoI (fun p q=>(cmpQ p q,0)) a b).1≤1:=by
 unfold twoI
 split
 ·show (-1:Int)≤0∧(0:Int)≤1;omega
 ·split
  ·show (-1:Int)≤0∧(0:Int)≤1;omega
  ·rcases cmpQ_cases (valQ a) (valQ b) with h|h|h<;>simp [h]
theorem choose_any (a b:ByteArray) (s:Int) (w:World) (ha:a.size≤270000) (hb:b.size≤270000) (hr:Res w) (hs:s=1∨s=-1) :
  Calls Tryz.prog 207 #[.string a,.string b,.int .i64 s] w fun e w'=>e=.returned (resS (chooseQ (twoI (fun p q=>(cmpQ p q,0)) a.data.toList b.data.toList) s a b))∧Below w.heap.size w w':=by
 have HB:=Lib.hid (ratCmp_any a b w ha hb hr)
 obtain ⟨z1,z2⟩:=twoI_bound a.data.toList b.data.toList
 generalize twoI (fun p q=>(cmpQ p q,0)) a.data.toList b.data.toList=r at HB z1 z2 ⊢
 obtain ⟨k,e0⟩:=r
 dsimp only at z1 z2
 unfold resI at HB
 unfold chooseQ resS
 dsimp only at HB ⊢
 clear hr
 by_cases he:e0=0
 ·subst he
  have hks:-1≤k*s∧k*s≤1:=by rcases hs with rfl|rfl<;>omega
  rw [if_neg (by omega)]
  by_cases hp:k*s > 0
  ·rw [if_pos hp]
   have hp':decide (k*s > 0)=true:=decide_eq_true hp
   go_enter Tryz.func207,Tryz.ntmps207
   go_wp2_with (go_at_call 116;refine HB.out.mono ?_;rintro e w2 ⟨rfl,hb2⟩;have HB2:=Lib.hid hb2;clear hb2)
   refine bodyPost_ret (results_tmp2 rfl _ _ _) rfl ?_
   exact ⟨rfl,HB2.out⟩
  ·rw [if_neg hp]
   have hp':decide (k*s > 0)=false:=decide_eq_false hp
   go_enter Tryz.func207,Tryz.ntmps207
   go_wp2_with (go_at_call 116;refine HB.out.mono ?_;rintro e w2 ⟨rfl,hb2⟩;have HB2:=Lib.hid hb2;clear hb2)
   refine bodyPost_ret (results_tmp2 rfl _ _ _) rfl ?_
   exact ⟨rfl,HB2.out⟩
 ·rw [if_pos he]
  have hne:((e0:Int)==0)=false:=by rw [beq_eq_false_iff_ne];omega
  have HE:=Lib.hid he
  clear he
  go_enter Tryz.func207,Tryz.ntmps207
  go_wp2_with (go_at_call 116;refine HB.out.mono ?_;rintro e w2 ⟨rfl,hb2⟩;have HB2:=Lib.hid hb2;clear hb2)
  refine bodyPost_ret (results_tmp2 rfl _ _ _) rfl ?_
  exact ⟨rfl,HB2.out⟩
theorem ratMin_any (a b:ByteArray) (w:World) (ha:a.size≤270000) (hb:b.size≤270000) (hr:Res w) :
  Calls Tryz.prog 143 #[.string a,.string b] w fun e w'=>e=.returned (resS (chooseQ (twoI (fun p q=>(cmpQ p q,0)) a.data.toList b.data.toList) 1 a b))∧Below w.heap.size w w':=by
 have HB:=Lib.hid (choose_any a b 1 w ha hb hr (.inl rfl))
 generalize chooseQ (twoI (fun p q=>(cmpQ p q,0)) a.data.toList b.data.toList) 1 a b=r at HB ⊢
 clear hr
 go_enter Tryz.func143,Tryz.ntmps143
 go_wp2_with (go_at_call 207;refine HB.out.mono ?_;rintro e w2 ⟨rfl,hb2⟩;have HB2:=Lib.hid hb2;clear hb2;unfold resS)
 refine bodyPost_ret (results_tmp2 rfl _ _ _) rfl ?_
 exact ⟨rfl,HB2.out⟩
end Go.Proofs.YtigapglmipmbeaaGreatDoor
namespace Go.Proofs.YtigapglmipmbeaaGreatDoor
open Lim
end Go.Proofs.YtigapglmipmbeaaGreatDoor
namespace Go.Proofs.YtigapglmipmbeaaGreatDoor
open Go.RowKit Go.Shelf
open Lim
theorem two_I {f:Rat→Rat→Int × Nat} {a b:ByteArray} {p q:Rat} (ha:IsT a p) (hb:IsT b q):twoI f a.data.toList b.data.toList=f p q:=by
 unfold twoI;rw [ha.err,hb.err,ha.val,hb.val];rfl
section
variable {a b c:ByteArray} {p q:Rat} (w:World)
theorem cmpT {k:Int} (ha:IsT a p) (hb:IsT b q) (hk:cmpQ p q=k) (hr:Res w) :
  Calls Tryz.prog 116 #[.string a,.string b] w fun e w'=>e=.returned (.tuple #[.int .i64 k,.int .i64 0])∧Below w.heap.size w w':=by
 refine (ratCmp_any a b w ha.size hb.size hr).mono ?_
 rintro e w' ⟨rfl,h⟩
 rw [two_I ha hb,hk]
 exact ⟨rfl,h⟩
theorem minT (ha:IsT a p) (hb:IsT b q) (hc:c=if cmpQ p q > 0 then b else a) (hr:Res w) :
  Calls Tryz.prog 143 #[.string a,.string b] w fun e w'=>e=.returned (.tuple #[.string c,.int .i64 0])∧Below w.heap.size w w':=by
 refine (ratMin_any a b w ha.size hb.size hr).mono ?_
 rintro e w' ⟨rfl,h⟩
 refine ⟨?_,h⟩
 rw [two_I ha hb,hc]
 unfold chooseQ resS
 simp only [ne_eq,not_true_eq_false,if_false,Int.mul_one]
 split<;>rfl
end
def rT (q:Rat):ByteArray:=⟨(ratText q).toArray⟩
def fits (q:Rat):Bool:=!(decide (maxD < Lib.nDigits (nm q)∨maxD < Lib.nDigits q.den))
theorem fits_sz {q:Rat}:fits q=true↔Sz maxD q:=by
 rw [sz_iff (by decide)]
 unfold fits
 rw [Bool.not_eq_true',decide_eq_false_iff_not]
 omega
theorem IsT.fits {a:ByteArray} {q:Rat} (h:IsT a q):fits q=true:=fits_sz.2 h.2
theorem isT_rT {q:Rat} (h:fits q=true):IsT (rT q) q:=⟨rfl,fits_sz.1 h⟩
theorem IsT.text {a:ByteArray} {q:Rat} (h:IsT a q):a=rT q:=h.1
def ovr (q:Rat):Except Nat Rat:=if fits q then .ok q else .error 5
def resE:Except Nat Rat→Value
 | .ok q=>.tuple #[.string (rT q),.int .i64 0]
 | .error n=>.tuple #[.string ⟨#[]⟩,.int .i64 (n:Int)]
theorem out_ovr (q:Rat):resN (outQ q)=resE (ovr q):=by
 unfold outQ ovr fits
 by_cases h:maxD < Lib.nDigits (nm q)∨maxD < Lib.nDigits q.den
 ·rw [if_pos h,decide_eq_true h];rfl
 ·rw [if_neg h,decide_eq_false h];rfl
theorem ovr_ok {q:Rat} (h:fits q=true):ovr q=.ok q:=by unfold ovr;rw [if_pos h]
theorem ovr_no {q:Rat} (h:fits q=false):ovr q=.error 5:=by unfold ovr;rw [if_neg (by rw [h];decide)]
theorem fits_one:fits 1=true:=IsT.one.fits
theorem fits_zero:fits 0=true:=IsT.zero.fits
def minQ (p q:Rat):Rat:=if cmpQ p q > 0 then q else p
theorem cmpQ_gt (p q:Rat):cmpQ p q > 0↔q < p:=by
 have:=cmpQ_swap p q
 rw [← cmpQ_lt]
 omega
theorem minQ_eq (p q:Rat):minQ p q=if q < p then q else p:=by
 unfold minQ
 by_cases h:q < p
 ·rw [if_pos ((cmpQ_gt p q).2 h),if_pos h]
 ·rw [if_neg (fun h2=>h ((cmpQ_gt p q).1 h2)),if_neg h]
theorem minQ_fits {p q:Rat} (hp:fits p=true) (hq:fits q=true):fits (minQ p q)=true:=by
 unfold minQ;split<;>assumption
theorem minQ_le (p q:Rat):minQ p q≤p∧minQ p q≤q:=by
 rw [minQ_eq];split<;>grind
theorem le_minQ {p q r:Rat} (h1:r≤p) (h2:r≤q):r≤minQ p q:=by
 rw [minQ_eq];split<;>assumption
theorem rT_min {a b:ByteArray} {p q:Rat} (ha:IsT a p) (hb:IsT b q):(if cmpQ p q > 0 then b else a)=rT (minQ p q):=by
 unfold minQ;split
 ·exact hb.text
 ·exact ha.text
def errL (f d:ByteArray):Nat :=
 if errQ f.data.toList≠0 then errQ f.data.toList else if errQ d.data.toList≠0 then errQ d.data.toList
 else if cmpQ (valQ f.data.toList) 1 < 0∨cmpQ (valQ d.data.toList) 0 < 0∨cmpQ (valQ d.data.toList) 1 > 0 then 2 else 0
abbrev LQ:=Rat × Rat
def lossT (l:LQ):Value:=.agg #[.string (rT l.1),.string (rT l.2)]
def resL:Except Nat LQ→Value
 | .ok l=>.tuple #[lossT l,.int .i64 0]
 | .error n=>.tuple #[.agg #[.string ⟨#[]⟩,.string ⟨#[]⟩],.int .i64 (n:Int)]
structure LossIs (f d:ByteArray) (l:LQ):Prop where
 f:IsT f l.1
 d:IsT d l.2
 one:1≤l.1
 zero:0≤l.2
 top:l.2≤1
theorem errL_zero {f d:ByteArray} (h:errL f d=0):LossIs f d (valQ f.data.toList,valQ d.data.toList):=by
 unfold errL at h
 by_cases h1:errQ f.data.toList=0
 ·by_cases h2:errQ d.data.toList=0
  ·rw [if_neg (by omega),if_neg (by omega)] at h
   by_cases h3:cmpQ (valQ f.data.toList) 1 < 0∨cmpQ (valQ d.data.toList) 0 < 0∨cmpQ (valQ d.data.toList) 1 > 0
   ·rw [if_pos h3] at h;cases h
   ·have a1:=(cmpQ_lt (valQ f.data.toList) 1)
    have a2:=(cmpQ_lt (valQ d.data.toList) 0)
    have a3:=(cmpQ_gt (valQ d.data.toList) 1)
    refine ⟨IsT.of h1,IsT.of h2,?_,?_,?_⟩
    ·exact Rat.not_lt.1 (fun h4=>h3 (.inl (a1.2 h4)))
    ·exact Rat.not_lt.1 (fun h4=>h3 (.inr (.inl (a2.2 h4))))
    ·exact Rat.not_lt.1 (fun h4=>h3 (.inr (.inr (a3.2 h4))))
  ·rw [if_neg (by omega),if_pos h2] at h;exact absurd h h2
 ·rw [if_pos h1] at h;exact absurd h h1
theorem LossIs.err {f d:ByteArray} {l:LQ} (h:LossIs f d l):errL f d=0:=by
 unfold errL
 rw [if_neg (by rw [h.f.err];decide),if_neg (by rw [h.d.err];decide),h.f.val,h.d.val,if_neg]
 rw [cmpQ_lt,cmpQ_lt,cmpQ_gt]
 have:=h.one;have:=h.zero;have:=h.top
 grind
structure OkL (l:LQ):Prop where
 f:fits l.1=true
 d:fits l.2=true
 one:1≤l.1
 zero:0≤l.2
 top:l.2≤1
theorem LossIs.ok {f d:ByteArray} {l:LQ} (h:LossIs f d l):OkL l:=⟨h.f.fits,h.d.fits,h.one,h.zero,h.top⟩
theorem OkL.is {l:LQ} (h:OkL l):LossIs (rT l.1) (rT l.2) l:=⟨isT_rT h.f,isT_rT h.d,h.one,h.zero,h.top⟩
def noneL:LQ:=(1,0)
theorem okL_none:OkL noneL:=⟨fits_one,fits_zero,by decide +kernel,by decide +kernel,by decide +kernel⟩
def plusL (a b:LQ):Except Nat LQ :=
 match ovr (a.1*b.1) with
 | .error n=>.error n
 | .ok f=>match ovr (a.2+b.2) with
  | .error n=>.error n
  | .ok d=>.ok (f,minQ d 1)
theorem plusL_ok {a b:LQ} (h1:fits (a.1*b.1)=true) (h2:fits (a.2+b.2)=true):plusL a b=.ok (a.1*b.1,minQ (a.2+b.2) 1):=by
 unfold plusL;rw [ovr_ok h1,ovr_ok h2]
theorem plusL_no1 {a b:LQ} (h1:fits (a.1*b.1)=false):plusL a b=.error 5:=by
 unfold plusL;rw [ovr_no h1]
theorem plusL_no2 {a b:LQ} (h1:fits (a.1*b.1)=true) (h2:fits (a.2+b.2)=false):plusL a b=.error 5:=by
 unfold plusL;rw [ovr_ok h1,ovr_no h2]
theorem mul_ge_one {x y:Rat} (hx:1≤x) (hy:1≤y):1≤x*y:=by
 have:=Rat.mul_le_mul_of_nonneg_left hy (show (0:Rat)≤x by grind)
 grind
theorem plusL_okL {a b l:LQ} (ha:OkL a) (hb:OkL b) (h:plusL a b=.ok l):OkL l:=by
 cases h1:fits (a.1*b.1)
 ·rw [plusL_no1 h1] at h;cases h
 cases h2:fits (a.2+b.2)
 ·rw [plusL_no2 h1 h2] at h;cases h
 rw [plusL_ok h1 h2] at h
 cases h
 have:=ha.zero
 have:=hb.zero
 exact ⟨h1,minQ_fits h2 fits_one,mul_ge_one ha.one hb.one,le_minQ (by grind) (by decide +kernel),(minQ_le _ _).2⟩
theorem min_top {d:Rat} (h:d≤1):minQ d 1=d:=by rw [minQ_eq,if_neg (by grind)]
theorem plusL_none {a:LQ} (ha:OkL a):plusL noneL a=.ok a:=by
 unfold noneL
 have e1:(1:Rat)*a.1=a.1:=Rat.one_mul _
 have e2:(0:Rat)+a.2=a.2:=Rat.zero_add _
 rw [plusL_ok (by rw [e1];exact ha.f) (by rw [e2];exact ha.d),e1,e2,min_top ha.top]
def fitsL (a b:LQ):Bool:=decide (cmpQ a.1 b.1≤0)&&decide (cmpQ a.2 b.2≤0)
def lateL (l:LQ) (u:Rat):Except Nat LQ :=
 match ovr (l.1+1) with
 | .error n=>.error n
 | .ok x=>match ovr (x*u) with
  | .error n=>.error n
  | .ok m=>match ovr (l.2+m) with
   | .error n=>.error n
   | .ok d=>.ok (l.1,minQ d 1)
def prob (n:Nat):Value:=.iface 251 (.agg #[.int .i64 (n:Int)])
def pan (n:Nat):List PanicEntry:=[{ v:=prob n,recovered:=false }]
theorem mustI_ok (v:Int) (w:World):Calls Tryz.prog 168 #[.int .i64 v,.int .i64 0] w fun e w'=>e=.returned (.int .i64 v)∧w'=w:=by
 go_enter Tryz.func168,Tryz.ntmps168
 go_wp2
 go_ret
 exact ⟨rfl,rfl⟩
theorem mustI_no (v:Int) (n:Nat) (w:World) (h:n≠0):Calls Tryz.prog 168 #[.int .i64 v,.int .i64 (n:Int)] w fun e w'=>e=.panicked (pan n)∧w'=w:=by
 unfold pan prob
 obtain ⟨z,hz⟩:∃ z:Int,z=(n:Int):=⟨_,rfl⟩
 rw [← hz]
 have hn:(z==0)=false:=by rw [beq_eq_false_iff_ne];omega
 clear hz h
 go_enter Tryz.func168,Tryz.ntmps168
 go_wp2
 exact ⟨rfl,rfl,rfl⟩
theorem mustN_ok (v:ByteArray) (w:World):Calls Tryz.prog 165 #[.string v,.int .i64 0] w fun e w'=>e=.returned (.string v)∧w'=w:=by
 go_enter Tryz.func165,Tryz.ntmps165
 go_wp2
 go_ret
 exact ⟨rfl,rfl⟩
theorem mustN_no (v:ByteArray) (n:Nat) (w:World) (h:n≠0):Calls Tryz.prog 165 #[.string v,.int .i64 (n:Int)] w fun e w'=>e=.panicked (pan n)∧w'=w:=by
 unfold pan prob
 obtain ⟨z,hz⟩:∃ z:Int,z=(n:Int):=⟨_,rfl⟩
 rw [← hz]
 have hn:(z==0)=false:=by rw [beq_eq_false_iff_ne];omega
 clear hz h
 go_enter Tryz.func165,Tryz.ntmps165
 go_wp2
 exact ⟨rfl,rfl,rfl⟩
theorem ends_idle (p:Addr) (w:World) :
  CallsD Tryz.prog 163 #[.pointer (some p)] .returning w fun e u' w'=>e=.returned (.tuple #[])∧u'=.returning∧w'=w:=by
 refine callsD_of_wpS Tryz.func163 rfl fun c₀ cs hu=>?_
 apply wpS_seq
 apply wpS_region
 simp [wpOpsS,go_sem,recoverD,hu,Tryz.ntmps163,Exit.thenS,Array.replicate_succ,Array.replicate_zero]
 refine wpS_of_wp ?_
 go_wp2
 cases c₀
 simp_all [bodyPostS,results,Tryz.results163]
theorem ends_panic (b:Nat) (n:Nat) (x:Int) (older:List PanicEntry) (w:World) (hb:Blk w b 32 #[.int .i64 x]) :
  CallsD Tryz.prog 163 #[.pointer (some ⟨b,0,none⟩)] (.panicking ({ v:=prob n,recovered:=false }::older)) w fun e u' w' =>
   e=.returned (.tuple #[])∧u'=.panicking ({ v:=prob n,recovered:=true }::older)∧w'=(w.setCell ⟨b,0,none⟩ (.int .i64 (n:Int))).alloc (.cells #[.int .i64 (n:Int)] 251):=by
 unfold prob
 have hta:∀ (v:Value) (w:World),(Instr.typeAssert (.iface 251 v) 20 251 true).run Tryz.prog w=.ok (.tuple #[v,.bool true]) w:=fun _ _=>by kernel_rfl
 have hlt:=hb.lt
 have hc:=(cellrow hb 0 (by simp)).1
 have hz:=hb.frozen 0
 simp only [List.getElem_toArray,List.getElem_cons_zero] at hc
 obtain ⟨z,hz2⟩:∃ z:Int,z=(n:Int):=⟨_,rfl⟩
 rw [← hz2]
 clear hb hz2
 refine callsD_of_wpS Tryz.func163 rfl fun c₀ cs hu=>?_
 apply wpS_seq
 apply wpS_region
 simp [wpOpsS,go_sem,recoverD,hu,Tryz.ntmps163,Exit.thenS,Array.replicate_succ,Array.replicate_zero]
 refine wpS_of_wp ?_
 go_wp2
 simp [bodyPostS,results,Tryz.results163,go_sem]
section
variable {fn:Func} {tmps:Array Value} {R:Ending→World→Prop} {b:Nat} {w:World}
theorem door_ret {v:Value} (hr:(results fn tmps).run Tryz.prog w=.ok v w) (hR:R (.returned v) w) :
  Leaves Tryz.prog fn tmps R [{ target:=Target.fn (Fn.func 163) #[],args:=#[.pointer (some ⟨b,0,none⟩)] }] .returning w:=by
 refine leaves_cons (f:=163) (args:=#[.pointer (some ⟨b,0,none⟩)]) (by simp) (by simp [go_sem]) ?_
 refine (ends_idle _ _).mono ?_
 rintro e u' w'' ⟨rfl,rfl,rfl⟩
 exact ⟨v,hr,hR⟩
theorem door_pan {v:Value} {n:Nat} {x:Int} (hb:Blk w b 32 #[.int .i64 x])
  (hr:∀ W,Blk W b 32 #[.int .i64 (n:Int)]→(∀ g t cs,g≠b→Blk w g t cs→Blk W g t cs)→(∀ B w0,B≤b→Below B w0 w→Below B w0 W)→(results fn tmps).run Tryz.prog W=.ok v W∧R (.returned v) W) :
  Leaves Tryz.prog fn tmps R [{ target:=Target.fn (Fn.func 163) #[],args:=#[.pointer (some ⟨b,0,none⟩)] }] (.panicking (pan n)) w:=by
 refine leaves_cons (f:=163) (args:=#[.pointer (some ⟨b,0,none⟩)]) (by simp) (by simp [go_sem]) ?_
 unfold pan
 refine (ends_panic b n x [] w hb).mono ?_
 rintro e u' w'' ⟨rfl,rfl,rfl⟩
 obtain ⟨h1,h2⟩:=hr ((w.setCell ⟨b,0,none⟩ (.int .i64 (n:Int))).alloc (.cells #[.int .i64 (n:Int)] 251))
  ((hb.set_ 0 _).alloc _) (fun g t cs hg h=>(h.far (p:=⟨b,0,none⟩) hg _).alloc _)
  (fun B w0 hB h=>by
   have h3:=h.setCell (p:=⟨b,0,none⟩) hB (.int .i64 (n:Int))
   exact h3.alloc (Nat.le_trans hB (Nat.le_of_lt (hb.set_ 0 (.int .i64 (n:Int))).lt)) _)
 exact ⟨v,h1,h2⟩
end
theorem lorder_any {a b:ByteArray} {p q:Rat} (w:World) (ha:IsT a p) (hb:IsT b q) (hr:Res w) :
  Calls Tryz.prog 169 #[.string a,.string b] w fun e w'=>e=.returned (.int .i64 (cmpQ p q))∧Below w.heap.size w w':=by
 have HC:=Lib.hid (cmpT w ha hb rfl hr)
 generalize cmpQ p q=k at HC ⊢
 clear ha hb hr
 go_enter Tryz.func169,Tryz.ntmps169
 go_wp2_with (first
  | (go_at_call 116;refine HC.out.mono ?_;rintro e w1 ⟨rfl,hb1⟩;have HB:=Lib.hid hb1;clear hb1)
  | (go_at_call 168;refine (mustI_ok _ _).mono ?_;rintro e w2 ⟨rfl,hw⟩;subst hw))
 go_ret
 exact ⟨rfl,HB.out⟩
theorem cell0 {w:World} {b:Nat} {t:TypeId} {v:Value} (h:Blk w b t #[v]):w.cell? ⟨b,0,none⟩=some v:=(cellrow h 0 (by simp)).1
theorem cells2 {w:World} {b:Nat} {t:TypeId} {u v:Value} (h:Blk w b t #[u,v]):w.cell? ⟨b,0,none⟩=some u∧w.cell? ⟨b,1,none⟩=some v:=⟨(cellrow h 0 (by simp)).1,(cellrow h 1 (by simp)).1⟩
structure ChkAt (w:World) (g:Nat) (f d:ByteArray) (k:Int) (W:World):Prop where
 l:Blk W g 63 #[.string f,.string d]
 e:Blk W (g+1) 32 #[.int .i64 k]
 s:Blk W (g+1+1) 23 #[.string f,.string d]
 res:Res W
 below:Below w.heap.size w W
 g:g=w.heap.size
theorem ChkAt.later {w W W':World} {g:Nat} {f d:ByteArray} {k:Int} (h:ChkAt w g f d k W) (hb:Below W.heap.size W W'):ChkAt w g f d k W' :=
 ⟨h.l.below hb h.l.lt,h.e.below hb h.e.lt,h.s.below hb h.s.lt,h.res.below hb,h.below.trans (hb.mono h.below.size),h.g⟩
theorem lcheck_any (f d:ByteArray) (w:World) (hf:f.size≤270000) (hd:d.size≤270000) (hr:Res w) :
  Calls Tryz.prog 182 #[.agg #[.string f,.string d]] w fun e w'=>e=.returned (.int .i64 (errL f d:Int))∧Below w.heap.size w w':=by
 have H0:=Lib.hid (show ChkAt w w.heap.size f d 0 (((w.alloc (.cells #[.string f,.string d] 63)).alloc (.cells #[.int .i64 0] 32)).alloc (.cells #[.string f,.string d] 23)) from by
  have b1:=below_alloc (Below.refl w.heap.size w) (.cells #[.string f,.string d] 63)
  have b2:=below_alloc b1 (.cells #[.int .i64 0] 32)
  have b3:=below_alloc b2 (.cells #[.string f,.string d] 23)
  have k1:=Blk.new w 63 #[.string f,.string d]
  have k2:=Blk.new (w.alloc (.cells #[.string f,.string d] 63)) 32 #[.int .i64 0]
  have k3:=Blk.new ((w.alloc (.cells #[.string f,.string d] 63)).alloc (.cells #[.int .i64 0] 32)) 23 #[.string f,.string d]
  have e1:(w.alloc (.cells #[.string f,.string d] 63)).heap.size=w.heap.size+1:=by simp
  have e2:((w.alloc (.cells #[.string f,.string d] 63)).alloc (.cells #[.int .i64 0] 32)).heap.size=w.heap.size+1+1:=by simp
  rw [e1] at k2
  rw [e2] at k3
  exact ⟨(k1.alloc _).alloc _,k2.alloc _,k3,hr.below b3,b3,rfl⟩)
 clear hr
 go_enter_defers Tryz.func182,Tryz.ntmps182
 go_wp2
 go_loopw [11] (fun v11 wr=>∃ k:Nat,k≤2∧v11=.int .i64 (k:Int)∧(1≤k→errQ f.data.toList=0)∧(2≤k→errQ d.data.toList=0)∧Hid (ChkAt w w.heap.size f d 0 wr)) (fun v11 _=>2 - (intOf v11).toNat)
 case atStart=>exact ⟨0,by omega,rfl,by omega,by omega,H0⟩
 case round =>
  obtain ⟨k,hk,rfl,h1,h2,H⟩:=hrel
  clear H0
  have c0:=(cellrow H.out.s 0 (by simp)).1
  have c1:=(cellrow H.out.s 1 (by simp)).1
  simp only [List.getElem_toArray,List.getElem_cons_zero,List.getElem_cons_succ] at c0 c1
  match k,hk with
  | 0,_ =>
   clear h1 h2 c1
   have HF:=Lib.hid (ratCheck_any f wr hf H.out.res)
   by_cases he:errQ f.data.toList=0
   ·rw [he] at HF
    have HE:=Lib.hid he
    clear he
    go_wp2_with (first
     | (go_at_call 138;refine HF.out.mono ?_;rintro e w1 ⟨rfl,hb1⟩;have H1:=Lib.hid (H.out.later hb1);clear hb1)
     | (go_at_call 168;refine (mustI_ok _ _).mono ?_;rintro e w2 ⟨rfl,hw⟩;subst hw))
    go_roundw
    case rel=>exact ⟨1,by omega,by go_num,fun _=>HE.out,by omega,H1⟩
    case measure=>simp [intOf]
   ·have HE:=Lib.hid (And.intro he (show errL f d=errQ f.data.toList by unfold errL;rw [if_pos he]))
    generalize errQ f.data.toList=n at HF HE
    clear he
    go_wp2_with (first
     | (go_at_call 138;refine HF.out.mono ?_;rintro e w1 ⟨rfl,hb1⟩;have H1:=Lib.hid (H.out.later hb1);clear hb1)
     | (go_at_call 168;refine (mustI_no _ _ _ HE.out.1).mono ?_;rintro e w2 ⟨rfl,hw⟩;subst hw))
    refine door_pan (v:=.int .i64 (n:Int)) H1.out.e ?_
    intro W hB _ hbel
    have hc:=(cellrow hB 0 (by simp)).1
    simp only [List.getElem_toArray,List.getElem_cons_zero] at hc
    refine ⟨by simp [results,Tryz.results182,go_sem,hc],?_,hbel _ _ (by omega) H1.out.below⟩
    rw [HE.out.2]
  | 1,_ =>
   have he1:=h1 (by omega)
   clear h1 h2 c0
   have HE1:=Lib.hid he1
   clear he1
   have HF:=Lib.hid (ratCheck_any d wr hd H.out.res)
   by_cases he:errQ d.data.toList=0
   ·rw [he] at HF
    have HE:=Lib.hid he
    clear he
    go_wp2_with (first
     | (go_at_call 138;refine HF.out.mono ?_;rintro e w1 ⟨rfl,hb1⟩;have H1:=Lib.hid (H.out.later hb1);clear hb1)
     | (go_at_call 168;refine (mustI_ok _ _).mono ?_;rintro e w2 ⟨rfl,hw⟩;subst hw))
    go_roundw
    case rel=>exact ⟨2,by omega,by go_num,fun _=>HE1.out,fun _=>HE.out,H1⟩
    case measure=>simp [intOf]
   ·have HE:=Lib.hid (And.intro he (show errL f d=errQ d.data.toList by unfold errL;rw [if_neg (by rw [HE1.out];decide),if_pos he]))
    generalize errQ d.data.toList=n at HF HE
    clear he
    go_wp2_with (first
     | (go_at_call 138;refine HF.out.mono ?_;rintro e w1 ⟨rfl,hb1⟩;have H1:=Lib.hid (H.out.later hb1);clear hb1)
     | (go_at_call 168;refine (mustI_no _ _ _ HE.out.1).mono ?_;rintro e w2 ⟨rfl,hw⟩;subst hw))
    refine door_pan (v:=.int .i64 (n:Int)) H1.out.e ?_
    intro W hB _ hbel
    have hc:=(cellrow hB 0 (by simp)).1
    simp only [List.getElem_toArray,List.getElem_cons_zero] at hc
    refine ⟨by simp [results,Tryz.results182,go_sem,hc],?_,hbel _ _ (by omega) H1.out.below⟩
    rw [HE.out.2]
  | 2,_ =>
   have H1:=IsT.of (h1 (by omega))
   have H2:=IsT.of (h2 (by omega))
   clear c0 c1
   have c0:=(cellrow H.out.l 0 (by simp)).1
   have c1:=(cellrow H.out.l 1 (by simp)).1
   simp only [List.getElem_toArray,List.getElem_cons_zero,List.getElem_cons_succ] at c0 c1
   have HL:=Lib.hid (show errL f d=if cmpQ (valQ f.data.toList) 1 < 0∨cmpQ (valQ d.data.toList) 0 < 0∨cmpQ (valQ d.data.toList) 1 > 0 then 2 else 0 by
    unfold errL
    rw [if_neg (by rw [h1 (by omega)];decide),if_neg (by rw [h2 (by omega)];decide)])
   have HC1:=Lib.hid (fun w=>lorder_any w H1 IsT.one)
   have HC2:=Lib.hid (fun w=>lorder_any w H2 IsT.zero)
   have HC3:=Lib.hid (fun w=>lorder_any w H2 IsT.one)
   generalize cmpQ (valQ f.data.toList) 1=x1 at HL HC1
   generalize cmpQ (valQ d.data.toList) 0=x2 at HL HC2
   generalize cmpQ (valQ d.data.toList) 1=x3 at HL HC3
   clear h1 h2 H1 H2
   have TK1:True:=trivial
   have TK2:True:=trivial
   have TK3:True:=trivial
   by_cases d1:x1 < 0
   ·have g1:decide (x1 < 0)=true:=decide_eq_true d1
    have D1:=Lib.hid d1
    clear d1
    go_wp2_with (first
     | (clear TK1;go_at_call 169;refine (HC1.out _ H.out.res).mono ?_;rintro e w1 ⟨rfl,hb⟩;have H1:=Lib.hid (H.out.later hb);obtain ⟨-,p1⟩:=cells2 H1.out.l;have q1:=cell0 H1.out.e;have z1:=H1.out.e.frozen 0;clear hb))
    refine door_ret (v:=.int .i64 2) (by have hc:=cell0 (H1.out.e.set_ 0 (.int .i64 2));simp [results,Tryz.results182,go_sem] at hc ⊢;simp [hc]) ⟨by rw [HL.out,if_pos (.inl D1.out)];rfl,H1.out.below.setCell (Nat.le_succ _) _⟩
   by_cases d2:x2 < 0
   ·have g1:decide (x1 < 0)=false:=decide_eq_false d1
    have g2:decide (x2 < 0)=true:=decide_eq_true d2
    have D2:=Lib.hid d2
    clear d1 d2
    go_wp2_with (first
     | (clear TK1;go_at_call 169;refine (HC1.out _ H.out.res).mono ?_;rintro e w1 ⟨rfl,hb⟩;have H1:=Lib.hid (H.out.later hb);obtain ⟨-,p1⟩:=cells2 H1.out.l;have q1:=cell0 H1.out.e;have z1:=H1.out.e.frozen 0;clear hb)
     | (clear TK2;go_at_call 169;refine (HC2.out _ H1.out.res).mono ?_;rintro e w2 ⟨rfl,hb⟩;have H2:=Lib.hid (H1.out.later hb);obtain ⟨-,p2⟩:=cells2 H2.out.l;have q2:=cell0 H2.out.e;have z2:=H2.out.e.frozen 0;clear hb))
    refine door_ret (v:=.int .i64 2) (by have hc:=cell0 (H2.out.e.set_ 0 (.int .i64 2));simp [results,Tryz.results182,go_sem] at hc ⊢;simp [hc]) ⟨by rw [HL.out,if_pos (.inr (.inl D2.out))];rfl,H2.out.below.setCell (Nat.le_succ _) _⟩
   by_cases d3:x3 > 0
   ·have g1:decide (x1 < 0)=false:=decide_eq_false d1
    have g2:decide (x2 < 0)=false:=decide_eq_false d2
    have g3:decide (0 < x3)=true:=decide_eq_true d3
    have D3:=Lib.hid d3
    clear d1 d2 d3
    go_wp2_with (first
     | (clear TK1;go_at_call 169;refine (HC1.out _ H.out.res).mono ?_;rintro e w1 ⟨rfl,hb⟩;have H1:=Lib.hid (H.out.later hb);obtain ⟨-,p1⟩:=cells2 H1.out.l;have q1:=cell0 H1.out.e;have z1:=H1.out.e.frozen 0;clear hb)
     | (clear TK2;go_at_call 169;refine (HC2.out _ H1.out.res).mono ?_;rintro e w2 ⟨rfl,hb⟩;have H2:=Lib.hid (H1.out.later hb);obtain ⟨-,p2⟩:=cells2 H2.out.l;have q2:=cell0 H2.out.e;have z2:=H2.out.e.frozen 0;clear hb)
     | (clear TK3;go_at_call 169;refine (HC3.out _ H2.out.res).mono ?_;rintro e w3 ⟨rfl,hb⟩;have H3:=Lib.hid (H2.out.later hb);obtain ⟨-,p3⟩:=cells2 H3.out.l;have q3:=cell0 H3.out.e;have z3:=H3.out.e.frozen 0;clear hb))
    refine door_ret (v:=.int .i64 2) (by have hc:=cell0 (H3.out.e.set_ 0 (.int .i64 2));simp [results,Tryz.results182,go_sem] at hc ⊢;simp [hc]) ⟨by rw [HL.out,if_pos (.inr (.inr D3.out))];rfl,H3.out.below.setCell (Nat.le_succ _) _⟩
   have g1:decide (x1 < 0)=false:=decide_eq_false d1
   have g2:decide (x2 < 0)=false:=decide_eq_false d2
   have g3:decide (0 < x3)=false:=decide_eq_false d3
   have D3:=Lib.hid (show ¬ (x1 < 0∨x2 < 0∨x3 > 0) by omega)
   clear d1 d2 d3
   go_wp2_with (first
    | (clear TK1;go_at_call 169;refine (HC1.out _ H.out.res).mono ?_;rintro e w1 ⟨rfl,hb⟩;have H1:=Lib.hid (H.out.later hb);obtain ⟨-,p1⟩:=cells2 H1.out.l;have q1:=cell0 H1.out.e;have z1:=H1.out.e.frozen 0;clear hb)
    | (clear TK2;go_at_call 169;refine (HC2.out _ H1.out.res).mono ?_;rintro e w2 ⟨rfl,hb⟩;have H2:=Lib.hid (H1.out.later hb);obtain ⟨-,p2⟩:=cells2 H2.out.l;have q2:=cell0 H2.out.e;have z2:=H2.out.e.frozen 0;clear hb)
    | (clear TK3;go_at_call 169;refine (HC3.out _ H2.out.res).mono ?_;rintro e w3 ⟨rfl,hb⟩;have H3:=Lib.hid (H2.out.later hb);obtain ⟨-,p3⟩:=cells2 H3.out.l;have q3:=cell0 H3.out.e;have z3:=H3.out.e.frozen 0;clear hb))
   refine door_ret (v:=.int .i64 0) (by have hc:=cell0 (H3.out.e.set_ 0 (.int .i64 0));simp [results,Tryz.results182,go_sem] at hc ⊢;simp [hc]) ⟨by rw [HL.out,if_neg D3.out];rfl,H3.out.below.setCell (Nat.le_succ _) _⟩
abbrev L2:=ByteArray × ByteArray
def LRow (w:World) (v:Value) (ls:List L2):Prop :=
 ∃ A c,v=.slice A ls.length c∧ls.length≤1000∧(0 < ls.length→∃ b o,A=some ⟨b,o,none⟩∧b < w.heap.size ∧
  ∀ (j:Nat) (x:L2),ls[j]?=some x→w.cell? ⟨b,o+j*2,none⟩=some (.string x.1)∧w.cell? ⟨b,o+j*2+1,none⟩=some (.string x.2))
theorem LRow.below {w w':World} {v:Value} {ls:List L2} (h:LRow w v ls) (hb:Below w.heap.size w w'):LRow w' v ls:=by
 obtain ⟨A,c,e,h1,h2⟩:=h
 refine ⟨A,c,e,h1,fun h0=>?_⟩
 obtain ⟨b,o,e2,hlt,hc⟩:=h2 h0
 refine ⟨b,o,e2,Nat.lt_of_lt_of_le hlt hb.size,fun j x hj=>?_⟩
 obtain ⟨c0,c1⟩:=hc j x hj
 exact ⟨by rw [hb.cell (p:=⟨b,o+j*2,none⟩) hlt];exact c0,by rw [hb.cell (p:=⟨b,o+j*2+1,none⟩) hlt];exact c1⟩
theorem LRow.one {w:World} {b:Nat} {t:TypeId} {f d:ByteArray} (h:Blk w b t #[.string f,.string d]):LRow w (.slice (some ⟨b,0,none⟩) 1 1) [(f,d)]:=by
 refine ⟨_,_,rfl,by simp,fun _=>⟨b,0,rfl,h.lt,fun j x hj=>?_⟩⟩
 match j with
 | 0=>cases hj;exact cells2 h
 | j+1=>simp at hj
theorem LRow.two {w:World} {b:Nat} {t:TypeId} {f d f' d':ByteArray} (h:Blk w b t #[.string f,.string d,.string f',.string d']):LRow w (.slice (some ⟨b,0,none⟩) 2 2) [(f,d),(f',d')]:=by
 refine ⟨_,_,rfl,by simp,fun _=>⟨b,0,rfl,h.lt,fun j x hj=>?_⟩⟩
 match j with
 | 0=>cases hj;exact ⟨(cellrow h 0 (by simp)).1,(cellrow h 1 (by simp)).1⟩
 | 1=>cases hj;exact ⟨(cellrow h 2 (by simp)).1,(cellrow h 3 (by simp)).1⟩
 | j+2=>simp at hj
def firstL:List L2→Nat
 | []=>0
 | x::l=>if errL x.1 x.2≠0 then errL x.1 x.2 else firstL l
theorem firstL_zero {ls:List L2}:firstL ls=0↔∀ x∈ls,errL x.1 x.2=0:=by
 induction ls with
 | nil=>simp [firstL]
 | cons a l ih =>
  unfold firstL
  by_cases h:errL a.1 a.2=0
  ·rw [if_neg (by omega),ih];simp [h]
  ·rw [if_pos h];simp [h]
theorem firstL_at:∀ {ls:List L2} {k:Nat} {x:L2},(∀ j y,j < k→ls[j]?=some y→errL y.1 y.2=0)→ls[k]?=some x→errL x.1 x.2≠0→firstL ls=errL x.1 x.2
 | [],_,_,_,h,_=>by simp at h
 | a::l,0,x,_,h,hn=>by
  cases h
  unfold firstL
  rw [if_pos hn]
 | a::l,k+1,x,h0,h,hn=>by
  unfold firstL
  rw [if_neg (by have:=h0 0 a (by omega) rfl;omega)]
  exact firstL_at (fun j y hj hy=>h0 (j+1) y (by omega) hy) h hn
def endV (n:Nat):Ending:=if n=0 then .returned (.tuple #[]) else .panicked (pan n)
theorem endV_ok:endV 0=.returned (.tuple #[]):=rfl
theorem endV_no {n:Nat} (h:n≠0):endV n=.panicked (pan n):=if_neg h
def Short (ls:List L2):Prop:=∀ x∈ls,x.1.size≤270000∧x.2.size≤270000
theorem valid_run (ls:List L2) (v:Value) (w:World) (hv:LRow w v ls) (hs:Short ls) (hr:Res w) :
  Calls Tryz.prog 164 #[v] w fun e w'=>e=endV (firstL ls)∧Below w.heap.size w w':=by
 obtain ⟨A,c,rfl,hl,hc⟩:=id hv
 have HV:=Lib.hid hv
 have HR:=Lib.hid hr
 have HC:=Lib.hid hc
 clear hv hr hc
 go_enter Tryz.func164,Tryz.ntmps164
 go_wp2
 go_loopw [6] (fun v6 wr=>∃ k:Nat,k≤ls.length∧v6=.int .i64 (k:Int)∧Hid (∀ j y,j < k→ls[j]?=some y→errL y.1 y.2=0)∧Hid (Below w.heap.size w wr)) (fun v6 _=>ls.length - (intOf v6).toNat)
 case atStart=>exact ⟨0,Nat.zero_le _,rfl,Lib.hid (fun j y h=>absurd h (by omega)),Lib.hid (Below.refl _ _)⟩
 case round =>
  obtain ⟨k,hk,rfl,HE,HB⟩:=hrel
  by_cases hlt:k < ls.length
  ·obtain ⟨b,o,rfl,hbw,hcell⟩:=HC.out (by omega)
   obtain ⟨x,hx⟩:∃ x,ls[k]?=some x:=⟨_,List.getElem?_eq_getElem hlt⟩
   obtain ⟨c0,c1⟩:=hcell k x hx
   rw [← HB.out.cell (p:=⟨b,o+k*2,none⟩) hbw] at c0
   rw [← HB.out.cell (p:=⟨b,o+k*2+1,none⟩) hbw] at c1
   have hlt':(k:Int) < (ls.length:Int):=by omega
   have hb2:b < wr.heap.size:=Nat.lt_of_lt_of_le hbw HB.out.size
   obtain ⟨f,d⟩:=x
   have hsx:=hs _ (List.mem_of_getElem? hx)
   have HX:=Lib.hid (And.intro hx (And.intro hsx (And.intro hlt hlt')))
   dsimp only at c0 c1
   by_cases he:errL f d=0
   ·have HEE:=Lib.hid he
    clear he hbw hcell hs hsx hlt hx
    go_wp2_with (first
     | (go_at_call 182;refine (lcheck_any f d _ HX.out.2.1.1 HX.out.2.1.2 (HR.out.below (below_alloc HB.out _))).mono ?_;rintro e w1 ⟨rfl,hb⟩;rw [HEE.out];have HB1:=Lib.hid ((below_alloc HB.out (.cells #[.string f,.string d] 63)).trans (hb.mono (below_alloc HB.out (.cells #[.string f,.string d] 63)).size));clear hb)
     | (go_at_call 168;refine (mustI_ok _ _).mono ?_;rintro e w2 ⟨rfl,hw⟩;subst hw))
    go_roundw
    case rel=>exact ⟨k+1,HX.out.2.2.1,by go_num,Lib.hid (fun j y hj hy=>by
     rcases Nat.lt_or_ge j k with h|h
     ·exact HE.out j y h hy
     ·obtain rfl:j=k:=by omega
      rw [HX.out.1] at hy
      cases hy
      exact HEE.out),HB1⟩
    case measure=>have:=HX.out.2.2.1;simp [intOf];omega
   ·have HF:=Lib.hid (firstL_at HE.out hx he)
    obtain ⟨n,hn⟩:∃ n,errL f d=n:=⟨_,rfl⟩
    dsimp only at HF
    rw [hn] at he HF
    have HEE:=Lib.hid (And.intro he hn)
    clear he hn hbw hcell hs hsx hlt hx
    go_wp2_with (first
     | (go_at_call 182;refine (lcheck_any f d _ HX.out.2.1.1 HX.out.2.1.2 (HR.out.below (below_alloc HB.out _))).mono ?_;rintro e w1 ⟨rfl,hb⟩;rw [HEE.out.2];have HB1:=Lib.hid ((below_alloc HB.out (.cells #[.string f,.string d] 63)).trans (hb.mono (below_alloc HB.out (.cells #[.string f,.string d] 63)).size));clear hb)
     | (go_at_call 168;refine (mustI_no _ _ _ HEE.out.1).mono ?_;rintro e w2 ⟨rfl,hw⟩;subst hw))
    refine ⟨rfl,?_,HB1.out⟩
    rw [HF.out,endV_no HEE.out.1]
  ·have HF:=Lib.hid (firstL_zero.2 (fun x hx=>by
    obtain ⟨j,hj⟩:=List.getElem?_of_mem hx
    have:=(List.getElem?_eq_some_iff.1 hj).1
    exact HE.out j x (by omega) hj))
   have hlt':¬ (k:Int) < (ls.length:Int):=by omega
   obtain rfl:k=ls.length:=by omega
   clear hlt
   go_wp2
   rw [HF.out]
   go_end0
   exact ⟨rfl,HB.out⟩
theorem out_O {r:Rat} (h:fits r=false):resN (outQ r)=.tuple #[.string ⟨#[]⟩,.int .i64 5]:=by
 rw [out_ovr,ovr_no h];rfl
section
variable {a b:ByteArray} {p q:Rat} (w:World)
theorem addO (ha:IsT a p) (hb:IsT b q) (hf:fits (p+q)=false) (hr:Res w) :
  Calls Tryz.prog 107 #[.string a,.string b] w fun e w'=>e=.returned (.tuple #[.string ⟨#[]⟩,.int .i64 5])∧Below w.heap.size w w':=by
 refine (ratAdd_any a b w ha.size hb.size hr).mono ?_
 rintro e w' ⟨rfl,h⟩
 rw [two_T ha hb,out_O hf]
 exact ⟨rfl,h⟩
theorem mulO (ha:IsT a p) (hb:IsT b q) (hf:fits (p*q)=false) (hr:Res w) :
  Calls Tryz.prog 130 #[.string a,.string b] w fun e w'=>e=.returned (.tuple #[.string ⟨#[]⟩,.int .i64 5])∧Below w.heap.size w w':=by
 refine (ratMul_any a b w ha.size hb.size hr).mono ?_
 rintro e w' ⟨rfl,h⟩
 rw [two_T ha hb,out_O hf]
 exact ⟨rfl,h⟩
end
theorem lsize:(Tryz.prog.info? 63).map (·.size)=some 2:=by kernel_rfl
theorem bsize:(Tryz.prog.info? 183).map (·.size)=some 2:=by kernel_rfl
theorem run_errno {W:World} {e:Nat} {n:Int} (h:Blk W e 32 #[.int .i64 n]):(loadVar 32 ⟨e,0,none⟩).run Tryz.prog W=.ok (.int .i64 n) W:=by
 have hc:=cell0 h
 simp [go_sem,hc]
theorem load_loss {W:World} {g:Nat} {t:TypeId} {u v:Value} (h:Blk W g t #[u,v]):(loadVar 63 ⟨g,0,none⟩).run Tryz.prog W=.ok (.agg #[u,v]) W :=
 run_loadVar_row W g t 63 #[u,v] (0,0) _ h Tryz.underlying63 rfl lsize
theorem load_bound {W:World} {g:Nat} {t:TypeId} {u v:Value} (h:Blk W g t #[u,v]):(loadVar 183 ⟨g,0,none⟩).run Tryz.prog W=.ok (.agg #[u,v]) W :=
 run_loadVar_row W g t 183 #[u,v] (0,0) _ h Tryz.underlying183 rfl bsize
section
variable {fn:Func} {p q u:Tmp} {tmps:Array Value} {W:World} {g e:Nat} {T:TypeId} {x:Value} {n:Int}
theorem run_cell (h:fn.results=#[.cell p T]) (hp:tmps.getD p undef=.pointer (some ⟨g,0,none⟩)) (hg:(loadVar T ⟨g,0,none⟩).run Tryz.prog W=.ok x W):(results fn tmps).run Tryz.prog W=.ok x W:=by
 have hp':tmps[p]?.getD undef=.pointer (some ⟨g,0,none⟩):=by simpa using hp
 simp only [results,h]
 simp [hp',asAddr,hg]
theorem run_cell_tmp (h:fn.results=#[.cell p T,.tmp u]) (hp:tmps.getD p undef=.pointer (some ⟨g,0,none⟩)) (hg:(loadVar T ⟨g,0,none⟩).run Tryz.prog W=.ok x W) :
  (results fn tmps).run Tryz.prog W=.ok (.tuple #[x,tmps.getD u undef]) W:=by
 rw [results_cell_tmp h,hp]
 simp only [asAddr,Sem.run_pure,Result.andThen_ok]
 rw [hg]
 rfl
theorem run_cell_errno (h:fn.results=#[.cell p T,.cell q 32]) (hp:tmps.getD p undef=.pointer (some ⟨g,0,none⟩)) (hg:(loadVar T ⟨g,0,none⟩).run Tryz.prog W=.ok x W)
  (hq:tmps.getD q undef=.pointer (some ⟨e,0,none⟩)) (he:Blk W e 32 #[.int .i64 n]) :
  (results fn tmps).run Tryz.prog W=.ok (.tuple #[x,.int .i64 n]) W:=by
 have h2:=run_errno he
 have hp':tmps[p]?.getD undef=.pointer (some ⟨g,0,none⟩):=by simpa using hp
 have hq':tmps[q]?.getD undef=.pointer (some ⟨e,0,none⟩):=by simpa using hq
 simp only [results,h]
 simp [Sem.run_bind,Result.andThen,hp',hq',asAddr,hg,h2]
theorem run_tmp_errno (h:fn.results=#[.tmp u,.cell q 32]) (hu:tmps.getD u undef=x) (hq:tmps.getD q undef=.pointer (some ⟨e,0,none⟩)) (he:Blk W e 32 #[.int .i64 n]) :
  (results fn tmps).run Tryz.prog W=.ok (.tuple #[x,.int .i64 n]) W:=by
 have h2:=run_errno he
 have hq':tmps[q]?.getD undef=.pointer (some ⟨e,0,none⟩):=by simpa using hq
 have hu':tmps[u]?.getD undef=x:=by simpa using hu
 simp only [results,h]
 simp [Result.andThen,hq',hu',asAddr,h2]
end
end Go.Proofs.YtigapglmipmbeaaGreatDoor
