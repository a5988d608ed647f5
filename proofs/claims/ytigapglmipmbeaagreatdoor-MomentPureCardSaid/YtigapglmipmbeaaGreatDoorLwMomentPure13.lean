/- The reference's Add, Mul, Sub, Div (printed by mkradd.py). The reference's Order of rational numbers, Cmp, Min, Max (printed by mkrord.py). The reference's Power of natural numbers; odd. The reference's functions of one number: Neg, Abs, Inv, Sign (printed by mkrone.py). Powers that are too great. -/
import Derived.Test.YtigapglmipmbeaaGreatDoorLwMomentPure12
import Derived.Test.YtigapglmipmbeaaGreatDoorLwMomentPure08
import Derived.Test.YtigapglmipmbeaaGreatDoorLwMomentPure10
import Derived.Laws.Bits128
import Derived.Test.YtigapglmipmbeaaGreatDoorLwMomentPure11
set_option maxRecDepth 100000
set_option maxHeartbeats 16000000
namespace Go.Proofs.YtigapglmipmbeaaGreatDoor
open Go.RowKit Go.Shelf
open Lim
attribute [local go_sem] Oper.semAt_some
theorem refAdd_err1 (a b:ByteArray) (w:World) (ha:a.size≤270000) (_hb:b.size≤270000) (he:errQ a.data.toList≠0) :
  Calls Tryz.prog 59 #[.string a,.string b] w fun e w'=>e=.returned (.tuple #[.string ⟨#[]⟩,.int .i64 (errQ a.data.toList:Int)])∧Below w.heap.size w w':=by
 have HE:=Lib.hid he
 have hne:((errQ a.data.toList:Int)==0)=false:=by rw [beq_eq_false_iff_ne];omega
 clear he
 go_enter Tryz.func59,Tryz.ntmps59
 go_wp2_with (go_at_call 152;refine (two_err a b _ ha HE.out).mono ?_;rintro e w1 ⟨v,v',rfl,hs,hs',hb⟩;obtain ⟨q0,q1,q2,q3,q4,q5,q6,rfl⟩:=hs;obtain ⟨p0,p1,p2,p3,p4,p5,p6,rfl⟩:=hs';have HB:=Lib.hid hb;clear hb)
 refine bodyPost_ret (results_tmp2 rfl _ _ _) rfl ?_
 exact ⟨rfl,below_alloc (below_alloc HB.out _) _⟩
theorem refAdd_err2 (a b:ByteArray) (w:World) (ha:a.size≤270000) (hb:b.size≤270000) (he:errQ a.data.toList=0) (he2:errQ b.data.toList≠0) :
  Calls Tryz.prog 59 #[.string a,.string b] w fun e w'=>e=.returned (.tuple #[.string ⟨#[]⟩,.int .i64 (errQ b.data.toList:Int)])∧Below w.heap.size w w':=by
 have HE:=Lib.hid he
 have HE2:=Lib.hid he2
 have hne:((errQ b.data.toList:Int)==0)=false:=by rw [beq_eq_false_iff_ne];omega
 clear he2
 clear he
 go_enter Tryz.func59,Tryz.ntmps59
 go_wp2_with (go_at_call 152;refine (two_err2 a b _ ha hb HE.out HE2.out).mono ?_;rintro e w1 ⟨v,v',rfl,hs,hs',hb⟩;obtain ⟨q0,q1,q2,q3,q4,q5,q6,rfl⟩:=hs;obtain ⟨p0,p1,p2,p3,p4,p5,p6,rfl⟩:=hs';have HB:=Lib.hid hb;clear hb)
 refine bodyPost_ret (results_tmp2 rfl _ _ _) rfl ?_
 exact ⟨rfl,below_alloc (below_alloc HB.out _) _⟩
theorem refAdd_ok (a b:ByteArray) (w:World) (ha:a.size≤270000) (hb:b.size≤270000) (he:errQ a.data.toList=0) (he2:errQ b.data.toList=0) :
  Calls Tryz.prog 59 #[.string a,.string b] w fun e w'=>e=.returned (resN (outQ ((valQ a.data.toList)+(valQ b.data.toList))))∧Below w.heap.size w w':=by
 have HT:=Lib.hid (fun w=>two_ok a b w ha hb he he2)
 have sp:=sz_max he
 have sq:=sz_max he2
 generalize valQ a.data.toList=p at *
 generalize valQ b.data.toList=q at *
 obtain ⟨lp,lp'⟩:=sz_limbs sp
 obtain ⟨lq,lq'⟩:=sz_limbs sq
 clear he he2
 obtain ⟨lr,lr'⟩:=sz_limbs2 (sp.add sq) (by unfold maxD;omega)
 have HW:=Lib.hid (fun v w h=>rwriteQ_any (p+q) v w h lr lr')
 generalize outQ (p+q)=r at HW ⊢
 unfold resN at HW
 clear lr lr' sp sq
 go_enter Tryz.func59,Tryz.ntmps59
 go_wp2_with (first
  | (go_at_call 152;refine (HT.out _).mono ?_;rintro e w1 ⟨v,v',rfl,hv,hv',hb⟩;obtain ⟨bp,N,D,A,c,A',c',rfl,hn,hd,HP⟩:=isQ_open hv;obtain ⟨bq,N',D',B,d,B',d',rfl,hn',hd',HQ⟩:=isQ_open hv';have HV:=Lib.hid hv;have HV':=Lib.hid hv';have HB:=Lib.hid hb;have HX:=Lib.hid (below_alloc (below_alloc (Below.refl w1.heap.size w1) (.cells #[.bool bp,.slice A (toL N).length c,.slice A' (toL D).length c'] 170)) (.cells #[.bool bq,.slice B (toL N').length d,.slice B' (toL D').length d'] 170));have HBX:=Lib.hid (HB.out.trans (HX.out.mono HB.out.size));clear hb hv hv' hn hd hn' hd')
  | (go_at_call 154;refine (rplusQ_any p q _ _ _ (HV.out.below HX.out) (HV'.out.below HX.out) (by omega) (by omega) (by omega) (by omega)).mono ?_;rintro e w2 ⟨v2,rfl,hv2,hb2⟩;obtain ⟨b2,N2,D2,A2,c2,A2',c2',rfl,_,_,_⟩:=isQ_open hv2;have HV2:=Lib.hid hv2;have HB2:=Lib.hid (HBX.out.trans (hb2.mono HBX.out.size));clear hv2 hb2)
  | (go_at_call 153;refine (HW.out _ _ HV2.out).mono ?_;rintro e w3 ⟨rfl,hb3⟩;have HB3:=Lib.hid (HB2.out.trans (hb3.mono HB2.out.size));clear hb3))
 refine bodyPost_ret (results_tmp2 rfl _ _ _) rfl ?_
 exact ⟨rfl,HB3.out⟩
theorem refAdd_any (a b:ByteArray) (w:World) (ha:a.size≤270000) (hb:b.size≤270000) :
  Calls Tryz.prog 59 #[.string a,.string b] w fun e w'=>e=.returned (resN (twoQ (fun p q=>outQ (p+q)) a.data.toList b.data.toList))∧Below w.heap.size w w':=by
 unfold twoQ
 by_cases he:errQ a.data.toList=0
 ·rw [if_neg (by omega)]
  by_cases he2:errQ b.data.toList=0
  ·rw [if_neg (by omega)]
   exact refAdd_ok a b w ha hb he he2
  ·rw [if_pos he2]
   exact refAdd_err2 a b w ha hb he he2
 ·rw [if_pos he]
  exact refAdd_err1 a b w ha hb he
theorem refMul_err1 (a b:ByteArray) (w:World) (ha:a.size≤270000) (_hb:b.size≤270000) (he:errQ a.data.toList≠0) :
  Calls Tryz.prog 149 #[.string a,.string b] w fun e w'=>e=.returned (.tuple #[.string ⟨#[]⟩,.int .i64 (errQ a.data.toList:Int)])∧Below w.heap.size w w':=by
 have HE:=Lib.hid he
 have hne:((errQ a.data.toList:Int)==0)=false:=by rw [beq_eq_false_iff_ne];omega
 clear he
 go_enter Tryz.func149,Tryz.ntmps149
 go_wp2_with (go_at_call 152;refine (two_err a b _ ha HE.out).mono ?_;rintro e w1 ⟨v,v',rfl,hs,hs',hb⟩;obtain ⟨q0,q1,q2,q3,q4,q5,q6,rfl⟩:=hs;obtain ⟨p0,p1,p2,p3,p4,p5,p6,rfl⟩:=hs';have HB:=Lib.hid hb;clear hb)
 refine bodyPost_ret (results_tmp2 rfl _ _ _) rfl ?_
 exact ⟨rfl,below_alloc (below_alloc HB.out _) _⟩
theorem refMul_err2 (a b:ByteArray) (w:World) (ha:a.size≤270000) (hb:b.size≤270000) (he:errQ a.data.toList=0) (he2:errQ b.data.toList≠0) :
  Calls Tryz.prog 149 #[.string a,.string b] w fun e w'=>e=.returned (.tuple #[.string ⟨#[]⟩,.int .i64 (errQ b.data.toList:Int)])∧Below w.heap.size w w':=by
 have HE:=Lib.hid he
 have HE2:=Lib.hid he2
 have hne:((errQ b.data.toList:Int)==0)=false:=by rw [beq_eq_false_iff_ne];omega
 clear he2
 clear he
 go_enter Tryz.func149,Tryz.ntmps149
 go_wp2_with (go_at_call 152;refine (two_err2 a b _ ha hb HE.out HE2.out).mono ?_;rintro e w1 ⟨v,v',rfl,hs,hs',hb⟩;obtain ⟨q0,q1,q2,q3,q4,q5,q6,rfl⟩:=hs;obtain ⟨p0,p1,p2,p3,p4,p5,p6,rfl⟩:=hs';have HB:=Lib.hid hb;clear hb)
 refine bodyPost_ret (results_tmp2 rfl _ _ _) rfl ?_
 exact ⟨rfl,below_alloc (below_alloc HB.out _) _⟩
theorem refMul_ok (a b:ByteArray) (w:World) (ha:a.size≤270000) (hb:b.size≤270000) (he:errQ a.data.toList=0) (he2:errQ b.data.toList=0) :
  Calls Tryz.prog 149 #[.string a,.string b] w fun e w'=>e=.returned (resN (outQ ((valQ a.data.toList)*(valQ b.data.toList))))∧Below w.heap.size w w':=by
 have HT:=Lib.hid (fun w=>two_ok a b w ha hb he he2)
 have sp:=sz_max he
 have sq:=sz_max he2
 generalize valQ a.data.toList=p at *
 generalize valQ b.data.toList=q at *
 obtain ⟨lp,lp'⟩:=sz_limbs sp
 obtain ⟨lq,lq'⟩:=sz_limbs sq
 clear he he2
 obtain ⟨lr,lr'⟩:=sz_limbs2 (sp.mul sq) (by unfold maxD;omega)
 have HW:=Lib.hid (fun v w h=>rwriteQ_any (p*q) v w h lr lr')
 generalize outQ (p*q)=r at HW ⊢
 unfold resN at HW
 clear lr lr' sp sq
 go_enter Tryz.func149,Tryz.ntmps149
 go_wp2_with (first
  | (go_at_call 152;refine (HT.out _).mono ?_;rintro e w1 ⟨v,v',rfl,hv,hv',hb⟩;obtain ⟨bp,N,D,A,c,A',c',rfl,hn,hd,HP⟩:=isQ_open hv;obtain ⟨bq,N',D',B,d,B',d',rfl,hn',hd',HQ⟩:=isQ_open hv';have HV:=Lib.hid hv;have HV':=Lib.hid hv';have HB:=Lib.hid hb;have HX:=Lib.hid (below_alloc (below_alloc (Below.refl w1.heap.size w1) (.cells #[.bool bp,.slice A (toL N).length c,.slice A' (toL D).length c'] 170)) (.cells #[.bool bq,.slice B (toL N').length d,.slice B' (toL D').length d'] 170));have HBX:=Lib.hid (HB.out.trans (HX.out.mono HB.out.size));clear hb hv hv' hn hd hn' hd')
  | (go_at_call 229;refine (rtimesQ_any p q _ _ _ (HV.out.below HX.out) (HV'.out.below HX.out) (by omega) (by omega) (by omega) (by omega)).mono ?_;rintro e w2 ⟨v2,rfl,hv2,hb2⟩;obtain ⟨b2,N2,D2,A2,c2,A2',c2',rfl,_,_,_⟩:=isQ_open hv2;have HV2:=Lib.hid hv2;have HB2:=Lib.hid (HBX.out.trans (hb2.mono HBX.out.size));clear hv2 hb2)
  | (go_at_call 153;refine (HW.out _ _ HV2.out).mono ?_;rintro e w3 ⟨rfl,hb3⟩;have HB3:=Lib.hid (HB2.out.trans (hb3.mono HB2.out.size));clear hb3))
 refine bodyPost_ret (results_tmp2 rfl _ _ _) rfl ?_
 exact ⟨rfl,HB3.out⟩
theorem refMul_any (a b:ByteArray) (w:World) (ha:a.size≤270000) (hb:b.size≤270000) :
  Calls Tryz.prog 149 #[.string a,.string b] w fun e w'=>e=.returned (resN (twoQ (fun p q=>outQ (p*q)) a.data.toList b.data.toList))∧Below w.heap.size w w':=by
 unfold twoQ
 by_cases he:errQ a.data.toList=0
 ·rw [if_neg (by omega)]
  by_cases he2:errQ b.data.toList=0
  ·rw [if_neg (by omega)]
   exact refMul_ok a b w ha hb he he2
  ·rw [if_pos he2]
   exact refMul_err2 a b w ha hb he he2
 ·rw [if_pos he]
  exact refMul_err1 a b w ha hb he
theorem refSub_err1 (a b:ByteArray) (w:World) (ha:a.size≤270000) (_hb:b.size≤270000) (he:errQ a.data.toList≠0) :
  Calls Tryz.prog 61 #[.string a,.string b] w fun e w'=>e=.returned (.tuple #[.string ⟨#[]⟩,.int .i64 (errQ a.data.toList:Int)])∧Below w.heap.size w w':=by
 have HE:=Lib.hid he
 have hne:((errQ a.data.toList:Int)==0)=false:=by rw [beq_eq_false_iff_ne];omega
 clear he
 go_enter Tryz.func61,Tryz.ntmps61
 go_wp2_with (go_at_call 152;refine (two_err a b _ ha HE.out).mono ?_;rintro e w1 ⟨v,v',rfl,hs,hs',hb⟩;obtain ⟨q0,q1,q2,q3,q4,q5,q6,rfl⟩:=hs;obtain ⟨p0,p1,p2,p3,p4,p5,p6,rfl⟩:=hs';have HB:=Lib.hid hb;clear hb)
 refine bodyPost_ret (results_tmp2 rfl _ _ _) rfl ?_
 exact ⟨rfl,below_alloc (below_alloc HB.out _) _⟩
theorem refSub_err2 (a b:ByteArray) (w:World) (ha:a.size≤270000) (hb:b.size≤270000) (he:errQ a.data.toList=0) (he2:errQ b.data.toList≠0) :
  Calls Tryz.prog 61 #[.string a,.string b] w fun e w'=>e=.returned (.tuple #[.string ⟨#[]⟩,.int .i64 (errQ b.data.toList:Int)])∧Below w.heap.size w w':=by
 have HE:=Lib.hid he
 have HE2:=Lib.hid he2
 have hne:((errQ b.data.toList:Int)==0)=false:=by rw [beq_eq_false_iff_ne];omega
 clear he2
 clear he
 go_enter Tryz.func61,Tryz.ntmps61
 go_wp2_with (go_at_call 152;refine (two_err2 a b _ ha hb HE.out HE2.out).mono ?_;rintro e w1 ⟨v,v',rfl,hs,hs',hb⟩;obtain ⟨q0,q1,q2,q3,q4,q5,q6,rfl⟩:=hs;obtain ⟨p0,p1,p2,p3,p4,p5,p6,rfl⟩:=hs';have HB:=Lib.hid hb;clear hb)
 refine bodyPost_ret (results_tmp2 rfl _ _ _) rfl ?_
 exact ⟨rfl,below_alloc (below_alloc HB.out _) _⟩
theorem refSub_ok (a b:ByteArray) (w:World) (ha:a.size≤270000) (hb:b.size≤270000) (he:errQ a.data.toList=0) (he2:errQ b.data.toList=0) :
  Calls Tryz.prog 61 #[.string a,.string b] w fun e w'=>e=.returned (resN (outQ ((valQ a.data.toList)+-(valQ b.data.toList))))∧Below w.heap.size w w':=by
 have HT:=Lib.hid (fun w=>two_ok a b w ha hb he he2)
 have sp:=sz_max he
 have sq:=sz_max he2
 generalize valQ a.data.toList=p at *
 generalize valQ b.data.toList=q at *
 obtain ⟨lp,lp'⟩:=sz_limbs sp
 obtain ⟨lq,lq'⟩:=sz_limbs sq
 clear he he2
 obtain ⟨lr,lr'⟩:=sz_limbs2 (sp.add sq.neg) (by unfold maxD;omega)
 obtain ⟨_,hq2,hq3⟩:=neg_parts q
 have HW:=Lib.hid (fun v w h=>rwriteQ_any (p+-q) v w h lr lr')
 generalize outQ (p+-q)=r at HW ⊢
 unfold resN at HW
 clear lr lr' sp sq
 refine (callsIn_wide (n:=3)).1 ?_
 have h1:1≤3:=by omega
 have hmx:Tryz.prog.follows .mixedOrders=true:=by kernel_rfl
 refine callsIn_of_wp Tryz.func61 rfl trivial ?_ rfl
 simp only [Tryz.ntmps61,List.size_toArray,List.length_cons,List.length_nil,Nat.reduceAdd,Nat.reduceSub,Array.replicate_succ,Array.replicate_zero,List.push_toArray,List.append_toArray,List.nil_append,List.cons_append]
 gi_upto_region 4 with fail
 refine ⟨trivial,?_⟩
 refine (callsIn_wide.2 (HT.out w)).mono ?_
 rintro e w1 ⟨v,v',rfl,hv,hv',hb⟩
 obtain ⟨bp,N,D,A,c,A',c',rfl,hn,hd,HP⟩:=isQ_open hv
 obtain ⟨bq,N',D',B,d,B',d',rfl,hn',hd',HQ⟩:=isQ_open hv'
 have HV:=Lib.hid hv
 have HV':=Lib.hid hv'
 have HB:=Lib.hid hb
 have HX:=Lib.hid (below_alloc (below_alloc (Below.refl w1.heap.size w1) (.cells #[.bool bp,.slice A (toL N).length c,.slice A' (toL D).length c'] 170)) (.cells #[.bool bq,.slice B (toL N').length d,.slice B' (toL D').length d'] 170))
 have HBX:=Lib.hid (HB.out.trans (HX.out.mono HB.out.size))
 clear hb hv hv' hn hd hn' hd'
 gi_upto_region 4 with fail
 have b0:Blk ((w1.alloc (.cells #[.bool bp,.slice A (toL N).length c,.slice A' (toL D).length c'] 170)).alloc (.cells #[.bool bq,.slice B (toL N').length d,.slice B' (toL D').length d'] 170)) w1.heap.size 170 #[.bool bp,.slice A (toL N).length c,.slice A' (toL D).length c']:=(Blk.new w1 _ _).alloc _
 have b1:Blk ((w1.alloc (.cells #[.bool bp,.slice A (toL N).length c,.slice A' (toL D).length c'] 170)).alloc (.cells #[.bool bq,.slice B (toL N').length d,.slice B' (toL D').length d'] 170)) (w1.heap.size+1) 170 #[.bool bq,.slice B (toL N').length d,.slice B' (toL D').length d']:=by
  have:=Blk.new (w1.alloc (.cells #[.bool bp,.slice A (toL N).length c,.slice A' (toL D).length c'] 170)) 170 #[.bool bq,.slice B (toL N').length d,.slice B' (toL D').length d']
  rwa [World.size_alloc] at this
 have hs:w1.heap.size+1 < ((w1.alloc (.cells #[.bool bp,.slice A (toL N).length c,.slice A' (toL D).length c'] 170)).alloc (.cells #[.bool bq,.slice B (toL N').length d,.slice B' (toL D').length d'] 170)).heap.size:=by simp
 generalize (w1.alloc (.cells #[.bool bp,.slice A (toL N).length c,.slice A' (toL D).length c'] 170)).alloc (.cells #[.bool bq,.slice B (toL N').length d,.slice B' (toL D').length d'] 170)=W at *
 obtain ⟨x0,x1,x2⟩:=same_cells (S:=fun k=>k < W.heap.size) b0 (by omega)
 obtain ⟨y0,y1,y2⟩:=same_cells (S:=fun k=>k < W.heap.size) b1 (by omega)
 have HXD:=Lib.hid (below_drew HX.out)
 clear b0 b1
 refine wpIn_stage (IsSame W (fun k=>k < W.heap.size)) [0,1,5,6,7,8] [] hmx (by kernel_rfl) (isSame_of fun _ _=>rfl) ?_
 change wpStage _ _ _ _ _ _ _ _ (7+2) _ _ _
 refine stage_reads [0,1] 7 _ _ (by kernel_rfl) ?_
 change wpQuietIn _ _ _ _ (fun W'=>∃ x:SameAt W (fun k=>k < W.heap.size),W'=x.W) _ _ _
 simp only [pick_cons,pick_nil,List.getElem?_cons_zero,List.getElem?_cons_succ,Option.elim_some]
 repeat (gi_big_quiet_step (fail))
 refine wpQuietIn_nil ?_
 refine stage_one 2 (by kernel_rfl) rfl ?_
 gi_wp2
 refine ⟨trivial,?_⟩
 refine (callsIn_wide.2 (rnegQ_any q _ W.drew (HV'.out.below HXD.out))).mono ?_
 rintro e w2 ⟨v2,rfl,hv2,hb2⟩
 obtain ⟨b2,N2,D2,A2,c2,A2',c2',rfl,_,_,_⟩:=isQ_open hv2
 have HV2:=Lib.hid hv2
 have hB2:Below W.heap.size W w2:=below_undrew hb2
 have HB2:=Lib.hid hB2
 have HX2:=Lib.hid (HXD.out.trans (hb2.mono HXD.out.size))
 clear hv2 hb2 hB2
 gi_wp2
 refine stage_post (isSame_below HB2.out (fun k hk=>hk)) ?_
 refine stage_one 3 (by kernel_rfl) rfl ?_
 gi_wp2
 refine ⟨trivial,?_⟩
 refine (callsIn_wide.2 (rplusQ_any p (-q) _ _ w2 (HV.out.below HX2.out) HV2.out (by omega) (by omega) (by rw [hq2];omega) (by rw [hq3];omega))).mono ?_
 rintro e w3 ⟨v3,rfl,hv3,hb3⟩
 obtain ⟨b3,N3,D3,A3,c3,A3',c3',rfl,_,_,_⟩:=isQ_open hv3
 have HV3:=Lib.hid hv3
 have HB3:=Lib.hid (HB2.out.trans (hb3.mono HB2.out.size))
 clear hv3 hb3
 gi_wp2
 refine stage_post (isSame_below HB3.out (fun k hk=>hk)) ?_
 refine stage_one 4 (by kernel_rfl) rfl ?_
 gi_wp2
 refine ⟨trivial,?_⟩
 refine (callsIn_wide.2 (HW.out _ w3 HV3.out)).mono ?_
 rintro e w4 ⟨rfl,hb4⟩
 have HB4:=Lib.hid (HB3.out.trans (hb4.mono HB3.out.size))
 clear hb4
 gi_wp2
 refine stage_post (isSame_below HB4.out (fun k hk=>hk)) ?_
 change wpStage _ _ _ _ _ _ _ _ (0+4) _ _ _
 refine stage_reads [5,6,7,8] 0 _ _ (by kernel_rfl) ?_
 change wpQuietIn _ _ _ _ (fun W'=>∃ x:SameAt W (fun k=>k < W.heap.size),W'=x.W) _ _ _
 simp only [pick_cons,pick_nil,List.getElem?_cons_zero,List.getElem?_cons_succ,Option.elim_some]
 repeat (gi_big_quiet_step (fail))
 refine wpQuietIn_nil ?_
 refine stage_done (by kernel_rfl) ?_
 gi_wp2
 refine bodyPost_ret (results_tmp2 rfl _ _ _) rfl ?_
 exact ⟨rfl,HB.out.trans ((HX.out.trans (HB4.out.mono HX.out.size)).mono HB.out.size)⟩
theorem refSub_any (a b:ByteArray) (w:World) (ha:a.size≤270000) (hb:b.size≤270000) :
  Calls Tryz.prog 61 #[.string a,.string b] w fun e w'=>e=.returned (resN (twoQ (fun p q=>outQ (p+-q)) a.data.toList b.data.toList))∧Below w.heap.size w w':=by
 unfold twoQ
 by_cases he:errQ a.data.toList=0
 ·rw [if_neg (by omega)]
  by_cases he2:errQ b.data.toList=0
  ·rw [if_neg (by omega)]
   exact refSub_ok a b w ha hb he he2
  ·rw [if_pos he2]
   exact refSub_err2 a b w ha hb he he2
 ·rw [if_pos he]
  exact refSub_err1 a b w ha hb he
theorem refDiv_err1 (a b:ByteArray) (w:World) (ha:a.size≤270000) (_hb:b.size≤270000) (he:errQ a.data.toList≠0) :
  Calls Tryz.prog 160 #[.string a,.string b] w fun e w'=>e=.returned (.tuple #[.string ⟨#[]⟩,.int .i64 (errQ a.data.toList:Int)])∧Below w.heap.size w w':=by
 have HE:=Lib.hid he
 have hne:((errQ a.data.toList:Int)==0)=false:=by rw [beq_eq_false_iff_ne];omega
 clear he
 go_enter Tryz.func160,Tryz.ntmps160
 go_wp2_with (go_at_call 152;refine (two_err a b _ ha HE.out).mono ?_;rintro e w1 ⟨v,v',rfl,hs,hs',hb⟩;obtain ⟨q0,q1,q2,q3,q4,q5,q6,rfl⟩:=hs;obtain ⟨p0,p1,p2,p3,p4,p5,p6,rfl⟩:=hs';have HB:=Lib.hid hb;clear hb)
 refine bodyPost_ret (results_tmp2 rfl _ _ _) rfl ?_
 exact ⟨rfl,below_alloc (below_alloc HB.out _) _⟩
theorem refDiv_err2 (a b:ByteArray) (w:World) (ha:a.size≤270000) (hb:b.size≤270000) (he:errQ a.data.toList=0) (he2:errQ b.data.toList≠0) :
  Calls Tryz.prog 160 #[.string a,.string b] w fun e w'=>e=.returned (.tuple #[.string ⟨#[]⟩,.int .i64 (errQ b.data.toList:Int)])∧Below w.heap.size w w':=by
 have HE:=Lib.hid he
 have HE2:=Lib.hid he2
 have hne:((errQ b.data.toList:Int)==0)=false:=by rw [beq_eq_false_iff_ne];omega
 clear he2
 clear he
 go_enter Tryz.func160,Tryz.ntmps160
 go_wp2_with (go_at_call 152;refine (two_err2 a b _ ha hb HE.out HE2.out).mono ?_;rintro e w1 ⟨v,v',rfl,hs,hs',hb⟩;obtain ⟨q0,q1,q2,q3,q4,q5,q6,rfl⟩:=hs;obtain ⟨p0,p1,p2,p3,p4,p5,p6,rfl⟩:=hs';have HB:=Lib.hid hb;clear hb)
 refine bodyPost_ret (results_tmp2 rfl _ _ _) rfl ?_
 exact ⟨rfl,below_alloc (below_alloc HB.out _) _⟩
theorem refDiv_ok (a b:ByteArray) (w:World) (ha:a.size≤270000) (hb:b.size≤270000) (he:errQ a.data.toList=0) (he2:errQ b.data.toList=0) (h0:valQ b.data.toList≠0) :
  Calls Tryz.prog 160 #[.string a,.string b] w fun e w'=>e=.returned (resN (outQ ((valQ a.data.toList)*(valQ b.data.toList)⁻¹)))∧Below w.heap.size w w':=by
 have HT:=Lib.hid (fun w=>two_ok a b w ha hb he he2)
 have sp:=sz_max he
 have sq:=sz_max he2
 generalize valQ a.data.toList=p at *
 generalize valQ b.data.toList=q at *
 obtain ⟨lp,lp'⟩:=sz_limbs sp
 obtain ⟨lq,lq'⟩:=sz_limbs sq
 clear he he2
 obtain ⟨lr,lr'⟩:=sz_limbs2 (sp.mul sq.inv) (by unfold maxD;omega)
 obtain ⟨_,hq2,hq3⟩:=inv_parts h0
 have HZ:=Lib.hid h0
 have HNZ:=Lib.hid (fun (N:Nat) (h:nm q=N)=>show (((toL N).length:Int)==0)=false by rw [len_zero,decide_eq_false (fun h2=>h0 (nm_zero.1 (h.trans h2)))])
 clear h0
 have HW:=Lib.hid (fun v w h=>rwriteQ_any (p*q⁻¹) v w h lr lr')
 generalize outQ (p*q⁻¹)=r at HW ⊢
 unfold resN at HW
 clear lr lr' sp sq
 refine (callsIn_wide (n:=3)).1 ?_
 have h1:1≤3:=by omega
 have hmx:Tryz.prog.follows .mixedOrders=true:=by kernel_rfl
 refine callsIn_of_wp Tryz.func160 rfl trivial ?_ rfl
 simp only [Tryz.ntmps160,List.size_toArray,List.length_cons,List.length_nil,Nat.reduceAdd,Nat.reduceSub,Array.replicate_succ,Array.replicate_zero,List.push_toArray,List.append_toArray,List.nil_append,List.cons_append]
 gi_upto_region 6 with fail
 refine ⟨trivial,?_⟩
 refine (callsIn_wide.2 (HT.out w)).mono ?_
 rintro e w1 ⟨v,v',rfl,hv,hv',hb⟩
 obtain ⟨bp,N,D,A,c,A',c',rfl,hn,hd,HP⟩:=isQ_open hv
 obtain ⟨bq,N',D',B,d,B',d',rfl,hn',hd',HQ⟩:=isQ_open hv'
 have HV:=Lib.hid hv
 have HV':=Lib.hid hv'
 have HB:=Lib.hid hb
 have HX:=Lib.hid (below_alloc (below_alloc (Below.refl w1.heap.size w1) (.cells #[.bool bp,.slice A (toL N).length c,.slice A' (toL D).length c'] 170)) (.cells #[.bool bq,.slice B (toL N').length d,.slice B' (toL D').length d'] 170))
 have HBX:=Lib.hid (HB.out.trans (HX.out.mono HB.out.size))
 have hln:=HNZ.out _ HQ.out.2.1
 clear hb hv hv' hn hd hn' hd'
 gi_upto_region 6 with fail
 have b0:Blk ((w1.alloc (.cells #[.bool bp,.slice A (toL N).length c,.slice A' (toL D).length c'] 170)).alloc (.cells #[.bool bq,.slice B (toL N').length d,.slice B' (toL D').length d'] 170)) w1.heap.size 170 #[.bool bp,.slice A (toL N).length c,.slice A' (toL D).length c']:=(Blk.new w1 _ _).alloc _
 have b1:Blk ((w1.alloc (.cells #[.bool bp,.slice A (toL N).length c,.slice A' (toL D).length c'] 170)).alloc (.cells #[.bool bq,.slice B (toL N').length d,.slice B' (toL D').length d'] 170)) (w1.heap.size+1) 170 #[.bool bq,.slice B (toL N').length d,.slice B' (toL D').length d']:=by
  have:=Blk.new (w1.alloc (.cells #[.bool bp,.slice A (toL N).length c,.slice A' (toL D).length c'] 170)) 170 #[.bool bq,.slice B (toL N').length d,.slice B' (toL D').length d']
  rwa [World.size_alloc] at this
 have hs:w1.heap.size+1 < ((w1.alloc (.cells #[.bool bp,.slice A (toL N).length c,.slice A' (toL D).length c'] 170)).alloc (.cells #[.bool bq,.slice B (toL N').length d,.slice B' (toL D').length d'] 170)).heap.size:=by simp
 generalize (w1.alloc (.cells #[.bool bp,.slice A (toL N).length c,.slice A' (toL D).length c'] 170)).alloc (.cells #[.bool bq,.slice B (toL N').length d,.slice B' (toL D').length d'] 170)=W at *
 obtain ⟨x0,x1,x2⟩:=same_cells (S:=fun k=>k < W.heap.size) b0 (by omega)
 obtain ⟨y0,y1,y2⟩:=same_cells (S:=fun k=>k < W.heap.size) b1 (by omega)
 have HXD:=Lib.hid (below_drew HX.out)
 clear b0 b1
 refine wpIn_stage (IsSame W (fun k=>k < W.heap.size)) [0,1,5,6,7,8] [] hmx (by kernel_rfl) (isSame_of fun _ _=>rfl) ?_
 change wpStage _ _ _ _ _ _ _ _ (7+2) _ _ _
 refine stage_reads [0,1] 7 _ _ (by kernel_rfl) ?_
 change wpQuietIn _ _ _ _ (fun W'=>∃ x:SameAt W (fun k=>k < W.heap.size),W'=x.W) _ _ _
 simp only [pick_cons,pick_nil,List.getElem?_cons_zero,List.getElem?_cons_succ,Option.elim_some]
 repeat (gi_big_quiet_step (fail))
 refine wpQuietIn_nil ?_
 refine stage_one 2 (by kernel_rfl) rfl ?_
 gi_wp2
 refine ⟨trivial,?_⟩
 refine (callsIn_wide.2 (rover_any q _ W.drew (HV'.out.below HXD.out) HZ.out)).mono ?_
 rintro e w2 ⟨v2,rfl,hv2,hb2⟩
 obtain ⟨b2,N2,D2,A2,c2,A2',c2',rfl,_,_,_⟩:=isQ_open hv2
 have HV2:=Lib.hid hv2
 have hB2:Below W.heap.size W w2:=below_undrew hb2
 have HB2:=Lib.hid hB2
 have HX2:=Lib.hid (HXD.out.trans (hb2.mono HXD.out.size))
 clear hv2 hb2 hB2
 gi_wp2
 refine stage_post (isSame_below HB2.out (fun k hk=>hk)) ?_
 refine stage_one 3 (by kernel_rfl) rfl ?_
 gi_wp2
 refine ⟨trivial,?_⟩
 refine (callsIn_wide.2 (rtimesQ_any p q⁻¹ _ _ w2 (HV.out.below HX2.out) HV2.out (by omega) (by omega) (by rw [hq2];omega) (by rw [hq3];omega))).mono ?_
 rintro e w3 ⟨v3,rfl,hv3,hb3⟩
 obtain ⟨b3,N3,D3,A3,c3,A3',c3',rfl,_,_,_⟩:=isQ_open hv3
 have HV3:=Lib.hid hv3
 have HB3:=Lib.hid (HB2.out.trans (hb3.mono HB2.out.size))
 clear hv3 hb3
 gi_wp2
 refine stage_post (isSame_below HB3.out (fun k hk=>hk)) ?_
 refine stage_one 4 (by kernel_rfl) rfl ?_
 gi_wp2
 refine ⟨trivial,?_⟩
 refine (callsIn_wide.2 (HW.out _ w3 HV3.out)).mono ?_
 rintro e w4 ⟨rfl,hb4⟩
 have HB4:=Lib.hid (HB3.out.trans (hb4.mono HB3.out.size))
 clear hb4
 gi_wp2
 refine stage_post (isSame_below HB4.out (fun k hk=>hk)) ?_
 change wpStage _ _ _ _ _ _ _ _ (0+4) _ _ _
 refine stage_reads [5,6,7,8] 0 _ _ (by kernel_rfl) ?_
 change wpQuietIn _ _ _ _ (fun W'=>∃ x:SameAt W (fun k=>k < W.heap.size),W'=x.W) _ _ _
 simp only [pick_cons,pick_nil,List.getElem?_cons_zero,List.getElem?_cons_succ,Option.elim_some]
 repeat (gi_big_quiet_step (fail))
 refine wpQuietIn_nil ?_
 refine stage_done (by kernel_rfl) ?_
 gi_wp2
 refine bodyPost_ret (results_tmp2 rfl _ _ _) rfl ?_
 exact ⟨rfl,HB.out.trans ((HX.out.trans (HB4.out.mono HX.out.size)).mono HB.out.size)⟩
theorem refDivZ_ok (a b:ByteArray) (w:World) (ha:a.size≤270000) (hb:b.size≤270000) (he:errQ a.data.toList=0) (he2:errQ b.data.toList=0) (h0:valQ b.data.toList=0) :
  Calls Tryz.prog 160 #[.string a,.string b] w fun e w'=>e=.returned (.tuple #[.string ⟨#[]⟩,.int .i64 6])∧Below w.heap.size w w':=by
 have HT:=Lib.hid (fun w=>two_ok a b w ha hb he he2)
 have sp:=sz_max he
 have sq:=sz_max he2
 generalize valQ a.data.toList=p at *
 generalize valQ b.data.toList=q at *
 obtain ⟨lp,lp'⟩:=sz_limbs sp
 obtain ⟨lq,lq'⟩:=sz_limbs sq
 clear he he2
 have HNZ:=Lib.hid (fun (N:Nat) (h:nm q=N)=>show (((toL N).length:Int)==0)=true by rw [len_zero,decide_eq_true (by rw [← h,h0];rfl)])
 clear h0 sp sq
 go_enter Tryz.func160,Tryz.ntmps160
 go_wp2_with (go_at_call 152;refine (HT.out _).mono ?_;rintro e w1 ⟨v,v',rfl,hv,hv',hb⟩;obtain ⟨bp,N,D,A,c,A',c',rfl,hn,hd,HP⟩:=isQ_open hv;obtain ⟨bq,N',D',B,d,B',d',rfl,hn',hd',HQ⟩:=isQ_open hv';have HV:=Lib.hid hv;have HV':=Lib.hid hv';have HB:=Lib.hid hb;have HX:=Lib.hid (below_alloc (below_alloc (Below.refl w1.heap.size w1) (.cells #[.bool bp,.slice A (toL N).length c,.slice A' (toL D).length c'] 170)) (.cells #[.bool bq,.slice B (toL N').length d,.slice B' (toL D').length d'] 170));have HBX:=Lib.hid (HB.out.trans (HX.out.mono HB.out.size));clear hb hv hv' hn hd hn' hd';have hln:=HNZ.out _ HQ.out.2.1)
 refine bodyPost_ret (results_tmp2 rfl _ _ _) rfl ?_
 exact ⟨rfl,HBX.out⟩
theorem refDiv_any (a b:ByteArray) (w:World) (ha:a.size≤270000) (hb:b.size≤270000) :
  Calls Tryz.prog 160 #[.string a,.string b] w fun e w'=>e=.returned (resN (twoQ divQ a.data.toList b.data.toList))∧Below w.heap.size w w':=by
 unfold twoQ
 by_cases he:errQ a.data.toList=0
 ·rw [if_neg (by omega)]
  by_cases he2:errQ b.data.toList=0
  ·rw [if_neg (by omega)]
   unfold divQ
   by_cases h0:valQ b.data.toList=0
   ·rw [if_pos h0]
    exact refDivZ_ok a b w ha hb he he2 h0
   ·rw [if_neg h0]
    exact refDiv_ok a b w ha hb he he2 h0
  ·rw [if_pos he2]
   exact refDiv_err2 a b w ha hb he he2
 ·rw [if_pos he]
  exact refDiv_err1 a b w ha hb he
theorem sgQ_sub (p q:Rat):sgQ (p+-q)=cmpQ p q:=by
 rw [sgQ_num,← Rat.sub_eq_add_neg]
 unfold cmpQ
 have h1:p < q↔(p - q).num < 0:=by
  rw [← Rat.not_le,← Int.not_le,Rat.num_nonneg,← Rat.le_iff_sub_nonneg]
 have h2:p=q↔(p - q).num=0:=by
  rw [Rat.num_eq_zero]
  constructor
  ·rintro rfl;exact Rat.sub_self
  ·intro h
   have:=congrArg (·+q) h
   simpa [Rat.sub_add_cancel,Rat.zero_add] using this
 by_cases h:p < q
 ·rw [if_pos h,if_pos (h1.1 h)]
 ·rw [if_neg h,if_neg (fun x=>h (h1.2 x))]
  by_cases h':p=q
  ·rw [if_pos h',if_pos (h2.1 h')]
  ·rw [if_neg h',if_neg (fun x=>h' (h2.2 x))]
theorem boxq2_blk (w:World) (m vn vd m' vn' vd':Value):Blk ((w.alloc (.cells #[m,vn,vd] 170)).alloc (.cells #[m',vn',vd'] 170)) w.heap.size 170 #[m,vn,vd] ∧
  Blk ((w.alloc (.cells #[m,vn,vd] 170)).alloc (.cells #[m',vn',vd'] 170)) (w.heap.size+1) 170 #[m',vn',vd'] ∧
  Below w.heap.size w ((w.alloc (.cells #[m,vn,vd] 170)).alloc (.cells #[m',vn',vd'] 170))∧((w.alloc (.cells #[m,vn,vd] 170)).alloc (.cells #[m',vn',vd'] 170)).heap.size=w.heap.size+2:=by
 refine ⟨(Blk.new w _ _).alloc _,?_,below_alloc (below_alloc (Below.refl _ _) _) _,by simp⟩
 have:=Blk.new (w.alloc (.cells #[m,vn,vd] 170)) 170 #[m',vn',vd']
 rwa [World.size_alloc] at this
theorem rord_zero (p q:Rat) (v v':Value) (w:World) (h:IsQ w v p) (h':IsQ w v' q) (l1:(toL (nm p)).length≤10000) (l2:(toL p.den).length≤10000) (l3:(toL (nm q)).length≤10000) (l4:(toL q.den).length≤10000) (hX:sgQ (p+-q)=0) :
  Calls Tryz.prog 201 #[v,v'] w fun e w'=>e=.returned (.int .i64 0)∧Below w.heap.size w w':=by
 have HV:=Lib.hid h
 have HV':=Lib.hid h'
 have HF:=Lib.hid (fun (b:Bool) (N:Nat) (h:ng (p+-q)=b∧nm (p+-q)=N)=>show (((toL N).length:Int)==0)=true∧b=b from by
  unfold sgQ at hX
  split at hX
  ·rename_i h0
   exact ⟨by rw [len_zero,← h.2,decide_eq_true h0],rfl⟩
  ·split at hX<;>cases hX)
 clear hX
 obtain ⟨_,hq2,hq3⟩:=neg_parts q
 obtain ⟨bp,N,D,A,c,A',c',rfl,_,_,_⟩:=isQ_open h
 obtain ⟨bq,N',D',B,d,B',d',rfl,_,_,_⟩:=isQ_open h'
 clear h h'
 refine (callsIn_wide (n:=3)).1 ?_
 have h1:1≤3:=by omega
 have hmx:Tryz.prog.follows .mixedOrders=true:=by kernel_rfl
 refine callsIn_of_wp Tryz.func201 rfl trivial ?_ rfl
 simp only [Tryz.ntmps201,List.size_toArray,List.length_cons,List.length_nil,Nat.reduceAdd,Nat.reduceSub,Array.replicate_succ,Array.replicate_zero,List.push_toArray,List.append_toArray,List.nil_append,List.cons_append]
 gi_upto_region 1 with fail
 obtain ⟨k0,k1,hX,hs⟩:=boxq2_blk w (.bool bp) (.slice A (toL N).length c) (.slice A' (toL D).length c') (.bool bq) (.slice B (toL N').length d) (.slice B' (toL D').length d')
 generalize (w.alloc (.cells #[.bool bp,.slice A (toL N).length c,.slice A' (toL D).length c'] 170)).alloc (.cells #[.bool bq,.slice B (toL N').length d,.slice B' (toL D').length d'] 170)=W at *
 obtain ⟨x0,x1,x2⟩:=same_cells (S:=fun k=>k < W.heap.size) k0 (by omega)
 obtain ⟨y0,y1,y2⟩:=same_cells (S:=fun k=>k < W.heap.size) k1 (by omega)
 have HX:=Lib.hid (below_drew hX)
 have hW0:Below W.heap.size W W:=Below.refl _ _
 clear k0 k1 hX hs
 refine wpIn_stage (IsSame W (fun k=>k < W.heap.size)) [0,1] [] hmx (by kernel_rfl) (isSame_of fun _ _=>rfl) ?_
 change wpStage _ _ _ _ _ _ _ _ (4+2) _ _ _
 refine stage_reads [0,1] 4 _ _ (by kernel_rfl) ?_
 change wpQuietIn _ _ _ _ (fun W'=>∃ x:SameAt W (fun k=>k < W.heap.size),W'=x.W) _ _ _
 simp only [pick_cons,pick_nil,List.getElem?_cons_zero,List.getElem?_cons_succ,Option.elim_some]
 repeat (gi_big_quiet_step (fail))
 refine wpQuietIn_nil ?_
 refine stage_two 2 4 (by kernel_rfl) rfl rfl ?_ ?_
 ·gi_wp2
  refine ⟨trivial,?_⟩
  refine (callsIn_wide.2 (rnegQ_any q _ W.drew (HV'.out.below (HX.out.trans ((below_drew3 (below_drew hW0)).mono HX.out.size))))).mono ?_
  rintro e w2 ⟨v2,rfl,hv2,hb2⟩
  obtain ⟨b2,N2,D2,A2,c2,A2',c2',rfl,_,_,_⟩:=isQ_open hv2
  have HV2:=Lib.hid hv2
  have hB2:Below W.heap.size W w2:=below_undrew hb2
  have HB2:=Lib.hid hB2
  clear hv2 hb2 hB2
  gi_wp2
  refine stage_post (isSame_below HB2.out (fun k hk=>hk)) ?_
  refine stage_two 3 4 (by kernel_rfl) rfl rfl ?_ ?_
  ·gi_wp2
   refine ⟨trivial,?_⟩
   refine (callsIn_wide.2 (rplusQ_any p (-q) _ _ w2 (HV.out.below (HX.out.trans ((below_drew3 HB2.out).mono HX.out.size))) (HV2.out) (by omega) (by omega) (by rw [hq2];omega) (by rw [hq3];omega))).mono ?_
   rintro e w3 ⟨v3,rfl,hv3,hb3⟩
   obtain ⟨b3,N3,D3,A3,c3,A3',c3',rfl,_,_,HQ3⟩:=isQ_open hv3
   obtain ⟨f1,f2⟩:=HF.out _ _ ⟨HQ3.out.1,HQ3.out.2.1⟩
   have HB3:=Lib.hid (HB2.out.trans (hb3.mono HB2.out.size))
   clear hv3 hb3
   gi_wp2
   refine stage_post (isSame_below HB3.out (fun k hk=>hk)) ?_
   refine stage_one 4 (by kernel_rfl) rfl ?_
   gi_wp2
   refine stage_post (isSame_below (HB3.out.alloc HB3.out.size zQ) (fun k hk=>hk)) ?_
   refine stage_one 5 (by kernel_rfl) rfl ?_
   gi_wp2
   refine stage_post (isSame_below (HB3.out.alloc HB3.out.size _) (fun k hk=>hk)) ?_
   refine stage_done (by kernel_rfl) ?_
   gi_wp2
   refine bodyPost_ret (results_tmp rfl _ _ _) rfl ?_
   exact ⟨rfl,HX.out.trans ((below_drew3 (HB3.out.alloc HB3.out.size _)).mono HX.out.size)⟩
  ·gi_wp2
   have HB4:=Lib.hid (HB2.out.alloc HB2.out.size zQ)
   have HP4:=Lib.hid (zq_new w2)
   have hal:=below_alloc (Below.refl w2.heap.size w2) zQ
   have HV2:=Lib.hid (HV2.out.below hal)
   clear hal
   have hg5:=HB2.out.size
   generalize w2.heap.size=g5 at *
   generalize w2.alloc zQ=w4 at *
   refine stage_post (isSame_below HB4.out (fun k hk=>hk)) ?_
   refine stage_one 3 (by kernel_rfl) rfl ?_
   gi_wp2
   refine ⟨trivial,?_⟩
   refine (callsIn_wide.2 (rplusQ_any p (-q) _ _ w4 (HV.out.below (HX.out.trans ((below_drew3 HB4.out).mono HX.out.size))) (HV2.out) (by omega) (by omega) (by rw [hq2];omega) (by rw [hq3];omega))).mono ?_
   rintro e w3 ⟨v3,rfl,hv3,hb3⟩
   obtain ⟨b3,N3,D3,A3,c3,A3',c3',rfl,_,_,HQ3⟩:=isQ_open hv3
   obtain ⟨f1,f2⟩:=HF.out _ _ ⟨HQ3.out.1,HQ3.out.2.1⟩
   have HB3:=Lib.hid (HB4.out.trans (hb3.mono HB4.out.size))
   obtain ⟨⟨r0,s0⟩,⟨r1,s1⟩,r2,s2⟩:=cells6Q (HP4.out.below hb3 HP4.out.lt)
   have HP3:=Lib.hid (HP4.out.below hb3 HP4.out.lt)
   clear hv3 hb3
   gi_wp2
   refine stage_post (isSame_below HB3.out (fun k hk=>hk)) ?_
   refine stage_one 5 (by kernel_rfl) rfl ?_
   gi_wp2
   have HB5:=Lib.hid (set3_below (x:=.bool b3) (y:=.slice A3 (toL N3).length c3) (z:=.slice A3' (toL D3).length c3') HB3.out hg5)
   refine stage_post (isSame_below HB5.out (fun k hk=>hk)) ?_
   obtain ⟨z0,z1,z2⟩:=rows3 (set3 (x:=.bool b3) (y:=.slice A3 (toL N3).length c3) (z:=.slice A3' (toL D3).length c3') HP3.out)
   clear r0 r1 r2 s0 s1 s2
   refine stage_done (by kernel_rfl) ?_
   gi_wp2
   refine bodyPost_ret (results_tmp rfl _ _ _) rfl ?_
   exact ⟨rfl,HX.out.trans ((below_drew3 HB5.out).mono HX.out.size)⟩
 ·gi_wp2
  have hz4:Below W.heap.size W (W.alloc zQ):=below_alloc (Below.refl _ _) _
  have HZ4:=Lib.hid (below_drew hz4)
  have HP0:=Lib.hid (show Blk (W.alloc zQ).drew W.heap.size 170 #[.bool false,.slice none 0 0,.slice none 0 0] from zq_new W)
  clear hz4
  have hg5:=Nat.le_refl W.heap.size
  generalize (W.alloc zQ).drew=w4 at *
  refine stage_post (isSame_below HZ4.out (fun k hk=>hk)) ?_
  refine stage_one 2 (by kernel_rfl) rfl ?_
  gi_wp2
  refine ⟨trivial,?_⟩
  refine (callsIn_wide.2 (rnegQ_any q _ w4 (HV'.out.below (HX.out.trans ((below_drew3 HZ4.out).mono HX.out.size))))).mono ?_
  rintro e w2 ⟨v2,rfl,hv2,hb2⟩
  obtain ⟨b2,N2,D2,A2,c2,A2',c2',rfl,_,_,_⟩:=isQ_open hv2
  have HV2:=Lib.hid hv2
  have HB2:=Lib.hid (HZ4.out.trans (hb2.mono HZ4.out.size))
  have HP4:=Lib.hid (HP0.out.below hb2 HP0.out.lt)
  clear hv2 hb2
  gi_wp2
  refine stage_post (isSame_below HB2.out (fun k hk=>hk)) ?_
  refine stage_one 3 (by kernel_rfl) rfl ?_
  gi_wp2
  refine ⟨trivial,?_⟩
  refine (callsIn_wide.2 (rplusQ_any p (-q) _ _ w2 (HV.out.below (HX.out.trans ((below_drew3 HB2.out).mono HX.out.size))) (HV2.out) (by omega) (by omega) (by rw [hq2];omega) (by rw [hq3];omega))).mono ?_
  rintro e w3 ⟨v3,rfl,hv3,hb3⟩
  obtain ⟨b3,N3,D3,A3,c3,A3',c3',rfl,_,_,HQ3⟩:=isQ_open hv3
  obtain ⟨f1,f2⟩:=HF.out _ _ ⟨HQ3.out.1,HQ3.out.2.1⟩
  have HB3:=Lib.hid (HB2.out.trans (hb3.mono HB2.out.size))
  obtain ⟨⟨r0,s0⟩,⟨r1,s1⟩,r2,s2⟩:=cells6Q (HP4.out.below hb3 HP4.out.lt)
  have HP3:=Lib.hid (HP4.out.below hb3 HP4.out.lt)
  clear hv3 hb3
  gi_wp2
  refine stage_post (isSame_below HB3.out (fun k hk=>hk)) ?_
  refine stage_one 5 (by kernel_rfl) rfl ?_
  gi_wp2
  have HB5:=Lib.hid (set3_below (x:=.bool b3) (y:=.slice A3 (toL N3).length c3) (z:=.slice A3' (toL D3).length c3') HB3.out hg5)
  refine stage_post (isSame_below HB5.out (fun k hk=>hk)) ?_
  obtain ⟨z0,z1,z2⟩:=rows3 (set3 (x:=.bool b3) (y:=.slice A3 (toL N3).length c3) (z:=.slice A3' (toL D3).length c3') HP3.out)
  clear r0 r1 r2 s0 s1 s2
  refine stage_done (by kernel_rfl) ?_
  gi_wp2
  refine bodyPost_ret (results_tmp rfl _ _ _) rfl ?_
  exact ⟨rfl,HX.out.trans ((below_drew3 HB5.out).mono HX.out.size)⟩
theorem rord_neg (p q:Rat) (v v':Value) (w:World) (h:IsQ w v p) (h':IsQ w v' q) (l1:(toL (nm p)).length≤10000) (l2:(toL p.den).length≤10000) (l3:(toL (nm q)).length≤10000) (l4:(toL q.den).length≤10000) (hX:sgQ (p+-q)=-1) :
  Calls Tryz.prog 201 #[v,v'] w fun e w'=>e=.returned (.int .i64 (-1))∧Below w.heap.size w w':=by
 have HV:=Lib.hid h
 have HV':=Lib.hid h'
 have HF:=Lib.hid (fun (b:Bool) (N:Nat) (h:ng (p+-q)=b∧nm (p+-q)=N)=>show (((toL N).length:Int)==0)=false∧b=true from by
  unfold sgQ at hX
  split at hX
  ·cases hX
  ·rename_i h0
   refine ⟨by rw [len_zero,← h.2,decide_eq_false h0],?_⟩
   rw [← h.1]
   split at hX
   ·assumption
   ·cases hX)
 clear hX
 obtain ⟨_,hq2,hq3⟩:=neg_parts q
 obtain ⟨bp,N,D,A,c,A',c',rfl,_,_,_⟩:=isQ_open h
 obtain ⟨bq,N',D',B,d,B',d',rfl,_,_,_⟩:=isQ_open h'
 clear h h'
 refine (callsIn_wide (n:=3)).1 ?_
 have h1:1≤3:=by omega
 have hmx:Tryz.prog.follows .mixedOrders=true:=by kernel_rfl
 refine callsIn_of_wp Tryz.func201 rfl trivial ?_ rfl
 simp only [Tryz.ntmps201,List.size_toArray,List.length_cons,List.length_nil,Nat.reduceAdd,Nat.reduceSub,Array.replicate_succ,Array.replicate_zero,List.push_toArray,List.append_toArray,List.nil_append,List.cons_append]
 gi_upto_region 1 with fail
 obtain ⟨k0,k1,hX,hs⟩:=boxq2_blk w (.bool bp) (.slice A (toL N).length c) (.slice A' (toL D).length c') (.bool bq) (.slice B (toL N').length d) (.slice B' (toL D').length d')
 generalize (w.alloc (.cells #[.bool bp,.slice A (toL N).length c,.slice A' (toL D).length c'] 170)).alloc (.cells #[.bool bq,.slice B (toL N').length d,.slice B' (toL D').length d'] 170)=W at *
 obtain ⟨x0,x1,x2⟩:=same_cells (S:=fun k=>k < W.heap.size) k0 (by omega)
 obtain ⟨y0,y1,y2⟩:=same_cells (S:=fun k=>k < W.heap.size) k1 (by omega)
 have HX:=Lib.hid (below_drew hX)
 have hW0:Below W.heap.size W W:=Below.refl _ _
 clear k0 k1 hX hs
 refine wpIn_stage (IsSame W (fun k=>k < W.heap.size)) [0,1] [] hmx (by kernel_rfl) (isSame_of fun _ _=>rfl) ?_
 change wpStage _ _ _ _ _ _ _ _ (4+2) _ _ _
 refine stage_reads [0,1] 4 _ _ (by kernel_rfl) ?_
 change wpQuietIn _ _ _ _ (fun W'=>∃ x:SameAt W (fun k=>k < W.heap.size),W'=x.W) _ _ _
 simp only [pick_cons,pick_nil,List.getElem?_cons_zero,List.getElem?_cons_succ,Option.elim_some]
 repeat (gi_big_quiet_step (fail))
 refine wpQuietIn_nil ?_
 refine stage_two 2 4 (by kernel_rfl) rfl rfl ?_ ?_
 ·gi_wp2
  refine ⟨trivial,?_⟩
  refine (callsIn_wide.2 (rnegQ_any q _ W.drew (HV'.out.below (HX.out.trans ((below_drew3 (below_drew hW0)).mono HX.out.size))))).mono ?_
  rintro e w2 ⟨v2,rfl,hv2,hb2⟩
  obtain ⟨b2,N2,D2,A2,c2,A2',c2',rfl,_,_,_⟩:=isQ_open hv2
  have HV2:=Lib.hid hv2
  have hB2:Below W.heap.size W w2:=below_undrew hb2
  have HB2:=Lib.hid hB2
  clear hv2 hb2 hB2
  gi_wp2
  refine stage_post (isSame_below HB2.out (fun k hk=>hk)) ?_
  refine stage_two 3 4 (by kernel_rfl) rfl rfl ?_ ?_
  ·gi_wp2
   refine ⟨trivial,?_⟩
   refine (callsIn_wide.2 (rplusQ_any p (-q) _ _ w2 (HV.out.below (HX.out.trans ((below_drew3 HB2.out).mono HX.out.size))) (HV2.out) (by omega) (by omega) (by rw [hq2];omega) (by rw [hq3];omega))).mono ?_
   rintro e w3 ⟨v3,rfl,hv3,hb3⟩
   obtain ⟨b3,N3,D3,A3,c3,A3',c3',rfl,_,_,HQ3⟩:=isQ_open hv3
   obtain ⟨f1,f2⟩:=HF.out _ _ ⟨HQ3.out.1,HQ3.out.2.1⟩
   subst f2
   have HB3:=Lib.hid (HB2.out.trans (hb3.mono HB2.out.size))
   clear hv3 hb3
   gi_wp2
   refine stage_post (isSame_below HB3.out (fun k hk=>hk)) ?_
   refine stage_one 4 (by kernel_rfl) rfl ?_
   gi_wp2
   refine stage_post (isSame_below (HB3.out.alloc HB3.out.size zQ) (fun k hk=>hk)) ?_
   refine stage_one 5 (by kernel_rfl) rfl ?_
   gi_wp2
   refine stage_post (isSame_below (HB3.out.alloc HB3.out.size _) (fun k hk=>hk)) ?_
   refine stage_done (by kernel_rfl) ?_
   gi_wp2
   refine bodyPost_ret (results_tmp rfl _ _ _) rfl ?_
   exact ⟨rfl,HX.out.trans ((below_drew3 (HB3.out.alloc HB3.out.size _)).mono HX.out.size)⟩
  ·gi_wp2
   have HB4:=Lib.hid (HB2.out.alloc HB2.out.size zQ)
   have HP4:=Lib.hid (zq_new w2)
   have hal:=below_alloc (Below.refl w2.heap.size w2) zQ
   have HV2:=Lib.hid (HV2.out.below hal)
   clear hal
   have hg5:=HB2.out.size
   generalize w2.heap.size=g5 at *
   generalize w2.alloc zQ=w4 at *
   refine stage_post (isSame_below HB4.out (fun k hk=>hk)) ?_
   refine stage_one 3 (by kernel_rfl) rfl ?_
   gi_wp2
   refine ⟨trivial,?_⟩
   refine (callsIn_wide.2 (rplusQ_any p (-q) _ _ w4 (HV.out.below (HX.out.trans ((below_drew3 HB4.out).mono HX.out.size))) (HV2.out) (by omega) (by omega) (by rw [hq2];omega) (by rw [hq3];omega))).mono ?_
   rintro e w3 ⟨v3,rfl,hv3,hb3⟩
   obtain ⟨b3,N3,D3,A3,c3,A3',c3',rfl,_,_,HQ3⟩:=isQ_open hv3
   obtain ⟨f1,f2⟩:=HF.out _ _ ⟨HQ3.out.1,HQ3.out.2.1⟩
   subst f2
   have HB3:=Lib.hid (HB4.out.trans (hb3.mono HB4.out.size))
   obtain ⟨⟨r0,s0⟩,⟨r1,s1⟩,r2,s2⟩:=cells6Q (HP4.out.below hb3 HP4.out.lt)
   have HP3:=Lib.hid (HP4.out.below hb3 HP4.out.lt)
   clear hv3 hb3
   gi_wp2
   refine stage_post (isSame_below HB3.out (fun k hk=>hk)) ?_
   refine stage_one 5 (by kernel_rfl) rfl ?_
   gi_wp2
   have HB5:=Lib.hid (set3_below (x:=.bool true) (y:=.slice A3 (toL N3).length c3) (z:=.slice A3' (toL D3).length c3') HB3.out hg5)
   refine stage_post (isSame_below HB5.out (fun k hk=>hk)) ?_
   obtain ⟨z0,z1,z2⟩:=rows3 (set3 (x:=.bool true) (y:=.slice A3 (toL N3).length c3) (z:=.slice A3' (toL D3).length c3') HP3.out)
   clear r0 r1 r2 s0 s1 s2
   refine stage_done (by kernel_rfl) ?_
   gi_wp2
   refine bodyPost_ret (results_tmp rfl _ _ _) rfl ?_
   exact ⟨rfl,HX.out.trans ((below_drew3 HB5.out).mono HX.out.size)⟩
 ·gi_wp2
  have hz4:Below W.heap.size W (W.alloc zQ):=below_alloc (Below.refl _ _) _
  have HZ4:=Lib.hid (below_drew hz4)
  have HP0:=Lib.hid (show Blk (W.alloc zQ).drew W.heap.size 170 #[.bool false,.slice none 0 0,.slice none 0 0] from zq_new W)
  clear hz4
  have hg5:=Nat.le_refl W.heap.size
  generalize (W.alloc zQ).drew=w4 at *
  refine stage_post (isSame_below HZ4.out (fun k hk=>hk)) ?_
  refine stage_one 2 (by kernel_rfl) rfl ?_
  gi_wp2
  refine ⟨trivial,?_⟩
  refine (callsIn_wide.2 (rnegQ_any q _ w4 (HV'.out.below (HX.out.trans ((below_drew3 HZ4.out).mono HX.out.size))))).mono ?_
  rintro e w2 ⟨v2,rfl,hv2,hb2⟩
  obtain ⟨b2,N2,D2,A2,c2,A2',c2',rfl,_,_,_⟩:=isQ_open hv2
  have HV2:=Lib.hid hv2
  have HB2:=Lib.hid (HZ4.out.trans (hb2.mono HZ4.out.size))
  have HP4:=Lib.hid (HP0.out.below hb2 HP0.out.lt)
  clear hv2 hb2
  gi_wp2
  refine stage_post (isSame_below HB2.out (fun k hk=>hk)) ?_
  refine stage_one 3 (by kernel_rfl) rfl ?_
  gi_wp2
  refine ⟨trivial,?_⟩
  refine (callsIn_wide.2 (rplusQ_any p (-q) _ _ w2 (HV.out.below (HX.out.trans ((below_drew3 HB2.out).mono HX.out.size))) (HV2.out) (by omega) (by omega) (by rw [hq2];omega) (by rw [hq3];omega))).mono ?_
  rintro e w3 ⟨v3,rfl,hv3,hb3⟩
  obtain ⟨b3,N3,D3,A3,c3,A3',c3',rfl,_,_,HQ3⟩:=isQ_open hv3
  obtain ⟨f1,f2⟩:=HF.out _ _ ⟨HQ3.out.1,HQ3.out.2.1⟩
  subst f2
  have HB3:=Lib.hid (HB2.out.trans (hb3.mono HB2.out.size))
  obtain ⟨⟨r0,s0⟩,⟨r1,s1⟩,r2,s2⟩:=cells6Q (HP4.out.below hb3 HP4.out.lt)
  have HP3:=Lib.hid (HP4.out.below hb3 HP4.out.lt)
  clear hv3 hb3
  gi_wp2
  refine stage_post (isSame_below HB3.out (fun k hk=>hk)) ?_
  refine stage_one 5 (by kernel_rfl) rfl ?_
  gi_wp2
  have HB5:=Lib.hid (set3_below (x:=.bool true) (y:=.slice A3 (toL N3).length c3) (z:=.slice A3' (toL D3).length c3') HB3.out hg5)
  refine stage_post (isSame_below HB5.out (fun k hk=>hk)) ?_
  obtain ⟨z0,z1,z2⟩:=rows3 (set3 (x:=.bool true) (y:=.slice A3 (toL N3).length c3) (z:=.slice A3' (toL D3).length c3') HP3.out)
  clear r0 r1 r2 s0 s1 s2
  refine stage_done (by kernel_rfl) ?_
  gi_wp2
  refine bodyPost_ret (results_tmp rfl _ _ _) rfl ?_
  exact ⟨rfl,HX.out.trans ((below_drew3 HB5.out).mono HX.out.size)⟩
theorem rord_pos (p q:Rat) (v v':Value) (w:World) (h:IsQ w v p) (h':IsQ w v' q) (l1:(toL (nm p)).length≤10000) (l2:(toL p.den).length≤10000) (l3:(toL (nm q)).length≤10000) (l4:(toL q.den).length≤10000) (hX:sgQ (p+-q)=1) :
  Calls Tryz.prog 201 #[v,v'] w fun e w'=>e=.returned (.int .i64 1)∧Below w.heap.size w w':=by
 have HV:=Lib.hid h
 have HV':=Lib.hid h'
 have HF:=Lib.hid (fun (b:Bool) (N:Nat) (h:ng (p+-q)=b∧nm (p+-q)=N)=>show (((toL N).length:Int)==0)=false∧b=false from by
  unfold sgQ at hX
  split at hX
  ·cases hX
  ·rename_i h0
   refine ⟨by rw [len_zero,← h.2,decide_eq_false h0],?_⟩
   rw [← h.1]
   split at hX
   ·cases hX
   ·rename_i h1;simpa using h1)
 clear hX
 obtain ⟨_,hq2,hq3⟩:=neg_parts q
 obtain ⟨bp,N,D,A,c,A',c',rfl,_,_,_⟩:=isQ_open h
 obtain ⟨bq,N',D',B,d,B',d',rfl,_,_,_⟩:=isQ_open h'
 clear h h'
 refine (callsIn_wide (n:=3)).1 ?_
 have h1:1≤3:=by omega
 have hmx:Tryz.prog.follows .mixedOrders=true:=by kernel_rfl
 refine callsIn_of_wp Tryz.func201 rfl trivial ?_ rfl
 simp only [Tryz.ntmps201,List.size_toArray,List.length_cons,List.length_nil,Nat.reduceAdd,Nat.reduceSub,Array.replicate_succ,Array.replicate_zero,List.push_toArray,List.append_toArray,List.nil_append,List.cons_append]
 gi_upto_region 1 with fail
 obtain ⟨k0,k1,hX,hs⟩:=boxq2_blk w (.bool bp) (.slice A (toL N).length c) (.slice A' (toL D).length c') (.bool bq) (.slice B (toL N').length d) (.slice B' (toL D').length d')
 generalize (w.alloc (.cells #[.bool bp,.slice A (toL N).length c,.slice A' (toL D).length c'] 170)).alloc (.cells #[.bool bq,.slice B (toL N').length d,.slice B' (toL D').length d'] 170)=W at *
 obtain ⟨x0,x1,x2⟩:=same_cells (S:=fun k=>k < W.heap.size) k0 (by omega)
 obtain ⟨y0,y1,y2⟩:=same_cells (S:=fun k=>k < W.heap.size) k1 (by omega)
 have HX:=Lib.hid (below_drew hX)
 have hW0:Below W.heap.size W W:=Below.refl _ _
 clear k0 k1 hX hs
 refine wpIn_stage (IsSame W (fun k=>k < W.heap.size)) [0,1] [] hmx (by kernel_rfl) (isSame_of fun _ _=>rfl) ?_
 change wpStage _ _ _ _ _ _ _ _ (4+2) _ _ _
 refine stage_reads [0,1] 4 _ _ (by kernel_rfl) ?_
 change wpQuietIn _ _ _ _ (fun W'=>∃ x:SameAt W (fun k=>k < W.heap.size),W'=x.W) _ _ _
 simp only [pick_cons,pick_nil,List.getElem?_cons_zero,List.getElem?_cons_succ,Option.elim_some]
 repeat (gi_big_quiet_step (fail))
 refine wpQuietIn_nil ?_
 refine stage_two 2 4 (by kernel_rfl) rfl rfl ?_ ?_
 ·gi_wp2
  refine ⟨trivial,?_⟩
  refine (callsIn_wide.2 (rnegQ_any q _ W.drew (HV'.out.below (HX.out.trans ((below_drew3 (below_drew hW0)).mono HX.out.size))))).mono ?_
  rintro e w2 ⟨v2,rfl,hv2,hb2⟩
  obtain ⟨b2,N2,D2,A2,c2,A2',c2',rfl,_,_,_⟩:=isQ_open hv2
  have HV2:=Lib.hid hv2
  have hB2:Below W.heap.size W w2:=below_undrew hb2
  have HB2:=Lib.hid hB2
  clear hv2 hb2 hB2
  gi_wp2
  refine stage_post (isSame_below HB2.out (fun k hk=>hk)) ?_
  refine stage_two 3 4 (by kernel_rfl) rfl rfl ?_ ?_
  ·gi_wp2
   refine ⟨trivial,?_⟩
   refine (callsIn_wide.2 (rplusQ_any p (-q) _ _ w2 (HV.out.below (HX.out.trans ((below_drew3 HB2.out).mono HX.out.size))) (HV2.out) (by omega) (by omega) (by rw [hq2];omega) (by rw [hq3];omega))).mono ?_
   rintro e w3 ⟨v3,rfl,hv3,hb3⟩
   obtain ⟨b3,N3,D3,A3,c3,A3',c3',rfl,_,_,HQ3⟩:=isQ_open hv3
   obtain ⟨f1,f2⟩:=HF.out _ _ ⟨HQ3.out.1,HQ3.out.2.1⟩
   subst f2
   have HB3:=Lib.hid (HB2.out.trans (hb3.mono HB2.out.size))
   clear hv3 hb3
   gi_wp2
   refine stage_post (isSame_below HB3.out (fun k hk=>hk)) ?_
   refine stage_one 4 (by kernel_rfl) rfl ?_
   gi_wp2
   refine stage_post (isSame_below (HB3.out.alloc HB3.out.size zQ) (fun k hk=>hk)) ?_
   refine stage_one 5 (by kernel_rfl) rfl ?_
   gi_wp2
   refine stage_post (isSame_below (HB3.out.alloc HB3.out.size _) (fun k hk=>hk)) ?_
   refine stage_done (by kernel_rfl) ?_
   gi_wp2
   refine bodyPost_ret (results_tmp rfl _ _ _) rfl ?_
   exact ⟨rfl,HX.out.trans ((below_drew3 (HB3.out.alloc HB3.out.size _)).mono HX.out.size)⟩
  ·gi_wp2
   have HB4:=Lib.hid (HB2.out.alloc HB2.out.size zQ)
   have HP4:=Lib.hid (zq_new w2)
   have hal:=below_alloc (Below.refl w2.heap.size w2) zQ
   have HV2:=Lib.hid (HV2.out.below hal)
   clear hal
   have hg5:=HB2.out.size
   generalize w2.heap.size=g5 at *
   generalize w2.alloc zQ=w4 at *
   refine stage_post (isSame_below HB4.out (fun k hk=>hk)) ?_
   refine stage_one 3 (by kernel_rfl) rfl ?_
   gi_wp2
   refine ⟨trivial,?_⟩
   refine (callsIn_wide.2 (rplusQ_any p (-q) _ _ w4 (HV.out.below (HX.out.trans ((below_drew3 HB4.out).mono HX.out.size))) (HV2.out) (by omega) (by omega) (by rw [hq2];omega) (by rw [hq3];omega))).mono ?_
   rintro e w3 ⟨v3,rfl,hv3,hb3⟩
   obtain ⟨b3,N3,D3,A3,c3,A3',c3',rfl,_,_,HQ3⟩:=isQ_open hv3
   obtain ⟨f1,f2⟩:=HF.out _ _ ⟨HQ3.out.1,HQ3.out.2.1⟩
   subst f2
   have HB3:=Lib.hid (HB4.out.trans (hb3.mono HB4.out.size))
   obtain ⟨⟨r0,s0⟩,⟨r1,s1⟩,r2,s2⟩:=cells6Q (HP4.out.below hb3 HP4.out.lt)
   have HP3:=Lib.hid (HP4.out.below hb3 HP4.out.lt)
   clear hv3 hb3
   gi_wp2
   refine stage_post (isSame_below HB3.out (fun k hk=>hk)) ?_
   refine stage_one 5 (by kernel_rfl) rfl ?_
   gi_wp2
   have HB5:=Lib.hid (set3_below (x:=.bool false) (y:=.slice A3 (toL N3).length c3) (z:=.slice A3' (toL D3).length c3') HB3.out hg5)
   refine stage_post (isSame_below HB5.out (fun k hk=>hk)) ?_
   obtain ⟨z0,z1,z2⟩:=rows3 (set3 (x:=.bool false) (y:=.slice A3 (toL N3).length c3) (z:=.slice A3' (toL D3).length c3') HP3.out)
   clear r0 r1 r2 s0 s1 s2
   refine stage_done (by kernel_rfl) ?_
   gi_wp2
   refine bodyPost_ret (results_tmp rfl _ _ _) rfl ?_
   exact ⟨rfl,HX.out.trans ((below_drew3 HB5.out).mono HX.out.size)⟩
 ·gi_wp2
  have hz4:Below W.heap.size W (W.alloc zQ):=below_alloc (Below.refl _ _) _
  have HZ4:=Lib.hid (below_drew hz4)
  have HP0:=Lib.hid (show Blk (W.alloc zQ).drew W.heap.size 170 #[.bool false,.slice none 0 0,.slice none 0 0] from zq_new W)
  clear hz4
  have hg5:=Nat.le_refl W.heap.size
  generalize (W.alloc zQ).drew=w4 at *
  refine stage_post (isSame_below HZ4.out (fun k hk=>hk)) ?_
  refine stage_one 2 (by kernel_rfl) rfl ?_
  gi_wp2
  refine ⟨trivial,?_⟩
  refine (callsIn_wide.2 (rnegQ_any q _ w4 (HV'.out.below (HX.out.trans ((below_drew3 HZ4.out).mono HX.out.size))))).mono ?_
  rintro e w2 ⟨v2,rfl,hv2,hb2⟩
  obtain ⟨b2,N2,D2,A2,c2,A2',c2',rfl,_,_,_⟩:=isQ_open hv2
  have HV2:=Lib.hid hv2
  have HB2:=Lib.hid (HZ4.out.trans (hb2.mono HZ4.out.size))
  have HP4:=Lib.hid (HP0.out.below hb2 HP0.out.lt)
  clear hv2 hb2
  gi_wp2
  refine stage_post (isSame_below HB2.out (fun k hk=>hk)) ?_
  refine stage_one 3 (by kernel_rfl) rfl ?_
  gi_wp2
  refine ⟨trivial,?_⟩
  refine (callsIn_wide.2 (rplusQ_any p (-q) _ _ w2 (HV.out.below (HX.out.trans ((below_drew3 HB2.out).mono HX.out.size))) (HV2.out) (by omega) (by omega) (by rw [hq2];omega) (by rw [hq3];omega))).mono ?_
  rintro e w3 ⟨v3,rfl,hv3,hb3⟩
  obtain ⟨b3,N3,D3,A3,c3,A3',c3',rfl,_,_,HQ3⟩:=isQ_open hv3
  obtain ⟨f1,f2⟩:=HF.out _ _ ⟨HQ3.out.1,HQ3.out.2.1⟩
  subst f2
  have HB3:=Lib.hid (HB2.out.trans (hb3.mono HB2.out.size))
  obtain ⟨⟨r0,s0⟩,⟨r1,s1⟩,r2,s2⟩:=cells6Q (HP4.out.below hb3 HP4.out.lt)
  have HP3:=Lib.hid (HP4.out.below hb3 HP4.out.lt)
  clear hv3 hb3
  gi_wp2
  refine stage_post (isSame_below HB3.out (fun k hk=>hk)) ?_
  refine stage_one 5 (by kernel_rfl) rfl ?_
  gi_wp2
  have HB5:=Lib.hid (set3_below (x:=.bool false) (y:=.slice A3 (toL N3).length c3) (z:=.slice A3' (toL D3).length c3') HB3.out hg5)
  refine stage_post (isSame_below HB5.out (fun k hk=>hk)) ?_
  obtain ⟨z0,z1,z2⟩:=rows3 (set3 (x:=.bool false) (y:=.slice A3 (toL N3).length c3) (z:=.slice A3' (toL D3).length c3') HP3.out)
  clear r0 r1 r2 s0 s1 s2
  refine stage_done (by kernel_rfl) ?_
  gi_wp2
  refine bodyPost_ret (results_tmp rfl _ _ _) rfl ?_
  exact ⟨rfl,HX.out.trans ((below_drew3 HB5.out).mono HX.out.size)⟩
theorem rorderQ_any (p q:Rat) (v v':Value) (w:World) (h:IsQ w v p) (h':IsQ w v' q) (l1:(toL (nm p)).length≤10000) (l2:(toL p.den).length≤10000) (l3:(toL (nm q)).length≤10000) (l4:(toL q.den).length≤10000) :
  Calls Tryz.prog 201 #[v,v'] w fun e w'=>e=.returned (.int .i64 (cmpQ p q))∧Below w.heap.size w w':=by
 have hs:=sgQ_sub p q
 rcases cmpQ_cases p q with hX|hX|hX
 ·rw [hX] at hs ⊢
  exact rord_neg p q v v' w h h' l1 l2 l3 l4 hs
 ·rw [hX] at hs ⊢
  exact rord_zero p q v v' w h h' l1 l2 l3 l4 hs
 ·rw [hX] at hs ⊢
  exact rord_pos p q v v' w h h' l1 l2 l3 l4 hs
theorem refCmp_err1 (a b:ByteArray) (w:World) (ha:a.size≤270000) (_hb:b.size≤270000) (he:errQ a.data.toList≠0) :
  Calls Tryz.prog 119 #[.string a,.string b] w fun e w'=>e=.returned (.tuple #[.int .i64 0,.int .i64 (errQ a.data.toList:Int)])∧Below w.heap.size w w':=by
 have HE:=Lib.hid he
 have hne:((errQ a.data.toList:Int)==0)=false:=by rw [beq_eq_false_iff_ne];omega
 clear he
 go_enter Tryz.func119,Tryz.ntmps119
 go_wp2_with (go_at_call 152;refine (two_err a b _ ha HE.out).mono ?_;rintro e w1 ⟨v,v',rfl,hs,hs',hb⟩;obtain ⟨q0,q1,q2,q3,q4,q5,q6,rfl⟩:=hs;obtain ⟨p0,p1,p2,p3,p4,p5,p6,rfl⟩:=hs';have HB:=Lib.hid hb;clear hb)
 refine bodyPost_ret (results_tmp2 rfl _ _ _) rfl ?_
 exact ⟨rfl,below_alloc (below_alloc HB.out _) _⟩
theorem refCmp_err2B (a b:ByteArray) (w:World) (ha:a.size≤270000) (hb:b.size≤9223372036854775807) (he:errQ a.data.toList=0) (he2:errQ b.data.toList≠0) :
  Calls Tryz.prog 119 #[.string a,.string b] w fun e w'=>e=.returned (.tuple #[.int .i64 0,.int .i64 (errQ b.data.toList:Int)])∧Below w.heap.size w w':=by
 have HE:=Lib.hid he
 have HE2:=Lib.hid he2
 have hne:((errQ b.data.toList:Int)==0)=false:=by rw [beq_eq_false_iff_ne];omega
 clear he2
 clear he
 go_enter Tryz.func119,Tryz.ntmps119
 go_wp2_with (go_at_call 152;refine (two_err2B a b _ ha hb HE.out HE2.out).mono ?_;rintro e w1 ⟨v,v',rfl,hs,hs',hb⟩;obtain ⟨q0,q1,q2,q3,q4,q5,q6,rfl⟩:=hs;obtain ⟨p0,p1,p2,p3,p4,p5,p6,rfl⟩:=hs';have HB:=Lib.hid hb;clear hb)
 refine bodyPost_ret (results_tmp2 rfl _ _ _) rfl ?_
 exact ⟨rfl,below_alloc (below_alloc HB.out _) _⟩
theorem refCmp_err2 (a b:ByteArray) (w:World) (ha:a.size≤270000) (hb:b.size≤270000) (he:errQ a.data.toList=0) (he2:errQ b.data.toList≠0) :
  Calls Tryz.prog 119 #[.string a,.string b] w fun e w'=>e=.returned (.tuple #[.int .i64 0,.int .i64 (errQ b.data.toList:Int)])∧Below w.heap.size w w':=refCmp_err2B a b w ha (by omega) he he2
theorem refCmp_ok (a b:ByteArray) (w:World) (ha:a.size≤270000) (hb:b.size≤270000) (he:errQ a.data.toList=0) (he2:errQ b.data.toList=0) :
  Calls Tryz.prog 119 #[.string a,.string b] w fun e w'=>e=.returned (.tuple #[.int .i64 (cmpQ (valQ a.data.toList) (valQ b.data.toList)),.int .i64 0])∧Below w.heap.size w w':=by
 have HT:=Lib.hid (fun w=>two_ok a b w ha hb he he2)
 have sp:=sz_max he
 have sq:=sz_max he2
 generalize valQ a.data.toList=p at *
 generalize valQ b.data.toList=q at *
 obtain ⟨lp,lp'⟩:=sz_limbs sp
 obtain ⟨lq,lq'⟩:=sz_limbs sq
 clear he he2
 have HO:=Lib.hid (fun v v' w h h'=>rorderQ_any p q v v' w h h' (by omega) (by omega) (by omega) (by omega))
 generalize cmpQ p q=r at HO ⊢
 clear sp sq
 go_enter Tryz.func119,Tryz.ntmps119
 go_wp2_with (first
  | (go_at_call 152;refine (HT.out _).mono ?_;rintro e w1 ⟨v,v',rfl,hv,hv',hb⟩;obtain ⟨bp,N,D,A,c,A',c',rfl,hn,hd,HP⟩:=isQ_open hv;obtain ⟨bq,N',D',B,d,B',d',rfl,hn',hd',HQ⟩:=isQ_open hv';have HV:=Lib.hid hv;have HV':=Lib.hid hv';have HB:=Lib.hid hb;have HX:=Lib.hid (below_alloc (below_alloc (Below.refl w1.heap.size w1) (.cells #[.bool bp,.slice A (toL N).length c,.slice A' (toL D).length c'] 170)) (.cells #[.bool bq,.slice B (toL N').length d,.slice B' (toL D').length d'] 170));have HBX:=Lib.hid (HB.out.trans (HX.out.mono HB.out.size));clear hb hv hv' hn hd hn' hd')
  | (go_at_call 201;refine (HO.out _ _ _ (HV.out.below HX.out) (HV'.out.below HX.out)).mono ?_;rintro e w2 ⟨rfl,hb2⟩;have HB2:=Lib.hid (HBX.out.trans (hb2.mono HBX.out.size));clear hb2))
 refine bodyPost_ret (results_tmp2 rfl _ _ _) rfl ?_
 exact ⟨rfl,HB2.out⟩
theorem refCmp_any (a b:ByteArray) (w:World) (ha:a.size≤270000) (hb:b.size≤270000) :
  Calls Tryz.prog 119 #[.string a,.string b] w fun e w'=>e=.returned (resI (twoI (fun p q=>(cmpQ p q,0)) a.data.toList b.data.toList))∧Below w.heap.size w w':=by
 unfold twoI
 by_cases he:errQ a.data.toList=0
 ·rw [if_neg (by omega)]
  by_cases he2:errQ b.data.toList=0
  ·rw [if_neg (by omega)]
   exact refCmp_ok a b w ha hb he he2
  ·rw [if_pos he2]
   exact refCmp_err2 a b w ha hb he he2
 ·rw [if_pos he]
  exact refCmp_err1 a b w ha hb he
theorem refMin_any (a b:ByteArray) (w:World) (ha:a.size≤270000) (hb:b.size≤270000) :
  Calls Tryz.prog 270 #[.string a,.string b] w fun e w'=>e=.returned (resS (chooseQ (twoI (fun p q=>(cmpQ p q,0)) a.data.toList b.data.toList) (1) a b))∧Below w.heap.size w w':=by
 have HB:=Lib.hid (refCmp_any a b w ha hb)
 obtain ⟨z1,z2⟩:=twoI_bound a.data.toList b.data.toList
 generalize twoI (fun p q=>(cmpQ p q,0)) a.data.toList b.data.toList=r at HB z1 z2 ⊢
 obtain ⟨c,e0⟩:=r
 dsimp only at z1 z2
 unfold resI at HB
 unfold chooseQ resS
 dsimp only at HB ⊢
 by_cases he:e0=0
 ·subst he
  rw [if_neg (by omega)]
  by_cases hp:c≤0
  ·rw [if_neg (by omega)]
   have hp':decide (c≤0)=true:=decide_eq_true hp
   go_enter Tryz.func270,Tryz.ntmps270
   go_wp2_with (go_at_call 119;refine HB.out.mono ?_;rintro e w2 ⟨rfl,hb2⟩;have HB2:=Lib.hid hb2;clear hb2)
   refine bodyPost_ret (results_tmp2 rfl _ _ _) rfl ?_
   exact ⟨rfl,HB2.out⟩
  ·rw [if_pos (by omega)]
   have hp':decide (c≤0)=false:=decide_eq_false hp
   go_enter Tryz.func270,Tryz.ntmps270
   go_wp2_with (go_at_call 119;refine HB.out.mono ?_;rintro e w2 ⟨rfl,hb2⟩;have HB2:=Lib.hid hb2;clear hb2)
   refine bodyPost_ret (results_tmp2 rfl _ _ _) rfl ?_
   exact ⟨rfl,HB2.out⟩
 ·rw [if_pos he]
  have hne:((e0:Int)==0)=false:=by rw [beq_eq_false_iff_ne];omega
  have HE:=Lib.hid he
  clear he
  go_enter Tryz.func270,Tryz.ntmps270
  go_wp2_with (go_at_call 119;refine HB.out.mono ?_;rintro e w2 ⟨rfl,hb2⟩;have HB2:=Lib.hid hb2;clear hb2)
  refine bodyPost_ret (results_tmp2 rfl _ _ _) rfl ?_
  exact ⟨rfl,HB2.out⟩
theorem refMax_any (a b:ByteArray) (w:World) (ha:a.size≤270000) (hb:b.size≤270000) :
  Calls Tryz.prog 57 #[.string a,.string b] w fun e w'=>e=.returned (resS (chooseQ (twoI (fun p q=>(cmpQ p q,0)) a.data.toList b.data.toList) (-1) a b))∧Below w.heap.size w w':=by
 have HB:=Lib.hid (refCmp_any a b w ha hb)
 obtain ⟨z1,z2⟩:=twoI_bound a.data.toList b.data.toList
 generalize twoI (fun p q=>(cmpQ p q,0)) a.data.toList b.data.toList=r at HB z1 z2 ⊢
 obtain ⟨c,e0⟩:=r
 dsimp only at z1 z2
 unfold resI at HB
 unfold chooseQ resS
 dsimp only at HB ⊢
 by_cases he:e0=0
 ·subst he
  rw [if_neg (by omega)]
  by_cases hp:c ≥ 0
  ·rw [if_neg (by omega)]
   have hp':decide (c ≥ 0)=true:=decide_eq_true hp
   go_enter Tryz.func57,Tryz.ntmps57
   go_wp2_with (go_at_call 119;refine HB.out.mono ?_;rintro e w2 ⟨rfl,hb2⟩;have HB2:=Lib.hid hb2;clear hb2)
   refine bodyPost_ret (results_tmp2 rfl _ _ _) rfl ?_
   exact ⟨rfl,HB2.out⟩
  ·rw [if_pos (by omega)]
   have hp':decide (c ≥ 0)=false:=decide_eq_false hp
   go_enter Tryz.func57,Tryz.ntmps57
   go_wp2_with (go_at_call 119;refine HB.out.mono ?_;rintro e w2 ⟨rfl,hb2⟩;have HB2:=Lib.hid hb2;clear hb2)
   refine bodyPost_ret (results_tmp2 rfl _ _ _) rfl ?_
   exact ⟨rfl,HB2.out⟩
 ·rw [if_pos he]
  have hne:((e0:Int)==0)=false:=by rw [beq_eq_false_iff_ne];omega
  have HE:=Lib.hid he
  clear he
  go_enter Tryz.func57,Tryz.ntmps57
  go_wp2_with (go_at_call 119;refine HB.out.mono ?_;rintro e w2 ⟨rfl,hb2⟩;have HB2:=Lib.hid hb2;clear hb2)
  refine bodyPost_ret (results_tmp2 rfl _ _ _) rfl ?_
  exact ⟨rfl,HB2.out⟩
end Go.Proofs.YtigapglmipmbeaaGreatDoor
namespace Go.Proofs.YtigapglmipmbeaaGreatDoor
open Go.RowKit Go.Shelf
open Lim
theorem half_step (n k:Nat):n / 2 ^ k=2*(n / 2 ^ (k+1))+n / 2 ^ k % 2:=by
 rw [Nat.pow_succ,← Nat.div_div_eq_div_mul];omega
theorem pow_half (x n k:Nat):x ^ (n / 2 ^ k)=if n / 2 ^ k % 2=1 then x ^ (n / 2 ^ (k+1))*x ^ (n / 2 ^ (k+1))*x else x ^ (n / 2 ^ (k+1))*x ^ (n / 2 ^ (k+1)):=by
 conv=>lhs;rw [half_step n k]
 by_cases h:n / 2 ^ k % 2=1
 ·rw [if_pos h,h,Nat.pow_succ,Nat.two_mul,Nat.pow_add]
 ·have h0:n / 2 ^ k % 2=0:=by omega
  rw [if_neg h,h0,Nat.add_zero,Nat.two_mul,Nat.pow_add]
theorem nd_pow_mono {x m n:Nat} (hx:1≤x) (h:m≤n):Lib.nDigits (x ^ m)≤Lib.nDigits (x ^ n):=nDigits_mono (Nat.pow_le_pow_right hx h)
theorem nd_limbs {x:Nat} (h:Lib.nDigits x≤4000):(toL x).length≤445:=limbs_of_nd h (by omega)
theorem i64_and1 (n:Int):bits .and .i64 n 1=n % 2:=by
 have h1:(BitVec.ofInt 64 1).toNat=2 ^ 1 - 1:=by decide
 have key:(BitVec.ofInt 64 n &&& BitVec.ofInt 64 1).toNat=(n % ((2 ^ 64:Nat):Int)).toNat % 2 ^ 1:=by
  rw [BitVec.toNat_and,BitVec.toNat_ofInt,h1,Nat.and_two_pow_sub_one_eq_mod]
 show IntKind.i64.wrap ((BitVec.ofInt 64 n &&& BitVec.ofInt 64 1).toNat:Nat)=n % 2
 rw [key,IntKind.wrap_i64]
 omega
theorem bit_and (n k:Nat):bits .and .i64 ((n:Int) / 2 ^ k) 1=((n / 2 ^ k % 2:Nat):Int):=by
 rw [i64_and1]
 simp
theorem odd_any (n:Int) (w:World) (_h0:-9223372036854775808≤n) (_h1:n≤9223372036854775807) :
  Calls Tryz.prog 271 #[.int .i64 n] w fun e w'=>e=.returned (.bool (decide (n.natAbs % 2=1)))∧w'=w:=by
 have hm:(!(n.tmod 2==0))=decide (n.natAbs % 2=1):=by
  have h:=Int.tmod_eq_emod (a:=n) (b:=2)
  by_cases h2:n.natAbs % 2=1
  ·rw [decide_eq_true h2]
   have:n.tmod 2≠0:=by
    intro e
    have:=Int.natAbs_tmod n 2
    rw [e] at this
    simp at this
    omega
   simp [this]
  ·rw [decide_eq_false h2]
   have:n.tmod 2=0:=by
    have:=Int.natAbs_tmod n 2
    have h3:(n.tmod 2).natAbs=0:=by rw [this];show n.natAbs % 2=0;omega
    exact Int.natAbs_eq_zero.1 h3
   simp [this]
 rw [← hm]
 clear hm
 go_enter Tryz.func271,Tryz.ntmps271
 go_wp2
 go_ret
 exact ⟨rfl,rfl⟩
theorem power_big (x n:Nat) (vx:Value) (w:World) (hx:IsNatI w vx x) (h2:2≤x) (h1:1≤n) (hn:n≤9223372036854775807) (hlx:(toL x).length≤500) :
  Calls Tryz.prog 272 #[vx,.int .i64 (n:Int)] w fun e w'=>∃ v,e=.returned (.tuple #[v,.bool (decide (Lib.nDigits (x ^ n)≤4000))])∧(Lib.nDigits (x ^ n)≤4000→IsNatI w' v (x ^ n))∧(∃ A l c,v=.slice A l c)∧Below w.heap.size w w':=by
 obtain ⟨A,c,rfl,_,_,_⟩:=id hx
 have hb1:=below_alloc (Below.refl w.heap.size w) (.cells #[.int .i64 1] 3)
 have e1:toL 1=[1]:=by rw [toL_pos (by omega)];simp [B_val,toL_zero]
 have h1n:IsNatI (w.alloc (.cells #[.int .i64 1] 3)) (.slice (some ⟨w.heap.size,0,none⟩) 1 1) 1:=by
  refine ⟨some ⟨w.heap.size,0,none⟩,1,by rw [e1];rfl,by rw [e1];decide,by decide,?_⟩
  rw [e1]
  exact (Blk.new w 3 #[.int .i64 1]).row (xs:=[.int .i64 1])
 have HX0:=Lib.hid hx
 have HX:=Lib.hid (hx.below hb1)
 have H1:=Lib.hid h1n
 have HB1:=Lib.hid hb1
 have hsg:decide (sgn x 1≤0)=false:=decide_eq_false (by unfold sgn;rw [if_neg (by omega),if_pos (by omega)];omega)
 have hn0:((n:Int)==0)=false:=by rw [beq_eq_false_iff_ne];omega
 have HL1:=Lib.hid (show (toL 1).length≤100000 by rw [e1];decide)
 have H2:=Lib.hid h2
 clear hx hb1 h1n e1 h2
 go_enter Tryz.func272,Tryz.ntmps272
 go_wp2_with (go_at_call 232;refine (rorder_any x 1 _ _ _ HX.out H1.out (by omega) HL1.out).mono ?_;rintro e w2 ⟨rfl,hb2⟩;have HB2:=Lib.hid (HB1.out.trans (hb2.mono HB1.out.size));have HX2:=Lib.hid (HX.out.below hb2);have H12:=Lib.hid (H1.out.below hb2);clear hb2)
 go_loopw [7,8] (fun v7 s8 wr=>∃ k:Nat,k≤63∧s8=.int .i64 ((k:Int) - 1)∧(∃ A l c,v7=.slice A l c)∧IsNatI wr v7 (x ^ (n / 2 ^ k))∧Lib.nDigits (x ^ (n / 2 ^ k))≤4000∧Below w.heap.size w wr) (fun _ s8 _=>(intOf s8+1).toNat)
 case atStart =>
  have e0:n / 2 ^ 63=0:=Nat.div_eq_of_lt (by omega)
  exact ⟨63,Nat.le_refl _,rfl,⟨_,_,_,rfl⟩,by rw [e0,Nat.pow_zero];exact H12.out,by rw [e0,Nat.pow_zero,Lib.nDigits_small (by omega)];omega,HB2.out⟩
 case round =>
  obtain ⟨k,hk,hs8,⟨A7,l7,c7,rfl⟩,hv7,hd7,hbr⟩:=hrel
  have HBR:=Lib.hid hbr
  have HV7:=Lib.hid hv7
  have HD7:=Lib.hid hd7
  have HX7:=Lib.hid (HX0.out.below hbr)
  clear hv7 hd7 hbr
  rcases Nat.eq_zero_or_pos k with rfl|hkp
  ·rw [show ((0:Nat):Int) - 1=-1 from rfl] at hs8
   subst hs8
   have e1:n / 2 ^ 0=n:=by simp
   go_wp2
   refine bodyPost_ret (results_tmp2 rfl _ _ _) rfl ?_
   have hd:=HD7.out
   have hv:=HV7.out
   rw [e1] at hd hv
   exact ⟨_,by rw [decide_eq_true hd];rfl,fun _=>hv,⟨_,_,_,rfl⟩,HBR.out⟩
  ·obtain ⟨j,rfl⟩:∃ j,k=j+1:=⟨k - 1,by omega⟩
   rw [show ((j+1:Nat):Int) - 1=(j:Int) by omega] at hs8
   subst hs8
   have hj:j≤62:=by omega
   have hmin:min j 64=j:=Nat.min_eq_left (by omega)
   have hph:=pow_half x n j
   have HBA:=Lib.hid (bit_and n j)
   have hmono:Lib.nDigits (x ^ (n / 2 ^ j))≤Lib.nDigits (x ^ n):=nd_pow_mono (by have:=H2.out;omega) (Nat.div_le_self _ _)
   have ly:=nd_limbs HD7.out
   generalize x ^ (n / 2 ^ (j+1))=y at *
   have lyy:(toL (y*y)).length≤890:=Nat.le_trans (toL_mul_len _ _) (by omega)
   have lyx:(toL (y*y*x)).length≤1400:=Nat.le_trans (toL_mul_len _ _) (by omega)
   generalize hz:x ^ (n / 2 ^ j)=z at *
   have HZ:=Lib.hid hz
   clear hz
   have HM:=Lib.hid hmono
   have HLL:=Lib.hid (And.intro ly (And.intro lyy lyx))
   clear hmono ly lyy lyx
   have TK1:True:=trivial
   by_cases hb:n / 2 ^ j % 2=1
   ·rw [if_pos hb] at hph
    have HPH:=Lib.hid hph
    have hbv:bits .and .i64 ((n:Int) / 2 ^ j) 1=1:=by rw [HBA.out,hb];rfl
    clear hph hb
    by_cases hbig:4000 < Lib.nDigits z
    ·have HBIG:=Lib.hid hbig
     clear hbig
     go_wp2_with (first
      | (clear TK1;go_at_call 231;refine (rtimes_any y y _ _ _ HV7.out HV7.out (Nat.le_trans HLL.out.1 (by omega)) (Nat.le_trans HLL.out.1 (by omega))).mono ?_;rintro e w3 ⟨v3,rfl,hv3,hb3⟩;obtain ⟨A3,c3,rfl,_,_,_⟩:=id hv3;have HV3:=Lib.hid hv3;have HB3:=Lib.hid (HBR.out.trans (hb3.mono HBR.out.size));have HX3:=Lib.hid (HX7.out.below hb3);clear hv3 hb3)
      | (go_at_call 231;refine (rtimes_any (y*y) x _ _ _ HV3.out HX3.out (Nat.le_trans HLL.out.2.1 (by omega)) (by omega)).mono ?_;rintro e w4 ⟨v4,rfl,hv4,hb4⟩;obtain ⟨A4,c4,rfl,_,_,_⟩:=id hv4;have HV4:=Lib.hid hv4;have HB4:=Lib.hid (HB3.out.trans (hb4.mono HB3.out.size));clear hv4 hb4)
      | (go_at_call 228;refine (rwrite_is (y*y*x) _ _ HV4.out (Nat.le_trans HLL.out.2.2 (by omega))).mono ?_;rintro e w5 ⟨s5,rfl,hs5,hz5,hb5⟩;rw [← HPH.out] at hz5;have hsz:decide ((4000:Int) < (s5.size:Int))=true:=(decide_eq_true (by have:=HBIG.out;omega));have HB5:=Lib.hid (HB4.out.trans (hb5.mono HB4.out.size));have HVZ:=Lib.hid (HV4.out.below hb5);clear hb5 hz5 hs5))
     refine bodyPost_ret (results_tmp2 rfl _ _ _) rfl ?_
     have hno:¬ Lib.nDigits (x ^ n)≤4000:=by have:=HM.out;have:=HBIG.out;omega
     exact ⟨_,by rw [decide_eq_false hno];rfl,fun h=>absurd h hno,⟨_,_,_,rfl⟩,HB5.out⟩
    ·have HBIG:=Lib.hid hbig
     clear hbig
     go_wp2_with (first
      | (clear TK1;go_at_call 231;refine (rtimes_any y y _ _ _ HV7.out HV7.out (Nat.le_trans HLL.out.1 (by omega)) (Nat.le_trans HLL.out.1 (by omega))).mono ?_;rintro e w3 ⟨v3,rfl,hv3,hb3⟩;obtain ⟨A3,c3,rfl,_,_,_⟩:=id hv3;have HV3:=Lib.hid hv3;have HB3:=Lib.hid (HBR.out.trans (hb3.mono HBR.out.size));have HX3:=Lib.hid (HX7.out.below hb3);clear hv3 hb3)
      | (go_at_call 231;refine (rtimes_any (y*y) x _ _ _ HV3.out HX3.out (Nat.le_trans HLL.out.2.1 (by omega)) (by omega)).mono ?_;rintro e w4 ⟨v4,rfl,hv4,hb4⟩;obtain ⟨A4,c4,rfl,_,_,_⟩:=id hv4;have HV4:=Lib.hid hv4;have HB4:=Lib.hid (HB3.out.trans (hb4.mono HB3.out.size));clear hv4 hb4)
      | (go_at_call 228;refine (rwrite_is (y*y*x) _ _ HV4.out (Nat.le_trans HLL.out.2.2 (by omega))).mono ?_;rintro e w5 ⟨s5,rfl,hs5,hz5,hb5⟩;rw [← HPH.out] at hz5;have hsz:decide ((4000:Int) < (s5.size:Int))=false:=(decide_eq_false (by have:=HBIG.out;omega));have HB5:=Lib.hid (HB4.out.trans (hb5.mono HB4.out.size));have HVZ:=Lib.hid (HV4.out.below hb5);clear hb5 hz5 hs5))
     go_roundw
     case rel =>
      refine ⟨j,by omega,by go_num,⟨_,_,_,rfl⟩,?_,?_,HB5.out⟩
      ·rw [HZ.out,HPH.out];exact HVZ.out
      ·rw [HZ.out];have:=HBIG.out;omega
     case measure=>simp [intOf]<;>omega
   ·rw [if_neg hb] at hph
    have HPH:=Lib.hid hph
    have hbv:bits .and .i64 ((n:Int) / 2 ^ j) 1=0:=by rw [HBA.out,show n / 2 ^ j % 2=0 by omega];rfl
    clear hph hb
    by_cases hbig:4000 < Lib.nDigits z
    ·have HBIG:=Lib.hid hbig
     clear hbig
     go_wp2_with (first
      | (clear TK1;go_at_call 231;refine (rtimes_any y y _ _ _ HV7.out HV7.out (Nat.le_trans HLL.out.1 (by omega)) (Nat.le_trans HLL.out.1 (by omega))).mono ?_;rintro e w3 ⟨v3,rfl,hv3,hb3⟩;obtain ⟨A3,c3,rfl,_,_,_⟩:=id hv3;have HV3:=Lib.hid hv3;have HB3:=Lib.hid (HBR.out.trans (hb3.mono HBR.out.size));have HX3:=Lib.hid (HX7.out.below hb3);clear hv3 hb3)
      | (go_at_call 228;refine (rwrite_is (y*y) _ _ HV3.out (Nat.le_trans HLL.out.2.1 (by omega))).mono ?_;rintro e w5 ⟨s5,rfl,hs5,hz5,hb5⟩;rw [← HPH.out] at hz5;have hsz:decide ((4000:Int) < (s5.size:Int))=true:=(decide_eq_true (by have:=HBIG.out;omega));have HB5:=Lib.hid (HB3.out.trans (hb5.mono HB3.out.size));have HVZ:=Lib.hid (HV3.out.below hb5);clear hb5 hz5 hs5))
     refine bodyPost_ret (results_tmp2 rfl _ _ _) rfl ?_
     have hno:¬ Lib.nDigits (x ^ n)≤4000:=by have:=HM.out;have:=HBIG.out;omega
     exact ⟨_,by rw [decide_eq_false hno];rfl,fun h=>absurd h hno,⟨_,_,_,rfl⟩,HB5.out⟩
    ·have HBIG:=Lib.hid hbig
     clear hbig
     go_wp2_with (first
      | (clear TK1;go_at_call 231;refine (rtimes_any y y _ _ _ HV7.out HV7.out (Nat.le_trans HLL.out.1 (by omega)) (Nat.le_trans HLL.out.1 (by omega))).mono ?_;rintro e w3 ⟨v3,rfl,hv3,hb3⟩;obtain ⟨A3,c3,rfl,_,_,_⟩:=id hv3;have HV3:=Lib.hid hv3;have HB3:=Lib.hid (HBR.out.trans (hb3.mono HBR.out.size));have HX3:=Lib.hid (HX7.out.below hb3);clear hv3 hb3)
      | (go_at_call 228;refine (rwrite_is (y*y) _ _ HV3.out (Nat.le_trans HLL.out.2.1 (by omega))).mono ?_;rintro e w5 ⟨s5,rfl,hs5,hz5,hb5⟩;rw [← HPH.out] at hz5;have hsz:decide ((4000:Int) < (s5.size:Int))=false:=(decide_eq_false (by have:=HBIG.out;omega));have HB5:=Lib.hid (HB3.out.trans (hb5.mono HB3.out.size));have HVZ:=Lib.hid (HV3.out.below hb5);clear hb5 hz5 hs5))
     go_roundw
     case rel =>
      refine ⟨j,by omega,by go_num,⟨_,_,_,rfl⟩,?_,?_,HB5.out⟩
      ·rw [HZ.out,HPH.out];exact HVZ.out
      ·rw [HZ.out];have:=HBIG.out;omega
     case measure=>simp [intOf]<;>omega
theorem power_zero (x:Nat) (vx:Value) (w:World) (hx:IsNatI w vx x) :
  Calls Tryz.prog 272 #[vx,.int .i64 0] w fun e w'=>∃ v,e=.returned (.tuple #[v,.bool true])∧IsNatI w' v 1∧(∃ A l c,v=.slice A l c)∧Below w.heap.size w w':=by
 obtain ⟨A,c,rfl,_,_,_⟩:=hx
 have hb1:=below_alloc (Below.refl w.heap.size w) (.cells #[.int .i64 1] 3)
 have e1:toL 1=[1]:=by rw [toL_pos (by omega)];simp [B_val,toL_zero]
 have h1n:IsNatI (w.alloc (.cells #[.int .i64 1] 3)) (.slice (some ⟨w.heap.size,0,none⟩) 1 1) 1:=by
  refine ⟨some ⟨w.heap.size,0,none⟩,1,by rw [e1];rfl,by rw [e1];decide,by decide,?_⟩
  rw [e1]
  exact (Blk.new w 3 #[.int .i64 1]).row (xs:=[.int .i64 1])
 have H1:=Lib.hid h1n
 have HB1:=Lib.hid hb1
 clear hb1 h1n e1
 go_enter Tryz.func272,Tryz.ntmps272
 go_wp2
 refine bodyPost_ret (results_tmp2 rfl _ _ _) rfl ?_
 exact ⟨_,rfl,H1.out,⟨_,_,_,rfl⟩,HB1.out⟩
theorem power_small (x n:Nat) (vx:Value) (w:World) (hx:IsNatI w vx x) (h2:x≤1) (h1:1≤n) (hn:n≤9223372036854775807) :
  Calls Tryz.prog 272 #[vx,.int .i64 (n:Int)] w fun e w'=>∃ v,e=.returned (.tuple #[v,.bool true])∧IsNatI w' v x∧(∃ A l c,v=.slice A l c)∧Below w.heap.size w w':=by
 have hlx:(toL x).length≤1:=toL_len_le (by rw [B_val];omega)
 obtain ⟨A,c,rfl,_,_,_⟩:=id hx
 have hb1:=below_alloc (Below.refl w.heap.size w) (.cells #[.int .i64 1] 3)
 have e1:toL 1=[1]:=by rw [toL_pos (by omega)];simp [B_val,toL_zero]
 have h1n:IsNatI (w.alloc (.cells #[.int .i64 1] 3)) (.slice (some ⟨w.heap.size,0,none⟩) 1 1) 1:=by
  refine ⟨some ⟨w.heap.size,0,none⟩,1,by rw [e1];rfl,by rw [e1];decide,by decide,?_⟩
  rw [e1]
  exact (Blk.new w 3 #[.int .i64 1]).row (xs:=[.int .i64 1])
 have HX:=Lib.hid (hx.below hb1)
 have H1:=Lib.hid h1n
 have HB1:=Lib.hid hb1
 have hsg:decide (sgn x 1≤0)=true:=decide_eq_true (by unfold sgn;split<;>(try split)<;>omega)
 have hn0:((n:Int)==0)=false:=by rw [beq_eq_false_iff_ne];omega
 have HL1:=Lib.hid (show (toL 1).length≤100000 by rw [e1];decide)
 have HN0:=Lib.hid h1
 clear hx hb1 h1n e1 h2 h1
 go_enter Tryz.func272,Tryz.ntmps272
 go_wp2_with (go_at_call 232;refine (rorder_any x 1 _ _ _ HX.out H1.out (by omega) HL1.out).mono ?_;rintro e w2 ⟨rfl,hb2⟩;have HB2:=Lib.hid (HB1.out.trans (hb2.mono HB1.out.size));have HX2:=Lib.hid (HX.out.below hb2);clear hb2)
 all_goals first
  | (refine bodyPost_ret (results_tmp2 rfl _ _ _) rfl ?_;exact ⟨_,rfl,HX2.out,⟨_,_,_,rfl⟩,HB2.out⟩)
  | (exfalso;have:=HN0.out;omega)
theorem rpower_any (x n:Nat) (vx:Value) (w:World) (hx:IsNatI w vx x) (hn:n≤9223372036854775807) (hlx:(toL x).length≤500) :
  Calls Tryz.prog 272 #[vx,.int .i64 (n:Int)] w fun e w'=>∃ v,e=.returned (.tuple #[v,.bool (decide (Lib.nDigits (x ^ n)≤4000))])∧(Lib.nDigits (x ^ n)≤4000→IsNatI w' v (x ^ n))∧(∃ A l c,v=.slice A l c)∧Below w.heap.size w w':=by
 rcases Nat.eq_zero_or_pos n with rfl|h1
 ·refine (power_zero x vx w hx).mono ?_
  rintro e w' ⟨v,rfl,h,hs,hb⟩
  rw [Nat.pow_zero]
  exact ⟨v,by rw [decide_eq_true (by rw [Lib.nDigits_small (by omega)];omega)],fun _=>h,hs,hb⟩
 ·by_cases h2:2≤x
  ·exact power_big x n vx w hx h2 h1 hn hlx
  ·refine (power_small x n vx w hx (by omega) h1 hn).mono ?_
   rintro e w' ⟨v,rfl,h,hs,hb⟩
   have hxn:x ^ n=x:=by
    rcases (show x=0∨x=1 by omega) with rfl|rfl
    ·exact Nat.zero_pow h1
    ·exact Nat.one_pow n
   rw [hxn]
   exact ⟨v,by rw [decide_eq_true (by rw [Lib.nDigits_small (by omega)];omega)],fun _=>h,hs,hb⟩
theorem refInv_ok (a:ByteArray) (w:World) (ha:a.size≤270000) (he:errQ a.data.toList=0) (h0:valQ a.data.toList≠0) :
  Calls Tryz.prog 60 #[.string a] w fun e w'=>e=.returned (resN (outQ ((valQ a.data.toList)⁻¹)))∧Below w.heap.size w w':=by
 have HP:=Lib.hid (rq_any a w ha)
 have hne:((errQ a.data.toList:Int)==0)=true:=by rw [he];rfl
 have HE:=Lib.hid he
 have sq:=sz_max he
 generalize valQ a.data.toList=q at *
 obtain ⟨lr,lr'⟩:=sz_limbs2 (k:=maxD) sq.inv (by unfold maxD;omega)
 have HZ:=Lib.hid h0
 clear h0
 have HW:=Lib.hid (fun v w h=>rwriteQ_any (q⁻¹) v w h lr lr')
 generalize outQ (q⁻¹)=r at HW ⊢
 unfold resN at HW
 clear he lr lr' sq
 have HNZ:=Lib.hid (fun (N:Nat) (h:nm q=N)=>show (((toL N).length:Int)==0)=false by rw [len_zero,decide_eq_false (fun h2=>HZ.out (nm_zero.1 (h.trans h2)))])
 go_enter Tryz.func60,Tryz.ntmps60
 go_wp2_with (first
  | (go_at_call 155;refine HP.out.mono ?_;rintro e w1 ⟨v,rfl,hv,-,hb⟩;obtain ⟨bq,N,D,A,c,A',c',rfl,hn,hd,HQ⟩:=isQ_open (hv HE.out);have HV:=Lib.hid (hv HE.out);have HB:=Lib.hid hb;have HX:=Lib.hid (below_alloc (Below.refl w1.heap.size w1) (.cells #[.bool bq,.slice A (toL N).length c,.slice A' (toL D).length c'] 170));have HBX:=Lib.hid (HB.out.trans (HX.out.mono HB.out.size));have HN:=Lib.hid hn;have HD:=Lib.hid hd;clear hb hv hn hd;have hln:=HNZ.out _ HQ.out.2.1)
  | (go_at_call 156;refine (rover_any q _ _ (HV.out.below HX.out) HZ.out).mono ?_;rintro e w2 ⟨v2,rfl,hv2,hb2⟩;obtain ⟨b2,N2,D2,A2,c2,A2',c2',rfl,_,_,_⟩:=isQ_open hv2;have HV2:=Lib.hid hv2;have HB2:=Lib.hid (HBX.out.trans (hb2.mono HBX.out.size));clear hv2 hb2)
  | (go_at_call 153;refine (HW.out _ _ HV2.out).mono ?_;rintro e w3 ⟨rfl,hb3⟩;have HB3:=Lib.hid (HB2.out.trans (hb3.mono HB2.out.size));clear hb3))
 refine bodyPost_ret (results_tmp2 rfl _ _ _) rfl ?_
 exact ⟨rfl,HB3.out⟩
end Go.Proofs.YtigapglmipmbeaaGreatDoor
