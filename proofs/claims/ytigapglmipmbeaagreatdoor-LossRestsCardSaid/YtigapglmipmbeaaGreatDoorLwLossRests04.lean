/- The reference's Order of rational numbers, Cmp, Min, Max (printed by mkrord.py). The reference's Power of natural numbers; odd. The reference's functions of one number: Neg, Abs, Inv, Sign (printed by mkrone.py). Powers that are too great. The reference's Pow of rational numbers (printed by mkrpw.py). The reference's functions of two numbers, on texts of numbers. The reference's losses (printed by mklref.py). The reference's FromInt, small, Int. The reference's round, Floor, Ceil, Sign (printed by mkrround.py). The reference's functions of numbers, as the plain model of chapter 8 speaks of them (printed by mkdref.py). Distributions in plain rationals: Push, Product, moments, and what Make collects. No program in sight. Common denominators: how long sums of many numbers are. No program in sight. Losses and moments of distributions in plain rationals: groups, late outcomes, the conversion of moments. No program in sight. What the functions of chapter 8 compute on texts, as rationals. No program in sight. -/
import Derived.Test.YtigapglmipmbeaaGreatDoorLwLossRests03
import Derived.Test.YtigapglmipmbeaaGreatDoorRb10
import Derived.Test.YtigapglmipmbeaaGreatDoorRb09
import Derived.Laws.Bits128
import Derived.Test.YtigapglmipmbeaaGreatDoorLwLossRests02
import Derived.Test.YtigapglmipmbeaaGreatDoorLwLossRests01
import Derived.Test.YtigapglmipmbeaaGreatDoorRb06
import Derived.Laws.Runes
import Derived.Test.YtigapglmipmbeaaGreatDoorRb08
set_option maxRecDepth 100000
set_option maxHeartbeats 16000000
namespace Go.Proofs.YtigapglmipmbeaaGreatDoor
open Go.RowKit Go.Shelf
open Lim
attribute [local go_sem] Oper.semAt_some
theorem sgQ_sub (p q:Rat):sgQ (p+-q)=cmpQ p q:=by
 rw [sgQ_num,← Rat.sub_eq_add_neg]
 unfold cmpQ
 have h1:p < q↔(p - q).num < 0:=by
  rw [← Rat.not_le,← Int.not_le,Rat.num_nonneg,← Rat.le_iff_sub_nonneg]
 have h2:p=q↔(p - q).num=0:=by
  rw [Rat.num_eq_zero]
  constructor
  ·rintro rfl;exact Rat.sub_self
  ·intro h
   have:=congrArg (·+q) h
   simpa [Rat.sub_add_cancel,Rat.zero_add] using this
 by_cases h:p < q
 ·rw [if_pos h,if_pos (h1.1 h)]
 ·rw [if_neg h,if_neg (fun x=>h (h1.2 x))]
  by_cases h':p=q
  ·rw [if_pos h',if_pos (h2.1 h')]
  ·rw [if_neg h',if_neg (fun x=>h' (h2.2 x))]
theorem boxq2_blk (w:World) (m vn vd m' vn' vd':Value):Blk ((w.alloc (.cells #[m,vn,vd] 170)).alloc (.cells #[m',vn',vd'] 170)) w.heap.size 170 #[m,vn,vd] ∧
  Blk ((w.alloc (.cells #[m,vn,vd] 170)).alloc (.cells #[m',vn',vd'] 170)) (w.heap.size+1) 170 #[m',vn',vd'] ∧
  Below w.heap.size w ((w.alloc (.cells #[m,vn,vd] 170)).alloc (.cells #[m',vn',vd'] 170))∧((w.alloc (.cells #[m,vn,vd] 170)).alloc (.cells #[m',vn',vd'] 170)).heap.size=w.heap.size+2:=by
 refine ⟨(Blk.new w _ _).alloc _,?_,below_alloc (below_alloc (Below.refl _ _) _) _,by simp⟩
 have:=Blk.new (w.alloc (.cells #[m,vn,vd] 170)) 170 #[m',vn',vd']
 rwa [World.size_alloc] at this
theorem rord_zero (p q:Rat) (v v':Value) (w:World) (h:IsQ w v p) (h':IsQ w v' q) (l1:(toL (nm p)).length≤10000) (l2:(toL p.den).length≤10000) (l3:(toL (nm q)).length≤10000) (l4:(toL q.den).length≤10000) (hX:sgQ (p+-q)=0) :
  Calls Tryz.prog 201 #[v,v'] w fun e w'=>e=.returned (.int .i64 0)∧Below w.heap.size w w':=by
 have HV:=Lib.hid h
 have HV':=Lib.hid h'
 have HF:=Lib.hid (fun (b:Bool) (N:Nat) (h:ng (p+-q)=b∧nm (p+-q)=N)=>show (((toL N).length:Int)==0)=true∧b=b from by
  unfold sgQ at hX
  split at hX
  ·rename_i h0
   exact ⟨by rw [len_zero,← h.2,decide_eq_true h0],rfl⟩
  ·split at hX<;>cases hX)
 clear hX
 obtain ⟨_,hq2,hq3⟩:=neg_parts q
 obtain ⟨bp,N,D,A,c,A',c',rfl,_,_,_⟩:=isQ_open h
 obtain ⟨bq,N',D',B,d,B',d',rfl,_,_,_⟩:=isQ_open h'
 clear h h'
 refine (callsIn_wide (n:=3)).1 ?_
 have h1:1≤3:=by omega
 have hmx:Tryz.prog.follows .mixedOrders=true:=by kernel_rfl
 refine callsIn_of_wp Tryz.func201 rfl trivial ?_ rfl
 simp only [Tryz.ntmps201,List.size_toArray,List.length_cons,List.length_nil,Nat.reduceAdd,Nat.reduceSub,Array.replicate_succ,Array.replicate_zero,List.push_toArray,List.append_toArray,List.nil_append,List.cons_append]
 gi_upto_region 1 with fail
 obtain ⟨k0,k1,hX,hs⟩:=boxq2_blk w (.bool bp) (.slice A (toL N).length c) (.slice A' (toL D).length c') (.bool bq) (.slice B (toL N').length d) (.slice B' (toL D').length d')
 generalize (w.alloc (.cells #[.bool bp,.slice A (toL N).length c,.slice A' (toL D).length c'] 170)).alloc (.cells #[.bool bq,.slice B (toL N').length d,.slice B' (toL D').length d'] 170)=W at *
 obtain ⟨x0,x1,x2⟩:=same_cells (S:=fun k=>k < W.heap.size) k0 (by omega)
 obtain ⟨y0,y1,y2⟩:=same_cells (S:=fun k=>k < W.heap.size) k1 (by omega)
 have HX:=Lib.hid (below_drew hX)
 have hW0:Below W.heap.size W W:=Below.refl _ _
 clear k0 k1 hX hs
 refine wpIn_stage (IsSame W (fun k=>k < W.heap.size)) [0,1] [] hmx (by kernel_rfl) (isSame_of fun _ _=>rfl) ?_
 change wpStage _ _ _ _ _ _ _ _ (4+2) _ _ _
 refine stage_reads [0,1] 4 _ _ (by kernel_rfl) ?_
 change wpQuietIn _ _ _ _ (fun W'=>∃ x:SameAt W (fun k=>k < W.heap.size),W'=x.W) _ _ _
 simp only [pick_cons,pick_nil,List.getElem?_cons_zero,List.getElem?_cons_succ,Option.elim_some]
 repeat (gi_big_quiet_step (fail))
 refine wpQuietIn_nil ?_
 refine stage_two 2 4 (by kernel_rfl) rfl rfl ?_ ?_
 ·gi_wp2
  refine ⟨trivial,?_⟩
  refine (callsIn_wide.2 (rnegQ_any q _ W.drew (HV'.out.below (HX.out.trans ((below_drew3 (below_drew hW0)).mono HX.out.size))))).mono ?_
  rintro e w2 ⟨v2,rfl,hv2,hb2⟩
  obtain ⟨b2,N2,D2,A2,c2,A2',c2',rfl,_,_,_⟩:=isQ_open hv2
  have HV2:=Lib.hid hv2
  have hB2:Below W.heap.size W w2:=below_undrew hb2
  have HB2:=Lib.hid hB2
  clear hv2 hb2 hB2
  gi_wp2
  refine stage_post (isSame_below HB2.out (fun k hk=>hk)) ?_
  refine stage_two 3 4 (by kernel_rfl) rfl rfl ?_ ?_
  ·gi_wp2
   refine ⟨trivial,?_⟩
   refine (callsIn_wide.2 (rplusQ_any p (-q) _ _ w2 (HV.out.below (HX.out.trans ((below_drew3 HB2.out).mono HX.out.size))) (HV2.out) (by omega) (by omega) (by rw [hq2];omega) (by rw [hq3];omega))).mono ?_
   rintro e w3 ⟨v3,rfl,hv3,hb3⟩
   obtain ⟨b3,N3,D3,A3,c3,A3',c3',rfl,_,_,HQ3⟩:=isQ_open hv3
   obtain ⟨f1,f2⟩:=HF.out _ _ ⟨HQ3.out.1,HQ3.out.2.1⟩
   have HB3:=Lib.hid (HB2.out.trans (hb3.mono HB2.out.size))
   clear hv3 hb3
   gi_wp2
   refine stage_post (isSame_below HB3.out (fun k hk=>hk)) ?_
   refine stage_one 4 (by kernel_rfl) rfl ?_
   gi_wp2
   refine stage_post (isSame_below (HB3.out.alloc HB3.out.size zQ) (fun k hk=>hk)) ?_
   refine stage_one 5 (by kernel_rfl) rfl ?_
   gi_wp2
   refine stage_post (isSame_below (HB3.out.alloc HB3.out.size _) (fun k hk=>hk)) ?_
   refine stage_done (by kernel_rfl) ?_
   gi_wp2
   refine bodyPost_ret (results_tmp rfl _ _ _) rfl ?_
   exact ⟨rfl,HX.out.trans ((below_drew3 (HB3.out.alloc HB3.out.size _)).mono HX.out.size)⟩
  ·gi_wp2
   have HB4:=Lib.hid (HB2.out.alloc HB2.out.size zQ)
   have HP4:=Lib.hid (zq_new w2)
   have hal:=below_alloc (Below.refl w2.heap.size w2) zQ
   have HV2:=Lib.hid (HV2.out.below hal)
   clear hal
   have hg5:=HB2.out.size
   generalize w2.heap.size=g5 at *
   generalize w2.alloc zQ=w4 at *
   refine stage_post (isSame_below HB4.out (fun k hk=>hk)) ?_
   refine stage_one 3 (by kernel_rfl) rfl ?_
   gi_wp2
   refine ⟨trivial,?_⟩
   refine (callsIn_wide.2 (rplusQ_any p (-q) _ _ w4 (HV.out.below (HX.out.trans ((below_drew3 HB4.out).mono HX.out.size))) (HV2.out) (by omega) (by omega) (by rw [hq2];omega) (by rw [hq3];omega))).mono ?_
   rintro e w3 ⟨v3,rfl,hv3,hb3⟩
   obtain ⟨b3,N3,D3,A3,c3,A3',c3',rfl,_,_,HQ3⟩:=isQ_open hv3
   obtain ⟨f1,f2⟩:=HF.out _ _ ⟨HQ3.out.1,HQ3.out.2.1⟩
   have HB3:=Lib.hid (HB4.out.trans (hb3.mono HB4.out.size))
   obtain ⟨⟨r0,s0⟩,⟨r1,s1⟩,r2,s2⟩:=cells6Q (HP4.out.below hb3 HP4.out.lt)
   have HP3:=Lib.hid (HP4.out.below hb3 HP4.out.lt)
   clear hv3 hb3
   gi_wp2
   refine stage_post (isSame_below HB3.out (fun k hk=>hk)) ?_
   refine stage_one 5 (by kernel_rfl) rfl ?_
   gi_wp2
   have HB5:=Lib.hid (set3_below (x:=.bool b3) (y:=.slice A3 (toL N3).length c3) (z:=.slice A3' (toL D3).length c3') HB3.out hg5)
   refine stage_post (isSame_below HB5.out (fun k hk=>hk)) ?_
   obtain ⟨z0,z1,z2⟩:=rows3 (set3 (x:=.bool b3) (y:=.slice A3 (toL N3).length c3) (z:=.slice A3' (toL D3).length c3') HP3.out)
   clear r0 r1 r2 s0 s1 s2
   refine stage_done (by kernel_rfl) ?_
   gi_wp2
   refine bodyPost_ret (results_tmp rfl _ _ _) rfl ?_
   exact ⟨rfl,HX.out.trans ((below_drew3 HB5.out).mono HX.out.size)⟩
 ·gi_wp2
  have hz4:Below W.heap.size W (W.alloc zQ):=below_alloc (Below.refl _ _) _
  have HZ4:=Lib.hid (below_drew hz4)
  have HP0:=Lib.hid (show Blk (W.alloc zQ).drew W.heap.size 170 #[.bool false,.slice none 0 0,.slice none 0 0] from zq_new W)
  clear hz4
  have hg5:=Nat.le_refl W.heap.size
  generalize (W.alloc zQ).drew=w4 at *
  refine stage_post (isSame_below HZ4.out (fun k hk=>hk)) ?_
  refine stage_one 2 (by kernel_rfl) rfl ?_
  gi_wp2
  refine ⟨trivial,?_⟩
  refine (callsIn_wide.2 (rnegQ_any q _ w4 (HV'.out.below (HX.out.trans ((below_drew3 HZ4.out).mono HX.out.size))))).mono ?_
  rintro e w2 ⟨v2,rfl,hv2,hb2⟩
  obtain ⟨b2,N2,D2,A2,c2,A2',c2',rfl,_,_,_⟩:=isQ_open hv2
  have HV2:=Lib.hid hv2
  have HB2:=Lib.hid (HZ4.out.trans (hb2.mono HZ4.out.size))
  have HP4:=Lib.hid (HP0.out.below hb2 HP0.out.lt)
  clear hv2 hb2
  gi_wp2
  refine stage_post (isSame_below HB2.out (fun k hk=>hk)) ?_
  refine stage_one 3 (by kernel_rfl) rfl ?_
  gi_wp2
  refine ⟨trivial,?_⟩
  refine (callsIn_wide.2 (rplusQ_any p (-q) _ _ w2 (HV.out.below (HX.out.trans ((below_drew3 HB2.out).mono HX.out.size))) (HV2.out) (by omega) (by omega) (by rw [hq2];omega) (by rw [hq3];omega))).mono ?_
  rintro e w3 ⟨v3,rfl,hv3,hb3⟩
  obtain ⟨b3,N3,D3,A3,c3,A3',c3',rfl,_,_,HQ3⟩:=isQ_open hv3
  obtain ⟨f1,f2⟩:=HF.out _ _ ⟨HQ3.out.1,HQ3.out.2.1⟩
  have HB3:=Lib.hid (HB2.out.trans (hb3.mono HB2.out.size))
  obtain ⟨⟨r0,s0⟩,⟨r1,s1⟩,r2,s2⟩:=cells6Q (HP4.out.below hb3 HP4.out.lt)
  have HP3:=Lib.hid (HP4.out.below hb3 HP4.out.lt)
  clear hv3 hb3
  gi_wp2
  refine stage_post (isSame_below HB3.out (fun k hk=>hk)) ?_
  refine stage_one 5 (by kernel_rfl) rfl ?_
  gi_wp2
  have HB5:=Lib.hid (set3_below (x:=.bool b3) (y:=.slice A3 (toL N3).length c3) (z:=.slice A3' (toL D3).length c3') HB3.out hg5)
  refine stage_post (isSame_below HB5.out (fun k hk=>hk)) ?_
  obtain ⟨z0,z1,z2⟩:=rows3 (set3 (x:=.bool b3) (y:=.slice A3 (toL N3).length c3) (z:=.slice A3' (toL D3).length c3') HP3.out)
  clear r0 r1 r2 s0 s1 s2
  refine stage_done (by kernel_rfl) ?_
  gi_wp2
  refine bodyPost_ret (results_tmp rfl _ _ _) rfl ?_
  exact ⟨rfl,HX.out.trans ((below_drew3 HB5.out).mono HX.out.size)⟩
theorem rord_neg (p q:Rat) (v v':Value) (w:World) (h:IsQ w v p) (h':IsQ w v' q) (l1:(toL (nm p)).length≤10000) (l2:(toL p.den).length≤10000) (l3:(toL (nm q)).length≤10000) (l4:(toL q.den).length≤10000) (hX:sgQ (p+-q)=-1) :
  Calls Tryz.prog 201 #[v,v'] w fun e w'=>e=.returned (.int .i64 (-1))∧Below w.heap.size w w':=by
 have HV:=Lib.hid h
 have HV':=Lib.hid h'
 have HF:=Lib.hid (fun (b:Bool) (N:Nat) (h:ng (p+-q)=b∧nm (p+-q)=N)=>show (((toL N).length:Int)==0)=false∧b=true from by
  unfold sgQ at hX
  split at hX
  ·cases hX
  ·rename_i h0
   refine ⟨by rw [len_zero,← h.2,decide_eq_false h0],?_⟩
   rw [← h.1]
   split at hX
   ·assumption
   ·cases hX)
 clear hX
 obtain ⟨_,hq2,hq3⟩:=neg_parts q
 obtain ⟨bp,N,D,A,c,A',c',rfl,_,_,_⟩:=isQ_open h
 obtain ⟨bq,N',D',B,d,B',d',rfl,_,_,_⟩:=isQ_open h'
 clear h h'
 refine (callsIn_wide (n:=3)).1 ?_
 have h1:1≤3:=by omega
 have hmx:Tryz.prog.follows .mixedOrders=true:=by kernel_rfl
 refine callsIn_of_wp Tryz.func201 rfl trivial ?_ rfl
 simp only [Tryz.ntmps201,List.size_toArray,List.length_cons,List.length_nil,Nat.reduceAdd,Nat.reduceSub,Array.replicate_succ,Array.replicate_zero,List.push_toArray,List.append_toArray,List.nil_append,List.cons_append]
 gi_upto_region 1 with fail
 obtain ⟨k0,k1,hX,hs⟩:=boxq2_blk w (.bool bp) (.slice A (toL N).length c) (.slice A' (toL D).length c') (.bool bq) (.slice B (toL N').length d) (.slice B' (toL D').length d')
 generalize (w.alloc (.cells #[.bool bp,.slice A (toL N).length c,.slice A' (toL D).length c'] 170)).alloc (.cells #[.bool bq,.slice B (toL N').length d,.slice B' (toL D').length d'] 170)=W at *
 obtain ⟨x0,x1,x2⟩:=same_cells (S:=fun k=>k < W.heap.size) k0 (by omega)
 obtain ⟨y0,y1,y2⟩:=same_cells (S:=fun k=>k < W.heap.size) k1 (by omega)
 have HX:=Lib.hid (below_drew hX)
 have hW0:Below W.heap.size W W:=Below.refl _ _
 clear k0 k1 hX hs
 refine wpIn_stage (IsSame W (fun k=>k < W.heap.size)) [0,1] [] hmx (by kernel_rfl) (isSame_of fun _ _=>rfl) ?_
 change wpStage _ _ _ _ _ _ _ _ (4+2) _ _ _
 refine stage_reads [0,1] 4 _ _ (by kernel_rfl) ?_
 change wpQuietIn _ _ _ _ (fun W'=>∃ x:SameAt W (fun k=>k < W.heap.size),W'=x.W) _ _ _
 simp only [pick_cons,pick_nil,List.getElem?_cons_zero,List.getElem?_cons_succ,Option.elim_some]
 repeat (gi_big_quiet_step (fail))
 refine wpQuietIn_nil ?_
 refine stage_two 2 4 (by kernel_rfl) rfl rfl ?_ ?_
 ·gi_wp2
  refine ⟨trivial,?_⟩
  refine (callsIn_wide.2 (rnegQ_any q _ W.drew (HV'.out.below (HX.out.trans ((below_drew3 (below_drew hW0)).mono HX.out.size))))).mono ?_
  rintro e w2 ⟨v2,rfl,hv2,hb2⟩
  obtain ⟨b2,N2,D2,A2,c2,A2',c2',rfl,_,_,_⟩:=isQ_open hv2
  have HV2:=Lib.hid hv2
  have hB2:Below W.heap.size W w2:=below_undrew hb2
  have HB2:=Lib.hid hB2
  clear hv2 hb2 hB2
  gi_wp2
  refine stage_post (isSame_below HB2.out (fun k hk=>hk)) ?_
  refine stage_two 3 4 (by kernel_rfl) rfl rfl ?_ ?_
  ·gi_wp2
   refine ⟨trivial,?_⟩
   refine (callsIn_wide.2 (rplusQ_any p (-q) _ _ w2 (HV.out.below (HX.out.trans ((below_drew3 HB2.out).mono HX.out.size))) (HV2.out) (by omega) (by omega) (by rw [hq2];omega) (by rw [hq3];omega))).mono ?_
   rintro e w3 ⟨v3,rfl,hv3,hb3⟩
   obtain ⟨b3,N3,D3,A3,c3,A3',c3',rfl,_,_,HQ3⟩:=isQ_open hv3
   obtain ⟨f1,f2⟩:=HF.out _ _ ⟨HQ3.out.1,HQ3.out.2.1⟩
   subst f2
   have HB3:=Lib.hid (HB2.out.trans (hb3.mono HB2.out.size))
   clear hv3 hb3
   gi_wp2
   refine stage_post (isSame_below HB3.out (fun k hk=>hk)) ?_
   refine stage_one 4 (by kernel_rfl) rfl ?_
   gi_wp2
   refine stage_post (isSame_below (HB3.out.alloc HB3.out.size zQ) (fun k hk=>hk)) ?_
   refine stage_one 5 (by kernel_rfl) rfl ?_
   gi_wp2
   refine stage_post (isSame_below (HB3.out.alloc HB3.out.size _) (fun k hk=>hk)) ?_
   refine stage_done (by kernel_rfl) ?_
   gi_wp2
   refine bodyPost_ret (results_tmp rfl _ _ _) rfl ?_
   exact ⟨rfl,HX.out.trans ((below_drew3 (HB3.out.alloc HB3.out.size _)).mono HX.out.size)⟩
  ·gi_wp2
   have HB4:=Lib.hid (HB2.out.alloc HB2.out.size zQ)
   have HP4:=Lib.hid (zq_new w2)
   have hal:=below_alloc (Below.refl w2.heap.size w2) zQ
   have HV2:=Lib.hid (HV2.out.below hal)
   clear hal
   have hg5:=HB2.out.size
   generalize w2.heap.size=g5 at *
   generalize w2.alloc zQ=w4 at *
   refine stage_post (isSame_below HB4.out (fun k hk=>hk)) ?_
   refine stage_one 3 (by kernel_rfl) rfl ?_
   gi_wp2
   refine ⟨trivial,?_⟩
   refine (callsIn_wide.2 (rplusQ_any p (-q) _ _ w4 (HV.out.below (HX.out.trans ((below_drew3 HB4.out).mono HX.out.size))) (HV2.out) (by omega) (by omega) (by rw [hq2];omega) (by rw [hq3];omega))).mono ?_
   rintro e w3 ⟨v3,rfl,hv3,hb3⟩
   obtain ⟨b3,N3,D3,A3,c3,A3',c3',rfl,_,_,HQ3⟩:=isQ_open hv3
   obtain ⟨f1,f2⟩:=HF.out _ _ ⟨HQ3.out.1,HQ3.out.2.1⟩
   subst f2
   have HB3:=Lib.hid (HB4.out.trans (hb3.mono HB4.out.size))
   obtain ⟨⟨r0,s0⟩,⟨r1,s1⟩,r2,s2⟩:=cells6Q (HP4.out.below hb3 HP4.out.lt)
   have HP3:=Lib.hid (HP4.out.below hb3 HP4.out.lt)
   clear hv3 hb3
   gi_wp2
   refine stage_post (isSame_below HB3.out (fun k hk=>hk)) ?_
   refine stage_one 5 (by kernel_rfl) rfl ?_
   gi_wp2
   have HB5:=Lib.hid (set3_below (x:=.bool true) (y:=.slice A3 (toL N3).length c3) (z:=.slice A3' (toL D3).length c3') HB3.out hg5)
   refine stage_post (isSame_below HB5.out (fun k hk=>hk)) ?_
   obtain ⟨z0,z1,z2⟩:=rows3 (set3 (x:=.bool true) (y:=.slice A3 (toL N3).length c3) (z:=.slice A3' (toL D3).length c3') HP3.out)
   clear r0 r1 r2 s0 s1 s2
   refine stage_done (by kernel_rfl) ?_
   gi_wp2
   refine bodyPost_ret (results_tmp rfl _ _ _) rfl ?_
   exact ⟨rfl,HX.out.trans ((below_drew3 HB5.out).mono HX.out.size)⟩
 ·gi_wp2
  have hz4:Below W.heap.size W (W.alloc zQ):=below_alloc (Below.refl _ _) _
  have HZ4:=Lib.hid (below_drew hz4)
  have HP0:=Lib.hid (show Blk (W.alloc zQ).drew W.heap.size 170 #[.bool false,.slice none 0 0,.slice none 0 0] from zq_new W)
  clear hz4
  have hg5:=Nat.le_refl W.heap.size
  generalize (W.alloc zQ).drew=w4 at *
  refine stage_post (isSame_below HZ4.out (fun k hk=>hk)) ?_
  refine stage_one 2 (by kernel_rfl) rfl ?_
  gi_wp2
  refine ⟨trivial,?_⟩
  refine (callsIn_wide.2 (rnegQ_any q _ w4 (HV'.out.below (HX.out.trans ((below_drew3 HZ4.out).mono HX.out.size))))).mono ?_
  rintro e w2 ⟨v2,rfl,hv2,hb2⟩
  obtain ⟨b2,N2,D2,A2,c2,A2',c2',rfl,_,_,_⟩:=isQ_open hv2
  have HV2:=Lib.hid hv2
  have HB2:=Lib.hid (HZ4.out.trans (hb2.mono HZ4.out.size))
  have HP4:=Lib.hid (HP0.out.below hb2 HP0.out.lt)
  clear hv2 hb2
  gi_wp2
  refine stage_post (isSame_below HB2.out (fun k hk=>hk)) ?_
  refine stage_one 3 (by kernel_rfl) rfl ?_
  gi_wp2
  refine ⟨trivial,?_⟩
  refine (callsIn_wide.2 (rplusQ_any p (-q) _ _ w2 (HV.out.below (HX.out.trans ((below_drew3 HB2.out).mono HX.out.size))) (HV2.out) (by omega) (by omega) (by rw [hq2];omega) (by rw [hq3];omega))).mono ?_
  rintro e w3 ⟨v3,rfl,hv3,hb3⟩
  obtain ⟨b3,N3,D3,A3,c3,A3',c3',rfl,_,_,HQ3⟩:=isQ_open hv3
  obtain ⟨f1,f2⟩:=HF.out _ _ ⟨HQ3.out.1,HQ3.out.2.1⟩
  subst f2
  have HB3:=Lib.hid (HB2.out.trans (hb3.mono HB2.out.size))
  obtain ⟨⟨r0,s0⟩,⟨r1,s1⟩,r2,s2⟩:=cells6Q (HP4.out.below hb3 HP4.out.lt)
  have HP3:=Lib.hid (HP4.out.below hb3 HP4.out.lt)
  clear hv3 hb3
  gi_wp2
  refine stage_post (isSame_below HB3.out (fun k hk=>hk)) ?_
  refine stage_one 5 (by kernel_rfl) rfl ?_
  gi_wp2
  have HB5:=Lib.hid (set3_below (x:=.bool true) (y:=.slice A3 (toL N3).length c3) (z:=.slice A3' (toL D3).length c3') HB3.out hg5)
  refine stage_post (isSame_below HB5.out (fun k hk=>hk)) ?_
  obtain ⟨z0,z1,z2⟩:=rows3 (set3 (x:=.bool true) (y:=.slice A3 (toL N3).length c3) (z:=.slice A3' (toL D3).length c3') HP3.out)
  clear r0 r1 r2 s0 s1 s2
  refine stage_done (by kernel_rfl) ?_
  gi_wp2
  refine bodyPost_ret (results_tmp rfl _ _ _) rfl ?_
  exact ⟨rfl,HX.out.trans ((below_drew3 HB5.out).mono HX.out.size)⟩
theorem rord_pos (p q:Rat) (v v':Value) (w:World) (h:IsQ w v p) (h':IsQ w v' q) (l1:(toL (nm p)).length≤10000) (l2:(toL p.den).length≤10000) (l3:(toL (nm q)).length≤10000) (l4:(toL q.den).length≤10000) (hX:sgQ (p+-q)=1) :
  Calls Tryz.prog 201 #[v,v'] w fun e w'=>e=.returned (.int .i64 1)∧Below w.heap.size w w':=by
 have HV:=Lib.hid h
 have HV':=Lib.hid h'
 have HF:=Lib.hid (fun (b:Bool) (N:Nat) (h:ng (p+-q)=b∧nm (p+-q)=N)=>show (((toL N).length:Int)==0)=false∧b=false from by
  unfold sgQ at hX
  split at hX
  ·cases hX
  ·rename_i h0
   refine ⟨by rw [len_zero,← h.2,decide_eq_false h0],?_⟩
   rw [← h.1]
   split at hX
   ·cases hX
   ·rename_i h1;simpa using h1)
 clear hX
 obtain ⟨_,hq2,hq3⟩:=neg_parts q
 obtain ⟨bp,N,D,A,c,A',c',rfl,_,_,_⟩:=isQ_open h
 obtain ⟨bq,N',D',B,d,B',d',rfl,_,_,_⟩:=isQ_open h'
 clear h h'
 refine (callsIn_wide (n:=3)).1 ?_
 have h1:1≤3:=by omega
 have hmx:Tryz.prog.follows .mixedOrders=true:=by kernel_rfl
 refine callsIn_of_wp Tryz.func201 rfl trivial ?_ rfl
 simp only [Tryz.ntmps201,List.size_toArray,List.length_cons,List.length_nil,Nat.reduceAdd,Nat.reduceSub,Array.replicate_succ,Array.replicate_zero,List.push_toArray,List.append_toArray,List.nil_append,List.cons_append]
 gi_upto_region 1 with fail
 obtain ⟨k0,k1,hX,hs⟩:=boxq2_blk w (.bool bp) (.slice A (toL N).length c) (.slice A' (toL D).length c') (.bool bq) (.slice B (toL N').length d) (.slice B' (toL D').length d')
 generalize (w.alloc (.cells #[.bool bp,.slice A (toL N).length c,.slice A' (toL D).length c'] 170)).alloc (.cells #[.bool bq,.slice B (toL N').length d,.slice B' (toL D').length d'] 170)=W at *
 obtain ⟨x0,x1,x2⟩:=same_cells (S:=fun k=>k < W.heap.size) k0 (by omega)
 obtain ⟨y0,y1,y2⟩:=same_cells (S:=fun k=>k < W.heap.size) k1 (by omega)
 have HX:=Lib.hid (below_drew hX)
 have hW0:Below W.heap.size W W:=Below.refl _ _
 clear k0 k1 hX hs
 refine wpIn_stage (IsSame W (fun k=>k < W.heap.size)) [0,1] [] hmx (by kernel_rfl) (isSame_of fun _ _=>rfl) ?_
 change wpStage _ _ _ _ _ _ _ _ (4+2) _ _ _
 refine stage_reads [0,1] 4 _ _ (by kernel_rfl) ?_
 change wpQuietIn _ _ _ _ (fun W'=>∃ x:SameAt W (fun k=>k < W.heap.size),W'=x.W) _ _ _
 simp only [pick_cons,pick_nil,List.getElem?_cons_zero,List.getElem?_cons_succ,Option.elim_some]
 repeat (gi_big_quiet_step (fail))
 refine wpQuietIn_nil ?_
 refine stage_two 2 4 (by kernel_rfl) rfl rfl ?_ ?_
 ·gi_wp2
  refine ⟨trivial,?_⟩
  refine (callsIn_wide.2 (rnegQ_any q _ W.drew (HV'.out.below (HX.out.trans ((below_drew3 (below_drew hW0)).mono HX.out.size))))).mono ?_
  rintro e w2 ⟨v2,rfl,hv2,hb2⟩
  obtain ⟨b2,N2,D2,A2,c2,A2',c2',rfl,_,_,_⟩:=isQ_open hv2
  have HV2:=Lib.hid hv2
  have hB2:Below W.heap.size W w2:=below_undrew hb2
  have HB2:=Lib.hid hB2
  clear hv2 hb2 hB2
  gi_wp2
  refine stage_post (isSame_below HB2.out (fun k hk=>hk)) ?_
  refine stage_two 3 4 (by kernel_rfl) rfl rfl ?_ ?_
  ·gi_wp2
   refine ⟨trivial,?_⟩
   refine (callsIn_wide.2 (rplusQ_any p (-q) _ _ w2 (HV.out.below (HX.out.trans ((below_drew3 HB2.out).mono HX.out.size))) (HV2.out) (by omega) (by omega) (by rw [hq2];omega) (by rw [hq3];omega))).mono ?_
   rintro e w3 ⟨v3,rfl,hv3,hb3⟩
   obtain ⟨b3,N3,D3,A3,c3,A3',c3',rfl,_,_,HQ3⟩:=isQ_open hv3
   obtain ⟨f1,f2⟩:=HF.out _ _ ⟨HQ3.out.1,HQ3.out.2.1⟩
   subst f2
   have HB3:=Lib.hid (HB2.out.trans (hb3.mono HB2.out.size))
   clear hv3 hb3
   gi_wp2
   refine stage_post (isSame_below HB3.out (fun k hk=>hk)) ?_
   refine stage_one 4 (by kernel_rfl) rfl ?_
   gi_wp2
   refine stage_post (isSame_below (HB3.out.alloc HB3.out.size zQ) (fun k hk=>hk)) ?_
   refine stage_one 5 (by kernel_rfl) rfl ?_
   gi_wp2
   refine stage_post (isSame_below (HB3.out.alloc HB3.out.size _) (fun k hk=>hk)) ?_
   refine stage_done (by kernel_rfl) ?_
   gi_wp2
   refine bodyPost_ret (results_tmp rfl _ _ _) rfl ?_
   exact ⟨rfl,HX.out.trans ((below_drew3 (HB3.out.alloc HB3.out.size _)).mono HX.out.size)⟩
  ·gi_wp2
   have HB4:=Lib.hid (HB2.out.alloc HB2.out.size zQ)
   have HP4:=Lib.hid (zq_new w2)
   have hal:=below_alloc (Below.refl w2.heap.size w2) zQ
   have HV2:=Lib.hid (HV2.out.below hal)
   clear hal
   have hg5:=HB2.out.size
   generalize w2.heap.size=g5 at *
   generalize w2.alloc zQ=w4 at *
   refine stage_post (isSame_below HB4.out (fun k hk=>hk)) ?_
   refine stage_one 3 (by kernel_rfl) rfl ?_
   gi_wp2
   refine ⟨trivial,?_⟩
   refine (callsIn_wide.2 (rplusQ_any p (-q) _ _ w4 (HV.out.below (HX.out.trans ((below_drew3 HB4.out).mono HX.out.size))) (HV2.out) (by omega) (by omega) (by rw [hq2];omega) (by rw [hq3];omega))).mono ?_
   rintro e w3 ⟨v3,rfl,hv3,hb3⟩
   obtain ⟨b3,N3,D3,A3,c3,A3',c3',rfl,_,_,HQ3⟩:=isQ_open hv3
   obtain ⟨f1,f2⟩:=HF.out _ _ ⟨HQ3.out.1,HQ3.out.2.1⟩
   subst f2
   have HB3:=Lib.hid (HB4.out.trans (hb3.mono HB4.out.size))
   obtain ⟨⟨r0,s0⟩,⟨r1,s1⟩,r2,s2⟩:=cells6Q (HP4.out.below hb3 HP4.out.lt)
   have HP3:=Lib.hid (HP4.out.below hb3 HP4.out.lt)
   clear hv3 hb3
   gi_wp2
   refine stage_post (isSame_below HB3.out (fun k hk=>hk)) ?_
   refine stage_one 5 (by kernel_rfl) rfl ?_
   gi_wp2
   have HB5:=Lib.hid (set3_below (x:=.bool false) (y:=.slice A3 (toL N3).length c3) (z:=.slice A3' (toL D3).length c3') HB3.out hg5)
   refine stage_post (isSame_below HB5.out (fun k hk=>hk)) ?_
   obtain ⟨z0,z1,z2⟩:=rows3 (set3 (x:=.bool false) (y:=.slice A3 (toL N3).length c3) (z:=.slice A3' (toL D3).length c3') HP3.out)
   clear r0 r1 r2 s0 s1 s2
   refine stage_done (by kernel_rfl) ?_
   gi_wp2
   refine bodyPost_ret (results_tmp rfl _ _ _) rfl ?_
   exact ⟨rfl,HX.out.trans ((below_drew3 HB5.out).mono HX.out.size)⟩
 ·gi_wp2
  have hz4:Below W.heap.size W (W.alloc zQ):=below_alloc (Below.refl _ _) _
  have HZ4:=Lib.hid (below_drew hz4)
  have HP0:=Lib.hid (show Blk (W.alloc zQ).drew W.heap.size 170 #[.bool false,.slice none 0 0,.slice none 0 0] from zq_new W)
  clear hz4
  have hg5:=Nat.le_refl W.heap.size
  generalize (W.alloc zQ).drew=w4 at *
  refine stage_post (isSame_below HZ4.out (fun k hk=>hk)) ?_
  refine stage_one 2 (by kernel_rfl) rfl ?_
  gi_wp2
  refine ⟨trivial,?_⟩
  refine (callsIn_wide.2 (rnegQ_any q _ w4 (HV'.out.below (HX.out.trans ((below_drew3 HZ4.out).mono HX.out.size))))).mono ?_
  rintro e w2 ⟨v2,rfl,hv2,hb2⟩
  obtain ⟨b2,N2,D2,A2,c2,A2',c2',rfl,_,_,_⟩:=isQ_open hv2
  have HV2:=Lib.hid hv2
  have HB2:=Lib.hid (HZ4.out.trans (hb2.mono HZ4.out.size))
  have HP4:=Lib.hid (HP0.out.below hb2 HP0.out.lt)
  clear hv2 hb2
  gi_wp2
  refine stage_post (isSame_below HB2.out (fun k hk=>hk)) ?_
  refine stage_one 3 (by kernel_rfl) rfl ?_
  gi_wp2
  refine ⟨trivial,?_⟩
  refine (callsIn_wide.2 (rplusQ_any p (-q) _ _ w2 (HV.out.below (HX.out.trans ((below_drew3 HB2.out).mono HX.out.size))) (HV2.out) (by omega) (by omega) (by rw [hq2];omega) (by rw [hq3];omega))).mono ?_
  rintro e w3 ⟨v3,rfl,hv3,hb3⟩
  obtain ⟨b3,N3,D3,A3,c3,A3',c3',rfl,_,_,HQ3⟩:=isQ_open hv3
  obtain ⟨f1,f2⟩:=HF.out _ _ ⟨HQ3.out.1,HQ3.out.2.1⟩
  subst f2
  have HB3:=Lib.hid (HB2.out.trans (hb3.mono HB2.out.size))
  obtain ⟨⟨r0,s0⟩,⟨r1,s1⟩,r2,s2⟩:=cells6Q (HP4.out.below hb3 HP4.out.lt)
  have HP3:=Lib.hid (HP4.out.below hb3 HP4.out.lt)
  clear hv3 hb3
  gi_wp2
  refine stage_post (isSame_below HB3.out (fun k hk=>hk)) ?_
  refine stage_one 5 (by kernel_rfl) rfl ?_
  gi_wp2
  have HB5:=Lib.hid (set3_below (x:=.bool false) (y:=.slice A3 (toL N3).length c3) (z:=.slice A3' (toL D3).length c3') HB3.out hg5)
  refine stage_post (isSame_below HB5.out (fun k hk=>hk)) ?_
  obtain ⟨z0,z1,z2⟩:=rows3 (set3 (x:=.bool false) (y:=.slice A3 (toL N3).length c3) (z:=.slice A3' (toL D3).length c3') HP3.out)
  clear r0 r1 r2 s0 s1 s2
  refine stage_done (by kernel_rfl) ?_
  gi_wp2
  refine bodyPost_ret (results_tmp rfl _ _ _) rfl ?_
  exact ⟨rfl,HX.out.trans ((below_drew3 HB5.out).mono HX.out.size)⟩
theorem rorderQ_any (p q:Rat) (v v':Value) (w:World) (h:IsQ w v p) (h':IsQ w v' q) (l1:(toL (nm p)).length≤10000) (l2:(toL p.den).length≤10000) (l3:(toL (nm q)).length≤10000) (l4:(toL q.den).length≤10000) :
  Calls Tryz.prog 201 #[v,v'] w fun e w'=>e=.returned (.int .i64 (cmpQ p q))∧Below w.heap.size w w':=by
 have hs:=sgQ_sub p q
 rcases cmpQ_cases p q with hX|hX|hX
 ·rw [hX] at hs ⊢
  exact rord_neg p q v v' w h h' l1 l2 l3 l4 hs
 ·rw [hX] at hs ⊢
  exact rord_zero p q v v' w h h' l1 l2 l3 l4 hs
 ·rw [hX] at hs ⊢
  exact rord_pos p q v v' w h h' l1 l2 l3 l4 hs
theorem refCmp_err1 (a b:ByteArray) (w:World) (ha:a.size≤270000) (_hb:b.size≤270000) (he:errQ a.data.toList≠0) :
  Calls Tryz.prog 119 #[.string a,.string b] w fun e w'=>e=.returned (.tuple #[.int .i64 0,.int .i64 (errQ a.data.toList:Int)])∧Below w.heap.size w w':=by
 have HE:=Lib.hid he
 have hne:((errQ a.data.toList:Int)==0)=false:=by rw [beq_eq_false_iff_ne];omega
 clear he
 go_enter Tryz.func119,Tryz.ntmps119
 go_wp2_with (go_at_call 152;refine (two_err a b _ ha HE.out).mono ?_;rintro e w1 ⟨v,v',rfl,hs,hs',hb⟩;obtain ⟨q0,q1,q2,q3,q4,q5,q6,rfl⟩:=hs;obtain ⟨p0,p1,p2,p3,p4,p5,p6,rfl⟩:=hs';have HB:=Lib.hid hb;clear hb)
 refine bodyPost_ret (results_tmp2 rfl _ _ _) rfl ?_
 exact ⟨rfl,below_alloc (below_alloc HB.out _) _⟩
theorem refCmp_err2B (a b:ByteArray) (w:World) (ha:a.size≤270000) (hb:b.size≤9223372036854775807) (he:errQ a.data.toList=0) (he2:errQ b.data.toList≠0) :
  Calls Tryz.prog 119 #[.string a,.string b] w fun e w'=>e=.returned (.tuple #[.int .i64 0,.int .i64 (errQ b.data.toList:Int)])∧Below w.heap.size w w':=by
 have HE:=Lib.hid he
 have HE2:=Lib.hid he2
 have hne:((errQ b.data.toList:Int)==0)=false:=by rw [beq_eq_false_iff_ne];omega
 clear he2
 clear he
 go_enter Tryz.func119,Tryz.ntmps119
 go_wp2_with (go_at_call 152;refine (two_err2B a b _ ha hb HE.out HE2.out).mono ?_;rintro e w1 ⟨v,v',rfl,hs,hs',hb⟩;obtain ⟨q0,q1,q2,q3,q4,q5,q6,rfl⟩:=hs;obtain ⟨p0,p1,p2,p3,p4,p5,p6,rfl⟩:=hs';have HB:=Lib.hid hb;clear hb)
 refine bodyPost_ret (results_tmp2 rfl _ _ _) rfl ?_
 exact ⟨rfl,below_alloc (below_alloc HB.out _) _⟩
theorem refCmp_err2 (a b:ByteArray) (w:World) (ha:a.size≤270000) (hb:b.size≤270000) (he:errQ a.data.toList=0) (he2:errQ b.data.toList≠0) :
  Calls Tryz.prog 119 #[.string a,.string b] w fun e w'=>e=.returned (.tuple #[.int .i64 0,.int .i64 (errQ b.data.toList:Int)])∧Below w.heap.size w w':=refCmp_err2B a b w ha (by omega) he he2
theorem refCmp_ok (a b:ByteArray) (w:World) (ha:a.size≤270000) (hb:b.size≤270000) (he:errQ a.data.toList=0) (he2:errQ b.data.toList=0) :
  Calls Tryz.prog 119 #[.string a,.string b] w fun e w'=>e=.returned (.tuple #[.int .i64 (cmpQ (valQ a.data.toList) (valQ b.data.toList)),.int .i64 0])∧Below w.heap.size w w':=by
 have HT:=Lib.hid (fun w=>two_ok a b w ha hb he he2)
 have sp:=sz_max he
 have sq:=sz_max he2
 generalize valQ a.data.toList=p at *
 generalize valQ b.data.toList=q at *
 obtain ⟨lp,lp'⟩:=sz_limbs sp
 obtain ⟨lq,lq'⟩:=sz_limbs sq
 clear he he2
 have HO:=Lib.hid (fun v v' w h h'=>rorderQ_any p q v v' w h h' (by omega) (by omega) (by omega) (by omega))
 generalize cmpQ p q=r at HO ⊢
 clear sp sq
 go_enter Tryz.func119,Tryz.ntmps119
 go_wp2_with (first
  | (go_at_call 152;refine (HT.out _).mono ?_;rintro e w1 ⟨v,v',rfl,hv,hv',hb⟩;obtain ⟨bp,N,D,A,c,A',c',rfl,hn,hd,HP⟩:=isQ_open hv;obtain ⟨bq,N',D',B,d,B',d',rfl,hn',hd',HQ⟩:=isQ_open hv';have HV:=Lib.hid hv;have HV':=Lib.hid hv';have HB:=Lib.hid hb;have HX:=Lib.hid (below_alloc (below_alloc (Below.refl w1.heap.size w1) (.cells #[.bool bp,.slice A (toL N).length c,.slice A' (toL D).length c'] 170)) (.cells #[.bool bq,.slice B (toL N').length d,.slice B' (toL D').length d'] 170));have HBX:=Lib.hid (HB.out.trans (HX.out.mono HB.out.size));clear hb hv hv' hn hd hn' hd')
  | (go_at_call 201;refine (HO.out _ _ _ (HV.out.below HX.out) (HV'.out.below HX.out)).mono ?_;rintro e w2 ⟨rfl,hb2⟩;have HB2:=Lib.hid (HBX.out.trans (hb2.mono HBX.out.size));clear hb2))
 refine bodyPost_ret (results_tmp2 rfl _ _ _) rfl ?_
 exact ⟨rfl,HB2.out⟩
theorem refCmp_any (a b:ByteArray) (w:World) (ha:a.size≤270000) (hb:b.size≤270000) :
  Calls Tryz.prog 119 #[.string a,.string b] w fun e w'=>e=.returned (resI (twoI (fun p q=>(cmpQ p q,0)) a.data.toList b.data.toList))∧Below w.heap.size w w':=by
 unfold twoI
 by_cases he:errQ a.data.toList=0
 ·rw [if_neg (by omega)]
  by_cases he2:errQ b.data.toList=0
  ·rw [if_neg (by omega)]
   exact refCmp_ok a b w ha hb he he2
  ·rw [if_pos he2]
   exact refCmp_err2 a b w ha hb he he2
 ·rw [if_pos he]
  exact refCmp_err1 a b w ha hb he
theorem refMin_any (a b:ByteArray) (w:World) (ha:a.size≤270000) (hb:b.size≤270000) :
  Calls Tryz.prog 270 #[.string a,.string b] w fun e w'=>e=.returned (resS (chooseQ (twoI (fun p q=>(cmpQ p q,0)) a.data.toList b.data.toList) (1) a b))∧Below w.heap.size w w':=by
 have HB:=Lib.hid (refCmp_any a b w ha hb)
 obtain ⟨z1,z2⟩:=twoI_bound a.data.toList b.data.toList
 generalize twoI (fun p q=>(cmpQ p q,0)) a.data.toList b.data.toList=r at HB z1 z2 ⊢
 obtain ⟨c,e0⟩:=r
 dsimp only at z1 z2
 unfold resI at HB
 unfold chooseQ resS
 dsimp only at HB ⊢
 by_cases he:e0=0
 ·subst he
  rw [if_neg (by omega)]
  by_cases hp:c≤0
  ·rw [if_neg (by omega)]
   have hp':decide (c≤0)=true:=decide_eq_true hp
   go_enter Tryz.func270,Tryz.ntmps270
   go_wp2_with (go_at_call 119;refine HB.out.mono ?_;rintro e w2 ⟨rfl,hb2⟩;have HB2:=Lib.hid hb2;clear hb2)
   refine bodyPost_ret (results_tmp2 rfl _ _ _) rfl ?_
   exact ⟨rfl,HB2.out⟩
  ·rw [if_pos (by omega)]
   have hp':decide (c≤0)=false:=decide_eq_false hp
   go_enter Tryz.func270,Tryz.ntmps270
   go_wp2_with (go_at_call 119;refine HB.out.mono ?_;rintro e w2 ⟨rfl,hb2⟩;have HB2:=Lib.hid hb2;clear hb2)
   refine bodyPost_ret (results_tmp2 rfl _ _ _) rfl ?_
   exact ⟨rfl,HB2.out⟩
 ·rw [if_pos he]
  have hne:((e0:Int)==0)=false:=by rw [beq_eq_false_iff_ne];omega
  have HE:=Lib.hid he
  clear he
  go_enter Tryz.func270,Tryz.ntmps270
  go_wp2_with (go_at_call 119;refine HB.out.mono ?_;rintro e w2 ⟨rfl,hb2⟩;have HB2:=Lib.hid hb2;clear hb2)
  refine bodyPost_ret (results_tmp2 rfl _ _ _) rfl ?_
  exact ⟨rfl,HB2.out⟩
end Go.Proofs.YtigapglmipmbeaaGreatDoor
namespace Go.Proofs.YtigapglmipmbeaaGreatDoor
open Go.RowKit Go.Shelf
open Lim
section
variable {a b c:ByteArray} {p q:Rat} (w:World)
theorem raddT (ha:IsT a p) (hb:IsT b q) (hc:IsT c (p+q)) :
  Calls Tryz.prog 59 #[.string a,.string b] w fun e w'=>e=.returned (.tuple #[.string c,.int .i64 0])∧Below w.heap.size w w':=by
 refine (refAdd_any a b w ha.size hb.size).mono ?_
 rintro e w' ⟨rfl,h⟩
 rw [two_T ha hb,out_T hc]
 exact ⟨rfl,h⟩
theorem raddO (ha:IsT a p) (hb:IsT b q) (hf:fits (p+q)=false) :
  Calls Tryz.prog 59 #[.string a,.string b] w fun e w'=>e=.returned (.tuple #[.string ⟨#[]⟩,.int .i64 5])∧Below w.heap.size w w':=by
 refine (refAdd_any a b w ha.size hb.size).mono ?_
 rintro e w' ⟨rfl,h⟩
 rw [two_T ha hb,out_O hf]
 exact ⟨rfl,h⟩
theorem rmulT (ha:IsT a p) (hb:IsT b q) (hc:IsT c (p*q)) :
  Calls Tryz.prog 149 #[.string a,.string b] w fun e w'=>e=.returned (.tuple #[.string c,.int .i64 0])∧Below w.heap.size w w':=by
 refine (refMul_any a b w ha.size hb.size).mono ?_
 rintro e w' ⟨rfl,h⟩
 rw [two_T ha hb,out_T hc]
 exact ⟨rfl,h⟩
theorem rmulO (ha:IsT a p) (hb:IsT b q) (hf:fits (p*q)=false) :
  Calls Tryz.prog 149 #[.string a,.string b] w fun e w'=>e=.returned (.tuple #[.string ⟨#[]⟩,.int .i64 5])∧Below w.heap.size w w':=by
 refine (refMul_any a b w ha.size hb.size).mono ?_
 rintro e w' ⟨rfl,h⟩
 rw [two_T ha hb,out_O hf]
 exact ⟨rfl,h⟩
theorem rdivT (ha:IsT a p) (hb:IsT b q) (hc:IsT c (p*q⁻¹)) (h0:q≠0) :
  Calls Tryz.prog 160 #[.string a,.string b] w fun e w'=>e=.returned (.tuple #[.string c,.int .i64 0])∧Below w.heap.size w w':=by
 refine (refDiv_any a b w ha.size hb.size).mono ?_
 rintro e w' ⟨rfl,h⟩
 rw [two_T ha hb,div_T hc h0]
 exact ⟨rfl,h⟩
theorem rcmpT (ha:IsT a p) (hb:IsT b q) :
  Calls Tryz.prog 119 #[.string a,.string b] w fun e w'=>e=.returned (.tuple #[.int .i64 (cmpQ p q),.int .i64 0])∧Below w.heap.size w w':=by
 refine (refCmp_any a b w ha.size hb.size).mono ?_
 rintro e w' ⟨rfl,h⟩
 rw [two_I ha hb]
 exact ⟨rfl,h⟩
theorem rminT (ha:IsT a p) (hb:IsT b q) :
  Calls Tryz.prog 270 #[.string a,.string b] w fun e w'=>e=.returned (.tuple #[.string (rT (minQ p q)),.int .i64 0])∧Below w.heap.size w w':=by
 refine (refMin_any a b w ha.size hb.size).mono ?_
 rintro e w' ⟨rfl,h⟩
 refine ⟨?_,h⟩
 rw [two_I ha hb,← rT_min ha hb]
 unfold chooseQ resS
 simp only [ne_eq,not_true_eq_false,if_false,Int.mul_one]
 split<;>rfl
end
structure At1 (w:World) (t1:TypeId) (c1:Array Value) (W:World):Prop where
 a:Blk W w.heap.size t1 c1
 res:Res W
 below:Below w.heap.size w W
theorem At1.later {w W W':World} {t1:TypeId} {c1:Array Value} (h:At1 w t1 c1 W) (hb:Below W.heap.size W W'):At1 w t1 c1 W' :=
 ⟨h.a.below hb h.a.lt,h.res.below hb,h.below.trans (hb.mono h.below.size)⟩
theorem At1.new (w:World) (t1:TypeId) (c1:Array Value) (hr:Res w):At1 w t1 c1 (w.alloc (.cells c1 t1)) :=
 ⟨Blk.new w t1 c1,hr.below (below_alloc (Below.refl _ _) _),below_alloc (Below.refl _ _) _⟩
theorem rat_any {a b:ByteArray} {p q:Rat} (w:World) (ha:IsT a p) (hb:IsT b q) :
  Calls Tryz.prog 146 #[.string a,.string b] w fun e w'=>e=.returned (.bool (decide (cmpQ p q≤0)))∧Below w.heap.size w w':=by
 have HC:=Lib.hid (rcmpT w ha hb)
 generalize cmpQ p q=x at *
 clear ha hb
 go_enter Tryz.func146,Tryz.ntmps146
 go_wp2_with (go_at_call 119;refine HC.out.mono ?_;rintro e w1 ⟨rfl,hb⟩;have HB:=Lib.hid hb;clear hb)
 go_ret
 exact ⟨rfl,HB.out⟩
theorem rcheck_f (f d:ByteArray) (w:World) (h1:f.size≤270000) (_h2:d.size≤270000) (hr:Res w) (he:errQ f.data.toList≠0) :
  Calls Tryz.prog 145 #[.agg #[.string f,.string d]] w fun e w'=>e=.returned (.int .i64 (errQ f.data.toList:Int))∧Below w.heap.size w w':=by
 have H:=Lib.hid (At1.new w 63 #[.string f,.string d] hr)
 have HF:=Lib.hid (fun w=>refCheck_any f w h1)
 obtain ⟨z,hz⟩:∃ z:Int,(errQ f.data.toList:Int)=z:=⟨_,rfl⟩
 rw [hz] at HF ⊢
 have hne:(z==0)=false:=by rw [beq_eq_false_iff_ne];omega
 clear h1 hr he hz
 go_enter Tryz.func145,Tryz.ntmps145
 go_wp2_with (go_at_call 219;refine (HF.out _).mono ?_;rintro e w1 ⟨rfl,hb⟩;have H1:=Lib.hid (H.out.later hb);obtain ⟨p0,p1⟩:=cells2 H1.out.a;clear hb)
 go_ret
 exact ⟨rfl,H1.out.below⟩
theorem rcheck_d (f d:ByteArray) (w:World) (h1:f.size≤270000) (h2:d.size≤270000) (hr:Res w) (he1:errQ f.data.toList=0) (he:errQ d.data.toList≠0) :
  Calls Tryz.prog 145 #[.agg #[.string f,.string d]] w fun e w'=>e=.returned (.int .i64 (errQ d.data.toList:Int))∧Below w.heap.size w w':=by
 have H:=Lib.hid (At1.new w 63 #[.string f,.string d] hr)
 have HF:=Lib.hid (fun w=>refCheck_any f w h1)
 have HD:=Lib.hid (fun w=>refCheck_any d w h2)
 rw [he1] at HF
 obtain ⟨z,hz⟩:∃ z:Int,(errQ d.data.toList:Int)=z:=⟨_,rfl⟩
 rw [hz] at HD ⊢
 have hne:(z==0)=false:=by rw [beq_eq_false_iff_ne];omega
 have TK1:True:=trivial
 clear h1 h2 hr he he1 hz
 go_enter Tryz.func145,Tryz.ntmps145
 go_wp2_with (first
  | (clear TK1;go_at_call 219;refine (HF.out _).mono ?_;rintro e w1 ⟨rfl,hb⟩;have H1:=Lib.hid (H.out.later hb);obtain ⟨p0,p1⟩:=cells2 H1.out.a;clear hb)
  | (go_at_call 219;refine (HD.out _).mono ?_;rintro e w2 ⟨rfl,hb⟩;have H2:=Lib.hid (H1.out.later hb);obtain ⟨q0,q1⟩:=cells2 H2.out.a;clear hb))
 go_ret
 exact ⟨rfl,H2.out.below⟩
theorem rcheck_1 (f d:ByteArray) (w:World) (h1:f.size≤270000) (h2:d.size≤270000) (hr:Res w) (F D:Rat) (hf:IsT f F) (hd:IsT d D) (b1:decide (cmpQ 1 F≤0)=false) :
  Calls Tryz.prog 145 #[.agg #[.string f,.string d]] w fun e w'=>e=.returned (.int .i64 2)∧Below w.heap.size w w':=by
 have H:=Lib.hid (At1.new w 63 #[.string f,.string d] hr)
 have HF:=Lib.hid (fun w=>refCheck_any f w h1)
 have HD:=Lib.hid (fun w=>refCheck_any d w h2)
 rw [hf.err] at HF
 rw [hd.err] at HD
 have HA1:=Lib.hid (fun w=>rat_any w IsT.one hf)
 rw [b1] at HA1
 have TK1:True:=trivial
 have TK2:True:=trivial
 have TK3:True:=trivial
 clear h1 h2 hr hf hd b1
 go_enter Tryz.func145,Tryz.ntmps145
 go_wp2_with (first
  | (clear TK1;go_at_call 219;refine (HF.out _).mono ?_;rintro e w1 ⟨rfl,hb⟩;have H1:=Lib.hid (H.out.later hb);obtain ⟨p0,p1⟩:=cells2 H1.out.a;clear hb)
  | (go_at_call 219;refine (HD.out _).mono ?_;rintro e w2 ⟨rfl,hb⟩;have H2:=Lib.hid (H1.out.later hb);obtain ⟨q0,q1⟩:=cells2 H2.out.a;clear hb)
  | (clear TK2;go_at_call 146;refine (HA1.out _).mono ?_;rintro e w3 ⟨rfl,hb⟩;have H3:=Lib.hid (H2.out.later hb);obtain ⟨r0,r1⟩:=cells2 H3.out.a;clear hb))
 go_ret
 exact ⟨rfl,H3.out.below⟩
theorem rcheck_2 (f d:ByteArray) (w:World) (h1:f.size≤270000) (h2:d.size≤270000) (hr:Res w) (F D:Rat) (hf:IsT f F) (hd:IsT d D) (b1:decide (cmpQ 1 F≤0)=true) (b2:decide (cmpQ 0 D≤0)=false) :
  Calls Tryz.prog 145 #[.agg #[.string f,.string d]] w fun e w'=>e=.returned (.int .i64 2)∧Below w.heap.size w w':=by
 have H:=Lib.hid (At1.new w 63 #[.string f,.string d] hr)
 have HF:=Lib.hid (fun w=>refCheck_any f w h1)
 have HD:=Lib.hid (fun w=>refCheck_any d w h2)
 rw [hf.err] at HF
 rw [hd.err] at HD
 have HA1:=Lib.hid (fun w=>rat_any w IsT.one hf)
 rw [b1] at HA1
 have HA2:=Lib.hid (fun w=>rat_any w IsT.zero hd)
 rw [b2] at HA2
 have TK1:True:=trivial
 have TK2:True:=trivial
 have TK3:True:=trivial
 clear h1 h2 hr hf hd b1 b2
 go_enter Tryz.func145,Tryz.ntmps145
 go_wp2_with (first
  | (clear TK1;go_at_call 219;refine (HF.out _).mono ?_;rintro e w1 ⟨rfl,hb⟩;have H1:=Lib.hid (H.out.later hb);obtain ⟨p0,p1⟩:=cells2 H1.out.a;clear hb)
  | (go_at_call 219;refine (HD.out _).mono ?_;rintro e w2 ⟨rfl,hb⟩;have H2:=Lib.hid (H1.out.later hb);obtain ⟨q0,q1⟩:=cells2 H2.out.a;clear hb)
  | (clear TK2;go_at_call 146;refine (HA1.out _).mono ?_;rintro e w3 ⟨rfl,hb⟩;have H3:=Lib.hid (H2.out.later hb);obtain ⟨r0,r1⟩:=cells2 H3.out.a;clear hb)
  | (clear TK3;go_at_call 146;refine (HA2.out _).mono ?_;rintro e w4 ⟨rfl,hb⟩;have H4:=Lib.hid (H3.out.later hb);obtain ⟨s0,s1⟩:=cells2 H4.out.a;clear hb))
 go_ret
 exact ⟨rfl,H4.out.below⟩
theorem rcheck_3 (f d:ByteArray) (w:World) (h1:f.size≤270000) (h2:d.size≤270000) (hr:Res w) (F D:Rat) (hf:IsT f F) (hd:IsT d D) (b1:decide (cmpQ 1 F≤0)=true) (b2:decide (cmpQ 0 D≤0)=true) (b3:decide (cmpQ D 1≤0)=false) :
  Calls Tryz.prog 145 #[.agg #[.string f,.string d]] w fun e w'=>e=.returned (.int .i64 2)∧Below w.heap.size w w':=by
 have H:=Lib.hid (At1.new w 63 #[.string f,.string d] hr)
 have HF:=Lib.hid (fun w=>refCheck_any f w h1)
 have HD:=Lib.hid (fun w=>refCheck_any d w h2)
 rw [hf.err] at HF
 rw [hd.err] at HD
 have HA1:=Lib.hid (fun w=>rat_any w IsT.one hf)
 rw [b1] at HA1
 have HA2:=Lib.hid (fun w=>rat_any w IsT.zero hd)
 rw [b2] at HA2
 have HA3:=Lib.hid (fun w=>rat_any w hd IsT.one)
 rw [b3] at HA3
 have TK1:True:=trivial
 have TK2:True:=trivial
 have TK3:True:=trivial
 clear h1 h2 hr hf hd b1 b2 b3
 go_enter Tryz.func145,Tryz.ntmps145
 go_wp2_with (first
  | (clear TK1;go_at_call 219;refine (HF.out _).mono ?_;rintro e w1 ⟨rfl,hb⟩;have H1:=Lib.hid (H.out.later hb);obtain ⟨p0,p1⟩:=cells2 H1.out.a;clear hb)
  | (go_at_call 219;refine (HD.out _).mono ?_;rintro e w2 ⟨rfl,hb⟩;have H2:=Lib.hid (H1.out.later hb);obtain ⟨q0,q1⟩:=cells2 H2.out.a;clear hb)
  | (clear TK2;go_at_call 146;refine (HA1.out _).mono ?_;rintro e w3 ⟨rfl,hb⟩;have H3:=Lib.hid (H2.out.later hb);obtain ⟨r0,r1⟩:=cells2 H3.out.a;clear hb)
  | (clear TK3;go_at_call 146;refine (HA2.out _).mono ?_;rintro e w4 ⟨rfl,hb⟩;have H4:=Lib.hid (H3.out.later hb);obtain ⟨s0,s1⟩:=cells2 H4.out.a;clear hb)
  | (go_at_call 146;refine (HA3.out _).mono ?_;rintro e w5 ⟨rfl,hb⟩;have H5:=Lib.hid (H4.out.later hb);clear hb))
 go_ret
 exact ⟨rfl,H5.out.below⟩
theorem rcheck_ok (f d:ByteArray) (w:World) (h1:f.size≤270000) (h2:d.size≤270000) (hr:Res w) (F D:Rat) (hf:IsT f F) (hd:IsT d D) (b1:decide (cmpQ 1 F≤0)=true) (b2:decide (cmpQ 0 D≤0)=true) (b3:decide (cmpQ D 1≤0)=true) :
  Calls Tryz.prog 145 #[.agg #[.string f,.string d]] w fun e w'=>e=.returned (.int .i64 0)∧Below w.heap.size w w':=by
 have H:=Lib.hid (At1.new w 63 #[.string f,.string d] hr)
 have HF:=Lib.hid (fun w=>refCheck_any f w h1)
 have HD:=Lib.hid (fun w=>refCheck_any d w h2)
 rw [hf.err] at HF
 rw [hd.err] at HD
 have HA1:=Lib.hid (fun w=>rat_any w IsT.one hf)
 rw [b1] at HA1
 have HA2:=Lib.hid (fun w=>rat_any w IsT.zero hd)
 rw [b2] at HA2
 have HA3:=Lib.hid (fun w=>rat_any w hd IsT.one)
 rw [b3] at HA3
 have TK1:True:=trivial
 have TK2:True:=trivial
 have TK3:True:=trivial
 clear h1 h2 hr hf hd b1 b2 b3
 go_enter Tryz.func145,Tryz.ntmps145
 go_wp2_with (first
  | (clear TK1;go_at_call 219;refine (HF.out _).mono ?_;rintro e w1 ⟨rfl,hb⟩;have H1:=Lib.hid (H.out.later hb);obtain ⟨p0,p1⟩:=cells2 H1.out.a;clear hb)
  | (go_at_call 219;refine (HD.out _).mono ?_;rintro e w2 ⟨rfl,hb⟩;have H2:=Lib.hid (H1.out.later hb);obtain ⟨q0,q1⟩:=cells2 H2.out.a;clear hb)
  | (clear TK2;go_at_call 146;refine (HA1.out _).mono ?_;rintro e w3 ⟨rfl,hb⟩;have H3:=Lib.hid (H2.out.later hb);obtain ⟨r0,r1⟩:=cells2 H3.out.a;clear hb)
  | (clear TK3;go_at_call 146;refine (HA2.out _).mono ?_;rintro e w4 ⟨rfl,hb⟩;have H4:=Lib.hid (H3.out.later hb);obtain ⟨s0,s1⟩:=cells2 H4.out.a;clear hb)
  | (go_at_call 146;refine (HA3.out _).mono ?_;rintro e w5 ⟨rfl,hb⟩;have H5:=Lib.hid (H4.out.later hb);clear hb))
 go_ret
 exact ⟨rfl,H5.out.below⟩
theorem le_swap (p q:Rat):decide (cmpQ p q≤0)=!decide (cmpQ q p < 0):=by
 have:=cmpQ_swap p q
 by_cases h:cmpQ q p < 0
 ·rw [decide_eq_true h,decide_eq_false (by omega)];rfl
 ·rw [decide_eq_false h,decide_eq_true (by omega)];rfl
theorem le_gt (p q:Rat):decide (cmpQ p q≤0)=!decide (cmpQ p q > 0):=by
 by_cases h:cmpQ p q > 0
 ·rw [decide_eq_true h,decide_eq_false (by omega)];rfl
 ·rw [decide_eq_false h,decide_eq_true (by omega)];rfl
theorem refLoss_any (f d:ByteArray) (w:World) (h1:f.size≤270000) (h2:d.size≤270000) (hr:Res w) :
  Calls Tryz.prog 145 #[.agg #[.string f,.string d]] w fun e w'=>e=.returned (.int .i64 (errL f d:Int))∧Below w.heap.size w w':=by
 unfold errL
 by_cases e1:errQ f.data.toList=0
 ·rw [if_neg (by omega)]
  by_cases e2:errQ d.data.toList=0
  ·rw [if_neg (by omega)]
   have hf:=IsT.of e1
   have hd:=IsT.of e2
   by_cases c1:cmpQ (valQ f.data.toList) 1 < 0
   ·rw [if_pos (.inl c1)]
    exact rcheck_1 f d w h1 h2 hr _ _ hf hd (by rw [le_swap,decide_eq_true c1];rfl)
   by_cases c2:cmpQ (valQ d.data.toList) 0 < 0
   ·rw [if_pos (.inr (.inl c2))]
    exact rcheck_2 f d w h1 h2 hr _ _ hf hd (by rw [le_swap,decide_eq_false c1];rfl) (by rw [le_swap,decide_eq_true c2];rfl)
   by_cases c3:cmpQ (valQ d.data.toList) 1 > 0
   ·rw [if_pos (.inr (.inr c3))]
    exact rcheck_3 f d w h1 h2 hr _ _ hf hd (by rw [le_swap,decide_eq_false c1];rfl) (by rw [le_swap,decide_eq_false c2];rfl) (by rw [le_gt,decide_eq_true c3];rfl)
   rw [if_neg (by omega)]
   exact rcheck_ok f d w h1 h2 hr _ _ hf hd (by rw [le_swap,decide_eq_false c1];rfl) (by rw [le_swap,decide_eq_false c2];rfl) (by rw [le_gt,decide_eq_false c3];rfl)
  ·rw [if_pos e2];exact rcheck_d f d w h1 h2 hr e1 e2
 ·rw [if_pos e1];exact rcheck_f f d w h1 h2 hr e1
theorem enc_digit {d:Nat} (h:d < 10):Utf8.encode ((48+d:Nat):Int)=⟨#[UInt8.ofNat (48+d)]⟩:=by
 unfold Utf8.encode
 have hv:Utf8.valid ((48+d:Nat):Int)=true:=by
  unfold Utf8.valid
  simp
  omega
 simp only [hv,if_true,Int.toNat_natCast]
 rw [if_pos (by omega)]
theorem pow_up {m j k:Nat} (h:m < 10 ^ j) (hk:j≤k):m < 10 ^ k:=Nat.lt_of_lt_of_le h (Nat.pow_le_pow_right (by decide) hk)
theorem nd_up {m j k:Nat} (h:m < 10 ^ j) (hk:j≤k) (h1:1≤k):Lib.nDigits m≤k:=(nDigits_iff h1).2 (pow_up h hk)
theorem dec_big {m:Nat} (h:¬ m < 10):Lib.decDigits m=Lib.decDigits (m / 10)++[UInt8.ofNat (48+m % 10)]:=by
 rw [Lib.decDigits,dif_neg h]
theorem fromInt_any (n:Nat) (w:World) (hn:n≤9223372036854775807) :
  Calls Tryz.prog 224 #[.int .i64 (n:Int)] w fun e w'=>e=.returned (.tuple #[.string ⟨(Lib.decDigits n).toArray⟩,.int .i64 0])∧w'=w:=by
 have hneg:decide ((n:Int) < 0)=false:=decide_eq_false (by omega)
 go_enter Tryz.func224,Tryz.ntmps224
 go_wp2
 go_loopw [0,4] (fun v0 v4 wr=>∃ (x:Int) (m:Nat) (s:ByteArray),m≤n∧v0=.int .i64 x∧v4=.string s∧Hid (x=(m:Int))∧Hid (Lib.decDigits m++s.data.toList=Lib.decDigits n)∧wr=w) (fun v0 _ _=>(intOf v0).toNat)
 case atStart=>exact ⟨n,n,⟨#[]⟩,Nat.le_refl _,rfl,rfl,Lib.hid rfl,Lib.hid (by simp),rfl⟩
 case round =>
  obtain ⟨x,m,s,hm,rfl,rfl,HX,HS,rfl⟩:=hrel
  have HM:=Lib.hid hm
  have x0:0≤x:=by have:=HX.out;omega
  have x1:x≤9223372036854775807:=by have:=HX.out;omega
  have hs19:s.size+1≤9223372036854775807:=by
   have h1:=congrArg List.length HS.out
   rw [List.length_append,Lib.decDigits_length,Lib.decDigits_length,← size_list] at h1
   have h2:Lib.nDigits n≤19:=nd_up (j:=19) (by omega) (by decide) (by decide)
   omega
  clear hm hn hneg
  by_cases h9:9 < x
  ·have e1:48+x % 10=((48+m % 10:Nat):Int):=by have:=HX.out;omega
   have hE:Utf8.encode (48+x % 10)=⟨#[UInt8.ofNat (48+m % 10)]⟩:=by rw [e1];exact enc_digit (Nat.mod_lt _ (by decide))
   have hq:(Utf8.encode (48+x % 10)).size=1:=by rw [hE];rfl
   have HE:=Lib.hid hE
   have H9:=Lib.hid h9
   clear x0 e1 hE
   go_wp2
   have hmx:=HX.out
   have h9':=H9.out
   refine ⟨⟨x / 10,m / 10,Utf8.encode (48+x % 10)++s,by have:=HM.out;omega,rfl,rfl,Lib.hid (by omega),Lib.hid ?_,trivial⟩,?_⟩
   ·rw [HE.out,← HS.out,dec_big (show ¬ m < 10 by omega),List.append_assoc]
    congr 1
   ·simp [intOf];omega
  ·have e1:48+x=((48+m:Nat):Int):=by have:=HX.out;omega
   have hm9:m < 10:=by have:=HX.out;omega
   have hE:Utf8.encode (48+x)=⟨#[UInt8.ofNat (48+m)]⟩:=by rw [e1];exact enc_digit hm9
   have hq:(Utf8.encode (48+x)).size=1:=by rw [hE];rfl
   have HE:=Lib.hid hE
   have H9:=Lib.hid hm9
   have hd:decide (9 < x)=false:=decide_eq_false h9
   have hx9:x≤9:=by omega
   clear x1 e1 hE hm9 h9
   go_wp2
   refine bodyPost_ret (results_tmp2 rfl _ _ _) rfl ?_
   refine ⟨?_,rfl⟩
   have:Utf8.encode (48+x)++s=⟨(Lib.decDigits n).toArray⟩:=by
    apply ByteArray.ext
    apply Array.toList_inj.1
    show _=Lib.decDigits n
    rw [HE.out,← HS.out,Lib.decDigits_one H9.out,ByteArray.data_append]
    simp
   rw [this]
   rfl
theorem rsmall_any (n:Nat) (w:World) (hn:n≤9223372036854775807) :
  Calls Tryz.prog 226 #[.int .i64 (n:Int)] w fun e w'=>e=.returned (.string ⟨(Lib.decDigits n).toArray⟩)∧w'=w:=by
 have HC:=Lib.hid (fromInt_any n w hn)
 generalize (⟨(Lib.decDigits n).toArray⟩:ByteArray)=s at *
 go_enter Tryz.func226,Tryz.ntmps226
 go_wp2_with (go_at_call 224;refine HC.out.mono ?_;rintro e w1 ⟨rfl,hw1⟩;subst hw1)
 go_ret
 exact ⟨rfl,rfl⟩
theorem dv_dec (m:Nat):dv (⟨(Lib.decDigits m).toArray⟩:ByteArray).data.toList=m:=by
 show dv (Lib.decDigits m)=m
 exact dv_decDigits m
theorem refInt_any (n:Int) (w:World) (h0:-9223372036854775808≤n) (h1:n≤9223372036854775807) :
  Calls Tryz.prog 148 #[.int .i64 n] w fun e w'=>e=.returned (.string ⟨(Lib.itoa n).toArray⟩)∧Below w.heap.size w w':=by
 by_cases hn:0≤n
 ·obtain ⟨k,rfl⟩:=Int.eq_ofNat_of_zero_le hn
  have hd:decide (0≤(k:Int))=true:=decide_eq_true hn
  have hi:Lib.itoa (k:Int)=Lib.decDigits k:=by unfold Lib.itoa;rw [if_neg (by omega)];simp
  rw [hi]
  have HC:=Lib.hid (fromInt_any k w (by omega))
  generalize (⟨(Lib.decDigits k).toArray⟩:ByteArray)=s at *
  clear hi
  go_enter Tryz.func148,Tryz.ntmps148
  go_wp2_with (go_at_call 224;refine HC.out.mono ?_;rintro e w1 ⟨rfl,hw1⟩;subst hw1)
  go_ret
  exact ⟨rfl,Below.refl _ _⟩
 ·obtain ⟨m,hnm⟩:∃ m:Nat,n=-((m:Int)+1):=⟨(-(n+1)).toNat,by omega⟩
  have hm:m≤9223372036854775807:=by omega
  have hi:Lib.itoa n=45::Lib.decDigits (m+1):=by
   rw [hnm]
   unfold Lib.itoa
   rw [if_pos (by omega),show (-((m:Int)+1)).natAbs=m+1 by omega]
  rw [hi]
  have hsn:(⟨(Lib.decDigits m).toArray⟩:ByteArray).size=Lib.nDigits m:=by
   rw [size_list]
   show (Lib.decDigits m).length=_
   rw [Lib.decDigits_length]
  have hnd:Lib.nDigits m≤4000:=nd_up (j:=19) (by omega) (by decide) (by decide)
  have hnd1:Lib.nDigits (m+1)≤4000:=nd_up (j:=19) (by omega) (by decide) (by decide)
  obtain ⟨t,ht⟩:∃ t:ByteArray,t=⟨(Lib.decDigits (m+1)).toArray⟩:=⟨_,rfl⟩
  have hts:t.size+1≤9223372036854775807:=by
   rw [ht,size_list]
   show (Lib.decDigits (m+1)).length+1≤_
   rw [Lib.decDigits_length]
   omega
  have HT:=Lib.hid ht
  clear ht
  have hl0:=limbs_of_nd hnd (show 4000≤9*445 by omega)
  have hl1:=limbs_of_nd hnd1 (show 4000≤9*445 by omega)
  have e1:toL 1=[1]:=by rw [toL_pos (by omega)];simp [B_val,toL_zero]
  have HL:=Lib.hid (And.intro hl0 (And.intro hl1 (show (toL 1).length≤40000 by rw [e1];decide)))
  have HS:=Lib.hid (rsmall_any m w hm)
  have HD:=Lib.hid (And.intro (dv_dec m) (And.intro hnd hsn))
  have HG:=Lib.hid (show Dg (⟨(Lib.decDigits m).toArray⟩:ByteArray).data.toList from dg_of_form (nform_dec m))
  have hneg:-(n+1)=(m:Int):=by omega
  have HN:=Lib.hid hneg
  clear hnd hnd1 hl0 hl1 e1 hi hsn hneg hm hnm h1
  have TK1:True:=trivial
  go_enter Tryz.func148,Tryz.ntmps148
  go_wp2_with (first
   | (clear TK1;go_at_call 226;(first|rw [HN.out]|skip);refine HS.out.mono ?_;rintro e w1 ⟨rfl,hw1⟩;subst hw1)
   | (go_at_call 223;refine (rread_any _ _ HG.out (by have:=HD.out.2;omega)).mono ?_;rintro e w2 ⟨v2,rfl,hv2,hb2⟩;rw [HD.out.1] at hv2;have HV2:=Lib.hid hv2;have HB2:=Lib.hid hb2;clear hv2 hb2)
   | (go_at_call 227;refine (rone_any _).mono ?_;rintro e w3 ⟨v3,rfl,hv3,hb3⟩;have HV3:=Lib.hid hv3;have HV2':=Lib.hid (HV2.out.below hb3);have HB3:=Lib.hid (HB2.out.trans (hb3.mono HB2.out.size));clear hv3 hb3)
   | (go_at_call 225;refine (rplus_any m 1 _ _ _ HV2'.out HV3.out (by have:=HL.out.1;omega) HL.out.2.2).mono ?_;rintro e w4 ⟨v4,rfl,hv4,hb4⟩;have HV4:=Lib.hid hv4;have HB4:=Lib.hid (HB3.out.trans (hb4.mono HB3.out.size));clear hv4 hb4)
   | (go_at_call 228;refine (rwrite_any (m+1) _ _ HV4.out (by have:=HL.out.2.1;omega)).mono ?_;rintro e w5 ⟨rfl,hb5⟩;rw [← HT.out];have HB5:=Lib.hid (HB4.out.trans (hb5.mono HB4.out.size));clear hb5))
  go_ret
  refine ⟨?_,HB5.out⟩
  rw [show (⟨(45::Lib.decDigits (m+1)).toArray⟩:ByteArray)=⟨#[45]⟩++t by rw [HT.out];apply ByteArray.ext;apply Array.toList_inj.1;rw [ByteArray.data_append];simp]
  rfl
theorem refsign_zero (a:ByteArray) (q:Rat) (w:World) (ha:a.size≤270000) (he:errQ a.data.toList=0) (hq:valQ a.data.toList=q) (h0:nm q=0) :
  Calls Tryz.prog 110 #[.string a] w fun e w'=>e=.returned (.tuple #[.int .i64 0,.int .i64 0])∧Below w.heap.size w w':=by
 have HP:=Lib.hid (rq_any a w ha)
 have hne:((errQ a.data.toList:Int)==0)=true:=by rw [he];rfl
 have HE:=Lib.hid he
 rw [hq] at HP
 have HF:=Lib.hid (fun (b:Bool) (N:Nat) (h:ng q=b∧nm q=N)=>show (((toL N).length:Int)==0)=true∧b=b from ⟨by rw [len_zero,← h.2,decide_eq_true h0],rfl⟩)
 clear h0
 clear he hq
 go_enter Tryz.func110,Tryz.ntmps110
 go_wp2_with (go_at_call 155;refine HP.out.mono ?_;rintro e w1 ⟨v,rfl,hv,-,hb⟩;obtain ⟨bq,N,D,A,c,A',c',rfl,hn,hd,HQ⟩:=isQ_open (hv HE.out);have HB:=Lib.hid hb;have HX:=Lib.hid (below_alloc (Below.refl w1.heap.size w1) (.cells #[.bool bq,.slice A (toL N).length c,.slice A' (toL D).length c'] 170));have HBX:=Lib.hid (HB.out.trans (HX.out.mono HB.out.size));have HN:=Lib.hid (hn.below HX.out);have HD:=Lib.hid (hd.below HX.out);clear hb hv hn hd;obtain ⟨f1,f2⟩:=HF.out _ _ ⟨HQ.out.1,HQ.out.2.1⟩)
 all_goals first
  | (refine bodyPost_ret (results_tmp2 rfl _ _ _) rfl ?_;refine ⟨?_,HBX.out⟩;show Ending.returned (.tuple #[.int .i64 0,.int .i64 (errQ a.data.toList:Int)])=_;rw [HE.out];rfl)
  | (exfalso;have:=HE.out;omega)
  | (exfalso;simp_all)
theorem refsign_neg (a:ByteArray) (q:Rat) (w:World) (ha:a.size≤270000) (he:errQ a.data.toList=0) (hq:valQ a.data.toList=q) (h0:nm q≠0) (hb:ng q=true) :
  Calls Tryz.prog 110 #[.string a] w fun e w'=>e=.returned (.tuple #[.int .i64 (-1),.int .i64 0])∧Below w.heap.size w w':=by
 have HP:=Lib.hid (rq_any a w ha)
 have hne:((errQ a.data.toList:Int)==0)=true:=by rw [he];rfl
 have HE:=Lib.hid he
 rw [hq] at HP
 have HF:=Lib.hid (fun (b:Bool) (N:Nat) (h:ng q=b∧nm q=N)=>show (((toL N).length:Int)==0)=false∧b=true from ⟨by rw [len_zero,← h.2,decide_eq_false h0],h.1.symm.trans hb⟩)
 clear h0 hb
 clear he hq
 go_enter Tryz.func110,Tryz.ntmps110
 go_wp2_with (go_at_call 155;refine HP.out.mono ?_;rintro e w1 ⟨v,rfl,hv,-,hb⟩;obtain ⟨bq,N,D,A,c,A',c',rfl,hn,hd,HQ⟩:=isQ_open (hv HE.out);have HB:=Lib.hid hb;have HX:=Lib.hid (below_alloc (Below.refl w1.heap.size w1) (.cells #[.bool bq,.slice A (toL N).length c,.slice A' (toL D).length c'] 170));have HBX:=Lib.hid (HB.out.trans (HX.out.mono HB.out.size));have HN:=Lib.hid (hn.below HX.out);have HD:=Lib.hid (hd.below HX.out);clear hb hv hn hd;obtain ⟨f1,f2⟩:=HF.out _ _ ⟨HQ.out.1,HQ.out.2.1⟩;subst f2)
 all_goals first
  | (refine bodyPost_ret (results_tmp2 rfl _ _ _) rfl ?_;exact ⟨rfl,HBX.out⟩)
  | (exfalso;have:=beq_eq_false_iff_ne.1 f1;omega)
  | (exfalso;simp_all)
theorem refsign_pos (a:ByteArray) (q:Rat) (w:World) (ha:a.size≤270000) (he:errQ a.data.toList=0) (hq:valQ a.data.toList=q) (h0:nm q≠0) (hb:ng q=false) :
  Calls Tryz.prog 110 #[.string a] w fun e w'=>e=.returned (.tuple #[.int .i64 1,.int .i64 0])∧Below w.heap.size w w':=by
 have HP:=Lib.hid (rq_any a w ha)
 have hne:((errQ a.data.toList:Int)==0)=true:=by rw [he];rfl
 have HE:=Lib.hid he
 rw [hq] at HP
 have HF:=Lib.hid (fun (b:Bool) (N:Nat) (h:ng q=b∧nm q=N)=>show (((toL N).length:Int)==0)=false∧b=false from ⟨by rw [len_zero,← h.2,decide_eq_false h0],h.1.symm.trans hb⟩)
 clear h0 hb
 clear he hq
 go_enter Tryz.func110,Tryz.ntmps110
 go_wp2_with (go_at_call 155;refine HP.out.mono ?_;rintro e w1 ⟨v,rfl,hv,-,hb⟩;obtain ⟨bq,N,D,A,c,A',c',rfl,hn,hd,HQ⟩:=isQ_open (hv HE.out);have HB:=Lib.hid hb;have HX:=Lib.hid (below_alloc (Below.refl w1.heap.size w1) (.cells #[.bool bq,.slice A (toL N).length c,.slice A' (toL D).length c'] 170));have HBX:=Lib.hid (HB.out.trans (HX.out.mono HB.out.size));have HN:=Lib.hid (hn.below HX.out);have HD:=Lib.hid (hd.below HX.out);clear hb hv hn hd;obtain ⟨f1,f2⟩:=HF.out _ _ ⟨HQ.out.1,HQ.out.2.1⟩;subst f2)
 all_goals first
  | (refine bodyPost_ret (results_tmp2 rfl _ _ _) rfl ?_;exact ⟨rfl,HBX.out⟩)
  | (exfalso;have:=beq_eq_false_iff_ne.1 f1;omega)
  | (exfalso;simp_all)
theorem refSign_err (a:ByteArray) (w:World) (ha:a.size≤270000) (he:errQ a.data.toList≠0) :
  Calls Tryz.prog 110 #[.string a] w fun e w'=>e=.returned (.tuple #[.int .i64 0,.int .i64 (errQ a.data.toList:Int)])∧Below w.heap.size w w':=by
 have HP:=Lib.hid (rq_any a w ha)
 have hne:((errQ a.data.toList:Int)==0)=false:=by rw [beq_eq_false_iff_ne];omega
 have HE:=Lib.hid he
 clear he
 go_enter Tryz.func110,Tryz.ntmps110
 go_wp2_with ((go_at_call 155;refine HP.out.mono ?_;rintro e w1 ⟨v,rfl,-,hz,hb⟩;obtain rfl:=hz HE.out;have HB:=Lib.hid hb;clear hb hz))
 all_goals first
  | (refine bodyPost_ret (results_tmp2 rfl _ _ _) rfl ?_;exact ⟨rfl,below_alloc HB.out _⟩)
  | (exfalso;have:=HE.out;omega)
  | (exfalso;simp_all)
theorem refSign_any (a:ByteArray) (w:World) (ha:a.size≤270000) :
  Calls Tryz.prog 110 #[.string a] w fun e w'=>e=.returned (resI (oneI (fun p=>(sgQ p,0)) a.data.toList))∧Below w.heap.size w w':=by
 unfold oneI
 by_cases he:errQ a.data.toList=0
 ·rw [if_neg (by omega)]
  unfold resI sgQ
  dsimp only
  by_cases h0:nm (valQ a.data.toList)=0
  ·rw [if_pos h0]
   exact refsign_zero a _ w ha he rfl h0
  ·rw [if_neg h0]
   cases hb:ng (valQ a.data.toList) with
   | true=>exact refsign_neg a _ w ha he rfl h0 hb
   | false=>exact refsign_pos a _ w ha he rfl h0 hb
 ·rw [if_pos he]
  exact refSign_err a w ha he
section
variable {a b:ByteArray} (ha:a.size≤270000) (hb:b.size≤270000)
include ha hb
theorem retRPlX:Ret 59 #[.string a,.string b] (resX (plX a b)):=fun w _=>by
 unfold plX
 rw [← resX_ex (plX_t a b)]
 exact refAdd_any a b w ha hb
theorem retRSubX:Ret 61 #[.string a,.string b] (resX (subX a b)):=fun w _=>by
 unfold subX
 rw [← resX_ex (subX_t a b)]
 exact refSub_any a b w ha hb
theorem retRMulX:Ret 149 #[.string a,.string b] (resX (mulX a b)):=fun w _=>by
 unfold mulX
 rw [← resX_ex (mulX_t a b)]
 exact refMul_any a b w ha hb
end
theorem retRSign {a:ByteArray} (ha:a.size≤270000):Ret 110 #[.string a] (.tuple #[.int .i64 (if errQ a.data.toList≠0 then 0 else sgQ (valQ a.data.toList)),.int .i64 (errQ a.data.toList:Int)]):=fun w _=>by
 refine (refSign_any a w ha).mono ?_
 rintro e w' ⟨rfl,h⟩
 refine ⟨?_,h⟩
 unfold oneI resI
 split
 ·rfl
 ·rename_i h0
  rw [show errQ a.data.toList=0 from Classical.byContradiction h0]
theorem retRSign_err {a:ByteArray} (ha:a.size≤270000) (h:errQ a.data.toList≠0):Ret 110 #[.string a] (.tuple #[.int .i64 0,.int .i64 (errQ a.data.toList:Int)]):=by
 have:=retRSign ha
 rwa [if_pos h] at this
theorem retRSign_ok {a:ByteArray} (ha:a.size≤270000) (h:errQ a.data.toList=0):Ret 110 #[.string a] (.tuple #[.int .i64 (sgQ (valQ a.data.toList)),.int .i64 0]):=by
 have:=retRSign ha
 rw [if_neg (by simpa using h),h] at this
 exact this
theorem posE_err {p:ByteArray} (h:errQ p.data.toList≠0):posE p=errQ p.data.toList:=if_pos h
end Go.Proofs.YtigapglmipmbeaaGreatDoor
namespace Go.Proofs.YtigapglmipmbeaaGreatDoor
open Lim
def ovT (q:Rat):XE:=if fits q then .ok (rT q) else .error 5
theorem exQ_out (q:Rat):exQ (outQ q)=ovT q:=by
 unfold ovT
 by_cases h:fits q=true
 ·rw [if_pos h]
  unfold exQ
  rw [outQ_ok (fits_sz.1 h) (Nat.le_refl _)]
  rfl
 ·rw [if_neg h]
  have h2:maxD < Lib.nDigits (nm q)∨maxD < Lib.nDigits q.den:=by
   unfold fits at h
   simp only [Bool.not_eq_true',decide_eq_false_iff_not,Decidable.not_not] at h
   exact h
  unfold exQ outQ
  rw [if_pos h2]
  rfl
theorem ok_rT {s:ByteArray} (h:errQ s.data.toList=0):s=rT (valQ s.data.toList):=(IsT.of h).text
theorem err_rT {q:Rat} (h:fits q=true):errQ (rT q).data.toList=0:=(isT_rT h).err
theorem val_rT {q:Rat} (h:fits q=true):valQ (rT q).data.toList=q:=(isT_rT h).val
theorem ovT_ok {q:Rat} {s:ByteArray} (h:ovT q=.ok s):errQ s.data.toList=0∧valQ s.data.toList=q∧fits q=true:=by
 unfold ovT at h
 split at h
 ·rename_i hf;cases h;exact ⟨err_rT hf,val_rT hf,hf⟩
 ·cases h
theorem ovT_fit {q:Rat} (h:fits q=true):ovT q=.ok (rT q):=if_pos h
section
variable {a b:ByteArray} (ha:errQ a.data.toList=0) (hb:errQ b.data.toList=0)
include ha hb
theorem plX_val:plX a b=ovT (valQ a.data.toList+valQ b.data.toList):=by unfold plX;rw [two_T (IsT.of ha) (IsT.of hb),exQ_out]
theorem subX_val:subX a b=ovT (valQ a.data.toList - valQ b.data.toList):=by unfold subX;rw [two_T (IsT.of ha) (IsT.of hb),exQ_out,Rat.sub_eq_add_neg]
theorem maxX_val:maxX a b=.ok (if cmpQ (valQ a.data.toList) (valQ b.data.toList) < 0 then b else a):=by
 unfold maxX
 rw [if_neg (by simpa using ha),if_neg (by simpa using hb)]
end
def valsD (ls:List L2):DL:=ls.map fun x=>(x.1,valQ x.2.data.toList)
def OkV (ls:List L2):Prop:=∀ x∈ls,errQ x.2.data.toList=0
theorem keys_vals (ls:List L2):keysD (valsD ls)=ls.map (·.1):=by unfold keysD valsD;rw [List.map_map];rfl
theorem posE_zero {p:ByteArray}:posE p=0↔errQ p.data.toList=0∧0≤valQ p.data.toList:=by
 unfold posE
 split
 ·rename_i h;exact ⟨fun h2=>absurd h2 h,fun h2=>absurd h2.1 h⟩
 ·rename_i h
  have h:errQ p.data.toList=0:=Classical.byContradiction h
  split
  ·rename_i h2;exact ⟨fun h3=>by omega,fun h3=>absurd h3.2 (by grind)⟩
  ·rename_i h2;exact ⟨fun _=>⟨h,by grind⟩,fun _=>rfl⟩
theorem ltK_iff {a b:ByteArray}:ltK a b=true↔a.data.toList < b.data.toList:=by unfold ltK;exact decide_eq_true_iff
theorem ltK_trans {a b c:ByteArray} (h1:ltK a b=true) (h2:ltK b c=true):ltK a c=true:=ltK_iff.2 (List.lt_trans (ltK_iff.1 h1) (ltK_iff.1 h2))
theorem ltK_irrefl (a:ByteArray):ltK a a=false:=by
 cases h:ltK a a
 ·rfl
 ·exact absurd (ltK_iff.1 h) (List.lt_irrefl _)
def Asc (ks:List ByteArray):Prop:=ks.Pairwise fun a b=>ltK a b=true
theorem Asc.nodup {ks:List ByteArray} (h:Asc ks):ks.Nodup:=by
 refine List.Pairwise.imp ?_ h
 intro a b hab e
 subst e
 rw [ltK_irrefl] at hab
 cases hab
theorem chkL_zero:∀ {ls:List L2} {k:Option ByteArray},chkL k ls=0→(∀ x∈ls,errQ x.2.data.toList=0∧0 < valQ x.2.data.toList)∧Asc (ls.map (·.1))∧∀ x∈ls,badK k x.1=false
 | [],_,_=>⟨fun x hx=>(by cases hx),List.Pairwise.nil,fun x hx=>(by cases hx)⟩
 | x::l,k,h=>by
  unfold chkL at h
  split at h
  ·rename_i h1;exact absurd h h1
  ·rename_i h1
   have h1:posE x.2=0:=Classical.byContradiction h1
   split at h
   ·cases h
   ·rename_i h2
    have h2:0 < valQ x.2.data.toList:=Classical.byContradiction h2
    split at h
    ·cases h
    ·rename_i h3
     have h3:badK k x.1=false:=by simpa using h3
     obtain ⟨r1,r2,r3⟩:=chkL_zero h
     have r4:∀ y∈l,ltK x.1 y.1=true:=fun y hy=>by simpa [badK] using r3 y hy
     refine ⟨fun y hy=>?_,?_,fun y hy=>?_⟩
     ·rcases List.mem_cons.1 hy with rfl|hy
      ·exact ⟨(posE_zero.1 h1).1,h2⟩
      ·exact r1 y hy
     ·refine List.pairwise_cons.2 ⟨fun b hb=>?_,r2⟩
      obtain ⟨y,hy,rfl⟩:=List.mem_map.1 hb
      exact r4 y hy
     ·rcases List.mem_cons.1 hy with rfl|hy
      ·exact h3
      ·cases k with
       | none=>rfl
       | some k =>
        have h4:ltK k x.1=true:=by simpa [badK] using h3
        simp only [badK,ltK_trans h4 (r4 y hy),Bool.not_true]
theorem foldX_val {α:Type} {g:α→XE} {v:α→Rat}:∀ {l:List α} {s t:ByteArray},foldX g s l=.ok t→errQ s.data.toList=0→(∀ x∈l,∀ p,g x=.ok p→errQ p.data.toList=0∧valQ p.data.toList=v x) →
  errQ t.data.toList=0∧valQ t.data.toList=valQ s.data.toList+sumBy v l
 | [],s,t,h,hs,_=>by
  cases h
  exact ⟨hs,by simp only [sumBy];grind⟩
 | x::l,s,t,h,hs,hg=>by
  unfold foldX at h
  cases hx:g x with
  | error n=>rw [hx] at h;cases h
  | ok p =>
   rw [hx] at h
   obtain ⟨e1,e2⟩:=hg x (by simp) p hx
   dsimp only at h
   rw [plX_val hs e1] at h
   cases ha:ovT (valQ s.data.toList+valQ p.data.toList) with
   | error n=>rw [ha] at h;cases h
   | ok u =>
    rw [ha] at h
    obtain ⟨e3,e4,_⟩:=ovT_ok ha
    obtain ⟨r1,r2⟩:=foldX_val h e3 fun y hy=>hg y (by simp [hy])
    refine ⟨r1,?_⟩
    rw [r2,e4,e2]
    simp only [sumBy]
    grind
theorem sum_vals (ls:List L2):sumBy (fun e=>e.2) (valsD ls)=sumBy (fun x:L2=>valQ x.2.data.toList) ls:=by unfold valsD;rw [sumBy_map]
theorem foldX_ne {α:Type} {g:α→XE} (hg:∀ x m,g x=.error m→m≠0):∀ {l:List α} {s:ByteArray} {n:Nat},foldX g s l=.error n→n≠0
 | [],_,_,h=>by cases h
 | x::l,s,n,h=>by
  unfold foldX at h
  cases hx:g x with
  | error m=>rw [hx] at h;cases h;exact hg x _ hx
  | ok p =>
   rw [hx] at h
   dsimp only at h
   cases ha:plX s p with
   | error m=>rw [ha] at h;cases h;exact exQ_err ha
   | ok u=>rw [ha] at h;exact foldX_ne hg h
theorem chkD_zero {ls:List L2} (h:chkD ls=0):IsD (valsD ls)∧OkV ls∧Asc (ls.map (·.1)):=by
 unfold chkD at h
 split at h
 ·rename_i h1;exact absurd h h1
 ·rename_i h1
  have h1:chkL none ls=0:=Classical.byContradiction h1
  obtain ⟨r1,r2,_⟩:=chkL_zero h1
  cases hs:sumX zT ls with
  | error n =>
   rw [hs] at h
   exact absurd h (foldX_ne (fun x m hm=>by cases hm) hs)
  | ok s =>
   rw [hs] at h
   unfold chkS at h
   dsimp only at h
   split at h
   ·rename_i h2
    obtain ⟨e1,e2⟩:=foldX_val (v:=fun x:L2=>valQ x.2.data.toList) hs err_zT (fun x hx p hp=>by cases hp;exact ⟨(r1 x hx).1,rfl⟩)
    rw [h2,val_oT,val_zT,Rat.zero_add] at e2
    refine ⟨⟨by rw [keys_vals];exact r2.nodup,fun e he=>?_,by rw [sum_vals,e2]⟩,fun x hx=>(r1 x hx).1,r2⟩
    obtain ⟨x,hx,rfl⟩:=List.mem_map.1 he
    exact (r1 x hx).2
   ·cases h
section
variable {α:Type} {f:α→Rat}
end
theorem hasT_iff {k:ByteArray}:∀ {ls:List L2},hasT ls k=true↔k∈ls.map (·.1)
 | []=>by simp [hasT]
 | x::l=>by
  unfold hasT
  rw [List.map_cons,List.mem_cons]
  split
  ·rename_i h;exact ⟨fun _=>.inl h.symm,fun _=>rfl⟩
  ·rename_i h
   rw [hasT_iff]
   exact ⟨.inr,fun h2=>h2.resolve_left fun e=>h e.symm⟩
theorem atT_none {k:ByteArray}:∀ {ls:List L2},k ∉ ls.map (·.1)→atT ls k=zT
 | [],_=>rfl
 | x::l,h=>by
  rw [List.map_cons,List.mem_cons,not_or] at h
  unfold atT
  rw [if_neg fun e=>h.1 e.symm]
  exact atT_none h.2
end Go.Proofs.YtigapglmipmbeaaGreatDoor
