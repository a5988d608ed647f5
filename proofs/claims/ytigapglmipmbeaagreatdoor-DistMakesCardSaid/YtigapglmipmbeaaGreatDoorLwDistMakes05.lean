/- The reference's Write of a rational number, two, Order (printed by mkrwq.py). The reference's Add, Mul, Sub, Div (printed by mkradd.py). The reference's Order of rational numbers, Cmp, Min, Max (printed by mkrord.py). The reference's functions of one number: Neg, Abs, Inv, Sign (printed by mkrone.py). -/
import Derived.Test.YtigapglmipmbeaaGreatDoorLwDistMakes04
import Derived.Test.YtigapglmipmbeaaGreatDoorRb09
import Derived.Test.YtigapglmipmbeaaGreatDoorRb08
import Derived.Test.YtigapglmipmbeaaGreatDoorRb10
set_option maxRecDepth 100000
set_option maxHeartbeats 16000000
namespace Go.Proofs.YtigapglmipmbeaaGreatDoor
open Go.RowKit Go.Shelf
open Lim
attribute [local go_sem] Oper.semAt_some
theorem box1_blk (w:World) (m vn vd:Value):Blk (w.alloc (.cells #[m,vn,vd] 170)) w.heap.size 170 #[m,vn,vd]∧Below w.heap.size w (w.alloc (.cells #[m,vn,vd] 170))∧(w.alloc (.cells #[m,vn,vd] 170)).heap.size=w.heap.size+1 :=
 ⟨Blk.new w _ _,(Below.refl _ _).alloc (Nat.le_refl _) _,by simp⟩
theorem rwrite_is (x:Nat) (vx:Value) (w:World) (hx:IsNatI w vx x) (hlx:(toL x).length≤40000) :
  Calls Tryz.prog 228 #[vx] w fun e w'=>∃ s:ByteArray,e=.returned (.string s)∧Hid (s=⟨(Lib.decDigits x).toArray⟩)∧s.size=Lib.nDigits x∧Below w.heap.size w w':=by
 refine (rwrite_any x vx w hx hlx).mono ?_
 rintro e w' ⟨rfl,hb⟩
 refine ⟨_,rfl,Lib.hid rfl,?_,hb⟩
 show (Lib.decDigits x).toArray.size=_
 rw [List.size_toArray,Lib.decDigits_length]
theorem wq_t_big1 (N D:Nat) (A A':Option Addr) (c c':Nat) (w:World) (hn:IsNatI w (.slice A (toL N).length c) N) (hd:IsNatI w (.slice A' (toL D).length c') D) (l1:(toL N).length≤40000) (l2:(toL D).length≤40000) (h1:4000 < Lib.nDigits N) :
  Calls Tryz.prog 153 #[.agg #[.bool true,.slice A (toL N).length c,.slice A' (toL D).length c']] w fun e w'=>e=.returned (.tuple #[.string ⟨#[]⟩,.int .i64 5])∧Below w.heap.size w w':=by
 have HN:=Lib.hid hn
 have HD:=Lib.hid hd
 clear hn hd
 refine (callsIn_wide (n:=3)).1 ?_
 have h1:1≤3:=by omega
 have hmx:Tryz.prog.follows .mixedOrders=true:=by kernel_rfl
 refine callsIn_of_wp Tryz.func153 rfl trivial ?_ rfl
 simp only [Tryz.ntmps153,List.size_toArray,List.length_cons,List.length_nil,Nat.reduceAdd,Nat.reduceSub,Array.replicate_succ,Array.replicate_zero,List.push_toArray,List.append_toArray,List.nil_append,List.cons_append]
 gi_upto_region 1 with fail
 obtain ⟨b0,hB,hs⟩:=box1_blk w (.bool true) (.slice A (toL N).length c) (.slice A' (toL D).length c')
 generalize w.alloc (.cells #[.bool true,.slice A (toL N).length c,.slice A' (toL D).length c'] 170)=W at *
 obtain ⟨x0,x1,x2⟩:=same_cells (S:=fun k=>k < W.heap.size) b0 (by omega)
 have HB:=Lib.hid (below_drew hB)
 have HS:=Lib.hid hs
 have P0:=Lib.hid b0
 clear b0 hB hs
 refine wpIn_stage (IsSame W (fun k=>k < W.heap.size)) [0,1,3,4] [] hmx (by kernel_rfl) (isSame_of fun _ _=>rfl) ?_
 change wpStage _ _ _ _ _ _ _ _ (4+4) _ _ _
 refine stage_reads [0,1,3,4] 4 _ _ (by kernel_rfl) ?_
 change wpQuietIn _ _ _ _ (fun W'=>∃ x:SameAt W (fun k=>k < W.heap.size),W'=x.W) _ _ _
 simp only [pick_cons,pick_nil,List.getElem?_cons_zero,List.getElem?_cons_succ,Option.elim_some]
 repeat (gi_big_quiet_step (fail))
 refine wpQuietIn_nil ?_
 refine stage_one 2 (by kernel_rfl) rfl ?_
 gi_wp2
 refine ⟨trivial,?_⟩
 refine (callsIn_wide.2 (rwrite_is N _ W.drew (HN.out.below HB.out) l1)).mono ?_
 rintro e w3 ⟨s3,rfl,HS3,hz3,hb3⟩
 have hB3:Below W.heap.size W w3:=below_undrew hb3
 have HB3:=Lib.hid hB3
 clear hb3 hB3
 gi_wp2
 refine stage_post (isSame_below HB3.out (fun k hk=>hk)) ?_
 refine stage_one 5 (by kernel_rfl) rfl ?_
 gi_wp2
 refine ⟨trivial,?_⟩
 refine (callsIn_wide.2 (rwrite_is D _ w3 (HD.out.below (HB.out.trans ((below_drew3 HB3.out).mono HB.out.size))) l2)).mono ?_
 rintro e w4 ⟨s4,rfl,HS4,hz4,hb4⟩
 have hB4:Below W.heap.size W w4:=HB3.out.trans (hb4.mono HB3.out.size)
 have HB4:=Lib.hid hB4
 clear hb4 hB4
 gi_wp2
 refine stage_post (isSame_below HB4.out (fun k hk=>hk)) ?_
 refine stage_one 6 (by kernel_rfl) rfl ?_
 gi_wp2
 refine stage_post (isSame_below HB4.out (fun k hk=>hk)) ?_
 refine stage_one 7 (by kernel_rfl) rfl ?_
 gi_wp2
 refine stage_post (isSame_below HB4.out (fun k hk=>hk)) ?_
 refine stage_done (by kernel_rfl) ?_
 clear x0 x1 x2
 obtain ⟨x0,x1,x2⟩:=rows3 (P0.out.below HB4.out (by have:=HS.out;omega))
 have hd1:decide ((4000:Int) < (s3.size:Int))=true:=decide_eq_true (by omega)
 clear hz3 hz4
 gi_wp2
 refine bodyPost_ret (results_tmp2 rfl _ _ _) rfl ?_
 exact ⟨rfl,HB.out.trans ((below_drew3 HB4.out).mono HB.out.size)⟩
theorem wq_t_big2 (N D:Nat) (A A':Option Addr) (c c':Nat) (w:World) (hn:IsNatI w (.slice A (toL N).length c) N) (hd:IsNatI w (.slice A' (toL D).length c') D) (l1:(toL N).length≤40000) (l2:(toL D).length≤40000) (h1:Lib.nDigits N≤4000) (h2:4000 < Lib.nDigits D) :
  Calls Tryz.prog 153 #[.agg #[.bool true,.slice A (toL N).length c,.slice A' (toL D).length c']] w fun e w'=>e=.returned (.tuple #[.string ⟨#[]⟩,.int .i64 5])∧Below w.heap.size w w':=by
 have HN:=Lib.hid hn
 have HD:=Lib.hid hd
 clear hn hd
 refine (callsIn_wide (n:=3)).1 ?_
 have h1:1≤3:=by omega
 have hmx:Tryz.prog.follows .mixedOrders=true:=by kernel_rfl
 refine callsIn_of_wp Tryz.func153 rfl trivial ?_ rfl
 simp only [Tryz.ntmps153,List.size_toArray,List.length_cons,List.length_nil,Nat.reduceAdd,Nat.reduceSub,Array.replicate_succ,Array.replicate_zero,List.push_toArray,List.append_toArray,List.nil_append,List.cons_append]
 gi_upto_region 1 with fail
 obtain ⟨b0,hB,hs⟩:=box1_blk w (.bool true) (.slice A (toL N).length c) (.slice A' (toL D).length c')
 generalize w.alloc (.cells #[.bool true,.slice A (toL N).length c,.slice A' (toL D).length c'] 170)=W at *
 obtain ⟨x0,x1,x2⟩:=same_cells (S:=fun k=>k < W.heap.size) b0 (by omega)
 have HB:=Lib.hid (below_drew hB)
 have HS:=Lib.hid hs
 have P0:=Lib.hid b0
 clear b0 hB hs
 refine wpIn_stage (IsSame W (fun k=>k < W.heap.size)) [0,1,3,4] [] hmx (by kernel_rfl) (isSame_of fun _ _=>rfl) ?_
 change wpStage _ _ _ _ _ _ _ _ (4+4) _ _ _
 refine stage_reads [0,1,3,4] 4 _ _ (by kernel_rfl) ?_
 change wpQuietIn _ _ _ _ (fun W'=>∃ x:SameAt W (fun k=>k < W.heap.size),W'=x.W) _ _ _
 simp only [pick_cons,pick_nil,List.getElem?_cons_zero,List.getElem?_cons_succ,Option.elim_some]
 repeat (gi_big_quiet_step (fail))
 refine wpQuietIn_nil ?_
 refine stage_one 2 (by kernel_rfl) rfl ?_
 gi_wp2
 refine ⟨trivial,?_⟩
 refine (callsIn_wide.2 (rwrite_is N _ W.drew (HN.out.below HB.out) l1)).mono ?_
 rintro e w3 ⟨s3,rfl,HS3,hz3,hb3⟩
 have hB3:Below W.heap.size W w3:=below_undrew hb3
 have HB3:=Lib.hid hB3
 clear hb3 hB3
 gi_wp2
 refine stage_post (isSame_below HB3.out (fun k hk=>hk)) ?_
 refine stage_one 5 (by kernel_rfl) rfl ?_
 gi_wp2
 refine ⟨trivial,?_⟩
 refine (callsIn_wide.2 (rwrite_is D _ w3 (HD.out.below (HB.out.trans ((below_drew3 HB3.out).mono HB.out.size))) l2)).mono ?_
 rintro e w4 ⟨s4,rfl,HS4,hz4,hb4⟩
 have hB4:Below W.heap.size W w4:=HB3.out.trans (hb4.mono HB3.out.size)
 have HB4:=Lib.hid hB4
 clear hb4 hB4
 gi_wp2
 refine stage_post (isSame_below HB4.out (fun k hk=>hk)) ?_
 refine stage_one 6 (by kernel_rfl) rfl ?_
 gi_wp2
 refine stage_post (isSame_below HB4.out (fun k hk=>hk)) ?_
 refine stage_one 7 (by kernel_rfl) rfl ?_
 gi_wp2
 refine stage_post (isSame_below HB4.out (fun k hk=>hk)) ?_
 refine stage_done (by kernel_rfl) ?_
 clear x0 x1 x2
 obtain ⟨x0,x1,x2⟩:=rows3 (P0.out.below HB4.out (by have:=HS.out;omega))
 have hd1:decide ((4000:Int) < (s3.size:Int))=false:=decide_eq_false (by omega)
 have hd2:decide ((4000:Int) < (s4.size:Int))=true:=decide_eq_true (by omega)
 clear hz3 hz4
 gi_wp2
 refine bodyPost_ret (results_tmp2 rfl _ _ _) rfl ?_
 exact ⟨rfl,HB.out.trans ((below_drew3 HB4.out).mono HB.out.size)⟩
theorem wq_t_int (N D:Nat) (A A':Option Addr) (c c':Nat) (w:World) (hn:IsNatI w (.slice A (toL N).length c) N) (hd:IsNatI w (.slice A' (toL D).length c') D) (l1:(toL N).length≤40000) (l2:(toL D).length≤40000) (h1:Lib.nDigits N≤4000) (h2:Lib.nDigits D≤4000) (h3:D=1) :
  Calls Tryz.prog 153 #[.agg #[.bool true,.slice A (toL N).length c,.slice A' (toL D).length c']] w fun e w'=>e=.returned (.tuple #[.string ⟨([45]++Lib.decDigits N).toArray⟩,.int .i64 0])∧Below w.heap.size w w':=by
 have HN:=Lib.hid hn
 have HD:=Lib.hid hd
 clear hn hd
 have H3:=Lib.hid h3
 clear h3
 refine (callsIn_wide (n:=3)).1 ?_
 have h1:1≤3:=by omega
 have hmx:Tryz.prog.follows .mixedOrders=true:=by kernel_rfl
 refine callsIn_of_wp Tryz.func153 rfl trivial ?_ rfl
 simp only [Tryz.ntmps153,List.size_toArray,List.length_cons,List.length_nil,Nat.reduceAdd,Nat.reduceSub,Array.replicate_succ,Array.replicate_zero,List.push_toArray,List.append_toArray,List.nil_append,List.cons_append]
 gi_upto_region 1 with fail
 obtain ⟨b0,hB,hs⟩:=box1_blk w (.bool true) (.slice A (toL N).length c) (.slice A' (toL D).length c')
 generalize w.alloc (.cells #[.bool true,.slice A (toL N).length c,.slice A' (toL D).length c'] 170)=W at *
 obtain ⟨x0,x1,x2⟩:=same_cells (S:=fun k=>k < W.heap.size) b0 (by omega)
 have HB:=Lib.hid (below_drew hB)
 have HS:=Lib.hid hs
 have P0:=Lib.hid b0
 clear b0 hB hs
 refine wpIn_stage (IsSame W (fun k=>k < W.heap.size)) [0,1,3,4] [] hmx (by kernel_rfl) (isSame_of fun _ _=>rfl) ?_
 change wpStage _ _ _ _ _ _ _ _ (4+4) _ _ _
 refine stage_reads [0,1,3,4] 4 _ _ (by kernel_rfl) ?_
 change wpQuietIn _ _ _ _ (fun W'=>∃ x:SameAt W (fun k=>k < W.heap.size),W'=x.W) _ _ _
 simp only [pick_cons,pick_nil,List.getElem?_cons_zero,List.getElem?_cons_succ,Option.elim_some]
 repeat (gi_big_quiet_step (fail))
 refine wpQuietIn_nil ?_
 refine stage_one 2 (by kernel_rfl) rfl ?_
 gi_wp2
 refine ⟨trivial,?_⟩
 refine (callsIn_wide.2 (rwrite_is N _ W.drew (HN.out.below HB.out) l1)).mono ?_
 rintro e w3 ⟨s3,rfl,HS3,hz3,hb3⟩
 have hB3:Below W.heap.size W w3:=below_undrew hb3
 have HB3:=Lib.hid hB3
 clear hb3 hB3
 gi_wp2
 refine stage_post (isSame_below HB3.out (fun k hk=>hk)) ?_
 refine stage_one 5 (by kernel_rfl) rfl ?_
 gi_wp2
 refine ⟨trivial,?_⟩
 refine (callsIn_wide.2 (rwrite_is D _ w3 (HD.out.below (HB.out.trans ((below_drew3 HB3.out).mono HB.out.size))) l2)).mono ?_
 rintro e w4 ⟨s4,rfl,HS4,hz4,hb4⟩
 have hB4:Below W.heap.size W w4:=HB3.out.trans (hb4.mono HB3.out.size)
 have HB4:=Lib.hid hB4
 clear hb4 hB4
 gi_wp2
 refine stage_post (isSame_below HB4.out (fun k hk=>hk)) ?_
 refine stage_one 6 (by kernel_rfl) rfl ?_
 gi_wp2
 refine stage_post (isSame_below HB4.out (fun k hk=>hk)) ?_
 refine stage_one 7 (by kernel_rfl) rfl ?_
 gi_wp2
 refine stage_post (isSame_below HB4.out (fun k hk=>hk)) ?_
 refine stage_done (by kernel_rfl) ?_
 clear x0 x1 x2
 obtain ⟨x0,x1,x2⟩:=rows3 (P0.out.below HB4.out (by have:=HS.out;omega))
 have hd1:decide ((4000:Int) < (s3.size:Int))=false:=decide_eq_false (by omega)
 have hd2:decide ((4000:Int) < (s4.size:Int))=false:=decide_eq_false (by omega)
 have h49:(s4.toList==[49])=true:=by
  rw [HS4.out,Lib.toList_data]
  show (Lib.decDigits D==[49])=true
  rw [H3.out,dec_one];rfl
 have z3:¬ 9223372036854775807 < 1+s3.size:=by omega
 have z4:¬ 9223372036854775807 < 1+s3.size+1:=by omega
 have z5:¬ 9223372036854775807 < s3.size+1:=by omega
 have z6:¬ 9223372036854775807 < 1+s3.size+1+s4.size:=by omega
 have z7:¬ 9223372036854775807 < s3.size+1+s4.size:=by omega
 clear hz3 hz4
 gi_wp2
 refine bodyPost_ret (results_tmp2 rfl _ _ _) rfl ?_
 refine ⟨?_,HB.out.trans ((below_drew3 HB4.out).mono HB.out.size)⟩
 rw [HS3.out];exact congrArg (fun x=>Ending.returned (.tuple #[.string x,.int .i64 0])) (ba_add [45] (Lib.decDigits N))
theorem wq_t_frac (N D:Nat) (A A':Option Addr) (c c':Nat) (w:World) (hn:IsNatI w (.slice A (toL N).length c) N) (hd:IsNatI w (.slice A' (toL D).length c') D) (l1:(toL N).length≤40000) (l2:(toL D).length≤40000) (h1:Lib.nDigits N≤4000) (h2:Lib.nDigits D≤4000) (h3:D≠1) :
  Calls Tryz.prog 153 #[.agg #[.bool true,.slice A (toL N).length c,.slice A' (toL D).length c']] w fun e w'=>e=.returned (.tuple #[.string ⟨([45]++Lib.decDigits N++47::Lib.decDigits D).toArray⟩,.int .i64 0])∧Below w.heap.size w w':=by
 have HN:=Lib.hid hn
 have HD:=Lib.hid hd
 clear hn hd
 have H3:=Lib.hid h3
 clear h3
 refine (callsIn_wide (n:=3)).1 ?_
 have h1:1≤3:=by omega
 have hmx:Tryz.prog.follows .mixedOrders=true:=by kernel_rfl
 refine callsIn_of_wp Tryz.func153 rfl trivial ?_ rfl
 simp only [Tryz.ntmps153,List.size_toArray,List.length_cons,List.length_nil,Nat.reduceAdd,Nat.reduceSub,Array.replicate_succ,Array.replicate_zero,List.push_toArray,List.append_toArray,List.nil_append,List.cons_append]
 gi_upto_region 1 with fail
 obtain ⟨b0,hB,hs⟩:=box1_blk w (.bool true) (.slice A (toL N).length c) (.slice A' (toL D).length c')
 generalize w.alloc (.cells #[.bool true,.slice A (toL N).length c,.slice A' (toL D).length c'] 170)=W at *
 obtain ⟨x0,x1,x2⟩:=same_cells (S:=fun k=>k < W.heap.size) b0 (by omega)
 have HB:=Lib.hid (below_drew hB)
 have HS:=Lib.hid hs
 have P0:=Lib.hid b0
 clear b0 hB hs
 refine wpIn_stage (IsSame W (fun k=>k < W.heap.size)) [0,1,3,4] [] hmx (by kernel_rfl) (isSame_of fun _ _=>rfl) ?_
 change wpStage _ _ _ _ _ _ _ _ (4+4) _ _ _
 refine stage_reads [0,1,3,4] 4 _ _ (by kernel_rfl) ?_
 change wpQuietIn _ _ _ _ (fun W'=>∃ x:SameAt W (fun k=>k < W.heap.size),W'=x.W) _ _ _
 simp only [pick_cons,pick_nil,List.getElem?_cons_zero,List.getElem?_cons_succ,Option.elim_some]
 repeat (gi_big_quiet_step (fail))
 refine wpQuietIn_nil ?_
 refine stage_one 2 (by kernel_rfl) rfl ?_
 gi_wp2
 refine ⟨trivial,?_⟩
 refine (callsIn_wide.2 (rwrite_is N _ W.drew (HN.out.below HB.out) l1)).mono ?_
 rintro e w3 ⟨s3,rfl,HS3,hz3,hb3⟩
 have hB3:Below W.heap.size W w3:=below_undrew hb3
 have HB3:=Lib.hid hB3
 clear hb3 hB3
 gi_wp2
 refine stage_post (isSame_below HB3.out (fun k hk=>hk)) ?_
 refine stage_one 5 (by kernel_rfl) rfl ?_
 gi_wp2
 refine ⟨trivial,?_⟩
 refine (callsIn_wide.2 (rwrite_is D _ w3 (HD.out.below (HB.out.trans ((below_drew3 HB3.out).mono HB.out.size))) l2)).mono ?_
 rintro e w4 ⟨s4,rfl,HS4,hz4,hb4⟩
 have hB4:Below W.heap.size W w4:=HB3.out.trans (hb4.mono HB3.out.size)
 have HB4:=Lib.hid hB4
 clear hb4 hB4
 gi_wp2
 refine stage_post (isSame_below HB4.out (fun k hk=>hk)) ?_
 refine stage_one 6 (by kernel_rfl) rfl ?_
 gi_wp2
 refine stage_post (isSame_below HB4.out (fun k hk=>hk)) ?_
 refine stage_one 7 (by kernel_rfl) rfl ?_
 gi_wp2
 refine stage_post (isSame_below HB4.out (fun k hk=>hk)) ?_
 refine stage_done (by kernel_rfl) ?_
 clear x0 x1 x2
 obtain ⟨x0,x1,x2⟩:=rows3 (P0.out.below HB4.out (by have:=HS.out;omega))
 have hd1:decide ((4000:Int) < (s3.size:Int))=false:=decide_eq_false (by omega)
 have hd2:decide ((4000:Int) < (s4.size:Int))=false:=decide_eq_false (by omega)
 have h49:(s4.toList==[49])=false:=by
  rw [HS4.out,Lib.toList_data]
  show (Lib.decDigits D==[49])=false
  rw [beq_eq_false_iff_ne]
  exact dec_ne_one H3.out
 have z3:¬ 9223372036854775807 < 1+s3.size:=by omega
 have z4:¬ 9223372036854775807 < 1+s3.size+1:=by omega
 have z5:¬ 9223372036854775807 < s3.size+1:=by omega
 have z6:¬ 9223372036854775807 < 1+s3.size+1+s4.size:=by omega
 have z7:¬ 9223372036854775807 < s3.size+1+s4.size:=by omega
 clear hz3 hz4
 gi_wp2
 refine bodyPost_ret (results_tmp2 rfl _ _ _) rfl ?_
 refine ⟨?_,HB.out.trans ((below_drew3 HB4.out).mono HB.out.size)⟩
 rw [HS3.out,HS4.out];exact congrArg (fun x=>Ending.returned (.tuple #[.string x,.int .i64 0])) (by rw [ba_add [45],ba_add _ [47],ba_add,List.append_assoc];rfl)
theorem wq_f_big1 (N D:Nat) (A A':Option Addr) (c c':Nat) (w:World) (hn:IsNatI w (.slice A (toL N).length c) N) (hd:IsNatI w (.slice A' (toL D).length c') D) (l1:(toL N).length≤40000) (l2:(toL D).length≤40000) (h1:4000 < Lib.nDigits N) :
  Calls Tryz.prog 153 #[.agg #[.bool false,.slice A (toL N).length c,.slice A' (toL D).length c']] w fun e w'=>e=.returned (.tuple #[.string ⟨#[]⟩,.int .i64 5])∧Below w.heap.size w w':=by
 have HN:=Lib.hid hn
 have HD:=Lib.hid hd
 clear hn hd
 refine (callsIn_wide (n:=3)).1 ?_
 have h1:1≤3:=by omega
 have hmx:Tryz.prog.follows .mixedOrders=true:=by kernel_rfl
 refine callsIn_of_wp Tryz.func153 rfl trivial ?_ rfl
 simp only [Tryz.ntmps153,List.size_toArray,List.length_cons,List.length_nil,Nat.reduceAdd,Nat.reduceSub,Array.replicate_succ,Array.replicate_zero,List.push_toArray,List.append_toArray,List.nil_append,List.cons_append]
 gi_upto_region 1 with fail
 obtain ⟨b0,hB,hs⟩:=box1_blk w (.bool false) (.slice A (toL N).length c) (.slice A' (toL D).length c')
 generalize w.alloc (.cells #[.bool false,.slice A (toL N).length c,.slice A' (toL D).length c'] 170)=W at *
 obtain ⟨x0,x1,x2⟩:=same_cells (S:=fun k=>k < W.heap.size) b0 (by omega)
 have HB:=Lib.hid (below_drew hB)
 have HS:=Lib.hid hs
 have P0:=Lib.hid b0
 clear b0 hB hs
 refine wpIn_stage (IsSame W (fun k=>k < W.heap.size)) [0,1,3,4] [] hmx (by kernel_rfl) (isSame_of fun _ _=>rfl) ?_
 change wpStage _ _ _ _ _ _ _ _ (4+4) _ _ _
 refine stage_reads [0,1,3,4] 4 _ _ (by kernel_rfl) ?_
 change wpQuietIn _ _ _ _ (fun W'=>∃ x:SameAt W (fun k=>k < W.heap.size),W'=x.W) _ _ _
 simp only [pick_cons,pick_nil,List.getElem?_cons_zero,List.getElem?_cons_succ,Option.elim_some]
 repeat (gi_big_quiet_step (fail))
 refine wpQuietIn_nil ?_
 refine stage_one 2 (by kernel_rfl) rfl ?_
 gi_wp2
 refine ⟨trivial,?_⟩
 refine (callsIn_wide.2 (rwrite_is N _ W.drew (HN.out.below HB.out) l1)).mono ?_
 rintro e w3 ⟨s3,rfl,HS3,hz3,hb3⟩
 have hB3:Below W.heap.size W w3:=below_undrew hb3
 have HB3:=Lib.hid hB3
 clear hb3 hB3
 gi_wp2
 refine stage_post (isSame_below HB3.out (fun k hk=>hk)) ?_
 refine stage_one 5 (by kernel_rfl) rfl ?_
 gi_wp2
 refine ⟨trivial,?_⟩
 refine (callsIn_wide.2 (rwrite_is D _ w3 (HD.out.below (HB.out.trans ((below_drew3 HB3.out).mono HB.out.size))) l2)).mono ?_
 rintro e w4 ⟨s4,rfl,HS4,hz4,hb4⟩
 have hB4:Below W.heap.size W w4:=HB3.out.trans (hb4.mono HB3.out.size)
 have HB4:=Lib.hid hB4
 clear hb4 hB4
 gi_wp2
 refine stage_post (isSame_below HB4.out (fun k hk=>hk)) ?_
 refine stage_one 6 (by kernel_rfl) rfl ?_
 gi_wp2
 refine stage_post (isSame_below HB4.out (fun k hk=>hk)) ?_
 refine stage_one 7 (by kernel_rfl) rfl ?_
 gi_wp2
 refine stage_post (isSame_below HB4.out (fun k hk=>hk)) ?_
 refine stage_done (by kernel_rfl) ?_
 clear x0 x1 x2
 obtain ⟨x0,x1,x2⟩:=rows3 (P0.out.below HB4.out (by have:=HS.out;omega))
 have hd1:decide ((4000:Int) < (s3.size:Int))=true:=decide_eq_true (by omega)
 clear hz3 hz4
 gi_wp2
 refine bodyPost_ret (results_tmp2 rfl _ _ _) rfl ?_
 exact ⟨rfl,HB.out.trans ((below_drew3 HB4.out).mono HB.out.size)⟩
theorem wq_f_big2 (N D:Nat) (A A':Option Addr) (c c':Nat) (w:World) (hn:IsNatI w (.slice A (toL N).length c) N) (hd:IsNatI w (.slice A' (toL D).length c') D) (l1:(toL N).length≤40000) (l2:(toL D).length≤40000) (h1:Lib.nDigits N≤4000) (h2:4000 < Lib.nDigits D) :
  Calls Tryz.prog 153 #[.agg #[.bool false,.slice A (toL N).length c,.slice A' (toL D).length c']] w fun e w'=>e=.returned (.tuple #[.string ⟨#[]⟩,.int .i64 5])∧Below w.heap.size w w':=by
 have HN:=Lib.hid hn
 have HD:=Lib.hid hd
 clear hn hd
 refine (callsIn_wide (n:=3)).1 ?_
 have h1:1≤3:=by omega
 have hmx:Tryz.prog.follows .mixedOrders=true:=by kernel_rfl
 refine callsIn_of_wp Tryz.func153 rfl trivial ?_ rfl
 simp only [Tryz.ntmps153,List.size_toArray,List.length_cons,List.length_nil,Nat.reduceAdd,Nat.reduceSub,Array.replicate_succ,Array.replicate_zero,List.push_toArray,List.append_toArray,List.nil_append,List.cons_append]
 gi_upto_region 1 with fail
 obtain ⟨b0,hB,hs⟩:=box1_blk w (.bool false) (.slice A (toL N).length c) (.slice A' (toL D).length c')
 generalize w.alloc (.cells #[.bool false,.slice A (toL N).length c,.slice A' (toL D).length c'] 170)=W at *
 obtain ⟨x0,x1,x2⟩:=same_cells (S:=fun k=>k < W.heap.size) b0 (by omega)
 have HB:=Lib.hid (below_drew hB)
 have HS:=Lib.hid hs
 have P0:=Lib.hid b0
 clear b0 hB hs
 refine wpIn_stage (IsSame W (fun k=>k < W.heap.size)) [0,1,3,4] [] hmx (by kernel_rfl) (isSame_of fun _ _=>rfl) ?_
 change wpStage _ _ _ _ _ _ _ _ (4+4) _ _ _
 refine stage_reads [0,1,3,4] 4 _ _ (by kernel_rfl) ?_
 change wpQuietIn _ _ _ _ (fun W'=>∃ x:SameAt W (fun k=>k < W.heap.size),W'=x.W) _ _ _
 simp only [pick_cons,pick_nil,List.getElem?_cons_zero,List.getElem?_cons_succ,Option.elim_some]
 repeat (gi_big_quiet_step (fail))
 refine wpQuietIn_nil ?_
 refine stage_one 2 (by kernel_rfl) rfl ?_
 gi_wp2
 refine ⟨trivial,?_⟩
 refine (callsIn_wide.2 (rwrite_is N _ W.drew (HN.out.below HB.out) l1)).mono ?_
 rintro e w3 ⟨s3,rfl,HS3,hz3,hb3⟩
 have hB3:Below W.heap.size W w3:=below_undrew hb3
 have HB3:=Lib.hid hB3
 clear hb3 hB3
 gi_wp2
 refine stage_post (isSame_below HB3.out (fun k hk=>hk)) ?_
 refine stage_one 5 (by kernel_rfl) rfl ?_
 gi_wp2
 refine ⟨trivial,?_⟩
 refine (callsIn_wide.2 (rwrite_is D _ w3 (HD.out.below (HB.out.trans ((below_drew3 HB3.out).mono HB.out.size))) l2)).mono ?_
 rintro e w4 ⟨s4,rfl,HS4,hz4,hb4⟩
 have hB4:Below W.heap.size W w4:=HB3.out.trans (hb4.mono HB3.out.size)
 have HB4:=Lib.hid hB4
 clear hb4 hB4
 gi_wp2
 refine stage_post (isSame_below HB4.out (fun k hk=>hk)) ?_
 refine stage_one 6 (by kernel_rfl) rfl ?_
 gi_wp2
 refine stage_post (isSame_below HB4.out (fun k hk=>hk)) ?_
 refine stage_one 7 (by kernel_rfl) rfl ?_
 gi_wp2
 refine stage_post (isSame_below HB4.out (fun k hk=>hk)) ?_
 refine stage_done (by kernel_rfl) ?_
 clear x0 x1 x2
 obtain ⟨x0,x1,x2⟩:=rows3 (P0.out.below HB4.out (by have:=HS.out;omega))
 have hd1:decide ((4000:Int) < (s3.size:Int))=false:=decide_eq_false (by omega)
 have hd2:decide ((4000:Int) < (s4.size:Int))=true:=decide_eq_true (by omega)
 clear hz3 hz4
 gi_wp2
 refine bodyPost_ret (results_tmp2 rfl _ _ _) rfl ?_
 exact ⟨rfl,HB.out.trans ((below_drew3 HB4.out).mono HB.out.size)⟩
theorem wq_f_int (N D:Nat) (A A':Option Addr) (c c':Nat) (w:World) (hn:IsNatI w (.slice A (toL N).length c) N) (hd:IsNatI w (.slice A' (toL D).length c') D) (l1:(toL N).length≤40000) (l2:(toL D).length≤40000) (h1:Lib.nDigits N≤4000) (h2:Lib.nDigits D≤4000) (h3:D=1) :
  Calls Tryz.prog 153 #[.agg #[.bool false,.slice A (toL N).length c,.slice A' (toL D).length c']] w fun e w'=>e=.returned (.tuple #[.string ⟨(Lib.decDigits N).toArray⟩,.int .i64 0])∧Below w.heap.size w w':=by
 have HN:=Lib.hid hn
 have HD:=Lib.hid hd
 clear hn hd
 have H3:=Lib.hid h3
 clear h3
 refine (callsIn_wide (n:=3)).1 ?_
 have h1:1≤3:=by omega
 have hmx:Tryz.prog.follows .mixedOrders=true:=by kernel_rfl
 refine callsIn_of_wp Tryz.func153 rfl trivial ?_ rfl
 simp only [Tryz.ntmps153,List.size_toArray,List.length_cons,List.length_nil,Nat.reduceAdd,Nat.reduceSub,Array.replicate_succ,Array.replicate_zero,List.push_toArray,List.append_toArray,List.nil_append,List.cons_append]
 gi_upto_region 1 with fail
 obtain ⟨b0,hB,hs⟩:=box1_blk w (.bool false) (.slice A (toL N).length c) (.slice A' (toL D).length c')
 generalize w.alloc (.cells #[.bool false,.slice A (toL N).length c,.slice A' (toL D).length c'] 170)=W at *
 obtain ⟨x0,x1,x2⟩:=same_cells (S:=fun k=>k < W.heap.size) b0 (by omega)
 have HB:=Lib.hid (below_drew hB)
 have HS:=Lib.hid hs
 have P0:=Lib.hid b0
 clear b0 hB hs
 refine wpIn_stage (IsSame W (fun k=>k < W.heap.size)) [0,1,3,4] [] hmx (by kernel_rfl) (isSame_of fun _ _=>rfl) ?_
 change wpStage _ _ _ _ _ _ _ _ (4+4) _ _ _
 refine stage_reads [0,1,3,4] 4 _ _ (by kernel_rfl) ?_
 change wpQuietIn _ _ _ _ (fun W'=>∃ x:SameAt W (fun k=>k < W.heap.size),W'=x.W) _ _ _
 simp only [pick_cons,pick_nil,List.getElem?_cons_zero,List.getElem?_cons_succ,Option.elim_some]
 repeat (gi_big_quiet_step (fail))
 refine wpQuietIn_nil ?_
 refine stage_one 2 (by kernel_rfl) rfl ?_
 gi_wp2
 refine ⟨trivial,?_⟩
 refine (callsIn_wide.2 (rwrite_is N _ W.drew (HN.out.below HB.out) l1)).mono ?_
 rintro e w3 ⟨s3,rfl,HS3,hz3,hb3⟩
 have hB3:Below W.heap.size W w3:=below_undrew hb3
 have HB3:=Lib.hid hB3
 clear hb3 hB3
 gi_wp2
 refine stage_post (isSame_below HB3.out (fun k hk=>hk)) ?_
 refine stage_one 5 (by kernel_rfl) rfl ?_
 gi_wp2
 refine ⟨trivial,?_⟩
 refine (callsIn_wide.2 (rwrite_is D _ w3 (HD.out.below (HB.out.trans ((below_drew3 HB3.out).mono HB.out.size))) l2)).mono ?_
 rintro e w4 ⟨s4,rfl,HS4,hz4,hb4⟩
 have hB4:Below W.heap.size W w4:=HB3.out.trans (hb4.mono HB3.out.size)
 have HB4:=Lib.hid hB4
 clear hb4 hB4
 gi_wp2
 refine stage_post (isSame_below HB4.out (fun k hk=>hk)) ?_
 refine stage_one 6 (by kernel_rfl) rfl ?_
 gi_wp2
 refine stage_post (isSame_below HB4.out (fun k hk=>hk)) ?_
 refine stage_one 7 (by kernel_rfl) rfl ?_
 gi_wp2
 refine stage_post (isSame_below HB4.out (fun k hk=>hk)) ?_
 refine stage_done (by kernel_rfl) ?_
 clear x0 x1 x2
 obtain ⟨x0,x1,x2⟩:=rows3 (P0.out.below HB4.out (by have:=HS.out;omega))
 have hd1:decide ((4000:Int) < (s3.size:Int))=false:=decide_eq_false (by omega)
 have hd2:decide ((4000:Int) < (s4.size:Int))=false:=decide_eq_false (by omega)
 have h49:(s4.toList==[49])=true:=by
  rw [HS4.out,Lib.toList_data]
  show (Lib.decDigits D==[49])=true
  rw [H3.out,dec_one];rfl
 have z3:¬ 9223372036854775807 < 1+s3.size:=by omega
 have z4:¬ 9223372036854775807 < 1+s3.size+1:=by omega
 have z5:¬ 9223372036854775807 < s3.size+1:=by omega
 have z6:¬ 9223372036854775807 < 1+s3.size+1+s4.size:=by omega
 have z7:¬ 9223372036854775807 < s3.size+1+s4.size:=by omega
 clear hz3 hz4
 gi_wp2
 refine bodyPost_ret (results_tmp2 rfl _ _ _) rfl ?_
 refine ⟨?_,HB.out.trans ((below_drew3 HB4.out).mono HB.out.size)⟩
 rw [HS3.out];rfl
theorem wq_f_frac (N D:Nat) (A A':Option Addr) (c c':Nat) (w:World) (hn:IsNatI w (.slice A (toL N).length c) N) (hd:IsNatI w (.slice A' (toL D).length c') D) (l1:(toL N).length≤40000) (l2:(toL D).length≤40000) (h1:Lib.nDigits N≤4000) (h2:Lib.nDigits D≤4000) (h3:D≠1) :
  Calls Tryz.prog 153 #[.agg #[.bool false,.slice A (toL N).length c,.slice A' (toL D).length c']] w fun e w'=>e=.returned (.tuple #[.string ⟨(Lib.decDigits N++47::Lib.decDigits D).toArray⟩,.int .i64 0])∧Below w.heap.size w w':=by
 have HN:=Lib.hid hn
 have HD:=Lib.hid hd
 clear hn hd
 have H3:=Lib.hid h3
 clear h3
 refine (callsIn_wide (n:=3)).1 ?_
 have h1:1≤3:=by omega
 have hmx:Tryz.prog.follows .mixedOrders=true:=by kernel_rfl
 refine callsIn_of_wp Tryz.func153 rfl trivial ?_ rfl
 simp only [Tryz.ntmps153,List.size_toArray,List.length_cons,List.length_nil,Nat.reduceAdd,Nat.reduceSub,Array.replicate_succ,Array.replicate_zero,List.push_toArray,List.append_toArray,List.nil_append,List.cons_append]
 gi_upto_region 1 with fail
 obtain ⟨b0,hB,hs⟩:=box1_blk w (.bool false) (.slice A (toL N).length c) (.slice A' (toL D).length c')
 generalize w.alloc (.cells #[.bool false,.slice A (toL N).length c,.slice A' (toL D).length c'] 170)=W at *
 obtain ⟨x0,x1,x2⟩:=same_cells (S:=fun k=>k < W.heap.size) b0 (by omega)
 have HB:=Lib.hid (below_drew hB)
 have HS:=Lib.hid hs
 have P0:=Lib.hid b0
 clear b0 hB hs
 refine wpIn_stage (IsSame W (fun k=>k < W.heap.size)) [0,1,3,4] [] hmx (by kernel_rfl) (isSame_of fun _ _=>rfl) ?_
 change wpStage _ _ _ _ _ _ _ _ (4+4) _ _ _
 refine stage_reads [0,1,3,4] 4 _ _ (by kernel_rfl) ?_
 change wpQuietIn _ _ _ _ (fun W'=>∃ x:SameAt W (fun k=>k < W.heap.size),W'=x.W) _ _ _
 simp only [pick_cons,pick_nil,List.getElem?_cons_zero,List.getElem?_cons_succ,Option.elim_some]
 repeat (gi_big_quiet_step (fail))
 refine wpQuietIn_nil ?_
 refine stage_one 2 (by kernel_rfl) rfl ?_
 gi_wp2
 refine ⟨trivial,?_⟩
 refine (callsIn_wide.2 (rwrite_is N _ W.drew (HN.out.below HB.out) l1)).mono ?_
 rintro e w3 ⟨s3,rfl,HS3,hz3,hb3⟩
 have hB3:Below W.heap.size W w3:=below_undrew hb3
 have HB3:=Lib.hid hB3
 clear hb3 hB3
 gi_wp2
 refine stage_post (isSame_below HB3.out (fun k hk=>hk)) ?_
 refine stage_one 5 (by kernel_rfl) rfl ?_
 gi_wp2
 refine ⟨trivial,?_⟩
 refine (callsIn_wide.2 (rwrite_is D _ w3 (HD.out.below (HB.out.trans ((below_drew3 HB3.out).mono HB.out.size))) l2)).mono ?_
 rintro e w4 ⟨s4,rfl,HS4,hz4,hb4⟩
 have hB4:Below W.heap.size W w4:=HB3.out.trans (hb4.mono HB3.out.size)
 have HB4:=Lib.hid hB4
 clear hb4 hB4
 gi_wp2
 refine stage_post (isSame_below HB4.out (fun k hk=>hk)) ?_
 refine stage_one 6 (by kernel_rfl) rfl ?_
 gi_wp2
 refine stage_post (isSame_below HB4.out (fun k hk=>hk)) ?_
 refine stage_one 7 (by kernel_rfl) rfl ?_
 gi_wp2
 refine stage_post (isSame_below HB4.out (fun k hk=>hk)) ?_
 refine stage_done (by kernel_rfl) ?_
 clear x0 x1 x2
 obtain ⟨x0,x1,x2⟩:=rows3 (P0.out.below HB4.out (by have:=HS.out;omega))
 have hd1:decide ((4000:Int) < (s3.size:Int))=false:=decide_eq_false (by omega)
 have hd2:decide ((4000:Int) < (s4.size:Int))=false:=decide_eq_false (by omega)
 have h49:(s4.toList==[49])=false:=by
  rw [HS4.out,Lib.toList_data]
  show (Lib.decDigits D==[49])=false
  rw [beq_eq_false_iff_ne]
  exact dec_ne_one H3.out
 have z3:¬ 9223372036854775807 < 1+s3.size:=by omega
 have z4:¬ 9223372036854775807 < 1+s3.size+1:=by omega
 have z5:¬ 9223372036854775807 < s3.size+1:=by omega
 have z6:¬ 9223372036854775807 < 1+s3.size+1+s4.size:=by omega
 have z7:¬ 9223372036854775807 < s3.size+1+s4.size:=by omega
 clear hz3 hz4
 gi_wp2
 refine bodyPost_ret (results_tmp2 rfl _ _ _) rfl ?_
 refine ⟨?_,HB.out.trans ((below_drew3 HB4.out).mono HB.out.size)⟩
 rw [HS3.out,HS4.out];exact congrArg (fun x=>Ending.returned (.tuple #[.string x,.int .i64 0])) (by rw [ba_add _ [47],ba_add,List.append_assoc];rfl)
theorem rwriteQ_any (q:Rat) (v:Value) (w:World) (h:IsQ w v q) (l1:(toL (nm q)).length≤40000) (l2:(toL q.den).length≤40000) :
  Calls Tryz.prog 153 #[v] w fun e w'=>e=.returned (resN (outQ q))∧Below w.heap.size w w':=by
 obtain ⟨b,N,D,A,c,A',c',rfl,hn,hd,HQ⟩:=isQ_open h
 obtain ⟨q1,q2,q3⟩:=HQ.out
 rw [← outP_q,q1,q2,q3]
 rw [q2] at l1
 rw [q3] at l2
 unfold outP maxD resN
 by_cases h1:4000 < Lib.nDigits N
 ·rw [if_pos (.inl h1)]
  cases b with
  | true=>exact wq_t_big1 N D A A' c c' w hn hd l1 l2 h1
  | false=>exact wq_f_big1 N D A A' c c' w hn hd l1 l2 h1
 ·by_cases h2:4000 < Lib.nDigits D
  ·rw [if_pos (.inr h2)]
   cases b with
   | true=>exact wq_t_big2 N D A A' c c' w hn hd l1 l2 (by omega) h2
   | false=>exact wq_f_big2 N D A A' c c' w hn hd l1 l2 (by omega) h2
  ·rw [if_neg (by omega)]
   unfold textP
   by_cases h3:D=1
   ·rw [if_pos h3,List.append_nil]
    cases b with
    | true=>exact wq_t_int N D A A' c c' w hn hd l1 l2 (by omega) (by omega) h3
    | false=>exact wq_f_int N D A A' c c' w hn hd l1 l2 (by omega) (by omega) h3
   ·rw [if_neg h3]
    cases b with
    | true=>exact wq_t_frac N D A A' c c' w hn hd l1 l2 (by omega) (by omega) h3
    | false=>exact wq_f_frac N D A A' c c' w hn hd l1 l2 (by omega) (by omega) h3
theorem refAdd_err1 (a b:ByteArray) (w:World) (ha:a.size≤270000) (_hb:b.size≤270000) (he:errQ a.data.toList≠0) :
  Calls Tryz.prog 59 #[.string a,.string b] w fun e w'=>e=.returned (.tuple #[.string ⟨#[]⟩,.int .i64 (errQ a.data.toList:Int)])∧Below w.heap.size w w':=by
 have HE:=Lib.hid he
 have hne:((errQ a.data.toList:Int)==0)=false:=by rw [beq_eq_false_iff_ne];omega
 clear he
 go_enter Tryz.func59,Tryz.ntmps59
 go_wp2_with (go_at_call 152;refine (two_err a b _ ha HE.out).mono ?_;rintro e w1 ⟨v,v',rfl,hs,hs',hb⟩;obtain ⟨q0,q1,q2,q3,q4,q5,q6,rfl⟩:=hs;obtain ⟨p0,p1,p2,p3,p4,p5,p6,rfl⟩:=hs';have HB:=Lib.hid hb;clear hb)
 refine bodyPost_ret (results_tmp2 rfl _ _ _) rfl ?_
 exact ⟨rfl,below_alloc (below_alloc HB.out _) _⟩
theorem refAdd_err2 (a b:ByteArray) (w:World) (ha:a.size≤270000) (hb:b.size≤270000) (he:errQ a.data.toList=0) (he2:errQ b.data.toList≠0) :
  Calls Tryz.prog 59 #[.string a,.string b] w fun e w'=>e=.returned (.tuple #[.string ⟨#[]⟩,.int .i64 (errQ b.data.toList:Int)])∧Below w.heap.size w w':=by
 have HE:=Lib.hid he
 have HE2:=Lib.hid he2
 have hne:((errQ b.data.toList:Int)==0)=false:=by rw [beq_eq_false_iff_ne];omega
 clear he2
 clear he
 go_enter Tryz.func59,Tryz.ntmps59
 go_wp2_with (go_at_call 152;refine (two_err2 a b _ ha hb HE.out HE2.out).mono ?_;rintro e w1 ⟨v,v',rfl,hs,hs',hb⟩;obtain ⟨q0,q1,q2,q3,q4,q5,q6,rfl⟩:=hs;obtain ⟨p0,p1,p2,p3,p4,p5,p6,rfl⟩:=hs';have HB:=Lib.hid hb;clear hb)
 refine bodyPost_ret (results_tmp2 rfl _ _ _) rfl ?_
 exact ⟨rfl,below_alloc (below_alloc HB.out _) _⟩
theorem refAdd_ok (a b:ByteArray) (w:World) (ha:a.size≤270000) (hb:b.size≤270000) (he:errQ a.data.toList=0) (he2:errQ b.data.toList=0) :
  Calls Tryz.prog 59 #[.string a,.string b] w fun e w'=>e=.returned (resN (outQ ((valQ a.data.toList)+(valQ b.data.toList))))∧Below w.heap.size w w':=by
 have HT:=Lib.hid (fun w=>two_ok a b w ha hb he he2)
 have sp:=sz_max he
 have sq:=sz_max he2
 generalize valQ a.data.toList=p at *
 generalize valQ b.data.toList=q at *
 obtain ⟨lp,lp'⟩:=sz_limbs sp
 obtain ⟨lq,lq'⟩:=sz_limbs sq
 clear he he2
 obtain ⟨lr,lr'⟩:=sz_limbs2 (sp.add sq) (by unfold maxD;omega)
 have HW:=Lib.hid (fun v w h=>rwriteQ_any (p+q) v w h lr lr')
 generalize outQ (p+q)=r at HW ⊢
 unfold resN at HW
 clear lr lr' sp sq
 go_enter Tryz.func59,Tryz.ntmps59
 go_wp2_with (first
  | (go_at_call 152;refine (HT.out _).mono ?_;rintro e w1 ⟨v,v',rfl,hv,hv',hb⟩;obtain ⟨bp,N,D,A,c,A',c',rfl,hn,hd,HP⟩:=isQ_open hv;obtain ⟨bq,N',D',B,d,B',d',rfl,hn',hd',HQ⟩:=isQ_open hv';have HV:=Lib.hid hv;have HV':=Lib.hid hv';have HB:=Lib.hid hb;have HX:=Lib.hid (below_alloc (below_alloc (Below.refl w1.heap.size w1) (.cells #[.bool bp,.slice A (toL N).length c,.slice A' (toL D).length c'] 170)) (.cells #[.bool bq,.slice B (toL N').length d,.slice B' (toL D').length d'] 170));have HBX:=Lib.hid (HB.out.trans (HX.out.mono HB.out.size));clear hb hv hv' hn hd hn' hd')
  | (go_at_call 154;refine (rplusQ_any p q _ _ _ (HV.out.below HX.out) (HV'.out.below HX.out) (by omega) (by omega) (by omega) (by omega)).mono ?_;rintro e w2 ⟨v2,rfl,hv2,hb2⟩;obtain ⟨b2,N2,D2,A2,c2,A2',c2',rfl,_,_,_⟩:=isQ_open hv2;have HV2:=Lib.hid hv2;have HB2:=Lib.hid (HBX.out.trans (hb2.mono HBX.out.size));clear hv2 hb2)
  | (go_at_call 153;refine (HW.out _ _ HV2.out).mono ?_;rintro e w3 ⟨rfl,hb3⟩;have HB3:=Lib.hid (HB2.out.trans (hb3.mono HB2.out.size));clear hb3))
 refine bodyPost_ret (results_tmp2 rfl _ _ _) rfl ?_
 exact ⟨rfl,HB3.out⟩
theorem refAdd_any (a b:ByteArray) (w:World) (ha:a.size≤270000) (hb:b.size≤270000) :
  Calls Tryz.prog 59 #[.string a,.string b] w fun e w'=>e=.returned (resN (twoQ (fun p q=>outQ (p+q)) a.data.toList b.data.toList))∧Below w.heap.size w w':=by
 unfold twoQ
 by_cases he:errQ a.data.toList=0
 ·rw [if_neg (by omega)]
  by_cases he2:errQ b.data.toList=0
  ·rw [if_neg (by omega)]
   exact refAdd_ok a b w ha hb he he2
  ·rw [if_pos he2]
   exact refAdd_err2 a b w ha hb he he2
 ·rw [if_pos he]
  exact refAdd_err1 a b w ha hb he
theorem refMul_err1 (a b:ByteArray) (w:World) (ha:a.size≤270000) (_hb:b.size≤270000) (he:errQ a.data.toList≠0) :
  Calls Tryz.prog 149 #[.string a,.string b] w fun e w'=>e=.returned (.tuple #[.string ⟨#[]⟩,.int .i64 (errQ a.data.toList:Int)])∧Below w.heap.size w w':=by
 have HE:=Lib.hid he
 have hne:((errQ a.data.toList:Int)==0)=false:=by rw [beq_eq_false_iff_ne];omega
 clear he
 go_enter Tryz.func149,Tryz.ntmps149
 go_wp2_with (go_at_call 152;refine (two_err a b _ ha HE.out).mono ?_;rintro e w1 ⟨v,v',rfl,hs,hs',hb⟩;obtain ⟨q0,q1,q2,q3,q4,q5,q6,rfl⟩:=hs;obtain ⟨p0,p1,p2,p3,p4,p5,p6,rfl⟩:=hs';have HB:=Lib.hid hb;clear hb)
 refine bodyPost_ret (results_tmp2 rfl _ _ _) rfl ?_
 exact ⟨rfl,below_alloc (below_alloc HB.out _) _⟩
theorem refMul_err2 (a b:ByteArray) (w:World) (ha:a.size≤270000) (hb:b.size≤270000) (he:errQ a.data.toList=0) (he2:errQ b.data.toList≠0) :
  Calls Tryz.prog 149 #[.string a,.string b] w fun e w'=>e=.returned (.tuple #[.string ⟨#[]⟩,.int .i64 (errQ b.data.toList:Int)])∧Below w.heap.size w w':=by
 have HE:=Lib.hid he
 have HE2:=Lib.hid he2
 have hne:((errQ b.data.toList:Int)==0)=false:=by rw [beq_eq_false_iff_ne];omega
 clear he2
 clear he
 go_enter Tryz.func149,Tryz.ntmps149
 go_wp2_with (go_at_call 152;refine (two_err2 a b _ ha hb HE.out HE2.out).mono ?_;rintro e w1 ⟨v,v',rfl,hs,hs',hb⟩;obtain ⟨q0,q1,q2,q3,q4,q5,q6,rfl⟩:=hs;obtain ⟨p0,p1,p2,p3,p4,p5,p6,rfl⟩:=hs';have HB:=Lib.hid hb;clear hb)
 refine bodyPost_ret (results_tmp2 rfl _ _ _) rfl ?_
 exact ⟨rfl,below_alloc (below_alloc HB.out _) _⟩
theorem refMul_ok (a b:ByteArray) (w:World) (ha:a.size≤270000) (hb:b.size≤270000) (he:errQ a.data.toList=0) (he2:errQ b.data.toList=0) :
  Calls Tryz.prog 149 #[.string a,.string b] w fun e w'=>e=.returned (resN (outQ ((valQ a.data.toList)*(valQ b.data.toList))))∧Below w.heap.size w w':=by
 have HT:=Lib.hid (fun w=>two_ok a b w ha hb he he2)
 have sp:=sz_max he
 have sq:=sz_max he2
 generalize valQ a.data.toList=p at *
 generalize valQ b.data.toList=q at *
 obtain ⟨lp,lp'⟩:=sz_limbs sp
 obtain ⟨lq,lq'⟩:=sz_limbs sq
 clear he he2
 obtain ⟨lr,lr'⟩:=sz_limbs2 (sp.mul sq) (by unfold maxD;omega)
 have HW:=Lib.hid (fun v w h=>rwriteQ_any (p*q) v w h lr lr')
 generalize outQ (p*q)=r at HW ⊢
 unfold resN at HW
 clear lr lr' sp sq
 go_enter Tryz.func149,Tryz.ntmps149
 go_wp2_with (first
  | (go_at_call 152;refine (HT.out _).mono ?_;rintro e w1 ⟨v,v',rfl,hv,hv',hb⟩;obtain ⟨bp,N,D,A,c,A',c',rfl,hn,hd,HP⟩:=isQ_open hv;obtain ⟨bq,N',D',B,d,B',d',rfl,hn',hd',HQ⟩:=isQ_open hv';have HV:=Lib.hid hv;have HV':=Lib.hid hv';have HB:=Lib.hid hb;have HX:=Lib.hid (below_alloc (below_alloc (Below.refl w1.heap.size w1) (.cells #[.bool bp,.slice A (toL N).length c,.slice A' (toL D).length c'] 170)) (.cells #[.bool bq,.slice B (toL N').length d,.slice B' (toL D').length d'] 170));have HBX:=Lib.hid (HB.out.trans (HX.out.mono HB.out.size));clear hb hv hv' hn hd hn' hd')
  | (go_at_call 229;refine (rtimesQ_any p q _ _ _ (HV.out.below HX.out) (HV'.out.below HX.out) (by omega) (by omega) (by omega) (by omega)).mono ?_;rintro e w2 ⟨v2,rfl,hv2,hb2⟩;obtain ⟨b2,N2,D2,A2,c2,A2',c2',rfl,_,_,_⟩:=isQ_open hv2;have HV2:=Lib.hid hv2;have HB2:=Lib.hid (HBX.out.trans (hb2.mono HBX.out.size));clear hv2 hb2)
  | (go_at_call 153;refine (HW.out _ _ HV2.out).mono ?_;rintro e w3 ⟨rfl,hb3⟩;have HB3:=Lib.hid (HB2.out.trans (hb3.mono HB2.out.size));clear hb3))
 refine bodyPost_ret (results_tmp2 rfl _ _ _) rfl ?_
 exact ⟨rfl,HB3.out⟩
theorem refMul_any (a b:ByteArray) (w:World) (ha:a.size≤270000) (hb:b.size≤270000) :
  Calls Tryz.prog 149 #[.string a,.string b] w fun e w'=>e=.returned (resN (twoQ (fun p q=>outQ (p*q)) a.data.toList b.data.toList))∧Below w.heap.size w w':=by
 unfold twoQ
 by_cases he:errQ a.data.toList=0
 ·rw [if_neg (by omega)]
  by_cases he2:errQ b.data.toList=0
  ·rw [if_neg (by omega)]
   exact refMul_ok a b w ha hb he he2
  ·rw [if_pos he2]
   exact refMul_err2 a b w ha hb he he2
 ·rw [if_pos he]
  exact refMul_err1 a b w ha hb he
theorem refSub_err1 (a b:ByteArray) (w:World) (ha:a.size≤270000) (_hb:b.size≤270000) (he:errQ a.data.toList≠0) :
  Calls Tryz.prog 61 #[.string a,.string b] w fun e w'=>e=.returned (.tuple #[.string ⟨#[]⟩,.int .i64 (errQ a.data.toList:Int)])∧Below w.heap.size w w':=by
 have HE:=Lib.hid he
 have hne:((errQ a.data.toList:Int)==0)=false:=by rw [beq_eq_false_iff_ne];omega
 clear he
 go_enter Tryz.func61,Tryz.ntmps61
 go_wp2_with (go_at_call 152;refine (two_err a b _ ha HE.out).mono ?_;rintro e w1 ⟨v,v',rfl,hs,hs',hb⟩;obtain ⟨q0,q1,q2,q3,q4,q5,q6,rfl⟩:=hs;obtain ⟨p0,p1,p2,p3,p4,p5,p6,rfl⟩:=hs';have HB:=Lib.hid hb;clear hb)
 refine bodyPost_ret (results_tmp2 rfl _ _ _) rfl ?_
 exact ⟨rfl,below_alloc (below_alloc HB.out _) _⟩
theorem refSub_err2 (a b:ByteArray) (w:World) (ha:a.size≤270000) (hb:b.size≤270000) (he:errQ a.data.toList=0) (he2:errQ b.data.toList≠0) :
  Calls Tryz.prog 61 #[.string a,.string b] w fun e w'=>e=.returned (.tuple #[.string ⟨#[]⟩,.int .i64 (errQ b.data.toList:Int)])∧Below w.heap.size w w':=by
 have HE:=Lib.hid he
 have HE2:=Lib.hid he2
 have hne:((errQ b.data.toList:Int)==0)=false:=by rw [beq_eq_false_iff_ne];omega
 clear he2
 clear he
 go_enter Tryz.func61,Tryz.ntmps61
 go_wp2_with (go_at_call 152;refine (two_err2 a b _ ha hb HE.out HE2.out).mono ?_;rintro e w1 ⟨v,v',rfl,hs,hs',hb⟩;obtain ⟨q0,q1,q2,q3,q4,q5,q6,rfl⟩:=hs;obtain ⟨p0,p1,p2,p3,p4,p5,p6,rfl⟩:=hs';have HB:=Lib.hid hb;clear hb)
 refine bodyPost_ret (results_tmp2 rfl _ _ _) rfl ?_
 exact ⟨rfl,below_alloc (below_alloc HB.out _) _⟩
theorem refSub_ok (a b:ByteArray) (w:World) (ha:a.size≤270000) (hb:b.size≤270000) (he:errQ a.data.toList=0) (he2:errQ b.data.toList=0) :
  Calls Tryz.prog 61 #[.string a,.string b] w fun e w'=>e=.returned (resN (outQ ((valQ a.data.toList)+-(valQ b.data.toList))))∧Below w.heap.size w w':=by
 have HT:=Lib.hid (fun w=>two_ok a b w ha hb he he2)
 have sp:=sz_max he
 have sq:=sz_max he2
 generalize valQ a.data.toList=p at *
 generalize valQ b.data.toList=q at *
 obtain ⟨lp,lp'⟩:=sz_limbs sp
 obtain ⟨lq,lq'⟩:=sz_limbs sq
 clear he he2
 obtain ⟨lr,lr'⟩:=sz_limbs2 (sp.add sq.neg) (by unfold maxD;omega)
 obtain ⟨_,hq2,hq3⟩:=neg_parts q
 have HW:=Lib.hid (fun v w h=>rwriteQ_any (p+-q) v w h lr lr')
 generalize outQ (p+-q)=r at HW ⊢
 unfold resN at HW
 clear lr lr' sp sq
 refine (callsIn_wide (n:=3)).1 ?_
 have h1:1≤3:=by omega
 have hmx:Tryz.prog.follows .mixedOrders=true:=by kernel_rfl
 refine callsIn_of_wp Tryz.func61 rfl trivial ?_ rfl
 simp only [Tryz.ntmps61,List.size_toArray,List.length_cons,List.length_nil,Nat.reduceAdd,Nat.reduceSub,Array.replicate_succ,Array.replicate_zero,List.push_toArray,List.append_toArray,List.nil_append,List.cons_append]
 gi_upto_region 4 with fail
 refine ⟨trivial,?_⟩
 refine (callsIn_wide.2 (HT.out w)).mono ?_
 rintro e w1 ⟨v,v',rfl,hv,hv',hb⟩
 obtain ⟨bp,N,D,A,c,A',c',rfl,hn,hd,HP⟩:=isQ_open hv
 obtain ⟨bq,N',D',B,d,B',d',rfl,hn',hd',HQ⟩:=isQ_open hv'
 have HV:=Lib.hid hv
 have HV':=Lib.hid hv'
 have HB:=Lib.hid hb
 have HX:=Lib.hid (below_alloc (below_alloc (Below.refl w1.heap.size w1) (.cells #[.bool bp,.slice A (toL N).length c,.slice A' (toL D).length c'] 170)) (.cells #[.bool bq,.slice B (toL N').length d,.slice B' (toL D').length d'] 170))
 have HBX:=Lib.hid (HB.out.trans (HX.out.mono HB.out.size))
 clear hb hv hv' hn hd hn' hd'
 gi_upto_region 4 with fail
 have b0:Blk ((w1.alloc (.cells #[.bool bp,.slice A (toL N).length c,.slice A' (toL D).length c'] 170)).alloc (.cells #[.bool bq,.slice B (toL N').length d,.slice B' (toL D').length d'] 170)) w1.heap.size 170 #[.bool bp,.slice A (toL N).length c,.slice A' (toL D).length c']:=(Blk.new w1 _ _).alloc _
 have b1:Blk ((w1.alloc (.cells #[.bool bp,.slice A (toL N).length c,.slice A' (toL D).length c'] 170)).alloc (.cells #[.bool bq,.slice B (toL N').length d,.slice B' (toL D').length d'] 170)) (w1.heap.size+1) 170 #[.bool bq,.slice B (toL N').length d,.slice B' (toL D').length d']:=by
  have:=Blk.new (w1.alloc (.cells #[.bool bp,.slice A (toL N).length c,.slice A' (toL D).length c'] 170)) 170 #[.bool bq,.slice B (toL N').length d,.slice B' (toL D').length d']
  rwa [World.size_alloc] at this
 have hs:w1.heap.size+1 < ((w1.alloc (.cells #[.bool bp,.slice A (toL N).length c,.slice A' (toL D).length c'] 170)).alloc (.cells #[.bool bq,.slice B (toL N').length d,.slice B' (toL D').length d'] 170)).heap.size:=by simp
 generalize (w1.alloc (.cells #[.bool bp,.slice A (toL N).length c,.slice A' (toL D).length c'] 170)).alloc (.cells #[.bool bq,.slice B (toL N').length d,.slice B' (toL D').length d'] 170)=W at *
 obtain ⟨x0,x1,x2⟩:=same_cells (S:=fun k=>k < W.heap.size) b0 (by omega)
 obtain ⟨y0,y1,y2⟩:=same_cells (S:=fun k=>k < W.heap.size) b1 (by omega)
 have HXD:=Lib.hid (below_drew HX.out)
 clear b0 b1
 refine wpIn_stage (IsSame W (fun k=>k < W.heap.size)) [0,1,5,6,7,8] [] hmx (by kernel_rfl) (isSame_of fun _ _=>rfl) ?_
 change wpStage _ _ _ _ _ _ _ _ (7+2) _ _ _
 refine stage_reads [0,1] 7 _ _ (by kernel_rfl) ?_
 change wpQuietIn _ _ _ _ (fun W'=>∃ x:SameAt W (fun k=>k < W.heap.size),W'=x.W) _ _ _
 simp only [pick_cons,pick_nil,List.getElem?_cons_zero,List.getElem?_cons_succ,Option.elim_some]
 repeat (gi_big_quiet_step (fail))
 refine wpQuietIn_nil ?_
 refine stage_one 2 (by kernel_rfl) rfl ?_
 gi_wp2
 refine ⟨trivial,?_⟩
 refine (callsIn_wide.2 (rnegQ_any q _ W.drew (HV'.out.below HXD.out))).mono ?_
 rintro e w2 ⟨v2,rfl,hv2,hb2⟩
 obtain ⟨b2,N2,D2,A2,c2,A2',c2',rfl,_,_,_⟩:=isQ_open hv2
 have HV2:=Lib.hid hv2
 have hB2:Below W.heap.size W w2:=below_undrew hb2
 have HB2:=Lib.hid hB2
 have HX2:=Lib.hid (HXD.out.trans (hb2.mono HXD.out.size))
 clear hv2 hb2 hB2
 gi_wp2
 refine stage_post (isSame_below HB2.out (fun k hk=>hk)) ?_
 refine stage_one 3 (by kernel_rfl) rfl ?_
 gi_wp2
 refine ⟨trivial,?_⟩
 refine (callsIn_wide.2 (rplusQ_any p (-q) _ _ w2 (HV.out.below HX2.out) HV2.out (by omega) (by omega) (by rw [hq2];omega) (by rw [hq3];omega))).mono ?_
 rintro e w3 ⟨v3,rfl,hv3,hb3⟩
 obtain ⟨b3,N3,D3,A3,c3,A3',c3',rfl,_,_,_⟩:=isQ_open hv3
 have HV3:=Lib.hid hv3
 have HB3:=Lib.hid (HB2.out.trans (hb3.mono HB2.out.size))
 clear hv3 hb3
 gi_wp2
 refine stage_post (isSame_below HB3.out (fun k hk=>hk)) ?_
 refine stage_one 4 (by kernel_rfl) rfl ?_
 gi_wp2
 refine ⟨trivial,?_⟩
 refine (callsIn_wide.2 (HW.out _ w3 HV3.out)).mono ?_
 rintro e w4 ⟨rfl,hb4⟩
 have HB4:=Lib.hid (HB3.out.trans (hb4.mono HB3.out.size))
 clear hb4
 gi_wp2
 refine stage_post (isSame_below HB4.out (fun k hk=>hk)) ?_
 change wpStage _ _ _ _ _ _ _ _ (0+4) _ _ _
 refine stage_reads [5,6,7,8] 0 _ _ (by kernel_rfl) ?_
 change wpQuietIn _ _ _ _ (fun W'=>∃ x:SameAt W (fun k=>k < W.heap.size),W'=x.W) _ _ _
 simp only [pick_cons,pick_nil,List.getElem?_cons_zero,List.getElem?_cons_succ,Option.elim_some]
 repeat (gi_big_quiet_step (fail))
 refine wpQuietIn_nil ?_
 refine stage_done (by kernel_rfl) ?_
 gi_wp2
 refine bodyPost_ret (results_tmp2 rfl _ _ _) rfl ?_
 exact ⟨rfl,HB.out.trans ((HX.out.trans (HB4.out.mono HX.out.size)).mono HB.out.size)⟩
theorem refSub_any (a b:ByteArray) (w:World) (ha:a.size≤270000) (hb:b.size≤270000) :
  Calls Tryz.prog 61 #[.string a,.string b] w fun e w'=>e=.returned (resN (twoQ (fun p q=>outQ (p+-q)) a.data.toList b.data.toList))∧Below w.heap.size w w':=by
 unfold twoQ
 by_cases he:errQ a.data.toList=0
 ·rw [if_neg (by omega)]
  by_cases he2:errQ b.data.toList=0
  ·rw [if_neg (by omega)]
   exact refSub_ok a b w ha hb he he2
  ·rw [if_pos he2]
   exact refSub_err2 a b w ha hb he he2
 ·rw [if_pos he]
  exact refSub_err1 a b w ha hb he
theorem sgQ_sub (p q:Rat):sgQ (p+-q)=cmpQ p q:=by
 rw [sgQ_num,← Rat.sub_eq_add_neg]
 unfold cmpQ
 have h1:p < q↔(p - q).num < 0:=by
  rw [← Rat.not_le,← Int.not_le,Rat.num_nonneg,← Rat.le_iff_sub_nonneg]
 have h2:p=q↔(p - q).num=0:=by
  rw [Rat.num_eq_zero]
  constructor
  ·rintro rfl;exact Rat.sub_self
  ·intro h
   have:=congrArg (·+q) h
   simpa [Rat.sub_add_cancel,Rat.zero_add] using this
 by_cases h:p < q
 ·rw [if_pos h,if_pos (h1.1 h)]
 ·rw [if_neg h,if_neg (fun x=>h (h1.2 x))]
  by_cases h':p=q
  ·rw [if_pos h',if_pos (h2.1 h')]
  ·rw [if_neg h',if_neg (fun x=>h' (h2.2 x))]
theorem boxq2_blk (w:World) (m vn vd m' vn' vd':Value):Blk ((w.alloc (.cells #[m,vn,vd] 170)).alloc (.cells #[m',vn',vd'] 170)) w.heap.size 170 #[m,vn,vd] ∧
  Blk ((w.alloc (.cells #[m,vn,vd] 170)).alloc (.cells #[m',vn',vd'] 170)) (w.heap.size+1) 170 #[m',vn',vd'] ∧
  Below w.heap.size w ((w.alloc (.cells #[m,vn,vd] 170)).alloc (.cells #[m',vn',vd'] 170))∧((w.alloc (.cells #[m,vn,vd] 170)).alloc (.cells #[m',vn',vd'] 170)).heap.size=w.heap.size+2:=by
 refine ⟨(Blk.new w _ _).alloc _,?_,below_alloc (below_alloc (Below.refl _ _) _) _,by simp⟩
 have:=Blk.new (w.alloc (.cells #[m,vn,vd] 170)) 170 #[m',vn',vd']
 rwa [World.size_alloc] at this
theorem rord_zero (p q:Rat) (v v':Value) (w:World) (h:IsQ w v p) (h':IsQ w v' q) (l1:(toL (nm p)).length≤10000) (l2:(toL p.den).length≤10000) (l3:(toL (nm q)).length≤10000) (l4:(toL q.den).length≤10000) (hX:sgQ (p+-q)=0) :
  Calls Tryz.prog 201 #[v,v'] w fun e w'=>e=.returned (.int .i64 0)∧Below w.heap.size w w':=by
 have HV:=Lib.hid h
 have HV':=Lib.hid h'
 have HF:=Lib.hid (fun (b:Bool) (N:Nat) (h:ng (p+-q)=b∧nm (p+-q)=N)=>show (((toL N).length:Int)==0)=true∧b=b from by
  unfold sgQ at hX
  split at hX
  ·rename_i h0
   exact ⟨by rw [len_zero,← h.2,decide_eq_true h0],rfl⟩
  ·split at hX<;>cases hX)
 clear hX
 obtain ⟨_,hq2,hq3⟩:=neg_parts q
 obtain ⟨bp,N,D,A,c,A',c',rfl,_,_,_⟩:=isQ_open h
 obtain ⟨bq,N',D',B,d,B',d',rfl,_,_,_⟩:=isQ_open h'
 clear h h'
 refine (callsIn_wide (n:=3)).1 ?_
 have h1:1≤3:=by omega
 have hmx:Tryz.prog.follows .mixedOrders=true:=by kernel_rfl
 refine callsIn_of_wp Tryz.func201 rfl trivial ?_ rfl
 simp only [Tryz.ntmps201,List.size_toArray,List.length_cons,List.length_nil,Nat.reduceAdd,Nat.reduceSub,Array.replicate_succ,Array.replicate_zero,List.push_toArray,List.append_toArray,List.nil_append,List.cons_append]
 gi_upto_region 1 with fail
 obtain ⟨k0,k1,hX,hs⟩:=boxq2_blk w (.bool bp) (.slice A (toL N).length c) (.slice A' (toL D).length c') (.bool bq) (.slice B (toL N').length d) (.slice B' (toL D').length d')
 generalize (w.alloc (.cells #[.bool bp,.slice A (toL N).length c,.slice A' (toL D).length c'] 170)).alloc (.cells #[.bool bq,.slice B (toL N').length d,.slice B' (toL D').length d'] 170)=W at *
 obtain ⟨x0,x1,x2⟩:=same_cells (S:=fun k=>k < W.heap.size) k0 (by omega)
 obtain ⟨y0,y1,y2⟩:=same_cells (S:=fun k=>k < W.heap.size) k1 (by omega)
 have HX:=Lib.hid (below_drew hX)
 have hW0:Below W.heap.size W W:=Below.refl _ _
 clear k0 k1 hX hs
 refine wpIn_stage (IsSame W (fun k=>k < W.heap.size)) [0,1] [] hmx (by kernel_rfl) (isSame_of fun _ _=>rfl) ?_
 change wpStage _ _ _ _ _ _ _ _ (4+2) _ _ _
 refine stage_reads [0,1] 4 _ _ (by kernel_rfl) ?_
 change wpQuietIn _ _ _ _ (fun W'=>∃ x:SameAt W (fun k=>k < W.heap.size),W'=x.W) _ _ _
 simp only [pick_cons,pick_nil,List.getElem?_cons_zero,List.getElem?_cons_succ,Option.elim_some]
 repeat (gi_big_quiet_step (fail))
 refine wpQuietIn_nil ?_
 refine stage_two 2 4 (by kernel_rfl) rfl rfl ?_ ?_
 ·gi_wp2
  refine ⟨trivial,?_⟩
  refine (callsIn_wide.2 (rnegQ_any q _ W.drew (HV'.out.below (HX.out.trans ((below_drew3 (below_drew hW0)).mono HX.out.size))))).mono ?_
  rintro e w2 ⟨v2,rfl,hv2,hb2⟩
  obtain ⟨b2,N2,D2,A2,c2,A2',c2',rfl,_,_,_⟩:=isQ_open hv2
  have HV2:=Lib.hid hv2
  have hB2:Below W.heap.size W w2:=below_undrew hb2
  have HB2:=Lib.hid hB2
  clear hv2 hb2 hB2
  gi_wp2
  refine stage_post (isSame_below HB2.out (fun k hk=>hk)) ?_
  refine stage_two 3 4 (by kernel_rfl) rfl rfl ?_ ?_
  ·gi_wp2
   refine ⟨trivial,?_⟩
   refine (callsIn_wide.2 (rplusQ_any p (-q) _ _ w2 (HV.out.below (HX.out.trans ((below_drew3 HB2.out).mono HX.out.size))) (HV2.out) (by omega) (by omega) (by rw [hq2];omega) (by rw [hq3];omega))).mono ?_
   rintro e w3 ⟨v3,rfl,hv3,hb3⟩
   obtain ⟨b3,N3,D3,A3,c3,A3',c3',rfl,_,_,HQ3⟩:=isQ_open hv3
   obtain ⟨f1,f2⟩:=HF.out _ _ ⟨HQ3.out.1,HQ3.out.2.1⟩
   have HB3:=Lib.hid (HB2.out.trans (hb3.mono HB2.out.size))
   clear hv3 hb3
   gi_wp2
   refine stage_post (isSame_below HB3.out (fun k hk=>hk)) ?_
   refine stage_one 4 (by kernel_rfl) rfl ?_
   gi_wp2
   refine stage_post (isSame_below (HB3.out.alloc HB3.out.size zQ) (fun k hk=>hk)) ?_
   refine stage_one 5 (by kernel_rfl) rfl ?_
   gi_wp2
   refine stage_post (isSame_below (HB3.out.alloc HB3.out.size _) (fun k hk=>hk)) ?_
   refine stage_done (by kernel_rfl) ?_
   gi_wp2
   refine bodyPost_ret (results_tmp rfl _ _ _) rfl ?_
   exact ⟨rfl,HX.out.trans ((below_drew3 (HB3.out.alloc HB3.out.size _)).mono HX.out.size)⟩
  ·gi_wp2
   have HB4:=Lib.hid (HB2.out.alloc HB2.out.size zQ)
   have HP4:=Lib.hid (zq_new w2)
   have hal:=below_alloc (Below.refl w2.heap.size w2) zQ
   have HV2:=Lib.hid (HV2.out.below hal)
   clear hal
   have hg5:=HB2.out.size
   generalize w2.heap.size=g5 at *
   generalize w2.alloc zQ=w4 at *
   refine stage_post (isSame_below HB4.out (fun k hk=>hk)) ?_
   refine stage_one 3 (by kernel_rfl) rfl ?_
   gi_wp2
   refine ⟨trivial,?_⟩
   refine (callsIn_wide.2 (rplusQ_any p (-q) _ _ w4 (HV.out.below (HX.out.trans ((below_drew3 HB4.out).mono HX.out.size))) (HV2.out) (by omega) (by omega) (by rw [hq2];omega) (by rw [hq3];omega))).mono ?_
   rintro e w3 ⟨v3,rfl,hv3,hb3⟩
   obtain ⟨b3,N3,D3,A3,c3,A3',c3',rfl,_,_,HQ3⟩:=isQ_open hv3
   obtain ⟨f1,f2⟩:=HF.out _ _ ⟨HQ3.out.1,HQ3.out.2.1⟩
   have HB3:=Lib.hid (HB4.out.trans (hb3.mono HB4.out.size))
   obtain ⟨⟨r0,s0⟩,⟨r1,s1⟩,r2,s2⟩:=cells6Q (HP4.out.below hb3 HP4.out.lt)
   have HP3:=Lib.hid (HP4.out.below hb3 HP4.out.lt)
   clear hv3 hb3
   gi_wp2
   refine stage_post (isSame_below HB3.out (fun k hk=>hk)) ?_
   refine stage_one 5 (by kernel_rfl) rfl ?_
   gi_wp2
   have HB5:=Lib.hid (set3_below (x:=.bool b3) (y:=.slice A3 (toL N3).length c3) (z:=.slice A3' (toL D3).length c3') HB3.out hg5)
   refine stage_post (isSame_below HB5.out (fun k hk=>hk)) ?_
   obtain ⟨z0,z1,z2⟩:=rows3 (set3 (x:=.bool b3) (y:=.slice A3 (toL N3).length c3) (z:=.slice A3' (toL D3).length c3') HP3.out)
   clear r0 r1 r2 s0 s1 s2
   refine stage_done (by kernel_rfl) ?_
   gi_wp2
   refine bodyPost_ret (results_tmp rfl _ _ _) rfl ?_
   exact ⟨rfl,HX.out.trans ((below_drew3 HB5.out).mono HX.out.size)⟩
 ·gi_wp2
  have hz4:Below W.heap.size W (W.alloc zQ):=below_alloc (Below.refl _ _) _
  have HZ4:=Lib.hid (below_drew hz4)
  have HP0:=Lib.hid (show Blk (W.alloc zQ).drew W.heap.size 170 #[.bool false,.slice none 0 0,.slice none 0 0] from zq_new W)
  clear hz4
  have hg5:=Nat.le_refl W.heap.size
  generalize (W.alloc zQ).drew=w4 at *
  refine stage_post (isSame_below HZ4.out (fun k hk=>hk)) ?_
  refine stage_one 2 (by kernel_rfl) rfl ?_
  gi_wp2
  refine ⟨trivial,?_⟩
  refine (callsIn_wide.2 (rnegQ_any q _ w4 (HV'.out.below (HX.out.trans ((below_drew3 HZ4.out).mono HX.out.size))))).mono ?_
  rintro e w2 ⟨v2,rfl,hv2,hb2⟩
  obtain ⟨b2,N2,D2,A2,c2,A2',c2',rfl,_,_,_⟩:=isQ_open hv2
  have HV2:=Lib.hid hv2
  have HB2:=Lib.hid (HZ4.out.trans (hb2.mono HZ4.out.size))
  have HP4:=Lib.hid (HP0.out.below hb2 HP0.out.lt)
  clear hv2 hb2
  gi_wp2
  refine stage_post (isSame_below HB2.out (fun k hk=>hk)) ?_
  refine stage_one 3 (by kernel_rfl) rfl ?_
  gi_wp2
  refine ⟨trivial,?_⟩
  refine (callsIn_wide.2 (rplusQ_any p (-q) _ _ w2 (HV.out.below (HX.out.trans ((below_drew3 HB2.out).mono HX.out.size))) (HV2.out) (by omega) (by omega) (by rw [hq2];omega) (by rw [hq3];omega))).mono ?_
  rintro e w3 ⟨v3,rfl,hv3,hb3⟩
  obtain ⟨b3,N3,D3,A3,c3,A3',c3',rfl,_,_,HQ3⟩:=isQ_open hv3
  obtain ⟨f1,f2⟩:=HF.out _ _ ⟨HQ3.out.1,HQ3.out.2.1⟩
  have HB3:=Lib.hid (HB2.out.trans (hb3.mono HB2.out.size))
  obtain ⟨⟨r0,s0⟩,⟨r1,s1⟩,r2,s2⟩:=cells6Q (HP4.out.below hb3 HP4.out.lt)
  have HP3:=Lib.hid (HP4.out.below hb3 HP4.out.lt)
  clear hv3 hb3
  gi_wp2
  refine stage_post (isSame_below HB3.out (fun k hk=>hk)) ?_
  refine stage_one 5 (by kernel_rfl) rfl ?_
  gi_wp2
  have HB5:=Lib.hid (set3_below (x:=.bool b3) (y:=.slice A3 (toL N3).length c3) (z:=.slice A3' (toL D3).length c3') HB3.out hg5)
  refine stage_post (isSame_below HB5.out (fun k hk=>hk)) ?_
  obtain ⟨z0,z1,z2⟩:=rows3 (set3 (x:=.bool b3) (y:=.slice A3 (toL N3).length c3) (z:=.slice A3' (toL D3).length c3') HP3.out)
  clear r0 r1 r2 s0 s1 s2
  refine stage_done (by kernel_rfl) ?_
  gi_wp2
  refine bodyPost_ret (results_tmp rfl _ _ _) rfl ?_
  exact ⟨rfl,HX.out.trans ((below_drew3 HB5.out).mono HX.out.size)⟩
theorem rord_neg (p q:Rat) (v v':Value) (w:World) (h:IsQ w v p) (h':IsQ w v' q) (l1:(toL (nm p)).length≤10000) (l2:(toL p.den).length≤10000) (l3:(toL (nm q)).length≤10000) (l4:(toL q.den).length≤10000) (hX:sgQ (p+-q)=-1) :
  Calls Tryz.prog 201 #[v,v'] w fun e w'=>e=.returned (.int .i64 (-1))∧Below w.heap.size w w':=by
 have HV:=Lib.hid h
 have HV':=Lib.hid h'
 have HF:=Lib.hid (fun (b:Bool) (N:Nat) (h:ng (p+-q)=b∧nm (p+-q)=N)=>show (((toL N).length:Int)==0)=false∧b=true from by
  unfold sgQ at hX
  split at hX
  ·cases hX
  ·rename_i h0
   refine ⟨by rw [len_zero,← h.2,decide_eq_false h0],?_⟩
   rw [← h.1]
   split at hX
   ·assumption
   ·cases hX)
 clear hX
 obtain ⟨_,hq2,hq3⟩:=neg_parts q
 obtain ⟨bp,N,D,A,c,A',c',rfl,_,_,_⟩:=isQ_open h
 obtain ⟨bq,N',D',B,d,B',d',rfl,_,_,_⟩:=isQ_open h'
 clear h h'
 refine (callsIn_wide (n:=3)).1 ?_
 have h1:1≤3:=by omega
 have hmx:Tryz.prog.follows .mixedOrders=true:=by kernel_rfl
 refine callsIn_of_wp Tryz.func201 rfl trivial ?_ rfl
 simp only [Tryz.ntmps201,List.size_toArray,List.length_cons,List.length_nil,Nat.reduceAdd,Nat.reduceSub,Array.replicate_succ,Array.replicate_zero,List.push_toArray,List.append_toArray,List.nil_append,List.cons_append]
 gi_upto_region 1 with fail
 obtain ⟨k0,k1,hX,hs⟩:=boxq2_blk w (.bool bp) (.slice A (toL N).length c) (.slice A' (toL D).length c') (.bool bq) (.slice B (toL N').length d) (.slice B' (toL D').length d')
 generalize (w.alloc (.cells #[.bool bp,.slice A (toL N).length c,.slice A' (toL D).length c'] 170)).alloc (.cells #[.bool bq,.slice B (toL N').length d,.slice B' (toL D').length d'] 170)=W at *
 obtain ⟨x0,x1,x2⟩:=same_cells (S:=fun k=>k < W.heap.size) k0 (by omega)
 obtain ⟨y0,y1,y2⟩:=same_cells (S:=fun k=>k < W.heap.size) k1 (by omega)
 have HX:=Lib.hid (below_drew hX)
 have hW0:Below W.heap.size W W:=Below.refl _ _
 clear k0 k1 hX hs
 refine wpIn_stage (IsSame W (fun k=>k < W.heap.size)) [0,1] [] hmx (by kernel_rfl) (isSame_of fun _ _=>rfl) ?_
 change wpStage _ _ _ _ _ _ _ _ (4+2) _ _ _
 refine stage_reads [0,1] 4 _ _ (by kernel_rfl) ?_
 change wpQuietIn _ _ _ _ (fun W'=>∃ x:SameAt W (fun k=>k < W.heap.size),W'=x.W) _ _ _
 simp only [pick_cons,pick_nil,List.getElem?_cons_zero,List.getElem?_cons_succ,Option.elim_some]
 repeat (gi_big_quiet_step (fail))
 refine wpQuietIn_nil ?_
 refine stage_two 2 4 (by kernel_rfl) rfl rfl ?_ ?_
 ·gi_wp2
  refine ⟨trivial,?_⟩
  refine (callsIn_wide.2 (rnegQ_any q _ W.drew (HV'.out.below (HX.out.trans ((below_drew3 (below_drew hW0)).mono HX.out.size))))).mono ?_
  rintro e w2 ⟨v2,rfl,hv2,hb2⟩
  obtain ⟨b2,N2,D2,A2,c2,A2',c2',rfl,_,_,_⟩:=isQ_open hv2
  have HV2:=Lib.hid hv2
  have hB2:Below W.heap.size W w2:=below_undrew hb2
  have HB2:=Lib.hid hB2
  clear hv2 hb2 hB2
  gi_wp2
  refine stage_post (isSame_below HB2.out (fun k hk=>hk)) ?_
  refine stage_two 3 4 (by kernel_rfl) rfl rfl ?_ ?_
  ·gi_wp2
   refine ⟨trivial,?_⟩
   refine (callsIn_wide.2 (rplusQ_any p (-q) _ _ w2 (HV.out.below (HX.out.trans ((below_drew3 HB2.out).mono HX.out.size))) (HV2.out) (by omega) (by omega) (by rw [hq2];omega) (by rw [hq3];omega))).mono ?_
   rintro e w3 ⟨v3,rfl,hv3,hb3⟩
   obtain ⟨b3,N3,D3,A3,c3,A3',c3',rfl,_,_,HQ3⟩:=isQ_open hv3
   obtain ⟨f1,f2⟩:=HF.out _ _ ⟨HQ3.out.1,HQ3.out.2.1⟩
   subst f2
   have HB3:=Lib.hid (HB2.out.trans (hb3.mono HB2.out.size))
   clear hv3 hb3
   gi_wp2
   refine stage_post (isSame_below HB3.out (fun k hk=>hk)) ?_
   refine stage_one 4 (by kernel_rfl) rfl ?_
   gi_wp2
   refine stage_post (isSame_below (HB3.out.alloc HB3.out.size zQ) (fun k hk=>hk)) ?_
   refine stage_one 5 (by kernel_rfl) rfl ?_
   gi_wp2
   refine stage_post (isSame_below (HB3.out.alloc HB3.out.size _) (fun k hk=>hk)) ?_
   refine stage_done (by kernel_rfl) ?_
   gi_wp2
   refine bodyPost_ret (results_tmp rfl _ _ _) rfl ?_
   exact ⟨rfl,HX.out.trans ((below_drew3 (HB3.out.alloc HB3.out.size _)).mono HX.out.size)⟩
  ·gi_wp2
   have HB4:=Lib.hid (HB2.out.alloc HB2.out.size zQ)
   have HP4:=Lib.hid (zq_new w2)
   have hal:=below_alloc (Below.refl w2.heap.size w2) zQ
   have HV2:=Lib.hid (HV2.out.below hal)
   clear hal
   have hg5:=HB2.out.size
   generalize w2.heap.size=g5 at *
   generalize w2.alloc zQ=w4 at *
   refine stage_post (isSame_below HB4.out (fun k hk=>hk)) ?_
   refine stage_one 3 (by kernel_rfl) rfl ?_
   gi_wp2
   refine ⟨trivial,?_⟩
   refine (callsIn_wide.2 (rplusQ_any p (-q) _ _ w4 (HV.out.below (HX.out.trans ((below_drew3 HB4.out).mono HX.out.size))) (HV2.out) (by omega) (by omega) (by rw [hq2];omega) (by rw [hq3];omega))).mono ?_
   rintro e w3 ⟨v3,rfl,hv3,hb3⟩
   obtain ⟨b3,N3,D3,A3,c3,A3',c3',rfl,_,_,HQ3⟩:=isQ_open hv3
   obtain ⟨f1,f2⟩:=HF.out _ _ ⟨HQ3.out.1,HQ3.out.2.1⟩
   subst f2
   have HB3:=Lib.hid (HB4.out.trans (hb3.mono HB4.out.size))
   obtain ⟨⟨r0,s0⟩,⟨r1,s1⟩,r2,s2⟩:=cells6Q (HP4.out.below hb3 HP4.out.lt)
   have HP3:=Lib.hid (HP4.out.below hb3 HP4.out.lt)
   clear hv3 hb3
   gi_wp2
   refine stage_post (isSame_below HB3.out (fun k hk=>hk)) ?_
   refine stage_one 5 (by kernel_rfl) rfl ?_
   gi_wp2
   have HB5:=Lib.hid (set3_below (x:=.bool true) (y:=.slice A3 (toL N3).length c3) (z:=.slice A3' (toL D3).length c3') HB3.out hg5)
   refine stage_post (isSame_below HB5.out (fun k hk=>hk)) ?_
   obtain ⟨z0,z1,z2⟩:=rows3 (set3 (x:=.bool true) (y:=.slice A3 (toL N3).length c3) (z:=.slice A3' (toL D3).length c3') HP3.out)
   clear r0 r1 r2 s0 s1 s2
   refine stage_done (by kernel_rfl) ?_
   gi_wp2
   refine bodyPost_ret (results_tmp rfl _ _ _) rfl ?_
   exact ⟨rfl,HX.out.trans ((below_drew3 HB5.out).mono HX.out.size)⟩
 ·gi_wp2
  have hz4:Below W.heap.size W (W.alloc zQ):=below_alloc (Below.refl _ _) _
  have HZ4:=Lib.hid (below_drew hz4)
  have HP0:=Lib.hid (show Blk (W.alloc zQ).drew W.heap.size 170 #[.bool false,.slice none 0 0,.slice none 0 0] from zq_new W)
  clear hz4
  have hg5:=Nat.le_refl W.heap.size
  generalize (W.alloc zQ).drew=w4 at *
  refine stage_post (isSame_below HZ4.out (fun k hk=>hk)) ?_
  refine stage_one 2 (by kernel_rfl) rfl ?_
  gi_wp2
  refine ⟨trivial,?_⟩
  refine (callsIn_wide.2 (rnegQ_any q _ w4 (HV'.out.below (HX.out.trans ((below_drew3 HZ4.out).mono HX.out.size))))).mono ?_
  rintro e w2 ⟨v2,rfl,hv2,hb2⟩
  obtain ⟨b2,N2,D2,A2,c2,A2',c2',rfl,_,_,_⟩:=isQ_open hv2
  have HV2:=Lib.hid hv2
  have HB2:=Lib.hid (HZ4.out.trans (hb2.mono HZ4.out.size))
  have HP4:=Lib.hid (HP0.out.below hb2 HP0.out.lt)
  clear hv2 hb2
  gi_wp2
  refine stage_post (isSame_below HB2.out (fun k hk=>hk)) ?_
  refine stage_one 3 (by kernel_rfl) rfl ?_
  gi_wp2
  refine ⟨trivial,?_⟩
  refine (callsIn_wide.2 (rplusQ_any p (-q) _ _ w2 (HV.out.below (HX.out.trans ((below_drew3 HB2.out).mono HX.out.size))) (HV2.out) (by omega) (by omega) (by rw [hq2];omega) (by rw [hq3];omega))).mono ?_
  rintro e w3 ⟨v3,rfl,hv3,hb3⟩
  obtain ⟨b3,N3,D3,A3,c3,A3',c3',rfl,_,_,HQ3⟩:=isQ_open hv3
  obtain ⟨f1,f2⟩:=HF.out _ _ ⟨HQ3.out.1,HQ3.out.2.1⟩
  subst f2
  have HB3:=Lib.hid (HB2.out.trans (hb3.mono HB2.out.size))
  obtain ⟨⟨r0,s0⟩,⟨r1,s1⟩,r2,s2⟩:=cells6Q (HP4.out.below hb3 HP4.out.lt)
  have HP3:=Lib.hid (HP4.out.below hb3 HP4.out.lt)
  clear hv3 hb3
  gi_wp2
  refine stage_post (isSame_below HB3.out (fun k hk=>hk)) ?_
  refine stage_one 5 (by kernel_rfl) rfl ?_
  gi_wp2
  have HB5:=Lib.hid (set3_below (x:=.bool true) (y:=.slice A3 (toL N3).length c3) (z:=.slice A3' (toL D3).length c3') HB3.out hg5)
  refine stage_post (isSame_below HB5.out (fun k hk=>hk)) ?_
  obtain ⟨z0,z1,z2⟩:=rows3 (set3 (x:=.bool true) (y:=.slice A3 (toL N3).length c3) (z:=.slice A3' (toL D3).length c3') HP3.out)
  clear r0 r1 r2 s0 s1 s2
  refine stage_done (by kernel_rfl) ?_
  gi_wp2
  refine bodyPost_ret (results_tmp rfl _ _ _) rfl ?_
  exact ⟨rfl,HX.out.trans ((below_drew3 HB5.out).mono HX.out.size)⟩
theorem rord_pos (p q:Rat) (v v':Value) (w:World) (h:IsQ w v p) (h':IsQ w v' q) (l1:(toL (nm p)).length≤10000) (l2:(toL p.den).length≤10000) (l3:(toL (nm q)).length≤10000) (l4:(toL q.den).length≤10000) (hX:sgQ (p+-q)=1) :
  Calls Tryz.prog 201 #[v,v'] w fun e w'=>e=.returned (.int .i64 1)∧Below w.heap.size w w':=by
 have HV:=Lib.hid h
 have HV':=Lib.hid h'
 have HF:=Lib.hid (fun (b:Bool) (N:Nat) (h:ng (p+-q)=b∧nm (p+-q)=N)=>show (((toL N).length:Int)==0)=false∧b=false from by
  unfold sgQ at hX
  split at hX
  ·cases hX
  ·rename_i h0
   refine ⟨by rw [len_zero,← h.2,decide_eq_false h0],?_⟩
   rw [← h.1]
   split at hX
   ·cases hX
   ·rename_i h1;simpa using h1)
 clear hX
 obtain ⟨_,hq2,hq3⟩:=neg_parts q
 obtain ⟨bp,N,D,A,c,A',c',rfl,_,_,_⟩:=isQ_open h
 obtain ⟨bq,N',D',B,d,B',d',rfl,_,_,_⟩:=isQ_open h'
 clear h h'
 refine (callsIn_wide (n:=3)).1 ?_
 have h1:1≤3:=by omega
 have hmx:Tryz.prog.follows .mixedOrders=true:=by kernel_rfl
 refine callsIn_of_wp Tryz.func201 rfl trivial ?_ rfl
 simp only [Tryz.ntmps201,List.size_toArray,List.length_cons,List.length_nil,Nat.reduceAdd,Nat.reduceSub,Array.replicate_succ,Array.replicate_zero,List.push_toArray,List.append_toArray,List.nil_append,List.cons_append]
 gi_upto_region 1 with fail
 obtain ⟨k0,k1,hX,hs⟩:=boxq2_blk w (.bool bp) (.slice A (toL N).length c) (.slice A' (toL D).length c') (.bool bq) (.slice B (toL N').length d) (.slice B' (toL D').length d')
 generalize (w.alloc (.cells #[.bool bp,.slice A (toL N).length c,.slice A' (toL D).length c'] 170)).alloc (.cells #[.bool bq,.slice B (toL N').length d,.slice B' (toL D').length d'] 170)=W at *
 obtain ⟨x0,x1,x2⟩:=same_cells (S:=fun k=>k < W.heap.size) k0 (by omega)
 obtain ⟨y0,y1,y2⟩:=same_cells (S:=fun k=>k < W.heap.size) k1 (by omega)
 have HX:=Lib.hid (below_drew hX)
 have hW0:Below W.heap.size W W:=Below.refl _ _
 clear k0 k1 hX hs
 refine wpIn_stage (IsSame W (fun k=>k < W.heap.size)) [0,1] [] hmx (by kernel_rfl) (isSame_of fun _ _=>rfl) ?_
 change wpStage _ _ _ _ _ _ _ _ (4+2) _ _ _
 refine stage_reads [0,1] 4 _ _ (by kernel_rfl) ?_
 change wpQuietIn _ _ _ _ (fun W'=>∃ x:SameAt W (fun k=>k < W.heap.size),W'=x.W) _ _ _
 simp only [pick_cons,pick_nil,List.getElem?_cons_zero,List.getElem?_cons_succ,Option.elim_some]
 repeat (gi_big_quiet_step (fail))
 refine wpQuietIn_nil ?_
 refine stage_two 2 4 (by kernel_rfl) rfl rfl ?_ ?_
 ·gi_wp2
  refine ⟨trivial,?_⟩
  refine (callsIn_wide.2 (rnegQ_any q _ W.drew (HV'.out.below (HX.out.trans ((below_drew3 (below_drew hW0)).mono HX.out.size))))).mono ?_
  rintro e w2 ⟨v2,rfl,hv2,hb2⟩
  obtain ⟨b2,N2,D2,A2,c2,A2',c2',rfl,_,_,_⟩:=isQ_open hv2
  have HV2:=Lib.hid hv2
  have hB2:Below W.heap.size W w2:=below_undrew hb2
  have HB2:=Lib.hid hB2
  clear hv2 hb2 hB2
  gi_wp2
  refine stage_post (isSame_below HB2.out (fun k hk=>hk)) ?_
  refine stage_two 3 4 (by kernel_rfl) rfl rfl ?_ ?_
  ·gi_wp2
   refine ⟨trivial,?_⟩
   refine (callsIn_wide.2 (rplusQ_any p (-q) _ _ w2 (HV.out.below (HX.out.trans ((below_drew3 HB2.out).mono HX.out.size))) (HV2.out) (by omega) (by omega) (by rw [hq2];omega) (by rw [hq3];omega))).mono ?_
   rintro e w3 ⟨v3,rfl,hv3,hb3⟩
   obtain ⟨b3,N3,D3,A3,c3,A3',c3',rfl,_,_,HQ3⟩:=isQ_open hv3
   obtain ⟨f1,f2⟩:=HF.out _ _ ⟨HQ3.out.1,HQ3.out.2.1⟩
   subst f2
   have HB3:=Lib.hid (HB2.out.trans (hb3.mono HB2.out.size))
   clear hv3 hb3
   gi_wp2
   refine stage_post (isSame_below HB3.out (fun k hk=>hk)) ?_
   refine stage_one 4 (by kernel_rfl) rfl ?_
   gi_wp2
   refine stage_post (isSame_below (HB3.out.alloc HB3.out.size zQ) (fun k hk=>hk)) ?_
   refine stage_one 5 (by kernel_rfl) rfl ?_
   gi_wp2
   refine stage_post (isSame_below (HB3.out.alloc HB3.out.size _) (fun k hk=>hk)) ?_
   refine stage_done (by kernel_rfl) ?_
   gi_wp2
   refine bodyPost_ret (results_tmp rfl _ _ _) rfl ?_
   exact ⟨rfl,HX.out.trans ((below_drew3 (HB3.out.alloc HB3.out.size _)).mono HX.out.size)⟩
  ·gi_wp2
   have HB4:=Lib.hid (HB2.out.alloc HB2.out.size zQ)
   have HP4:=Lib.hid (zq_new w2)
   have hal:=below_alloc (Below.refl w2.heap.size w2) zQ
   have HV2:=Lib.hid (HV2.out.below hal)
   clear hal
   have hg5:=HB2.out.size
   generalize w2.heap.size=g5 at *
   generalize w2.alloc zQ=w4 at *
   refine stage_post (isSame_below HB4.out (fun k hk=>hk)) ?_
   refine stage_one 3 (by kernel_rfl) rfl ?_
   gi_wp2
   refine ⟨trivial,?_⟩
   refine (callsIn_wide.2 (rplusQ_any p (-q) _ _ w4 (HV.out.below (HX.out.trans ((below_drew3 HB4.out).mono HX.out.size))) (HV2.out) (by omega) (by omega) (by rw [hq2];omega) (by rw [hq3];omega))).mono ?_
   rintro e w3 ⟨v3,rfl,hv3,hb3⟩
   obtain ⟨b3,N3,D3,A3,c3,A3',c3',rfl,_,_,HQ3⟩:=isQ_open hv3
   obtain ⟨f1,f2⟩:=HF.out _ _ ⟨HQ3.out.1,HQ3.out.2.1⟩
   subst f2
   have HB3:=Lib.hid (HB4.out.trans (hb3.mono HB4.out.size))
   obtain ⟨⟨r0,s0⟩,⟨r1,s1⟩,r2,s2⟩:=cells6Q (HP4.out.below hb3 HP4.out.lt)
   have HP3:=Lib.hid (HP4.out.below hb3 HP4.out.lt)
   clear hv3 hb3
   gi_wp2
   refine stage_post (isSame_below HB3.out (fun k hk=>hk)) ?_
   refine stage_one 5 (by kernel_rfl) rfl ?_
   gi_wp2
   have HB5:=Lib.hid (set3_below (x:=.bool false) (y:=.slice A3 (toL N3).length c3) (z:=.slice A3' (toL D3).length c3') HB3.out hg5)
   refine stage_post (isSame_below HB5.out (fun k hk=>hk)) ?_
   obtain ⟨z0,z1,z2⟩:=rows3 (set3 (x:=.bool false) (y:=.slice A3 (toL N3).length c3) (z:=.slice A3' (toL D3).length c3') HP3.out)
   clear r0 r1 r2 s0 s1 s2
   refine stage_done (by kernel_rfl) ?_
   gi_wp2
   refine bodyPost_ret (results_tmp rfl _ _ _) rfl ?_
   exact ⟨rfl,HX.out.trans ((below_drew3 HB5.out).mono HX.out.size)⟩
 ·gi_wp2
  have hz4:Below W.heap.size W (W.alloc zQ):=below_alloc (Below.refl _ _) _
  have HZ4:=Lib.hid (below_drew hz4)
  have HP0:=Lib.hid (show Blk (W.alloc zQ).drew W.heap.size 170 #[.bool false,.slice none 0 0,.slice none 0 0] from zq_new W)
  clear hz4
  have hg5:=Nat.le_refl W.heap.size
  generalize (W.alloc zQ).drew=w4 at *
  refine stage_post (isSame_below HZ4.out (fun k hk=>hk)) ?_
  refine stage_one 2 (by kernel_rfl) rfl ?_
  gi_wp2
  refine ⟨trivial,?_⟩
  refine (callsIn_wide.2 (rnegQ_any q _ w4 (HV'.out.below (HX.out.trans ((below_drew3 HZ4.out).mono HX.out.size))))).mono ?_
  rintro e w2 ⟨v2,rfl,hv2,hb2⟩
  obtain ⟨b2,N2,D2,A2,c2,A2',c2',rfl,_,_,_⟩:=isQ_open hv2
  have HV2:=Lib.hid hv2
  have HB2:=Lib.hid (HZ4.out.trans (hb2.mono HZ4.out.size))
  have HP4:=Lib.hid (HP0.out.below hb2 HP0.out.lt)
  clear hv2 hb2
  gi_wp2
  refine stage_post (isSame_below HB2.out (fun k hk=>hk)) ?_
  refine stage_one 3 (by kernel_rfl) rfl ?_
  gi_wp2
  refine ⟨trivial,?_⟩
  refine (callsIn_wide.2 (rplusQ_any p (-q) _ _ w2 (HV.out.below (HX.out.trans ((below_drew3 HB2.out).mono HX.out.size))) (HV2.out) (by omega) (by omega) (by rw [hq2];omega) (by rw [hq3];omega))).mono ?_
  rintro e w3 ⟨v3,rfl,hv3,hb3⟩
  obtain ⟨b3,N3,D3,A3,c3,A3',c3',rfl,_,_,HQ3⟩:=isQ_open hv3
  obtain ⟨f1,f2⟩:=HF.out _ _ ⟨HQ3.out.1,HQ3.out.2.1⟩
  subst f2
  have HB3:=Lib.hid (HB2.out.trans (hb3.mono HB2.out.size))
  obtain ⟨⟨r0,s0⟩,⟨r1,s1⟩,r2,s2⟩:=cells6Q (HP4.out.below hb3 HP4.out.lt)
  have HP3:=Lib.hid (HP4.out.below hb3 HP4.out.lt)
  clear hv3 hb3
  gi_wp2
  refine stage_post (isSame_below HB3.out (fun k hk=>hk)) ?_
  refine stage_one 5 (by kernel_rfl) rfl ?_
  gi_wp2
  have HB5:=Lib.hid (set3_below (x:=.bool false) (y:=.slice A3 (toL N3).length c3) (z:=.slice A3' (toL D3).length c3') HB3.out hg5)
  refine stage_post (isSame_below HB5.out (fun k hk=>hk)) ?_
  obtain ⟨z0,z1,z2⟩:=rows3 (set3 (x:=.bool false) (y:=.slice A3 (toL N3).length c3) (z:=.slice A3' (toL D3).length c3') HP3.out)
  clear r0 r1 r2 s0 s1 s2
  refine stage_done (by kernel_rfl) ?_
  gi_wp2
  refine bodyPost_ret (results_tmp rfl _ _ _) rfl ?_
  exact ⟨rfl,HX.out.trans ((below_drew3 HB5.out).mono HX.out.size)⟩
theorem rorderQ_any (p q:Rat) (v v':Value) (w:World) (h:IsQ w v p) (h':IsQ w v' q) (l1:(toL (nm p)).length≤10000) (l2:(toL p.den).length≤10000) (l3:(toL (nm q)).length≤10000) (l4:(toL q.den).length≤10000) :
  Calls Tryz.prog 201 #[v,v'] w fun e w'=>e=.returned (.int .i64 (cmpQ p q))∧Below w.heap.size w w':=by
 have hs:=sgQ_sub p q
 rcases cmpQ_cases p q with hX|hX|hX
 ·rw [hX] at hs ⊢
  exact rord_neg p q v v' w h h' l1 l2 l3 l4 hs
 ·rw [hX] at hs ⊢
  exact rord_zero p q v v' w h h' l1 l2 l3 l4 hs
 ·rw [hX] at hs ⊢
  exact rord_pos p q v v' w h h' l1 l2 l3 l4 hs
theorem refCmp_err1 (a b:ByteArray) (w:World) (ha:a.size≤270000) (_hb:b.size≤270000) (he:errQ a.data.toList≠0) :
  Calls Tryz.prog 119 #[.string a,.string b] w fun e w'=>e=.returned (.tuple #[.int .i64 0,.int .i64 (errQ a.data.toList:Int)])∧Below w.heap.size w w':=by
 have HE:=Lib.hid he
 have hne:((errQ a.data.toList:Int)==0)=false:=by rw [beq_eq_false_iff_ne];omega
 clear he
 go_enter Tryz.func119,Tryz.ntmps119
 go_wp2_with (go_at_call 152;refine (two_err a b _ ha HE.out).mono ?_;rintro e w1 ⟨v,v',rfl,hs,hs',hb⟩;obtain ⟨q0,q1,q2,q3,q4,q5,q6,rfl⟩:=hs;obtain ⟨p0,p1,p2,p3,p4,p5,p6,rfl⟩:=hs';have HB:=Lib.hid hb;clear hb)
 refine bodyPost_ret (results_tmp2 rfl _ _ _) rfl ?_
 exact ⟨rfl,below_alloc (below_alloc HB.out _) _⟩
theorem refCmp_err2B (a b:ByteArray) (w:World) (ha:a.size≤270000) (hb:b.size≤9223372036854775807) (he:errQ a.data.toList=0) (he2:errQ b.data.toList≠0) :
  Calls Tryz.prog 119 #[.string a,.string b] w fun e w'=>e=.returned (.tuple #[.int .i64 0,.int .i64 (errQ b.data.toList:Int)])∧Below w.heap.size w w':=by
 have HE:=Lib.hid he
 have HE2:=Lib.hid he2
 have hne:((errQ b.data.toList:Int)==0)=false:=by rw [beq_eq_false_iff_ne];omega
 clear he2
 clear he
 go_enter Tryz.func119,Tryz.ntmps119
 go_wp2_with (go_at_call 152;refine (two_err2B a b _ ha hb HE.out HE2.out).mono ?_;rintro e w1 ⟨v,v',rfl,hs,hs',hb⟩;obtain ⟨q0,q1,q2,q3,q4,q5,q6,rfl⟩:=hs;obtain ⟨p0,p1,p2,p3,p4,p5,p6,rfl⟩:=hs';have HB:=Lib.hid hb;clear hb)
 refine bodyPost_ret (results_tmp2 rfl _ _ _) rfl ?_
 exact ⟨rfl,below_alloc (below_alloc HB.out _) _⟩
theorem refCmp_err2 (a b:ByteArray) (w:World) (ha:a.size≤270000) (hb:b.size≤270000) (he:errQ a.data.toList=0) (he2:errQ b.data.toList≠0) :
  Calls Tryz.prog 119 #[.string a,.string b] w fun e w'=>e=.returned (.tuple #[.int .i64 0,.int .i64 (errQ b.data.toList:Int)])∧Below w.heap.size w w':=refCmp_err2B a b w ha (by omega) he he2
theorem refCmp_ok (a b:ByteArray) (w:World) (ha:a.size≤270000) (hb:b.size≤270000) (he:errQ a.data.toList=0) (he2:errQ b.data.toList=0) :
  Calls Tryz.prog 119 #[.string a,.string b] w fun e w'=>e=.returned (.tuple #[.int .i64 (cmpQ (valQ a.data.toList) (valQ b.data.toList)),.int .i64 0])∧Below w.heap.size w w':=by
 have HT:=Lib.hid (fun w=>two_ok a b w ha hb he he2)
 have sp:=sz_max he
 have sq:=sz_max he2
 generalize valQ a.data.toList=p at *
 generalize valQ b.data.toList=q at *
 obtain ⟨lp,lp'⟩:=sz_limbs sp
 obtain ⟨lq,lq'⟩:=sz_limbs sq
 clear he he2
 have HO:=Lib.hid (fun v v' w h h'=>rorderQ_any p q v v' w h h' (by omega) (by omega) (by omega) (by omega))
 generalize cmpQ p q=r at HO ⊢
 clear sp sq
 go_enter Tryz.func119,Tryz.ntmps119
 go_wp2_with (first
  | (go_at_call 152;refine (HT.out _).mono ?_;rintro e w1 ⟨v,v',rfl,hv,hv',hb⟩;obtain ⟨bp,N,D,A,c,A',c',rfl,hn,hd,HP⟩:=isQ_open hv;obtain ⟨bq,N',D',B,d,B',d',rfl,hn',hd',HQ⟩:=isQ_open hv';have HV:=Lib.hid hv;have HV':=Lib.hid hv';have HB:=Lib.hid hb;have HX:=Lib.hid (below_alloc (below_alloc (Below.refl w1.heap.size w1) (.cells #[.bool bp,.slice A (toL N).length c,.slice A' (toL D).length c'] 170)) (.cells #[.bool bq,.slice B (toL N').length d,.slice B' (toL D').length d'] 170));have HBX:=Lib.hid (HB.out.trans (HX.out.mono HB.out.size));clear hb hv hv' hn hd hn' hd')
  | (go_at_call 201;refine (HO.out _ _ _ (HV.out.below HX.out) (HV'.out.below HX.out)).mono ?_;rintro e w2 ⟨rfl,hb2⟩;have HB2:=Lib.hid (HBX.out.trans (hb2.mono HBX.out.size));clear hb2))
 refine bodyPost_ret (results_tmp2 rfl _ _ _) rfl ?_
 exact ⟨rfl,HB2.out⟩
theorem refCmp_any (a b:ByteArray) (w:World) (ha:a.size≤270000) (hb:b.size≤270000) :
  Calls Tryz.prog 119 #[.string a,.string b] w fun e w'=>e=.returned (resI (twoI (fun p q=>(cmpQ p q,0)) a.data.toList b.data.toList))∧Below w.heap.size w w':=by
 unfold twoI
 by_cases he:errQ a.data.toList=0
 ·rw [if_neg (by omega)]
  by_cases he2:errQ b.data.toList=0
  ·rw [if_neg (by omega)]
   exact refCmp_ok a b w ha hb he he2
  ·rw [if_pos he2]
   exact refCmp_err2 a b w ha hb he he2
 ·rw [if_pos he]
  exact refCmp_err1 a b w ha hb he
end Go.Proofs.YtigapglmipmbeaaGreatDoor
namespace Go.Proofs.YtigapglmipmbeaaGreatDoor
open Go.RowKit Go.Shelf
open Lim
end Go.Proofs.YtigapglmipmbeaaGreatDoor
