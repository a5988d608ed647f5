/- The reference: two, Order. The reference's Write. The reference's Write of a rational number, two, Order (printed by mkrwq.py). -/
import Derived.Test.YtigapglmipmbeaaGreatDoorLwMomentPure11
import Derived.Test.YtigapglmipmbeaaGreatDoorLwMomentPure10
import Derived.Test.YtigapglmipmbeaaGreatDoorLwMomentPure07
set_option maxRecDepth 100000
set_option maxHeartbeats 16000000
namespace Go.Proofs.YtigapglmipmbeaaGreatDoor
open Go.RowKit Go.Shelf
open Lim
attribute [local go_sem] Oper.semAt_some
theorem results_qqt {fn:Func} {p q u:Tmp} {ty ty':TypeId} (h:fn.results=#[.cell p ty,.cell q ty',.tmp u]) (tmps:Array Value) (P:Program) (w:World) :
  (results fn tmps).run P w =
   ((asAddr (tmps.getD p undef)).run P w).andThen fun a w₁=>((loadVar ty a).run P w₁).andThen fun v w₂=>((asAddr (tmps.getD q undef)).run P w₂).andThen fun a' w₃=>((loadVar ty' a').run P w₃).andThen fun v' w₄=>.ok (.tuple #[v,v',tmps.getD u undef]) w₄:=by
 simp only [results,h]
 simp [Sem.run_bind,Result.andThen]
theorem ret_qqt {fn:Func} {p q u:Tmp} {R:Ending→World→Prop} {a:Act} {w:World} {g g':Nat} {t t':TypeId} {m vn vd m' vn' vd':Value} (h:fn.results=#[.cell p 170,.cell q 170,.tmp u]) (hd:a.defers=[]) (hp:a.tmps.getD p undef=.pointer (some ⟨g,0,none⟩)) (hq:a.tmps.getD q undef=.pointer (some ⟨g',0,none⟩))
  (hg:Blk w g t #[m,vn,vd]) (hg':Blk w g' t' #[m',vn',vd']) (hR:R (.returned (.tuple #[.agg #[m,vn,vd],.agg #[m',vn',vd'],a.tmps.getD u undef])) w):bodyPost Tryz.prog fn R .ret a w:=by
 refine bodyPost_ret ?_ hd hR
 rw [results_qqt h,hp]
 simp only [asAddr,Sem.run_pure,Result.andThen_ok]
 rw [run_loadVar_row w g t 170 #[m,vn,vd] (0,0) _ hg Tryz.underlying170 rfl qsize]
 simp only [Result.andThen_ok,hq,Sem.run_pure]
 rw [run_loadVar_row w g' t' 170 #[m',vn',vd'] (0,0) _ hg' Tryz.underlying170 rfl qsize]
 rfl
def Qsh (v:Value):Prop:=∃ (b:Bool) (A A':Option Addr) (l c l' c':Nat),v=.agg #[.bool b,.slice A l c,.slice A' l' c']
theorem two_res (w:World):Blk ((w.alloc zQ).alloc zQ) w.heap.size 170 #[.bool false,.slice none 0 0,.slice none 0 0]∧Blk ((w.alloc zQ).alloc zQ) (w.heap.size+1) 170 #[.bool false,.slice none 0 0,.slice none 0 0] ∧
  Below w.heap.size w ((w.alloc zQ).alloc zQ)∧((w.alloc zQ).alloc zQ).heap.size=w.heap.size+2:=by
 refine ⟨(zq_new w).alloc _,?_,below_alloc (below_alloc (Below.refl _ _) _) _,by simp⟩
 have:=zq_new (w.alloc zQ)
 rwa [World.size_alloc] at this
theorem cells6Q {w:World} {g:Nat} {m:Bool} {A A':Option Addr} {l c l' c':Nat} (h:Blk w g 170 #[.bool m,.slice A l c,.slice A' l' c']):(w.cell? ⟨g,0,none⟩=some (.bool m)∧w.frozen? ⟨g,0,none⟩=false)∧(w.cell? ⟨g,1,none⟩=some (.slice A l c)∧w.frozen? ⟨g,1,none⟩=false)∧(w.cell? ⟨g,2,none⟩=some (.slice A' l' c')∧w.frozen? ⟨g,2,none⟩=false) :=
 ⟨cellrow h 0 (by simp),cellrow h 1 (by simp),cellrow h 2 (by simp)⟩
theorem two_set {W:World} {g4 g5 n:Nat} {w:World} {t t':TypeId} {m vn vd x y z:Value} {cs:Array Value} (h4:Blk W g4 t #[m,vn,vd]) (h5:Blk W g5 t' cs) (hne:g5≠g4) (hb:Below n w W) (hn:n≤g4) :
  Blk (((W.setCell ⟨g4,0,none⟩ x).setCell ⟨g4,1,none⟩ y).setCell ⟨g4,2,none⟩ z).drew g4 t #[x,y,z]∧Blk (((W.setCell ⟨g4,0,none⟩ x).setCell ⟨g4,1,none⟩ y).setCell ⟨g4,2,none⟩ z).drew g5 t' cs ∧
  Below n w (((W.setCell ⟨g4,0,none⟩ x).setCell ⟨g4,1,none⟩ y).setCell ⟨g4,2,none⟩ z).drew∧∀ k,k≠g4→(((W.setCell ⟨g4,0,none⟩ x).setCell ⟨g4,1,none⟩ y).setCell ⟨g4,2,none⟩ z).drew.heap[k]?=W.heap[k]? :=
 ⟨set3 h4,((h5.far (p:=⟨g4,0,none⟩) hne _).far (p:=⟨g4,1,none⟩) hne _).far (p:=⟨g4,2,none⟩) hne _,below_drew (set3_below hb hn),fun k hk=>set3_heap k hk⟩
theorem two_set2 {W:World} {g4 g5 n:Nat} {w:World} {t t':TypeId} {m vn vd x y z:Value} {cs:Array Value} (h4:Blk W g4 t #[m,vn,vd]) (h5:Blk W g5 t' cs) (hne:g5≠g4) (hb:Below n w W) (hn:n≤g4) :
  Blk (((W.setCell ⟨g4,0,none⟩ x).setCell ⟨g4,1,none⟩ y).setCell ⟨g4,2,none⟩ z) g4 t #[x,y,z]∧Blk (((W.setCell ⟨g4,0,none⟩ x).setCell ⟨g4,1,none⟩ y).setCell ⟨g4,2,none⟩ z) g5 t' cs ∧
  Below n w (((W.setCell ⟨g4,0,none⟩ x).setCell ⟨g4,1,none⟩ y).setCell ⟨g4,2,none⟩ z)∧∀ k,k≠g4→(((W.setCell ⟨g4,0,none⟩ x).setCell ⟨g4,1,none⟩ y).setCell ⟨g4,2,none⟩ z).heap[k]?=W.heap[k]? :=
 ⟨set3 h4,((h5.far (p:=⟨g4,0,none⟩) hne _).far (p:=⟨g4,1,none⟩) hne _).far (p:=⟨g4,2,none⟩) hne _,set3_below hb hn,fun k hk=>set3_heap k hk⟩
theorem two_err (a b:ByteArray) (w:World) (ha:a.size≤270000) (he:errQ a.data.toList≠0) :
  Calls Tryz.prog 152 #[.string a,.string b] w fun e w'=>∃ v v',e=.returned (.tuple #[v,v',.int .i64 (errQ a.data.toList:Int)])∧Qsh v∧Qsh v'∧Below w.heap.size w w':=by
 have HP:=Lib.hid (fun w=>rq_any a w ha)
 have hne:((errQ a.data.toList:Int)==0)=false:=by rw [beq_eq_false_iff_ne];omega
 have HE:=Lib.hid he
 clear he
 refine (callsIn_wide (n:=3)).1 ?_
 have h1:1≤3:=by omega
 have hmx:Tryz.prog.follows .mixedOrders=true:=by kernel_rfl
 refine callsIn_of_wp Tryz.func152 rfl trivial ?_ rfl
 simp only [Tryz.ntmps152,List.size_toArray,List.length_cons,List.length_nil,Nat.reduceAdd,Nat.reduceSub,Array.replicate_succ,Array.replicate_zero,List.push_toArray,List.append_toArray,List.nil_append,List.cons_append]
 gi_upto_region 3 with fail
 obtain ⟨c4,c5,hB0,hs0⟩:=two_res w
 generalize (w.alloc zQ).alloc zQ=W0 at *
 refine ⟨trivial,?_⟩
 refine (callsIn_wide.2 (HP.out _)).mono ?_
 rintro e w1 ⟨v,rfl,-,hz,hb⟩
 obtain rfl:=hz HE.out
 have d4:=(c4.below hb (by omega)).alloc zQ
 have d5:=(c5.below hb (by omega)).alloc zQ
 have d7:=zq_new w1
 have hB1:Below w.heap.size w (w1.alloc zQ):=(hB0.trans (hb.mono (by omega))).alloc (by have:=hb.size;omega) _
 have hs1:=hb.size
 clear hb hB0 c4 c5 hz
 gi_upto_region 3 with fail
 have hs1:W0.heap.size≤w1.heap.size:=hs1
 have hs2:W0.heap.size < (w1.alloc zQ).heap.size:=by simp;omega
 have hs3:w1.heap.size < (w1.alloc zQ).heap.size:=by simp
 generalize w1.heap.size=g7 at *
 generalize w1.alloc zQ=W at *
 have hz0:w.heap.size+2≤W0.heap.size:=by omega
 clear hs0
 obtain ⟨x0,x1,x2⟩:=same_cells (S:=fun k=>k < W.heap.size∧k≠w.heap.size∧k≠w.heap.size+1) d7 ⟨by omega,by omega,by omega⟩
 obtain ⟨⟨r0,s0⟩,⟨r1,s1⟩,r2,s2⟩:=cells6Q d4
 obtain ⟨⟨t0,u0⟩,⟨t1,u1⟩,t2,u2⟩:=cells6Q d5
 have HW:=Lib.hid (two_set (x:=.bool false) (y:=.slice none 0 0) (z:=.slice none 0 0) d4 d5 (by omega) hB1 (Nat.le_refl _))
 clear d4 d5 d7 hB1 t0 t1 t2 u0 u1 u2
 refine wpIn_stage (IsSame W (fun k=>k < W.heap.size∧k≠w.heap.size∧k≠w.heap.size+1)) [0,1,2] [] hmx (by kernel_rfl) (isSame_of fun _ _=>rfl) ?_
 change wpStage _ _ _ _ _ _ _ _ (3+3) _ _ _
 refine stage_reads [0,1,2] 3 _ _ (by kernel_rfl) ?_
 change wpQuietIn _ _ _ _ (fun W'=>∃ x:SameAt W (fun k=>k < W.heap.size∧k≠w.heap.size∧k≠w.heap.size+1),W'=x.W) _ _ _
 simp only [pick_cons,pick_nil,List.getElem?_cons_zero,List.getElem?_cons_succ,Option.elim_some]
 repeat (gi_big_quiet_step (fail))
 refine wpQuietIn_nil ?_
 refine stage_one 3 (by kernel_rfl) rfl ?_
 gi_wp2
 refine stage_post (isSame_of fun k hk=>set3_heap k hk.2.1) ?_
 obtain ⟨d4,d5,hB1,hsm⟩:=HW.out
 clear HW r0 r1 r2 s0 s1 s2
 generalize (((W.setCell ⟨w.heap.size,0,none⟩ (.bool false)).setCell ⟨w.heap.size,1,none⟩ (.slice none 0 0)).setCell ⟨w.heap.size,2,none⟩ (.slice none 0 0)).drew=W3 at *
 obtain ⟨⟨t0,u0⟩,⟨t1,u1⟩,t2,u2⟩:=cells6Q d5
 have HW:=Lib.hid (two_set2 (x:=.bool false) (y:=.slice none 0 0) (z:=.slice none 0 0) d5 d4 (by omega) hB1 (Nat.le_succ _))
 have HSM:=Lib.hid hsm
 clear d4 d5 hB1 hsm
 refine stage_one 4 (by kernel_rfl) rfl ?_
 gi_wp2
 refine stage_post (isSame_of fun k hk=>(set3_heap k hk.2.2).trans (HSM.out k hk.2.1)) ?_
 obtain ⟨d5,d4,hB1,hsm⟩:=HW.out
 clear HW t0 t1 t2 u0 u1 u2
 generalize (((W3.setCell ⟨w.heap.size+1,0,none⟩ (.bool false)).setCell ⟨w.heap.size+1,1,none⟩ (.slice none 0 0)).setCell ⟨w.heap.size+1,2,none⟩ (.slice none 0 0))=W5 at *
 have HD4:=Lib.hid d4
 have HD5:=Lib.hid d5
 have HB5:=Lib.hid hB1
 have HSM5:=Lib.hid hsm
 clear d4 d5 hB1 hsm
 refine stage_one 5 (by kernel_rfl) rfl ?_
 gi_wp2
 refine stage_post (isSame_of fun k hk=>(HSM5.out k hk.2.2).trans (HSM.out k hk.2.1)) ?_
 refine stage_done (by kernel_rfl) ?_
 gi_wp2
 refine ret_qqt (g:=w.heap.size) (g':=w.heap.size+1) rfl rfl (by simp) (by simp) HD4.out HD5.out ?_
 exact ⟨_,_,rfl,⟨_,_,_,_,_,_,_,rfl⟩,⟨_,_,_,_,_,_,_,rfl⟩,HB5.out⟩
theorem two_err2B (a b:ByteArray) (w:World) (ha:a.size≤270000) (hb:b.size≤9223372036854775807) (he:errQ a.data.toList=0) (he2:errQ b.data.toList≠0) :
  Calls Tryz.prog 152 #[.string a,.string b] w fun e w'=>∃ v v',e=.returned (.tuple #[v,v',.int .i64 (errQ b.data.toList:Int)])∧Qsh v∧Qsh v'∧Below w.heap.size w w':=by
 have HP:=Lib.hid (fun w=>rq_any a w ha)
 have HP2:=Lib.hid (fun w=>rq_anyB b w hb)
 have hne:((errQ a.data.toList:Int)==0)=true:=by rw [he];rfl
 have HE:=Lib.hid he
 have HE2:=Lib.hid he2
 clear he he2 hb
 refine (callsIn_wide (n:=3)).1 ?_
 have h1:1≤3:=by omega
 have hmx:Tryz.prog.follows .mixedOrders=true:=by kernel_rfl
 refine callsIn_of_wp Tryz.func152 rfl trivial ?_ rfl
 simp only [Tryz.ntmps152,List.size_toArray,List.length_cons,List.length_nil,Nat.reduceAdd,Nat.reduceSub,Array.replicate_succ,Array.replicate_zero,List.push_toArray,List.append_toArray,List.nil_append,List.cons_append]
 gi_upto_region 3 with fail
 obtain ⟨c4,c5,hB0,hs0⟩:=two_res w
 generalize (w.alloc zQ).alloc zQ=W0 at *
 refine ⟨trivial,?_⟩
 refine (callsIn_wide.2 (HP.out _)).mono ?_
 rintro e w1 ⟨v,rfl,hv,-,hb1⟩
 obtain ⟨bq,N,D,A,c,A',c',rfl,hn,hd,HQ⟩:=isQ_open (hv HE.out)
 have d4:=(c4.below hb1 (by omega)).alloc (.cells #[.bool bq,.slice A (toL N).length c,.slice A' (toL D).length c'] 170)
 have d5:=(c5.below hb1 (by omega)).alloc (.cells #[.bool bq,.slice A (toL N).length c,.slice A' (toL D).length c'] 170)
 have d7:=Blk.new w1 170 #[.bool bq,.slice A (toL N).length c,.slice A' (toL D).length c']
 have hB1:Below w.heap.size w (w1.alloc (.cells #[.bool bq,.slice A (toL N).length c,.slice A' (toL D).length c'] 170)):=(hB0.trans (hb1.mono (by omega))).alloc (by have:=hb1.size;omega) _
 have HNN:=Lib.hid (hn.below (below_alloc (Below.refl _ _) (.cells #[.bool bq,.slice A (toL N).length c,.slice A' (toL D).length c'] 170)))
 have HDD:=Lib.hid (hd.below (below_alloc (Below.refl _ _) (.cells #[.bool bq,.slice A (toL N).length c,.slice A' (toL D).length c'] 170)))
 have hs1:=hb1.size
 clear hb1 hB0 c4 c5 hv hn hd
 gi_upto_region 5 with fail
 have hs2:W0.heap.size < (w1.alloc (.cells #[.bool bq,.slice A (toL N).length c,.slice A' (toL D).length c'] 170)).heap.size:=by simp;omega
 have hs3:w1.heap.size < (w1.alloc (.cells #[.bool bq,.slice A (toL N).length c,.slice A' (toL D).length c'] 170)).heap.size:=by simp
 have hz0:w.heap.size+2≤W0.heap.size:=by omega
 clear hs0
 generalize w1.heap.size=g7 at *
 generalize w1.alloc (.cells #[.bool bq,.slice A (toL N).length c,.slice A' (toL D).length c'] 170)=W1 at *
 refine ⟨trivial,?_⟩
 refine (callsIn_wide.2 (HP2.out W1)).mono ?_
 rintro e w2 ⟨v2,rfl,-,hz2,hb2⟩
 obtain rfl:=hz2 HE2.out
 have d4:=(d4.below hb2 (by omega)).alloc (.cells #[.bool false,.slice none 0 0,.slice none 0 0] 170)
 have d5:=(d5.below hb2 (by omega)).alloc (.cells #[.bool false,.slice none 0 0,.slice none 0 0] 170)
 have d7:=(d7.below hb2 (by omega)).alloc (.cells #[.bool false,.slice none 0 0,.slice none 0 0] 170)
 have d9:=Blk.new w2 170 #[.bool false,.slice none 0 0,.slice none 0 0]
 have hB2:Below w.heap.size w (w2.alloc (.cells #[.bool false,.slice none 0 0,.slice none 0 0] 170)):=(hB1.trans (hb2.mono (by omega))).alloc (by have:=hb2.size;omega) _
 have hs4:=hb2.size
 clear hb2 hB1 hz2
 gi_upto_region 5 with fail
 have hs5:W1.heap.size < (w2.alloc (.cells #[.bool false,.slice none 0 0,.slice none 0 0] 170)).heap.size:=by simp;omega
 have hs6:w2.heap.size < (w2.alloc (.cells #[.bool false,.slice none 0 0,.slice none 0 0] 170)).heap.size:=by simp
 generalize w2.heap.size=g9 at *
 generalize w2.alloc (.cells #[.bool false,.slice none 0 0,.slice none 0 0] 170)=W at *
 obtain ⟨p0,p1,p2⟩:=same_cells (S:=fun k=>k < W.heap.size∧k≠w.heap.size∧k≠w.heap.size+1) d9 ⟨by omega,by omega,by omega⟩
 obtain ⟨x0,x1,x2⟩:=same_cells (S:=fun k=>k < W.heap.size∧k≠w.heap.size∧k≠w.heap.size+1) d7 ⟨by omega,by omega,by omega⟩
 obtain ⟨⟨r0,s0⟩,⟨r1,s1⟩,r2,s2⟩:=cells6Q d4
 obtain ⟨⟨t0,u0⟩,⟨t1,u1⟩,t2,u2⟩:=cells6Q d5
 have HW:=Lib.hid (two_set (x:=.bool bq) (y:=.slice A (toL N).length c) (z:=.slice A' (toL D).length c') d4 d5 (by omega) hB2 (Nat.le_refl _))
 clear d4 d5 d7 d9 hB2 t0 t1 t2 u0 u1 u2
 refine wpIn_stage (IsSame W (fun k=>k < W.heap.size∧k≠w.heap.size∧k≠w.heap.size+1)) [0,1,2] [] hmx (by kernel_rfl) (isSame_of fun _ _=>rfl) ?_
 change wpStage _ _ _ _ _ _ _ _ (3+3) _ _ _
 refine stage_reads [0,1,2] 3 _ _ (by kernel_rfl) ?_
 change wpQuietIn _ _ _ _ (fun W'=>∃ x:SameAt W (fun k=>k < W.heap.size∧k≠w.heap.size∧k≠w.heap.size+1),W'=x.W) _ _ _
 simp only [pick_cons,pick_nil,List.getElem?_cons_zero,List.getElem?_cons_succ,Option.elim_some]
 repeat (gi_big_quiet_step (fail))
 refine wpQuietIn_nil ?_
 refine stage_one 3 (by kernel_rfl) rfl ?_
 gi_wp2
 refine stage_post (isSame_of fun k hk=>set3_heap k hk.2.1) ?_
 obtain ⟨d4,d5,hB1,hsm⟩:=HW.out
 clear HW r0 r1 r2 s0 s1 s2
 generalize (((W.setCell ⟨w.heap.size,0,none⟩ (.bool bq)).setCell ⟨w.heap.size,1,none⟩ (.slice A (toL N).length c)).setCell ⟨w.heap.size,2,none⟩ (.slice A' (toL D).length c')).drew=W3 at *
 obtain ⟨⟨t0,u0⟩,⟨t1,u1⟩,t2,u2⟩:=cells6Q d5
 have HW:=Lib.hid (two_set2 (x:=.bool false) (y:=.slice none 0 0) (z:=.slice none 0 0) d5 d4 (by omega) hB1 (Nat.le_succ _))
 have HSM:=Lib.hid hsm
 clear d4 d5 hB1 hsm
 refine stage_one 4 (by kernel_rfl) rfl ?_
 gi_wp2
 refine stage_post (isSame_of fun k hk=>(set3_heap k hk.2.2).trans (HSM.out k hk.2.1)) ?_
 obtain ⟨d5,d4,hB1,hsm⟩:=HW.out
 clear HW t0 t1 t2 u0 u1 u2
 generalize (((W3.setCell ⟨w.heap.size+1,0,none⟩ (.bool false)).setCell ⟨w.heap.size+1,1,none⟩ (.slice none 0 0)).setCell ⟨w.heap.size+1,2,none⟩ (.slice none 0 0))=W5 at *
 have HD4:=Lib.hid d4
 have HD5:=Lib.hid d5
 have HB5:=Lib.hid hB1
 have HSM5:=Lib.hid hsm
 clear d4 d5 hB1 hsm
 refine stage_one 5 (by kernel_rfl) rfl ?_
 gi_wp2
 refine stage_post (isSame_of fun k hk=>(HSM5.out k hk.2.2).trans (HSM.out k hk.2.1)) ?_
 refine stage_done (by kernel_rfl) ?_
 gi_wp2
 refine ret_qqt (g:=w.heap.size) (g':=w.heap.size+1) rfl rfl (by simp) (by simp) HD4.out HD5.out ?_
 exact ⟨_,_,rfl,⟨_,_,_,_,_,_,_,rfl⟩,⟨_,_,_,_,_,_,_,rfl⟩,HB5.out⟩
theorem two_err2 (a b:ByteArray) (w:World) (ha:a.size≤270000) (hb:b.size≤270000) (he:errQ a.data.toList=0) (he2:errQ b.data.toList≠0) :
  Calls Tryz.prog 152 #[.string a,.string b] w fun e w'=>∃ v v',e=.returned (.tuple #[v,v',.int .i64 (errQ b.data.toList:Int)])∧Qsh v∧Qsh v'∧Below w.heap.size w w':=two_err2B a b w ha (by omega) he he2
theorem two_ok (a b:ByteArray) (w:World) (ha:a.size≤270000) (hb:b.size≤270000) (he:errQ a.data.toList=0) (he2:errQ b.data.toList=0) :
  Calls Tryz.prog 152 #[.string a,.string b] w fun e w'=>∃ v v',e=.returned (.tuple #[v,v',.int .i64 (0:Int)])∧IsQ w' v (valQ a.data.toList)∧IsQ w' v' (valQ b.data.toList)∧Below w.heap.size w w':=by
 have HP:=Lib.hid (fun w=>rq_any a w ha)
 have HP2:=Lib.hid (fun w=>rq_any b w hb)
 have hne:((errQ a.data.toList:Int)==0)=true:=by rw [he];rfl
 have HE:=Lib.hid he
 have HE2:=Lib.hid he2
 rw [he2] at HP2
 clear he he2 hb
 refine (callsIn_wide (n:=3)).1 ?_
 have h1:1≤3:=by omega
 have hmx:Tryz.prog.follows .mixedOrders=true:=by kernel_rfl
 refine callsIn_of_wp Tryz.func152 rfl trivial ?_ rfl
 simp only [Tryz.ntmps152,List.size_toArray,List.length_cons,List.length_nil,Nat.reduceAdd,Nat.reduceSub,Array.replicate_succ,Array.replicate_zero,List.push_toArray,List.append_toArray,List.nil_append,List.cons_append]
 gi_upto_region 3 with fail
 obtain ⟨c4,c5,hB0,hs0⟩:=two_res w
 generalize (w.alloc zQ).alloc zQ=W0 at *
 refine ⟨trivial,?_⟩
 refine (callsIn_wide.2 (HP.out _)).mono ?_
 rintro e w1 ⟨v,rfl,hv,-,hb1⟩
 obtain ⟨bq,N,D,A,c,A',c',rfl,hn,hd,HQ⟩:=isQ_open (hv HE.out)
 have d4:=(c4.below hb1 (by omega)).alloc (.cells #[.bool bq,.slice A (toL N).length c,.slice A' (toL D).length c'] 170)
 have d5:=(c5.below hb1 (by omega)).alloc (.cells #[.bool bq,.slice A (toL N).length c,.slice A' (toL D).length c'] 170)
 have d7:=Blk.new w1 170 #[.bool bq,.slice A (toL N).length c,.slice A' (toL D).length c']
 have hB1:Below w.heap.size w (w1.alloc (.cells #[.bool bq,.slice A (toL N).length c,.slice A' (toL D).length c'] 170)):=(hB0.trans (hb1.mono (by omega))).alloc (by have:=hb1.size;omega) _
 have HNN:=Lib.hid (hn.below (below_alloc (Below.refl _ _) (.cells #[.bool bq,.slice A (toL N).length c,.slice A' (toL D).length c'] 170)))
 have HDD:=Lib.hid (hd.below (below_alloc (Below.refl _ _) (.cells #[.bool bq,.slice A (toL N).length c,.slice A' (toL D).length c'] 170)))
 have hs1:=hb1.size
 clear hb1 hB0 c4 c5 hv hn hd
 gi_upto_region 5 with fail
 have hs2:W0.heap.size < (w1.alloc (.cells #[.bool bq,.slice A (toL N).length c,.slice A' (toL D).length c'] 170)).heap.size:=by simp;omega
 have hs3:w1.heap.size < (w1.alloc (.cells #[.bool bq,.slice A (toL N).length c,.slice A' (toL D).length c'] 170)).heap.size:=by simp
 have hz0:w.heap.size+2≤W0.heap.size:=by omega
 clear hs0
 generalize w1.heap.size=g7 at *
 generalize w1.alloc (.cells #[.bool bq,.slice A (toL N).length c,.slice A' (toL D).length c'] 170)=W1 at *
 refine ⟨trivial,?_⟩
 refine (callsIn_wide.2 (HP2.out W1)).mono ?_
 rintro e w2 ⟨v2,rfl,hv2,-,hb2⟩
 obtain ⟨bq2,N2,D2,B,d,B',d',rfl,hn2,hd2,HQ2⟩:=isQ_open (hv2 trivial)
 have d4:=(d4.below hb2 (by omega)).alloc (.cells #[.bool bq2,.slice B (toL N2).length d,.slice B' (toL D2).length d'] 170)
 have d5:=(d5.below hb2 (by omega)).alloc (.cells #[.bool bq2,.slice B (toL N2).length d,.slice B' (toL D2).length d'] 170)
 have d7:=(d7.below hb2 (by omega)).alloc (.cells #[.bool bq2,.slice B (toL N2).length d,.slice B' (toL D2).length d'] 170)
 have d9:=Blk.new w2 170 #[.bool bq2,.slice B (toL N2).length d,.slice B' (toL D2).length d']
 have hB2:Below w.heap.size w (w2.alloc (.cells #[.bool bq2,.slice B (toL N2).length d,.slice B' (toL D2).length d'] 170)):=(hB1.trans (hb2.mono (by omega))).alloc (by have:=hb2.size;omega) _
 have HNN:=Lib.hid ((HNN.out.below hb2).below (below_alloc (Below.refl _ _) (.cells #[.bool bq2,.slice B (toL N2).length d,.slice B' (toL D2).length d'] 170)))
 have HDD:=Lib.hid ((HDD.out.below hb2).below (below_alloc (Below.refl _ _) (.cells #[.bool bq2,.slice B (toL N2).length d,.slice B' (toL D2).length d'] 170)))
 have HNN2:=Lib.hid (hn2.below (below_alloc (Below.refl _ _) (.cells #[.bool bq2,.slice B (toL N2).length d,.slice B' (toL D2).length d'] 170)))
 have HDD2:=Lib.hid (hd2.below (below_alloc (Below.refl _ _) (.cells #[.bool bq2,.slice B (toL N2).length d,.slice B' (toL D2).length d'] 170)))
 have hs4:=hb2.size
 clear hb2 hB1 hv2 hn2 hd2
 gi_upto_region 5 with fail
 have hs5:W1.heap.size < (w2.alloc (.cells #[.bool bq2,.slice B (toL N2).length d,.slice B' (toL D2).length d'] 170)).heap.size:=by simp;omega
 have hs6:w2.heap.size < (w2.alloc (.cells #[.bool bq2,.slice B (toL N2).length d,.slice B' (toL D2).length d'] 170)).heap.size:=by simp
 generalize w2.heap.size=g9 at *
 generalize w2.alloc (.cells #[.bool bq2,.slice B (toL N2).length d,.slice B' (toL D2).length d'] 170)=W at *
 obtain ⟨p0,p1,p2⟩:=same_cells (S:=fun k=>k < W.heap.size∧k≠w.heap.size∧k≠w.heap.size+1) d9 ⟨by omega,by omega,by omega⟩
 obtain ⟨x0,x1,x2⟩:=same_cells (S:=fun k=>k < W.heap.size∧k≠w.heap.size∧k≠w.heap.size+1) d7 ⟨by omega,by omega,by omega⟩
 obtain ⟨⟨r0,s0⟩,⟨r1,s1⟩,r2,s2⟩:=cells6Q d4
 obtain ⟨⟨t0,u0⟩,⟨t1,u1⟩,t2,u2⟩:=cells6Q d5
 have HW:=Lib.hid (two_set (x:=.bool bq) (y:=.slice A (toL N).length c) (z:=.slice A' (toL D).length c') d4 d5 (by omega) hB2 (Nat.le_refl _))
 have HK4:=Lib.hid d4
 clear d4 d5 d7 d9 hB2 t0 t1 t2 u0 u1 u2
 refine wpIn_stage (IsSame W (fun k=>k < W.heap.size∧k≠w.heap.size∧k≠w.heap.size+1)) [0,1,2] [] hmx (by kernel_rfl) (isSame_of fun _ _=>rfl) ?_
 change wpStage _ _ _ _ _ _ _ _ (3+3) _ _ _
 refine stage_reads [0,1,2] 3 _ _ (by kernel_rfl) ?_
 change wpQuietIn _ _ _ _ (fun W'=>∃ x:SameAt W (fun k=>k < W.heap.size∧k≠w.heap.size∧k≠w.heap.size+1),W'=x.W) _ _ _
 simp only [pick_cons,pick_nil,List.getElem?_cons_zero,List.getElem?_cons_succ,Option.elim_some]
 repeat (gi_big_quiet_step (fail))
 refine wpQuietIn_nil ?_
 refine stage_one 3 (by kernel_rfl) rfl ?_
 gi_wp2
 refine stage_post (isSame_of fun k hk=>set3_heap k hk.2.1) ?_
 obtain ⟨d4,d5,hB1,hsm⟩:=HW.out
 have HNN:=Lib.hid (show IsNatI (((W.setCell ⟨w.heap.size,0,none⟩ (.bool bq)).setCell ⟨w.heap.size,1,none⟩ (.slice A (toL N).length c)).setCell ⟨w.heap.size,2,none⟩ (.slice A' (toL D).length c')).drew _ N from isNatI_set3 HNN.out HK4.out)
 have HDD:=Lib.hid (show IsNatI (((W.setCell ⟨w.heap.size,0,none⟩ (.bool bq)).setCell ⟨w.heap.size,1,none⟩ (.slice A (toL N).length c)).setCell ⟨w.heap.size,2,none⟩ (.slice A' (toL D).length c')).drew _ D from isNatI_set3 HDD.out HK4.out)
 have HNN2:=Lib.hid (show IsNatI (((W.setCell ⟨w.heap.size,0,none⟩ (.bool bq)).setCell ⟨w.heap.size,1,none⟩ (.slice A (toL N).length c)).setCell ⟨w.heap.size,2,none⟩ (.slice A' (toL D).length c')).drew _ N2 from isNatI_set3 HNN2.out HK4.out)
 have HDD2:=Lib.hid (show IsNatI (((W.setCell ⟨w.heap.size,0,none⟩ (.bool bq)).setCell ⟨w.heap.size,1,none⟩ (.slice A (toL N).length c)).setCell ⟨w.heap.size,2,none⟩ (.slice A' (toL D).length c')).drew _ D2 from isNatI_set3 HDD2.out HK4.out)
 clear HW r0 r1 r2 s0 s1 s2
 generalize (((W.setCell ⟨w.heap.size,0,none⟩ (.bool bq)).setCell ⟨w.heap.size,1,none⟩ (.slice A (toL N).length c)).setCell ⟨w.heap.size,2,none⟩ (.slice A' (toL D).length c')).drew=W3 at *
 obtain ⟨⟨t0,u0⟩,⟨t1,u1⟩,t2,u2⟩:=cells6Q d5
 have HW:=Lib.hid (two_set2 (x:=.bool bq2) (y:=.slice B (toL N2).length d) (z:=.slice B' (toL D2).length d') d5 d4 (by omega) hB1 (Nat.le_succ _))
 have HSM:=Lib.hid hsm
 have HK5:=Lib.hid d5
 clear d4 d5 hB1 hsm
 refine stage_one 4 (by kernel_rfl) rfl ?_
 gi_wp2
 refine stage_post (isSame_of fun k hk=>(set3_heap k hk.2.2).trans (HSM.out k hk.2.1)) ?_
 obtain ⟨d5,d4,hB1,hsm⟩:=HW.out
 have HNN:=Lib.hid (isNatI_set3 (m':=bq2) (D:=B) (D':=B') (a:=(toL N2).length) (b:=d) (a':=(toL D2).length) (b':=d') HNN.out HK5.out)
 have HDD:=Lib.hid (isNatI_set3 (m':=bq2) (D:=B) (D':=B') (a:=(toL N2).length) (b:=d) (a':=(toL D2).length) (b':=d') HDD.out HK5.out)
 have HNN2:=Lib.hid (isNatI_set3 (m':=bq2) (D:=B) (D':=B') (a:=(toL N2).length) (b:=d) (a':=(toL D2).length) (b':=d') HNN2.out HK5.out)
 have HDD2:=Lib.hid (isNatI_set3 (m':=bq2) (D:=B) (D':=B') (a:=(toL N2).length) (b:=d) (a':=(toL D2).length) (b':=d') HDD2.out HK5.out)
 clear HW t0 t1 t2 u0 u1 u2
 generalize (((W3.setCell ⟨w.heap.size+1,0,none⟩ (.bool bq2)).setCell ⟨w.heap.size+1,1,none⟩ (.slice B (toL N2).length d)).setCell ⟨w.heap.size+1,2,none⟩ (.slice B' (toL D2).length d'))=W5 at *
 have HD4:=Lib.hid d4
 have HD5:=Lib.hid d5
 have HB5:=Lib.hid hB1
 have HSM5:=Lib.hid hsm
 clear d4 d5 hB1 hsm
 refine stage_one 5 (by kernel_rfl) rfl ?_
 gi_wp2
 refine stage_post (isSame_of fun k hk=>(HSM5.out k hk.2.2).trans (HSM.out k hk.2.1)) ?_
 refine stage_done (by kernel_rfl) ?_
 gi_wp2
 refine ret_qqt (g:=w.heap.size) (g':=w.heap.size+1) rfl rfl (by simp) (by simp) HD4.out HD5.out ?_
 exact ⟨_,_,rfl,isQ_close HQ (isPartsI_mk HNN.out HDD.out),isQ_close HQ2 (isPartsI_mk HNN2.out HDD2.out),HB5.out⟩
end Go.Proofs.YtigapglmipmbeaaGreatDoor
namespace Go.Proofs.YtigapglmipmbeaaGreatDoor
open Go.RowKit Go.Shelf
open Lim
theorem padk_left (k x:Nat):padk (k+1) x=UInt8.ofNat (48+x / 10 ^ k % 10)::padk k x:=by
 induction k generalizing x with
 | zero=>simp [padk]
 | succ k ih =>
  rw [padk,ih,padk,Nat.div_div_eq_div_mul,Nat.pow_succ,Nat.mul_comm 10]
  rfl
section
variable {w:World} {g:Nat} {t:TypeId} {P S:List Value} {v:Value}
theorem mid_get (h:Blk w g t (P++(v::S)).toArray) {n:Nat} (hn:n=P.length):w.cell? ⟨g,n,none⟩=some v:=by
 subst hn
 rw [h.cell,List.getElem?_toArray,List.getElem?_append_right (Nat.le_refl _),Nat.sub_self]
 rfl
theorem mid_set (h:Blk w g t (P++(v::S)).toArray) {n:Nat} (hn:n=P.length) (v':Value):Blk (w.setCell ⟨g,n,none⟩ v') g t (P++(v'::S)).toArray:=by
 subst hn
 have h2:=h.set_ P.length v'
 rw [List.setIfInBounds_toArray,List.set_append_right _ _ (Nat.le_refl _),Nat.sub_self,List.set_cons_zero] at h2
 exact h2
end
theorem Tryz.infoB:(Tryz.prog.info? 5).map (fun i=>(i.zero,i.size,i.bytes))=some (some (.int .u8 0),1,1):=by kernel_rfl
theorem run_makeB {P:Program} {t e:TypeId} {i:TypeInfo} {z:Value} (ht:P.underlying t=some (.slice e)) (hi:P.info? e=some i) (hz:i.zero=some z) (hsz:i.size=1) (hby:i.bytes=1)
  {n:Nat} (hn:n≤1000000) {C:Int} (hC:C=(n:Int)) (w:World) :
  (Instr.makeSlice t (.int .i64 C) (.int .i64 C)).run P w=.ok (.slice (some ⟨w.heap.size,0,none⟩) n n) (w.alloc (.cells (madeCells z.cells n) e)):=by
 subst hC
 have hb:(i.bytes:Int)*(n:Int)≤281474976710656:=by rw [hby];omega
 have hr:=run_make (P:=P) w t e i z ht hi hz .i64 .i64 n n (by omega) (by omega) hb (by omega)
 simp only [Int.toNat_natCast,hsz,Nat.mul_one] at hr
 exact hr
theorem bytes_zeros (n:Nat):madeCells #[.int .u8 0] n=(Lib.byteCells (List.replicate n 0)).toArray:=by
 apply Array.toList_inj.1
 rw [toList_madeCells_one];simp [Lib.byteCells]
theorem rwrite_any (x:Nat) (vx:Value) (w:World) (hx:IsNatI w vx x) (hlx:(toL x).length≤40000) :
  Calls Tryz.prog 228 #[vx] w fun e w'=>e=.returned (.string ⟨(Lib.decDigits x).toArray⟩)∧Below w.heap.size w w':=by
 obtain ⟨A,c,rfl,hc,hcm,hra⟩:=hx
 by_cases h0:x=0
 ·subst h0
  have hl:(toL 0).length=0:=by rw [toL_zero];rfl
  have hs:(⟨(Lib.decDigits 0).toArray⟩:ByteArray)=⟨#[48]⟩:=by rw [Lib.decDigits_one (by omega)];rfl
  rw [hl,hs]
  clear hl hra hs
  go_enter Tryz.func228,Tryz.ntmps228
  go_wp2
  go_ret
  exact ⟨rfl,Below.refl _ _⟩
 ·have hl:0 < (toL x).length:=toL_len_pos.2 h0
  obtain ⟨i0,hi,hz0,hz1,hz2⟩:=info_parts Tryz.infoB
  have hmk:=fun W=>run_makeB (P:=Tryz.prog) Tryz.underlying123 hi hz0 hz1 hz2 (n:=9*(toL x).length) (by omega) (C:=9*((toL x).length:Int)) (by omega) W
  obtain ⟨b,o,rfl,hb,hcell⟩:=hra (by rw [I64_length];omega)
  have HC:=Lib.hid (fun i (hi:i < (toL x).length)=>hcell i _ (I64_get hi))
  have hne:(((toL x).length:Int)==0)=false:=by rw [beq_eq_false_iff_ne];omega
  have HXS:=Lib.hid (sm_toL x)
  have HDV:=Lib.hid (dv_wrAll_all (n:=x))
  clear hcell hra h0
  go_enter Tryz.func228,Tryz.ntmps228
  go_wp2
  clear hmk
  have hblk0:Blk (w.alloc (.cells (madeCells #[.int .u8 0] (9*(toL x).length)) 5)) w.heap.size 5 (Lib.byteCells (wrAll (toL x) 0++List.replicate (9*((toL x).length - 0)) 0)).toArray:=by
   have:wrAll (toL x) 0++List.replicate (9*((toL x).length - 0)) 0=List.replicate (9*(toL x).length) 0:=rfl
   rw [this,← bytes_zeros];exact Blk.new _ _ _
  have hBB:Below w.heap.size w (w.alloc (.cells (madeCells #[.int .u8 0] (9*(toL x).length)) 5)):=(Below.refl _ _).alloc (Nat.le_refl _) _
  generalize w.alloc (.cells (madeCells #[.int .u8 0] (9*(toL x).length)) 5)=W1 at *
  go_loopw [4] (fun si wr=>∃ i:Nat,i≤(toL x).length∧si=.int .i64 (i:Int)∧Blk wr w.heap.size 5 (Lib.byteCells (wrAll (toL x) i++List.replicate (9*((toL x).length - i)) 0)).toArray∧Below w.heap.size w wr) (fun si _=>(toL x).length - (intOf si).toNat)
  case atStart=>exact ⟨0,Nat.zero_le _,rfl,hblk0,hBB⟩
  case round =>
   obtain ⟨i,hi',rfl,hblk,hB⟩:=hrel
   clear hblk0 hBB
   by_cases hlt:i < (toL x).length
   ·have hcx:=(hB.cell (p:=⟨b,o+((toL x).length - 1 - i),none⟩) hb).trans (HC.out ((toL x).length - 1 - i) (by omega))
    have hx0:=HXS.out.get ((toL x).length - 1 - i)
    have HWS:=Lib.hid (wrAll_succ (toL x) i)
    have hi2:((toL x).length:Int) - 1 - (i:Int)=(((toL x).length - 1 - i:Nat):Int):=by omega
    have hi3:(toL x).length - 1 - i < (toL x).length:=by omega
    generalize (toL x)[(toL x).length - 1 - i]?.getD 0=x0 at *
    rw [B_val] at hx0
    have HB:=Lib.hid hB
    have HBK:=Lib.hid hblk
    clear hblk hB
    obtain ⟨wo,rfl⟩:∃ wo,wo=wr:=⟨_,rfl⟩
    go_wp2
    go_loopw [5,6] (fun sn sk wr=>∃ j n:Nat,j≤9∧n=x0 / 10 ^ j∧sn=.int .i64 (n:Int)∧sk=.int .i64 (8 - (j:Int))∧Blk wr w.heap.size 5 (Lib.byteCells (wrAll (toL x) i++(List.replicate (9 - j) 0++(padk j x0++List.replicate (9*((toL x).length - 1 - i)) 0)))).toArray∧Below w.heap.size w wr) (fun _ sk _=>(intOf sk+1).toNat)
    case atStart =>
     refine ⟨0,x0,Nat.zero_le _,by simp,rfl,rfl,?_,HB.out⟩
     have e:List.replicate (9 - 0) 0++(padk 0 x0++List.replicate (9*((toL x).length - 1 - i)) 0)=List.replicate (9*((toL x).length - i)) (0:UInt8):=by
      show List.replicate 9 0++([]++List.replicate (9*((toL x).length - 1 - i)) 0)=_
      rw [List.nil_append,List.replicate_append_replicate]
      congr 1
      omega
     rw [e]
     exact HBK.out
    case round =>
     obtain ⟨j,n,hj,hn,rfl,rfl,hblk,hB⟩:=hrel
     have hnx:n≤x0:=by rw [hn];exact Nat.div_le_self _ _
     have HN:=Lib.hid hn
     have HB2:=Lib.hid hB
     by_cases hj9:j=9
     ·subst hj9
      have hlast:9*((toL x).length - 1 - i)=9*((toL x).length - (i+1)):=by omega
      have HBL:=Lib.hid (show Blk wr w.heap.size 5 (Lib.byteCells (wrAll (toL x) (i+1)++List.replicate (9*((toL x).length - (i+1))) 0)).toArray from by
       rw [HWS.out,List.append_assoc,← hlast]
       exact hblk)
      clear hn hblk hB hlast hcx
      go_wp2
      go_roundw
      case rel=>exact ⟨i+1,hlt,by go_num,HBL.out,HB2.out⟩
      case measure=>simp [intOf];omega
     ·obtain ⟨k,hk⟩:∃ k,j+k=8:=⟨8 - j,by omega⟩
      have hkI:(8:Int) - (j:Int)=(k:Int):=by omega
      have hPl:(Lib.byteCells (wrAll (toL x) i++List.replicate k 0)).length=9*i+k:=by rw [Lib.byteCells_length,List.length_append,wrAll_length,List.length_replicate]
      have hform:Lib.byteCells (wrAll (toL x) i++(List.replicate (9 - j) 0++(padk j x0++List.replicate (9*((toL x).length - 1 - i)) 0))) =
        Lib.byteCells (wrAll (toL x) i++List.replicate k 0)++(.int .u8 0::Lib.byteCells (padk j x0++List.replicate (9*((toL x).length - 1 - i)) 0)):=by
       rw [show 9 - j=k+1 by omega,List.replicate_succ']
       simp [Lib.byteCells]
      rw [hform] at hblk
      have hst1:=mid_get hblk hPl.symm
      have hst2:=hblk.frozen (9*i+k)
      have HSET:=Lib.hid (fun v=>mid_set hblk hPl.symm v)
      have hlen9:9*i+k < 9*(toL x).length:=by omega
      clear hn hblk hB hform hPl hj9 hcx
      rw [hkI]
      go_wp2
      have hd:=Nat.mod_lt n (show 0 < 10 by omega)
      go_roundw
      case rel =>
       refine ⟨j+1,n / 10,by omega,?_,int_eq (by omega),int_eq (by omega),?_,HB2.out.setCell (p:=⟨w.heap.size,9*i+k,none⟩) (Nat.le_refl _) _⟩
       ·rw [HN.out,Nat.div_div_eq_div_mul,Nat.pow_succ]
       ·have h2:=HSET.out (.int .u8 (((48+n % 10:Nat)):Int))
        have e:Lib.byteCells (wrAll (toL x) i++(List.replicate (9 - (j+1)) 0++(padk (j+1) x0++List.replicate (9*((toL x).length - 1 - i)) 0))) =
          Lib.byteCells (wrAll (toL x) i++List.replicate k 0)++(.int .u8 (((48+n % 10:Nat)):Int)::Lib.byteCells (padk j x0++List.replicate (9*((toL x).length - 1 - i)) 0)):=by
         rw [show 9 - (j+1)=k by omega,padk_left,← HN.out]
         have ht:=toNat_ofNat hd
         simp only [Lib.byteCells,List.map_append,List.map_cons,List.cons_append,List.append_assoc,ht]
        rw [e]
        exact h2
      case measure=>simp [intOf]
   ·obtain rfl:i=(toL x).length:=by omega
    have hrow:Lib.byteCells (wrAll (toL x) (toL x).length++List.replicate (9*((toL x).length - (toL x).length)) 0)=Lib.byteCells (wrAll (toL x) (toL x).length):=by
     rw [Nat.sub_self];simp
    rw [hrow] at hblk
    have HB:=Lib.hid hB
    have HBK:=Lib.hid hblk
    have HLN:=Lib.hid (wrAll_length (toL x) (toL x).length)
    have HDG:=Lib.hid (wrAll_dg (toL x) (toL x).length)
    clear hblk hB hrow
    obtain ⟨wq,rfl⟩:∃ wq,wq=wr:=⟨_,rfl⟩
    go_wp2
    go_loopw [3] (fun sb w3=>∃ (k:Nat) (r:List UInt8),wrAll (toL x) (toL x).length=List.replicate k 48++r∧r≠[]∧sb=.slice (some ⟨w.heap.size,k,none⟩) r.length r.length∧w3=wq) (fun sb _=>match sb with|.slice _ n _=>n|_=>0)
    case atStart=>exact ⟨0,wrAll (toL x) (toL x).length,rfl,fun e=>by have:=HLN.out;rw [e] at this;simp at this;omega,by rw [HLN.out],rfl⟩
    case round =>
     obtain ⟨k,r,hkr,hrn,rfl,rfl⟩:=hrel
     have hsum:k+r.length=9*(toL x).length:=by
      have:=congrArg List.length hkr
      rw [HLN.out,List.length_append,List.length_replicate] at this
      omega
     have hrow:∀ j (hj:j < r.length),wr.cell? ((⟨w.heap.size,k,none⟩:Addr).add j)=some (.int .u8 ((r[j]'hj).toNat:Int)):=by
      intro j hj
      have h2:=HBK.out
      rw [hkr] at h2
      rw [Lib.add_plain,h2.cell,List.getElem?_toArray,Lib.byteCells,List.getElem?_map,List.getElem?_append_right (by rw [List.length_replicate];omega),List.length_replicate,show k+j - k=j by omega,List.getElem?_eq_getElem hj]
      rfl
     have HRN:=Lib.hid hrn
     have HKR:=Lib.hid hkr
     have HDONE:=Lib.hid (fun h=>strip_done (HDG.out) hkr hrn h)
     rw [HDV.out] at HDONE
     have HCV:=Lib.hid (run_convert_bytes_back (P:=Tryz.prog) wr 123 9 5 ⟨w.heap.size,k,none⟩ r.length r Tryz.underlying123 Tryz.underlying5 Tryz.underlying9 hrow)
     by_cases h1:1 < r.length
     ·have h1':(1:Int) < (r.length:Int):=by omega
      obtain ⟨ch,r',rfl⟩:=List.exists_cons_of_ne_nil hrn
      have hc0:=hrow 0 (by simp)
      rw [Lib.add_plain,Nat.add_zero] at hc0
      simp only [List.getElem_cons_zero] at hc0
      have hblt:w.heap.size < wr.heap.size:=HBK.out.lt
      clear hrow hkr hrn
      by_cases hch:ch=48
      ·have hcb:((ch.toNat:Int)==48)=true:=by rw [hch];rfl
       have hci:(ch.toNat:Int)=48:=by rw [hch];rfl
       have HCH:=Lib.hid hch
       clear hch
       have hrl:(ch::r').length=r'.length+1:=rfl
       rw [hrl] at h1 h1' hsum
       generalize hzz:(ch::r').length=zz at *
       go_wp2
       go_roundw
       case rel =>
        have hne':r'≠[]:=fun e=>by rw [e] at h1;simp at h1
        refine ⟨k+1,r',?_,hne',?_,trivial⟩
        ·rw [HKR.out,List.replicate_succ',List.append_assoc,HCH.out];rfl
        ·rw [if_neg hne']
       case measure=>simp [← hzz]
      ·have hcb:((ch.toNat:Int)==48)=false:=by
        rw [beq_eq_false_iff_ne]
        intro e
        apply hch
        apply UInt8.toNat_inj.1
        show ch.toNat=48
        omega
       have hci:¬ (ch.toNat:Int)=48:=by
        intro e
        apply hch
        apply UInt8.toNat_inj.1
        show ch.toNat=48
        omega
       have HR:=Lib.hid (HDONE.out (.inr (by rw [List.head?_cons];intro e;injection e with e;exact hch e)))
       have hcv:=HCV.out
       clear hch
       generalize hzz:(ch::r').length=zz at *
       go_wp2
       go_ret
       exact ⟨by first|rfl|(rw [← HR.out];rfl)|(rw [HR.out];rfl),HB.out⟩
     ·have h1':¬ (1:Int) < (r.length:Int):=by omega
      have hr1:r.length=1:=by have:=List.length_pos_iff.2 hrn;omega
      have HR:=Lib.hid (HDONE.out (.inl hr1))
      have hcv:=HCV.out
      clear hrow hkr hrn hr1
      generalize hzz:r.length=zz at *
      go_wp2
      go_ret
      exact ⟨by first|rfl|(rw [← HR.out];rfl)|(rw [HR.out];rfl),HB.out⟩
end Go.Proofs.YtigapglmipmbeaaGreatDoor
namespace Go.Proofs.YtigapglmipmbeaaGreatDoor
open Go.RowKit Go.Shelf
open Lim
attribute [local go_sem] Oper.semAt_some
theorem box1_blk (w:World) (m vn vd:Value):Blk (w.alloc (.cells #[m,vn,vd] 170)) w.heap.size 170 #[m,vn,vd]∧Below w.heap.size w (w.alloc (.cells #[m,vn,vd] 170))∧(w.alloc (.cells #[m,vn,vd] 170)).heap.size=w.heap.size+1 :=
 ⟨Blk.new w _ _,(Below.refl _ _).alloc (Nat.le_refl _) _,by simp⟩
theorem rwrite_is (x:Nat) (vx:Value) (w:World) (hx:IsNatI w vx x) (hlx:(toL x).length≤40000) :
  Calls Tryz.prog 228 #[vx] w fun e w'=>∃ s:ByteArray,e=.returned (.string s)∧Hid (s=⟨(Lib.decDigits x).toArray⟩)∧s.size=Lib.nDigits x∧Below w.heap.size w w':=by
 refine (rwrite_any x vx w hx hlx).mono ?_
 rintro e w' ⟨rfl,hb⟩
 refine ⟨_,rfl,Lib.hid rfl,?_,hb⟩
 show (Lib.decDigits x).toArray.size=_
 rw [List.size_toArray,Lib.decDigits_length]
theorem wq_t_big1 (N D:Nat) (A A':Option Addr) (c c':Nat) (w:World) (hn:IsNatI w (.slice A (toL N).length c) N) (hd:IsNatI w (.slice A' (toL D).length c') D) (l1:(toL N).length≤40000) (l2:(toL D).length≤40000) (h1:4000 < Lib.nDigits N) :
  Calls Tryz.prog 153 #[.agg #[.bool true,.slice A (toL N).length c,.slice A' (toL D).length c']] w fun e w'=>e=.returned (.tuple #[.string ⟨#[]⟩,.int .i64 5])∧Below w.heap.size w w':=by
 have HN:=Lib.hid hn
 have HD:=Lib.hid hd
 clear hn hd
 refine (callsIn_wide (n:=3)).1 ?_
 have h1:1≤3:=by omega
 have hmx:Tryz.prog.follows .mixedOrders=true:=by kernel_rfl
 refine callsIn_of_wp Tryz.func153 rfl trivial ?_ rfl
 simp only [Tryz.ntmps153,List.size_toArray,List.length_cons,List.length_nil,Nat.reduceAdd,Nat.reduceSub,Array.replicate_succ,Array.replicate_zero,List.push_toArray,List.append_toArray,List.nil_append,List.cons_append]
 gi_upto_region 1 with fail
 obtain ⟨b0,hB,hs⟩:=box1_blk w (.bool true) (.slice A (toL N).length c) (.slice A' (toL D).length c')
 generalize w.alloc (.cells #[.bool true,.slice A (toL N).length c,.slice A' (toL D).length c'] 170)=W at *
 obtain ⟨x0,x1,x2⟩:=same_cells (S:=fun k=>k < W.heap.size) b0 (by omega)
 have HB:=Lib.hid (below_drew hB)
 have HS:=Lib.hid hs
 have P0:=Lib.hid b0
 clear b0 hB hs
 refine wpIn_stage (IsSame W (fun k=>k < W.heap.size)) [0,1,3,4] [] hmx (by kernel_rfl) (isSame_of fun _ _=>rfl) ?_
 change wpStage _ _ _ _ _ _ _ _ (4+4) _ _ _
 refine stage_reads [0,1,3,4] 4 _ _ (by kernel_rfl) ?_
 change wpQuietIn _ _ _ _ (fun W'=>∃ x:SameAt W (fun k=>k < W.heap.size),W'=x.W) _ _ _
 simp only [pick_cons,pick_nil,List.getElem?_cons_zero,List.getElem?_cons_succ,Option.elim_some]
 repeat (gi_big_quiet_step (fail))
 refine wpQuietIn_nil ?_
 refine stage_one 2 (by kernel_rfl) rfl ?_
 gi_wp2
 refine ⟨trivial,?_⟩
 refine (callsIn_wide.2 (rwrite_is N _ W.drew (HN.out.below HB.out) l1)).mono ?_
 rintro e w3 ⟨s3,rfl,HS3,hz3,hb3⟩
 have hB3:Below W.heap.size W w3:=below_undrew hb3
 have HB3:=Lib.hid hB3
 clear hb3 hB3
 gi_wp2
 refine stage_post (isSame_below HB3.out (fun k hk=>hk)) ?_
 refine stage_one 5 (by kernel_rfl) rfl ?_
 gi_wp2
 refine ⟨trivial,?_⟩
 refine (callsIn_wide.2 (rwrite_is D _ w3 (HD.out.below (HB.out.trans ((below_drew3 HB3.out).mono HB.out.size))) l2)).mono ?_
 rintro e w4 ⟨s4,rfl,HS4,hz4,hb4⟩
 have hB4:Below W.heap.size W w4:=HB3.out.trans (hb4.mono HB3.out.size)
 have HB4:=Lib.hid hB4
 clear hb4 hB4
 gi_wp2
 refine stage_post (isSame_below HB4.out (fun k hk=>hk)) ?_
 refine stage_one 6 (by kernel_rfl) rfl ?_
 gi_wp2
 refine stage_post (isSame_below HB4.out (fun k hk=>hk)) ?_
 refine stage_one 7 (by kernel_rfl) rfl ?_
 gi_wp2
 refine stage_post (isSame_below HB4.out (fun k hk=>hk)) ?_
 refine stage_done (by kernel_rfl) ?_
 clear x0 x1 x2
 obtain ⟨x0,x1,x2⟩:=rows3 (P0.out.below HB4.out (by have:=HS.out;omega))
 have hd1:decide ((4000:Int) < (s3.size:Int))=true:=decide_eq_true (by omega)
 clear hz3 hz4
 gi_wp2
 refine bodyPost_ret (results_tmp2 rfl _ _ _) rfl ?_
 exact ⟨rfl,HB.out.trans ((below_drew3 HB4.out).mono HB.out.size)⟩
theorem wq_t_big2 (N D:Nat) (A A':Option Addr) (c c':Nat) (w:World) (hn:IsNatI w (.slice A (toL N).length c) N) (hd:IsNatI w (.slice A' (toL D).length c') D) (l1:(toL N).length≤40000) (l2:(toL D).length≤40000) (h1:Lib.nDigits N≤4000) (h2:4000 < Lib.nDigits D) :
  Calls Tryz.prog 153 #[.agg #[.bool true,.slice A (toL N).length c,.slice A' (toL D).length c']] w fun e w'=>e=.returned (.tuple #[.string ⟨#[]⟩,.int .i64 5])∧Below w.heap.size w w':=by
 have HN:=Lib.hid hn
 have HD:=Lib.hid hd
 clear hn hd
 refine (callsIn_wide (n:=3)).1 ?_
 have h1:1≤3:=by omega
 have hmx:Tryz.prog.follows .mixedOrders=true:=by kernel_rfl
 refine callsIn_of_wp Tryz.func153 rfl trivial ?_ rfl
 simp only [Tryz.ntmps153,List.size_toArray,List.length_cons,List.length_nil,Nat.reduceAdd,Nat.reduceSub,Array.replicate_succ,Array.replicate_zero,List.push_toArray,List.append_toArray,List.nil_append,List.cons_append]
 gi_upto_region 1 with fail
 obtain ⟨b0,hB,hs⟩:=box1_blk w (.bool true) (.slice A (toL N).length c) (.slice A' (toL D).length c')
 generalize w.alloc (.cells #[.bool true,.slice A (toL N).length c,.slice A' (toL D).length c'] 170)=W at *
 obtain ⟨x0,x1,x2⟩:=same_cells (S:=fun k=>k < W.heap.size) b0 (by omega)
 have HB:=Lib.hid (below_drew hB)
 have HS:=Lib.hid hs
 have P0:=Lib.hid b0
 clear b0 hB hs
 refine wpIn_stage (IsSame W (fun k=>k < W.heap.size)) [0,1,3,4] [] hmx (by kernel_rfl) (isSame_of fun _ _=>rfl) ?_
 change wpStage _ _ _ _ _ _ _ _ (4+4) _ _ _
 refine stage_reads [0,1,3,4] 4 _ _ (by kernel_rfl) ?_
 change wpQuietIn _ _ _ _ (fun W'=>∃ x:SameAt W (fun k=>k < W.heap.size),W'=x.W) _ _ _
 simp only [pick_cons,pick_nil,List.getElem?_cons_zero,List.getElem?_cons_succ,Option.elim_some]
 repeat (gi_big_quiet_step (fail))
 refine wpQuietIn_nil ?_
 refine stage_one 2 (by kernel_rfl) rfl ?_
 gi_wp2
 refine ⟨trivial,?_⟩
 refine (callsIn_wide.2 (rwrite_is N _ W.drew (HN.out.below HB.out) l1)).mono ?_
 rintro e w3 ⟨s3,rfl,HS3,hz3,hb3⟩
 have hB3:Below W.heap.size W w3:=below_undrew hb3
 have HB3:=Lib.hid hB3
 clear hb3 hB3
 gi_wp2
 refine stage_post (isSame_below HB3.out (fun k hk=>hk)) ?_
 refine stage_one 5 (by kernel_rfl) rfl ?_
 gi_wp2
 refine ⟨trivial,?_⟩
 refine (callsIn_wide.2 (rwrite_is D _ w3 (HD.out.below (HB.out.trans ((below_drew3 HB3.out).mono HB.out.size))) l2)).mono ?_
 rintro e w4 ⟨s4,rfl,HS4,hz4,hb4⟩
 have hB4:Below W.heap.size W w4:=HB3.out.trans (hb4.mono HB3.out.size)
 have HB4:=Lib.hid hB4
 clear hb4 hB4
 gi_wp2
 refine stage_post (isSame_below HB4.out (fun k hk=>hk)) ?_
 refine stage_one 6 (by kernel_rfl) rfl ?_
 gi_wp2
 refine stage_post (isSame_below HB4.out (fun k hk=>hk)) ?_
 refine stage_one 7 (by kernel_rfl) rfl ?_
 gi_wp2
 refine stage_post (isSame_below HB4.out (fun k hk=>hk)) ?_
 refine stage_done (by kernel_rfl) ?_
 clear x0 x1 x2
 obtain ⟨x0,x1,x2⟩:=rows3 (P0.out.below HB4.out (by have:=HS.out;omega))
 have hd1:decide ((4000:Int) < (s3.size:Int))=false:=decide_eq_false (by omega)
 have hd2:decide ((4000:Int) < (s4.size:Int))=true:=decide_eq_true (by omega)
 clear hz3 hz4
 gi_wp2
 refine bodyPost_ret (results_tmp2 rfl _ _ _) rfl ?_
 exact ⟨rfl,HB.out.trans ((below_drew3 HB4.out).mono HB.out.size)⟩
theorem wq_t_int (N D:Nat) (A A':Option Addr) (c c':Nat) (w:World) (hn:IsNatI w (.slice A (toL N).length c) N) (hd:IsNatI w (.slice A' (toL D).length c') D) (l1:(toL N).length≤40000) (l2:(toL D).length≤40000) (h1:Lib.nDigits N≤4000) (h2:Lib.nDigits D≤4000) (h3:D=1) :
  Calls Tryz.prog 153 #[.agg #[.bool true,.slice A (toL N).length c,.slice A' (toL D).length c']] w fun e w'=>e=.returned (.tuple #[.string ⟨([45]++Lib.decDigits N).toArray⟩,.int .i64 0])∧Below w.heap.size w w':=by
 have HN:=Lib.hid hn
 have HD:=Lib.hid hd
 clear hn hd
 have H3:=Lib.hid h3
 clear h3
 refine (callsIn_wide (n:=3)).1 ?_
 have h1:1≤3:=by omega
 have hmx:Tryz.prog.follows .mixedOrders=true:=by kernel_rfl
 refine callsIn_of_wp Tryz.func153 rfl trivial ?_ rfl
 simp only [Tryz.ntmps153,List.size_toArray,List.length_cons,List.length_nil,Nat.reduceAdd,Nat.reduceSub,Array.replicate_succ,Array.replicate_zero,List.push_toArray,List.append_toArray,List.nil_append,List.cons_append]
 gi_upto_region 1 with fail
 obtain ⟨b0,hB,hs⟩:=box1_blk w (.bool true) (.slice A (toL N).length c) (.slice A' (toL D).length c')
 generalize w.alloc (.cells #[.bool true,.slice A (toL N).length c,.slice A' (toL D).length c'] 170)=W at *
 obtain ⟨x0,x1,x2⟩:=same_cells (S:=fun k=>k < W.heap.size) b0 (by omega)
 have HB:=Lib.hid (below_drew hB)
 have HS:=Lib.hid hs
 have P0:=Lib.hid b0
 clear b0 hB hs
 refine wpIn_stage (IsSame W (fun k=>k < W.heap.size)) [0,1,3,4] [] hmx (by kernel_rfl) (isSame_of fun _ _=>rfl) ?_
 change wpStage _ _ _ _ _ _ _ _ (4+4) _ _ _
 refine stage_reads [0,1,3,4] 4 _ _ (by kernel_rfl) ?_
 change wpQuietIn _ _ _ _ (fun W'=>∃ x:SameAt W (fun k=>k < W.heap.size),W'=x.W) _ _ _
 simp only [pick_cons,pick_nil,List.getElem?_cons_zero,List.getElem?_cons_succ,Option.elim_some]
 repeat (gi_big_quiet_step (fail))
 refine wpQuietIn_nil ?_
 refine stage_one 2 (by kernel_rfl) rfl ?_
 gi_wp2
 refine ⟨trivial,?_⟩
 refine (callsIn_wide.2 (rwrite_is N _ W.drew (HN.out.below HB.out) l1)).mono ?_
 rintro e w3 ⟨s3,rfl,HS3,hz3,hb3⟩
 have hB3:Below W.heap.size W w3:=below_undrew hb3
 have HB3:=Lib.hid hB3
 clear hb3 hB3
 gi_wp2
 refine stage_post (isSame_below HB3.out (fun k hk=>hk)) ?_
 refine stage_one 5 (by kernel_rfl) rfl ?_
 gi_wp2
 refine ⟨trivial,?_⟩
 refine (callsIn_wide.2 (rwrite_is D _ w3 (HD.out.below (HB.out.trans ((below_drew3 HB3.out).mono HB.out.size))) l2)).mono ?_
 rintro e w4 ⟨s4,rfl,HS4,hz4,hb4⟩
 have hB4:Below W.heap.size W w4:=HB3.out.trans (hb4.mono HB3.out.size)
 have HB4:=Lib.hid hB4
 clear hb4 hB4
 gi_wp2
 refine stage_post (isSame_below HB4.out (fun k hk=>hk)) ?_
 refine stage_one 6 (by kernel_rfl) rfl ?_
 gi_wp2
 refine stage_post (isSame_below HB4.out (fun k hk=>hk)) ?_
 refine stage_one 7 (by kernel_rfl) rfl ?_
 gi_wp2
 refine stage_post (isSame_below HB4.out (fun k hk=>hk)) ?_
 refine stage_done (by kernel_rfl) ?_
 clear x0 x1 x2
 obtain ⟨x0,x1,x2⟩:=rows3 (P0.out.below HB4.out (by have:=HS.out;omega))
 have hd1:decide ((4000:Int) < (s3.size:Int))=false:=decide_eq_false (by omega)
 have hd2:decide ((4000:Int) < (s4.size:Int))=false:=decide_eq_false (by omega)
 have h49:(s4.toList==[49])=true:=by
  rw [HS4.out,Lib.toList_data]
  show (Lib.decDigits D==[49])=true
  rw [H3.out,dec_one];rfl
 have z3:¬ 9223372036854775807 < 1+s3.size:=by omega
 have z4:¬ 9223372036854775807 < 1+s3.size+1:=by omega
 have z5:¬ 9223372036854775807 < s3.size+1:=by omega
 have z6:¬ 9223372036854775807 < 1+s3.size+1+s4.size:=by omega
 have z7:¬ 9223372036854775807 < s3.size+1+s4.size:=by omega
 clear hz3 hz4
 gi_wp2
 refine bodyPost_ret (results_tmp2 rfl _ _ _) rfl ?_
 refine ⟨?_,HB.out.trans ((below_drew3 HB4.out).mono HB.out.size)⟩
 rw [HS3.out];exact congrArg (fun x=>Ending.returned (.tuple #[.string x,.int .i64 0])) (ba_add [45] (Lib.decDigits N))
theorem wq_t_frac (N D:Nat) (A A':Option Addr) (c c':Nat) (w:World) (hn:IsNatI w (.slice A (toL N).length c) N) (hd:IsNatI w (.slice A' (toL D).length c') D) (l1:(toL N).length≤40000) (l2:(toL D).length≤40000) (h1:Lib.nDigits N≤4000) (h2:Lib.nDigits D≤4000) (h3:D≠1) :
  Calls Tryz.prog 153 #[.agg #[.bool true,.slice A (toL N).length c,.slice A' (toL D).length c']] w fun e w'=>e=.returned (.tuple #[.string ⟨([45]++Lib.decDigits N++47::Lib.decDigits D).toArray⟩,.int .i64 0])∧Below w.heap.size w w':=by
 have HN:=Lib.hid hn
 have HD:=Lib.hid hd
 clear hn hd
 have H3:=Lib.hid h3
 clear h3
 refine (callsIn_wide (n:=3)).1 ?_
 have h1:1≤3:=by omega
 have hmx:Tryz.prog.follows .mixedOrders=true:=by kernel_rfl
 refine callsIn_of_wp Tryz.func153 rfl trivial ?_ rfl
 simp only [Tryz.ntmps153,List.size_toArray,List.length_cons,List.length_nil,Nat.reduceAdd,Nat.reduceSub,Array.replicate_succ,Array.replicate_zero,List.push_toArray,List.append_toArray,List.nil_append,List.cons_append]
 gi_upto_region 1 with fail
 obtain ⟨b0,hB,hs⟩:=box1_blk w (.bool true) (.slice A (toL N).length c) (.slice A' (toL D).length c')
 generalize w.alloc (.cells #[.bool true,.slice A (toL N).length c,.slice A' (toL D).length c'] 170)=W at *
 obtain ⟨x0,x1,x2⟩:=same_cells (S:=fun k=>k < W.heap.size) b0 (by omega)
 have HB:=Lib.hid (below_drew hB)
 have HS:=Lib.hid hs
 have P0:=Lib.hid b0
 clear b0 hB hs
 refine wpIn_stage (IsSame W (fun k=>k < W.heap.size)) [0,1,3,4] [] hmx (by kernel_rfl) (isSame_of fun _ _=>rfl) ?_
 change wpStage _ _ _ _ _ _ _ _ (4+4) _ _ _
 refine stage_reads [0,1,3,4] 4 _ _ (by kernel_rfl) ?_
 change wpQuietIn _ _ _ _ (fun W'=>∃ x:SameAt W (fun k=>k < W.heap.size),W'=x.W) _ _ _
 simp only [pick_cons,pick_nil,List.getElem?_cons_zero,List.getElem?_cons_succ,Option.elim_some]
 repeat (gi_big_quiet_step (fail))
 refine wpQuietIn_nil ?_
 refine stage_one 2 (by kernel_rfl) rfl ?_
 gi_wp2
 refine ⟨trivial,?_⟩
 refine (callsIn_wide.2 (rwrite_is N _ W.drew (HN.out.below HB.out) l1)).mono ?_
 rintro e w3 ⟨s3,rfl,HS3,hz3,hb3⟩
 have hB3:Below W.heap.size W w3:=below_undrew hb3
 have HB3:=Lib.hid hB3
 clear hb3 hB3
 gi_wp2
 refine stage_post (isSame_below HB3.out (fun k hk=>hk)) ?_
 refine stage_one 5 (by kernel_rfl) rfl ?_
 gi_wp2
 refine ⟨trivial,?_⟩
 refine (callsIn_wide.2 (rwrite_is D _ w3 (HD.out.below (HB.out.trans ((below_drew3 HB3.out).mono HB.out.size))) l2)).mono ?_
 rintro e w4 ⟨s4,rfl,HS4,hz4,hb4⟩
 have hB4:Below W.heap.size W w4:=HB3.out.trans (hb4.mono HB3.out.size)
 have HB4:=Lib.hid hB4
 clear hb4 hB4
 gi_wp2
 refine stage_post (isSame_below HB4.out (fun k hk=>hk)) ?_
 refine stage_one 6 (by kernel_rfl) rfl ?_
 gi_wp2
 refine stage_post (isSame_below HB4.out (fun k hk=>hk)) ?_
 refine stage_one 7 (by kernel_rfl) rfl ?_
 gi_wp2
 refine stage_post (isSame_below HB4.out (fun k hk=>hk)) ?_
 refine stage_done (by kernel_rfl) ?_
 clear x0 x1 x2
 obtain ⟨x0,x1,x2⟩:=rows3 (P0.out.below HB4.out (by have:=HS.out;omega))
 have hd1:decide ((4000:Int) < (s3.size:Int))=false:=decide_eq_false (by omega)
 have hd2:decide ((4000:Int) < (s4.size:Int))=false:=decide_eq_false (by omega)
 have h49:(s4.toList==[49])=false:=by
  rw [HS4.out,Lib.toList_data]
  show (Lib.decDigits D==[49])=false
  rw [beq_eq_false_iff_ne]
  exact dec_ne_one H3.out
 have z3:¬ 9223372036854775807 < 1+s3.size:=by omega
 have z4:¬ 9223372036854775807 < 1+s3.size+1:=by omega
 have z5:¬ 9223372036854775807 < s3.size+1:=by omega
 have z6:¬ 9223372036854775807 < 1+s3.size+1+s4.size:=by omega
 have z7:¬ 9223372036854775807 < s3.size+1+s4.size:=by omega
 clear hz3 hz4
 gi_wp2
 refine bodyPost_ret (results_tmp2 rfl _ _ _) rfl ?_
 refine ⟨?_,HB.out.trans ((below_drew3 HB4.out).mono HB.out.size)⟩
 rw [HS3.out,HS4.out];exact congrArg (fun x=>Ending.returned (.tuple #[.string x,.int .i64 0])) (by rw [ba_add [45],ba_add _ [47],ba_add,List.append_assoc];rfl)
theorem wq_f_big1 (N D:Nat) (A A':Option Addr) (c c':Nat) (w:World) (hn:IsNatI w (.slice A (toL N).length c) N) (hd:IsNatI w (.slice A' (toL D).length c') D) (l1:(toL N).length≤40000) (l2:(toL D).length≤40000) (h1:4000 < Lib.nDigits N) :
  Calls Tryz.prog 153 #[.agg #[.bool false,.slice A (toL N).length c,.slice A' (toL D).length c']] w fun e w'=>e=.returned (.tuple #[.string ⟨#[]⟩,.int .i64 5])∧Below w.heap.size w w':=by
 have HN:=Lib.hid hn
 have HD:=Lib.hid hd
 clear hn hd
 refine (callsIn_wide (n:=3)).1 ?_
 have h1:1≤3:=by omega
 have hmx:Tryz.prog.follows .mixedOrders=true:=by kernel_rfl
 refine callsIn_of_wp Tryz.func153 rfl trivial ?_ rfl
 simp only [Tryz.ntmps153,List.size_toArray,List.length_cons,List.length_nil,Nat.reduceAdd,Nat.reduceSub,Array.replicate_succ,Array.replicate_zero,List.push_toArray,List.append_toArray,List.nil_append,List.cons_append]
 gi_upto_region 1 with fail
 obtain ⟨b0,hB,hs⟩:=box1_blk w (.bool false) (.slice A (toL N).length c) (.slice A' (toL D).length c')
 generalize w.alloc (.cells #[.bool false,.slice A (toL N).length c,.slice A' (toL D).length c'] 170)=W at *
 obtain ⟨x0,x1,x2⟩:=same_cells (S:=fun k=>k < W.heap.size) b0 (by omega)
 have HB:=Lib.hid (below_drew hB)
 have HS:=Lib.hid hs
 have P0:=Lib.hid b0
 clear b0 hB hs
 refine wpIn_stage (IsSame W (fun k=>k < W.heap.size)) [0,1,3,4] [] hmx (by kernel_rfl) (isSame_of fun _ _=>rfl) ?_
 change wpStage _ _ _ _ _ _ _ _ (4+4) _ _ _
 refine stage_reads [0,1,3,4] 4 _ _ (by kernel_rfl) ?_
 change wpQuietIn _ _ _ _ (fun W'=>∃ x:SameAt W (fun k=>k < W.heap.size),W'=x.W) _ _ _
 simp only [pick_cons,pick_nil,List.getElem?_cons_zero,List.getElem?_cons_succ,Option.elim_some]
 repeat (gi_big_quiet_step (fail))
 refine wpQuietIn_nil ?_
 refine stage_one 2 (by kernel_rfl) rfl ?_
 gi_wp2
 refine ⟨trivial,?_⟩
 refine (callsIn_wide.2 (rwrite_is N _ W.drew (HN.out.below HB.out) l1)).mono ?_
 rintro e w3 ⟨s3,rfl,HS3,hz3,hb3⟩
 have hB3:Below W.heap.size W w3:=below_undrew hb3
 have HB3:=Lib.hid hB3
 clear hb3 hB3
 gi_wp2
 refine stage_post (isSame_below HB3.out (fun k hk=>hk)) ?_
 refine stage_one 5 (by kernel_rfl) rfl ?_
 gi_wp2
 refine ⟨trivial,?_⟩
 refine (callsIn_wide.2 (rwrite_is D _ w3 (HD.out.below (HB.out.trans ((below_drew3 HB3.out).mono HB.out.size))) l2)).mono ?_
 rintro e w4 ⟨s4,rfl,HS4,hz4,hb4⟩
 have hB4:Below W.heap.size W w4:=HB3.out.trans (hb4.mono HB3.out.size)
 have HB4:=Lib.hid hB4
 clear hb4 hB4
 gi_wp2
 refine stage_post (isSame_below HB4.out (fun k hk=>hk)) ?_
 refine stage_one 6 (by kernel_rfl) rfl ?_
 gi_wp2
 refine stage_post (isSame_below HB4.out (fun k hk=>hk)) ?_
 refine stage_one 7 (by kernel_rfl) rfl ?_
 gi_wp2
 refine stage_post (isSame_below HB4.out (fun k hk=>hk)) ?_
 refine stage_done (by kernel_rfl) ?_
 clear x0 x1 x2
 obtain ⟨x0,x1,x2⟩:=rows3 (P0.out.below HB4.out (by have:=HS.out;omega))
 have hd1:decide ((4000:Int) < (s3.size:Int))=true:=decide_eq_true (by omega)
 clear hz3 hz4
 gi_wp2
 refine bodyPost_ret (results_tmp2 rfl _ _ _) rfl ?_
 exact ⟨rfl,HB.out.trans ((below_drew3 HB4.out).mono HB.out.size)⟩
theorem wq_f_big2 (N D:Nat) (A A':Option Addr) (c c':Nat) (w:World) (hn:IsNatI w (.slice A (toL N).length c) N) (hd:IsNatI w (.slice A' (toL D).length c') D) (l1:(toL N).length≤40000) (l2:(toL D).length≤40000) (h1:Lib.nDigits N≤4000) (h2:4000 < Lib.nDigits D) :
  Calls Tryz.prog 153 #[.agg #[.bool false,.slice A (toL N).length c,.slice A' (toL D).length c']] w fun e w'=>e=.returned (.tuple #[.string ⟨#[]⟩,.int .i64 5])∧Below w.heap.size w w':=by
 have HN:=Lib.hid hn
 have HD:=Lib.hid hd
 clear hn hd
 refine (callsIn_wide (n:=3)).1 ?_
 have h1:1≤3:=by omega
 have hmx:Tryz.prog.follows .mixedOrders=true:=by kernel_rfl
 refine callsIn_of_wp Tryz.func153 rfl trivial ?_ rfl
 simp only [Tryz.ntmps153,List.size_toArray,List.length_cons,List.length_nil,Nat.reduceAdd,Nat.reduceSub,Array.replicate_succ,Array.replicate_zero,List.push_toArray,List.append_toArray,List.nil_append,List.cons_append]
 gi_upto_region 1 with fail
 obtain ⟨b0,hB,hs⟩:=box1_blk w (.bool false) (.slice A (toL N).length c) (.slice A' (toL D).length c')
 generalize w.alloc (.cells #[.bool false,.slice A (toL N).length c,.slice A' (toL D).length c'] 170)=W at *
 obtain ⟨x0,x1,x2⟩:=same_cells (S:=fun k=>k < W.heap.size) b0 (by omega)
 have HB:=Lib.hid (below_drew hB)
 have HS:=Lib.hid hs
 have P0:=Lib.hid b0
 clear b0 hB hs
 refine wpIn_stage (IsSame W (fun k=>k < W.heap.size)) [0,1,3,4] [] hmx (by kernel_rfl) (isSame_of fun _ _=>rfl) ?_
 change wpStage _ _ _ _ _ _ _ _ (4+4) _ _ _
 refine stage_reads [0,1,3,4] 4 _ _ (by kernel_rfl) ?_
 change wpQuietIn _ _ _ _ (fun W'=>∃ x:SameAt W (fun k=>k < W.heap.size),W'=x.W) _ _ _
 simp only [pick_cons,pick_nil,List.getElem?_cons_zero,List.getElem?_cons_succ,Option.elim_some]
 repeat (gi_big_quiet_step (fail))
 refine wpQuietIn_nil ?_
 refine stage_one 2 (by kernel_rfl) rfl ?_
 gi_wp2
 refine ⟨trivial,?_⟩
 refine (callsIn_wide.2 (rwrite_is N _ W.drew (HN.out.below HB.out) l1)).mono ?_
 rintro e w3 ⟨s3,rfl,HS3,hz3,hb3⟩
 have hB3:Below W.heap.size W w3:=below_undrew hb3
 have HB3:=Lib.hid hB3
 clear hb3 hB3
 gi_wp2
 refine stage_post (isSame_below HB3.out (fun k hk=>hk)) ?_
 refine stage_one 5 (by kernel_rfl) rfl ?_
 gi_wp2
 refine ⟨trivial,?_⟩
 refine (callsIn_wide.2 (rwrite_is D _ w3 (HD.out.below (HB.out.trans ((below_drew3 HB3.out).mono HB.out.size))) l2)).mono ?_
 rintro e w4 ⟨s4,rfl,HS4,hz4,hb4⟩
 have hB4:Below W.heap.size W w4:=HB3.out.trans (hb4.mono HB3.out.size)
 have HB4:=Lib.hid hB4
 clear hb4 hB4
 gi_wp2
 refine stage_post (isSame_below HB4.out (fun k hk=>hk)) ?_
 refine stage_one 6 (by kernel_rfl) rfl ?_
 gi_wp2
 refine stage_post (isSame_below HB4.out (fun k hk=>hk)) ?_
 refine stage_one 7 (by kernel_rfl) rfl ?_
 gi_wp2
 refine stage_post (isSame_below HB4.out (fun k hk=>hk)) ?_
 refine stage_done (by kernel_rfl) ?_
 clear x0 x1 x2
 obtain ⟨x0,x1,x2⟩:=rows3 (P0.out.below HB4.out (by have:=HS.out;omega))
 have hd1:decide ((4000:Int) < (s3.size:Int))=false:=decide_eq_false (by omega)
 have hd2:decide ((4000:Int) < (s4.size:Int))=true:=decide_eq_true (by omega)
 clear hz3 hz4
 gi_wp2
 refine bodyPost_ret (results_tmp2 rfl _ _ _) rfl ?_
 exact ⟨rfl,HB.out.trans ((below_drew3 HB4.out).mono HB.out.size)⟩
theorem wq_f_int (N D:Nat) (A A':Option Addr) (c c':Nat) (w:World) (hn:IsNatI w (.slice A (toL N).length c) N) (hd:IsNatI w (.slice A' (toL D).length c') D) (l1:(toL N).length≤40000) (l2:(toL D).length≤40000) (h1:Lib.nDigits N≤4000) (h2:Lib.nDigits D≤4000) (h3:D=1) :
  Calls Tryz.prog 153 #[.agg #[.bool false,.slice A (toL N).length c,.slice A' (toL D).length c']] w fun e w'=>e=.returned (.tuple #[.string ⟨(Lib.decDigits N).toArray⟩,.int .i64 0])∧Below w.heap.size w w':=by
 have HN:=Lib.hid hn
 have HD:=Lib.hid hd
 clear hn hd
 have H3:=Lib.hid h3
 clear h3
 refine (callsIn_wide (n:=3)).1 ?_
 have h1:1≤3:=by omega
 have hmx:Tryz.prog.follows .mixedOrders=true:=by kernel_rfl
 refine callsIn_of_wp Tryz.func153 rfl trivial ?_ rfl
 simp only [Tryz.ntmps153,List.size_toArray,List.length_cons,List.length_nil,Nat.reduceAdd,Nat.reduceSub,Array.replicate_succ,Array.replicate_zero,List.push_toArray,List.append_toArray,List.nil_append,List.cons_append]
 gi_upto_region 1 with fail
 obtain ⟨b0,hB,hs⟩:=box1_blk w (.bool false) (.slice A (toL N).length c) (.slice A' (toL D).length c')
 generalize w.alloc (.cells #[.bool false,.slice A (toL N).length c,.slice A' (toL D).length c'] 170)=W at *
 obtain ⟨x0,x1,x2⟩:=same_cells (S:=fun k=>k < W.heap.size) b0 (by omega)
 have HB:=Lib.hid (below_drew hB)
 have HS:=Lib.hid hs
 have P0:=Lib.hid b0
 clear b0 hB hs
 refine wpIn_stage (IsSame W (fun k=>k < W.heap.size)) [0,1,3,4] [] hmx (by kernel_rfl) (isSame_of fun _ _=>rfl) ?_
 change wpStage _ _ _ _ _ _ _ _ (4+4) _ _ _
 refine stage_reads [0,1,3,4] 4 _ _ (by kernel_rfl) ?_
 change wpQuietIn _ _ _ _ (fun W'=>∃ x:SameAt W (fun k=>k < W.heap.size),W'=x.W) _ _ _
 simp only [pick_cons,pick_nil,List.getElem?_cons_zero,List.getElem?_cons_succ,Option.elim_some]
 repeat (gi_big_quiet_step (fail))
 refine wpQuietIn_nil ?_
 refine stage_one 2 (by kernel_rfl) rfl ?_
 gi_wp2
 refine ⟨trivial,?_⟩
 refine (callsIn_wide.2 (rwrite_is N _ W.drew (HN.out.below HB.out) l1)).mono ?_
 rintro e w3 ⟨s3,rfl,HS3,hz3,hb3⟩
 have hB3:Below W.heap.size W w3:=below_undrew hb3
 have HB3:=Lib.hid hB3
 clear hb3 hB3
 gi_wp2
 refine stage_post (isSame_below HB3.out (fun k hk=>hk)) ?_
 refine stage_one 5 (by kernel_rfl) rfl ?_
 gi_wp2
 refine ⟨trivial,?_⟩
 refine (callsIn_wide.2 (rwrite_is D _ w3 (HD.out.below (HB.out.trans ((below_drew3 HB3.out).mono HB.out.size))) l2)).mono ?_
 rintro e w4 ⟨s4,rfl,HS4,hz4,hb4⟩
 have hB4:Below W.heap.size W w4:=HB3.out.trans (hb4.mono HB3.out.size)
 have HB4:=Lib.hid hB4
 clear hb4 hB4
 gi_wp2
 refine stage_post (isSame_below HB4.out (fun k hk=>hk)) ?_
 refine stage_one 6 (by kernel_rfl) rfl ?_
 gi_wp2
 refine stage_post (isSame_below HB4.out (fun k hk=>hk)) ?_
 refine stage_one 7 (by kernel_rfl) rfl ?_
 gi_wp2
 refine stage_post (isSame_below HB4.out (fun k hk=>hk)) ?_
 refine stage_done (by kernel_rfl) ?_
 clear x0 x1 x2
 obtain ⟨x0,x1,x2⟩:=rows3 (P0.out.below HB4.out (by have:=HS.out;omega))
 have hd1:decide ((4000:Int) < (s3.size:Int))=false:=decide_eq_false (by omega)
 have hd2:decide ((4000:Int) < (s4.size:Int))=false:=decide_eq_false (by omega)
 have h49:(s4.toList==[49])=true:=by
  rw [HS4.out,Lib.toList_data]
  show (Lib.decDigits D==[49])=true
  rw [H3.out,dec_one];rfl
 have z3:¬ 9223372036854775807 < 1+s3.size:=by omega
 have z4:¬ 9223372036854775807 < 1+s3.size+1:=by omega
 have z5:¬ 9223372036854775807 < s3.size+1:=by omega
 have z6:¬ 9223372036854775807 < 1+s3.size+1+s4.size:=by omega
 have z7:¬ 9223372036854775807 < s3.size+1+s4.size:=by omega
 clear hz3 hz4
 gi_wp2
 refine bodyPost_ret (results_tmp2 rfl _ _ _) rfl ?_
 refine ⟨?_,HB.out.trans ((below_drew3 HB4.out).mono HB.out.size)⟩
 rw [HS3.out];rfl
theorem wq_f_frac (N D:Nat) (A A':Option Addr) (c c':Nat) (w:World) (hn:IsNatI w (.slice A (toL N).length c) N) (hd:IsNatI w (.slice A' (toL D).length c') D) (l1:(toL N).length≤40000) (l2:(toL D).length≤40000) (h1:Lib.nDigits N≤4000) (h2:Lib.nDigits D≤4000) (h3:D≠1) :
  Calls Tryz.prog 153 #[.agg #[.bool false,.slice A (toL N).length c,.slice A' (toL D).length c']] w fun e w'=>e=.returned (.tuple #[.string ⟨(Lib.decDigits N++47::Lib.decDigits D).toArray⟩,.int .i64 0])∧Below w.heap.size w w':=by
 have HN:=Lib.hid hn
 have HD:=Lib.hid hd
 clear hn hd
 have H3:=Lib.hid h3
 clear h3
 refine (callsIn_wide (n:=3)).1 ?_
 have h1:1≤3:=by omega
 have hmx:Tryz.prog.follows .mixedOrders=true:=by kernel_rfl
 refine callsIn_of_wp Tryz.func153 rfl trivial ?_ rfl
 simp only [Tryz.ntmps153,List.size_toArray,List.length_cons,List.length_nil,Nat.reduceAdd,Nat.reduceSub,Array.replicate_succ,Array.replicate_zero,List.push_toArray,List.append_toArray,List.nil_append,List.cons_append]
 gi_upto_region 1 with fail
 obtain ⟨b0,hB,hs⟩:=box1_blk w (.bool false) (.slice A (toL N).length c) (.slice A' (toL D).length c')
 generalize w.alloc (.cells #[.bool false,.slice A (toL N).length c,.slice A' (toL D).length c'] 170)=W at *
 obtain ⟨x0,x1,x2⟩:=same_cells (S:=fun k=>k < W.heap.size) b0 (by omega)
 have HB:=Lib.hid (below_drew hB)
 have HS:=Lib.hid hs
 have P0:=Lib.hid b0
 clear b0 hB hs
 refine wpIn_stage (IsSame W (fun k=>k < W.heap.size)) [0,1,3,4] [] hmx (by kernel_rfl) (isSame_of fun _ _=>rfl) ?_
 change wpStage _ _ _ _ _ _ _ _ (4+4) _ _ _
 refine stage_reads [0,1,3,4] 4 _ _ (by kernel_rfl) ?_
 change wpQuietIn _ _ _ _ (fun W'=>∃ x:SameAt W (fun k=>k < W.heap.size),W'=x.W) _ _ _
 simp only [pick_cons,pick_nil,List.getElem?_cons_zero,List.getElem?_cons_succ,Option.elim_some]
 repeat (gi_big_quiet_step (fail))
 refine wpQuietIn_nil ?_
 refine stage_one 2 (by kernel_rfl) rfl ?_
 gi_wp2
 refine ⟨trivial,?_⟩
 refine (callsIn_wide.2 (rwrite_is N _ W.drew (HN.out.below HB.out) l1)).mono ?_
 rintro e w3 ⟨s3,rfl,HS3,hz3,hb3⟩
 have hB3:Below W.heap.size W w3:=below_undrew hb3
 have HB3:=Lib.hid hB3
 clear hb3 hB3
 gi_wp2
 refine stage_post (isSame_below HB3.out (fun k hk=>hk)) ?_
 refine stage_one 5 (by kernel_rfl) rfl ?_
 gi_wp2
 refine ⟨trivial,?_⟩
 refine (callsIn_wide.2 (rwrite_is D _ w3 (HD.out.below (HB.out.trans ((below_drew3 HB3.out).mono HB.out.size))) l2)).mono ?_
 rintro e w4 ⟨s4,rfl,HS4,hz4,hb4⟩
 have hB4:Below W.heap.size W w4:=HB3.out.trans (hb4.mono HB3.out.size)
 have HB4:=Lib.hid hB4
 clear hb4 hB4
 gi_wp2
 refine stage_post (isSame_below HB4.out (fun k hk=>hk)) ?_
 refine stage_one 6 (by kernel_rfl) rfl ?_
 gi_wp2
 refine stage_post (isSame_below HB4.out (fun k hk=>hk)) ?_
 refine stage_one 7 (by kernel_rfl) rfl ?_
 gi_wp2
 refine stage_post (isSame_below HB4.out (fun k hk=>hk)) ?_
 refine stage_done (by kernel_rfl) ?_
 clear x0 x1 x2
 obtain ⟨x0,x1,x2⟩:=rows3 (P0.out.below HB4.out (by have:=HS.out;omega))
 have hd1:decide ((4000:Int) < (s3.size:Int))=false:=decide_eq_false (by omega)
 have hd2:decide ((4000:Int) < (s4.size:Int))=false:=decide_eq_false (by omega)
 have h49:(s4.toList==[49])=false:=by
  rw [HS4.out,Lib.toList_data]
  show (Lib.decDigits D==[49])=false
  rw [beq_eq_false_iff_ne]
  exact dec_ne_one H3.out
 have z3:¬ 9223372036854775807 < 1+s3.size:=by omega
 have z4:¬ 9223372036854775807 < 1+s3.size+1:=by omega
 have z5:¬ 9223372036854775807 < s3.size+1:=by omega
 have z6:¬ 9223372036854775807 < 1+s3.size+1+s4.size:=by omega
 have z7:¬ 9223372036854775807 < s3.size+1+s4.size:=by omega
 clear hz3 hz4
 gi_wp2
 refine bodyPost_ret (results_tmp2 rfl _ _ _) rfl ?_
 refine ⟨?_,HB.out.trans ((below_drew3 HB4.out).mono HB.out.size)⟩
 rw [HS3.out,HS4.out];exact congrArg (fun x=>Ending.returned (.tuple #[.string x,.int .i64 0])) (by rw [ba_add _ [47],ba_add,List.append_assoc];rfl)
theorem rwriteQ_any (q:Rat) (v:Value) (w:World) (h:IsQ w v q) (l1:(toL (nm q)).length≤40000) (l2:(toL q.den).length≤40000) :
  Calls Tryz.prog 153 #[v] w fun e w'=>e=.returned (resN (outQ q))∧Below w.heap.size w w':=by
 obtain ⟨b,N,D,A,c,A',c',rfl,hn,hd,HQ⟩:=isQ_open h
 obtain ⟨q1,q2,q3⟩:=HQ.out
 rw [← outP_q,q1,q2,q3]
 rw [q2] at l1
 rw [q3] at l2
 unfold outP maxD resN
 by_cases h1:4000 < Lib.nDigits N
 ·rw [if_pos (.inl h1)]
  cases b with
  | true=>exact wq_t_big1 N D A A' c c' w hn hd l1 l2 h1
  | false=>exact wq_f_big1 N D A A' c c' w hn hd l1 l2 h1
 ·by_cases h2:4000 < Lib.nDigits D
  ·rw [if_pos (.inr h2)]
   cases b with
   | true=>exact wq_t_big2 N D A A' c c' w hn hd l1 l2 (by omega) h2
   | false=>exact wq_f_big2 N D A A' c c' w hn hd l1 l2 (by omega) h2
  ·rw [if_neg (by omega)]
   unfold textP
   by_cases h3:D=1
   ·rw [if_pos h3,List.append_nil]
    cases b with
    | true=>exact wq_t_int N D A A' c c' w hn hd l1 l2 (by omega) (by omega) h3
    | false=>exact wq_f_int N D A A' c c' w hn hd l1 l2 (by omega) (by omega) h3
   ·rw [if_neg h3]
    cases b with
    | true=>exact wq_t_frac N D A A' c c' w hn hd l1 l2 (by omega) (by omega) h3
    | false=>exact wq_f_frac N D A A' c c' w hn hd l1 l2 (by omega) (by omega) h3
end Go.Proofs.YtigapglmipmbeaaGreatDoor
