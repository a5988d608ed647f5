/- frac.Add, Sub, Div (printed by mkfadd.py). rat: Add, Sub, Mul, Div, Neg, Abs, Inv, Check (printed by mkrat.py). rat: Div, Inv, Check, Make, Parts. rat.Pow. The reference of rational numbers: the form of texts. The reference's step: one limb of a quotient. The reference's Divide and Common. The reference's Read of a rational number (printed by mkread.py). The reference's Read of a rational number: what it returns; the reference's Check. The functions of rat on texts of numbers. -/
import Derived.Test.YtigapglmipmbeaaGreatDoorLwLedgerKnown05
import Derived.Test.YtigapglmipmbeaaGreatDoorLwLedgerKnown06
import Derived.Deep.CutBlock
import Derived.Test.YtigapglmipmbeaaGreatDoorLwLedgerKnown04
set_option maxRecDepth 100000
set_option maxHeartbeats 16000000
namespace Go.Proofs.YtigapglmipmbeaaGreatDoor
open Go.RowKit Go.Shelf
open Lim
attribute [local go_sem] Oper.semAt_some
theorem rows3 {w:World} {b:Nat} {t:TypeId} {x y z:Value} (h:Blk w b t #[x,y,z]):w.cell? ⟨b,0,none⟩=some x∧w.cell? ⟨b,1,none⟩=some y∧w.cell? ⟨b,2,none⟩=some z :=
 ⟨(cellrow h 0 (by simp)).1,(cellrow h 1 (by simp)).1,(cellrow h 2 (by simp)).1⟩
theorem sgn_neg_iff {a b:Nat}:sgn a b < 0↔a < b:=by
 unfold sgn
 split
 ·omega
 ·split<;>omega
theorem toL_add_le {x y k:Nat} (hx:(toL x).length≤k) (hy:(toL y).length≤k):(toL (x+y)).length≤k+1:=by
 refine toL_len_le ?_
 have h1:x < B ^ k:=Nat.lt_of_lt_of_le (toL_lt x) (Nat.pow_le_pow_right (by rw [B_val];omega) hx)
 have h2:y < B ^ k:=Nat.lt_of_lt_of_le (toL_lt y) (Nat.pow_le_pow_right (by rw [B_val];omega) hy)
 rw [Nat.pow_succ,B_val] at *
 omega
theorem fadd_same (m m':Bool) (n d n' d':Nat) (v v':Value) (w:World) (h:IsParts w v m n d) (h':IsParts w v' m' n' d') (hd0:d*d'≠0) (hm:m=m') (l1:(toL n).length≤10000) (l2:(toL d).length≤10000) (l3:(toL n').length≤10000) (l4:(toL d').length≤10000) :
  Calls Tryz.prog 190 #[v,v'] w fun e w'=>∃ v2,e=.returned v2∧IsFrac w' v2 (mkQ m (n*d'+n'*d) (d*d'))∧Below w.heap.size w w':=by
 obtain ⟨An,cn,Ad,cd,rfl,hn,hd⟩:=h
 obtain ⟨An',cn',Ad',cd',rfl,hn',hd'⟩:=h'
 have HN:=Lib.hid hn
 have HD:=Lib.hid hd
 have HN':=Lib.hid hn'
 have HD':=Lib.hid hd'
 have lx:=Nat.le_trans (toL_mul_len n d') (show _≤20000 by omega)
 have ly:=Nat.le_trans (toL_mul_len n' d) (show _≤20000 by omega)
 have ld:=Nat.le_trans (toL_mul_len d d') (show _≤20000 by omega)
 have HD0:=Lib.hid hd0
 clear hn hd hn' hd' hd0
 have hmm:(m==m')=true:=by rw [beq_iff_eq];exact hm
 clear hm
 refine (callsIn_wide (n:=3)).1 ?_
 have h1:1≤3:=by omega
 have hmx:Tryz.prog.follows .mixedOrders=true:=by kernel_rfl
 refine callsIn_of_wp Tryz.func190 rfl trivial ?_ rfl
 simp only [Tryz.ntmps190,List.size_toArray,List.length_cons,List.length_nil,Nat.reduceAdd,Nat.reduceSub,Array.replicate_succ,Array.replicate_zero,List.push_toArray,List.append_toArray,List.nil_append,List.cons_append]
 gi_upto_region 1 with fail
 obtain ⟨b0,b1,b2,hB,hs⟩:=box2_res w (.bool m) (.slice An (toL n).length cn) (.slice Ad (toL d).length cd) (.bool m') (.slice An' (toL n').length cn') (.slice Ad' (toL d').length cd')
 generalize ((w.alloc (.cells #[.bool m,.slice An (toL n).length cn,.slice Ad (toL d).length cd] 216)).alloc (.cells #[.bool m',.slice An' (toL n').length cn',.slice Ad' (toL d').length cd'] 216)).alloc zF=W at *
 obtain ⟨x0,x1,x2⟩:=same_cells (S:=fun k=>k < W.heap.size∧k≠w.heap.size+1+1) b0 ⟨by omega,by omega⟩
 obtain ⟨y0,y1,y2⟩:=same_cells (S:=fun k=>k < W.heap.size∧k≠w.heap.size+1+1) b1 ⟨by omega,by omega⟩
 have HB:=Lib.hid (below_drew hB)
 have HS:=Lib.hid hs
 have P0:=Lib.hid b0
 have P1:=Lib.hid b1
 have P2:=Lib.hid b2
 clear b0 b1 b2 hB hs
 refine wpIn_stage (IsSame W (fun k=>k < W.heap.size∧k≠w.heap.size+1+1)) [0,1,2,3,5,6,7,8,10,11] [] hmx (by kernel_rfl) (isSame_of fun _ _=>rfl) ?_
 change wpStage _ _ _ _ _ _ _ _ (4+8) _ _ _
 refine stage_reads [0,1,2,3,5,6,7,8] 4 _ _ (by kernel_rfl) ?_
 change wpQuietIn _ _ _ _ (fun W'=>∃ x:SameAt W (fun k=>k < W.heap.size∧k≠w.heap.size+1+1),W'=x.W) _ _ _
 simp only [pick_cons,pick_nil,List.getElem?_cons_zero,List.getElem?_cons_succ,Option.elim_some]
 repeat (gi_big_quiet_step (fail))
 refine wpQuietIn_nil ?_
 refine stage_one 4 (by kernel_rfl) rfl ?_
 gi_wp2
 refine ⟨trivial,?_⟩
 refine (callsIn_wide.2 (mul_any n d' _ _ W.drew (HN.out.below HB.out) (HD'.out.below HB.out) (by omega) (by omega))).mono ?_
 rintro e w3 ⟨v3,rfl,hv3,hb3⟩
 obtain ⟨A3,c3,rfl,_,_,_⟩:=id hv3
 have HV3:=Lib.hid hv3
 have HB3:=Lib.hid (below_undrew hb3)
 clear hv3 hb3
 gi_wp2
 refine stage_post (isSame_below HB3.out (fun k hk=>hk.1)) ?_
 refine stage_one 9 (by kernel_rfl) rfl ?_
 gi_wp2
 refine ⟨trivial,?_⟩
 refine (callsIn_wide.2 (mul_any n' d _ _ w3 (HN'.out.below (HB.out.trans ((below_drew3 HB3.out).mono HB.out.size))) (HD.out.below (HB.out.trans ((below_drew3 HB3.out).mono HB.out.size))) (by omega) (by omega))).mono ?_
 rintro e w4 ⟨v4,rfl,hv4,hb4⟩
 obtain ⟨A4,c4,rfl,_,_,_⟩:=id hv4
 have HV4:=Lib.hid hv4
 have HV3:=Lib.hid (HV3.out.below hb4)
 have hB4:Below W.heap.size W w4:=HB3.out.trans (hb4.mono HB3.out.size)
 have HB4:=Lib.hid hB4
 clear hv4 hb4 hB4
 gi_wp2
 refine stage_post (isSame_below HB4.out (fun k hk=>hk.1)) ?_
 change wpStage _ _ _ _ _ _ _ _ (0+2) _ _ _
 refine stage_reads [10,11] 0 _ _ (by kernel_rfl) ?_
 change wpQuietIn _ _ _ _ (fun W'=>∃ x:SameAt W (fun k=>k < W.heap.size∧k≠w.heap.size+1+1),W'=x.W) _ _ _
 simp only [pick_cons,pick_nil,List.getElem?_cons_zero,List.getElem?_cons_succ,Option.elim_some]
 repeat (gi_big_quiet_step (fail))
 refine wpQuietIn_nil ?_
 refine stage_done (by kernel_rfl) ?_
 clear x0 x1 x2 y0 y1 y2
 have hsz:=HS.out
 obtain ⟨x0,x1,x2⟩:=rows3 (P0.out.below HB4.out (by omega))
 obtain ⟨y0,y1,y2⟩:=rows3 (P1.out.below HB4.out (by omega))
 clear hsz
 gi_upto_region 3 with fail
 have HB40:=Lib.hid (HB.out.trans ((below_drew3 HB4.out).mono HB.out.size))
 refine ⟨trivial,?_⟩
 refine (callsIn_wide.2 (mul_any d d' _ _ w4 (HD.out.below HB40.out) (HD'.out.below HB40.out) (by omega) (by omega))).mono ?_
 rintro e w5 ⟨v5,rfl,hv5,hb5⟩
 obtain ⟨A5,c5,rfl,_,_,_⟩:=id hv5
 have HV5:=Lib.hid hv5
 have HV3:=Lib.hid (HV3.out.below hb5)
 have HV4:=Lib.hid (HV4.out.below hb5)
 have hB5:Below W.heap.size W w5:=HB4.out.trans (hb5.mono HB4.out.size)
 have HB5:=Lib.hid hB5
 clear hv5 hb5 hB5 x0 x1 x2 y0 y1 y2
 gi_upto_region 4 with fail
 refine ⟨trivial,?_⟩
 refine (callsIn_wide.2 (cmp_any (n*d') (n'*d) _ _ w5 HV3.out HV4.out (by omega))).mono ?_
 rintro e w6 ⟨rfl,hb6⟩
 have HV3:=Lib.hid (HV3.out.below hb6)
 have HV4:=Lib.hid (HV4.out.below hb6)
 have HV5:=Lib.hid (HV5.out.below hb6)
 have hB6:Below W.heap.size W w6:=HB5.out.trans (hb6.mono HB5.out.size)
 have HB6:=Lib.hid hB6
 clear hb6 hB6
 have hsz:=HS.out
 have Q0:=Lib.hid (P0.out.below HB6.out (by omega))
 have Q1:=Lib.hid (P1.out.below HB6.out (by omega))
 have Q2:=Lib.hid (P2.out.below HB6.out (by omega))
 have h62:=HB6.out.size
 clear hsz
 obtain ⟨x0,x1,x2⟩:=rows3 Q0.out
 obtain ⟨y0,y1,y2⟩:=rows3 Q1.out
 gi_upto_region 6 with fail
 clear x0 x1 x2 y0 y1 y2
 have hsz:=HS.out
 obtain ⟨x0,x1,x2⟩:=same_cells (S:=fun k=>k < w6.heap.size∧k≠w.heap.size+1+1) Q0.out ⟨by omega,by omega⟩
 obtain ⟨y0,y1,y2⟩:=same_cells (S:=fun k=>k < w6.heap.size∧k≠w.heap.size+1+1) Q1.out ⟨by omega,by omega⟩
 clear hsz
 refine wpIn_stage (IsSame w6 (fun k=>k < w6.heap.size∧k≠w.heap.size+1+1)) [0,1,2,3,5] [] hmx (by kernel_rfl) (isSame_of fun _ _=>rfl) ?_
 change wpStage _ _ _ _ _ _ _ _ (3+5) _ _ _
 refine stage_reads [0,1,2,3,5] 3 _ _ (by kernel_rfl) ?_
 change wpQuietIn _ _ _ _ (fun W'=>∃ x:SameAt w6 (fun k=>k < w6.heap.size∧k≠w.heap.size+1+1),W'=x.W) _ _ _
 simp only [pick_cons,pick_nil,List.getElem?_cons_zero,List.getElem?_cons_succ,Option.elim_some]
 repeat (gi_big_quiet_step (fail))
 refine wpQuietIn_nil ?_
 refine stage_one 4 (by kernel_rfl) rfl ?_
 gi_wp2
 refine ⟨trivial,?_⟩
 refine (callsIn_wide.2 (add_any (n*d') (n'*d) _ _ w6.drew HV3.out HV4.out (by omega) (by omega))).mono ?_
 rintro e w7 ⟨v7,rfl,hv7,hb7⟩
 have HV7:=Lib.hid hv7
 have HB7:=Lib.hid (below_undrew hb7)
 clear hv7 hb7
 gi_wp2
 refine stage_post (isSame_below HB7.out (fun k hk=>hk.1)) ?_
 refine stage_one 6 (by kernel_rfl) rfl ?_
 gi_wp2
 refine ⟨trivial,?_⟩
 refine (callsIn_wide.2 (fmake_any m _ (d*d') _ _ w7 HV7.out (HV5.out.below HB7.out) HD0.out (Nat.le_trans (toL_add_le lx ly) (by omega)) (by omega))).mono ?_
 rintro e w8 ⟨v8,rfl,hv8,hb8⟩
 obtain ⟨b8,N8,D8,A8,c8,A8',c8',rfl,hn8,hd8,HP8⟩:=isFrac_open hv8
 clear hv8
 have hb78:Below w6.heap.size w6 w8:=HB7.out.trans (hb8.mono HB7.out.size)
 have hsz:=HS.out
 obtain ⟨HR8,r0,s0,r1,s1,r2,s2⟩:=res_rows Q2.out hb78 (by omega)
 have HN8:=Lib.hid hn8
 have HD8:=Lib.hid hd8
 have HB78:=Lib.hid hb78
 clear hn8 hd8 hb8 hb78 hsz
 gi_wp2
 refine stage_post (isSame_below HB78.out (fun k hk=>hk.1)) ?_
 refine stage_one 7 (by kernel_rfl) rfl ?_
 gi_wp2
 refine stage_post (isSame_of fun k hk=>(set3_heap k hk.2).trans (HB78.out.block k hk.1)) ?_
 refine stage_done (by kernel_rfl) ?_
 gi_wp2
 have hsz:=HS.out
 refine ret_frac rfl rfl (by simp) (set3 HR8.out) ⟨_,rfl,?_,?_⟩
 ·exact isFrac_close HP8 (isParts_mk (isNat_set3 HN8.out HR8.out) (isNat_set3 HD8.out HR8.out))
 ·refine set3_below (g:=w.heap.size+1+1) (HB.out.trans ((below_drew3 (HB6.out.trans (HB78.out.mono ?_))).mono ?_)) (by omega)
  ·exact HB6.out.size
  ·exact HB.out.size
theorem fadd_less (m m':Bool) (n d n' d':Nat) (v v':Value) (w:World) (h:IsParts w v m n d) (h':IsParts w v' m' n' d') (hd0:d*d'≠0) (hm:m≠m') (hlt:n*d' < n'*d) (l1:(toL n).length≤10000) (l2:(toL d).length≤10000) (l3:(toL n').length≤10000) (l4:(toL d').length≤10000) :
  Calls Tryz.prog 190 #[v,v'] w fun e w'=>∃ v2,e=.returned v2∧IsFrac w' v2 (mkQ m' (n'*d - n*d') (d*d'))∧Below w.heap.size w w':=by
 obtain ⟨An,cn,Ad,cd,rfl,hn,hd⟩:=h
 obtain ⟨An',cn',Ad',cd',rfl,hn',hd'⟩:=h'
 have HN:=Lib.hid hn
 have HD:=Lib.hid hd
 have HN':=Lib.hid hn'
 have HD':=Lib.hid hd'
 have lx:=Nat.le_trans (toL_mul_len n d') (show _≤20000 by omega)
 have ly:=Nat.le_trans (toL_mul_len n' d) (show _≤20000 by omega)
 have ld:=Nat.le_trans (toL_mul_len d d') (show _≤20000 by omega)
 have HD0:=Lib.hid hd0
 clear hn hd hn' hd' hd0
 have hmm:(m==m')=false:=by rw [beq_eq_false_iff_ne];exact hm
 have hsg:decide (sgn (n*d') (n'*d) < 0)=true:=decide_eq_true (sgn_neg_iff.2 hlt)
 have HLT:=Lib.hid hlt
 clear hm hlt
 refine (callsIn_wide (n:=3)).1 ?_
 have h1:1≤3:=by omega
 have hmx:Tryz.prog.follows .mixedOrders=true:=by kernel_rfl
 refine callsIn_of_wp Tryz.func190 rfl trivial ?_ rfl
 simp only [Tryz.ntmps190,List.size_toArray,List.length_cons,List.length_nil,Nat.reduceAdd,Nat.reduceSub,Array.replicate_succ,Array.replicate_zero,List.push_toArray,List.append_toArray,List.nil_append,List.cons_append]
 gi_upto_region 1 with fail
 obtain ⟨b0,b1,b2,hB,hs⟩:=box2_res w (.bool m) (.slice An (toL n).length cn) (.slice Ad (toL d).length cd) (.bool m') (.slice An' (toL n').length cn') (.slice Ad' (toL d').length cd')
 generalize ((w.alloc (.cells #[.bool m,.slice An (toL n).length cn,.slice Ad (toL d).length cd] 216)).alloc (.cells #[.bool m',.slice An' (toL n').length cn',.slice Ad' (toL d').length cd'] 216)).alloc zF=W at *
 obtain ⟨x0,x1,x2⟩:=same_cells (S:=fun k=>k < W.heap.size∧k≠w.heap.size+1+1) b0 ⟨by omega,by omega⟩
 obtain ⟨y0,y1,y2⟩:=same_cells (S:=fun k=>k < W.heap.size∧k≠w.heap.size+1+1) b1 ⟨by omega,by omega⟩
 have HB:=Lib.hid (below_drew hB)
 have HS:=Lib.hid hs
 have P0:=Lib.hid b0
 have P1:=Lib.hid b1
 have P2:=Lib.hid b2
 clear b0 b1 b2 hB hs
 refine wpIn_stage (IsSame W (fun k=>k < W.heap.size∧k≠w.heap.size+1+1)) [0,1,2,3,5,6,7,8,10,11] [] hmx (by kernel_rfl) (isSame_of fun _ _=>rfl) ?_
 change wpStage _ _ _ _ _ _ _ _ (4+8) _ _ _
 refine stage_reads [0,1,2,3,5,6,7,8] 4 _ _ (by kernel_rfl) ?_
 change wpQuietIn _ _ _ _ (fun W'=>∃ x:SameAt W (fun k=>k < W.heap.size∧k≠w.heap.size+1+1),W'=x.W) _ _ _
 simp only [pick_cons,pick_nil,List.getElem?_cons_zero,List.getElem?_cons_succ,Option.elim_some]
 repeat (gi_big_quiet_step (fail))
 refine wpQuietIn_nil ?_
 refine stage_one 4 (by kernel_rfl) rfl ?_
 gi_wp2
 refine ⟨trivial,?_⟩
 refine (callsIn_wide.2 (mul_any n d' _ _ W.drew (HN.out.below HB.out) (HD'.out.below HB.out) (by omega) (by omega))).mono ?_
 rintro e w3 ⟨v3,rfl,hv3,hb3⟩
 obtain ⟨A3,c3,rfl,_,_,_⟩:=id hv3
 have HV3:=Lib.hid hv3
 have HB3:=Lib.hid (below_undrew hb3)
 clear hv3 hb3
 gi_wp2
 refine stage_post (isSame_below HB3.out (fun k hk=>hk.1)) ?_
 refine stage_one 9 (by kernel_rfl) rfl ?_
 gi_wp2
 refine ⟨trivial,?_⟩
 refine (callsIn_wide.2 (mul_any n' d _ _ w3 (HN'.out.below (HB.out.trans ((below_drew3 HB3.out).mono HB.out.size))) (HD.out.below (HB.out.trans ((below_drew3 HB3.out).mono HB.out.size))) (by omega) (by omega))).mono ?_
 rintro e w4 ⟨v4,rfl,hv4,hb4⟩
 obtain ⟨A4,c4,rfl,_,_,_⟩:=id hv4
 have HV4:=Lib.hid hv4
 have HV3:=Lib.hid (HV3.out.below hb4)
 have hB4:Below W.heap.size W w4:=HB3.out.trans (hb4.mono HB3.out.size)
 have HB4:=Lib.hid hB4
 clear hv4 hb4 hB4
 gi_wp2
 refine stage_post (isSame_below HB4.out (fun k hk=>hk.1)) ?_
 change wpStage _ _ _ _ _ _ _ _ (0+2) _ _ _
 refine stage_reads [10,11] 0 _ _ (by kernel_rfl) ?_
 change wpQuietIn _ _ _ _ (fun W'=>∃ x:SameAt W (fun k=>k < W.heap.size∧k≠w.heap.size+1+1),W'=x.W) _ _ _
 simp only [pick_cons,pick_nil,List.getElem?_cons_zero,List.getElem?_cons_succ,Option.elim_some]
 repeat (gi_big_quiet_step (fail))
 refine wpQuietIn_nil ?_
 refine stage_done (by kernel_rfl) ?_
 clear x0 x1 x2 y0 y1 y2
 have hsz:=HS.out
 obtain ⟨x0,x1,x2⟩:=rows3 (P0.out.below HB4.out (by omega))
 obtain ⟨y0,y1,y2⟩:=rows3 (P1.out.below HB4.out (by omega))
 clear hsz
 gi_upto_region 3 with fail
 have HB40:=Lib.hid (HB.out.trans ((below_drew3 HB4.out).mono HB.out.size))
 refine ⟨trivial,?_⟩
 refine (callsIn_wide.2 (mul_any d d' _ _ w4 (HD.out.below HB40.out) (HD'.out.below HB40.out) (by omega) (by omega))).mono ?_
 rintro e w5 ⟨v5,rfl,hv5,hb5⟩
 obtain ⟨A5,c5,rfl,_,_,_⟩:=id hv5
 have HV5:=Lib.hid hv5
 have HV3:=Lib.hid (HV3.out.below hb5)
 have HV4:=Lib.hid (HV4.out.below hb5)
 have hB5:Below W.heap.size W w5:=HB4.out.trans (hb5.mono HB4.out.size)
 have HB5:=Lib.hid hB5
 clear hv5 hb5 hB5 x0 x1 x2 y0 y1 y2
 gi_upto_region 4 with fail
 refine ⟨trivial,?_⟩
 refine (callsIn_wide.2 (cmp_any (n*d') (n'*d) _ _ w5 HV3.out HV4.out (by omega))).mono ?_
 rintro e w6 ⟨rfl,hb6⟩
 have HV3:=Lib.hid (HV3.out.below hb6)
 have HV4:=Lib.hid (HV4.out.below hb6)
 have HV5:=Lib.hid (HV5.out.below hb6)
 have hB6:Below W.heap.size W w6:=HB5.out.trans (hb6.mono HB5.out.size)
 have HB6:=Lib.hid hB6
 clear hb6 hB6
 have hsz:=HS.out
 have Q0:=Lib.hid (P0.out.below HB6.out (by omega))
 have Q1:=Lib.hid (P1.out.below HB6.out (by omega))
 have Q2:=Lib.hid (P2.out.below HB6.out (by omega))
 have h62:=HB6.out.size
 clear hsz
 obtain ⟨x0,x1,x2⟩:=rows3 Q0.out
 obtain ⟨y0,y1,y2⟩:=rows3 Q1.out
 gi_upto_region 8 with fail
 clear x0 x1 x2 y0 y1 y2
 have hsz:=HS.out
 obtain ⟨x0,x1,x2⟩:=same_cells (S:=fun k=>k < w6.heap.size∧k≠w.heap.size+1+1) Q0.out ⟨by omega,by omega⟩
 obtain ⟨y0,y1,y2⟩:=same_cells (S:=fun k=>k < w6.heap.size∧k≠w.heap.size+1+1) Q1.out ⟨by omega,by omega⟩
 clear hsz
 refine wpIn_stage (IsSame w6 (fun k=>k < w6.heap.size∧k≠w.heap.size+1+1)) [0,1,2,3,5] [] hmx (by kernel_rfl) (isSame_of fun _ _=>rfl) ?_
 change wpStage _ _ _ _ _ _ _ _ (3+5) _ _ _
 refine stage_reads [0,1,2,3,5] 3 _ _ (by kernel_rfl) ?_
 change wpQuietIn _ _ _ _ (fun W'=>∃ x:SameAt w6 (fun k=>k < w6.heap.size∧k≠w.heap.size+1+1),W'=x.W) _ _ _
 simp only [pick_cons,pick_nil,List.getElem?_cons_zero,List.getElem?_cons_succ,Option.elim_some]
 repeat (gi_big_quiet_step (fail))
 refine wpQuietIn_nil ?_
 refine stage_one 4 (by kernel_rfl) rfl ?_
 gi_wp2
 refine ⟨trivial,?_⟩
 refine (callsIn_wide.2 (sub_any (n'*d) (n*d') _ _ w6.drew HV4.out HV3.out (Nat.le_of_lt HLT.out) (by omega))).mono ?_
 rintro e w7 ⟨v7,rfl,hv7,hb7⟩
 have HV7:=Lib.hid hv7
 have HB7:=Lib.hid (below_undrew hb7)
 clear hv7 hb7
 gi_wp2
 refine stage_post (isSame_below HB7.out (fun k hk=>hk.1)) ?_
 refine stage_one 6 (by kernel_rfl) rfl ?_
 gi_wp2
 refine ⟨trivial,?_⟩
 refine (callsIn_wide.2 (fmake_any m' _ (d*d') _ _ w7 HV7.out (HV5.out.below HB7.out) HD0.out (Nat.le_trans (toL_len_mono (Nat.sub_le _ _)) (by omega)) (by omega))).mono ?_
 rintro e w8 ⟨v8,rfl,hv8,hb8⟩
 obtain ⟨b8,N8,D8,A8,c8,A8',c8',rfl,hn8,hd8,HP8⟩:=isFrac_open hv8
 clear hv8
 have hb78:Below w6.heap.size w6 w8:=HB7.out.trans (hb8.mono HB7.out.size)
 have hsz:=HS.out
 obtain ⟨HR8,r0,s0,r1,s1,r2,s2⟩:=res_rows Q2.out hb78 (by omega)
 have HN8:=Lib.hid hn8
 have HD8:=Lib.hid hd8
 have HB78:=Lib.hid hb78
 clear hn8 hd8 hb8 hb78 hsz
 gi_wp2
 refine stage_post (isSame_below HB78.out (fun k hk=>hk.1)) ?_
 refine stage_one 7 (by kernel_rfl) rfl ?_
 gi_wp2
 refine stage_post (isSame_of fun k hk=>(set3_heap k hk.2).trans (HB78.out.block k hk.1)) ?_
 refine stage_done (by kernel_rfl) ?_
 gi_wp2
 have hsz:=HS.out
 refine ret_frac rfl rfl (by simp) (set3 HR8.out) ⟨_,rfl,?_,?_⟩
 ·exact isFrac_close HP8 (isParts_mk (isNat_set3 HN8.out HR8.out) (isNat_set3 HD8.out HR8.out))
 ·refine set3_below (g:=w.heap.size+1+1) (HB.out.trans ((below_drew3 (HB6.out.trans (HB78.out.mono ?_))).mono ?_)) (by omega)
  ·exact HB6.out.size
  ·exact HB.out.size
theorem fadd_more (m m':Bool) (n d n' d':Nat) (v v':Value) (w:World) (h:IsParts w v m n d) (h':IsParts w v' m' n' d') (hd0:d*d'≠0) (hm:m≠m') (hlt:¬ n*d' < n'*d) (l1:(toL n).length≤10000) (l2:(toL d).length≤10000) (l3:(toL n').length≤10000) (l4:(toL d').length≤10000) :
  Calls Tryz.prog 190 #[v,v'] w fun e w'=>∃ v2,e=.returned v2∧IsFrac w' v2 (mkQ m (n*d' - n'*d) (d*d'))∧Below w.heap.size w w':=by
 obtain ⟨An,cn,Ad,cd,rfl,hn,hd⟩:=h
 obtain ⟨An',cn',Ad',cd',rfl,hn',hd'⟩:=h'
 have HN:=Lib.hid hn
 have HD:=Lib.hid hd
 have HN':=Lib.hid hn'
 have HD':=Lib.hid hd'
 have lx:=Nat.le_trans (toL_mul_len n d') (show _≤20000 by omega)
 have ly:=Nat.le_trans (toL_mul_len n' d) (show _≤20000 by omega)
 have ld:=Nat.le_trans (toL_mul_len d d') (show _≤20000 by omega)
 have HD0:=Lib.hid hd0
 clear hn hd hn' hd' hd0
 have hmm:(m==m')=false:=by rw [beq_eq_false_iff_ne];exact hm
 have hsg:decide (sgn (n*d') (n'*d) < 0)=false:=decide_eq_false (fun h=>hlt (sgn_neg_iff.1 h))
 have HLT:=Lib.hid hlt
 clear hm hlt
 refine (callsIn_wide (n:=3)).1 ?_
 have h1:1≤3:=by omega
 have hmx:Tryz.prog.follows .mixedOrders=true:=by kernel_rfl
 refine callsIn_of_wp Tryz.func190 rfl trivial ?_ rfl
 simp only [Tryz.ntmps190,List.size_toArray,List.length_cons,List.length_nil,Nat.reduceAdd,Nat.reduceSub,Array.replicate_succ,Array.replicate_zero,List.push_toArray,List.append_toArray,List.nil_append,List.cons_append]
 gi_upto_region 1 with fail
 obtain ⟨b0,b1,b2,hB,hs⟩:=box2_res w (.bool m) (.slice An (toL n).length cn) (.slice Ad (toL d).length cd) (.bool m') (.slice An' (toL n').length cn') (.slice Ad' (toL d').length cd')
 generalize ((w.alloc (.cells #[.bool m,.slice An (toL n).length cn,.slice Ad (toL d).length cd] 216)).alloc (.cells #[.bool m',.slice An' (toL n').length cn',.slice Ad' (toL d').length cd'] 216)).alloc zF=W at *
 obtain ⟨x0,x1,x2⟩:=same_cells (S:=fun k=>k < W.heap.size∧k≠w.heap.size+1+1) b0 ⟨by omega,by omega⟩
 obtain ⟨y0,y1,y2⟩:=same_cells (S:=fun k=>k < W.heap.size∧k≠w.heap.size+1+1) b1 ⟨by omega,by omega⟩
 have HB:=Lib.hid (below_drew hB)
 have HS:=Lib.hid hs
 have P0:=Lib.hid b0
 have P1:=Lib.hid b1
 have P2:=Lib.hid b2
 clear b0 b1 b2 hB hs
 refine wpIn_stage (IsSame W (fun k=>k < W.heap.size∧k≠w.heap.size+1+1)) [0,1,2,3,5,6,7,8,10,11] [] hmx (by kernel_rfl) (isSame_of fun _ _=>rfl) ?_
 change wpStage _ _ _ _ _ _ _ _ (4+8) _ _ _
 refine stage_reads [0,1,2,3,5,6,7,8] 4 _ _ (by kernel_rfl) ?_
 change wpQuietIn _ _ _ _ (fun W'=>∃ x:SameAt W (fun k=>k < W.heap.size∧k≠w.heap.size+1+1),W'=x.W) _ _ _
 simp only [pick_cons,pick_nil,List.getElem?_cons_zero,List.getElem?_cons_succ,Option.elim_some]
 repeat (gi_big_quiet_step (fail))
 refine wpQuietIn_nil ?_
 refine stage_one 4 (by kernel_rfl) rfl ?_
 gi_wp2
 refine ⟨trivial,?_⟩
 refine (callsIn_wide.2 (mul_any n d' _ _ W.drew (HN.out.below HB.out) (HD'.out.below HB.out) (by omega) (by omega))).mono ?_
 rintro e w3 ⟨v3,rfl,hv3,hb3⟩
 obtain ⟨A3,c3,rfl,_,_,_⟩:=id hv3
 have HV3:=Lib.hid hv3
 have HB3:=Lib.hid (below_undrew hb3)
 clear hv3 hb3
 gi_wp2
 refine stage_post (isSame_below HB3.out (fun k hk=>hk.1)) ?_
 refine stage_one 9 (by kernel_rfl) rfl ?_
 gi_wp2
 refine ⟨trivial,?_⟩
 refine (callsIn_wide.2 (mul_any n' d _ _ w3 (HN'.out.below (HB.out.trans ((below_drew3 HB3.out).mono HB.out.size))) (HD.out.below (HB.out.trans ((below_drew3 HB3.out).mono HB.out.size))) (by omega) (by omega))).mono ?_
 rintro e w4 ⟨v4,rfl,hv4,hb4⟩
 obtain ⟨A4,c4,rfl,_,_,_⟩:=id hv4
 have HV4:=Lib.hid hv4
 have HV3:=Lib.hid (HV3.out.below hb4)
 have hB4:Below W.heap.size W w4:=HB3.out.trans (hb4.mono HB3.out.size)
 have HB4:=Lib.hid hB4
 clear hv4 hb4 hB4
 gi_wp2
 refine stage_post (isSame_below HB4.out (fun k hk=>hk.1)) ?_
 change wpStage _ _ _ _ _ _ _ _ (0+2) _ _ _
 refine stage_reads [10,11] 0 _ _ (by kernel_rfl) ?_
 change wpQuietIn _ _ _ _ (fun W'=>∃ x:SameAt W (fun k=>k < W.heap.size∧k≠w.heap.size+1+1),W'=x.W) _ _ _
 simp only [pick_cons,pick_nil,List.getElem?_cons_zero,List.getElem?_cons_succ,Option.elim_some]
 repeat (gi_big_quiet_step (fail))
 refine wpQuietIn_nil ?_
 refine stage_done (by kernel_rfl) ?_
 clear x0 x1 x2 y0 y1 y2
 have hsz:=HS.out
 obtain ⟨x0,x1,x2⟩:=rows3 (P0.out.below HB4.out (by omega))
 obtain ⟨y0,y1,y2⟩:=rows3 (P1.out.below HB4.out (by omega))
 clear hsz
 gi_upto_region 3 with fail
 have HB40:=Lib.hid (HB.out.trans ((below_drew3 HB4.out).mono HB.out.size))
 refine ⟨trivial,?_⟩
 refine (callsIn_wide.2 (mul_any d d' _ _ w4 (HD.out.below HB40.out) (HD'.out.below HB40.out) (by omega) (by omega))).mono ?_
 rintro e w5 ⟨v5,rfl,hv5,hb5⟩
 obtain ⟨A5,c5,rfl,_,_,_⟩:=id hv5
 have HV5:=Lib.hid hv5
 have HV3:=Lib.hid (HV3.out.below hb5)
 have HV4:=Lib.hid (HV4.out.below hb5)
 have hB5:Below W.heap.size W w5:=HB4.out.trans (hb5.mono HB4.out.size)
 have HB5:=Lib.hid hB5
 clear hv5 hb5 hB5 x0 x1 x2 y0 y1 y2
 gi_upto_region 4 with fail
 refine ⟨trivial,?_⟩
 refine (callsIn_wide.2 (cmp_any (n*d') (n'*d) _ _ w5 HV3.out HV4.out (by omega))).mono ?_
 rintro e w6 ⟨rfl,hb6⟩
 have HV3:=Lib.hid (HV3.out.below hb6)
 have HV4:=Lib.hid (HV4.out.below hb6)
 have HV5:=Lib.hid (HV5.out.below hb6)
 have hB6:Below W.heap.size W w6:=HB5.out.trans (hb6.mono HB5.out.size)
 have HB6:=Lib.hid hB6
 clear hb6 hB6
 have hsz:=HS.out
 have Q0:=Lib.hid (P0.out.below HB6.out (by omega))
 have Q1:=Lib.hid (P1.out.below HB6.out (by omega))
 have Q2:=Lib.hid (P2.out.below HB6.out (by omega))
 have h62:=HB6.out.size
 clear hsz
 obtain ⟨x0,x1,x2⟩:=rows3 Q0.out
 obtain ⟨y0,y1,y2⟩:=rows3 Q1.out
 gi_upto_region 4 with fail
 clear x0 x1 x2 y0 y1 y2
 have hsz:=HS.out
 obtain ⟨x0,x1,x2⟩:=same_cells (S:=fun k=>k < w6.heap.size∧k≠w.heap.size+1+1) Q0.out ⟨by omega,by omega⟩
 obtain ⟨y0,y1,y2⟩:=same_cells (S:=fun k=>k < w6.heap.size∧k≠w.heap.size+1+1) Q1.out ⟨by omega,by omega⟩
 clear hsz
 refine wpIn_stage (IsSame w6 (fun k=>k < w6.heap.size∧k≠w.heap.size+1+1)) [0,1,2,3,5] [] hmx (by kernel_rfl) (isSame_of fun _ _=>rfl) ?_
 change wpStage _ _ _ _ _ _ _ _ (3+5) _ _ _
 refine stage_reads [0,1,2,3,5] 3 _ _ (by kernel_rfl) ?_
 change wpQuietIn _ _ _ _ (fun W'=>∃ x:SameAt w6 (fun k=>k < w6.heap.size∧k≠w.heap.size+1+1),W'=x.W) _ _ _
 simp only [pick_cons,pick_nil,List.getElem?_cons_zero,List.getElem?_cons_succ,Option.elim_some]
 repeat (gi_big_quiet_step (fail))
 refine wpQuietIn_nil ?_
 refine stage_one 4 (by kernel_rfl) rfl ?_
 gi_wp2
 refine ⟨trivial,?_⟩
 refine (callsIn_wide.2 (sub_any (n*d') (n'*d) _ _ w6.drew HV3.out HV4.out (Nat.le_of_not_lt HLT.out) (by omega))).mono ?_
 rintro e w7 ⟨v7,rfl,hv7,hb7⟩
 have HV7:=Lib.hid hv7
 have HB7:=Lib.hid (below_undrew hb7)
 clear hv7 hb7
 gi_wp2
 refine stage_post (isSame_below HB7.out (fun k hk=>hk.1)) ?_
 refine stage_one 6 (by kernel_rfl) rfl ?_
 gi_wp2
 refine ⟨trivial,?_⟩
 refine (callsIn_wide.2 (fmake_any m _ (d*d') _ _ w7 HV7.out (HV5.out.below HB7.out) HD0.out (Nat.le_trans (toL_len_mono (Nat.sub_le _ _)) (by omega)) (by omega))).mono ?_
 rintro e w8 ⟨v8,rfl,hv8,hb8⟩
 obtain ⟨b8,N8,D8,A8,c8,A8',c8',rfl,hn8,hd8,HP8⟩:=isFrac_open hv8
 clear hv8
 have hb78:Below w6.heap.size w6 w8:=HB7.out.trans (hb8.mono HB7.out.size)
 have hsz:=HS.out
 obtain ⟨HR8,r0,s0,r1,s1,r2,s2⟩:=res_rows Q2.out hb78 (by omega)
 have HN8:=Lib.hid hn8
 have HD8:=Lib.hid hd8
 have HB78:=Lib.hid hb78
 clear hn8 hd8 hb8 hb78 hsz
 gi_wp2
 refine stage_post (isSame_below HB78.out (fun k hk=>hk.1)) ?_
 refine stage_one 7 (by kernel_rfl) rfl ?_
 gi_wp2
 refine stage_post (isSame_of fun k hk=>(set3_heap k hk.2).trans (HB78.out.block k hk.1)) ?_
 refine stage_done (by kernel_rfl) ?_
 gi_wp2
 have hsz:=HS.out
 refine ret_frac rfl rfl (by simp) (set3 HR8.out) ⟨_,rfl,?_,?_⟩
 ·exact isFrac_close HP8 (isParts_mk (isNat_set3 HN8.out HR8.out) (isNat_set3 HD8.out HR8.out))
 ·refine set3_below (g:=w.heap.size+1+1) (HB.out.trans ((below_drew3 (HB6.out.trans (HB78.out.mono ?_))).mono ?_)) (by omega)
  ·exact HB6.out.size
  ·exact HB.out.size
theorem fadd_any (a b:Rat) (v v':Value) (w:World) (h:IsFrac w v a) (h':IsFrac w v' b) (l1:(toL (nm a)).length≤10000) (l2:(toL a.den).length≤10000) (l3:(toL (nm b)).length≤10000) (l4:(toL b.den).length≤10000) :
  Calls Tryz.prog 190 #[v,v'] w fun e w'=>∃ v2,e=.returned v2∧IsFrac w' v2 (a+b)∧Below w.heap.size w w':=by
 have hd0:a.den*b.den≠0:=Nat.ne_of_gt (Nat.mul_pos (den_pos a) (den_pos b))
 by_cases hm:ng a=ng b
 ·rw [add_same hm]
  exact fadd_same _ _ _ _ _ _ _ _ _ h h' hd0 hm l1 l2 l3 l4
 ·by_cases hlt:nm a*b.den < nm b*a.den
  ·rw [add_less hm hlt]
   exact fadd_less _ _ _ _ _ _ _ _ _ h h' hd0 hm hlt l1 l2 l3 l4
  ·rw [add_more hm hlt]
   exact fadd_more _ _ _ _ _ _ _ _ _ h h' hd0 hm hlt l1 l2 l3 l4
theorem fmulQ_any (a b:Rat) (v v':Value) (w:World) (h:IsFrac w v a) (h':IsFrac w v' b) (l1:(toL (nm a)).length≤10000) (l2:(toL a.den).length≤10000) (l3:(toL (nm b)).length≤10000) (l4:(toL b.den).length≤10000) :
  Calls Tryz.prog 206 #[v,v'] w fun e w'=>∃ v2,e=.returned v2∧IsFrac w' v2 (a*b)∧Below w.heap.size w w':=by
 have hd0:a.den*b.den≠0:=Nat.ne_of_gt (Nat.mul_pos (den_pos a) (den_pos b))
 rw [mul_parts]
 exact fmul_any _ _ _ _ _ _ _ _ _ h h' hd0 l1 l2 l3 l4
theorem fnegQ_any (a:Rat) (v:Value) (w:World) (h:IsFrac w v a) :
  Calls Tryz.prog 258 #[v] w fun e w'=>∃ v',e=.returned v'∧IsFrac w' v' (-a)∧Below w.heap.size w w':=by
 refine (fneg_any _ _ _ v w h).mono ?_
 rintro e w' ⟨v',rfl,hp,hb⟩
 refine ⟨v',rfl,?_,hb⟩
 obtain ⟨h1,h2,h3⟩:=neg_parts a
 unfold IsFrac
 rw [h1,h2,h3,show decide (nm a≠0)=!decide (nm a=0) by by_cases h0:nm a=0<;>simp [h0]]
 exact hp
theorem finvQ_any (a:Rat) (v:Value) (w:World) (h:IsFrac w v a) (h0:a≠0) :
  Calls Tryz.prog 215 #[v] w fun e w'=>∃ v',e=.returned v'∧IsFrac w' v' a⁻¹∧Below w.heap.size w w':=by
 refine (finv_any _ _ _ v w h).mono ?_
 rintro e w' ⟨v',rfl,hp,hb⟩
 refine ⟨v',rfl,?_,hb⟩
 obtain ⟨h1,h2,h3⟩:=inv_parts h0
 unfold IsFrac
 rw [h1,h2,h3]
 exact hp
theorem fsub_any (a b:Rat) (v v':Value) (w:World) (h:IsFrac w v a) (h':IsFrac w v' b) (l1:(toL (nm a)).length≤10000) (l2:(toL a.den).length≤10000) (l3:(toL (nm b)).length≤10000) (l4:(toL b.den).length≤10000) :
  Calls Tryz.prog 200 #[v,v'] w fun e w'=>∃ v2,e=.returned v2∧IsFrac w' v2 (a+-b)∧Below w.heap.size w w':=by
 obtain ⟨b0',N0,D0,An,cn,Ad,cd,rfl,hn,hd,HP⟩:=isFrac_open h
 obtain ⟨b0'',N0',D0',An',cn',Ad',cd',rfl,hn',hd',HP'⟩:=isFrac_open h'
 have HN:=Lib.hid hn
 have HD:=Lib.hid hd
 have HN':=Lib.hid hn'
 have HD':=Lib.hid hd'
 have HH:=Lib.hid h
 have HH':=Lib.hid h'
 have HL:=Lib.hid (And.intro l1 (And.intro l2 (And.intro l3 l4)))
 clear hn hd hn' hd' h h' l1 l2 l3 l4
 refine (callsIn_wide (n:=3)).1 ?_
 have h1:1≤3:=by omega
 have hmx:Tryz.prog.follows .mixedOrders=true:=by kernel_rfl
 refine callsIn_of_wp Tryz.func200 rfl trivial ?_ rfl
 simp only [Tryz.ntmps200,List.size_toArray,List.length_cons,List.length_nil,Nat.reduceAdd,Nat.reduceSub,Array.replicate_succ,Array.replicate_zero,List.push_toArray,List.append_toArray,List.nil_append,List.cons_append]
 gi_upto_region 1 with fail
 obtain ⟨b0,b1,b2,hB,hs⟩:=box2_res w (.bool b0') (.slice An (toL N0).length cn) (.slice Ad (toL D0).length cd) (.bool b0'') (.slice An' (toL N0').length cn') (.slice Ad' (toL D0').length cd')
 generalize ((w.alloc (.cells #[.bool b0',.slice An (toL N0).length cn,.slice Ad (toL D0).length cd] 216)).alloc (.cells #[.bool b0'',.slice An' (toL N0').length cn',.slice Ad' (toL D0').length cd'] 216)).alloc zF=W at *
 obtain ⟨x0,x1,x2⟩:=same_cells (S:=fun k=>k < W.heap.size∧k≠w.heap.size+1+1) b0 ⟨by omega,by omega⟩
 obtain ⟨y0,y1,y2⟩:=same_cells (S:=fun k=>k < W.heap.size∧k≠w.heap.size+1+1) b1 ⟨by omega,by omega⟩
 have HB:=Lib.hid (below_drew hB)
 have HS:=Lib.hid hs
 have P2:=Lib.hid b2
 clear b0 b1 b2 hB hs
 refine wpIn_stage (IsSame W (fun k=>k < W.heap.size∧k≠w.heap.size+1+1)) [0,1] [] hmx (by kernel_rfl) (isSame_of fun _ _=>rfl) ?_
 change wpStage _ _ _ _ _ _ _ _ (3+2) _ _ _
 refine stage_reads [0,1] 3 _ _ (by kernel_rfl) ?_
 change wpQuietIn _ _ _ _ (fun W'=>∃ x:SameAt W (fun k=>k < W.heap.size∧k≠w.heap.size+1+1),W'=x.W) _ _ _
 simp only [pick_cons,pick_nil,List.getElem?_cons_zero,List.getElem?_cons_succ,Option.elim_some]
 repeat (gi_big_quiet_step (fail))
 refine wpQuietIn_nil ?_
 refine stage_one 2 (by kernel_rfl) rfl ?_
 gi_wp2
 refine ⟨trivial,?_⟩
 refine (callsIn_wide.2 (fnegQ_any b _ W.drew (HH'.out.below HB.out))).mono ?_
 rintro e w3 ⟨v3,rfl,hv3,hb3⟩
 have HV3:=Lib.hid hv3
 have HB3:=Lib.hid (below_undrew hb3)
 clear hv3 hb3
 gi_wp2
 refine stage_post (isSame_below HB3.out (fun k hk=>hk.1)) ?_
 refine stage_one 3 (by kernel_rfl) rfl ?_
 gi_wp2
 have HB30:=Lib.hid (HB.out.trans ((below_drew3 HB3.out).mono HB.out.size))
 refine ⟨trivial,?_⟩
 refine (callsIn_wide.2 (fadd_any a (-b) _ _ w3 (HH.out.below HB30.out) HV3.out HL.out.1 HL.out.2.1 (by rw [(neg_parts b).2.1];exact HL.out.2.2.1) (by rw [(neg_parts b).2.2];exact HL.out.2.2.2))).mono ?_
 rintro e w4 ⟨v4,rfl,hv4,hb4⟩
 obtain ⟨b8,N8,D8,A8,c8,A8',c8',rfl,hn8,hd8,HP8⟩:=isFrac_open hv4
 clear hv4
 have hb34:Below W.heap.size W w4:=HB3.out.trans (hb4.mono HB3.out.size)
 have hsz:=HS.out
 obtain ⟨HR8,r0,s0,r1,s1,r2,s2⟩:=res_rows P2.out hb34 (by omega)
 have HN8:=Lib.hid hn8
 have HD8:=Lib.hid hd8
 have HB34:=Lib.hid hb34
 clear hn8 hd8 hb4 hb34 hsz
 gi_wp2
 refine stage_post (isSame_below HB34.out (fun k hk=>hk.1)) ?_
 refine stage_one 4 (by kernel_rfl) rfl ?_
 gi_wp2
 refine stage_post (isSame_of fun k hk=>(set3_heap k hk.2).trans (HB34.out.block k hk.1)) ?_
 refine stage_done (by kernel_rfl) ?_
 gi_wp2
 have hsz:=HS.out
 refine ret_frac rfl rfl (by simp) (set3 HR8.out) ⟨_,rfl,?_,?_⟩
 ·exact isFrac_close HP8 (isParts_mk (isNat_set3 HN8.out HR8.out) (isNat_set3 HD8.out HR8.out))
 ·refine set3_below (g:=w.heap.size+1+1) (HB.out.trans ((below_drew3 HB34.out).mono ?_)) (by omega)
  exact HB.out.size
theorem fdiv_any (a b:Rat) (v v':Value) (w:World) (h:IsFrac w v a) (h':IsFrac w v' b) (HZ:Hid (b≠0)) (l1:(toL (nm a)).length≤10000) (l2:(toL a.den).length≤10000) (l3:(toL (nm b)).length≤10000) (l4:(toL b.den).length≤10000) :
  Calls Tryz.prog 212 #[v,v'] w fun e w'=>∃ v2,e=.returned v2∧IsFrac w' v2 (a*b⁻¹)∧Below w.heap.size w w':=by
 obtain ⟨b0',N0,D0,An,cn,Ad,cd,rfl,hn,hd,HP⟩:=isFrac_open h
 obtain ⟨b0'',N0',D0',An',cn',Ad',cd',rfl,hn',hd',HP'⟩:=isFrac_open h'
 have HN:=Lib.hid hn
 have HD:=Lib.hid hd
 have HN':=Lib.hid hn'
 have HD':=Lib.hid hd'
 have HH:=Lib.hid h
 have HH':=Lib.hid h'
 have HL:=Lib.hid (And.intro l1 (And.intro l2 (And.intro l3 l4)))
 clear hn hd hn' hd' h h' l1 l2 l3 l4
 refine (callsIn_wide (n:=3)).1 ?_
 have h1:1≤3:=by omega
 have hmx:Tryz.prog.follows .mixedOrders=true:=by kernel_rfl
 refine callsIn_of_wp Tryz.func212 rfl trivial ?_ rfl
 simp only [Tryz.ntmps212,List.size_toArray,List.length_cons,List.length_nil,Nat.reduceAdd,Nat.reduceSub,Array.replicate_succ,Array.replicate_zero,List.push_toArray,List.append_toArray,List.nil_append,List.cons_append]
 gi_upto_region 1 with fail
 obtain ⟨b0,b1,b2,hB,hs⟩:=box2_res w (.bool b0') (.slice An (toL N0).length cn) (.slice Ad (toL D0).length cd) (.bool b0'') (.slice An' (toL N0').length cn') (.slice Ad' (toL D0').length cd')
 generalize ((w.alloc (.cells #[.bool b0',.slice An (toL N0).length cn,.slice Ad (toL D0).length cd] 216)).alloc (.cells #[.bool b0'',.slice An' (toL N0').length cn',.slice Ad' (toL D0').length cd'] 216)).alloc zF=W at *
 obtain ⟨x0,x1,x2⟩:=same_cells (S:=fun k=>k < W.heap.size∧k≠w.heap.size+1+1) b0 ⟨by omega,by omega⟩
 obtain ⟨y0,y1,y2⟩:=same_cells (S:=fun k=>k < W.heap.size∧k≠w.heap.size+1+1) b1 ⟨by omega,by omega⟩
 have HB:=Lib.hid (below_drew hB)
 have HS:=Lib.hid hs
 have P2:=Lib.hid b2
 clear b0 b1 b2 hB hs
 refine wpIn_stage (IsSame W (fun k=>k < W.heap.size∧k≠w.heap.size+1+1)) [0,1] [] hmx (by kernel_rfl) (isSame_of fun _ _=>rfl) ?_
 change wpStage _ _ _ _ _ _ _ _ (3+2) _ _ _
 refine stage_reads [0,1] 3 _ _ (by kernel_rfl) ?_
 change wpQuietIn _ _ _ _ (fun W'=>∃ x:SameAt W (fun k=>k < W.heap.size∧k≠w.heap.size+1+1),W'=x.W) _ _ _
 simp only [pick_cons,pick_nil,List.getElem?_cons_zero,List.getElem?_cons_succ,Option.elim_some]
 repeat (gi_big_quiet_step (fail))
 refine wpQuietIn_nil ?_
 refine stage_one 2 (by kernel_rfl) rfl ?_
 gi_wp2
 refine ⟨trivial,?_⟩
 refine (callsIn_wide.2 (finvQ_any b _ W.drew (HH'.out.below HB.out) HZ.out)).mono ?_
 rintro e w3 ⟨v3,rfl,hv3,hb3⟩
 have HV3:=Lib.hid hv3
 have HB3:=Lib.hid (below_undrew hb3)
 clear hv3 hb3
 gi_wp2
 refine stage_post (isSame_below HB3.out (fun k hk=>hk.1)) ?_
 refine stage_one 3 (by kernel_rfl) rfl ?_
 gi_wp2
 have HB30:=Lib.hid (HB.out.trans ((below_drew3 HB3.out).mono HB.out.size))
 refine ⟨trivial,?_⟩
 refine (callsIn_wide.2 (fmulQ_any a b⁻¹ _ _ w3 (HH.out.below HB30.out) HV3.out HL.out.1 HL.out.2.1 (by rw [(inv_parts HZ.out).2.1];exact HL.out.2.2.2) (by rw [(inv_parts HZ.out).2.2];exact HL.out.2.2.1))).mono ?_
 rintro e w4 ⟨v4,rfl,hv4,hb4⟩
 obtain ⟨b8,N8,D8,A8,c8,A8',c8',rfl,hn8,hd8,HP8⟩:=isFrac_open hv4
 clear hv4
 have hb34:Below W.heap.size W w4:=HB3.out.trans (hb4.mono HB3.out.size)
 have hsz:=HS.out
 obtain ⟨HR8,r0,s0,r1,s1,r2,s2⟩:=res_rows P2.out hb34 (by omega)
 have HN8:=Lib.hid hn8
 have HD8:=Lib.hid hd8
 have HB34:=Lib.hid hb34
 clear hn8 hd8 hb4 hb34 hsz
 gi_wp2
 refine stage_post (isSame_below HB34.out (fun k hk=>hk.1)) ?_
 refine stage_one 4 (by kernel_rfl) rfl ?_
 gi_wp2
 refine stage_post (isSame_of fun k hk=>(set3_heap k hk.2).trans (HB34.out.block k hk.1)) ?_
 refine stage_done (by kernel_rfl) ?_
 gi_wp2
 have hsz:=HS.out
 refine ret_frac rfl rfl (by simp) (set3 HR8.out) ⟨_,rfl,?_,?_⟩
 ·exact isFrac_close HP8 (isParts_mk (isNat_set3 HN8.out HR8.out) (isNat_set3 HD8.out HR8.out))
 ·refine set3_below (g:=w.heap.size+1+1) (HB.out.trans ((below_drew3 HB34.out).mono ?_)) (by omega)
  exact HB.out.size
end Go.Proofs.YtigapglmipmbeaaGreatDoor
namespace Go.Proofs.YtigapglmipmbeaaGreatDoor
open Go.RowKit Go.Shelf
open Lim
def resN (x:List UInt8 × Nat):Value:=.tuple #[.string ⟨x.1.toArray⟩,.int .i64 (x.2:Int)]
theorem sz_limbs {q:Rat} (h:Sz maxD q):(toL (nm q)).length≤445∧(toL q.den).length≤445:=(h.mono (show maxD≤9*445 by unfold maxD;omega)).limbs
theorem sz_limbs2 {k:Nat} {q:Rat} (h:Sz k q) (hk:k≤9*40000):(toL (nm q)).length≤40000∧(toL q.den).length≤40000:=(h.mono hk).limbs
def divQ (p q:Rat):List UInt8 × Nat:=if q=0 then ([],6) else outQ (p*q⁻¹)
theorem bothN_any (F:FuncId) (hrun:Runs F) (g:Rat→Rat→List UInt8 × Nat) (a b:ByteArray) (w:World) (ha:a.size≤270000) (hb:b.size≤270000) (hr:Res w)
  (hF:∀ p q v v' w',Res w'→IsFrac w' v p→IsFrac w' v' q→Sz maxD p→Sz maxD q→Calls Tryz.prog F #[v,v'] w' fun e w''=>e=.returned (resN (g p q))∧Below w'.heap.size w' w'') :
  Calls Tryz.prog 188 #[.string a,.string b,.func (.func F) #[] #[]] w fun e w'=>e=.returned (resN (twoQ g a.data.toList b.data.toList))∧Below w.heap.size w w':=by
 refine (both_any F hrun (fun p q=>(.string ⟨(g p q).1.toArray⟩,((g p q).2:Int))) a b w ha hb hr (fun v v' w' _ hr' hv hv' h1 h2=>hF _ _ v v' w' hr' hv hv' (sz_max h1) (sz_max h2))).mono ?_
 rintro e w' ⟨rfl,hB⟩
 refine ⟨?_,hB⟩
 unfold twoQ resN
 split
 ·rfl
 ·split<;>rfl
theorem withN_any (F:FuncId) (hrun:Runs F) (caps:Array Value) (g:Rat→List UInt8 × Nat) (a:ByteArray) (w:World) (ha:a.size≤270000) (hr:Res w)
  (hF:∀ p v w',Below w.heap.size w w'→Res w'→IsFrac w' v p→Sz maxD p→Calls Tryz.prog F (#[v]++caps) w' fun e w''=>e=.returned (resN (g p))∧Below w'.heap.size w' w'') :
  Calls Tryz.prog 213 #[.string a,.func (.func F) #[] caps] w fun e w'=>e=.returned (resN (oneQ g a.data.toList))∧Below w.heap.size w w':=by
 by_cases h1:errQ a.data.toList=0
 ·unfold oneQ
  rw [if_neg (by omega)]
  exact with_ok F hrun caps (.string ⟨(g (valQ a.data.toList)).1.toArray⟩) _ a w ha hr h1 (fun v w' hb hr' hv=>hF _ v w' hb hr' hv (sz_max h1))
 ·unfold oneQ
  rw [if_pos h1]
  exact with_err a _ w ha hr h1
theorem runs_Add:Runs 189:=runs_of Tryz.func189 (by kernel_rfl) (by kernel_rfl)
theorem Add1_any (p q:Rat) (v v':Value) (w:World) (hr:Res w) (hv:IsFrac w v p) (hv':IsFrac w v' q) (sp:Sz maxD p) (sq:Sz maxD q) :
  Calls Tryz.prog 189 #[v,v'] w fun e w'=>e=.returned (resN (outQ (p+q)))∧Below w.heap.size w w':=by
 obtain ⟨lp,lp'⟩:=sz_limbs sp
 obtain ⟨lq,lq'⟩:=sz_limbs sq
 obtain ⟨lr,lr'⟩:=sz_limbs2 (sp.add sq) (by unfold maxD;omega)
 obtain ⟨bq,N,D,A,c,A',c',rfl,hn,hd,HQ⟩:=isFrac_open hv
 obtain ⟨bq',N',D',B,d,B',d',rfl,hn',hd',HQ'⟩:=isFrac_open hv'
 have HX:=Lib.hid (below_alloc (below_alloc (Below.refl w.heap.size w) (.cells #[.bool bq,.slice A (toL N).length c,.slice A' (toL D).length c'] 216)) (.cells #[.bool bq',.slice B (toL N').length d,.slice B' (toL D').length d'] 216))
 have HF:=Lib.hid (fadd_any p q _ _ _ (hv.below HX.out) (hv'.below HX.out) (by omega) (by omega) (by omega) (by omega))
 have HN:=Lib.hid (fun v w hv hr=>fnum_any (p+q) v w hv hr lr lr')
 have HR:=Lib.hid (hr.below HX.out)
 generalize outQ (p+q)=r at HN ⊢
 clear hr hv hv' hn hd hn' hd' sp sq lp lp' lq lq' lr lr'
 go_enter Tryz.func189,Tryz.ntmps189
 go_wp2_with (first
  | (go_at_call 190;refine HF.out.mono ?_;rintro e w1 ⟨v1,rfl,hv1,hb1⟩;have HV1:=Lib.hid hv1;have HB1:=Lib.hid (HX.out.trans (hb1.mono HX.out.size));have HR1:=Lib.hid (HR.out.below hb1);clear hv1 hb1)
  | (go_at_call 191;refine (HN.out _ _ HV1.out HR1.out).mono ?_;rintro e w2 ⟨rfl,hb2⟩;have HB2:=Lib.hid (HB1.out.trans (hb2.mono HB1.out.size));clear hb2))
 refine bodyPost_ret (results_tmp2 rfl _ _ _) rfl ?_
 exact ⟨rfl,HB2.out⟩
theorem ratAdd_any (a b:ByteArray) (w:World) (ha:a.size≤270000) (hb:b.size≤270000) (hr:Res w) :
  Calls Tryz.prog 107 #[.string a,.string b] w fun e w'=>e=.returned (resN (twoQ (fun p q=>outQ (p+q)) a.data.toList b.data.toList))∧Below w.heap.size w w':=by
 have HB:=Lib.hid (bothN_any 189 runs_Add (fun p q=>outQ (p+q)) a b w ha hb hr (fun p q v v' w' hr' hv hv' sp sq=>Add1_any p q v v' w' hr' hv hv' sp sq))
 generalize twoQ (fun p q=>outQ (p+q)) a.data.toList b.data.toList=r at HB ⊢
 clear hr
 go_enter Tryz.func107,Tryz.ntmps107
 go_wp2_with (go_at_call 188;refine HB.out.mono ?_;rintro e w2 ⟨rfl,hb2⟩;have HB2:=Lib.hid hb2;clear hb2;unfold resN)
 refine bodyPost_ret (results_tmp2 rfl _ _ _) rfl ?_
 exact ⟨rfl,HB2.out⟩
theorem runs_Mul:Runs 205:=runs_of Tryz.func205 (by kernel_rfl) (by kernel_rfl)
theorem Mul1_any (p q:Rat) (v v':Value) (w:World) (hr:Res w) (hv:IsFrac w v p) (hv':IsFrac w v' q) (sp:Sz maxD p) (sq:Sz maxD q) :
  Calls Tryz.prog 205 #[v,v'] w fun e w'=>e=.returned (resN (outQ (p*q)))∧Below w.heap.size w w':=by
 obtain ⟨lp,lp'⟩:=sz_limbs sp
 obtain ⟨lq,lq'⟩:=sz_limbs sq
 obtain ⟨lr,lr'⟩:=sz_limbs2 (sp.mul sq) (by unfold maxD;omega)
 obtain ⟨bq,N,D,A,c,A',c',rfl,hn,hd,HQ⟩:=isFrac_open hv
 obtain ⟨bq',N',D',B,d,B',d',rfl,hn',hd',HQ'⟩:=isFrac_open hv'
 have HX:=Lib.hid (below_alloc (below_alloc (Below.refl w.heap.size w) (.cells #[.bool bq,.slice A (toL N).length c,.slice A' (toL D).length c'] 216)) (.cells #[.bool bq',.slice B (toL N').length d,.slice B' (toL D').length d'] 216))
 have HF:=Lib.hid (fmulQ_any p q _ _ _ (hv.below HX.out) (hv'.below HX.out) (by omega) (by omega) (by omega) (by omega))
 have HN:=Lib.hid (fun v w hv hr=>fnum_any (p*q) v w hv hr lr lr')
 have HR:=Lib.hid (hr.below HX.out)
 generalize outQ (p*q)=r at HN ⊢
 clear hr hv hv' hn hd hn' hd' sp sq lp lp' lq lq' lr lr'
 go_enter Tryz.func205,Tryz.ntmps205
 go_wp2_with (first
  | (go_at_call 206;refine HF.out.mono ?_;rintro e w1 ⟨v1,rfl,hv1,hb1⟩;have HV1:=Lib.hid hv1;have HB1:=Lib.hid (HX.out.trans (hb1.mono HX.out.size));have HR1:=Lib.hid (HR.out.below hb1);clear hv1 hb1)
  | (go_at_call 191;refine (HN.out _ _ HV1.out HR1.out).mono ?_;rintro e w2 ⟨rfl,hb2⟩;have HB2:=Lib.hid (HB1.out.trans (hb2.mono HB1.out.size));clear hb2))
 refine bodyPost_ret (results_tmp2 rfl _ _ _) rfl ?_
 exact ⟨rfl,HB2.out⟩
theorem ratMul_any (a b:ByteArray) (w:World) (ha:a.size≤270000) (hb:b.size≤270000) (hr:Res w) :
  Calls Tryz.prog 130 #[.string a,.string b] w fun e w'=>e=.returned (resN (twoQ (fun p q=>outQ (p*q)) a.data.toList b.data.toList))∧Below w.heap.size w w':=by
 have HB:=Lib.hid (bothN_any 205 runs_Mul (fun p q=>outQ (p*q)) a b w ha hb hr (fun p q v v' w' hr' hv hv' sp sq=>Mul1_any p q v v' w' hr' hv hv' sp sq))
 generalize twoQ (fun p q=>outQ (p*q)) a.data.toList b.data.toList=r at HB ⊢
 clear hr
 go_enter Tryz.func130,Tryz.ntmps130
 go_wp2_with (go_at_call 188;refine HB.out.mono ?_;rintro e w2 ⟨rfl,hb2⟩;have HB2:=Lib.hid hb2;clear hb2;unfold resN)
 refine bodyPost_ret (results_tmp2 rfl _ _ _) rfl ?_
 exact ⟨rfl,HB2.out⟩
theorem sgQ_zero (q:Rat):(sgQ q==0)=decide (q=0):=by
 unfold sgQ
 by_cases h:q=0
 ·rw [if_pos (nm_zero.2 h),decide_eq_true h];rfl
 ·rw [if_neg (fun e=>h (nm_zero.1 e)),decide_eq_false h]
  split<;>rfl
theorem runs_Div:Runs 210:=runs_of Tryz.func210 (by kernel_rfl) (by kernel_rfl)
theorem Div1_any (p q:Rat) (v v':Value) (w:World) (hr:Res w) (hv:IsFrac w v p) (hv':IsFrac w v' q) (sp:Sz maxD p) (sq:Sz maxD q) :
  Calls Tryz.prog 210 #[v,v'] w fun e w'=>e=.returned (resN (divQ p q))∧Below w.heap.size w w':=by
 obtain ⟨lp,lp'⟩:=sz_limbs sp
 obtain ⟨lq,lq'⟩:=sz_limbs sq
 obtain ⟨lr,lr'⟩:=sz_limbs2 (sp.mul sq.inv) (by unfold maxD;omega)
 obtain ⟨bq,N,D,A,c,A',c',rfl,hn,hd,HQ⟩:=isFrac_open hv
 obtain ⟨bq',N',D',B,d,B',d',rfl,hn',hd',HQ'⟩:=isFrac_open hv'
 have HX:=Lib.hid (below_alloc (below_alloc (Below.refl w.heap.size w) (.cells #[.bool bq,.slice A (toL N).length c,.slice A' (toL D).length c'] 216)) (.cells #[.bool bq',.slice B (toL N').length d,.slice B' (toL D').length d'] 216))
 have HP0:=Lib.hid ((Blk.new w 216 #[.bool bq,.slice A (toL N).length c,.slice A' (toL D).length c']).alloc (.cells #[.bool bq',.slice B (toL N').length d,.slice B' (toL D').length d'] 216))
 have HP1:=Lib.hid (Blk.new (w.alloc (.cells #[.bool bq,.slice A (toL N).length c,.slice A' (toL D).length c'] 216)) 216 #[.bool bq',.slice B (toL N').length d,.slice B' (toL D').length d'])
 have hz:=sgQ_zero q
 have HS:=Lib.hid (sign_any q _ _ (hv'.below HX.out))
 have HV:=Lib.hid hv
 have HV':=Lib.hid hv'
 have HR:=Lib.hid hr
 unfold divQ
 by_cases h0:q=0
 ·rw [if_pos h0]
  rw [decide_eq_true h0] at hz
  clear hr hv hv' hn hd hn' hd' sp sq lp lp' lq lq' lr lr' h0
  go_enter Tryz.func210,Tryz.ntmps210
  go_wp2_with (go_at_call 211;refine HS.out.mono ?_;rintro e w3 ⟨rfl,hb3⟩;have HB3:=Lib.hid (HX.out.trans (hb3.mono HX.out.size));clear hb3)
  refine bodyPost_ret (results_tmp2 rfl _ _ _) rfl ?_
  exact ⟨rfl,HB3.out⟩
 ·rw [if_neg h0]
  rw [decide_eq_false h0] at hz
  have HF:=Lib.hid (fun v v' w hv hv'=>fdiv_any p q v v' w hv hv' (Lib.hid h0) (by omega) (by omega) (by omega) (by omega))
  have HN:=Lib.hid (fun v w hv hr=>fnum_any (p*q⁻¹) v w hv hr lr lr')
  generalize outQ (p*q⁻¹)=r at HN ⊢
  clear hr hv hv' hn hd hn' hd' sp sq lp lp' lq lq' lr lr' h0
  go_enter Tryz.func210,Tryz.ntmps210
  go_wp2_with (first
   | (go_at_call 211;refine HS.out.mono ?_;rintro e w3 ⟨rfl,hb3⟩;have HB3:=Lib.hid (HX.out.trans (hb3.mono HX.out.size));obtain ⟨x0,x1,x2⟩:=rows_of HP0.out hb3 HP0.out.lt;obtain ⟨y0,y1,y2⟩:=rows_of HP1.out hb3 HP1.out.lt;rw [World.size_alloc] at y0 y1 y2;clear hb3)
   | (go_at_call 212;refine (HF.out _ _ _ (HV.out.below HB3.out) (HV'.out.below HB3.out)).mono ?_;rintro e w1 ⟨v1,rfl,hv1,hb1⟩;have HV1:=Lib.hid hv1;have HB1:=Lib.hid (HB3.out.trans (hb1.mono HB3.out.size));clear hv1 hb1)
   | (go_at_call 191;refine (HN.out _ _ HV1.out (HR.out.below HB1.out)).mono ?_;rintro e w2 ⟨rfl,hb2⟩;have HB2:=Lib.hid (HB1.out.trans (hb2.mono HB1.out.size));clear hb2))
  refine bodyPost_ret (results_tmp2 rfl _ _ _) rfl ?_
  exact ⟨rfl,HB2.out⟩
theorem ratDiv_any (a b:ByteArray) (w:World) (ha:a.size≤270000) (hb:b.size≤270000) (hr:Res w) :
  Calls Tryz.prog 133 #[.string a,.string b] w fun e w'=>e=.returned (resN (twoQ divQ a.data.toList b.data.toList))∧Below w.heap.size w w':=by
 have HB:=Lib.hid (bothN_any 210 runs_Div divQ a b w ha hb hr (fun p q v v' w' hr' hv hv' sp sq=>Div1_any p q v v' w' hr' hv hv' sp sq))
 generalize twoQ divQ a.data.toList b.data.toList=r at HB ⊢
 clear hr
 go_enter Tryz.func133,Tryz.ntmps133
 go_wp2_with (go_at_call 188;refine HB.out.mono ?_;rintro e w2 ⟨rfl,hb2⟩;have HB2:=Lib.hid hb2;clear hb2;unfold resN)
 refine bodyPost_ret (results_tmp2 rfl _ _ _) rfl ?_
 exact ⟨rfl,HB2.out⟩
theorem frac_shape {w:World} {v:Value} {s:List UInt8} (h:errQ s=0→IsFrac w v (valQ s)) (hz:errQ s≠0→v=zV):∃ (bq:Bool) (A A':Option Addr) (l c l' c':Nat),v=.agg #[.bool bq,.slice A l c,.slice A' l' c']:=by
 by_cases he:errQ s=0
 ·obtain ⟨bq,N,D,A,c,A',c',rfl,_⟩:=isFrac_open (h he)
  exact ⟨_,_,_,_,_,_,_,rfl⟩
 ·exact ⟨_,_,_,_,_,_,_,hz he⟩
theorem ratCheck_any (a:ByteArray) (w:World) (ha:a.size≤270000) (hr:Res w) :
  Calls Tryz.prog 138 #[.string a] w fun e w'=>e=.returned (.int .i64 (errQ a.data.toList:Int))∧Below w.heap.size w w':=by
 have HP:=Lib.hid (fparse_any a w ha hr)
 clear hr
 go_enter Tryz.func138,Tryz.ntmps138
 go_wp2_with (go_at_call 217;refine HP.out.mono ?_;rintro e w1 ⟨v,rfl,hv,hz,hb⟩;obtain ⟨bq,A,A',l,c,l',c',rfl⟩:=frac_shape hv hz;have HB:=Lib.hid hb;clear hb hz hv)
 go_ret
 exact ⟨rfl,below_alloc HB.out _⟩
def powQ (q:Rat) (n:Int):List UInt8 × Nat:=if n < 0∧q=0 then ([],6) else outQ ((if n < 0 then q⁻¹ else q) ^ n.natAbs)
theorem runs_Pow:Runs 214:=runs_of Tryz.func214 (by kernel_rfl) (by kernel_rfl)
theorem pow1_zero (q:Rat) (n:Int) (pn:Nat) (v:Value) (w:World) (_hr:Res w) (hv:IsFrac w v q) (hn:Boxed w pn 3 (.int .i64 n)) (hneg:n < 0) (h0:q=0) :
  Calls Tryz.prog 214 #[v,.pointer (some ⟨pn,0,none⟩)] w fun e w'=>e=.returned (resN ([],6))∧Below w.heap.size w w':=by
 obtain ⟨bq,N,D,A,c,A',c',rfl,_,_,HQ⟩:=isFrac_open hv
 have HX:=Lib.hid (below_alloc (Below.refl w.heap.size w) (.cells #[.bool bq,.slice A (toL N).length c,.slice A' (toL D).length c'] 216))
 have hz:=sgQ_zero q
 rw [decide_eq_true h0] at hz
 have HS:=Lib.hid (sign_any q _ _ (hv.below HX.out))
 have cn:=(bx_below hn HX.out hn.lt).cell
 have hng:decide (n < 0)=true:=decide_eq_true hneg
 clear hv hn hneg h0
 go_enter Tryz.func214,Tryz.ntmps214
 go_wp2_with (go_at_call 211;refine HS.out.mono ?_;rintro e w3 ⟨rfl,hb3⟩;have HB3:=Lib.hid (HX.out.trans (hb3.mono HX.out.size));clear hb3)
 refine bodyPost_ret (results_tmp2 rfl _ _ _) rfl ?_
 exact ⟨rfl,HB3.out⟩
theorem wrap_pos {M:Nat} (h:M < 18446744073709551616):IntKind.u64.wrap (M:Int)=(M:Int):=by
 rw [IntKind.wrap_u64];omega
theorem pow1_pos (q:Rat) (M:Nat) (pn:Nat) (v:Value) (w:World) (hr:Res w) (hv:IsFrac w v q) (hn:Boxed w pn 3 (.int .i64 (M:Int))) (hn1:M≤9223372036854775807) (sq:Sz maxD q) :
  Calls Tryz.prog 214 #[v,.pointer (some ⟨pn,0,none⟩)] w fun e w'=>e=.returned (resN (outQ (q ^ M)))∧Below w.heap.size w w':=by
 obtain ⟨b,N,D,A,c,A',c',rfl,hnn,hdd,HQ⟩:=isFrac_open hv
 have HX:=Lib.hid (below_alloc (Below.refl w.heap.size w) (.cells #[.bool b,.slice A (toL N).length c,.slice A' (toL D).length c'] 216))
 have cn:=(bx_below hn HX.out hn.lt).cell
 have hng:decide ((M:Int) < 0)=false:=decide_eq_false (by omega)
 have hw:=wrap_pos (M:=M) (by omega)
 have HM:=Lib.hid (show M < 18446744073709551616 by omega)
 have HP:=Lib.hid (Blk.new w 216 #[.bool b,.slice A (toL N).length c,.slice A' (toL D).length c'])
 have HNN:=Lib.hid (hnn.below HX.out)
 have HDD:=Lib.hid (hdd.below HX.out)
 have HRR:=Lib.hid (hr.below HX.out)
 have hds:=(sz_iff (by decide)).1 sq
 have HL:=Lib.hid (show Lib.nDigits N≤4000∧Lib.nDigits D≤4000 by rw [← HQ.out.2.1,← HQ.out.2.2];exact hds)
 have TK1:True:=trivial
 clear hr hv hn hn1 sq hnn hdd hds
 have hbig:¬ (Lib.nDigits (N ^ M)≤4000∧Lib.nDigits (D ^ M)≤4000)→outQ (q ^ M)=([],5):=fun h=>by
  obtain ⟨e1,e2,_⟩:=pow_parts (q) M
  unfold outQ maxD
  rw [if_pos (by rw [e1,e2,HQ.out.2.1,HQ.out.2.2];omega)]
 by_cases f1:Lib.nDigits (N ^ M)≤4000
 ·have F1:=Lib.hid (decide_eq_true f1)
  have G1:=Lib.hid f1
  by_cases f2:Lib.nDigits (D ^ M)≤4000
  ·have F2:=Lib.hid (decide_eq_true f2)
   have G2:=Lib.hid f2
   have HLL:=Lib.hid (And.intro (Nat.le_trans (limbs_of_nd f1 (show 4000≤9*500 by omega)) (show 500≤40000 by omega)) (Nat.le_trans (limbs_of_nd f2 (show 4000≤9*500 by omega)) (show 500≤40000 by omega)))
   obtain ⟨e1,e2,e3⟩:=pow_parts (q) M
   have HO:=Lib.hid (show outP (b&&decide (M % 2=1)) (N ^ M) (D ^ M)=outQ (q ^ M) by rw [← outP_q,e1,e2,e3,HQ.out.1,HQ.out.2.1,HQ.out.2.2])
   by_cases ho:M % 2=1
   ·have ho1:((M:Int) % 2==1)=true:=by rw [beq_iff_eq];omega
    rw [decide_eq_true ho] at HO
    clear f1 f2 e1 e2 e3 ho hbig
    cases b <;>
    ·rw [← HO.out]
     clear HO
     go_enter Tryz.func214,Tryz.ntmps214
     go_upto_region 6 with fail
     generalize w.alloc (.cells #[.bool _,.slice A (toL N).length c,.slice A' (toL D).length c'] 216)=W at *
     obtain ⟨x0,x1,x2⟩:=rows_of HP.out (Below.refl W.heap.size W) HP.out.lt
     have HBW:=HX
     have HPW:=HP
     have HNW:=HNN
     have HDW:=HDD
     have HRW:=HRR
     go_wp2_with (first
      | (clear TK1;go_at_call 216;refine (pow_any N M _ _ HNW.out HM.out HL.out.1 (HRW.out)).mono ?_;rintro e w5 ⟨v5,rfl,hv5,hb5⟩;rw [F1.out];have hv5:=hv5 G1.out;obtain ⟨A5,c5,rfl,_,_,_⟩:=id hv5;have HV5:=Lib.hid hv5;have HB5:=Lib.hid hb5;obtain ⟨z0,z1,z2⟩:=rows_of HPW.out hb5 HPW.out.lt;have HP5:=Lib.hid (HPW.out.below hb5 HPW.out.lt);clear hb5)
      | (go_at_call 216;refine (pow_any D M _ _ (HDW.out.below HB5.out) HM.out HL.out.2 (HRW.out.below HB5.out)).mono ?_;rintro e w6 ⟨v6,rfl,hv6,hb6⟩;rw [F2.out];have hv6:=hv6 G2.out;obtain ⟨A6,c6,rfl,_,_,_⟩:=id hv6;have HV6:=Lib.hid hv6;have HB6:=Lib.hid (HB5.out.trans (hb6.mono HB5.out.size));have HV56:=Lib.hid hb6;obtain ⟨y0,y1,y2⟩:=rows_of HP5.out hb6 HP5.out.lt;clear hb6)
      | (go_at_call 191;refine (fnumP_any _ (N ^ M) (D ^ M) _ _ (isParts_mk (HV5.out.below HV56.out) HV6.out) (HRW.out.below HB6.out) HLL.out.1 HLL.out.2).mono ?_;rintro e w7 ⟨rfl,hb7⟩;have HB7:=Lib.hid (HB6.out.trans (hb7.mono HB6.out.size));clear hb7))
     refine bodyPost_ret (results_tmp2 rfl _ _ _) rfl ?_
     exact ⟨rfl,HBW.out.trans (HB7.out.mono HBW.out.size)⟩
   ·have ho1:((M:Int) % 2==1)=false:=by rw [beq_eq_false_iff_ne];omega
    rw [decide_eq_false ho] at HO
    clear f1 f2 e1 e2 e3 ho hbig
    cases b <;>
    ·rw [← HO.out]
     clear HO
     go_enter Tryz.func214,Tryz.ntmps214
     go_upto_region 6 with fail
     generalize w.alloc (.cells #[.bool _,.slice A (toL N).length c,.slice A' (toL D).length c'] 216)=W at *
     obtain ⟨x0,x1,x2⟩:=rows_of HP.out (Below.refl W.heap.size W) HP.out.lt
     have HBW:=HX
     have HPW:=HP
     have HNW:=HNN
     have HDW:=HDD
     have HRW:=HRR
     go_wp2_with (first
      | (clear TK1;go_at_call 216;refine (pow_any N M _ _ HNW.out HM.out HL.out.1 (HRW.out)).mono ?_;rintro e w5 ⟨v5,rfl,hv5,hb5⟩;rw [F1.out];have hv5:=hv5 G1.out;obtain ⟨A5,c5,rfl,_,_,_⟩:=id hv5;have HV5:=Lib.hid hv5;have HB5:=Lib.hid hb5;obtain ⟨z0,z1,z2⟩:=rows_of HPW.out hb5 HPW.out.lt;have HP5:=Lib.hid (HPW.out.below hb5 HPW.out.lt);clear hb5)
      | (go_at_call 216;refine (pow_any D M _ _ (HDW.out.below HB5.out) HM.out HL.out.2 (HRW.out.below HB5.out)).mono ?_;rintro e w6 ⟨v6,rfl,hv6,hb6⟩;rw [F2.out];have hv6:=hv6 G2.out;obtain ⟨A6,c6,rfl,_,_,_⟩:=id hv6;have HV6:=Lib.hid hv6;have HB6:=Lib.hid (HB5.out.trans (hb6.mono HB5.out.size));have HV56:=Lib.hid hb6;obtain ⟨y0,y1,y2⟩:=rows_of HP5.out hb6 HP5.out.lt;clear hb6)
      | (go_at_call 191;refine (fnumP_any _ (N ^ M) (D ^ M) _ _ (isParts_mk (HV5.out.below HV56.out) HV6.out) (HRW.out.below HB6.out) HLL.out.1 HLL.out.2).mono ?_;rintro e w7 ⟨rfl,hb7⟩;have HB7:=Lib.hid (HB6.out.trans (hb7.mono HB6.out.size));clear hb7))
     refine bodyPost_ret (results_tmp2 rfl _ _ _) rfl ?_
     exact ⟨rfl,HBW.out.trans (HB7.out.mono HBW.out.size)⟩
  ·have F2:=Lib.hid (decide_eq_false f2)
   rw [hbig (fun h=>f2 h.2)]
   clear f1 f2 hbig
   go_enter Tryz.func214,Tryz.ntmps214
   go_upto_region 6 with fail
   generalize w.alloc (.cells #[.bool _,.slice A (toL N).length c,.slice A' (toL D).length c'] 216)=W at *
   obtain ⟨x0,x1,x2⟩:=rows_of HP.out (Below.refl W.heap.size W) HP.out.lt
   have HBW:=HX
   have HPW:=HP
   have HNW:=HNN
   have HDW:=HDD
   have HRW:=HRR
   go_wp2_with (first
    | (clear TK1;go_at_call 216;refine (pow_any N M _ _ HNW.out HM.out HL.out.1 (HRW.out)).mono ?_;rintro e w5 ⟨v5,rfl,hv5,hb5⟩;rw [F1.out];clear hv5;have HB5:=Lib.hid hb5;obtain ⟨z0,z1,z2⟩:=rows_of HPW.out hb5 HPW.out.lt;have HP5:=Lib.hid (HPW.out.below hb5 HPW.out.lt);clear hb5)
    | (go_at_call 216;refine (pow_any D M _ _ (HDW.out.below HB5.out) HM.out HL.out.2 (HRW.out.below HB5.out)).mono ?_;rintro e w6 ⟨v6,rfl,hv6,hb6⟩;rw [F2.out];clear hv6;have HB6:=Lib.hid (HB5.out.trans (hb6.mono HB5.out.size));have HV56:=Lib.hid hb6;obtain ⟨y0,y1,y2⟩:=rows_of HP5.out hb6 HP5.out.lt;clear hb6))
   refine bodyPost_ret (results_tmp2 rfl _ _ _) rfl ?_
   exact ⟨rfl,HBW.out.trans (HB6.out.mono HBW.out.size)⟩
 ·have F1:=Lib.hid (decide_eq_false f1)
  rw [hbig (fun h=>f1 h.1)]
  by_cases f2:Lib.nDigits (D ^ M)≤4000
  ·have F2:=Lib.hid (decide_eq_true f2)
   clear f1 f2 hbig
   go_enter Tryz.func214,Tryz.ntmps214
   go_upto_region 6 with fail
   generalize w.alloc (.cells #[.bool _,.slice A (toL N).length c,.slice A' (toL D).length c'] 216)=W at *
   obtain ⟨x0,x1,x2⟩:=rows_of HP.out (Below.refl W.heap.size W) HP.out.lt
   have HBW:=HX
   have HPW:=HP
   have HNW:=HNN
   have HDW:=HDD
   have HRW:=HRR
   go_wp2_with (first
    | (clear TK1;go_at_call 216;refine (pow_any N M _ _ HNW.out HM.out HL.out.1 (HRW.out)).mono ?_;rintro e w5 ⟨v5,rfl,hv5,hb5⟩;rw [F1.out];clear hv5;have HB5:=Lib.hid hb5;obtain ⟨z0,z1,z2⟩:=rows_of HPW.out hb5 HPW.out.lt;have HP5:=Lib.hid (HPW.out.below hb5 HPW.out.lt);clear hb5)
    | (go_at_call 216;refine (pow_any D M _ _ (HDW.out.below HB5.out) HM.out HL.out.2 (HRW.out.below HB5.out)).mono ?_;rintro e w6 ⟨v6,rfl,hv6,hb6⟩;rw [F2.out];clear hv6;have HB6:=Lib.hid (HB5.out.trans (hb6.mono HB5.out.size));have HV56:=Lib.hid hb6;obtain ⟨y0,y1,y2⟩:=rows_of HP5.out hb6 HP5.out.lt;clear hb6))
   refine bodyPost_ret (results_tmp2 rfl _ _ _) rfl ?_
   exact ⟨rfl,HBW.out.trans (HB6.out.mono HBW.out.size)⟩
  ·have F2:=Lib.hid (decide_eq_false f2)
   clear f1 f2 hbig
   go_enter Tryz.func214,Tryz.ntmps214
   go_upto_region 6 with fail
   generalize w.alloc (.cells #[.bool _,.slice A (toL N).length c,.slice A' (toL D).length c'] 216)=W at *
   obtain ⟨x0,x1,x2⟩:=rows_of HP.out (Below.refl W.heap.size W) HP.out.lt
   have HBW:=HX
   have HPW:=HP
   have HNW:=HNN
   have HDW:=HDD
   have HRW:=HRR
   go_wp2_with (first
    | (clear TK1;go_at_call 216;refine (pow_any N M _ _ HNW.out HM.out HL.out.1 (HRW.out)).mono ?_;rintro e w5 ⟨v5,rfl,hv5,hb5⟩;rw [F1.out];clear hv5;have HB5:=Lib.hid hb5;obtain ⟨z0,z1,z2⟩:=rows_of HPW.out hb5 HPW.out.lt;have HP5:=Lib.hid (HPW.out.below hb5 HPW.out.lt);clear hb5)
    | (go_at_call 216;refine (pow_any D M _ _ (HDW.out.below HB5.out) HM.out HL.out.2 (HRW.out.below HB5.out)).mono ?_;rintro e w6 ⟨v6,rfl,hv6,hb6⟩;rw [F2.out];clear hv6;have HB6:=Lib.hid (HB5.out.trans (hb6.mono HB5.out.size));have HV56:=Lib.hid hb6;obtain ⟨y0,y1,y2⟩:=rows_of HP5.out hb6 HP5.out.lt;clear hb6))
   refine bodyPost_ret (results_tmp2 rfl _ _ _) rfl ?_
   exact ⟨rfl,HBW.out.trans (HB6.out.mono HBW.out.size)⟩
theorem pow1_neg (q:Rat) (n:Int) (M:Nat) (pn:Nat) (v:Value) (w:World) (hr:Res w) (hv:IsFrac w v q) (hn:Boxed w pn 3 (.int .i64 n)) (hneg:n < 0) (hn1:-9223372036854775808≤n) (hM:M=n.natAbs) (h0:q≠0) (sq:Sz maxD q) :
  Calls Tryz.prog 214 #[v,.pointer (some ⟨pn,0,none⟩)] w fun e w'=>e=.returned (resN (outQ (q⁻¹ ^ M)))∧Below w.heap.size w w':=by
 obtain ⟨b0,N0,D0,A0,c0,A0',c0',rfl,_,_,HQ0⟩:=isFrac_open hv
 have HX:=Lib.hid (below_alloc (Below.refl w.heap.size w) (.cells #[.bool b0,.slice A0 (toL N0).length c0,.slice A0' (toL D0).length c0'] 216))
 have hz:=sgQ_zero q
 rw [decide_eq_false h0] at hz
 have HS:=Lib.hid (sign_any q _ _ (hv.below HX.out))
 have cn:=(bx_below hn HX.out hn.lt).cell
 have hng:decide (n < 0)=true:=decide_eq_true hneg
 obtain ⟨U,hU⟩:∃ U,IntKind.u64.wrap n=U:=⟨_,rfl⟩
 have hU2:IntKind.u64.wrap (-U)=(M:Int):=by rw [← hU,IntKind.wrap_u64,IntKind.wrap_u64];omega
 have HN:=Lib.hid hn
 have HV:=Lib.hid hv
 have HM:=Lib.hid (show M < 18446744073709551616 by omega)
 have HP0:=Lib.hid (Blk.new w 216 #[.bool b0,.slice A0 (toL N0).length c0,.slice A0' (toL D0).length c0'])
 have HI:=Lib.hid (fun v w hv=>finvQ_any q v w hv h0)
 have HR:=Lib.hid hr
 have hds:=(sz_iff (by decide)).1 sq.inv
 have HDS:=Lib.hid hds
 have TK1:True:=trivial
 generalize hres:outQ (q⁻¹ ^ M)=r
 have HRES:=Lib.hid hres
 clear hr hv hn sq hn1 hneg h0 hM hds hres
 go_enter Tryz.func214,Tryz.ntmps214
 go_upto_region 6 with (first
  | (go_at_call 211;refine HS.out.mono ?_;rintro e w3 ⟨rfl,hb3⟩;have HB3:=Lib.hid (HX.out.trans (hb3.mono HX.out.size));obtain ⟨x0,x1,x2⟩:=rows_of HP0.out hb3 HP0.out.lt;have HP3:=Lib.hid (HP0.out.below hb3 HP0.out.lt);have cn3:=(bx_below HN.out HB3.out HN.out.lt).cell;clear hb3)
  | (go_at_call 215;refine (HI.out _ _ (HV.out.below HB3.out)).mono ?_;rintro e w4 ⟨v4,rfl,hv4,hb4⟩;obtain ⟨b,N,D,A,c,A',c',rfl,hnn,hdd,HQ⟩:=isFrac_open hv4;have HB4:=Lib.hid (HB3.out.trans (hb4.mono HB3.out.size));obtain ⟨t0,t1,t2,t3,t4,t5⟩:=cells6 (HP3.out.below hb4 HP3.out.lt);have HP4:=Lib.hid (HP3.out.below hb4 HP3.out.lt);have HNN:=Lib.hid hnn;have HDD:=Lib.hid hdd;clear hb4 hv4 hnn hdd))
 have HBW:=Lib.hid (set3_below (g:=w.heap.size) (x:=.bool b) (y:=.slice A (toL N).length c) (z:=.slice A' (toL D).length c') HB4.out (Nat.le_refl _))
 have HPW:=Lib.hid (set3 (x:=.bool b) (y:=.slice A (toL N).length c) (z:=.slice A' (toL D).length c') HP4.out)
 have HNW:=Lib.hid (isNat_set3 (m':=b) (D:=A) (a:=(toL N).length) (b:=c) (D':=A') (a':=(toL D).length) (b':=c') HNN.out HP4.out)
 have HDW:=Lib.hid (isNat_set3 (m':=b) (D:=A) (a:=(toL N).length) (b:=c) (D':=A') (a':=(toL D).length) (b':=c') HDD.out HP4.out)
 have HRW:=Lib.hid (HR.out.below HBW.out)
 have HL:=Lib.hid (show Lib.nDigits N≤4000∧Lib.nDigits D≤4000 by rw [← HQ.out.2.1,← HQ.out.2.2];exact HDS.out)
 generalize ((w4.setCell ⟨w.heap.size,0,none⟩ (.bool b)).setCell ⟨w.heap.size,1,none⟩ (.slice A (toL N).length c)).setCell ⟨w.heap.size,2,none⟩ (.slice A' (toL D).length c')=W at *
 obtain ⟨x0,x1,x2⟩:=rows_of HPW.out (Below.refl W.heap.size W) HPW.out.lt
 clear t0 t1 t2 t3 t4 t5 cn cn3 hU hU2
 have hbig:¬ (Lib.nDigits (N ^ M)≤4000∧Lib.nDigits (D ^ M)≤4000)→outQ (q⁻¹ ^ M)=([],5):=fun h=>by
  obtain ⟨e1,e2,_⟩:=pow_parts (q⁻¹) M
  unfold outQ maxD
  rw [if_pos (by rw [e1,e2,HQ.out.2.1,HQ.out.2.2];omega)]
 by_cases f1:Lib.nDigits (N ^ M)≤4000
 ·have F1:=Lib.hid (decide_eq_true f1)
  have G1:=Lib.hid f1
  by_cases f2:Lib.nDigits (D ^ M)≤4000
  ·have F2:=Lib.hid (decide_eq_true f2)
   have G2:=Lib.hid f2
   have HLL:=Lib.hid (And.intro (Nat.le_trans (limbs_of_nd f1 (show 4000≤9*500 by omega)) (show 500≤40000 by omega)) (Nat.le_trans (limbs_of_nd f2 (show 4000≤9*500 by omega)) (show 500≤40000 by omega)))
   obtain ⟨e1,e2,e3⟩:=pow_parts (q⁻¹) M
   have HO:=Lib.hid (show outP (b&&decide (M % 2=1)) (N ^ M) (D ^ M)=outQ (q⁻¹ ^ M) by rw [← outP_q,e1,e2,e3,HQ.out.1,HQ.out.2.1,HQ.out.2.2])
   by_cases ho:M % 2=1
   ·have ho1:((M:Int) % 2==1)=true:=by rw [beq_iff_eq];omega
    rw [decide_eq_true ho] at HO
    clear f1 f2 e1 e2 e3 ho hbig
    cases b <;>
    ·have HOR:=Lib.hid (HO.out.trans HRES.out)
     clear HO HRES
     go_wp2_with (first
      | (clear TK1;go_at_call 216;refine (pow_any N M _ _ HNW.out HM.out HL.out.1 (HRW.out)).mono ?_;rintro e w5 ⟨v5,rfl,hv5,hb5⟩;rw [F1.out];have hv5:=hv5 G1.out;obtain ⟨A5,c5,rfl,_,_,_⟩:=id hv5;have HV5:=Lib.hid hv5;have HB5:=Lib.hid hb5;obtain ⟨z0,z1,z2⟩:=rows_of HPW.out hb5 HPW.out.lt;have HP5:=Lib.hid (HPW.out.below hb5 HPW.out.lt);clear hb5)
      | (go_at_call 216;refine (pow_any D M _ _ (HDW.out.below HB5.out) HM.out HL.out.2 (HRW.out.below HB5.out)).mono ?_;rintro e w6 ⟨v6,rfl,hv6,hb6⟩;rw [F2.out];have hv6:=hv6 G2.out;obtain ⟨A6,c6,rfl,_,_,_⟩:=id hv6;have HV6:=Lib.hid hv6;have HB6:=Lib.hid (HB5.out.trans (hb6.mono HB5.out.size));have HV56:=Lib.hid hb6;obtain ⟨y0,y1,y2⟩:=rows_of HP5.out hb6 HP5.out.lt;clear hb6)
      | (go_at_call 191;refine (fnumP_any _ (N ^ M) (D ^ M) _ _ (isParts_mk (HV5.out.below HV56.out) HV6.out) (HRW.out.below HB6.out) HLL.out.1 HLL.out.2).mono ?_;rintro e w7 ⟨rfl,hb7⟩;have HB7:=Lib.hid (HB6.out.trans (hb7.mono HB6.out.size));clear hb7))
     refine bodyPost_ret (results_tmp2 rfl _ _ _) rfl ?_
     refine ⟨?_,HBW.out.trans (HB7.out.mono HBW.out.size)⟩
     rw [← HOR.out]
     rfl
   ·have ho1:((M:Int) % 2==1)=false:=by rw [beq_eq_false_iff_ne];omega
    rw [decide_eq_false ho] at HO
    clear f1 f2 e1 e2 e3 ho hbig
    cases b <;>
    ·have HOR:=Lib.hid (HO.out.trans HRES.out)
     clear HO HRES
     go_wp2_with (first
      | (clear TK1;go_at_call 216;refine (pow_any N M _ _ HNW.out HM.out HL.out.1 (HRW.out)).mono ?_;rintro e w5 ⟨v5,rfl,hv5,hb5⟩;rw [F1.out];have hv5:=hv5 G1.out;obtain ⟨A5,c5,rfl,_,_,_⟩:=id hv5;have HV5:=Lib.hid hv5;have HB5:=Lib.hid hb5;obtain ⟨z0,z1,z2⟩:=rows_of HPW.out hb5 HPW.out.lt;have HP5:=Lib.hid (HPW.out.below hb5 HPW.out.lt);clear hb5)
      | (go_at_call 216;refine (pow_any D M _ _ (HDW.out.below HB5.out) HM.out HL.out.2 (HRW.out.below HB5.out)).mono ?_;rintro e w6 ⟨v6,rfl,hv6,hb6⟩;rw [F2.out];have hv6:=hv6 G2.out;obtain ⟨A6,c6,rfl,_,_,_⟩:=id hv6;have HV6:=Lib.hid hv6;have HB6:=Lib.hid (HB5.out.trans (hb6.mono HB5.out.size));have HV56:=Lib.hid hb6;obtain ⟨y0,y1,y2⟩:=rows_of HP5.out hb6 HP5.out.lt;clear hb6)
      | (go_at_call 191;refine (fnumP_any _ (N ^ M) (D ^ M) _ _ (isParts_mk (HV5.out.below HV56.out) HV6.out) (HRW.out.below HB6.out) HLL.out.1 HLL.out.2).mono ?_;rintro e w7 ⟨rfl,hb7⟩;have HB7:=Lib.hid (HB6.out.trans (hb7.mono HB6.out.size));clear hb7))
     refine bodyPost_ret (results_tmp2 rfl _ _ _) rfl ?_
     refine ⟨?_,HBW.out.trans (HB7.out.mono HBW.out.size)⟩
     rw [← HOR.out]
     rfl
  ·have F2:=Lib.hid (decide_eq_false f2)
   have HOR:=Lib.hid ((hbig (fun h=>f2 h.2)).symm.trans HRES.out)
   clear f1 f2 hbig
   go_wp2_with (first
    | (clear TK1;go_at_call 216;refine (pow_any N M _ _ HNW.out HM.out HL.out.1 (HRW.out)).mono ?_;rintro e w5 ⟨v5,rfl,hv5,hb5⟩;rw [F1.out];clear hv5;have HB5:=Lib.hid hb5;obtain ⟨z0,z1,z2⟩:=rows_of HPW.out hb5 HPW.out.lt;have HP5:=Lib.hid (HPW.out.below hb5 HPW.out.lt);clear hb5)
    | (go_at_call 216;refine (pow_any D M _ _ (HDW.out.below HB5.out) HM.out HL.out.2 (HRW.out.below HB5.out)).mono ?_;rintro e w6 ⟨v6,rfl,hv6,hb6⟩;rw [F2.out];clear hv6;have HB6:=Lib.hid (HB5.out.trans (hb6.mono HB5.out.size));have HV56:=Lib.hid hb6;obtain ⟨y0,y1,y2⟩:=rows_of HP5.out hb6 HP5.out.lt;clear hb6))
   refine bodyPost_ret (results_tmp2 rfl _ _ _) rfl ?_
   refine ⟨?_,HBW.out.trans (HB6.out.mono HBW.out.size)⟩
   rw [← HOR.out]
   rfl
 ·have F1:=Lib.hid (decide_eq_false f1)
  have HOR:=Lib.hid ((hbig (fun h=>f1 h.1)).symm.trans HRES.out)
  by_cases f2:Lib.nDigits (D ^ M)≤4000
  ·have F2:=Lib.hid (decide_eq_true f2)
   clear f1 f2 hbig
   go_wp2_with (first
    | (clear TK1;go_at_call 216;refine (pow_any N M _ _ HNW.out HM.out HL.out.1 (HRW.out)).mono ?_;rintro e w5 ⟨v5,rfl,hv5,hb5⟩;rw [F1.out];clear hv5;have HB5:=Lib.hid hb5;obtain ⟨z0,z1,z2⟩:=rows_of HPW.out hb5 HPW.out.lt;have HP5:=Lib.hid (HPW.out.below hb5 HPW.out.lt);clear hb5)
    | (go_at_call 216;refine (pow_any D M _ _ (HDW.out.below HB5.out) HM.out HL.out.2 (HRW.out.below HB5.out)).mono ?_;rintro e w6 ⟨v6,rfl,hv6,hb6⟩;rw [F2.out];clear hv6;have HB6:=Lib.hid (HB5.out.trans (hb6.mono HB5.out.size));have HV56:=Lib.hid hb6;obtain ⟨y0,y1,y2⟩:=rows_of HP5.out hb6 HP5.out.lt;clear hb6))
   refine bodyPost_ret (results_tmp2 rfl _ _ _) rfl ?_
   refine ⟨?_,HBW.out.trans (HB6.out.mono HBW.out.size)⟩
   rw [← HOR.out]
   rfl
  ·have F2:=Lib.hid (decide_eq_false f2)
   clear f1 f2 hbig
   go_wp2_with (first
    | (clear TK1;go_at_call 216;refine (pow_any N M _ _ HNW.out HM.out HL.out.1 (HRW.out)).mono ?_;rintro e w5 ⟨v5,rfl,hv5,hb5⟩;rw [F1.out];clear hv5;have HB5:=Lib.hid hb5;obtain ⟨z0,z1,z2⟩:=rows_of HPW.out hb5 HPW.out.lt;have HP5:=Lib.hid (HPW.out.below hb5 HPW.out.lt);clear hb5)
    | (go_at_call 216;refine (pow_any D M _ _ (HDW.out.below HB5.out) HM.out HL.out.2 (HRW.out.below HB5.out)).mono ?_;rintro e w6 ⟨v6,rfl,hv6,hb6⟩;rw [F2.out];clear hv6;have HB6:=Lib.hid (HB5.out.trans (hb6.mono HB5.out.size));have HV56:=Lib.hid hb6;obtain ⟨y0,y1,y2⟩:=rows_of HP5.out hb6 HP5.out.lt;clear hb6))
   refine bodyPost_ret (results_tmp2 rfl _ _ _) rfl ?_
   refine ⟨?_,HBW.out.trans (HB6.out.mono HBW.out.size)⟩
   rw [← HOR.out]
   rfl
theorem ratPow_any (a:ByteArray) (n:Int) (w:World) (ha:a.size≤270000) (hr:Res w) (h1:-9223372036854775808≤n) (h2:n≤9223372036854775807) :
  Calls Tryz.prog 135 #[.string a,.int .i64 n] w fun e w'=>e=.returned (resN (oneQ (fun q=>powQ q n) a.data.toList))∧Below w.heap.size w w':=by
 have hb:=below_alloc (Below.refl w.heap.size w) (.cells #[.int .i64 n] 3)
 have hn:Boxed (w.alloc (.cells #[.int .i64 n] 3)) w.heap.size 3 (.int .i64 n):=Boxed.new w _ _
 have HB:=Lib.hid (withN_any 214 runs_Pow #[.pointer (some ⟨w.heap.size,0,none⟩)] (fun q=>powQ q n) a _ ha (hr.below hb) (fun q v w' hb' hr' hv sq=>by
  have hn':=bx_below hn hb' hn.lt
  show Calls Tryz.prog 214 #[v,.pointer (some ⟨w.heap.size,0,none⟩)] w' _
  unfold powQ
  by_cases hneg:n < 0
  ·by_cases h0:q=0
   ·rw [if_pos ⟨hneg,h0⟩]
    exact pow1_zero q n w.heap.size v w' hr' hv hn' hneg h0
   ·rw [if_neg (fun h=>h0 h.2),if_pos hneg]
    exact pow1_neg q n _ w.heap.size v w' hr' hv hn' hneg h1 rfl h0 sq
  ·rw [if_neg (fun h=>hneg h.1),if_neg hneg]
   obtain ⟨M,rfl⟩:∃ M:Nat,n=(M:Int):=⟨n.toNat,by omega⟩
   rw [Int.natAbs_natCast]
   exact pow1_pos q M w.heap.size v w' hr' hv hn' (by omega) sq))
 generalize oneQ (fun q=>powQ q n) a.data.toList=r at HB ⊢
 have HX:=Lib.hid hb
 clear hr hb hn
 go_enter Tryz.func135,Tryz.ntmps135
 go_wp2_with (go_at_call 213;refine HB.out.mono ?_;rintro e w2 ⟨rfl,hb2⟩;have HB2:=Lib.hid (HX.out.trans (hb2.mono HX.out.size));clear hb2;unfold resN)
 refine bodyPost_ret (results_tmp2 rfl _ _ _) rfl ?_
 exact ⟨rfl,HB2.out⟩
section
variable {w:World} {g:Nat} {t:TypeId} {P S:List Value} {X:List Nat}
end
section
variable {w:World} {g:Nat} {t:TypeId} {P S:List Value} {X:List Nat}
end
def IsT (a:ByteArray) (q:Rat):Prop:=a=⟨(ratText q).toArray⟩∧Sz maxD q
theorem IsT.list {a:ByteArray} {q:Rat} (h:IsT a q):a.data.toList=ratText q:=by rw [h.1]
theorem IsT.err {a:ByteArray} {q:Rat} (h:IsT a q):errQ a.data.toList=0:=by rw [h.list];exact errQ_ok h.2 (Nat.le_refl _)
theorem IsT.val {a:ByteArray} {q:Rat} (h:IsT a q):valQ a.data.toList=q:=by rw [h.list,valQ_rat]
theorem IsT.of {a:ByteArray} (h:errQ a.data.toList=0):IsT a (valQ a.data.toList):=by
 refine ⟨?_,sz_max h⟩
 rw [← (text_of_ok h).1]
theorem IsT.eq {a b:ByteArray} {q:Rat} (h:IsT a q) (h':IsT b q):a=b:=by rw [h.1,h'.1]
theorem IsT.inj {a:ByteArray} {p q:Rat} (h:IsT a p) (h':IsT a q):p=q:=by rw [← h.val,← h'.val]
theorem ratText_le {q:Rat} {k:Nat} (h:Sz k q):(ratText q).length≤2*k+2:=by
 obtain ⟨h1,h2⟩:=(sz_iff h.pos).1 h
 unfold ratText
 simp only [List.length_append,Lib.decDigits_length]
 have e1:(if ng q then ([45]:List UInt8) else []).length≤1:=by split<;>simp
 have e2:(if q.den=1 then ([]:List UInt8) else 47::Lib.decDigits q.den).length≤k+1:=by
  split
  ·simp
  ·rw [List.length_cons,Lib.decDigits_length];omega
 omega
theorem IsT.size {a:ByteArray} {q:Rat} (h:IsT a q):a.size≤270000:=by
 rw [size_list,h.list]
 have:=ratText_le h.2
 unfold maxD at this
 omega
theorem one_T {f:Rat→List UInt8 × Nat} {a:ByteArray} {p:Rat} (ha:IsT a p):oneQ f a.data.toList=f p:=by
 unfold oneQ;rw [ha.err,ha.val];rfl
theorem two_T {f:Rat→Rat→List UInt8 × Nat} {a b:ByteArray} {p q:Rat} (ha:IsT a p) (hb:IsT b q):twoQ f a.data.toList b.data.toList=f p q:=by
 unfold twoQ;rw [ha.err,hb.err,ha.val,hb.val];rfl
theorem out_T {c:ByteArray} {r:Rat} (hc:IsT c r):resN (outQ r)=.tuple #[.string c,.int .i64 0]:=by
 rw [outQ_ok hc.2 (Nat.le_refl _),hc.1];rfl
theorem div_T {c:ByteArray} {p q:Rat} (hc:IsT c (p*q⁻¹)) (h:q≠0):resN (divQ p q)=.tuple #[.string c,.int .i64 0]:=by
 unfold divQ;rw [if_neg h,out_T hc]
theorem text_q {m:Bool} {n d:Nat} (hd:d≠0) (hg:n.gcd d=1) (hm:m=true→n≠0):ratText (mkQ m n d)=(if m then [45] else [])++Lib.decDigits n++(if d=1 then [] else 47::Lib.decDigits d):=by
 obtain ⟨h1,h2,h3⟩:=mkQ_low (m:=m) hd hg
 have:(m&&decide (n≠0))=m:=by
  cases m with
  | false=>rfl
  | true=>simpa using hm rfl
 unfold ratText
 rw [h1,h2,h3,this]
theorem sz_q {m:Bool} {n d k:Nat} (hd:d≠0) (hn:n < 10 ^ k) (hd':d < 10 ^ k):Sz k (mkQ m n d):=⟨Nat.lt_of_le_of_lt (mkQ_nm_le hd) hn,Nat.lt_of_le_of_lt (mkQ_den_le hd) hd'⟩
theorem isT_small {m:Bool} {n d:Nat} {l:List UInt8} (hd:d≠0) (hg:n.gcd d=1) (hm:m=true→n≠0) (hn:n < 10) (hd':d < 10) (hl:(if m then [45] else [])++[UInt8.ofNat (48+n)]++(if d=1 then [] else [47,UInt8.ofNat (48+d)])=l):IsT ⟨l.toArray⟩ (mkQ m n d):=by
 refine ⟨?_,(sz_q (k:=1) hd (by omega) (by omega)).mono (by decide)⟩
 rw [text_q hd hg hm,Lib.decDigits_one hn,Lib.decDigits_one hd',← hl]
theorem IsT.zero:IsT ⟨#[48]⟩ 0:=by
 have h:=isT_small (m:=false) (n:=0) (d:=1) (l:=[48]) (by decide) (by decide) (by decide) (by decide) (by decide) (by decide)
 rwa [mkQ_zero] at h
theorem IsT.one:IsT ⟨#[49]⟩ 1:=by
 have h:=isT_small (m:=false) (n:=1) (d:=1) (l:=[49]) (by decide) (by decide) (by decide) (by decide) (by decide) (by decide)
 have e:mkQ false 1 1=1:=by unfold mkQ;simp;rfl
 rwa [e] at h
section
variable {a b c:ByteArray} {p q:Rat} (w:World)
theorem addT (ha:IsT a p) (hb:IsT b q) (hc:IsT c (p+q)) (hr:Res w) :
  Calls Tryz.prog 107 #[.string a,.string b] w fun e w'=>e=.returned (.tuple #[.string c,.int .i64 0])∧Below w.heap.size w w':=by
 refine (ratAdd_any a b w ha.size hb.size hr).mono ?_
 rintro e w' ⟨rfl,h⟩
 rw [two_T ha hb,out_T hc]
 exact ⟨rfl,h⟩
theorem mulT (ha:IsT a p) (hb:IsT b q) (hc:IsT c (p*q)) (hr:Res w) :
  Calls Tryz.prog 130 #[.string a,.string b] w fun e w'=>e=.returned (.tuple #[.string c,.int .i64 0])∧Below w.heap.size w w':=by
 refine (ratMul_any a b w ha.size hb.size hr).mono ?_
 rintro e w' ⟨rfl,h⟩
 rw [two_T ha hb,out_T hc]
 exact ⟨rfl,h⟩
theorem divT (ha:IsT a p) (hb:IsT b q) (hc:IsT c (p*q⁻¹)) (h0:q≠0) (hr:Res w) :
  Calls Tryz.prog 133 #[.string a,.string b] w fun e w'=>e=.returned (.tuple #[.string c,.int .i64 0])∧Below w.heap.size w w':=by
 refine (ratDiv_any a b w ha.size hb.size hr).mono ?_
 rintro e w' ⟨rfl,h⟩
 rw [two_T ha hb,div_T hc h0]
 exact ⟨rfl,h⟩
theorem inv_pow (q:Rat) (k:Nat):(q⁻¹) ^ k=(q ^ k)⁻¹:=by
 induction k with
 | zero=>rw [Rat.pow_zero,Rat.pow_zero];decide +kernel
 | succ k ih=>rw [Rat.pow_succ,Rat.pow_succ,ih,Rat.inv_mul_rev,Rat.mul_comm]
theorem powQ_z {q:Rat} {n:Int} (h:¬ (n < 0∧q=0)):powQ q n=outQ (q ^ n):=by
 unfold powQ
 rw [if_neg h]
 congr 1
 split
 ·obtain ⟨k,rfl⟩:∃ k:Nat,n=-(k:Int):=⟨n.natAbs,by omega⟩
  rw [Rat.zpow_neg,Rat.zpow_natCast,Int.natAbs_neg,Int.natAbs_natCast,inv_pow]
 ·obtain ⟨k,rfl⟩:∃ k:Nat,n=(k:Int):=⟨n.natAbs,by omega⟩
  rw [Rat.zpow_natCast,Int.natAbs_natCast]
theorem powT {n:Int} (ha:IsT a p) (h0:¬ (n < 0∧p=0)) (hc:IsT c (p ^ n)) (h1:-9223372036854775808≤n) (h2:n≤9223372036854775807) (hr:Res w) :
  Calls Tryz.prog 135 #[.string a,.int .i64 n] w fun e w'=>e=.returned (.tuple #[.string c,.int .i64 0])∧Below w.heap.size w w':=by
 refine (ratPow_any a n w ha.size hr h1 h2).mono ?_
 rintro e w' ⟨rfl,h⟩
 rw [one_T ha,powQ_z h0,out_T hc]
 exact ⟨rfl,h⟩
theorem checkT (ha:IsT a p) (hr:Res w) :
  Calls Tryz.prog 138 #[.string a] w fun e w'=>e=.returned (.int .i64 0)∧Below w.heap.size w w':=by
 refine (ratCheck_any a w ha.size hr).mono ?_
 rintro e w' ⟨rfl,h⟩
 rw [ha.err]
 exact ⟨rfl,h⟩
end
theorem Sz.zpow {j:Nat} {q:Rat} (h:Sz j q) (n:Int):Sz (j*n.natAbs+1) (q ^ n):=by
 by_cases hn:n < 0
 ·obtain ⟨k,rfl⟩:∃ k:Nat,n=-(k:Int):=⟨n.natAbs,by omega⟩
  rw [Rat.zpow_neg,Rat.zpow_natCast,Int.natAbs_neg,Int.natAbs_natCast]
  exact (h.pow k).inv
 ·obtain ⟨k,rfl⟩:∃ k:Nat,n=(k:Int):=⟨n.natAbs,by omega⟩
  rw [Rat.zpow_natCast,Int.natAbs_natCast]
  exact h.pow k
end Go.Proofs.YtigapglmipmbeaaGreatDoor
