/- The reference's rational numbers: Reduce, Negative, Over, Times, Plus (printed by mkrq.py). -/
import Derived.Test.YtigapglmipmbeaaGreatDoorLwMomentAdds10
import Derived.Test.YtigapglmipmbeaaGreatDoorLwMomentAdds08
import Derived.Test.YtigapglmipmbeaaGreatDoorLwMomentAdds07
set_option maxRecDepth 100000
set_option maxHeartbeats 16000000
open Go.Proofs.Tryz
namespace Go.Proofs.YtigapglmipmbeaaGreatDoor
open Go.RowKit Go.Shelf
open Lim
attribute [local go_sem] Oper.semAt_some
theorem a4s{w w':World}{n g:Nat}{m:Bool}{A A':Option Addr}{l c l' c':Nat}(h:Blk w g 170 #[.bool m,.slice A l c,.slice A' l' c'])(hb:Below n w w')(hg:g < n) :
  Hid (Blk w' g 170 #[.bool m,.slice A l c,.slice A' l' c'])∧w'.cell? ⟨g,0,none⟩=some (.bool m)∧w'.frozen? ⟨g,0,none⟩=false∧w'.cell? ⟨g,1,none⟩=some (.slice A l c)∧w'.frozen? ⟨g,1,none⟩=false∧w'.cell? ⟨g,2,none⟩=some (.slice A' l' c')∧w'.frozen? ⟨g,2,none⟩=false:=by
 have h':=h.below hb hg;obtain⟨r0,s0⟩:=a0W h' 0 (by simp);obtain⟨r1,s1⟩:=a0W h' 1 (by simp);obtain⟨r2,s2⟩:=a0W h' 2 (by simp);exact⟨b9W h',r0,s0,r1,s1,r2,s2⟩
theorem a6p(w:World)(m vn vd m' vn' vd':Value):Blk (((w.alloc (.cells #[m,vn,vd] 170)).alloc (.cells #[m',vn',vd'] 170)).alloc zQ) w.heap.size 170 #[m,vn,vd] ∧
  Blk (((w.alloc (.cells #[m,vn,vd] 170)).alloc (.cells #[m',vn',vd'] 170)).alloc zQ) (w.heap.size+1) 170 #[m',vn',vd'] ∧
  Blk (((w.alloc (.cells #[m,vn,vd] 170)).alloc (.cells #[m',vn',vd'] 170)).alloc zQ) (w.heap.size+1+1) 170 #[.bool false,.slice none 0 0,.slice none 0 0] ∧
  Below w.heap.size w (((w.alloc (.cells #[m,vn,vd] 170)).alloc (.cells #[m',vn',vd'] 170)).alloc zQ)∧(((w.alloc (.cells #[m,vn,vd] 170)).alloc (.cells #[m',vn',vd'] 170)).alloc zQ).heap.size=w.heap.size+3:=by
 refine⟨((Blk.new w _ _).alloc _).alloc _,?_,?_,(((Below.refl _ _).alloc (Nat.le_refl _) _).alloc (by simp) _).alloc (by simp;omega) _,by simp⟩
 ·have:=(Blk.new (w.alloc (.cells #[m,vn,vd] 170)) 170 #[m',vn',vd']).alloc zQ
  rwa [World.size_alloc]at this
 ·have:=Blk.new ((w.alloc (.cells #[m,vn,vd] 170)).alloc (.cells #[m',vn',vd'] 170)) 170 #[.bool false,.slice none 0 0,.slice none 0 0]
  rwa [World.size_alloc,World.size_alloc]at this
theorem b2s(m:Bool)(n d:Nat)(vn vd:Value)(w:World)(hn:a0u w vn n)(hd:a0u w vd d)(h0:n=0) :
  Calls prog 222 #[.bool m,vn,vd] w fun e w'=>∃ v,e=.returned v∧a08 w' v false 0 1∧Below w.heap.size w w':=by
 obtain⟨An,cn,rfl,_,_,_⟩:=hn;obtain⟨Ad,cd,rfl,_,_,_⟩:=hd;have hz:(((toL n).length:Int)==0)=true:=by rw[a2g,decide_eq_true h0]
 have e0:toL 0=[]:=by simp[a0E]
 have HB0:=b9W (a1z w);have HBW:=b9W ((Below.refl w.heap.size w).alloc (Nat.le_refl _) zQ);clear h0
 go_enter func222,ntmps222
 go_wp2_with (go_at_call 227;refine(a6L _).mono ?_;rintro e w1 ⟨v1,rfl,hv1,hb⟩;obtain⟨A1,c1,rfl,_,_,_⟩:=id hv1;have HV1:=b9W hv1;have HX:=b9W hb;obtain⟨HB1,r0,s0,r1,s1,r2,s2⟩:=a4s HB0.out hb (by simp);clear hb hv1)
 refine a8a rfl rfl (by simp) (set3 HB1.out) ⟨_,rfl,?_,?_⟩
 ·refine⟨none,0,A1,c1,by rw[e0];rfl,?_,a0I HV1.out HB1.out⟩
  rw[e0];exact⟨none,0,by rw[e0],by rw[e0];exact Nat.le_refl _,by decide,fun h=>by rw[e0]at h;exact absurd h (by decide)⟩
 ·exact a0t (HBW.out.trans (HX.out.mono (by simp))) (Nat.le_refl _)
theorem b13(m:Bool)(n d:Nat)(vn vd:Value)(w:World)(hn:a0u w vn n)(hd:a0u w vd d)(h0:n≠0)(hln:(toL n).length≤30000)(hld:(toL d).length≤30000) :
  Calls prog 222 #[.bool m,vn,vd] w fun e w'=>∃ v,e=.returned v∧a08 w' v m (n / n.gcd d) (d / n.gcd d)∧Below w.heap.size w w':=by
 have HN:=b9W hn;have HD:=b9W hd;obtain⟨An,cn,rfl,_,_,_⟩:=hn;obtain⟨Ad,cd,rfl,_,_,_⟩:=hd;have hz:(((toL n).length:Int)==0)=false:=by rw[a2g,decide_eq_false h0]
 have HGP:=b9W (show 0 < n.gcd d from Nat.gcd_pos_of_pos_left _ (Nat.pos_of_ne_zero h0));have HLG:=b9W (a8T hln hld);have HB0:=b9W (a1z w);have HBW:=b9W ((Below.refl w.heap.size w).alloc (Nat.le_refl _) zQ);have TK2:True:=trivial;clear h0
 go_enter func222,ntmps222
 go_wp2_with (first
  | (go_at_call 236;refine(a4F n d _ _ _ (HN.out.below HBW.out) (HD.out.below HBW.out) hln hld).mono ?_;rintro e w1 ⟨v1,rfl,hgv,hb⟩;obtain⟨Ag,cg,rfl,_,_,_⟩:=id hgv;have HG:=b9W hgv;have HX:=b9W (HBW.out.trans (hb.mono (by simp)));have HB1:=b9W (HB0.out.below hb HB0.out.lt);clear hb hgv)
  | (clear TK2;go_at_call 268;refine(a5Q n (n.gcd d) _ _ _ (HN.out.below HX.out) HG.out hln HLG.out HGP.out).mono ?_;rintro e w3 ⟨vq3,vr3,rfl,hq3,hr3,hb3⟩;obtain⟨Aq3,cq3,rfl,_,_,_⟩:=id hq3;have HQ3:=b9W hq3;have HX3:=b9W hb3;have HB3:=b9W (HB1.out.below hb3 HB1.out.lt);clear hb3 hq3 hr3)
  | (go_at_call 268;refine(a5Q d (n.gcd d) _ _ _ ((HD.out.below HX.out).below HX3.out) (HG.out.below HX3.out) hld HLG.out HGP.out).mono ?_;rintro e w4 ⟨vq4,vr4,rfl,hq4,hr4,hb4⟩;obtain⟨Aq4,cq4,rfl,_,_,_⟩:=id hq4;have HQ4:=b9W hq4;have HX4:=b9W hb4;obtain⟨HB4,r0,s0,r1,s1,r2,s2⟩:=a4s HB3.out hb4 HB3.out.lt;clear hb4 hq4 hr4))
 have hB:=HX.out.trans ((HX3.out.mono HX.out.size).trans (HX4.out.mono (Nat.le_trans HX.out.size HX3.out.size)));refine a8a rfl rfl (by simp) (set3 HB4.out) ⟨_,rfl,?_,?_⟩
 ·exact a07 (a0I (HQ3.out.below HX4.out) HB4.out) (a0I HQ4.out HB4.out)
 ·exact a0t hB (Nat.le_refl _)
theorem a3O(m:Bool)(n d:Nat)(vn vd:Value)(w:World)(hn:a0u w vn n)(hd:a0u w vd d)(hd0:d≠0)(hln:(toL n).length≤30000)(hld:(toL d).length≤30000) :
  Calls prog 222 #[.bool m,vn,vd] w fun e w'=>∃ v,e=.returned v∧IsQ w' v (mkQ m n d)∧Below w.heap.size w w':=by
 by_cases h0:n=0
 ·refine(b2s m n d vn vd w hn hd h0).mono ?_
  rintro e w' ⟨v,rfl,h,hb⟩;subst h0;exact⟨v,rfl,by rw[b0a];exact h,hb⟩
 ·refine(b13 m n d vn vd w hn hd h0 hln hld).mono ?_
  rintro e w' ⟨v,rfl,h,hb⟩;refine⟨v,rfl,?_,hb⟩;unfold IsQ;rw[b5u hd0,b1C hd0,a8x hd0,decide_eq_true h0,Bool.and_true];exact h
theorem a81(a:Rat)(v:Value)(w:World)(h:IsQ w v a)(h0:a≠0) :
  Calls prog 156 #[v] w fun e w'=>∃ v2,e=.returned v2∧IsQ w' v2 a⁻¹∧Below w.heap.size w w':=by
 obtain⟨b,N,D,A,c,A',c',rfl,hn,hd,HP⟩:=a0w h;have HI:=b9W (a2G h0);have HN:=b9W hn;have HD:=b9W hd;have HB:=b9W (fun o o'=>a0d (a0d (Below.refl w.heap.size w) o) o');clear hn hd h h0
 go_enter func156,ntmps156
 go_wp2;refine a8a rfl rfl (by simp) (Blk.new _ _ _) ⟨_,rfl,?_,?_⟩
 ·obtain⟨h1,h2,h3⟩:=HI.out
  obtain⟨e1,e2,e3⟩:=HP.out;unfold IsQ;rw[h1,h2,h3,e1,e2,e3];exact a07 (HD.out.below (HB.out _ _)) (HN.out.below (HB.out _ _))
 ·exact HB.out _ _
theorem b2z(m m':Bool)(n d n' d':Nat)(v v':Value)(w:World)(h:a08 w v m n d)(h':a08 w v' m' n' d')(hd0:d*d'≠0)(l1:(toL n).length≤10000)(l2:(toL d).length≤10000)(l3:(toL n').length≤10000)(l4:(toL d').length≤10000) :
  Calls prog 229 #[v,v'] w fun e w'=>∃ v2,e=.returned v2∧IsQ w' v2 (mkQ (m != m') (n*n') (d*d'))∧Below w.heap.size w w':=by
 obtain⟨An,cn,Ad,cd,rfl,hn,hd⟩:=h;obtain⟨An',cn',Ad',cd',rfl,hn',hd'⟩:=h';have HN:=b9W hn;have HD:=b9W hd;have HN':=b9W hn';have HD':=b9W hd';have ln:=Nat.le_trans (a0D n n') (show _≤30000 by omega);have ld:=Nat.le_trans (a0D d d') (show _≤30000 by omega);clear hn hd hn' hd';refine(callsIn_wide (n:=3)).1 ?_;have h1:1≤3:=by omega
 have hmx:prog.follows .mixedOrders=true:=by kernel_rfl
 refine callsIn_of_wp func229 rfl trivial ?_ rfl
 simp only[ntmps229,List.size_toArray,List.length_cons,List.length_nil,Nat.reduceAdd,Nat.reduceSub,Array.replicate_succ,Array.replicate_zero,List.push_toArray,List.append_toArray,List.nil_append,List.cons_append]
 gi_upto_region 1 with fail
 obtain⟨b0,b1,b2,hB,hs⟩:=a6p w (.bool m) (.slice An (toL n).length cn) (.slice Ad (toL d).length cd) (.bool m') (.slice An' (toL n').length cn') (.slice Ad' (toL d').length cd');generalize ((w.alloc (.cells #[.bool m,.slice An (toL n).length cn,.slice Ad (toL d).length cd] 170)).alloc (.cells #[.bool m',.slice An' (toL n').length cn',.slice Ad' (toL d').length cd'] 170)).alloc zQ=W at *;obtain⟨x0,x1,x2⟩:=a0j (S:=fun k=>k < W.heap.size∧k≠w.heap.size+1+1) b0 ⟨by omega,by omega⟩;obtain⟨y0,y1,y2⟩:=a0j (S:=fun k=>k < W.heap.size∧k≠w.heap.size+1+1) b1 ⟨by omega,by omega⟩;have HB:=b9W (a0x hB);have HS:=b9W hs;have HB1:=b9W b2;clear b0 b1 b2 hB hs;refine a0o (a0R W (fun k=>k < W.heap.size∧k≠w.heap.size+1+1)) [0,1,2,3,4,5,6,7,8,10,11,12,13] [] hmx (by kernel_rfl) (a0g fun _ _=>rfl) ?_;change a0l _ _ _ _ _ _ _ _ (4+13) _ _ _;refine a0e [0,1,2,3,4,5,6,7,8,10,11,12,13] 4 _ _ (by kernel_rfl) ?_;change wpQuietIn _ _ _ _ (fun W'=>∃ x:a0n W (fun k=>k < W.heap.size∧k≠w.heap.size+1+1),W'=x.W) _ _ _
 simp only[a0h,a0m,List.getElem?_cons_zero,List.getElem?_cons_succ,Option.elim_some]
 repeat (gi_big_quiet_step (fail))
 refine wpQuietIn_nil ?_;refine a0c 9 (by kernel_rfl) rfl ?_;gi_wp2;refine⟨trivial,?_⟩;refine(callsIn_wide.2 (a1d n n' _ _ W.drew (HN.out.below HB.out) (HN'.out.below HB.out) (by omega) (by omega))).mono ?_;rintro e w3 ⟨v3,rfl,hv3,hb3⟩;have HV3:=b9W hv3;have HB3:=b9W (a0q hb3);clear hv3 hb3;gi_wp2;refine a0b (a0a HB3.out (fun k hk=>hk.1)) ?_;refine a0c 14 (by kernel_rfl) rfl ?_;gi_wp2;refine⟨trivial,?_⟩;refine(callsIn_wide.2 (a1d d d' _ _ w3 (HD.out.below (HB.out.trans ((a0f HB3.out).mono HB.out.size))) (HD'.out.below (HB.out.trans ((a0f HB3.out).mono HB.out.size))) (by omega) (by omega))).mono ?_;rintro e w4 ⟨v4,rfl,hv4,hb4⟩;have HV4:=b9W hv4;have HB4:=b9W hb4;clear hv4 hb4;gi_wp2;refine a0b (a0a (HB3.out.trans (HB4.out.mono HB3.out.size)) (fun k hk=>hk.1)) ?_;refine a0c 15 (by kernel_rfl) rfl ?_;gi_wp2;refine⟨trivial,?_⟩;refine(callsIn_wide.2 (a3O (!(m==m')) (n*n') (d*d') _ _ w4 (HV3.out.below HB4.out) HV4.out hd0 ln ld)).mono ?_;rintro e w5 ⟨v5,rfl,hv5,hb5⟩;obtain⟨b5,N5,D5,A5,c5,A5',c5',rfl,hn5,hd5,HP5⟩:=a0w hv5;clear hv5;have hb45:Below W.heap.size W w5:=HB3.out.trans ((HB4.out.mono HB3.out.size).trans (hb5.mono (Nat.le_trans HB3.out.size HB4.out.size)));have hsz:=HS.out;obtain⟨HB5,r0,s0,r1,s1,r2,s2⟩:=a4s HB1.out hb45 (by omega);have HN5:=b9W hn5;have HD5:=b9W hd5;have HB45:=b9W hb45;clear hn5 hd5 hb5 hb45 hsz;gi_wp2;refine a0b (a0a HB45.out (fun k hk=>hk.1)) ?_;refine a0c 16 (by kernel_rfl) rfl ?_;gi_wp2;refine a0b (a0g fun k hk=>(a1f k hk.2).trans (HB45.out.block k hk.1)) ?_;refine a0i (by kernel_rfl) ?_;gi_wp2;have hsz:=HS.out;refine a8a rfl rfl (by simp) (set3 HB5.out) ⟨_,rfl,?_,?_⟩
 ·exact a4l HP5 (a07 (a0I HN5.out HB5.out) (a0I HD5.out HB5.out))
 ·exact a0t (g:=w.heap.size+1+1) (HB.out.trans ((a0f HB45.out).mono HB.out.size)) (by omega)
theorem a8Z(a b:Rat)(v v':Value)(w:World)(h:IsQ w v a)(h':IsQ w v' b)(l1:(toL (nm a)).length≤10000)(l2:(toL a.den).length≤10000)(l3:(toL (nm b)).length≤10000)(l4:(toL b.den).length≤10000) :
  Calls prog 229 #[v,v'] w fun e w'=>∃ v2,e=.returned v2∧IsQ w' v2 (a*b)∧Below w.heap.size w w':=by
 have hd0:a.den*b.den≠0:=Nat.ne_of_gt (Nat.mul_pos (den_pos a) (den_pos b));rw[a7T];exact b2z _ _ _ _ _ _ _ _ _ h h' hd0 l1 l2 l3 l4
theorem b6y(m m':Bool)(n d n' d':Nat)(v v':Value)(w:World)(h:a08 w v m n d)(h':a08 w v' m' n' d')(hd0:d*d'≠0)(hm:m=m')(l1:(toL n).length≤10000)(l2:(toL d).length≤10000)(l3:(toL n').length≤10000)(l4:(toL d').length≤10000) :
  Calls prog 154 #[v,v'] w fun e w'=>∃ v2,e=.returned v2∧IsQ w' v2 (mkQ m (n*d'+n'*d) (d*d'))∧Below w.heap.size w w':=by
 obtain⟨An,cn,Ad,cd,rfl,hn,hd⟩:=h;obtain⟨An',cn',Ad',cd',rfl,hn',hd'⟩:=h';have HN:=b9W hn;have HD:=b9W hd;have HN':=b9W hn';have HD':=b9W hd';have lx:=Nat.le_trans (a0D n d') (show _≤20000 by omega);have ly:=Nat.le_trans (a0D n' d) (show _≤20000 by omega);have ld:=Nat.le_trans (a0D d d') (show _≤20000 by omega);have HD0:=b9W hd0;clear hn hd hn' hd' hd0;have hmm:(m==m')=true:=by rw[beq_iff_eq];exact hm
 clear hm;refine(callsIn_wide (n:=3)).1 ?_;have h1:1≤3:=by omega
 have hmx:prog.follows .mixedOrders=true:=by kernel_rfl
 refine callsIn_of_wp func154 rfl trivial ?_ rfl
 simp only[ntmps154,List.size_toArray,List.length_cons,List.length_nil,Nat.reduceAdd,Nat.reduceSub,Array.replicate_succ,Array.replicate_zero,List.push_toArray,List.append_toArray,List.nil_append,List.cons_append]
 gi_upto_region 1 with fail
 obtain⟨b0,b1,b2,hB,hs⟩:=a6p w (.bool m) (.slice An (toL n).length cn) (.slice Ad (toL d).length cd) (.bool m') (.slice An' (toL n').length cn') (.slice Ad' (toL d').length cd');generalize ((w.alloc (.cells #[.bool m,.slice An (toL n).length cn,.slice Ad (toL d).length cd] 170)).alloc (.cells #[.bool m',.slice An' (toL n').length cn',.slice Ad' (toL d').length cd'] 170)).alloc zQ=W at *;obtain⟨x0,x1,x2⟩:=a0j (S:=fun k=>k < W.heap.size∧k≠w.heap.size+1+1) b0 ⟨by omega,by omega⟩;obtain⟨y0,y1,y2⟩:=a0j (S:=fun k=>k < W.heap.size∧k≠w.heap.size+1+1) b1 ⟨by omega,by omega⟩;have HB:=b9W (a0x hB);have HS:=b9W hs;have P0:=b9W b0;have P1:=b9W b1;have P2:=b9W b2;clear b0 b1 b2 hB hs;refine a0o (a0R W (fun k=>k < W.heap.size∧k≠w.heap.size+1+1)) [0,1,2,3,5,6,7,8,10,11] [] hmx (by kernel_rfl) (a0g fun _ _=>rfl) ?_;change a0l _ _ _ _ _ _ _ _ (4+8) _ _ _;refine a0e [0,1,2,3,5,6,7,8] 4 _ _ (by kernel_rfl) ?_;change wpQuietIn _ _ _ _ (fun W'=>∃ x:a0n W (fun k=>k < W.heap.size∧k≠w.heap.size+1+1),W'=x.W) _ _ _
 simp only[a0h,a0m,List.getElem?_cons_zero,List.getElem?_cons_succ,Option.elim_some]
 repeat (gi_big_quiet_step (fail))
 refine wpQuietIn_nil ?_;refine a0c 4 (by kernel_rfl) rfl ?_;gi_wp2;refine⟨trivial,?_⟩;refine(callsIn_wide.2 (a1d n d' _ _ W.drew (HN.out.below HB.out) (HD'.out.below HB.out) (by omega) (by omega))).mono ?_;rintro e w3 ⟨v3,rfl,hv3,hb3⟩;obtain⟨A3,c3,rfl,_,_,_⟩:=id hv3;have HV3:=b9W hv3;have HB3:=b9W (a0q hb3);clear hv3 hb3;gi_wp2;refine a0b (a0a HB3.out (fun k hk=>hk.1)) ?_;refine a0c 9 (by kernel_rfl) rfl ?_;gi_wp2;refine⟨trivial,?_⟩;refine(callsIn_wide.2 (a1d n' d _ _ w3 (HN'.out.below (HB.out.trans ((a0f HB3.out).mono HB.out.size))) (HD.out.below (HB.out.trans ((a0f HB3.out).mono HB.out.size))) (by omega) (by omega))).mono ?_;rintro e w4 ⟨v4,rfl,hv4,hb4⟩;obtain⟨A4,c4,rfl,_,_,_⟩:=id hv4;have HV4:=b9W hv4;have HV3:=b9W (HV3.out.below hb4);have hB4:Below W.heap.size W w4:=HB3.out.trans (hb4.mono HB3.out.size);have HB4:=b9W hB4;clear hv4 hb4 hB4;gi_wp2;refine a0b (a0a HB4.out (fun k hk=>hk.1)) ?_;change a0l _ _ _ _ _ _ _ _ (0+2) _ _ _;refine a0e [10,11] 0 _ _ (by kernel_rfl) ?_;change wpQuietIn _ _ _ _ (fun W'=>∃ x:a0n W (fun k=>k < W.heap.size∧k≠w.heap.size+1+1),W'=x.W) _ _ _
 simp only[a0h,a0m,List.getElem?_cons_zero,List.getElem?_cons_succ,Option.elim_some]
 repeat (gi_big_quiet_step (fail))
 refine wpQuietIn_nil ?_;refine a0i (by kernel_rfl) ?_;clear x0 x1 x2 y0 y1 y2;have hsz:=HS.out;obtain⟨x0,x1,x2⟩:=a1u (P0.out.below HB4.out (by omega));obtain⟨y0,y1,y2⟩:=a1u (P1.out.below HB4.out (by omega));clear hsz
 gi_upto_region 3 with fail
 have HB40:=b9W (HB.out.trans ((a0f HB4.out).mono HB.out.size));refine⟨trivial,?_⟩;refine(callsIn_wide.2 (a1d d d' _ _ w4 (HD.out.below HB40.out) (HD'.out.below HB40.out) (by omega) (by omega))).mono ?_;rintro e w6 ⟨v5,rfl,hv5,hb5⟩;obtain⟨A5,c5,rfl,_,_,_⟩:=id hv5;have HV5:=b9W hv5;have HV3:=b9W (HV3.out.below hb5);have HV4:=b9W (HV4.out.below hb5);have hB5:Below W.heap.size W w6:=HB4.out.trans (hb5.mono HB4.out.size);have HB5:=b9W hB5;clear hv5 hb5 hB5 x0 x1 x2 y0 y1 y2;have hsz:=HS.out;have R0:=b9W (P0.out.below HB5.out (by omega));have R1:=b9W (P1.out.below HB5.out (by omega));have R2:=b9W (P2.out.below HB5.out (by omega));obtain⟨x0,x1,x2⟩:=a1u R0.out;obtain⟨y0,y1,y2⟩:=a1u R1.out;clear hsz;have Q0:=R0;have Q1:=R1;have Q2:=R2;have HB6:=HB5;have h62:=HB6.out.size
 gi_upto_region 4 with fail
 clear x0 x1 x2 y0 y1 y2;have hsz:=HS.out;obtain⟨x0,x1,x2⟩:=a0j (S:=fun k=>k < w6.heap.size∧k≠w.heap.size+1+1) Q0.out ⟨by omega,by omega⟩;obtain⟨y0,y1,y2⟩:=a0j (S:=fun k=>k < w6.heap.size∧k≠w.heap.size+1+1) Q1.out ⟨by omega,by omega⟩;clear hsz;refine a0o (a0R w6 (fun k=>k < w6.heap.size∧k≠w.heap.size+1+1)) [0,1,2,3,5] [] hmx (by kernel_rfl) (a0g fun _ _=>rfl) ?_;change a0l _ _ _ _ _ _ _ _ (3+5) _ _ _;refine a0e [0,1,2,3,5] 3 _ _ (by kernel_rfl) ?_;change wpQuietIn _ _ _ _ (fun W'=>∃ x:a0n w6 (fun k=>k < w6.heap.size∧k≠w.heap.size+1+1),W'=x.W) _ _ _
 simp only[a0h,a0m,List.getElem?_cons_zero,List.getElem?_cons_succ,Option.elim_some]
 repeat (gi_big_quiet_step (fail))
 refine wpQuietIn_nil ?_;refine a0c 4 (by kernel_rfl) rfl ?_;gi_wp2;refine⟨trivial,?_⟩;refine(callsIn_wide.2 (b1J (n*d') (n'*d) _ _ w6.drew HV3.out HV4.out (by omega) (by omega))).mono ?_;rintro e w7 ⟨v7,rfl,hv7,hb7⟩;have HV7:=b9W hv7;have HB7:=b9W (a0q hb7);clear hv7 hb7;gi_wp2;refine a0b (a0a HB7.out (fun k hk=>hk.1)) ?_;refine a0c 6 (by kernel_rfl) rfl ?_;gi_wp2;refine⟨trivial,?_⟩;refine(callsIn_wide.2 (a3O m _ (d*d') _ _ w7 HV7.out (HV5.out.below HB7.out) HD0.out (Nat.le_trans (a9m lx ly) (by omega)) (by omega))).mono ?_;rintro e w8 ⟨v8,rfl,hv8,hb8⟩;obtain⟨b8,N8,D8,A8,c8,A8',c8',rfl,hn8,hd8,HP8⟩:=a0w hv8;clear hv8;have hb78:Below w6.heap.size w6 w8:=HB7.out.trans (hb8.mono HB7.out.size);have hsz:=HS.out;obtain⟨HR8,r0,s0,r1,s1,r2,s2⟩:=a4s Q2.out hb78 (by omega);have HN8:=b9W hn8;have HD8:=b9W hd8;have HB78:=b9W hb78;clear hn8 hd8 hb8 hb78 hsz;gi_wp2;refine a0b (a0a HB78.out (fun k hk=>hk.1)) ?_;refine a0c 7 (by kernel_rfl) rfl ?_;gi_wp2;refine a0b (a0g fun k hk=>(a1f k hk.2).trans (HB78.out.block k hk.1)) ?_;refine a0i (by kernel_rfl) ?_;gi_wp2;have hsz:=HS.out;refine a8a rfl rfl (by simp) (set3 HR8.out) ⟨_,rfl,?_,?_⟩
 ·exact a4l HP8 (a07 (a0I HN8.out HR8.out) (a0I HD8.out HR8.out))
 ·refine a0t (g:=w.heap.size+1+1) (HB.out.trans ((a0f (HB6.out.trans (HB78.out.mono ?_))).mono ?_)) (by omega)
  ·exact HB6.out.size
  ·exact HB.out.size
theorem b5J(m m':Bool)(n d n' d':Nat)(v v':Value)(w:World)(h:a08 w v m n d)(h':a08 w v' m' n' d')(hd0:d*d'≠0)(hm:m≠m')(hlt:n*d' < n'*d)(l1:(toL n).length≤10000)(l2:(toL d).length≤10000)(l3:(toL n').length≤10000)(l4:(toL d').length≤10000) :
  Calls prog 154 #[v,v'] w fun e w'=>∃ v2,e=.returned v2∧IsQ w' v2 (mkQ m' (n'*d - n*d') (d*d'))∧Below w.heap.size w w':=by
 obtain⟨An,cn,Ad,cd,rfl,hn,hd⟩:=h;obtain⟨An',cn',Ad',cd',rfl,hn',hd'⟩:=h';have HN:=b9W hn;have HD:=b9W hd;have HN':=b9W hn';have HD':=b9W hd';have lx:=Nat.le_trans (a0D n d') (show _≤20000 by omega);have ly:=Nat.le_trans (a0D n' d) (show _≤20000 by omega);have ld:=Nat.le_trans (a0D d d') (show _≤20000 by omega);have HD0:=b9W hd0;clear hn hd hn' hd' hd0;have hmm:(m==m')=false:=by rw[beq_eq_false_iff_ne];exact hm
 have hsg:decide (sgn (n*d') (n'*d) < 0)=true:=decide_eq_true (a4M.2 hlt);have HLT:=b9W hlt;clear hm hlt;refine(callsIn_wide (n:=3)).1 ?_;have h1:1≤3:=by omega
 have hmx:prog.follows .mixedOrders=true:=by kernel_rfl
 refine callsIn_of_wp func154 rfl trivial ?_ rfl
 simp only[ntmps154,List.size_toArray,List.length_cons,List.length_nil,Nat.reduceAdd,Nat.reduceSub,Array.replicate_succ,Array.replicate_zero,List.push_toArray,List.append_toArray,List.nil_append,List.cons_append]
 gi_upto_region 1 with fail
 obtain⟨b0,b1,b2,hB,hs⟩:=a6p w (.bool m) (.slice An (toL n).length cn) (.slice Ad (toL d).length cd) (.bool m') (.slice An' (toL n').length cn') (.slice Ad' (toL d').length cd');generalize ((w.alloc (.cells #[.bool m,.slice An (toL n).length cn,.slice Ad (toL d).length cd] 170)).alloc (.cells #[.bool m',.slice An' (toL n').length cn',.slice Ad' (toL d').length cd'] 170)).alloc zQ=W at *;obtain⟨x0,x1,x2⟩:=a0j (S:=fun k=>k < W.heap.size∧k≠w.heap.size+1+1) b0 ⟨by omega,by omega⟩;obtain⟨y0,y1,y2⟩:=a0j (S:=fun k=>k < W.heap.size∧k≠w.heap.size+1+1) b1 ⟨by omega,by omega⟩;have HB:=b9W (a0x hB);have HS:=b9W hs;have P0:=b9W b0;have P1:=b9W b1;have P2:=b9W b2;clear b0 b1 b2 hB hs;refine a0o (a0R W (fun k=>k < W.heap.size∧k≠w.heap.size+1+1)) [0,1,2,3,5,6,7,8,10,11] [] hmx (by kernel_rfl) (a0g fun _ _=>rfl) ?_;change a0l _ _ _ _ _ _ _ _ (4+8) _ _ _;refine a0e [0,1,2,3,5,6,7,8] 4 _ _ (by kernel_rfl) ?_;change wpQuietIn _ _ _ _ (fun W'=>∃ x:a0n W (fun k=>k < W.heap.size∧k≠w.heap.size+1+1),W'=x.W) _ _ _
 simp only[a0h,a0m,List.getElem?_cons_zero,List.getElem?_cons_succ,Option.elim_some]
 repeat (gi_big_quiet_step (fail))
 refine wpQuietIn_nil ?_;refine a0c 4 (by kernel_rfl) rfl ?_;gi_wp2;refine⟨trivial,?_⟩;refine(callsIn_wide.2 (a1d n d' _ _ W.drew (HN.out.below HB.out) (HD'.out.below HB.out) (by omega) (by omega))).mono ?_;rintro e w3 ⟨v3,rfl,hv3,hb3⟩;obtain⟨A3,c3,rfl,_,_,_⟩:=id hv3;have HV3:=b9W hv3;have HB3:=b9W (a0q hb3);clear hv3 hb3;gi_wp2;refine a0b (a0a HB3.out (fun k hk=>hk.1)) ?_;refine a0c 9 (by kernel_rfl) rfl ?_;gi_wp2;refine⟨trivial,?_⟩;refine(callsIn_wide.2 (a1d n' d _ _ w3 (HN'.out.below (HB.out.trans ((a0f HB3.out).mono HB.out.size))) (HD.out.below (HB.out.trans ((a0f HB3.out).mono HB.out.size))) (by omega) (by omega))).mono ?_;rintro e w4 ⟨v4,rfl,hv4,hb4⟩;obtain⟨A4,c4,rfl,_,_,_⟩:=id hv4;have HV4:=b9W hv4;have HV3:=b9W (HV3.out.below hb4);have hB4:Below W.heap.size W w4:=HB3.out.trans (hb4.mono HB3.out.size);have HB4:=b9W hB4;clear hv4 hb4 hB4;gi_wp2;refine a0b (a0a HB4.out (fun k hk=>hk.1)) ?_;change a0l _ _ _ _ _ _ _ _ (0+2) _ _ _;refine a0e [10,11] 0 _ _ (by kernel_rfl) ?_;change wpQuietIn _ _ _ _ (fun W'=>∃ x:a0n W (fun k=>k < W.heap.size∧k≠w.heap.size+1+1),W'=x.W) _ _ _
 simp only[a0h,a0m,List.getElem?_cons_zero,List.getElem?_cons_succ,Option.elim_some]
 repeat (gi_big_quiet_step (fail))
 refine wpQuietIn_nil ?_;refine a0i (by kernel_rfl) ?_;clear x0 x1 x2 y0 y1 y2;have hsz:=HS.out;obtain⟨x0,x1,x2⟩:=a1u (P0.out.below HB4.out (by omega));obtain⟨y0,y1,y2⟩:=a1u (P1.out.below HB4.out (by omega));clear hsz
 gi_upto_region 3 with fail
 have HB40:=b9W (HB.out.trans ((a0f HB4.out).mono HB.out.size));refine⟨trivial,?_⟩;refine(callsIn_wide.2 (a1d d d' _ _ w4 (HD.out.below HB40.out) (HD'.out.below HB40.out) (by omega) (by omega))).mono ?_;rintro e w5 ⟨v5,rfl,hv5,hb5⟩;obtain⟨A5,c5,rfl,_,_,_⟩:=id hv5;have HV5:=b9W hv5;have HV3:=b9W (HV3.out.below hb5);have HV4:=b9W (HV4.out.below hb5);have hB5:Below W.heap.size W w5:=HB4.out.trans (hb5.mono HB4.out.size);have HB5:=b9W hB5;clear hv5 hb5 hB5 x0 x1 x2 y0 y1 y2;have hsz:=HS.out;have R0:=b9W (P0.out.below HB5.out (by omega));have R1:=b9W (P1.out.below HB5.out (by omega));have R2:=b9W (P2.out.below HB5.out (by omega));obtain⟨x0,x1,x2⟩:=a1u R0.out;obtain⟨y0,y1,y2⟩:=a1u R1.out;clear hsz
 gi_upto_region 6 with fail
 refine⟨trivial,?_⟩;refine(callsIn_wide.2 (a12 (n*d') (n'*d) _ _ w5 HV3.out HV4.out (by omega) (by omega))).mono ?_;rintro e w6 ⟨rfl,hb6⟩;have HV3:=b9W (HV3.out.below hb6);have HV4:=b9W (HV4.out.below hb6);have HV5:=b9W (HV5.out.below hb6);have hB6:Below W.heap.size W w6:=HB5.out.trans (hb6.mono HB5.out.size);have HB6:=b9W hB6;clear hb6 hB6 x0 x1 x2 y0 y1 y2;have hsz:=HS.out;have Q0:=b9W (P0.out.below HB6.out (by omega));have Q1:=b9W (P1.out.below HB6.out (by omega));have Q2:=b9W (P2.out.below HB6.out (by omega));have h62:=HB6.out.size;clear hsz
 gi_upto_region 6 with fail
 have hsz:=HS.out;obtain⟨x0,x1,x2⟩:=a0j (S:=fun k=>k < w6.heap.size∧k≠w.heap.size+1+1) Q0.out ⟨by omega,by omega⟩;obtain⟨y0,y1,y2⟩:=a0j (S:=fun k=>k < w6.heap.size∧k≠w.heap.size+1+1) Q1.out ⟨by omega,by omega⟩;clear hsz;refine a0o (a0R w6 (fun k=>k < w6.heap.size∧k≠w.heap.size+1+1)) [0,1,2,3,5] [] hmx (by kernel_rfl) (a0g fun _ _=>rfl) ?_;change a0l _ _ _ _ _ _ _ _ (3+5) _ _ _;refine a0e [0,1,2,3,5] 3 _ _ (by kernel_rfl) ?_;change wpQuietIn _ _ _ _ (fun W'=>∃ x:a0n w6 (fun k=>k < w6.heap.size∧k≠w.heap.size+1+1),W'=x.W) _ _ _
 simp only[a0h,a0m,List.getElem?_cons_zero,List.getElem?_cons_succ,Option.elim_some]
 repeat (gi_big_quiet_step (fail))
 refine wpQuietIn_nil ?_;refine a0c 4 (by kernel_rfl) rfl ?_;gi_wp2;refine⟨trivial,?_⟩;refine(callsIn_wide.2 (a9G (n'*d) (n*d') _ _ w6.drew HV4.out HV3.out (Nat.le_of_lt HLT.out) (by omega))).mono ?_;rintro e w7 ⟨v7,rfl,hv7,hb7⟩;have HV7:=b9W hv7;have HB7:=b9W (a0q hb7);clear hv7 hb7;gi_wp2;refine a0b (a0a HB7.out (fun k hk=>hk.1)) ?_;refine a0c 6 (by kernel_rfl) rfl ?_;gi_wp2;refine⟨trivial,?_⟩;refine(callsIn_wide.2 (a3O m' _ (d*d') _ _ w7 HV7.out (HV5.out.below HB7.out) HD0.out (Nat.le_trans (a0Z (Nat.sub_le _ _)) (by omega)) (by omega))).mono ?_;rintro e w8 ⟨v8,rfl,hv8,hb8⟩;obtain⟨b8,N8,D8,A8,c8,A8',c8',rfl,hn8,hd8,HP8⟩:=a0w hv8;clear hv8;have hb78:Below w6.heap.size w6 w8:=HB7.out.trans (hb8.mono HB7.out.size);have hsz:=HS.out;obtain⟨HR8,r0,s0,r1,s1,r2,s2⟩:=a4s Q2.out hb78 (by omega);have HN8:=b9W hn8;have HD8:=b9W hd8;have HB78:=b9W hb78;clear hn8 hd8 hb8 hb78 hsz;gi_wp2;refine a0b (a0a HB78.out (fun k hk=>hk.1)) ?_;refine a0c 7 (by kernel_rfl) rfl ?_;gi_wp2;refine a0b (a0g fun k hk=>(a1f k hk.2).trans (HB78.out.block k hk.1)) ?_;refine a0i (by kernel_rfl) ?_;gi_wp2;have hsz:=HS.out;refine a8a rfl rfl (by simp) (set3 HR8.out) ⟨_,rfl,?_,?_⟩
 ·exact a4l HP8 (a07 (a0I HN8.out HR8.out) (a0I HD8.out HR8.out))
 ·refine a0t (g:=w.heap.size+1+1) (HB.out.trans ((a0f (HB6.out.trans (HB78.out.mono ?_))).mono ?_)) (by omega)
  ·exact HB6.out.size
  ·exact HB.out.size
theorem b5G(m m':Bool)(n d n' d':Nat)(v v':Value)(w:World)(h:a08 w v m n d)(h':a08 w v' m' n' d')(hd0:d*d'≠0)(hm:m≠m')(hlt:¬ n*d' < n'*d)(l1:(toL n).length≤10000)(l2:(toL d).length≤10000)(l3:(toL n').length≤10000)(l4:(toL d').length≤10000) :
  Calls prog 154 #[v,v'] w fun e w'=>∃ v2,e=.returned v2∧IsQ w' v2 (mkQ m (n*d' - n'*d) (d*d'))∧Below w.heap.size w w':=by
 obtain⟨An,cn,Ad,cd,rfl,hn,hd⟩:=h;obtain⟨An',cn',Ad',cd',rfl,hn',hd'⟩:=h';have HN:=b9W hn;have HD:=b9W hd;have HN':=b9W hn';have HD':=b9W hd';have lx:=Nat.le_trans (a0D n d') (show _≤20000 by omega);have ly:=Nat.le_trans (a0D n' d) (show _≤20000 by omega);have ld:=Nat.le_trans (a0D d d') (show _≤20000 by omega);have HD0:=b9W hd0;clear hn hd hn' hd' hd0;have hmm:(m==m')=false:=by rw[beq_eq_false_iff_ne];exact hm
 have hsg:decide (sgn (n*d') (n'*d) < 0)=false:=decide_eq_false (fun h=>hlt (a4M.1 h));have HLT:=b9W hlt;clear hm hlt;refine(callsIn_wide (n:=3)).1 ?_;have h1:1≤3:=by omega
 have hmx:prog.follows .mixedOrders=true:=by kernel_rfl
 refine callsIn_of_wp func154 rfl trivial ?_ rfl
 simp only[ntmps154,List.size_toArray,List.length_cons,List.length_nil,Nat.reduceAdd,Nat.reduceSub,Array.replicate_succ,Array.replicate_zero,List.push_toArray,List.append_toArray,List.nil_append,List.cons_append]
 gi_upto_region 1 with fail
 obtain⟨b0,b1,b2,hB,hs⟩:=a6p w (.bool m) (.slice An (toL n).length cn) (.slice Ad (toL d).length cd) (.bool m') (.slice An' (toL n').length cn') (.slice Ad' (toL d').length cd');generalize ((w.alloc (.cells #[.bool m,.slice An (toL n).length cn,.slice Ad (toL d).length cd] 170)).alloc (.cells #[.bool m',.slice An' (toL n').length cn',.slice Ad' (toL d').length cd'] 170)).alloc zQ=W at *;obtain⟨x0,x1,x2⟩:=a0j (S:=fun k=>k < W.heap.size∧k≠w.heap.size+1+1) b0 ⟨by omega,by omega⟩;obtain⟨y0,y1,y2⟩:=a0j (S:=fun k=>k < W.heap.size∧k≠w.heap.size+1+1) b1 ⟨by omega,by omega⟩;have HB:=b9W (a0x hB);have HS:=b9W hs;have P0:=b9W b0;have P1:=b9W b1;have P2:=b9W b2;clear b0 b1 b2 hB hs;refine a0o (a0R W (fun k=>k < W.heap.size∧k≠w.heap.size+1+1)) [0,1,2,3,5,6,7,8,10,11] [] hmx (by kernel_rfl) (a0g fun _ _=>rfl) ?_;change a0l _ _ _ _ _ _ _ _ (4+8) _ _ _;refine a0e [0,1,2,3,5,6,7,8] 4 _ _ (by kernel_rfl) ?_;change wpQuietIn _ _ _ _ (fun W'=>∃ x:a0n W (fun k=>k < W.heap.size∧k≠w.heap.size+1+1),W'=x.W) _ _ _
 simp only[a0h,a0m,List.getElem?_cons_zero,List.getElem?_cons_succ,Option.elim_some]
 repeat (gi_big_quiet_step (fail))
 refine wpQuietIn_nil ?_;refine a0c 4 (by kernel_rfl) rfl ?_;gi_wp2;refine⟨trivial,?_⟩;refine(callsIn_wide.2 (a1d n d' _ _ W.drew (HN.out.below HB.out) (HD'.out.below HB.out) (by omega) (by omega))).mono ?_;rintro e w3 ⟨v3,rfl,hv3,hb3⟩;obtain⟨A3,c3,rfl,_,_,_⟩:=id hv3;have HV3:=b9W hv3;have HB3:=b9W (a0q hb3);clear hv3 hb3;gi_wp2;refine a0b (a0a HB3.out (fun k hk=>hk.1)) ?_;refine a0c 9 (by kernel_rfl) rfl ?_;gi_wp2;refine⟨trivial,?_⟩;refine(callsIn_wide.2 (a1d n' d _ _ w3 (HN'.out.below (HB.out.trans ((a0f HB3.out).mono HB.out.size))) (HD.out.below (HB.out.trans ((a0f HB3.out).mono HB.out.size))) (by omega) (by omega))).mono ?_;rintro e w4 ⟨v4,rfl,hv4,hb4⟩;obtain⟨A4,c4,rfl,_,_,_⟩:=id hv4;have HV4:=b9W hv4;have HV3:=b9W (HV3.out.below hb4);have hB4:Below W.heap.size W w4:=HB3.out.trans (hb4.mono HB3.out.size);have HB4:=b9W hB4;clear hv4 hb4 hB4;gi_wp2;refine a0b (a0a HB4.out (fun k hk=>hk.1)) ?_;change a0l _ _ _ _ _ _ _ _ (0+2) _ _ _;refine a0e [10,11] 0 _ _ (by kernel_rfl) ?_;change wpQuietIn _ _ _ _ (fun W'=>∃ x:a0n W (fun k=>k < W.heap.size∧k≠w.heap.size+1+1),W'=x.W) _ _ _
 simp only[a0h,a0m,List.getElem?_cons_zero,List.getElem?_cons_succ,Option.elim_some]
 repeat (gi_big_quiet_step (fail))
 refine wpQuietIn_nil ?_;refine a0i (by kernel_rfl) ?_;clear x0 x1 x2 y0 y1 y2;have hsz:=HS.out;obtain⟨x0,x1,x2⟩:=a1u (P0.out.below HB4.out (by omega));obtain⟨y0,y1,y2⟩:=a1u (P1.out.below HB4.out (by omega));clear hsz
 gi_upto_region 3 with fail
 have HB40:=b9W (HB.out.trans ((a0f HB4.out).mono HB.out.size));refine⟨trivial,?_⟩;refine(callsIn_wide.2 (a1d d d' _ _ w4 (HD.out.below HB40.out) (HD'.out.below HB40.out) (by omega) (by omega))).mono ?_;rintro e w5 ⟨v5,rfl,hv5,hb5⟩;obtain⟨A5,c5,rfl,_,_,_⟩:=id hv5;have HV5:=b9W hv5;have HV3:=b9W (HV3.out.below hb5);have HV4:=b9W (HV4.out.below hb5);have hB5:Below W.heap.size W w5:=HB4.out.trans (hb5.mono HB4.out.size);have HB5:=b9W hB5;clear hv5 hb5 hB5 x0 x1 x2 y0 y1 y2;have hsz:=HS.out;have R0:=b9W (P0.out.below HB5.out (by omega));have R1:=b9W (P1.out.below HB5.out (by omega));have R2:=b9W (P2.out.below HB5.out (by omega));obtain⟨x0,x1,x2⟩:=a1u R0.out;obtain⟨y0,y1,y2⟩:=a1u R1.out;clear hsz
 gi_upto_region 7 with fail
 refine⟨trivial,?_⟩;refine(callsIn_wide.2 (a12 (n*d') (n'*d) _ _ w5 HV3.out HV4.out (by omega) (by omega))).mono ?_;rintro e w6 ⟨rfl,hb6⟩;have HV3:=b9W (HV3.out.below hb6);have HV4:=b9W (HV4.out.below hb6);have HV5:=b9W (HV5.out.below hb6);have hB6:Below W.heap.size W w6:=HB5.out.trans (hb6.mono HB5.out.size);have HB6:=b9W hB6;clear hb6 hB6 x0 x1 x2 y0 y1 y2;have hsz:=HS.out;have Q0:=b9W (P0.out.below HB6.out (by omega));have Q1:=b9W (P1.out.below HB6.out (by omega));have Q2:=b9W (P2.out.below HB6.out (by omega));have h62:=HB6.out.size;clear hsz
 gi_upto_region 7 with fail
 have hsz:=HS.out;obtain⟨x0,x1,x2⟩:=a0j (S:=fun k=>k < w6.heap.size∧k≠w.heap.size+1+1) Q0.out ⟨by omega,by omega⟩;obtain⟨y0,y1,y2⟩:=a0j (S:=fun k=>k < w6.heap.size∧k≠w.heap.size+1+1) Q1.out ⟨by omega,by omega⟩;clear hsz;refine a0o (a0R w6 (fun k=>k < w6.heap.size∧k≠w.heap.size+1+1)) [0,1,2,3,5] [] hmx (by kernel_rfl) (a0g fun _ _=>rfl) ?_;change a0l _ _ _ _ _ _ _ _ (3+5) _ _ _;refine a0e [0,1,2,3,5] 3 _ _ (by kernel_rfl) ?_;change wpQuietIn _ _ _ _ (fun W'=>∃ x:a0n w6 (fun k=>k < w6.heap.size∧k≠w.heap.size+1+1),W'=x.W) _ _ _
 simp only[a0h,a0m,List.getElem?_cons_zero,List.getElem?_cons_succ,Option.elim_some]
 repeat (gi_big_quiet_step (fail))
 refine wpQuietIn_nil ?_;refine a0c 4 (by kernel_rfl) rfl ?_;gi_wp2;refine⟨trivial,?_⟩;refine(callsIn_wide.2 (a9G (n*d') (n'*d) _ _ w6.drew HV3.out HV4.out (Nat.le_of_not_lt HLT.out) (by omega))).mono ?_;rintro e w7 ⟨v7,rfl,hv7,hb7⟩;have HV7:=b9W hv7;have HB7:=b9W (a0q hb7);clear hv7 hb7;gi_wp2;refine a0b (a0a HB7.out (fun k hk=>hk.1)) ?_;refine a0c 6 (by kernel_rfl) rfl ?_;gi_wp2;refine⟨trivial,?_⟩;refine(callsIn_wide.2 (a3O m _ (d*d') _ _ w7 HV7.out (HV5.out.below HB7.out) HD0.out (Nat.le_trans (a0Z (Nat.sub_le _ _)) (by omega)) (by omega))).mono ?_;rintro e w8 ⟨v8,rfl,hv8,hb8⟩;obtain⟨b8,N8,D8,A8,c8,A8',c8',rfl,hn8,hd8,HP8⟩:=a0w hv8;clear hv8;have hb78:Below w6.heap.size w6 w8:=HB7.out.trans (hb8.mono HB7.out.size);have hsz:=HS.out;obtain⟨HR8,r0,s0,r1,s1,r2,s2⟩:=a4s Q2.out hb78 (by omega);have HN8:=b9W hn8;have HD8:=b9W hd8;have HB78:=b9W hb78;clear hn8 hd8 hb8 hb78 hsz;gi_wp2;refine a0b (a0a HB78.out (fun k hk=>hk.1)) ?_;refine a0c 7 (by kernel_rfl) rfl ?_;gi_wp2;refine a0b (a0g fun k hk=>(a1f k hk.2).trans (HB78.out.block k hk.1)) ?_;refine a0i (by kernel_rfl) ?_;gi_wp2;have hsz:=HS.out;refine a8a rfl rfl (by simp) (set3 HR8.out) ⟨_,rfl,?_,?_⟩
 ·exact a4l HP8 (a07 (a0I HN8.out HR8.out) (a0I HD8.out HR8.out))
 ·refine a0t (g:=w.heap.size+1+1) (HB.out.trans ((a0f (HB6.out.trans (HB78.out.mono ?_))).mono ?_)) (by omega)
  ·exact HB6.out.size
  ·exact HB.out.size
theorem a1M(a b:Rat)(v v':Value)(w:World)(h:IsQ w v a)(h':IsQ w v' b)(l1:(toL (nm a)).length≤10000)(l2:(toL a.den).length≤10000)(l3:(toL (nm b)).length≤10000)(l4:(toL b.den).length≤10000) :
  Calls prog 154 #[v,v'] w fun e w'=>∃ v2,e=.returned v2∧IsQ w' v2 (a+b)∧Below w.heap.size w w':=by
 have hd0:a.den*b.den≠0:=Nat.ne_of_gt (Nat.mul_pos (den_pos a) (den_pos b))
 by_cases hm:ng a=ng b
 ·rw[b0k hm]
  exact b6y _ _ _ _ _ _ _ _ _ h h' hd0 hm l1 l2 l3 l4
 ·by_cases hlt:nm a*b.den < nm b*a.den
  ·rw[a9U hm hlt]
   exact b5J _ _ _ _ _ _ _ _ _ h h' hd0 hm hlt l1 l2 l3 l4
  ·rw[b0F hm hlt]
   exact b5G _ _ _ _ _ _ _ _ _ h h' hd0 hm hlt l1 l2 l3 l4
end Go.Proofs.YtigapglmipmbeaaGreatDoor
namespace Go.Proofs.YtigapglmipmbeaaGreatDoor
open Go.RowKit Go.Shelf
open Lim
theorem b70(N D:Nat)(A A':Option Addr)(c c':Nat)(w:World)(hn:a0u w (.slice A (toL N).length c) N)(hd:a0u w (.slice A' (toL D).length c') D) :
  Calls prog 157 #[.agg #[.bool true,.slice A (toL N).length c,.slice A' (toL D).length c']] w fun e w'=>∃ v2,e=.returned v2∧a08 w' v2 (!true&&decide (N≠0)) N D∧Below w.heap.size w w':=by
 have HN:=b9W hn;have HD:=b9W hd;have HB:=b9W (fun o o'=>a0d (a0d (Below.refl w.heap.size w) o) o');have hlen:decide (((toL N).length:Int) > 0)=decide (N≠0):=by
  by_cases h:N=0
  ·subst h;simp[a0E]
  ·have:=a1j.2 h
   rw[decide_eq_true h,decide_eq_true (by omega)]
 clear hn hd
 by_cases h0:N=0
 ·have hl:decide (((toL N).length:Int) > 0)=false:=by rw[hlen,decide_eq_false (fun h=>h h0)]
  have HL:=b9W (show decide (0 < (toL N).length)=false by rw[← hl];exact decide_eq_decide.2 (by omega));have HF:=b9W (show decide (N≠0)=false from decide_eq_false (fun h=>h h0));clear hlen h0
  go_enter func157,ntmps157
  go_wp2;refine a8a rfl rfl (by simp) (Blk.new _ _ _) ⟨_,rfl,?_,HB.out _ _⟩;rw[HF.out,Bool.and_false]
  try rw[HL.out]
  exact a07 (HN.out.below (HB.out _ _)) (HD.out.below (HB.out _ _))
 ·have hl:decide (((toL N).length:Int) > 0)=true:=by rw[hlen,decide_eq_true h0]
  have HL:=b9W (show decide (0 < (toL N).length)=true by rw[← hl];exact decide_eq_decide.2 (by omega));have HF:=b9W (show decide (N≠0)=true from decide_eq_true h0);clear hlen h0
  go_enter func157,ntmps157
  go_wp2;refine a8a rfl rfl (by simp) (Blk.new _ _ _) ⟨_,rfl,?_,HB.out _ _⟩;rw[HF.out,Bool.and_true]
  try rw[HL.out]
  exact a07 (HN.out.below (HB.out _ _)) (HD.out.below (HB.out _ _))
theorem b6W(N D:Nat)(A A':Option Addr)(c c':Nat)(w:World)(hn:a0u w (.slice A (toL N).length c) N)(hd:a0u w (.slice A' (toL D).length c') D) :
  Calls prog 157 #[.agg #[.bool false,.slice A (toL N).length c,.slice A' (toL D).length c']] w fun e w'=>∃ v2,e=.returned v2∧a08 w' v2 (!false&&decide (N≠0)) N D∧Below w.heap.size w w':=by
 have HN:=b9W hn;have HD:=b9W hd;have HB:=b9W (fun o o'=>a0d (a0d (Below.refl w.heap.size w) o) o');have hlen:decide (((toL N).length:Int) > 0)=decide (N≠0):=by
  by_cases h:N=0
  ·subst h;simp[a0E]
  ·have:=a1j.2 h
   rw[decide_eq_true h,decide_eq_true (by omega)]
 clear hn hd
 by_cases h0:N=0
 ·have hl:decide (((toL N).length:Int) > 0)=false:=by rw[hlen,decide_eq_false (fun h=>h h0)]
  have HL:=b9W (show decide (0 < (toL N).length)=false by rw[← hl];exact decide_eq_decide.2 (by omega));have HF:=b9W (show decide (N≠0)=false from decide_eq_false (fun h=>h h0));clear hlen h0
  go_enter func157,ntmps157
  go_wp2;refine a8a rfl rfl (by simp) (Blk.new _ _ _) ⟨_,rfl,?_,HB.out _ _⟩;rw[HF.out,Bool.and_false]
  try rw[HL.out]
  exact a07 (HN.out.below (HB.out _ _)) (HD.out.below (HB.out _ _))
 ·have hl:decide (((toL N).length:Int) > 0)=true:=by rw[hlen,decide_eq_true h0]
  have HL:=b9W (show decide (0 < (toL N).length)=true by rw[← hl];exact decide_eq_decide.2 (by omega));have HF:=b9W (show decide (N≠0)=true from decide_eq_true h0);clear hlen h0
  go_enter func157,ntmps157
  go_wp2;refine a8a rfl rfl (by simp) (Blk.new _ _ _) ⟨_,rfl,?_,HB.out _ _⟩;rw[HF.out,Bool.and_true]
  try rw[HL.out]
  exact a07 (HN.out.below (HB.out _ _)) (HD.out.below (HB.out _ _))
theorem a3P(a:Rat)(v:Value)(w:World)(h:IsQ w v a) :
  Calls prog 157 #[v] w fun e w'=>∃ v',e=.returned v'∧IsQ w' v' (-a)∧Below w.heap.size w w':=by
 obtain⟨h1,h2,h3⟩:=a2J a;obtain⟨b,N,D,A,c,A',c',rfl,hn,hd,HP⟩:=a0w h;obtain⟨e1,e2,e3⟩:=HP.out;unfold IsQ;rw[h1,h2,h3,e1,e2,e3]
 cases b with
 | true=>exact b70 N D A A' c c' w hn hd
 | false=>exact b6W N D A A' c c' w hn hd
end Go.Proofs.YtigapglmipmbeaaGreatDoor
namespace Go.Proofs.YtigapglmipmbeaaGreatDoor
open Go.RowKit Go.Shelf
open Lim
attribute [local go_sem] Oper.semAt_some
theorem b1Y{fn:Func}{p q u:Tmp}{ty ty':TypeId}(h:fn.results=#[.cell p ty,.cell q ty',.tmp u])(tmps:Array Value)(P:Program)(w:World) :
  (results fn tmps).run P w =
   ((asAddr (tmps.getD p undef)).run P w).andThen fun a w₁=>((loadVar ty a).run P w₁).andThen fun v w₂=>((asAddr (tmps.getD q undef)).run P w₂).andThen fun a' w₃=>((loadVar ty' a').run P w₃).andThen fun v' w₄=>.ok (.tuple #[v,v',tmps.getD u undef]) w₄:=by
 simp only[results,h]
 simp[Sem.run_bind,Result.andThen]
theorem b17{fn:Func}{p q u:Tmp}{R:Ending→World→Prop}{a:Act}{w:World}{g g':Nat}{t t':TypeId}{m vn vd m' vn' vd':Value}(h:fn.results=#[.cell p 170,.cell q 170,.tmp u])(hd:a.defers=[])(hp:a.tmps.getD p undef=.pointer (some ⟨g,0,none⟩))(hq:a.tmps.getD q undef=.pointer (some ⟨g',0,none⟩))
  (hg:Blk w g t #[m,vn,vd]) (hg':Blk w g' t' #[m',vn',vd']) (hR:R (.returned (.tuple #[.agg #[m,vn,vd],.agg #[m',vn',vd'],a.tmps.getD u undef])) w):bodyPost prog fn R .ret a w:=by
 refine bodyPost_ret ?_ hd hR;rw[b1Y h,hp]
 simp only[asAddr,Sem.run_pure,Result.andThen_ok]
 rw[run_loadVar_row w g t 170 #[m,vn,vd] (0,0) _ hg underlying170 rfl b8B]
 simp only[Result.andThen_ok,hq,Sem.run_pure]
 rw[run_loadVar_row w g' t' 170 #[m',vn',vd'] (0,0) _ hg' underlying170 rfl b8B]
 rfl
def Qsh(v:Value):Prop:=∃ (b:Bool) (A A':Option Addr) (l c l' c':Nat),v=.agg #[.bool b,.slice A l c,.slice A' l' c']
theorem b12(w:World):Blk ((w.alloc zQ).alloc zQ) w.heap.size 170 #[.bool false,.slice none 0 0,.slice none 0 0]∧Blk ((w.alloc zQ).alloc zQ) (w.heap.size+1) 170 #[.bool false,.slice none 0 0,.slice none 0 0] ∧
  Below w.heap.size w ((w.alloc zQ).alloc zQ)∧((w.alloc zQ).alloc zQ).heap.size=w.heap.size+2:=by
 refine⟨(a1z w).alloc _,?_,a0d (a0d (Below.refl _ _) _) _,by simp⟩;have:=a1z (w.alloc zQ)
 rwa [World.size_alloc]at this
theorem a2t{w:World}{g:Nat}{m:Bool}{A A':Option Addr}{l c l' c':Nat}(h:Blk w g 170 #[.bool m,.slice A l c,.slice A' l' c']):(w.cell? ⟨g,0,none⟩=some (.bool m)∧w.frozen? ⟨g,0,none⟩=false)∧(w.cell? ⟨g,1,none⟩=some (.slice A l c)∧w.frozen? ⟨g,1,none⟩=false)∧(w.cell? ⟨g,2,none⟩=some (.slice A' l' c')∧w.frozen? ⟨g,2,none⟩=false) :=
 ⟨a0W h 0 (by simp),a0W h 1 (by simp),a0W h 2 (by simp)⟩
theorem two_set{W:World}{g4 g5 n:Nat}{w:World}{t t':TypeId}{m vn vd x y z:Value}{cs:Array Value}(h4:Blk W g4 t #[m,vn,vd])(h5:Blk W g5 t' cs)(hne:g5≠g4)(hb:Below n w W)(hn:n≤g4) :
  Blk (((W.setCell ⟨g4,0,none⟩ x).setCell ⟨g4,1,none⟩ y).setCell ⟨g4,2,none⟩ z).drew g4 t #[x,y,z]∧Blk (((W.setCell ⟨g4,0,none⟩ x).setCell ⟨g4,1,none⟩ y).setCell ⟨g4,2,none⟩ z).drew g5 t' cs ∧
  Below n w (((W.setCell ⟨g4,0,none⟩ x).setCell ⟨g4,1,none⟩ y).setCell ⟨g4,2,none⟩ z).drew∧∀ k,k≠g4→(((W.setCell ⟨g4,0,none⟩ x).setCell ⟨g4,1,none⟩ y).setCell ⟨g4,2,none⟩ z).drew.heap[k]?=W.heap[k]? :=
 ⟨set3 h4,((h5.far (p:=⟨g4,0,none⟩) hne _).far (p:=⟨g4,1,none⟩) hne _).far (p:=⟨g4,2,none⟩) hne _,a0x (a0t hb hn),fun k hk=>a1f k hk⟩
theorem b0C{W:World}{g4 g5 n:Nat}{w:World}{t t':TypeId}{m vn vd x y z:Value}{cs:Array Value}(h4:Blk W g4 t #[m,vn,vd])(h5:Blk W g5 t' cs)(hne:g5≠g4)(hb:Below n w W)(hn:n≤g4) :
  Blk (((W.setCell ⟨g4,0,none⟩ x).setCell ⟨g4,1,none⟩ y).setCell ⟨g4,2,none⟩ z) g4 t #[x,y,z]∧Blk (((W.setCell ⟨g4,0,none⟩ x).setCell ⟨g4,1,none⟩ y).setCell ⟨g4,2,none⟩ z) g5 t' cs ∧
  Below n w (((W.setCell ⟨g4,0,none⟩ x).setCell ⟨g4,1,none⟩ y).setCell ⟨g4,2,none⟩ z)∧∀ k,k≠g4→(((W.setCell ⟨g4,0,none⟩ x).setCell ⟨g4,1,none⟩ y).setCell ⟨g4,2,none⟩ z).heap[k]?=W.heap[k]? :=
 ⟨set3 h4,((h5.far (p:=⟨g4,0,none⟩) hne _).far (p:=⟨g4,1,none⟩) hne _).far (p:=⟨g4,2,none⟩) hne _,a0t hb hn,fun k hk=>a1f k hk⟩
theorem a84(a b:ByteArray)(w:World)(ha:a.size≤270000)(he:errQ a.data.toList≠0) :
  Calls prog 152 #[.string a,.string b] w fun e w'=>∃ v v',e=.returned (.tuple #[v,v',.int .i64 (errQ a.data.toList:Int)])∧Qsh v∧Qsh v'∧Below w.heap.size w w':=by
 have HP:=b9W (fun w=>a4k a w ha);have hne:((errQ a.data.toList:Int)==0)=false:=by rw[beq_eq_false_iff_ne];omega
 have HE:=b9W he;clear he;refine(callsIn_wide (n:=3)).1 ?_;have h1:1≤3:=by omega
 have hmx:prog.follows .mixedOrders=true:=by kernel_rfl
 refine callsIn_of_wp func152 rfl trivial ?_ rfl
 simp only[ntmps152,List.size_toArray,List.length_cons,List.length_nil,Nat.reduceAdd,Nat.reduceSub,Array.replicate_succ,Array.replicate_zero,List.push_toArray,List.append_toArray,List.nil_append,List.cons_append]
 gi_upto_region 3 with fail
 obtain⟨c4,c5,hB0,hs0⟩:=b12 w;generalize (w.alloc zQ).alloc zQ=W0 at *;refine⟨trivial,?_⟩;refine(callsIn_wide.2 (HP.out _)).mono ?_;rintro e w1 ⟨v,rfl,-,hz,hb⟩;obtain rfl:=hz HE.out;have d4:=(c4.below hb (by omega)).alloc zQ;have d5:=(c5.below hb (by omega)).alloc zQ;have d7:=a1z w1;have hB1:Below w.heap.size w (w1.alloc zQ):=(hB0.trans (hb.mono (by omega))).alloc (by have:=hb.size;omega) _;have hs1:=hb.size;clear hb hB0 c4 c5 hz
 gi_upto_region 3 with fail
 have hs1:W0.heap.size≤w1.heap.size:=hs1;have hs2:W0.heap.size < (w1.alloc zQ).heap.size:=by simp;omega
 have hs3:w1.heap.size < (w1.alloc zQ).heap.size:=by simp
 generalize w1.heap.size=g7 at *;generalize w1.alloc zQ=W at *;have hz0:w.heap.size+2≤W0.heap.size:=by omega
 clear hs0;obtain⟨x0,x1,x2⟩:=a0j (S:=fun k=>k < W.heap.size∧k≠w.heap.size∧k≠w.heap.size+1) d7 ⟨by omega,by omega,by omega⟩;obtain⟨⟨r0,s0⟩,⟨r1,s1⟩,r2,s2⟩:=a2t d4;obtain⟨⟨t0,u0⟩,⟨t1,u1⟩,t2,u2⟩:=a2t d5;have HW:=b9W (two_set (x:=.bool false) (y:=.slice none 0 0) (z:=.slice none 0 0) d4 d5 (by omega) hB1 (Nat.le_refl _));clear d4 d5 d7 hB1 t0 t1 t2 u0 u1 u2;refine a0o (a0R W (fun k=>k < W.heap.size∧k≠w.heap.size∧k≠w.heap.size+1)) [0,1,2] [] hmx (by kernel_rfl) (a0g fun _ _=>rfl) ?_;change a0l _ _ _ _ _ _ _ _ (3+3) _ _ _;refine a0e [0,1,2] 3 _ _ (by kernel_rfl) ?_;change wpQuietIn _ _ _ _ (fun W'=>∃ x:a0n W (fun k=>k < W.heap.size∧k≠w.heap.size∧k≠w.heap.size+1),W'=x.W) _ _ _
 simp only[a0h,a0m,List.getElem?_cons_zero,List.getElem?_cons_succ,Option.elim_some]
 repeat (gi_big_quiet_step (fail))
 refine wpQuietIn_nil ?_;refine a0c 3 (by kernel_rfl) rfl ?_;gi_wp2;refine a0b (a0g fun k hk=>a1f k hk.2.1) ?_;obtain⟨d4,d5,hB1,hsm⟩:=HW.out;clear HW r0 r1 r2 s0 s1 s2;generalize (((W.setCell ⟨w.heap.size,0,none⟩ (.bool false)).setCell ⟨w.heap.size,1,none⟩ (.slice none 0 0)).setCell ⟨w.heap.size,2,none⟩ (.slice none 0 0)).drew=W3 at *;obtain⟨⟨t0,u0⟩,⟨t1,u1⟩,t2,u2⟩:=a2t d5;have HW:=b9W (b0C (x:=.bool false) (y:=.slice none 0 0) (z:=.slice none 0 0) d5 d4 (by omega) hB1 (Nat.le_succ _));have HSM:=b9W hsm;clear d4 d5 hB1 hsm;refine a0c 4 (by kernel_rfl) rfl ?_;gi_wp2;refine a0b (a0g fun k hk=>(a1f k hk.2.2).trans (HSM.out k hk.2.1)) ?_;obtain⟨d5,d4,hB1,hsm⟩:=HW.out;clear HW t0 t1 t2 u0 u1 u2;generalize (((W3.setCell ⟨w.heap.size+1,0,none⟩ (.bool false)).setCell ⟨w.heap.size+1,1,none⟩ (.slice none 0 0)).setCell ⟨w.heap.size+1,2,none⟩ (.slice none 0 0))=W5 at *;have HD4:=b9W d4;have HD5:=b9W d5;have HB5:=b9W hB1;have HSM5:=b9W hsm;clear d4 d5 hB1 hsm;refine a0c 5 (by kernel_rfl) rfl ?_;gi_wp2;refine a0b (a0g fun k hk=>(HSM5.out k hk.2.2).trans (HSM.out k hk.2.1)) ?_;refine a0i (by kernel_rfl) ?_;gi_wp2;refine b17 (g:=w.heap.size) (g':=w.heap.size+1) rfl rfl (by simp) (by simp) HD4.out HD5.out ?_;exact⟨_,_,rfl,⟨_,_,_,_,_,_,_,rfl⟩,⟨_,_,_,_,_,_,_,rfl⟩,HB5.out⟩
theorem b1z(a b:ByteArray)(w:World)(ha:a.size≤270000)(hb:b.size≤9223372036854775807)(he:errQ a.data.toList=0)(he2:errQ b.data.toList≠0) :
  Calls prog 152 #[.string a,.string b] w fun e w'=>∃ v v',e=.returned (.tuple #[v,v',.int .i64 (errQ b.data.toList:Int)])∧Qsh v∧Qsh v'∧Below w.heap.size w w':=by
 have HP:=b9W (fun w=>a4k a w ha);have HP2:=b9W (fun w=>b5x b w hb);have hne:((errQ a.data.toList:Int)==0)=true:=by rw[he];rfl
 have HE:=b9W he;have HE2:=b9W he2;clear he he2 hb;refine(callsIn_wide (n:=3)).1 ?_;have h1:1≤3:=by omega
 have hmx:prog.follows .mixedOrders=true:=by kernel_rfl
 refine callsIn_of_wp func152 rfl trivial ?_ rfl
 simp only[ntmps152,List.size_toArray,List.length_cons,List.length_nil,Nat.reduceAdd,Nat.reduceSub,Array.replicate_succ,Array.replicate_zero,List.push_toArray,List.append_toArray,List.nil_append,List.cons_append]
 gi_upto_region 3 with fail
 obtain⟨c4,c5,hB0,hs0⟩:=b12 w;generalize (w.alloc zQ).alloc zQ=W0 at *;refine⟨trivial,?_⟩;refine(callsIn_wide.2 (HP.out _)).mono ?_;rintro e w1 ⟨v,rfl,hv,-,hb1⟩;obtain⟨bq,N,D,A,c,A',c',rfl,hn,hd,HQ⟩:=a0w (hv HE.out);have d4:=(c4.below hb1 (by omega)).alloc (.cells #[.bool bq,.slice A (toL N).length c,.slice A' (toL D).length c'] 170);have d5:=(c5.below hb1 (by omega)).alloc (.cells #[.bool bq,.slice A (toL N).length c,.slice A' (toL D).length c'] 170);have d7:=Blk.new w1 170 #[.bool bq,.slice A (toL N).length c,.slice A' (toL D).length c'];have hB1:Below w.heap.size w (w1.alloc (.cells #[.bool bq,.slice A (toL N).length c,.slice A' (toL D).length c'] 170)):=(hB0.trans (hb1.mono (by omega))).alloc (by have:=hb1.size;omega) _;have HNN:=b9W (hn.below (a0d (Below.refl _ _) (.cells #[.bool bq,.slice A (toL N).length c,.slice A' (toL D).length c'] 170)));have HDD:=b9W (hd.below (a0d (Below.refl _ _) (.cells #[.bool bq,.slice A (toL N).length c,.slice A' (toL D).length c'] 170)));have hs1:=hb1.size;clear hb1 hB0 c4 c5 hv hn hd
 gi_upto_region 5 with fail
 have hs2:W0.heap.size < (w1.alloc (.cells #[.bool bq,.slice A (toL N).length c,.slice A' (toL D).length c'] 170)).heap.size:=by simp;omega
 have hs3:w1.heap.size < (w1.alloc (.cells #[.bool bq,.slice A (toL N).length c,.slice A' (toL D).length c'] 170)).heap.size:=by simp
 have hz0:w.heap.size+2≤W0.heap.size:=by omega
 clear hs0;generalize w1.heap.size=g7 at *;generalize w1.alloc (.cells #[.bool bq,.slice A (toL N).length c,.slice A' (toL D).length c'] 170)=W1 at *;refine⟨trivial,?_⟩;refine(callsIn_wide.2 (HP2.out W1)).mono ?_;rintro e w2 ⟨v2,rfl,-,hz2,hb2⟩;obtain rfl:=hz2 HE2.out;have d4:=(d4.below hb2 (by omega)).alloc (.cells #[.bool false,.slice none 0 0,.slice none 0 0] 170);have d5:=(d5.below hb2 (by omega)).alloc (.cells #[.bool false,.slice none 0 0,.slice none 0 0] 170);have d7:=(d7.below hb2 (by omega)).alloc (.cells #[.bool false,.slice none 0 0,.slice none 0 0] 170);have d9:=Blk.new w2 170 #[.bool false,.slice none 0 0,.slice none 0 0];have hB2:Below w.heap.size w (w2.alloc (.cells #[.bool false,.slice none 0 0,.slice none 0 0] 170)):=(hB1.trans (hb2.mono (by omega))).alloc (by have:=hb2.size;omega) _;have hs4:=hb2.size;clear hb2 hB1 hz2
 gi_upto_region 5 with fail
 have hs5:W1.heap.size < (w2.alloc (.cells #[.bool false,.slice none 0 0,.slice none 0 0] 170)).heap.size:=by simp;omega
 have hs6:w2.heap.size < (w2.alloc (.cells #[.bool false,.slice none 0 0,.slice none 0 0] 170)).heap.size:=by simp
 generalize w2.heap.size=g9 at *;generalize w2.alloc (.cells #[.bool false,.slice none 0 0,.slice none 0 0] 170)=W at *;obtain⟨p0,p1,p2⟩:=a0j (S:=fun k=>k < W.heap.size∧k≠w.heap.size∧k≠w.heap.size+1) d9 ⟨by omega,by omega,by omega⟩;obtain⟨x0,x1,x2⟩:=a0j (S:=fun k=>k < W.heap.size∧k≠w.heap.size∧k≠w.heap.size+1) d7 ⟨by omega,by omega,by omega⟩;obtain⟨⟨r0,s0⟩,⟨r1,s1⟩,r2,s2⟩:=a2t d4;obtain⟨⟨t0,u0⟩,⟨t1,u1⟩,t2,u2⟩:=a2t d5;have HW:=b9W (two_set (x:=.bool bq) (y:=.slice A (toL N).length c) (z:=.slice A' (toL D).length c') d4 d5 (by omega) hB2 (Nat.le_refl _));clear d4 d5 d7 d9 hB2 t0 t1 t2 u0 u1 u2;refine a0o (a0R W (fun k=>k < W.heap.size∧k≠w.heap.size∧k≠w.heap.size+1)) [0,1,2] [] hmx (by kernel_rfl) (a0g fun _ _=>rfl) ?_;change a0l _ _ _ _ _ _ _ _ (3+3) _ _ _;refine a0e [0,1,2] 3 _ _ (by kernel_rfl) ?_;change wpQuietIn _ _ _ _ (fun W'=>∃ x:a0n W (fun k=>k < W.heap.size∧k≠w.heap.size∧k≠w.heap.size+1),W'=x.W) _ _ _
 simp only[a0h,a0m,List.getElem?_cons_zero,List.getElem?_cons_succ,Option.elim_some]
 repeat (gi_big_quiet_step (fail))
 refine wpQuietIn_nil ?_;refine a0c 3 (by kernel_rfl) rfl ?_;gi_wp2;refine a0b (a0g fun k hk=>a1f k hk.2.1) ?_;obtain⟨d4,d5,hB1,hsm⟩:=HW.out;clear HW r0 r1 r2 s0 s1 s2;generalize (((W.setCell ⟨w.heap.size,0,none⟩ (.bool bq)).setCell ⟨w.heap.size,1,none⟩ (.slice A (toL N).length c)).setCell ⟨w.heap.size,2,none⟩ (.slice A' (toL D).length c')).drew=W3 at *;obtain⟨⟨t0,u0⟩,⟨t1,u1⟩,t2,u2⟩:=a2t d5;have HW:=b9W (b0C (x:=.bool false) (y:=.slice none 0 0) (z:=.slice none 0 0) d5 d4 (by omega) hB1 (Nat.le_succ _));have HSM:=b9W hsm;clear d4 d5 hB1 hsm;refine a0c 4 (by kernel_rfl) rfl ?_;gi_wp2;refine a0b (a0g fun k hk=>(a1f k hk.2.2).trans (HSM.out k hk.2.1)) ?_;obtain⟨d5,d4,hB1,hsm⟩:=HW.out;clear HW t0 t1 t2 u0 u1 u2;generalize (((W3.setCell ⟨w.heap.size+1,0,none⟩ (.bool false)).setCell ⟨w.heap.size+1,1,none⟩ (.slice none 0 0)).setCell ⟨w.heap.size+1,2,none⟩ (.slice none 0 0))=W5 at *;have HD4:=b9W d4;have HD5:=b9W d5;have HB5:=b9W hB1;have HSM5:=b9W hsm;clear d4 d5 hB1 hsm;refine a0c 5 (by kernel_rfl) rfl ?_;gi_wp2;refine a0b (a0g fun k hk=>(HSM5.out k hk.2.2).trans (HSM.out k hk.2.1)) ?_;refine a0i (by kernel_rfl) ?_;gi_wp2;refine b17 (g:=w.heap.size) (g':=w.heap.size+1) rfl rfl (by simp) (by simp) HD4.out HD5.out ?_;exact⟨_,_,rfl,⟨_,_,_,_,_,_,_,rfl⟩,⟨_,_,_,_,_,_,_,rfl⟩,HB5.out⟩
theorem a7Q(a b:ByteArray)(w:World)(ha:a.size≤270000)(hb:b.size≤270000)(he:errQ a.data.toList=0)(he2:errQ b.data.toList≠0) :
  Calls prog 152 #[.string a,.string b] w fun e w'=>∃ v v',e=.returned (.tuple #[v,v',.int .i64 (errQ b.data.toList:Int)])∧Qsh v∧Qsh v'∧Below w.heap.size w w':=b1z a b w ha (by omega) he he2
theorem a9J(a b:ByteArray)(w:World)(ha:a.size≤270000)(hb:b.size≤270000)(he:errQ a.data.toList=0)(he2:errQ b.data.toList=0) :
  Calls prog 152 #[.string a,.string b] w fun e w'=>∃ v v',e=.returned (.tuple #[v,v',.int .i64 (0:Int)])∧IsQ w' v (valQ a.data.toList)∧IsQ w' v' (valQ b.data.toList)∧Below w.heap.size w w':=by
 have HP:=b9W (fun w=>a4k a w ha);have HP2:=b9W (fun w=>a4k b w hb);have hne:((errQ a.data.toList:Int)==0)=true:=by rw[he];rfl
 have HE:=b9W he;have HE2:=b9W he2;rw[he2]at HP2;clear he he2 hb;refine(callsIn_wide (n:=3)).1 ?_;have h1:1≤3:=by omega
 have hmx:prog.follows .mixedOrders=true:=by kernel_rfl
 refine callsIn_of_wp func152 rfl trivial ?_ rfl
 simp only[ntmps152,List.size_toArray,List.length_cons,List.length_nil,Nat.reduceAdd,Nat.reduceSub,Array.replicate_succ,Array.replicate_zero,List.push_toArray,List.append_toArray,List.nil_append,List.cons_append]
 gi_upto_region 3 with fail
 obtain⟨c4,c5,hB0,hs0⟩:=b12 w;generalize (w.alloc zQ).alloc zQ=W0 at *;refine⟨trivial,?_⟩;refine(callsIn_wide.2 (HP.out _)).mono ?_;rintro e w1 ⟨v,rfl,hv,-,hb1⟩;obtain⟨bq,N,D,A,c,A',c',rfl,hn,hd,HQ⟩:=a0w (hv HE.out);have d4:=(c4.below hb1 (by omega)).alloc (.cells #[.bool bq,.slice A (toL N).length c,.slice A' (toL D).length c'] 170);have d5:=(c5.below hb1 (by omega)).alloc (.cells #[.bool bq,.slice A (toL N).length c,.slice A' (toL D).length c'] 170);have d7:=Blk.new w1 170 #[.bool bq,.slice A (toL N).length c,.slice A' (toL D).length c'];have hB1:Below w.heap.size w (w1.alloc (.cells #[.bool bq,.slice A (toL N).length c,.slice A' (toL D).length c'] 170)):=(hB0.trans (hb1.mono (by omega))).alloc (by have:=hb1.size;omega) _;have HNN:=b9W (hn.below (a0d (Below.refl _ _) (.cells #[.bool bq,.slice A (toL N).length c,.slice A' (toL D).length c'] 170)));have HDD:=b9W (hd.below (a0d (Below.refl _ _) (.cells #[.bool bq,.slice A (toL N).length c,.slice A' (toL D).length c'] 170)));have hs1:=hb1.size;clear hb1 hB0 c4 c5 hv hn hd
 gi_upto_region 5 with fail
 have hs2:W0.heap.size < (w1.alloc (.cells #[.bool bq,.slice A (toL N).length c,.slice A' (toL D).length c'] 170)).heap.size:=by simp;omega
 have hs3:w1.heap.size < (w1.alloc (.cells #[.bool bq,.slice A (toL N).length c,.slice A' (toL D).length c'] 170)).heap.size:=by simp
 have hz0:w.heap.size+2≤W0.heap.size:=by omega
 clear hs0;generalize w1.heap.size=g7 at *;generalize w1.alloc (.cells #[.bool bq,.slice A (toL N).length c,.slice A' (toL D).length c'] 170)=W1 at *;refine⟨trivial,?_⟩;refine(callsIn_wide.2 (HP2.out W1)).mono ?_;rintro e w2 ⟨v2,rfl,hv2,-,hb2⟩;obtain⟨bq2,N2,D2,B,d,B',d',rfl,hn2,hd2,HQ2⟩:=a0w (hv2 trivial);have d4:=(d4.below hb2 (by omega)).alloc (.cells #[.bool bq2,.slice B (toL N2).length d,.slice B' (toL D2).length d'] 170);have d5:=(d5.below hb2 (by omega)).alloc (.cells #[.bool bq2,.slice B (toL N2).length d,.slice B' (toL D2).length d'] 170);have d7:=(d7.below hb2 (by omega)).alloc (.cells #[.bool bq2,.slice B (toL N2).length d,.slice B' (toL D2).length d'] 170);have d9:=Blk.new w2 170 #[.bool bq2,.slice B (toL N2).length d,.slice B' (toL D2).length d'];have hB2:Below w.heap.size w (w2.alloc (.cells #[.bool bq2,.slice B (toL N2).length d,.slice B' (toL D2).length d'] 170)):=(hB1.trans (hb2.mono (by omega))).alloc (by have:=hb2.size;omega) _;have HNN:=b9W ((HNN.out.below hb2).below (a0d (Below.refl _ _) (.cells #[.bool bq2,.slice B (toL N2).length d,.slice B' (toL D2).length d'] 170)));have HDD:=b9W ((HDD.out.below hb2).below (a0d (Below.refl _ _) (.cells #[.bool bq2,.slice B (toL N2).length d,.slice B' (toL D2).length d'] 170)));have HNN2:=b9W (hn2.below (a0d (Below.refl _ _) (.cells #[.bool bq2,.slice B (toL N2).length d,.slice B' (toL D2).length d'] 170)));have HDD2:=b9W (hd2.below (a0d (Below.refl _ _) (.cells #[.bool bq2,.slice B (toL N2).length d,.slice B' (toL D2).length d'] 170)));have hs4:=hb2.size;clear hb2 hB1 hv2 hn2 hd2
 gi_upto_region 5 with fail
 have hs5:W1.heap.size < (w2.alloc (.cells #[.bool bq2,.slice B (toL N2).length d,.slice B' (toL D2).length d'] 170)).heap.size:=by simp;omega
 have hs6:w2.heap.size < (w2.alloc (.cells #[.bool bq2,.slice B (toL N2).length d,.slice B' (toL D2).length d'] 170)).heap.size:=by simp
 generalize w2.heap.size=g9 at *;generalize w2.alloc (.cells #[.bool bq2,.slice B (toL N2).length d,.slice B' (toL D2).length d'] 170)=W at *;obtain⟨p0,p1,p2⟩:=a0j (S:=fun k=>k < W.heap.size∧k≠w.heap.size∧k≠w.heap.size+1) d9 ⟨by omega,by omega,by omega⟩;obtain⟨x0,x1,x2⟩:=a0j (S:=fun k=>k < W.heap.size∧k≠w.heap.size∧k≠w.heap.size+1) d7 ⟨by omega,by omega,by omega⟩;obtain⟨⟨r0,s0⟩,⟨r1,s1⟩,r2,s2⟩:=a2t d4;obtain⟨⟨t0,u0⟩,⟨t1,u1⟩,t2,u2⟩:=a2t d5;have HW:=b9W (two_set (x:=.bool bq) (y:=.slice A (toL N).length c) (z:=.slice A' (toL D).length c') d4 d5 (by omega) hB2 (Nat.le_refl _));have HK4:=b9W d4;clear d4 d5 d7 d9 hB2 t0 t1 t2 u0 u1 u2;refine a0o (a0R W (fun k=>k < W.heap.size∧k≠w.heap.size∧k≠w.heap.size+1)) [0,1,2] [] hmx (by kernel_rfl) (a0g fun _ _=>rfl) ?_;change a0l _ _ _ _ _ _ _ _ (3+3) _ _ _;refine a0e [0,1,2] 3 _ _ (by kernel_rfl) ?_;change wpQuietIn _ _ _ _ (fun W'=>∃ x:a0n W (fun k=>k < W.heap.size∧k≠w.heap.size∧k≠w.heap.size+1),W'=x.W) _ _ _
 simp only[a0h,a0m,List.getElem?_cons_zero,List.getElem?_cons_succ,Option.elim_some]
 repeat (gi_big_quiet_step (fail))
 refine wpQuietIn_nil ?_;refine a0c 3 (by kernel_rfl) rfl ?_;gi_wp2;refine a0b (a0g fun k hk=>a1f k hk.2.1) ?_;obtain⟨d4,d5,hB1,hsm⟩:=HW.out;have HNN:=b9W (show a0u (((W.setCell ⟨w.heap.size,0,none⟩ (.bool bq)).setCell ⟨w.heap.size,1,none⟩ (.slice A (toL N).length c)).setCell ⟨w.heap.size,2,none⟩ (.slice A' (toL D).length c')).drew _ N from a0I HNN.out HK4.out);have HDD:=b9W (show a0u (((W.setCell ⟨w.heap.size,0,none⟩ (.bool bq)).setCell ⟨w.heap.size,1,none⟩ (.slice A (toL N).length c)).setCell ⟨w.heap.size,2,none⟩ (.slice A' (toL D).length c')).drew _ D from a0I HDD.out HK4.out);have HNN2:=b9W (show a0u (((W.setCell ⟨w.heap.size,0,none⟩ (.bool bq)).setCell ⟨w.heap.size,1,none⟩ (.slice A (toL N).length c)).setCell ⟨w.heap.size,2,none⟩ (.slice A' (toL D).length c')).drew _ N2 from a0I HNN2.out HK4.out);have HDD2:=b9W (show a0u (((W.setCell ⟨w.heap.size,0,none⟩ (.bool bq)).setCell ⟨w.heap.size,1,none⟩ (.slice A (toL N).length c)).setCell ⟨w.heap.size,2,none⟩ (.slice A' (toL D).length c')).drew _ D2 from a0I HDD2.out HK4.out);clear HW r0 r1 r2 s0 s1 s2;generalize (((W.setCell ⟨w.heap.size,0,none⟩ (.bool bq)).setCell ⟨w.heap.size,1,none⟩ (.slice A (toL N).length c)).setCell ⟨w.heap.size,2,none⟩ (.slice A' (toL D).length c')).drew=W3 at *;obtain⟨⟨t0,u0⟩,⟨t1,u1⟩,t2,u2⟩:=a2t d5;have HW:=b9W (b0C (x:=.bool bq2) (y:=.slice B (toL N2).length d) (z:=.slice B' (toL D2).length d') d5 d4 (by omega) hB1 (Nat.le_succ _));have HSM:=b9W hsm;have HK5:=b9W d5;clear d4 d5 hB1 hsm;refine a0c 4 (by kernel_rfl) rfl ?_;gi_wp2;refine a0b (a0g fun k hk=>(a1f k hk.2.2).trans (HSM.out k hk.2.1)) ?_;obtain⟨d5,d4,hB1,hsm⟩:=HW.out;have HNN:=b9W (a0I (m':=bq2) (D:=B) (D':=B') (a:=(toL N2).length) (b:=d) (a':=(toL D2).length) (b':=d') HNN.out HK5.out);have HDD:=b9W (a0I (m':=bq2) (D:=B) (D':=B') (a:=(toL N2).length) (b:=d) (a':=(toL D2).length) (b':=d') HDD.out HK5.out);have HNN2:=b9W (a0I (m':=bq2) (D:=B) (D':=B') (a:=(toL N2).length) (b:=d) (a':=(toL D2).length) (b':=d') HNN2.out HK5.out);have HDD2:=b9W (a0I (m':=bq2) (D:=B) (D':=B') (a:=(toL N2).length) (b:=d) (a':=(toL D2).length) (b':=d') HDD2.out HK5.out);clear HW t0 t1 t2 u0 u1 u2;generalize (((W3.setCell ⟨w.heap.size+1,0,none⟩ (.bool bq2)).setCell ⟨w.heap.size+1,1,none⟩ (.slice B (toL N2).length d)).setCell ⟨w.heap.size+1,2,none⟩ (.slice B' (toL D2).length d'))=W5 at *;have HD4:=b9W d4;have HD5:=b9W d5;have HB5:=b9W hB1;have HSM5:=b9W hsm;clear d4 d5 hB1 hsm;refine a0c 5 (by kernel_rfl) rfl ?_;gi_wp2;refine a0b (a0g fun k hk=>(HSM5.out k hk.2.2).trans (HSM.out k hk.2.1)) ?_;refine a0i (by kernel_rfl) ?_;gi_wp2;refine b17 (g:=w.heap.size) (g':=w.heap.size+1) rfl rfl (by simp) (by simp) HD4.out HD5.out ?_;exact⟨_,_,rfl,a4l HQ (a07 HNN.out HDD.out),a4l HQ2 (a07 HNN2.out HDD2.out),HB5.out⟩
end Go.Proofs.YtigapglmipmbeaaGreatDoor
namespace Go.Proofs.YtigapglmipmbeaaGreatDoor
open Go.RowKit Go.Shelf
open Lim
theorem b4T(k x:Nat):padk (k+1) x=UInt8.ofNat (48+x / 10 ^ k % 10)::padk k x:=by
 induction k generalizing x with
 | zero=>simp[padk]
 | succ k ih =>
  rw[padk,ih,padk,Nat.div_div_eq_div_mul,Nat.pow_succ,Nat.mul_comm 10]
  rfl
section
variable {w:World} {g:Nat} {t:TypeId} {P S:List Value} {v:Value}
theorem b80(h:Blk w g t (P++(v::S)).toArray){n:Nat}(hn:n=P.length):w.cell? ⟨g,n,none⟩=some v:=by
 subst hn;rw[h.cell,List.getElem?_toArray,List.getElem?_append_right (Nat.le_refl _),Nat.sub_self]
 rfl
theorem b9R(h:Blk w g t (P++(v::S)).toArray){n:Nat}(hn:n=P.length)(v':Value):Blk (w.setCell ⟨g,n,none⟩ v') g t (P++(v'::S)).toArray:=by
 subst hn;have h2:=h.set_ P.length v';rw[List.setIfInBounds_toArray,List.set_append_right _ _ (Nat.le_refl _),Nat.sub_self,List.set_cons_zero]at h2;exact h2
end
theorem Tryz.infoB:(prog.info? 5).map (fun i=>(i.zero,i.size,i.bytes))=some (some (.int .u8 0),1,1):=by kernel_rfl
theorem b6u{P:Program}{t e:TypeId}{i:TypeInfo}{z:Value}(ht:P.underlying t=some (.slice e))(hi:P.info? e=some i)(hz:i.zero=some z)(hsz:i.size=1)(hby:i.bytes=1)
  {n:Nat} (hn:n≤1000000) {C:Int} (hC:C=(n:Int)) (w:World) :
  (Instr.makeSlice t (.int .i64 C) (.int .i64 C)).run P w=.ok (.slice (some ⟨w.heap.size,0,none⟩) n n) (w.alloc (.cells (madeCells z.cells n) e)):=by
 subst hC;have hb:(i.bytes:Int)*(n:Int)≤281474976710656:=by rw[hby];omega
 have hr:=run_make (P:=P) w t e i z ht hi hz .i64 .i64 n n (by omega) (by omega) hb (by omega)
 simp only[Int.toNat_natCast,hsz,Nat.mul_one]at hr
 exact hr
theorem b2x(n:Nat):madeCells #[.int .u8 0] n=(Lib.byteCells (List.replicate n 0)).toArray:=by
 apply Array.toList_inj.1
 rw[toList_madeCells_one];simp[Lib.byteCells]
theorem a9r(x:Nat)(vx:Value)(w:World)(hx:a0u w vx x)(hlx:(toL x).length≤40000) :
  Calls prog 228 #[vx] w fun e w'=>e=.returned (.string ⟨(Lib.decDigits x).toArray⟩)∧Below w.heap.size w w':=by
 obtain⟨A,c,rfl,hc,hcm,hra⟩:=hx
 by_cases h0:x=0
 ·subst h0
  have hl:(toL 0).length=0:=by rw[a0E];rfl
  have hs:(⟨(Lib.decDigits 0).toArray⟩:ByteArray)=⟨#[48]⟩:=by rw[Lib.decDigits_one (by omega)];rfl
  rw[hl,hs];clear hl hra hs
  go_enter func228,ntmps228
  go_wp2
  go_ret
  exact⟨rfl,Below.refl _ _⟩
 ·have hl:0 < (toL x).length:=a1j.2 h0
  obtain⟨i0,hi,hz0,hz1,hz2⟩:=info_parts Tryz.infoB;have hmk:=fun W=>b6u (P:=prog) underlying123 hi hz0 hz1 hz2 (n:=9*(toL x).length) (by omega) (C:=9*((toL x).length:Int)) (by omega) W;obtain⟨b,o,rfl,hb,hcell⟩:=hra (by rw[a0M];omega);have HC:=b9W (fun i (hi:i < (toL x).length)=>hcell i _ (a1V hi));have hne:(((toL x).length:Int)==0)=false:=by rw[beq_eq_false_iff_ne];omega
  have HXS:=b9W (a1c x);have HDV:=b9W (b1l (n:=x));clear hcell hra h0
  go_enter func228,ntmps228
  go_wp2;clear hmk;have hblk0:Blk (w.alloc (.cells (madeCells #[.int .u8 0] (9*(toL x).length)) 5)) w.heap.size 5 (Lib.byteCells (a3R (toL x) 0++List.replicate (9*((toL x).length - 0)) 0)).toArray:=by
   have:a3R (toL x) 0++List.replicate (9*((toL x).length - 0)) 0=List.replicate (9*(toL x).length) 0:=rfl;rw[this,← b2x];exact Blk.new _ _ _
  have hBB:Below w.heap.size w (w.alloc (.cells (madeCells #[.int .u8 0] (9*(toL x).length)) 5)):=(Below.refl _ _).alloc (Nat.le_refl _) _;generalize w.alloc (.cells (madeCells #[.int .u8 0] (9*(toL x).length)) 5)=W1 at *
  go_loopw [4] (fun si wr=>∃ i:Nat,i≤(toL x).length∧si=.int .i64 (i:Int)∧Blk wr w.heap.size 5 (Lib.byteCells (a3R (toL x) i++List.replicate (9*((toL x).length - i)) 0)).toArray∧Below w.heap.size w wr) (fun si _=>(toL x).length - (intOf si).toNat)
  case atStart=>exact⟨0,Nat.zero_le _,rfl,hblk0,hBB⟩
  case round =>
   obtain⟨i,hi',rfl,hblk,hB⟩:=hrel;clear hblk0 hBB
   by_cases hlt:i < (toL x).length
   ·have hcx:=(hB.cell (p:=⟨b,o+((toL x).length - 1 - i),none⟩) hb).trans (HC.out ((toL x).length - 1 - i) (by omega))
    have hx0:=HXS.out.get ((toL x).length - 1 - i);have HWS:=b9W (a5y (toL x) i);have hi2:((toL x).length:Int) - 1 - (i:Int)=(((toL x).length - 1 - i:Nat):Int):=by omega
    have hi3:(toL x).length - 1 - i < (toL x).length:=by omega
    generalize (toL x)[(toL x).length - 1 - i]?.getD 0=x0 at *;rw[a0B]at hx0;have HB:=b9W hB;have HBK:=b9W hblk;clear hblk hB;obtain⟨wo,rfl⟩:∃ wo,wo=wr:=⟨_,rfl⟩;go_wp2
    go_loopw [5,6] (fun sn sk wr=>∃ j n:Nat,j≤9∧n=x0 / 10 ^ j∧sn=.int .i64 (n:Int)∧sk=.int .i64 (8 - (j:Int))∧Blk wr w.heap.size 5 (Lib.byteCells (a3R (toL x) i++(List.replicate (9 - j) 0++(padk j x0++List.replicate (9*((toL x).length - 1 - i)) 0)))).toArray∧Below w.heap.size w wr) (fun _ sk _=>(intOf sk+1).toNat)
    case atStart =>
     refine⟨0,x0,Nat.zero_le _,by simp,rfl,rfl,?_,HB.out⟩;have e:List.replicate (9 - 0) 0++(padk 0 x0++List.replicate (9*((toL x).length - 1 - i)) 0)=List.replicate (9*((toL x).length - i)) (0:UInt8):=by
      show List.replicate 9 0++([]++List.replicate (9*((toL x).length - 1 - i)) 0)=_
      rw[List.nil_append,List.replicate_append_replicate]
      congr 1
      omega
     rw[e];exact HBK.out
    case round =>
     obtain⟨j,n,hj,hn,rfl,rfl,hblk,hB⟩:=hrel;have hnx:n≤x0:=by rw[hn];exact Nat.div_le_self _ _
     have HN:=b9W hn;have HB2:=b9W hB
     by_cases hj9:j=9
     ·subst hj9
      have hlast:9*((toL x).length - 1 - i)=9*((toL x).length - (i+1)):=by omega
      have HBL:=b9W (show Blk wr w.heap.size 5 (Lib.byteCells (a3R (toL x) (i+1)++List.replicate (9*((toL x).length - (i+1))) 0)).toArray from by
       rw[HWS.out,List.append_assoc,← hlast];exact hblk)
      clear hn hblk hB hlast hcx;go_wp2
      go_roundw
      case rel=>exact⟨i+1,hlt,by go_num,HBL.out,HB2.out⟩
      case measure=>simp[intOf];omega
     ·obtain⟨k,hk⟩:∃ k,j+k=8:=⟨8 - j,by omega⟩
      have hkI:(8:Int) - (j:Int)=(k:Int):=by omega
      have hPl:(Lib.byteCells (a3R (toL x) i++List.replicate k 0)).length=9*i+k:=by rw[Lib.byteCells_length,List.length_append,a7o,List.length_replicate]
      have hform:Lib.byteCells (a3R (toL x) i++(List.replicate (9 - j) 0++(padk j x0++List.replicate (9*((toL x).length - 1 - i)) 0))) =
        Lib.byteCells (a3R (toL x) i++List.replicate k 0)++(.int .u8 0::Lib.byteCells (padk j x0++List.replicate (9*((toL x).length - 1 - i)) 0)):=by
       rw[show 9 - j=k+1 by omega,List.replicate_succ']
       simp[Lib.byteCells]
      rw[hform]at hblk;have hst1:=b80 hblk hPl.symm;have hst2:=hblk.frozen (9*i+k);have HSET:=b9W (fun v=>b9R hblk hPl.symm v);have hlen9:9*i+k < 9*(toL x).length:=by omega
      clear hn hblk hB hform hPl hj9 hcx;rw[hkI];go_wp2;have hd:=Nat.mod_lt n (show 0 < 10 by omega)
      go_roundw
      case rel =>
       refine⟨j+1,n / 10,by omega,?_,a09 (by omega),a09 (by omega),?_,HB2.out.setCell (p:=⟨w.heap.size,9*i+k,none⟩) (Nat.le_refl _) _⟩
       ·rw[HN.out,Nat.div_div_eq_div_mul,Nat.pow_succ]
       ·have h2:=HSET.out (.int .u8 (((48+n % 10:Nat)):Int))
        have e:Lib.byteCells (a3R (toL x) i++(List.replicate (9 - (j+1)) 0++(padk (j+1) x0++List.replicate (9*((toL x).length - 1 - i)) 0))) =
          Lib.byteCells (a3R (toL x) i++List.replicate k 0)++(.int .u8 (((48+n % 10:Nat)):Int)::Lib.byteCells (padk j x0++List.replicate (9*((toL x).length - 1 - i)) 0)):=by
         rw[show 9 - (j+1)=k by omega,b4T,← HN.out];have ht:=a3M hd
         simp only[Lib.byteCells,List.map_append,List.map_cons,List.cons_append,List.append_assoc,ht]
        rw[e];exact h2
      case measure=>simp[intOf]
   ·obtain rfl:i=(toL x).length:=by omega
    have hrow:Lib.byteCells (a3R (toL x) (toL x).length++List.replicate (9*((toL x).length - (toL x).length)) 0)=Lib.byteCells (a3R (toL x) (toL x).length):=by
     rw[Nat.sub_self];simp
    rw[hrow]at hblk;have HB:=b9W hB;have HBK:=b9W hblk;have HLN:=b9W (a7o (toL x) (toL x).length);have HDG:=b9W (b8u (toL x) (toL x).length);clear hblk hB hrow;obtain⟨wq,rfl⟩:∃ wq,wq=wr:=⟨_,rfl⟩;go_wp2
    go_loopw [3] (fun sb w3=>∃ (k:Nat) (r:List UInt8),a3R (toL x) (toL x).length=List.replicate k 48++r∧r≠[]∧sb=.slice (some ⟨w.heap.size,k,none⟩) r.length r.length∧w3=wq) (fun sb _=>match sb with|.slice _ n _=>n|_=>0)
    case atStart=>exact⟨0,a3R (toL x) (toL x).length,rfl,fun e=>by have:=HLN.out;rw[e]at this;simp at this;omega,by rw[HLN.out],rfl⟩
    case round =>
     obtain⟨k,r,hkr,hrn,rfl,rfl⟩:=hrel;have hsum:k+r.length=9*(toL x).length:=by
      have:=congrArg List.length hkr;rw[HLN.out,List.length_append,List.length_replicate]at this
      omega
     have hrow:∀ j (hj:j < r.length),wr.cell? ((⟨w.heap.size,k,none⟩:Addr).add j)=some (.int .u8 ((r[j]'hj).toNat:Int)):=by
      intro j hj;have h2:=HBK.out;rw[hkr]at h2;rw[Lib.add_plain,h2.cell,List.getElem?_toArray,Lib.byteCells,List.getElem?_map,List.getElem?_append_right (by rw[List.length_replicate];omega),List.length_replicate,show k+j - k=j by omega,List.getElem?_eq_getElem hj]
      rfl
     have HRN:=b9W hrn;have HKR:=b9W hkr;have HDONE:=b9W (fun h=>b3M (HDG.out) hkr hrn h);rw[HDV.out]at HDONE;have HCV:=b9W (run_convert_bytes_back (P:=prog) wr 123 9 5 ⟨w.heap.size,k,none⟩ r.length r underlying123 underlying5 underlying9 hrow)
     by_cases h1:1 < r.length
     ·have h1':(1:Int) < (r.length:Int):=by omega
      obtain⟨ch,r',rfl⟩:=List.exists_cons_of_ne_nil hrn;have hc0:=hrow 0 (by simp);rw[Lib.add_plain,Nat.add_zero]at hc0
      simp only[List.getElem_cons_zero]at hc0
      have hblt:w.heap.size < wr.heap.size:=HBK.out.lt;clear hrow hkr hrn
      by_cases hch:ch=48
      ·have hcb:((ch.toNat:Int)==48)=true:=by rw[hch];rfl
       have hci:(ch.toNat:Int)=48:=by rw[hch];rfl
       have HCH:=b9W hch;clear hch;have hrl:(ch::r').length=r'.length+1:=rfl;rw[hrl]at h1 h1' hsum;generalize hzz:(ch::r').length=zz at *;go_wp2
       go_roundw
       case rel =>
        have hne':r'≠[]:=fun e=>by rw[e]at h1;simp at h1
        refine⟨k+1,r',?_,hne',?_,trivial⟩
        ·rw[HKR.out,List.replicate_succ',List.append_assoc,HCH.out];rfl
        ·rw[if_neg hne']
       case measure=>simp[← hzz]
      ·have hcb:((ch.toNat:Int)==48)=false:=by
        rw[beq_eq_false_iff_ne];intro e
        apply hch
        apply UInt8.toNat_inj.1
        show ch.toNat=48
        omega
       have hci:¬ (ch.toNat:Int)=48:=by
        intro e
        apply hch
        apply UInt8.toNat_inj.1
        show ch.toNat=48
        omega
       have HR:=b9W (HDONE.out (.inr (by rw[List.head?_cons];intro e;injection e with e;exact hch e)));have hcv:=HCV.out;clear hch;generalize hzz:(ch::r').length=zz at *;go_wp2
       go_ret
       exact⟨by first|rfl|(rw[← HR.out];rfl)|(rw[HR.out];rfl),HB.out⟩
     ·have h1':¬ (1:Int) < (r.length:Int):=by omega
      have hr1:r.length=1:=by have:=List.length_pos_iff.2 hrn;omega
      have HR:=b9W (HDONE.out (.inl hr1));have hcv:=HCV.out;clear hrow hkr hrn hr1;generalize hzz:r.length=zz at *;go_wp2
      go_ret
      exact⟨by first|rfl|(rw[← HR.out];rfl)|(rw[HR.out];rfl),HB.out⟩
end Go.Proofs.YtigapglmipmbeaaGreatDoor
