/- frac.Add, Sub, Div (printed by mkfadd.py). -/
import Derived.Test.YtigapglmipmbeaaGreatDoorLwMomentAdds05
import Derived.Test.YtigapglmipmbeaaGreatDoorLwMomentAdds06
import Derived.Test.YtigapglmipmbeaaGreatDoorLwMomentAdds07
set_option maxRecDepth 100000
set_option maxHeartbeats 16000000
open Go.Proofs.Tryz
namespace Go.Proofs.YtigapglmipmbeaaGreatDoor
open Go.RowKit Go.Shelf
open Lim
attribute [local go_sem] Oper.semAt_some
theorem a1u{w:World}{b:Nat}{t:TypeId}{x y z:Value}(h:Blk w b t #[x,y,z]):w.cell? ⟨b,0,none⟩=some x∧w.cell? ⟨b,1,none⟩=some y∧w.cell? ⟨b,2,none⟩=some z :=
 ⟨(a0W h 0 (by simp)).1,(a0W h 1 (by simp)).1,(a0W h 2 (by simp)).1⟩
theorem a4M{a b:Nat}:sgn a b < 0↔a < b:=by
 unfold sgn
 split
 ·omega
 ·split<;>omega
theorem a9m{x y k:Nat}(hx:(toL x).length≤k)(hy:(toL y).length≤k):(toL (x+y)).length≤k+1:=by
 refine a11 ?_;have h1:x < B ^ k:=Nat.lt_of_lt_of_le (a6E x) (Nat.pow_le_pow_right (by rw[a0B];omega) hx);have h2:y < B ^ k:=Nat.lt_of_lt_of_le (a6E y) (Nat.pow_le_pow_right (by rw[a0B];omega) hy);rw[Nat.pow_succ,a0B]at *
 omega
theorem b4U(m m':Bool)(n d n' d':Nat)(v v':Value)(w:World)(h:a05 w v m n d)(h':a05 w v' m' n' d')(hd0:d*d'≠0)(hm:m=m')(l1:(toL n).length≤10000)(l2:(toL d).length≤10000)(l3:(toL n').length≤10000)(l4:(toL d').length≤10000) :
  Calls prog 190 #[v,v'] w fun e w'=>∃ v2,e=.returned v2∧a0C w' v2 (mkQ m (n*d'+n'*d) (d*d'))∧Below w.heap.size w w':=by
 obtain⟨An,cn,Ad,cd,rfl,hn,hd⟩:=h;obtain⟨An',cn',Ad',cd',rfl,hn',hd'⟩:=h';have HN:=b9W hn;have HD:=b9W hd;have HN':=b9W hn';have HD':=b9W hd';have lx:=Nat.le_trans (a0D n d') (show _≤20000 by omega);have ly:=Nat.le_trans (a0D n' d) (show _≤20000 by omega);have ld:=Nat.le_trans (a0D d d') (show _≤20000 by omega);have HD0:=b9W hd0;clear hn hd hn' hd' hd0;have hmm:(m==m')=true:=by rw[beq_iff_eq];exact hm
 clear hm;refine(callsIn_wide (n:=3)).1 ?_;have h1:1≤3:=by omega
 have hmx:prog.follows .mixedOrders=true:=by kernel_rfl
 refine callsIn_of_wp func190 rfl trivial ?_ rfl
 simp only[ntmps190,List.size_toArray,List.length_cons,List.length_nil,Nat.reduceAdd,Nat.reduceSub,Array.replicate_succ,Array.replicate_zero,List.push_toArray,List.append_toArray,List.nil_append,List.cons_append]
 gi_upto_region 1 with fail
 obtain⟨b0,b1,b2,hB,hs⟩:=a5G w (.bool m) (.slice An (toL n).length cn) (.slice Ad (toL d).length cd) (.bool m') (.slice An' (toL n').length cn') (.slice Ad' (toL d').length cd');generalize ((w.alloc (.cells #[.bool m,.slice An (toL n).length cn,.slice Ad (toL d).length cd] 216)).alloc (.cells #[.bool m',.slice An' (toL n').length cn',.slice Ad' (toL d').length cd'] 216)).alloc zF=W at *;obtain⟨x0,x1,x2⟩:=a0j (S:=fun k=>k < W.heap.size∧k≠w.heap.size+1+1) b0 ⟨by omega,by omega⟩;obtain⟨y0,y1,y2⟩:=a0j (S:=fun k=>k < W.heap.size∧k≠w.heap.size+1+1) b1 ⟨by omega,by omega⟩;have HB:=b9W (a0x hB);have HS:=b9W hs;have P0:=b9W b0;have P1:=b9W b1;have P2:=b9W b2;clear b0 b1 b2 hB hs;refine a0o (a0R W (fun k=>k < W.heap.size∧k≠w.heap.size+1+1)) [0,1,2,3,5,6,7,8,10,11] [] hmx (by kernel_rfl) (a0g fun _ _=>rfl) ?_;change a0l _ _ _ _ _ _ _ _ (4+8) _ _ _;refine a0e [0,1,2,3,5,6,7,8] 4 _ _ (by kernel_rfl) ?_;change wpQuietIn _ _ _ _ (fun W'=>∃ x:a0n W (fun k=>k < W.heap.size∧k≠w.heap.size+1+1),W'=x.W) _ _ _
 simp only[a0h,a0m,List.getElem?_cons_zero,List.getElem?_cons_succ,Option.elim_some]
 repeat (gi_big_quiet_step (fail))
 refine wpQuietIn_nil ?_;refine a0c 4 (by kernel_rfl) rfl ?_;gi_wp2;refine⟨trivial,?_⟩;refine(callsIn_wide.2 (a2k n d' _ _ W.drew (HN.out.below HB.out) (HD'.out.below HB.out) (by omega) (by omega))).mono ?_;rintro e w3 ⟨v3,rfl,hv3,hb3⟩;obtain⟨A3,c3,rfl,_,_,_⟩:=id hv3;have HV3:=b9W hv3;have HB3:=b9W (a0q hb3);clear hv3 hb3;gi_wp2;refine a0b (a0a HB3.out (fun k hk=>hk.1)) ?_;refine a0c 9 (by kernel_rfl) rfl ?_;gi_wp2;refine⟨trivial,?_⟩;refine(callsIn_wide.2 (a2k n' d _ _ w3 (HN'.out.below (HB.out.trans ((a0f HB3.out).mono HB.out.size))) (HD.out.below (HB.out.trans ((a0f HB3.out).mono HB.out.size))) (by omega) (by omega))).mono ?_;rintro e w4 ⟨v4,rfl,hv4,hb4⟩;obtain⟨A4,c4,rfl,_,_,_⟩:=id hv4;have HV4:=b9W hv4;have HV3:=b9W (HV3.out.below hb4);have hB4:Below W.heap.size W w4:=HB3.out.trans (hb4.mono HB3.out.size);have HB4:=b9W hB4;clear hv4 hb4 hB4;gi_wp2;refine a0b (a0a HB4.out (fun k hk=>hk.1)) ?_;change a0l _ _ _ _ _ _ _ _ (0+2) _ _ _;refine a0e [10,11] 0 _ _ (by kernel_rfl) ?_;change wpQuietIn _ _ _ _ (fun W'=>∃ x:a0n W (fun k=>k < W.heap.size∧k≠w.heap.size+1+1),W'=x.W) _ _ _
 simp only[a0h,a0m,List.getElem?_cons_zero,List.getElem?_cons_succ,Option.elim_some]
 repeat (gi_big_quiet_step (fail))
 refine wpQuietIn_nil ?_;refine a0i (by kernel_rfl) ?_;clear x0 x1 x2 y0 y1 y2;have hsz:=HS.out;obtain⟨x0,x1,x2⟩:=a1u (P0.out.below HB4.out (by omega));obtain⟨y0,y1,y2⟩:=a1u (P1.out.below HB4.out (by omega));clear hsz
 gi_upto_region 3 with fail
 have HB40:=b9W (HB.out.trans ((a0f HB4.out).mono HB.out.size));refine⟨trivial,?_⟩;refine(callsIn_wide.2 (a2k d d' _ _ w4 (HD.out.below HB40.out) (HD'.out.below HB40.out) (by omega) (by omega))).mono ?_;rintro e w5 ⟨v5,rfl,hv5,hb5⟩;obtain⟨A5,c5,rfl,_,_,_⟩:=id hv5;have HV5:=b9W hv5;have HV3:=b9W (HV3.out.below hb5);have HV4:=b9W (HV4.out.below hb5);have hB5:Below W.heap.size W w5:=HB4.out.trans (hb5.mono HB4.out.size);have HB5:=b9W hB5;clear hv5 hb5 hB5 x0 x1 x2 y0 y1 y2
 gi_upto_region 4 with fail
 refine⟨trivial,?_⟩;refine(callsIn_wide.2 (a5l (n*d') (n'*d) _ _ w5 HV3.out HV4.out (by omega))).mono ?_;rintro e w6 ⟨rfl,hb6⟩;have HV3:=b9W (HV3.out.below hb6);have HV4:=b9W (HV4.out.below hb6);have HV5:=b9W (HV5.out.below hb6);have hB6:Below W.heap.size W w6:=HB5.out.trans (hb6.mono HB5.out.size);have HB6:=b9W hB6;clear hb6 hB6;have hsz:=HS.out;have Q0:=b9W (P0.out.below HB6.out (by omega));have Q1:=b9W (P1.out.below HB6.out (by omega));have Q2:=b9W (P2.out.below HB6.out (by omega));have h62:=HB6.out.size;clear hsz;obtain⟨x0,x1,x2⟩:=a1u Q0.out;obtain⟨y0,y1,y2⟩:=a1u Q1.out
 gi_upto_region 6 with fail
 clear x0 x1 x2 y0 y1 y2;have hsz:=HS.out;obtain⟨x0,x1,x2⟩:=a0j (S:=fun k=>k < w6.heap.size∧k≠w.heap.size+1+1) Q0.out ⟨by omega,by omega⟩;obtain⟨y0,y1,y2⟩:=a0j (S:=fun k=>k < w6.heap.size∧k≠w.heap.size+1+1) Q1.out ⟨by omega,by omega⟩;clear hsz;refine a0o (a0R w6 (fun k=>k < w6.heap.size∧k≠w.heap.size+1+1)) [0,1,2,3,5] [] hmx (by kernel_rfl) (a0g fun _ _=>rfl) ?_;change a0l _ _ _ _ _ _ _ _ (3+5) _ _ _;refine a0e [0,1,2,3,5] 3 _ _ (by kernel_rfl) ?_;change wpQuietIn _ _ _ _ (fun W'=>∃ x:a0n w6 (fun k=>k < w6.heap.size∧k≠w.heap.size+1+1),W'=x.W) _ _ _
 simp only[a0h,a0m,List.getElem?_cons_zero,List.getElem?_cons_succ,Option.elim_some]
 repeat (gi_big_quiet_step (fail))
 refine wpQuietIn_nil ?_;refine a0c 4 (by kernel_rfl) rfl ?_;gi_wp2;refine⟨trivial,?_⟩;refine(callsIn_wide.2 (b9M (n*d') (n'*d) _ _ w6.drew HV3.out HV4.out (by omega) (by omega))).mono ?_;rintro e w7 ⟨v7,rfl,hv7,hb7⟩;have HV7:=b9W hv7;have HB7:=b9W (a0q hb7);clear hv7 hb7;gi_wp2;refine a0b (a0a HB7.out (fun k hk=>hk.1)) ?_;refine a0c 6 (by kernel_rfl) rfl ?_;gi_wp2;refine⟨trivial,?_⟩;refine(callsIn_wide.2 (a6x m _ (d*d') _ _ w7 HV7.out (HV5.out.below HB7.out) HD0.out (Nat.le_trans (a9m lx ly) (by omega)) (by omega))).mono ?_;rintro e w8 ⟨v8,rfl,hv8,hb8⟩;obtain⟨b8,N8,D8,A8,c8,A8',c8',rfl,hn8,hd8,HP8⟩:=a0r hv8;clear hv8;have hb78:Below w6.heap.size w6 w8:=HB7.out.trans (hb8.mono HB7.out.size);have hsz:=HS.out;obtain⟨HR8,r0,s0,r1,s1,r2,s2⟩:=a3q Q2.out hb78 (by omega);have HN8:=b9W hn8;have HD8:=b9W hd8;have HB78:=b9W hb78;clear hn8 hd8 hb8 hb78 hsz;gi_wp2;refine a0b (a0a HB78.out (fun k hk=>hk.1)) ?_;refine a0c 7 (by kernel_rfl) rfl ?_;gi_wp2;refine a0b (a0g fun k hk=>(a1f k hk.2).trans (HB78.out.block k hk.1)) ?_;refine a0i (by kernel_rfl) ?_;gi_wp2;have hsz:=HS.out;refine a15 rfl rfl (by simp) (set3 HR8.out) ⟨_,rfl,?_,?_⟩
 ·exact a2y HP8 (a01 (a0J HN8.out HR8.out) (a0J HD8.out HR8.out))
 ·refine a0t (g:=w.heap.size+1+1) (HB.out.trans ((a0f (HB6.out.trans (HB78.out.mono ?_))).mono ?_)) (by omega)
  ·exact HB6.out.size
  ·exact HB.out.size
theorem b6H(m m':Bool)(n d n' d':Nat)(v v':Value)(w:World)(h:a05 w v m n d)(h':a05 w v' m' n' d')(hd0:d*d'≠0)(hm:m≠m')(hlt:n*d' < n'*d)(l1:(toL n).length≤10000)(l2:(toL d).length≤10000)(l3:(toL n').length≤10000)(l4:(toL d').length≤10000) :
  Calls prog 190 #[v,v'] w fun e w'=>∃ v2,e=.returned v2∧a0C w' v2 (mkQ m' (n'*d - n*d') (d*d'))∧Below w.heap.size w w':=by
 obtain⟨An,cn,Ad,cd,rfl,hn,hd⟩:=h;obtain⟨An',cn',Ad',cd',rfl,hn',hd'⟩:=h';have HN:=b9W hn;have HD:=b9W hd;have HN':=b9W hn';have HD':=b9W hd';have lx:=Nat.le_trans (a0D n d') (show _≤20000 by omega);have ly:=Nat.le_trans (a0D n' d) (show _≤20000 by omega);have ld:=Nat.le_trans (a0D d d') (show _≤20000 by omega);have HD0:=b9W hd0;clear hn hd hn' hd' hd0;have hmm:(m==m')=false:=by rw[beq_eq_false_iff_ne];exact hm
 have hsg:decide (sgn (n*d') (n'*d) < 0)=true:=decide_eq_true (a4M.2 hlt);have HLT:=b9W hlt;clear hm hlt;refine(callsIn_wide (n:=3)).1 ?_;have h1:1≤3:=by omega
 have hmx:prog.follows .mixedOrders=true:=by kernel_rfl
 refine callsIn_of_wp func190 rfl trivial ?_ rfl
 simp only[ntmps190,List.size_toArray,List.length_cons,List.length_nil,Nat.reduceAdd,Nat.reduceSub,Array.replicate_succ,Array.replicate_zero,List.push_toArray,List.append_toArray,List.nil_append,List.cons_append]
 gi_upto_region 1 with fail
 obtain⟨b0,b1,b2,hB,hs⟩:=a5G w (.bool m) (.slice An (toL n).length cn) (.slice Ad (toL d).length cd) (.bool m') (.slice An' (toL n').length cn') (.slice Ad' (toL d').length cd');generalize ((w.alloc (.cells #[.bool m,.slice An (toL n).length cn,.slice Ad (toL d).length cd] 216)).alloc (.cells #[.bool m',.slice An' (toL n').length cn',.slice Ad' (toL d').length cd'] 216)).alloc zF=W at *;obtain⟨x0,x1,x2⟩:=a0j (S:=fun k=>k < W.heap.size∧k≠w.heap.size+1+1) b0 ⟨by omega,by omega⟩;obtain⟨y0,y1,y2⟩:=a0j (S:=fun k=>k < W.heap.size∧k≠w.heap.size+1+1) b1 ⟨by omega,by omega⟩;have HB:=b9W (a0x hB);have HS:=b9W hs;have P0:=b9W b0;have P1:=b9W b1;have P2:=b9W b2;clear b0 b1 b2 hB hs;refine a0o (a0R W (fun k=>k < W.heap.size∧k≠w.heap.size+1+1)) [0,1,2,3,5,6,7,8,10,11] [] hmx (by kernel_rfl) (a0g fun _ _=>rfl) ?_;change a0l _ _ _ _ _ _ _ _ (4+8) _ _ _;refine a0e [0,1,2,3,5,6,7,8] 4 _ _ (by kernel_rfl) ?_;change wpQuietIn _ _ _ _ (fun W'=>∃ x:a0n W (fun k=>k < W.heap.size∧k≠w.heap.size+1+1),W'=x.W) _ _ _
 simp only[a0h,a0m,List.getElem?_cons_zero,List.getElem?_cons_succ,Option.elim_some]
 repeat (gi_big_quiet_step (fail))
 refine wpQuietIn_nil ?_;refine a0c 4 (by kernel_rfl) rfl ?_;gi_wp2;refine⟨trivial,?_⟩;refine(callsIn_wide.2 (a2k n d' _ _ W.drew (HN.out.below HB.out) (HD'.out.below HB.out) (by omega) (by omega))).mono ?_;rintro e w3 ⟨v3,rfl,hv3,hb3⟩;obtain⟨A3,c3,rfl,_,_,_⟩:=id hv3;have HV3:=b9W hv3;have HB3:=b9W (a0q hb3);clear hv3 hb3;gi_wp2;refine a0b (a0a HB3.out (fun k hk=>hk.1)) ?_;refine a0c 9 (by kernel_rfl) rfl ?_;gi_wp2;refine⟨trivial,?_⟩;refine(callsIn_wide.2 (a2k n' d _ _ w3 (HN'.out.below (HB.out.trans ((a0f HB3.out).mono HB.out.size))) (HD.out.below (HB.out.trans ((a0f HB3.out).mono HB.out.size))) (by omega) (by omega))).mono ?_;rintro e w4 ⟨v4,rfl,hv4,hb4⟩;obtain⟨A4,c4,rfl,_,_,_⟩:=id hv4;have HV4:=b9W hv4;have HV3:=b9W (HV3.out.below hb4);have hB4:Below W.heap.size W w4:=HB3.out.trans (hb4.mono HB3.out.size);have HB4:=b9W hB4;clear hv4 hb4 hB4;gi_wp2;refine a0b (a0a HB4.out (fun k hk=>hk.1)) ?_;change a0l _ _ _ _ _ _ _ _ (0+2) _ _ _;refine a0e [10,11] 0 _ _ (by kernel_rfl) ?_;change wpQuietIn _ _ _ _ (fun W'=>∃ x:a0n W (fun k=>k < W.heap.size∧k≠w.heap.size+1+1),W'=x.W) _ _ _
 simp only[a0h,a0m,List.getElem?_cons_zero,List.getElem?_cons_succ,Option.elim_some]
 repeat (gi_big_quiet_step (fail))
 refine wpQuietIn_nil ?_;refine a0i (by kernel_rfl) ?_;clear x0 x1 x2 y0 y1 y2;have hsz:=HS.out;obtain⟨x0,x1,x2⟩:=a1u (P0.out.below HB4.out (by omega));obtain⟨y0,y1,y2⟩:=a1u (P1.out.below HB4.out (by omega));clear hsz
 gi_upto_region 3 with fail
 have HB40:=b9W (HB.out.trans ((a0f HB4.out).mono HB.out.size));refine⟨trivial,?_⟩;refine(callsIn_wide.2 (a2k d d' _ _ w4 (HD.out.below HB40.out) (HD'.out.below HB40.out) (by omega) (by omega))).mono ?_;rintro e w5 ⟨v5,rfl,hv5,hb5⟩;obtain⟨A5,c5,rfl,_,_,_⟩:=id hv5;have HV5:=b9W hv5;have HV3:=b9W (HV3.out.below hb5);have HV4:=b9W (HV4.out.below hb5);have hB5:Below W.heap.size W w5:=HB4.out.trans (hb5.mono HB4.out.size);have HB5:=b9W hB5;clear hv5 hb5 hB5 x0 x1 x2 y0 y1 y2
 gi_upto_region 4 with fail
 refine⟨trivial,?_⟩;refine(callsIn_wide.2 (a5l (n*d') (n'*d) _ _ w5 HV3.out HV4.out (by omega))).mono ?_;rintro e w6 ⟨rfl,hb6⟩;have HV3:=b9W (HV3.out.below hb6);have HV4:=b9W (HV4.out.below hb6);have HV5:=b9W (HV5.out.below hb6);have hB6:Below W.heap.size W w6:=HB5.out.trans (hb6.mono HB5.out.size);have HB6:=b9W hB6;clear hb6 hB6;have hsz:=HS.out;have Q0:=b9W (P0.out.below HB6.out (by omega));have Q1:=b9W (P1.out.below HB6.out (by omega));have Q2:=b9W (P2.out.below HB6.out (by omega));have h62:=HB6.out.size;clear hsz;obtain⟨x0,x1,x2⟩:=a1u Q0.out;obtain⟨y0,y1,y2⟩:=a1u Q1.out
 gi_upto_region 8 with fail
 clear x0 x1 x2 y0 y1 y2;have hsz:=HS.out;obtain⟨x0,x1,x2⟩:=a0j (S:=fun k=>k < w6.heap.size∧k≠w.heap.size+1+1) Q0.out ⟨by omega,by omega⟩;obtain⟨y0,y1,y2⟩:=a0j (S:=fun k=>k < w6.heap.size∧k≠w.heap.size+1+1) Q1.out ⟨by omega,by omega⟩;clear hsz;refine a0o (a0R w6 (fun k=>k < w6.heap.size∧k≠w.heap.size+1+1)) [0,1,2,3,5] [] hmx (by kernel_rfl) (a0g fun _ _=>rfl) ?_;change a0l _ _ _ _ _ _ _ _ (3+5) _ _ _;refine a0e [0,1,2,3,5] 3 _ _ (by kernel_rfl) ?_;change wpQuietIn _ _ _ _ (fun W'=>∃ x:a0n w6 (fun k=>k < w6.heap.size∧k≠w.heap.size+1+1),W'=x.W) _ _ _
 simp only[a0h,a0m,List.getElem?_cons_zero,List.getElem?_cons_succ,Option.elim_some]
 repeat (gi_big_quiet_step (fail))
 refine wpQuietIn_nil ?_;refine a0c 4 (by kernel_rfl) rfl ?_;gi_wp2;refine⟨trivial,?_⟩;refine(callsIn_wide.2 (b6M (n'*d) (n*d') _ _ w6.drew HV4.out HV3.out (Nat.le_of_lt HLT.out) (by omega))).mono ?_;rintro e w7 ⟨v7,rfl,hv7,hb7⟩;have HV7:=b9W hv7;have HB7:=b9W (a0q hb7);clear hv7 hb7;gi_wp2;refine a0b (a0a HB7.out (fun k hk=>hk.1)) ?_;refine a0c 6 (by kernel_rfl) rfl ?_;gi_wp2;refine⟨trivial,?_⟩;refine(callsIn_wide.2 (a6x m' _ (d*d') _ _ w7 HV7.out (HV5.out.below HB7.out) HD0.out (Nat.le_trans (a0Z (Nat.sub_le _ _)) (by omega)) (by omega))).mono ?_;rintro e w8 ⟨v8,rfl,hv8,hb8⟩;obtain⟨b8,N8,D8,A8,c8,A8',c8',rfl,hn8,hd8,HP8⟩:=a0r hv8;clear hv8;have hb78:Below w6.heap.size w6 w8:=HB7.out.trans (hb8.mono HB7.out.size);have hsz:=HS.out;obtain⟨HR8,r0,s0,r1,s1,r2,s2⟩:=a3q Q2.out hb78 (by omega);have HN8:=b9W hn8;have HD8:=b9W hd8;have HB78:=b9W hb78;clear hn8 hd8 hb8 hb78 hsz;gi_wp2;refine a0b (a0a HB78.out (fun k hk=>hk.1)) ?_;refine a0c 7 (by kernel_rfl) rfl ?_;gi_wp2;refine a0b (a0g fun k hk=>(a1f k hk.2).trans (HB78.out.block k hk.1)) ?_;refine a0i (by kernel_rfl) ?_;gi_wp2;have hsz:=HS.out;refine a15 rfl rfl (by simp) (set3 HR8.out) ⟨_,rfl,?_,?_⟩
 ·exact a2y HP8 (a01 (a0J HN8.out HR8.out) (a0J HD8.out HR8.out))
 ·refine a0t (g:=w.heap.size+1+1) (HB.out.trans ((a0f (HB6.out.trans (HB78.out.mono ?_))).mono ?_)) (by omega)
  ·exact HB6.out.size
  ·exact HB.out.size
theorem b5V(m m':Bool)(n d n' d':Nat)(v v':Value)(w:World)(h:a05 w v m n d)(h':a05 w v' m' n' d')(hd0:d*d'≠0)(hm:m≠m')(hlt:¬ n*d' < n'*d)(l1:(toL n).length≤10000)(l2:(toL d).length≤10000)(l3:(toL n').length≤10000)(l4:(toL d').length≤10000) :
  Calls prog 190 #[v,v'] w fun e w'=>∃ v2,e=.returned v2∧a0C w' v2 (mkQ m (n*d' - n'*d) (d*d'))∧Below w.heap.size w w':=by
 obtain⟨An,cn,Ad,cd,rfl,hn,hd⟩:=h;obtain⟨An',cn',Ad',cd',rfl,hn',hd'⟩:=h';have HN:=b9W hn;have HD:=b9W hd;have HN':=b9W hn';have HD':=b9W hd';have lx:=Nat.le_trans (a0D n d') (show _≤20000 by omega);have ly:=Nat.le_trans (a0D n' d) (show _≤20000 by omega);have ld:=Nat.le_trans (a0D d d') (show _≤20000 by omega);have HD0:=b9W hd0;clear hn hd hn' hd' hd0;have hmm:(m==m')=false:=by rw[beq_eq_false_iff_ne];exact hm
 have hsg:decide (sgn (n*d') (n'*d) < 0)=false:=decide_eq_false (fun h=>hlt (a4M.1 h));have HLT:=b9W hlt;clear hm hlt;refine(callsIn_wide (n:=3)).1 ?_;have h1:1≤3:=by omega
 have hmx:prog.follows .mixedOrders=true:=by kernel_rfl
 refine callsIn_of_wp func190 rfl trivial ?_ rfl
 simp only[ntmps190,List.size_toArray,List.length_cons,List.length_nil,Nat.reduceAdd,Nat.reduceSub,Array.replicate_succ,Array.replicate_zero,List.push_toArray,List.append_toArray,List.nil_append,List.cons_append]
 gi_upto_region 1 with fail
 obtain⟨b0,b1,b2,hB,hs⟩:=a5G w (.bool m) (.slice An (toL n).length cn) (.slice Ad (toL d).length cd) (.bool m') (.slice An' (toL n').length cn') (.slice Ad' (toL d').length cd');generalize ((w.alloc (.cells #[.bool m,.slice An (toL n).length cn,.slice Ad (toL d).length cd] 216)).alloc (.cells #[.bool m',.slice An' (toL n').length cn',.slice Ad' (toL d').length cd'] 216)).alloc zF=W at *;obtain⟨x0,x1,x2⟩:=a0j (S:=fun k=>k < W.heap.size∧k≠w.heap.size+1+1) b0 ⟨by omega,by omega⟩;obtain⟨y0,y1,y2⟩:=a0j (S:=fun k=>k < W.heap.size∧k≠w.heap.size+1+1) b1 ⟨by omega,by omega⟩;have HB:=b9W (a0x hB);have HS:=b9W hs;have P0:=b9W b0;have P1:=b9W b1;have P2:=b9W b2;clear b0 b1 b2 hB hs;refine a0o (a0R W (fun k=>k < W.heap.size∧k≠w.heap.size+1+1)) [0,1,2,3,5,6,7,8,10,11] [] hmx (by kernel_rfl) (a0g fun _ _=>rfl) ?_;change a0l _ _ _ _ _ _ _ _ (4+8) _ _ _;refine a0e [0,1,2,3,5,6,7,8] 4 _ _ (by kernel_rfl) ?_;change wpQuietIn _ _ _ _ (fun W'=>∃ x:a0n W (fun k=>k < W.heap.size∧k≠w.heap.size+1+1),W'=x.W) _ _ _
 simp only[a0h,a0m,List.getElem?_cons_zero,List.getElem?_cons_succ,Option.elim_some]
 repeat (gi_big_quiet_step (fail))
 refine wpQuietIn_nil ?_;refine a0c 4 (by kernel_rfl) rfl ?_;gi_wp2;refine⟨trivial,?_⟩;refine(callsIn_wide.2 (a2k n d' _ _ W.drew (HN.out.below HB.out) (HD'.out.below HB.out) (by omega) (by omega))).mono ?_;rintro e w3 ⟨v3,rfl,hv3,hb3⟩;obtain⟨A3,c3,rfl,_,_,_⟩:=id hv3;have HV3:=b9W hv3;have HB3:=b9W (a0q hb3);clear hv3 hb3;gi_wp2;refine a0b (a0a HB3.out (fun k hk=>hk.1)) ?_;refine a0c 9 (by kernel_rfl) rfl ?_;gi_wp2;refine⟨trivial,?_⟩;refine(callsIn_wide.2 (a2k n' d _ _ w3 (HN'.out.below (HB.out.trans ((a0f HB3.out).mono HB.out.size))) (HD.out.below (HB.out.trans ((a0f HB3.out).mono HB.out.size))) (by omega) (by omega))).mono ?_;rintro e w4 ⟨v4,rfl,hv4,hb4⟩;obtain⟨A4,c4,rfl,_,_,_⟩:=id hv4;have HV4:=b9W hv4;have HV3:=b9W (HV3.out.below hb4);have hB4:Below W.heap.size W w4:=HB3.out.trans (hb4.mono HB3.out.size);have HB4:=b9W hB4;clear hv4 hb4 hB4;gi_wp2;refine a0b (a0a HB4.out (fun k hk=>hk.1)) ?_;change a0l _ _ _ _ _ _ _ _ (0+2) _ _ _;refine a0e [10,11] 0 _ _ (by kernel_rfl) ?_;change wpQuietIn _ _ _ _ (fun W'=>∃ x:a0n W (fun k=>k < W.heap.size∧k≠w.heap.size+1+1),W'=x.W) _ _ _
 simp only[a0h,a0m,List.getElem?_cons_zero,List.getElem?_cons_succ,Option.elim_some]
 repeat (gi_big_quiet_step (fail))
 refine wpQuietIn_nil ?_;refine a0i (by kernel_rfl) ?_;clear x0 x1 x2 y0 y1 y2;have hsz:=HS.out;obtain⟨x0,x1,x2⟩:=a1u (P0.out.below HB4.out (by omega));obtain⟨y0,y1,y2⟩:=a1u (P1.out.below HB4.out (by omega));clear hsz
 gi_upto_region 3 with fail
 have HB40:=b9W (HB.out.trans ((a0f HB4.out).mono HB.out.size));refine⟨trivial,?_⟩;refine(callsIn_wide.2 (a2k d d' _ _ w4 (HD.out.below HB40.out) (HD'.out.below HB40.out) (by omega) (by omega))).mono ?_;rintro e w5 ⟨v5,rfl,hv5,hb5⟩;obtain⟨A5,c5,rfl,_,_,_⟩:=id hv5;have HV5:=b9W hv5;have HV3:=b9W (HV3.out.below hb5);have HV4:=b9W (HV4.out.below hb5);have hB5:Below W.heap.size W w5:=HB4.out.trans (hb5.mono HB4.out.size);have HB5:=b9W hB5;clear hv5 hb5 hB5 x0 x1 x2 y0 y1 y2
 gi_upto_region 4 with fail
 refine⟨trivial,?_⟩;refine(callsIn_wide.2 (a5l (n*d') (n'*d) _ _ w5 HV3.out HV4.out (by omega))).mono ?_;rintro e w6 ⟨rfl,hb6⟩;have HV3:=b9W (HV3.out.below hb6);have HV4:=b9W (HV4.out.below hb6);have HV5:=b9W (HV5.out.below hb6);have hB6:Below W.heap.size W w6:=HB5.out.trans (hb6.mono HB5.out.size);have HB6:=b9W hB6;clear hb6 hB6;have hsz:=HS.out;have Q0:=b9W (P0.out.below HB6.out (by omega));have Q1:=b9W (P1.out.below HB6.out (by omega));have Q2:=b9W (P2.out.below HB6.out (by omega));have h62:=HB6.out.size;clear hsz;obtain⟨x0,x1,x2⟩:=a1u Q0.out;obtain⟨y0,y1,y2⟩:=a1u Q1.out
 gi_upto_region 4 with fail
 clear x0 x1 x2 y0 y1 y2;have hsz:=HS.out;obtain⟨x0,x1,x2⟩:=a0j (S:=fun k=>k < w6.heap.size∧k≠w.heap.size+1+1) Q0.out ⟨by omega,by omega⟩;obtain⟨y0,y1,y2⟩:=a0j (S:=fun k=>k < w6.heap.size∧k≠w.heap.size+1+1) Q1.out ⟨by omega,by omega⟩;clear hsz;refine a0o (a0R w6 (fun k=>k < w6.heap.size∧k≠w.heap.size+1+1)) [0,1,2,3,5] [] hmx (by kernel_rfl) (a0g fun _ _=>rfl) ?_;change a0l _ _ _ _ _ _ _ _ (3+5) _ _ _;refine a0e [0,1,2,3,5] 3 _ _ (by kernel_rfl) ?_;change wpQuietIn _ _ _ _ (fun W'=>∃ x:a0n w6 (fun k=>k < w6.heap.size∧k≠w.heap.size+1+1),W'=x.W) _ _ _
 simp only[a0h,a0m,List.getElem?_cons_zero,List.getElem?_cons_succ,Option.elim_some]
 repeat (gi_big_quiet_step (fail))
 refine wpQuietIn_nil ?_;refine a0c 4 (by kernel_rfl) rfl ?_;gi_wp2;refine⟨trivial,?_⟩;refine(callsIn_wide.2 (b6M (n*d') (n'*d) _ _ w6.drew HV3.out HV4.out (Nat.le_of_not_lt HLT.out) (by omega))).mono ?_;rintro e w7 ⟨v7,rfl,hv7,hb7⟩;have HV7:=b9W hv7;have HB7:=b9W (a0q hb7);clear hv7 hb7;gi_wp2;refine a0b (a0a HB7.out (fun k hk=>hk.1)) ?_;refine a0c 6 (by kernel_rfl) rfl ?_;gi_wp2;refine⟨trivial,?_⟩;refine(callsIn_wide.2 (a6x m _ (d*d') _ _ w7 HV7.out (HV5.out.below HB7.out) HD0.out (Nat.le_trans (a0Z (Nat.sub_le _ _)) (by omega)) (by omega))).mono ?_;rintro e w8 ⟨v8,rfl,hv8,hb8⟩;obtain⟨b8,N8,D8,A8,c8,A8',c8',rfl,hn8,hd8,HP8⟩:=a0r hv8;clear hv8;have hb78:Below w6.heap.size w6 w8:=HB7.out.trans (hb8.mono HB7.out.size);have hsz:=HS.out;obtain⟨HR8,r0,s0,r1,s1,r2,s2⟩:=a3q Q2.out hb78 (by omega);have HN8:=b9W hn8;have HD8:=b9W hd8;have HB78:=b9W hb78;clear hn8 hd8 hb8 hb78 hsz;gi_wp2;refine a0b (a0a HB78.out (fun k hk=>hk.1)) ?_;refine a0c 7 (by kernel_rfl) rfl ?_;gi_wp2;refine a0b (a0g fun k hk=>(a1f k hk.2).trans (HB78.out.block k hk.1)) ?_;refine a0i (by kernel_rfl) ?_;gi_wp2;have hsz:=HS.out;refine a15 rfl rfl (by simp) (set3 HR8.out) ⟨_,rfl,?_,?_⟩
 ·exact a2y HP8 (a01 (a0J HN8.out HR8.out) (a0J HD8.out HR8.out))
 ·refine a0t (g:=w.heap.size+1+1) (HB.out.trans ((a0f (HB6.out.trans (HB78.out.mono ?_))).mono ?_)) (by omega)
  ·exact HB6.out.size
  ·exact HB.out.size
theorem b3u(a b:Rat)(v v':Value)(w:World)(h:a0C w v a)(h':a0C w v' b)(l1:(toL (nm a)).length≤10000)(l2:(toL a.den).length≤10000)(l3:(toL (nm b)).length≤10000)(l4:(toL b.den).length≤10000) :
  Calls prog 190 #[v,v'] w fun e w'=>∃ v2,e=.returned v2∧a0C w' v2 (a+b)∧Below w.heap.size w w':=by
 have hd0:a.den*b.den≠0:=Nat.ne_of_gt (Nat.mul_pos (den_pos a) (den_pos b))
 by_cases hm:ng a=ng b
 ·rw[b0k hm]
  exact b4U _ _ _ _ _ _ _ _ _ h h' hd0 hm l1 l2 l3 l4
 ·by_cases hlt:nm a*b.den < nm b*a.den
  ·rw[a9U hm hlt]
   exact b6H _ _ _ _ _ _ _ _ _ h h' hd0 hm hlt l1 l2 l3 l4
  ·rw[b0F hm hlt]
   exact b5V _ _ _ _ _ _ _ _ _ h h' hd0 hm hlt l1 l2 l3 l4
theorem b1i(a b:Rat)(v v':Value)(w:World)(h:a0C w v a)(h':a0C w v' b)(l1:(toL (nm a)).length≤10000)(l2:(toL a.den).length≤10000)(l3:(toL (nm b)).length≤10000)(l4:(toL b.den).length≤10000) :
  Calls prog 206 #[v,v'] w fun e w'=>∃ v2,e=.returned v2∧a0C w' v2 (a*b)∧Below w.heap.size w w':=by
 have hd0:a.den*b.den≠0:=Nat.ne_of_gt (Nat.mul_pos (den_pos a) (den_pos b));rw[a7T];exact b8c _ _ _ _ _ _ _ _ _ h h' hd0 l1 l2 l3 l4
theorem b6s(a:Rat)(v:Value)(w:World)(h:a0C w v a) :
  Calls prog 258 #[v] w fun e w'=>∃ v',e=.returned v'∧a0C w' v' (-a)∧Below w.heap.size w w':=by
 refine(b8a _ _ _ v w h).mono ?_;rintro e w' ⟨v',rfl,hp,hb⟩;refine⟨v',rfl,?_,hb⟩;obtain⟨h1,h2,h3⟩:=a2J a;unfold a0C;rw[h1,h2,h3,show decide (nm a≠0)=!decide (nm a=0) by by_cases h0:nm a=0<;>simp[h0]];exact hp
theorem b1r(a:Rat)(v:Value)(w:World)(h:a0C w v a)(h0:a≠0) :
  Calls prog 215 #[v] w fun e w'=>∃ v',e=.returned v'∧a0C w' v' a⁻¹∧Below w.heap.size w w':=by
 refine(b61 _ _ _ v w h).mono ?_;rintro e w' ⟨v',rfl,hp,hb⟩;refine⟨v',rfl,?_,hb⟩;obtain⟨h1,h2,h3⟩:=a2G h0;unfold a0C;rw[h1,h2,h3];exact hp
theorem fsub_any(a b:Rat)(v v':Value)(w:World)(h:a0C w v a)(h':a0C w v' b)(l1:(toL (nm a)).length≤10000)(l2:(toL a.den).length≤10000)(l3:(toL (nm b)).length≤10000)(l4:(toL b.den).length≤10000) :
  Calls prog 200 #[v,v'] w fun e w'=>∃ v2,e=.returned v2∧a0C w' v2 (a+-b)∧Below w.heap.size w w':=by
 obtain⟨b0',N0,D0,An,cn,Ad,cd,rfl,hn,hd,HP⟩:=a0r h;obtain⟨b0'',N0',D0',An',cn',Ad',cd',rfl,hn',hd',HP'⟩:=a0r h';have HN:=b9W hn;have HD:=b9W hd;have HN':=b9W hn';have HD':=b9W hd';have HH:=b9W h;have HH':=b9W h';have HL:=b9W (And.intro l1 (And.intro l2 (And.intro l3 l4)));clear hn hd hn' hd' h h' l1 l2 l3 l4;refine(callsIn_wide (n:=3)).1 ?_;have h1:1≤3:=by omega
 have hmx:prog.follows .mixedOrders=true:=by kernel_rfl
 refine callsIn_of_wp func200 rfl trivial ?_ rfl
 simp only[ntmps200,List.size_toArray,List.length_cons,List.length_nil,Nat.reduceAdd,Nat.reduceSub,Array.replicate_succ,Array.replicate_zero,List.push_toArray,List.append_toArray,List.nil_append,List.cons_append]
 gi_upto_region 1 with fail
 obtain⟨b0,b1,b2,hB,hs⟩:=a5G w (.bool b0') (.slice An (toL N0).length cn) (.slice Ad (toL D0).length cd) (.bool b0'') (.slice An' (toL N0').length cn') (.slice Ad' (toL D0').length cd');generalize ((w.alloc (.cells #[.bool b0',.slice An (toL N0).length cn,.slice Ad (toL D0).length cd] 216)).alloc (.cells #[.bool b0'',.slice An' (toL N0').length cn',.slice Ad' (toL D0').length cd'] 216)).alloc zF=W at *;obtain⟨x0,x1,x2⟩:=a0j (S:=fun k=>k < W.heap.size∧k≠w.heap.size+1+1) b0 ⟨by omega,by omega⟩;obtain⟨y0,y1,y2⟩:=a0j (S:=fun k=>k < W.heap.size∧k≠w.heap.size+1+1) b1 ⟨by omega,by omega⟩;have HB:=b9W (a0x hB);have HS:=b9W hs;have P2:=b9W b2;clear b0 b1 b2 hB hs;refine a0o (a0R W (fun k=>k < W.heap.size∧k≠w.heap.size+1+1)) [0,1] [] hmx (by kernel_rfl) (a0g fun _ _=>rfl) ?_;change a0l _ _ _ _ _ _ _ _ (3+2) _ _ _;refine a0e [0,1] 3 _ _ (by kernel_rfl) ?_;change wpQuietIn _ _ _ _ (fun W'=>∃ x:a0n W (fun k=>k < W.heap.size∧k≠w.heap.size+1+1),W'=x.W) _ _ _
 simp only[a0h,a0m,List.getElem?_cons_zero,List.getElem?_cons_succ,Option.elim_some]
 repeat (gi_big_quiet_step (fail))
 refine wpQuietIn_nil ?_;refine a0c 2 (by kernel_rfl) rfl ?_;gi_wp2;refine⟨trivial,?_⟩;refine(callsIn_wide.2 (b6s b _ W.drew (HH'.out.below HB.out))).mono ?_;rintro e w3 ⟨v3,rfl,hv3,hb3⟩;have HV3:=b9W hv3;have HB3:=b9W (a0q hb3);clear hv3 hb3;gi_wp2;refine a0b (a0a HB3.out (fun k hk=>hk.1)) ?_;refine a0c 3 (by kernel_rfl) rfl ?_;gi_wp2;have HB30:=b9W (HB.out.trans ((a0f HB3.out).mono HB.out.size));refine⟨trivial,?_⟩;refine(callsIn_wide.2 (b3u a (-b) _ _ w3 (HH.out.below HB30.out) HV3.out HL.out.1 HL.out.2.1 (by rw[(a2J b).2.1];exact HL.out.2.2.1) (by rw[(a2J b).2.2];exact HL.out.2.2.2))).mono ?_;rintro e w4 ⟨v4,rfl,hv4,hb4⟩;obtain⟨b8,N8,D8,A8,c8,A8',c8',rfl,hn8,hd8,HP8⟩:=a0r hv4;clear hv4;have hb34:Below W.heap.size W w4:=HB3.out.trans (hb4.mono HB3.out.size);have hsz:=HS.out;obtain⟨HR8,r0,s0,r1,s1,r2,s2⟩:=a3q P2.out hb34 (by omega);have HN8:=b9W hn8;have HD8:=b9W hd8;have HB34:=b9W hb34;clear hn8 hd8 hb4 hb34 hsz;gi_wp2;refine a0b (a0a HB34.out (fun k hk=>hk.1)) ?_;refine a0c 4 (by kernel_rfl) rfl ?_;gi_wp2;refine a0b (a0g fun k hk=>(a1f k hk.2).trans (HB34.out.block k hk.1)) ?_;refine a0i (by kernel_rfl) ?_;gi_wp2;have hsz:=HS.out;refine a15 rfl rfl (by simp) (set3 HR8.out) ⟨_,rfl,?_,?_⟩
 ·exact a2y HP8 (a01 (a0J HN8.out HR8.out) (a0J HD8.out HR8.out))
 ·refine a0t (g:=w.heap.size+1+1) (HB.out.trans ((a0f HB34.out).mono ?_)) (by omega)
  exact HB.out.size
theorem b8g(a b:Rat)(v v':Value)(w:World)(h:a0C w v a)(h':a0C w v' b)(HZ:Hid (b≠0))(l1:(toL (nm a)).length≤10000)(l2:(toL a.den).length≤10000)(l3:(toL (nm b)).length≤10000)(l4:(toL b.den).length≤10000) :
  Calls prog 212 #[v,v'] w fun e w'=>∃ v2,e=.returned v2∧a0C w' v2 (a*b⁻¹)∧Below w.heap.size w w':=by
 obtain⟨b0',N0,D0,An,cn,Ad,cd,rfl,hn,hd,HP⟩:=a0r h;obtain⟨b0'',N0',D0',An',cn',Ad',cd',rfl,hn',hd',HP'⟩:=a0r h';have HN:=b9W hn;have HD:=b9W hd;have HN':=b9W hn';have HD':=b9W hd';have HH:=b9W h;have HH':=b9W h';have HL:=b9W (And.intro l1 (And.intro l2 (And.intro l3 l4)));clear hn hd hn' hd' h h' l1 l2 l3 l4;refine(callsIn_wide (n:=3)).1 ?_;have h1:1≤3:=by omega
 have hmx:prog.follows .mixedOrders=true:=by kernel_rfl
 refine callsIn_of_wp func212 rfl trivial ?_ rfl
 simp only[ntmps212,List.size_toArray,List.length_cons,List.length_nil,Nat.reduceAdd,Nat.reduceSub,Array.replicate_succ,Array.replicate_zero,List.push_toArray,List.append_toArray,List.nil_append,List.cons_append]
 gi_upto_region 1 with fail
 obtain⟨b0,b1,b2,hB,hs⟩:=a5G w (.bool b0') (.slice An (toL N0).length cn) (.slice Ad (toL D0).length cd) (.bool b0'') (.slice An' (toL N0').length cn') (.slice Ad' (toL D0').length cd');generalize ((w.alloc (.cells #[.bool b0',.slice An (toL N0).length cn,.slice Ad (toL D0).length cd] 216)).alloc (.cells #[.bool b0'',.slice An' (toL N0').length cn',.slice Ad' (toL D0').length cd'] 216)).alloc zF=W at *;obtain⟨x0,x1,x2⟩:=a0j (S:=fun k=>k < W.heap.size∧k≠w.heap.size+1+1) b0 ⟨by omega,by omega⟩;obtain⟨y0,y1,y2⟩:=a0j (S:=fun k=>k < W.heap.size∧k≠w.heap.size+1+1) b1 ⟨by omega,by omega⟩;have HB:=b9W (a0x hB);have HS:=b9W hs;have P2:=b9W b2;clear b0 b1 b2 hB hs;refine a0o (a0R W (fun k=>k < W.heap.size∧k≠w.heap.size+1+1)) [0,1] [] hmx (by kernel_rfl) (a0g fun _ _=>rfl) ?_;change a0l _ _ _ _ _ _ _ _ (3+2) _ _ _;refine a0e [0,1] 3 _ _ (by kernel_rfl) ?_;change wpQuietIn _ _ _ _ (fun W'=>∃ x:a0n W (fun k=>k < W.heap.size∧k≠w.heap.size+1+1),W'=x.W) _ _ _
 simp only[a0h,a0m,List.getElem?_cons_zero,List.getElem?_cons_succ,Option.elim_some]
 repeat (gi_big_quiet_step (fail))
 refine wpQuietIn_nil ?_;refine a0c 2 (by kernel_rfl) rfl ?_;gi_wp2;refine⟨trivial,?_⟩;refine(callsIn_wide.2 (b1r b _ W.drew (HH'.out.below HB.out) HZ.out)).mono ?_;rintro e w3 ⟨v3,rfl,hv3,hb3⟩;have HV3:=b9W hv3;have HB3:=b9W (a0q hb3);clear hv3 hb3;gi_wp2;refine a0b (a0a HB3.out (fun k hk=>hk.1)) ?_;refine a0c 3 (by kernel_rfl) rfl ?_;gi_wp2;have HB30:=b9W (HB.out.trans ((a0f HB3.out).mono HB.out.size));refine⟨trivial,?_⟩;refine(callsIn_wide.2 (b1i a b⁻¹ _ _ w3 (HH.out.below HB30.out) HV3.out HL.out.1 HL.out.2.1 (by rw[(a2G HZ.out).2.1];exact HL.out.2.2.2) (by rw[(a2G HZ.out).2.2];exact HL.out.2.2.1))).mono ?_;rintro e w4 ⟨v4,rfl,hv4,hb4⟩;obtain⟨b8,N8,D8,A8,c8,A8',c8',rfl,hn8,hd8,HP8⟩:=a0r hv4;clear hv4;have hb34:Below W.heap.size W w4:=HB3.out.trans (hb4.mono HB3.out.size);have hsz:=HS.out;obtain⟨HR8,r0,s0,r1,s1,r2,s2⟩:=a3q P2.out hb34 (by omega);have HN8:=b9W hn8;have HD8:=b9W hd8;have HB34:=b9W hb34;clear hn8 hd8 hb4 hb34 hsz;gi_wp2;refine a0b (a0a HB34.out (fun k hk=>hk.1)) ?_;refine a0c 4 (by kernel_rfl) rfl ?_;gi_wp2;refine a0b (a0g fun k hk=>(a1f k hk.2).trans (HB34.out.block k hk.1)) ?_;refine a0i (by kernel_rfl) ?_;gi_wp2;have hsz:=HS.out;refine a15 rfl rfl (by simp) (set3 HR8.out) ⟨_,rfl,?_,?_⟩
 ·exact a2y HP8 (a01 (a0J HN8.out HR8.out) (a0J HD8.out HR8.out))
 ·refine a0t (g:=w.heap.size+1+1) (HB.out.trans ((a0f HB34.out).mono ?_)) (by omega)
  exact HB.out.size
end Go.Proofs.YtigapglmipmbeaaGreatDoor
namespace Go.Proofs.YtigapglmipmbeaaGreatDoor
open Go.RowKit Go.Shelf
open Lim
def resN(x:List UInt8 × Nat):Value:=.tuple #[.string ⟨x.1.toArray⟩,.int .i64 (x.2:Int)]
theorem a1g{q:Rat}(h:Sz maxD q):(toL (nm q)).length≤445∧(toL q.den).length≤445:=(h.mono (show maxD≤9*445 by unfold maxD;omega)).limbs
theorem a3G{k:Nat}{q:Rat}(h:Sz k q)(hk:k≤9*40000):(toL (nm q)).length≤40000∧(toL q.den).length≤40000:=(h.mono hk).limbs
def divQ(p q:Rat):List UInt8 × Nat:=if q=0 then ([],6) else outQ (p*q⁻¹)
theorem a8G(F:FuncId)(hrun:Runs F)(g:Rat→Rat→List UInt8 × Nat)(a b:ByteArray)(w:World)(ha:a.size≤270000)(hb:b.size≤270000)(hr:Res w)
  (hF:∀ p q v v' w',Res w'→a0C w' v p→a0C w' v' q→Sz maxD p→Sz maxD q→Calls prog F #[v,v'] w' fun e w''=>e=.returned (resN (g p q))∧Below w'.heap.size w' w'') :
  Calls prog 188 #[.string a,.string b,.func (.func F) #[] #[]] w fun e w'=>e=.returned (resN (twoQ g a.data.toList b.data.toList))∧Below w.heap.size w w':=by
 refine(both_any F hrun (fun p q=>(.string ⟨(g p q).1.toArray⟩,((g p q).2:Int))) a b w ha hb hr (fun v v' w' _ hr' hv hv' h1 h2=>hF _ _ v v' w' hr' hv hv' (a17 h1) (a17 h2))).mono ?_;rintro e w' ⟨rfl,hB⟩;refine⟨?_,hB⟩;unfold twoQ resN
 split
 ·rfl
 ·split<;>rfl
theorem b5B(F:FuncId)(hrun:Runs F)(caps:Array Value)(g:Rat→List UInt8 × Nat)(a:ByteArray)(w:World)(ha:a.size≤270000)(hr:Res w)
  (hF:∀ p v w',Below w.heap.size w w'→Res w'→a0C w' v p→Sz maxD p→Calls prog F (#[v]++caps) w' fun e w''=>e=.returned (resN (g p))∧Below w'.heap.size w' w'') :
  Calls prog 213 #[.string a,.func (.func F) #[] caps] w fun e w'=>e=.returned (resN (oneQ g a.data.toList))∧Below w.heap.size w w':=by
 by_cases h1:errQ a.data.toList=0
 ·unfold oneQ
  rw[if_neg (by omega)];exact with_ok F hrun caps (.string ⟨(g (valQ a.data.toList)).1.toArray⟩) _ a w ha hr h1 (fun v w' hb hr' hv=>hF _ v w' hb hr' hv (a17 h1))
 ·unfold oneQ
  rw[if_pos h1];exact with_err a _ w ha hr h1
theorem b7Y:Runs 189:=a1_ func189 (by kernel_rfl) (by kernel_rfl)
theorem b7z(p q:Rat)(v v':Value)(w:World)(hr:Res w)(hv:a0C w v p)(hv':a0C w v' q)(sp:Sz maxD p)(sq:Sz maxD q) :
  Calls prog 189 #[v,v'] w fun e w'=>e=.returned (resN (outQ (p+q)))∧Below w.heap.size w w':=by
 obtain⟨lp,lp'⟩:=a1g sp;obtain⟨lq,lq'⟩:=a1g sq;obtain⟨lr,lr'⟩:=a3G (sp.add sq) (by unfold maxD;omega);obtain⟨bq,N,D,A,c,A',c',rfl,hn,hd,HQ⟩:=a0r hv;obtain⟨bq',N',D',B,d,B',d',rfl,hn',hd',HQ'⟩:=a0r hv';have HX:=b9W (a0d (a0d (Below.refl w.heap.size w) (.cells #[.bool bq,.slice A (toL N).length c,.slice A' (toL D).length c'] 216)) (.cells #[.bool bq',.slice B (toL N').length d,.slice B' (toL D').length d'] 216));have HF:=b9W (b3u p q _ _ _ (hv.below HX.out) (hv'.below HX.out) (by omega) (by omega) (by omega) (by omega));have HN:=b9W (fun v w hv hr=>b0A (p+q) v w hv hr lr lr');have HR:=b9W (hr.below HX.out);generalize outQ (p+q)=r at HN ⊢;clear hr hv hv' hn hd hn' hd' sp sq lp lp' lq lq' lr lr'
 go_enter func189,ntmps189
 go_wp2_with (first
  | (go_at_call 190;refine HF.out.mono ?_;rintro e w1 ⟨v1,rfl,hv1,hb1⟩;have HV1:=b9W hv1;have HB1:=b9W (HX.out.trans (hb1.mono HX.out.size));have HR1:=b9W (HR.out.below hb1);clear hv1 hb1)
  | (go_at_call 191;refine(HN.out _ _ HV1.out HR1.out).mono ?_;rintro e w2 ⟨rfl,hb2⟩;have HB2:=b9W (HB1.out.trans (hb2.mono HB1.out.size));clear hb2))
 refine bodyPost_ret (results_tmp2 rfl _ _ _) rfl ?_;exact⟨rfl,HB2.out⟩
theorem b4f(a b:ByteArray)(w:World)(ha:a.size≤270000)(hb:b.size≤270000)(hr:Res w) :
  Calls prog 107 #[.string a,.string b] w fun e w'=>e=.returned (resN (twoQ (fun p q=>outQ (p+q)) a.data.toList b.data.toList))∧Below w.heap.size w w':=by
 have HB:=b9W (a8G 189 b7Y (fun p q=>outQ (p+q)) a b w ha hb hr (fun p q v v' w' hr' hv hv' sp sq=>b7z p q v v' w' hr' hv hv' sp sq));generalize twoQ (fun p q=>outQ (p+q)) a.data.toList b.data.toList=r at HB ⊢;clear hr
 go_enter func107,ntmps107
 go_wp2_with (go_at_call 188;refine HB.out.mono ?_;rintro e w2 ⟨rfl,hb2⟩;have HB2:=b9W hb2;clear hb2;unfold resN)
 refine bodyPost_ret (results_tmp2 rfl _ _ _) rfl ?_;exact⟨rfl,HB2.out⟩
theorem b8y:Runs 205:=a1_ func205 (by kernel_rfl) (by kernel_rfl)
theorem b7d(p q:Rat)(v v':Value)(w:World)(hr:Res w)(hv:a0C w v p)(hv':a0C w v' q)(sp:Sz maxD p)(sq:Sz maxD q) :
  Calls prog 205 #[v,v'] w fun e w'=>e=.returned (resN (outQ (p*q)))∧Below w.heap.size w w':=by
 obtain⟨lp,lp'⟩:=a1g sp;obtain⟨lq,lq'⟩:=a1g sq;obtain⟨lr,lr'⟩:=a3G (sp.mul sq) (by unfold maxD;omega);obtain⟨bq,N,D,A,c,A',c',rfl,hn,hd,HQ⟩:=a0r hv;obtain⟨bq',N',D',B,d,B',d',rfl,hn',hd',HQ'⟩:=a0r hv';have HX:=b9W (a0d (a0d (Below.refl w.heap.size w) (.cells #[.bool bq,.slice A (toL N).length c,.slice A' (toL D).length c'] 216)) (.cells #[.bool bq',.slice B (toL N').length d,.slice B' (toL D').length d'] 216));have HF:=b9W (b1i p q _ _ _ (hv.below HX.out) (hv'.below HX.out) (by omega) (by omega) (by omega) (by omega));have HN:=b9W (fun v w hv hr=>b0A (p*q) v w hv hr lr lr');have HR:=b9W (hr.below HX.out);generalize outQ (p*q)=r at HN ⊢;clear hr hv hv' hn hd hn' hd' sp sq lp lp' lq lq' lr lr'
 go_enter func205,ntmps205
 go_wp2_with (first
  | (go_at_call 206;refine HF.out.mono ?_;rintro e w1 ⟨v1,rfl,hv1,hb1⟩;have HV1:=b9W hv1;have HB1:=b9W (HX.out.trans (hb1.mono HX.out.size));have HR1:=b9W (HR.out.below hb1);clear hv1 hb1)
  | (go_at_call 191;refine(HN.out _ _ HV1.out HR1.out).mono ?_;rintro e w2 ⟨rfl,hb2⟩;have HB2:=b9W (HB1.out.trans (hb2.mono HB1.out.size));clear hb2))
 refine bodyPost_ret (results_tmp2 rfl _ _ _) rfl ?_;exact⟨rfl,HB2.out⟩
theorem b4a(a b:ByteArray)(w:World)(ha:a.size≤270000)(hb:b.size≤270000)(hr:Res w) :
  Calls prog 130 #[.string a,.string b] w fun e w'=>e=.returned (resN (twoQ (fun p q=>outQ (p*q)) a.data.toList b.data.toList))∧Below w.heap.size w w':=by
 have HB:=b9W (a8G 205 b8y (fun p q=>outQ (p*q)) a b w ha hb hr (fun p q v v' w' hr' hv hv' sp sq=>b7d p q v v' w' hr' hv hv' sp sq));generalize twoQ (fun p q=>outQ (p*q)) a.data.toList b.data.toList=r at HB ⊢;clear hr
 go_enter func130,ntmps130
 go_wp2_with (go_at_call 188;refine HB.out.mono ?_;rintro e w2 ⟨rfl,hb2⟩;have HB2:=b9W hb2;clear hb2;unfold resN)
 refine bodyPost_ret (results_tmp2 rfl _ _ _) rfl ?_;exact⟨rfl,HB2.out⟩
theorem a9_(q:Rat):(sgQ q==0)=decide (q=0):=by
 unfold sgQ
 by_cases h:q=0
 ·rw[if_pos (a76.2 h),decide_eq_true h];rfl
 ·rw[if_neg (fun e=>h (a76.1 e)),decide_eq_false h]
  split<;>rfl
theorem b6Y:Runs 210:=a1_ func210 (by kernel_rfl) (by kernel_rfl)
theorem b8p(p q:Rat)(v v':Value)(w:World)(hr:Res w)(hv:a0C w v p)(hv':a0C w v' q)(sp:Sz maxD p)(sq:Sz maxD q) :
  Calls prog 210 #[v,v'] w fun e w'=>e=.returned (resN (divQ p q))∧Below w.heap.size w w':=by
 obtain⟨lp,lp'⟩:=a1g sp;obtain⟨lq,lq'⟩:=a1g sq;obtain⟨lr,lr'⟩:=a3G (sp.mul sq.inv) (by unfold maxD;omega);obtain⟨bq,N,D,A,c,A',c',rfl,hn,hd,HQ⟩:=a0r hv;obtain⟨bq',N',D',B,d,B',d',rfl,hn',hd',HQ'⟩:=a0r hv';have HX:=b9W (a0d (a0d (Below.refl w.heap.size w) (.cells #[.bool bq,.slice A (toL N).length c,.slice A' (toL D).length c'] 216)) (.cells #[.bool bq',.slice B (toL N').length d,.slice B' (toL D').length d'] 216));have HP0:=b9W ((Blk.new w 216 #[.bool bq,.slice A (toL N).length c,.slice A' (toL D).length c']).alloc (.cells #[.bool bq',.slice B (toL N').length d,.slice B' (toL D').length d'] 216));have HP1:=b9W (Blk.new (w.alloc (.cells #[.bool bq,.slice A (toL N).length c,.slice A' (toL D).length c'] 216)) 216 #[.bool bq',.slice B (toL N').length d,.slice B' (toL D').length d']);have hz:=a9_ q;have HS:=b9W (a28 q _ _ (hv'.below HX.out));have HV:=b9W hv;have HV':=b9W hv';have HR:=b9W hr;unfold divQ
 by_cases h0:q=0
 ·rw[if_pos h0]
  rw[decide_eq_true h0]at hz;clear hr hv hv' hn hd hn' hd' sp sq lp lp' lq lq' lr lr' h0
  go_enter func210,ntmps210
  go_wp2_with (go_at_call 211;refine HS.out.mono ?_;rintro e w3 ⟨rfl,hb3⟩;have HB3:=b9W (HX.out.trans (hb3.mono HX.out.size));clear hb3)
  refine bodyPost_ret (results_tmp2 rfl _ _ _) rfl ?_;exact⟨rfl,HB3.out⟩
 ·rw[if_neg h0]
  rw[decide_eq_false h0]at hz;have HF:=b9W (fun v v' w hv hv'=>b8g p q v v' w hv hv' (b9W h0) (by omega) (by omega) (by omega) (by omega));have HN:=b9W (fun v w hv hr=>b0A (p*q⁻¹) v w hv hr lr lr');generalize outQ (p*q⁻¹)=r at HN ⊢;clear hr hv hv' hn hd hn' hd' sp sq lp lp' lq lq' lr lr' h0
  go_enter func210,ntmps210
  go_wp2_with (first
   | (go_at_call 211;refine HS.out.mono ?_;rintro e w3 ⟨rfl,hb3⟩;have HB3:=b9W (HX.out.trans (hb3.mono HX.out.size));obtain⟨x0,x1,x2⟩:=a0K HP0.out hb3 HP0.out.lt;obtain⟨y0,y1,y2⟩:=a0K HP1.out hb3 HP1.out.lt;rw[World.size_alloc]at y0 y1 y2;clear hb3)
   | (go_at_call 212;refine(HF.out _ _ _ (HV.out.below HB3.out) (HV'.out.below HB3.out)).mono ?_;rintro e w1 ⟨v1,rfl,hv1,hb1⟩;have HV1:=b9W hv1;have HB1:=b9W (HB3.out.trans (hb1.mono HB3.out.size));clear hv1 hb1)
   | (go_at_call 191;refine(HN.out _ _ HV1.out (HR.out.below HB1.out)).mono ?_;rintro e w2 ⟨rfl,hb2⟩;have HB2:=b9W (HB1.out.trans (hb2.mono HB1.out.size));clear hb2))
  refine bodyPost_ret (results_tmp2 rfl _ _ _) rfl ?_;exact⟨rfl,HB2.out⟩
theorem b4A(a b:ByteArray)(w:World)(ha:a.size≤270000)(hb:b.size≤270000)(hr:Res w) :
  Calls prog 133 #[.string a,.string b] w fun e w'=>e=.returned (resN (twoQ divQ a.data.toList b.data.toList))∧Below w.heap.size w w':=by
 have HB:=b9W (a8G 210 b6Y divQ a b w ha hb hr (fun p q v v' w' hr' hv hv' sp sq=>b8p p q v v' w' hr' hv hv' sp sq));generalize twoQ divQ a.data.toList b.data.toList=r at HB ⊢;clear hr
 go_enter func133,ntmps133
 go_wp2_with (go_at_call 188;refine HB.out.mono ?_;rintro e w2 ⟨rfl,hb2⟩;have HB2:=b9W hb2;clear hb2;unfold resN)
 refine bodyPost_ret (results_tmp2 rfl _ _ _) rfl ?_;exact⟨rfl,HB2.out⟩
theorem b4p{w:World}{v:Value}{s:List UInt8}(h:errQ s=0→a0C w v (valQ s))(hz:errQ s≠0→v=zV):∃ (bq:Bool) (A A':Option Addr) (l c l' c':Nat),v=.agg #[.bool bq,.slice A l c,.slice A' l' c']:=by
 by_cases he:errQ s=0
 ·obtain⟨bq,N,D,A,c,A',c',rfl,_⟩:=a0r (h he)
  exact⟨_,_,_,_,_,_,_,rfl⟩
 ·exact⟨_,_,_,_,_,_,_,hz he⟩
theorem a3j(a:ByteArray)(w:World)(ha:a.size≤270000)(hr:Res w) :
  Calls prog 138 #[.string a] w fun e w'=>e=.returned (.int .i64 (errQ a.data.toList:Int))∧Below w.heap.size w w':=by
 have HP:=b9W (a4j a w ha hr);clear hr
 go_enter func138,ntmps138
 go_wp2_with (go_at_call 217;refine HP.out.mono ?_;rintro e w1 ⟨v,rfl,hv,hz,hb⟩;obtain⟨bq,A,A',l,c,l',c',rfl⟩:=b4p hv hz;have HB:=b9W hb;clear hb hz hv)
 go_ret
 exact⟨rfl,a0d HB.out _⟩
def b7I(a b:List UInt8):List UInt8 × Nat :=
 if a1k a=false then ([],3) else if 4000 < (intP a).2.length then ([],5) else if errN b≠0 then ([],errN b) else if b=[48] then ([],6) else outQ (mkQ (intP a).1 (dv (intP a).2) (dv b))
theorem b5D(m:Bool){n d:Nat}(hd:d≠0)(ln:(toL n).length≤500)(ld:(toL d).length≤500):(toL (nm (mkQ m n d))).length≤500∧(toL (mkQ m n d).den).length≤500 :=
 ⟨Nat.le_trans (a0Z (a3_ hd)) ln,Nat.le_trans (a0Z (a3x hd)) ld⟩
def powQ(q:Rat)(n:Int):List UInt8 × Nat:=if n < 0∧q=0 then ([],6) else outQ ((if n < 0 then q⁻¹ else q) ^ n.natAbs)
theorem b7t:Runs 214:=a1_ func214 (by kernel_rfl) (by kernel_rfl)
theorem b6l(q:Rat)(n:Int)(pn:Nat)(v:Value)(w:World)(_hr:Res w)(hv:a0C w v q)(hn:Boxed w pn 3 (.int .i64 n))(hneg:n < 0)(h0:q=0) :
  Calls prog 214 #[v,.pointer (some ⟨pn,0,none⟩)] w fun e w'=>e=.returned (resN ([],6))∧Below w.heap.size w w':=by
 obtain⟨bq,N,D,A,c,A',c',rfl,_,_,HQ⟩:=a0r hv;have HX:=b9W (a0d (Below.refl w.heap.size w) (.cells #[.bool bq,.slice A (toL N).length c,.slice A' (toL D).length c'] 216));have hz:=a9_ q;rw[decide_eq_true h0]at hz;have HS:=b9W (a28 q _ _ (hv.below HX.out));have cn:=(a0O hn HX.out hn.lt).cell;have hng:decide (n < 0)=true:=decide_eq_true hneg;clear hv hn hneg h0
 go_enter func214,ntmps214
 go_wp2_with (go_at_call 211;refine HS.out.mono ?_;rintro e w3 ⟨rfl,hb3⟩;have HB3:=b9W (HX.out.trans (hb3.mono HX.out.size));clear hb3)
 refine bodyPost_ret (results_tmp2 rfl _ _ _) rfl ?_;exact⟨rfl,HB3.out⟩
theorem b7H{M:Nat}(h:M < 18446744073709551616):IntKind.u64.wrap (M:Int)=(M:Int):=by
 rw[IntKind.wrap_u64];omega
theorem b6_(q:Rat)(M:Nat)(pn:Nat)(v:Value)(w:World)(hr:Res w)(hv:a0C w v q)(hn:Boxed w pn 3 (.int .i64 (M:Int)))(hn1:M≤9223372036854775807)(sq:Sz maxD q) :
  Calls prog 214 #[v,.pointer (some ⟨pn,0,none⟩)] w fun e w'=>e=.returned (resN (outQ (q ^ M)))∧Below w.heap.size w w':=by
 obtain⟨b,N,D,A,c,A',c',rfl,hnn,hdd,HQ⟩:=a0r hv;have HX:=b9W (a0d (Below.refl w.heap.size w) (.cells #[.bool b,.slice A (toL N).length c,.slice A' (toL D).length c'] 216));have cn:=(a0O hn HX.out hn.lt).cell;have hng:decide ((M:Int) < 0)=false:=decide_eq_false (by omega);have hw:=b7H (M:=M) (by omega);have HM:=b9W (show M < 18446744073709551616 by omega);have HP:=b9W (Blk.new w 216 #[.bool b,.slice A (toL N).length c,.slice A' (toL D).length c']);have HNN:=b9W (hnn.below HX.out);have HDD:=b9W (hdd.below HX.out);have HRR:=b9W (hr.below HX.out);have hds:=(a5M (by decide)).1 sq;have HL:=b9W (show Lib.nDigits N≤4000∧Lib.nDigits D≤4000 by rw[← HQ.out.2.1,← HQ.out.2.2];exact hds);have TK1:True:=trivial;clear hr hv hn hn1 sq hnn hdd hds;have hbig:¬ (Lib.nDigits (N ^ M)≤4000∧Lib.nDigits (D ^ M)≤4000)→outQ (q ^ M)=([],5):=fun h=>by
  obtain⟨e1,e2,_⟩:=a3h (q) M;unfold outQ maxD;rw[if_pos (by rw[e1,e2,HQ.out.2.1,HQ.out.2.2];omega)]
 by_cases f1:Lib.nDigits (N ^ M)≤4000
 ·have F1:=b9W (decide_eq_true f1)
  have G1:=b9W f1
  by_cases f2:Lib.nDigits (D ^ M)≤4000
  ·have F2:=b9W (decide_eq_true f2)
   have G2:=b9W f2;have HLL:=b9W (And.intro (Nat.le_trans (a1l f1 (show 4000≤9*500 by omega)) (show 500≤40000 by omega)) (Nat.le_trans (a1l f2 (show 4000≤9*500 by omega)) (show 500≤40000 by omega)));obtain⟨e1,e2,e3⟩:=a3h (q) M;have HO:=b9W (show outP (b&&decide (M % 2=1)) (N ^ M) (D ^ M)=outQ (q ^ M) by rw[← b5j,e1,e2,e3,HQ.out.1,HQ.out.2.1,HQ.out.2.2])
   by_cases ho:M % 2=1
   ·have ho1:((M:Int) % 2==1)=true:=by rw[beq_iff_eq];omega
    rw[decide_eq_true ho]at HO;clear f1 f2 e1 e2 e3 ho hbig
    cases b <;>
    ·rw[← HO.out]
     clear HO
     go_enter func214,ntmps214
     go_upto_region 6 with fail
     generalize w.alloc (.cells #[.bool _,.slice A (toL N).length c,.slice A' (toL D).length c'] 216)=W at *;obtain⟨x0,x1,x2⟩:=a0K HP.out (Below.refl W.heap.size W) HP.out.lt;have HBW:=HX;have HPW:=HP;have HNW:=HNN;have HDW:=HDD;have HRW:=HRR
     go_wp2_with (first
      | (clear TK1;go_at_call 216;refine(a1N N M _ _ HNW.out HM.out HL.out.1 (HRW.out)).mono ?_;rintro e w5 ⟨v5,rfl,hv5,hb5⟩;rw[F1.out];have hv5:=hv5 G1.out;obtain⟨A5,c5,rfl,_,_,_⟩:=id hv5;have HV5:=b9W hv5;have HB5:=b9W hb5;obtain⟨z0,z1,z2⟩:=a0K HPW.out hb5 HPW.out.lt;have HP5:=b9W (HPW.out.below hb5 HPW.out.lt);clear hb5)
      | (go_at_call 216;refine(a1N D M _ _ (HDW.out.below HB5.out) HM.out HL.out.2 (HRW.out.below HB5.out)).mono ?_;rintro e w6 ⟨v6,rfl,hv6,hb6⟩;rw[F2.out];have hv6:=hv6 G2.out;obtain⟨A6,c6,rfl,_,_,_⟩:=id hv6;have HV6:=b9W hv6;have HB6:=b9W (HB5.out.trans (hb6.mono HB5.out.size));have HV56:=b9W hb6;obtain⟨y0,y1,y2⟩:=a0K HP5.out hb6 HP5.out.lt;clear hb6)
      | (go_at_call 191;refine(a45 _ (N ^ M) (D ^ M) _ _ (a01 (HV5.out.below HV56.out) HV6.out) (HRW.out.below HB6.out) HLL.out.1 HLL.out.2).mono ?_;rintro e w7 ⟨rfl,hb7⟩;have HB7:=b9W (HB6.out.trans (hb7.mono HB6.out.size));clear hb7))
     refine bodyPost_ret (results_tmp2 rfl _ _ _) rfl ?_;exact⟨rfl,HBW.out.trans (HB7.out.mono HBW.out.size)⟩
   ·have ho1:((M:Int) % 2==1)=false:=by rw[beq_eq_false_iff_ne];omega
    rw[decide_eq_false ho]at HO;clear f1 f2 e1 e2 e3 ho hbig
    cases b <;>
    ·rw[← HO.out]
     clear HO
     go_enter func214,ntmps214
     go_upto_region 6 with fail
     generalize w.alloc (.cells #[.bool _,.slice A (toL N).length c,.slice A' (toL D).length c'] 216)=W at *;obtain⟨x0,x1,x2⟩:=a0K HP.out (Below.refl W.heap.size W) HP.out.lt;have HBW:=HX;have HPW:=HP;have HNW:=HNN;have HDW:=HDD;have HRW:=HRR
     go_wp2_with (first
      | (clear TK1;go_at_call 216;refine(a1N N M _ _ HNW.out HM.out HL.out.1 (HRW.out)).mono ?_;rintro e w5 ⟨v5,rfl,hv5,hb5⟩;rw[F1.out];have hv5:=hv5 G1.out;obtain⟨A5,c5,rfl,_,_,_⟩:=id hv5;have HV5:=b9W hv5;have HB5:=b9W hb5;obtain⟨z0,z1,z2⟩:=a0K HPW.out hb5 HPW.out.lt;have HP5:=b9W (HPW.out.below hb5 HPW.out.lt);clear hb5)
      | (go_at_call 216;refine(a1N D M _ _ (HDW.out.below HB5.out) HM.out HL.out.2 (HRW.out.below HB5.out)).mono ?_;rintro e w6 ⟨v6,rfl,hv6,hb6⟩;rw[F2.out];have hv6:=hv6 G2.out;obtain⟨A6,c6,rfl,_,_,_⟩:=id hv6;have HV6:=b9W hv6;have HB6:=b9W (HB5.out.trans (hb6.mono HB5.out.size));have HV56:=b9W hb6;obtain⟨y0,y1,y2⟩:=a0K HP5.out hb6 HP5.out.lt;clear hb6)
      | (go_at_call 191;refine(a45 _ (N ^ M) (D ^ M) _ _ (a01 (HV5.out.below HV56.out) HV6.out) (HRW.out.below HB6.out) HLL.out.1 HLL.out.2).mono ?_;rintro e w7 ⟨rfl,hb7⟩;have HB7:=b9W (HB6.out.trans (hb7.mono HB6.out.size));clear hb7))
     refine bodyPost_ret (results_tmp2 rfl _ _ _) rfl ?_;exact⟨rfl,HBW.out.trans (HB7.out.mono HBW.out.size)⟩
  ·have F2:=b9W (decide_eq_false f2)
   rw[hbig (fun h=>f2 h.2)];clear f1 f2 hbig
   go_enter func214,ntmps214
   go_upto_region 6 with fail
   generalize w.alloc (.cells #[.bool _,.slice A (toL N).length c,.slice A' (toL D).length c'] 216)=W at *;obtain⟨x0,x1,x2⟩:=a0K HP.out (Below.refl W.heap.size W) HP.out.lt;have HBW:=HX;have HPW:=HP;have HNW:=HNN;have HDW:=HDD;have HRW:=HRR
   go_wp2_with (first
    | (clear TK1;go_at_call 216;refine(a1N N M _ _ HNW.out HM.out HL.out.1 (HRW.out)).mono ?_;rintro e w5 ⟨v5,rfl,hv5,hb5⟩;rw[F1.out];clear hv5;have HB5:=b9W hb5;obtain⟨z0,z1,z2⟩:=a0K HPW.out hb5 HPW.out.lt;have HP5:=b9W (HPW.out.below hb5 HPW.out.lt);clear hb5)
    | (go_at_call 216;refine(a1N D M _ _ (HDW.out.below HB5.out) HM.out HL.out.2 (HRW.out.below HB5.out)).mono ?_;rintro e w6 ⟨v6,rfl,hv6,hb6⟩;rw[F2.out];clear hv6;have HB6:=b9W (HB5.out.trans (hb6.mono HB5.out.size));have HV56:=b9W hb6;obtain⟨y0,y1,y2⟩:=a0K HP5.out hb6 HP5.out.lt;clear hb6))
   refine bodyPost_ret (results_tmp2 rfl _ _ _) rfl ?_;exact⟨rfl,HBW.out.trans (HB6.out.mono HBW.out.size)⟩
 ·have F1:=b9W (decide_eq_false f1)
  rw[hbig (fun h=>f1 h.1)]
  by_cases f2:Lib.nDigits (D ^ M)≤4000
  ·have F2:=b9W (decide_eq_true f2)
   clear f1 f2 hbig
   go_enter func214,ntmps214
   go_upto_region 6 with fail
   generalize w.alloc (.cells #[.bool _,.slice A (toL N).length c,.slice A' (toL D).length c'] 216)=W at *;obtain⟨x0,x1,x2⟩:=a0K HP.out (Below.refl W.heap.size W) HP.out.lt;have HBW:=HX;have HPW:=HP;have HNW:=HNN;have HDW:=HDD;have HRW:=HRR
   go_wp2_with (first
    | (clear TK1;go_at_call 216;refine(a1N N M _ _ HNW.out HM.out HL.out.1 (HRW.out)).mono ?_;rintro e w5 ⟨v5,rfl,hv5,hb5⟩;rw[F1.out];clear hv5;have HB5:=b9W hb5;obtain⟨z0,z1,z2⟩:=a0K HPW.out hb5 HPW.out.lt;have HP5:=b9W (HPW.out.below hb5 HPW.out.lt);clear hb5)
    | (go_at_call 216;refine(a1N D M _ _ (HDW.out.below HB5.out) HM.out HL.out.2 (HRW.out.below HB5.out)).mono ?_;rintro e w6 ⟨v6,rfl,hv6,hb6⟩;rw[F2.out];clear hv6;have HB6:=b9W (HB5.out.trans (hb6.mono HB5.out.size));have HV56:=b9W hb6;obtain⟨y0,y1,y2⟩:=a0K HP5.out hb6 HP5.out.lt;clear hb6))
   refine bodyPost_ret (results_tmp2 rfl _ _ _) rfl ?_;exact⟨rfl,HBW.out.trans (HB6.out.mono HBW.out.size)⟩
  ·have F2:=b9W (decide_eq_false f2)
   clear f1 f2 hbig
   go_enter func214,ntmps214
   go_upto_region 6 with fail
   generalize w.alloc (.cells #[.bool _,.slice A (toL N).length c,.slice A' (toL D).length c'] 216)=W at *;obtain⟨x0,x1,x2⟩:=a0K HP.out (Below.refl W.heap.size W) HP.out.lt;have HBW:=HX;have HPW:=HP;have HNW:=HNN;have HDW:=HDD;have HRW:=HRR
   go_wp2_with (first
    | (clear TK1;go_at_call 216;refine(a1N N M _ _ HNW.out HM.out HL.out.1 (HRW.out)).mono ?_;rintro e w5 ⟨v5,rfl,hv5,hb5⟩;rw[F1.out];clear hv5;have HB5:=b9W hb5;obtain⟨z0,z1,z2⟩:=a0K HPW.out hb5 HPW.out.lt;have HP5:=b9W (HPW.out.below hb5 HPW.out.lt);clear hb5)
    | (go_at_call 216;refine(a1N D M _ _ (HDW.out.below HB5.out) HM.out HL.out.2 (HRW.out.below HB5.out)).mono ?_;rintro e w6 ⟨v6,rfl,hv6,hb6⟩;rw[F2.out];clear hv6;have HB6:=b9W (HB5.out.trans (hb6.mono HB5.out.size));have HV56:=b9W hb6;obtain⟨y0,y1,y2⟩:=a0K HP5.out hb6 HP5.out.lt;clear hb6))
   refine bodyPost_ret (results_tmp2 rfl _ _ _) rfl ?_;exact⟨rfl,HBW.out.trans (HB6.out.mono HBW.out.size)⟩
theorem b73(q:Rat)(n:Int)(M:Nat)(pn:Nat)(v:Value)(w:World)(hr:Res w)(hv:a0C w v q)(hn:Boxed w pn 3 (.int .i64 n))(hneg:n < 0)(hn1:-9223372036854775808≤n)(hM:M=n.natAbs)(h0:q≠0)(sq:Sz maxD q) :
  Calls prog 214 #[v,.pointer (some ⟨pn,0,none⟩)] w fun e w'=>e=.returned (resN (outQ (q⁻¹ ^ M)))∧Below w.heap.size w w':=by
 obtain⟨b0,N0,D0,A0,c0,A0',c0',rfl,_,_,HQ0⟩:=a0r hv;have HX:=b9W (a0d (Below.refl w.heap.size w) (.cells #[.bool b0,.slice A0 (toL N0).length c0,.slice A0' (toL D0).length c0'] 216));have hz:=a9_ q;rw[decide_eq_false h0]at hz;have HS:=b9W (a28 q _ _ (hv.below HX.out));have cn:=(a0O hn HX.out hn.lt).cell;have hng:decide (n < 0)=true:=decide_eq_true hneg;obtain⟨U,hU⟩:∃ U,IntKind.u64.wrap n=U:=⟨_,rfl⟩;have hU2:IntKind.u64.wrap (-U)=(M:Int):=by rw[← hU,IntKind.wrap_u64,IntKind.wrap_u64];omega
 have HN:=b9W hn;have HV:=b9W hv;have HM:=b9W (show M < 18446744073709551616 by omega);have HP0:=b9W (Blk.new w 216 #[.bool b0,.slice A0 (toL N0).length c0,.slice A0' (toL D0).length c0']);have HI:=b9W (fun v w hv=>b1r q v w hv h0);have HR:=b9W hr;have hds:=(a5M (by decide)).1 sq.inv;have HDS:=b9W hds;have TK1:True:=trivial;generalize hres:outQ (q⁻¹ ^ M)=r;have HRES:=b9W hres;clear hr hv hn sq hn1 hneg h0 hM hds hres
 go_enter func214,ntmps214
 go_upto_region 6 with (first
  | (go_at_call 211;refine HS.out.mono ?_;rintro e w3 ⟨rfl,hb3⟩;have HB3:=b9W (HX.out.trans (hb3.mono HX.out.size));obtain⟨x0,x1,x2⟩:=a0K HP0.out hb3 HP0.out.lt;have HP3:=b9W (HP0.out.below hb3 HP0.out.lt);have cn3:=(a0O HN.out HB3.out HN.out.lt).cell;clear hb3)
  | (go_at_call 215;refine(HI.out _ _ (HV.out.below HB3.out)).mono ?_;rintro e w4 ⟨v4,rfl,hv4,hb4⟩;obtain⟨b,N,D,A,c,A',c',rfl,hnn,hdd,HQ⟩:=a0r hv4;have HB4:=b9W (HB3.out.trans (hb4.mono HB3.out.size));obtain⟨t0,t1,t2,t3,t4,t5⟩:=a1G (HP3.out.below hb4 HP3.out.lt);have HP4:=b9W (HP3.out.below hb4 HP3.out.lt);have HNN:=b9W hnn;have HDD:=b9W hdd;clear hb4 hv4 hnn hdd))
 have HBW:=b9W (a0t (g:=w.heap.size) (x:=.bool b) (y:=.slice A (toL N).length c) (z:=.slice A' (toL D).length c') HB4.out (Nat.le_refl _));have HPW:=b9W (set3 (x:=.bool b) (y:=.slice A (toL N).length c) (z:=.slice A' (toL D).length c') HP4.out);have HNW:=b9W (a0J (m':=b) (D:=A) (a:=(toL N).length) (b:=c) (D':=A') (a':=(toL D).length) (b':=c') HNN.out HP4.out);have HDW:=b9W (a0J (m':=b) (D:=A) (a:=(toL N).length) (b:=c) (D':=A') (a':=(toL D).length) (b':=c') HDD.out HP4.out);have HRW:=b9W (HR.out.below HBW.out);have HL:=b9W (show Lib.nDigits N≤4000∧Lib.nDigits D≤4000 by rw[← HQ.out.2.1,← HQ.out.2.2];exact HDS.out);generalize ((w4.setCell ⟨w.heap.size,0,none⟩ (.bool b)).setCell ⟨w.heap.size,1,none⟩ (.slice A (toL N).length c)).setCell ⟨w.heap.size,2,none⟩ (.slice A' (toL D).length c')=W at *;obtain⟨x0,x1,x2⟩:=a0K HPW.out (Below.refl W.heap.size W) HPW.out.lt;clear t0 t1 t2 t3 t4 t5 cn cn3 hU hU2;have hbig:¬ (Lib.nDigits (N ^ M)≤4000∧Lib.nDigits (D ^ M)≤4000)→outQ (q⁻¹ ^ M)=([],5):=fun h=>by
  obtain⟨e1,e2,_⟩:=a3h (q⁻¹) M;unfold outQ maxD;rw[if_pos (by rw[e1,e2,HQ.out.2.1,HQ.out.2.2];omega)]
 by_cases f1:Lib.nDigits (N ^ M)≤4000
 ·have F1:=b9W (decide_eq_true f1)
  have G1:=b9W f1
  by_cases f2:Lib.nDigits (D ^ M)≤4000
  ·have F2:=b9W (decide_eq_true f2)
   have G2:=b9W f2;have HLL:=b9W (And.intro (Nat.le_trans (a1l f1 (show 4000≤9*500 by omega)) (show 500≤40000 by omega)) (Nat.le_trans (a1l f2 (show 4000≤9*500 by omega)) (show 500≤40000 by omega)));obtain⟨e1,e2,e3⟩:=a3h (q⁻¹) M;have HO:=b9W (show outP (b&&decide (M % 2=1)) (N ^ M) (D ^ M)=outQ (q⁻¹ ^ M) by rw[← b5j,e1,e2,e3,HQ.out.1,HQ.out.2.1,HQ.out.2.2])
   by_cases ho:M % 2=1
   ·have ho1:((M:Int) % 2==1)=true:=by rw[beq_iff_eq];omega
    rw[decide_eq_true ho]at HO;clear f1 f2 e1 e2 e3 ho hbig
    cases b <;>
    ·have HOR:=b9W (HO.out.trans HRES.out)
     clear HO HRES
     go_wp2_with (first
      | (clear TK1;go_at_call 216;refine(a1N N M _ _ HNW.out HM.out HL.out.1 (HRW.out)).mono ?_;rintro e w5 ⟨v5,rfl,hv5,hb5⟩;rw[F1.out];have hv5:=hv5 G1.out;obtain⟨A5,c5,rfl,_,_,_⟩:=id hv5;have HV5:=b9W hv5;have HB5:=b9W hb5;obtain⟨z0,z1,z2⟩:=a0K HPW.out hb5 HPW.out.lt;have HP5:=b9W (HPW.out.below hb5 HPW.out.lt);clear hb5)
      | (go_at_call 216;refine(a1N D M _ _ (HDW.out.below HB5.out) HM.out HL.out.2 (HRW.out.below HB5.out)).mono ?_;rintro e w6 ⟨v6,rfl,hv6,hb6⟩;rw[F2.out];have hv6:=hv6 G2.out;obtain⟨A6,c6,rfl,_,_,_⟩:=id hv6;have HV6:=b9W hv6;have HB6:=b9W (HB5.out.trans (hb6.mono HB5.out.size));have HV56:=b9W hb6;obtain⟨y0,y1,y2⟩:=a0K HP5.out hb6 HP5.out.lt;clear hb6)
      | (go_at_call 191;refine(a45 _ (N ^ M) (D ^ M) _ _ (a01 (HV5.out.below HV56.out) HV6.out) (HRW.out.below HB6.out) HLL.out.1 HLL.out.2).mono ?_;rintro e w7 ⟨rfl,hb7⟩;have HB7:=b9W (HB6.out.trans (hb7.mono HB6.out.size));clear hb7))
     refine bodyPost_ret (results_tmp2 rfl _ _ _) rfl ?_;refine⟨?_,HBW.out.trans (HB7.out.mono HBW.out.size)⟩;rw[← HOR.out]
     rfl
   ·have ho1:((M:Int) % 2==1)=false:=by rw[beq_eq_false_iff_ne];omega
    rw[decide_eq_false ho]at HO;clear f1 f2 e1 e2 e3 ho hbig
    cases b <;>
    ·have HOR:=b9W (HO.out.trans HRES.out)
     clear HO HRES
     go_wp2_with (first
      | (clear TK1;go_at_call 216;refine(a1N N M _ _ HNW.out HM.out HL.out.1 (HRW.out)).mono ?_;rintro e w5 ⟨v5,rfl,hv5,hb5⟩;rw[F1.out];have hv5:=hv5 G1.out;obtain⟨A5,c5,rfl,_,_,_⟩:=id hv5;have HV5:=b9W hv5;have HB5:=b9W hb5;obtain⟨z0,z1,z2⟩:=a0K HPW.out hb5 HPW.out.lt;have HP5:=b9W (HPW.out.below hb5 HPW.out.lt);clear hb5)
      | (go_at_call 216;refine(a1N D M _ _ (HDW.out.below HB5.out) HM.out HL.out.2 (HRW.out.below HB5.out)).mono ?_;rintro e w6 ⟨v6,rfl,hv6,hb6⟩;rw[F2.out];have hv6:=hv6 G2.out;obtain⟨A6,c6,rfl,_,_,_⟩:=id hv6;have HV6:=b9W hv6;have HB6:=b9W (HB5.out.trans (hb6.mono HB5.out.size));have HV56:=b9W hb6;obtain⟨y0,y1,y2⟩:=a0K HP5.out hb6 HP5.out.lt;clear hb6)
      | (go_at_call 191;refine(a45 _ (N ^ M) (D ^ M) _ _ (a01 (HV5.out.below HV56.out) HV6.out) (HRW.out.below HB6.out) HLL.out.1 HLL.out.2).mono ?_;rintro e w7 ⟨rfl,hb7⟩;have HB7:=b9W (HB6.out.trans (hb7.mono HB6.out.size));clear hb7))
     refine bodyPost_ret (results_tmp2 rfl _ _ _) rfl ?_;refine⟨?_,HBW.out.trans (HB7.out.mono HBW.out.size)⟩;rw[← HOR.out]
     rfl
  ·have F2:=b9W (decide_eq_false f2)
   have HOR:=b9W ((hbig (fun h=>f2 h.2)).symm.trans HRES.out);clear f1 f2 hbig
   go_wp2_with (first
    | (clear TK1;go_at_call 216;refine(a1N N M _ _ HNW.out HM.out HL.out.1 (HRW.out)).mono ?_;rintro e w5 ⟨v5,rfl,hv5,hb5⟩;rw[F1.out];clear hv5;have HB5:=b9W hb5;obtain⟨z0,z1,z2⟩:=a0K HPW.out hb5 HPW.out.lt;have HP5:=b9W (HPW.out.below hb5 HPW.out.lt);clear hb5)
    | (go_at_call 216;refine(a1N D M _ _ (HDW.out.below HB5.out) HM.out HL.out.2 (HRW.out.below HB5.out)).mono ?_;rintro e w6 ⟨v6,rfl,hv6,hb6⟩;rw[F2.out];clear hv6;have HB6:=b9W (HB5.out.trans (hb6.mono HB5.out.size));have HV56:=b9W hb6;obtain⟨y0,y1,y2⟩:=a0K HP5.out hb6 HP5.out.lt;clear hb6))
   refine bodyPost_ret (results_tmp2 rfl _ _ _) rfl ?_;refine⟨?_,HBW.out.trans (HB6.out.mono HBW.out.size)⟩;rw[← HOR.out]
   rfl
 ·have F1:=b9W (decide_eq_false f1)
  have HOR:=b9W ((hbig (fun h=>f1 h.1)).symm.trans HRES.out)
  by_cases f2:Lib.nDigits (D ^ M)≤4000
  ·have F2:=b9W (decide_eq_true f2)
   clear f1 f2 hbig
   go_wp2_with (first
    | (clear TK1;go_at_call 216;refine(a1N N M _ _ HNW.out HM.out HL.out.1 (HRW.out)).mono ?_;rintro e w5 ⟨v5,rfl,hv5,hb5⟩;rw[F1.out];clear hv5;have HB5:=b9W hb5;obtain⟨z0,z1,z2⟩:=a0K HPW.out hb5 HPW.out.lt;have HP5:=b9W (HPW.out.below hb5 HPW.out.lt);clear hb5)
    | (go_at_call 216;refine(a1N D M _ _ (HDW.out.below HB5.out) HM.out HL.out.2 (HRW.out.below HB5.out)).mono ?_;rintro e w6 ⟨v6,rfl,hv6,hb6⟩;rw[F2.out];clear hv6;have HB6:=b9W (HB5.out.trans (hb6.mono HB5.out.size));have HV56:=b9W hb6;obtain⟨y0,y1,y2⟩:=a0K HP5.out hb6 HP5.out.lt;clear hb6))
   refine bodyPost_ret (results_tmp2 rfl _ _ _) rfl ?_;refine⟨?_,HBW.out.trans (HB6.out.mono HBW.out.size)⟩;rw[← HOR.out]
   rfl
  ·have F2:=b9W (decide_eq_false f2)
   clear f1 f2 hbig
   go_wp2_with (first
    | (clear TK1;go_at_call 216;refine(a1N N M _ _ HNW.out HM.out HL.out.1 (HRW.out)).mono ?_;rintro e w5 ⟨v5,rfl,hv5,hb5⟩;rw[F1.out];clear hv5;have HB5:=b9W hb5;obtain⟨z0,z1,z2⟩:=a0K HPW.out hb5 HPW.out.lt;have HP5:=b9W (HPW.out.below hb5 HPW.out.lt);clear hb5)
    | (go_at_call 216;refine(a1N D M _ _ (HDW.out.below HB5.out) HM.out HL.out.2 (HRW.out.below HB5.out)).mono ?_;rintro e w6 ⟨v6,rfl,hv6,hb6⟩;rw[F2.out];clear hv6;have HB6:=b9W (HB5.out.trans (hb6.mono HB5.out.size));have HV56:=b9W hb6;obtain⟨y0,y1,y2⟩:=a0K HP5.out hb6 HP5.out.lt;clear hb6))
   refine bodyPost_ret (results_tmp2 rfl _ _ _) rfl ?_;refine⟨?_,HBW.out.trans (HB6.out.mono HBW.out.size)⟩;rw[← HOR.out]
   rfl
theorem b4D(a:ByteArray)(n:Int)(w:World)(ha:a.size≤270000)(hr:Res w)(h1:-9223372036854775808≤n)(h2:n≤9223372036854775807) :
  Calls prog 135 #[.string a,.int .i64 n] w fun e w'=>e=.returned (resN (oneQ (fun q=>powQ q n) a.data.toList))∧Below w.heap.size w w':=by
 have hb:=a0d (Below.refl w.heap.size w) (.cells #[.int .i64 n] 3);have hn:Boxed (w.alloc (.cells #[.int .i64 n] 3)) w.heap.size 3 (.int .i64 n):=Boxed.new w _ _;have HB:=b9W (b5B 214 b7t #[.pointer (some ⟨w.heap.size,0,none⟩)] (fun q=>powQ q n) a _ ha (hr.below hb) (fun q v w' hb' hr' hv sq=>by
  have hn':=a0O hn hb' hn.lt
  show Calls prog 214 #[v,.pointer (some ⟨w.heap.size,0,none⟩)] w' _
  unfold powQ
  by_cases hneg:n < 0
  ·by_cases h0:q=0
   ·rw[if_pos ⟨hneg,h0⟩]
    exact b6l q n w.heap.size v w' hr' hv hn' hneg h0
   ·rw[if_neg (fun h=>h0 h.2),if_pos hneg]
    exact b73 q n _ w.heap.size v w' hr' hv hn' hneg h1 rfl h0 sq
  ·rw[if_neg (fun h=>hneg h.1),if_neg hneg]
   obtain⟨M,rfl⟩:∃ M:Nat,n=(M:Int):=⟨n.toNat,by omega⟩;rw[Int.natAbs_natCast];exact b6_ q M w.heap.size v w' hr' hv hn' (by omega) sq))
 generalize oneQ (fun q=>powQ q n) a.data.toList=r at HB ⊢;have HX:=b9W hb;clear hr hb hn
 go_enter func135,ntmps135
 go_wp2_with (go_at_call 213;refine HB.out.mono ?_;rintro e w2 ⟨rfl,hb2⟩;have HB2:=b9W (HX.out.trans (hb2.mono HX.out.size));clear hb2;unfold resN)
 refine bodyPost_ret (results_tmp2 rfl _ _ _) rfl ?_;exact⟨rfl,HB2.out⟩
def a2j(l:List UInt8)(k:Nat):Prop:=(k < l.length∧cutQ l=(l.take k,some (l.drop (k+1))))∨(k=l.length∧cutQ l=(l,none))
theorem b5c(s:ByteArray)(w:World)(hlen:s.size≤9223372036854775807) :
  Calls prog 234 #[.string s] w fun e w'=>∃ k:Nat,e=.returned (.int .i64 (k:Int))∧a2j s.data.toList k∧w'=w:=by
 have HSL:=b9W (a0F s);have HGET:=b9W (fun (k:Nat) (hk:k < s.size)=>show s[k]=s.data.toList[k]'(by rw[← a0F];exact hk) by rw[Array.getElem_toList];rfl)
 go_enter func234,ntmps234
 go_wp2
 go_loopw [3] (fun si wr=>∃ k:Nat,k≤s.size∧si=.int .i64 (k:Int)∧(∀ j (hj:j < s.size),j < k→s[j]≠47)∧wr=w) (fun si _=>s.size - (intOf si).toNat)
 case atStart=>exact⟨0,Nat.zero_le _,rfl,fun j _ h=>absurd h (Nat.not_lt_zero _),rfl⟩
 case round =>
  obtain⟨k,hk,rfl,hdk,rfl⟩:=hrel;have HDK:=b9W hdk;clear hdk
  by_cases hlt:k < s.size
  ·have hlt':(k:Int) < (s.size:Int):=by omega
   by_cases h47:s[k]=47
   ·have d1:((s[k].toNat:Int)==47)=true:=by rw[h47];rfl
    have HH:=b9W h47;clear h47;go_wp2
    go_ret
    refine⟨k,rfl,.inl ⟨by rw[← HSL.out];exact hlt,?_⟩,rfl⟩;have hk':k < s.data.toList.length:=by rw[← HSL.out];exact hlt
    have hg:s.data.toList[k]=47:=by rw[← HGET.out k hlt];exact HH.out
    have hsplit:s.data.toList=s.data.toList.take k++47::s.data.toList.drop (k+1):=by
     rw[← hg,List.getElem_cons_drop,List.take_append_drop]
    have hno:(47:UInt8) ∉ s.data.toList.take k:=by
     intro hm;obtain⟨j,hj,e⟩:=List.getElem_of_mem hm;rw[List.length_take]at hj;rw[List.getElem_take]at e;have hj2:j < s.size:=by omega
     exact HDK.out j hj2 (by omega) (by rw[HGET.out j hj2];exact e)
    conv=>lhs;rw[hsplit]
    exact a3y hno
   ·have d1:((s[k].toNat:Int)==47)=false:=by
     rw[beq_eq_false_iff_ne];intro e
     apply h47
     apply UInt8.toNat_inj.1
     have:s[k].toNat=47:=by omega
     rw[this]
     rfl
    have HH:=b9W h47;clear h47;go_wp2
    go_roundw
    case rel =>
     refine⟨k+1,hlt,by go_num,fun j hj hjk=>?_,trivial⟩
     by_cases e:j=k
     ·subst e;exact HH.out
     ·exact HDK.out j hj (by omega)
    case measure=>simp[intOf];omega
  ·have hlt':¬ (k:Int) < (s.size:Int):=by omega
   go_wp2
   go_ret
   refine⟨s.size,rfl,.inr ⟨HSL.out,a4h ?_⟩,rfl⟩;intro hm;obtain⟨j,hj,e⟩:=List.getElem_of_mem hm;have hj2:j < s.size:=by rw[HSL.out];exact hj
   exact HDK.out j hj2 (by omega) (by rw[HGET.out j hj2];exact e)
theorem a1L(s:ByteArray)(w:World)(hlen:s.size≤9223372036854775807) :
  Calls prog 235 #[.string s] w fun e w'=>e=.returned (.bool (a1b s.data.toList))∧w'=w:=by
 have HC:=b9W (a5r s w hlen);have he:∃ k:Nat,errN s.data.toList=k∧(k=0∧a1b s.data.toList=true∨k=5∧a1b s.data.toList=true∨k=3∧a1b s.data.toList=false):=by
  unfold errN
  by_cases h:a1b s.data.toList=true
  ·rw[if_pos h]
   by_cases h2:4000 < s.data.toList.length
   ·rw[if_pos h2];exact⟨5,rfl,.inr (.inl ⟨rfl,h⟩)⟩
   ·rw[if_neg h2];exact⟨0,rfl,.inl ⟨rfl,h⟩⟩
  ·rw[if_neg h];exact⟨3,rfl,.inr (.inr ⟨rfl,by simpa using h⟩)⟩
 obtain⟨k,hk,h⟩:=he;rw[hk]at HC
 rcases h with⟨rfl,hf⟩|⟨rfl,hf⟩|⟨rfl,hf⟩ <;>
 ·rw[hf]
  clear hf hk
  go_enter func235,ntmps235
  go_wp2_with (go_at_call 221;refine HC.out.mono ?_;rintro e w1 ⟨rfl,hw1⟩;subst hw1)
  go_ret
  exact⟨rfl,rfl⟩
theorem ba_of(s:ByteArray){l:List UInt8}(h:s.data.toList=l):(⟨l.toArray⟩:ByteArray)=s:=by
 subst h;exact a0G s
theorem a0X(s:ByteArray)(w:World)(hlen:s.size≤9223372036854775807) :
  Calls prog 220 #[.string s] w fun e w'=>e=.returned (.tuple #[.bool (intP s.data.toList).1,.string ⟨(intP s.data.toList).2.toArray⟩,.bool (a1k s.data.toList)])∧w'=w:=by
 have hsz:=a0F s
 by_cases h0:s.size=0
 ·have hl:s.data.toList=[]:=List.length_eq_zero_iff.1 (by rw[← hsz];exact h0)
  obtain rfl:s=⟨#[]⟩:=by rw[← a0G s,hl]
  have HD:=b9W (a1L ⟨#[]⟩ w hlen);rw[show a1b (⟨#[]⟩:ByteArray).data.toList=false from rfl]at HD;clear hsz h0 hl hlen
  go_enter func220,ntmps220
  go_wp2_with (go_at_call 235;refine HD.out.mono ?_;rintro e w1 ⟨rfl,hw1⟩;subst hw1)
  refine bodyPost_ret (results_tmp3 rfl _ _ _) rfl ?_;exact⟨rfl,rfl⟩
 ·have hpos:0 < s.size:=by omega
  have hlt0:(0:Int) < (s.size:Int):=by omega
  have hle1:(1:Int)≤(s.size:Int):=by omega
  have hle1n:1≤s.size:=by omega
  have hs0:s[0]=s.data.toList[0]'(by rw[← a0F];exact hpos):=by rw[Array.getElem_toList];rfl
  have hhead:s.data.toList.head?=some s[0]:=by rw[hs0,List.head?_eq_getElem?,List.getElem?_eq_getElem]
  by_cases h45:s[0]=45
  ·have d1:((s[0].toNat:Int)==45)=true:=by rw[h45];rfl
   have hip:intP s.data.toList=(true,s.data.toList.drop 1):=by unfold intP;rw[hhead,h45,if_pos rfl]
   have hx:(s.extract 1 s.size).data.toList=s.data.toList.drop 1:=by rw[a1R,List.take_of_length_le (by rw[← hsz];exact Nat.le_refl _)]
   have hxs:(s.extract 1 s.size).size≤9223372036854775807:=by rw[a0F,hx,List.length_drop];omega
   have hd:=a1L (s.extract 1 s.size) w hxs;have HS2:=b9W (ba_of _ hx);have HE:=b9W (show (s.extract 1 s.size).toList=s.data.toList.drop 1 by rw[Lib.toList_data,hx]);unfold a1k;rw[hip]
   dsimp only
   rw[HS2.out];rw[hx]at hd;generalize a1b (s.data.toList.drop 1)=f at *;have HD:=b9W hd;clear hs0 hhead h45 hsz hx hxs hd hip
   cases f <;>
   ·go_enter func220,ntmps220
    go_wp2_with (go_at_call 235;refine HD.out.mono ?_;rintro e w1 ⟨rfl,hw1⟩;subst hw1)
    refine bodyPost_ret (results_tmp3 rfl _ _ _) rfl ⟨?_,rfl⟩
    first|rfl|(simp[HE.out])
  ·have d1:((s[0].toNat:Int)==45)=false:=by
    rw[beq_eq_false_iff_ne];intro e
    apply h45
    apply UInt8.toNat_inj.1
    have:s[0].toNat=45:=by omega
    rw[this]
    rfl
   have hip:intP s.data.toList=(false,s.data.toList):=by unfold intP;rw[hhead,if_neg (by intro e;injection e with e;exact h45 e)]
   have hd:=a1L s w hlen;have HS2:=b9W (a0G s);unfold a1k;rw[hip]
   dsimp only
   rw[HS2.out];generalize a1b s.data.toList=f at *;have HD:=b9W hd;clear hs0 hhead h45 hsz hd hip
   cases f <;>
   ·go_enter func220,ntmps220
    go_wp2_with (go_at_call 235;refine HD.out.mono ?_;rintro e w1 ⟨rfl,hw1⟩;subst hw1)
    refine bodyPost_ret (results_tmp3 rfl _ _ _) rfl ⟨?_,rfl⟩
    first|rfl|(simp[Lib.toList_data])
end Go.Proofs.YtigapglmipmbeaaGreatDoor
