/- The reference's Order of rational numbers, Cmp, Min, Max (printed by mkrord.py). -/
import Derived.Test.YtigapglmipmbeaaGreatDoorLwMomentAdds13
import Derived.Test.YtigapglmipmbeaaGreatDoorLwMomentAdds10
import Derived.Laws.Bits128
import Derived.Test.YtigapglmipmbeaaGreatDoorLwMomentAdds12
import Derived.Test.YtigapglmipmbeaaGreatDoorLwMomentAdds11
set_option maxRecDepth 100000
set_option maxHeartbeats 16000000
open Go.Proofs.Tryz
namespace Go.Proofs.YtigapglmipmbeaaGreatDoor
open Go.RowKit Go.Shelf
open Lim
attribute [local go_sem] Oper.semAt_some
theorem b9H(p q:Rat):sgQ (p+-q)=cmpQ p q:=by
 rw[a4P,← Rat.sub_eq_add_neg];unfold cmpQ;have h1:p < q↔(p - q).num < 0:=by
  rw[← Rat.not_le,← Int.not_le,Rat.num_nonneg,← Rat.le_iff_sub_nonneg]
 have h2:p=q↔(p - q).num=0:=by
  rw[Rat.num_eq_zero]
  constructor
  ·rintro rfl;exact Rat.sub_self
  ·intro h
   have:=congrArg (·+q) h
   simpa[Rat.sub_add_cancel,Rat.zero_add]using this
 by_cases h:p < q
 ·rw[if_pos h,if_pos (h1.1 h)]
 ·rw[if_neg h,if_neg (fun x=>h (h1.2 x))]
  by_cases h':p=q
  ·rw[if_pos h',if_pos (h2.1 h')]
  ·rw[if_neg h',if_neg (fun x=>h' (h2.2 x))]
theorem a8u(w:World)(m vn vd m' vn' vd':Value):Blk ((w.alloc (.cells #[m,vn,vd] 170)).alloc (.cells #[m',vn',vd'] 170)) w.heap.size 170 #[m,vn,vd] ∧
  Blk ((w.alloc (.cells #[m,vn,vd] 170)).alloc (.cells #[m',vn',vd'] 170)) (w.heap.size+1) 170 #[m',vn',vd'] ∧
  Below w.heap.size w ((w.alloc (.cells #[m,vn,vd] 170)).alloc (.cells #[m',vn',vd'] 170))∧((w.alloc (.cells #[m,vn,vd] 170)).alloc (.cells #[m',vn',vd'] 170)).heap.size=w.heap.size+2:=by
 refine⟨(Blk.new w _ _).alloc _,?_,a0d (a0d (Below.refl _ _) _) _,by simp⟩;have:=Blk.new (w.alloc (.cells #[m,vn,vd] 170)) 170 #[m',vn',vd']
 rwa [World.size_alloc]at this
theorem b6p(p q:Rat)(v v':Value)(w:World)(h:IsQ w v p)(h':IsQ w v' q)(l1:(toL (nm p)).length≤10000)(l2:(toL p.den).length≤10000)(l3:(toL (nm q)).length≤10000)(l4:(toL q.den).length≤10000)(hX:sgQ (p+-q)=0) :
  Calls prog 201 #[v,v'] w fun e w'=>e=.returned (.int .i64 0)∧Below w.heap.size w w':=by
 have HV:=b9W h;have HV':=b9W h';have HF:=b9W (fun (b:Bool) (N:Nat) (h:ng (p+-q)=b∧nm (p+-q)=N)=>show (((toL N).length:Int)==0)=true∧b=b from by
  unfold sgQ at hX
  split at hX
  ·rename_i h0
   exact⟨by rw[a2g,← h.2,decide_eq_true h0],rfl⟩
  ·split at hX<;>cases hX)
 clear hX;obtain⟨_,hq2,hq3⟩:=a2J q;obtain⟨bp,N,D,A,c,A',c',rfl,_,_,_⟩:=a0w h;obtain⟨bq,N',D',B,d,B',d',rfl,_,_,_⟩:=a0w h';clear h h';refine(callsIn_wide (n:=3)).1 ?_;have h1:1≤3:=by omega
 have hmx:prog.follows .mixedOrders=true:=by kernel_rfl
 refine callsIn_of_wp func201 rfl trivial ?_ rfl
 simp only[ntmps201,List.size_toArray,List.length_cons,List.length_nil,Nat.reduceAdd,Nat.reduceSub,Array.replicate_succ,Array.replicate_zero,List.push_toArray,List.append_toArray,List.nil_append,List.cons_append]
 gi_upto_region 1 with fail
 obtain⟨k0,k1,hX,hs⟩:=a8u w (.bool bp) (.slice A (toL N).length c) (.slice A' (toL D).length c') (.bool bq) (.slice B (toL N').length d) (.slice B' (toL D').length d');generalize (w.alloc (.cells #[.bool bp,.slice A (toL N).length c,.slice A' (toL D).length c'] 170)).alloc (.cells #[.bool bq,.slice B (toL N').length d,.slice B' (toL D').length d'] 170)=W at *;obtain⟨x0,x1,x2⟩:=a0j (S:=fun k=>k < W.heap.size) k0 (by omega);obtain⟨y0,y1,y2⟩:=a0j (S:=fun k=>k < W.heap.size) k1 (by omega);have HX:=b9W (a0x hX);have hW0:Below W.heap.size W W:=Below.refl _ _;clear k0 k1 hX hs;refine a0o (a0R W (fun k=>k < W.heap.size)) [0,1] [] hmx (by kernel_rfl) (a0g fun _ _=>rfl) ?_;change a0l _ _ _ _ _ _ _ _ (4+2) _ _ _;refine a0e [0,1] 4 _ _ (by kernel_rfl) ?_;change wpQuietIn _ _ _ _ (fun W'=>∃ x:a0n W (fun k=>k < W.heap.size),W'=x.W) _ _ _
 simp only[a0h,a0m,List.getElem?_cons_zero,List.getElem?_cons_succ,Option.elim_some]
 repeat (gi_big_quiet_step (fail))
 refine wpQuietIn_nil ?_;refine a1p 2 4 (by kernel_rfl) rfl rfl ?_ ?_
 ·gi_wp2
  refine⟨trivial,?_⟩;refine(callsIn_wide.2 (a3P q _ W.drew (HV'.out.below (HX.out.trans ((a0f (a0x hW0)).mono HX.out.size))))).mono ?_;rintro e w2 ⟨v2,rfl,hv2,hb2⟩;obtain⟨b2,N2,D2,A2,c2,A2',c2',rfl,_,_,_⟩:=a0w hv2;have HV2:=b9W hv2;have hB2:Below W.heap.size W w2:=a0q hb2;have HB2:=b9W hB2;clear hv2 hb2 hB2;gi_wp2;refine a0b (a0a HB2.out (fun k hk=>hk)) ?_;refine a1p 3 4 (by kernel_rfl) rfl rfl ?_ ?_
  ·gi_wp2
   refine⟨trivial,?_⟩;refine(callsIn_wide.2 (a1M p (-q) _ _ w2 (HV.out.below (HX.out.trans ((a0f HB2.out).mono HX.out.size))) (HV2.out) (by omega) (by omega) (by rw[hq2];omega) (by rw[hq3];omega))).mono ?_;rintro e w3 ⟨v3,rfl,hv3,hb3⟩;obtain⟨b3,N3,D3,A3,c3,A3',c3',rfl,_,_,HQ3⟩:=a0w hv3;obtain⟨f1,f2⟩:=HF.out _ _ ⟨HQ3.out.1,HQ3.out.2.1⟩;have HB3:=b9W (HB2.out.trans (hb3.mono HB2.out.size));clear hv3 hb3;gi_wp2;refine a0b (a0a HB3.out (fun k hk=>hk)) ?_;refine a0c 4 (by kernel_rfl) rfl ?_;gi_wp2;refine a0b (a0a (HB3.out.alloc HB3.out.size zQ) (fun k hk=>hk)) ?_;refine a0c 5 (by kernel_rfl) rfl ?_;gi_wp2;refine a0b (a0a (HB3.out.alloc HB3.out.size _) (fun k hk=>hk)) ?_;refine a0i (by kernel_rfl) ?_;gi_wp2;refine bodyPost_ret (results_tmp rfl _ _ _) rfl ?_;exact⟨rfl,HX.out.trans ((a0f (HB3.out.alloc HB3.out.size _)).mono HX.out.size)⟩
  ·gi_wp2
   have HB4:=b9W (HB2.out.alloc HB2.out.size zQ);have HP4:=b9W (a1z w2);have hal:=a0d (Below.refl w2.heap.size w2) zQ;have HV2:=b9W (HV2.out.below hal);clear hal;have hg5:=HB2.out.size;generalize w2.heap.size=g5 at *;generalize w2.alloc zQ=w4 at *;refine a0b (a0a HB4.out (fun k hk=>hk)) ?_;refine a0c 3 (by kernel_rfl) rfl ?_;gi_wp2;refine⟨trivial,?_⟩;refine(callsIn_wide.2 (a1M p (-q) _ _ w4 (HV.out.below (HX.out.trans ((a0f HB4.out).mono HX.out.size))) (HV2.out) (by omega) (by omega) (by rw[hq2];omega) (by rw[hq3];omega))).mono ?_;rintro e w3 ⟨v3,rfl,hv3,hb3⟩;obtain⟨b3,N3,D3,A3,c3,A3',c3',rfl,_,_,HQ3⟩:=a0w hv3;obtain⟨f1,f2⟩:=HF.out _ _ ⟨HQ3.out.1,HQ3.out.2.1⟩;have HB3:=b9W (HB4.out.trans (hb3.mono HB4.out.size));obtain⟨⟨r0,s0⟩,⟨r1,s1⟩,r2,s2⟩:=a2t (HP4.out.below hb3 HP4.out.lt);have HP3:=b9W (HP4.out.below hb3 HP4.out.lt);clear hv3 hb3;gi_wp2;refine a0b (a0a HB3.out (fun k hk=>hk)) ?_;refine a0c 5 (by kernel_rfl) rfl ?_;gi_wp2;have HB5:=b9W (a0t (x:=.bool b3) (y:=.slice A3 (toL N3).length c3) (z:=.slice A3' (toL D3).length c3') HB3.out hg5);refine a0b (a0a HB5.out (fun k hk=>hk)) ?_;obtain⟨z0,z1,z2⟩:=a1u (set3 (x:=.bool b3) (y:=.slice A3 (toL N3).length c3) (z:=.slice A3' (toL D3).length c3') HP3.out);clear r0 r1 r2 s0 s1 s2;refine a0i (by kernel_rfl) ?_;gi_wp2;refine bodyPost_ret (results_tmp rfl _ _ _) rfl ?_;exact⟨rfl,HX.out.trans ((a0f HB5.out).mono HX.out.size)⟩
 ·gi_wp2
  have hz4:Below W.heap.size W (W.alloc zQ):=a0d (Below.refl _ _) _;have HZ4:=b9W (a0x hz4);have HP0:=b9W (show Blk (W.alloc zQ).drew W.heap.size 170 #[.bool false,.slice none 0 0,.slice none 0 0] from a1z W);clear hz4;have hg5:=Nat.le_refl W.heap.size;generalize (W.alloc zQ).drew=w4 at *;refine a0b (a0a HZ4.out (fun k hk=>hk)) ?_;refine a0c 2 (by kernel_rfl) rfl ?_;gi_wp2;refine⟨trivial,?_⟩;refine(callsIn_wide.2 (a3P q _ w4 (HV'.out.below (HX.out.trans ((a0f HZ4.out).mono HX.out.size))))).mono ?_;rintro e w2 ⟨v2,rfl,hv2,hb2⟩;obtain⟨b2,N2,D2,A2,c2,A2',c2',rfl,_,_,_⟩:=a0w hv2;have HV2:=b9W hv2;have HB2:=b9W (HZ4.out.trans (hb2.mono HZ4.out.size));have HP4:=b9W (HP0.out.below hb2 HP0.out.lt);clear hv2 hb2;gi_wp2;refine a0b (a0a HB2.out (fun k hk=>hk)) ?_;refine a0c 3 (by kernel_rfl) rfl ?_;gi_wp2;refine⟨trivial,?_⟩;refine(callsIn_wide.2 (a1M p (-q) _ _ w2 (HV.out.below (HX.out.trans ((a0f HB2.out).mono HX.out.size))) (HV2.out) (by omega) (by omega) (by rw[hq2];omega) (by rw[hq3];omega))).mono ?_;rintro e w3 ⟨v3,rfl,hv3,hb3⟩;obtain⟨b3,N3,D3,A3,c3,A3',c3',rfl,_,_,HQ3⟩:=a0w hv3;obtain⟨f1,f2⟩:=HF.out _ _ ⟨HQ3.out.1,HQ3.out.2.1⟩;have HB3:=b9W (HB2.out.trans (hb3.mono HB2.out.size));obtain⟨⟨r0,s0⟩,⟨r1,s1⟩,r2,s2⟩:=a2t (HP4.out.below hb3 HP4.out.lt);have HP3:=b9W (HP4.out.below hb3 HP4.out.lt);clear hv3 hb3;gi_wp2;refine a0b (a0a HB3.out (fun k hk=>hk)) ?_;refine a0c 5 (by kernel_rfl) rfl ?_;gi_wp2;have HB5:=b9W (a0t (x:=.bool b3) (y:=.slice A3 (toL N3).length c3) (z:=.slice A3' (toL D3).length c3') HB3.out hg5);refine a0b (a0a HB5.out (fun k hk=>hk)) ?_;obtain⟨z0,z1,z2⟩:=a1u (set3 (x:=.bool b3) (y:=.slice A3 (toL N3).length c3) (z:=.slice A3' (toL D3).length c3') HP3.out);clear r0 r1 r2 s0 s1 s2;refine a0i (by kernel_rfl) ?_;gi_wp2;refine bodyPost_ret (results_tmp rfl _ _ _) rfl ?_;exact⟨rfl,HX.out.trans ((a0f HB5.out).mono HX.out.size)⟩
theorem b8o(p q:Rat)(v v':Value)(w:World)(h:IsQ w v p)(h':IsQ w v' q)(l1:(toL (nm p)).length≤10000)(l2:(toL p.den).length≤10000)(l3:(toL (nm q)).length≤10000)(l4:(toL q.den).length≤10000)(hX:sgQ (p+-q)=-1) :
  Calls prog 201 #[v,v'] w fun e w'=>e=.returned (.int .i64 (-1))∧Below w.heap.size w w':=by
 have HV:=b9W h;have HV':=b9W h';have HF:=b9W (fun (b:Bool) (N:Nat) (h:ng (p+-q)=b∧nm (p+-q)=N)=>show (((toL N).length:Int)==0)=false∧b=true from by
  unfold sgQ at hX
  split at hX
  ·cases hX
  ·rename_i h0
   refine⟨by rw[a2g,← h.2,decide_eq_false h0],?_⟩;rw[← h.1]
   split at hX
   ·assumption
   ·cases hX)
 clear hX;obtain⟨_,hq2,hq3⟩:=a2J q;obtain⟨bp,N,D,A,c,A',c',rfl,_,_,_⟩:=a0w h;obtain⟨bq,N',D',B,d,B',d',rfl,_,_,_⟩:=a0w h';clear h h';refine(callsIn_wide (n:=3)).1 ?_;have h1:1≤3:=by omega
 have hmx:prog.follows .mixedOrders=true:=by kernel_rfl
 refine callsIn_of_wp func201 rfl trivial ?_ rfl
 simp only[ntmps201,List.size_toArray,List.length_cons,List.length_nil,Nat.reduceAdd,Nat.reduceSub,Array.replicate_succ,Array.replicate_zero,List.push_toArray,List.append_toArray,List.nil_append,List.cons_append]
 gi_upto_region 1 with fail
 obtain⟨k0,k1,hX,hs⟩:=a8u w (.bool bp) (.slice A (toL N).length c) (.slice A' (toL D).length c') (.bool bq) (.slice B (toL N').length d) (.slice B' (toL D').length d');generalize (w.alloc (.cells #[.bool bp,.slice A (toL N).length c,.slice A' (toL D).length c'] 170)).alloc (.cells #[.bool bq,.slice B (toL N').length d,.slice B' (toL D').length d'] 170)=W at *;obtain⟨x0,x1,x2⟩:=a0j (S:=fun k=>k < W.heap.size) k0 (by omega);obtain⟨y0,y1,y2⟩:=a0j (S:=fun k=>k < W.heap.size) k1 (by omega);have HX:=b9W (a0x hX);have hW0:Below W.heap.size W W:=Below.refl _ _;clear k0 k1 hX hs;refine a0o (a0R W (fun k=>k < W.heap.size)) [0,1] [] hmx (by kernel_rfl) (a0g fun _ _=>rfl) ?_;change a0l _ _ _ _ _ _ _ _ (4+2) _ _ _;refine a0e [0,1] 4 _ _ (by kernel_rfl) ?_;change wpQuietIn _ _ _ _ (fun W'=>∃ x:a0n W (fun k=>k < W.heap.size),W'=x.W) _ _ _
 simp only[a0h,a0m,List.getElem?_cons_zero,List.getElem?_cons_succ,Option.elim_some]
 repeat (gi_big_quiet_step (fail))
 refine wpQuietIn_nil ?_;refine a1p 2 4 (by kernel_rfl) rfl rfl ?_ ?_
 ·gi_wp2
  refine⟨trivial,?_⟩;refine(callsIn_wide.2 (a3P q _ W.drew (HV'.out.below (HX.out.trans ((a0f (a0x hW0)).mono HX.out.size))))).mono ?_;rintro e w2 ⟨v2,rfl,hv2,hb2⟩;obtain⟨b2,N2,D2,A2,c2,A2',c2',rfl,_,_,_⟩:=a0w hv2;have HV2:=b9W hv2;have hB2:Below W.heap.size W w2:=a0q hb2;have HB2:=b9W hB2;clear hv2 hb2 hB2;gi_wp2;refine a0b (a0a HB2.out (fun k hk=>hk)) ?_;refine a1p 3 4 (by kernel_rfl) rfl rfl ?_ ?_
  ·gi_wp2
   refine⟨trivial,?_⟩;refine(callsIn_wide.2 (a1M p (-q) _ _ w2 (HV.out.below (HX.out.trans ((a0f HB2.out).mono HX.out.size))) (HV2.out) (by omega) (by omega) (by rw[hq2];omega) (by rw[hq3];omega))).mono ?_;rintro e w3 ⟨v3,rfl,hv3,hb3⟩;obtain⟨b3,N3,D3,A3,c3,A3',c3',rfl,_,_,HQ3⟩:=a0w hv3;obtain⟨f1,f2⟩:=HF.out _ _ ⟨HQ3.out.1,HQ3.out.2.1⟩;subst f2;have HB3:=b9W (HB2.out.trans (hb3.mono HB2.out.size));clear hv3 hb3;gi_wp2;refine a0b (a0a HB3.out (fun k hk=>hk)) ?_;refine a0c 4 (by kernel_rfl) rfl ?_;gi_wp2;refine a0b (a0a (HB3.out.alloc HB3.out.size zQ) (fun k hk=>hk)) ?_;refine a0c 5 (by kernel_rfl) rfl ?_;gi_wp2;refine a0b (a0a (HB3.out.alloc HB3.out.size _) (fun k hk=>hk)) ?_;refine a0i (by kernel_rfl) ?_;gi_wp2;refine bodyPost_ret (results_tmp rfl _ _ _) rfl ?_;exact⟨rfl,HX.out.trans ((a0f (HB3.out.alloc HB3.out.size _)).mono HX.out.size)⟩
  ·gi_wp2
   have HB4:=b9W (HB2.out.alloc HB2.out.size zQ);have HP4:=b9W (a1z w2);have hal:=a0d (Below.refl w2.heap.size w2) zQ;have HV2:=b9W (HV2.out.below hal);clear hal;have hg5:=HB2.out.size;generalize w2.heap.size=g5 at *;generalize w2.alloc zQ=w4 at *;refine a0b (a0a HB4.out (fun k hk=>hk)) ?_;refine a0c 3 (by kernel_rfl) rfl ?_;gi_wp2;refine⟨trivial,?_⟩;refine(callsIn_wide.2 (a1M p (-q) _ _ w4 (HV.out.below (HX.out.trans ((a0f HB4.out).mono HX.out.size))) (HV2.out) (by omega) (by omega) (by rw[hq2];omega) (by rw[hq3];omega))).mono ?_;rintro e w3 ⟨v3,rfl,hv3,hb3⟩;obtain⟨b3,N3,D3,A3,c3,A3',c3',rfl,_,_,HQ3⟩:=a0w hv3;obtain⟨f1,f2⟩:=HF.out _ _ ⟨HQ3.out.1,HQ3.out.2.1⟩;subst f2;have HB3:=b9W (HB4.out.trans (hb3.mono HB4.out.size));obtain⟨⟨r0,s0⟩,⟨r1,s1⟩,r2,s2⟩:=a2t (HP4.out.below hb3 HP4.out.lt);have HP3:=b9W (HP4.out.below hb3 HP4.out.lt);clear hv3 hb3;gi_wp2;refine a0b (a0a HB3.out (fun k hk=>hk)) ?_;refine a0c 5 (by kernel_rfl) rfl ?_;gi_wp2;have HB5:=b9W (a0t (x:=.bool true) (y:=.slice A3 (toL N3).length c3) (z:=.slice A3' (toL D3).length c3') HB3.out hg5);refine a0b (a0a HB5.out (fun k hk=>hk)) ?_;obtain⟨z0,z1,z2⟩:=a1u (set3 (x:=.bool true) (y:=.slice A3 (toL N3).length c3) (z:=.slice A3' (toL D3).length c3') HP3.out);clear r0 r1 r2 s0 s1 s2;refine a0i (by kernel_rfl) ?_;gi_wp2;refine bodyPost_ret (results_tmp rfl _ _ _) rfl ?_;exact⟨rfl,HX.out.trans ((a0f HB5.out).mono HX.out.size)⟩
 ·gi_wp2
  have hz4:Below W.heap.size W (W.alloc zQ):=a0d (Below.refl _ _) _;have HZ4:=b9W (a0x hz4);have HP0:=b9W (show Blk (W.alloc zQ).drew W.heap.size 170 #[.bool false,.slice none 0 0,.slice none 0 0] from a1z W);clear hz4;have hg5:=Nat.le_refl W.heap.size;generalize (W.alloc zQ).drew=w4 at *;refine a0b (a0a HZ4.out (fun k hk=>hk)) ?_;refine a0c 2 (by kernel_rfl) rfl ?_;gi_wp2;refine⟨trivial,?_⟩;refine(callsIn_wide.2 (a3P q _ w4 (HV'.out.below (HX.out.trans ((a0f HZ4.out).mono HX.out.size))))).mono ?_;rintro e w2 ⟨v2,rfl,hv2,hb2⟩;obtain⟨b2,N2,D2,A2,c2,A2',c2',rfl,_,_,_⟩:=a0w hv2;have HV2:=b9W hv2;have HB2:=b9W (HZ4.out.trans (hb2.mono HZ4.out.size));have HP4:=b9W (HP0.out.below hb2 HP0.out.lt);clear hv2 hb2;gi_wp2;refine a0b (a0a HB2.out (fun k hk=>hk)) ?_;refine a0c 3 (by kernel_rfl) rfl ?_;gi_wp2;refine⟨trivial,?_⟩;refine(callsIn_wide.2 (a1M p (-q) _ _ w2 (HV.out.below (HX.out.trans ((a0f HB2.out).mono HX.out.size))) (HV2.out) (by omega) (by omega) (by rw[hq2];omega) (by rw[hq3];omega))).mono ?_;rintro e w3 ⟨v3,rfl,hv3,hb3⟩;obtain⟨b3,N3,D3,A3,c3,A3',c3',rfl,_,_,HQ3⟩:=a0w hv3;obtain⟨f1,f2⟩:=HF.out _ _ ⟨HQ3.out.1,HQ3.out.2.1⟩;subst f2;have HB3:=b9W (HB2.out.trans (hb3.mono HB2.out.size));obtain⟨⟨r0,s0⟩,⟨r1,s1⟩,r2,s2⟩:=a2t (HP4.out.below hb3 HP4.out.lt);have HP3:=b9W (HP4.out.below hb3 HP4.out.lt);clear hv3 hb3;gi_wp2;refine a0b (a0a HB3.out (fun k hk=>hk)) ?_;refine a0c 5 (by kernel_rfl) rfl ?_;gi_wp2;have HB5:=b9W (a0t (x:=.bool true) (y:=.slice A3 (toL N3).length c3) (z:=.slice A3' (toL D3).length c3') HB3.out hg5);refine a0b (a0a HB5.out (fun k hk=>hk)) ?_;obtain⟨z0,z1,z2⟩:=a1u (set3 (x:=.bool true) (y:=.slice A3 (toL N3).length c3) (z:=.slice A3' (toL D3).length c3') HP3.out);clear r0 r1 r2 s0 s1 s2;refine a0i (by kernel_rfl) ?_;gi_wp2;refine bodyPost_ret (results_tmp rfl _ _ _) rfl ?_;exact⟨rfl,HX.out.trans ((a0f HB5.out).mono HX.out.size)⟩
theorem b7W(p q:Rat)(v v':Value)(w:World)(h:IsQ w v p)(h':IsQ w v' q)(l1:(toL (nm p)).length≤10000)(l2:(toL p.den).length≤10000)(l3:(toL (nm q)).length≤10000)(l4:(toL q.den).length≤10000)(hX:sgQ (p+-q)=1) :
  Calls prog 201 #[v,v'] w fun e w'=>e=.returned (.int .i64 1)∧Below w.heap.size w w':=by
 have HV:=b9W h;have HV':=b9W h';have HF:=b9W (fun (b:Bool) (N:Nat) (h:ng (p+-q)=b∧nm (p+-q)=N)=>show (((toL N).length:Int)==0)=false∧b=false from by
  unfold sgQ at hX
  split at hX
  ·cases hX
  ·rename_i h0
   refine⟨by rw[a2g,← h.2,decide_eq_false h0],?_⟩;rw[← h.1]
   split at hX
   ·cases hX
   ·rename_i h1;simpa using h1)
 clear hX;obtain⟨_,hq2,hq3⟩:=a2J q;obtain⟨bp,N,D,A,c,A',c',rfl,_,_,_⟩:=a0w h;obtain⟨bq,N',D',B,d,B',d',rfl,_,_,_⟩:=a0w h';clear h h';refine(callsIn_wide (n:=3)).1 ?_;have h1:1≤3:=by omega
 have hmx:prog.follows .mixedOrders=true:=by kernel_rfl
 refine callsIn_of_wp func201 rfl trivial ?_ rfl
 simp only[ntmps201,List.size_toArray,List.length_cons,List.length_nil,Nat.reduceAdd,Nat.reduceSub,Array.replicate_succ,Array.replicate_zero,List.push_toArray,List.append_toArray,List.nil_append,List.cons_append]
 gi_upto_region 1 with fail
 obtain⟨k0,k1,hX,hs⟩:=a8u w (.bool bp) (.slice A (toL N).length c) (.slice A' (toL D).length c') (.bool bq) (.slice B (toL N').length d) (.slice B' (toL D').length d');generalize (w.alloc (.cells #[.bool bp,.slice A (toL N).length c,.slice A' (toL D).length c'] 170)).alloc (.cells #[.bool bq,.slice B (toL N').length d,.slice B' (toL D').length d'] 170)=W at *;obtain⟨x0,x1,x2⟩:=a0j (S:=fun k=>k < W.heap.size) k0 (by omega);obtain⟨y0,y1,y2⟩:=a0j (S:=fun k=>k < W.heap.size) k1 (by omega);have HX:=b9W (a0x hX);have hW0:Below W.heap.size W W:=Below.refl _ _;clear k0 k1 hX hs;refine a0o (a0R W (fun k=>k < W.heap.size)) [0,1] [] hmx (by kernel_rfl) (a0g fun _ _=>rfl) ?_;change a0l _ _ _ _ _ _ _ _ (4+2) _ _ _;refine a0e [0,1] 4 _ _ (by kernel_rfl) ?_;change wpQuietIn _ _ _ _ (fun W'=>∃ x:a0n W (fun k=>k < W.heap.size),W'=x.W) _ _ _
 simp only[a0h,a0m,List.getElem?_cons_zero,List.getElem?_cons_succ,Option.elim_some]
 repeat (gi_big_quiet_step (fail))
 refine wpQuietIn_nil ?_;refine a1p 2 4 (by kernel_rfl) rfl rfl ?_ ?_
 ·gi_wp2
  refine⟨trivial,?_⟩;refine(callsIn_wide.2 (a3P q _ W.drew (HV'.out.below (HX.out.trans ((a0f (a0x hW0)).mono HX.out.size))))).mono ?_;rintro e w2 ⟨v2,rfl,hv2,hb2⟩;obtain⟨b2,N2,D2,A2,c2,A2',c2',rfl,_,_,_⟩:=a0w hv2;have HV2:=b9W hv2;have hB2:Below W.heap.size W w2:=a0q hb2;have HB2:=b9W hB2;clear hv2 hb2 hB2;gi_wp2;refine a0b (a0a HB2.out (fun k hk=>hk)) ?_;refine a1p 3 4 (by kernel_rfl) rfl rfl ?_ ?_
  ·gi_wp2
   refine⟨trivial,?_⟩;refine(callsIn_wide.2 (a1M p (-q) _ _ w2 (HV.out.below (HX.out.trans ((a0f HB2.out).mono HX.out.size))) (HV2.out) (by omega) (by omega) (by rw[hq2];omega) (by rw[hq3];omega))).mono ?_;rintro e w3 ⟨v3,rfl,hv3,hb3⟩;obtain⟨b3,N3,D3,A3,c3,A3',c3',rfl,_,_,HQ3⟩:=a0w hv3;obtain⟨f1,f2⟩:=HF.out _ _ ⟨HQ3.out.1,HQ3.out.2.1⟩;subst f2;have HB3:=b9W (HB2.out.trans (hb3.mono HB2.out.size));clear hv3 hb3;gi_wp2;refine a0b (a0a HB3.out (fun k hk=>hk)) ?_;refine a0c 4 (by kernel_rfl) rfl ?_;gi_wp2;refine a0b (a0a (HB3.out.alloc HB3.out.size zQ) (fun k hk=>hk)) ?_;refine a0c 5 (by kernel_rfl) rfl ?_;gi_wp2;refine a0b (a0a (HB3.out.alloc HB3.out.size _) (fun k hk=>hk)) ?_;refine a0i (by kernel_rfl) ?_;gi_wp2;refine bodyPost_ret (results_tmp rfl _ _ _) rfl ?_;exact⟨rfl,HX.out.trans ((a0f (HB3.out.alloc HB3.out.size _)).mono HX.out.size)⟩
  ·gi_wp2
   have HB4:=b9W (HB2.out.alloc HB2.out.size zQ);have HP4:=b9W (a1z w2);have hal:=a0d (Below.refl w2.heap.size w2) zQ;have HV2:=b9W (HV2.out.below hal);clear hal;have hg5:=HB2.out.size;generalize w2.heap.size=g5 at *;generalize w2.alloc zQ=w4 at *;refine a0b (a0a HB4.out (fun k hk=>hk)) ?_;refine a0c 3 (by kernel_rfl) rfl ?_;gi_wp2;refine⟨trivial,?_⟩;refine(callsIn_wide.2 (a1M p (-q) _ _ w4 (HV.out.below (HX.out.trans ((a0f HB4.out).mono HX.out.size))) (HV2.out) (by omega) (by omega) (by rw[hq2];omega) (by rw[hq3];omega))).mono ?_;rintro e w3 ⟨v3,rfl,hv3,hb3⟩;obtain⟨b3,N3,D3,A3,c3,A3',c3',rfl,_,_,HQ3⟩:=a0w hv3;obtain⟨f1,f2⟩:=HF.out _ _ ⟨HQ3.out.1,HQ3.out.2.1⟩;subst f2;have HB3:=b9W (HB4.out.trans (hb3.mono HB4.out.size));obtain⟨⟨r0,s0⟩,⟨r1,s1⟩,r2,s2⟩:=a2t (HP4.out.below hb3 HP4.out.lt);have HP3:=b9W (HP4.out.below hb3 HP4.out.lt);clear hv3 hb3;gi_wp2;refine a0b (a0a HB3.out (fun k hk=>hk)) ?_;refine a0c 5 (by kernel_rfl) rfl ?_;gi_wp2;have HB5:=b9W (a0t (x:=.bool false) (y:=.slice A3 (toL N3).length c3) (z:=.slice A3' (toL D3).length c3') HB3.out hg5);refine a0b (a0a HB5.out (fun k hk=>hk)) ?_;obtain⟨z0,z1,z2⟩:=a1u (set3 (x:=.bool false) (y:=.slice A3 (toL N3).length c3) (z:=.slice A3' (toL D3).length c3') HP3.out);clear r0 r1 r2 s0 s1 s2;refine a0i (by kernel_rfl) ?_;gi_wp2;refine bodyPost_ret (results_tmp rfl _ _ _) rfl ?_;exact⟨rfl,HX.out.trans ((a0f HB5.out).mono HX.out.size)⟩
 ·gi_wp2
  have hz4:Below W.heap.size W (W.alloc zQ):=a0d (Below.refl _ _) _;have HZ4:=b9W (a0x hz4);have HP0:=b9W (show Blk (W.alloc zQ).drew W.heap.size 170 #[.bool false,.slice none 0 0,.slice none 0 0] from a1z W);clear hz4;have hg5:=Nat.le_refl W.heap.size;generalize (W.alloc zQ).drew=w4 at *;refine a0b (a0a HZ4.out (fun k hk=>hk)) ?_;refine a0c 2 (by kernel_rfl) rfl ?_;gi_wp2;refine⟨trivial,?_⟩;refine(callsIn_wide.2 (a3P q _ w4 (HV'.out.below (HX.out.trans ((a0f HZ4.out).mono HX.out.size))))).mono ?_;rintro e w2 ⟨v2,rfl,hv2,hb2⟩;obtain⟨b2,N2,D2,A2,c2,A2',c2',rfl,_,_,_⟩:=a0w hv2;have HV2:=b9W hv2;have HB2:=b9W (HZ4.out.trans (hb2.mono HZ4.out.size));have HP4:=b9W (HP0.out.below hb2 HP0.out.lt);clear hv2 hb2;gi_wp2;refine a0b (a0a HB2.out (fun k hk=>hk)) ?_;refine a0c 3 (by kernel_rfl) rfl ?_;gi_wp2;refine⟨trivial,?_⟩;refine(callsIn_wide.2 (a1M p (-q) _ _ w2 (HV.out.below (HX.out.trans ((a0f HB2.out).mono HX.out.size))) (HV2.out) (by omega) (by omega) (by rw[hq2];omega) (by rw[hq3];omega))).mono ?_;rintro e w3 ⟨v3,rfl,hv3,hb3⟩;obtain⟨b3,N3,D3,A3,c3,A3',c3',rfl,_,_,HQ3⟩:=a0w hv3;obtain⟨f1,f2⟩:=HF.out _ _ ⟨HQ3.out.1,HQ3.out.2.1⟩;subst f2;have HB3:=b9W (HB2.out.trans (hb3.mono HB2.out.size));obtain⟨⟨r0,s0⟩,⟨r1,s1⟩,r2,s2⟩:=a2t (HP4.out.below hb3 HP4.out.lt);have HP3:=b9W (HP4.out.below hb3 HP4.out.lt);clear hv3 hb3;gi_wp2;refine a0b (a0a HB3.out (fun k hk=>hk)) ?_;refine a0c 5 (by kernel_rfl) rfl ?_;gi_wp2;have HB5:=b9W (a0t (x:=.bool false) (y:=.slice A3 (toL N3).length c3) (z:=.slice A3' (toL D3).length c3') HB3.out hg5);refine a0b (a0a HB5.out (fun k hk=>hk)) ?_;obtain⟨z0,z1,z2⟩:=a1u (set3 (x:=.bool false) (y:=.slice A3 (toL N3).length c3) (z:=.slice A3' (toL D3).length c3') HP3.out);clear r0 r1 r2 s0 s1 s2;refine a0i (by kernel_rfl) ?_;gi_wp2;refine bodyPost_ret (results_tmp rfl _ _ _) rfl ?_;exact⟨rfl,HX.out.trans ((a0f HB5.out).mono HX.out.size)⟩
theorem b2V(p q:Rat)(v v':Value)(w:World)(h:IsQ w v p)(h':IsQ w v' q)(l1:(toL (nm p)).length≤10000)(l2:(toL p.den).length≤10000)(l3:(toL (nm q)).length≤10000)(l4:(toL q.den).length≤10000) :
  Calls prog 201 #[v,v'] w fun e w'=>e=.returned (.int .i64 (cmpQ p q))∧Below w.heap.size w w':=by
 have hs:=b9H p q
 rcases a9D p q with hX|hX|hX
 ·rw[hX]at hs ⊢
  exact b8o p q v v' w h h' l1 l2 l3 l4 hs
 ·rw[hX]at hs ⊢
  exact b6p p q v v' w h h' l1 l2 l3 l4 hs
 ·rw[hX]at hs ⊢
  exact b7W p q v v' w h h' l1 l2 l3 l4 hs
theorem b2e(a b:ByteArray)(w:World)(ha:a.size≤270000)(_hb:b.size≤270000)(he:errQ a.data.toList≠0) :
  Calls prog 119 #[.string a,.string b] w fun e w'=>e=.returned (.tuple #[.int .i64 0,.int .i64 (errQ a.data.toList:Int)])∧Below w.heap.size w w':=by
 have HE:=b9W he;have hne:((errQ a.data.toList:Int)==0)=false:=by rw[beq_eq_false_iff_ne];omega
 clear he
 go_enter func119,ntmps119
 go_wp2_with (go_at_call 152;refine(a84 a b _ ha HE.out).mono ?_;rintro e w1 ⟨v,v',rfl,hs,hs',hb⟩;obtain⟨q0,q1,q2,q3,q4,q5,q6,rfl⟩:=hs;obtain⟨p0,p1,p2,p3,p4,p5,p6,rfl⟩:=hs';have HB:=b9W hb;clear hb)
 refine bodyPost_ret (results_tmp2 rfl _ _ _) rfl ?_;exact⟨rfl,a0d (a0d HB.out _) _⟩
theorem a7p(a b:ByteArray)(w:World)(ha:a.size≤270000)(hb:b.size≤9223372036854775807)(he:errQ a.data.toList=0)(he2:errQ b.data.toList≠0) :
  Calls prog 119 #[.string a,.string b] w fun e w'=>e=.returned (.tuple #[.int .i64 0,.int .i64 (errQ b.data.toList:Int)])∧Below w.heap.size w w':=by
 have HE:=b9W he;have HE2:=b9W he2;have hne:((errQ b.data.toList:Int)==0)=false:=by rw[beq_eq_false_iff_ne];omega
 clear he2;clear he
 go_enter func119,ntmps119
 go_wp2_with (go_at_call 152;refine(b1z a b _ ha hb HE.out HE2.out).mono ?_;rintro e w1 ⟨v,v',rfl,hs,hs',hb⟩;obtain⟨q0,q1,q2,q3,q4,q5,q6,rfl⟩:=hs;obtain⟨p0,p1,p2,p3,p4,p5,p6,rfl⟩:=hs';have HB:=b9W hb;clear hb)
 refine bodyPost_ret (results_tmp2 rfl _ _ _) rfl ?_;exact⟨rfl,a0d (a0d HB.out _) _⟩
theorem b2J(a b:ByteArray)(w:World)(ha:a.size≤270000)(hb:b.size≤270000)(he:errQ a.data.toList=0)(he2:errQ b.data.toList≠0) :
  Calls prog 119 #[.string a,.string b] w fun e w'=>e=.returned (.tuple #[.int .i64 0,.int .i64 (errQ b.data.toList:Int)])∧Below w.heap.size w w':=a7p a b w ha (by omega) he he2
theorem b5y(a b:ByteArray)(w:World)(ha:a.size≤270000)(hb:b.size≤270000)(he:errQ a.data.toList=0)(he2:errQ b.data.toList=0) :
  Calls prog 119 #[.string a,.string b] w fun e w'=>e=.returned (.tuple #[.int .i64 (cmpQ (valQ a.data.toList) (valQ b.data.toList)),.int .i64 0])∧Below w.heap.size w w':=by
 have HT:=b9W (fun w=>a9J a b w ha hb he he2);have sp:=a17 he;have sq:=a17 he2;generalize valQ a.data.toList=p at *;generalize valQ b.data.toList=q at *;obtain⟨lp,lp'⟩:=a1g sp;obtain⟨lq,lq'⟩:=a1g sq;clear he he2;have HO:=b9W (fun v v' w h h'=>b2V p q v v' w h h' (by omega) (by omega) (by omega) (by omega));generalize cmpQ p q=r at HO ⊢;clear sp sq
 go_enter func119,ntmps119
 go_wp2_with (first
  | (go_at_call 152;refine(HT.out _).mono ?_;rintro e w1 ⟨v,v',rfl,hv,hv',hb⟩;obtain⟨bp,N,D,A,c,A',c',rfl,hn,hd,HP⟩:=a0w hv;obtain⟨bq,N',D',B,d,B',d',rfl,hn',hd',HQ⟩:=a0w hv';have HV:=b9W hv;have HV':=b9W hv';have HB:=b9W hb;have HX:=b9W (a0d (a0d (Below.refl w1.heap.size w1) (.cells #[.bool bp,.slice A (toL N).length c,.slice A' (toL D).length c'] 170)) (.cells #[.bool bq,.slice B (toL N').length d,.slice B' (toL D').length d'] 170));have HBX:=b9W (HB.out.trans (HX.out.mono HB.out.size));clear hb hv hv' hn hd hn' hd')
  | (go_at_call 201;refine(HO.out _ _ _ (HV.out.below HX.out) (HV'.out.below HX.out)).mono ?_;rintro e w2 ⟨rfl,hb2⟩;have HB2:=b9W (HBX.out.trans (hb2.mono HBX.out.size));clear hb2))
 refine bodyPost_ret (results_tmp2 rfl _ _ _) rfl ?_;exact⟨rfl,HB2.out⟩
theorem a6W(a b:ByteArray)(w:World)(ha:a.size≤270000)(hb:b.size≤270000) :
  Calls prog 119 #[.string a,.string b] w fun e w'=>e=.returned (resI (twoI (fun p q=>(cmpQ p q,0)) a.data.toList b.data.toList))∧Below w.heap.size w w':=by
 unfold twoI
 by_cases he:errQ a.data.toList=0
 ·rw[if_neg (by omega)]
  by_cases he2:errQ b.data.toList=0
  ·rw[if_neg (by omega)]
   exact b5y a b w ha hb he he2
  ·rw[if_pos he2]
   exact b2J a b w ha hb he he2
 ·rw[if_pos he]
  exact b2e a b w ha hb he
theorem b9T(a b:ByteArray)(w:World)(ha:a.size≤270000)(hb:b.size≤270000) :
  Calls prog 270 #[.string a,.string b] w fun e w'=>e=.returned (resS (a35 (twoI (fun p q=>(cmpQ p q,0)) a.data.toList b.data.toList) (1) a b))∧Below w.heap.size w w':=by
 have HB:=b9W (a6W a b w ha hb);obtain⟨z1,z2⟩:=a7h a.data.toList b.data.toList;generalize twoI (fun p q=>(cmpQ p q,0)) a.data.toList b.data.toList=r at HB z1 z2 ⊢;obtain⟨c,e0⟩:=r
 dsimp only at z1 z2
 unfold resI at HB;unfold a35 resS
 dsimp only at HB ⊢
 by_cases he:e0=0
 ·subst he
  rw[if_neg (by omega)]
  by_cases hp:c≤0
  ·rw[if_neg (by omega)]
   have hp':decide (c≤0)=true:=decide_eq_true hp
   go_enter func270,ntmps270
   go_wp2_with (go_at_call 119;refine HB.out.mono ?_;rintro e w2 ⟨rfl,hb2⟩;have HB2:=b9W hb2;clear hb2)
   refine bodyPost_ret (results_tmp2 rfl _ _ _) rfl ?_;exact⟨rfl,HB2.out⟩
  ·rw[if_pos (by omega)]
   have hp':decide (c≤0)=false:=decide_eq_false hp
   go_enter func270,ntmps270
   go_wp2_with (go_at_call 119;refine HB.out.mono ?_;rintro e w2 ⟨rfl,hb2⟩;have HB2:=b9W hb2;clear hb2)
   refine bodyPost_ret (results_tmp2 rfl _ _ _) rfl ?_;exact⟨rfl,HB2.out⟩
 ·rw[if_pos he]
  have hne:((e0:Int)==0)=false:=by rw[beq_eq_false_iff_ne];omega
  have HE:=b9W he;clear he
  go_enter func270,ntmps270
  go_wp2_with (go_at_call 119;refine HB.out.mono ?_;rintro e w2 ⟨rfl,hb2⟩;have HB2:=b9W hb2;clear hb2)
  refine bodyPost_ret (results_tmp2 rfl _ _ _) rfl ?_;exact⟨rfl,HB2.out⟩
theorem b30(a b:ByteArray)(w:World)(ha:a.size≤270000)(hb:b.size≤270000) :
  Calls prog 57 #[.string a,.string b] w fun e w'=>e=.returned (resS (a35 (twoI (fun p q=>(cmpQ p q,0)) a.data.toList b.data.toList) (-1) a b))∧Below w.heap.size w w':=by
 have HB:=b9W (a6W a b w ha hb);obtain⟨z1,z2⟩:=a7h a.data.toList b.data.toList;generalize twoI (fun p q=>(cmpQ p q,0)) a.data.toList b.data.toList=r at HB z1 z2 ⊢;obtain⟨c,e0⟩:=r
 dsimp only at z1 z2
 unfold resI at HB;unfold a35 resS
 dsimp only at HB ⊢
 by_cases he:e0=0
 ·subst he
  rw[if_neg (by omega)]
  by_cases hp:c ≥ 0
  ·rw[if_neg (by omega)]
   have hp':decide (c ≥ 0)=true:=decide_eq_true hp
   go_enter func57,ntmps57
   go_wp2_with (go_at_call 119;refine HB.out.mono ?_;rintro e w2 ⟨rfl,hb2⟩;have HB2:=b9W hb2;clear hb2)
   refine bodyPost_ret (results_tmp2 rfl _ _ _) rfl ?_;exact⟨rfl,HB2.out⟩
  ·rw[if_pos (by omega)]
   have hp':decide (c ≥ 0)=false:=decide_eq_false hp
   go_enter func57,ntmps57
   go_wp2_with (go_at_call 119;refine HB.out.mono ?_;rintro e w2 ⟨rfl,hb2⟩;have HB2:=b9W hb2;clear hb2)
   refine bodyPost_ret (results_tmp2 rfl _ _ _) rfl ?_;exact⟨rfl,HB2.out⟩
 ·rw[if_pos he]
  have hne:((e0:Int)==0)=false:=by rw[beq_eq_false_iff_ne];omega
  have HE:=b9W he;clear he
  go_enter func57,ntmps57
  go_wp2_with (go_at_call 119;refine HB.out.mono ?_;rintro e w2 ⟨rfl,hb2⟩;have HB2:=b9W hb2;clear hb2)
  refine bodyPost_ret (results_tmp2 rfl _ _ _) rfl ?_;exact⟨rfl,HB2.out⟩
end Go.Proofs.YtigapglmipmbeaaGreatDoor
namespace Go.Proofs.YtigapglmipmbeaaGreatDoor
open Go.RowKit Go.Shelf
open Lim
theorem b5k(n k:Nat):n / 2 ^ k=2*(n / 2 ^ (k+1))+n / 2 ^ k % 2:=by
 rw[Nat.pow_succ,← Nat.div_div_eq_div_mul];omega
theorem b7p(x n k:Nat):x ^ (n / 2 ^ k)=if n / 2 ^ k % 2=1 then x ^ (n / 2 ^ (k+1))*x ^ (n / 2 ^ (k+1))*x else x ^ (n / 2 ^ (k+1))*x ^ (n / 2 ^ (k+1)):=by
 conv=>lhs;rw[b5k n k]
 by_cases h:n / 2 ^ k % 2=1
 ·rw[if_pos h,h,Nat.pow_succ,Nat.two_mul,Nat.pow_add]
 ·have h0:n / 2 ^ k % 2=0:=by omega
  rw[if_neg h,h0,Nat.add_zero,Nat.two_mul,Nat.pow_add]
theorem b2q{x m n:Nat}(hx:1≤x)(h:m≤n):Lib.nDigits (x ^ m)≤Lib.nDigits (x ^ n):=a3T (Nat.pow_le_pow_right hx h)
theorem b8d{x:Nat}(h:Lib.nDigits x≤4000):(toL x).length≤445:=a1l h (by omega)
theorem b7o(n:Int):bits .and .i64 n 1=n % 2:=by
 have h1:(BitVec.ofInt 64 1).toNat=2 ^ 1 - 1:=by decide
 have key:(BitVec.ofInt 64 n &&& BitVec.ofInt 64 1).toNat=(n % ((2 ^ 64:Nat):Int)).toNat % 2 ^ 1:=by
  rw[BitVec.toNat_and,BitVec.toNat_ofInt,h1,Nat.and_two_pow_sub_one_eq_mod]
 show IntKind.i64.wrap ((BitVec.ofInt 64 n &&& BitVec.ofInt 64 1).toNat:Nat)=n % 2
 rw[key,IntKind.wrap_i64]
 omega
theorem b89(n k:Nat):bits .and .i64 ((n:Int) / 2 ^ k) 1=((n / 2 ^ k % 2:Nat):Int):=by
 rw[b7o]
 simp
theorem b4X(n:Int)(w:World)(_h0:-9223372036854775808≤n)(_h1:n≤9223372036854775807) :
  Calls prog 271 #[.int .i64 n] w fun e w'=>e=.returned (.bool (decide (n.natAbs % 2=1)))∧w'=w:=by
 have hm:(!(n.tmod 2==0))=decide (n.natAbs % 2=1):=by
  have h:=Int.tmod_eq_emod (a:=n) (b:=2)
  by_cases h2:n.natAbs % 2=1
  ·rw[decide_eq_true h2]
   have:n.tmod 2≠0:=by
    intro e;have:=Int.natAbs_tmod n 2;rw[e]at this
    simp at this
    omega
   simp[this]
  ·rw[decide_eq_false h2]
   have:n.tmod 2=0:=by
    have:=Int.natAbs_tmod n 2;have h3:(n.tmod 2).natAbs=0:=by rw[this];show n.natAbs % 2=0;omega
    exact Int.natAbs_eq_zero.1 h3
   simp[this]
 rw[← hm];clear hm
 go_enter func271,ntmps271
 go_wp2
 go_ret
 exact⟨rfl,rfl⟩
theorem b6b(x n:Nat)(vx:Value)(w:World)(hx:a0u w vx x)(h2:2≤x)(h1:1≤n)(hn:n≤9223372036854775807)(hlx:(toL x).length≤500) :
  Calls prog 272 #[vx,.int .i64 (n:Int)] w fun e w'=>∃ v,e=.returned (.tuple #[v,.bool (decide (Lib.nDigits (x ^ n)≤4000))])∧(Lib.nDigits (x ^ n)≤4000→a0u w' v (x ^ n))∧(∃ A l c,v=.slice A l c)∧Below w.heap.size w w':=by
 obtain⟨A,c,rfl,_,_,_⟩:=id hx;have hb1:=a0d (Below.refl w.heap.size w) (.cells #[.int .i64 1] 3);have e1:toL 1=[1]:=by rw[a19 (by omega)];simp[a0B,a0E]
 have h1n:a0u (w.alloc (.cells #[.int .i64 1] 3)) (.slice (some ⟨w.heap.size,0,none⟩) 1 1) 1:=by
  refine⟨some ⟨w.heap.size,0,none⟩,1,by rw[e1];rfl,by rw[e1];decide,by decide,?_⟩;rw[e1];exact(Blk.new w 3 #[.int .i64 1]).row (xs:=[.int .i64 1])
 have HX0:=b9W hx;have HX:=b9W (hx.below hb1);have H1:=b9W h1n;have HB1:=b9W hb1;have hsg:decide (sgn x 1≤0)=false:=decide_eq_false (by unfold sgn;rw[if_neg (by omega),if_pos (by omega)];omega);have hn0:((n:Int)==0)=false:=by rw[beq_eq_false_iff_ne];omega
 have HL1:=b9W (show (toL 1).length≤100000 by rw[e1];decide);have H2:=b9W h2;clear hx hb1 h1n e1 h2
 go_enter func272,ntmps272
 go_wp2_with (go_at_call 232;refine(a12 x 1 _ _ _ HX.out H1.out (by omega) HL1.out).mono ?_;rintro e w2 ⟨rfl,hb2⟩;have HB2:=b9W (HB1.out.trans (hb2.mono HB1.out.size));have HX2:=b9W (HX.out.below hb2);have H12:=b9W (H1.out.below hb2);clear hb2)
 go_loopw [7,8] (fun v7 s8 wr=>∃ k:Nat,k≤63∧s8=.int .i64 ((k:Int) - 1)∧(∃ A l c,v7=.slice A l c)∧a0u wr v7 (x ^ (n / 2 ^ k))∧Lib.nDigits (x ^ (n / 2 ^ k))≤4000∧Below w.heap.size w wr) (fun _ s8 _=>(intOf s8+1).toNat)
 case atStart =>
  have e0:n / 2 ^ 63=0:=Nat.div_eq_of_lt (by omega);exact⟨63,Nat.le_refl _,rfl,⟨_,_,_,rfl⟩,by rw[e0,Nat.pow_zero];exact H12.out,by rw[e0,Nat.pow_zero,Lib.nDigits_small (by omega)];omega,HB2.out⟩
 case round =>
  obtain⟨k,hk,hs8,⟨A7,l7,c7,rfl⟩,hv7,hd7,hbr⟩:=hrel;have HBR:=b9W hbr;have HV7:=b9W hv7;have HD7:=b9W hd7;have HX7:=b9W (HX0.out.below hbr);clear hv7 hd7 hbr
  rcases Nat.eq_zero_or_pos k with rfl|hkp
  ·rw[show ((0:Nat):Int) - 1=-1 from rfl]at hs8
   subst hs8;have e1:n / 2 ^ 0=n:=by simp
   go_wp2;refine bodyPost_ret (results_tmp2 rfl _ _ _) rfl ?_;have hd:=HD7.out;have hv:=HV7.out;rw[e1]at hd hv;exact⟨_,by rw[decide_eq_true hd];rfl,fun _=>hv,⟨_,_,_,rfl⟩,HBR.out⟩
  ·obtain⟨j,rfl⟩:∃ j,k=j+1:=⟨k - 1,by omega⟩
   rw[show ((j+1:Nat):Int) - 1=(j:Int) by omega]at hs8;subst hs8;have hj:j≤62:=by omega
   have hmin:min j 64=j:=Nat.min_eq_left (by omega);have hph:=b7p x n j;have HBA:=b9W (b89 n j);have hmono:Lib.nDigits (x ^ (n / 2 ^ j))≤Lib.nDigits (x ^ n):=b2q (by have:=H2.out;omega) (Nat.div_le_self _ _);have ly:=b8d HD7.out;generalize x ^ (n / 2 ^ (j+1))=y at *;have lyy:(toL (y*y)).length≤890:=Nat.le_trans (a0D _ _) (by omega);have lyx:(toL (y*y*x)).length≤1400:=Nat.le_trans (a0D _ _) (by omega);generalize hz:x ^ (n / 2 ^ j)=z at *;have HZ:=b9W hz;clear hz;have HM:=b9W hmono;have HLL:=b9W (And.intro ly (And.intro lyy lyx));clear hmono ly lyy lyx;have TK1:True:=trivial
   by_cases hb:n / 2 ^ j % 2=1
   ·rw[if_pos hb]at hph
    have HPH:=b9W hph;have hbv:bits .and .i64 ((n:Int) / 2 ^ j) 1=1:=by rw[HBA.out,hb];rfl
    clear hph hb
    by_cases hbig:4000 < Lib.nDigits z
    ·have HBIG:=b9W hbig
     clear hbig
     go_wp2_with (first
      | (clear TK1;go_at_call 231;refine(a1d y y _ _ _ HV7.out HV7.out (Nat.le_trans HLL.out.1 (by omega)) (Nat.le_trans HLL.out.1 (by omega))).mono ?_;rintro e w3 ⟨v3,rfl,hv3,hb3⟩;obtain⟨A3,c3,rfl,_,_,_⟩:=id hv3;have HV3:=b9W hv3;have HB3:=b9W (HBR.out.trans (hb3.mono HBR.out.size));have HX3:=b9W (HX7.out.below hb3);clear hv3 hb3)
      | (go_at_call 231;refine(a1d (y*y) x _ _ _ HV3.out HX3.out (Nat.le_trans HLL.out.2.1 (by omega)) (by omega)).mono ?_;rintro e w4 ⟨v4,rfl,hv4,hb4⟩;obtain⟨A4,c4,rfl,_,_,_⟩:=id hv4;have HV4:=b9W hv4;have HB4:=b9W (HB3.out.trans (hb4.mono HB3.out.size));clear hv4 hb4)
      | (go_at_call 228;refine(a1e (y*y*x) _ _ HV4.out (Nat.le_trans HLL.out.2.2 (by omega))).mono ?_;rintro e w5 ⟨s5,rfl,hs5,hz5,hb5⟩;rw[← HPH.out]at hz5;have hsz:decide ((4000:Int) < (s5.size:Int))=true:=(decide_eq_true (by have:=HBIG.out;omega));have HB5:=b9W (HB4.out.trans (hb5.mono HB4.out.size));have HVZ:=b9W (HV4.out.below hb5);clear hb5 hz5 hs5))
     refine bodyPost_ret (results_tmp2 rfl _ _ _) rfl ?_;have hno:¬ Lib.nDigits (x ^ n)≤4000:=by have:=HM.out;have:=HBIG.out;omega
     exact⟨_,by rw[decide_eq_false hno];rfl,fun h=>absurd h hno,⟨_,_,_,rfl⟩,HB5.out⟩
    ·have HBIG:=b9W hbig
     clear hbig
     go_wp2_with (first
      | (clear TK1;go_at_call 231;refine(a1d y y _ _ _ HV7.out HV7.out (Nat.le_trans HLL.out.1 (by omega)) (Nat.le_trans HLL.out.1 (by omega))).mono ?_;rintro e w3 ⟨v3,rfl,hv3,hb3⟩;obtain⟨A3,c3,rfl,_,_,_⟩:=id hv3;have HV3:=b9W hv3;have HB3:=b9W (HBR.out.trans (hb3.mono HBR.out.size));have HX3:=b9W (HX7.out.below hb3);clear hv3 hb3)
      | (go_at_call 231;refine(a1d (y*y) x _ _ _ HV3.out HX3.out (Nat.le_trans HLL.out.2.1 (by omega)) (by omega)).mono ?_;rintro e w4 ⟨v4,rfl,hv4,hb4⟩;obtain⟨A4,c4,rfl,_,_,_⟩:=id hv4;have HV4:=b9W hv4;have HB4:=b9W (HB3.out.trans (hb4.mono HB3.out.size));clear hv4 hb4)
      | (go_at_call 228;refine(a1e (y*y*x) _ _ HV4.out (Nat.le_trans HLL.out.2.2 (by omega))).mono ?_;rintro e w5 ⟨s5,rfl,hs5,hz5,hb5⟩;rw[← HPH.out]at hz5;have hsz:decide ((4000:Int) < (s5.size:Int))=false:=(decide_eq_false (by have:=HBIG.out;omega));have HB5:=b9W (HB4.out.trans (hb5.mono HB4.out.size));have HVZ:=b9W (HV4.out.below hb5);clear hb5 hz5 hs5))
     go_roundw
     case rel =>
      refine⟨j,by omega,by go_num,⟨_,_,_,rfl⟩,?_,?_,HB5.out⟩
      ·rw[HZ.out,HPH.out];exact HVZ.out
      ·rw[HZ.out];have:=HBIG.out;omega
     case measure=>simp[intOf]<;>omega
   ·rw[if_neg hb]at hph
    have HPH:=b9W hph;have hbv:bits .and .i64 ((n:Int) / 2 ^ j) 1=0:=by rw[HBA.out,show n / 2 ^ j % 2=0 by omega];rfl
    clear hph hb
    by_cases hbig:4000 < Lib.nDigits z
    ·have HBIG:=b9W hbig
     clear hbig
     go_wp2_with (first
      | (clear TK1;go_at_call 231;refine(a1d y y _ _ _ HV7.out HV7.out (Nat.le_trans HLL.out.1 (by omega)) (Nat.le_trans HLL.out.1 (by omega))).mono ?_;rintro e w3 ⟨v3,rfl,hv3,hb3⟩;obtain⟨A3,c3,rfl,_,_,_⟩:=id hv3;have HV3:=b9W hv3;have HB3:=b9W (HBR.out.trans (hb3.mono HBR.out.size));have HX3:=b9W (HX7.out.below hb3);clear hv3 hb3)
      | (go_at_call 228;refine(a1e (y*y) _ _ HV3.out (Nat.le_trans HLL.out.2.1 (by omega))).mono ?_;rintro e w5 ⟨s5,rfl,hs5,hz5,hb5⟩;rw[← HPH.out]at hz5;have hsz:decide ((4000:Int) < (s5.size:Int))=true:=(decide_eq_true (by have:=HBIG.out;omega));have HB5:=b9W (HB3.out.trans (hb5.mono HB3.out.size));have HVZ:=b9W (HV3.out.below hb5);clear hb5 hz5 hs5))
     refine bodyPost_ret (results_tmp2 rfl _ _ _) rfl ?_;have hno:¬ Lib.nDigits (x ^ n)≤4000:=by have:=HM.out;have:=HBIG.out;omega
     exact⟨_,by rw[decide_eq_false hno];rfl,fun h=>absurd h hno,⟨_,_,_,rfl⟩,HB5.out⟩
    ·have HBIG:=b9W hbig
     clear hbig
     go_wp2_with (first
      | (clear TK1;go_at_call 231;refine(a1d y y _ _ _ HV7.out HV7.out (Nat.le_trans HLL.out.1 (by omega)) (Nat.le_trans HLL.out.1 (by omega))).mono ?_;rintro e w3 ⟨v3,rfl,hv3,hb3⟩;obtain⟨A3,c3,rfl,_,_,_⟩:=id hv3;have HV3:=b9W hv3;have HB3:=b9W (HBR.out.trans (hb3.mono HBR.out.size));have HX3:=b9W (HX7.out.below hb3);clear hv3 hb3)
      | (go_at_call 228;refine(a1e (y*y) _ _ HV3.out (Nat.le_trans HLL.out.2.1 (by omega))).mono ?_;rintro e w5 ⟨s5,rfl,hs5,hz5,hb5⟩;rw[← HPH.out]at hz5;have hsz:decide ((4000:Int) < (s5.size:Int))=false:=(decide_eq_false (by have:=HBIG.out;omega));have HB5:=b9W (HB3.out.trans (hb5.mono HB3.out.size));have HVZ:=b9W (HV3.out.below hb5);clear hb5 hz5 hs5))
     go_roundw
     case rel =>
      refine⟨j,by omega,by go_num,⟨_,_,_,rfl⟩,?_,?_,HB5.out⟩
      ·rw[HZ.out,HPH.out];exact HVZ.out
      ·rw[HZ.out];have:=HBIG.out;omega
     case measure=>simp[intOf]<;>omega
theorem b4C(x:Nat)(vx:Value)(w:World)(hx:a0u w vx x) :
  Calls prog 272 #[vx,.int .i64 0] w fun e w'=>∃ v,e=.returned (.tuple #[v,.bool true])∧a0u w' v 1∧(∃ A l c,v=.slice A l c)∧Below w.heap.size w w':=by
 obtain⟨A,c,rfl,_,_,_⟩:=hx;have hb1:=a0d (Below.refl w.heap.size w) (.cells #[.int .i64 1] 3);have e1:toL 1=[1]:=by rw[a19 (by omega)];simp[a0B,a0E]
 have h1n:a0u (w.alloc (.cells #[.int .i64 1] 3)) (.slice (some ⟨w.heap.size,0,none⟩) 1 1) 1:=by
  refine⟨some ⟨w.heap.size,0,none⟩,1,by rw[e1];rfl,by rw[e1];decide,by decide,?_⟩;rw[e1];exact(Blk.new w 3 #[.int .i64 1]).row (xs:=[.int .i64 1])
 have H1:=b9W h1n;have HB1:=b9W hb1;clear hb1 h1n e1
 go_enter func272,ntmps272
 go_wp2;refine bodyPost_ret (results_tmp2 rfl _ _ _) rfl ?_;exact⟨_,rfl,H1.out,⟨_,_,_,rfl⟩,HB1.out⟩
theorem b2T(x n:Nat)(vx:Value)(w:World)(hx:a0u w vx x)(h2:x≤1)(h1:1≤n)(hn:n≤9223372036854775807) :
  Calls prog 272 #[vx,.int .i64 (n:Int)] w fun e w'=>∃ v,e=.returned (.tuple #[v,.bool true])∧a0u w' v x∧(∃ A l c,v=.slice A l c)∧Below w.heap.size w w':=by
 have hlx:(toL x).length≤1:=a11 (by rw[a0B];omega);obtain⟨A,c,rfl,_,_,_⟩:=id hx;have hb1:=a0d (Below.refl w.heap.size w) (.cells #[.int .i64 1] 3);have e1:toL 1=[1]:=by rw[a19 (by omega)];simp[a0B,a0E]
 have h1n:a0u (w.alloc (.cells #[.int .i64 1] 3)) (.slice (some ⟨w.heap.size,0,none⟩) 1 1) 1:=by
  refine⟨some ⟨w.heap.size,0,none⟩,1,by rw[e1];rfl,by rw[e1];decide,by decide,?_⟩;rw[e1];exact(Blk.new w 3 #[.int .i64 1]).row (xs:=[.int .i64 1])
 have HX:=b9W (hx.below hb1);have H1:=b9W h1n;have HB1:=b9W hb1;have hsg:decide (sgn x 1≤0)=true:=decide_eq_true (by unfold sgn;split<;>(try split)<;>omega);have hn0:((n:Int)==0)=false:=by rw[beq_eq_false_iff_ne];omega
 have HL1:=b9W (show (toL 1).length≤100000 by rw[e1];decide);have HN0:=b9W h1;clear hx hb1 h1n e1 h2 h1
 go_enter func272,ntmps272
 go_wp2_with (go_at_call 232;refine(a12 x 1 _ _ _ HX.out H1.out (by omega) HL1.out).mono ?_;rintro e w2 ⟨rfl,hb2⟩;have HB2:=b9W (HB1.out.trans (hb2.mono HB1.out.size));have HX2:=b9W (HX.out.below hb2);clear hb2)
 all_goals first
  | (refine bodyPost_ret (results_tmp2 rfl _ _ _) rfl ?_;exact⟨_,rfl,HX2.out,⟨_,_,_,rfl⟩,HB2.out⟩)
  | (exfalso;have:=HN0.out;omega)
theorem a2w(x n:Nat)(vx:Value)(w:World)(hx:a0u w vx x)(hn:n≤9223372036854775807)(hlx:(toL x).length≤500) :
  Calls prog 272 #[vx,.int .i64 (n:Int)] w fun e w'=>∃ v,e=.returned (.tuple #[v,.bool (decide (Lib.nDigits (x ^ n)≤4000))])∧(Lib.nDigits (x ^ n)≤4000→a0u w' v (x ^ n))∧(∃ A l c,v=.slice A l c)∧Below w.heap.size w w':=by
 rcases Nat.eq_zero_or_pos n with rfl|h1
 ·refine(b4C x vx w hx).mono ?_
  rintro e w' ⟨v,rfl,h,hs,hb⟩;rw[Nat.pow_zero];exact⟨v,by rw[decide_eq_true (by rw[Lib.nDigits_small (by omega)];omega)],fun _=>h,hs,hb⟩
 ·by_cases h2:2≤x
  ·exact b6b x n vx w hx h2 h1 hn hlx
  ·refine(b2T x n vx w hx (by omega) h1 hn).mono ?_
   rintro e w' ⟨v,rfl,h,hs,hb⟩;have hxn:x ^ n=x:=by
    rcases (show x=0∨x=1 by omega) with rfl|rfl
    ·exact Nat.zero_pow h1
    ·exact Nat.one_pow n
   rw[hxn];exact⟨v,by rw[decide_eq_true (by rw[Lib.nDigits_small (by omega)];omega)],fun _=>h,hs,hb⟩
theorem b6R{w:World}{g:Nat}{t:TypeId}{x y z:Value}(h:Blk w g t #[x,y,z]) :
  (w.cell? ⟨g,0,none⟩=some x∧w.frozen? ⟨g,0,none⟩=false)∧(w.cell? ⟨g,1,none⟩=some y∧w.frozen? ⟨g,1,none⟩=false)∧w.cell? ⟨g,2,none⟩=some z∧w.frozen? ⟨g,2,none⟩=false :=
 ⟨⟨(a0W h 0 (by simp)).1,h.frozen 0⟩,⟨(a0W h 1 (by simp)).1,h.frozen 1⟩,(a0W h 2 (by simp)).1,h.frozen 2⟩
theorem b6K(a:ByteArray)(q:Rat)(M:Nat)(w:World)(ha:a.size≤270000)(he:errQ a.data.toList=0)(hq:valQ a.data.toList=q)(hb:ng q=true)(hM:M≤9223372036854775807)(hf1:decide (Lib.nDigits (nm q ^ M)≤4000)=false)(sq:Sz maxD q) :
  Calls prog 240 #[.string a,.int .i64 (M:Int)] w fun e w'=>e=.returned (.tuple #[.string ⟨#[]⟩,.int .i64 5])∧Below w.heap.size w w':=by
 have HP:=b9W (a4k a w ha);have hne:((errQ a.data.toList:Int)==0)=true:=by rw[he];rfl
 have HE:=b9W he;rw[hq]at HP;obtain⟨lq,lq'⟩:=a1g sq;have HBQ:=b9W hb;have lr1:(toL (nm q)).length≤500:=by omega
 have lr2:(toL q.den).length≤500:=by omega
 have hn2:decide ((M:Int) < 0)=false:=decide_eq_false (by omega);have hn3:((M:Int)==-9223372036854775808)=false:=by rw[beq_eq_false_iff_ne];omega
 have HL1:=b9W lr1;have HL2:=b9W lr2;have HF1:=b9W hf1;have TK1:True:=trivial;clear he hq hb sq lr1 lr2 hf1
 go_enter func240,ntmps240
 go_wp2_with (first
  | (go_at_call 155;refine HP.out.mono ?_;rintro e w1 ⟨v,rfl,hv,-,hb⟩;obtain⟨bq,N,D,A,c,A',c',rfl,hn,hd,HQ⟩:=a0w (hv HE.out);have HV:=b9W (hv HE.out);have HB:=b9W hb;have HX:=b9W (a0d (Below.refl w1.heap.size w1) (.cells #[.bool bq,.slice A (toL N).length c,.slice A' (toL D).length c'] 170));have HBX:=b9W (HB.out.trans (HX.out.mono HB.out.size));have HN:=b9W (hn.below HX.out);have HD:=b9W (hd.below HX.out);have HPB:=b9W (Blk.new w1 170 #[.bool bq,.slice A (toL N).length c,.slice A' (toL D).length c']);clear hb hv hn hd;obtain rfl:bq=true:=HQ.out.1.symm.trans HBQ.out;obtain rfl:=HQ.out.2.1;obtain rfl:=HQ.out.2.2)
  | (go_at_call 271;refine(b4X (M:Int) _ (by omega) (by omega)).mono ?_;rintro e w4 ⟨rfl,hw4⟩;subst hw4)
  | (clear TK1;go_at_call 272;refine(a2w (nm q) M _ _ HN.out (by omega) HL1.out).mono ?_;rintro e w5 ⟨v5,rfl,hv5,⟨A5,l5,c5,rfl⟩,hb5⟩;rw[HF1.out];have HV5:=b9W hv5;have HD5:=b9W (HD.out.below hb5);have HB5:=b9W (HBX.out.trans (hb5.mono HBX.out.size));obtain⟨y0,y1,y2⟩:=a1u (HPB.out.below hb5 HPB.out.lt);clear hv5 hb5)
  | (go_at_call 272;refine(a2w q.den M _ _ HD5.out (by omega) HL2.out).mono ?_;rintro e w6 ⟨v6,rfl,hv6,⟨A6,l6,c6,rfl⟩,hb6⟩;have HV6:=b9W hv6;have HB6:=b9W (HB5.out.trans (hb6.mono HB5.out.size));have HZ6:=b9W hb6;clear hv6 hb6))
 all_goals first
  | (refine bodyPost_ret (results_tmp2 rfl _ _ _) rfl ?_;exact⟨rfl,HB6.out⟩)
  | (exfalso;omega)
theorem a7y(a:ByteArray)(q:Rat)(M:Nat)(w:World)(ha:a.size≤270000)(he:errQ a.data.toList=0)(hq:valQ a.data.toList=q)(hb:ng q=false)(hM:M≤9223372036854775807)(hf1:decide (Lib.nDigits (nm q ^ M)≤4000)=true)(hf2:decide (Lib.nDigits (q.den ^ M)≤4000)=true)(r:List UInt8 × Nat)(hW:∀ v w,a08 w v false (nm q ^ M) (q.den ^ M)→Calls prog 153 #[v] w fun e w'=>e=.returned (.tuple #[.string ⟨r.1.toArray⟩,.int .i64 (r.2:Int)])∧Below w.heap.size w w')(sq:Sz maxD q) :
  Calls prog 240 #[.string a,.int .i64 (M:Int)] w fun e w'=>e=.returned (.tuple #[.string ⟨r.1.toArray⟩,.int .i64 (r.2:Int)])∧Below w.heap.size w w':=by
 have HP:=b9W (a4k a w ha);have hne:((errQ a.data.toList:Int)==0)=true:=by rw[he];rfl
 have HE:=b9W he;rw[hq]at HP;obtain⟨lq,lq'⟩:=a1g sq;have HBQ:=b9W hb;have lr1:(toL (nm q)).length≤500:=by omega
 have lr2:(toL q.den).length≤500:=by omega
 have hn2:decide ((M:Int) < 0)=false:=decide_eq_false (by omega);have hn3:((M:Int)==-9223372036854775808)=false:=by rw[beq_eq_false_iff_ne];omega
 have HL1:=b9W lr1;have HL2:=b9W lr2;have HF1:=b9W hf1;have HF2:=b9W hf2;have HW:=b9W hW;have TK1:True:=trivial;clear he hq hb sq lr1 lr2 hf1 hf2 hW
 go_enter func240,ntmps240
 go_wp2_with (first
  | (go_at_call 155;refine HP.out.mono ?_;rintro e w1 ⟨v,rfl,hv,-,hb⟩;obtain⟨bq,N,D,A,c,A',c',rfl,hn,hd,HQ⟩:=a0w (hv HE.out);have HV:=b9W (hv HE.out);have HB:=b9W hb;have HX:=b9W (a0d (Below.refl w1.heap.size w1) (.cells #[.bool bq,.slice A (toL N).length c,.slice A' (toL D).length c'] 170));have HBX:=b9W (HB.out.trans (HX.out.mono HB.out.size));have HN:=b9W (hn.below HX.out);have HD:=b9W (hd.below HX.out);have HPB:=b9W (Blk.new w1 170 #[.bool bq,.slice A (toL N).length c,.slice A' (toL D).length c']);clear hb hv hn hd;obtain rfl:bq=false:=HQ.out.1.symm.trans HBQ.out;obtain rfl:=HQ.out.2.1;obtain rfl:=HQ.out.2.2)
  | (clear TK1;go_at_call 272;refine(a2w (nm q) M _ _ HN.out (by omega) HL1.out).mono ?_;rintro e w5 ⟨v5,rfl,hv5,⟨A5,l5,c5,rfl⟩,hb5⟩;rw[HF1.out];have HV5:=b9W hv5;have HD5:=b9W (HD.out.below hb5);have HB5:=b9W (HBX.out.trans (hb5.mono HBX.out.size));obtain⟨y0,y1,y2⟩:=a1u (HPB.out.below hb5 HPB.out.lt);clear hv5 hb5)
  | (go_at_call 272;refine(a2w q.den M _ _ HD5.out (by omega) HL2.out).mono ?_;rintro e w6 ⟨v6,rfl,hv6,⟨A6,l6,c6,rfl⟩,hb6⟩;rw[HF2.out];have HV6:=b9W hv6;have HB6:=b9W (HB5.out.trans (hb6.mono HB5.out.size));have HZ6:=b9W hb6;clear hv6 hb6)
  | (go_at_call 153;refine(HW.out _ _ (a07 ((HV5.out (of_decide_eq_true HF1.out)).below HZ6.out) (HV6.out (of_decide_eq_true HF2.out)))).mono ?_;rintro e w7 ⟨rfl,hb7⟩;have HB7:=b9W (HB6.out.trans (hb7.mono HB6.out.size));clear hb7))
 all_goals first
  | (refine bodyPost_ret (results_tmp2 rfl _ _ _) rfl ?_;exact⟨rfl,HB7.out⟩)
  | (exfalso;omega)
theorem b6P(a:ByteArray)(q:Rat)(M:Nat)(w:World)(ha:a.size≤270000)(he:errQ a.data.toList=0)(hq:valQ a.data.toList=q)(hb:ng q=true)(h0:q≠0)(hM:M≤9223372036854775807)(hM1:1≤M)(hf1:decide (Lib.nDigits (nm q⁻¹ ^ M)≤4000)=false)(sq:Sz maxD q) :
  Calls prog 240 #[.string a,.int .i64 (-(M:Int))] w fun e w'=>e=.returned (.tuple #[.string ⟨#[]⟩,.int .i64 5])∧Below w.heap.size w w':=by
 have HP:=b9W (a4k a w ha);have hne:((errQ a.data.toList:Int)==0)=true:=by rw[he];rfl
 have HE:=b9W he;rw[hq]at HP;obtain⟨lq,lq'⟩:=a1g sq;have HBQ:=b9W hb;obtain⟨i1,i2,i3⟩:=a2G h0;have HIV:=b9W (And.intro i1 (And.intro i2 i3));have HZ:=b9W h0;have HNZ:=b9W (fun (N:Nat) (h:nm q=N)=>show (((toL N).length:Int)==0)=false by rw[a2g,decide_eq_false (fun h2=>h0 (a76.1 (h.trans h2)))]);have HNN:=b9W (fun (N:Nat) (h:nm q=N)=>show (toL N).length≠0 from fun h2=>by have:=HNZ.out N h;rw[h2]at this;cases this);have lr1:(toL (nm q⁻¹)).length≤500:=by rw[i2];omega
 have lr2:(toL q⁻¹.den).length≤500:=by rw[i3];omega
 obtain⟨X,hX⟩:∃ X,nm q⁻¹=X:=⟨_,rfl⟩;obtain⟨Y,hY⟩:∃ Y,q⁻¹.den=Y:=⟨_,rfl⟩;rw[hX]at hf1 lr1;rw[hY]at lr2;have HXX:=b9W hX;have HYY:=b9W hY;clear hX hY;have hn2:decide (-(M:Int) < 0)=true:=decide_eq_true (by omega);have hn3:(-(M:Int)==-9223372036854775808)=false:=by rw[beq_eq_false_iff_ne];omega
 have HL1:=b9W lr1;have HL2:=b9W lr2;have HF1:=b9W hf1;have TK1:True:=trivial;clear he hq hb sq lr1 lr2 hf1 h0 i1 i2 i3
 go_enter func240,ntmps240
 go_wp2_with (first
  | (go_at_call 155;refine HP.out.mono ?_;rintro e w1 ⟨v,rfl,hv,-,hb⟩;obtain⟨bq,N,D,A,c,A',c',rfl,hn,hd,HQ⟩:=a0w (hv HE.out);have HV:=b9W (hv HE.out);have HB:=b9W hb;have HX:=b9W (a0d (Below.refl w1.heap.size w1) (.cells #[.bool bq,.slice A (toL N).length c,.slice A' (toL D).length c'] 170));have HBX:=b9W (HB.out.trans (HX.out.mono HB.out.size));have HN:=b9W (hn.below HX.out);have HD:=b9W (hd.below HX.out);have HPB:=b9W (Blk.new w1 170 #[.bool bq,.slice A (toL N).length c,.slice A' (toL D).length c']);clear hb hv hn hd;have hln:=HNZ.out _ HQ.out.2.1)
  | (go_at_call 156;refine(a81 q _ _ (HV.out.below HX.out) HZ.out).mono ?_;rintro e w2 ⟨v2,rfl,hv2,hb2⟩;obtain⟨b2,N2,D2,A2,c2,A2',c2',rfl,hn2',hd2',HQ2⟩:=a0w hv2;obtain rfl:b2=true:=HQ2.out.1.symm.trans (HIV.out.1.trans HBQ.out);obtain rfl:N2=X:=HQ2.out.2.1.symm.trans HXX.out;obtain rfl:D2=Y:=HQ2.out.2.2.symm.trans HYY.out;have hp2:=HPB.out.below hb2 HPB.out.lt;obtain⟨⟨r0,s0⟩,⟨r1,s1⟩,r2,s2⟩:=b6R hp2;have HNO:=b9W (a0I (m':=true) (D:=A2) (D':=A2') (a:=(toL N2).length) (b:=c2) (a':=(toL D2).length) (b':=c2') hn2' hp2);have HDO:=b9W (a0I (m':=true) (D:=A2) (D':=A2') (a:=(toL N2).length) (b:=c2) (a':=(toL D2).length) (b':=c2') hd2' hp2);have HPO:=b9W (set3 (x:=.bool true) (y:=.slice A2 (toL N2).length c2) (z:=.slice A2' (toL D2).length c2') hp2);have HBO:=b9W (a0t (x:=.bool true) (y:=.slice A2 (toL N2).length c2) (z:=.slice A2' (toL D2).length c2') (HBX.out.trans (hb2.mono HBX.out.size)) HB.out.size);clear hv2 hb2 hn2' hd2' hp2)
  | (go_at_call 271;refine(b4X (-(M:Int)) _ (by omega) (by omega)).mono ?_;rintro e w4 ⟨rfl,hw4⟩;subst hw4)
  | (clear TK1;go_at_call 272;refine(a2w N2 M _ _ HNO.out (by omega) HL1.out).mono ?_;rintro e w5 ⟨v5,rfl,hv5,⟨A5,l5,c5,rfl⟩,hb5⟩;rw[HF1.out];have HV5:=b9W hv5;have HD5:=b9W (HDO.out.below hb5);have HB5:=b9W (HBO.out.trans (hb5.mono HBO.out.size));obtain⟨y0,y1,y2⟩:=a1u (HPO.out.below hb5 HPO.out.lt);clear hv5 hb5)
  | (go_at_call 272;refine(a2w D2 M _ _ HD5.out (by omega) HL2.out).mono ?_;rintro e w6 ⟨v6,rfl,hv6,⟨A6,l6,c6,rfl⟩,hb6⟩;have HV6:=b9W hv6;have HB6:=b9W (HB5.out.trans (hb6.mono HB5.out.size));have HZ6:=b9W hb6;clear hv6 hb6))
 all_goals first
  | (refine bodyPost_ret (results_tmp2 rfl _ _ _) rfl ?_;exact⟨rfl,HB6.out⟩)
  | (exfalso;have:=HNN.out _ HQ.out.2.1;omega)
theorem a7A(a:ByteArray)(q:Rat)(M:Nat)(w:World)(ha:a.size≤270000)(he:errQ a.data.toList=0)(hq:valQ a.data.toList=q)(hb:ng q=false)(h0:q≠0)(hM:M≤9223372036854775807)(hM1:1≤M)(hf1:decide (Lib.nDigits (nm q⁻¹ ^ M)≤4000)=true)(hf2:decide (Lib.nDigits (q⁻¹.den ^ M)≤4000)=true)(r:List UInt8 × Nat)(hW:∀ v w,a08 w v false (nm q⁻¹ ^ M) (q⁻¹.den ^ M)→Calls prog 153 #[v] w fun e w'=>e=.returned (.tuple #[.string ⟨r.1.toArray⟩,.int .i64 (r.2:Int)])∧Below w.heap.size w w')(sq:Sz maxD q) :
  Calls prog 240 #[.string a,.int .i64 (-(M:Int))] w fun e w'=>e=.returned (.tuple #[.string ⟨r.1.toArray⟩,.int .i64 (r.2:Int)])∧Below w.heap.size w w':=by
 have HP:=b9W (a4k a w ha);have hne:((errQ a.data.toList:Int)==0)=true:=by rw[he];rfl
 have HE:=b9W he;rw[hq]at HP;obtain⟨lq,lq'⟩:=a1g sq;have HBQ:=b9W hb;obtain⟨i1,i2,i3⟩:=a2G h0;have HIV:=b9W (And.intro i1 (And.intro i2 i3));have HZ:=b9W h0;have HNZ:=b9W (fun (N:Nat) (h:nm q=N)=>show (((toL N).length:Int)==0)=false by rw[a2g,decide_eq_false (fun h2=>h0 (a76.1 (h.trans h2)))]);have HNN:=b9W (fun (N:Nat) (h:nm q=N)=>show (toL N).length≠0 from fun h2=>by have:=HNZ.out N h;rw[h2]at this;cases this);have lr1:(toL (nm q⁻¹)).length≤500:=by rw[i2];omega
 have lr2:(toL q⁻¹.den).length≤500:=by rw[i3];omega
 obtain⟨X,hX⟩:∃ X,nm q⁻¹=X:=⟨_,rfl⟩;obtain⟨Y,hY⟩:∃ Y,q⁻¹.den=Y:=⟨_,rfl⟩;rw[hX]at hf1 lr1;rw[hY]at lr2 hf2;rw[hX,hY]at hW;have HXX:=b9W hX;have HYY:=b9W hY;clear hX hY;have hn2:decide (-(M:Int) < 0)=true:=decide_eq_true (by omega);have hn3:(-(M:Int)==-9223372036854775808)=false:=by rw[beq_eq_false_iff_ne];omega
 have HL1:=b9W lr1;have HL2:=b9W lr2;have HF1:=b9W hf1;have HF2:=b9W hf2;have HW:=b9W hW;have TK1:True:=trivial;clear he hq hb sq lr1 lr2 hf1 hf2 hW h0 i1 i2 i3
 go_enter func240,ntmps240
 go_wp2_with (first
  | (go_at_call 155;refine HP.out.mono ?_;rintro e w1 ⟨v,rfl,hv,-,hb⟩;obtain⟨bq,N,D,A,c,A',c',rfl,hn,hd,HQ⟩:=a0w (hv HE.out);have HV:=b9W (hv HE.out);have HB:=b9W hb;have HX:=b9W (a0d (Below.refl w1.heap.size w1) (.cells #[.bool bq,.slice A (toL N).length c,.slice A' (toL D).length c'] 170));have HBX:=b9W (HB.out.trans (HX.out.mono HB.out.size));have HN:=b9W (hn.below HX.out);have HD:=b9W (hd.below HX.out);have HPB:=b9W (Blk.new w1 170 #[.bool bq,.slice A (toL N).length c,.slice A' (toL D).length c']);clear hb hv hn hd;have hln:=HNZ.out _ HQ.out.2.1)
  | (go_at_call 156;refine(a81 q _ _ (HV.out.below HX.out) HZ.out).mono ?_;rintro e w2 ⟨v2,rfl,hv2,hb2⟩;obtain⟨b2,N2,D2,A2,c2,A2',c2',rfl,hn2',hd2',HQ2⟩:=a0w hv2;obtain rfl:b2=false:=HQ2.out.1.symm.trans (HIV.out.1.trans HBQ.out);obtain rfl:N2=X:=HQ2.out.2.1.symm.trans HXX.out;obtain rfl:D2=Y:=HQ2.out.2.2.symm.trans HYY.out;have hp2:=HPB.out.below hb2 HPB.out.lt;obtain⟨⟨r0,s0⟩,⟨r1,s1⟩,r2,s2⟩:=b6R hp2;have HNO:=b9W (a0I (m':=false) (D:=A2) (D':=A2') (a:=(toL N2).length) (b:=c2) (a':=(toL D2).length) (b':=c2') hn2' hp2);have HDO:=b9W (a0I (m':=false) (D:=A2) (D':=A2') (a:=(toL N2).length) (b:=c2) (a':=(toL D2).length) (b':=c2') hd2' hp2);have HPO:=b9W (set3 (x:=.bool false) (y:=.slice A2 (toL N2).length c2) (z:=.slice A2' (toL D2).length c2') hp2);have HBO:=b9W (a0t (x:=.bool false) (y:=.slice A2 (toL N2).length c2) (z:=.slice A2' (toL D2).length c2') (HBX.out.trans (hb2.mono HBX.out.size)) HB.out.size);clear hv2 hb2 hn2' hd2' hp2)
  | (clear TK1;go_at_call 272;refine(a2w N2 M _ _ HNO.out (by omega) HL1.out).mono ?_;rintro e w5 ⟨v5,rfl,hv5,⟨A5,l5,c5,rfl⟩,hb5⟩;rw[HF1.out];have HV5:=b9W hv5;have HD5:=b9W (HDO.out.below hb5);have HB5:=b9W (HBO.out.trans (hb5.mono HBO.out.size));obtain⟨y0,y1,y2⟩:=a1u (HPO.out.below hb5 HPO.out.lt);clear hv5 hb5)
  | (go_at_call 272;refine(a2w D2 M _ _ HD5.out (by omega) HL2.out).mono ?_;rintro e w6 ⟨v6,rfl,hv6,⟨A6,l6,c6,rfl⟩,hb6⟩;rw[HF2.out];have HV6:=b9W hv6;have HB6:=b9W (HB5.out.trans (hb6.mono HB5.out.size));have HZ6:=b9W hb6;clear hv6 hb6)
  | (go_at_call 153;refine(HW.out _ _ (a07 ((HV5.out (of_decide_eq_true HF1.out)).below HZ6.out) (HV6.out (of_decide_eq_true HF2.out)))).mono ?_;rintro e w7 ⟨rfl,hb7⟩;have HB7:=b9W (HB6.out.trans (hb7.mono HB6.out.size));clear hb7))
 all_goals first
  | (refine bodyPost_ret (results_tmp2 rfl _ _ _) rfl ?_;exact⟨rfl,HB7.out⟩)
  | (exfalso;have:=HNN.out _ HQ.out.2.1;omega)
section
variable {a b c:ByteArray} {p q:Rat} (w:World)
theorem rcmpT(ha:IsT a p)(hb:IsT b q) :
  Calls prog 119 #[.string a,.string b] w fun e w'=>e=.returned (.tuple #[.int .i64 (cmpQ p q),.int .i64 0])∧Below w.heap.size w w':=by
 refine(a6W a b w ha.size hb.size).mono ?_;rintro e w' ⟨rfl,h⟩;rw[b7R ha hb];exact⟨rfl,h⟩
theorem b88(ha:IsT a p)(hb:IsT b q) :
  Calls prog 57 #[.string a,.string b] w fun e w'=>e=.returned (.tuple #[.string (rT (maxQ p q)),.int .i64 0])∧Below w.heap.size w w':=by
 refine(b30 a b w ha.size hb.size).mono ?_;rintro e w' ⟨rfl,h⟩;refine⟨?_,h⟩;rw[b7R ha hb,← rT_max ha hb];unfold a35 resS
 simp only[ne_eq,not_true_eq_false,if_false]
 by_cases h0:cmpQ p q < 0
 ·rw[if_pos h0,if_pos (by omega)];rfl
 ·rw[if_neg h0,if_neg (by omega)];rfl
end
structure CIs (c:CT) (m:Nat→Rat):Prop where
 t:∀ i,i < 8→IsT (c i) (m i)
 one:∀ i,i < 7→1≤m i
 zero:0≤m 7
 top:m 7≤1
def valM(c:CT):Nat→Rat:=fun i=>valQ (c i).data.toList
def txt(m:Nat→Rat):CT:=fun i=>rT (m i)
theorem b3v{α:Type}{f:Nat→α}{i:Nat}{x:α}(h:[f 0,f 1,f 2,f 3,f 4,f 5,f 6][i]?=some x):i < 7∧x=f i:=by
 match i,h with
 | 0,h=>exact⟨by omega,(Option.some.inj h).symm⟩
 | 1,h=>exact⟨by omega,(Option.some.inj h).symm⟩
 | 2,h=>exact⟨by omega,(Option.some.inj h).symm⟩
 | 3,h=>exact⟨by omega,(Option.some.inj h).symm⟩
 | 4,h=>exact⟨by omega,(Option.some.inj h).symm⟩
 | 5,h=>exact⟨by omega,(Option.some.inj h).symm⟩
 | 6,h=>exact⟨by omega,(Option.some.inj h).symm⟩
 | i+7,h=>simp at h
theorem b3a{α:Type}(f:Nat→α){i:Nat}(h:i < 7):[f 0,f 1,f 2,f 3,f 4,f 5,f 6][i]?=some (f i):=by
 match i,h with
 | 0,_=>rfl
 | 1,_=>rfl
 | 2,_=>rfl
 | 3,_=>rfl
 | 4,_=>rfl
 | 5,_=>rfl
 | 6,_=>rfl
theorem CIs.of{c:CT}(h:a4C c=0):CIs c (valM c):=by
 have h1:=b4O (ms:=[c 0,c 1,c 2,c 3,c 4,c 5,c 6]) rfl h;have hm:∀ i,i < 7→IsT (c i) (valM c i)∧1≤valM c i:=fun i hi =>
  h1.m i (c i) (valM c i) (b3a c hi) (by
   unfold valC
   dsimp only
   rw[List.getElem?_map,b3a c hi]
   rfl)
 refine⟨fun i hi=>?_,fun i hi=>(hm i hi).2,h1.zero,h1.top⟩
 by_cases h7:i=7
 ·subst h7;exact h1.l
 ·exact(hm i (by omega)).1
theorem CIs.err{c:CT}{m:Nat→Rat}(h:CIs c m):a4C c=0 :=
 a5j.err (c:=([m 0,m 1,m 2,m 3,m 4,m 5,m 6],m 7)) ⟨rfl,rfl,fun i a q ha hq=>by
  obtain⟨h1,rfl⟩:=b3v ha;obtain⟨_,rfl⟩:=b3v hq;exact⟨h.t i (by omega),h.one i h1⟩,h.t 7 (by omega),h.zero,h.top⟩
theorem CIs.sm{c:CT}{m:Nat→Rat}(h:CIs c m):SmC c:=fun k hk=>(h.t k hk).size
theorem CIs.errs{a b:CT}{m n:Nat→Rat}(ha:CIs a m)(hb:CIs b n):b0P a b=0:=by
 unfold b0P;rw[if_neg (by rw[ha.err];decide),hb.err]
theorem cv_ext{a b:CT}(h:∀ k,k < 8→a k=b k):cv a=cv b:=congrArg Value.agg (b6e h)
theorem CIs.txt_eq{c:CT}{m:Nat→Rat}(h:CIs c m){k:Nat}(hk:k < 8):c k=txt m k:=(h.t k hk).text
def SzC(k:Nat)(m:Nat→Rat):Prop:=∀ i,i < 8→Sz k (m i)
theorem CIs.mk'{m:Nat→Rat}{k:Nat}(hs:SzC k m)(hk:k≤maxD)(h1:∀ i,i < 7→1≤m i)(h0:0≤m 7)(ht:m 7≤1):CIs (txt m) m :=
 ⟨fun i hi=>a16 (a0V.2 ((hs i hi).mono hk)),h1,h0,ht⟩
def sumM(a b:Nat→Rat):Nat→Rat:=fun i=>if i=7 then minQ (a 7+b 7) 1 else a i*b i
theorem a9h(a b:Nat→Rat):sumM a b 7=minQ (a 7+b 7) 1:=if_pos rfl
theorem b3b(a b:Nat→Rat){i:Nat}(h:i < 7):sumM a b i=a i*b i:=if_neg (by omega)
section
variable {a b:CT} {m n:Nat→Rat} {j k:Nat}
theorem b4W(sm:SzC j m)(sn:SzC k n):SzC (j+k+1) (sumM m n):=by
 intro i hi
 by_cases h:i=7
 ·subst h
  rw[a9h];have h2:=(sm 7 (by omega)).add (sn 7 (by omega));unfold minQ
  split
  ·exact Sz.one.mono (by omega)
  ·exact h2
 ·rw[b3b m n (by omega)]
  exact((sm i hi).mul (sn i hi)).mono (by omega)
theorem b5C(ha:CIs a m)(hb:CIs b n)(sm:SzC j m)(sn:SzC k n)(h:j+k+1≤maxD):CIs (txt (sumM m n)) (sumM m n):=by
 refine CIs.mk' (b4W sm sn) h (fun i hi=>?_) ?_ ?_
 ·rw[b3b m n hi]
  exact b4c (ha.one i hi) (hb.one i hi)
 ·rw[a9h]
  have:=ha.zero;have:=hb.zero;exact a6V (by grind) (by decide +kernel)
 ·rw[a9h]
  exact(b48 _ _).2
theorem maddV(ha:CIs a m)(hb:CIs b n)(sm:SzC j m)(sn:SzC k n)(h:j+k+1≤maxD)(w:World)(hr:Res w) :
  Calls prog 58 #[cv a,cv b] w fun e w'=>e=.returned (.tuple #[cv (txt (sumM m n)),.int .i64 0])∧Below w.heap.size w w':=by
 have hs:=b5C ha hb sm sn h;have h7:Sz (j+k+1) (m 7+n 7):=(sm 7 (by omega)).add (sn 7 (by omega));refine b9Q a b (txt (sumM m n)) (rT (m 7+n 7)) w ha.sm hb.sm hr (by rw[ha.errs hb];rfl) (b9W fun i hi=>?_) (b9W ?_) (b9W ?_)
 ·refine a5Y (a1_ func130 (by kernel_rfl) (by kernel_rfl)) fun w hr=>mulT w (ha.t i (by omega)) (hb.t i (by omega)) ?_ hr
  have:=hs.t i (by omega)
  rwa [b3b m n hi]at this
 ·exact a5Y (a1_ func107 (by kernel_rfl) (by kernel_rfl)) fun w hr=>addT w (ha.t 7 (by omega)) (hb.t 7 (by omega)) (a16 (a0V.2 (h7.mono h))) hr
 ·refine a5Y (a1_ func143 (by kernel_rfl) (by kernel_rfl)) fun w hr=>minT w (a16 (a0V.2 (h7.mono h))) IsT.one ?_ hr
  show rT (sumM m n 7)=_
  rw[a9h];exact(b8L (a16 (a0V.2 (h7.mono h))) IsT.one).symm
end
end Go.Proofs.YtigapglmipmbeaaGreatDoor
namespace Go.Proofs.YtigapglmipmbeaaGreatDoor
open Go.RowKit Go.Shelf
open Lim
attribute [local go_sem] Oper.semAt_some
def b05(x:ByteArray):CT:=fun k=>if k=7 then x else ⟨#[]⟩
end Go.Proofs.YtigapglmipmbeaaGreatDoor
