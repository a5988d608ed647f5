/- The reference 08: Product (printed by mkdref6.py). -/
import Derived.Test.YtigapglmipmbeaaGreatDoorLwMomentAdds20
import Derived.Test.YtigapglmipmbeaaGreatDoorLwMomentAdds02
import Derived.Maps.OwnIn
import Derived.Test.YtigapglmipmbeaaGreatDoorLwMomentAdds17
import Derived.Test.YtigapglmipmbeaaGreatDoorLwMomentAdds19
import Derived.Test.YtigapglmipmbeaaGreatDoorLwMomentAdds18
set_option maxRecDepth 100000
set_option maxHeartbeats 16000000
open Go.Proofs.Tryz
namespace Go.Proofs.YtigapglmipmbeaaGreatDoor
open Go.RowKit Go.Shelf
open Lim
attribute [local go_sem] Oper.semAt_some a8H
def a2Q(f:ByteArray)(ys:List L2)(k:Nat):List L2:=(ys.take k).map (fun y=>(a3Q f y.1,y.2))++ys.drop k
theorem b2R(f:ByteArray)(ys:List L2):a2Q f ys 0=ys:=by simp[a2Q]
theorem b3Z(f:ByteArray)(ys:List L2):a2Q f ys ys.length=ys.map fun y=>(a3Q f y.1,y.2):=by simp[a2Q]
theorem a6_{f:ByteArray}{ys:List L2}{k:Nat}:(a2Q f ys k).length=ys.length:=by
 unfold a2Q;rw[List.length_append,List.length_map,List.length_take,List.length_drop]
 omega
theorem a7r{f:ByteArray}{ys:List L2}{k:Nat}{y:L2}(h:ys[k]?=some y):a2Q f ys k=(ys.take k).map (fun y=>(a3Q f y.1,y.2))++y::ys.drop (k+1)∧((ys.take k).map fun y:L2=>(a3Q f y.1,y.2)).length=k:=by
 obtain⟨hk,rfl⟩:=List.getElem?_eq_some_iff.1 h;refine⟨?_,by rw[List.length_map,List.length_take];omega⟩;unfold a2Q;rw[b9e hk]
theorem a7g{f:ByteArray}{ys:List L2}{k:Nat}{y:L2}(h:ys[k]?=some y):(a2Q f ys k)[k]?=some y:=by
 obtain⟨e,l⟩:=a7r (f:=f) h;rw[e,List.getElem?_append_right (by rw[l];exact Nat.le_refl _),l,Nat.sub_self]
 rfl
theorem b4s{f:ByteArray}{ys:List L2}{k:Nat}{y:L2}(h:ys[k]?=some y):(a2Q f ys k).set k (a3Q f y.1,y.2)=a2Q f ys (k+1):=by
 obtain⟨e,l⟩:=a7r (f:=f) h;rw[e,List.set_append_right _ _ (by rw[l];exact Nat.le_refl _),l,Nat.sub_self,List.set_cons_zero];unfold a2Q;rw[List.take_add_one,h,Option.toList_some,List.map_append,List.append_assoc]
 rfl
theorem b5M{x:L2}{a b done:List L2}{n:Nat}(h:a1D b x.2=.error n):a41 done (a3p (x::a) b)=.error n:=by
 have e:a3p (x::a) b=.error n:=by
  unfold a3p;rw[h]
 rw[e]
 rfl
theorem b7x{x:L2}{a b ys done:List L2}(h:a1D b x.2=.ok ys):a41 done (a3p (x::a) b)=a41 (done++a2Q x.1 ys ys.length) (a3p a b):=by
 have e:a3p (x::a) b=(match a3p a b with|.error n=>.error n|.ok r=>.ok (ys.map (fun y=>(a3Q x.1 y.1,y.2))++r)):=by
  simp only[a3p,h]
  rfl
 rw[e,b3Z]
 cases a3p a b with
 | error n=>rfl
 | ok m=>simp[a41]
theorem a8W{b:ByteArray}:∀ {l m:List L2},a1D l b=.ok m→(∀ x∈l,x.1.size≤100000)→∀ y∈m,y.1.size≤100000
 | [],m,h,_,y,hy=>by cases h;cases hy
 | x::l,m,h,hs,y,hy=>by
  unfold a1D at h
  split at h
  ·cases h
  ·split at h
   ·cases h
   ·rename_i r hr
    cases h
    rcases List.mem_cons.1 hy with rfl|hy
    ·exact hs x (by simp)
    ·exact a8W hr (fun z hz=>hs z (by simp[hz])) y hy
theorem a9B(a b:List L2)(va vb:Value)(w:World)(ha:LRow w va a)(hb:LRow w vb b)(sa:a1h a)(sb:a1h b)(ka:∀ x∈a,x.1.size≤100000)(kb:∀ x∈b,x.1.size≤100000)(hl:a.length*b.length≤1000)(hr:Res w) :
  Calls prog 28 #[va,vb] w fun e w'=>ResM w.heap.size (a7a a b) e w'∧Below w.heap.size w w':=by
 have HCK:=b9W (a6Y a b va vb w ha hb sa sb hr);have N0:=b9W (NW.refl hr);have HA:=b9W ha;have HB:=b9W hb;have SA:=b9W sa;have SB:=b9W sb;have KA:=b9W ka;have KB:=b9W kb;have HRS:=b9W hr;obtain⟨A0,c0,rfl,hla,_⟩:=id ha;obtain⟨A1,c1,rfl,hlb,_⟩:=id hb;obtain⟨i0,hif,hz0,hz1,hz2⟩:=info_parts b8v;clear ha hb sa sb ka kb hr;have TK0:True:=trivial
 by_cases hc:chk2 a b=0
 ·have hb0:0 < b.length:=by
   cases b with
   | nil =>
    have h2:chkD []=0:=by
     unfold chk2 at hc
     by_cases h:chkD a=0
     ·rw[if_neg (by omega)]at hc;exact hc
     ·rw[if_pos h]at hc;exact absurd hc h
    exact absurd h2 (by decide +kernel)
   | cons x l=>simp
  have HB0:=b9W hb0;have HM:=b9W (show a7a a b=(match a3p a b with|.error n=>.error n|.ok l=>a2F l) by unfold a7a;rw[if_neg (by simpa using hc),if_neg (by omega)];rfl);generalize a7a a b=mk at *;rw[hc]at HCK;change Hid (Calls _ _ _ _ fun e w'=>e=.returned (.int .i64 0)∧_) at HCK;have hml:(a.length:Int)*(b.length:Int)≤1000:=by exact_mod_cast hl
  have hm0:(0:Int)≤(a.length:Int)*(b.length:Int):=by exact_mod_cast Nat.zero_le _
  have hd0:decide (4096 < (a.length:Int)*(b.length:Int))=false:=decide_eq_false (by omega);have HL:=b9W hl;clear hc hl hb0;refine(callsIn_wide (n:=6)).1 ?_;have h1:1≤6:=by omega
  have hmx:prog.follows .mixedOrders=true:=by kernel_rfl
  refine callsIn_of_wp func28 rfl trivial ?_ rfl
  simp only[ntmps28,List.size_toArray,List.length_cons,List.length_nil,Nat.reduceAdd,Nat.reduceSub,Array.replicate_succ,Array.replicate_zero,List.push_toArray,List.append_toArray,List.nil_append,List.cons_append]
  gi_wp2_with (clear TK0;gi_at_call 114;refine(callsIn_wide.2 HCK.out).mono ?_;rintro e w1 ⟨rfl,hb⟩;have N1:=b9W (N0.out.later hb);clear hb)
  gi_loopw [7,8] (fun v7 v8 wr=>∃ (i:Nat) (done:List L2) (A5:Option Addr) (c5:Nat),i≤a.length∧v7=.slice A5 done.length c5∧v8=.int .i64 (i:Int)∧Hid (a3p a b=a41 done (a3p (a.drop i) b))∧Hid (done.length=i*b.length)∧Hid (OwnM w.heap.size wr (.slice A5 done.length c5) done)∧Hid (NW w wr)) (fun _ v8 _=>a.length - (intOf v8).toNat)
  case atStart=>exact⟨0,[],none,0,Nat.zero_le _,rfl,rfl,b9W (by rw[a9t];rfl),b9W (by simp),b9W (OwnM.nil _ _),N1⟩
  case round =>
   clear N1;obtain⟨i,done,A5,c5,hi,rfl,rfl,HE,HDL,HO,HN⟩:=hrel;obtain⟨wo,rfl⟩:∃ wo,wo=wr:=⟨_,rfl⟩
   by_cases hlt:i < a.length
   ·obtain⟨x,hx⟩:∃ x,a[i]?=some x:=⟨_,List.getElem?_eq_getElem hlt⟩
    obtain⟨b2,o2,c',e',hb2,q0,q1⟩:=HA.out.at HN.out.below hx
    simp only[Value.slice.injEq,true_and]at e'
    obtain⟨rfl,rfl⟩:=e';have hlt':(i:Int) < (a.length:Int):=by omega
    rw[a2U hx]at HE;have HSX:=b9W (SA.out x (List.mem_of_getElem? hx));have HKX:=b9W (KA.out x (List.mem_of_getElem? hx));have HLT:=b9W (And.intro hlt hlt');have HSC:=b9W (b1q b _ x.2 wo (HB.out.below HN.out.below) SB.out HSX.out.2 HN.out.res);obtain⟨f,d⟩:=x
    dsimp only at q0 q1 HSX HSC HKX
    clear hx hlt
    cases hsc:a1D b d with
    | error n =>
     rw[hsc]at HSC;change Hid (Calls _ _ _ _ fun e w'=>e=.returned (.tuple #[.slice none 0 0,.int .i64 (n:Int)])∧_) at HSC;have hz:=a1E (a8b hsc);have hz9:=a2P (a8b hsc);have HR:=b9W (show mk=.error n by rw[HM.out,HE.out,b5M (x:=(f,d)) hsc]<;>rfl);clear hsc
     gi_wp2_with (gi_at_call 115;refine(callsIn_wide.2 HSC.out).mono ?_;rintro e w3 ⟨rfl,hb⟩;have H3:=b9W (HN.out.later hb);clear hb)
     go_ret2
     rw[HR.out];exact⟨rfl,H3.out.below⟩
    | ok ys =>
     rw[hsc]at HSC;change Hid (Calls _ _ _ _ fun e w'=>(∃ u,e=.returned (.tuple #[u,.int .i64 0])∧OwnM _ w' u ys)∧_) at HSC;have HYL:=b9W (a5o hsc);have hyl:ys.length≤1000:=by rw[a5o hsc];exact hlb
     have HEN:=b9W (HE.out.trans (b7x (x:=(f,d)) (a:=a.drop (i+1)) (done:=done) hsc))
     dsimp only at HEN
     have HY0:=b9W (show 0 < ys.length by rw[a5o hsc];exact HB0.out);have HYB:=b9W (show ∀ y∈ys,y.1.size≤100000 from fun y hy=>a8W hsc KB.out y hy);clear hsc HE
     gi_wp2_with (gi_at_call 115;refine(callsIn_wide.2 HSC.out).mono ?_;rintro e w3 ⟨⟨u3,rfl,ho3⟩,hb⟩;obtain⟨g3,c3,rfl,hg3⟩:=ho3.ofPos HY0.out;have HO3:=b9W ho3;have HB3:=b9W hb;have HG3:=b9W hg3;clear hb ho3 hg3)
     have HCF:∀ W,Below wo.heap.size wo W→W.cell? _=some (.string f):=fun W h=>(h.cell (p:=_) hb2).trans q0;have HCF:=b9W HCF;clear q0 q1
     gi_loopw [11] (fun v11 wq=>∃ k:Nat,k≤ys.length∧v11=.int .i64 (k:Int)∧Hid (OwnM wo.heap.size wq (.slice (some ⟨g3,0,none⟩) ys.length c3) (a2Q f ys k))∧Hid (Below wo.heap.size wo wq)) (fun v11 _=>ys.length - (intOf v11).toNat)
     case atStart=>exact⟨0,Nat.zero_le _,rfl,b9W (by rw[b2R];exact HO3.out),HB3⟩
     case round =>
      clear HO3 HB3;obtain⟨k,hk,rfl,HO4,HB4⟩:=hrel
      by_cases hk2:k < ys.length
      ·obtain⟨y,hy⟩:∃ y,ys[k]?=some y:=⟨_,List.getElem?_eq_getElem hk2⟩
       have hk3:(k:Int) < (ys.length:Int):=by omega
       obtain⟨x0,x1,xl⟩:=HO4.out.cell (a7g (f:=f) hy);have fz:=HO4.out.frozen (k*2);have p0:=HCF.out _ HB4.out;have pl:=Nat.lt_of_lt_of_le hb2 HB4.out.size;have HST:=b9W (OwnM.set1 (a3Q f y.1) HO4.out (a7g (f:=f) hy));rw[b4s hy]at HST;have HKY:=b9W (HYB.out y (List.mem_of_getElem? hy));have HKT:=b9W (And.intro hk2 hk3);obtain⟨f2,d2⟩:=y
       dsimp only at x0 x1 HST HKY
       have EK:(f++⟨#[124]⟩++f2)=a3Q f f2:=rfl;have s1:¬ 9223372036854775807 < f.size+1:=by have:=HKX.out;omega
       have s2:¬ 9223372036854775807 < f.size+1+f2.size:=by have:=HKX.out;have:=HKY.out;omega
       have V0:∀ z:a0n wr (fun k=>k < wr.heap.size),z.W.cell? _=some (.string f):=fun z=>z.cell pl p0;have V1:∀ z:a0n wr (fun k=>k < wr.heap.size),z.W.cell? ⟨g3,k*2,none⟩=some (.string f2):=fun z=>z.cell xl x0;have HYG:=b9W hy;clear hk2 hy x1;gi_wp2;refine a0o (a0R wr (fun k=>k < wr.heap.size)) [0,1,2,3,4,5,6,7,8,9,10,11,12,13] [16] hmx (by kernel_rfl) (a0g fun _ _=>rfl) ?_;change a0l _ _ _ _ _ _ _ _ (3+14) _ _ _;refine a0e [0,1,2,3,4,5,6,7,8,9,10,11,12,13] 3 _ _ (by kernel_rfl) ?_;change wpQuietIn _ _ _ _ (fun W'=>∃ x:a0n wr (fun k=>k < wr.heap.size),W'=x.W) _ _ _
       simp only[a0h,a0m,List.getElem?_cons_zero,List.getElem?_cons_succ,Option.elim_some]
       repeat (gi_big_quiet_step (fail))
       refine wpQuietIn_nil ?_;clear V0 V1;have HDR:=b9W (a0P wr);have HO6:=b9W (OwnM.later HO4.out HDR.out);obtain⟨x0,x1,xl⟩:=HO6.out.cell (a7g (f:=f) HYG.out);refine a0c 14 (by kernel_rfl) rfl ?_;gi_wp2;refine a0b (a0a HDR.out (fun k hk=>hk)) ?_;refine a0c 15 (by kernel_rfl) rfl ?_;gi_wp2;refine a0b (a0a HDR.out (fun k hk=>hk)) ?_;refine a0c 16 (by kernel_rfl) rfl ?_;gi_wp2;refine a2B rfl ?_;refine a0i (by kernel_rfl) ?_;gi_wp2
       go_roundw
       case rel=>exact⟨k+1,HKT.out.1,by go_num,b9W HST.out.1,b9W ((HB4.out.trans (HDR.out.mono HB4.out.size)).setCell (p:=⟨g3,k*2,none⟩) HG3.out _)⟩
       case measure=>have:=HKT.out.1;simp[intOf];omega
      ·have hk3:¬ (k:Int) < (ys.length:Int):=by omega
       obtain rfl:k=ys.length:=by omega
       have HSR:=b9W (World.ownsRow.cells HO4.out (g:=g3) rfl);have HO7:=b9W (OwnM.later HO.out HB4.out);have HN7:=b9W (HN.out.later HB4.out);have HLB:=b9W (show done.length+ys.length=(i+1)*b.length by rw[HDL.out,HYL.out,Nat.succ_mul]);have HLM:=b9W (show done.length+ys.length≤1000 by rw[HLB.out];exact Nat.le_trans (Nat.mul_le_mul_right _ HLT.out.1) HL.out);clear hk2 hk
       gi_wp2_with (gi_at_builtin;go_loud (refine wpListIn_append_own_at _ rfl _ _ 22 rfl w.heap.size 30 i0 (.agg #[.string ByteArray.empty,.string ByteArray.empty]) 2 32 underlying22 hif hz0 hz1 hz2 rfl (by decide) _ _ _ rfl HO7.out ⟨g3,0,none⟩ ys.length c3 (a0_ (a2Q f ys ys.length)) rfl (by rw[a2L,a6_]) HSR.out (a1B _) (by have:=HLM.out;unfold maxLen;omega) (by have:=HLM.out;omega) HN7.out.below.size ?_;intro v' w8 hown8 hgrow8 _ _;obtain⟨A8,c8,rfl⟩:=a1H hown8;have HO8:=b9W (show OwnM w.heap.size w8 (.slice A8 (done.length+ys.length) c8) (done++a2Q f ys ys.length) by unfold OwnM;rw[List.length_append,a6_,a2K];exact hown8);have HN8:=b9W (a7V HN7.out HRS.out hgrow8 (fun r e=>HO7.out.base e));clear hown8 hgrow8))
       go_roundw
       case rel =>
        have e1:(done++a2Q f ys ys.length).length=done.length+ys.length:=by rw[List.length_append,a6_]
        exact⟨i+1,done++a2Q f ys ys.length,A8,c8,HLT.out.1,by rw[e1],by go_num,HEN,b9W (by rw[e1];exact HLB.out),b9W (by rw[e1];exact HO8.out),HN8⟩
       case measure=>have:=HLT.out.1;simp[intOf];omega
   ·have hlt':¬ (i:Int) < (a.length:Int):=by omega
    obtain rfl:i=a.length:=by omega
    have hpx:a3p a b=.ok done:=by
     rw[HE.out,List.drop_length]
     show Except.ok (done++[])=_
     rw[List.append_nil]
    have hdl:done.length≤1000:=by rw[HDL.out];exact HL.out
    have HMC:=b9W (a63 done _ wo (HO.out.row hdl) (a8U hpx KA.out KB.out) HN.out.res);have HMR:=b9W (show mk=a2F done by rw[HM.out,hpx]<;>rfl);clear hlt hpx hdl;generalize a2F done=mm at *
    cases mm with
    | error n =>
     change Hid (Calls _ _ _ _ fun e w'=>e=.returned (.tuple #[.slice none 0 0,.int .i64 (n:Int)])∧_) at HMC
     gi_wp2_with (gi_at_call 26;refine(callsIn_wide.2 HMC.out).mono ?_;rintro e w8 ⟨rfl,hb⟩;have H3:=b9W (HN.out.later hb);clear hb)
     go_ret2
     rw[HMR.out];exact⟨rfl,H3.out.below⟩
    | ok out =>
     change Hid (Calls _ _ _ _ fun e w'=>(∃ u,e=.returned (.tuple #[u,.int .i64 0])∧OwnM _ w' u out)∧_) at HMC
     gi_wp2_with (gi_at_call 26;refine(callsIn_wide.2 HMC.out).mono ?_;rintro e w8 ⟨⟨u8,rfl,ho⟩,hb⟩;have HO8:=b9W ho;have H3:=b9W (HN.out.later hb);clear hb ho)
     go_ret2
     rw[HMR.out];exact⟨⟨_,rfl,a4e HO8.out HN.out.below.size⟩,H3.out.below⟩
 ·have hz:=a1E hc
  have hz9:=a2P hc;have HR:=b9W (show a7a a b=.error (chk2 a b) by unfold a7a;rw[if_pos hc]);generalize a7a a b=mk at *;generalize chk2 a b=n at *;clear hc hl
  go_enter func28,ntmps28
  go_wp2_with ((clear TK0;go_at_call 114;refine(HCK.out).mono ?_;rintro e w1 ⟨rfl,hb⟩;have N1:=b9W (N0.out.later hb);clear hb))
  go_wp2
  go_ret2
  rw[HR.out];exact⟨rfl,N1.out.below⟩
theorem b3I{A B C:Type}(P:A→B→C→Prop){T:Prop}(G:A→B→C→Prop)(main:(∀ a b c,P a b c→G a b c)→T)(rest:∀ a b c,P a b c→G a b c):T:=main rest
end Go.Proofs.YtigapglmipmbeaaGreatDoor
namespace Go.Proofs.YtigapglmipmbeaaGreatDoor
open Go.RowKit Go.Shelf
open Lim
attribute [local go_sem] Oper.semAt_some
end Go.Proofs.YtigapglmipmbeaaGreatDoor
namespace Go.Proofs.YtigapglmipmbeaaGreatDoor
open Go.RowKit Go.Shelf
open Lim
attribute [local go_sem] Oper.semAt_some a8H
theorem a4W(f d:ByteArray)(p q:List L2)(vp vq:Value)(w:World)(hp:LRow w vp p)(hq:LRow w vq q)(sp:a1h p)(sq:a1h q)(h1:f.size≤270000)(h2:d.size≤270000)(hr:Res w) :
  Calls prog 55 #[.agg #[.string f,.string d],vp,vq] w fun e w'=>e=.returned (resB (a9n f d p q))∧Below w.heap.size w w':=by
 have N0:=b9W ((NW.refl hr).alloc (.cells #[.string f,.string d] 63));have K0:=b9W (Blk.new w 63 #[.string f,.string d]);have HC:=b9W (b2U f d _ h1 h2 N0.out.res);have HP:=b9W (fun W (hW:NW w W)=>a8r p q _ _ f W (hp.below hW.below) (hq.below hW.below) sp sq h1 hW.res);have HQ:=b9W (fun W (hW:NW w W)=>a8r q p _ _ f W (hq.below hW.below) (hp.below hW.below) sq sp h1 hW.res);obtain⟨A,ca,rfl,_,_⟩:=id hp;obtain⟨B,cb,rfl,_,_⟩:=id hq;have TK0:True:=trivial;have TK1:True:=trivial;have TK2:True:=trivial;have TK3:True:=trivial;have TK4:True:=trivial;clear hp hq sp sq hr;unfold a9n
 by_cases hL:errL f d=0
 ·rw[hL]at HC
  rw[if_neg (by omega)]
  cases hx:a2S p q f with
  | error n =>
   rw[hx]at HP;change Hid (∀ W (_:NW w W),Calls _ _ _ _ fun e w'=>e=.returned (.tuple #[.string ⟨#[]⟩,.int .i64 (n:Int)])∧_) at HP;have hz:=a1E (a6l hx);have hz2:=a2P (a6l hx);clear hL hx h1 h2
   go_enter func55,ntmps55
   go_wp2_with ((clear TK0;go_at_call 145;refine(HC.out).mono ?_;rintro e w1 ⟨rfl,hb⟩;have N1:=b9W (N0.out.later hb);have K1:=b9W (K0.out.below hb K0.out.lt);obtain⟨p0,p1⟩:=a06 K1.out;clear hb))
   go_wp2_with ((clear TK1;go_at_call 102;refine(HP.out _ N1.out).mono ?_;clear p0 p1;rintro e w2 ⟨rfl,hb⟩;have N2:=b9W (N1.out.later hb);have K2:=b9W (K1.out.below hb K1.out.lt);obtain⟨p0,p1⟩:=a06 K2.out;clear hb))
   go_wp2
   go_ret2
   exact⟨rfl,N2.out.below⟩
  | ok x =>
   rw[hx]at HP;change Hid (∀ W (_:NW w W),Calls _ _ _ _ fun e w'=>e=.returned (.tuple #[.string x,.int .i64 0])∧_) at HP
   dsimp only
   cases hy:a2S q p f with
   | error n =>
    rw[hy]at HQ;change Hid (∀ W (_:NW w W),Calls _ _ _ _ fun e w'=>e=.returned (.tuple #[.string ⟨#[]⟩,.int .i64 (n:Int)])∧_) at HQ;have hz:=a1E (a6l hy);have hz2:=a2P (a6l hy);clear hL hx hy h1 h2
    go_enter func55,ntmps55
    go_wp2_with ((clear TK0;go_at_call 145;refine(HC.out).mono ?_;rintro e w1 ⟨rfl,hb⟩;have N1:=b9W (N0.out.later hb);have K1:=b9W (K0.out.below hb K0.out.lt);obtain⟨p0,p1⟩:=a06 K1.out;clear hb))
    go_wp2_with ((clear TK1;go_at_call 102;refine(HP.out _ N1.out).mono ?_;clear p0 p1;rintro e w2 ⟨rfl,hb⟩;have N2:=b9W (N1.out.later hb);have K2:=b9W (K1.out.below hb K1.out.lt);obtain⟨p0,p1⟩:=a06 K2.out;clear hb))
    go_wp2_with ((clear TK2;go_at_call 102;refine(HQ.out _ N2.out).mono ?_;clear p0 p1;rintro e w3 ⟨rfl,hb⟩;have N3:=b9W (N2.out.later hb);have K3:=b9W (K2.out.below hb K2.out.lt);obtain⟨p0,p1⟩:=a06 K3.out;clear hb))
    go_wp2
    go_ret2
    exact⟨rfl,N3.out.below⟩
   | ok y =>
    rw[hy]at HQ;change Hid (∀ W (_:NW w W),Calls _ _ _ _ fun e w'=>e=.returned (.tuple #[.string y,.int .i64 0])∧_) at HQ;have HX:=b9W (fun W=>a3C W (IsT.of (a9o hx)) (b1N hL).d);have HY:=b9W (fun W=>a3C W (IsT.of (a9o hy)) (b1N hL).d)
    dsimp only at HX HY ⊢
    generalize decide (cmpQ (valQ x.data.toList) (valQ d.data.toList)≤0)=bx at *;generalize decide (cmpQ (valQ y.data.toList) (valQ d.data.toList)≤0)=by_ at *;clear hL hx hy h1 h2
    cases bx
    ·skip
     go_enter func55,ntmps55
     go_wp2_with ((clear TK0;go_at_call 145;refine(HC.out).mono ?_;rintro e w1 ⟨rfl,hb⟩;have N1:=b9W (N0.out.later hb);have K1:=b9W (K0.out.below hb K0.out.lt);obtain⟨p0,p1⟩:=a06 K1.out;clear hb))
     go_wp2_with ((clear TK1;go_at_call 102;refine(HP.out _ N1.out).mono ?_;clear p0 p1;rintro e w2 ⟨rfl,hb⟩;have N2:=b9W (N1.out.later hb);have K2:=b9W (K1.out.below hb K1.out.lt);obtain⟨p0,p1⟩:=a06 K2.out;clear hb))
     go_wp2_with ((clear TK2;go_at_call 102;refine(HQ.out _ N2.out).mono ?_;clear p0 p1;rintro e w3 ⟨rfl,hb⟩;have N3:=b9W (N2.out.later hb);have K3:=b9W (K2.out.below hb K2.out.lt);obtain⟨p0,p1⟩:=a06 K3.out;clear hb))
     go_wp2_with ((clear TK3;go_at_call 146;refine(HX.out _).mono ?_;clear p0 p1;rintro e w4 ⟨rfl,hb⟩;have N4:=b9W (N3.out.later hb);have K4:=b9W (K3.out.below hb K3.out.lt);obtain⟨p0,p1⟩:=a06 K4.out;clear hb))
     go_wp2
     go_ret2
     exact⟨rfl,N4.out.below⟩
    ·skip
     go_enter func55,ntmps55
     go_wp2_with ((clear TK0;go_at_call 145;refine(HC.out).mono ?_;rintro e w1 ⟨rfl,hb⟩;have N1:=b9W (N0.out.later hb);have K1:=b9W (K0.out.below hb K0.out.lt);obtain⟨p0,p1⟩:=a06 K1.out;clear hb))
     go_wp2_with ((clear TK1;go_at_call 102;refine(HP.out _ N1.out).mono ?_;clear p0 p1;rintro e w2 ⟨rfl,hb⟩;have N2:=b9W (N1.out.later hb);have K2:=b9W (K1.out.below hb K1.out.lt);obtain⟨p0,p1⟩:=a06 K2.out;clear hb))
     go_wp2_with ((clear TK2;go_at_call 102;refine(HQ.out _ N2.out).mono ?_;clear p0 p1;rintro e w3 ⟨rfl,hb⟩;have N3:=b9W (N2.out.later hb);have K3:=b9W (K2.out.below hb K2.out.lt);obtain⟨p0,p1⟩:=a06 K3.out;clear hb))
     go_wp2_with ((clear TK3;go_at_call 146;refine(HX.out _).mono ?_;clear p0 p1;rintro e w4 ⟨rfl,hb⟩;have N4:=b9W (N3.out.later hb);have K4:=b9W (K3.out.below hb K3.out.lt);obtain⟨p0,p1⟩:=a06 K4.out;clear hb))
     go_wp2_with ((clear TK4;go_at_call 146;refine(HY.out _).mono ?_;clear p0 p1;rintro e w5 ⟨rfl,hb⟩;have N5:=b9W (N4.out.later hb);clear hb))
     go_wp2
     go_ret2
     exact⟨rfl,N5.out.below⟩
 ·rw[if_pos hL]
  have hz:=a1E hL;have hz2:=a2P hL;generalize errL f d=n at *;clear hL h1 h2
  go_enter func55,ntmps55
  go_wp2_with ((clear TK0;go_at_call 145;refine(HC.out).mono ?_;rintro e w1 ⟨rfl,hb⟩;have N1:=b9W (N0.out.later hb);have K1:=b9W (K0.out.below hb K0.out.lt);obtain⟨p0,p1⟩:=a06 K1.out;clear hb))
  go_wp2
  go_ret2
  exact⟨rfl,N1.out.below⟩
end Go.Proofs.YtigapglmipmbeaaGreatDoor
namespace Go.Proofs.YtigapglmipmbeaaGreatDoor
open Go.RowKit Go.Shelf
open Lim
theorem cells8{W:World}{g:Nat}{t:TypeId}{v0 v1 v2 v3 v4 v5 v6 v7:Value}(h:Blk W g t #[v0,v1,v2,v3,v4,v5,v6,v7]):W.cell? ⟨g,0,none⟩=some v0∧W.cell? ⟨g,1,none⟩=some v1∧W.cell? ⟨g,2,none⟩=some v2∧W.cell? ⟨g,3,none⟩=some v3 ∧
  W.cell? ⟨g,4,none⟩=some v4∧W.cell? ⟨g,5,none⟩=some v5∧W.cell? ⟨g,6,none⟩=some v6∧W.cell? ⟨g,7,none⟩=some v7 :=
 ⟨by rw[Blk.cell h];rfl,by rw[Blk.cell h];rfl,by rw[Blk.cell h];rfl,by rw[Blk.cell h];rfl,by rw[Blk.cell h];rfl,by rw[Blk.cell h];rfl,by rw[Blk.cell h];rfl,by rw[Blk.cell h];rfl⟩
theorem m_2:IsT ⟨#[50]⟩ 2:=(a8P false [50] [49] (by decide +kernel)).1
theorem m_3:IsT ⟨#[51]⟩ 3:=(a8P false [51] [49] (by decide +kernel)).1
theorem m_114:IsT ⟨#[49,49,47,52]⟩ (11/4):=(a8P false [49,49] [52] (by decide +kernel)).1
theorem m_18:IsT ⟨#[49,47,56]⟩ (1/8):=(a8P false [49] [56] (by decide +kernel)).1
theorem b1B{q:Rat}(h:decide (nm q < 10 ^ 60∧q.den < 10 ^ 60)=true):Sz 120 q :=
 have h2:nm q < 10 ^ 60∧q.den < 10 ^ 60:=of_decide_eq_true h
 Sz.mono (j:=60) h2 (by decide)
theorem of_cis{F L:Rat}(sf:Sz 120 F)(sl:Sz 120 L)(h:((List.range 7).all fun i=>decide (1≤ofM F L i))=true)(h0:0≤L)(h1:L≤1):CIs (txt (ofM F L)) (ofM F L) :=
 CIs.mk' (b8O sf sl (by omega)) (by decide) (fun i hi=>of_decide_eq_true (List.all_eq_true.1 h i (List.mem_range.2 hi))) h0 h1
def twoT:CT:=fun i=>if i=0 then ⟨#[51,47,50]⟩ else if i=1 then ⟨#[49,49,47,52]⟩ else if i=7 then ⟨#[48]⟩ else txt (ofM 2 0) i
theorem b2Q:∀ k,k < 8→txt (ofM 2 0) k=twoT k:=by
 intro k _;unfold twoT
 split
 ·rename_i h;subst h
  show rT (ofM 2 0 0)=_
  rw[show ofM 2 0 0=3/2 by decide +kernel];exact t_3_2.text.symm
 ·split
  ·rename_i h;subst h
   show rT (ofM 2 0 1)=_
   rw[show ofM 2 0 1=11/4 by decide +kernel];exact m_114.text.symm
  ·split
   ·rename_i h;subst h
    show rT (ofM 2 0 7)=_
    rw[show ofM 2 0 7=0 by decide +kernel];exact IsT.zero.text.symm
   ·rfl
theorem b8K:cv (txt (ofM 2 0))=.agg #[.string ⟨#[51,47,50]⟩,.string ⟨#[49,49,47,52]⟩,.string (txt (ofM 2 0) 2),.string (txt (ofM 2 0) 3),.string (txt (ofM 2 0) 4),.string (txt (ofM 2 0) 5),.string (txt (ofM 2 0) 6),.string ⟨#[48]⟩]:=by
 have e0:=b2Q 0 (by omega);have e1:=b2Q 1 (by omega);have e7:=b2Q 7 (by omega);unfold cv;rw[e0,e1,e7]
 rfl
theorem two_of:Ret 62 #[.string ⟨#[50]⟩,.string ⟨#[48]⟩] (.tuple #[.agg #[.string ⟨#[51,47,50]⟩,.string ⟨#[49,49,47,52]⟩,.string (txt (ofM 2 0) 2),.string (txt (ofM 2 0) 3),.string (txt (ofM 2 0) 4),.string (txt (ofM 2 0) 5),.string (txt (ofM 2 0) 6),.string ⟨#[48]⟩],.int .i64 0]):=by
 have h:=mofV m_2 (b1B (by decide +kernel)) (by decide +kernel) IsT.zero (b1B (by decide +kernel)) (by decide +kernel) (by decide +kernel)
 rwa [b8K]at h
theorem two_to:Ret 53 #[.agg #[.string ⟨#[51,47,50]⟩,.string ⟨#[49,49,47,52]⟩,.string (txt (ofM 2 0) 2),.string (txt (ofM 2 0) 3),.string (txt (ofM 2 0) 4),.string (txt (ofM 2 0) 5),.string (txt (ofM 2 0) 6),.string ⟨#[48]⟩],.int .i64 2,.string ⟨#[51]⟩] (.tuple #[.agg #[.string ⟨#[51]⟩,.string ⟨#[49,47,56]⟩],.int .i64 0]):=by
 have sm:SzC 100 (ofM 2 0):=fun i hi=>by
  have h:((List.range 8).all fun i=>decide (nm (ofM 2 0 i) < 10 ^ 60∧(ofM 2 0 i).den < 10 ^ 60))=true:=by decide +kernel
  have h2:nm (ofM 2 0 i) < 10 ^ 60∧(ofM 2 0 i).den < 10 ^ 60:=of_decide_eq_true (List.all_eq_true.1 h i (List.mem_range.2 hi));exact Sz.mono (j:=60) h2 (by decide)
 have h:=mtoV (of_cis (F:=2) (L:=0) (b1B (by decide +kernel)) (b1B (by decide +kernel)) (by decide +kernel) (by decide +kernel) (by decide +kernel)) sm (by omega) m_3 (b1B (by decide +kernel)) (by decide +kernel) (i:=0) (by omega);rw[b8K,show toM (ofM 2 0) 3 0=1/8 by decide +kernel,← m_18.text]at h;exact h
theorem b3_  (w:World) (hr:Res w) :
  Calls prog 49 #[] w fun e w'=>e=.returned (.bool true)∧Below w.heap.size w w':=by
 have D0:=b9W (LW.nil hr);clear hr;have TK0:True:=trivial;have TK1:True:=trivial;obtain⟨t,ht⟩:∃ t,t=txt (ofM 2 0):=⟨_,rfl⟩;have HO:=b9W two_of;have HT:=b9W two_to;rw[← ht]at HO HT;clear ht
 go_enter func49,ntmps49
 go_wp2_with ((clear TK0;go_at_call 62;refine(HO.out _ D0.out.res).mono ?_;rintro e w1 ⟨rfl,hb⟩;have D1:=b9W (D0.out.later hb);clear hb))
 go_wp2_with ((clear TK1;go_at_call 53;refine(HT.out _ (D1.out.push (w1.heap.size) 59 #[.string ⟨#[51,47,50]⟩,.string ⟨#[49,49,47,52]⟩,.string (t 2),.string (t 3),.string (t 4),.string (t 5),.string (t 6),.string ⟨#[48]⟩] rfl).res).mono ?_;rintro e w2 ⟨rfl,hb⟩;have D2:=b9W ((D1.out.push (w1.heap.size) 59 #[.string ⟨#[51,47,50]⟩,.string ⟨#[49,49,47,52]⟩,.string (t 2),.string (t 3),.string (t 4),.string (t 5),.string (t 6),.string ⟨#[48]⟩] rfl).later hb);have CA:=D2.out.held _ (.head _);obtain⟨a0,a1,a2,a3,a4,a5,a6,a7⟩:=cells8 CA;have al:=CA.lt;clear CA;clear hb))
 go_wp2
 go_ret
 exact⟨rfl,(D2.out.push w2.heap.size 63 #[.string ⟨#[51]⟩,.string ⟨#[49,47,56]⟩] rfl).below⟩
end Go.Proofs.YtigapglmipmbeaaGreatDoor
