/- A long region's order check, reckoned without an array of what has come: quick for the kernel. -/
import Derived.Test.YtigapglmipmbeaaGreatDoorLwMomentAdds17
import Derived.Test.YtigapglmipmbeaaGreatDoorLwMomentAdds16
import Derived.Test.YtigapglmipmbeaaGreatDoorLwMomentAdds11
import Derived.Test.YtigapglmipmbeaaGreatDoorLwMomentAdds14
import Derived.Maps.AppendAt
import Derived.ProofKit
import Derived.Maps.OwnSet
import Derived.Maps.StringElems
import Derived.Sort.KeysCollected
import Derived.Shelf.SlIter.Nil
import Derived.Shelf.SortM.Plain
import Derived.Shelf.SortM.SortNone
import Derived.Ground.GgzProg
import Derived.Ground.SlgmProg
import Derived.Test.YtigapglmipmbeaaGreatDoorProg
set_option maxRecDepth 100000
set_option maxHeartbeats 16000000
open Go.Proofs.Tryz
namespace Go.Proofs.YtigapglmipmbeaaGreatDoor
open Go.RowKit
def b7g(md:Region.Mode)(ops:Array Oper)(k:Nat)(o:Oper)(l:List Oper):Bool :=
 l.all fun y=>y.after.any (fun e=>Region.binds md e&&e.on==k) || o.apart ops y
def a8Y(md:Region.Mode)(ops:Array Oper):Nat→List Oper→Bool
 | _,[]=>true
 | k,o::l=>(o.after.all fun e=>!Region.binds md e || decide (e.on < k))&&b7g md ops k o l&&a8Y md ops (k+1) l
theorem b0M{md:Region.Mode}{ops:Array Oper}:∀ (l:List Oper) (k:Nat) (L:Array Bool),a8Y md ops k l=true→(∀ j,l[j]?=ops[k+j]?)→ops.size=k+l.length →
  (∀ i,i < ops.size→L[i]?=some (decide (i < k)))→Region.lexFrom md ops l.length k L=true
 | [],k,L,_,_,hs,hL=>by
  have hall:∀ i∈List.range ops.size,¬ (!L.getD i true&&((ops[i]?).map (·.after.all fun e=>!Region.binds md e || L.getD e.on false)).getD false)=true:=fun i hi=>by
   have hi:=List.mem_range.1 hi;have hk:i < k:=by simpa using (show i < k+([]:List Oper).length from hs ▸ hi)
   have h1:L.getD i true=true:=by rw[Array.getD_eq_getD_getElem?,hL i hi,decide_eq_true hk];rfl
   rw[h1];simp
  show (Region.ready md ops L).isEmpty=true
  unfold Region.ready;rw[List.isEmpty_iff,List.filter_eq_nil_iff];exact hall
 | o::l,k,L,h,hl,hs,hL=>by
  unfold a8Y at h
  simp only[Bool.and_eq_true]at h
  obtain⟨⟨h1,h2⟩,h3⟩:=h;have h0:ops[k]?=some o:=by simpa using (hl 0).symm
  have hk:k < ops.size:=by rw[hs,List.length_cons];omega
  have get:∀ i d,i < ops.size→L.getD i d=decide (i < k):=fun i d hi=>by rw[Array.getD_eq_getD_getElem?,hL i hi];rfl
  have hLs:ops.size≤L.size:=by
   rcases Nat.lt_or_ge L.size ops.size with h|h
   ·have:=hL L.size h
    rw[Array.getElem?_eq_none (Nat.le_refl _)]at this
    cases this
   ·exact h
  show ((Region.ready md ops L).contains k&&Region.free md ops L k&&Region.lexFrom md ops l.length (k+1) (L.setIfInBounds k true))=true
  simp only[Bool.and_eq_true]
  refine⟨⟨?_,?_⟩,b0M l (k+1) _ h3 (fun j=>?_) (by rw[hs,List.length_cons];omega) (fun i hi=>?_)⟩
  ·rw[List.contains_iff_mem,mem_ready]
   refine⟨by rw[get k true hk];exact decide_eq_false (by omega),o,h0,fun e he hb=>?_⟩;have:=Array.all_eq_true'.1 h1 e he;rw[hb]at this;have hlt:e.on < k:=by simpa using this
   rw[get e.on false (by omega)];exact decide_eq_true hlt
  ·unfold Region.free
   rw[h0]
   simp only[List.all_eq_true,List.mem_range]
   intro j hj
   by_cases hjk:j=k
   ·subst hjk;simp
   ·rcases Nat.lt_or_ge j k with hlt|hge
    ·rw[get j true hj,decide_eq_true hlt];simp
    ·have hy:l[j - (k+1)]?=ops[j]?:=by
      have:=hl (j - (k+1)+1);rw[List.getElem?_cons_succ]at this;rw[this]
      congr 1
      omega
     rw[← hy]
     cases hc:l[j - (k+1)]? with
     | none=>simp
     | some y =>
      have:=List.all_eq_true.1 h2 y (List.mem_of_getElem? hc)
      simp only[this,Bool.or_true]
  ·have:=hl (j+1)
   rw[List.getElem?_cons_succ]at this;rw[this]
   congr 1
   omega
  ·by_cases e:k=i
   ·subst e
    rw[Array.getElem?_setIfInBounds_self_of_lt (by omega),decide_eq_true (by omega)]
   ·rw[Array.getElem?_setIfInBounds_ne e,hL i hi]
    congr 1
    by_cases h:i < k
    ·rw[decide_eq_true h,decide_eq_true (by omega)]
    ·rw[decide_eq_false h,decide_eq_false (by omega)]
theorem b40{md:Region.Mode}{l:List Oper}(hn:Region.noSelect l.toArray=true)(h:a8Y md l.toArray 0 l=true):Region.lexB md l.toArray=true:=by
 unfold Region.lexB;rw[hn,Bool.true_and,List.size_toArray];exact b0M l 0 _ h (fun j=>by simp) (by simp) (fun i hi=>by
  have hi':i < l.length:=by simpa using hi
  rw[Array.getElem?_replicate,if_pos hi']
  rfl)
theorem a33{P:Program}{id:Nat}{Q:Exit→Act→World→Prop}{a:Act}{w:World}{l:List Oper}(hm:P.follows .mixedOrders=true)(hn:Region.noSelect l.toArray=true)(hB:a8Y .any l.toArray 0 l=true)
  (h:wpQuiet P l.toArray (fun W=>∃ x:a0v w,W=x.W) (fun a'=>∀ W,(∃ x:a0v w,W=x.W)→Q .normal a' W) l a):(Code.region id l.toArray true).wp P Q a w :=
 a71 hm (b40 hn hB) h
end Go.Proofs.YtigapglmipmbeaaGreatDoor
namespace Go.Proofs.YtigapglmipmbeaaGreatDoor
open Go.RowKit Go.Shelf
open Lim
attribute [local go_sem] Oper.semAt_some
theorem b8C{s:ByteArray}(h:errQ s.data.toList=0):plX s zT=.ok s:=by
 rw[a7m h a4m,a2o,Rat.add_zero,a2O (IsT.of h).fits,← b7D h]
theorem b66{s:ByteArray}(h:errQ s.data.toList=0)(h0:0 < valQ s.data.toList):maxX zT s=.ok s:=by
 rw[b0n a4m h,a2o,if_pos];unfold cmpQ;rw[if_pos h0];decide
theorem b7B{s:ByteArray}(h:errQ s.data.toList=0)(h0:¬ 0 < valQ s.data.toList):maxX zT s=.ok zT:=by
 rw[b0n a4m h,a2o,if_neg];unfold cmpQ;rw[if_neg h0];split<;>decide
theorem a8r(p q:List L2)(vp vq:Value)(f:ByteArray)(w:World)(hp:LRow w vp p)(hq:LRow w vq q)(sp:a1h p)(sq:a1h q)(hf:f.size≤270000)(hr:Res w) :
  Calls prog 102 #[vp,vq,.string f] w fun e w'=>e=.returned (resX (a2S p q f))∧Below w.heap.size w w':=by
 have N0:=b9W (NW.refl hr);have HC:=b9W (a6Y p q vp vq w hp hq sp sq hr);have HVP:=b9W hp;have HVQ:=b9W hq;have HSH:=b9W (And.intro sp sq);have HFS:=b9W hf;obtain⟨A,c,rfl,hlen,hcells⟩:=hp;obtain⟨A',c',rfl,hlen',hcells'⟩:=hq;clear hcells hcells' sp sq hr
 by_cases h0:chk2 p q=0
 ·have HR0:=b9W (show a2S p q f=if posE f≠0 then .error (posE f) else a1q (a3l f q) zT p by unfold a2S;rw[if_neg (by simpa using h0)])
  rw[h0]at HC;change Hid (Calls _ _ _ _ fun e w'=>e=.returned (.int .i64 0)∧_) at HC;clear h0
  by_cases h1:errQ f.data.toList=0
  ·have HSG:=b9W (a4K hf h1)
   by_cases h2:valQ f.data.toList < 0
   ·have d1:decide (sgQ (valQ f.data.toList) < 0)=true:=decide_eq_true ((b8r _).2 h2)
    have HR:=b9W (show a2S p q f=.error 2 by
     have:posE f=2:=by unfold posE;rw[if_neg (by simpa using h1),if_pos h2]
     rw[HR0.out,this];rfl)
    clear h1 h2 hf;generalize sgQ (valQ f.data.toList)=sg at *
    go_enter func102,ntmps102
    go_wp2_with (first
     | (go_at_call 114;refine(HC.out).mono ?_;rintro e w1 ⟨rfl,hb⟩;have N1:=b9W (N0.out.later hb);clear hb)
     | (go_at_call 110;refine(HSG.out _ N1.out.res).mono ?_;rintro e w2 ⟨rfl,hb⟩;have N2:=b9W (N1.out.later hb);clear hb))
    go_ret2
    rw[HR.out];exact⟨rfl,N2.out.below⟩
   ·have d1:decide (sgQ (valQ f.data.toList) < 0)=false:=decide_eq_false (fun h=>h2 ((b8r _).1 h))
    have HR:=b9W (show a2S p q f=a1q (a3l f q) zT p by
     have:posE f=0:=by unfold posE;rw[if_neg (by simpa using h1),if_neg h2]
     rw[HR0.out,this];rfl)
    clear h1 h2 hf;generalize sgQ (valQ f.data.toList)=sg at *
    go_enter func102,ntmps102
    go_wp2_with (first
     | (go_at_call 114;refine HC.out.mono ?_;rintro e w1 ⟨rfl,hb⟩;have N1:=b9W (N0.out.later hb);clear hb)
     | (go_at_call 110;refine(HSG.out _ N1.out.res).mono ?_;rintro e w2 ⟨rfl,hb⟩;have N2:=b9W (N1.out.later hb);clear hb))
    go_loopw [11,12] (fun v11 v12 wr=>∃ (k:Nat) (s:ByteArray),k≤p.length∧v12=.int .i64 (k:Int)∧v11=.string s∧Hid (errQ s.data.toList=0∧a1q (a3l f q) zT p=a1q (a3l f q) s (p.drop k))∧Hid (NW w wr)) (fun _ v12 _=>p.length - (intOf v12).toNat)
    case atStart=>exact⟨0,zT,Nat.zero_le _,rfl,rfl,b9W ⟨a4m,by simp⟩,N2⟩
    case round =>
     clear N0 N1 N2 HC HSG HR0;obtain⟨k,s,hk,rfl,rfl,HE,HN⟩:=hrel
     by_cases hlt:k < p.length
     ·obtain⟨x,hx⟩:∃ x,p[k]?=some x:=⟨_,List.getElem?_eq_getElem hlt⟩
      obtain⟨b,o,c2,e',hb2,c0,c1⟩:=HVP.out.at HN.out.below hx
      simp only[Value.slice.injEq,true_and]at e'
      obtain⟨rfl,rfl⟩:=e';have hlt':(k:Int) < (p.length:Int):=by omega
      have HM:=b9W (fun W (hW:NW w W)=>HVP.out.cell2 hW.below hx);have HAT:=b9W (b3f q _ x.1 wr (HVQ.out.below HN.out.below));have HML:=b9W (b0b HFS.out (HSH.out.2.atT (k:=x.1)));have HXS:=b9W (HSH.out.1 x (List.mem_of_getElem? hx)).2;have HD:=b9W (a2U hx);have HLT:=b9W (And.intro hlt hlt');have HP0:=b9W (show a1q (a3l f q) zT p=a1q (a3l f q) s (x::p.drop (k+1)) by rw[HE.out.2,a2U hx]);obtain⟨y,d⟩:=x
      dsimp only at c0 c1 HM HAT HML HXS HD HP0
      clear hx hlt
      cases hm:mulX f (atT q y) with
      | error n =>
       have HR2:=b9W (show a1q (a3l f q) zT p=.error n by rw[HP0.out];exact a80 (x:=(y,d)) (by unfold a3l;dsimp only;rw[hm]));have hz:=a1E (a18 hm);rw[hm]at HML;change Hid (Ret _ _ (.tuple #[.string ⟨#[]⟩,.int .i64 (n:Int)])) at HML;clear hm
       go_wp2_with (first
        | (go_at_call 39;refine HAT.out.mono ?_;rintro e w3 ⟨rfl,rfl⟩)
        | (go_at_call 149;refine(HML.out _ HN.out.res).mono ?_;rintro e w4 ⟨rfl,hb⟩;have N4:=b9W (HN.out.later hb);clear hb;obtain⟨hb4,q0,q1⟩:=HM.out _ N4.out))
       go_ret2
       rw[HR.out,HR2.out];exact⟨rfl,N4.out.below⟩
      | ok m =>
       rw[hm]at HML;change Hid (Ret _ _ (.tuple #[.string m,.int .i64 0])) at HML;have HSB:=b9W (b3G HXS.out (a14 (b6a hm)))
       cases hs:subX d m with
       | error n =>
        have HR2:=b9W (show a1q (a3l f q) zT p=.error n by rw[HP0.out];exact a80 (x:=(y,d)) (by unfold a3l;dsimp only;rw[hm];dsimp only;rw[hs]));have hz:=a1E (a18 hs);rw[hs]at HSB;change Hid (Ret _ _ (.tuple #[.string ⟨#[]⟩,.int .i64 (n:Int)])) at HSB;clear hm hs
        go_wp2_with (first
        | (go_at_call 39;refine HAT.out.mono ?_;rintro e w3 ⟨rfl,rfl⟩)
        | (go_at_call 149;refine(HML.out _ HN.out.res).mono ?_;rintro e w4 ⟨rfl,hb⟩;have N4:=b9W (HN.out.later hb);clear hb;obtain⟨hb4,q0,q1⟩:=HM.out _ N4.out)
        | (go_at_call 61;refine(HSB.out _ N4.out.res).mono ?_;rintro e w5 ⟨rfl,hb⟩;have N5:=b9W (N4.out.later hb);clear hb))
        go_ret2
        rw[HR.out,HR2.out];exact⟨rfl,N5.out.below⟩
       | ok t =>
        rw[hs]at HSB;change Hid (Ret _ _ (.tuple #[.string t,.int .i64 0])) at HSB;have HSG:=b9W (a4K (a14 (a8z hs)) (a8z hs))
        by_cases h0:0 < valQ t.data.toList
        ·have d1:decide (0 < sgQ (valQ t.data.toList))=true:=decide_eq_true ((b7A _).2 h0)
         have HPE:=b9W (show a3l f q (y,d)=.ok t by unfold a3l;dsimp only;rw[hm];dsimp only;rw[hs];exact b66 (a8z hs) h0);have HAD:=b9W (a7U (a14 HE.out.1) (a14 (a8z hs)));clear hm hs h0;generalize sgQ (valQ t.data.toList)=sg at *
         cases ha:plX s t with
         | error n =>
          rw[ha]at HAD;have HR2:=b9W (show a1q (a3l f q) zT p=.error n by rw[HP0.out];exact a6S HPE.out ha);have hz:=a1E (a18 ha);change Hid (Ret _ _ (.tuple #[.string ⟨#[]⟩,.int .i64 (n:Int)])) at HAD;clear ha
          go_wp2_with (first
        | (go_at_call 39;refine HAT.out.mono ?_;rintro e w3 ⟨rfl,rfl⟩)
        | (go_at_call 149;refine(HML.out _ HN.out.res).mono ?_;rintro e w4 ⟨rfl,hb⟩;have N4:=b9W (HN.out.later hb);clear hb;obtain⟨hb4,q0,q1⟩:=HM.out _ N4.out)
        | (go_at_call 61;refine(HSB.out _ N4.out.res).mono ?_;rintro e w5 ⟨rfl,hb⟩;have N5:=b9W (N4.out.later hb);clear hb)
        | (go_at_call 110;refine(HSG.out _ N5.out.res).mono ?_;rintro e w6 ⟨rfl,hb⟩;have N6:=b9W (N5.out.later hb);clear hb)
        | (go_at_call 59;refine(HAD.out _ N6.out.res).mono ?_;rintro e w7 ⟨rfl,hb⟩;have N7:=b9W (N6.out.later hb);clear hb))
          go_ret2
          rw[HR.out,HR2.out];exact⟨rfl,N7.out.below⟩
         | ok u =>
          rw[ha]at HAD;have HR2:=b9W (show a1q (a3l f q) zT p=a1q (a3l f q) u (p.drop (k+1)) by rw[HP0.out];exact a6M HPE.out ha);change Hid (Ret _ _ (.tuple #[.string u,.int .i64 0])) at HAD;have HER:=b9W (b03 ha);clear ha
          go_wp2_with (first
        | (go_at_call 39;refine HAT.out.mono ?_;rintro e w3 ⟨rfl,rfl⟩)
        | (go_at_call 149;refine(HML.out _ HN.out.res).mono ?_;rintro e w4 ⟨rfl,hb⟩;have N4:=b9W (HN.out.later hb);clear hb;obtain⟨hb4,q0,q1⟩:=HM.out _ N4.out)
        | (go_at_call 61;refine(HSB.out _ N4.out.res).mono ?_;rintro e w5 ⟨rfl,hb⟩;have N5:=b9W (N4.out.later hb);clear hb)
        | (go_at_call 110;refine(HSG.out _ N5.out.res).mono ?_;rintro e w6 ⟨rfl,hb⟩;have N6:=b9W (N5.out.later hb);clear hb)
        | (go_at_call 59;refine(HAD.out _ N6.out.res).mono ?_;rintro e w7 ⟨rfl,hb⟩;have N7:=b9W (N6.out.later hb);clear hb))
          go_roundw
          case rel=>exact⟨k+1,u,HLT.out.1,by go_num,rfl,b9W ⟨HER.out,HR2.out⟩,N7⟩
          case measure=>have:=HLT.out.1;simp[intOf];omega
        ·have d1:decide (0 < sgQ (valQ t.data.toList))=false:=decide_eq_false (fun h=>h0 ((b7A _).1 h))
         have HR2:=b9W (show a1q (a3l f q) zT p=a1q (a3l f q) s (p.drop (k+1)) by
          rw[HP0.out];exact a6M (x:=(y,d)) (p:=zT) (by unfold a3l;dsimp only;rw[hm];dsimp only;rw[hs];exact b7B (a8z hs) h0) (b8C HE.out.1))
         clear hm hs h0;generalize sgQ (valQ t.data.toList)=sg at *
         go_wp2_with (first
        | (go_at_call 39;refine HAT.out.mono ?_;rintro e w3 ⟨rfl,rfl⟩)
        | (go_at_call 149;refine(HML.out _ HN.out.res).mono ?_;rintro e w4 ⟨rfl,hb⟩;have N4:=b9W (HN.out.later hb);clear hb;obtain⟨hb4,q0,q1⟩:=HM.out _ N4.out)
        | (go_at_call 61;refine(HSB.out _ N4.out.res).mono ?_;rintro e w5 ⟨rfl,hb⟩;have N5:=b9W (N4.out.later hb);clear hb)
        | (go_at_call 110;refine(HSG.out _ N5.out.res).mono ?_;rintro e w6 ⟨rfl,hb⟩;have N6:=b9W (N5.out.later hb);clear hb))
         go_roundw
         case rel=>exact⟨k+1,s,HLT.out.1,by go_num,rfl,b9W ⟨HE.out.1,HR2.out⟩,N6⟩
         case measure=>have:=HLT.out.1;simp[intOf];omega
     ·have hlt':¬ (k:Int) < (p.length:Int):=by omega
      obtain rfl:k=p.length:=by omega
      have HR2:=b9W (show a1q (a3l f q) zT p=.ok s by
       have:=HE.out.2
       rwa [List.drop_length]at this)
      clear hlt;go_wp2
      go_ret2
      rw[HR.out,HR2.out];exact⟨rfl,HN.out.below⟩
  ·have HSG:=b9W (a5n hf h1)
   have hm:=a1E h1;have HR:=b9W (show a2S p q f=.error (errQ f.data.toList) by
    rw[HR0.out,a6y h1,if_pos h1])
   clear h1 hf
   go_enter func102,ntmps102
   go_wp2_with (first
    | (go_at_call 114;refine(HC.out).mono ?_;rintro e w1 ⟨rfl,hb⟩;have N1:=b9W (N0.out.later hb);clear hb)
    | (go_at_call 110;refine(HSG.out _ N1.out.res).mono ?_;rintro e w2 ⟨rfl,hb⟩;have N2:=b9W (N1.out.later hb);clear hb))
   go_ret2
   rw[HR.out];exact⟨rfl,N2.out.below⟩
 ·have HR:=b9W (show a2S p q f=.error (chk2 p q) by unfold a2S;rw[if_pos h0])
  have hm:=a1E h0;clear h0 hf
  go_enter func102,ntmps102
  go_wp2_with (go_at_call 114;refine(HC.out).mono ?_;rintro e w1 ⟨rfl,hb⟩;have N1:=b9W (N0.out.later hb);clear hb)
  go_ret2
  rw[HR.out];exact⟨rfl,N1.out.below⟩
def pxX(a b:ByteArray)(n:Int):XE:=match powX a n with
 | .error e=>.error e
 | .ok x=>match powX b (n - 1) with
  | .error e=>.error e
  | .ok y=>divX x y
theorem b7_(n:Int)(q:List L2)(m:L2):a3S n q m=pxX m.2 (atT q m.1) n:=rfl
theorem b6i{a b:ByteArray}{n:Int}{p q:Rat}{k:Nat}(ha:IsT a p)(hb:IsT b q)(hp:0 < p)(hq:0 < q)(sa:Sz k p)(sb:Sz k q)(hk:k*8+1≤maxD)(hn1:1≤n)(hn8:n≤8) :
  Ret 186 #[.string a,.string b,.int .i64 n] (resX (pxX a b n)):=fun w hr=>by
 obtain⟨m,rfl⟩:∃ m:Nat,n=((m+1:Nat):Int):=⟨(n - 1).toNat,by omega⟩;have f1:fits (p ^ (m+1))=true:=a0V.2 ((sa.pow (m+1)).mono (by
  have:k*(m+1)≤k*8:=Nat.mul_le_mul_left _ (by omega)
  omega))
 have f2:fits (q ^ m)=true:=a0V.2 ((sb.pow m).mono (by
  have:k*m≤k*8:=Nat.mul_le_mul_left _ (by omega)
  omega))
 have e1:=a7L ha.err (m+1);have e2:=a7L hb.err m;rw[ha.val,a2O f1]at e1;rw[hb.val,a2O f2]at e2;have em:((m+1:Nat):Int) - 1=(m:Int):=by omega
 have hv:pxX a b ((m+1:Nat):Int)=divX (rT (p ^ (m+1))) (rT (q ^ m)):=by
  unfold pxX;rw[e1]
  dsimp only
  rw[em,e2]
 rw[hv];clear hv;have HPA:=b9W (b5Q (n:=((m+1:Nat):Int)) ha hp (by rw[Rat.zpow_natCast];exact a16 f1) (by omega) (by omega));have HPB:=b9W (b5Q (n:=(m:Int)) hb hq (by rw[Rat.zpow_natCast];exact a16 f2) (by omega) (by omega));have HDV:=b9W (b7E (a16 f1).size (a16 f2).size);have N0:=b9W (NW.refl hr);have TKA:True:=trivial;have hem:=b9W em;obtain⟨r0,r1,hc⟩:=b7n (divX (rT (p ^ (m+1))) (rT (q ^ m)));rw[hc]at HDV ⊢;rw[← em]at HPB;clear f1 f2 e1 e2 hc hp hq sa sb hr ha hb hem em;generalize rT (p ^ (m+1))=s at *;generalize rT (q ^ m)=t at *;generalize ((m+1:Nat):Int)=n at *
 go_enter func186,ntmps186
 go_wp2_with (first
  | (clear TKA;go_at_call 240;refine(HPA.out _ N0.out.res).mono ?_;rintro e w1 ⟨rfl,hb⟩;have N1:=b9W (N0.out.later hb);clear hb)
  | (go_at_call 240;refine(HPB.out _ N1.out.res).mono ?_;rintro e w2 ⟨rfl,hb⟩;have N2:=b9W (N1.out.later hb);clear hb)
  | (go_at_call 160;refine(HDV.out _ N2.out.res).mono ?_;rintro e w3 ⟨rfl,hb⟩;have N3:=b9W (N2.out.later hb);clear hb))
 go_ret2
 exact⟨rfl,N3.out.below⟩
theorem a2A(p q:List L2)(vp vq:Value)(n:Int)(j:Nat)(w:World)(hp:LRow w vp p)(hq:LRow w vq q)(sp:a1h p)(sq:a1h q)(kp:∀ x∈p,x.2.size≤j)(kq:∀ x∈q,x.2.size≤j)(hj:j*8+1≤maxD)(hr:Res w) :
  Calls prog 104 #[vp,vq,.int .i64 n] w fun e w'=>e=.returned (momV p q n)∧Below w.heap.size w w':=by
 have N0:=b9W (NW.refl hr);have HC:=b9W (a6Y p q vp vq w hp hq sp sq hr);have HVP:=b9W hp;have HVQ:=b9W hq;have HSH:=b9W (And.intro sp sq);have HWI:=b9W (fun W (hW:NW w W)=>b1I p q vp vq W (hp.below hW.below) (hq.below hW.below));obtain⟨A,c,rfl,hlen,hcells⟩:=hp;obtain⟨A',c',rfl,hlen',hcells'⟩:=hq;clear hcells hcells' sp sq hr
 by_cases h0:chk2 p q=0
 ·rw[h0]at HC
  change Hid (Calls _ _ _ _ fun e w'=>e=.returned (.int .i64 0)∧_) at HC
  by_cases h1:n < 1
  ·have HR:=b9W (show momV p q n=.tuple #[.string ⟨#[]⟩,.bool false,.int .i64 2] by unfold momV;rw[if_neg (by simpa using h0),if_pos (.inl h1)])
   have d1:decide (n < 1)=true:=decide_eq_true h1;clear h0 h1
   go_enter func104,ntmps104
   go_wp2_with (go_at_call 114;refine(HC.out).mono ?_;rintro e w1 ⟨rfl,hb⟩;have N1:=b9W (N0.out.later hb);clear hb)
   go_ret3
   rw[HR.out];exact⟨rfl,N1.out.below⟩
  ·have d1:decide (n < 1)=false:=decide_eq_false h1
   by_cases h2:8 < n
   ·have HR:=b9W (show momV p q n=.tuple #[.string ⟨#[]⟩,.bool false,.int .i64 2] by unfold momV;rw[if_neg (by simpa using h0),if_pos (.inr h2)])
    have d2:decide (8 < n)=true:=decide_eq_true h2;clear h0 h1 h2
    go_enter func104,ntmps104
    go_wp2_with (go_at_call 114;refine(HC.out).mono ?_;rintro e w1 ⟨rfl,hb⟩;have N1:=b9W (N0.out.later hb);clear hb)
    go_ret3
    rw[HR.out];exact⟨rfl,N1.out.below⟩
   ·have d2:decide (8 < n)=false:=decide_eq_false h2
    have HR0:=b9W (show momV p q n=if inX p q=false then .tuple #[.string ⟨#[]⟩,.bool false,.int .i64 0] else resF (a1q (a3S n q) zT p) by unfold momV;rw[if_neg (by simpa using h0),if_neg (by omega)]);have hc0:=b5e h0
    cases hi:inX p q with
    | false =>
     have HR:=b9W (show momV p q n=.tuple #[.string ⟨#[]⟩,.bool false,.int .i64 0] by rw[HR0.out,if_pos hi]);rw[hi]at HWI;clear h0 h1 h2 hi hc0
     go_enter func104,ntmps104
     go_wp2_with (first
      | (go_at_call 114;refine HC.out.mono ?_;rintro e w1 ⟨rfl,hb⟩;have N1:=b9W (N0.out.later hb);clear hb)
      | (go_at_call 159;refine(HWI.out _ N1.out).mono ?_;rintro e w2 ⟨rfl,hw⟩;have N2:=b9W (show NW w w2 by rw[hw];exact N1.out);clear hw))
     go_ret3
     rw[HR.out];exact⟨rfl,N2.out.below⟩
    | true =>
     have HR:=b9W (show momV p q n=resF (a1q (a3S n q) zT p) by rw[HR0.out,if_neg (by rw[hi];decide)]);rw[hi]at HWI;have HPT0:=b9W (show ∀ x∈p,Ret 186 #[.string x.2,.string (atT q x.1),.int .i64 n] (resX (a3S n q x)) from fun x hx=>by
      obtain⟨y,hy,_,e2⟩:=a6U (a5c.1 hi x hx);have hpx:=(a2b hc0.1).1.plus _ (List.mem_map_of_mem hx);have hqy:=(a2b hc0.2).1.plus _ (List.mem_map_of_mem hy);have ho:=(a2b hc0.1).2.1 x hx;have hoy:=(a2b hc0.2).2.1 y hy;rw[← e2]at hoy;have hqy2:0 < valQ (atT q x.1).data.toList:=by rw[e2];exact hqy
      have kpx:Sz j (valX x):=a4u ho (by rw[← a0F];exact kp x hx);have kqy:Sz j (valQ (atT q x.1).data.toList):=a4u hoy (by rw[← a0F,e2];exact kq y hy);rw[b7_];exact b6i (IsT.of ho) (IsT.of hoy) hpx hqy2 kpx kqy hj (by omega) (by omega))
     clear h0 h1 h2 hi hc0 kp kq hj
     go_enter func104,ntmps104
     go_wp2_with (first
      | (go_at_call 114;refine HC.out.mono ?_;rintro e w1 ⟨rfl,hb⟩;have N1:=b9W (N0.out.later hb);clear hb)
      | (go_at_call 159;refine(HWI.out _ N1.out).mono ?_;rintro e w2 ⟨rfl,hw⟩;have N2:=b9W (show NW w w2 by rw[hw];exact N1.out);clear hw))
     go_loopw [10,11] (fun v10 v11 wr=>∃ (k:Nat) (s:ByteArray),k≤p.length∧v11=.int .i64 (k:Int)∧v10=.string s∧Hid (errQ s.data.toList=0∧a1q (a3S n q) zT p=a1q (a3S n q) s (p.drop k))∧Hid (NW w wr)) (fun _ v11 _=>p.length - (intOf v11).toNat)
     case atStart=>exact⟨0,zT,Nat.zero_le _,rfl,rfl,b9W ⟨a4m,by simp⟩,N2⟩
     case round =>
      clear N0 N1 N2 HC HWI HR0;obtain⟨k,s,hk,rfl,rfl,HE,HN⟩:=hrel
      by_cases hlt:k < p.length
      ·obtain⟨x,hx⟩:∃ x,p[k]?=some x:=⟨_,List.getElem?_eq_getElem hlt⟩
       obtain⟨b,o,c2,e',hb2,c0,c1⟩:=HVP.out.at HN.out.below hx
       simp only[Value.slice.injEq,true_and]at e'
       obtain⟨rfl,rfl⟩:=e';have hlt':(k:Int) < (p.length:Int):=by omega
       have z0:∀ z:a0v wr,z.W.cell? ⟨b,o+k*2,none⟩=some (.string x.1):=fun z=>(z.h.cell (p:=⟨b,o+k*2,none⟩) hb2).trans c0;have z1:∀ z:a0v wr,z.W.cell? ⟨b,o+k*2+1,none⟩=some (.string x.2):=fun z=>(z.h.cell (p:=⟨b,o+k*2+1,none⟩) hb2).trans c1;have HAT:=b9W (fun W (hW:Below wr.heap.size wr W)=>b3f q _ x.1 W ((HVQ.out.below HN.out.below).below hW));have HPT:=b9W (HPT0.out x (List.mem_of_getElem? hx));have HP0:=b9W (show a1q (a3S n q) zT p=a1q (a3S n q) s (x::p.drop (k+1)) by rw[HE.out.2,a2U hx]);have HLT:=b9W (And.intro hlt hlt')
       cases hd:a3S n q x with
       | error m =>
        have HR2:=b9W (show a1q (a3S n q) zT p=.error m by rw[HP0.out];exact a80 hd);have hm:=a1E (b7a hd);rw[hd]at HPT;change Hid (Ret _ _ (.tuple #[.string ⟨#[]⟩,.int .i64 (m:Int)])) at HPT;obtain⟨y,d⟩:=x
        dsimp only at c0 c1 z0 z1 HAT HPT
        clear hx hlt c0 c1 hd HPT0;go_wp2;refine a33 (by kernel_rfl) (by kernel_rfl) (by kernel_rfl) ?_
        repeat (go_big_quiet_step (first
         | (go_at_call 39;refine(HAT.out _ (a0v.h _)).mono ?_;rintro e w99 ⟨rfl,rfl⟩;exact⟨rfl,⟨_,rfl⟩⟩)
         | (go_at_call 186;refine(HPT.out _ (HN.out.res.below (a0v.h _))).mono ?_;rintro e w99 ⟨rfl,hb9⟩;exact⟨rfl,⟨⟨w99,(a0v.h _).trans (hb9.mono (a0v.h _).size)⟩,rfl⟩⟩)))
        refine wpQuiet_nil ?_;rintro _ ⟨z,rfl⟩;have N3:=b9W (HN.out.later z.h);go_wp2
        go_ret3
        rw[HR.out,HR2.out];exact⟨rfl,N3.out.below⟩
       | ok t =>
        rw[hd]at HPT;change Hid (Ret _ _ (.tuple #[.string t,.int .i64 0])) at HPT;have HPE:=b9W hd;have HAD:=b9W (a7U (a14 HE.out.1) (a14 (b4j hd)));obtain⟨y,d⟩:=x
        dsimp only at c0 c1 z0 z1 HAT HPT
        clear hx hlt c0 c1 hd
        cases ha:plX s t with
        | error m =>
         rw[ha]at HAD;have HR2:=b9W (show a1q (a3S n q) zT p=.error m by rw[HP0.out];exact a6S HPE.out ha);have hz:=a1E (a18 ha);change Hid (Ret _ _ (.tuple #[.string ⟨#[]⟩,.int .i64 (m:Int)])) at HAD;clear ha HPT0;go_wp2;refine a33 (by kernel_rfl) (by kernel_rfl) (by kernel_rfl) ?_
         repeat (go_big_quiet_step (first
          | (go_at_call 39;refine(HAT.out _ (a0v.h _)).mono ?_;rintro e w99 ⟨rfl,rfl⟩;exact⟨rfl,⟨_,rfl⟩⟩)
          | (go_at_call 186;refine(HPT.out _ (HN.out.res.below (a0v.h _))).mono ?_;rintro e w99 ⟨rfl,hb9⟩;exact⟨rfl,⟨⟨w99,(a0v.h _).trans (hb9.mono (a0v.h _).size)⟩,rfl⟩⟩)))
         refine wpQuiet_nil ?_;rintro _ ⟨z,rfl⟩;have N3:=b9W (HN.out.later z.h)
         go_wp2_with (go_at_call 59;refine(HAD.out _ N3.out.res).mono ?_;rintro e w5 ⟨rfl,hb⟩;have N5:=b9W (N3.out.later hb);clear hb)
         go_ret3
         rw[HR.out,HR2.out];exact⟨rfl,N5.out.below⟩
        | ok u =>
         rw[ha]at HAD;have HR2:=b9W (show a1q (a3S n q) zT p=a1q (a3S n q) u (p.drop (k+1)) by rw[HP0.out];exact a6M HPE.out ha);change Hid (Ret _ _ (.tuple #[.string u,.int .i64 0])) at HAD;have HER:=b9W (b03 ha);clear ha;go_wp2;refine a33 (by kernel_rfl) (by kernel_rfl) (by kernel_rfl) ?_
         repeat (go_big_quiet_step (first
          | (go_at_call 39;refine(HAT.out _ (a0v.h _)).mono ?_;rintro e w99 ⟨rfl,rfl⟩;exact⟨rfl,⟨_,rfl⟩⟩)
          | (go_at_call 186;refine(HPT.out _ (HN.out.res.below (a0v.h _))).mono ?_;rintro e w99 ⟨rfl,hb9⟩;exact⟨rfl,⟨⟨w99,(a0v.h _).trans (hb9.mono (a0v.h _).size)⟩,rfl⟩⟩)))
         refine wpQuiet_nil ?_;rintro _ ⟨z,rfl⟩;have N3:=b9W (HN.out.later z.h)
         go_wp2_with (go_at_call 59;refine(HAD.out _ N3.out.res).mono ?_;rintro e w5 ⟨rfl,hb⟩;have N5:=b9W (N3.out.later hb);clear hb)
         go_roundw
         case rel=>exact⟨k+1,u,HLT.out.1,by go_num,rfl,b9W ⟨HER.out,HR2.out⟩,N5⟩
         case measure=>have:=HLT.out.1;simp[intOf];omega
      ·have hlt':¬ (k:Int) < (p.length:Int):=by omega
       obtain rfl:k=p.length:=by omega
       have HR2:=b9W (show a1q (a3S n q) zT p=.ok s by
        have:=HE.out.2
        rwa [List.drop_length]at this)
       clear hlt;go_wp2
       go_ret3
       rw[HR.out,HR2.out];exact⟨rfl,HN.out.below⟩
 ·have HR:=b9W (show momV p q n=.tuple #[.string ⟨#[]⟩,.bool false,.int .i64 (chk2 p q:Int)] by unfold momV;rw[if_pos h0])
  have hm:=a1E h0;clear h0
  go_enter func104,ntmps104
  go_wp2_with (go_at_call 114;refine(HC.out).mono ?_;rintro e w1 ⟨rfl,hb⟩;have N1:=b9W (N0.out.later hb);clear hb)
  go_ret3
  rw[HR.out];exact⟨rfl,N1.out.below⟩
def curM(x y:Nat→Rat):Nat→Rat:=fun i=>if i=7 then 0 else maxQ (x i) (y i)
def a4o:CT:=fun i=>if i=7 then ⟨#[48]⟩ else ⟨#[]⟩
theorem b1Q(p q:List L2)(vp vq:Value)(x y:Nat→Rat)(w:World)(hp:LRow w vp p)(hq:LRow w vq q)(sp:a1h p)(sq:a1h q)(kp:∀ x∈p,x.2.size≤60)(kq:∀ x∈q,x.2.size≤60)(hr:Res w)
  (hx:∀ i:Nat,i < 7→momV p q ((i:Int)+2)=.tuple #[.string (rT (x i)),.bool true,.int .i64 0]∧fits (x i)=true) (hy:∀ i:Nat,i < 7→momV q p ((i:Int)+2)=.tuple #[.string (rT (y i)),.bool true,.int .i64 0]∧fits (y i)=true) :
  Calls prog 52 #[vp,vq] w fun e w'=>e=.returned (.tuple #[cv (txt (curM x y)),.bool true])∧Below w.heap.size w w':=by
 have N0:=b9W (((NW.refl hr).alloc (.cells #[.string ⟨#[]⟩,.string ⟨#[]⟩,.string ⟨#[]⟩,.string ⟨#[]⟩,.string ⟨#[]⟩,.string ⟨#[]⟩,.string ⟨#[]⟩,.string ⟨#[]⟩] 59)).alloc (.cells #[.string ⟨#[]⟩,.string ⟨#[]⟩,.string ⟨#[]⟩,.string ⟨#[]⟩,.string ⟨#[]⟩,.string ⟨#[]⟩,.string ⟨#[]⟩,.string ⟨#[48]⟩] 59));have K4:=b9W (show CBlk ((w.alloc (.cells #[.string ⟨#[]⟩,.string ⟨#[]⟩,.string ⟨#[]⟩,.string ⟨#[]⟩,.string ⟨#[]⟩,.string ⟨#[]⟩,.string ⟨#[]⟩,.string ⟨#[]⟩] 59)).alloc (.cells #[.string ⟨#[]⟩,.string ⟨#[]⟩,.string ⟨#[]⟩,.string ⟨#[]⟩,.string ⟨#[]⟩,.string ⟨#[]⟩,.string ⟨#[]⟩,.string ⟨#[48]⟩] 59)) w.heap.size zC from Blk.alloc (Blk.new w 59 #[.string ⟨#[]⟩,.string ⟨#[]⟩,.string ⟨#[]⟩,.string ⟨#[]⟩,.string ⟨#[]⟩,.string ⟨#[]⟩,.string ⟨#[]⟩,.string ⟨#[]⟩]) _);have K6:=b9W (show CBlk ((w.alloc (.cells #[.string ⟨#[]⟩,.string ⟨#[]⟩,.string ⟨#[]⟩,.string ⟨#[]⟩,.string ⟨#[]⟩,.string ⟨#[]⟩,.string ⟨#[]⟩,.string ⟨#[]⟩] 59)).alloc (.cells #[.string ⟨#[]⟩,.string ⟨#[]⟩,.string ⟨#[]⟩,.string ⟨#[]⟩,.string ⟨#[]⟩,.string ⟨#[]⟩,.string ⟨#[]⟩,.string ⟨#[48]⟩] 59)) (w.heap.size+1) a4o from by
  have h:=Blk.new (w.alloc (.cells #[.string ⟨#[]⟩,.string ⟨#[]⟩,.string ⟨#[]⟩,.string ⟨#[]⟩,.string ⟨#[]⟩,.string ⟨#[]⟩,.string ⟨#[]⟩,.string ⟨#[]⟩] 59)) 59 #[.string ⟨#[]⟩,.string ⟨#[]⟩,.string ⟨#[]⟩,.string ⟨#[]⟩,.string ⟨#[]⟩,.string ⟨#[]⟩,.string ⟨#[]⟩,.string ⟨#[48]⟩];rw[World.size_alloc]at h;exact h)
 have HX:=b9W (fun (i:Nat) (_:i < 7) W (hW:NW w W)=>a2A p q _ _ ((i:Int)+2) 60 W (hp.below hW.below) (hq.below hW.below) sp sq kp kq (by decide) hW.res);have HY:=b9W (fun (i:Nat) (_:i < 7) W (hW:NW w W)=>a2A q p _ _ ((i:Int)+2) 60 W (hq.below hW.below) (hp.below hW.below) sq sp kq kp (by decide) hW.res);have HRS:=b9W hr;have FX:=b9W hx;have FY:=b9W hy;obtain⟨A,ca,rfl,_,_⟩:=id hp;obtain⟨B,cb,rfl,_,_⟩:=id hq;clear hp hq sp sq kp kq hr hx hy
 go_enter func52,ntmps52
 go_wp2
 go_loopw [7] (fun v7 wr=>∃ (i:Nat) (c:CT),i≤7∧v7=.int .i64 (i:Int)∧Hid (∀ j,j < i→c j=rT (maxQ (x j) (y j)))∧Hid (c 7=⟨#[48]⟩)∧Hid (CBlk wr w.heap.size zC)∧Hid (CBlk wr (w.heap.size+1) c)∧Hid (NW w wr)) (fun v7 _=>7 - (intOf v7).toNat)
 case atStart=>exact⟨0,a4o,by omega,rfl,b9W (fun j h=>absurd h (by omega)),b9W rfl,K4,K6,N0⟩
 case round =>
  clear K4 K6 N0;obtain⟨i,c,hi,rfl,HE,HZ,K4,K6,HN⟩:=hrel
  by_cases hlt:i < 7
  ·have hlt':(i:Int) < 7:=by omega
   have HM1:=b9W (HX.out i hlt);have HM2:=b9W (HY.out i hlt);obtain⟨ex,fx⟩:=FX.out i hlt;obtain⟨ey,fy⟩:=FY.out i hlt;rw[ex]at HM1;rw[ey]at HM2;have HMX:=b9W (fun W=>b88 W (a16 fx) (a16 fy));have HLT:=b9W hlt;have HTM:=b9W (rfl:rT (maxQ (x i) (y i))=rT (maxQ (x i) (y i)));generalize rT (x i)=tx at *;generalize rT (y i)=ty at *;obtain⟨tm,htm⟩:∃ t,t=rT (maxQ (x i) (y i)):=⟨_,rfl⟩;rw[← htm]at HMX;have HTM:=b9W htm;clear ex ey fx fy htm hlt;have TK0:True:=trivial;have TK1:True:=trivial
   go_wp2_with ((clear TK0;go_at_call 104;refine(HM1.out _ HN.out).mono ?_;rintro e w3 ⟨rfl,hb⟩;have N3:=b9W (HN.out.later hb);have K4:=b9W (K4.out.later hb);have K6:=b9W (K6.out.later hb);clear hb))
   go_wp2_with ((clear TK1;go_at_call 104;refine(HM2.out _ N3.out).mono ?_;rintro e w4 ⟨rfl,hb⟩;have N4:=b9W (N3.out.later hb);have K4:=b9W (K4.out.later hb);have K6:=b9W (K6.out.later hb);clear hb))
   go_wp2_with ((go_at_call 57;refine(HMX.out _).mono ?_;rintro e w5 ⟨rfl,hb⟩;have N5:=b9W (N4.out.later hb);have K4:=b9W (K4.out.later hb);have K6:=b9W (K6.out.later hb);have p0:=K6.out.cell (k:=i) (by have:=HLT.out;omega);have f0:=K6.out.frozen i;have l0:=K6.out.lt;clear hb))
   have K6':=b9W (K6.out.set_ (k:=i) (by have:=HLT.out;omega) tm);have K4':=b9W (show CBlk (w5.setCell ⟨w.heap.size+1,i,none⟩ (.string tm)) w.heap.size zC from Blk.far K4.out (p:=⟨w.heap.size+1,i,none⟩) (by simp) _);have N6:=b9W (show NW w (w5.setCell ⟨w.heap.size+1,i,none⟩ (.string tm)) from by
    have hb:=N5.out.below.setCell (p:=⟨w.heap.size+1,i,none⟩) (Nat.le_succ _) (.string tm);exact⟨hb,HRS.out.below hb⟩)
   clear p0 f0 l0
   go_roundw
   case rel=>exact⟨i+1,upd c i tm,HLT.out,by go_num,b9W (fun j hj=>by
    by_cases e:j=i
    ·subst e;rw[b3n];exact HTM.out
    ·rw[a8o c tm e];exact HE.out j (by omega)),b9W (by rw[a8o c tm (by have:=HLT.out;omega)];exact HZ.out),K4',K6',N6⟩
   case measure=>have:=HLT.out;simp[intOf];omega
  ·have hlt':¬ (i:Int) < 7:=by omega
   obtain rfl:i=7:=by omega
   have HC:=b9W (show cv c=cv (txt (curM x y)) from cv_ext fun k hk=>by
    by_cases e:k=7
    ·subst e
     rw[HZ.out]
     show _=rT (curM x y 7)
     rw[show curM x y 7=0 from if_pos rfl];exact IsT.zero.text
    ·rw[HE.out k (by omega)]
     show _=rT (curM x y k)
     rw[show curM x y k=maxQ (x k) (y k) from if_neg e])
   obtain⟨c0,c1,c2,c3,c4,c5,c6,c7⟩:=K6.out.cells;obtain⟨z0,z1,z2,z3,z4,z5,z6,z7⟩:=K4.out.cells;obtain⟨y0,y1,y2,y3,y4,y5,y6,y7⟩:=K4.out.frozens;clear hlt;go_wp2;refine bodyPost_ret (a2c rfl rfl (a4v (a3w c K4.out))) rfl ?_;rw[← HC.out];exact⟨rfl,a2h HN.out.below (Nat.le_refl _) c⟩
theorem a85(p q:List L2)(vp vq:Value)(ty:ByteArray)(by_:Bool)(n:Int)(h1:momV p q 2=.tuple #[.string ⟨#[]⟩,.bool false,.int .i64 0])(h2:momV q p 2=.tuple #[.string ty,.bool by_,.int .i64 n])(w:World)(hp:LRow w vp p)(hq:LRow w vq q)(sp:a1h p)(sq:a1h q)(kp:∀ x∈p,x.2.size≤60)(kq:∀ x∈q,x.2.size≤60)(hr:Res w) :
  Calls prog 52 #[vp,vq] w fun e w'=>e=.returned (.tuple #[cv a4o,.bool false])∧Below w.heap.size w w':=by
 have N0:=b9W (((NW.refl hr).alloc (.cells #[.string ⟨#[]⟩,.string ⟨#[]⟩,.string ⟨#[]⟩,.string ⟨#[]⟩,.string ⟨#[]⟩,.string ⟨#[]⟩,.string ⟨#[]⟩,.string ⟨#[]⟩] 59)).alloc (.cells #[.string ⟨#[]⟩,.string ⟨#[]⟩,.string ⟨#[]⟩,.string ⟨#[]⟩,.string ⟨#[]⟩,.string ⟨#[]⟩,.string ⟨#[]⟩,.string ⟨#[48]⟩] 59));have K4:=b9W (show CBlk ((w.alloc (.cells #[.string ⟨#[]⟩,.string ⟨#[]⟩,.string ⟨#[]⟩,.string ⟨#[]⟩,.string ⟨#[]⟩,.string ⟨#[]⟩,.string ⟨#[]⟩,.string ⟨#[]⟩] 59)).alloc (.cells #[.string ⟨#[]⟩,.string ⟨#[]⟩,.string ⟨#[]⟩,.string ⟨#[]⟩,.string ⟨#[]⟩,.string ⟨#[]⟩,.string ⟨#[]⟩,.string ⟨#[48]⟩] 59)) w.heap.size zC from Blk.alloc (Blk.new w 59 #[.string ⟨#[]⟩,.string ⟨#[]⟩,.string ⟨#[]⟩,.string ⟨#[]⟩,.string ⟨#[]⟩,.string ⟨#[]⟩,.string ⟨#[]⟩,.string ⟨#[]⟩]) _);have K6:=b9W (show CBlk ((w.alloc (.cells #[.string ⟨#[]⟩,.string ⟨#[]⟩,.string ⟨#[]⟩,.string ⟨#[]⟩,.string ⟨#[]⟩,.string ⟨#[]⟩,.string ⟨#[]⟩,.string ⟨#[]⟩] 59)).alloc (.cells #[.string ⟨#[]⟩,.string ⟨#[]⟩,.string ⟨#[]⟩,.string ⟨#[]⟩,.string ⟨#[]⟩,.string ⟨#[]⟩,.string ⟨#[]⟩,.string ⟨#[48]⟩] 59)) (w.heap.size+1) a4o from by
  have h:=Blk.new (w.alloc (.cells #[.string ⟨#[]⟩,.string ⟨#[]⟩,.string ⟨#[]⟩,.string ⟨#[]⟩,.string ⟨#[]⟩,.string ⟨#[]⟩,.string ⟨#[]⟩,.string ⟨#[]⟩] 59)) 59 #[.string ⟨#[]⟩,.string ⟨#[]⟩,.string ⟨#[]⟩,.string ⟨#[]⟩,.string ⟨#[]⟩,.string ⟨#[]⟩,.string ⟨#[]⟩,.string ⟨#[48]⟩];rw[World.size_alloc]at h;exact h)
 have HX:=b9W (fun W (hW:NW w W)=>a2A p q _ _ 2 60 W (hp.below hW.below) (hq.below hW.below) sp sq kp kq (by decide) hW.res);have HY:=b9W (fun W (hW:NW w W)=>a2A q p _ _ 2 60 W (hq.below hW.below) (hp.below hW.below) sq sp kq kp (by decide) hW.res);obtain⟨A,ca,rfl,_,_⟩:=id hp;obtain⟨B,cb,rfl,_,_⟩:=id hq;rw[h1]at HX;rw[h2]at HY;clear hp hq sp sq kp kq hr h1 h2
 go_enter func52,ntmps52
 go_wp2
 go_loopw [7] (fun v7 wr=>v7=.int .i64 0∧Hid (CBlk wr w.heap.size zC)∧Hid (CBlk wr (w.heap.size+1) a4o)∧Hid (NW w wr)) (fun _ _=>0)
 case atStart=>exact⟨rfl,K4,K6,N0⟩
 case round =>
  clear K4 K6 N0;obtain⟨rfl,K4,K6,HN⟩:=hrel;have TK0:True:=trivial;have TK1:True:=trivial
  go_wp2_with ((clear TK0;go_at_call 104;refine(HX.out _ HN.out).mono ?_;rintro e w3 ⟨rfl,hb⟩;have N3:=b9W (HN.out.later hb);have K4:=b9W (K4.out.later hb);have K6:=b9W (K6.out.later hb);clear hb))
  go_wp2_with ((clear TK1;go_at_call 104;refine(HY.out _ N3.out).mono ?_;rintro e w4 ⟨rfl,hb⟩;have N4:=b9W (N3.out.later hb);have K4:=b9W (K4.out.later hb);have K6:=b9W (K6.out.later hb);obtain⟨c0,c1,c2,c3,c4,c5,c6,c7⟩:=K6.out.cells;obtain⟨z0,z1,z2,z3,z4,z5,z6,z7⟩:=K4.out.cells;obtain⟨y0,y1,y2,y3,y4,y5,y6,y7⟩:=K4.out.frozens;clear hb))
  refine bodyPost_ret (a2c rfl rfl (a4v (a3w a4o K4.out))) rfl ?_;exact⟨rfl,a2h N4.out.below (Nat.le_refl _) a4o⟩
theorem b2I(p q:List L2)(vp vq:Value)(tx:ByteArray)(h1:momV p q 2=.tuple #[.string tx,.bool true,.int .i64 0])(h2:momV q p 2=.tuple #[.string ⟨#[]⟩,.bool false,.int .i64 0])(w:World)(hp:LRow w vp p)(hq:LRow w vq q)(sp:a1h p)(sq:a1h q)(kp:∀ x∈p,x.2.size≤60)(kq:∀ x∈q,x.2.size≤60)(hr:Res w) :
  Calls prog 52 #[vp,vq] w fun e w'=>e=.returned (.tuple #[cv a4o,.bool false])∧Below w.heap.size w w':=by
 have N0:=b9W (((NW.refl hr).alloc (.cells #[.string ⟨#[]⟩,.string ⟨#[]⟩,.string ⟨#[]⟩,.string ⟨#[]⟩,.string ⟨#[]⟩,.string ⟨#[]⟩,.string ⟨#[]⟩,.string ⟨#[]⟩] 59)).alloc (.cells #[.string ⟨#[]⟩,.string ⟨#[]⟩,.string ⟨#[]⟩,.string ⟨#[]⟩,.string ⟨#[]⟩,.string ⟨#[]⟩,.string ⟨#[]⟩,.string ⟨#[48]⟩] 59));have K4:=b9W (show CBlk ((w.alloc (.cells #[.string ⟨#[]⟩,.string ⟨#[]⟩,.string ⟨#[]⟩,.string ⟨#[]⟩,.string ⟨#[]⟩,.string ⟨#[]⟩,.string ⟨#[]⟩,.string ⟨#[]⟩] 59)).alloc (.cells #[.string ⟨#[]⟩,.string ⟨#[]⟩,.string ⟨#[]⟩,.string ⟨#[]⟩,.string ⟨#[]⟩,.string ⟨#[]⟩,.string ⟨#[]⟩,.string ⟨#[48]⟩] 59)) w.heap.size zC from Blk.alloc (Blk.new w 59 #[.string ⟨#[]⟩,.string ⟨#[]⟩,.string ⟨#[]⟩,.string ⟨#[]⟩,.string ⟨#[]⟩,.string ⟨#[]⟩,.string ⟨#[]⟩,.string ⟨#[]⟩]) _);have K6:=b9W (show CBlk ((w.alloc (.cells #[.string ⟨#[]⟩,.string ⟨#[]⟩,.string ⟨#[]⟩,.string ⟨#[]⟩,.string ⟨#[]⟩,.string ⟨#[]⟩,.string ⟨#[]⟩,.string ⟨#[]⟩] 59)).alloc (.cells #[.string ⟨#[]⟩,.string ⟨#[]⟩,.string ⟨#[]⟩,.string ⟨#[]⟩,.string ⟨#[]⟩,.string ⟨#[]⟩,.string ⟨#[]⟩,.string ⟨#[48]⟩] 59)) (w.heap.size+1) a4o from by
  have h:=Blk.new (w.alloc (.cells #[.string ⟨#[]⟩,.string ⟨#[]⟩,.string ⟨#[]⟩,.string ⟨#[]⟩,.string ⟨#[]⟩,.string ⟨#[]⟩,.string ⟨#[]⟩,.string ⟨#[]⟩] 59)) 59 #[.string ⟨#[]⟩,.string ⟨#[]⟩,.string ⟨#[]⟩,.string ⟨#[]⟩,.string ⟨#[]⟩,.string ⟨#[]⟩,.string ⟨#[]⟩,.string ⟨#[48]⟩];rw[World.size_alloc]at h;exact h)
 have HX:=b9W (fun W (hW:NW w W)=>a2A p q _ _ 2 60 W (hp.below hW.below) (hq.below hW.below) sp sq kp kq (by decide) hW.res);have HY:=b9W (fun W (hW:NW w W)=>a2A q p _ _ 2 60 W (hq.below hW.below) (hp.below hW.below) sq sp kq kp (by decide) hW.res);obtain⟨A,ca,rfl,_,_⟩:=id hp;obtain⟨B,cb,rfl,_,_⟩:=id hq;rw[h1]at HX;rw[h2]at HY;clear hp hq sp sq kp kq hr h1 h2
 go_enter func52,ntmps52
 go_wp2
 go_loopw [7] (fun v7 wr=>v7=.int .i64 0∧Hid (CBlk wr w.heap.size zC)∧Hid (CBlk wr (w.heap.size+1) a4o)∧Hid (NW w wr)) (fun _ _=>0)
 case atStart=>exact⟨rfl,K4,K6,N0⟩
 case round =>
  clear K4 K6 N0;obtain⟨rfl,K4,K6,HN⟩:=hrel;have TK0:True:=trivial;have TK1:True:=trivial
  go_wp2_with ((clear TK0;go_at_call 104;refine(HX.out _ HN.out).mono ?_;rintro e w3 ⟨rfl,hb⟩;have N3:=b9W (HN.out.later hb);have K4:=b9W (K4.out.later hb);have K6:=b9W (K6.out.later hb);clear hb))
  go_wp2_with ((clear TK1;go_at_call 104;refine(HY.out _ N3.out).mono ?_;rintro e w4 ⟨rfl,hb⟩;have N4:=b9W (N3.out.later hb);have K4:=b9W (K4.out.later hb);have K6:=b9W (K6.out.later hb);obtain⟨c0,c1,c2,c3,c4,c5,c6,c7⟩:=K6.out.cells;obtain⟨z0,z1,z2,z3,z4,z5,z6,z7⟩:=K4.out.cells;obtain⟨y0,y1,y2,y3,y4,y5,y6,y7⟩:=K4.out.frozens;clear hb))
  refine bodyPost_ret (a2c rfl rfl (a4v (a3w a4o K4.out))) rfl ?_;exact⟨rfl,a2h N4.out.below (Nat.le_refl _) a4o⟩
end Go.Proofs.YtigapglmipmbeaaGreatDoor
namespace Go.Proofs.YtigapglmipmbeaaGreatDoor
open Go.RowKit Go.Shelf
def a0_(ls:List L2):List Value:=ls.flatMap fun x=>[.string x.1,.string x.2]
theorem a1K(x:L2)(l:List L2):a0_ (x::l)=.string x.1::.string x.2::a0_ l:=rfl
theorem a2K(l m:List L2):a0_ (l++m)=a0_ l++a0_ m:=by unfold a0_;rw[List.flatMap_append]
theorem a2L:∀ ls:List L2,(a0_ ls).length=ls.length*2
 | []=>rfl
 | x::l=>by rw[a1K,List.length_cons,List.length_cons,a2L l,List.length_cons];omega
theorem a5b:∀ {ls:List L2} {k:Nat} {x:L2},ls[k]?=some x→(a0_ ls)[k*2]?=some (.string x.1)∧(a0_ ls)[k*2+1]?=some (.string x.2)
 | [],k,x,h=>by simp at h
 | y::l,0,x,h=>by
  simp only[List.getElem?_cons_zero,Option.some.injEq]at h
  subst h;exact⟨rfl,rfl⟩
 | y::l,k+1,x,h=>by
  have h2:l[k]?=some x:=by simpa using h
  rw[a1K,show (k+1)*2=k*2+1+1 by omega];exact a5b h2
theorem b8v:(prog.info? 30).map (fun i=>(i.zero,i.size,i.bytes))=some (some (.agg #[.string ByteArray.empty,.string ByteArray.empty]),2,32):=by kernel_rfl
theorem a1H{w:World}{base e size n:Nat}{v:Value}{us:List Value}(h:w.ownsRow base e size v n us):∃ A c,v=.slice A n c:=by
 rcases h.2 with⟨e1,h0⟩|⟨g,cap,cur,e1,_⟩
 ·exact⟨none,0,by rw[e1,h0]⟩
 ·exact⟨_,_,e1⟩
theorem a4e{w:World}{base base' e size n:Nat}{v:Value}{us:List Value}(h:w.ownsRow base e size v n us)(hb:base'≤base):w.ownsRow base' e size v n us:=by
 refine⟨h.1,?_⟩
 rcases h.2 with h2|⟨g,cap,cur,e1,h3,h4⟩
 ·exact .inl h2
 ·exact .inr ⟨g,cap,cur,e1,Nat.le_trans hb h3,h4⟩
def OwnM(base:Nat)(w:World)(v:Value)(ls:List L2):Prop:=w.ownsRow base 30 2 v ls.length (a0_ ls)
theorem OwnM.nil(base:Nat)(w:World):OwnM base w (.slice none 0 0) []:=World.ownsRow_nil _ _ _ _
theorem OwnM.row{base:Nat}{w:World}{v:Value}{ls:List L2}(h:OwnM base w v ls)(hl:ls.length≤1000):LRow w v ls:=by
 rcases h.2 with⟨e,h0⟩|⟨g,cap,cur,e,hb,hh,h1,h2,_⟩
 ·subst e
  have:ls=[]:=List.eq_nil_of_length_eq_zero h0;subst this;exact LRow.nil _ _ _
 ·subst e
  refine⟨_,_,rfl,hl,fun _=>⟨g,0,rfl,(Array.getElem?_eq_some_iff.1 hh).1,fun j x hj=>?_⟩⟩;obtain⟨c0,c1⟩:=a5b hj;have r0:=World.ownsRow.cells h (g:=g) rfl _ _ c0;have r1:=World.ownsRow.cells h (g:=g) rfl _ _ c1;rw[show (⟨g,0,none⟩:Addr).add (j*2)=⟨g,0+j*2,none⟩ by unfold Addr.add;split<;>simp_all]at r0;rw[show (⟨g,0,none⟩:Addr).add (j*2+1)=⟨g,0+(j*2+1),none⟩ by unfold Addr.add;split<;>simp_all]at r1;exact⟨r0,r1⟩
theorem OwnM.slice{base:Nat}{w:World}{v:Value}{ls:List L2}(h:OwnM base w v ls):∃ A c,v=.slice A ls.length c:=by
 rcases h.2 with⟨e,h0⟩|⟨g,cap,cur,e,_⟩
 ·exact⟨none,0,by rw[e,h0]⟩
 ·exact⟨_,_,e⟩
theorem OwnM.later{base:Nat}{w w':World}{v:Value}{ls:List L2}(h:OwnM base w v ls)(hb:Below w.heap.size w w'):OwnM base w' v ls:=by
 have hg:w.grownBy w' none:=⟨hb.os,hb.tape,hb.output,hb.size,fun k hk _=>hb.block k hk⟩;refine World.ownsRow.kept h hg ?_
 cases v.ownBlock with
 | none=>exact .inl rfl
 | some g=>exact .inr (by simp)
theorem OwnM.base{base:Nat}{w:World}{v:Value}{ls:List L2}(h:OwnM base w v ls){g:Nat}(hg:v.ownBlock=some g):base≤g:=(World.ownsRow.lt h g hg).1
theorem b1A(w:World)(x y:Value)(t:TypeId):∀ j u,[x,y][j]?=some u→(w.alloc (.cells #[x,y] t)).cell? ((⟨w.heap.size,0,none⟩:Addr).add j)=some u:=by
 intro j u hj
 match j,hj with
 | 0,hj =>
  simp at hj
  subst hj
  simp[Addr.add]
 | 1,hj =>
  simp at hj
  subst hj
  simp[Addr.add]
theorem a7V{w W W':World}(h:NW w W)(hr:Res w){row:Option Nat}(hg:W.grownBy W' row)(hrow:∀ r,row=some r→w.heap.size≤r):NW w W':=by
 have hb:Below w.heap.size w W':=h.below.grown hg h.below.size hrow;exact⟨hb,hr.below hb⟩
theorem b2g{w w':World}(h:Below w.heap.size w w')(row:Option Nat):w.grownBy w' row:=⟨h.os,h.tape,h.output,h.size,fun k hk _=>h.block k hk⟩
def a38(w:World)(v:Value)(ls:List L2):Prop :=
 ∃ A c,v=.slice A ls.length c∧ls.length≤maxLen∧(0 < ls.length→∃ b o,A=some ⟨b,o,none⟩∧b < w.heap.size ∧
  ∀ (j:Nat) (x:L2),ls[j]?=some x→w.cell? ⟨b,o+j*2,none⟩=some (.string x.1)∧w.cell? ⟨b,o+j*2+1,none⟩=some (.string x.2))
theorem a38.below{w w':World}{v:Value}{ls:List L2}(h:a38 w v ls)(hb:Below w.heap.size w w'):a38 w' v ls:=by
 obtain⟨A,c,e,h1,h2⟩:=h;refine⟨A,c,e,h1,fun h0=>?_⟩;obtain⟨b,o,e2,hlt,hc⟩:=h2 h0;refine⟨b,o,e2,Nat.lt_of_lt_of_le hlt hb.size,fun j x hj=>?_⟩;obtain⟨c0,c1⟩:=hc j x hj;exact⟨by rw[hb.cell (p:=⟨b,o+j*2,none⟩) hlt];exact c0,by rw[hb.cell (p:=⟨b,o+j*2+1,none⟩) hlt];exact c1⟩
theorem LRow.wide{w:World}{v:Value}{ls:List L2}(h:LRow w v ls):a38 w v ls:=by
 obtain⟨A,c,e,h1,h2⟩:=h;exact⟨A,c,e,by unfold maxLen;omega,h2⟩
theorem a38.row{w:World}{v:Value}{ls:List L2}(h:a38 w v ls)(hl:ls.length≤1000):LRow w v ls:=by
 obtain⟨A,c,e,_,h2⟩:=h;exact⟨A,c,e,hl,h2⟩
theorem a38.at{w W:World}{v:Value}{ls:List L2}(h:a38 w v ls)(hb:Below w.heap.size w W){k:Nat}{x:L2}(hx:ls[k]?=some x) :
  ∃ b o c,v=.slice (some ⟨b,o,none⟩) ls.length c∧b < W.heap.size∧W.cell? ⟨b,o+k*2,none⟩=some (.string x.1)∧W.cell? ⟨b,o+k*2+1,none⟩=some (.string x.2):=by
 obtain⟨A,c,rfl,_,hc⟩:=h;obtain⟨b,o,rfl,hlt,hcell⟩:=hc (by have:=(List.getElem?_eq_some_iff.1 hx).1;omega);obtain⟨c0,c1⟩:=hcell k x hx;exact⟨b,o,c,rfl,Nat.lt_of_lt_of_le hlt hb.size,by rw[hb.cell (p:=⟨b,o+k*2,none⟩) hlt];exact c0,by rw[hb.cell (p:=⟨b,o+k*2+1,none⟩) hlt];exact c1⟩
def a5I(w:World)(v:Value)(lss:List (List L2)):Prop:=∃ b c,v=.slice (some ⟨b,0,none⟩) lss.length c∧b < w.heap.size∧lss.length≤8 ∧
 ∀ (j:Nat) (ls:List L2),lss[j]?=some ls→∃ u,w.cell? ⟨b,j,none⟩=some u∧a38 w u ls
theorem a5I.ofBlk{w:World}{b:Nat}{t:TypeId}{vs:List (Value × List L2)}{n c:Nat}(h:Blk w b t (vs.map (·.1)).toArray)(hn:n=vs.length)(hl:vs.length≤8)(hv:∀ x∈vs,a38 w x.1 x.2):a5I w (.slice (some ⟨b,0,none⟩) n c) (vs.map (·.2)):=by
 subst hn;refine⟨b,c,by rw[List.length_map],h.lt,by rw[List.length_map];exact hl,fun j ls hj=>?_⟩;rw[List.getElem?_map]at hj
 cases hx:vs[j]? with
 | none=>rw[hx]at hj;cases hj
 | some x =>
  rw[hx]at hj
  cases hj
  exact⟨x.1,by rw[h.cell];simp[hx],hv x (List.mem_of_getElem? hx)⟩
def a3U(n k p:Nat)(ls:List L2):Bool:=decide (ls.length≤n)&&ls.all fun x=>decide (x.1.size≤k)&&decide (x.2.size≤p)
theorem a2D{n k p:Nat}{ls:List L2}:a3U n k p ls=true↔ls.length≤n∧∀ x∈ls,x.1.size≤k∧x.2.size≤p:=by
 unfold a3U;rw[Bool.and_eq_true,decide_eq_true_eq,List.all_eq_true]
 simp only[Bool.and_eq_true,decide_eq_true_eq]
end Go.Proofs.YtigapglmipmbeaaGreatDoor
namespace Go.Proofs.YtigapglmipmbeaaGreatDoor
open Lim
def oneM(n k p:Nat)(l:List L2):Option (List L2) :=
 if a3U n k p l=true then (match a2F l with
  | .error _=>none
  | .ok d=>if a3U n k p d=true then some d else none) else none
def a7e(n k p:Nat):List (List L2)→Option (List (List L2))
 | []=>some []
 | l::t=>match oneM n k p l with
  | none=>none
  | some d=>match a7e n k p t with
   | none=>none
   | some r=>some (d::r)
theorem a6s{n k p:Nat}{l d:List L2}:oneM n k p l=some d↔a3U n k p l=true∧a2F l=.ok d∧a3U n k p d=true:=by
 unfold oneM
 constructor
 ·intro h
  split at h
  ·rename_i h1
   split at h
   ·cases h
   ·rename_i e he
    split at h
    ·rename_i h2;cases h;exact⟨h1,he,h2⟩
    ·cases h
  ·cases h
 ·rintro⟨h1,h2,h3⟩
  rw[if_pos h1,h2]
  dsimp only
  rw[if_pos h3]
theorem a5E{n k p:Nat}:∀ {lss:List (List L2)} {j:Nat} {l:List L2},lss[j]?=some l→oneM n k p l=none→a7e n k p lss=none
 | [],j,l,h,_=>by simp at h
 | a::t,0,l,h,h2=>by
  simp only[List.getElem?_cons_zero,Option.some.injEq]at h
  subst h
  simp only[a7e,h2]
 | a::t,j+1,l,h,h2=>by
  have:=a5E (lss:=t) (j:=j) (by simpa using h) h2
  simp only[a7e,this]
  cases oneM n k p a<;>rfl
theorem a9F{n k p:Nat}:∀ {lss outs:List (List L2)},lss.length=outs.length→(∀ (j:Nat) l d,lss[j]?=some l→outs[j]?=some d→oneM n k p l=some d)→a7e n k p lss=some outs
 | [],[],_,_=>rfl
 | [],_::_,h,_=>by simp at h
 | _::_,[],h,_=>by simp at h
 | a::t,d::r,hl,h=>by
  have h1:=h 0 a d rfl rfl;have h2:=a9F (lss:=t) (outs:=r) (by simpa using hl) fun j l e hl he=>h (j+1) l e (by simpa using hl) (by simpa using he)
  simp only[a7e,h1,h2]
theorem a9I{n k p:Nat}:∀ {lss outs:List (List L2)},a7e n k p lss=some outs→outs.length=lss.length∧∀ d∈outs,a3U n k p d=true∧Dst (p*n+1) d
 | [],outs,h=>by
  cases h
  exact⟨rfl,fun d hd=>by cases hd⟩
 | a::t,outs,h=>by
  simp only[a7e]at h
  cases h1:oneM n k p a with
  | none=>rw[h1]at h;cases h
  | some d =>
   rw[h1]at h
   cases h2:a7e n k p t with
   | none=>rw[h2]at h;cases h
   | some r =>
    rw[h2]at h
    cases h
    obtain⟨r1,r2⟩:=a9I h2;obtain⟨o1,o2,o3⟩:=a6s.1 h1;refine⟨by simp[r1],fun e he=>?_⟩
    rcases List.mem_cons.1 he with rfl|he
    ·obtain⟨l1,l2⟩:=a2D.1 o3
     exact⟨o3,Dst.light (b0x o2).1 l1 fun x hx=>(l2 x hx).2⟩
    ·exact r2 e he
end Go.Proofs.YtigapglmipmbeaaGreatDoor
namespace Go.Proofs.YtigapglmipmbeaaGreatDoor
open Go.RowKit Go.Shelf
end Go.Proofs.YtigapglmipmbeaaGreatDoor
namespace Go.Proofs.YtigapglmipmbeaaGreatDoor
open Go.RowKit Go.Maps Go.Sort Go.Shelf
open Lim
def mKey(k:ByteArray):Lit:=.string k.data.toList
section
variable {w:World} {b n:Nat} {D:DataW Unit} {key s:ByteArray} (hown:w.ownsMap prog 9 (plainElem prog 23) b n D) (hk:key.size≤maxLen) (hs:D.atKey (mKey key) (.lit (.string []))=.lit (.string s.data.toList))
include hown hk hs
end
end Go.Proofs.YtigapglmipmbeaaGreatDoor
namespace Go.Proofs.YtigapglmipmbeaaGreatDoor
open Go.Shelf
end Go.Proofs.YtigapglmipmbeaaGreatDoor
namespace Go.Proofs.YtigapglmipmbeaaGreatDoor
open Go.RowKit Go.Maps Go.Sort Go.Shelf
end Go.Proofs.YtigapglmipmbeaaGreatDoor
namespace Go.Proofs.YtigapglmipmbeaaGreatDoor
open Go.RowKit Go.Maps Go.Sort Go.Shelf
open Lim
attribute [local go_sem] Oper.semAt_some
theorem b25{x:L2}{l:List L2}(h:posE x.2≠0):posL (x::l)=posE x.2:=by unfold posL;rw[if_pos h]
theorem b9y{x:L2}{l:List L2}(h:posE x.2=0):posL (x::l)=posL l:=by
 conv=>lhs;unfold posL
 rw[if_neg (by simpa using h)]
theorem a4b{x:L2}{l:List L2}:a1h (x::l)↔(x.1.size≤270000∧x.2.size≤270000)∧a1h l:=by
 unfold a1h
 constructor
 ·intro h;exact⟨h x (by simp),fun y hy=>h y (by simp[hy])⟩
 ·rintro⟨h1,h2⟩ y hy
  rcases List.mem_cons.1 hy with rfl|hy
  ·exact h1
  ·exact h2 y hy
theorem a1h.ins:∀ {a b:List L2} {x:L2},insX a x=.ok b→a1h a→x.1.size≤270000∧x.2.size≤270000→a1h b
 | [],b,x,h,_,hx=>by cases h;exact a4b.2 ⟨hx,fun _ h=>by cases h⟩
 | y::l,b,x,h,ha,hx=>by
  obtain⟨h1,h2⟩:=a4b.1 ha;unfold insX at h
  split at h
  ·split at h
   ·cases h
   ·rename_i m hm
    cases h
    exact a4b.2 ⟨h1,a1h.ins hm h2 hx⟩
  ·split at h
   ·split at h
    ·cases h
    ·rename_i s hs
     cases h
     exact a4b.2 ⟨⟨h1.1,a14 (b03 hs)⟩,h2⟩
   ·cases h
    exact a4b.2 ⟨hx,ha⟩
theorem b9U(a:List L2)(x:L2)(l:List L2):a2X a (x::l)=(match insX a x with|.error n=>.error n|.ok b=>a2X b l):=rfl
def ResM(base:Nat)(r:Except Nat (List L2))(e:Ending)(w':World):Prop:=match r with
 | .error n=>e=.returned (.tuple #[.slice none 0 0,.int .i64 (n:Int)])
 | .ok out=>∃ u,e=.returned (.tuple #[u,.int .i64 0])∧OwnM base w' u out
end Go.Proofs.YtigapglmipmbeaaGreatDoor
namespace Go.Proofs.YtigapglmipmbeaaGreatDoor
open Go.RowKit Go.Shelf
theorem b1O{base n size:Nat}{w:World}{E:TypeId}{v:Value}{us:List Value}(h:w.ownsRow base E size v n us){r:Nat}(hr:v.ownBlock=some r):∃ cur,w.heap[r]?=some (.cells cur E (0,0)):=by
 rcases h.2 with⟨e,_⟩|⟨g,cap,cur,e,_,hh,_⟩
 ·subst e;cases hr
 ·subst e
  simp only[Value.ownBlock,Option.some.injEq]at hr
  subst hr;exact⟨cur,hh⟩
theorem b3S{base n size:Nat}{w w':World}{E:TypeId}{v:Value}{us:List Value}(h:w.ownsRow base E size v n us)(hb:Below w.heap.size w w'):w'.ownsRow base E size v n us:=by
 refine World.ownsRow.kept h (b2g hb none) ?_
 cases v.ownBlock with
 | none=>exact .inl rfl
 | some g=>exact .inr (by simp)
theorem OwnM.beside{base base' n size:Nat}{w w':World}{E:TypeId}{v u:Value}{us:List Value}{ls:List L2}(h:OwnM base w v ls)(hu:w.ownsRow base' E size u n us)(hE:E≠30)(hg:w.grownBy w' u.ownBlock):OwnM base w' v ls:=by
 refine World.ownsRow.kept h hg ?_
 cases hv:v.ownBlock with
 | none=>exact .inl rfl
 | some g =>
  refine .inr fun e=>?_;obtain⟨c1,h1⟩:=b1O h hv;obtain⟨c2,h2⟩:=b1O hu e.symm;rw[h1]at h2
  simp only[Option.some.injEq,Obj.cells.injEq]at h2
  exact hE h2.2.1.symm
end Go.Proofs.YtigapglmipmbeaaGreatDoor
namespace Go.Proofs.YtigapglmipmbeaaGreatDoor
open Go.RowKit Go.Shelf
open Lim
theorem infoD:(prog.info? 31).map (fun i=>(i.zero,i.size,i.bytes))=some (some (.slice none 0 0),1,24):=by kernel_rfl
theorem b5X:∀ {a:List L2} {x:L2} {n:Nat},insX a x=.error n→n≠0
 | [],x,n,h=>by cases h
 | y::l,x,n,h=>by
  unfold insX at h
  split at h
  ·split at h
   ·rename_i m hm;cases h;exact b5X hm
   ·cases h
  ·split at h
   ·split at h
    ·rename_i m hm;cases h;exact a18 hm
    ·cases h
   ·cases h
theorem a7I:∀ {l a:List L2} {n:Nat},a2X a l=.error n→n≠0
 | [],a,n,h=>by cases h
 | x::l,a,n,h=>by
  unfold a2X at h
  split at h
  ·rename_i m hm;cases h;exact b5X hm
  ·exact a7I h
theorem b3q:∀ {a b:List L2} {x:L2},insX a x=.ok b→b.length≤a.length+1
 | [],b,x,h=>by cases h;simp
 | y::l,b,x,h=>by
  unfold insX at h
  split at h
  ·split at h
   ·cases h
   ·rename_i m hm;cases h;have:=b3q hm;simp;omega
  ·split at h
   ·split at h
    ·cases h
    ·cases h;simp
   ·cases h;simp
theorem a6J:∀ {l a b:List L2},a2X a l=.ok b→b.length≤a.length+l.length
 | [],a,b,h=>by cases h;simp
 | x::l,a,b,h=>by
  unfold a2X at h
  split at h
  ·cases h
  ·rename_i m hm
   have h1:=b3q hm;have h2:=a6J h
   simp
   omega
theorem a9S{l d:List L2}(h:a2F l=.ok d)(hl:l.length≤1000):d.length≤1000:=by
 unfold a2F at h
 split at h
 ·cases h
 ·split at h
  ·cases h
  ·rename_i a ha
   have h1:=a6J ha;unfold a89 at h
   split at h
   ·cases h
   ·cases h
    have h2:=List.length_filter_le (fun x:L2=>decide (x.2≠zT)) a;unfold a1O
    simp at h1
    omega
theorem b3j{l:List L2}{n:Nat}(h:a2F l=.error n):n≠0:=by
 unfold a2F at h
 split at h
 ·rename_i h1;cases h;exact h1
 ·split at h
  ·rename_i m hm;cases h;exact a7I hm
  ·unfold a89 at h
   split at h
   ·rename_i h1;cases h;exact h1
   ·cases h
def MadeP(r:Option (List (List L2)))(e:Ending)(w':World):Prop:=match r with
 | none=>e=.returned (.tuple #[.slice none 0 0,.bool false])
 | some outs=>∃ u,e=.returned (.tuple #[u,.bool true])∧a5I w' u outs
theorem b3A{ls:List L2}{j:Nat}{x:L2}(hx:ls[j]?=some x)(h:¬ (x.1.size≤12∧x.2.size≤12)):a3U 6 12 12 ls=false:=by
 cases e:a3U 6 12 12 ls with
 | false=>rfl
 | true=>exact absurd ((a2D.1 e).2 x (List.mem_of_getElem? hx)) h
theorem a8e(ls:List L2)(v:Value)(w:World)(hv:a38 w v ls) :
  Calls prog 136 #[v] w fun e w'=>e=.returned (.bool (a3U 6 12 12 ls))∧w'=w:=by
 have HV:=b9W hv;obtain⟨A0,c0,rfl,hlen,_⟩:=hv;unfold maxLen at hlen
 go_enter func136,ntmps136
 go_wp2
 go_loopw [3] (fun v3 wr=>∃ k:Nat,k≤ls.length∧v3=.int .i64 (k:Int)∧Hid (∀ (j:Nat) x,j < k→ls[j]?=some x→x.1.size≤12∧x.2.size≤12)∧wr=w) (fun v3 _=>ls.length - (intOf v3).toNat)
 case atStart=>exact⟨0,Nat.zero_le _,rfl,b9W (fun j x h=>absurd h (by omega)),rfl⟩
 case round =>
  obtain⟨k,hk,rfl,HE,rfl⟩:=hrel
  by_cases hlt:k < ls.length
  ·obtain⟨x,hx⟩:∃ x,ls[k]?=some x:=⟨_,List.getElem?_eq_getElem hlt⟩
   obtain⟨b1,o1,c1',e1,hb1,q0,q1⟩:=a38.at HV.out (Below.refl _ _) hx
   simp only[Value.slice.injEq,true_and]at e1
   obtain⟨rfl,rfl⟩:=e1;have hlt':(k:Int) < (ls.length:Int):=by omega
   have HX:=b9W (And.intro hx hlt);obtain⟨f,d⟩:=x
   dsimp only at q0 q1
   clear hx hlt
   by_cases g1:f.size≤12
   ·have t1:decide (12 < (f.size:Int))=false:=decide_eq_false (by omega)
    have t1n:decide (12 < f.size)=false:=decide_eq_false (by omega)
    by_cases g2:d.size≤12
    ·have t2:decide (12 < (d.size:Int))=false:=decide_eq_false (by omega)
     have t2n:decide (12 < d.size)=false:=decide_eq_false (by omega);have HS:=b9W (And.intro g1 g2);clear g1 g2;go_wp2
     go_roundw
     case rel=>exact⟨k+1,HX.out.2,by go_num,b9W (fun j y hj hxj=>by
      rcases Nat.lt_or_ge j k with h|h
      ·exact HE.out j y h hxj
      ·obtain rfl:j=k:=by omega
       rw[HX.out.1]at hxj
       cases hxj
       exact HS.out),trivial⟩
     case measure=>have:=HX.out.2;simp[intOf];omega
    ·have t2:decide (12 < (d.size:Int))=true:=decide_eq_true (by omega)
     have t2n:decide (12 < d.size)=true:=decide_eq_true (by omega);have HR:=b9W (b3A HX.out.1 (fun h=>g2 h.2));clear g1 g2;go_wp2
     go_ret
     rw[HR.out];exact⟨rfl,rfl⟩
   ·have t1:decide (12 < (f.size:Int))=true:=decide_eq_true (by omega)
    have t1n:decide (12 < f.size)=true:=decide_eq_true (by omega);have HR:=b9W (b3A HX.out.1 (fun h=>g1 h.1));clear g1;go_wp2
    go_ret
    rw[HR.out];exact⟨rfl,rfl⟩
  ·have hlt':¬ (k:Int) < (ls.length:Int):=by omega
   have hall:∀ x∈ls,x.1.size≤12∧x.2.size≤12:=fun x hx=>by
    obtain⟨j,hj⟩:=List.getElem?_of_mem hx;exact HE.out j x (by have:=(List.getElem?_eq_some_iff.1 hj).1;omega) hj
   have HR:=b9W (show a3U 6 12 12 ls=decide ((ls.length:Int)≤6) by
    by_cases h6:ls.length≤6
    ·rw[a2D.2 ⟨h6,hall⟩,decide_eq_true (by omega)]
    ·rw[decide_eq_false (by omega)]
     cases e:a3U 6 12 12 ls with
     | false=>rfl
     | true=>exact absurd (a2D.1 e).1 h6)
   clear hlt hall;go_wp2
   go_ret
   rw[HR.out];exact⟨by simp,rfl⟩
theorem b4I(lss:List (List L2))(v:Value)(w:World)(hv:a5I w v lss)(hne:lss≠[])(hr:Res w)
  (hmake:∀ (ls:List L2) (v:Value) (W:World),LRow W v ls→a1h ls→Res W→Calls prog 26 #[v] W fun e w'=>ResM W.heap.size (a2F ls) e w'∧Below W.heap.size W w') :
  Calls prog 50 #[v] w fun e w'=>MadeP (a7e 6 12 12 lss) e w'∧Below w.heap.size w w':=by
 have HV:=b9W hv;obtain⟨b,c,rfl,hb,hlen,hcell⟩:=hv;have HC:=b9W hcell;have HNE:=b9W hne;have HMA:=b9W hmake;have N0:=b9W (NW.refl hr);have HRS:=b9W hr;clear hcell hr hne hmake;generalize hm:a7e 6 12 12 lss=mk;have HMK:=b9W hm;clear hm
 go_enter func50,ntmps50
 go_wp2
 go_loopw [4,5] (fun v4 v5 wr=>∃ (i:Nat) (A0:Option Addr) (cc:Nat) (us:List (Value × List L2)),i≤lss.length∧v5=.int .i64 (i:Int)∧us.length=i∧v4=.slice A0 i cc∧Hid (wr.ownsRow w.heap.size 31 1 (.slice A0 i cc) i (us.map (·.1)))∧Hid (∀ (j:Nat) x l,us[j]?=some x→lss[j]?=some l→oneM 6 12 12 l=some x.2∧OwnM w.heap.size wr x.1 x.2)∧Hid (NW w wr)) (fun _ v5 _=>lss.length - (intOf v5).toNat)
 case atStart=>exact⟨0,none,0,[],Nat.zero_le _,rfl,rfl,rfl,b9W (World.ownsRow_nil _ _ _ _),b9W (fun j x l h=>by simp at h),N0⟩
 case round =>
  clear N0;obtain⟨i,A0,cc,us,hi0,rfl,hul,rfl,HO,HU,HN⟩:=hrel
  by_cases hlt:i < lss.length
  ·obtain⟨ls,hls⟩:∃ ls,lss[i]?=some ls:=⟨_,List.getElem?_eq_getElem hlt⟩
   obtain⟨u,cu,hu⟩:=HC.out i ls hls;have cu:wr.cell? ⟨b,i,none⟩=some u:=(HN.out.below.cell (p:=⟨b,i,none⟩) hb).trans cu;have hbr:b < wr.heap.size:=Nat.lt_of_lt_of_le hb HN.out.below.size;have HR0:=b9W (hu.below HN.out.below);obtain⟨A,cA,rfl,hlA,_⟩:=hu;have hlt':(i:Int) < (lss.length:Int):=by omega
   have HLS:=b9W (And.intro hls hlt);have NA:=HN;have HLI:=b9W (a8e ls (.slice A ls.length cA) wr HR0.out);clear hls hlt;have TK0:True:=trivial
   cases hl:a3U 6 12 12 ls with
   | false =>
    rw[hl]at HLI;have HR:=b9W (show mk=none by rw[← HMK.out];exact a5E HLS.out.1 (by unfold oneM;rw[hl];rfl));clear hl
    go_wp2_with (clear TK0;go_at_call 136;refine HLI.out.mono ?_;rintro e w3 ⟨rfl,hw⟩;replace hw:=hw.symm;subst hw)
    go_ret2
    rw[HR.out];exact⟨rfl,NA.out.below⟩
   | true =>
    rw[hl]at HLI;obtain⟨l1,l2⟩:=a2D.1 hl;have hsh:a1h ls:=fun x hx=>⟨Nat.le_trans (l2 x hx).1 (by omega),Nat.le_trans (l2 x hx).2 (by omega)⟩;have HMC:=b9W (HMA.out ls _ _ (HR0.out.row (by omega)) hsh NA.out.res);have HL:=b9W hl;clear l1 l2 hsh hl
    cases hmk:a2F ls with
    | error m =>
     rw[hmk]at HMC;change Hid (Calls _ _ _ _ fun e w'=>e=.returned (.tuple #[.slice none 0 0,.int .i64 (m:Int)])∧_) at HMC;have hz:=a1E (b3j hmk);have hz2:=a2P (b3j hmk);have HR:=b9W (show mk=none by rw[← HMK.out];exact a5E HLS.out.1 (by unfold oneM;rw[HL.out,hmk];rfl));clear hmk
     go_wp2_with (first
      | (clear TK0;go_at_call 136;refine HLI.out.mono ?_;rintro e w3 ⟨rfl,hw⟩;replace hw:=hw.symm;subst hw)
      | (go_at_call 26;refine HMC.out.mono ?_;rintro e w4 ⟨rfl,hb⟩;have N4:=b9W (NA.out.later hb);clear hb))
     go_ret2
     rw[HR.out];exact⟨rfl,N4.out.below⟩
    | ok d =>
     rw[hmk]at HMC;change Hid (Calls _ _ _ _ fun e w'=>(∃ u,e=.returned (.tuple #[u,.int .i64 0])∧OwnM _ w' u d)∧_) at HMC;have TK1:True:=trivial;have TK2:True:=trivial;have HDL:=b9W (show d.length≤1000 from a9S hmk (Nat.le_trans (a2D.1 HL.out).1 (by omega)))
     cases hd:a3U 6 12 12 d with
     | false =>
      have HR:=b9W (show mk=none by rw[← HMK.out];exact a5E HLS.out.1 (by unfold oneM;rw[HL.out,hmk];dsimp only;rw[hd];rfl));clear hmk
      go_wp2_with ((clear TK0;go_at_call 136;refine HLI.out.mono ?_;rintro e w3 ⟨rfl,hw⟩;replace hw:=hw.symm;subst hw))
      go_wp2_with ((clear TK1;go_at_call 26;refine HMC.out.mono ?_;rintro e w4 ⟨⟨u5,rfl,ho⟩,hb⟩;obtain⟨A5,c5,rfl⟩:=ho.slice;have N4:=b9W (NA.out.later hb);have HD5:=b9W ho;have HB4:=b9W hb;have HLI2:=b9W (a8e d (.slice A5 d.length c5) w4 (HD5.out.row HDL.out).wide);rw[hd]at HLI2;clear ho hb))
      go_wp2_with ((clear TK2;go_at_call 136;refine HLI2.out.mono ?_;rintro e w5 ⟨rfl,hw⟩;replace hw:=hw.symm;subst hw))
      go_wp2
      go_ret2
      rw[HR.out];exact⟨rfl,N4.out.below⟩
     | true =>
      obtain⟨i0,hi,hz0,hz1,hz2⟩:=info_parts infoD;have HONE:=b9W (show oneM 6 12 12 ls=some d from a6s.2 ⟨HL.out,hmk,hd⟩);clear hmk
      go_wp2_with ((clear TK0;go_at_call 136;refine HLI.out.mono ?_;rintro e w3 ⟨rfl,hw⟩;replace hw:=hw.symm;subst hw))
      go_wp2_with ((clear TK1;go_at_call 26;refine HMC.out.mono ?_;rintro e w4 ⟨⟨u5,rfl,ho⟩,hb⟩;obtain⟨A5,c5,rfl⟩:=ho.slice;have N4:=b9W (NA.out.later hb);have HD5:=b9W ho;have HB4:=b9W hb;have HLI2:=b9W (a8e d (.slice A5 d.length c5) w4 (HD5.out.row HDL.out).wide);rw[hd]at HLI2;clear ho hb))
      have HB6:=b9W (show Below wr.heap.size wr (w4.alloc (.cells #[.slice A5 d.length c5] 31)) from a0d HB4.out _);have HOL:=b9W (b3S HO.out HB6.out)
      go_wp2_with (first
       | (clear TK2;go_at_call 136;refine HLI2.out.mono ?_;rintro e w5 ⟨rfl,hw⟩;replace hw:=hw.symm;subst hw)
       | (at_builtin;refine wpList_append_own _ rfl _ _ 46 rfl w.heap.size 31 i0 (.slice none 0 0) 1 24 underlying46 hi hz0 hz1 hz2 rfl (by decide) _ _ _ rfl HOL.out ⟨w4.heap.size,0,none⟩ 1 1 [.slice A5 d.length c5] rfl rfl (cell_one_new _ _ _) (by simp[Value.oneCell']) (by unfold maxLen;omega) (by omega) (by have:=N4.out.below.size;simp;omega) ?_;intro v' w6 hown' hgrow _;obtain⟨A6,c6,rfl⟩:=a1H hown';have HO6:=b9W (And.intro hown' hgrow);clear hown' hgrow))
      go_roundw
      case rel =>
       have hNB:=HB6.out;refine⟨i+1,A6,c6,us++[(.slice A5 d.length c5,d)],HLS.out.2,by go_num,by simp[hul],rfl,b9W ?_,b9W ?_,b9W ?_⟩
       ·rw[List.map_append]
        exact HO6.out.1
       ·intro j x l hx hl
        rcases Nat.lt_or_ge j us.length with h|h
        ·rw[List.getElem?_append_left h]at hx
         obtain⟨r1,r2⟩:=HU.out j x l hx hl;exact⟨r1,(r2.later hNB).beside HOL.out (by decide) HO6.out.2⟩
        ·rw[List.getElem?_append_right h]at hx
         obtain rfl:j=us.length:=by
          have:=(List.getElem?_eq_some_iff.1 hx).1
          simp at this
          omega
         simp at hx
         subst hx;rw[hul,HLS.out.1]at hl
         cases hl
         exact⟨HONE.out,OwnM.beside (a4e (HD5.out.later (a0d (Below.refl _ _) _)) NA.out.below.size) HOL.out (by decide) HO6.out.2⟩
       ·exact a7V (HN.out.later hNB) HRS.out HO6.out.2 (fun r e=>(HOL.out.lt r e).1)
      case measure=>have:=HLS.out.2;simp[intOf];omega
  ·have hlt':¬ (i:Int) < (lss.length:Int):=by omega
   have hil:i=lss.length:=by omega
   have hR:mk=some (us.map (·.2)):=by
    rw[← HMK.out];refine a9F (by simp[hul,hil]) fun j l d hl hd=>?_;rw[List.getElem?_map]at hd
    cases hx:us[j]? with
    | none=>rw[hx]at hd;cases hd
    | some x =>
     rw[hx]at hd
     cases hd
     exact(HU.out j x l hx hl).1
   have hLL:a5I wr (.slice A0 i cc) (us.map (·.2)):=by
    have hpos:0 < lss.length:=List.length_pos_iff.2 HNE.out
    rcases HO.out.2 with⟨e,h0⟩|⟨g,cap,cur,e,hbg,hh,_⟩
    ·omega
    ·simp only[Value.slice.injEq,true_and]at e
     obtain⟨rfl,rfl⟩:=e;refine⟨g,_,by rw[List.length_map,hul],(Array.getElem?_eq_some_iff.1 hh).1,by rw[List.length_map];omega,fun j d hd=>?_⟩;rw[List.getElem?_map]at hd
     cases hx:us[j]? with
     | none=>rw[hx]at hd;cases hd
     | some x =>
      rw[hx]at hd
      cases hd
      have hj:=(List.getElem?_eq_some_iff.1 hx).1;obtain⟨l,hl⟩:∃ l,lss[j]?=some l:=⟨_,List.getElem?_eq_getElem (by omega)⟩;obtain⟨r1,r2⟩:=HU.out j x l hx hl;have hc:=World.ownsRow.cells HO.out (g:=g) rfl j x.1 (by rw[List.getElem?_map,hx];rfl);rw[show (⟨g,0,none⟩:Addr).add j=⟨g,j,none⟩ by unfold Addr.add;split<;>simp_all]at hc;exact⟨x.1,hc,(r2.row (a9S (a6s.1 r1).2.1 (Nat.le_trans (a2D.1 (a6s.1 r1).1).1 (by omega)))).wide⟩
   rw[hil]at hLL;have HF:=b9W (And.intro hR hLL);clear hlt hR hLL;go_wp2
   go_ret2
   rw[HF.out.1];exact⟨⟨_,rfl,HF.out.2⟩,HN.out.below⟩
section
variable {F L:ByteArray} {f l:Rat}
theorem b7L(hF:IsT F f)(h1:1≤f)(hL:IsT L l)(h0:0≤l)(ht:l≤1):a4S F L=0:=by
 unfold a4S;rw[if_neg (by rw[hF.err];decide),if_neg (by rw[hL.err];decide),if_neg];rintro (h|h)
 ·rw[hF.val,a23]at h;grind
 ·exact h (a8d.2 (by rw[hL.val];exact⟨h0,ht⟩))
theorem mx4{j:Nat}{q:Rat}(h:Sz j q)(hj:j≤4000):IsT (rT q) q:=a16 (a0V.2 (h.mono hj))
theorem ofM_is(sf:Sz 120 f)(hL:IsT L l)(sl:Sz 120 l){i:Nat}(hi:i < 7):IsT (txt (ofM f l) i) ((ofX f i+ofY f i)*(f+1)⁻¹):=by
 have h:=b8O sf sl (by omega) i (by omega);have e:txt (ofM f l) i=rT ((ofX f i+ofY f i)*(f+1)⁻¹):=by show rT (ofM f l i)=_;rw[b9k f l hi]
 rw[e];rw[b9k f l hi]at h;exact mx4 h (by have:=hL.size;omega)
theorem b8w(hL:IsT L l):txt (ofM f l) 7=L:=by
 rw[hL.text]
 show rT (ofM f l 7)=_
 rw[show ofM f l 7=l from if_pos rfl]
theorem mofV(hF:IsT F f)(sf:Sz 120 f)(h1:1≤f)(hL:IsT L l)(sl:Sz 120 l)(h0:0≤l)(ht:l≤1):Ret 62 #[.string F,.string L] (.tuple #[cv (txt (ofM f l)),.int .i64 0]):=fun w hr=>by
 have he:=b7L hF h1 hL h0 ht;have iN:IsT (rT (f+1)) (f+1):=mx4 (a5X sf) (by omega);have iX:∀ i:Nat,i < 7→IsT (rT (ofX f i)) (ofX f i):=fun i hi=>mx4 (b8Q sf hi) (by omega);have iY:∀ i:Nat,i < 7→IsT (rT (ofY f i)) (ofY f i):=fun i hi=>mx4 (b8N sf hi) (by omega);have iS:∀ i:Nat,i < 7→IsT (rT (ofX f i+ofY f i)) (ofX f i+ofY f i):=fun i hi=>mx4 (b8D sf hi) (by omega);have ey:∀ i:Nat,(1:Int) - ((i:Int)+2)=-1 - (i:Int):=fun i=>by omega
 have h:=b7r F L (rT (f+1)) (fun i=>rT (ofX f i)) (fun i=>rT (ofY f i)) (fun i=>rT (ofX f i+ofY f i)) (txt (ofM f l)) w hF.size hL.size hr (b8w hL)
  (b9W fun _=>b4u hF IsT.one iN) (b9W fun _ i hi=>b1f hF (a6m h1) (iX i hi) (by omega) (by omega)) (b9W fun _ i hi=>by rw[ey];exact b1f hF (a6m h1) (iY i hi) (by omega) (by omega))
  (b9W fun _ i hi=>b4u (iX i hi) (iY i hi) (iS i hi)) (b9W fun _ i hi=>b5a (iS i hi) iN (ofM_is sf hL sl hi) (b9u h1))
 rw[he,b76]at h;exact h
end
section
variable {a b c:CT}
end
end Go.Proofs.YtigapglmipmbeaaGreatDoor
