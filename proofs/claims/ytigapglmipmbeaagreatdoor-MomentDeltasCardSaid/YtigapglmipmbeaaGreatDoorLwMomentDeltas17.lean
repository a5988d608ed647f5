/- The reference 08: Delta, Distance, Factor, part, Moment (printed by mkdref.py). The reference 08: Moment (printed by mkdref.py). law 10: curve (printed by mkmom.py). Masses in a slice of the call's own. Lists of masses in memory: literal blocks, lists of lists; how large lists are. What a law makes of its lists. No program in sight. law 08: light (printed by mkdlight.py). The map that Make fills, and the list that it stands for. The library's contracts of maps.Keys, slices.Sorted and slices.Sort laid at this program, by the kit's tool lay-plain. slices.Sorted(maps.Keys(m)) at this program, as plain calls. dist: Make. Owned slices beside each other: what an append to one leaves of the other. made, as a walk (printed by mkdmade.py). law 10: few and made (printed by mkmom.py). Each function of chapter 10 and its reference return the same, errors included, for texts of 120 bytes. What the statements of chapter 10 share: light, factor, least, lives; a law's world. Inserting at a place: what the reference's collect does. No program in sight. -/
import Derived.Test.YtigapglmipmbeaaGreatDoorLwMomentDeltas16
import Derived.Test.YtigapglmipmbeaaGreatDoorLwMomentDeltas15
import Derived.Test.YtigapglmipmbeaaGreatDoorLwMomentDeltas11
import Derived.Test.YtigapglmipmbeaaGreatDoorLwMomentDeltas14
import Derived.Maps.AppendAt
import Derived.ProofKit
import Derived.Maps.OwnSet
import Derived.Maps.StringElems
import Derived.Sort.KeysCollected
import Derived.Shelf.SlIter.Nil
import Derived.Shelf.SortM.Plain
import Derived.Shelf.SortM.SortNone
import Derived.Ground.GgzProg
import Derived.Ground.SlgmProg
import Derived.Test.YtigapglmipmbeaaGreatDoorProg
import Derived.Test.YtigapglmipmbeaaGreatDoorLwMomentDeltas13
set_option maxRecDepth 100000
set_option maxHeartbeats 16000000
namespace Go.Proofs.YtigapglmipmbeaaGreatDoor
open Go.RowKit Go.Shelf
open Lim
attribute [local go_sem] Oper.semAt_some
theorem plX_zero {s:ByteArray} (h:errQ s.data.toList=0):plX s zT=.ok s:=by
 rw [plX_val h err_zT,val_zT,Rat.add_zero,ovT_fit (IsT.of h).fits,← ok_rT h]
theorem maxX_pos {s:ByteArray} (h:errQ s.data.toList=0) (h0:0 < valQ s.data.toList):maxX zT s=.ok s:=by
 rw [maxX_val err_zT h,val_zT,if_pos]
 unfold cmpQ;rw [if_pos h0];decide
theorem maxX_neg {s:ByteArray} (h:errQ s.data.toList=0) (h0:¬ 0 < valQ s.data.toList):maxX zT s=.ok zT:=by
 rw [maxX_val err_zT h,val_zT,if_neg]
 unfold cmpQ;rw [if_neg h0];split<;>decide
theorem rddelta_any (p q:List L2) (vp vq:Value) (f:ByteArray) (w:World) (hp:LRow w vp p) (hq:LRow w vq q) (sp:Short p) (sq:Short q) (hf:f.size≤270000) (hr:Res w) :
  Calls Tryz.prog 102 #[vp,vq,.string f] w fun e w'=>e=.returned (resX (deltaX p q f))∧Below w.heap.size w w':=by
 have N0:=Lib.hid (NW.refl hr)
 have HC:=Lib.hid (rdboth_any p q vp vq w hp hq sp sq hr)
 have HVP:=Lib.hid hp
 have HVQ:=Lib.hid hq
 have HSH:=Lib.hid (And.intro sp sq)
 have HFS:=Lib.hid hf
 obtain ⟨A,c,rfl,hlen,hcells⟩:=hp
 obtain ⟨A',c',rfl,hlen',hcells'⟩:=hq
 clear hcells hcells' sp sq hr
 by_cases h0:chk2 p q=0
 ·have HR0:=Lib.hid (show deltaX p q f=if posE f≠0 then .error (posE f) else foldX (partX f q) zT p by unfold deltaX;rw [if_neg (by simpa using h0)])
  rw [h0] at HC
  change Hid (Calls _ _ _ _ fun e w'=>e=.returned (.int .i64 0)∧_) at HC
  clear h0
  by_cases h1:errQ f.data.toList=0
  ·have HSG:=Lib.hid (retRSign_ok hf h1)
   by_cases h2:valQ f.data.toList < 0
   ·have d1:decide (sgQ (valQ f.data.toList) < 0)=true:=decide_eq_true ((sg_lt _).2 h2)
    have HR:=Lib.hid (show deltaX p q f=.error 2 by
     have:posE f=2:=by unfold posE;rw [if_neg (by simpa using h1),if_pos h2]
     rw [HR0.out,this];rfl)
    clear h1 h2 hf
    generalize sgQ (valQ f.data.toList)=sg at *
    go_enter Tryz.func102,Tryz.ntmps102
    go_wp2_with (first
     | (go_at_call 114;refine (HC.out).mono ?_;rintro e w1 ⟨rfl,hb⟩;have N1:=Lib.hid (N0.out.later hb);clear hb)
     | (go_at_call 110;refine (HSG.out _ N1.out.res).mono ?_;rintro e w2 ⟨rfl,hb⟩;have N2:=Lib.hid (N1.out.later hb);clear hb))
    go_ret2
    rw [HR.out]
    exact ⟨rfl,N2.out.below⟩
   ·have d1:decide (sgQ (valQ f.data.toList) < 0)=false:=decide_eq_false (fun h=>h2 ((sg_lt _).1 h))
    have HR:=Lib.hid (show deltaX p q f=foldX (partX f q) zT p by
     have:posE f=0:=by unfold posE;rw [if_neg (by simpa using h1),if_neg h2]
     rw [HR0.out,this];rfl)
    clear h1 h2 hf
    generalize sgQ (valQ f.data.toList)=sg at *
    go_enter Tryz.func102,Tryz.ntmps102
    go_wp2_with (first
     | (go_at_call 114;refine HC.out.mono ?_;rintro e w1 ⟨rfl,hb⟩;have N1:=Lib.hid (N0.out.later hb);clear hb)
     | (go_at_call 110;refine (HSG.out _ N1.out.res).mono ?_;rintro e w2 ⟨rfl,hb⟩;have N2:=Lib.hid (N1.out.later hb);clear hb))
    go_loopw [11,12] (fun v11 v12 wr=>∃ (k:Nat) (s:ByteArray),k≤p.length∧v12=.int .i64 (k:Int)∧v11=.string s∧Hid (errQ s.data.toList=0∧foldX (partX f q) zT p=foldX (partX f q) s (p.drop k))∧Hid (NW w wr)) (fun _ v12 _=>p.length - (intOf v12).toNat)
    case atStart=>exact ⟨0,zT,Nat.zero_le _,rfl,rfl,Lib.hid ⟨err_zT,by simp⟩,N2⟩
    case round =>
     clear N0 N1 N2 HC HSG HR0
     obtain ⟨k,s,hk,rfl,rfl,HE,HN⟩:=hrel
     by_cases hlt:k < p.length
     ·obtain ⟨x,hx⟩:∃ x,p[k]?=some x:=⟨_,List.getElem?_eq_getElem hlt⟩
      obtain ⟨b,o,c2,e',hb2,c0,c1⟩:=HVP.out.at HN.out.below hx
      simp only [Value.slice.injEq,true_and] at e'
      obtain ⟨rfl,rfl⟩:=e'
      have hlt':(k:Int) < (p.length:Int):=by omega
      have HM:=Lib.hid (fun W (hW:NW w W)=>HVP.out.cell2 hW.below hx)
      have HAT:=Lib.hid (rdAt_any q _ x.1 wr (HVQ.out.below HN.out.below))
      have HML:=Lib.hid (retRMulX HFS.out (HSH.out.2.atT (k:=x.1)))
      have HXS:=Lib.hid (HSH.out.1 x (List.mem_of_getElem? hx)).2
      have HD:=Lib.hid (drop_of hx)
      have HLT:=Lib.hid (And.intro hlt hlt')
      have HP0:=Lib.hid (show foldX (partX f q) zT p=foldX (partX f q) s (x::p.drop (k+1)) by rw [HE.out.2,drop_of hx])
      obtain ⟨y,d⟩:=x
      dsimp only at c0 c1 HM HAT HML HXS HD HP0
      clear hx hlt
      cases hm:mulX f (atT q y) with
      | error n =>
       have HR2:=Lib.hid (show foldX (partX f q) zT p=.error n by rw [HP0.out];exact foldX_err (x:=(y,d)) (by unfold partX;dsimp only;rw [hm]))
       have hz:=ne_zero (exQ_err hm)
       rw [hm] at HML
       change Hid (Ret _ _ (.tuple #[.string ⟨#[]⟩,.int .i64 (n:Int)])) at HML
       clear hm
       go_wp2_with (first
        | (go_at_call 39;refine HAT.out.mono ?_;rintro e w3 ⟨rfl,rfl⟩)
        | (go_at_call 149;refine (HML.out _ HN.out.res).mono ?_;rintro e w4 ⟨rfl,hb⟩;have N4:=Lib.hid (HN.out.later hb);clear hb;obtain ⟨hb4,q0,q1⟩:=HM.out _ N4.out))
       go_ret2
       rw [HR.out,HR2.out]
       exact ⟨rfl,N4.out.below⟩
      | ok m =>
       rw [hm] at HML
       change Hid (Ret _ _ (.tuple #[.string m,.int .i64 0])) at HML
       have HSB:=Lib.hid (retRSubX HXS.out (size_ok (mulX_ok hm)))
       cases hs:subX d m with
       | error n =>
        have HR2:=Lib.hid (show foldX (partX f q) zT p=.error n by rw [HP0.out];exact foldX_err (x:=(y,d)) (by unfold partX;dsimp only;rw [hm];dsimp only;rw [hs]))
        have hz:=ne_zero (exQ_err hs)
        rw [hs] at HSB
        change Hid (Ret _ _ (.tuple #[.string ⟨#[]⟩,.int .i64 (n:Int)])) at HSB
        clear hm hs
        go_wp2_with (first
        | (go_at_call 39;refine HAT.out.mono ?_;rintro e w3 ⟨rfl,rfl⟩)
        | (go_at_call 149;refine (HML.out _ HN.out.res).mono ?_;rintro e w4 ⟨rfl,hb⟩;have N4:=Lib.hid (HN.out.later hb);clear hb;obtain ⟨hb4,q0,q1⟩:=HM.out _ N4.out)
        | (go_at_call 61;refine (HSB.out _ N4.out.res).mono ?_;rintro e w5 ⟨rfl,hb⟩;have N5:=Lib.hid (N4.out.later hb);clear hb))
        go_ret2
        rw [HR.out,HR2.out]
        exact ⟨rfl,N5.out.below⟩
       | ok t =>
        rw [hs] at HSB
        change Hid (Ret _ _ (.tuple #[.string t,.int .i64 0])) at HSB
        have HSG:=Lib.hid (retRSign_ok (size_ok (subX_ok hs)) (subX_ok hs))
        by_cases h0:0 < valQ t.data.toList
        ·have d1:decide (0 < sgQ (valQ t.data.toList))=true:=decide_eq_true ((sg_gt _).2 h0)
         have HPE:=Lib.hid (show partX f q (y,d)=.ok t by unfold partX;dsimp only;rw [hm];dsimp only;rw [hs];exact maxX_pos (subX_ok hs) h0)
         have HAD:=Lib.hid (retRPlX (size_ok HE.out.1) (size_ok (subX_ok hs)))
         clear hm hs h0
         generalize sgQ (valQ t.data.toList)=sg at *
         cases ha:plX s t with
         | error n =>
          rw [ha] at HAD
          have HR2:=Lib.hid (show foldX (partX f q) zT p=.error n by rw [HP0.out];exact foldX_err2 HPE.out ha)
          have hz:=ne_zero (exQ_err ha)
          change Hid (Ret _ _ (.tuple #[.string ⟨#[]⟩,.int .i64 (n:Int)])) at HAD
          clear ha
          go_wp2_with (first
        | (go_at_call 39;refine HAT.out.mono ?_;rintro e w3 ⟨rfl,rfl⟩)
        | (go_at_call 149;refine (HML.out _ HN.out.res).mono ?_;rintro e w4 ⟨rfl,hb⟩;have N4:=Lib.hid (HN.out.later hb);clear hb;obtain ⟨hb4,q0,q1⟩:=HM.out _ N4.out)
        | (go_at_call 61;refine (HSB.out _ N4.out.res).mono ?_;rintro e w5 ⟨rfl,hb⟩;have N5:=Lib.hid (N4.out.later hb);clear hb)
        | (go_at_call 110;refine (HSG.out _ N5.out.res).mono ?_;rintro e w6 ⟨rfl,hb⟩;have N6:=Lib.hid (N5.out.later hb);clear hb)
        | (go_at_call 59;refine (HAD.out _ N6.out.res).mono ?_;rintro e w7 ⟨rfl,hb⟩;have N7:=Lib.hid (N6.out.later hb);clear hb))
          go_ret2
          rw [HR.out,HR2.out]
          exact ⟨rfl,N7.out.below⟩
         | ok u =>
          rw [ha] at HAD
          have HR2:=Lib.hid (show foldX (partX f q) zT p=foldX (partX f q) u (p.drop (k+1)) by rw [HP0.out];exact foldX_ok HPE.out ha)
          change Hid (Ret _ _ (.tuple #[.string u,.int .i64 0])) at HAD
          have HER:=Lib.hid (plX_ok ha)
          clear ha
          go_wp2_with (first
        | (go_at_call 39;refine HAT.out.mono ?_;rintro e w3 ⟨rfl,rfl⟩)
        | (go_at_call 149;refine (HML.out _ HN.out.res).mono ?_;rintro e w4 ⟨rfl,hb⟩;have N4:=Lib.hid (HN.out.later hb);clear hb;obtain ⟨hb4,q0,q1⟩:=HM.out _ N4.out)
        | (go_at_call 61;refine (HSB.out _ N4.out.res).mono ?_;rintro e w5 ⟨rfl,hb⟩;have N5:=Lib.hid (N4.out.later hb);clear hb)
        | (go_at_call 110;refine (HSG.out _ N5.out.res).mono ?_;rintro e w6 ⟨rfl,hb⟩;have N6:=Lib.hid (N5.out.later hb);clear hb)
        | (go_at_call 59;refine (HAD.out _ N6.out.res).mono ?_;rintro e w7 ⟨rfl,hb⟩;have N7:=Lib.hid (N6.out.later hb);clear hb))
          go_roundw
          case rel=>exact ⟨k+1,u,HLT.out.1,by go_num,rfl,Lib.hid ⟨HER.out,HR2.out⟩,N7⟩
          case measure=>have:=HLT.out.1;simp [intOf];omega
        ·have d1:decide (0 < sgQ (valQ t.data.toList))=false:=decide_eq_false (fun h=>h0 ((sg_gt _).1 h))
         have HR2:=Lib.hid (show foldX (partX f q) zT p=foldX (partX f q) s (p.drop (k+1)) by
          rw [HP0.out]
          exact foldX_ok (x:=(y,d)) (p:=zT) (by unfold partX;dsimp only;rw [hm];dsimp only;rw [hs];exact maxX_neg (subX_ok hs) h0) (plX_zero HE.out.1))
         clear hm hs h0
         generalize sgQ (valQ t.data.toList)=sg at *
         go_wp2_with (first
        | (go_at_call 39;refine HAT.out.mono ?_;rintro e w3 ⟨rfl,rfl⟩)
        | (go_at_call 149;refine (HML.out _ HN.out.res).mono ?_;rintro e w4 ⟨rfl,hb⟩;have N4:=Lib.hid (HN.out.later hb);clear hb;obtain ⟨hb4,q0,q1⟩:=HM.out _ N4.out)
        | (go_at_call 61;refine (HSB.out _ N4.out.res).mono ?_;rintro e w5 ⟨rfl,hb⟩;have N5:=Lib.hid (N4.out.later hb);clear hb)
        | (go_at_call 110;refine (HSG.out _ N5.out.res).mono ?_;rintro e w6 ⟨rfl,hb⟩;have N6:=Lib.hid (N5.out.later hb);clear hb))
         go_roundw
         case rel=>exact ⟨k+1,s,HLT.out.1,by go_num,rfl,Lib.hid ⟨HE.out.1,HR2.out⟩,N6⟩
         case measure=>have:=HLT.out.1;simp [intOf];omega
     ·have hlt':¬ (k:Int) < (p.length:Int):=by omega
      obtain rfl:k=p.length:=by omega
      have HR2:=Lib.hid (show foldX (partX f q) zT p=.ok s by
       have:=HE.out.2
       rwa [List.drop_length] at this)
      clear hlt
      go_wp2
      go_ret2
      rw [HR.out,HR2.out]
      exact ⟨rfl,HN.out.below⟩
  ·have HSG:=Lib.hid (retRSign_err hf h1)
   have hm:=ne_zero h1
   have HR:=Lib.hid (show deltaX p q f=.error (errQ f.data.toList) by
    rw [HR0.out,posE_err h1,if_pos h1])
   clear h1 hf
   go_enter Tryz.func102,Tryz.ntmps102
   go_wp2_with (first
    | (go_at_call 114;refine (HC.out).mono ?_;rintro e w1 ⟨rfl,hb⟩;have N1:=Lib.hid (N0.out.later hb);clear hb)
    | (go_at_call 110;refine (HSG.out _ N1.out.res).mono ?_;rintro e w2 ⟨rfl,hb⟩;have N2:=Lib.hid (N1.out.later hb);clear hb))
   go_ret2
   rw [HR.out]
   exact ⟨rfl,N2.out.below⟩
 ·have HR:=Lib.hid (show deltaX p q f=.error (chk2 p q) by unfold deltaX;rw [if_pos h0])
  have hm:=ne_zero h0
  clear h0 hf
  go_enter Tryz.func102,Tryz.ntmps102
  go_wp2_with (go_at_call 114;refine (HC.out).mono ?_;rintro e w1 ⟨rfl,hb⟩;have N1:=Lib.hid (N0.out.later hb);clear hb)
  go_ret2
  rw [HR.out]
  exact ⟨rfl,N1.out.below⟩
def pxX (a b:ByteArray) (n:Int):XE:=match powX a n with
 | .error e=>.error e
 | .ok x=>match powX b (n - 1) with
  | .error e=>.error e
  | .ok y=>divX x y
theorem powsX_px (n:Int) (q:List L2) (m:L2):powsX n q m=pxX m.2 (atT q m.1) n:=rfl
theorem rpart_any {a b:ByteArray} {n:Int} {p q:Rat} {k:Nat} (ha:IsT a p) (hb:IsT b q) (hp:0 < p) (hq:0 < q) (sa:Sz k p) (sb:Sz k q) (hk:k*8+1≤maxD) (hn1:1≤n) (hn8:n≤8) :
  Ret 186 #[.string a,.string b,.int .i64 n] (resX (pxX a b n)):=fun w hr=>by
 obtain ⟨m,rfl⟩:∃ m:Nat,n=((m+1:Nat):Int):=⟨(n - 1).toNat,by omega⟩
 have f1:fits (p ^ (m+1))=true:=fits_sz.2 ((sa.pow (m+1)).mono (by
  have:k*(m+1)≤k*8:=Nat.mul_le_mul_left _ (by omega)
  omega))
 have f2:fits (q ^ m)=true:=fits_sz.2 ((sb.pow m).mono (by
  have:k*m≤k*8:=Nat.mul_le_mul_left _ (by omega)
  omega))
 have e1:=powX_val ha.err (m+1)
 have e2:=powX_val hb.err m
 rw [ha.val,ovT_fit f1] at e1
 rw [hb.val,ovT_fit f2] at e2
 have em:((m+1:Nat):Int) - 1=(m:Int):=by omega
 have hv:pxX a b ((m+1:Nat):Int)=divX (rT (p ^ (m+1))) (rT (q ^ m)):=by
  unfold pxX
  rw [e1]
  dsimp only
  rw [em,e2]
 rw [hv]
 clear hv
 have HPA:=Lib.hid (retPowS (n:=((m+1:Nat):Int)) ha hp (by rw [Rat.zpow_natCast];exact isT_rT f1) (by omega) (by omega))
 have HPB:=Lib.hid (retPowS (n:=(m:Int)) hb hq (by rw [Rat.zpow_natCast];exact isT_rT f2) (by omega) (by omega))
 have HDV:=Lib.hid (retRDivX (isT_rT f1).size (isT_rT f2).size)
 have N0:=Lib.hid (NW.refl hr)
 have TKA:True:=trivial
 have hem:=Lib.hid em
 obtain ⟨r0,r1,hc⟩:=resX_tup (divX (rT (p ^ (m+1))) (rT (q ^ m)))
 rw [hc] at HDV ⊢
 rw [← em] at HPB
 clear f1 f2 e1 e2 hc hp hq sa sb hr ha hb hem em
 generalize rT (p ^ (m+1))=s at *
 generalize rT (q ^ m)=t at *
 generalize ((m+1:Nat):Int)=n at *
 go_enter Tryz.func186,Tryz.ntmps186
 go_wp2_with (first
  | (clear TKA;go_at_call 240;refine (HPA.out _ N0.out.res).mono ?_;rintro e w1 ⟨rfl,hb⟩;have N1:=Lib.hid (N0.out.later hb);clear hb)
  | (go_at_call 240;refine (HPB.out _ N1.out.res).mono ?_;rintro e w2 ⟨rfl,hb⟩;have N2:=Lib.hid (N1.out.later hb);clear hb)
  | (go_at_call 160;refine (HDV.out _ N2.out.res).mono ?_;rintro e w3 ⟨rfl,hb⟩;have N3:=Lib.hid (N2.out.later hb);clear hb))
 go_ret2
 exact ⟨rfl,N3.out.below⟩
theorem rdmoment_any (p q:List L2) (vp vq:Value) (n:Int) (j:Nat) (w:World) (hp:LRow w vp p) (hq:LRow w vq q) (sp:Short p) (sq:Short q) (kp:∀ x∈p,x.2.size≤j) (kq:∀ x∈q,x.2.size≤j) (hj:j*8+1≤maxD) (hr:Res w) :
  Calls Tryz.prog 104 #[vp,vq,.int .i64 n] w fun e w'=>e=.returned (momV p q n)∧Below w.heap.size w w':=by
 have N0:=Lib.hid (NW.refl hr)
 have HC:=Lib.hid (rdboth_any p q vp vq w hp hq sp sq hr)
 have HVP:=Lib.hid hp
 have HVQ:=Lib.hid hq
 have HSH:=Lib.hid (And.intro sp sq)
 have HWI:=Lib.hid (fun W (hW:NW w W)=>rdwithin_any p q vp vq W (hp.below hW.below) (hq.below hW.below))
 obtain ⟨A,c,rfl,hlen,hcells⟩:=hp
 obtain ⟨A',c',rfl,hlen',hcells'⟩:=hq
 clear hcells hcells' sp sq hr
 by_cases h0:chk2 p q=0
 ·rw [h0] at HC
  change Hid (Calls _ _ _ _ fun e w'=>e=.returned (.int .i64 0)∧_) at HC
  by_cases h1:n < 1
  ·have HR:=Lib.hid (show momV p q n=.tuple #[.string ⟨#[]⟩,.bool false,.int .i64 2] by unfold momV;rw [if_neg (by simpa using h0),if_pos (.inl h1)])
   have d1:decide (n < 1)=true:=decide_eq_true h1
   clear h0 h1
   go_enter Tryz.func104,Tryz.ntmps104
   go_wp2_with (go_at_call 114;refine (HC.out).mono ?_;rintro e w1 ⟨rfl,hb⟩;have N1:=Lib.hid (N0.out.later hb);clear hb)
   go_ret3
   rw [HR.out]
   exact ⟨rfl,N1.out.below⟩
  ·have d1:decide (n < 1)=false:=decide_eq_false h1
   by_cases h2:8 < n
   ·have HR:=Lib.hid (show momV p q n=.tuple #[.string ⟨#[]⟩,.bool false,.int .i64 2] by unfold momV;rw [if_neg (by simpa using h0),if_pos (.inr h2)])
    have d2:decide (8 < n)=true:=decide_eq_true h2
    clear h0 h1 h2
    go_enter Tryz.func104,Tryz.ntmps104
    go_wp2_with (go_at_call 114;refine (HC.out).mono ?_;rintro e w1 ⟨rfl,hb⟩;have N1:=Lib.hid (N0.out.later hb);clear hb)
    go_ret3
    rw [HR.out]
    exact ⟨rfl,N1.out.below⟩
   ·have d2:decide (8 < n)=false:=decide_eq_false h2
    have HR0:=Lib.hid (show momV p q n=if inX p q=false then .tuple #[.string ⟨#[]⟩,.bool false,.int .i64 0] else resF (foldX (powsX n q) zT p) by unfold momV;rw [if_neg (by simpa using h0),if_neg (by omega)])
    have hc0:=chk2_both h0
    cases hi:inX p q with
    | false =>
     have HR:=Lib.hid (show momV p q n=.tuple #[.string ⟨#[]⟩,.bool false,.int .i64 0] by rw [HR0.out,if_pos hi])
     rw [hi] at HWI
     clear h0 h1 h2 hi hc0
     go_enter Tryz.func104,Tryz.ntmps104
     go_wp2_with (first
      | (go_at_call 114;refine HC.out.mono ?_;rintro e w1 ⟨rfl,hb⟩;have N1:=Lib.hid (N0.out.later hb);clear hb)
      | (go_at_call 159;refine (HWI.out _ N1.out).mono ?_;rintro e w2 ⟨rfl,hw⟩;have N2:=Lib.hid (show NW w w2 by rw [hw];exact N1.out);clear hw))
     go_ret3
     rw [HR.out]
     exact ⟨rfl,N2.out.below⟩
    | true =>
     have HR:=Lib.hid (show momV p q n=resF (foldX (powsX n q) zT p) by rw [HR0.out,if_neg (by rw [hi];decide)])
     rw [hi] at HWI
     have HPT0:=Lib.hid (show ∀ x∈p,Ret 186 #[.string x.2,.string (atT q x.1),.int .i64 n] (resX (powsX n q x)) from fun x hx=>by
      obtain ⟨y,hy,_,e2⟩:=atT_mem (inX_iff.1 hi x hx)
      have hpx:=(chkD_zero hc0.1).1.plus _ (List.mem_map_of_mem hx)
      have hqy:=(chkD_zero hc0.2).1.plus _ (List.mem_map_of_mem hy)
      have ho:=(chkD_zero hc0.1).2.1 x hx
      have hoy:=(chkD_zero hc0.2).2.1 y hy
      rw [← e2] at hoy
      have hqy2:0 < valQ (atT q x.1).data.toList:=by rw [e2];exact hqy
      have kpx:Sz j (valX x):=sz_of_text ho (by rw [← size_list];exact kp x hx)
      have kqy:Sz j (valQ (atT q x.1).data.toList):=sz_of_text hoy (by rw [← size_list,e2];exact kq y hy)
      rw [powsX_px]
      exact rpart_any (IsT.of ho) (IsT.of hoy) hpx hqy2 kpx kqy hj (by omega) (by omega))
     clear h0 h1 h2 hi hc0 kp kq hj
     go_enter Tryz.func104,Tryz.ntmps104
     go_wp2_with (first
      | (go_at_call 114;refine HC.out.mono ?_;rintro e w1 ⟨rfl,hb⟩;have N1:=Lib.hid (N0.out.later hb);clear hb)
      | (go_at_call 159;refine (HWI.out _ N1.out).mono ?_;rintro e w2 ⟨rfl,hw⟩;have N2:=Lib.hid (show NW w w2 by rw [hw];exact N1.out);clear hw))
     go_loopw [10,11] (fun v10 v11 wr=>∃ (k:Nat) (s:ByteArray),k≤p.length∧v11=.int .i64 (k:Int)∧v10=.string s∧Hid (errQ s.data.toList=0∧foldX (powsX n q) zT p=foldX (powsX n q) s (p.drop k))∧Hid (NW w wr)) (fun _ v11 _=>p.length - (intOf v11).toNat)
     case atStart=>exact ⟨0,zT,Nat.zero_le _,rfl,rfl,Lib.hid ⟨err_zT,by simp⟩,N2⟩
     case round =>
      clear N0 N1 N2 HC HWI HR0
      obtain ⟨k,s,hk,rfl,rfl,HE,HN⟩:=hrel
      by_cases hlt:k < p.length
      ·obtain ⟨x,hx⟩:∃ x,p[k]?=some x:=⟨_,List.getElem?_eq_getElem hlt⟩
       obtain ⟨b,o,c2,e',hb2,c0,c1⟩:=HVP.out.at HN.out.below hx
       simp only [Value.slice.injEq,true_and] at e'
       obtain ⟨rfl,rfl⟩:=e'
       have hlt':(k:Int) < (p.length:Int):=by omega
       have z0:∀ z:LaterW wr,z.W.cell? ⟨b,o+k*2,none⟩=some (.string x.1):=fun z=>(z.h.cell (p:=⟨b,o+k*2,none⟩) hb2).trans c0
       have z1:∀ z:LaterW wr,z.W.cell? ⟨b,o+k*2+1,none⟩=some (.string x.2):=fun z=>(z.h.cell (p:=⟨b,o+k*2+1,none⟩) hb2).trans c1
       have HAT:=Lib.hid (fun W (hW:Below wr.heap.size wr W)=>rdAt_any q _ x.1 W ((HVQ.out.below HN.out.below).below hW))
       have HPT:=Lib.hid (HPT0.out x (List.mem_of_getElem? hx))
       have HP0:=Lib.hid (show foldX (powsX n q) zT p=foldX (powsX n q) s (x::p.drop (k+1)) by rw [HE.out.2,drop_of hx])
       have HLT:=Lib.hid (And.intro hlt hlt')
       cases hd:powsX n q x with
       | error m =>
        have HR2:=Lib.hid (show foldX (powsX n q) zT p=.error m by rw [HP0.out];exact foldX_err hd)
        have hm:=ne_zero (powsX_ne hd)
        rw [hd] at HPT
        change Hid (Ret _ _ (.tuple #[.string ⟨#[]⟩,.int .i64 (m:Int)])) at HPT
        obtain ⟨y,d⟩:=x
        dsimp only at c0 c1 z0 z1 HAT HPT
        clear hx hlt c0 c1 hd HPT0
        go_wp2
        refine wp_region_fast (by kernel_rfl) (by kernel_rfl) (by kernel_rfl) ?_
        repeat (go_big_quiet_step (first
         | (go_at_call 39;refine (HAT.out _ (LaterW.h _)).mono ?_;rintro e w99 ⟨rfl,rfl⟩;exact ⟨rfl,⟨_,rfl⟩⟩)
         | (go_at_call 186;refine (HPT.out _ (HN.out.res.below (LaterW.h _))).mono ?_;rintro e w99 ⟨rfl,hb9⟩;exact ⟨rfl,⟨⟨w99,(LaterW.h _).trans (hb9.mono (LaterW.h _).size)⟩,rfl⟩⟩)))
        refine wpQuiet_nil ?_
        rintro _ ⟨z,rfl⟩
        have N3:=Lib.hid (HN.out.later z.h)
        go_wp2
        go_ret3
        rw [HR.out,HR2.out]
        exact ⟨rfl,N3.out.below⟩
       | ok t =>
        rw [hd] at HPT
        change Hid (Ret _ _ (.tuple #[.string t,.int .i64 0])) at HPT
        have HPE:=Lib.hid hd
        have HAD:=Lib.hid (retRPlX (size_ok HE.out.1) (size_ok (powsX_fine hd)))
        obtain ⟨y,d⟩:=x
        dsimp only at c0 c1 z0 z1 HAT HPT
        clear hx hlt c0 c1 hd
        cases ha:plX s t with
        | error m =>
         rw [ha] at HAD
         have HR2:=Lib.hid (show foldX (powsX n q) zT p=.error m by rw [HP0.out];exact foldX_err2 HPE.out ha)
         have hz:=ne_zero (exQ_err ha)
         change Hid (Ret _ _ (.tuple #[.string ⟨#[]⟩,.int .i64 (m:Int)])) at HAD
         clear ha HPT0
         go_wp2
         refine wp_region_fast (by kernel_rfl) (by kernel_rfl) (by kernel_rfl) ?_
         repeat (go_big_quiet_step (first
          | (go_at_call 39;refine (HAT.out _ (LaterW.h _)).mono ?_;rintro e w99 ⟨rfl,rfl⟩;exact ⟨rfl,⟨_,rfl⟩⟩)
          | (go_at_call 186;refine (HPT.out _ (HN.out.res.below (LaterW.h _))).mono ?_;rintro e w99 ⟨rfl,hb9⟩;exact ⟨rfl,⟨⟨w99,(LaterW.h _).trans (hb9.mono (LaterW.h _).size)⟩,rfl⟩⟩)))
         refine wpQuiet_nil ?_
         rintro _ ⟨z,rfl⟩
         have N3:=Lib.hid (HN.out.later z.h)
         go_wp2_with (go_at_call 59;refine (HAD.out _ N3.out.res).mono ?_;rintro e w5 ⟨rfl,hb⟩;have N5:=Lib.hid (N3.out.later hb);clear hb)
         go_ret3
         rw [HR.out,HR2.out]
         exact ⟨rfl,N5.out.below⟩
        | ok u =>
         rw [ha] at HAD
         have HR2:=Lib.hid (show foldX (powsX n q) zT p=foldX (powsX n q) u (p.drop (k+1)) by rw [HP0.out];exact foldX_ok HPE.out ha)
         change Hid (Ret _ _ (.tuple #[.string u,.int .i64 0])) at HAD
         have HER:=Lib.hid (plX_ok ha)
         clear ha
         go_wp2
         refine wp_region_fast (by kernel_rfl) (by kernel_rfl) (by kernel_rfl) ?_
         repeat (go_big_quiet_step (first
          | (go_at_call 39;refine (HAT.out _ (LaterW.h _)).mono ?_;rintro e w99 ⟨rfl,rfl⟩;exact ⟨rfl,⟨_,rfl⟩⟩)
          | (go_at_call 186;refine (HPT.out _ (HN.out.res.below (LaterW.h _))).mono ?_;rintro e w99 ⟨rfl,hb9⟩;exact ⟨rfl,⟨⟨w99,(LaterW.h _).trans (hb9.mono (LaterW.h _).size)⟩,rfl⟩⟩)))
         refine wpQuiet_nil ?_
         rintro _ ⟨z,rfl⟩
         have N3:=Lib.hid (HN.out.later z.h)
         go_wp2_with (go_at_call 59;refine (HAD.out _ N3.out.res).mono ?_;rintro e w5 ⟨rfl,hb⟩;have N5:=Lib.hid (N3.out.later hb);clear hb)
         go_roundw
         case rel=>exact ⟨k+1,u,HLT.out.1,by go_num,rfl,Lib.hid ⟨HER.out,HR2.out⟩,N5⟩
         case measure=>have:=HLT.out.1;simp [intOf];omega
      ·have hlt':¬ (k:Int) < (p.length:Int):=by omega
       obtain rfl:k=p.length:=by omega
       have HR2:=Lib.hid (show foldX (powsX n q) zT p=.ok s by
        have:=HE.out.2
        rwa [List.drop_length] at this)
       clear hlt
       go_wp2
       go_ret3
       rw [HR.out,HR2.out]
       exact ⟨rfl,HN.out.below⟩
 ·have HR:=Lib.hid (show momV p q n=.tuple #[.string ⟨#[]⟩,.bool false,.int .i64 (chk2 p q:Int)] by unfold momV;rw [if_pos h0])
  have hm:=ne_zero h0
  clear h0
  go_enter Tryz.func104,Tryz.ntmps104
  go_wp2_with (go_at_call 114;refine (HC.out).mono ?_;rintro e w1 ⟨rfl,hb⟩;have N1:=Lib.hid (N0.out.later hb);clear hb)
  go_ret3
  rw [HR.out]
  exact ⟨rfl,N1.out.below⟩
def curM (x y:Nat→Rat):Nat→Rat:=fun i=>if i=7 then 0 else maxQ (x i) (y i)
def startC:CT:=fun i=>if i=7 then ⟨#[48]⟩ else ⟨#[]⟩
theorem curve10_any (p q:List L2) (vp vq:Value) (x y:Nat→Rat) (w:World) (hp:LRow w vp p) (hq:LRow w vq q) (sp:Short p) (sq:Short q) (kp:∀ x∈p,x.2.size≤12) (kq:∀ x∈q,x.2.size≤12) (hr:Res w)
  (hx:∀ i:Nat,i < 7→momV p q ((i:Int)+2)=.tuple #[.string (rT (x i)),.bool true,.int .i64 0]∧fits (x i)=true) (hy:∀ i:Nat,i < 7→momV q p ((i:Int)+2)=.tuple #[.string (rT (y i)),.bool true,.int .i64 0]∧fits (y i)=true) :
  Calls Tryz.prog 52 #[vp,vq] w fun e w'=>e=.returned (.tuple #[cv (txt (curM x y)),.bool true])∧Below w.heap.size w w':=by
 have N0:=Lib.hid (((NW.refl hr).alloc (.cells #[.string ⟨#[]⟩,.string ⟨#[]⟩,.string ⟨#[]⟩,.string ⟨#[]⟩,.string ⟨#[]⟩,.string ⟨#[]⟩,.string ⟨#[]⟩,.string ⟨#[]⟩] 59)).alloc (.cells #[.string ⟨#[]⟩,.string ⟨#[]⟩,.string ⟨#[]⟩,.string ⟨#[]⟩,.string ⟨#[]⟩,.string ⟨#[]⟩,.string ⟨#[]⟩,.string ⟨#[48]⟩] 59))
 have K4:=Lib.hid (show CBlk ((w.alloc (.cells #[.string ⟨#[]⟩,.string ⟨#[]⟩,.string ⟨#[]⟩,.string ⟨#[]⟩,.string ⟨#[]⟩,.string ⟨#[]⟩,.string ⟨#[]⟩,.string ⟨#[]⟩] 59)).alloc (.cells #[.string ⟨#[]⟩,.string ⟨#[]⟩,.string ⟨#[]⟩,.string ⟨#[]⟩,.string ⟨#[]⟩,.string ⟨#[]⟩,.string ⟨#[]⟩,.string ⟨#[48]⟩] 59)) w.heap.size zC from Blk.alloc (Blk.new w 59 #[.string ⟨#[]⟩,.string ⟨#[]⟩,.string ⟨#[]⟩,.string ⟨#[]⟩,.string ⟨#[]⟩,.string ⟨#[]⟩,.string ⟨#[]⟩,.string ⟨#[]⟩]) _)
 have K6:=Lib.hid (show CBlk ((w.alloc (.cells #[.string ⟨#[]⟩,.string ⟨#[]⟩,.string ⟨#[]⟩,.string ⟨#[]⟩,.string ⟨#[]⟩,.string ⟨#[]⟩,.string ⟨#[]⟩,.string ⟨#[]⟩] 59)).alloc (.cells #[.string ⟨#[]⟩,.string ⟨#[]⟩,.string ⟨#[]⟩,.string ⟨#[]⟩,.string ⟨#[]⟩,.string ⟨#[]⟩,.string ⟨#[]⟩,.string ⟨#[48]⟩] 59)) (w.heap.size+1) startC from by
  have h:=Blk.new (w.alloc (.cells #[.string ⟨#[]⟩,.string ⟨#[]⟩,.string ⟨#[]⟩,.string ⟨#[]⟩,.string ⟨#[]⟩,.string ⟨#[]⟩,.string ⟨#[]⟩,.string ⟨#[]⟩] 59)) 59 #[.string ⟨#[]⟩,.string ⟨#[]⟩,.string ⟨#[]⟩,.string ⟨#[]⟩,.string ⟨#[]⟩,.string ⟨#[]⟩,.string ⟨#[]⟩,.string ⟨#[48]⟩]
  rw [World.size_alloc] at h
  exact h)
 have HX:=Lib.hid (fun (i:Nat) (_:i < 7) W (hW:NW w W)=>rdmoment_any p q _ _ ((i:Int)+2) 12 W (hp.below hW.below) (hq.below hW.below) sp sq kp kq (by decide) hW.res)
 have HY:=Lib.hid (fun (i:Nat) (_:i < 7) W (hW:NW w W)=>rdmoment_any q p _ _ ((i:Int)+2) 12 W (hq.below hW.below) (hp.below hW.below) sq sp kq kp (by decide) hW.res)
 have HRS:=Lib.hid hr
 have FX:=Lib.hid hx
 have FY:=Lib.hid hy
 obtain ⟨A,ca,rfl,_,_⟩:=id hp
 obtain ⟨B,cb,rfl,_,_⟩:=id hq
 clear hp hq sp sq kp kq hr hx hy
 go_enter Tryz.func52,Tryz.ntmps52
 go_wp2
 go_loopw [7] (fun v7 wr=>∃ (i:Nat) (c:CT),i≤7∧v7=.int .i64 (i:Int)∧Hid (∀ j,j < i→c j=rT (maxQ (x j) (y j)))∧Hid (c 7=⟨#[48]⟩)∧Hid (CBlk wr w.heap.size zC)∧Hid (CBlk wr (w.heap.size+1) c)∧Hid (NW w wr)) (fun v7 _=>7 - (intOf v7).toNat)
 case atStart=>exact ⟨0,startC,by omega,rfl,Lib.hid (fun j h=>absurd h (by omega)),Lib.hid rfl,K4,K6,N0⟩
 case round =>
  clear K4 K6 N0
  obtain ⟨i,c,hi,rfl,HE,HZ,K4,K6,HN⟩:=hrel
  by_cases hlt:i < 7
  ·have hlt':(i:Int) < 7:=by omega
   have HM1:=Lib.hid (HX.out i hlt)
   have HM2:=Lib.hid (HY.out i hlt)
   obtain ⟨ex,fx⟩:=FX.out i hlt
   obtain ⟨ey,fy⟩:=FY.out i hlt
   rw [ex] at HM1
   rw [ey] at HM2
   have HMX:=Lib.hid (fun W=>rmaxT W (isT_rT fx) (isT_rT fy))
   have HLT:=Lib.hid hlt
   have HTM:=Lib.hid (rfl:rT (maxQ (x i) (y i))=rT (maxQ (x i) (y i)))
   generalize rT (x i)=tx at *
   generalize rT (y i)=ty at *
   obtain ⟨tm,htm⟩:∃ t,t=rT (maxQ (x i) (y i)):=⟨_,rfl⟩
   rw [← htm] at HMX
   have HTM:=Lib.hid htm
   clear ex ey fx fy htm hlt
   have TK0:True:=trivial
   have TK1:True:=trivial
   go_wp2_with ((clear TK0;go_at_call 104;refine (HM1.out _ HN.out).mono ?_;rintro e w3 ⟨rfl,hb⟩;have N3:=Lib.hid (HN.out.later hb);have K4:=Lib.hid (K4.out.later hb);have K6:=Lib.hid (K6.out.later hb);clear hb))
   go_wp2_with ((clear TK1;go_at_call 104;refine (HM2.out _ N3.out).mono ?_;rintro e w4 ⟨rfl,hb⟩;have N4:=Lib.hid (N3.out.later hb);have K4:=Lib.hid (K4.out.later hb);have K6:=Lib.hid (K6.out.later hb);clear hb))
   go_wp2_with ((go_at_call 57;refine (HMX.out _).mono ?_;rintro e w5 ⟨rfl,hb⟩;have N5:=Lib.hid (N4.out.later hb);have K4:=Lib.hid (K4.out.later hb);have K6:=Lib.hid (K6.out.later hb);have p0:=K6.out.cell (k:=i) (by have:=HLT.out;omega);have f0:=K6.out.frozen i;have l0:=K6.out.lt;clear hb))
   have K6':=Lib.hid (K6.out.set_ (k:=i) (by have:=HLT.out;omega) tm)
   have K4':=Lib.hid (show CBlk (w5.setCell ⟨w.heap.size+1,i,none⟩ (.string tm)) w.heap.size zC from Blk.far K4.out (p:=⟨w.heap.size+1,i,none⟩) (by simp) _)
   have N6:=Lib.hid (show NW w (w5.setCell ⟨w.heap.size+1,i,none⟩ (.string tm)) from by
    have hb:=N5.out.below.setCell (p:=⟨w.heap.size+1,i,none⟩) (Nat.le_succ _) (.string tm)
    exact ⟨hb,HRS.out.below hb⟩)
   clear p0 f0 l0
   go_roundw
   case rel=>exact ⟨i+1,upd c i tm,HLT.out,by go_num,Lib.hid (fun j hj=>by
    by_cases e:j=i
    ·subst e;rw [upd_same];exact HTM.out
    ·rw [upd_other c tm e];exact HE.out j (by omega)),Lib.hid (by rw [upd_other c tm (by have:=HLT.out;omega)];exact HZ.out),K4',K6',N6⟩
   case measure=>have:=HLT.out;simp [intOf];omega
  ·have hlt':¬ (i:Int) < 7:=by omega
   obtain rfl:i=7:=by omega
   have HC:=Lib.hid (show cv c=cv (txt (curM x y)) from cv_ext fun k hk=>by
    by_cases e:k=7
    ·subst e
     rw [HZ.out]
     show _=rT (curM x y 7)
     rw [show curM x y 7=0 from if_pos rfl]
     exact IsT.zero.text
    ·rw [HE.out k (by omega)]
     show _=rT (curM x y k)
     rw [show curM x y k=maxQ (x k) (y k) from if_neg e])
   obtain ⟨c0,c1,c2,c3,c4,c5,c6,c7⟩:=K6.out.cells
   obtain ⟨z0,z1,z2,z3,z4,z5,z6,z7⟩:=K4.out.cells
   obtain ⟨y0,y1,y2,y3,y4,y5,y6,y7⟩:=K4.out.frozens
   clear hlt
   go_wp2
   refine bodyPost_ret (run_cell_tmp rfl rfl (load_curve (fin8_blk c K4.out))) rfl ?_
   rw [← HC.out]
   exact ⟨rfl,fin8_below HN.out.below (Nat.le_refl _) c⟩
theorem curve10_no1 (p q:List L2) (vp vq:Value) (ty:ByteArray) (by_:Bool) (n:Int) (h1:momV p q 2=.tuple #[.string ⟨#[]⟩,.bool false,.int .i64 0]) (h2:momV q p 2=.tuple #[.string ty,.bool by_,.int .i64 n]) (w:World) (hp:LRow w vp p) (hq:LRow w vq q) (sp:Short p) (sq:Short q) (kp:∀ x∈p,x.2.size≤12) (kq:∀ x∈q,x.2.size≤12) (hr:Res w) :
  Calls Tryz.prog 52 #[vp,vq] w fun e w'=>e=.returned (.tuple #[cv startC,.bool false])∧Below w.heap.size w w':=by
 have N0:=Lib.hid (((NW.refl hr).alloc (.cells #[.string ⟨#[]⟩,.string ⟨#[]⟩,.string ⟨#[]⟩,.string ⟨#[]⟩,.string ⟨#[]⟩,.string ⟨#[]⟩,.string ⟨#[]⟩,.string ⟨#[]⟩] 59)).alloc (.cells #[.string ⟨#[]⟩,.string ⟨#[]⟩,.string ⟨#[]⟩,.string ⟨#[]⟩,.string ⟨#[]⟩,.string ⟨#[]⟩,.string ⟨#[]⟩,.string ⟨#[48]⟩] 59))
 have K4:=Lib.hid (show CBlk ((w.alloc (.cells #[.string ⟨#[]⟩,.string ⟨#[]⟩,.string ⟨#[]⟩,.string ⟨#[]⟩,.string ⟨#[]⟩,.string ⟨#[]⟩,.string ⟨#[]⟩,.string ⟨#[]⟩] 59)).alloc (.cells #[.string ⟨#[]⟩,.string ⟨#[]⟩,.string ⟨#[]⟩,.string ⟨#[]⟩,.string ⟨#[]⟩,.string ⟨#[]⟩,.string ⟨#[]⟩,.string ⟨#[48]⟩] 59)) w.heap.size zC from Blk.alloc (Blk.new w 59 #[.string ⟨#[]⟩,.string ⟨#[]⟩,.string ⟨#[]⟩,.string ⟨#[]⟩,.string ⟨#[]⟩,.string ⟨#[]⟩,.string ⟨#[]⟩,.string ⟨#[]⟩]) _)
 have K6:=Lib.hid (show CBlk ((w.alloc (.cells #[.string ⟨#[]⟩,.string ⟨#[]⟩,.string ⟨#[]⟩,.string ⟨#[]⟩,.string ⟨#[]⟩,.string ⟨#[]⟩,.string ⟨#[]⟩,.string ⟨#[]⟩] 59)).alloc (.cells #[.string ⟨#[]⟩,.string ⟨#[]⟩,.string ⟨#[]⟩,.string ⟨#[]⟩,.string ⟨#[]⟩,.string ⟨#[]⟩,.string ⟨#[]⟩,.string ⟨#[48]⟩] 59)) (w.heap.size+1) startC from by
  have h:=Blk.new (w.alloc (.cells #[.string ⟨#[]⟩,.string ⟨#[]⟩,.string ⟨#[]⟩,.string ⟨#[]⟩,.string ⟨#[]⟩,.string ⟨#[]⟩,.string ⟨#[]⟩,.string ⟨#[]⟩] 59)) 59 #[.string ⟨#[]⟩,.string ⟨#[]⟩,.string ⟨#[]⟩,.string ⟨#[]⟩,.string ⟨#[]⟩,.string ⟨#[]⟩,.string ⟨#[]⟩,.string ⟨#[48]⟩]
  rw [World.size_alloc] at h
  exact h)
 have HX:=Lib.hid (fun W (hW:NW w W)=>rdmoment_any p q _ _ 2 12 W (hp.below hW.below) (hq.below hW.below) sp sq kp kq (by decide) hW.res)
 have HY:=Lib.hid (fun W (hW:NW w W)=>rdmoment_any q p _ _ 2 12 W (hq.below hW.below) (hp.below hW.below) sq sp kq kp (by decide) hW.res)
 obtain ⟨A,ca,rfl,_,_⟩:=id hp
 obtain ⟨B,cb,rfl,_,_⟩:=id hq
 rw [h1] at HX
 rw [h2] at HY
 clear hp hq sp sq kp kq hr h1 h2
 go_enter Tryz.func52,Tryz.ntmps52
 go_wp2
 go_loopw [7] (fun v7 wr=>v7=.int .i64 0∧Hid (CBlk wr w.heap.size zC)∧Hid (CBlk wr (w.heap.size+1) startC)∧Hid (NW w wr)) (fun _ _=>0)
 case atStart=>exact ⟨rfl,K4,K6,N0⟩
 case round =>
  clear K4 K6 N0
  obtain ⟨rfl,K4,K6,HN⟩:=hrel
  have TK0:True:=trivial
  have TK1:True:=trivial
  go_wp2_with ((clear TK0;go_at_call 104;refine (HX.out _ HN.out).mono ?_;rintro e w3 ⟨rfl,hb⟩;have N3:=Lib.hid (HN.out.later hb);have K4:=Lib.hid (K4.out.later hb);have K6:=Lib.hid (K6.out.later hb);clear hb))
  go_wp2_with ((clear TK1;go_at_call 104;refine (HY.out _ N3.out).mono ?_;rintro e w4 ⟨rfl,hb⟩;have N4:=Lib.hid (N3.out.later hb);have K4:=Lib.hid (K4.out.later hb);have K6:=Lib.hid (K6.out.later hb);obtain ⟨c0,c1,c2,c3,c4,c5,c6,c7⟩:=K6.out.cells;obtain ⟨z0,z1,z2,z3,z4,z5,z6,z7⟩:=K4.out.cells;obtain ⟨y0,y1,y2,y3,y4,y5,y6,y7⟩:=K4.out.frozens;clear hb))
  refine bodyPost_ret (run_cell_tmp rfl rfl (load_curve (fin8_blk startC K4.out))) rfl ?_
  exact ⟨rfl,fin8_below N4.out.below (Nat.le_refl _) startC⟩
theorem curve10_no2 (p q:List L2) (vp vq:Value) (tx:ByteArray) (h1:momV p q 2=.tuple #[.string tx,.bool true,.int .i64 0]) (h2:momV q p 2=.tuple #[.string ⟨#[]⟩,.bool false,.int .i64 0]) (w:World) (hp:LRow w vp p) (hq:LRow w vq q) (sp:Short p) (sq:Short q) (kp:∀ x∈p,x.2.size≤12) (kq:∀ x∈q,x.2.size≤12) (hr:Res w) :
  Calls Tryz.prog 52 #[vp,vq] w fun e w'=>e=.returned (.tuple #[cv startC,.bool false])∧Below w.heap.size w w':=by
 have N0:=Lib.hid (((NW.refl hr).alloc (.cells #[.string ⟨#[]⟩,.string ⟨#[]⟩,.string ⟨#[]⟩,.string ⟨#[]⟩,.string ⟨#[]⟩,.string ⟨#[]⟩,.string ⟨#[]⟩,.string ⟨#[]⟩] 59)).alloc (.cells #[.string ⟨#[]⟩,.string ⟨#[]⟩,.string ⟨#[]⟩,.string ⟨#[]⟩,.string ⟨#[]⟩,.string ⟨#[]⟩,.string ⟨#[]⟩,.string ⟨#[48]⟩] 59))
 have K4:=Lib.hid (show CBlk ((w.alloc (.cells #[.string ⟨#[]⟩,.string ⟨#[]⟩,.string ⟨#[]⟩,.string ⟨#[]⟩,.string ⟨#[]⟩,.string ⟨#[]⟩,.string ⟨#[]⟩,.string ⟨#[]⟩] 59)).alloc (.cells #[.string ⟨#[]⟩,.string ⟨#[]⟩,.string ⟨#[]⟩,.string ⟨#[]⟩,.string ⟨#[]⟩,.string ⟨#[]⟩,.string ⟨#[]⟩,.string ⟨#[48]⟩] 59)) w.heap.size zC from Blk.alloc (Blk.new w 59 #[.string ⟨#[]⟩,.string ⟨#[]⟩,.string ⟨#[]⟩,.string ⟨#[]⟩,.string ⟨#[]⟩,.string ⟨#[]⟩,.string ⟨#[]⟩,.string ⟨#[]⟩]) _)
 have K6:=Lib.hid (show CBlk ((w.alloc (.cells #[.string ⟨#[]⟩,.string ⟨#[]⟩,.string ⟨#[]⟩,.string ⟨#[]⟩,.string ⟨#[]⟩,.string ⟨#[]⟩,.string ⟨#[]⟩,.string ⟨#[]⟩] 59)).alloc (.cells #[.string ⟨#[]⟩,.string ⟨#[]⟩,.string ⟨#[]⟩,.string ⟨#[]⟩,.string ⟨#[]⟩,.string ⟨#[]⟩,.string ⟨#[]⟩,.string ⟨#[48]⟩] 59)) (w.heap.size+1) startC from by
  have h:=Blk.new (w.alloc (.cells #[.string ⟨#[]⟩,.string ⟨#[]⟩,.string ⟨#[]⟩,.string ⟨#[]⟩,.string ⟨#[]⟩,.string ⟨#[]⟩,.string ⟨#[]⟩,.string ⟨#[]⟩] 59)) 59 #[.string ⟨#[]⟩,.string ⟨#[]⟩,.string ⟨#[]⟩,.string ⟨#[]⟩,.string ⟨#[]⟩,.string ⟨#[]⟩,.string ⟨#[]⟩,.string ⟨#[48]⟩]
  rw [World.size_alloc] at h
  exact h)
 have HX:=Lib.hid (fun W (hW:NW w W)=>rdmoment_any p q _ _ 2 12 W (hp.below hW.below) (hq.below hW.below) sp sq kp kq (by decide) hW.res)
 have HY:=Lib.hid (fun W (hW:NW w W)=>rdmoment_any q p _ _ 2 12 W (hq.below hW.below) (hp.below hW.below) sq sp kq kp (by decide) hW.res)
 obtain ⟨A,ca,rfl,_,_⟩:=id hp
 obtain ⟨B,cb,rfl,_,_⟩:=id hq
 rw [h1] at HX
 rw [h2] at HY
 clear hp hq sp sq kp kq hr h1 h2
 go_enter Tryz.func52,Tryz.ntmps52
 go_wp2
 go_loopw [7] (fun v7 wr=>v7=.int .i64 0∧Hid (CBlk wr w.heap.size zC)∧Hid (CBlk wr (w.heap.size+1) startC)∧Hid (NW w wr)) (fun _ _=>0)
 case atStart=>exact ⟨rfl,K4,K6,N0⟩
 case round =>
  clear K4 K6 N0
  obtain ⟨rfl,K4,K6,HN⟩:=hrel
  have TK0:True:=trivial
  have TK1:True:=trivial
  go_wp2_with ((clear TK0;go_at_call 104;refine (HX.out _ HN.out).mono ?_;rintro e w3 ⟨rfl,hb⟩;have N3:=Lib.hid (HN.out.later hb);have K4:=Lib.hid (K4.out.later hb);have K6:=Lib.hid (K6.out.later hb);clear hb))
  go_wp2_with ((clear TK1;go_at_call 104;refine (HY.out _ N3.out).mono ?_;rintro e w4 ⟨rfl,hb⟩;have N4:=Lib.hid (N3.out.later hb);have K4:=Lib.hid (K4.out.later hb);have K6:=Lib.hid (K6.out.later hb);obtain ⟨c0,c1,c2,c3,c4,c5,c6,c7⟩:=K6.out.cells;obtain ⟨z0,z1,z2,z3,z4,z5,z6,z7⟩:=K4.out.cells;obtain ⟨y0,y1,y2,y3,y4,y5,y6,y7⟩:=K4.out.frozens;clear hb))
  refine bodyPost_ret (run_cell_tmp rfl rfl (load_curve (fin8_blk startC K4.out))) rfl ?_
  exact ⟨rfl,fin8_below N4.out.below (Nat.le_refl _) startC⟩
end Go.Proofs.YtigapglmipmbeaaGreatDoor
namespace Go.Proofs.YtigapglmipmbeaaGreatDoor
open Go.RowKit Go.Shelf
def cellsM (ls:List L2):List Value:=ls.flatMap fun x=>[.string x.1,.string x.2]
theorem cellsM_cons (x:L2) (l:List L2):cellsM (x::l)=.string x.1::.string x.2::cellsM l:=rfl
theorem cellsM_append (l m:List L2):cellsM (l++m)=cellsM l++cellsM m:=by unfold cellsM;rw [List.flatMap_append]
theorem cellsM_length:∀ ls:List L2,(cellsM ls).length=ls.length*2
 | []=>rfl
 | x::l=>by rw [cellsM_cons,List.length_cons,List.length_cons,cellsM_length l,List.length_cons];omega
theorem cellsM_at:∀ {ls:List L2} {k:Nat} {x:L2},ls[k]?=some x→(cellsM ls)[k*2]?=some (.string x.1)∧(cellsM ls)[k*2+1]?=some (.string x.2)
 | [],k,x,h=>by simp at h
 | y::l,0,x,h=>by
  simp only [List.getElem?_cons_zero,Option.some.injEq] at h
  subst h
  exact ⟨rfl,rfl⟩
 | y::l,k+1,x,h=>by
  have h2:l[k]?=some x:=by simpa using h
  rw [cellsM_cons,show (k+1)*2=k*2+1+1 by omega]
  exact cellsM_at h2
theorem infoM:(Tryz.prog.info? 30).map (fun i=>(i.zero,i.size,i.bytes))=some (some (.agg #[.string ByteArray.empty,.string ByteArray.empty]),2,32):=by kernel_rfl
theorem slice_shape {w:World} {base e size n:Nat} {v:Value} {us:List Value} (h:w.ownsRow base e size v n us):∃ A c,v=.slice A n c:=by
 rcases h.2 with ⟨e1,h0⟩|⟨g,cap,cur,e1,_⟩
 ·exact ⟨none,0,by rw [e1,h0]⟩
 ·exact ⟨_,_,e1⟩
theorem owns_base {w:World} {base base' e size n:Nat} {v:Value} {us:List Value} (h:w.ownsRow base e size v n us) (hb:base'≤base):w.ownsRow base' e size v n us:=by
 refine ⟨h.1,?_⟩
 rcases h.2 with h2|⟨g,cap,cur,e1,h3,h4⟩
 ·exact .inl h2
 ·exact .inr ⟨g,cap,cur,e1,Nat.le_trans hb h3,h4⟩
def OwnM (base:Nat) (w:World) (v:Value) (ls:List L2):Prop:=w.ownsRow base 30 2 v ls.length (cellsM ls)
theorem OwnM.nil (base:Nat) (w:World):OwnM base w (.slice none 0 0) []:=World.ownsRow_nil _ _ _ _
theorem OwnM.row {base:Nat} {w:World} {v:Value} {ls:List L2} (h:OwnM base w v ls) (hl:ls.length≤1000):LRow w v ls:=by
 rcases h.2 with ⟨e,h0⟩|⟨g,cap,cur,e,hb,hh,h1,h2,_⟩
 ·subst e
  have:ls=[]:=List.eq_nil_of_length_eq_zero h0
  subst this
  exact LRow.nil _ _ _
 ·subst e
  refine ⟨_,_,rfl,hl,fun _=>⟨g,0,rfl,(Array.getElem?_eq_some_iff.1 hh).1,fun j x hj=>?_⟩⟩
  obtain ⟨c0,c1⟩:=cellsM_at hj
  have r0:=World.ownsRow.cells h (g:=g) rfl _ _ c0
  have r1:=World.ownsRow.cells h (g:=g) rfl _ _ c1
  rw [show (⟨g,0,none⟩:Addr).add (j*2)=⟨g,0+j*2,none⟩ by unfold Addr.add;split<;>simp_all] at r0
  rw [show (⟨g,0,none⟩:Addr).add (j*2+1)=⟨g,0+(j*2+1),none⟩ by unfold Addr.add;split<;>simp_all] at r1
  exact ⟨r0,r1⟩
theorem OwnM.slice {base:Nat} {w:World} {v:Value} {ls:List L2} (h:OwnM base w v ls):∃ A c,v=.slice A ls.length c:=by
 rcases h.2 with ⟨e,h0⟩|⟨g,cap,cur,e,_⟩
 ·exact ⟨none,0,by rw [e,h0]⟩
 ·exact ⟨_,_,e⟩
theorem OwnM.later {base:Nat} {w w':World} {v:Value} {ls:List L2} (h:OwnM base w v ls) (hb:Below w.heap.size w w'):OwnM base w' v ls:=by
 have hg:w.grownBy w' none:=⟨hb.os,hb.tape,hb.output,hb.size,fun k hk _=>hb.block k hk⟩
 refine World.ownsRow.kept h hg ?_
 cases v.ownBlock with
 | none=>exact .inl rfl
 | some g=>exact .inr (by simp)
theorem grow_nw {w W W':World} (h:NW w W) (hr:Res w) {row:Option Nat} (hg:W.grownBy W' row) (hrow:∀ r,row=some r→w.heap.size≤r):NW w W':=by
 have hb:Below w.heap.size w W':=h.below.grown hg h.below.size hrow
 exact ⟨hb,hr.below hb⟩
theorem grown_none' {w w':World} (h:Below w.heap.size w w') (row:Option Nat):w.grownBy w' row:=⟨h.os,h.tape,h.output,h.size,fun k hk _=>h.block k hk⟩
def LRowW (w:World) (v:Value) (ls:List L2):Prop :=
 ∃ A c,v=.slice A ls.length c∧ls.length≤maxLen∧(0 < ls.length→∃ b o,A=some ⟨b,o,none⟩∧b < w.heap.size ∧
  ∀ (j:Nat) (x:L2),ls[j]?=some x→w.cell? ⟨b,o+j*2,none⟩=some (.string x.1)∧w.cell? ⟨b,o+j*2+1,none⟩=some (.string x.2))
theorem LRowW.below {w w':World} {v:Value} {ls:List L2} (h:LRowW w v ls) (hb:Below w.heap.size w w'):LRowW w' v ls:=by
 obtain ⟨A,c,e,h1,h2⟩:=h
 refine ⟨A,c,e,h1,fun h0=>?_⟩
 obtain ⟨b,o,e2,hlt,hc⟩:=h2 h0
 refine ⟨b,o,e2,Nat.lt_of_lt_of_le hlt hb.size,fun j x hj=>?_⟩
 obtain ⟨c0,c1⟩:=hc j x hj
 exact ⟨by rw [hb.cell (p:=⟨b,o+j*2,none⟩) hlt];exact c0,by rw [hb.cell (p:=⟨b,o+j*2+1,none⟩) hlt];exact c1⟩
theorem LRow.wide {w:World} {v:Value} {ls:List L2} (h:LRow w v ls):LRowW w v ls:=by
 obtain ⟨A,c,e,h1,h2⟩:=h
 exact ⟨A,c,e,by unfold maxLen;omega,h2⟩
theorem LRowW.row {w:World} {v:Value} {ls:List L2} (h:LRowW w v ls) (hl:ls.length≤1000):LRow w v ls:=by
 obtain ⟨A,c,e,_,h2⟩:=h
 exact ⟨A,c,e,hl,h2⟩
theorem LRowW.at {w W:World} {v:Value} {ls:List L2} (h:LRowW w v ls) (hb:Below w.heap.size w W) {k:Nat} {x:L2} (hx:ls[k]?=some x) :
  ∃ b o c,v=.slice (some ⟨b,o,none⟩) ls.length c∧b < W.heap.size∧W.cell? ⟨b,o+k*2,none⟩=some (.string x.1)∧W.cell? ⟨b,o+k*2+1,none⟩=some (.string x.2):=by
 obtain ⟨A,c,rfl,_,hc⟩:=h
 obtain ⟨b,o,rfl,hlt,hcell⟩:=hc (by have:=(List.getElem?_eq_some_iff.1 hx).1;omega)
 obtain ⟨c0,c1⟩:=hcell k x hx
 exact ⟨b,o,c,rfl,Nat.lt_of_lt_of_le hlt hb.size,by rw [hb.cell (p:=⟨b,o+k*2,none⟩) hlt];exact c0,by rw [hb.cell (p:=⟨b,o+k*2+1,none⟩) hlt];exact c1⟩
def LLRow (w:World) (v:Value) (lss:List (List L2)):Prop:=∃ b c,v=.slice (some ⟨b,0,none⟩) lss.length c∧b < w.heap.size∧lss.length≤8 ∧
 ∀ (j:Nat) (ls:List L2),lss[j]?=some ls→∃ u,w.cell? ⟨b,j,none⟩=some u∧LRowW w u ls
theorem LLRow.ofBlk {w:World} {b:Nat} {t:TypeId} {vs:List (Value × List L2)} {n c:Nat} (h:Blk w b t (vs.map (·.1)).toArray) (hn:n=vs.length) (hl:vs.length≤8) (hv:∀ x∈vs,LRowW w x.1 x.2):LLRow w (.slice (some ⟨b,0,none⟩) n c) (vs.map (·.2)):=by
 subst hn
 refine ⟨b,c,by rw [List.length_map],h.lt,by rw [List.length_map];exact hl,fun j ls hj=>?_⟩
 rw [List.getElem?_map] at hj
 cases hx:vs[j]? with
 | none=>rw [hx] at hj;cases hj
 | some x =>
  rw [hx] at hj
  cases hj
  exact ⟨x.1,by rw [h.cell];simp [hx],hv x (List.mem_of_getElem? hx)⟩
def lightD (n k p:Nat) (ls:List L2):Bool:=decide (ls.length≤n)&&ls.all fun x=>decide (x.1.size≤k)&&decide (x.2.size≤p)
theorem lightD_iff {n k p:Nat} {ls:List L2}:lightD n k p ls=true↔ls.length≤n∧∀ x∈ls,x.1.size≤k∧x.2.size≤p:=by
 unfold lightD
 rw [Bool.and_eq_true,decide_eq_true_eq,List.all_eq_true]
 simp only [Bool.and_eq_true,decide_eq_true_eq]
end Go.Proofs.YtigapglmipmbeaaGreatDoor
namespace Go.Proofs.YtigapglmipmbeaaGreatDoor
open Lim
def oneM (n k p:Nat) (l:List L2):Option (List L2) :=
 if lightD n k p l=true then (match makeX l with
  | .error _=>none
  | .ok d=>if lightD n k p d=true then some d else none) else none
def madeD (n k p:Nat):List (List L2)→Option (List (List L2))
 | []=>some []
 | l::t=>match oneM n k p l with
  | none=>none
  | some d=>match madeD n k p t with
   | none=>none
   | some r=>some (d::r)
theorem oneM_some {n k p:Nat} {l d:List L2}:oneM n k p l=some d↔lightD n k p l=true∧makeX l=.ok d∧lightD n k p d=true:=by
 unfold oneM
 constructor
 ·intro h
  split at h
  ·rename_i h1
   split at h
   ·cases h
   ·rename_i e he
    split at h
    ·rename_i h2;cases h;exact ⟨h1,he,h2⟩
    ·cases h
  ·cases h
 ·rintro ⟨h1,h2,h3⟩
  rw [if_pos h1,h2]
  dsimp only
  rw [if_pos h3]
theorem madeD_none {n k p:Nat}:∀ {lss:List (List L2)} {j:Nat} {l:List L2},lss[j]?=some l→oneM n k p l=none→madeD n k p lss=none
 | [],j,l,h,_=>by simp at h
 | a::t,0,l,h,h2=>by
  simp only [List.getElem?_cons_zero,Option.some.injEq] at h
  subst h
  simp only [madeD,h2]
 | a::t,j+1,l,h,h2=>by
  have:=madeD_none (lss:=t) (j:=j) (by simpa using h) h2
  simp only [madeD,this]
  cases oneM n k p a<;>rfl
theorem madeD_some {n k p:Nat}:∀ {lss outs:List (List L2)},lss.length=outs.length→(∀ (j:Nat) l d,lss[j]?=some l→outs[j]?=some d→oneM n k p l=some d)→madeD n k p lss=some outs
 | [],[],_,_=>rfl
 | [],_::_,h,_=>by simp at h
 | _::_,[],h,_=>by simp at h
 | a::t,d::r,hl,h=>by
  have h1:=h 0 a d rfl rfl
  have h2:=madeD_some (lss:=t) (outs:=r) (by simpa using hl) fun j l e hl he=>h (j+1) l e (by simpa using hl) (by simpa using he)
  simp only [madeD,h1,h2]
theorem madeD_spec {n k p:Nat}:∀ {lss outs:List (List L2)},madeD n k p lss=some outs→outs.length=lss.length∧∀ d∈outs,lightD n k p d=true∧Dst (p*n+1) d
 | [],outs,h=>by
  cases h
  exact ⟨rfl,fun d hd=>by cases hd⟩
 | a::t,outs,h=>by
  simp only [madeD] at h
  cases h1:oneM n k p a with
  | none=>rw [h1] at h;cases h
  | some d =>
   rw [h1] at h
   cases h2:madeD n k p t with
   | none=>rw [h2] at h;cases h
   | some r =>
    rw [h2] at h
    cases h
    obtain ⟨r1,r2⟩:=madeD_spec h2
    obtain ⟨o1,o2,o3⟩:=oneM_some.1 h1
    refine ⟨by simp [r1],fun e he=>?_⟩
    rcases List.mem_cons.1 he with rfl|he
    ·obtain ⟨l1,l2⟩:=lightD_iff.1 o3
     exact ⟨o3,Dst.light (makeX_ok o2).1 l1 fun x hx=>(l2 x hx).2⟩
    ·exact r2 e he
end Go.Proofs.YtigapglmipmbeaaGreatDoor
namespace Go.Proofs.YtigapglmipmbeaaGreatDoor
open Go.RowKit Go.Shelf
end Go.Proofs.YtigapglmipmbeaaGreatDoor
namespace Go.Proofs.YtigapglmipmbeaaGreatDoor
open Go.RowKit Go.Maps Go.Sort Go.Shelf
open Lim
def mKey (k:ByteArray):Lit:=.string k.data.toList
section
variable {w:World} {b n:Nat} {D:DataW Unit} {key s:ByteArray} (hown:w.ownsMap Tryz.prog 9 (plainElem Tryz.prog 23) b n D) (hk:key.size≤maxLen) (hs:D.atKey (mKey key) (.lit (.string []))=.lit (.string s.data.toList))
include hown hk hs
end
end Go.Proofs.YtigapglmipmbeaaGreatDoor
namespace Go.Proofs.YtigapglmipmbeaaGreatDoor
open Go.Shelf
end Go.Proofs.YtigapglmipmbeaaGreatDoor
namespace Go.Proofs.YtigapglmipmbeaaGreatDoor
open Go.RowKit Go.Maps Go.Sort Go.Shelf
end Go.Proofs.YtigapglmipmbeaaGreatDoor
namespace Go.Proofs.YtigapglmipmbeaaGreatDoor
open Go.RowKit Go.Maps Go.Sort Go.Shelf
open Lim
attribute [local go_sem] Oper.semAt_some
theorem posL_err {x:L2} {l:List L2} (h:posE x.2≠0):posL (x::l)=posE x.2:=by unfold posL;rw [if_pos h]
theorem posL_go {x:L2} {l:List L2} (h:posE x.2=0):posL (x::l)=posL l:=by
 conv=>lhs;unfold posL
 rw [if_neg (by simpa using h)]
theorem short_cons {x:L2} {l:List L2}:Short (x::l)↔(x.1.size≤270000∧x.2.size≤270000)∧Short l:=by
 unfold Short
 constructor
 ·intro h;exact ⟨h x (by simp),fun y hy=>h y (by simp [hy])⟩
 ·rintro ⟨h1,h2⟩ y hy
  rcases List.mem_cons.1 hy with rfl|hy
  ·exact h1
  ·exact h2 y hy
theorem Short.ins:∀ {a b:List L2} {x:L2},insX a x=.ok b→Short a→x.1.size≤270000∧x.2.size≤270000→Short b
 | [],b,x,h,_,hx=>by cases h;exact short_cons.2 ⟨hx,fun _ h=>by cases h⟩
 | y::l,b,x,h,ha,hx=>by
  obtain ⟨h1,h2⟩:=short_cons.1 ha
  unfold insX at h
  split at h
  ·split at h
   ·cases h
   ·rename_i m hm
    cases h
    exact short_cons.2 ⟨h1,Short.ins hm h2 hx⟩
  ·split at h
   ·split at h
    ·cases h
    ·rename_i s hs
     cases h
     exact short_cons.2 ⟨⟨h1.1,size_ok (plX_ok hs)⟩,h2⟩
   ·cases h
    exact short_cons.2 ⟨hx,ha⟩
theorem collX_cons (a:List L2) (x:L2) (l:List L2):collX a (x::l)=(match insX a x with|.error n=>.error n|.ok b=>collX b l):=rfl
def ResM (base:Nat) (r:Except Nat (List L2)) (e:Ending) (w':World):Prop:=match r with
 | .error n=>e=.returned (.tuple #[.slice none 0 0,.int .i64 (n:Int)])
 | .ok out=>∃ u,e=.returned (.tuple #[u,.int .i64 0])∧OwnM base w' u out
end Go.Proofs.YtigapglmipmbeaaGreatDoor
namespace Go.Proofs.YtigapglmipmbeaaGreatDoor
open Go.RowKit Go.Shelf
theorem own_cells {base n size:Nat} {w:World} {E:TypeId} {v:Value} {us:List Value} (h:w.ownsRow base E size v n us) {r:Nat} (hr:v.ownBlock=some r):∃ cur,w.heap[r]?=some (.cells cur E (0,0)):=by
 rcases h.2 with ⟨e,_⟩|⟨g,cap,cur,e,_,hh,_⟩
 ·subst e;cases hr
 ·subst e
  simp only [Value.ownBlock,Option.some.injEq] at hr
  subst hr
  exact ⟨cur,hh⟩
theorem owns_later {base n size:Nat} {w w':World} {E:TypeId} {v:Value} {us:List Value} (h:w.ownsRow base E size v n us) (hb:Below w.heap.size w w'):w'.ownsRow base E size v n us:=by
 refine World.ownsRow.kept h (grown_none' hb none) ?_
 cases v.ownBlock with
 | none=>exact .inl rfl
 | some g=>exact .inr (by simp)
theorem OwnM.beside {base base' n size:Nat} {w w':World} {E:TypeId} {v u:Value} {us:List Value} {ls:List L2} (h:OwnM base w v ls) (hu:w.ownsRow base' E size u n us) (hE:E≠30) (hg:w.grownBy w' u.ownBlock):OwnM base w' v ls:=by
 refine World.ownsRow.kept h hg ?_
 cases hv:v.ownBlock with
 | none=>exact .inl rfl
 | some g =>
  refine .inr fun e=>?_
  obtain ⟨c1,h1⟩:=own_cells h hv
  obtain ⟨c2,h2⟩:=own_cells hu e.symm
  rw [h1] at h2
  simp only [Option.some.injEq,Obj.cells.injEq] at h2
  exact hE h2.2.1.symm
end Go.Proofs.YtigapglmipmbeaaGreatDoor
namespace Go.Proofs.YtigapglmipmbeaaGreatDoor
open Go.RowKit Go.Shelf
open Lim
theorem infoD:(Tryz.prog.info? 31).map (fun i=>(i.zero,i.size,i.bytes))=some (some (.slice none 0 0),1,24):=by kernel_rfl
theorem insX_ne:∀ {a:List L2} {x:L2} {n:Nat},insX a x=.error n→n≠0
 | [],x,n,h=>by cases h
 | y::l,x,n,h=>by
  unfold insX at h
  split at h
  ·split at h
   ·rename_i m hm;cases h;exact insX_ne hm
   ·cases h
  ·split at h
   ·split at h
    ·rename_i m hm;cases h;exact exQ_err hm
    ·cases h
   ·cases h
theorem collX_ne:∀ {l a:List L2} {n:Nat},collX a l=.error n→n≠0
 | [],a,n,h=>by cases h
 | x::l,a,n,h=>by
  unfold collX at h
  split at h
  ·rename_i m hm;cases h;exact insX_ne hm
  ·exact collX_ne h
theorem insX_len:∀ {a b:List L2} {x:L2},insX a x=.ok b→b.length≤a.length+1
 | [],b,x,h=>by cases h;simp
 | y::l,b,x,h=>by
  unfold insX at h
  split at h
  ·split at h
   ·cases h
   ·rename_i m hm;cases h;have:=insX_len hm;simp;omega
  ·split at h
   ·split at h
    ·cases h
    ·cases h;simp
   ·cases h;simp
theorem collX_len:∀ {l a b:List L2},collX a l=.ok b→b.length≤a.length+l.length
 | [],a,b,h=>by cases h;simp
 | x::l,a,b,h=>by
  unfold collX at h
  split at h
  ·cases h
  ·rename_i m hm
   have h1:=insX_len hm
   have h2:=collX_len h
   simp
   omega
theorem make_len {l d:List L2} (h:makeX l=.ok d) (hl:l.length≤1000):d.length≤1000:=by
 unfold makeX at h
 split at h
 ·cases h
 ·split at h
  ·cases h
  ·rename_i a ha
   have h1:=collX_len ha
   unfold doneX at h
   split at h
   ·cases h
   ·cases h
    have h2:=List.length_filter_le (fun x:L2=>decide (x.2≠zT)) a
    unfold keepX
    simp at h1
    omega
theorem makeX_ne {l:List L2} {n:Nat} (h:makeX l=.error n):n≠0:=by
 unfold makeX at h
 split at h
 ·rename_i h1;cases h;exact h1
 ·split at h
  ·rename_i m hm;cases h;exact collX_ne hm
  ·unfold doneX at h
   split at h
   ·rename_i h1;cases h;exact h1
   ·cases h
def MadeP (r:Option (List (List L2))) (e:Ending) (w':World):Prop:=match r with
 | none=>e=.returned (.tuple #[.slice none 0 0,.bool false])
 | some outs=>∃ u,e=.returned (.tuple #[u,.bool true])∧LLRow w' u outs
theorem few10_no {ls:List L2} {j:Nat} {x:L2} (hx:ls[j]?=some x) (h:¬ (x.1.size≤12∧x.2.size≤12)):lightD 6 12 12 ls=false:=by
 cases e:lightD 6 12 12 ls with
 | false=>rfl
 | true=>exact absurd ((lightD_iff.1 e).2 x (List.mem_of_getElem? hx)) h
theorem few10_any (ls:List L2) (v:Value) (w:World) (hv:LRowW w v ls) :
  Calls Tryz.prog 136 #[v] w fun e w'=>e=.returned (.bool (lightD 6 12 12 ls))∧w'=w:=by
 have HV:=Lib.hid hv
 obtain ⟨A0,c0,rfl,hlen,_⟩:=hv
 unfold maxLen at hlen
 go_enter Tryz.func136,Tryz.ntmps136
 go_wp2
 go_loopw [3] (fun v3 wr=>∃ k:Nat,k≤ls.length∧v3=.int .i64 (k:Int)∧Hid (∀ (j:Nat) x,j < k→ls[j]?=some x→x.1.size≤12∧x.2.size≤12)∧wr=w) (fun v3 _=>ls.length - (intOf v3).toNat)
 case atStart=>exact ⟨0,Nat.zero_le _,rfl,Lib.hid (fun j x h=>absurd h (by omega)),rfl⟩
 case round =>
  obtain ⟨k,hk,rfl,HE,rfl⟩:=hrel
  by_cases hlt:k < ls.length
  ·obtain ⟨x,hx⟩:∃ x,ls[k]?=some x:=⟨_,List.getElem?_eq_getElem hlt⟩
   obtain ⟨b1,o1,c1',e1,hb1,q0,q1⟩:=LRowW.at HV.out (Below.refl _ _) hx
   simp only [Value.slice.injEq,true_and] at e1
   obtain ⟨rfl,rfl⟩:=e1
   have hlt':(k:Int) < (ls.length:Int):=by omega
   have HX:=Lib.hid (And.intro hx hlt)
   obtain ⟨f,d⟩:=x
   dsimp only at q0 q1
   clear hx hlt
   by_cases g1:f.size≤12
   ·have t1:decide (12 < (f.size:Int))=false:=decide_eq_false (by omega)
    have t1n:decide (12 < f.size)=false:=decide_eq_false (by omega)
    by_cases g2:d.size≤12
    ·have t2:decide (12 < (d.size:Int))=false:=decide_eq_false (by omega)
     have t2n:decide (12 < d.size)=false:=decide_eq_false (by omega)
     have HS:=Lib.hid (And.intro g1 g2)
     clear g1 g2
     go_wp2
     go_roundw
     case rel=>exact ⟨k+1,HX.out.2,by go_num,Lib.hid (fun j y hj hxj=>by
      rcases Nat.lt_or_ge j k with h|h
      ·exact HE.out j y h hxj
      ·obtain rfl:j=k:=by omega
       rw [HX.out.1] at hxj
       cases hxj
       exact HS.out),trivial⟩
     case measure=>have:=HX.out.2;simp [intOf];omega
    ·have t2:decide (12 < (d.size:Int))=true:=decide_eq_true (by omega)
     have t2n:decide (12 < d.size)=true:=decide_eq_true (by omega)
     have HR:=Lib.hid (few10_no HX.out.1 (fun h=>g2 h.2))
     clear g1 g2
     go_wp2
     go_ret
     rw [HR.out]
     exact ⟨rfl,rfl⟩
   ·have t1:decide (12 < (f.size:Int))=true:=decide_eq_true (by omega)
    have t1n:decide (12 < f.size)=true:=decide_eq_true (by omega)
    have HR:=Lib.hid (few10_no HX.out.1 (fun h=>g1 h.1))
    clear g1
    go_wp2
    go_ret
    rw [HR.out]
    exact ⟨rfl,rfl⟩
  ·have hlt':¬ (k:Int) < (ls.length:Int):=by omega
   have hall:∀ x∈ls,x.1.size≤12∧x.2.size≤12:=fun x hx=>by
    obtain ⟨j,hj⟩:=List.getElem?_of_mem hx
    exact HE.out j x (by have:=(List.getElem?_eq_some_iff.1 hj).1;omega) hj
   have HR:=Lib.hid (show lightD 6 12 12 ls=decide ((ls.length:Int)≤6) by
    by_cases h6:ls.length≤6
    ·rw [lightD_iff.2 ⟨h6,hall⟩,decide_eq_true (by omega)]
    ·rw [decide_eq_false (by omega)]
     cases e:lightD 6 12 12 ls with
     | false=>rfl
     | true=>exact absurd (lightD_iff.1 e).1 h6)
   clear hlt hall
   go_wp2
   go_ret
   rw [HR.out]
   exact ⟨by simp,rfl⟩
theorem made10_any (lss:List (List L2)) (v:Value) (w:World) (hv:LLRow w v lss) (hne:lss≠[]) (hr:Res w)
  (hmake:∀ (ls:List L2) (v:Value) (W:World),LRow W v ls→Short ls→Res W→Calls Tryz.prog 26 #[v] W fun e w'=>ResM W.heap.size (makeX ls) e w'∧Below W.heap.size W w') :
  Calls Tryz.prog 50 #[v] w fun e w'=>MadeP (madeD 6 12 12 lss) e w'∧Below w.heap.size w w':=by
 have HV:=Lib.hid hv
 obtain ⟨b,c,rfl,hb,hlen,hcell⟩:=hv
 have HC:=Lib.hid hcell
 have HNE:=Lib.hid hne
 have HMA:=Lib.hid hmake
 have N0:=Lib.hid (NW.refl hr)
 have HRS:=Lib.hid hr
 clear hcell hr hne hmake
 generalize hm:madeD 6 12 12 lss=mk
 have HMK:=Lib.hid hm
 clear hm
 go_enter Tryz.func50,Tryz.ntmps50
 go_wp2
 go_loopw [4,5] (fun v4 v5 wr=>∃ (i:Nat) (A0:Option Addr) (cc:Nat) (us:List (Value × List L2)),i≤lss.length∧v5=.int .i64 (i:Int)∧us.length=i∧v4=.slice A0 i cc∧Hid (wr.ownsRow w.heap.size 31 1 (.slice A0 i cc) i (us.map (·.1)))∧Hid (∀ (j:Nat) x l,us[j]?=some x→lss[j]?=some l→oneM 6 12 12 l=some x.2∧OwnM w.heap.size wr x.1 x.2)∧Hid (NW w wr)) (fun _ v5 _=>lss.length - (intOf v5).toNat)
 case atStart=>exact ⟨0,none,0,[],Nat.zero_le _,rfl,rfl,rfl,Lib.hid (World.ownsRow_nil _ _ _ _),Lib.hid (fun j x l h=>by simp at h),N0⟩
 case round =>
  clear N0
  obtain ⟨i,A0,cc,us,hi0,rfl,hul,rfl,HO,HU,HN⟩:=hrel
  by_cases hlt:i < lss.length
  ·obtain ⟨ls,hls⟩:∃ ls,lss[i]?=some ls:=⟨_,List.getElem?_eq_getElem hlt⟩
   obtain ⟨u,cu,hu⟩:=HC.out i ls hls
   have cu:wr.cell? ⟨b,i,none⟩=some u:=(HN.out.below.cell (p:=⟨b,i,none⟩) hb).trans cu
   have hbr:b < wr.heap.size:=Nat.lt_of_lt_of_le hb HN.out.below.size
   have HR0:=Lib.hid (hu.below HN.out.below)
   obtain ⟨A,cA,rfl,hlA,_⟩:=hu
   have hlt':(i:Int) < (lss.length:Int):=by omega
   have HLS:=Lib.hid (And.intro hls hlt)
   have NA:=HN
   have HLI:=Lib.hid (few10_any ls (.slice A ls.length cA) wr HR0.out)
   clear hls hlt
   have TK0:True:=trivial
   cases hl:lightD 6 12 12 ls with
   | false =>
    rw [hl] at HLI
    have HR:=Lib.hid (show mk=none by rw [← HMK.out];exact madeD_none HLS.out.1 (by unfold oneM;rw [hl];rfl))
    clear hl
    go_wp2_with (clear TK0;go_at_call 136;refine HLI.out.mono ?_;rintro e w3 ⟨rfl,hw⟩;replace hw:=hw.symm;subst hw)
    go_ret2
    rw [HR.out]
    exact ⟨rfl,NA.out.below⟩
   | true =>
    rw [hl] at HLI
    obtain ⟨l1,l2⟩:=lightD_iff.1 hl
    have hsh:Short ls:=fun x hx=>⟨Nat.le_trans (l2 x hx).1 (by omega),Nat.le_trans (l2 x hx).2 (by omega)⟩
    have HMC:=Lib.hid (HMA.out ls _ _ (HR0.out.row (by omega)) hsh NA.out.res)
    have HL:=Lib.hid hl
    clear l1 l2 hsh hl
    cases hmk:makeX ls with
    | error m =>
     rw [hmk] at HMC
     change Hid (Calls _ _ _ _ fun e w'=>e=.returned (.tuple #[.slice none 0 0,.int .i64 (m:Int)])∧_) at HMC
     have hz:=ne_zero (makeX_ne hmk)
     have hz2:=ne_zero2 (makeX_ne hmk)
     have HR:=Lib.hid (show mk=none by rw [← HMK.out];exact madeD_none HLS.out.1 (by unfold oneM;rw [HL.out,hmk];rfl))
     clear hmk
     go_wp2_with (first
      | (clear TK0;go_at_call 136;refine HLI.out.mono ?_;rintro e w3 ⟨rfl,hw⟩;replace hw:=hw.symm;subst hw)
      | (go_at_call 26;refine HMC.out.mono ?_;rintro e w4 ⟨rfl,hb⟩;have N4:=Lib.hid (NA.out.later hb);clear hb))
     go_ret2
     rw [HR.out]
     exact ⟨rfl,N4.out.below⟩
    | ok d =>
     rw [hmk] at HMC
     change Hid (Calls _ _ _ _ fun e w'=>(∃ u,e=.returned (.tuple #[u,.int .i64 0])∧OwnM _ w' u d)∧_) at HMC
     have TK1:True:=trivial
     have TK2:True:=trivial
     have HDL:=Lib.hid (show d.length≤1000 from make_len hmk (Nat.le_trans (lightD_iff.1 HL.out).1 (by omega)))
     cases hd:lightD 6 12 12 d with
     | false =>
      have HR:=Lib.hid (show mk=none by rw [← HMK.out];exact madeD_none HLS.out.1 (by unfold oneM;rw [HL.out,hmk];dsimp only;rw [hd];rfl))
      clear hmk
      go_wp2_with ((clear TK0;go_at_call 136;refine HLI.out.mono ?_;rintro e w3 ⟨rfl,hw⟩;replace hw:=hw.symm;subst hw))
      go_wp2_with ((clear TK1;go_at_call 26;refine HMC.out.mono ?_;rintro e w4 ⟨⟨u5,rfl,ho⟩,hb⟩;obtain ⟨A5,c5,rfl⟩:=ho.slice;have N4:=Lib.hid (NA.out.later hb);have HD5:=Lib.hid ho;have HB4:=Lib.hid hb;have HLI2:=Lib.hid (few10_any d (.slice A5 d.length c5) w4 (HD5.out.row HDL.out).wide);rw [hd] at HLI2;clear ho hb))
      go_wp2_with ((clear TK2;go_at_call 136;refine HLI2.out.mono ?_;rintro e w5 ⟨rfl,hw⟩;replace hw:=hw.symm;subst hw))
      go_wp2
      go_ret2
      rw [HR.out]
      exact ⟨rfl,N4.out.below⟩
     | true =>
      obtain ⟨i0,hi,hz0,hz1,hz2⟩:=info_parts infoD
      have HONE:=Lib.hid (show oneM 6 12 12 ls=some d from oneM_some.2 ⟨HL.out,hmk,hd⟩)
      clear hmk
      go_wp2_with ((clear TK0;go_at_call 136;refine HLI.out.mono ?_;rintro e w3 ⟨rfl,hw⟩;replace hw:=hw.symm;subst hw))
      go_wp2_with ((clear TK1;go_at_call 26;refine HMC.out.mono ?_;rintro e w4 ⟨⟨u5,rfl,ho⟩,hb⟩;obtain ⟨A5,c5,rfl⟩:=ho.slice;have N4:=Lib.hid (NA.out.later hb);have HD5:=Lib.hid ho;have HB4:=Lib.hid hb;have HLI2:=Lib.hid (few10_any d (.slice A5 d.length c5) w4 (HD5.out.row HDL.out).wide);rw [hd] at HLI2;clear ho hb))
      have HB6:=Lib.hid (show Below wr.heap.size wr (w4.alloc (.cells #[.slice A5 d.length c5] 31)) from below_alloc HB4.out _)
      have HOL:=Lib.hid (owns_later HO.out HB6.out)
      go_wp2_with (first
       | (clear TK2;go_at_call 136;refine HLI2.out.mono ?_;rintro e w5 ⟨rfl,hw⟩;replace hw:=hw.symm;subst hw)
       | (at_builtin;refine wpList_append_own _ rfl _ _ 46 rfl w.heap.size 31 i0 (.slice none 0 0) 1 24 Tryz.underlying46 hi hz0 hz1 hz2 rfl (by decide) _ _ _ rfl HOL.out ⟨w4.heap.size,0,none⟩ 1 1 [.slice A5 d.length c5] rfl rfl (cell_one_new _ _ _) (by simp [Value.oneCell']) (by unfold maxLen;omega) (by omega) (by have:=N4.out.below.size;simp;omega) ?_;intro v' w6 hown' hgrow _;obtain ⟨A6,c6,rfl⟩:=slice_shape hown';have HO6:=Lib.hid (And.intro hown' hgrow);clear hown' hgrow))
      go_roundw
      case rel =>
       have hNB:=HB6.out
       refine ⟨i+1,A6,c6,us++[(.slice A5 d.length c5,d)],HLS.out.2,by go_num,by simp [hul],rfl,Lib.hid ?_,Lib.hid ?_,Lib.hid ?_⟩
       ·rw [List.map_append]
        exact HO6.out.1
       ·intro j x l hx hl
        rcases Nat.lt_or_ge j us.length with h|h
        ·rw [List.getElem?_append_left h] at hx
         obtain ⟨r1,r2⟩:=HU.out j x l hx hl
         exact ⟨r1,(r2.later hNB).beside HOL.out (by decide) HO6.out.2⟩
        ·rw [List.getElem?_append_right h] at hx
         obtain rfl:j=us.length:=by
          have:=(List.getElem?_eq_some_iff.1 hx).1
          simp at this
          omega
         simp at hx
         subst hx
         rw [hul,HLS.out.1] at hl
         cases hl
         exact ⟨HONE.out,OwnM.beside (owns_base (HD5.out.later (below_alloc (Below.refl _ _) _)) NA.out.below.size) HOL.out (by decide) HO6.out.2⟩
       ·exact grow_nw (HN.out.later hNB) HRS.out HO6.out.2 (fun r e=>(HOL.out.lt r e).1)
      case measure=>have:=HLS.out.2;simp [intOf];omega
  ·have hlt':¬ (i:Int) < (lss.length:Int):=by omega
   have hil:i=lss.length:=by omega
   have hR:mk=some (us.map (·.2)):=by
    rw [← HMK.out]
    refine madeD_some (by simp [hul,hil]) fun j l d hl hd=>?_
    rw [List.getElem?_map] at hd
    cases hx:us[j]? with
    | none=>rw [hx] at hd;cases hd
    | some x =>
     rw [hx] at hd
     cases hd
     exact (HU.out j x l hx hl).1
   have hLL:LLRow wr (.slice A0 i cc) (us.map (·.2)):=by
    have hpos:0 < lss.length:=List.length_pos_iff.2 HNE.out
    rcases HO.out.2 with ⟨e,h0⟩|⟨g,cap,cur,e,hbg,hh,_⟩
    ·omega
    ·simp only [Value.slice.injEq,true_and] at e
     obtain ⟨rfl,rfl⟩:=e
     refine ⟨g,_,by rw [List.length_map,hul],(Array.getElem?_eq_some_iff.1 hh).1,by rw [List.length_map];omega,fun j d hd=>?_⟩
     rw [List.getElem?_map] at hd
     cases hx:us[j]? with
     | none=>rw [hx] at hd;cases hd
     | some x =>
      rw [hx] at hd
      cases hd
      have hj:=(List.getElem?_eq_some_iff.1 hx).1
      obtain ⟨l,hl⟩:∃ l,lss[j]?=some l:=⟨_,List.getElem?_eq_getElem (by omega)⟩
      obtain ⟨r1,r2⟩:=HU.out j x l hx hl
      have hc:=World.ownsRow.cells HO.out (g:=g) rfl j x.1 (by rw [List.getElem?_map,hx];rfl)
      rw [show (⟨g,0,none⟩:Addr).add j=⟨g,j,none⟩ by unfold Addr.add;split<;>simp_all] at hc
      exact ⟨x.1,hc,(r2.row (make_len (oneM_some.1 r1).2.1 (Nat.le_trans (lightD_iff.1 (oneM_some.1 r1).1).1 (by omega)))).wide⟩
   rw [hil] at hLL
   have HF:=Lib.hid (And.intro hR hLL)
   clear hlt hR hLL
   go_wp2
   go_ret2
   rw [HF.out.1]
   exact ⟨⟨_,rfl,HF.out.2⟩,HN.out.below⟩
section
variable {F L:ByteArray} {f l:Rat}
theorem errOf_ok (hF:IsT F f) (h1:1≤f) (hL:IsT L l) (h0:0≤l) (ht:l≤1):errOf F L=0:=by
 unfold errOf
 rw [if_neg (by rw [hF.err];decide),if_neg (by rw [hL.err];decide),if_neg]
 rintro (h|h)
 ·rw [hF.val,cmpQ_lt] at h;grind
 ·exact h (errU_zero.2 (by rw [hL.val];exact ⟨h0,ht⟩))
theorem mx4 {j:Nat} {q:Rat} (h:Sz j q) (hj:j≤4000):IsT (rT q) q:=isT_rT (fits_sz.2 (h.mono hj))
theorem ofM_is (sf:Sz 120 f) (hL:IsT L l) (sl:Sz 120 l) {i:Nat} (hi:i < 7):IsT (txt (ofM f l) i) ((ofX f i+ofY f i)*(f+1)⁻¹):=by
 have h:=sz_ofM sf sl (by omega) i (by omega)
 have e:txt (ofM f l) i=rT ((ofX f i+ofY f i)*(f+1)⁻¹):=by show rT (ofM f l i)=_;rw [ofM_i f l hi]
 rw [e]
 rw [ofM_i f l hi] at h
 exact mx4 h (by have:=hL.size;omega)
theorem ofM_last (hL:IsT L l):txt (ofM f l) 7=L:=by
 rw [hL.text]
 show rT (ofM f l 7)=_
 rw [show ofM f l 7=l from if_pos rfl]
theorem mofV (hF:IsT F f) (sf:Sz 120 f) (h1:1≤f) (hL:IsT L l) (sl:Sz 120 l) (h0:0≤l) (ht:l≤1):Ret 62 #[.string F,.string L] (.tuple #[cv (txt (ofM f l)),.int .i64 0]):=fun w hr=>by
 have he:=errOf_ok hF h1 hL h0 ht
 have iN:IsT (rT (f+1)) (f+1):=mx4 (sz_next sf) (by omega)
 have iX:∀ i:Nat,i < 7→IsT (rT (ofX f i)) (ofX f i):=fun i hi=>mx4 (sz_ofX sf hi) (by omega)
 have iY:∀ i:Nat,i < 7→IsT (rT (ofY f i)) (ofY f i):=fun i hi=>mx4 (sz_ofY sf hi) (by omega)
 have iS:∀ i:Nat,i < 7→IsT (rT (ofX f i+ofY f i)) (ofX f i+ofY f i):=fun i hi=>mx4 (sz_ofS sf hi) (by omega)
 have ey:∀ i:Nat,(1:Int) - ((i:Int)+2)=-1 - (i:Int):=fun i=>by omega
 have h:=mof_walk F L (rT (f+1)) (fun i=>rT (ofX f i)) (fun i=>rT (ofY f i)) (fun i=>rT (ofX f i+ofY f i)) (txt (ofM f l)) w hF.size hL.size hr (ofM_last hL)
  (Lib.hid fun _=>isAdd hF IsT.one iN) (Lib.hid fun _ i hi=>isPow hF (ne_of_one h1) (iX i hi) (by omega) (by omega)) (Lib.hid fun _ i hi=>by rw [ey];exact isPow hF (ne_of_one h1) (iY i hi) (by omega) (by omega))
  (Lib.hid fun _ i hi=>isAdd (iX i hi) (iY i hi) (iS i hi)) (Lib.hid fun _ i hi=>isDiv (iS i hi) iN (ofM_is sf hL sl hi) (next_ne h1))
 rw [he,ofRes_ok] at h
 exact h
end
section
variable {a b c:CT}
end
structure LW (w:World) (L:List (Nat × TypeId × Array Value)) (W:World):Prop where
 held:∀ x∈L,Blk W x.1 x.2.1 x.2.2
 below:Below w.heap.size w W
 res:Res W
theorem LW.nil {w:World} (hr:Res w):LW w [] w:=⟨fun _ hx=>absurd hx (by simp),Below.refl _ _,hr⟩
theorem LW.later {w W W':World} {L:List (Nat × TypeId × Array Value)} (h:LW w L W) (hb:Below W.heap.size W W'):LW w L W' :=
 ⟨fun x hx=>(h.held x hx).below hb (h.held x hx).lt,h.below.trans (hb.mono h.below.size),h.res.below hb⟩
theorem LW.push {w W:World} {L:List (Nat × TypeId × Array Value)} (h:LW w L W) (g:Nat) (t:TypeId) (cs:Array Value) (hg:W.heap.size=g):LW w ((g,t,cs)::L) (W.alloc (.cells cs t)):=by
 subst hg
 refine ⟨fun x hx=>?_,below_alloc h.below _,h.res.below (below_alloc (Below.refl _ _) _)⟩
 rcases List.mem_cons.1 hx with rfl|hx
 ·exact Blk.new W _ _
 ·exact (h.held x hx).alloc _
theorem LW.two {w W:World} {L:List (Nat × TypeId × Array Value)} (h:LW w L W) {x y:Nat × TypeId × Array Value} (hx:x∈L) (hy:y∈L):LW w [x,y] W:=by
 refine ⟨fun z hz=>?_,h.below,h.res⟩
 simp only [List.mem_cons,List.not_mem_nil,or_false] at hz
 rcases hz with rfl|rfl
 ·exact h.held _ hx
 ·exact h.held _ hy
def mfactorB (f:ByteArray):Bool:=decide (f.size≤12)&&(errQ f.data.toList==0)&&decide (cmpQ 1 (valQ f.data.toList)≤0)
theorem merrQ_one:errQ (⟨#[49]⟩:ByteArray).data.toList=0:=IsT.one.err
theorem mfactor_walk (f:ByteArray) (c k:Int) (b:Bool) (w:World) (HC:Hid (∀ w,Calls Tryz.prog 119 #[.string ⟨#[49]⟩,.string f] w fun e w'=>e=.returned (.tuple #[.int .i64 c,.int .i64 k])∧Below w.heap.size w w'))
  (hb:b=(decide (f.size≤12)&&((k==0)&&decide (c≤0)))) :
  Calls Tryz.prog 51 #[.string f] w fun e w'=>e=.returned (.bool b)∧Below w.heap.size w w':=by
 by_cases h1:f.size≤12
 ·have d1:decide ((f.size:Int)≤12)=true:=decide_eq_true (by omega)
  rw [decide_eq_true h1,Bool.true_and] at hb
  clear h1
  by_cases h2:(k==0)=true
  ·rw [h2,Bool.true_and] at hb
   subst hb
   go_enter Tryz.func51,Tryz.ntmps51
   go_wp2_with (go_at_call 119;refine (HC.out _).mono ?_;rintro e w1 ⟨rfl,hb⟩;have HB:=Lib.hid hb;clear hb)
   go_ret
   exact ⟨rfl,HB.out⟩
  ·have h2:(k==0)=false:=by simpa using h2
   rw [h2,Bool.false_and] at hb
   subst hb
   go_enter Tryz.func51,Tryz.ntmps51
   go_wp2_with (go_at_call 119;refine (HC.out _).mono ?_;rintro e w1 ⟨rfl,hb⟩;have HB:=Lib.hid hb;clear hb)
   go_ret
   exact ⟨rfl,HB.out⟩
 ·have d1:decide ((f.size:Int)≤12)=false:=decide_eq_false (by omega)
  rw [decide_eq_false h1,Bool.false_and] at hb
  clear h1
  subst hb
  go_enter Tryz.func51,Tryz.ntmps51
  go_wp2_with (go_at_call 119;refine (HC.out _).mono ?_;rintro e w1 ⟨rfl,hb⟩;have HB:=Lib.hid hb;clear hb)
  go_ret
  exact ⟨rfl,HB.out⟩
theorem mfactor_any (f:ByteArray) (w:World) (hf:f.size≤9223372036854775807) :
  Calls Tryz.prog 51 #[.string f] w fun e w'=>e=.returned (.bool (mfactorB f))∧Below w.heap.size w w':=by
 by_cases he:errQ f.data.toList=0
 ·refine mfactor_walk f _ 0 _ w (Lib.hid (fun w=>rcmpT w IsT.one (IsT.of he))) ?_
  unfold mfactorB
  rw [he]
  simp
 ·refine mfactor_walk f 0 (errQ f.data.toList:Int) _ w (Lib.hid (fun w=>refCmp_err2B ⟨#[49]⟩ f w (by decide) hf merrQ_one he)) ?_
  unfold mfactorB
  have h1:((errQ f.data.toList)==0)=false:=beq_eq_false_iff_ne.2 he
  have h2:((errQ f.data.toList:Int)==0)=false:=by rw [beq_eq_false_iff_ne];omega
  rw [h1,h2]
  simp
theorem mfactor_ok {f:ByteArray} (h:mfactorB f=true):f.size≤12∧errQ f.data.toList=0∧1≤valQ f.data.toList:=by
 unfold mfactorB at h
 simp only [Bool.and_eq_true,decide_eq_true_eq,beq_iff_eq] at h
 exact ⟨h.1.1,h.1.2,(cmpQ_le _ _).1 h.2⟩
end Go.Proofs.YtigapglmipmbeaaGreatDoor
namespace Go.Proofs.YtigapglmipmbeaaGreatDoor
theorem insX_go {y x:L2} {l:List L2} (h:ltK y.1 x.1=true):insX (y::l) x=(match insX l x with|.error n=>.error n|.ok m=>.ok (y::m)):=by
 conv=>lhs;unfold insX
 rw [if_pos h]
 rfl
theorem insX_new:∀ {a:List L2} {x:L2} {k:Nat},k≤a.length→(∀ (j:Nat) y,j < k→a[j]?=some y→ltK y.1 x.1=true)→(∀ y,a[k]?=some y→ltK y.1 x.1=false∧y.1≠x.1)→insX a x=.ok (a.take k++x::a.drop k)
 | [],x,k,hk,_,_=>by
  obtain rfl:k=0:=by simpa using hk
  rfl
 | y::l,x,0,_,_,h=>by
  obtain ⟨h1,h2⟩:=h y rfl
  unfold insX
  rw [if_neg (by rw [h1];decide),if_neg h2]
  rfl
 | y::l,x,k+1,hk,h,h2=>by
  rw [insX_go (h 0 y (by omega) rfl),insX_new (a:=l) (k:=k) (by simpa using hk) (fun j z hj hz=>h (j+1) z (by omega) (by simpa using hz)) (fun z hz=>h2 z (by simpa using hz))]
  rfl
theorem insX_old:∀ {a:List L2} {x y:L2} {k:Nat},(∀ (j:Nat) z,j < k→a[j]?=some z→ltK z.1 x.1=true)→a[k]?=some y→ltK y.1 x.1=false→y.1=x.1 →
  insX a x=(match plX y.2 x.2 with|.error n=>.error n|.ok s=>.ok (a.set k (y.1,s)))
 | [],x,y,k,_,h,_,_=>by simp at h
 | z::l,x,y,0,_,h,h1,h2=>by
  simp only [List.getElem?_cons_zero,Option.some.injEq] at h
  subst h
  unfold insX
  rw [if_neg (by rw [h1];decide),if_pos h2]
  cases plX z.2 x.2<;>rfl
 | z::l,x,y,k+1,h,hk,h1,h2=>by
  rw [insX_go (h 0 z (by omega) rfl),insX_old (a:=l) (k:=k) (fun j u hj hu=>h (j+1) u (by omega) (by simpa using hu)) (by simpa using hk) h1 h2]
  cases plX y.2 x.2<;>rfl
theorem collX_step (a:List L2) (x:L2) (l:List L2) {b:List L2} (h:insX a x=.ok b):collX a (x::l)=collX b l:=by
 simp only [collX,h]
theorem collX_fail (a:List L2) (x:L2) (l:List L2) {n:Nat} (h:insX a x=.error n):collX a (x::l)=.error n:=by
 simp only [collX,h]
end Go.Proofs.YtigapglmipmbeaaGreatDoor
