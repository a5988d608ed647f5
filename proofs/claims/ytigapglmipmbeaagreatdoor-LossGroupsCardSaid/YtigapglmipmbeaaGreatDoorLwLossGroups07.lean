/- The reference 08: Delta, Distance, Factor, part, Moment (printed by mkdref.py). law 09: factor, least, holds (printed by mklhelp9.py). What Delta, Factor and Moment give, as rationals. No program in sight. The plain law of DistTriangle: distances as texts. No program in sight. LossGroups and the like: what Holds and Group give of distributions; no program in sight. What law 09's made gives (printed by mkgrp.py). The plain law of DistFactors: the least factor as a text. No program in sight. dist: slices.Clone of masses, scaled (printed by mkdprog.py). dist.Mix (printed by mkdprog.py). dist: slices.Index of strings, Push (printed by mkdprog.py). law 08: names (printed by mkdlaw3.py). DistPushes, as a walk (printed by mkdlaw3.py). Laws inside a fence: drawn regions of one class of later worlds; what Mix gives (printed by mkdlaw4.py). The reference's losses (printed by mklref.py). The reference's sums and comparisons of losses (printed by mklref2.py). The door of a function that defers ends, inside the wide fence. loss.Late, where no number on the way is too long. The reference's Group and Late (printed by mklref3.py). -/
import Derived.Test.YtigapglmipmbeaaGreatDoorLwLossGroups05
import Derived.Test.YtigapglmipmbeaaGreatDoorLwLossGroups01
import Derived.Test.YtigapglmipmbeaaGreatDoorLwLossGroups06
import Derived.Test.YtigapglmipmbeaaGreatDoorLwLossGroups02
import Derived.Test.YtigapglmipmbeaaGreatDoorRb10
import Derived.Test.YtigapglmipmbeaaGreatDoorRb03
import Derived.RecoverIn
import Derived.TacticsInMore
set_option maxRecDepth 100000
set_option maxHeartbeats 16000000
namespace Go.Proofs.YtigapglmipmbeaaGreatDoor
open Go.RowKit Go.Shelf
open Lim
attribute [local go_sem] Oper.semAt_some
theorem plX_zero {s:ByteArray} (h:errQ s.data.toList=0):plX s zT=.ok s:=by
 rw [plX_val h err_zT,val_zT,Rat.add_zero,ovT_fit (IsT.of h).fits,← ok_rT h]
theorem maxX_pos {s:ByteArray} (h:errQ s.data.toList=0) (h0:0 < valQ s.data.toList):maxX zT s=.ok s:=by
 rw [maxX_val err_zT h,val_zT,if_pos]
 unfold cmpQ;rw [if_pos h0];decide
theorem maxX_neg {s:ByteArray} (h:errQ s.data.toList=0) (h0:¬ 0 < valQ s.data.toList):maxX zT s=.ok zT:=by
 rw [maxX_val err_zT h,val_zT,if_neg]
 unfold cmpQ;rw [if_neg h0];split <;> decide
theorem rddelta_any (p q:List L2) (vp vq:Value) (f:ByteArray) (w:World) (hp:LRow w vp p) (hq:LRow w vq q) (sp:Short p) (sq:Short q) (hf:f.size≤270000) (hr:Res w) :
  Calls Tryz.prog 102 #[vp,vq,.string f] w fun e w'=>e=.returned (resX (deltaX p q f))∧Below w.heap.size w w':=by
 have N0:=Lib.hid (NW.refl hr)
 have HC:=Lib.hid (rdboth_any p q vp vq w hp hq sp sq hr)
 have HVP:=Lib.hid hp
 have HVQ:=Lib.hid hq
 have HSH:=Lib.hid (And.intro sp sq)
 have HFS:=Lib.hid hf
 obtain ⟨A,c,rfl,hlen,hcells⟩:=hp
 obtain ⟨A',c',rfl,hlen',hcells'⟩:=hq
 clear hcells hcells' sp sq hr
 by_cases h0:chk2 p q=0
 ·have HR0:=Lib.hid (show deltaX p q f=if posE f≠0 then .error (posE f) else foldX (partX f q) zT p by unfold deltaX;rw [if_neg (by simpa using h0)])
  rw [h0] at HC
  change Hid (Calls _ _ _ _ fun e w'=>e=.returned (.int .i64 0)∧_) at HC
  clear h0
  by_cases h1:errQ f.data.toList=0
  ·have HSG:=Lib.hid (retRSign_ok hf h1)
   by_cases h2:valQ f.data.toList < 0
   ·have d1:decide (sgQ (valQ f.data.toList) < 0)=true:=decide_eq_true ((sg_lt _).2 h2)
    have HR:=Lib.hid (show deltaX p q f=.error 2 by
     have:posE f=2:=by unfold posE;rw [if_neg (by simpa using h1),if_pos h2]
     rw [HR0.out,this];rfl)
    clear h1 h2 hf
    generalize sgQ (valQ f.data.toList)=sg at *
    go_enter Tryz.func102,Tryz.ntmps102
    go_wp2_with (first
     | (go_at_call 114;refine (HC.out).mono ?_;rintro e w1 ⟨rfl,hb⟩;have N1:=Lib.hid (N0.out.later hb);clear hb)
     | (go_at_call 110;refine (HSG.out _ N1.out.res).mono ?_;rintro e w2 ⟨rfl,hb⟩;have N2:=Lib.hid (N1.out.later hb);clear hb))
    go_ret2
    rw [HR.out]
    exact ⟨rfl,N2.out.below⟩
   ·have d1:decide (sgQ (valQ f.data.toList) < 0)=false:=decide_eq_false (fun h=>h2 ((sg_lt _).1 h))
    have HR:=Lib.hid (show deltaX p q f=foldX (partX f q) zT p by
     have:posE f=0:=by unfold posE;rw [if_neg (by simpa using h1),if_neg h2]
     rw [HR0.out,this];rfl)
    clear h1 h2 hf
    generalize sgQ (valQ f.data.toList)=sg at *
    go_enter Tryz.func102,Tryz.ntmps102
    go_wp2_with (first
     | (go_at_call 114;refine HC.out.mono ?_;rintro e w1 ⟨rfl,hb⟩;have N1:=Lib.hid (N0.out.later hb);clear hb)
     | (go_at_call 110;refine (HSG.out _ N1.out.res).mono ?_;rintro e w2 ⟨rfl,hb⟩;have N2:=Lib.hid (N1.out.later hb);clear hb))
    go_loopw [11,12] (fun v11 v12 wr=>∃ (k:Nat) (s:ByteArray),k≤p.length∧v12=.int .i64 (k:Int)∧v11=.string s∧Hid (errQ s.data.toList=0∧foldX (partX f q) zT p=foldX (partX f q) s (p.drop k))∧Hid (NW w wr)) (fun _ v12 _=>p.length - (intOf v12).toNat)
    case atStart=>exact ⟨0,zT,Nat.zero_le _,rfl,rfl,Lib.hid ⟨err_zT,by simp⟩,N2⟩
    case round =>
     clear N0 N1 N2 HC HSG HR0
     obtain ⟨k,s,hk,rfl,rfl,HE,HN⟩:=hrel
     by_cases hlt:k < p.length
     ·obtain ⟨x,hx⟩:∃ x,p[k]?=some x:=⟨_,List.getElem?_eq_getElem hlt⟩
      obtain ⟨b,o,c2,e',hb2,c0,c1⟩:=HVP.out.at HN.out.below hx
      simp only [Value.slice.injEq,true_and] at e'
      obtain ⟨rfl,rfl⟩:=e'
      have hlt':(k:Int) < (p.length:Int):=by omega
      have HM:=Lib.hid (fun W (hW:NW w W)=>HVP.out.cell2 hW.below hx)
      have HAT:=Lib.hid (rdAt_any q _ x.1 wr (HVQ.out.below HN.out.below))
      have HML:=Lib.hid (retRMulX HFS.out (HSH.out.2.atT (k:=x.1)))
      have HXS:=Lib.hid (HSH.out.1 x (List.mem_of_getElem? hx)).2
      have HD:=Lib.hid (drop_of hx)
      have HLT:=Lib.hid (And.intro hlt hlt')
      have HP0:=Lib.hid (show foldX (partX f q) zT p=foldX (partX f q) s (x::p.drop (k+1)) by rw [HE.out.2,drop_of hx])
      obtain ⟨y,d⟩:=x
      dsimp only at c0 c1 HM HAT HML HXS HD HP0
      clear hx hlt
      cases hm:mulX f (atT q y) with
      | error n =>
       have HR2:=Lib.hid (show foldX (partX f q) zT p=.error n by rw [HP0.out];exact foldX_err (x:=(y,d)) (by unfold partX;dsimp only;rw [hm]))
       have hz:=ne_zero (exQ_err hm)
       rw [hm] at HML
       change Hid (Ret _ _ (.tuple #[.string ⟨#[]⟩,.int .i64 (n:Int)])) at HML
       clear hm
       go_wp2_with (first
        | (go_at_call 39;refine HAT.out.mono ?_;rintro e w3 ⟨rfl,rfl⟩)
        | (go_at_call 149;refine (HML.out _ HN.out.res).mono ?_;rintro e w4 ⟨rfl,hb⟩;have N4:=Lib.hid (HN.out.later hb);clear hb;obtain ⟨hb4,q0,q1⟩:=HM.out _ N4.out))
       go_ret2
       rw [HR.out,HR2.out]
       exact ⟨rfl,N4.out.below⟩
      | ok m =>
       rw [hm] at HML
       change Hid (Ret _ _ (.tuple #[.string m,.int .i64 0])) at HML
       have HSB:=Lib.hid (retRSubX HXS.out (size_ok (mulX_ok hm)))
       cases hs:subX d m with
       | error n =>
        have HR2:=Lib.hid (show foldX (partX f q) zT p=.error n by rw [HP0.out];exact foldX_err (x:=(y,d)) (by unfold partX;dsimp only;rw [hm];dsimp only;rw [hs]))
        have hz:=ne_zero (exQ_err hs)
        rw [hs] at HSB
        change Hid (Ret _ _ (.tuple #[.string ⟨#[]⟩,.int .i64 (n:Int)])) at HSB
        clear hm hs
        go_wp2_with (first
        | (go_at_call 39;refine HAT.out.mono ?_;rintro e w3 ⟨rfl,rfl⟩)
        | (go_at_call 149;refine (HML.out _ HN.out.res).mono ?_;rintro e w4 ⟨rfl,hb⟩;have N4:=Lib.hid (HN.out.later hb);clear hb;obtain ⟨hb4,q0,q1⟩:=HM.out _ N4.out)
        | (go_at_call 61;refine (HSB.out _ N4.out.res).mono ?_;rintro e w5 ⟨rfl,hb⟩;have N5:=Lib.hid (N4.out.later hb);clear hb))
        go_ret2
        rw [HR.out,HR2.out]
        exact ⟨rfl,N5.out.below⟩
       | ok t =>
        rw [hs] at HSB
        change Hid (Ret _ _ (.tuple #[.string t,.int .i64 0])) at HSB
        have HSG:=Lib.hid (retRSign_ok (size_ok (subX_ok hs)) (subX_ok hs))
        by_cases h0:0 < valQ t.data.toList
        ·have d1:decide (0 < sgQ (valQ t.data.toList))=true:=decide_eq_true ((sg_gt _).2 h0)
         have HPE:=Lib.hid (show partX f q (y,d)=.ok t by unfold partX;dsimp only;rw [hm];dsimp only;rw [hs];exact maxX_pos (subX_ok hs) h0)
         have HAD:=Lib.hid (retRPlX (size_ok HE.out.1) (size_ok (subX_ok hs)))
         clear hm hs h0
         generalize sgQ (valQ t.data.toList)=sg at *
         cases ha:plX s t with
         | error n =>
          rw [ha] at HAD
          have HR2:=Lib.hid (show foldX (partX f q) zT p=.error n by rw [HP0.out];exact foldX_err2 HPE.out ha)
          have hz:=ne_zero (exQ_err ha)
          change Hid (Ret _ _ (.tuple #[.string ⟨#[]⟩,.int .i64 (n:Int)])) at HAD
          clear ha
          go_wp2_with (first
        | (go_at_call 39;refine HAT.out.mono ?_;rintro e w3 ⟨rfl,rfl⟩)
        | (go_at_call 149;refine (HML.out _ HN.out.res).mono ?_;rintro e w4 ⟨rfl,hb⟩;have N4:=Lib.hid (HN.out.later hb);clear hb;obtain ⟨hb4,q0,q1⟩:=HM.out _ N4.out)
        | (go_at_call 61;refine (HSB.out _ N4.out.res).mono ?_;rintro e w5 ⟨rfl,hb⟩;have N5:=Lib.hid (N4.out.later hb);clear hb)
        | (go_at_call 110;refine (HSG.out _ N5.out.res).mono ?_;rintro e w6 ⟨rfl,hb⟩;have N6:=Lib.hid (N5.out.later hb);clear hb)
        | (go_at_call 59;refine (HAD.out _ N6.out.res).mono ?_;rintro e w7 ⟨rfl,hb⟩;have N7:=Lib.hid (N6.out.later hb);clear hb))
          go_ret2
          rw [HR.out,HR2.out]
          exact ⟨rfl,N7.out.below⟩
         | ok u =>
          rw [ha] at HAD
          have HR2:=Lib.hid (show foldX (partX f q) zT p=foldX (partX f q) u (p.drop (k+1)) by rw [HP0.out];exact foldX_ok HPE.out ha)
          change Hid (Ret _ _ (.tuple #[.string u,.int .i64 0])) at HAD
          have HER:=Lib.hid (plX_ok ha)
          clear ha
          go_wp2_with (first
        | (go_at_call 39;refine HAT.out.mono ?_;rintro e w3 ⟨rfl,rfl⟩)
        | (go_at_call 149;refine (HML.out _ HN.out.res).mono ?_;rintro e w4 ⟨rfl,hb⟩;have N4:=Lib.hid (HN.out.later hb);clear hb;obtain ⟨hb4,q0,q1⟩:=HM.out _ N4.out)
        | (go_at_call 61;refine (HSB.out _ N4.out.res).mono ?_;rintro e w5 ⟨rfl,hb⟩;have N5:=Lib.hid (N4.out.later hb);clear hb)
        | (go_at_call 110;refine (HSG.out _ N5.out.res).mono ?_;rintro e w6 ⟨rfl,hb⟩;have N6:=Lib.hid (N5.out.later hb);clear hb)
        | (go_at_call 59;refine (HAD.out _ N6.out.res).mono ?_;rintro e w7 ⟨rfl,hb⟩;have N7:=Lib.hid (N6.out.later hb);clear hb))
          go_roundw
          case rel=>exact ⟨k+1,u,HLT.out.1,by go_num,rfl,Lib.hid ⟨HER.out,HR2.out⟩,N7⟩
          case measure=>have:=HLT.out.1;simp [intOf];omega
        ·have d1:decide (0 < sgQ (valQ t.data.toList))=false:=decide_eq_false (fun h=>h0 ((sg_gt _).1 h))
         have HR2:=Lib.hid (show foldX (partX f q) zT p=foldX (partX f q) s (p.drop (k+1)) by
          rw [HP0.out]
          exact foldX_ok (x:=(y,d)) (p:=zT) (by unfold partX;dsimp only;rw [hm];dsimp only;rw [hs];exact maxX_neg (subX_ok hs) h0) (plX_zero HE.out.1))
         clear hm hs h0
         generalize sgQ (valQ t.data.toList)=sg at *
         go_wp2_with (first
        | (go_at_call 39;refine HAT.out.mono ?_;rintro e w3 ⟨rfl,rfl⟩)
        | (go_at_call 149;refine (HML.out _ HN.out.res).mono ?_;rintro e w4 ⟨rfl,hb⟩;have N4:=Lib.hid (HN.out.later hb);clear hb;obtain ⟨hb4,q0,q1⟩:=HM.out _ N4.out)
        | (go_at_call 61;refine (HSB.out _ N4.out.res).mono ?_;rintro e w5 ⟨rfl,hb⟩;have N5:=Lib.hid (N4.out.later hb);clear hb)
        | (go_at_call 110;refine (HSG.out _ N5.out.res).mono ?_;rintro e w6 ⟨rfl,hb⟩;have N6:=Lib.hid (N5.out.later hb);clear hb))
         go_roundw
         case rel=>exact ⟨k+1,s,HLT.out.1,by go_num,rfl,Lib.hid ⟨HE.out.1,HR2.out⟩,N6⟩
         case measure=>have:=HLT.out.1;simp [intOf];omega
     ·have hlt':¬ (k:Int) < (p.length:Int):=by omega
      obtain rfl:k=p.length:=by omega
      have HR2:=Lib.hid (show foldX (partX f q) zT p=.ok s by
       have:=HE.out.2
       rwa [List.drop_length] at this)
      clear hlt
      go_wp2
      go_ret2
      rw [HR.out,HR2.out]
      exact ⟨rfl,HN.out.below⟩
  ·have HSG:=Lib.hid (retRSign_err hf h1)
   have hm:=ne_zero h1
   have HR:=Lib.hid (show deltaX p q f=.error (errQ f.data.toList) by
    rw [HR0.out,posE_err h1,if_pos h1])
   clear h1 hf
   go_enter Tryz.func102,Tryz.ntmps102
   go_wp2_with (first
    | (go_at_call 114;refine (HC.out).mono ?_;rintro e w1 ⟨rfl,hb⟩;have N1:=Lib.hid (N0.out.later hb);clear hb)
    | (go_at_call 110;refine (HSG.out _ N1.out.res).mono ?_;rintro e w2 ⟨rfl,hb⟩;have N2:=Lib.hid (N1.out.later hb);clear hb))
   go_ret2
   rw [HR.out]
   exact ⟨rfl,N2.out.below⟩
 ·have HR:=Lib.hid (show deltaX p q f=.error (chk2 p q) by unfold deltaX;rw [if_pos h0])
  have hm:=ne_zero h0
  clear h0 hf
  go_enter Tryz.func102,Tryz.ntmps102
  go_wp2_with (go_at_call 114;refine (HC.out).mono ?_;rintro e w1 ⟨rfl,hb⟩;have N1:=Lib.hid (N0.out.later hb);clear hb)
  go_ret2
  rw [HR.out]
  exact ⟨rfl,N1.out.below⟩
end Go.Proofs.YtigapglmipmbeaaGreatDoor
namespace Go.Proofs.YtigapglmipmbeaaGreatDoor
open Go.RowKit Go.Shelf
open Lim
def factorB (f:ByteArray):Bool:=decide (f.size≤12) && (errQ f.data.toList == 0) && decide (cmpQ 1 (valQ f.data.toList)≤0)
theorem errQ_one:errQ (⟨#[49]⟩:ByteArray).data.toList=0:=IsT.one.err
theorem factor_walk (f:ByteArray) (c k:Int) (b:Bool) (w:World) (HC:Hid (∀ w,Calls Tryz.prog 119 #[.string ⟨#[49]⟩,.string f] w fun e w'=>e=.returned (.tuple #[.int .i64 c,.int .i64 k])∧Below w.heap.size w w'))
  (hb:b=(decide (f.size≤12) && ((k == 0) && decide (c≤0)))) :
  Calls Tryz.prog 67 #[.string f] w fun e w'=>e=.returned (.bool b)∧Below w.heap.size w w':=by
 by_cases h1:f.size≤12
 ·have d1:decide ((f.size:Int)≤12)=true:=decide_eq_true (by omega)
  rw [decide_eq_true h1,Bool.true_and] at hb
  clear h1
  by_cases h2:(k == 0)=true
  ·rw [h2,Bool.true_and] at hb
   subst hb
   go_enter Tryz.func67,Tryz.ntmps67
   go_wp2_with (go_at_call 119;refine (HC.out _).mono ?_;rintro e w1 ⟨rfl,hb⟩;have HB:=Lib.hid hb;clear hb)
   go_ret
   exact ⟨rfl,HB.out⟩
  ·have h2:(k == 0)=false:=by simpa using h2
   rw [h2,Bool.false_and] at hb
   subst hb
   go_enter Tryz.func67,Tryz.ntmps67
   go_wp2_with (go_at_call 119;refine (HC.out _).mono ?_;rintro e w1 ⟨rfl,hb⟩;have HB:=Lib.hid hb;clear hb)
   go_ret
   exact ⟨rfl,HB.out⟩
 ·have d1:decide ((f.size:Int)≤12)=false:=decide_eq_false (by omega)
  rw [decide_eq_false h1,Bool.false_and] at hb
  clear h1
  subst hb
  go_enter Tryz.func67,Tryz.ntmps67
  go_wp2_with (go_at_call 119;refine (HC.out _).mono ?_;rintro e w1 ⟨rfl,hb⟩;have HB:=Lib.hid hb;clear hb)
  go_ret
  exact ⟨rfl,HB.out⟩
theorem factor_any (f:ByteArray) (w:World) (hf:f.size≤9223372036854775807) :
  Calls Tryz.prog 67 #[.string f] w fun e w'=>e=.returned (.bool (factorB f))∧Below w.heap.size w w':=by
 by_cases he:errQ f.data.toList=0
 ·refine factor_walk f _ 0 _ w (Lib.hid (fun w=>rcmpT w IsT.one (IsT.of he))) ?_
  unfold factorB
  rw [he]
  simp
 ·refine factor_walk f 0 (errQ f.data.toList:Int) _ w (Lib.hid (fun w=>refCmp_err2B ⟨#[49]⟩ f w (by decide) hf errQ_one he)) ?_
  unfold factorB
  have h1:((errQ f.data.toList) == 0)=false:=beq_eq_false_iff_ne.2 he
  have h2:((errQ f.data.toList:Int) == 0)=false:=by rw [beq_eq_false_iff_ne];omega
  rw [h1,h2]
  simp
theorem factorB_ok {f:ByteArray} (h:factorB f=true):f.size≤12∧errQ f.data.toList=0∧1≤valQ f.data.toList:=by
 unfold factorB at h
 simp only [Bool.and_eq_true,decide_eq_true_eq,beq_iff_eq] at h
 exact ⟨h.1.1,h.1.2,(cmpQ_le _ _).1 h.2⟩
theorem least9_any (p q:List L2) (vp vq:Value) (f x y:ByteArray) {a b:Rat} (w:World) (hp:LRow w vp p) (hq:LRow w vq q) (sp:Short p) (sq:Short q) (hf:f.size≤270000) (hr:Res w) (hx:deltaX p q f=.ok x) (hy:deltaX q p f=.ok y) (ix:IsT x a) (iy:IsT y b) :
  Calls Tryz.prog 68 #[vp,vq,.string f] w fun e w'=>e=.returned (.agg #[.string f,.string (rT (maxQ a b))])∧Below w.heap.size w w':=by
 have K0:=Lib.hid (Blk.new w 63 #[.string ⟨#[]⟩,.string ⟨#[]⟩])
 have N0:=Lib.hid ((NW.refl hr).alloc (.cells #[.string ⟨#[]⟩,.string ⟨#[]⟩] 63))
 have HX:=Lib.hid (fun W (hW:NW w W)=>rddelta_any p q _ _ f W (hp.below hW.below) (hq.below hW.below) sp sq hf hW.res)
 have HY:=Lib.hid (fun W (hW:NW w W)=>rddelta_any q p _ _ f W (hq.below hW.below) (hp.below hW.below) sq sp hf hW.res)
 have HM:=Lib.hid (fun W=>rmaxT W ix iy)
 rw [hx] at HX
 rw [hy] at HY
 change Hid (∀ W (_:NW w W),Calls _ _ _ _ fun e w'=>e=.returned (.tuple #[.string x,.int .i64 0])∧_) at HX
 change Hid (∀ W (_:NW w W),Calls _ _ _ _ fun e w'=>e=.returned (.tuple #[.string y,.int .i64 0])∧_) at HY
 generalize rT (maxQ a b)=m at *
 obtain ⟨A,ca,rfl,_,_⟩:=id hp
 obtain ⟨B,cb,rfl,_,_⟩:=id hq
 have TK0:True:=trivial
 have TK1:True:=trivial
 have TK2:True:=trivial
 clear hp hq sp sq hf hr hx hy ix iy
 go_enter Tryz.func68,Tryz.ntmps68
 go_wp2_with (clear TK0;go_at_call 102;refine (HX.out _ N0.out).mono ?_;rintro e w1 ⟨rfl,hb⟩;have K1:=Lib.hid (K0.out.below hb K0.out.lt);have N1:=Lib.hid (N0.out.later hb);clear hb)
 go_wp2_with (clear TK1;go_at_call 102;refine (HY.out _ N1.out).mono ?_;rintro e w2 ⟨rfl,hb⟩;have K2:=Lib.hid (K1.out.below hb K1.out.lt);have N2:=Lib.hid (N1.out.later hb);clear hb)
 go_wp2_with (clear TK2;go_at_call 57;refine (HM.out _).mono ?_;rintro e w3 ⟨rfl,hb⟩;have K3:=Lib.hid (K2.out.below hb K2.out.lt);have N3:=Lib.hid (N2.out.later hb);obtain ⟨p0,p1⟩:=cells2 K3.out;have z0:=K3.out.frozen 0;have z1:=K3.out.frozen 1;clear hb)
 refine bodyPost_ret (run_cell rfl rfl (load_loss ((K3.out.set_ 0 (.string f)).set_ 1 (.string m)))) rfl ⟨rfl,(N3.out.below.setCell (Nat.le_refl _) _).setCell (Nat.le_refl _) _⟩
theorem holds9_any (f d:ByteArray) (p q:List L2) (vp vq:Value) (b:Bool) (w:World) (hp:LRow w vp p) (hq:LRow w vq q) (sp:Short p) (sq:Short q) (h1:f.size≤270000) (h2:d.size≤270000) (hr:Res w) (hh:holdsR f d p q=.ok b) :
  Calls Tryz.prog 70 #[.agg #[.string f,.string d],.int .i64 0,vp,vq] w fun e w'=>e=.returned (.bool b)∧Below w.heap.size w w':=by
 have K0:=Lib.hid (Blk.new w 63 #[.string f,.string d])
 have N0:=Lib.hid ((NW.refl hr).alloc (.cells #[.string f,.string d] 63))
 have HH:=Lib.hid (fun W (hW:NW w W)=>lossHolds_any f d p q _ _ W (hp.below hW.below) (hq.below hW.below) sp sq h1 h2 hW.res)
 rw [hh] at HH
 change Hid (∀ W (_:NW w W),Calls _ _ _ _ fun e w'=>e=.returned (.tuple #[.bool b,.int .i64 0])∧_) at HH
 obtain ⟨A,ca,rfl,_,_⟩:=id hp
 obtain ⟨B,cb,rfl,_,_⟩:=id hq
 have TK0:True:=trivial
 clear hp hq sp sq h1 h2 hr hh
 obtain ⟨p0,p1⟩:=cells2 K0.out
 go_enter Tryz.func70,Tryz.ntmps70
 go_wp2_with (clear TK0;go_at_call 86;refine (HH.out _ N0.out).mono ?_;rintro e w1 ⟨rfl,hb⟩;have N1:=Lib.hid (N0.out.later hb);clear hb)
 go_ret
 exact ⟨rfl,N1.out.below⟩
end Go.Proofs.YtigapglmipmbeaaGreatDoor
namespace Go.Proofs.YtigapglmipmbeaaGreatDoor
open Lim
theorem atT_sz {k:Nat} (hk:0 < k) {key:ByteArray}:∀ {ls:List L2},(∀ x∈ls,Sz k (valX x))→Sz k (valQ (atT ls key).data.toList)
 | [],_=>by
  show Sz k (valQ zT.data.toList)
  rw [val_zT]
  exact Sz.zero.mono hk
 | x::l,h=>by
  unfold atT
  split
  ·exact h x (by simp)
  ·exact atT_sz hk fun y hy=>h y (by simp [hy])
theorem atT_has {D:Nat} {key:ByteArray}:∀ {ls:List L2},(∀ x∈ls,HasDen D (valX x))→HasDen D (valQ (atT ls key).data.toList)
 | [],_=>by
  show HasDen D (valQ zT.data.toList)
  rw [val_zT]
  exact HasDen.zero D
 | x::l,h=>by
  unfold atT
  split
  ·exact h x (by simp)
  ·exact atT_has fun y hy=>h y (by simp [hy])
theorem partX_val {f:ByteArray} {q:List L2} {m:L2} (hf:errQ f.data.toList=0) (hq:OkV q) (hm:errQ m.2.data.toList=0)
  (h1:fits (valQ f.data.toList*valQ (atT q m.1).data.toList)=true) (h2:fits (valX m - valQ f.data.toList*valQ (atT q m.1).data.toList)=true) :
  partX f q m=.ok (rT (pos (valX m - valQ f.data.toList*valQ (atT q m.1).data.toList)))∧fits (pos (valX m - valQ f.data.toList*valQ (atT q m.1).data.toList))=true:=by
 unfold partX
 rw [mulX_val hf (atT_ok hq),ovT_fit h1]
 dsimp only
 rw [subX_val hm (err_rT h1),val_rT h1,ovT_fit h2]
 dsimp only
 rw [maxX_val err_zT (err_rT h2),val_rT h2,val_zT]
 unfold pos
 by_cases h:0 < valX m - valQ f.data.toList*valQ (atT q m.1).data.toList
 ·have hc:cmpQ 0 (valX m - valQ f.data.toList*valQ (atT q m.1).data.toList) < 0:=by
   unfold cmpQ;rw [if_pos h];decide
  rw [if_pos h,if_pos hc]
  exact ⟨rfl,h2⟩
 ·have hc:¬ cmpQ 0 (valX m - valQ f.data.toList*valQ (atT q m.1).data.toList) < 0:=by
   unfold cmpQ;rw [if_neg h];split <;> decide
  rw [if_neg h,if_neg hc]
  exact ⟨by rw [← IsT.zero.text];rfl,fits_zero⟩
theorem deltaD_vals {p q:List L2} (hq:(q.map (·.1)).Nodup) (f:Rat):deltaD (valsD p) (valsD q) f=sumBy (fun m=>pos (valX m - f*valQ (atT q m.1).data.toList)) p:=by
 unfold deltaD
 show sumBy _ (p.map _)=_
 rw [sumBy_map]
 exact sumBy_congr fun m _=>by rw [atT_val hq]
theorem deltaX_fit {p q:List L2} {f:ByteArray} {a b j:Nat} (hp:Dst a p) (hq:Dst b q) (hf:errQ f.data.toList=0) (h0:0≤valQ f.data.toList) (sf:Sz j (valQ f.data.toList)) (hm:a+(j+b)+1≤maxD) (hb:0 < b) :
  deltaX p q f=.ok (rT (deltaD (valsD p) (valsD q) (valQ f.data.toList)))∧fits (deltaD (valsD p) (valsD q) (valQ f.data.toList))=true:=by
 obtain ⟨D,d1,d2,d3⟩:=hp.den
 obtain ⟨E,e1,e2,e3⟩:=hq.den
 have hD:0 < D*((valQ f.data.toList).den*E):=Nat.mul_pos d1 (Nat.mul_pos (valQ f.data.toList).den_pos e1)
 have hlt:D*((valQ f.data.toList).den*E) < 10 ^ maxD:=Nat.lt_of_lt_of_le (mul_lt_pow d2 (mul_lt_pow sf.2 e2)) (pow_le (by omega))
 have step:∀ m∈p,partX f q m=.ok (rT (pos (valX m - valQ f.data.toList*valQ (atT q m.1).data.toList)))∧fits (pos (valX m - valQ f.data.toList*valQ (atT q m.1).data.toList))=true ∧
   HasDen (D*((valQ f.data.toList).den*E)) (pos (valX m - valQ f.data.toList*valQ (atT q m.1).data.toList))∧0≤pos (valX m - valQ f.data.toList*valQ (atT q m.1).data.toList):=by
  intro m hm2
  have s1:=sf.mul (atT_sz hb (fun x hx=>hq.sz hx) (key:=m.1))
  obtain ⟨e4,e5⟩:=partX_val hf hq.okV (hp.okV m hm2) (fits_sz.2 (s1.mono (by omega))) (fits_sz.2 (((hp.sz hm2).sub s1).mono (by omega)))
  exact ⟨e4,e5,HasDen.pos (((d3 m hm2).mul_right _).sub (((HasDen.self _).mul (atT_has e3)).mul_left _)),pos_nonneg _⟩
 have ht:=delta_top hp.isD hq.isD h0
 have hn:=delta_nonneg (valsD p) (valsD q) (valQ f.data.toList)
 rw [deltaD_vals hq.once] at ht hn ⊢
 have r:=foldX_fit hD Nat.one_pos (by omega) err_zT (by rw [val_zT];exact HasDen.zero _) (by rw [val_zT];exact Rat.le_refl) step (by rw [val_zT,Rat.zero_add];exact ht)
 rw [val_zT,Rat.zero_add] at r
 refine ⟨?_,fits_sz.2 ((HasDen.sum fun m hm2=>(step m hm2).2.2.1).sz hD hn (M:=1) ht (by omega) Nat.one_pos)⟩
 unfold deltaX
 rw [chk2_ok hp.ok hq.ok,if_neg (by decide),if_neg (by simp only [ne_eq,Decidable.not_not];exact posE_zero.2 ⟨hf,h0⟩)]
 exact r
end Go.Proofs.YtigapglmipmbeaaGreatDoor
namespace Go.Proofs.YtigapglmipmbeaaGreatDoor
open Lim
theorem delta_sz {p q:List L2} {f:Rat} {a b j:Nat} (hp:Dst a p) (hq:Dst b q) (h0:0≤f) (sf:Sz j f):Sz (a+(j+b)) (deltaD (valsD p) (valsD q) f):=by
 obtain ⟨D,d1,d2,d3⟩:=hp.den
 obtain ⟨E,e1,e2,e3⟩:=hq.den
 have hD:0 < D*(f.den*E):=Nat.mul_pos d1 (Nat.mul_pos f.den_pos e1)
 have hlt:D*(f.den*E) < 10 ^ (a+(j+b)):=mul_lt_pow d2 (mul_lt_pow sf.2 e2)
 have ht:=delta_top hp.isD hq.isD h0
 have hn:=delta_nonneg (valsD p) (valsD q) f
 rw [deltaD_vals hq.once] at ht hn ⊢
 exact (HasDen.sum fun m hm=>HasDen.pos (((d3 m hm).mul_right _).sub (((HasDen.self f).mul (atT_has e3)).mul_left _))).sz hD hn (M:=1) ht (by omega) Nat.one_pos
section
variable {l m n:List L2} (hl:Dst 385 l) (hm:Dst 385 m) (hn:Dst 385 n)
include hl hm
include hn
end
end Go.Proofs.YtigapglmipmbeaaGreatDoor
namespace Go.Proofs.YtigapglmipmbeaaGreatDoor
open Lim
theorem holdsR_ok {a j:Nat} {p q:List L2} {F d:Rat} (hp:Dst a p) (hq:Dst a q) (h1:1≤F) (sF:Sz j F) (hj:j≤maxD) (d0:0≤d) (d1:d≤1) (fd:fits d=true) (hm:a+(j+a)+1≤maxD) (ha:0 < a)
  (k1:deltaD (valsD p) (valsD q) F≤d) (k2:deltaD (valsD q) (valsD p) F≤d):holdsR (rT F) (rT d) p q=.ok true:=by
 have fF:fits F=true:=fits_sz.2 (sF.mono hj)
 have hL:LossIs (rT F) (rT d) (F,d):=⟨isT_rT fF,isT_rT fd,h1,d0,d1⟩
 have hF0:0≤F:=Rat.le_trans (by decide) h1
 obtain ⟨x1,x2⟩:=deltaX_fit hp hq (f:=rT F) (err_rT fF) (by rw [val_rT fF];exact hF0) (by rw [val_rT fF];exact sF) hm ha
 obtain ⟨y1,y2⟩:=deltaX_fit hq hp (f:=rT F) (err_rT fF) (by rw [val_rT fF];exact hF0) (by rw [val_rT fF];exact sF) hm ha
 rw [val_rT fF] at x1 x2 y1 y2
 unfold holdsR
 rw [if_neg (fun h=>h hL.err),x1]
 dsimp only
 rw [y1]
 dsimp only
 rw [val_rT x2,val_rT y2,val_rT fd,decide_eq_true ((cmpQ_le _ _).2 k1),decide_eq_true ((cmpQ_le _ _).2 k2)]
 rfl
def sumP (F:Rat):Nat→Rat
 | 0=>0
 | k+1=>sumP F k+F ^ k
theorem powsum_sum {F:Rat}:∀ {k:Nat},(∀ j,j≤k→fits (F ^ j)=true∧fits (sumP F j)=true)→powsum F k=.ok (F ^ k,sumP F k)
 | 0,_=>by rw [Rat.pow_zero];rfl
 | k+1,h=>by
  have ih:=powsum_sum (F:=F) (k:=k) fun j hj=>h j (by omega)
  obtain ⟨h1,h2⟩:=h (k+1) (Nat.le_refl _)
  unfold powsum
  rw [ih]
  dsimp only
  rw [show sumP F k+F ^ k=sumP F (k+1) from rfl,← Rat.pow_succ]
  unfold ovr
  rw [h2,h1]
  rfl
theorem group_val {F d:Rat} {k:Nat} (h1:1≤F) (fF:fits F=true) (fd:fits d=true) (d0:0≤d) (d1:d≤1) (hk:k≤50) (h:∀ j,j≤k→fits (F ^ j)=true∧fits (sumP F j)=true) (hs:fits (d*sumP F k)=true) :
  groupR (rT F) (rT d) (k:Int)=.ok (F ^ k,minQ (d*sumP F k) 1):=by
 have hL:LossIs (rT F) (rT d) (F,d):=⟨isT_rT fF,isT_rT fd,h1,d0,d1⟩
 unfold groupR
 rw [if_neg (fun h=>h hL.err),if_neg (by omega)]
 unfold groupL valL
 dsimp only
 rw [val_rT fF,val_rT fd,Int.toNat_natCast,powsum_sum h]
 dsimp only
 unfold ovr
 rw [hs]
 rfl
theorem sumP_front (F:Rat):∀ k,sumP F (k+1)=1+F*sumP F k
 | 0=>by
  show (0:Rat)+F ^ 0=1+F*0
  rw [Rat.pow_zero,Rat.mul_zero,Rat.zero_add,Rat.add_zero]
 | k+1=>by
  have ih:=sumP_front F k
  show sumP F (k+1)+F ^ (k+1)=1+F*(sumP F k+F ^ k)
  rw [ih,Rat.pow_succ]
  grind
theorem chain_all {F d:Rat} (h0:0≤F) (D:Nat→DL) (hD:∀ i,IsD (D i)):∀ k,(∀ i,i < k+1→deltaD (D i) (D (i+1)) F≤d∧deltaD (D (i+1)) (D i) F≤d) →
  deltaD (D 0) (D (k+1)) (F ^ (k+1))≤d*sumP F (k+1)∧deltaD (D (k+1)) (D 0) (F ^ (k+1))≤d*sumP F (k+1)
 | 0,h=>by
  have e:sumP F (0+1)=1:=by show (0:Rat)+F ^ 0=1;rw [Rat.pow_zero,Rat.zero_add]
  have e2:F ^ (0+1)=F:=by rw [Rat.pow_succ,Rat.pow_zero,Rat.one_mul]
  rw [e,e2,Rat.mul_one]
  exact h 0 (by omega)
 | k+1,h=>by
  obtain ⟨i1,i2⟩:=chain_all h0 D hD k fun i hi=>h i (by omega)
  obtain ⟨j1,j2⟩:=h (k+1) (by omega)
  have hp:0≤F ^ (k+1):=Rat.pow_nonneg h0
  constructor
  ·have h1:=delta_chain (hD 0) (hD (k+1)) (hD (k+1+1)) hp h0
   have h2:=Rat.mul_le_mul_of_nonneg_left j1 hp
   rw [Rat.pow_succ F (k+1)]
   have e:d*sumP F (k+1+1)=d*sumP F (k+1)+F ^ (k+1)*d:=by
    show d*(sumP F (k+1)+F ^ (k+1))=_
    grind
   rw [e]
   exact Rat.le_trans h1 (Rat.le_trans (Rat.add_le_add_right.2 i1) (Rat.add_le_add_left.2 h2))
  ·have h1:=delta_chain (hD (k+1+1)) (hD (k+1)) (hD 0) h0 hp
   have h2:=Rat.mul_le_mul_of_nonneg_left i2 h0
   have e2:F ^ (k+1+1)=F*F ^ (k+1):=by rw [Rat.pow_succ,Rat.mul_comm]
   rw [e2]
   have e:d*sumP F (k+1+1)=d+F*(d*sumP F (k+1)):=by
    rw [sumP_front F (k+1)]
    grind
   rw [e]
   exact Rat.le_trans h1 (Rat.le_trans (Rat.add_le_add_right.2 j2) (Rat.add_le_add_left.2 h2))
section
variable (L:Nat→List L2) (F:Rat)
def nearQ (i:Nat):Rat:=maxQ (deltaD (valsD (L i)) (valsD (L (i+1))) F) (deltaD (valsD (L (i+1))) (valsD (L i)) F)
def farQ:Nat→Rat
 | 0=>nearQ L F 0
 | k+1=>maxQ (farQ k) (nearQ L F (k+1))
theorem sz_max {k:Nat} {a b:Rat} (ha:Sz k a) (hb:Sz k b):Sz k (maxQ a b):=by
 rw [maxQ_eq]
 split
 ·assumption
 ·assumption
theorem sz_min {k:Nat} {a b:Rat} (ha:Sz k a) (hb:Sz k b):Sz k (minQ a b):=by
 rw [minQ_eq]
 split
 ·assumption
 ·assumption
variable {L F}
theorem near_sz (hL:∀ i,Dst 289 (L i)) (h0:0≤F) (sF:Sz 12 F) (i:Nat):Sz 590 (nearQ L F i):=by
 have a:=delta_sz (hL i) (hL (i+1)) h0 sF
 have b:=delta_sz (hL (i+1)) (hL i) h0 sF
 exact sz_max (a.mono (by omega)) (b.mono (by omega))
theorem near_top (hL:∀ i,Dst 289 (L i)) (h0:0≤F) (i:Nat):0≤nearQ L F i∧nearQ L F i≤1 :=
 ⟨Rat.le_trans (delta_nonneg _ _ _) (le_maxQ _ _).1,maxQ_le.2 ⟨delta_top (hL i).isD (hL (i+1)).isD h0,delta_top (hL (i+1)).isD (hL i).isD h0⟩⟩
theorem far_sz (hL:∀ i,Dst 289 (L i)) (h0:0≤F) (sF:Sz 12 F):∀ k,Sz 590 (farQ L F k)
 | 0=>near_sz hL h0 sF 0
 | k+1=>sz_max (far_sz hL h0 sF k) (near_sz hL h0 sF (k+1))
theorem far_top (hL:∀ i,Dst 289 (L i)) (h0:0≤F):∀ k,0≤farQ L F k∧farQ L F k≤1
 | 0=>near_top hL h0 0
 | k+1=>⟨Rat.le_trans (far_top hL h0 k).1 (le_maxQ _ _).1,maxQ_le.2 ⟨(far_top hL h0 k).2,(near_top hL h0 (k+1)).2⟩⟩
theorem near_far:∀ {k i:Nat},i < k+1→nearQ L F i≤farQ L F k
 | 0,i,h=>by
  obtain rfl:i=0:=by omega
  exact Rat.le_refl
 | k+1,i,h=>by
  rcases Nat.lt_or_ge i (k+1) with h1 | h1
  ·exact Rat.le_trans (near_far h1) (le_maxQ _ _).1
  ·obtain rfl:i=k+1:=by omega
   exact (le_maxQ _ _).2
theorem sum_sz (sF:Sz 12 F):∀ {k:Nat},k≤3→Sz 100 (sumP F k)∧Sz 100 (F ^ k):=by
 have p:∀ k,Sz (12*k+1) (F ^ k):=fun k=>sF.pow k
 have s0:Sz 1 (sumP F 0):=Sz.zero
 have s1:Sz (1+(12*0+1)+1) (sumP F 1):=s0.add (p 0)
 have s2:Sz (1+(12*0+1)+1+(12*1+1)+1) (sumP F 2):=s1.add (p 1)
 have s3:Sz (1+(12*0+1)+1+(12*1+1)+1+(12*2+1)+1) (sumP F 3):=s2.add (p 2)
 intro k hk
 match k,hk with
 | 0,_=>exact ⟨s0.mono (by omega),(p 0).mono (by omega)⟩
 | 1,_=>exact ⟨s1.mono (by omega),(p 1).mono (by omega)⟩
 | 2,_=>exact ⟨s2.mono (by omega),(p 2).mono (by omega)⟩
 | 3,_=>exact ⟨s3.mono (by omega),(p 3).mono (by omega)⟩
theorem grp_round (hL:∀ i,Dst 289 (L i)) (h1:1≤F) (sF:Sz 12 F) {k:Nat} (hk:k < 3) :
  groupR (rT F) (rT (farQ L F k)) ((k+1:Nat):Int)=.ok (F ^ (k+1),minQ (farQ L F k*sumP F (k+1)) 1) ∧
  holdsR (rT (F ^ (k+1))) (rT (minQ (farQ L F k*sumP F (k+1)) 1)) (L 0) (L (k+1))=.ok true:=by
 have h0:0≤F:=Rat.le_trans (by decide) h1
 have s1:=far_sz hL h0 sF k
 obtain ⟨t1,t2⟩:=far_top hL h0 k
 have sS:=(sum_sz sF (k:=k+1) (by omega)).1
 have sP:=(sum_sz sF (k:=k+1) (by omega)).2
 have sM:=s1.mul sS
 have fitS:∀ {j:Nat} {q:Rat},Sz j q→j≤4000→fits q=true:=fun {j q} h hj=>fits_sz.2 (h.mono hj)
 have c:=chain_all h0 (fun i=>valsD (L i)) (fun i=>(hL i).isD) k fun i hi=>⟨Rat.le_trans (le_maxQ _ _).1 (near_far hi),Rat.le_trans (le_maxQ _ _).2 (near_far hi)⟩
 have hpow:∀ n:Nat,1≤F ^ n:=fun n=>by
  induction n with
  | zero=>rw [Rat.pow_zero];exact Rat.le_refl
  | succ n ih =>
   rw [Rat.pow_succ]
   have:=Rat.mul_le_mul_of_nonneg_left h1 (Rat.le_trans (by decide) ih)
   rw [Rat.mul_one] at this
   exact Rat.le_trans ih this
 have hp0:0≤F ^ (k+1):=Rat.le_trans (by decide) (hpow (k+1))
 have hmin:Sz 690 (minQ (farQ L F k*sumP F (k+1)) 1):=sz_min sM (Sz.one.mono (by omega))
 have hlo:0≤minQ (farQ L F k*sumP F (k+1)) 1:=le_minQ (Rat.le_trans (delta_nonneg _ _ _) c.1) (by decide)
 refine ⟨group_val h1 (fitS sF (by omega)) (fitS s1 (by omega)) t1 t2 (by omega) (fun j hj=>?_) (fitS sM (by omega)),?_⟩
 ·have:=sum_sz sF (k:=j) (by omega)
  exact ⟨fitS this.2 (by omega),fitS this.1 (by omega)⟩
 ·exact holdsR_ok (j:=100) (hL 0) (hL (k+1)) (hpow _) sP (by unfold maxD;omega) hlo (minQ_le _ _).2 (fitS hmin (by omega)) (by unfold maxD;omega) (by omega)
   (le_minQ c.1 (delta_top (hL 0).isD (hL (k+1)).isD hp0)) (le_minQ c.2 (delta_top (hL (k+1)).isD (hL 0).isD hp0))
end
end Go.Proofs.YtigapglmipmbeaaGreatDoor
namespace Go.Proofs.YtigapglmipmbeaaGreatDoor
open Go.RowKit Go.Shelf
open Lim
structure Made9 (l:List L2):Prop where
 len:l.length≤12
 key:∀ x∈l,x.1.size≤12
 txt:∀ x∈l,x.2.size≤24
 dst:Dst 289 l
theorem Made9.short {l:List L2} (h:Made9 l):Short l:=fun x hx=>⟨Nat.le_trans (h.key x hx) (by omega),Nat.le_trans (h.txt x hx) (by omega)⟩
theorem Made9.of {lss outs:List (List L2)} (h:madeD 12 12 24 lss=some outs):outs.length=lss.length∧∀ d∈outs,Made9 d:=by
 obtain ⟨h1,h2⟩:=madeD_spec h
 refine ⟨h1,fun d hd=>?_⟩
 obtain ⟨h3,h4⟩:=h2 d hd
 obtain ⟨l1,l2⟩:=lightD_iff.1 h3
 exact ⟨l1,fun x hx=>(l2 x hx).1,fun x hx=>(l2 x hx).2,h4⟩
theorem factor_text {f:ByteArray} (h:factorB f=true):∃ F:Rat,f=rT F∧1≤F∧Sz 12 F∧fits F=true:=by
 obtain ⟨h1,h2,h3⟩:=factorB_ok h
 have hs:=sz_of_text h2 (k:=12) (by rw [← size_list];exact h1)
 exact ⟨_,(IsT.of h2).1,h3,hs,fits_sz.2 (hs.mono (by unfold maxD;omega))⟩
theorem above_same {F d m:Rat} (h1:1≤F) (fF:fits F=true) (fd:fits d=true) (fm:fits m=true) (d0:0≤d) (d1:d≤1) (m0:0≤m) (m1:m≤1) :
  foldR (fun a b=>.ok (aboveL a b)) [(rT F,rT d),(rT F,rT m)]=.ok (F,maxQ d m):=by
 have hd:LossIs (rT F) (rT d) (F,d):=⟨isT_rT fF,isT_rT fd,h1,d0,d1⟩
 have hm:LossIs (rT F) (rT m) (F,m):=⟨isT_rT fF,isT_rT fm,h1,m0,m1⟩
 have hz:firstL [(rT F,rT d),(rT F,rT m)]=0:=by
  rw [firstL_zero]
  intro x hx
  simp only [List.mem_cons,List.not_mem_nil,or_false] at hx
  rcases hx with rfl | rfl
  ·exact hd.err
  ·exact hm.err
 unfold foldR
 rw [if_neg (by omega)]
 simp only [List.map_cons,List.map_nil,valL,val_rT fF,val_rT fd,val_rT fm,foldE]
 have e1:maxQ 1 F=F:=by rw [maxQ_eq];split <;> grind
 have e2:maxQ 0 d=d:=by rw [maxQ_eq];split <;> grind
 have e3:maxQ F F=F:=by rw [maxQ_eq];split <;> rfl
 simp only [aboveL,noneL,e1,e2,e3]
theorem near_fit {L:Nat→List L2} {F:Rat} (hL:∀ i,Dst 289 (L i)) (h0:0≤F) (sF:Sz 12 F) (k:Nat):fits (nearQ L F k)=true:=fits_sz.2 ((near_sz hL h0 sF k).mono (by unfold maxD;omega))
theorem far_fit {L:Nat→List L2} {F:Rat} (hL:∀ i,Dst 289 (L i)) (h0:0≤F) (sF:Sz 12 F) (k:Nat):fits (farQ L F k)=true:=fits_sz.2 ((far_sz hL h0 sF k).mono (by unfold maxD;omega))
theorem list_at {L:Nat→List L2} {k:Nat} (hk:k < 3):[L 0,L 1,L 2,L 3][k+1]?=some (L (k+1)):=by
 match k,hk with
 | 0,_=>rfl
 | 1,_=>rfl
 | 2,_=>rfl
theorem grp_size {L:Nat→List L2} {F:Rat} (hL:∀ i,Dst 289 (L i)) (h1:1≤F) (sF:Sz 12 F) {k:Nat} (hk:k < 3):(rT (F ^ (k+1))).size≤270000∧(rT (minQ (farQ L F k*sumP F (k+1)) 1)).size≤270000:=by
 have h0:0≤F:=Rat.le_trans (by decide) h1
 have sP:=(sum_sz sF (k:=k+1) (by omega))
 have sM:=(far_sz hL h0 sF k).mul sP.1
 exact ⟨size_ok (err_rT (fits_sz.2 (sP.2.mono (by unfold maxD;omega)))),size_ok (err_rT (fits_sz.2 ((sz_min sM (Sz.one.mono (by omega))).mono (by unfold maxD;omega))))⟩
theorem least9_pair {L:Nat→List L2} {F:Rat} (hL:∀ i,Dst 289 (L i)) (h0:0≤F) (_h1:1≤F) (sF:Sz 12 F) (i:Nat) (u v:Value) (w:World) (hu:LRow w u (L i)) (hv:LRow w v (L (i+1))) (su:Short (L i)) (sv:Short (L (i+1))) (hr:Res w) :
  Calls Tryz.prog 68 #[u,v,.string (rT F)] w fun e w'=>e=.returned (.agg #[.string (rT F),.string (rT (nearQ L F i))])∧Below w.heap.size w w':=by
 have fF:fits F=true:=fits_sz.2 (sF.mono (by unfold maxD;omega))
 obtain ⟨x1,x2⟩:=deltaX_fit (hL i) (hL (i+1)) (f:=rT F) (err_rT fF) (by rw [val_rT fF];exact h0) (by rw [val_rT fF];exact sF) (by unfold maxD;omega) (by omega)
 obtain ⟨y1,y2⟩:=deltaX_fit (hL (i+1)) (hL i) (f:=rT F) (err_rT fF) (by rw [val_rT fF];exact h0) (by rw [val_rT fF];exact sF) (by unfold maxD;omega) (by omega)
 rw [val_rT fF] at x1 x2 y1 y2
 exact least9_any _ _ u v _ _ _ w hu hv su sv (size_ok (err_rT fF)) hr x1 y1 (isT_rT x2) (isT_rT y2)
end Go.Proofs.YtigapglmipmbeaaGreatDoor
namespace Go.Proofs.YtigapglmipmbeaaGreatDoor
open Lim
section
variable {l m:List L2} (hl:Dst 385 l) (hm:Dst 385 m)
include hl hm
end
end Go.Proofs.YtigapglmipmbeaaGreatDoor
namespace Go.Proofs.YtigapglmipmbeaaGreatDoor
open Go.RowKit Go.Shelf
open Lim
attribute [local go_sem] Oper.semAt_some
theorem LRow.src {w:World} {b o n c:Nat} {ls:List L2} (h:LRow w (.slice (some ⟨b,o,none⟩) n c) ls) (h0:0 < ls.length):∀ j u,(cellsM ls)[j]?=some u→w.cell? ((⟨b,o,none⟩:Addr).add j)=some u:=by
 obtain ⟨A,c',e,_,hc⟩:=h
 simp only [Value.slice.injEq] at e
 obtain ⟨b',o',e2,_,hcell⟩:=hc h0
 rw [← e.1] at e2
 simp only [Option.some.injEq,Addr.mk.injEq] at e2
 obtain ⟨rfl,rfl,_⟩:=e2
 intro j u hu
 have hj:j < ls.length*2:=by rw [← cellsM_length];exact (List.getElem?_eq_some_iff.1 hu).1
 obtain ⟨x,hx⟩:∃ x,ls[j / 2]?=some x:=⟨_,List.getElem?_eq_getElem (by omega)⟩
 obtain ⟨c0,c1⟩:=hcell _ _ hx
 obtain ⟨m0,m1⟩:=cellsM_at hx
 rw [addr_add0]
 rcases Nat.mod_two_eq_zero_or_one j with h | h
 ·rw [show j / 2*2=j by omega] at c0 m0
  rw [m0] at hu;cases hu;exact c0
 ·rw [show o+j / 2*2+1=o+j by omega] at c1
  rw [show j / 2*2+1=j by omega] at m1
  rw [m1] at hu;cases hu;exact c1
theorem OwnM.ofPos {base:Nat} {w:World} {v:Value} {ls:List L2} (h:OwnM base w v ls) (h0:0 < ls.length):∃ g c,v=.slice (some ⟨g,0,none⟩) ls.length c∧base≤g:=by
 rcases h.2 with ⟨_,e⟩ | ⟨g,cap,cur,e,hb,_⟩
 ·omega
 ·exact ⟨g,cap,e,hb⟩
theorem OwnM.len {base g n c:Nat} {w:World} {ls:List L2} (h:OwnM base w (.slice (some ⟨g,0,none⟩) n c) ls):n=ls.length:=by
 rcases h.2 with ⟨h',_⟩ | ⟨g',cap',cur,h',_⟩
 ·simp at h'
 ·simp only [Value.slice.injEq] at h';exact h'.2.1
theorem cellsM_set1:∀ {l:List L2} {k:Nat} {y:L2} (s:ByteArray),l[k]?=some y→cellsM (l.set k (s,y.2))=(cellsM l).set (k*2) (.string s)
 | [],k,y,s,h=>by simp at h
 | x::l,0,y,s,h=>by
  simp only [List.getElem?_cons_zero,Option.some.injEq] at h
  subst h
  rfl
 | x::l,k+1,y,s,h=>by
  rw [List.set_cons_succ,cellsM_cons,cellsM_cons,cellsM_set1 s (by simpa using h),show (k+1)*2=k*2+1+1 by omega,List.set_cons_succ,List.set_cons_succ]
end Go.Proofs.YtigapglmipmbeaaGreatDoor
namespace Go.Proofs.YtigapglmipmbeaaGreatDoor
open Go.RowKit Go.Shelf
open Lim
attribute [local go_sem] Oper.semAt_some
end Go.Proofs.YtigapglmipmbeaaGreatDoor
namespace Go.Proofs.YtigapglmipmbeaaGreatDoor
open Go.RowKit Go.Shelf
open Lim
attribute [local go_sem] Oper.semAt_some
end Go.Proofs.YtigapglmipmbeaaGreatDoor
namespace Go.Proofs.YtigapglmipmbeaaGreatDoor
open Go.RowKit Go.Shelf
end Go.Proofs.YtigapglmipmbeaaGreatDoor
namespace Go.Proofs.YtigapglmipmbeaaGreatDoor
open Go.RowKit Go.Shelf
open Lim
attribute [local go_sem] Oper.semAt_some
def LaterW.lift {w0:World} (z:LaterW w0) (z':LaterW z.W):LaterW w0:=⟨z'.W,z.h.trans (z'.h.mono z.h.size)⟩
end Go.Proofs.YtigapglmipmbeaaGreatDoor
namespace Go.Proofs.YtigapglmipmbeaaGreatDoor
open Go.RowKit Go.Shelf
open Lim
theorem wpIn_region_wide {F:Fence} {n:Nat} {P:Program} {id:Nat} {Q:Exit→Act→World→Prop} {a:Act} {w0:World} {l:List Oper} (x:LaterW w0) (hro:F.round=none) (hm:P.follows .mixedOrders=true) (hB:Region.lexB .any l.toArray=true)
  (h:wpQuietIn F n P l.toArray (fun W=>∃ x:LaterW w0,W=x.W) (fun a'=>∀ W,(∃ x:LaterW w0,W=x.W)→Q .normal a' W) l a):(Code.region id l.toArray true).wpIn F n P Q a x.W :=
 wpIn_region_quiet (C:=fun W=>∃ x:LaterW w0,W=x.W) hro hm hB ⟨⟨{ x.W with drawn:=x.W.drawn+1 },x.h.trans ⟨rfl,rfl,rfl,Nat.le_refl _,fun _ _=>rfl⟩⟩,rfl⟩ (by simpa using h)
end Go.Proofs.YtigapglmipmbeaaGreatDoor
namespace Go.Proofs.YtigapglmipmbeaaGreatDoor
open Go.RowKit Go.Shelf
open Lim
structure At1 (w:World) (t1:TypeId) (c1:Array Value) (W:World):Prop where
 a:Blk W w.heap.size t1 c1
 res:Res W
 below:Below w.heap.size w W
theorem At1.later {w W W':World} {t1:TypeId} {c1:Array Value} (h:At1 w t1 c1 W) (hb:Below W.heap.size W W'):At1 w t1 c1 W' :=
 ⟨h.a.below hb h.a.lt,h.res.below hb,h.below.trans (hb.mono h.below.size)⟩
theorem At1.new (w:World) (t1:TypeId) (c1:Array Value) (hr:Res w):At1 w t1 c1 (w.alloc (.cells c1 t1)) :=
 ⟨Blk.new w t1 c1,hr.below (below_alloc (Below.refl _ _) _),below_alloc (Below.refl _ _) _⟩
theorem rat_any {a b:ByteArray} {p q:Rat} (w:World) (ha:IsT a p) (hb:IsT b q) :
  Calls Tryz.prog 146 #[.string a,.string b] w fun e w'=>e=.returned (.bool (decide (cmpQ p q≤0)))∧Below w.heap.size w w':=by
 have HC:=Lib.hid (rcmpT w ha hb)
 generalize cmpQ p q=x at *
 clear ha hb
 go_enter Tryz.func146,Tryz.ntmps146
 go_wp2_with (go_at_call 119;refine HC.out.mono ?_;rintro e w1 ⟨rfl,hb⟩;have HB:=Lib.hid hb;clear hb)
 go_ret
 exact ⟨rfl,HB.out⟩
theorem rcheck_f (f d:ByteArray) (w:World) (h1:f.size≤270000) (_h2:d.size≤270000) (hr:Res w) (he:errQ f.data.toList≠0) :
  Calls Tryz.prog 145 #[.agg #[.string f,.string d]] w fun e w'=>e=.returned (.int .i64 (errQ f.data.toList:Int))∧Below w.heap.size w w':=by
 have H:=Lib.hid (At1.new w 63 #[.string f,.string d] hr)
 have HF:=Lib.hid (fun w=>refCheck_any f w h1)
 obtain ⟨z,hz⟩:∃ z:Int,(errQ f.data.toList:Int)=z:=⟨_,rfl⟩
 rw [hz] at HF ⊢
 have hne:(z == 0)=false:=by rw [beq_eq_false_iff_ne];omega
 clear h1 hr he hz
 go_enter Tryz.func145,Tryz.ntmps145
 go_wp2_with (go_at_call 219;refine (HF.out _).mono ?_;rintro e w1 ⟨rfl,hb⟩;have H1:=Lib.hid (H.out.later hb);obtain ⟨p0,p1⟩:=cells2 H1.out.a;clear hb)
 go_ret
 exact ⟨rfl,H1.out.below⟩
theorem rcheck_d (f d:ByteArray) (w:World) (h1:f.size≤270000) (h2:d.size≤270000) (hr:Res w) (he1:errQ f.data.toList=0) (he:errQ d.data.toList≠0) :
  Calls Tryz.prog 145 #[.agg #[.string f,.string d]] w fun e w'=>e=.returned (.int .i64 (errQ d.data.toList:Int))∧Below w.heap.size w w':=by
 have H:=Lib.hid (At1.new w 63 #[.string f,.string d] hr)
 have HF:=Lib.hid (fun w=>refCheck_any f w h1)
 have HD:=Lib.hid (fun w=>refCheck_any d w h2)
 rw [he1] at HF
 obtain ⟨z,hz⟩:∃ z:Int,(errQ d.data.toList:Int)=z:=⟨_,rfl⟩
 rw [hz] at HD ⊢
 have hne:(z == 0)=false:=by rw [beq_eq_false_iff_ne];omega
 have TK1:True:=trivial
 clear h1 h2 hr he he1 hz
 go_enter Tryz.func145,Tryz.ntmps145
 go_wp2_with (first
  | (clear TK1;go_at_call 219;refine (HF.out _).mono ?_;rintro e w1 ⟨rfl,hb⟩;have H1:=Lib.hid (H.out.later hb);obtain ⟨p0,p1⟩:=cells2 H1.out.a;clear hb)
  | (go_at_call 219;refine (HD.out _).mono ?_;rintro e w2 ⟨rfl,hb⟩;have H2:=Lib.hid (H1.out.later hb);obtain ⟨q0,q1⟩:=cells2 H2.out.a;clear hb))
 go_ret
 exact ⟨rfl,H2.out.below⟩
theorem rcheck_1 (f d:ByteArray) (w:World) (h1:f.size≤270000) (h2:d.size≤270000) (hr:Res w) (F D:Rat) (hf:IsT f F) (hd:IsT d D) (b1:decide (cmpQ 1 F≤0)=false) :
  Calls Tryz.prog 145 #[.agg #[.string f,.string d]] w fun e w'=>e=.returned (.int .i64 2)∧Below w.heap.size w w':=by
 have H:=Lib.hid (At1.new w 63 #[.string f,.string d] hr)
 have HF:=Lib.hid (fun w=>refCheck_any f w h1)
 have HD:=Lib.hid (fun w=>refCheck_any d w h2)
 rw [hf.err] at HF
 rw [hd.err] at HD
 have HA1:=Lib.hid (fun w=>rat_any w IsT.one hf)
 rw [b1] at HA1
 have TK1:True:=trivial
 have TK2:True:=trivial
 have TK3:True:=trivial
 clear h1 h2 hr hf hd b1
 go_enter Tryz.func145,Tryz.ntmps145
 go_wp2_with (first
  | (clear TK1;go_at_call 219;refine (HF.out _).mono ?_;rintro e w1 ⟨rfl,hb⟩;have H1:=Lib.hid (H.out.later hb);obtain ⟨p0,p1⟩:=cells2 H1.out.a;clear hb)
  | (go_at_call 219;refine (HD.out _).mono ?_;rintro e w2 ⟨rfl,hb⟩;have H2:=Lib.hid (H1.out.later hb);obtain ⟨q0,q1⟩:=cells2 H2.out.a;clear hb)
  | (clear TK2;go_at_call 146;refine (HA1.out _).mono ?_;rintro e w3 ⟨rfl,hb⟩;have H3:=Lib.hid (H2.out.later hb);obtain ⟨r0,r1⟩:=cells2 H3.out.a;clear hb))
 go_ret
 exact ⟨rfl,H3.out.below⟩
theorem rcheck_2 (f d:ByteArray) (w:World) (h1:f.size≤270000) (h2:d.size≤270000) (hr:Res w) (F D:Rat) (hf:IsT f F) (hd:IsT d D) (b1:decide (cmpQ 1 F≤0)=true) (b2:decide (cmpQ 0 D≤0)=false) :
  Calls Tryz.prog 145 #[.agg #[.string f,.string d]] w fun e w'=>e=.returned (.int .i64 2)∧Below w.heap.size w w':=by
 have H:=Lib.hid (At1.new w 63 #[.string f,.string d] hr)
 have HF:=Lib.hid (fun w=>refCheck_any f w h1)
 have HD:=Lib.hid (fun w=>refCheck_any d w h2)
 rw [hf.err] at HF
 rw [hd.err] at HD
 have HA1:=Lib.hid (fun w=>rat_any w IsT.one hf)
 rw [b1] at HA1
 have HA2:=Lib.hid (fun w=>rat_any w IsT.zero hd)
 rw [b2] at HA2
 have TK1:True:=trivial
 have TK2:True:=trivial
 have TK3:True:=trivial
 clear h1 h2 hr hf hd b1 b2
 go_enter Tryz.func145,Tryz.ntmps145
 go_wp2_with (first
  | (clear TK1;go_at_call 219;refine (HF.out _).mono ?_;rintro e w1 ⟨rfl,hb⟩;have H1:=Lib.hid (H.out.later hb);obtain ⟨p0,p1⟩:=cells2 H1.out.a;clear hb)
  | (go_at_call 219;refine (HD.out _).mono ?_;rintro e w2 ⟨rfl,hb⟩;have H2:=Lib.hid (H1.out.later hb);obtain ⟨q0,q1⟩:=cells2 H2.out.a;clear hb)
  | (clear TK2;go_at_call 146;refine (HA1.out _).mono ?_;rintro e w3 ⟨rfl,hb⟩;have H3:=Lib.hid (H2.out.later hb);obtain ⟨r0,r1⟩:=cells2 H3.out.a;clear hb)
  | (clear TK3;go_at_call 146;refine (HA2.out _).mono ?_;rintro e w4 ⟨rfl,hb⟩;have H4:=Lib.hid (H3.out.later hb);obtain ⟨s0,s1⟩:=cells2 H4.out.a;clear hb))
 go_ret
 exact ⟨rfl,H4.out.below⟩
theorem rcheck_3 (f d:ByteArray) (w:World) (h1:f.size≤270000) (h2:d.size≤270000) (hr:Res w) (F D:Rat) (hf:IsT f F) (hd:IsT d D) (b1:decide (cmpQ 1 F≤0)=true) (b2:decide (cmpQ 0 D≤0)=true) (b3:decide (cmpQ D 1≤0)=false) :
  Calls Tryz.prog 145 #[.agg #[.string f,.string d]] w fun e w'=>e=.returned (.int .i64 2)∧Below w.heap.size w w':=by
 have H:=Lib.hid (At1.new w 63 #[.string f,.string d] hr)
 have HF:=Lib.hid (fun w=>refCheck_any f w h1)
 have HD:=Lib.hid (fun w=>refCheck_any d w h2)
 rw [hf.err] at HF
 rw [hd.err] at HD
 have HA1:=Lib.hid (fun w=>rat_any w IsT.one hf)
 rw [b1] at HA1
 have HA2:=Lib.hid (fun w=>rat_any w IsT.zero hd)
 rw [b2] at HA2
 have HA3:=Lib.hid (fun w=>rat_any w hd IsT.one)
 rw [b3] at HA3
 have TK1:True:=trivial
 have TK2:True:=trivial
 have TK3:True:=trivial
 clear h1 h2 hr hf hd b1 b2 b3
 go_enter Tryz.func145,Tryz.ntmps145
 go_wp2_with (first
  | (clear TK1;go_at_call 219;refine (HF.out _).mono ?_;rintro e w1 ⟨rfl,hb⟩;have H1:=Lib.hid (H.out.later hb);obtain ⟨p0,p1⟩:=cells2 H1.out.a;clear hb)
  | (go_at_call 219;refine (HD.out _).mono ?_;rintro e w2 ⟨rfl,hb⟩;have H2:=Lib.hid (H1.out.later hb);obtain ⟨q0,q1⟩:=cells2 H2.out.a;clear hb)
  | (clear TK2;go_at_call 146;refine (HA1.out _).mono ?_;rintro e w3 ⟨rfl,hb⟩;have H3:=Lib.hid (H2.out.later hb);obtain ⟨r0,r1⟩:=cells2 H3.out.a;clear hb)
  | (clear TK3;go_at_call 146;refine (HA2.out _).mono ?_;rintro e w4 ⟨rfl,hb⟩;have H4:=Lib.hid (H3.out.later hb);obtain ⟨s0,s1⟩:=cells2 H4.out.a;clear hb)
  | (go_at_call 146;refine (HA3.out _).mono ?_;rintro e w5 ⟨rfl,hb⟩;have H5:=Lib.hid (H4.out.later hb);clear hb))
 go_ret
 exact ⟨rfl,H5.out.below⟩
theorem rcheck_ok (f d:ByteArray) (w:World) (h1:f.size≤270000) (h2:d.size≤270000) (hr:Res w) (F D:Rat) (hf:IsT f F) (hd:IsT d D) (b1:decide (cmpQ 1 F≤0)=true) (b2:decide (cmpQ 0 D≤0)=true) (b3:decide (cmpQ D 1≤0)=true) :
  Calls Tryz.prog 145 #[.agg #[.string f,.string d]] w fun e w'=>e=.returned (.int .i64 0)∧Below w.heap.size w w':=by
 have H:=Lib.hid (At1.new w 63 #[.string f,.string d] hr)
 have HF:=Lib.hid (fun w=>refCheck_any f w h1)
 have HD:=Lib.hid (fun w=>refCheck_any d w h2)
 rw [hf.err] at HF
 rw [hd.err] at HD
 have HA1:=Lib.hid (fun w=>rat_any w IsT.one hf)
 rw [b1] at HA1
 have HA2:=Lib.hid (fun w=>rat_any w IsT.zero hd)
 rw [b2] at HA2
 have HA3:=Lib.hid (fun w=>rat_any w hd IsT.one)
 rw [b3] at HA3
 have TK1:True:=trivial
 have TK2:True:=trivial
 have TK3:True:=trivial
 clear h1 h2 hr hf hd b1 b2 b3
 go_enter Tryz.func145,Tryz.ntmps145
 go_wp2_with (first
  | (clear TK1;go_at_call 219;refine (HF.out _).mono ?_;rintro e w1 ⟨rfl,hb⟩;have H1:=Lib.hid (H.out.later hb);obtain ⟨p0,p1⟩:=cells2 H1.out.a;clear hb)
  | (go_at_call 219;refine (HD.out _).mono ?_;rintro e w2 ⟨rfl,hb⟩;have H2:=Lib.hid (H1.out.later hb);obtain ⟨q0,q1⟩:=cells2 H2.out.a;clear hb)
  | (clear TK2;go_at_call 146;refine (HA1.out _).mono ?_;rintro e w3 ⟨rfl,hb⟩;have H3:=Lib.hid (H2.out.later hb);obtain ⟨r0,r1⟩:=cells2 H3.out.a;clear hb)
  | (clear TK3;go_at_call 146;refine (HA2.out _).mono ?_;rintro e w4 ⟨rfl,hb⟩;have H4:=Lib.hid (H3.out.later hb);obtain ⟨s0,s1⟩:=cells2 H4.out.a;clear hb)
  | (go_at_call 146;refine (HA3.out _).mono ?_;rintro e w5 ⟨rfl,hb⟩;have H5:=Lib.hid (H4.out.later hb);clear hb))
 go_ret
 exact ⟨rfl,H5.out.below⟩
theorem le_swap (p q:Rat):decide (cmpQ p q≤0)=!decide (cmpQ q p < 0):=by
 have:=cmpQ_swap p q
 by_cases h:cmpQ q p < 0
 ·rw [decide_eq_true h,decide_eq_false (by omega)];rfl
 ·rw [decide_eq_false h,decide_eq_true (by omega)];rfl
theorem le_gt (p q:Rat):decide (cmpQ p q≤0)=!decide (cmpQ p q > 0):=by
 by_cases h:cmpQ p q > 0
 ·rw [decide_eq_true h,decide_eq_false (by omega)];rfl
 ·rw [decide_eq_false h,decide_eq_true (by omega)];rfl
theorem refLoss_any (f d:ByteArray) (w:World) (h1:f.size≤270000) (h2:d.size≤270000) (hr:Res w) :
  Calls Tryz.prog 145 #[.agg #[.string f,.string d]] w fun e w'=>e=.returned (.int .i64 (errL f d:Int))∧Below w.heap.size w w':=by
 unfold errL
 by_cases e1:errQ f.data.toList=0
 ·rw [if_neg (by omega)]
  by_cases e2:errQ d.data.toList=0
  ·rw [if_neg (by omega)]
   have hf:=IsT.of e1
   have hd:=IsT.of e2
   by_cases c1:cmpQ (valQ f.data.toList) 1 < 0
   ·rw [if_pos (.inl c1)]
    exact rcheck_1 f d w h1 h2 hr _ _ hf hd (by rw [le_swap,decide_eq_true c1];rfl)
   by_cases c2:cmpQ (valQ d.data.toList) 0 < 0
   ·rw [if_pos (.inr (.inl c2))]
    exact rcheck_2 f d w h1 h2 hr _ _ hf hd (by rw [le_swap,decide_eq_false c1];rfl) (by rw [le_swap,decide_eq_true c2];rfl)
   by_cases c3:cmpQ (valQ d.data.toList) 1 > 0
   ·rw [if_pos (.inr (.inr c3))]
    exact rcheck_3 f d w h1 h2 hr _ _ hf hd (by rw [le_swap,decide_eq_false c1];rfl) (by rw [le_swap,decide_eq_false c2];rfl) (by rw [le_gt,decide_eq_true c3];rfl)
   rw [if_neg (by omega)]
   exact rcheck_ok f d w h1 h2 hr _ _ hf hd (by rw [le_swap,decide_eq_false c1];rfl) (by rw [le_swap,decide_eq_false c2];rfl) (by rw [le_gt,decide_eq_false c3];rfl)
  ·rw [if_pos e2];exact rcheck_d f d w h1 h2 hr e1 e2
 ·rw [if_pos e1];exact rcheck_f f d w h1 h2 hr e1
end Go.Proofs.YtigapglmipmbeaaGreatDoor
namespace Go.Proofs.YtigapglmipmbeaaGreatDoor
open Go.RowKit Go.Shelf
open Lim
theorem firstL_two (x y:L2):firstL [x,y]=if errL x.1 x.2≠0 then errL x.1 x.2 else errL y.1 y.2:=by
 unfold firstL
 congr 1
 obtain ⟨f,d⟩:=y
 exact firstL_one f d
theorem rboth_1 (f d f' d':ByteArray) (w:World) (h1:f.size≤270000) (h2:d.size≤270000) (_h3:f'.size≤270000) (_h4:d'.size≤270000) (hr:Res w) (he:errL f d≠0) :
  Calls Tryz.prog 167 #[.agg #[.string f,.string d],.agg #[.string f',.string d']] w fun e w'=>e=.returned (.int .i64 (errL f d:Int))∧Below w.heap.size w w':=by
 have H:=Lib.hid (At2.new w 63 63 #[.string f,.string d] #[.string f',.string d'] hr)
 have HF:=Lib.hid (fun w hr=>refLoss_any f d w h1 h2 hr)
 obtain ⟨z,hz⟩:∃ z:Int,(errL f d:Int)=z:=⟨_,rfl⟩
 rw [hz] at HF ⊢
 have hne:(z == 0)=false:=by rw [beq_eq_false_iff_ne];omega
 clear h1 h2 hr he hz
 go_enter Tryz.func167,Tryz.ntmps167
 go_wp2_with (go_at_call 145;refine (HF.out _ H.out.res).mono ?_;rintro e w1 ⟨rfl,hb⟩;have H1:=Lib.hid (H.out.later hb);obtain ⟨p0,p1⟩:=cells2 H1.out.b;clear hb)
 go_ret
 exact ⟨rfl,H1.out.below⟩
theorem rboth_2 (f d f' d':ByteArray) (w:World) (h1:f.size≤270000) (h2:d.size≤270000) (h3:f'.size≤270000) (h4:d'.size≤270000) (hr:Res w) (he:errL f d=0) :
  Calls Tryz.prog 167 #[.agg #[.string f,.string d],.agg #[.string f',.string d']] w fun e w'=>e=.returned (.int .i64 (errL f' d':Int))∧Below w.heap.size w w':=by
 have H:=Lib.hid (At2.new w 63 63 #[.string f,.string d] #[.string f',.string d'] hr)
 have HF:=Lib.hid (fun w hr=>refLoss_any f d w h1 h2 hr)
 have HG:=Lib.hid (fun w hr=>refLoss_any f' d' w h3 h4 hr)
 rw [he] at HF
 obtain ⟨z,hz⟩:∃ z:Int,(errL f' d':Int)=z:=⟨_,rfl⟩
 rw [hz] at HG ⊢
 have TK1:True:=trivial
 clear h1 h2 h3 h4 hr he hz
 go_enter Tryz.func167,Tryz.ntmps167
 go_wp2_with (first
  | (clear TK1;go_at_call 145;refine (HF.out _ H.out.res).mono ?_;rintro e w1 ⟨rfl,hb⟩;have H1:=Lib.hid (H.out.later hb);obtain ⟨p0,p1⟩:=cells2 H1.out.b;clear hb)
  | (go_at_call 145;refine (HG.out _ H1.out.res).mono ?_;rintro e w2 ⟨rfl,hb⟩;have H2:=Lib.hid (H1.out.later hb);clear hb))
 go_ret
 exact ⟨rfl,H2.out.below⟩
theorem rboth_any (f d f' d':ByteArray) (w:World) (h1:f.size≤270000) (h2:d.size≤270000) (h3:f'.size≤270000) (h4:d'.size≤270000) (hr:Res w) :
  Calls Tryz.prog 167 #[.agg #[.string f,.string d],.agg #[.string f',.string d']] w fun e w'=>e=.returned (.int .i64 (firstL [(f,d),(f',d')]:Int))∧Below w.heap.size w w':=by
 rw [firstL_two]
 dsimp only
 by_cases he:errL f d=0
 ·rw [if_neg (by omega)];exact rboth_2 f d f' d' w h1 h2 h3 h4 hr he
 ·rw [if_pos he];exact rboth_1 f d f' d' w h1 h2 h3 h4 hr he
theorem rlimited_any {f d:ByteArray} {D:Rat} (w:World) (hd:IsT d D) (hr:Res w) :
  Calls Tryz.prog 237 #[.string f,.string d] w fun e w'=>e=.returned (.agg #[.string f,.string (rT (minQ D 1))])∧Below w.heap.size w w':=by
 have H:=Lib.hid (At1.new w 63 #[.string ⟨#[]⟩,.string ⟨#[]⟩] hr)
 have HM:=Lib.hid (fun w=>rminT w hd IsT.one)
 generalize rT (minQ D 1)=m at HM ⊢
 clear hd hr
 go_enter Tryz.func237,Tryz.ntmps237
 go_wp2_with (go_at_call 270;refine (HM.out _).mono ?_;rintro e w1 ⟨rfl,hb⟩;have H1:=Lib.hid (H.out.later hb);obtain ⟨p0,p1⟩:=cells2 H1.out.a;have z0:=H1.out.a.frozen 0;have z1:=H1.out.a.frozen 1;clear hb)
 refine bodyPost_ret (run_cell rfl rfl (load_loss H1.out.a.two_set)) rfl ⟨rfl,(H1.out.below.setCell (Nat.le_refl _) _).setCell (Nat.le_refl _) _⟩
theorem build_zero (w:World):(Instr.build 63 #[]).run Tryz.prog w=.ok (.agg #[.string ⟨#[]⟩,.string ⟨#[]⟩]) w:=by kernel_rfl
theorem rAdd_err (f d f' d':ByteArray) (w:World) (h1:f.size≤270000) (h2:d.size≤270000) (h3:f'.size≤270000) (h4:d'.size≤270000) (hr:Res w) (he:firstL [(f,d),(f',d')]≠0) :
  Calls Tryz.prog 171 #[.agg #[.string f,.string d],.agg #[.string f',.string d']] w fun e w'=>e=.returned (.tuple #[.agg #[.string ⟨#[]⟩,.string ⟨#[]⟩],.int .i64 (firstL [(f,d),(f',d')]:Int)])∧Below w.heap.size w w':=by
 have H:=Lib.hid (At3.new w 63 63 63 #[.string f,.string d] #[.string f',.string d'] #[.string ⟨#[]⟩,.string ⟨#[]⟩] hr)
 have HBO:=Lib.hid (fun w hr=>rboth_any f d f' d' w h1 h2 h3 h4 hr)
 have HZ:=build_zero
 obtain ⟨z,hz⟩:∃ z:Int,(firstL [(f,d),(f',d')]:Int)=z:=⟨_,rfl⟩
 rw [hz] at HBO ⊢
 have hne:(z == 0)=false:=by rw [beq_eq_false_iff_ne];omega
 clear h1 h2 h3 h4 hr he hz
 go_enter Tryz.func171,Tryz.ntmps171
 go_wp2_with (go_at_call 167;refine (HBO.out _ H.out.res).mono ?_;rintro e w1 ⟨rfl,hb⟩;have H1:=Lib.hid (H.out.later hb);obtain ⟨r0,r1⟩:=cells2 H1.out.c;have y0:=H1.out.c.frozen 0;have y1:=H1.out.c.frozen 1;obtain ⟨p0,p1⟩:=cells2 H1.out.a;obtain ⟨q0,q1⟩:=cells2 H1.out.b;clear hb)
 refine bodyPost_ret (run_cell_tmp rfl rfl (load_loss ((H1.out.c.set_ 0 (.string ⟨#[]⟩)).set_ 1 (.string ⟨#[]⟩)))) rfl ⟨rfl,(H1.out.below.setCell (le2 _) _).setCell (le2 _) _⟩
theorem foldR_two {op:LQ→LQ→Except Nat LQ} (hop:∀ a,OkL a→op noneL a=.ok a) {x y:L2} (h:firstL [x,y]=0):foldR op [x,y]=op (valL x) (valL y):=by
 unfold foldR
 rw [if_neg (by omega)]
 have hx:=(errL_zero (firstL_zero.1 h x (by simp))).ok
 simp only [List.map_cons,List.map_nil,foldE]
 rw [show op noneL (valL x)=.ok (valL x) from hop _ hx]
 dsimp only
 cases op (valL x) (valL y) <;> rfl
theorem rMax_err (f d f' d':ByteArray) (w:World) (h1:f.size≤270000) (h2:d.size≤270000) (h3:f'.size≤270000) (h4:d'.size≤270000) (hr:Res w) (he:firstL [(f,d),(f',d')]≠0) :
  Calls Tryz.prog 72 #[.agg #[.string f,.string d],.agg #[.string f',.string d']] w fun e w'=>e=.returned (.tuple #[.agg #[.string ⟨#[]⟩,.string ⟨#[]⟩],.int .i64 (firstL [(f,d),(f',d')]:Int)])∧Below w.heap.size w w':=by
 have H:=Lib.hid (At3.new w 63 63 63 #[.string f,.string d] #[.string f',.string d'] #[.string ⟨#[]⟩,.string ⟨#[]⟩] hr)
 have HBO:=Lib.hid (fun w hr=>rboth_any f d f' d' w h1 h2 h3 h4 hr)
 have HZ:=build_zero
 obtain ⟨z,hz⟩:∃ z:Int,(firstL [(f,d),(f',d')]:Int)=z:=⟨_,rfl⟩
 rw [hz] at HBO ⊢
 have hne:(z == 0)=false:=by rw [beq_eq_false_iff_ne];omega
 clear h1 h2 h3 h4 hr he hz
 go_enter Tryz.func72,Tryz.ntmps72
 go_wp2_with (go_at_call 167;refine (HBO.out _ H.out.res).mono ?_;rintro e w1 ⟨rfl,hb⟩;have H1:=Lib.hid (H.out.later hb);obtain ⟨r0,r1⟩:=cells2 H1.out.c;have y0:=H1.out.c.frozen 0;have y1:=H1.out.c.frozen 1;obtain ⟨p0,p1⟩:=cells2 H1.out.a;obtain ⟨q0,q1⟩:=cells2 H1.out.b;clear hb)
 refine bodyPost_ret (run_cell_tmp rfl rfl (load_loss ((H1.out.c.set_ 0 (.string ⟨#[]⟩)).set_ 1 (.string ⟨#[]⟩)))) rfl ⟨rfl,(H1.out.below.setCell (le2 _) _).setCell (le2 _) _⟩
theorem rMax_ok (f d f' d':ByteArray) (w:World) (h1:f.size≤270000) (h2:d.size≤270000) (h3:f'.size≤270000) (h4:d'.size≤270000) (hr:Res w) (a b:LQ) (ha:LossIs f d a) (hb:LossIs f' d' b) :
  Calls Tryz.prog 72 #[.agg #[.string f,.string d],.agg #[.string f',.string d']] w fun e w'=>e=.returned (.tuple #[.agg #[.string (rT (maxQ a.1 b.1)),.string (rT (maxQ a.2 b.2))],.int .i64 0])∧Below w.heap.size w w':=by
 have H:=Lib.hid (At3.new w 63 63 63 #[.string f,.string d] #[.string f',.string d'] #[.string ⟨#[]⟩,.string ⟨#[]⟩] hr)
 have HBO:=Lib.hid (fun w hr=>rboth_any f d f' d' w h1 h2 h3 h4 hr)
 have HZ:=build_zero
 rw [show firstL [(f,d),(f',d')]=0 by rw [firstL_two];dsimp only;rw [ha.err,hb.err];rfl] at HBO
 have HM:=Lib.hid (fun w=>rmaxT w ha.f hb.f)
 have HA:=Lib.hid (fun w=>rmaxT w ha.d hb.d)
 generalize rT (maxQ a.1 b.1)=m at *
 generalize rT (maxQ a.2 b.2)=s at *
 have TK1:True:=trivial
 clear h1 h2 h3 h4 hr ha hb
 go_enter Tryz.func72,Tryz.ntmps72
 go_wp2_with (first
  | (go_at_call 167;refine (HBO.out _ H.out.res).mono ?_;rintro e w1 ⟨rfl,hb⟩;have H1:=Lib.hid (H.out.later hb);obtain ⟨r0,r1⟩:=cells2 H1.out.c;have y0:=H1.out.c.frozen 0;have y1:=H1.out.c.frozen 1;obtain ⟨p0,p1⟩:=cells2 H1.out.a;obtain ⟨q0,q1⟩:=cells2 H1.out.b;clear hb)
  | (clear TK1;go_at_call 57;refine (HM.out _).mono ?_;rintro e w2 ⟨rfl,hb⟩;have H2:=Lib.hid (H1.out.later hb);obtain ⟨r0,r1⟩:=cells2 H2.out.c;have y0:=H2.out.c.frozen 0;have y1:=H2.out.c.frozen 1;obtain ⟨p0,p1⟩:=cells2 H2.out.a;obtain ⟨q0,q1⟩:=cells2 H2.out.b;clear hb)
  | (go_at_call 57;refine (HA.out _).mono ?_;rintro e w3 ⟨rfl,hb⟩;have H3:=Lib.hid (H2.out.later hb);obtain ⟨r0,r1⟩:=cells2 H3.out.c;have y0:=H3.out.c.frozen 0;have y1:=H3.out.c.frozen 1;obtain ⟨p0,p1⟩:=cells2 H3.out.a;obtain ⟨q0,q1⟩:=cells2 H3.out.b;clear hb))
 refine bodyPost_ret (run_cell_tmp rfl rfl (load_loss ((H3.out.c.set_ 0 (.string m)).set_ 1 (.string s)))) rfl ⟨rfl,(H3.out.below.setCell (le2 _) _).setCell (le2 _) _⟩
theorem refLossMax_any (f d f' d':ByteArray) (w:World) (h1:f.size≤270000) (h2:d.size≤270000) (h3:f'.size≤270000) (h4:d'.size≤270000) (hr:Res w) :
  Calls Tryz.prog 72 #[.agg #[.string f,.string d],.agg #[.string f',.string d']] w fun e w'=>e=.returned (resL (foldR (fun a b=>.ok (aboveL a b)) [(f,d),(f',d')]))∧Below w.heap.size w w':=by
 by_cases he:firstL [(f,d),(f',d')]=0
 ·rw [foldR_two (fun a ha=>by rw [aboveL_none ha]) he]
  have ha:=errL_zero (firstL_zero.1 he (f,d) (by simp))
  have hb:=errL_zero (firstL_zero.1 he (f',d') (by simp))
  exact rMax_ok f d f' d' w h1 h2 h3 h4 hr _ _ ha hb
 ·unfold foldR
  rw [if_pos he]
  exact rMax_err f d f' d' w h1 h2 h3 h4 hr he
end Go.Proofs.YtigapglmipmbeaaGreatDoor
namespace Go.Proofs.YtigapglmipmbeaaGreatDoor
open Go.RowKit Go.Shelf
open Lim
theorem ends_idleI (n:Nat) (p:Addr) (w:World) :
  CallsDIn Fence.wide n Tryz.prog 163 #[.pointer (some p)] .returning w fun e u' w'=>e=.returned (.tuple #[])∧u'=.returning∧w'=w:=by
 refine callsDIn_of_wpSIn Tryz.func163 rfl trivial fun c₀ cs hu=>?_
 apply wpSIn_seq
 apply wpSIn_region
 simp [wpOpsSIn,go_sem,recoverD,hu,Tryz.ntmps163,Exit.thenS,Array.replicate_succ,Array.replicate_zero]
 refine wpSIn_of_wpIn rfl ?_
 gi_wp2
 cases c₀
 simp_all [bodyPostS,results,Tryz.results163]
section
variable {fn:Func} {tmps:Array Value} {R:Ending→World→Prop} {b n:Nat} {w:World}
theorem door_retI {v:Value} (hr:(results fn tmps).run Tryz.prog w=.ok v w) (hR:R (.returned v) w) :
  LeavesIn Fence.wide n Tryz.prog fn tmps R [{ target:=Target.fn (Fn.func 163) #[],args:=#[.pointer (some ⟨b,0,none⟩)] }] .returning w:=by
 refine leavesIn_cons (f:=163) (args:=#[.pointer (some ⟨b,0,none⟩)]) (by simp) (fun h=>by cases h) (by simp [go_sem]) (fun _ _=>trivial) ?_
 refine (ends_idleI _ _ _).mono ?_
 rintro e u' w'' ⟨rfl,rfl,rfl⟩
 exact ⟨v,hr,hR⟩
end
end Go.Proofs.YtigapglmipmbeaaGreatDoor
namespace Go.Proofs.YtigapglmipmbeaaGreatDoor
open Go.RowKit Go.Shelf
open Lim
def lateR (f d u:ByteArray):Except Nat LQ:=if errL f d≠0 then .error (errL f d) else if errQ u.data.toList≠0 then .error (errQ u.data.toList) else
 if cmpQ (valQ u.data.toList) 0 < 0 ∨ cmpQ (valQ u.data.toList) 1 > 0 then .error 2 else lateL (valL (f,d)) (valQ u.data.toList)
theorem late_err1 (f d u:ByteArray) (w:World) (h1:f.size≤270000) (h2:d.size≤270000) (_h3:u.size≤270000) (hr:Res w) (hL:errL f d≠0) :
  Calls Tryz.prog 74 #[.agg #[.string f,.string d],.string u] w fun e w'=>e=.returned (resL (.error (errL f d)))∧Below w.heap.size w w':=by
 have H0:=At3.new w 63 63 32 #[.string f,.string d] #[.string ⟨#[]⟩,.string ⟨#[]⟩] #[.int .i64 0] hr
 obtain ⟨a1,a2,a3⟩:=at3_row1 H0
 rw [show (((w.alloc (.cells #[.string f,.string d] 63)).alloc (.cells #[.string ⟨#[]⟩,.string ⟨#[]⟩] 63)).alloc (.cells #[.int .i64 0] 32)).heap.size=w.heap.size+1+1+1 by simp] at a2
 have HV:=Lib.hid (valid_run _ _ _ a2 (short_one h1 h2) a3)
 rw [firstL_one] at HV
 have H1:=Lib.hid (H0.later a1)
 rw [endV_no hL] at HV
 generalize errL f d=n at HV
 clear H0 a1 a2 a3 h1 h2 hr hL
 go_enter_defers Tryz.func74,Tryz.ntmps74
 go_wp2_with (go_at_call 164;refine HV.out.mono ?_;rintro e w1 ⟨rfl,hb⟩;have H2:=Lib.hid (H1.out.later hb);clear hb)
 refine door_pan (v:=resL (.error n)) H2.out.c ?_
 intro W hB hk hbel
 exact ⟨run_cell_errno rfl rfl (load_loss (hk _ _ _ (by omega) H2.out.b)) rfl hB,rfl,hbel _ _ (le2 _) H2.out.below⟩
theorem late_err2 (f d u:ByteArray) (w:World) (h1:f.size≤270000) (h2:d.size≤270000) (h3:u.size≤270000) (hr:Res w) (hL:errL f d=0) (hU:errQ u.data.toList≠0) :
  Calls Tryz.prog 74 #[.agg #[.string f,.string d],.string u] w fun e w'=>e=.returned (resL (.error (errQ u.data.toList)))∧Below w.heap.size w w':=by
 have H0:=At3.new w 63 63 32 #[.string f,.string d] #[.string ⟨#[]⟩,.string ⟨#[]⟩] #[.int .i64 0] hr
 obtain ⟨a1,a2,a3⟩:=at3_row1 H0
 rw [show (((w.alloc (.cells #[.string f,.string d] 63)).alloc (.cells #[.string ⟨#[]⟩,.string ⟨#[]⟩] 63)).alloc (.cells #[.int .i64 0] 32)).heap.size=w.heap.size+1+1+1 by simp] at a2
 have HV:=Lib.hid (valid_run _ _ _ a2 (short_one h1 h2) a3)
 rw [firstL_one] at HV
 have H1:=Lib.hid (H0.later a1)
 rw [hL] at HV
 have HCK:=Lib.hid (fun w hr=>ratCheck_any u w h3 hr)
 have HN:=Lib.hid hU
 generalize errQ u.data.toList=n at HCK HN
 clear H0 a1 a2 a3 h1 h2 h3 hr hL hU
 go_enter_defers Tryz.func74,Tryz.ntmps74
 go_wp2_with (first
  | (go_at_call 164;refine HV.out.mono ?_;rintro e w1 ⟨rfl,hb⟩;rw [endV_ok];have H2:=Lib.hid (H1.out.later hb);clear hb)
  | (go_at_call 138;refine (HCK.out _ H2.out.res).mono ?_;rintro e w2 ⟨rfl,hb⟩;have H3:=Lib.hid (H2.out.later hb);clear hb)
  | (go_at_call 168;refine (mustI_no _ _ _ HN.out).mono ?_;rintro e w3 ⟨rfl,hw⟩;subst hw))
 refine door_pan (v:=resL (.error n)) H3.out.c ?_
 intro W hB hk hbel
 exact ⟨run_cell_errno rfl rfl (load_loss (hk _ _ _ (by omega) H3.out.b)) rfl hB,rfl,hbel _ _ (le2 _) H3.out.below⟩
theorem late_rng1 (f d u:ByteArray) (w:World) (h1:f.size≤270000) (h2:d.size≤270000) (_h3:u.size≤270000) (hr:Res w) (hL:errL f d=0) (hU:IsT u (valQ u.data.toList)) (c1:cmpQ (valQ u.data.toList) 0 < 0) :
  Calls Tryz.prog 74 #[.agg #[.string f,.string d],.string u] w fun e w'=>e=.returned (resL (.error 2))∧Below w.heap.size w w':=by
 have H0:=At3.new w 63 63 32 #[.string f,.string d] #[.string ⟨#[]⟩,.string ⟨#[]⟩] #[.int .i64 0] hr
 obtain ⟨a1,a2,a3⟩:=at3_row1 H0
 rw [show (((w.alloc (.cells #[.string f,.string d] 63)).alloc (.cells #[.string ⟨#[]⟩,.string ⟨#[]⟩] 63)).alloc (.cells #[.int .i64 0] 32)).heap.size=w.heap.size+1+1+1 by simp] at a2
 have HV:=Lib.hid (valid_run _ _ _ a2 (short_one h1 h2) a3)
 rw [firstL_one] at HV
 have H1:=Lib.hid (H0.later a1)
 rw [hL] at HV
 have HCK:=Lib.hid (fun w hr=>checkT (p:=valQ u.data.toList) w hU hr)
 have HC1:=Lib.hid (fun w hr=>lorder_any w hU IsT.zero hr)
 have HC2:=Lib.hid (fun w hr=>lorder_any w hU IsT.one hr)
 generalize cmpQ (valQ u.data.toList) 0=x1 at *
 generalize cmpQ (valQ u.data.toList) 1=x2 at *
 have g1:decide (x1 < 0)=true:=decide_eq_true c1
 have TK1:True:=trivial
 clear H0 a1 a2 a3 h1 h2 hr hL hU c1
 go_enter_defers Tryz.func74,Tryz.ntmps74
 go_wp2_with (first
  | (go_at_call 164;refine HV.out.mono ?_;rintro e w1 ⟨rfl,hb⟩;rw [endV_ok];have H2:=Lib.hid (H1.out.later hb);clear hb)
  | (go_at_call 138;refine (HCK.out _ H2.out.res).mono ?_;rintro e w2 ⟨rfl,hb⟩;have H3:=Lib.hid (H2.out.later hb);clear hb)
  | (go_at_call 168;refine (mustI_ok _ _).mono ?_;rintro e w3 ⟨rfl,hw⟩;subst hw)
  | (clear TK1;go_at_call 169;refine (HC1.out _ H3.out.res).mono ?_;rintro e w4 ⟨rfl,hb⟩;have H4:=Lib.hid (H3.out.later hb);obtain ⟨q0,q1⟩:=cells2 H4.out.b;have y0:=H4.out.b.frozen 0;have y1:=H4.out.b.frozen 1;have ce:=cell0 H4.out.c;have ze:=H4.out.c.frozen 0;obtain ⟨p0,p1⟩:=cells2 H4.out.a;clear hb))
 have hb2:=((H4.out.b.set_ 0 (.string ⟨#[]⟩)).set_ 1 (.string ⟨#[]⟩)).far (p:=⟨w.heap.size+1+1,0,none⟩) (by show w.heap.size+1≠w.heap.size+1+1;omega) (.int .i64 2)
 have hc2:=(H4.out.c.two_far (b:=w.heap.size+1) (x:=.string ⟨#[]⟩) (y:=.string ⟨#[]⟩) (by omega)).set_ 0 (.int .i64 2)
 refine door_ret (v:=resL (.error 2)) (run_cell_errno rfl rfl (load_loss hb2) rfl hc2) ⟨rfl,?_⟩
 exact ((H4.out.below.setCell (Nat.le_succ _) _).setCell (Nat.le_succ _) _).setCell (le2 _) _
theorem late_rng2 (f d u:ByteArray) (w:World) (h1:f.size≤270000) (h2:d.size≤270000) (_h3:u.size≤270000) (hr:Res w) (hL:errL f d=0) (hU:IsT u (valQ u.data.toList)) (c1:¬ cmpQ (valQ u.data.toList) 0 < 0) (c2:cmpQ (valQ u.data.toList) 1 > 0) :
  Calls Tryz.prog 74 #[.agg #[.string f,.string d],.string u] w fun e w'=>e=.returned (resL (.error 2))∧Below w.heap.size w w':=by
 have H0:=At3.new w 63 63 32 #[.string f,.string d] #[.string ⟨#[]⟩,.string ⟨#[]⟩] #[.int .i64 0] hr
 obtain ⟨a1,a2,a3⟩:=at3_row1 H0
 rw [show (((w.alloc (.cells #[.string f,.string d] 63)).alloc (.cells #[.string ⟨#[]⟩,.string ⟨#[]⟩] 63)).alloc (.cells #[.int .i64 0] 32)).heap.size=w.heap.size+1+1+1 by simp] at a2
 have HV:=Lib.hid (valid_run _ _ _ a2 (short_one h1 h2) a3)
 rw [firstL_one] at HV
 have H1:=Lib.hid (H0.later a1)
 rw [hL] at HV
 have HCK:=Lib.hid (fun w hr=>checkT (p:=valQ u.data.toList) w hU hr)
 have HC1:=Lib.hid (fun w hr=>lorder_any w hU IsT.zero hr)
 have HC2:=Lib.hid (fun w hr=>lorder_any w hU IsT.one hr)
 generalize cmpQ (valQ u.data.toList) 0=x1 at *
 generalize cmpQ (valQ u.data.toList) 1=x2 at *
 have g1:decide (x1 < 0)=false:=decide_eq_false c1
 have g2:decide (0 < x2)=true:=decide_eq_true c2
 have TK1:True:=trivial
 clear H0 a1 a2 a3 h1 h2 hr hL hU c1 c2
 go_enter_defers Tryz.func74,Tryz.ntmps74
 go_wp2_with (first
  | (go_at_call 164;refine HV.out.mono ?_;rintro e w1 ⟨rfl,hb⟩;rw [endV_ok];have H2:=Lib.hid (H1.out.later hb);clear hb)
  | (go_at_call 138;refine (HCK.out _ H2.out.res).mono ?_;rintro e w2 ⟨rfl,hb⟩;have H3:=Lib.hid (H2.out.later hb);clear hb)
  | (go_at_call 168;refine (mustI_ok _ _).mono ?_;rintro e w3 ⟨rfl,hw⟩;subst hw)
  | (clear TK1;go_at_call 169;refine (HC1.out _ H3.out.res).mono ?_;rintro e w4 ⟨rfl,hb⟩;have H4:=Lib.hid (H3.out.later hb);clear hb)
  | (go_at_call 169;refine (HC2.out _ H4.out.res).mono ?_;rintro e w5 ⟨rfl,hb⟩;have H5:=Lib.hid (H4.out.later hb);obtain ⟨q0,q1⟩:=cells2 H5.out.b;have y0:=H5.out.b.frozen 0;have y1:=H5.out.b.frozen 1;have ce:=cell0 H5.out.c;have ze:=H5.out.c.frozen 0;obtain ⟨p0,p1⟩:=cells2 H5.out.a;clear hb))
 have hb2:=((H5.out.b.set_ 0 (.string ⟨#[]⟩)).set_ 1 (.string ⟨#[]⟩)).far (p:=⟨w.heap.size+1+1,0,none⟩) (by show w.heap.size+1≠w.heap.size+1+1;omega) (.int .i64 2)
 have hc2:=(H5.out.c.two_far (b:=w.heap.size+1) (x:=.string ⟨#[]⟩) (y:=.string ⟨#[]⟩) (by omega)).set_ 0 (.int .i64 2)
 refine door_ret (v:=resL (.error 2)) (run_cell_errno rfl rfl (load_loss hb2) rfl hc2) ⟨rfl,?_⟩
 exact ((H5.out.below.setCell (Nat.le_succ _) _).setCell (Nat.le_succ _) _).setCell (le2 _) _
theorem late_ok (f d u:ByteArray) (w:World) (h1:f.size≤270000) (h2:d.size≤270000) (_h3:u.size≤270000) (hr:Res w) (l:LQ) (q:Rat) (hl:LossIs f d l) (hU:IsT u q) (c1:¬ cmpQ q 0 < 0) (c2:¬ cmpQ q 1 > 0) (f1:fits (l.1+1)=true) (f2:fits ((l.1+1)*q)=true) (f3:fits (l.2+(l.1+1)*q)=true) :
  Calls Tryz.prog 74 #[.agg #[.string f,.string d],.string u] w fun e w'=>e=.returned (.tuple #[.agg #[.string f,.string (rT (minQ (l.2+(l.1+1)*q) 1))],.int .i64 0])∧Below w.heap.size w w':=by
 have H0:=At3.new w 63 63 32 #[.string f,.string d] #[.string ⟨#[]⟩,.string ⟨#[]⟩] #[.int .i64 0] hr
 obtain ⟨a1,a2,a3⟩:=at3_row1 H0
 rw [show (((w.alloc (.cells #[.string f,.string d] 63)).alloc (.cells #[.string ⟨#[]⟩,.string ⟨#[]⟩] 63)).alloc (.cells #[.int .i64 0] 32)).heap.size=w.heap.size+1+1+1 by simp] at a2
 have HV:=Lib.hid (valid_run _ _ _ a2 (short_one h1 h2) a3)
 rw [firstL_one] at HV
 have H1:=Lib.hid (H0.later a1)
 rw [hl.err] at HV
 have HCK:=Lib.hid (fun w hr=>checkT w hU hr)
 have HC1:=Lib.hid (fun w hr=>lorder_any w hU IsT.zero hr)
 have HC2:=Lib.hid (fun w hr=>lorder_any w hU IsT.one hr)
 have HA1:=Lib.hid (fun w hr=>addT w hl.f IsT.one (isT_rT f1) hr)
 have HM1:=Lib.hid (fun w hr=>mulT w (isT_rT f1) hU (isT_rT f2) hr)
 have HA2:=Lib.hid (fun w hr=>addT w hl.d (isT_rT f2) (isT_rT f3) hr)
 have HLim:=Lib.hid (fun (w:World) hr=>limited_any (f:=f) w (isT_rT f3) hr)
 have hfd:=field_bound
 generalize cmpQ q 0=x1 at *
 generalize cmpQ q 1=x2 at *
 generalize rT (l.1+1)=t1 at *
 generalize rT (minQ (l.2+(l.1+1)*q) 1)=t4 at *
 generalize rT (l.2+(l.1+1)*q)=t3 at *
 generalize rT ((l.1+1)*q)=t2 at *
 have g1:decide (x1 < 0)=false:=decide_eq_false c1
 have g2:decide (0 < x2)=false:=decide_eq_false c2
 have TK1:True:=trivial
 have TK2:True:=trivial
 have TK3:True:=trivial
 clear H0 a1 a2 a3 h1 h2 hr hl hU c1 c2 f1 f2 f3
 refine (callsIn_wide (n:=3)).1 ?_
 have h1:1≤3:=by omega
 have hmx:Tryz.prog.follows .mixedOrders=true:=by kernel_rfl
 refine callsIn_of_wp_defers Tryz.func74 rfl trivial ?_ rfl
 simp only [Tryz.ntmps74,List.size_toArray,List.length_cons,List.length_nil,Nat.reduceAdd,Nat.reduceSub,Array.replicate_succ,Array.replicate_zero,List.push_toArray,List.append_toArray,List.nil_append,List.cons_append]
 gi_upto_region 7 with (first
  | (refine ⟨trivial,?_⟩;gi_at_call 164;refine (callsIn_wide.2 (HV.out)).mono ?_;rintro e w2 ⟨rfl,hb⟩;have H2:=Lib.hid (H1.out.later hb);clear hb)
  | (refine ⟨trivial,?_⟩;gi_at_call 138;refine (callsIn_wide.2 (HCK.out _ H2.out.res)).mono ?_;rintro e w3 ⟨rfl,hb⟩;have H3:=Lib.hid (H2.out.later hb);clear hb)
  | (refine ⟨trivial,?_⟩;gi_at_call 168;refine (callsIn_wide.2 (mustI_ok _ _)).mono ?_;rintro e w9 ⟨rfl,hw⟩;subst hw)
  | (clear TK1;refine ⟨trivial,?_⟩;gi_at_call 169;refine (callsIn_wide.2 (HC1.out _ H3.out.res)).mono ?_;rintro e w4 ⟨rfl,hb⟩;have H4:=Lib.hid (H3.out.later hb);clear hb)
  | (refine ⟨trivial,?_⟩;gi_at_call 169;refine (callsIn_wide.2 (HC2.out _ H4.out.res)).mono ?_;rintro e w5 ⟨rfl,hb⟩;have H5:=Lib.hid (H4.out.later hb);obtain ⟨p0,p1⟩:=cells2 H5.out.a;clear hb)
  | (refine ⟨trivial,?_⟩;gi_at_call 107;refine (callsIn_wide.2 (HA1.out _ H5.out.res)).mono ?_;rintro e w6 ⟨rfl,hb⟩;have H6:=Lib.hid (H5.out.later hb);clear hb)
  | (clear TK2;refine ⟨trivial,?_⟩;gi_at_call 165;refine (callsIn_wide.2 (mustN_ok _ _)).mono ?_;rintro e w8 ⟨rfl,hw⟩;subst hw)
  | (refine ⟨trivial,?_⟩;gi_at_call 130;refine (callsIn_wide.2 (HM1.out _ H6.out.res)).mono ?_;rintro e w7 ⟨rfl,hb⟩;have H7:=Lib.hid (H6.out.later hb);clear hb)
  | (clear TK3;refine ⟨trivial,?_⟩;gi_at_call 165;refine (callsIn_wide.2 (mustN_ok _ _)).mono ?_;rintro e w8 ⟨rfl,hw⟩;subst hw))
 clear p0 p1
 have H:=H7.out
 have hla:=H.a.lt
 obtain ⟨x0,x1⟩:=same_two (S:=fun k=>k < w8.heap.size∧k≠w.heap.size+1∧k≠w.heap.size+1+1) H.a ⟨hla,by omega,by omega⟩
 clear H hla
 have HRD:=Lib.hid (H7.out.res.below (below_drew (Below.refl w8.heap.size w8)))
 refine wpIn_stage (IsSame w8 (fun k=>k < w8.heap.size∧k≠w.heap.size+1∧k≠w.heap.size+1+1)) [0,1,2,3,4,6,7,10] [] hmx (by kernel_rfl) (isSame_of fun _ _=>rfl) ?_
 change wpStage _ _ _ _ _ _ _ _ (8+5) _ _ _
 refine stage_reads [0,1,2,3,4] 8 _ _ (by kernel_rfl) ?_
 change wpQuietIn _ _ _ _ (fun W'=>∃ x:SameAt w8 (fun k=>k < w8.heap.size∧k≠w.heap.size+1∧k≠w.heap.size+1+1),W'=x.W) _ _ _
 simp only [pick_cons,pick_nil,List.getElem?_cons_zero,List.getElem?_cons_succ,Option.elim_some]
 repeat (gi_big_quiet_step (fail))
 refine wpQuietIn_nil ?_
 refine stage_one 5 (by kernel_rfl) rfl ?_
 gi_wp2
 refine ⟨trivial,?_⟩
 refine (callsIn_wide.2 (HA2.out _ HRD.out)).mono ?_
 rintro e w10 ⟨rfl,hb⟩
 have HB1:=Lib.hid (show Below w8.heap.size w8 w10 from below_undrew hb)
 clear hb
 gi_wp2
 refine stage_post (isSame_below HB1.out (fun k hk=>hk.1)) ?_
 change wpStage _ _ _ _ _ _ _ _ (5+2) _ _ _
 refine stage_reads [6,7] 5 _ _ (by kernel_rfl) ?_
 change wpQuietIn _ _ _ _ (fun W'=>∃ x:SameAt w8 (fun k=>k < w8.heap.size∧k≠w.heap.size+1∧k≠w.heap.size+1+1),W'=x.W) _ _ _
 simp only [pick_cons,pick_nil,List.getElem?_cons_zero,List.getElem?_cons_succ,Option.elim_some]
 repeat (gi_big_quiet_step (fail))
 refine wpQuietIn_nil ?_
 refine stage_one 8 (by kernel_rfl) rfl ?_
 gi_wp2
 refine ⟨trivial,?_⟩
 refine (callsIn_wide.2 (mustN_ok _ _)).mono ?_
 rintro e w11 ⟨rfl,hw⟩
 subst hw
 gi_wp2
 refine stage_post (isSame_below HB1.out (fun k hk=>hk.1)) ?_
 refine stage_one 9 (by kernel_rfl) rfl ?_
 gi_wp2
 refine ⟨trivial,?_⟩
 refine (callsIn_wide.2 (HLim.out _ (H7.out.res.below HB1.out))).mono ?_
 rintro e w12 ⟨rfl,hb⟩
 have HB2:=Lib.hid (HB1.out.trans (hb.mono HB1.out.size))
 clear hb
 gi_wp2
 refine stage_post (isSame_below HB2.out (fun k hk=>hk.1)) ?_
 change wpStage _ _ _ _ _ _ _ _ (2+1) _ _ _
 refine stage_reads [10] 2 _ _ (by kernel_rfl) ?_
 change wpQuietIn _ _ _ _ (fun W'=>∃ x:SameAt w8 (fun k=>k < w8.heap.size∧k≠w.heap.size+1∧k≠w.heap.size+1+1),W'=x.W) _ _ _
 simp only [pick_cons,pick_nil,List.getElem?_cons_zero,List.getElem?_cons_succ,Option.elim_some]
 repeat (gi_big_quiet_step (fail))
 refine wpQuietIn_nil ?_
 have H12:=Lib.hid (H7.out.later HB2.out)
 obtain ⟨r0,r1⟩:=cells2 H12.out.b
 have y0:=H12.out.b.frozen 0
 have y1:=H12.out.b.frozen 1
 have ce:=cell0 H12.out.c
 have ze:=H12.out.c.frozen 0
 refine stage_one 11 (by kernel_rfl) rfl ?_
 gi_wp2
 refine stage_post (isSame_of fun k hk=>(set2_heap hk.2.1).trans (HB2.out.block k hk.1)) ?_
 refine stage_one 12 (by kernel_rfl) rfl ?_
 gi_wp2
 refine stage_post (isSame_of fun k hk=>(Below.heap_setCell _ ⟨w.heap.size+1+1,0,none⟩ _ _ hk.2.2).trans ((set2_heap hk.2.1).trans (HB2.out.block k hk.1))) ?_
 refine stage_done (by kernel_rfl) ?_
 gi_wp2
 have hb2:=(H12.out.b.two_set (x:=.string f) (y:=.string t4)).far (p:=⟨w.heap.size+1+1,0,none⟩) (by show w.heap.size+1≠w.heap.size+1+1;omega) (.int .i64 0)
 have hc2:=(H12.out.c.two_far (b:=w.heap.size+1) (x:=.string f) (y:=.string t4) (by omega)).set_ 0 (.int .i64 0)
 refine door_retI (v:=.tuple #[.agg #[.string f,.string t4],.int .i64 0]) (run_cell_errno rfl rfl (load_loss hb2) rfl hc2) ⟨rfl,?_⟩
 exact ((H12.out.below.setCell (Nat.le_succ _) _).setCell (Nat.le_succ _) _).setCell (le2 _) _
theorem lossLate_any (f d u:ByteArray) (w:World) (h1:f.size≤270000) (h2:d.size≤270000) (h3:u.size≤270000) (hr:Res w) (hfit:errL f d=0→errQ u.data.toList=0→fits ((valL (f,d)).1+1)=true∧fits (((valL (f,d)).1+1)*valQ u.data.toList)=true∧fits ((valL (f,d)).2+((valL (f,d)).1+1)*valQ u.data.toList)=true) :
  Calls Tryz.prog 74 #[.agg #[.string f,.string d],.string u] w fun e w'=>e=.returned (resL (lateR f d u))∧Below w.heap.size w w':=by
 unfold lateR
 by_cases hL:errL f d=0
 ·rw [if_neg (by omega)]
  by_cases hU:errQ u.data.toList=0
  ·rw [if_neg (by omega)]
   by_cases c1:cmpQ (valQ u.data.toList) 0 < 0
   ·rw [if_pos (.inl c1)];exact late_rng1 f d u w h1 h2 h3 hr hL (IsT.of hU) c1
   by_cases c2:cmpQ (valQ u.data.toList) 1 > 0
   ·rw [if_pos (.inr c2)];exact late_rng2 f d u w h1 h2 h3 hr hL (IsT.of hU) c1 c2
   rw [if_neg (by omega)]
   obtain ⟨f1,f2,f3⟩:=hfit hL hU
   have hl:=errL_zero hL
   have hx:=late_ok f d u w h1 h2 h3 hr (valL (f,d)) _ hl (IsT.of hU) c1 c2 f1 f2 f3
   have e:resL (lateL (valL (f,d)) (valQ u.data.toList))=.tuple #[.agg #[.string f,.string (rT (minQ ((valL (f,d)).2+((valL (f,d)).1+1)*valQ u.data.toList) 1))],.int .i64 0]:=by
    have hf:f=rT (valL (f,d)).1:=hl.f.text
    unfold lateL
    rw [ovr_ok f1]
    dsimp only
    rw [ovr_ok f2]
    dsimp only
    rw [ovr_ok f3]
    show Value.tuple #[lossT _,_]=_
    unfold lossT
    dsimp only
    rw [← hf]
   rw [e]
   exact hx
  ·rw [if_pos hU];exact late_err2 f d u w h1 h2 h3 hr hL hU
 ·rw [if_pos hL];exact late_err1 f d u w h1 h2 h3 hr hL
end Go.Proofs.YtigapglmipmbeaaGreatDoor
namespace Go.Proofs.YtigapglmipmbeaaGreatDoor
open Go.RowKit Go.Shelf
open Lim
end Go.Proofs.YtigapglmipmbeaaGreatDoor
