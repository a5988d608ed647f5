/- The reference 08: Delta, Distance, Factor, part, Moment (printed by mkdref.py). law 09: factor, least, holds (printed by mklhelp9.py). What Delta, Factor and Moment give, as rationals. No program in sight. The plain law of DistTriangle: distances as texts. No program in sight. LossGroups and the like: what Holds and Group give of distributions; no program in sight. What law 09's made gives (printed by mkgrp.py). The plain law of DistFactors: the least factor as a text. No program in sight. dist: slices.Clone of masses, scaled (printed by mkdprog.py). dist.Mix (printed by mkdprog.py). dist: slices.Index of strings, Push (printed by mkdprog.py). law 08: names (printed by mkdlaw3.py). DistPushes, as a walk (printed by mkdlaw3.py). Laws inside a fence: drawn regions of one class of later worlds; what Mix gives (printed by mkdlaw4.py). The reference's losses (printed by mklref.py). The reference's sums and comparisons of losses (printed by mklref2.py). The door of a function that defers ends, inside the wide fence. loss.Late, where no number on the way is too long. The reference's Group and Late (printed by mklref3.py). Texts of given numbers, by reckoning; the examples of losses in plain rationals. The examples of losses that each statement asks first. The statements' lives and light (printed by mkllives.py). LossGroups, as a walk (printed by mkgrp.py). (printed by mkrangep.py) A range over a function whose yields come in a known order; what holds in memory may speak of what has come. dist: the pairs of outcomes, and their iterator (printed by mkdprod.py). dist.Product (printed by mkdprod.py). Products: keys, moments; no program in sight (printed by mkdlaw5.py). The statements' Pick. -/
import Derived.Test.YtigapglmipmbeaaGreatDoorLwLossAdds05
import Derived.Test.YtigapglmipmbeaaGreatDoorLwLossAdds02
import Derived.Test.YtigapglmipmbeaaGreatDoorLwLossAdds06
import Derived.Test.YtigapglmipmbeaaGreatDoorLwLossAdds01
import Derived.Test.YtigapglmipmbeaaGreatDoorRb10
import Derived.Test.YtigapglmipmbeaaGreatDoorRb03
import Derived.RecoverIn
import Derived.TacticsInMore
import Derived.Maps.OwnIn
import Derived.Test.YtigapglmipmbeaaGreatDoorRb01
set_option maxRecDepth 100000
set_option maxHeartbeats 16000000
namespace Go.Proofs.YtigapglmipmbeaaGreatDoor
open Go.RowKit Go.Shelf
open Lim
attribute [local go_sem] Oper.semAt_some
theorem plX_zero {s:ByteArray} (h:errQ s.data.toList=0):plX s zT=.ok s:=by
 rw [plX_val h err_zT,val_zT,Rat.add_zero,ovT_fit (IsT.of h).fits,← ok_rT h]
theorem maxX_pos {s:ByteArray} (h:errQ s.data.toList=0) (h0:0 < valQ s.data.toList):maxX zT s=.ok s:=by
 rw [maxX_val err_zT h,val_zT,if_pos]
 unfold cmpQ;rw [if_pos h0];decide
theorem maxX_neg {s:ByteArray} (h:errQ s.data.toList=0) (h0:¬ 0 < valQ s.data.toList):maxX zT s=.ok zT:=by
 rw [maxX_val err_zT h,val_zT,if_neg]
 unfold cmpQ;rw [if_neg h0];split<;>decide
theorem rddelta_any (p q:List L2) (vp vq:Value) (f:ByteArray) (w:World) (hp:LRow w vp p) (hq:LRow w vq q) (sp:Short p) (sq:Short q) (hf:f.size≤270000) (hr:Res w) :
  Calls Tryz.prog 102 #[vp,vq,.string f] w fun e w'=>e=.returned (resX (deltaX p q f))∧Below w.heap.size w w':=by
 have N0:=Lib.hid (NW.refl hr)
 have HC:=Lib.hid (rdboth_any p q vp vq w hp hq sp sq hr)
 have HVP:=Lib.hid hp
 have HVQ:=Lib.hid hq
 have HSH:=Lib.hid (And.intro sp sq)
 have HFS:=Lib.hid hf
 obtain ⟨A,c,rfl,hlen,hcells⟩:=hp
 obtain ⟨A',c',rfl,hlen',hcells'⟩:=hq
 clear hcells hcells' sp sq hr
 by_cases h0:chk2 p q=0
 ·have HR0:=Lib.hid (show deltaX p q f=if posE f≠0 then .error (posE f) else foldX (partX f q) zT p by unfold deltaX;rw [if_neg (by simpa using h0)])
  rw [h0] at HC
  change Hid (Calls _ _ _ _ fun e w'=>e=.returned (.int .i64 0)∧_) at HC
  clear h0
  by_cases h1:errQ f.data.toList=0
  ·have HSG:=Lib.hid (retRSign_ok hf h1)
   by_cases h2:valQ f.data.toList < 0
   ·have d1:decide (sgQ (valQ f.data.toList) < 0)=true:=decide_eq_true ((sg_lt _).2 h2)
    have HR:=Lib.hid (show deltaX p q f=.error 2 by
     have:posE f=2:=by unfold posE;rw [if_neg (by simpa using h1),if_pos h2]
     rw [HR0.out,this];rfl)
    clear h1 h2 hf
    generalize sgQ (valQ f.data.toList)=sg at *
    go_enter Tryz.func102,Tryz.ntmps102
    go_wp2_with (first
     | (go_at_call 114;refine (HC.out).mono ?_;rintro e w1 ⟨rfl,hb⟩;have N1:=Lib.hid (N0.out.later hb);clear hb)
     | (go_at_call 110;refine (HSG.out _ N1.out.res).mono ?_;rintro e w2 ⟨rfl,hb⟩;have N2:=Lib.hid (N1.out.later hb);clear hb))
    go_ret2
    rw [HR.out]
    exact ⟨rfl,N2.out.below⟩
   ·have d1:decide (sgQ (valQ f.data.toList) < 0)=false:=decide_eq_false (fun h=>h2 ((sg_lt _).1 h))
    have HR:=Lib.hid (show deltaX p q f=foldX (partX f q) zT p by
     have:posE f=0:=by unfold posE;rw [if_neg (by simpa using h1),if_neg h2]
     rw [HR0.out,this];rfl)
    clear h1 h2 hf
    generalize sgQ (valQ f.data.toList)=sg at *
    go_enter Tryz.func102,Tryz.ntmps102
    go_wp2_with (first
     | (go_at_call 114;refine HC.out.mono ?_;rintro e w1 ⟨rfl,hb⟩;have N1:=Lib.hid (N0.out.later hb);clear hb)
     | (go_at_call 110;refine (HSG.out _ N1.out.res).mono ?_;rintro e w2 ⟨rfl,hb⟩;have N2:=Lib.hid (N1.out.later hb);clear hb))
    go_loopw [11,12] (fun v11 v12 wr=>∃ (k:Nat) (s:ByteArray),k≤p.length∧v12=.int .i64 (k:Int)∧v11=.string s∧Hid (errQ s.data.toList=0∧foldX (partX f q) zT p=foldX (partX f q) s (p.drop k))∧Hid (NW w wr)) (fun _ v12 _=>p.length - (intOf v12).toNat)
    case atStart=>exact ⟨0,zT,Nat.zero_le _,rfl,rfl,Lib.hid ⟨err_zT,by simp⟩,N2⟩
    case round =>
     clear N0 N1 N2 HC HSG HR0
     obtain ⟨k,s,hk,rfl,rfl,HE,HN⟩:=hrel
     by_cases hlt:k < p.length
     ·obtain ⟨x,hx⟩:∃ x,p[k]?=some x:=⟨_,List.getElem?_eq_getElem hlt⟩
      obtain ⟨b,o,c2,e',hb2,c0,c1⟩:=HVP.out.at HN.out.below hx
      simp only [Value.slice.injEq,true_and] at e'
      obtain ⟨rfl,rfl⟩:=e'
      have hlt':(k:Int) < (p.length:Int):=by omega
      have HM:=Lib.hid (fun W (hW:NW w W)=>HVP.out.cell2 hW.below hx)
      have HAT:=Lib.hid (rdAt_any q _ x.1 wr (HVQ.out.below HN.out.below))
      have HML:=Lib.hid (retRMulX HFS.out (HSH.out.2.atT (k:=x.1)))
      have HXS:=Lib.hid (HSH.out.1 x (List.mem_of_getElem? hx)).2
      have HD:=Lib.hid (drop_of hx)
      have HLT:=Lib.hid (And.intro hlt hlt')
      have HP0:=Lib.hid (show foldX (partX f q) zT p=foldX (partX f q) s (x::p.drop (k+1)) by rw [HE.out.2,drop_of hx])
      obtain ⟨y,d⟩:=x
      dsimp only at c0 c1 HM HAT HML HXS HD HP0
      clear hx hlt
      cases hm:mulX f (atT q y) with
      | error n =>
       have HR2:=Lib.hid (show foldX (partX f q) zT p=.error n by rw [HP0.out];exact foldX_err (x:=(y,d)) (by unfold partX;dsimp only;rw [hm]))
       have hz:=ne_zero (exQ_err hm)
       rw [hm] at HML
       change Hid (Ret _ _ (.tuple #[.string ⟨#[]⟩,.int .i64 (n:Int)])) at HML
       clear hm
       go_wp2_with (first
        | (go_at_call 39;refine HAT.out.mono ?_;rintro e w3 ⟨rfl,rfl⟩)
        | (go_at_call 149;refine (HML.out _ HN.out.res).mono ?_;rintro e w4 ⟨rfl,hb⟩;have N4:=Lib.hid (HN.out.later hb);clear hb;obtain ⟨hb4,q0,q1⟩:=HM.out _ N4.out))
       go_ret2
       rw [HR.out,HR2.out]
       exact ⟨rfl,N4.out.below⟩
      | ok m =>
       rw [hm] at HML
       change Hid (Ret _ _ (.tuple #[.string m,.int .i64 0])) at HML
       have HSB:=Lib.hid (retRSubX HXS.out (size_ok (mulX_ok hm)))
       cases hs:subX d m with
       | error n =>
        have HR2:=Lib.hid (show foldX (partX f q) zT p=.error n by rw [HP0.out];exact foldX_err (x:=(y,d)) (by unfold partX;dsimp only;rw [hm];dsimp only;rw [hs]))
        have hz:=ne_zero (exQ_err hs)
        rw [hs] at HSB
        change Hid (Ret _ _ (.tuple #[.string ⟨#[]⟩,.int .i64 (n:Int)])) at HSB
        clear hm hs
        go_wp2_with (first
        | (go_at_call 39;refine HAT.out.mono ?_;rintro e w3 ⟨rfl,rfl⟩)
        | (go_at_call 149;refine (HML.out _ HN.out.res).mono ?_;rintro e w4 ⟨rfl,hb⟩;have N4:=Lib.hid (HN.out.later hb);clear hb;obtain ⟨hb4,q0,q1⟩:=HM.out _ N4.out)
        | (go_at_call 61;refine (HSB.out _ N4.out.res).mono ?_;rintro e w5 ⟨rfl,hb⟩;have N5:=Lib.hid (N4.out.later hb);clear hb))
        go_ret2
        rw [HR.out,HR2.out]
        exact ⟨rfl,N5.out.below⟩
       | ok t =>
        rw [hs] at HSB
        change Hid (Ret _ _ (.tuple #[.string t,.int .i64 0])) at HSB
        have HSG:=Lib.hid (retRSign_ok (size_ok (subX_ok hs)) (subX_ok hs))
        by_cases h0:0 < valQ t.data.toList
        ·have d1:decide (0 < sgQ (valQ t.data.toList))=true:=decide_eq_true ((sg_gt _).2 h0)
         have HPE:=Lib.hid (show partX f q (y,d)=.ok t by unfold partX;dsimp only;rw [hm];dsimp only;rw [hs];exact maxX_pos (subX_ok hs) h0)
         have HAD:=Lib.hid (retRPlX (size_ok HE.out.1) (size_ok (subX_ok hs)))
         clear hm hs h0
         generalize sgQ (valQ t.data.toList)=sg at *
         cases ha:plX s t with
         | error n =>
          rw [ha] at HAD
          have HR2:=Lib.hid (show foldX (partX f q) zT p=.error n by rw [HP0.out];exact foldX_err2 HPE.out ha)
          have hz:=ne_zero (exQ_err ha)
          change Hid (Ret _ _ (.tuple #[.string ⟨#[]⟩,.int .i64 (n:Int)])) at HAD
          clear ha
          go_wp2_with (first
        | (go_at_call 39;refine HAT.out.mono ?_;rintro e w3 ⟨rfl,rfl⟩)
        | (go_at_call 149;refine (HML.out _ HN.out.res).mono ?_;rintro e w4 ⟨rfl,hb⟩;have N4:=Lib.hid (HN.out.later hb);clear hb;obtain ⟨hb4,q0,q1⟩:=HM.out _ N4.out)
        | (go_at_call 61;refine (HSB.out _ N4.out.res).mono ?_;rintro e w5 ⟨rfl,hb⟩;have N5:=Lib.hid (N4.out.later hb);clear hb)
        | (go_at_call 110;refine (HSG.out _ N5.out.res).mono ?_;rintro e w6 ⟨rfl,hb⟩;have N6:=Lib.hid (N5.out.later hb);clear hb)
        | (go_at_call 59;refine (HAD.out _ N6.out.res).mono ?_;rintro e w7 ⟨rfl,hb⟩;have N7:=Lib.hid (N6.out.later hb);clear hb))
          go_ret2
          rw [HR.out,HR2.out]
          exact ⟨rfl,N7.out.below⟩
         | ok u =>
          rw [ha] at HAD
          have HR2:=Lib.hid (show foldX (partX f q) zT p=foldX (partX f q) u (p.drop (k+1)) by rw [HP0.out];exact foldX_ok HPE.out ha)
          change Hid (Ret _ _ (.tuple #[.string u,.int .i64 0])) at HAD
          have HER:=Lib.hid (plX_ok ha)
          clear ha
          go_wp2_with (first
        | (go_at_call 39;refine HAT.out.mono ?_;rintro e w3 ⟨rfl,rfl⟩)
        | (go_at_call 149;refine (HML.out _ HN.out.res).mono ?_;rintro e w4 ⟨rfl,hb⟩;have N4:=Lib.hid (HN.out.later hb);clear hb;obtain ⟨hb4,q0,q1⟩:=HM.out _ N4.out)
        | (go_at_call 61;refine (HSB.out _ N4.out.res).mono ?_;rintro e w5 ⟨rfl,hb⟩;have N5:=Lib.hid (N4.out.later hb);clear hb)
        | (go_at_call 110;refine (HSG.out _ N5.out.res).mono ?_;rintro e w6 ⟨rfl,hb⟩;have N6:=Lib.hid (N5.out.later hb);clear hb)
        | (go_at_call 59;refine (HAD.out _ N6.out.res).mono ?_;rintro e w7 ⟨rfl,hb⟩;have N7:=Lib.hid (N6.out.later hb);clear hb))
          go_roundw
          case rel=>exact ⟨k+1,u,HLT.out.1,by go_num,rfl,Lib.hid ⟨HER.out,HR2.out⟩,N7⟩
          case measure=>have:=HLT.out.1;simp [intOf];omega
        ·have d1:decide (0 < sgQ (valQ t.data.toList))=false:=decide_eq_false (fun h=>h0 ((sg_gt _).1 h))
         have HR2:=Lib.hid (show foldX (partX f q) zT p=foldX (partX f q) s (p.drop (k+1)) by
          rw [HP0.out]
          exact foldX_ok (x:=(y,d)) (p:=zT) (by unfold partX;dsimp only;rw [hm];dsimp only;rw [hs];exact maxX_neg (subX_ok hs) h0) (plX_zero HE.out.1))
         clear hm hs h0
         generalize sgQ (valQ t.data.toList)=sg at *
         go_wp2_with (first
        | (go_at_call 39;refine HAT.out.mono ?_;rintro e w3 ⟨rfl,rfl⟩)
        | (go_at_call 149;refine (HML.out _ HN.out.res).mono ?_;rintro e w4 ⟨rfl,hb⟩;have N4:=Lib.hid (HN.out.later hb);clear hb;obtain ⟨hb4,q0,q1⟩:=HM.out _ N4.out)
        | (go_at_call 61;refine (HSB.out _ N4.out.res).mono ?_;rintro e w5 ⟨rfl,hb⟩;have N5:=Lib.hid (N4.out.later hb);clear hb)
        | (go_at_call 110;refine (HSG.out _ N5.out.res).mono ?_;rintro e w6 ⟨rfl,hb⟩;have N6:=Lib.hid (N5.out.later hb);clear hb))
         go_roundw
         case rel=>exact ⟨k+1,s,HLT.out.1,by go_num,rfl,Lib.hid ⟨HE.out.1,HR2.out⟩,N6⟩
         case measure=>have:=HLT.out.1;simp [intOf];omega
     ·have hlt':¬ (k:Int) < (p.length:Int):=by omega
      obtain rfl:k=p.length:=by omega
      have HR2:=Lib.hid (show foldX (partX f q) zT p=.ok s by
       have:=HE.out.2
       rwa [List.drop_length] at this)
      clear hlt
      go_wp2
      go_ret2
      rw [HR.out,HR2.out]
      exact ⟨rfl,HN.out.below⟩
  ·have HSG:=Lib.hid (retRSign_err hf h1)
   have hm:=ne_zero h1
   have HR:=Lib.hid (show deltaX p q f=.error (errQ f.data.toList) by
    rw [HR0.out,posE_err h1,if_pos h1])
   clear h1 hf
   go_enter Tryz.func102,Tryz.ntmps102
   go_wp2_with (first
    | (go_at_call 114;refine (HC.out).mono ?_;rintro e w1 ⟨rfl,hb⟩;have N1:=Lib.hid (N0.out.later hb);clear hb)
    | (go_at_call 110;refine (HSG.out _ N1.out.res).mono ?_;rintro e w2 ⟨rfl,hb⟩;have N2:=Lib.hid (N1.out.later hb);clear hb))
   go_ret2
   rw [HR.out]
   exact ⟨rfl,N2.out.below⟩
 ·have HR:=Lib.hid (show deltaX p q f=.error (chk2 p q) by unfold deltaX;rw [if_pos h0])
  have hm:=ne_zero h0
  clear h0 hf
  go_enter Tryz.func102,Tryz.ntmps102
  go_wp2_with (go_at_call 114;refine (HC.out).mono ?_;rintro e w1 ⟨rfl,hb⟩;have N1:=Lib.hid (N0.out.later hb);clear hb)
  go_ret2
  rw [HR.out]
  exact ⟨rfl,N1.out.below⟩
end Go.Proofs.YtigapglmipmbeaaGreatDoor
namespace Go.Proofs.YtigapglmipmbeaaGreatDoor
open Go.RowKit Go.Shelf
open Lim
def factorB (f:ByteArray):Bool:=decide (f.size≤12)&&(errQ f.data.toList==0)&&decide (cmpQ 1 (valQ f.data.toList)≤0)
theorem errQ_one:errQ (⟨#[49]⟩:ByteArray).data.toList=0:=IsT.one.err
theorem factor_walk (f:ByteArray) (c k:Int) (b:Bool) (w:World) (HC:Hid (∀ w,Calls Tryz.prog 119 #[.string ⟨#[49]⟩,.string f] w fun e w'=>e=.returned (.tuple #[.int .i64 c,.int .i64 k])∧Below w.heap.size w w'))
  (hb:b=(decide (f.size≤12)&&((k==0)&&decide (c≤0)))) :
  Calls Tryz.prog 67 #[.string f] w fun e w'=>e=.returned (.bool b)∧Below w.heap.size w w':=by
 by_cases h1:f.size≤12
 ·have d1:decide ((f.size:Int)≤12)=true:=decide_eq_true (by omega)
  rw [decide_eq_true h1,Bool.true_and] at hb
  clear h1
  by_cases h2:(k==0)=true
  ·rw [h2,Bool.true_and] at hb
   subst hb
   go_enter Tryz.func67,Tryz.ntmps67
   go_wp2_with (go_at_call 119;refine (HC.out _).mono ?_;rintro e w1 ⟨rfl,hb⟩;have HB:=Lib.hid hb;clear hb)
   go_ret
   exact ⟨rfl,HB.out⟩
  ·have h2:(k==0)=false:=by simpa using h2
   rw [h2,Bool.false_and] at hb
   subst hb
   go_enter Tryz.func67,Tryz.ntmps67
   go_wp2_with (go_at_call 119;refine (HC.out _).mono ?_;rintro e w1 ⟨rfl,hb⟩;have HB:=Lib.hid hb;clear hb)
   go_ret
   exact ⟨rfl,HB.out⟩
 ·have d1:decide ((f.size:Int)≤12)=false:=decide_eq_false (by omega)
  rw [decide_eq_false h1,Bool.false_and] at hb
  clear h1
  subst hb
  go_enter Tryz.func67,Tryz.ntmps67
  go_wp2_with (go_at_call 119;refine (HC.out _).mono ?_;rintro e w1 ⟨rfl,hb⟩;have HB:=Lib.hid hb;clear hb)
  go_ret
  exact ⟨rfl,HB.out⟩
theorem factor_any (f:ByteArray) (w:World) (hf:f.size≤9223372036854775807) :
  Calls Tryz.prog 67 #[.string f] w fun e w'=>e=.returned (.bool (factorB f))∧Below w.heap.size w w':=by
 by_cases he:errQ f.data.toList=0
 ·refine factor_walk f _ 0 _ w (Lib.hid (fun w=>rcmpT w IsT.one (IsT.of he))) ?_
  unfold factorB
  rw [he]
  simp
 ·refine factor_walk f 0 (errQ f.data.toList:Int) _ w (Lib.hid (fun w=>refCmp_err2B ⟨#[49]⟩ f w (by decide) hf errQ_one he)) ?_
  unfold factorB
  have h1:((errQ f.data.toList)==0)=false:=beq_eq_false_iff_ne.2 he
  have h2:((errQ f.data.toList:Int)==0)=false:=by rw [beq_eq_false_iff_ne];omega
  rw [h1,h2]
  simp
theorem factorB_ok {f:ByteArray} (h:factorB f=true):f.size≤12∧errQ f.data.toList=0∧1≤valQ f.data.toList:=by
 unfold factorB at h
 simp only [Bool.and_eq_true,decide_eq_true_eq,beq_iff_eq] at h
 exact ⟨h.1.1,h.1.2,(cmpQ_le _ _).1 h.2⟩
theorem least9_any (p q:List L2) (vp vq:Value) (f x y:ByteArray) {a b:Rat} (w:World) (hp:LRow w vp p) (hq:LRow w vq q) (sp:Short p) (sq:Short q) (hf:f.size≤270000) (hr:Res w) (hx:deltaX p q f=.ok x) (hy:deltaX q p f=.ok y) (ix:IsT x a) (iy:IsT y b) :
  Calls Tryz.prog 68 #[vp,vq,.string f] w fun e w'=>e=.returned (.agg #[.string f,.string (rT (maxQ a b))])∧Below w.heap.size w w':=by
 have K0:=Lib.hid (Blk.new w 63 #[.string ⟨#[]⟩,.string ⟨#[]⟩])
 have N0:=Lib.hid ((NW.refl hr).alloc (.cells #[.string ⟨#[]⟩,.string ⟨#[]⟩] 63))
 have HX:=Lib.hid (fun W (hW:NW w W)=>rddelta_any p q _ _ f W (hp.below hW.below) (hq.below hW.below) sp sq hf hW.res)
 have HY:=Lib.hid (fun W (hW:NW w W)=>rddelta_any q p _ _ f W (hq.below hW.below) (hp.below hW.below) sq sp hf hW.res)
 have HM:=Lib.hid (fun W=>rmaxT W ix iy)
 rw [hx] at HX
 rw [hy] at HY
 change Hid (∀ W (_:NW w W),Calls _ _ _ _ fun e w'=>e=.returned (.tuple #[.string x,.int .i64 0])∧_) at HX
 change Hid (∀ W (_:NW w W),Calls _ _ _ _ fun e w'=>e=.returned (.tuple #[.string y,.int .i64 0])∧_) at HY
 generalize rT (maxQ a b)=m at *
 obtain ⟨A,ca,rfl,_,_⟩:=id hp
 obtain ⟨B,cb,rfl,_,_⟩:=id hq
 have TK0:True:=trivial
 have TK1:True:=trivial
 have TK2:True:=trivial
 clear hp hq sp sq hf hr hx hy ix iy
 go_enter Tryz.func68,Tryz.ntmps68
 go_wp2_with (clear TK0;go_at_call 102;refine (HX.out _ N0.out).mono ?_;rintro e w1 ⟨rfl,hb⟩;have K1:=Lib.hid (K0.out.below hb K0.out.lt);have N1:=Lib.hid (N0.out.later hb);clear hb)
 go_wp2_with (clear TK1;go_at_call 102;refine (HY.out _ N1.out).mono ?_;rintro e w2 ⟨rfl,hb⟩;have K2:=Lib.hid (K1.out.below hb K1.out.lt);have N2:=Lib.hid (N1.out.later hb);clear hb)
 go_wp2_with (clear TK2;go_at_call 57;refine (HM.out _).mono ?_;rintro e w3 ⟨rfl,hb⟩;have K3:=Lib.hid (K2.out.below hb K2.out.lt);have N3:=Lib.hid (N2.out.later hb);obtain ⟨p0,p1⟩:=cells2 K3.out;have z0:=K3.out.frozen 0;have z1:=K3.out.frozen 1;clear hb)
 refine bodyPost_ret (run_cell rfl rfl (load_loss ((K3.out.set_ 0 (.string f)).set_ 1 (.string m)))) rfl ⟨rfl,(N3.out.below.setCell (Nat.le_refl _) _).setCell (Nat.le_refl _) _⟩
theorem holds9_any (f d:ByteArray) (p q:List L2) (vp vq:Value) (b:Bool) (w:World) (hp:LRow w vp p) (hq:LRow w vq q) (sp:Short p) (sq:Short q) (h1:f.size≤270000) (h2:d.size≤270000) (hr:Res w) (hh:holdsR f d p q=.ok b) :
  Calls Tryz.prog 70 #[.agg #[.string f,.string d],.int .i64 0,vp,vq] w fun e w'=>e=.returned (.bool b)∧Below w.heap.size w w':=by
 have K0:=Lib.hid (Blk.new w 63 #[.string f,.string d])
 have N0:=Lib.hid ((NW.refl hr).alloc (.cells #[.string f,.string d] 63))
 have HH:=Lib.hid (fun W (hW:NW w W)=>lossHolds_any f d p q _ _ W (hp.below hW.below) (hq.below hW.below) sp sq h1 h2 hW.res)
 rw [hh] at HH
 change Hid (∀ W (_:NW w W),Calls _ _ _ _ fun e w'=>e=.returned (.tuple #[.bool b,.int .i64 0])∧_) at HH
 obtain ⟨A,ca,rfl,_,_⟩:=id hp
 obtain ⟨B,cb,rfl,_,_⟩:=id hq
 have TK0:True:=trivial
 clear hp hq sp sq h1 h2 hr hh
 obtain ⟨p0,p1⟩:=cells2 K0.out
 go_enter Tryz.func70,Tryz.ntmps70
 go_wp2_with (clear TK0;go_at_call 86;refine (HH.out _ N0.out).mono ?_;rintro e w1 ⟨rfl,hb⟩;have N1:=Lib.hid (N0.out.later hb);clear hb)
 go_ret
 exact ⟨rfl,N1.out.below⟩
end Go.Proofs.YtigapglmipmbeaaGreatDoor
namespace Go.Proofs.YtigapglmipmbeaaGreatDoor
open Lim
theorem atT_sz {k:Nat} (hk:0 < k) {key:ByteArray}:∀ {ls:List L2},(∀ x∈ls,Sz k (valX x))→Sz k (valQ (atT ls key).data.toList)
 | [],_=>by
  show Sz k (valQ zT.data.toList)
  rw [val_zT]
  exact Sz.zero.mono hk
 | x::l,h=>by
  unfold atT
  split
  ·exact h x (by simp)
  ·exact atT_sz hk fun y hy=>h y (by simp [hy])
theorem atT_has {D:Nat} {key:ByteArray}:∀ {ls:List L2},(∀ x∈ls,HasDen D (valX x))→HasDen D (valQ (atT ls key).data.toList)
 | [],_=>by
  show HasDen D (valQ zT.data.toList)
  rw [val_zT]
  exact HasDen.zero D
 | x::l,h=>by
  unfold atT
  split
  ·exact h x (by simp)
  ·exact atT_has fun y hy=>h y (by simp [hy])
theorem partX_val {f:ByteArray} {q:List L2} {m:L2} (hf:errQ f.data.toList=0) (hq:OkV q) (hm:errQ m.2.data.toList=0)
  (h1:fits (valQ f.data.toList*valQ (atT q m.1).data.toList)=true) (h2:fits (valX m - valQ f.data.toList*valQ (atT q m.1).data.toList)=true) :
  partX f q m=.ok (rT (pos (valX m - valQ f.data.toList*valQ (atT q m.1).data.toList)))∧fits (pos (valX m - valQ f.data.toList*valQ (atT q m.1).data.toList))=true:=by
 unfold partX
 rw [mulX_val hf (atT_ok hq),ovT_fit h1]
 dsimp only
 rw [subX_val hm (err_rT h1),val_rT h1,ovT_fit h2]
 dsimp only
 rw [maxX_val err_zT (err_rT h2),val_rT h2,val_zT]
 unfold pos
 by_cases h:0 < valX m - valQ f.data.toList*valQ (atT q m.1).data.toList
 ·have hc:cmpQ 0 (valX m - valQ f.data.toList*valQ (atT q m.1).data.toList) < 0:=by
   unfold cmpQ;rw [if_pos h];decide
  rw [if_pos h,if_pos hc]
  exact ⟨rfl,h2⟩
 ·have hc:¬ cmpQ 0 (valX m - valQ f.data.toList*valQ (atT q m.1).data.toList) < 0:=by
   unfold cmpQ;rw [if_neg h];split<;>decide
  rw [if_neg h,if_neg hc]
  exact ⟨by rw [← IsT.zero.text];rfl,fits_zero⟩
theorem deltaD_vals {p q:List L2} (hq:(q.map (·.1)).Nodup) (f:Rat):deltaD (valsD p) (valsD q) f=sumBy (fun m=>pos (valX m - f*valQ (atT q m.1).data.toList)) p:=by
 unfold deltaD
 show sumBy _ (p.map _)=_
 rw [sumBy_map]
 exact sumBy_congr fun m _=>by rw [atT_val hq]
theorem deltaX_fit {p q:List L2} {f:ByteArray} {a b j:Nat} (hp:Dst a p) (hq:Dst b q) (hf:errQ f.data.toList=0) (h0:0≤valQ f.data.toList) (sf:Sz j (valQ f.data.toList)) (hm:a+(j+b)+1≤maxD) (hb:0 < b) :
  deltaX p q f=.ok (rT (deltaD (valsD p) (valsD q) (valQ f.data.toList)))∧fits (deltaD (valsD p) (valsD q) (valQ f.data.toList))=true:=by
 obtain ⟨D,d1,d2,d3⟩:=hp.den
 obtain ⟨E,e1,e2,e3⟩:=hq.den
 have hD:0 < D*((valQ f.data.toList).den*E):=Nat.mul_pos d1 (Nat.mul_pos (valQ f.data.toList).den_pos e1)
 have hlt:D*((valQ f.data.toList).den*E) < 10 ^ maxD:=Nat.lt_of_lt_of_le (mul_lt_pow d2 (mul_lt_pow sf.2 e2)) (pow_le (by omega))
 have step:∀ m∈p,partX f q m=.ok (rT (pos (valX m - valQ f.data.toList*valQ (atT q m.1).data.toList)))∧fits (pos (valX m - valQ f.data.toList*valQ (atT q m.1).data.toList))=true ∧
   HasDen (D*((valQ f.data.toList).den*E)) (pos (valX m - valQ f.data.toList*valQ (atT q m.1).data.toList))∧0≤pos (valX m - valQ f.data.toList*valQ (atT q m.1).data.toList):=by
  intro m hm2
  have s1:=sf.mul (atT_sz hb (fun x hx=>hq.sz hx) (key:=m.1))
  obtain ⟨e4,e5⟩:=partX_val hf hq.okV (hp.okV m hm2) (fits_sz.2 (s1.mono (by omega))) (fits_sz.2 (((hp.sz hm2).sub s1).mono (by omega)))
  exact ⟨e4,e5,HasDen.pos (((d3 m hm2).mul_right _).sub (((HasDen.self _).mul (atT_has e3)).mul_left _)),pos_nonneg _⟩
 have ht:=delta_top hp.isD hq.isD h0
 have hn:=delta_nonneg (valsD p) (valsD q) (valQ f.data.toList)
 rw [deltaD_vals hq.once] at ht hn ⊢
 have r:=foldX_fit hD Nat.one_pos (by omega) err_zT (by rw [val_zT];exact HasDen.zero _) (by rw [val_zT];exact Rat.le_refl) step (by rw [val_zT,Rat.zero_add];exact ht)
 rw [val_zT,Rat.zero_add] at r
 refine ⟨?_,fits_sz.2 ((HasDen.sum fun m hm2=>(step m hm2).2.2.1).sz hD hn (M:=1) ht (by omega) Nat.one_pos)⟩
 unfold deltaX
 rw [chk2_ok hp.ok hq.ok,if_neg (by decide),if_neg (by simp only [ne_eq,Decidable.not_not];exact posE_zero.2 ⟨hf,h0⟩)]
 exact r
theorem delta_sz {p q:List L2} {f:Rat} {a b j:Nat} (hp:Dst a p) (hq:Dst b q) (h0:0≤f) (sf:Sz j f):Sz (a+(j+b)) (deltaD (valsD p) (valsD q) f):=by
 obtain ⟨D,d1,d2,d3⟩:=hp.den
 obtain ⟨E,e1,e2,e3⟩:=hq.den
 have hD:0 < D*(f.den*E):=Nat.mul_pos d1 (Nat.mul_pos f.den_pos e1)
 have hlt:D*(f.den*E) < 10 ^ (a+(j+b)):=mul_lt_pow d2 (mul_lt_pow sf.2 e2)
 have ht:=delta_top hp.isD hq.isD h0
 have hn:=delta_nonneg (valsD p) (valsD q) f
 rw [deltaD_vals hq.once] at ht hn ⊢
 exact (HasDen.sum fun m hm=>HasDen.pos (((d3 m hm).mul_right _).sub (((HasDen.self f).mul (atT_has e3)).mul_left _))).sz hD hn (M:=1) ht (by omega) Nat.one_pos
section
variable {l m n:List L2} (hl:Dst 385 l) (hm:Dst 385 m) (hn:Dst 385 n)
include hl hm
include hn
end
theorem holdsR_ok {a j:Nat} {p q:List L2} {F d:Rat} (hp:Dst a p) (hq:Dst a q) (h1:1≤F) (sF:Sz j F) (hj:j≤maxD) (d0:0≤d) (d1:d≤1) (fd:fits d=true) (hm:a+(j+a)+1≤maxD) (ha:0 < a)
  (k1:deltaD (valsD p) (valsD q) F≤d) (k2:deltaD (valsD q) (valsD p) F≤d):holdsR (rT F) (rT d) p q=.ok true:=by
 have fF:fits F=true:=fits_sz.2 (sF.mono hj)
 have hL:LossIs (rT F) (rT d) (F,d):=⟨isT_rT fF,isT_rT fd,h1,d0,d1⟩
 have hF0:0≤F:=Rat.le_trans (by decide) h1
 obtain ⟨x1,x2⟩:=deltaX_fit hp hq (f:=rT F) (err_rT fF) (by rw [val_rT fF];exact hF0) (by rw [val_rT fF];exact sF) hm ha
 obtain ⟨y1,y2⟩:=deltaX_fit hq hp (f:=rT F) (err_rT fF) (by rw [val_rT fF];exact hF0) (by rw [val_rT fF];exact sF) hm ha
 rw [val_rT fF] at x1 x2 y1 y2
 unfold holdsR
 rw [if_neg (fun h=>h hL.err),x1]
 dsimp only
 rw [y1]
 dsimp only
 rw [val_rT x2,val_rT y2,val_rT fd,decide_eq_true ((cmpQ_le _ _).2 k1),decide_eq_true ((cmpQ_le _ _).2 k2)]
 rfl
section
variable (L:Nat→List L2) (F:Rat)
def nearQ (i:Nat):Rat:=maxQ (deltaD (valsD (L i)) (valsD (L (i+1))) F) (deltaD (valsD (L (i+1))) (valsD (L i)) F)
theorem sz_max {k:Nat} {a b:Rat} (ha:Sz k a) (hb:Sz k b):Sz k (maxQ a b):=by
 rw [maxQ_eq]
 split
 ·assumption
 ·assumption
theorem sz_min {k:Nat} {a b:Rat} (ha:Sz k a) (hb:Sz k b):Sz k (minQ a b):=by
 rw [minQ_eq]
 split
 ·assumption
 ·assumption
variable {L F}
theorem near_sz (hL:∀ i,Dst 289 (L i)) (h0:0≤F) (sF:Sz 12 F) (i:Nat):Sz 590 (nearQ L F i):=by
 have a:=delta_sz (hL i) (hL (i+1)) h0 sF
 have b:=delta_sz (hL (i+1)) (hL i) h0 sF
 exact sz_max (a.mono (by omega)) (b.mono (by omega))
theorem near_top (hL:∀ i,Dst 289 (L i)) (h0:0≤F) (i:Nat):0≤nearQ L F i∧nearQ L F i≤1 :=
 ⟨Rat.le_trans (delta_nonneg _ _ _) (le_maxQ _ _).1,maxQ_le.2 ⟨delta_top (hL i).isD (hL (i+1)).isD h0,delta_top (hL (i+1)).isD (hL i).isD h0⟩⟩
end
end Go.Proofs.YtigapglmipmbeaaGreatDoor
namespace Go.Proofs.YtigapglmipmbeaaGreatDoor
open Go.RowKit Go.Shelf
open Lim
structure Made9 (l:List L2):Prop where
 len:l.length≤12
 key:∀ x∈l,x.1.size≤12
 txt:∀ x∈l,x.2.size≤24
 dst:Dst 289 l
theorem Made9.short {l:List L2} (h:Made9 l):Short l:=fun x hx=>⟨Nat.le_trans (h.key x hx) (by omega),Nat.le_trans (h.txt x hx) (by omega)⟩
theorem Made9.of {lss outs:List (List L2)} (h:madeD 12 12 24 lss=some outs):outs.length=lss.length∧∀ d∈outs,Made9 d:=by
 obtain ⟨h1,h2⟩:=madeD_spec h
 refine ⟨h1,fun d hd=>?_⟩
 obtain ⟨h3,h4⟩:=h2 d hd
 obtain ⟨l1,l2⟩:=lightD_iff.1 h3
 exact ⟨l1,fun x hx=>(l2 x hx).1,fun x hx=>(l2 x hx).2,h4⟩
theorem factor_text {f:ByteArray} (h:factorB f=true):∃ F:Rat,f=rT F∧1≤F∧Sz 12 F∧fits F=true:=by
 obtain ⟨h1,h2,h3⟩:=factorB_ok h
 have hs:=sz_of_text h2 (k:=12) (by rw [← size_list];exact h1)
 exact ⟨_,(IsT.of h2).1,h3,hs,fits_sz.2 (hs.mono (by unfold maxD;omega))⟩
theorem near_fit {L:Nat→List L2} {F:Rat} (hL:∀ i,Dst 289 (L i)) (h0:0≤F) (sF:Sz 12 F) (k:Nat):fits (nearQ L F k)=true:=fits_sz.2 ((near_sz hL h0 sF k).mono (by unfold maxD;omega))
theorem least9_pair {L:Nat→List L2} {F:Rat} (hL:∀ i,Dst 289 (L i)) (h0:0≤F) (_h1:1≤F) (sF:Sz 12 F) (i:Nat) (u v:Value) (w:World) (hu:LRow w u (L i)) (hv:LRow w v (L (i+1))) (su:Short (L i)) (sv:Short (L (i+1))) (hr:Res w) :
  Calls Tryz.prog 68 #[u,v,.string (rT F)] w fun e w'=>e=.returned (.agg #[.string (rT F),.string (rT (nearQ L F i))])∧Below w.heap.size w w':=by
 have fF:fits F=true:=fits_sz.2 (sF.mono (by unfold maxD;omega))
 obtain ⟨x1,x2⟩:=deltaX_fit (hL i) (hL (i+1)) (f:=rT F) (err_rT fF) (by rw [val_rT fF];exact h0) (by rw [val_rT fF];exact sF) (by unfold maxD;omega) (by omega)
 obtain ⟨y1,y2⟩:=deltaX_fit (hL (i+1)) (hL i) (f:=rT F) (err_rT fF) (by rw [val_rT fF];exact h0) (by rw [val_rT fF];exact sF) (by unfold maxD;omega) (by omega)
 rw [val_rT fF] at x1 x2 y1 y2
 exact least9_any _ _ u v _ _ _ w hu hv su sv (size_ok (err_rT fF)) hr x1 y1 (isT_rT x2) (isT_rT y2)
end Go.Proofs.YtigapglmipmbeaaGreatDoor
namespace Go.Proofs.YtigapglmipmbeaaGreatDoor
open Lim
section
variable {l m:List L2} (hl:Dst 385 l) (hm:Dst 385 m)
include hl hm
end
end Go.Proofs.YtigapglmipmbeaaGreatDoor
namespace Go.Proofs.YtigapglmipmbeaaGreatDoor
open Go.RowKit Go.Shelf
open Lim
attribute [local go_sem] Oper.semAt_some
theorem LRow.src {w:World} {b o n c:Nat} {ls:List L2} (h:LRow w (.slice (some ⟨b,o,none⟩) n c) ls) (h0:0 < ls.length):∀ j u,(cellsM ls)[j]?=some u→w.cell? ((⟨b,o,none⟩:Addr).add j)=some u:=by
 obtain ⟨A,c',e,_,hc⟩:=h
 simp only [Value.slice.injEq] at e
 obtain ⟨b',o',e2,_,hcell⟩:=hc h0
 rw [← e.1] at e2
 simp only [Option.some.injEq,Addr.mk.injEq] at e2
 obtain ⟨rfl,rfl,_⟩:=e2
 intro j u hu
 have hj:j < ls.length*2:=by rw [← cellsM_length];exact (List.getElem?_eq_some_iff.1 hu).1
 obtain ⟨x,hx⟩:∃ x,ls[j / 2]?=some x:=⟨_,List.getElem?_eq_getElem (by omega)⟩
 obtain ⟨c0,c1⟩:=hcell _ _ hx
 obtain ⟨m0,m1⟩:=cellsM_at hx
 rw [addr_add0]
 rcases Nat.mod_two_eq_zero_or_one j with h|h
 ·rw [show j / 2*2=j by omega] at c0 m0
  rw [m0] at hu;cases hu;exact c0
 ·rw [show o+j / 2*2+1=o+j by omega] at c1
  rw [show j / 2*2+1=j by omega] at m1
  rw [m1] at hu;cases hu;exact c1
theorem OwnM.ofPos {base:Nat} {w:World} {v:Value} {ls:List L2} (h:OwnM base w v ls) (h0:0 < ls.length):∃ g c,v=.slice (some ⟨g,0,none⟩) ls.length c∧base≤g:=by
 rcases h.2 with ⟨_,e⟩|⟨g,cap,cur,e,hb,_⟩
 ·omega
 ·exact ⟨g,cap,e,hb⟩
theorem OwnM.cell {base g n c k:Nat} {w:World} {ls:List L2} {x:L2} (h:OwnM base w (.slice (some ⟨g,0,none⟩) n c) ls) (hx:ls[k]?=some x):w.cell? ⟨g,k*2,none⟩=some (.string x.1)∧w.cell? ⟨g,k*2+1,none⟩=some (.string x.2)∧g < w.heap.size:=by
 obtain ⟨c0,c1⟩:=cellsM_at hx
 have r0:=World.ownsRow.cells h (g:=g) rfl _ _ c0
 have r1:=World.ownsRow.cells h (g:=g) rfl _ _ c1
 rw [addr_add0,Nat.zero_add] at r0 r1
 exact ⟨r0,r1,(World.ownsRow.lt h g rfl).2⟩
theorem OwnM.frozen {base g n c:Nat} {w:World} {ls:List L2} (h:OwnM base w (.slice (some ⟨g,0,none⟩) n c) ls) (j:Nat):w.frozen? ⟨g,j,none⟩=false:=by
 rcases h.2 with ⟨h',_⟩|⟨g',cap',cur,h',_,hg,_⟩
 ·simp at h'
 ·simp only [Value.slice.injEq,Option.some.injEq,Addr.mk.injEq,and_true] at h'
  obtain ⟨rfl,_⟩:=h'
  exact frozen_of_row w g j cur _ hg
theorem OwnM.len {base g n c:Nat} {w:World} {ls:List L2} (h:OwnM base w (.slice (some ⟨g,0,none⟩) n c) ls):n=ls.length:=by
 rcases h.2 with ⟨h',_⟩|⟨g',cap',cur,h',_⟩
 ·simp at h'
 ·simp only [Value.slice.injEq] at h';exact h'.2.1
theorem cellsM_set1:∀ {l:List L2} {k:Nat} {y:L2} (s:ByteArray),l[k]?=some y→cellsM (l.set k (s,y.2))=(cellsM l).set (k*2) (.string s)
 | [],k,y,s,h=>by simp at h
 | x::l,0,y,s,h=>by
  simp only [List.getElem?_cons_zero,Option.some.injEq] at h
  subst h
  rfl
 | x::l,k+1,y,s,h=>by
  rw [List.set_cons_succ,cellsM_cons,cellsM_cons,cellsM_set1 s (by simpa using h),show (k+1)*2=k*2+1+1 by omega,List.set_cons_succ,List.set_cons_succ]
theorem OwnM.set1 {base g n c k:Nat} {w:World} {ls:List L2} {y:L2} (s:ByteArray) (h:OwnM base w (.slice (some ⟨g,0,none⟩) n c) ls) (hy:ls[k]?=some y) :
  OwnM base (w.setCell ⟨g,k*2,none⟩ (.string s)) (.slice (some ⟨g,0,none⟩) n c) (ls.set k (s,y.2))∧w.grownBy (w.setCell ⟨g,k*2,none⟩ (.string s)) (some g):=by
 obtain rfl:=h.len
 obtain ⟨r1,r2⟩:=World.ownsRow.stored h (k*2) (.string s)
 refine ⟨?_,r2⟩
 unfold OwnM
 rw [List.length_set,cellsM_set1 s hy]
 exact r1
def scaleR (done:List L2) (r:Except Nat (List L2)):Except Nat (List L2):=match r with
 | .error n=>.error n
 | .ok m=>.ok (done++m)
theorem scaleR_nil (r:Except Nat (List L2)):scaleR [] r=r:=by cases r<;>rfl
theorem scaleX_err {x:L2} {l:List L2} {b:ByteArray} {n:Nat} (h:mulX x.2 b=.error n):scaleX (x::l) b=.error n:=by simp only [scaleX,h]
theorem scaleX_go {x:L2} {l done:List L2} {b p:ByteArray} (h:mulX x.2 b=.ok p):scaleR done (scaleX (x::l) b)=scaleR (done++[(x.1,p)]) (scaleX l b):=by
 simp only [scaleX,h]
 cases scaleX l b with
 | error n=>rfl
 | ok m=>simp [scaleR]
theorem scaleX_ne {b:ByteArray}:∀ {l:List L2} {n:Nat},scaleX l b=.error n→n≠0
 | [],n,h=>by cases h
 | x::l,n,h=>by
  unfold scaleX at h
  split at h
  ·rename_i m hm;cases h;exact exQ_err hm
  ·split at h
   ·rename_i m hm;cases h;exact scaleX_ne hm
   ·cases h
theorem scaleX_len {b:ByteArray}:∀ {l m:List L2},scaleX l b=.ok m→m.length=l.length
 | [],m,h=>by cases h;rfl
 | x::l,m,h=>by
  unfold scaleX at h
  split at h
  ·cases h
  ·split at h
   ·cases h
   ·rename_i r hr
    cases h
    rw [List.length_cons,List.length_cons,scaleX_len hr]
end Go.Proofs.YtigapglmipmbeaaGreatDoor
namespace Go.Proofs.YtigapglmipmbeaaGreatDoor
open Go.RowKit Go.Shelf
end Go.Proofs.YtigapglmipmbeaaGreatDoor
namespace Go.Proofs.YtigapglmipmbeaaGreatDoor
open Go.RowKit Go.Shelf
open Lim
attribute [local go_sem] Oper.semAt_some
def LaterW.lift {w0:World} (z:LaterW w0) (z':LaterW z.W):LaterW w0:=⟨z'.W,z.h.trans (z'.h.mono z.h.size)⟩
theorem make_short {d l:List L2} (h:makeX l=.ok d) (hl:Short l) (h2:l.length≤1000):Short d∧d.length≤1000:=⟨Short.make h hl,make_len h h2⟩
end Go.Proofs.YtigapglmipmbeaaGreatDoor
namespace Go.Proofs.YtigapglmipmbeaaGreatDoor
open Go.RowKit Go.Shelf
open Lim
theorem wpIn_region_wide {F:Fence} {n:Nat} {P:Program} {id:Nat} {Q:Exit→Act→World→Prop} {a:Act} {w0:World} {l:List Oper} (x:LaterW w0) (hro:F.round=none) (hm:P.follows .mixedOrders=true) (hB:Region.lexB .any l.toArray=true)
  (h:wpQuietIn F n P l.toArray (fun W=>∃ x:LaterW w0,W=x.W) (fun a'=>∀ W,(∃ x:LaterW w0,W=x.W)→Q .normal a' W) l a):(Code.region id l.toArray true).wpIn F n P Q a x.W :=
 wpIn_region_quiet (C:=fun W=>∃ x:LaterW w0,W=x.W) hro hm hB ⟨⟨{ x.W with drawn:=x.W.drawn+1 },x.h.trans ⟨rfl,rfl,rfl,Nat.le_refl _,fun _ _=>rfl⟩⟩,rfl⟩ (by simpa using h)
theorem firstL_two (x y:L2):firstL [x,y]=if errL x.1 x.2≠0 then errL x.1 x.2 else errL y.1 y.2:=by
 unfold firstL
 congr 1
 obtain ⟨f,d⟩:=y
 exact firstL_one f d
theorem foldR_two {op:LQ→LQ→Except Nat LQ} (hop:∀ a,OkL a→op noneL a=.ok a) {x y:L2} (h:firstL [x,y]=0):foldR op [x,y]=op (valL x) (valL y):=by
 unfold foldR
 rw [if_neg (by omega)]
 have hx:=(errL_zero (firstL_zero.1 h x (by simp))).ok
 simp only [List.map_cons,List.map_nil,foldE]
 rw [show op noneL (valL x)=.ok (valL x) from hop _ hx]
 dsimp only
 cases op (valL x) (valL y)<;>rfl
theorem ends_idleI (n:Nat) (p:Addr) (w:World) :
  CallsDIn Fence.wide n Tryz.prog 163 #[.pointer (some p)] .returning w fun e u' w'=>e=.returned (.tuple #[])∧u'=.returning∧w'=w:=by
 refine callsDIn_of_wpSIn Tryz.func163 rfl trivial fun c₀ cs hu=>?_
 apply wpSIn_seq
 apply wpSIn_region
 simp [wpOpsSIn,go_sem,recoverD,hu,Tryz.ntmps163,Exit.thenS,Array.replicate_succ,Array.replicate_zero]
 refine wpSIn_of_wpIn rfl ?_
 gi_wp2
 cases c₀
 simp_all [bodyPostS,results,Tryz.results163]
section
variable {fn:Func} {tmps:Array Value} {R:Ending→World→Prop} {b n:Nat} {w:World}
theorem door_retI {v:Value} (hr:(results fn tmps).run Tryz.prog w=.ok v w) (hR:R (.returned v) w) :
  LeavesIn Fence.wide n Tryz.prog fn tmps R [{ target:=Target.fn (Fn.func 163) #[],args:=#[.pointer (some ⟨b,0,none⟩)] }] .returning w:=by
 refine leavesIn_cons (f:=163) (args:=#[.pointer (some ⟨b,0,none⟩)]) (by simp) (fun h=>by cases h) (by simp [go_sem]) (fun _ _=>trivial) ?_
 refine (ends_idleI _ _ _).mono ?_
 rintro e u' w'' ⟨rfl,rfl,rfl⟩
 exact ⟨v,hr,hR⟩
end
def lateR (f d u:ByteArray):Except Nat LQ:=if errL f d≠0 then .error (errL f d) else if errQ u.data.toList≠0 then .error (errQ u.data.toList) else
 if cmpQ (valQ u.data.toList) 0 < 0∨cmpQ (valQ u.data.toList) 1 > 0 then .error 2 else lateL (valL (f,d)) (valQ u.data.toList)
theorem late_err1 (f d u:ByteArray) (w:World) (h1:f.size≤270000) (h2:d.size≤270000) (_h3:u.size≤270000) (hr:Res w) (hL:errL f d≠0) :
  Calls Tryz.prog 74 #[.agg #[.string f,.string d],.string u] w fun e w'=>e=.returned (resL (.error (errL f d)))∧Below w.heap.size w w':=by
 have H0:=At3.new w 63 63 32 #[.string f,.string d] #[.string ⟨#[]⟩,.string ⟨#[]⟩] #[.int .i64 0] hr
 obtain ⟨a1,a2,a3⟩:=at3_row1 H0
 rw [show (((w.alloc (.cells #[.string f,.string d] 63)).alloc (.cells #[.string ⟨#[]⟩,.string ⟨#[]⟩] 63)).alloc (.cells #[.int .i64 0] 32)).heap.size=w.heap.size+1+1+1 by simp] at a2
 have HV:=Lib.hid (valid_run _ _ _ a2 (short_one h1 h2) a3)
 rw [firstL_one] at HV
 have H1:=Lib.hid (H0.later a1)
 rw [endV_no hL] at HV
 generalize errL f d=n at HV
 clear H0 a1 a2 a3 h1 h2 hr hL
 go_enter_defers Tryz.func74,Tryz.ntmps74
 go_wp2_with (go_at_call 164;refine HV.out.mono ?_;rintro e w1 ⟨rfl,hb⟩;have H2:=Lib.hid (H1.out.later hb);clear hb)
 refine door_pan (v:=resL (.error n)) H2.out.c ?_
 intro W hB hk hbel
 exact ⟨run_cell_errno rfl rfl (load_loss (hk _ _ _ (by omega) H2.out.b)) rfl hB,rfl,hbel _ _ (le2 _) H2.out.below⟩
theorem late_err2 (f d u:ByteArray) (w:World) (h1:f.size≤270000) (h2:d.size≤270000) (h3:u.size≤270000) (hr:Res w) (hL:errL f d=0) (hU:errQ u.data.toList≠0) :
  Calls Tryz.prog 74 #[.agg #[.string f,.string d],.string u] w fun e w'=>e=.returned (resL (.error (errQ u.data.toList)))∧Below w.heap.size w w':=by
 have H0:=At3.new w 63 63 32 #[.string f,.string d] #[.string ⟨#[]⟩,.string ⟨#[]⟩] #[.int .i64 0] hr
 obtain ⟨a1,a2,a3⟩:=at3_row1 H0
 rw [show (((w.alloc (.cells #[.string f,.string d] 63)).alloc (.cells #[.string ⟨#[]⟩,.string ⟨#[]⟩] 63)).alloc (.cells #[.int .i64 0] 32)).heap.size=w.heap.size+1+1+1 by simp] at a2
 have HV:=Lib.hid (valid_run _ _ _ a2 (short_one h1 h2) a3)
 rw [firstL_one] at HV
 have H1:=Lib.hid (H0.later a1)
 rw [hL] at HV
 have HCK:=Lib.hid (fun w hr=>ratCheck_any u w h3 hr)
 have HN:=Lib.hid hU
 generalize errQ u.data.toList=n at HCK HN
 clear H0 a1 a2 a3 h1 h2 h3 hr hL hU
 go_enter_defers Tryz.func74,Tryz.ntmps74
 go_wp2_with (first
  | (go_at_call 164;refine HV.out.mono ?_;rintro e w1 ⟨rfl,hb⟩;rw [endV_ok];have H2:=Lib.hid (H1.out.later hb);clear hb)
  | (go_at_call 138;refine (HCK.out _ H2.out.res).mono ?_;rintro e w2 ⟨rfl,hb⟩;have H3:=Lib.hid (H2.out.later hb);clear hb)
  | (go_at_call 168;refine (mustI_no _ _ _ HN.out).mono ?_;rintro e w3 ⟨rfl,hw⟩;subst hw))
 refine door_pan (v:=resL (.error n)) H3.out.c ?_
 intro W hB hk hbel
 exact ⟨run_cell_errno rfl rfl (load_loss (hk _ _ _ (by omega) H3.out.b)) rfl hB,rfl,hbel _ _ (le2 _) H3.out.below⟩
theorem late_rng1 (f d u:ByteArray) (w:World) (h1:f.size≤270000) (h2:d.size≤270000) (_h3:u.size≤270000) (hr:Res w) (hL:errL f d=0) (hU:IsT u (valQ u.data.toList)) (c1:cmpQ (valQ u.data.toList) 0 < 0) :
  Calls Tryz.prog 74 #[.agg #[.string f,.string d],.string u] w fun e w'=>e=.returned (resL (.error 2))∧Below w.heap.size w w':=by
 have H0:=At3.new w 63 63 32 #[.string f,.string d] #[.string ⟨#[]⟩,.string ⟨#[]⟩] #[.int .i64 0] hr
 obtain ⟨a1,a2,a3⟩:=at3_row1 H0
 rw [show (((w.alloc (.cells #[.string f,.string d] 63)).alloc (.cells #[.string ⟨#[]⟩,.string ⟨#[]⟩] 63)).alloc (.cells #[.int .i64 0] 32)).heap.size=w.heap.size+1+1+1 by simp] at a2
 have HV:=Lib.hid (valid_run _ _ _ a2 (short_one h1 h2) a3)
 rw [firstL_one] at HV
 have H1:=Lib.hid (H0.later a1)
 rw [hL] at HV
 have HCK:=Lib.hid (fun w hr=>checkT (p:=valQ u.data.toList) w hU hr)
 have HC1:=Lib.hid (fun w hr=>lorder_any w hU IsT.zero hr)
 have HC2:=Lib.hid (fun w hr=>lorder_any w hU IsT.one hr)
 generalize cmpQ (valQ u.data.toList) 0=x1 at *
 generalize cmpQ (valQ u.data.toList) 1=x2 at *
 have g1:decide (x1 < 0)=true:=decide_eq_true c1
 have TK1:True:=trivial
 clear H0 a1 a2 a3 h1 h2 hr hL hU c1
 go_enter_defers Tryz.func74,Tryz.ntmps74
 go_wp2_with (first
  | (go_at_call 164;refine HV.out.mono ?_;rintro e w1 ⟨rfl,hb⟩;rw [endV_ok];have H2:=Lib.hid (H1.out.later hb);clear hb)
  | (go_at_call 138;refine (HCK.out _ H2.out.res).mono ?_;rintro e w2 ⟨rfl,hb⟩;have H3:=Lib.hid (H2.out.later hb);clear hb)
  | (go_at_call 168;refine (mustI_ok _ _).mono ?_;rintro e w3 ⟨rfl,hw⟩;subst hw)
  | (clear TK1;go_at_call 169;refine (HC1.out _ H3.out.res).mono ?_;rintro e w4 ⟨rfl,hb⟩;have H4:=Lib.hid (H3.out.later hb);obtain ⟨q0,q1⟩:=cells2 H4.out.b;have y0:=H4.out.b.frozen 0;have y1:=H4.out.b.frozen 1;have ce:=cell0 H4.out.c;have ze:=H4.out.c.frozen 0;obtain ⟨p0,p1⟩:=cells2 H4.out.a;clear hb))
 have hb2:=((H4.out.b.set_ 0 (.string ⟨#[]⟩)).set_ 1 (.string ⟨#[]⟩)).far (p:=⟨w.heap.size+1+1,0,none⟩) (by show w.heap.size+1≠w.heap.size+1+1;omega) (.int .i64 2)
 have hc2:=(H4.out.c.two_far (b:=w.heap.size+1) (x:=.string ⟨#[]⟩) (y:=.string ⟨#[]⟩) (by omega)).set_ 0 (.int .i64 2)
 refine door_ret (v:=resL (.error 2)) (run_cell_errno rfl rfl (load_loss hb2) rfl hc2) ⟨rfl,?_⟩
 exact ((H4.out.below.setCell (Nat.le_succ _) _).setCell (Nat.le_succ _) _).setCell (le2 _) _
theorem late_rng2 (f d u:ByteArray) (w:World) (h1:f.size≤270000) (h2:d.size≤270000) (_h3:u.size≤270000) (hr:Res w) (hL:errL f d=0) (hU:IsT u (valQ u.data.toList)) (c1:¬ cmpQ (valQ u.data.toList) 0 < 0) (c2:cmpQ (valQ u.data.toList) 1 > 0) :
  Calls Tryz.prog 74 #[.agg #[.string f,.string d],.string u] w fun e w'=>e=.returned (resL (.error 2))∧Below w.heap.size w w':=by
 have H0:=At3.new w 63 63 32 #[.string f,.string d] #[.string ⟨#[]⟩,.string ⟨#[]⟩] #[.int .i64 0] hr
 obtain ⟨a1,a2,a3⟩:=at3_row1 H0
 rw [show (((w.alloc (.cells #[.string f,.string d] 63)).alloc (.cells #[.string ⟨#[]⟩,.string ⟨#[]⟩] 63)).alloc (.cells #[.int .i64 0] 32)).heap.size=w.heap.size+1+1+1 by simp] at a2
 have HV:=Lib.hid (valid_run _ _ _ a2 (short_one h1 h2) a3)
 rw [firstL_one] at HV
 have H1:=Lib.hid (H0.later a1)
 rw [hL] at HV
 have HCK:=Lib.hid (fun w hr=>checkT (p:=valQ u.data.toList) w hU hr)
 have HC1:=Lib.hid (fun w hr=>lorder_any w hU IsT.zero hr)
 have HC2:=Lib.hid (fun w hr=>lorder_any w hU IsT.one hr)
 generalize cmpQ (valQ u.data.toList) 0=x1 at *
 generalize cmpQ (valQ u.data.toList) 1=x2 at *
 have g1:decide (x1 < 0)=false:=decide_eq_false c1
 have g2:decide (0 < x2)=true:=decide_eq_true c2
 have TK1:True:=trivial
 clear H0 a1 a2 a3 h1 h2 hr hL hU c1 c2
 go_enter_defers Tryz.func74,Tryz.ntmps74
 go_wp2_with (first
  | (go_at_call 164;refine HV.out.mono ?_;rintro e w1 ⟨rfl,hb⟩;rw [endV_ok];have H2:=Lib.hid (H1.out.later hb);clear hb)
  | (go_at_call 138;refine (HCK.out _ H2.out.res).mono ?_;rintro e w2 ⟨rfl,hb⟩;have H3:=Lib.hid (H2.out.later hb);clear hb)
  | (go_at_call 168;refine (mustI_ok _ _).mono ?_;rintro e w3 ⟨rfl,hw⟩;subst hw)
  | (clear TK1;go_at_call 169;refine (HC1.out _ H3.out.res).mono ?_;rintro e w4 ⟨rfl,hb⟩;have H4:=Lib.hid (H3.out.later hb);clear hb)
  | (go_at_call 169;refine (HC2.out _ H4.out.res).mono ?_;rintro e w5 ⟨rfl,hb⟩;have H5:=Lib.hid (H4.out.later hb);obtain ⟨q0,q1⟩:=cells2 H5.out.b;have y0:=H5.out.b.frozen 0;have y1:=H5.out.b.frozen 1;have ce:=cell0 H5.out.c;have ze:=H5.out.c.frozen 0;obtain ⟨p0,p1⟩:=cells2 H5.out.a;clear hb))
 have hb2:=((H5.out.b.set_ 0 (.string ⟨#[]⟩)).set_ 1 (.string ⟨#[]⟩)).far (p:=⟨w.heap.size+1+1,0,none⟩) (by show w.heap.size+1≠w.heap.size+1+1;omega) (.int .i64 2)
 have hc2:=(H5.out.c.two_far (b:=w.heap.size+1) (x:=.string ⟨#[]⟩) (y:=.string ⟨#[]⟩) (by omega)).set_ 0 (.int .i64 2)
 refine door_ret (v:=resL (.error 2)) (run_cell_errno rfl rfl (load_loss hb2) rfl hc2) ⟨rfl,?_⟩
 exact ((H5.out.below.setCell (Nat.le_succ _) _).setCell (Nat.le_succ _) _).setCell (le2 _) _
theorem late_ok (f d u:ByteArray) (w:World) (h1:f.size≤270000) (h2:d.size≤270000) (_h3:u.size≤270000) (hr:Res w) (l:LQ) (q:Rat) (hl:LossIs f d l) (hU:IsT u q) (c1:¬ cmpQ q 0 < 0) (c2:¬ cmpQ q 1 > 0) (f1:fits (l.1+1)=true) (f2:fits ((l.1+1)*q)=true) (f3:fits (l.2+(l.1+1)*q)=true) :
  Calls Tryz.prog 74 #[.agg #[.string f,.string d],.string u] w fun e w'=>e=.returned (.tuple #[.agg #[.string f,.string (rT (minQ (l.2+(l.1+1)*q) 1))],.int .i64 0])∧Below w.heap.size w w':=by
 have H0:=At3.new w 63 63 32 #[.string f,.string d] #[.string ⟨#[]⟩,.string ⟨#[]⟩] #[.int .i64 0] hr
 obtain ⟨a1,a2,a3⟩:=at3_row1 H0
 rw [show (((w.alloc (.cells #[.string f,.string d] 63)).alloc (.cells #[.string ⟨#[]⟩,.string ⟨#[]⟩] 63)).alloc (.cells #[.int .i64 0] 32)).heap.size=w.heap.size+1+1+1 by simp] at a2
 have HV:=Lib.hid (valid_run _ _ _ a2 (short_one h1 h2) a3)
 rw [firstL_one] at HV
 have H1:=Lib.hid (H0.later a1)
 rw [hl.err] at HV
 have HCK:=Lib.hid (fun w hr=>checkT w hU hr)
 have HC1:=Lib.hid (fun w hr=>lorder_any w hU IsT.zero hr)
 have HC2:=Lib.hid (fun w hr=>lorder_any w hU IsT.one hr)
 have HA1:=Lib.hid (fun w hr=>addT w hl.f IsT.one (isT_rT f1) hr)
 have HM1:=Lib.hid (fun w hr=>mulT w (isT_rT f1) hU (isT_rT f2) hr)
 have HA2:=Lib.hid (fun w hr=>addT w hl.d (isT_rT f2) (isT_rT f3) hr)
 have HLim:=Lib.hid (fun (w:World) hr=>limited_any (f:=f) w (isT_rT f3) hr)
 have hfd:=field_bound
 generalize cmpQ q 0=x1 at *
 generalize cmpQ q 1=x2 at *
 generalize rT (l.1+1)=t1 at *
 generalize rT (minQ (l.2+(l.1+1)*q) 1)=t4 at *
 generalize rT (l.2+(l.1+1)*q)=t3 at *
 generalize rT ((l.1+1)*q)=t2 at *
 have g1:decide (x1 < 0)=false:=decide_eq_false c1
 have g2:decide (0 < x2)=false:=decide_eq_false c2
 have TK1:True:=trivial
 have TK2:True:=trivial
 have TK3:True:=trivial
 clear H0 a1 a2 a3 h1 h2 hr hl hU c1 c2 f1 f2 f3
 refine (callsIn_wide (n:=3)).1 ?_
 have h1:1≤3:=by omega
 have hmx:Tryz.prog.follows .mixedOrders=true:=by kernel_rfl
 refine callsIn_of_wp_defers Tryz.func74 rfl trivial ?_ rfl
 simp only [Tryz.ntmps74,List.size_toArray,List.length_cons,List.length_nil,Nat.reduceAdd,Nat.reduceSub,Array.replicate_succ,Array.replicate_zero,List.push_toArray,List.append_toArray,List.nil_append,List.cons_append]
 gi_upto_region 7 with (first
  | (refine ⟨trivial,?_⟩;gi_at_call 164;refine (callsIn_wide.2 (HV.out)).mono ?_;rintro e w2 ⟨rfl,hb⟩;have H2:=Lib.hid (H1.out.later hb);clear hb)
  | (refine ⟨trivial,?_⟩;gi_at_call 138;refine (callsIn_wide.2 (HCK.out _ H2.out.res)).mono ?_;rintro e w3 ⟨rfl,hb⟩;have H3:=Lib.hid (H2.out.later hb);clear hb)
  | (refine ⟨trivial,?_⟩;gi_at_call 168;refine (callsIn_wide.2 (mustI_ok _ _)).mono ?_;rintro e w9 ⟨rfl,hw⟩;subst hw)
  | (clear TK1;refine ⟨trivial,?_⟩;gi_at_call 169;refine (callsIn_wide.2 (HC1.out _ H3.out.res)).mono ?_;rintro e w4 ⟨rfl,hb⟩;have H4:=Lib.hid (H3.out.later hb);clear hb)
  | (refine ⟨trivial,?_⟩;gi_at_call 169;refine (callsIn_wide.2 (HC2.out _ H4.out.res)).mono ?_;rintro e w5 ⟨rfl,hb⟩;have H5:=Lib.hid (H4.out.later hb);obtain ⟨p0,p1⟩:=cells2 H5.out.a;clear hb)
  | (refine ⟨trivial,?_⟩;gi_at_call 107;refine (callsIn_wide.2 (HA1.out _ H5.out.res)).mono ?_;rintro e w6 ⟨rfl,hb⟩;have H6:=Lib.hid (H5.out.later hb);clear hb)
  | (clear TK2;refine ⟨trivial,?_⟩;gi_at_call 165;refine (callsIn_wide.2 (mustN_ok _ _)).mono ?_;rintro e w8 ⟨rfl,hw⟩;subst hw)
  | (refine ⟨trivial,?_⟩;gi_at_call 130;refine (callsIn_wide.2 (HM1.out _ H6.out.res)).mono ?_;rintro e w7 ⟨rfl,hb⟩;have H7:=Lib.hid (H6.out.later hb);clear hb)
  | (clear TK3;refine ⟨trivial,?_⟩;gi_at_call 165;refine (callsIn_wide.2 (mustN_ok _ _)).mono ?_;rintro e w8 ⟨rfl,hw⟩;subst hw))
 clear p0 p1
 have H:=H7.out
 have hla:=H.a.lt
 obtain ⟨x0,x1⟩:=same_two (S:=fun k=>k < w8.heap.size∧k≠w.heap.size+1∧k≠w.heap.size+1+1) H.a ⟨hla,by omega,by omega⟩
 clear H hla
 have HRD:=Lib.hid (H7.out.res.below (below_drew (Below.refl w8.heap.size w8)))
 refine wpIn_stage (IsSame w8 (fun k=>k < w8.heap.size∧k≠w.heap.size+1∧k≠w.heap.size+1+1)) [0,1,2,3,4,6,7,10] [] hmx (by kernel_rfl) (isSame_of fun _ _=>rfl) ?_
 change wpStage _ _ _ _ _ _ _ _ (8+5) _ _ _
 refine stage_reads [0,1,2,3,4] 8 _ _ (by kernel_rfl) ?_
 change wpQuietIn _ _ _ _ (fun W'=>∃ x:SameAt w8 (fun k=>k < w8.heap.size∧k≠w.heap.size+1∧k≠w.heap.size+1+1),W'=x.W) _ _ _
 simp only [pick_cons,pick_nil,List.getElem?_cons_zero,List.getElem?_cons_succ,Option.elim_some]
 repeat (gi_big_quiet_step (fail))
 refine wpQuietIn_nil ?_
 refine stage_one 5 (by kernel_rfl) rfl ?_
 gi_wp2
 refine ⟨trivial,?_⟩
 refine (callsIn_wide.2 (HA2.out _ HRD.out)).mono ?_
 rintro e w10 ⟨rfl,hb⟩
 have HB1:=Lib.hid (show Below w8.heap.size w8 w10 from below_undrew hb)
 clear hb
 gi_wp2
 refine stage_post (isSame_below HB1.out (fun k hk=>hk.1)) ?_
 change wpStage _ _ _ _ _ _ _ _ (5+2) _ _ _
 refine stage_reads [6,7] 5 _ _ (by kernel_rfl) ?_
 change wpQuietIn _ _ _ _ (fun W'=>∃ x:SameAt w8 (fun k=>k < w8.heap.size∧k≠w.heap.size+1∧k≠w.heap.size+1+1),W'=x.W) _ _ _
 simp only [pick_cons,pick_nil,List.getElem?_cons_zero,List.getElem?_cons_succ,Option.elim_some]
 repeat (gi_big_quiet_step (fail))
 refine wpQuietIn_nil ?_
 refine stage_one 8 (by kernel_rfl) rfl ?_
 gi_wp2
 refine ⟨trivial,?_⟩
 refine (callsIn_wide.2 (mustN_ok _ _)).mono ?_
 rintro e w11 ⟨rfl,hw⟩
 subst hw
 gi_wp2
 refine stage_post (isSame_below HB1.out (fun k hk=>hk.1)) ?_
 refine stage_one 9 (by kernel_rfl) rfl ?_
 gi_wp2
 refine ⟨trivial,?_⟩
 refine (callsIn_wide.2 (HLim.out _ (H7.out.res.below HB1.out))).mono ?_
 rintro e w12 ⟨rfl,hb⟩
 have HB2:=Lib.hid (HB1.out.trans (hb.mono HB1.out.size))
 clear hb
 gi_wp2
 refine stage_post (isSame_below HB2.out (fun k hk=>hk.1)) ?_
 change wpStage _ _ _ _ _ _ _ _ (2+1) _ _ _
 refine stage_reads [10] 2 _ _ (by kernel_rfl) ?_
 change wpQuietIn _ _ _ _ (fun W'=>∃ x:SameAt w8 (fun k=>k < w8.heap.size∧k≠w.heap.size+1∧k≠w.heap.size+1+1),W'=x.W) _ _ _
 simp only [pick_cons,pick_nil,List.getElem?_cons_zero,List.getElem?_cons_succ,Option.elim_some]
 repeat (gi_big_quiet_step (fail))
 refine wpQuietIn_nil ?_
 have H12:=Lib.hid (H7.out.later HB2.out)
 obtain ⟨r0,r1⟩:=cells2 H12.out.b
 have y0:=H12.out.b.frozen 0
 have y1:=H12.out.b.frozen 1
 have ce:=cell0 H12.out.c
 have ze:=H12.out.c.frozen 0
 refine stage_one 11 (by kernel_rfl) rfl ?_
 gi_wp2
 refine stage_post (isSame_of fun k hk=>(set2_heap hk.2.1).trans (HB2.out.block k hk.1)) ?_
 refine stage_one 12 (by kernel_rfl) rfl ?_
 gi_wp2
 refine stage_post (isSame_of fun k hk=>(Below.heap_setCell _ ⟨w.heap.size+1+1,0,none⟩ _ _ hk.2.2).trans ((set2_heap hk.2.1).trans (HB2.out.block k hk.1))) ?_
 refine stage_done (by kernel_rfl) ?_
 gi_wp2
 have hb2:=(H12.out.b.two_set (x:=.string f) (y:=.string t4)).far (p:=⟨w.heap.size+1+1,0,none⟩) (by show w.heap.size+1≠w.heap.size+1+1;omega) (.int .i64 0)
 have hc2:=(H12.out.c.two_far (b:=w.heap.size+1) (x:=.string f) (y:=.string t4) (by omega)).set_ 0 (.int .i64 0)
 refine door_retI (v:=.tuple #[.agg #[.string f,.string t4],.int .i64 0]) (run_cell_errno rfl rfl (load_loss hb2) rfl hc2) ⟨rfl,?_⟩
 exact ((H12.out.below.setCell (Nat.le_succ _) _).setCell (Nat.le_succ _) _).setCell (le2 _) _
theorem lossLate_any (f d u:ByteArray) (w:World) (h1:f.size≤270000) (h2:d.size≤270000) (h3:u.size≤270000) (hr:Res w) (hfit:errL f d=0→errQ u.data.toList=0→fits ((valL (f,d)).1+1)=true∧fits (((valL (f,d)).1+1)*valQ u.data.toList)=true∧fits ((valL (f,d)).2+((valL (f,d)).1+1)*valQ u.data.toList)=true) :
  Calls Tryz.prog 74 #[.agg #[.string f,.string d],.string u] w fun e w'=>e=.returned (resL (lateR f d u))∧Below w.heap.size w w':=by
 unfold lateR
 by_cases hL:errL f d=0
 ·rw [if_neg (by omega)]
  by_cases hU:errQ u.data.toList=0
  ·rw [if_neg (by omega)]
   by_cases c1:cmpQ (valQ u.data.toList) 0 < 0
   ·rw [if_pos (.inl c1)];exact late_rng1 f d u w h1 h2 h3 hr hL (IsT.of hU) c1
   by_cases c2:cmpQ (valQ u.data.toList) 1 > 0
   ·rw [if_pos (.inr c2)];exact late_rng2 f d u w h1 h2 h3 hr hL (IsT.of hU) c1 c2
   rw [if_neg (by omega)]
   obtain ⟨f1,f2,f3⟩:=hfit hL hU
   have hl:=errL_zero hL
   have hx:=late_ok f d u w h1 h2 h3 hr (valL (f,d)) _ hl (IsT.of hU) c1 c2 f1 f2 f3
   have e:resL (lateL (valL (f,d)) (valQ u.data.toList))=.tuple #[.agg #[.string f,.string (rT (minQ ((valL (f,d)).2+((valL (f,d)).1+1)*valQ u.data.toList) 1))],.int .i64 0]:=by
    have hf:f=rT (valL (f,d)).1:=hl.f.text
    unfold lateL
    rw [ovr_ok f1]
    dsimp only
    rw [ovr_ok f2]
    dsimp only
    rw [ovr_ok f3]
    show Value.tuple #[lossT _,_]=_
    unfold lossT
    dsimp only
    rw [← hf]
   rw [e]
   exact hx
  ·rw [if_pos hU];exact late_err2 f d u w h1 h2 h3 hr hL hU
 ·rw [if_pos hL];exact late_err1 f d u w h1 h2 h3 hr hL
def litB (m:Bool) (ln ld l:List UInt8) (q:Rat):Bool :=
 NForm ln&&NForm ld&&decide (dv ld≠0)&&decide ((dv ln).gcd (dv ld)=1)&&(!m || decide (dv ln≠0))&&decide (ln.length≤100)&&decide (ld.length≤100) &&
  decide (mkQ m (dv ln) (dv ld)=q)&&decide ((if m then [45] else [])++ln++(if dv ld=1 then [] else 47::ld)=l)
theorem isT_lit (m:Bool) (ln ld:List UInt8) {l:List UInt8} {q:Rat} (h:litB m ln ld l q=true):IsT ⟨l.toArray⟩ q∧Sz 100 q:=by
 unfold litB at h
 simp only [Bool.and_eq_true,decide_eq_true_eq,Bool.or_eq_true,Bool.not_eq_true'] at h
 obtain ⟨⟨⟨⟨⟨⟨⟨⟨h1,h2⟩,h3⟩,h4⟩,h5⟩,h6⟩,h7⟩,h8⟩,h9⟩:=h
 have e1:=NForm.eq h1
 have e2:=NForm.eq h2
 have hm:m=true→dv ln≠0:=fun hm=>by
  rcases h5 with h5|h5
  ·rw [hm] at h5;cases h5
  ·exact h5
 obtain ⟨p1,p2,p3⟩:=mkQ_low (m:=m) h3 h4
 have hs:Sz 100 q:=by
  rw [← h8,sz_iff (by decide),p1,p2,← Lib.decDigits_length,← Lib.decDigits_length,e1,e2]
  exact ⟨h6,h7⟩
 refine ⟨⟨?_,hs.mono (by decide)⟩,hs⟩
 rw [← h8,text_q h3 h4 hm,e1,e2,h9]
theorem fits_lit {q:Rat} (h:decide (nm q < 10 ^ 60∧q.den < 10 ^ 60)=true):fits q=true :=
 have h2:nm q < 10 ^ 60∧q.den < 10 ^ 60:=of_decide_eq_true h
 fits_sz.2 (Sz.mono (j:=60) h2 (by decide))
theorem t_3_2:IsT ⟨#[51,47,50]⟩ (3/2):=(isT_lit false [51] [50] (by decide +kernel)).1
theorem t_1_10:IsT ⟨#[49,47,49,48]⟩ (1/10):=(isT_lit false [49] [49,48] (by decide +kernel)).1
theorem valL_is {f d:ByteArray} {l:LQ} (h:LossIs f d l):valL (f,d)=l:=by
 unfold valL
 rw [h.f.val,h.d.val]
theorem firstL_is {f d f' d':ByteArray} {a b:LQ} (ha:LossIs f d a) (hb:LossIs f' d' b):firstL [(f,d),(f',d')]=0:=by
 rw [firstL_two];dsimp only;rw [ha.err,hb.err];rfl
theorem addX {f d f' d' x y:ByteArray} {a b:LQ} (ha:LossIs f d a) (hb:LossIs f' d' b) (hx:IsT x (a.1*b.1)) (h2:fits (a.2+b.2)=true) (hy:IsT y (minQ (a.2+b.2) 1)) :
  resL (foldR plusL [(f,d),(f',d')])=.tuple #[.agg #[.string x,.string y],.int .i64 0]:=by
 rw [foldR_two (fun a ha=>plusL_none ha) (firstL_is ha hb),valL_is ha,valL_is hb,plusL_ok hx.fits h2]
 unfold resL lossT
 dsimp only
 rw [← hx.text,← hy.text]
theorem groupX {f d x y:ByteArray} {l:LQ} {k:Nat} {p s:Rat} (hl:LossIs f d l) (hk:k≤50) (hp:powsum l.1 k=.ok (p,s)) (hx:IsT x p) (h2:fits (l.2*s)=true) (hy:IsT y (minQ (l.2*s) 1)) :
  resL (groupR f d (k:Int))=.tuple #[.agg #[.string x,.string y],.int .i64 0]:=by
 unfold groupR
 rw [if_neg (by rw [hl.err];decide),if_neg (by omega),valL_is hl,Int.toNat_natCast]
 unfold groupL
 rw [hp]
 dsimp only
 rw [ovr_ok h2]
 unfold resL lossT
 dsimp only
 rw [← hx.text,← hy.text]
theorem lateX {f d u x:ByteArray} {l:LQ} {q:Rat} (hl:LossIs f d l) (hu:IsT u q) (h0:0≤q) (h1:q≤1) (f1:fits (l.1+1)=true) (f2:fits ((l.1+1)*q)=true) (f3:fits (l.2+(l.1+1)*q)=true) (hx:IsT x (minQ (l.2+(l.1+1)*q) 1)) :
  resL (lateR f d u)=.tuple #[.agg #[.string f,.string x],.int .i64 0]:=by
 unfold lateR
 rw [if_neg (by rw [hl.err];decide),if_neg (by rw [hu.err];decide),hu.val,if_neg,valL_is hl]
 ·unfold lateL
  rw [ovr_ok f1]
  dsimp only
  rw [ovr_ok f2]
  dsimp only
  rw [ovr_ok f3]
  unfold resL lossT
  dsimp only
  rw [← hx.text,← hl.f.text]
 ·rw [cmpQ_lt,cmpQ_gt]
  intro h
  rcases h with h|h<;>grind
theorem exa:LossIs ⟨#[51,47,50]⟩ ⟨#[49,47,49,48]⟩ (3/2,1/10):=⟨t_3_2,t_1_10,by decide +kernel,by decide +kernel,by decide +kernel⟩
theorem t_2:IsT ⟨#[50]⟩ 2:=(isT_lit false [50] [49] (by decide +kernel)).1
theorem exb:LossIs ⟨#[50]⟩ ⟨#[48]⟩ (2,0):=⟨t_2,IsT.zero,by decide +kernel,by decide +kernel,by decide +kernel⟩
theorem ex_add:resL (foldR plusL [(⟨#[51,47,50]⟩,⟨#[49,47,49,48]⟩),(⟨#[50]⟩,⟨#[48]⟩)])=.tuple #[.agg #[.string ⟨#[51]⟩,.string ⟨#[49,47,49,48]⟩],.int .i64 0] :=
 addX exa exb (by rw [show ((3/2,1/10):LQ).1*((2,0):LQ).1=3 by decide +kernel];exact (isT_lit false [51] [49] (by decide +kernel)).1)
  (fits_lit (by decide +kernel)) (by rw [show minQ (((3/2,1/10):LQ).2+((2,0):LQ).2) 1=1/10 by decide +kernel];exact t_1_10)
theorem pow2:powsum (3/2) 2=.ok (9/4,5/2):=by
 have h0:powsum (3/2) 0=.ok (1,0):=rfl
 have h1:=powsum_ok (p:=1) (s:=0) h0 (fits_lit (by decide +kernel)) (fits_lit (by decide +kernel))
 have h2:=powsum_ok h1 (fits_lit (by decide +kernel)) (fits_lit (by decide +kernel))
 rw [show (1*(3/2)*(3/2):Rat)=9/4 by decide +kernel,show (0+1+1*(3/2):Rat)=5/2 by decide +kernel] at h2
 exact h2
theorem ex_group:resL (groupR ⟨#[51,47,50]⟩ ⟨#[49,47,49,48]⟩ 2)=.tuple #[.agg #[.string ⟨#[57,47,52]⟩,.string ⟨#[49,47,52]⟩],.int .i64 0] :=
 groupX (k:=2) exa (by decide) pow2 (isT_lit false [57] [52] (by decide +kernel)).1 (fits_lit (by decide +kernel))
  (by rw [show minQ (((3/2,1/10):LQ).2*(5/2)) 1=1/4 by decide +kernel];exact (isT_lit false [49] [52] (by decide +kernel)).1)
theorem t_1_100:IsT ⟨#[49,47,49,48,48]⟩ (1/100):=(isT_lit false [49] [49,48,48] (by decide +kernel)).1
theorem ex_late:resL (lateR ⟨#[50]⟩ ⟨#[48]⟩ ⟨#[49,47,49,48,48]⟩)=.tuple #[.agg #[.string ⟨#[50]⟩,.string ⟨#[51,47,49,48,48]⟩],.int .i64 0] :=
 lateX exb t_1_100 (by decide +kernel) (by decide +kernel) (fits_lit (by decide +kernel)) (fits_lit (by decide +kernel)) (fits_lit (by decide +kernel))
  (by rw [show minQ (((2,0):LQ).2+(((2,0):LQ).1+1)*(1/100)) 1=3/100 by decide +kernel];exact (isT_lit false [51] [49,48,48] (by decide +kernel)).1)
def Held (W:World) (L:List (Nat × ByteArray × ByteArray)):Prop:=∀ x∈L,Blk W x.1 63 #[.string x.2.1,.string x.2.2]
theorem Held.later {W W':World} {L:List (Nat × ByteArray × ByteArray)} (h:Held W L) (hb:Below W.heap.size W W'):Held W' L:=fun x hx=>(h x hx).below hb (h x hx).lt
theorem Held.push {W:World} {L:List (Nat × ByteArray × ByteArray)} (h:Held W L) (x y:ByteArray):Held (W.alloc (.cells #[.string x,.string y] 63)) ((W.heap.size,x,y)::L):=by
 intro z hz
 rcases List.mem_cons.1 hz with rfl|hz
 ·exact Blk.new W _ _
 ·exact (h z hz).alloc _
theorem Held.at {W:World} {L:List (Nat × ByteArray × ByteArray)} (h:Held W L) {b:Nat} {x y:ByteArray} (hm:(b,x,y)∈L):W.cell? ⟨b,0,none⟩=some (.string x)∧W.cell? ⟨b,1,none⟩=some (.string y)∧b < W.heap.size :=
 ⟨(cells2 (h _ hm)).1,(cells2 (h _ hm)).2,(h _ hm).lt⟩
theorem llives_any (w:World) (hr:Res w):Calls Tryz.prog 65 #[] w fun e w'=>e=.returned (.bool true)∧Below w.heap.size w w':=by
 have H0:=At2.new w 63 63 #[.string ⟨#[51,47,50]⟩,.string ⟨#[49,47,49,48]⟩] #[.string ⟨#[50]⟩,.string ⟨#[48]⟩] hr
 have D0:=Lib.hid (show Held ((w.alloc (.cells #[.string ⟨#[51,47,50]⟩,.string ⟨#[49,47,49,48]⟩] 63)).alloc (.cells #[.string ⟨#[50]⟩,.string ⟨#[48]⟩] 63)) [(w.heap.size,⟨#[51,47,50]⟩,⟨#[49,47,49,48]⟩),(w.heap.size+1,⟨#[50]⟩,⟨#[48]⟩)] from by
  intro x hx
  simp only [List.mem_cons,List.not_mem_nil,or_false] at hx
  rcases hx with rfl|rfl
  ·exact H0.a
  ·exact H0.b)
 have B0:=Lib.hid H0.below
 have R0:=Lib.hid H0.res
 have HA:=Lib.hid (fun (w:World) hr=>lossAdd_any ⟨#[51,47,50]⟩ ⟨#[49,47,49,48]⟩ ⟨#[50]⟩ ⟨#[48]⟩ w (by decide) (by decide) (by decide) (by decide) hr)
 have HG:=Lib.hid (fun (w:World) hr=>lossGroup_any ⟨#[51,47,50]⟩ ⟨#[49,47,49,48]⟩ 2 w (by decide) (by decide) hr)
 have HT:=Lib.hid (fun (w:World) hr=>lossLate_any ⟨#[50]⟩ ⟨#[48]⟩ ⟨#[49,47,49,48,48]⟩ w (by decide) (by decide) (by decide) hr (fun _ _=>by rw [valL_is exb,t_1_100.val];exact ⟨fits_lit (by decide +kernel),fits_lit (by decide +kernel),fits_lit (by decide +kernel)⟩))
 rw [ex_add] at HA
 rw [ex_group] at HG
 rw [ex_late] at HT
 clear H0 hr
 go_enter Tryz.func65,Tryz.ntmps65
 go_wp2_with (first
  | (go_at_call 69;refine (HA.out _ R0.out).mono ?_;rintro e w1 ⟨rfl,hb⟩;have D1:=Lib.hid (D0.out.later hb);have B1:=Lib.hid (B0.out.trans (hb.mono B0.out.size));have R1:=Lib.hid (R0.out.below hb);obtain ⟨c1_0a,c1_0b,c1_0l⟩:=D1.out.at (b:=w.heap.size) (x:=⟨#[51,47,50]⟩) (y:=⟨#[49,47,49,48]⟩) (by simp);obtain ⟨c1_1a,c1_1b,c1_1l⟩:=D1.out.at (b:=w.heap.size+1) (x:=⟨#[50]⟩) (y:=⟨#[48]⟩) (by simp);clear hb)
  | (go_at_call 71;refine (HG.out _ (R1.out.below (below_alloc (Below.refl _ _) _))).mono ?_;rintro e w2 ⟨rfl,hb⟩;have D2:=Lib.hid (Held.later (D1.out.push ⟨#[51]⟩ ⟨#[49,47,49,48]⟩) hb);have B2:=Lib.hid ((below_alloc B1.out (.cells #[.string ⟨#[51]⟩,.string ⟨#[49,47,49,48]⟩] 63)).trans (hb.mono (below_alloc B1.out (.cells #[.string ⟨#[51]⟩,.string ⟨#[49,47,49,48]⟩] 63)).size));have R2:=Lib.hid (Res.below ((R1.out.below (below_alloc (Below.refl _ _) (.cells #[.string ⟨#[51]⟩,.string ⟨#[49,47,49,48]⟩] 63)))) hb);obtain ⟨c2_0a,c2_0b,c2_0l⟩:=D2.out.at (b:=w.heap.size) (x:=⟨#[51,47,50]⟩) (y:=⟨#[49,47,49,48]⟩) (by simp);obtain ⟨c2_1a,c2_1b,c2_1l⟩:=D2.out.at (b:=w.heap.size+1) (x:=⟨#[50]⟩) (y:=⟨#[48]⟩) (by simp);obtain ⟨c2_2a,c2_2b,c2_2l⟩:=D2.out.at (b:=w1.heap.size) (x:=⟨#[51]⟩) (y:=⟨#[49,47,49,48]⟩) (by simp);clear hb)
  | (go_at_call 74;refine (HT.out _ (R2.out.below (below_alloc (Below.refl _ _) _))).mono ?_;rintro e w3 ⟨rfl,hb⟩;have D3:=Lib.hid (Held.later (D2.out.push ⟨#[57,47,52]⟩ ⟨#[49,47,52]⟩) hb);have B3:=Lib.hid ((below_alloc B2.out (.cells #[.string ⟨#[57,47,52]⟩,.string ⟨#[49,47,52]⟩] 63)).trans (hb.mono (below_alloc B2.out (.cells #[.string ⟨#[57,47,52]⟩,.string ⟨#[49,47,52]⟩] 63)).size));have R3:=Lib.hid (Res.below ((R2.out.below (below_alloc (Below.refl _ _) (.cells #[.string ⟨#[57,47,52]⟩,.string ⟨#[49,47,52]⟩] 63)))) hb);obtain ⟨c3_0a,c3_0b,c3_0l⟩:=D3.out.at (b:=w.heap.size) (x:=⟨#[51,47,50]⟩) (y:=⟨#[49,47,49,48]⟩) (by simp);obtain ⟨c3_1a,c3_1b,c3_1l⟩:=D3.out.at (b:=w.heap.size+1) (x:=⟨#[50]⟩) (y:=⟨#[48]⟩) (by simp);obtain ⟨c3_2a,c3_2b,c3_2l⟩:=D3.out.at (b:=w1.heap.size) (x:=⟨#[51]⟩) (y:=⟨#[49,47,49,48]⟩) (by simp);obtain ⟨c3_3a,c3_3b,c3_3l⟩:=D3.out.at (b:=w2.heap.size) (x:=⟨#[57,47,52]⟩) (y:=⟨#[49,47,52]⟩) (by simp);clear hb))
 go_ret
 exact ⟨rfl,below_alloc B3.out _⟩
end Go.Proofs.YtigapglmipmbeaaGreatDoor
namespace Go.Proofs.YtigapglmipmbeaaGreatDoor
open Go.RowKit Go.Shelf
open Lim
attribute [local go_sem] Oper.semAt_some wide_fn
end Go.Proofs.YtigapglmipmbeaaGreatDoor
namespace Go.Proofs.YtigapglmipmbeaaGreatDoor.RP
open Go.RowKit Go.Shelf Go.Proofs.YtigapglmipmbeaaGreatDoor
def ordPost {α:Type} (I:List α→World→Prop) (Ix:Code→List α→World→Prop) (xs:List α) (W:World):Exit→Act→World→Prop
 | .normal,_,W'=>KeepsOthers W W'∧I xs W'
 | .ret,_,W'=>KeepsOthers W W'∧Ix .ret xs W'
 | .exit id,_,W'=>KeepsOthers W W'∧Ix (.exit id) xs W'
 | .goto t,_,W'=>KeepsOthers W W'∧Ix (.goto t) xs W'
 | .panic _,_,_=>False
 | .outgrown,_,_=>False
def SeqOrd {α:Type} (F:Fence) (n:Nat) (P:Program) (g:Nat) (lb:Array Value) (encs:α→Array Value) (Nx:List α→α→World→Prop) (S:List α→Prop) (G:List α→World→Prop):Prop :=
 ∀ (l:Nat) (J Jx:List α→World→Prop) (W:World),(∀ pre W1,J pre W1→G pre W1)→AbidesFrom W.heap.size J→AbidesFrom W.heap.size Jx →
  (∀ pre x W1,J pre W1→Nx pre x W1→YieldAt F (n - 1) P l (encs x) W1 fun e W'=>(e=.returned (.bool true)∧J (pre++[x]) W')∨(e=.returned (.bool false)∧Jx (pre++[x]) W')) →
  J [] W →
  CallsIn F n P g (#[.func (.yield l) #[] #[]]++lb) W fun e W'=>(∃ v,e=.returned v)∧((∃ xs,S xs∧J xs W')∨(∃ pre x,Jx (pre++[x]) W'))
section
variable {F:Fence} {n:Nat} {P:Program}
def Books (rec:LoopState→Option Code→Loop) (D:Nat) (st:LoopState) (pe:Option Code) (W:World):Prop :=
 W.heap[D+1]?=some (.loop (rec st pe))∧W.heap[D]?=some (.deferred (some []))
theorem Books.abides {rec:LoopState→Option Code→Loop} {D B:Nat} {st:LoopState} {pe:Option Code} {W W':World} {row:Option Nat} (h:Books rec D st pe W) (hg:W.grownBy W' row)
  (hr:∀ r,row=some r→B≤r∧∃ o:Obj,W.heap[r]?=some o∧o.isWalk=true):Books rec D st pe W' :=
 ⟨(grownBy_keeps hg (fun r e=>(hr r e).2) h.1 rfl).trans h.1,(grownBy_keeps hg (fun r e=>(hr r e).2) h.2 rfl).trans h.2⟩
theorem Books.turned {rec:LoopState→Option Code→Loop} {D:Nat} {st:LoopState} {pe:Option Code} {W:World} (h:Books rec D st pe W) (o:Loop) :
  (W.putObj (D+1) (.loop o)).heap[D+1]?=some (.loop o)∧(W.putObj (D+1) (.loop o)).heap[D]?=some (.deferred (some []))∧Turn D W (W.putObj (D+1) (.loop o)) :=
 ⟨World.putObj_heap_same (Array.getElem?_eq_some_iff.1 h.1).1,(World.putObj_heap_other (by omega)).trans h.2,D+1,_,_,by omega,h.1,rfl,rfl⟩
theorem wpIn_range_ord {α:Type} {g:Operand} {ps:Array Tmp} {assign body:Code} {Q:Exit→Act→World→Prop} {a:Act} {w:World}
  (hro:F.round=none) (h1:1≤n) {gf:Nat} {lb:Array Value} (hg:a.eval g=.func (.func gf) #[] lb) (hFg:F.fn gf) (eg:∀ args w,(callFunc gf args).run P w=.ok (.enter gf args) w)
  {encs:α→Array Value} {Nx:List α→α→World→Prop} {S:List α→Prop} {G:List α→World→Prop} (hseq:SeqOrd F (n - 1) P gf lb encs Nx S G) (hps:∀ x,(encs x).size=ps.size)
  (I:List α→World→Prop) (Ix:Code→List α→World→Prop) (hG:∀ pre W,I pre W→G pre W) (hI:OwnFrom w.heap.size I) (hIx:∀ c,OwnFrom w.heap.size (Ix c)) (h0:I [] w)
  (hround:∀ (l:Nat) (pre:List α) (x:α) (W:World) (K:Act→World→Prop),I pre W→Nx pre x W →
   (∀ a' Wa,KeepsOthers W Wa→I pre Wa→(∀ Wb,Turn w.heap.size Wa Wb→I pre Wb→body.wpIn (F.inRound l) (n - 1 - 1) P (ordPost I Ix (pre++[x]) Wb) a' Wb)→K a' Wa) →
   assign.wpIn (F.inRound l) (n - 1 - 1) P (Exit.then K (fun _ _ _=>False)) { tmps:=(ps.zip (encs x)).foldl (fun t (p,v)=>t.setIfInBounds p v) a.tmps,defers:=[] } W)
  (hdone:∀ (D:Nat) (xs:List α) (W:World),w.heap.size≤D→S xs→I xs W→W.heap[D]?=some (.deferred (some []))→Q .normal { a with defers:={ target:=.collected D,args:=#[] }::a.defers } W)
  (hstop:∀ (D:Nat) (c:Code) (pre:List α) (x:α) (W:World),w.heap.size≤D→Ix c (pre++[x]) W→W.heap[D]?=some (.deferred (some []))→c.wpIn F n P Q { a with defers:={ target:=.collected D,args:=#[] }::a.defers } W) :
  (Code.rangeFunc g ps assign body).wpIn F n P Q a w:=by
 refine wpIn_rangeFunc ?_
 intro fn hfn
 rw [hro]
 obtain ⟨rec,hrec⟩:∃ rec:LoopState→Option Code→Loop,rec=fun st pe=>{ state:=st,pending:=pe,fn,tmps:=a.tmps,params:=ps,assign,body,defers:=w.heap.size }:=⟨_,rfl⟩
 obtain ⟨W1,hW1⟩:∃ W1,(w.alloc (.deferred (some []))).alloc (.loop (rec .ready none))=W1:=⟨_,rfl⟩
 have hb1:Books rec w.heap.size .ready none W1:=by
  subst hW1
  refine ⟨?_,(Below.heap_alloc _ _ _ (by simp)).trans (World.alloc_heap_new w _)⟩
  have:=World.alloc_heap_new (w.alloc (.deferred (some []))) (.loop (rec .ready none))
  rwa [World.size_alloc] at this
 have hI1:I [] W1:=by subst hW1;exact hI.alloc _ (hI.alloc _ h0)
 have hsz:w.heap.size≤W1.heap.size:=by subst hW1;simp;omega
 have enters:(Instr.enterLoop fn a.tmps ps assign body none).run P w=.ok (w.heap.size+1,[{ target:=.collected w.heap.size,args:=#[] }]) W1:=by
  rw [← hW1,hrec];exact run_enterLoop_outer _ _ _ _ _
 clear hW1
 have hnw:∀ {A:World} {row:Option Nat},(∀ r,row=some r→W1.heap.size≤r∧∃ o:Obj,A.heap[r]?=some o∧o.isWalk=true)→∀ r,row=some r→w.heap.size≤r∧∃ o:Obj,A.heap[r]?=some o∧o.isCells=false :=
  fun hr r e=>by obtain ⟨hB,o,ho,hw⟩:=hr r e;exact ⟨by omega,o,ho,Obj.not_cells_of_walk hw⟩
 refine ⟨w.heap.size+1,_,W1,{ target:=.fn (.func gf) lb,args:=#[.func (.yield (w.heap.size+1)) #[] #[]] },W1,gf,#[.func (.yield (w.heap.size+1)) #[] #[]]++lb,W1,enters,?_,?_,?_,fun _=>h1,?_⟩
 ·simp only [resolve,hg]
  simp [go_sem]
 ·intro f' hf';simp [Target.leads] at hf';subst hf';exact hFg
 ·simp [invoke,go_sem,eg]
 refine (hseq (w.heap.size+1) (fun pre W=>I pre W∧Books rec w.heap.size .ready none W) (fun pre W=>∃ c,Ix c pre W∧Books rec w.heap.size .done (some c) W) W1
  (fun pre W h=>hG pre W h.1)
  (fun s A A' row hs hg' hr=>⟨hI s A A' row hs.1 hg' (hnw hr),hs.2.abides hg' hr⟩)
  (fun s A A' row hs hg' hr=>by obtain ⟨c,hc,hk⟩:=hs;exact ⟨c,hIx c s A A' row hc hg' (hnw hr),hk.abides hg' hr⟩)
  ?_ ⟨hI1,hb1⟩).mono ?_
 ·rintro pre x W ⟨hi,hk⟩ hnx
  have hy:=run_yield (P:=P) (args:=encs x) hk.1 (by rw [hrec];exact hps x)
  rw [hrec] at hy
  refine ⟨fn,_,assign,body,hy,roundIn_of_wpIn hfn (hround _ pre x W _ hi hnx ?_)⟩
  clear hy
  intro a' Wa hka hia hbody
  have hka':Books rec w.heap.size .ready none Wa:=⟨hka.same _ _ hk.1 rfl,hka.same _ _ hk.2 rfl⟩
  refine ⟨_,run_beginRound hka'.1 (by rw [hrec]),?_⟩
  obtain ⟨t1,t2,t3⟩:=hka'.turned { rec .ready none with state:=.busy }
  refine wpIn_mono (hbody _ t3 (OwnFrom.turn hI hia t3)) ?_
  -- the round's end, by whatever jump
  have fin:∀ (jump:Option Code) (W3:World),KeepsOthers (Wa.putObj (w.heap.size+1) (.loop { rec .ready none with state:=.busy })) W3 →
    ∃ W4,(Instr.endRound (w.heap.size+1) jump).run P W3=.ok (.bool jump.isNone) W4∧Books rec w.heap.size (if jump.isNone then .ready else .done) jump W4∧Turn w.heap.size W3 W4:=by
   intro jump W3 hk3
   have b3:Books (fun _ _=>{ rec .ready none with state:=.busy }) w.heap.size .ready none W3:=⟨hk3.same _ _ t1 rfl,hk3.same _ _ t2 rfl⟩
   obtain ⟨u1,u2,u3⟩:=b3.turned (rec (if jump.isNone then .ready else .done) jump)
   refine ⟨_,?_,⟨u1,u2⟩,u3⟩
   have:=run_endRound (P:=P) jump b3.1
   rw [hrec] at this ⊢
   exact this
  intro e a3 W3 hp
  cases e with
  | normal=>obtain ⟨W4,r1,r2,r3⟩:=fin none W3 hp.1;exact ⟨_,_,r1,.inl ⟨rfl,OwnFrom.turn hI hp.2 r3,r2⟩⟩
  | ret=>obtain ⟨W4,r1,r2,r3⟩:=fin (some .ret) W3 hp.1;exact ⟨_,_,r1,.inr ⟨rfl,.ret,OwnFrom.turn (hIx _) hp.2 r3,r2⟩⟩
  | exit id=>obtain ⟨W4,r1,r2,r3⟩:=fin (some (.exit id)) W3 hp.1;exact ⟨_,_,r1,.inr ⟨rfl,.exit id,OwnFrom.turn (hIx _) hp.2 r3,r2⟩⟩
  | goto t=>obtain ⟨W4,r1,r2,r3⟩:=fin (some (.goto t)) W3 hp.1;exact ⟨_,_,r1,.inr ⟨rfl,.goto t,OwnFrom.turn (hIx _) hp.2 r3,r2⟩⟩
  | panic ch=>exact hp.elim
  | outgrown=>exact hp.elim
 ·rintro e W2 ⟨⟨v,rfl⟩,(⟨xs,hS,hi,hk⟩|⟨pre,x,c,hi,hk⟩)⟩
  ·have hend:=run_endLoop (P:=P) hk.1 (by rw [hrec];simp)
   obtain ⟨t1,t2,t3⟩:=hk.turned { rec .ready none with state:=.exhausted }
   rw [hrec] at hend t2 t3
   exact ⟨none,_,hend,hdone _ xs _ (Nat.le_refl _) hS (OwnFrom.turn hI hi t3) t2⟩
  ·have hend:=run_endLoop (P:=P) hk.1 (by rw [hrec];simp)
   obtain ⟨t1,t2,t3⟩:=hk.turned { rec .done (some c) with state:=.exhausted }
   rw [hrec] at hend t2 t3
   exact ⟨some c,_,hend,hstop _ c pre x _ (Nat.le_refl _) (OwnFrom.turn (hIx c) hi t3) t2⟩
end
end Go.Proofs.YtigapglmipmbeaaGreatDoor.RP
namespace Go.Proofs.YtigapglmipmbeaaGreatDoor
open Go.RowKit Go.Shelf
open Lim
attribute [local go_sem] Oper.semAt_some
def seqX:List (ByteArray × XE)→Except Nat (List L2)
 | []=>.ok []
 | x::l=>match x.2 with
  | .error n=>.error n
  | .ok p=>match seqX l with
   | .error n=>.error n
   | .ok m=>.ok ((x.1,p)::m)
theorem seqX_append:∀ (l r:List (ByteArray × XE)),seqX (l++r)=(match seqX l with|.error n=>.error n|.ok m=>match seqX r with|.error n=>.error n|.ok s=>.ok (m++s))
 | [],r=>by
  show seqX r=(match seqX r with|.error n=>.error n|.ok s=>.ok ([]++s))
  cases seqX r<;>rfl
 | x::l,r=>by
  have h:=seqX_append l r
  simp only [List.cons_append,seqX,h]
  cases x.2 with
  | error n=>rfl
  | ok p =>
   cases seqX l with
   | error n=>rfl
   | ok m=>cases seqX r<;>rfl
theorem scale_seq (k:ByteArray) (c:ByteArray):∀ b:List L2,(match scaleX b c with|.error n=>.error n|.ok m=>.ok (m.map fun y=>(joinT k y.1,y.2)))=seqX (b.map fun y=>(joinT k y.1,mulX y.2 c))
 | []=>rfl
 | y::b=>by
  have h:=scale_seq k c b
  simp only [List.map_cons,seqX,scaleX,← h]
  cases mulX y.2 c with
  | error n=>rfl
  | ok p=>cases scaleX b c<;>rfl
def pairsY (a b:List L2):List (ByteArray × XE):=a.flatMap fun x=>b.map fun y=>(joinT x.1 y.1,mulX y.2 x.2)
theorem pairX_seq (b:List L2):∀ a:List L2,pairX a b=seqX (pairsY a b)
 | []=>rfl
 | x::a=>by
  have h:=pairX_seq b a
  have h2:=scale_seq x.1 x.2 b
  show pairX (x::a) b=seqX ((b.map fun y=>(joinT x.1 y.1,mulX y.2 x.2))++pairsY a b)
  rw [seqX_append,← h2,← h]
  simp only [pairX]
  cases scaleX b x.2 with
  | error n=>rfl
  | ok m=>cases pairX a b<;>rfl
theorem pairsY_length (b:List L2):∀ a:List L2,(pairsY a b).length=a.length*b.length
 | []=>by simp [pairsY]
 | x::a=>by
  have h:=pairsY_length b a
  show ((b.map _)++pairsY a b).length=_
  rw [List.length_append,List.length_map,h,List.length_cons,Nat.succ_mul,Nat.add_comm]
theorem seqX_mem:∀ {l:List (ByteArray × XE)} {m:List L2},seqX l=.ok m→∀ x∈m,∃ y∈l,x.1=y.1∧y.2=.ok x.2
 | [],m,h,x,hx=>by cases h;cases hx
 | a::l,m,h,x,hx=>by
  unfold seqX at h
  split at h
  ·cases h
  ·rename_i p hp
   split at h
   ·cases h
   ·rename_i r hr
    cases h
    rcases List.mem_cons.1 hx with rfl|hx
    ·exact ⟨a,by simp,rfl,hp⟩
    ·obtain ⟨y,hy,e⟩:=seqX_mem hr x hx
     exact ⟨y,by simp [hy],e⟩
theorem pairX_short {a b l:List L2} (h:pairX a b=.ok l) (ka:∀ x∈a,x.1.size≤100000) (kb:∀ x∈b,x.1.size≤100000):Short l:=fun x hx=>by
 rw [pairX_seq] at h
 obtain ⟨y,hy,e1,e2⟩:=seqX_mem h x hx
 unfold pairsY at hy
 obtain ⟨u,hu,hy⟩:=List.mem_flatMap.1 hy
 obtain ⟨v,hv,rfl⟩:=List.mem_map.1 hy
 have h1:=ka u hu
 have h2:=kb v hv
 refine ⟨?_,size_ok (mulX_ok e2)⟩
 rw [e1]
 show (joinT u.1 v.1).size≤_
 unfold joinT
 rw [ByteArray.size_append,ByteArray.size_append]
 have:(⟨#[124]⟩:ByteArray).size=1:=rfl
 omega
end Go.Proofs.YtigapglmipmbeaaGreatDoor
namespace Go.Proofs.YtigapglmipmbeaaGreatDoor
open Lim
section
variable {p q r s x y:List L2}
end
end Go.Proofs.YtigapglmipmbeaaGreatDoor
namespace Go.Proofs.YtigapglmipmbeaaGreatDoor
open Go.RowKit
end Go.Proofs.YtigapglmipmbeaaGreatDoor
