/- The reference's round, Floor, Ceil, Sign (printed by mkrround.py). The reference's functions of numbers, as the plain model of chapter 8 speaks of them (printed by mkdref.py). The reference 08: Check, both, find, At, within, Same (printed by mkdref.py). A region that draws its order and only reads and calls what lays blocks of its own: one walk. A long region's order check, reckoned without an array of what has come: quick for the kernel. The reference's Power of natural numbers; odd. Powers that are too great. -/
import Derived.Test.YtigapglmipmbeaaGreatDoorRb14
import Derived.Test.YtigapglmipmbeaaGreatDoorRb10
import Derived.Test.YtigapglmipmbeaaGreatDoorRb08
import Derived.Test.YtigapglmipmbeaaGreatDoorRb11
import Derived.Test.YtigapglmipmbeaaGreatDoorRb01
import Derived.BigQuiet
import Derived.Below
import Derived.Test.YtigapglmipmbeaaGreatDoorRb09
import Derived.Laws.Bits128
set_option maxRecDepth 100000
set_option maxHeartbeats 16000000
namespace Go.Proofs.YtigapglmipmbeaaGreatDoor
open Go.RowKit Go.Shelf
open Lim
theorem refsign_zero (a:ByteArray) (q:Rat) (w:World) (ha:a.size≤270000) (he:errQ a.data.toList = 0) (hq:valQ a.data.toList = q) (h0:nm q = 0) :
  Calls Tryz.prog 110 #[.string a] w fun e w'=>e = .returned (.tuple #[.int .i64 0,.int .i64 0])∧Below w.heap.size w w':=by
 have HP:=Lib.hid (rq_any a w ha)
 have hne:((errQ a.data.toList:Int) == 0) = true:=by rw [he];rfl
 have HE:=Lib.hid he
 rw [hq] at HP
 have HF:=Lib.hid (fun (b:Bool) (N:Nat) (h:ng q = b∧nm q = N)=>show (((toL N).length:Int) == 0) = true∧b = b from ⟨by rw [len_zero,← h.2,decide_eq_true h0],rfl⟩)
 clear h0
 clear he hq
 go_enter Tryz.func110,Tryz.ntmps110
 go_wp2_with (go_at_call 155;refine HP.out.mono ?_;rintro e w1 ⟨v,rfl,hv,-,hb⟩;obtain ⟨bq,N,D,A,c,A',c',rfl,hn,hd,HQ⟩:=isQ_open (hv HE.out);have HB:=Lib.hid hb;have HX:=Lib.hid (below_alloc (Below.refl w1.heap.size w1) (.cells #[.bool bq,.slice A (toL N).length c,.slice A' (toL D).length c'] 170));have HBX:=Lib.hid (HB.out.trans (HX.out.mono HB.out.size));have HN:=Lib.hid (hn.below HX.out);have HD:=Lib.hid (hd.below HX.out);clear hb hv hn hd;obtain ⟨f1,f2⟩:=HF.out _ _ ⟨HQ.out.1,HQ.out.2.1⟩)
 all_goals first
  | (refine bodyPost_ret (results_tmp2 rfl _ _ _) rfl ?_;refine ⟨?_,HBX.out⟩;show Ending.returned (.tuple #[.int .i64 0,.int .i64 (errQ a.data.toList:Int)]) = _;rw [HE.out];rfl)
  | (exfalso;have:=HE.out;omega)
  | (exfalso;simp_all)
theorem refsign_neg (a:ByteArray) (q:Rat) (w:World) (ha:a.size≤270000) (he:errQ a.data.toList = 0) (hq:valQ a.data.toList = q) (h0:nm q≠0) (hb:ng q = true) :
  Calls Tryz.prog 110 #[.string a] w fun e w'=>e = .returned (.tuple #[.int .i64 (-1),.int .i64 0])∧Below w.heap.size w w':=by
 have HP:=Lib.hid (rq_any a w ha)
 have hne:((errQ a.data.toList:Int) == 0) = true:=by rw [he];rfl
 have HE:=Lib.hid he
 rw [hq] at HP
 have HF:=Lib.hid (fun (b:Bool) (N:Nat) (h:ng q = b∧nm q = N)=>show (((toL N).length:Int) == 0) = false∧b = true from ⟨by rw [len_zero,← h.2,decide_eq_false h0],h.1.symm.trans hb⟩)
 clear h0 hb
 clear he hq
 go_enter Tryz.func110,Tryz.ntmps110
 go_wp2_with (go_at_call 155;refine HP.out.mono ?_;rintro e w1 ⟨v,rfl,hv,-,hb⟩;obtain ⟨bq,N,D,A,c,A',c',rfl,hn,hd,HQ⟩:=isQ_open (hv HE.out);have HB:=Lib.hid hb;have HX:=Lib.hid (below_alloc (Below.refl w1.heap.size w1) (.cells #[.bool bq,.slice A (toL N).length c,.slice A' (toL D).length c'] 170));have HBX:=Lib.hid (HB.out.trans (HX.out.mono HB.out.size));have HN:=Lib.hid (hn.below HX.out);have HD:=Lib.hid (hd.below HX.out);clear hb hv hn hd;obtain ⟨f1,f2⟩:=HF.out _ _ ⟨HQ.out.1,HQ.out.2.1⟩;subst f2)
 all_goals first
  | (refine bodyPost_ret (results_tmp2 rfl _ _ _) rfl ?_;exact ⟨rfl,HBX.out⟩)
  | (exfalso;have:=beq_eq_false_iff_ne.1 f1;omega)
  | (exfalso;simp_all)
theorem refsign_pos (a:ByteArray) (q:Rat) (w:World) (ha:a.size≤270000) (he:errQ a.data.toList = 0) (hq:valQ a.data.toList = q) (h0:nm q≠0) (hb:ng q = false) :
  Calls Tryz.prog 110 #[.string a] w fun e w'=>e = .returned (.tuple #[.int .i64 1,.int .i64 0])∧Below w.heap.size w w':=by
 have HP:=Lib.hid (rq_any a w ha)
 have hne:((errQ a.data.toList:Int) == 0) = true:=by rw [he];rfl
 have HE:=Lib.hid he
 rw [hq] at HP
 have HF:=Lib.hid (fun (b:Bool) (N:Nat) (h:ng q = b∧nm q = N)=>show (((toL N).length:Int) == 0) = false∧b = false from ⟨by rw [len_zero,← h.2,decide_eq_false h0],h.1.symm.trans hb⟩)
 clear h0 hb
 clear he hq
 go_enter Tryz.func110,Tryz.ntmps110
 go_wp2_with (go_at_call 155;refine HP.out.mono ?_;rintro e w1 ⟨v,rfl,hv,-,hb⟩;obtain ⟨bq,N,D,A,c,A',c',rfl,hn,hd,HQ⟩:=isQ_open (hv HE.out);have HB:=Lib.hid hb;have HX:=Lib.hid (below_alloc (Below.refl w1.heap.size w1) (.cells #[.bool bq,.slice A (toL N).length c,.slice A' (toL D).length c'] 170));have HBX:=Lib.hid (HB.out.trans (HX.out.mono HB.out.size));have HN:=Lib.hid (hn.below HX.out);have HD:=Lib.hid (hd.below HX.out);clear hb hv hn hd;obtain ⟨f1,f2⟩:=HF.out _ _ ⟨HQ.out.1,HQ.out.2.1⟩;subst f2)
 all_goals first
  | (refine bodyPost_ret (results_tmp2 rfl _ _ _) rfl ?_;exact ⟨rfl,HBX.out⟩)
  | (exfalso;have:=beq_eq_false_iff_ne.1 f1;omega)
  | (exfalso;simp_all)
theorem refSign_err (a:ByteArray) (w:World) (ha:a.size≤270000) (he:errQ a.data.toList≠0) :
  Calls Tryz.prog 110 #[.string a] w fun e w'=>e = .returned (.tuple #[.int .i64 0,.int .i64 (errQ a.data.toList:Int)])∧Below w.heap.size w w':=by
 have HP:=Lib.hid (rq_any a w ha)
 have hne:((errQ a.data.toList:Int) == 0) = false:=by rw [beq_eq_false_iff_ne];omega
 have HE:=Lib.hid he
 clear he
 go_enter Tryz.func110,Tryz.ntmps110
 go_wp2_with ((go_at_call 155;refine HP.out.mono ?_;rintro e w1 ⟨v,rfl,-,hz,hb⟩;obtain rfl:=hz HE.out;have HB:=Lib.hid hb;clear hb hz))
 all_goals first
  | (refine bodyPost_ret (results_tmp2 rfl _ _ _) rfl ?_;exact ⟨rfl,below_alloc HB.out _⟩)
  | (exfalso;have:=HE.out;omega)
  | (exfalso;simp_all)
theorem refSign_any (a:ByteArray) (w:World) (ha:a.size≤270000) :
  Calls Tryz.prog 110 #[.string a] w fun e w'=>e = .returned (resI (oneI (fun p=>(sgQ p,0)) a.data.toList))∧Below w.heap.size w w':=by
 unfold oneI
 by_cases he:errQ a.data.toList = 0
 ·rw [if_neg (by omega)]
  unfold resI sgQ
  dsimp only
  by_cases h0:nm (valQ a.data.toList) = 0
  ·rw [if_pos h0]
   exact refsign_zero a _ w ha he rfl h0
  ·rw [if_neg h0]
   cases hb:ng (valQ a.data.toList) with
   | true=>exact refsign_neg a _ w ha he rfl h0 hb
   | false=>exact refsign_pos a _ w ha he rfl h0 hb
 ·rw [if_pos he]
  exact refSign_err a w ha he
end Go.Proofs.YtigapglmipmbeaaGreatDoor
namespace Go.Proofs.YtigapglmipmbeaaGreatDoor
open Go.RowKit Go.Shelf
open Lim
section
variable {a b:ByteArray} (ha:a.size≤270000) (hb:b.size≤270000)
include ha hb
theorem retRPlX:Ret 59 #[.string a,.string b] (resX (plX a b)):=fun w _=>by
 unfold plX
 rw [← resX_ex (plX_t a b)]
 exact refAdd_any a b w ha hb
theorem retRSubX:Ret 61 #[.string a,.string b] (resX (subX a b)):=fun w _=>by
 unfold subX
 rw [← resX_ex (subX_t a b)]
 exact refSub_any a b w ha hb
theorem retRMulX:Ret 149 #[.string a,.string b] (resX (mulX a b)):=fun w _=>by
 unfold mulX
 rw [← resX_ex (mulX_t a b)]
 exact refMul_any a b w ha hb
end
theorem retRSign {a:ByteArray} (ha:a.size≤270000):Ret 110 #[.string a] (.tuple #[.int .i64 (if errQ a.data.toList≠0 then 0 else sgQ (valQ a.data.toList)),.int .i64 (errQ a.data.toList:Int)]):=fun w _=>by
 refine (refSign_any a w ha).mono ?_
 rintro e w' ⟨rfl,h⟩
 refine ⟨?_,h⟩
 unfold oneI resI
 split
 ·rfl
 ·rename_i h0
  rw [show errQ a.data.toList = 0 from Classical.byContradiction h0]
theorem retRSign_err {a:ByteArray} (ha:a.size≤270000) (h:errQ a.data.toList≠0):Ret 110 #[.string a] (.tuple #[.int .i64 0,.int .i64 (errQ a.data.toList:Int)]):=by
 have:=retRSign ha
 rwa [if_pos h] at this
theorem retRSign_ok {a:ByteArray} (ha:a.size≤270000) (h:errQ a.data.toList = 0):Ret 110 #[.string a] (.tuple #[.int .i64 (sgQ (valQ a.data.toList)),.int .i64 0]):=by
 have:=retRSign ha
 rw [if_neg (by simpa using h),h] at this
 exact this
theorem posE_err {p:ByteArray} (h:errQ p.data.toList≠0):posE p = errQ p.data.toList:=if_pos h
end Go.Proofs.YtigapglmipmbeaaGreatDoor
namespace Go.Proofs.YtigapglmipmbeaaGreatDoor
open Go.RowKit Go.Shelf
open Lim
attribute [local go_sem] Oper.semAt_some
theorem rdcheck_any (ls:List L2) (v:Value) (w:World) (hv:LRow w v ls) (hs:Short ls) (hr:Res w) :
  Calls Tryz.prog 37 #[v] w fun e w'=>e = .returned (.int .i64 (chkD ls:Int))∧Below w.heap.size w w':=by
 have HV:=Lib.hid hv
 obtain ⟨A,c,rfl,hlen,hcells⟩:=hv
 have HS:=Lib.hid hs
 have H0:=Lib.hid (NW.refl hr)
 clear hr hcells hs
 go_enter Tryz.func37,Tryz.ntmps37
 go_wp2
 go_loopw [3] (fun v3 wr=>∃ k:Nat,k≤ls.length∧v3 = .int .i64 (k:Int)∧Hid (chkL none ls = chkL (keyAt ls k) (ls.drop k))∧Hid (NW w wr)) (fun v3 _=>ls.length - (intOf v3).toNat)
 case atStart=>exact ⟨0,Nat.zero_le _,rfl,Lib.hid (by simp [keyAt]),H0⟩
 case round =>
  clear H0
  obtain ⟨k,hk,rfl,HE,HN⟩:=hrel
  by_cases hlt:k < ls.length
  ·obtain ⟨x,hx⟩:∃ x,ls[k]? = some x:=⟨_,List.getElem?_eq_getElem hlt⟩
   obtain ⟨b,o,c',e',hb2,c0,c1⟩:=HV.out.at HN.out.below hx
   simp only [Value.slice.injEq,true_and] at e'
   obtain ⟨rfl,rfl⟩:=e'
   have hlt':(k:Int) < (ls.length:Int):=by omega
   have hsx:=(HS.out x (List.mem_of_getElem? hx)).2
   have HD:=Lib.hid (drop_of hx)
   have HLT:=Lib.hid (And.intro hlt hlt')
   have HXK:=Lib.hid hx
   obtain ⟨f,d⟩:=x
   dsimp only at c0 c1 HD HXK hsx
   clear hx hlt
   by_cases h0:errQ d.data.toList = 0
   ·have HSG:=Lib.hid (retRSign_ok hsx h0)
    by_cases h2:0 < valQ d.data.toList
    ·have d1:decide (sgQ (valQ d.data.toList)≤0) = false:=decide_eq_false (fun h=>by have:=(sg_gt _).2 h2;omega)
     have h1:posE d = 0:=posE_zero.2 ⟨h0,by grind⟩
     have HH:=Lib.hid (And.intro h1 h2)
     clear h0 h1 h2 hsx
     generalize sgQ (valQ d.data.toList) = sg at *
     rcases Nat.eq_zero_or_pos k with hk0 | hk0
     ·have HR:=Lib.hid (show chkL none ls = chkL (keyAt ls (k + 1)) (ls.drop (k + 1)) by
       rw [HE.out,HD.out,keyAt_succ HXK.out,hk0]
       exact chkL_go (x:=(f,d)) HH.out.1 HH.out.2 rfl)
      have d0:decide (0 < (k:Int)) = false:=decide_eq_false (by omega)
      have d0n:decide (0 < k) = false:=decide_eq_false (by omega)
      clear hk0
      go_wp2_with (go_at_call 110;refine (HSG.out _ HN.out.res).mono ?_;rintro e w3 ⟨rfl,hb⟩;have H3:=Lib.hid (HN.out.later hb);have hb3:=Nat.lt_of_lt_of_le hb2 hb.size;clear hb)
      go_quiet (fail)
      have H4:=Lib.hid (fun n=>H3.out.drewN n)
      go_wp2
      go_roundw
      case rel=>exact ⟨k + 1,HLT.out.1,by go_num,HR,H4.out _⟩
      case measure=>have:=HLT.out.1;simp [intOf];omega
     ·obtain ⟨j,hj⟩:∃ j,k = j + 1:=⟨k - 1,by omega⟩
      have hjl:(j:Int) < (ls.length:Int):=by have:=HLT.out.1;omega
      obtain ⟨y,hy⟩:∃ y,ls[j]? = some y:=⟨_,List.getElem?_eq_getElem (by omega)⟩
      have e1:(k:Int) - 1 = (j:Int):=by omega
      have d0:decide (0 < (k:Int)) = true:=decide_eq_true (by omega)
      have d0n:decide (0 < k) = true:=decide_eq_true (by omega)
      have HKJ:=Lib.hid hj
      clear hk0 hj
      have HYK:=Lib.hid hy
      cases h3:ltK y.1 f with
      | true =>
       have HR:=Lib.hid (show chkL none ls = chkL (keyAt ls (k + 1)) (ls.drop (k + 1)) by
        rw [HE.out,HD.out,keyAt_succ HXK.out,HKJ.out,keyAt_succ hy]
        exact chkL_go (x:=(f,d)) HH.out.1 HH.out.2 (by show (!ltK y.1 f) = false;rw [h3];rfl))
       have TL:=lt_bytes y.1 f
       rw [h3] at TL
       clear h3 hy
       go_wp2_with (go_at_call 110;refine (HSG.out _ HN.out.res).mono ?_;rintro e w3 ⟨rfl,hb⟩;have H3:=Lib.hid (HN.out.later hb);have hb3:=Nat.lt_of_lt_of_le hb2 hb.size;obtain ⟨hb4,q0,q1⟩:=HV.out.cell2 H3.out.below HXK.out;obtain ⟨hb5,p0,p1⟩:=HV.out.cell2 H3.out.below HYK.out;clear hb)
       go_quiet (fail)
       have H4:=Lib.hid (fun n=>H3.out.drewN n)
       go_wp2
       go_roundw
       case rel=>exact ⟨k + 1,HLT.out.1,by go_num,HR,H4.out _⟩
       case measure=>have:=HLT.out.1;simp [intOf];omega
      | false =>
       have HR:=Lib.hid (show chkL none ls = 9 by
        rw [HE.out,HD.out,HKJ.out,keyAt_succ hy]
        exact chkL_ord (x:=(f,d)) HH.out.1 HH.out.2 (by show (!ltK y.1 f) = true;rw [h3];rfl))
       have TL:=lt_bytes y.1 f
       rw [h3] at TL
       clear h3 hy
       go_wp2_with (go_at_call 110;refine (HSG.out _ HN.out.res).mono ?_;rintro e w3 ⟨rfl,hb⟩;have H3:=Lib.hid (HN.out.later hb);have hb3:=Nat.lt_of_lt_of_le hb2 hb.size;obtain ⟨hb4,q0,q1⟩:=HV.out.cell2 H3.out.below HXK.out;obtain ⟨hb5,p0,p1⟩:=HV.out.cell2 H3.out.below HYK.out;clear hb)
       go_quiet (fail)
       have H4:=Lib.hid (fun n=>H3.out.drewN n)
       go_wp2
       go_ret
       refine ⟨?_,(H4.out _).below⟩
       unfold chkD
       rw [HR.out]
       rfl
    ·have d1:decide (sgQ (valQ d.data.toList)≤0) = true:=decide_eq_true (Classical.byContradiction fun h=>h2 ((sg_gt _).1 (by omega)))
     have HR:=Lib.hid (show chkL none ls = 2 by
      rw [HE.out,HD.out]
      by_cases h1:posE d = 0
      ·exact chkL_low (x:=(f,d)) h1 h2
      ·rw [chkL_err (x:=(f,d)) h1]
       show posE d = 2
       unfold posE at h1 ⊢
       rw [if_neg (by simpa using h0)] at h1 ⊢
       split
       ·rfl
       ·rename_i h4;rw [if_neg h4] at h1;exact absurd rfl h1)
     generalize sgQ (valQ d.data.toList) = sg at *
     clear h0 h2 hsx
     go_wp2_with (go_at_call 110;refine (HSG.out _ HN.out.res).mono ?_;rintro e w3 ⟨rfl,hb⟩;have H3:=Lib.hid (HN.out.later hb);have hb3:=Nat.lt_of_lt_of_le hb2 hb.size;clear hb)
     go_ret
     refine ⟨?_,H3.out.below⟩
     unfold chkD
     rw [HR.out]
     rfl
   ·have HSG:=Lib.hid (retRSign_err hsx h0)
    have HR:=Lib.hid (show chkL none ls = errQ d.data.toList∧chkL none ls≠0 by
     rw [HE.out,HD.out,chkL_err (x:=(f,d)) (by show posE d≠0;rw [posE_err h0];exact h0)]
     show posE d = _∧posE d≠0
     rw [posE_err h0]
     exact ⟨rfl,h0⟩)
    have hm:=ne_zero h0
    clear h0 hsx
    go_wp2_with (go_at_call 110;refine (HSG.out _ HN.out.res).mono ?_;rintro e w3 ⟨rfl,hb⟩;have H3:=Lib.hid (HN.out.later hb);have hb3:=Nat.lt_of_lt_of_le hb2 hb.size;clear hb)
    go_ret
    refine ⟨?_,H3.out.below⟩
    unfold chkD
    rw [if_pos HR.out.2,HR.out.1]
    rfl
  ·have hlt':¬ (k:Int) < (ls.length:Int):=by omega
   obtain rfl:k = ls.length:=by omega
   have h0:chkL none ls = 0:=by
    have:=HE.out
    rw [List.drop_length] at this
    exact this
   have HQ:=Lib.hid (show chkD ls = chkS (foldX (fun x:L2=>.ok x.2) zT ls) by unfold chkD;rw [h0];rfl)
   have HER:=Lib.hid (errs_of h0)
   clear h0 hlt hk HE
   go_wp2
   go_loopw [6,8] (fun v6 v8 wq=>∃ (k:Nat) (s:ByteArray),k≤ls.length∧v8 = .int .i64 (k:Int)∧v6 = .string s∧Hid (errQ s.data.toList = 0∧foldX (fun x:L2=>(.ok x.2:XE)) zT ls = foldX (fun x:L2=>.ok x.2) s (ls.drop k))∧Hid (NW w wq)) (fun _ v8 _=>ls.length - (intOf v8).toNat)
   case atStart=>exact ⟨0,zT,Nat.zero_le _,rfl,rfl,Lib.hid ⟨err_zT,by simp⟩,HN⟩
   case round =>
    clear HN hlt'
    obtain ⟨k,s,hk,rfl,rfl,HE,HN⟩:=hrel
    by_cases hlt:k < ls.length
    ·obtain ⟨x,hx⟩:∃ x,ls[k]? = some x:=⟨_,List.getElem?_eq_getElem hlt⟩
     obtain ⟨b,o,c',e',hb2,c0,c1⟩:=HV.out.at HN.out.below hx
     simp only [Value.slice.injEq,true_and] at e'
     obtain ⟨rfl,rfl⟩:=e'
     have hlt':(k:Int) < (ls.length:Int):=by omega
     have HD:=Lib.hid (drop_of hx)
     have HLT:=Lib.hid (And.intro hlt hlt')
     have HA:=Lib.hid (retRPlX (size_ok HE.out.1) (HS.out x (List.mem_of_getElem? hx)).2)
     obtain ⟨f,d⟩:=x
     dsimp only at c0 c1 HD HA
     clear hx hlt
     cases ha:plX s d with
     | error n =>
      have HR:=Lib.hid (show foldX (fun x:L2=>(.ok x.2:XE)) zT ls = .error n by rw [HE.out.2,HD.out];exact foldX_err2 rfl ha)
      have hm:=ne_zero (exQ_err ha)
      rw [ha] at HA
      change Hid (Ret _ _ (.tuple #[.string ⟨#[]⟩,.int .i64 (n:Int)])) at HA
      clear ha
      go_wp2_with (go_at_call 59;refine (HA.out _ HN.out.res).mono ?_;rintro e w3 ⟨rfl,hb⟩;have H3:=Lib.hid (HN.out.later hb);clear hb)
      go_ret
      rw [HQ.out,HR.out]
      exact ⟨rfl,H3.out.below⟩
     | ok t =>
      have HR:=Lib.hid (show errQ t.data.toList = 0∧foldX (fun x:L2=>(.ok x.2:XE)) zT ls = foldX (fun x:L2=>.ok x.2) t (ls.drop (k + 1)) from ⟨plX_ok ha,by rw [HE.out.2,HD.out];exact foldX_ok rfl ha⟩)
      rw [ha] at HA
      change Hid (Ret _ _ (.tuple #[.string t,.int .i64 0])) at HA
      clear ha
      go_wp2_with (go_at_call 59;refine (HA.out _ HN.out.res).mono ?_;rintro e w3 ⟨rfl,hb⟩;have H3:=Lib.hid (HN.out.later hb);clear hb)
      go_roundw
      case rel=>exact ⟨k + 1,t,HLT.out.1,by go_num,rfl,HR,H3⟩
      case measure=>have:=HLT.out.1;simp [intOf];omega
    ·have hlt':¬ (k:Int) < (ls.length:Int):=by omega
     obtain rfl:k = ls.length:=by omega
     have HR:=Lib.hid (show foldX (fun x:L2=>(.ok x.2:XE)) zT ls = .ok s by
      have:=HE.out.2
      rwa [List.drop_length] at this)
     have TE:=eq_bytes s oT
     rw [oT_list] at TE
     rw [HR.out,chkS_ok] at HQ
     clear hlt
     by_cases h1:s = oT
     ·rw [decide_eq_true h1] at TE
      rw [if_pos h1] at HQ
      clear h1
      go_wp2
      go_ret
      rw [HQ.out]
      exact ⟨rfl,HN.out.below⟩
     ·rw [decide_eq_false h1] at TE
      rw [if_neg h1] at HQ
      clear h1
      go_wp2
      go_ret
      rw [HQ.out]
      exact ⟨rfl,HN.out.below⟩
end Go.Proofs.YtigapglmipmbeaaGreatDoor
namespace Go.Proofs.YtigapglmipmbeaaGreatDoor
open Go.RowKit
structure LaterW (w:World) where
 W:World
 h:Below w.heap.size w W
instance (w:World):Nonempty (LaterW w):=⟨⟨w,Below.refl _ _⟩⟩
end Go.Proofs.YtigapglmipmbeaaGreatDoor
namespace Go.Proofs.YtigapglmipmbeaaGreatDoor
open Go.RowKit
end Go.Proofs.YtigapglmipmbeaaGreatDoor
namespace Go.Proofs.YtigapglmipmbeaaGreatDoor
open Go.RowKit Go.Shelf
open Lim
end Go.Proofs.YtigapglmipmbeaaGreatDoor
namespace Go.Proofs.YtigapglmipmbeaaGreatDoor
open Go.RowKit Go.Shelf
open Lim
end Go.Proofs.YtigapglmipmbeaaGreatDoor
