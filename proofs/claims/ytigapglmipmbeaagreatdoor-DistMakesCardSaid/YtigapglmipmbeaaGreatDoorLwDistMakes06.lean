/- The reference's round, Floor, Ceil, Sign (printed by mkrround.py). The reference's functions of numbers, as the plain model of chapter 8 speaks of them (printed by mkdref.py). The reference 08: collect and Make (printed by mkdcoll.py). The reference 08: Check, both, find, At, within, Same (printed by mkdref.py). The reference 08: Make (printed by mkdcoll.py). Functions of rat on numbers whose result does not fit. The reference's Power of natural numbers; odd. Powers that are too great. The reference's Pow of rational numbers (printed by mkrpw.py). The reference's functions of two numbers, on texts of numbers. -/
import Derived.Test.YtigapglmipmbeaaGreatDoorLwDistMakes05
import Derived.Test.YtigapglmipmbeaaGreatDoorRb10
import Derived.Test.YtigapglmipmbeaaGreatDoorRb08
import Derived.Test.YtigapglmipmbeaaGreatDoorLwDistMakes02
import Derived.Test.YtigapglmipmbeaaGreatDoorLwDistMakes03
import Derived.Test.YtigapglmipmbeaaGreatDoorLwDistMakes01
import Derived.Test.YtigapglmipmbeaaGreatDoorRb09
import Derived.Laws.Bits128
set_option maxRecDepth 100000
set_option maxHeartbeats 16000000
namespace Go.Proofs.YtigapglmipmbeaaGreatDoor
open Go.RowKit Go.Shelf
open Lim
theorem refsign_zero (a:ByteArray) (q:Rat) (w:World) (ha:a.size≤270000) (he:errQ a.data.toList=0) (hq:valQ a.data.toList=q) (h0:nm q=0) :
  Calls Tryz.prog 110 #[.string a] w fun e w'=>e=.returned (.tuple #[.int .i64 0,.int .i64 0])∧Below w.heap.size w w':=by
 have HP:=Lib.hid (rq_any a w ha)
 have hne:((errQ a.data.toList:Int)==0)=true:=by rw [he];rfl
 have HE:=Lib.hid he
 rw [hq] at HP
 have HF:=Lib.hid (fun (b:Bool) (N:Nat) (h:ng q=b∧nm q=N)=>show (((toL N).length:Int)==0)=true∧b=b from ⟨by rw [len_zero,← h.2,decide_eq_true h0],rfl⟩)
 clear h0
 clear he hq
 go_enter Tryz.func110,Tryz.ntmps110
 go_wp2_with (go_at_call 155;refine HP.out.mono ?_;rintro e w1 ⟨v,rfl,hv,-,hb⟩;obtain ⟨bq,N,D,A,c,A',c',rfl,hn,hd,HQ⟩:=isQ_open (hv HE.out);have HB:=Lib.hid hb;have HX:=Lib.hid (below_alloc (Below.refl w1.heap.size w1) (.cells #[.bool bq,.slice A (toL N).length c,.slice A' (toL D).length c'] 170));have HBX:=Lib.hid (HB.out.trans (HX.out.mono HB.out.size));have HN:=Lib.hid (hn.below HX.out);have HD:=Lib.hid (hd.below HX.out);clear hb hv hn hd;obtain ⟨f1,f2⟩:=HF.out _ _ ⟨HQ.out.1,HQ.out.2.1⟩)
 all_goals first
  | (refine bodyPost_ret (results_tmp2 rfl _ _ _) rfl ?_;refine ⟨?_,HBX.out⟩;show Ending.returned (.tuple #[.int .i64 0,.int .i64 (errQ a.data.toList:Int)])=_;rw [HE.out];rfl)
  | (exfalso;have:=HE.out;omega)
  | (exfalso;simp_all)
theorem refsign_neg (a:ByteArray) (q:Rat) (w:World) (ha:a.size≤270000) (he:errQ a.data.toList=0) (hq:valQ a.data.toList=q) (h0:nm q≠0) (hb:ng q=true) :
  Calls Tryz.prog 110 #[.string a] w fun e w'=>e=.returned (.tuple #[.int .i64 (-1),.int .i64 0])∧Below w.heap.size w w':=by
 have HP:=Lib.hid (rq_any a w ha)
 have hne:((errQ a.data.toList:Int)==0)=true:=by rw [he];rfl
 have HE:=Lib.hid he
 rw [hq] at HP
 have HF:=Lib.hid (fun (b:Bool) (N:Nat) (h:ng q=b∧nm q=N)=>show (((toL N).length:Int)==0)=false∧b=true from ⟨by rw [len_zero,← h.2,decide_eq_false h0],h.1.symm.trans hb⟩)
 clear h0 hb
 clear he hq
 go_enter Tryz.func110,Tryz.ntmps110
 go_wp2_with (go_at_call 155;refine HP.out.mono ?_;rintro e w1 ⟨v,rfl,hv,-,hb⟩;obtain ⟨bq,N,D,A,c,A',c',rfl,hn,hd,HQ⟩:=isQ_open (hv HE.out);have HB:=Lib.hid hb;have HX:=Lib.hid (below_alloc (Below.refl w1.heap.size w1) (.cells #[.bool bq,.slice A (toL N).length c,.slice A' (toL D).length c'] 170));have HBX:=Lib.hid (HB.out.trans (HX.out.mono HB.out.size));have HN:=Lib.hid (hn.below HX.out);have HD:=Lib.hid (hd.below HX.out);clear hb hv hn hd;obtain ⟨f1,f2⟩:=HF.out _ _ ⟨HQ.out.1,HQ.out.2.1⟩;subst f2)
 all_goals first
  | (refine bodyPost_ret (results_tmp2 rfl _ _ _) rfl ?_;exact ⟨rfl,HBX.out⟩)
  | (exfalso;have:=beq_eq_false_iff_ne.1 f1;omega)
  | (exfalso;simp_all)
theorem refsign_pos (a:ByteArray) (q:Rat) (w:World) (ha:a.size≤270000) (he:errQ a.data.toList=0) (hq:valQ a.data.toList=q) (h0:nm q≠0) (hb:ng q=false) :
  Calls Tryz.prog 110 #[.string a] w fun e w'=>e=.returned (.tuple #[.int .i64 1,.int .i64 0])∧Below w.heap.size w w':=by
 have HP:=Lib.hid (rq_any a w ha)
 have hne:((errQ a.data.toList:Int)==0)=true:=by rw [he];rfl
 have HE:=Lib.hid he
 rw [hq] at HP
 have HF:=Lib.hid (fun (b:Bool) (N:Nat) (h:ng q=b∧nm q=N)=>show (((toL N).length:Int)==0)=false∧b=false from ⟨by rw [len_zero,← h.2,decide_eq_false h0],h.1.symm.trans hb⟩)
 clear h0 hb
 clear he hq
 go_enter Tryz.func110,Tryz.ntmps110
 go_wp2_with (go_at_call 155;refine HP.out.mono ?_;rintro e w1 ⟨v,rfl,hv,-,hb⟩;obtain ⟨bq,N,D,A,c,A',c',rfl,hn,hd,HQ⟩:=isQ_open (hv HE.out);have HB:=Lib.hid hb;have HX:=Lib.hid (below_alloc (Below.refl w1.heap.size w1) (.cells #[.bool bq,.slice A (toL N).length c,.slice A' (toL D).length c'] 170));have HBX:=Lib.hid (HB.out.trans (HX.out.mono HB.out.size));have HN:=Lib.hid (hn.below HX.out);have HD:=Lib.hid (hd.below HX.out);clear hb hv hn hd;obtain ⟨f1,f2⟩:=HF.out _ _ ⟨HQ.out.1,HQ.out.2.1⟩;subst f2)
 all_goals first
  | (refine bodyPost_ret (results_tmp2 rfl _ _ _) rfl ?_;exact ⟨rfl,HBX.out⟩)
  | (exfalso;have:=beq_eq_false_iff_ne.1 f1;omega)
  | (exfalso;simp_all)
theorem refSign_err (a:ByteArray) (w:World) (ha:a.size≤270000) (he:errQ a.data.toList≠0) :
  Calls Tryz.prog 110 #[.string a] w fun e w'=>e=.returned (.tuple #[.int .i64 0,.int .i64 (errQ a.data.toList:Int)])∧Below w.heap.size w w':=by
 have HP:=Lib.hid (rq_any a w ha)
 have hne:((errQ a.data.toList:Int)==0)=false:=by rw [beq_eq_false_iff_ne];omega
 have HE:=Lib.hid he
 clear he
 go_enter Tryz.func110,Tryz.ntmps110
 go_wp2_with ((go_at_call 155;refine HP.out.mono ?_;rintro e w1 ⟨v,rfl,-,hz,hb⟩;obtain rfl:=hz HE.out;have HB:=Lib.hid hb;clear hb hz))
 all_goals first
  | (refine bodyPost_ret (results_tmp2 rfl _ _ _) rfl ?_;exact ⟨rfl,below_alloc HB.out _⟩)
  | (exfalso;have:=HE.out;omega)
  | (exfalso;simp_all)
theorem refSign_any (a:ByteArray) (w:World) (ha:a.size≤270000) :
  Calls Tryz.prog 110 #[.string a] w fun e w'=>e=.returned (resI (oneI (fun p=>(sgQ p,0)) a.data.toList))∧Below w.heap.size w w':=by
 unfold oneI
 by_cases he:errQ a.data.toList=0
 ·rw [if_neg (by omega)]
  unfold resI sgQ
  dsimp only
  by_cases h0:nm (valQ a.data.toList)=0
  ·rw [if_pos h0]
   exact refsign_zero a _ w ha he rfl h0
  ·rw [if_neg h0]
   cases hb:ng (valQ a.data.toList) with
   | true=>exact refsign_neg a _ w ha he rfl h0 hb
   | false=>exact refsign_pos a _ w ha he rfl h0 hb
 ·rw [if_pos he]
  exact refSign_err a w ha he
section
variable {a b:ByteArray} (ha:a.size≤270000) (hb:b.size≤270000)
include ha hb
theorem retRPlX:Ret 59 #[.string a,.string b] (resX (plX a b)):=fun w _=>by
 unfold plX
 rw [← resX_ex (plX_t a b)]
 exact refAdd_any a b w ha hb
theorem retRSubX:Ret 61 #[.string a,.string b] (resX (subX a b)):=fun w _=>by
 unfold subX
 rw [← resX_ex (subX_t a b)]
 exact refSub_any a b w ha hb
theorem retRMulX:Ret 149 #[.string a,.string b] (resX (mulX a b)):=fun w _=>by
 unfold mulX
 rw [← resX_ex (mulX_t a b)]
 exact refMul_any a b w ha hb
end
theorem retRSign {a:ByteArray} (ha:a.size≤270000):Ret 110 #[.string a] (.tuple #[.int .i64 (if errQ a.data.toList≠0 then 0 else sgQ (valQ a.data.toList)),.int .i64 (errQ a.data.toList:Int)]):=fun w _=>by
 refine (refSign_any a w ha).mono ?_
 rintro e w' ⟨rfl,h⟩
 refine ⟨?_,h⟩
 unfold oneI resI
 split
 ·rfl
 ·rename_i h0
  rw [show errQ a.data.toList=0 from Classical.byContradiction h0]
theorem retRSign_err {a:ByteArray} (ha:a.size≤270000) (h:errQ a.data.toList≠0):Ret 110 #[.string a] (.tuple #[.int .i64 0,.int .i64 (errQ a.data.toList:Int)]):=by
 have:=retRSign ha
 rwa [if_pos h] at this
theorem retRSign_ok {a:ByteArray} (ha:a.size≤270000) (h:errQ a.data.toList=0):Ret 110 #[.string a] (.tuple #[.int .i64 (sgQ (valQ a.data.toList)),.int .i64 0]):=by
 have:=retRSign ha
 rw [if_neg (by simpa using h),h] at this
 exact this
theorem posE_err {p:ByteArray} (h:errQ p.data.toList≠0):posE p=errQ p.data.toList:=if_pos h
end Go.Proofs.YtigapglmipmbeaaGreatDoor
namespace Go.Proofs.YtigapglmipmbeaaGreatDoor
open Go.RowKit Go.Shelf
open Lim
attribute [local go_sem] Oper.semAt_some wide_fn
def collK (ls:List L2):Except Nat (List L2):=match collX [] ls with
 | .error n=>.error n
 | .ok a=>.ok (keepX a)
theorem collK_err {ls:List L2} {n:Nat} (h:collX [] ls=.error n):collK ls=.error n:=by unfold collK;rw [h]
theorem collK_ok {ls a:List L2} (h:collX [] ls=.ok a):collK ls=.ok (keepX a):=by unfold collK;rw [h]
theorem keepX_snoc {a:List L2} {k:Nat} {y:L2} (hy:a[k]?=some y):keepX (a.take (k+1))=if y.2=zT then keepX (a.take k) else keepX (a.take k)++[y]:=by
 unfold keepX
 rw [List.take_add_one,hy,Option.toList_some,List.filter_append]
 split
 ·rename_i h;rw [List.filter_cons_of_neg (by simpa using h)];simp
 ·rename_i h;rw [List.filter_cons_of_pos (by simpa using h)];simp
namespace S2
theorem rdcollect_any (ls:List L2) (v:Value) (w:World) (hv:LRow w v ls) (hs:Short ls) (hr:Res w) :
  Calls Tryz.prog 111 #[v] w fun e w'=>ResM w.heap.size (collK ls) e w'∧Below w.heap.size w w':=by
 have HV:=Lib.hid hv
 have HS:=Lib.hid hs
 obtain ⟨A,c,rfl,HLEN,hcells⟩:=hv
 have H0:=Lib.hid (CollI.nil (ls:=ls) hr)
 have HRS:=Lib.hid hr
 obtain ⟨i0,hi,hz0,hz1,hz2⟩:=info_parts infoM
 clear hr hcells hs
 generalize hm:collK ls=mk
 have HMK:=Lib.hid hm
 clear hm
 refine (callsIn_wide (n:=6)).1 ?_
 have h1:1≤6:=by omega
 have hmx:Tryz.prog.follows .mixedOrders=true:=by kernel_rfl
 refine callsIn_of_wp Tryz.func111 rfl trivial ?_ rfl
 simp only [Tryz.ntmps111,List.size_toArray,List.length_cons,List.length_nil,Nat.reduceAdd,Nat.reduceSub,Array.replicate_succ,Array.replicate_zero,List.push_toArray,List.append_toArray,List.nil_append,List.cons_append]
 gi_wp2
 gi_loopw [4,5] (fun v4 v5 wr=>∃ (i:Nat) (A0:Option Addr) (cc:Nat) (a:List L2),i≤ls.length∧v4=.slice A0 a.length cc∧v5=.int .i64 (i:Int)∧Hid (CollI w ls i wr (.slice A0 a.length cc) a)) (fun _ v5 _=>ls.length - (intOf v5).toNat)
 case atStart=>exact ⟨0,none,0,[],Nat.zero_le _,rfl,rfl,H0⟩
 case round =>
  clear H0
  obtain ⟨i,A0,cc,a,hi0,rfl,rfl,HI⟩:=hrel
  obtain ⟨wo,rfl⟩:∃ wo,wo=wr:=⟨_,rfl⟩
  have hal:=HI.out.len
  by_cases hlt:i < ls.length
  ·obtain ⟨x,hx⟩:∃ x,ls[i]?=some x:=⟨_,List.getElem?_eq_getElem hlt⟩
   obtain ⟨b,o,c',e',_,_,_⟩:=HV.out.at HI.out.nw.below hx
   simp only [Value.slice.injEq,true_and] at e'
   obtain ⟨rfl,rfl⟩:=e'
   have hlt':(i:Int) < (ls.length:Int):=by omega
   have HSX:=Lib.hid (HS.out x (List.mem_of_getElem? hx))
   have HXI:=Lib.hid hx
   have HLT:=Lib.hid (And.intro hlt hlt')
   obtain ⟨f,d⟩:=x
   dsimp only at HSX HXI
   clear hx hlt
   gi_wp2
   gi_loopw [6] (fun v6 wq=>∃ k:Nat,k≤a.length∧v6=.int .i64 (k:Int)∧Hid (∀ (j:Nat) y,j < k→a[j]?=some y→ltK y.1 f=true)∧Hid (CollI w ls i wq (.slice A0 a.length cc) a)) (fun v6 _=>a.length - (intOf v6).toNat)
   case atStart=>exact ⟨0,Nat.zero_le _,rfl,Lib.hid (fun j y h=>by omega),HI⟩
   case round =>
    clear HI
    obtain ⟨k,hk,rfl,HLO,HQ0⟩:=hrel
    have HXC0:=Lib.hid (HV.out.cell2 HQ0.out.nw.below HXI.out)
    by_cases hka:k < a.length
    ·obtain ⟨y,hy⟩:∃ y,a[k]?=some y:=⟨_,List.getElem?_eq_getElem hka⟩
     have hka':(k:Int) < (a.length:Int):=by omega
     have hkne:((k:Int)==(a.length:Int))=false:=by rw [beq_eq_false_iff_ne];omega
     obtain ⟨g,rfl,hgb,p0,p1⟩:=HQ0.out.at hy
     have HYK:=Lib.hid hy
     obtain ⟨yf,yd⟩:=y
     dsimp only at p0 p1 HYK
     obtain ⟨hbq,q0,q1⟩:=HXC0.out
     dsimp only at q0 q1
     have TL:=lt_bytes yf f
     cases h3:ltK yf f with
     | true =>
      rw [h3] at TL
      have HLO2:=Lib.hid (show ∀ (j:Nat) z,j < k+1→a[j]?=some z→ltK z.1 f=true from fun j z hj hz=>by
       rcases Nat.lt_or_ge j k with h|h
       ·exact HLO.out j z h hz
       ·obtain rfl:j=k:=by omega
        rw [HYK.out] at hz;cases hz;exact h3)
      have HKA:=Lib.hid hka
      clear h3 hy hka
      gi_wp2
      gi_quiet (fail)
      have HQ:=Lib.hid (HQ0.out.later (below_drewN' (Below.refl _ _) nq))
      gi_wp2
      go_roundw
      case rel=>exact ⟨k+1,HKA.out,by go_num,HLO2,HQ⟩
      case measure=>have:=HKA.out;simp [intOf];omega
     | false =>
      rw [h3] at TL
      have HLF:=Lib.hid h3
      clear h3 hy
      gi_wp2
      gi_quiet (fail)
      have HQ1:=Lib.hid (HQ0.out.later (below_drewN' (Below.refl _ _) nq))
      generalize wr.drewN nq=w1 at *
      clear p0 p1 q0 q1 hbq hgb TL HXC0 HQ0 nq
      obtain ⟨g',e',hgb,p0,p1⟩:=HQ1.out.at HYK.out
      cases e'
      have HXC1:=Lib.hid (HV.out.cell2 HQ1.out.nw.below HXI.out)
      obtain ⟨hbq,q0,q1⟩:=HXC1.out
      dsimp only at p0 p1 q0 q1
      have TE:=eq_bytes yf f
      by_cases he:yf=f
      ·rw [decide_eq_true he] at TE
       have HA:=Lib.hid (retRPlX (HQ1.out.short _ (List.mem_of_getElem? HYK.out)).2 HSX.out.2)
       have HIN:=Lib.hid (insX_old (x:=(f,d)) HLO.out HYK.out HLF.out he)
       dsimp only at HA HIN HSX
       clear he
       gi_wp2
       gi_quiet (fail)
       have HQ:=Lib.hid (HQ1.out.later (below_drewN' (Below.refl _ _) nq))
       generalize w1.drewN nq=wq at *
       clear p0 p1 q0 q1 hbq hgb TE HXC1 HQ1 nq
       obtain ⟨g',e',hgb,p0,p1⟩:=HQ.out.at HYK.out
       cases e'
       have HXC:=Lib.hid (HV.out.cell2 HQ.out.nw.below HXI.out)
       obtain ⟨hbq,q0,q1⟩:=HXC.out
       dsimp only at p0 p1 q0 q1
       have xi:=LaterW.at hgb p1
       have xj:=LaterW.at hbq q1
       have HKK:=Lib.hid (And.intro hgb p1)
       clear p0 p1 q0 q1 hbq hgb HXC
       cases hpl:plX yd d with
       | error n =>
        rw [hpl] at HA HIN
        change Hid (Ret _ _ (.tuple #[.string ⟨#[]⟩,.int .i64 (n:Int)])) at HA
        have hz:=ne_zero (exQ_err hpl)
        have hz2:=ne_zero2 (exQ_err hpl)
        have HR:=Lib.hid (show mk=.error n by rw [← HMK.out];exact collK_err (by rw [HQ.out.coll,drop_of HXI.out];exact collX_fail _ _ _ HIN.out))
        clear hpl
        gi_wp2
        refine wpIn_region_later rfl hmx (by kernel_rfl) ?_
        repeat (gi_big_quiet_step ((gi_at_call 59;refine (callsIn_wide.2 (HA.out _ (HQ.out.nw.res.below (LaterW.h _)))).mono ?_;rintro e w99 ⟨rfl,hb9⟩;exact ⟨rfl,⟨⟨w99,(LaterW.h _).trans (hb9.mono (LaterW.h _).size)⟩,rfl⟩⟩)))
        refine wpQuietIn_nil ?_
        rintro _ ⟨z,rfl⟩
        gi_wp2
        refine bodyPost_ret (results_tmp2 rfl _ _ _) rfl ?_
        rw [HR.out]
        exact ⟨rfl,(HQ.out.nw.later z.h).below⟩
       | ok s =>
        rw [hpl] at HA HIN
        change Hid (Ret _ _ (.tuple #[.string s,.int .i64 0])) at HA
        clear hpl
        gi_wp2
        refine wpIn_region_later rfl hmx (by kernel_rfl) ?_
        repeat (gi_big_quiet_step ((gi_at_call 59;refine (callsIn_wide.2 (HA.out _ (HQ.out.nw.res.below (LaterW.h _)))).mono ?_;rintro e w99 ⟨rfl,hb9⟩;exact ⟨rfl,⟨⟨w99,(LaterW.h _).trans (hb9.mono (LaterW.h _).size)⟩,rfl⟩⟩)))
        refine wpQuietIn_nil ?_
        rintro _ ⟨z,rfl⟩
        have HZ:=Lib.hid (HQ.out.later z.h)
        generalize z.W=wz at *
        clear xi xj
        obtain ⟨g',e',hgb,p0,p1⟩:=HZ.out.at HYK.out
        cases e'
        dsimp only at p0 p1
        have fz:=World.ownsRow.frozenAt HZ.out.own (k*2+1)
        gi_wp2
        go_roundw
        case rel=>exact ⟨i+1,some ⟨g,0,none⟩,cc,a.set k (yf,s),HLT.out.1,by rw [List.length_set],by go_num,Lib.hid (by rw [List.length_set];exact HZ.out.set HRS.out HXI.out HYK.out HIN.out HSX.out)⟩
        case measure=>have:=HLT.out.1;simp [intOf];omega
      ·rw [decide_eq_false he] at TE
       have HINS:=Lib.hid (show insX a (f,d)=.ok (a.take k++(f,d)::a.drop k) from insX_new hk HLO.out (fun z hz=>by rw [HYK.out] at hz;cases hz;exact ⟨HLF.out,he⟩))
       clear he
       gi_wp2
       gi_quiet (fail)
       have HQ:=Lib.hid (HQ1.out.later (below_drewN' (Below.refl _ _) nq))
       generalize w1.drewN nq=wq at *
       clear p0 p1 q0 q1 hbq hgb TE HXC1 HQ1 nq
       have HXC:=Lib.hid (HV.out.cell2 HQ.out.nw.below HXI.out)
       dsimp only at HXC
       have HEL:=Lib.hid (show ∀ (A:Option Addr) c,(Value.slice A (k+1+(a.length - k)) c)=.slice A (a.take k++(f,d)::a.drop k).length c from fun A c=>by congr 1;simp;omega)
       obtain ⟨hcl1,hcl2⟩:a.length≤cc∧cc≤9223372036854775807:=by
        rcases HQ.out.cap with ⟨e,_⟩|⟨_,_,h1,h2⟩
        ·cases e
        ·exact ⟨h1,h2⟩
       have hi3':(k:Int)≤(a.length:Int):=by omega
       have hi2:(k:Int)≤(cc:Int):=by omega
       have hck:cc≠k:=by omega
       have hc0:cc≠0:=by omega
       have HSA:=Lib.hid (show ∀ W,Below wq.heap.size wq W→Src W 2 (.slice (some ⟨g,0,none⟩) k cc) k (cellsM (a.take k)) from fun W hB=>srcM_take HQ.out.own hB hk)
       have HSB:=Lib.hid (show ∀ W,Below wq.heap.size wq W→Src W 2 (.slice (some ⟨g,k*2,none⟩) (a.length - k) (cc - k)) (a.length - k) (cellsM (a.drop k)) from fun W hB=>srcM_drop HQ.out.own hB)
       obtain ⟨hbq,q0,q1⟩:=HXC.out
       have xi0:∀ x:SameAt wq (fun k=>k < wq.heap.size),x.W.cell? ⟨b,o+i*2,none⟩=some (.string f):=fun x=>x.cell hbq q0
       have xi1:∀ x:SameAt wq (fun k=>k < wq.heap.size),x.W.cell? ⟨b,o+i*2+1,none⟩=some (.string d):=fun x=>x.cell hbq q1
       gi_wp2
       refine wpIn_stage (IsSame wq (fun k=>k < wq.heap.size)) [1,2,3,5,6,7,8,11,12,13] [15] hmx (by kernel_rfl) (isSame_of fun _ _=>rfl) ?_
       change wpStage _ _ _ _ _ _ _ _ (6+10) _ _ _
       refine stage_reads [1,2,3,5,6,7,8,11,12,13] 6 _ _ (by kernel_rfl) ?_
       change wpQuietIn _ _ _ _ (fun W'=>∃ x:SameAt wq (fun k=>k < wq.heap.size),W'=x.W) _ _ _
       simp only [pick_cons,pick_nil,List.getElem?_cons_zero,List.getElem?_cons_succ,Option.elim_some]
       repeat (gi_big_quiet_step (fail))
       refine wpQuietIn_nil ?_
       clear xi0 xi1 q0 q1 hbq
       refine stage_two 0 9 (by kernel_rfl) rfl rfl ?_ ?_
       ·gi_wp2
        refine stage_post (isSame_below (Below.alloc (below_drewM wq) (Nat.le_refl _) _) (fun k hk=>hk)) ?_
        refine stage_two 4 9 (by kernel_rfl) rfl rfl ?_ ?_
        ·have ho0:(wq.drew.alloc (.cells #[] 30)).ownsRow wq.heap.size 30 2 (.slice (some ⟨wq.heap.size,0,none⟩) 0 0) 0 []:=own_atM (Nat.le_refl _) (heap_alloc_new wq.drew _)
         have hB0:Below wq.heap.size wq (wq.drew.alloc (.cells #[] 30)):=Below.alloc (below_drewM wq) (Nat.le_refl _) _
         have HS1:=Lib.hid (HSA.out _ hB0)
         gi_wp2_with (gi_at_builtin;go_loud (refine wpListIn_append_src _ rfl _ _ 22 rfl wq.heap.size 30 i0 (.agg #[.string ByteArray.empty,.string ByteArray.empty]) 2 32 Tryz.underlying22 hi hz0 hz1 hz2 rfl (by decide) (.slice (some ⟨wq.heap.size,0,none⟩) 0 0) 0 [] rfl ho0 _ k (cellsM (a.take k)) rfl HS1.out (one_cellsM _) (by unfold maxLen;omega) (by omega) hB0.size ?_;intro v1 w3 hown2 hgrow3))
         rw [Nat.zero_add,List.nil_append] at hown2
         have hB2:=grow_belowM hB0 hB0.size ho0 hgrow3
         refine stage_post (isSame_below hB2 (fun k hk=>hk)) ?_
         refine stage_one 9 (by kernel_rfl) rfl ?_
         gi_wp2
         have hB3:Below wq.heap.size wq (w3.alloc (.cells #[.string f,.string d] 30)):=hB2.alloc hB2.size _
         have hown3:=World.ownsRow.alloc hown2 (.cells #[.string f,.string d] 30)
         have h57:(w3.alloc (.cells #[.string f,.string d] 30)).heap[w3.heap.size]?=some (.cells #[.string f,.string d] 30 (0,0)):=heap_alloc_new w3 _
         clear hown2 hgrow3 hB2 ho0 hB0
         generalize w3.alloc (.cells #[.string f,.string d] 30)=W3 at *
         have hN3:wq.heap.size≤W3.heap.size:=hB3.size
         have HN1:=Lib.hid (srcM_one (x:=(f,d)) h57)
         have HB3:=Lib.hid hB3
         clear h57
         refine stage_post (isSame_below HB3.out (fun k hk=>hk)) ?_
         refine stage_one 10 (by kernel_rfl) rfl ?_
         gi_wp2_with (gi_at_builtin;go_loud (refine wpListIn_append_src _ rfl _ _ 22 rfl wq.heap.size 30 i0 (.agg #[.string ByteArray.empty,.string ByteArray.empty]) 2 32 Tryz.underlying22 hi hz0 hz1 hz2 rfl (by decide) v1 k _ rfl hown3 _ 1 [.string f,.string d] rfl HN1.out (one_pairM (f,d)) (by unfold maxLen;omega) (by omega) hN3 ?_;intro v2 w4 hown4 hgrow4))
         have hB4:=grow_belowM HB3.out hN3 hown3 hgrow4
         have hN4:=hB4.size
         have HB4:=Lib.hid hB4
         have HS2:=Lib.hid (HSB.out w4 hB4)
         clear hgrow4 hB4
         refine stage_post (isSame_below HB4.out (fun k hk=>hk)) ?_
         refine stage_one 14 (by kernel_rfl) rfl ?_
         gi_wp2_with (gi_at_builtin;go_loud (refine wpListIn_append_src _ rfl _ _ 22 rfl wq.heap.size 30 i0 (.agg #[.string ByteArray.empty,.string ByteArray.empty]) 2 32 Tryz.underlying22 hi hz0 hz1 hz2 rfl (by decide) v2 (k+1) _ rfl hown4 _ _ _ rfl HS2.out (one_cellsM _) (by unfold maxLen;omega) (by omega) hN4 ?_;intro v3 w5 hown5 hgrow5))
         have HB5:=Lib.hid (grow_belowM HB4.out hN4 hown4 hgrow5)
         obtain ⟨A6,c6,rfl⟩:=slice_shape hown5
         have HF5:=Lib.hid (HQ.out.new (x:=(f,d)) HXI.out HINS.out hk HSX.out HB5.out (by first|exact hown5|(rw [HZ.out,HD2.out];exact hown5)))
         clear hown5 hgrow5 hown4 hown3
         refine stage_post (isSame_below HB5.out (fun k hk=>hk)) ?_
         refine stage_one 15 (by kernel_rfl) rfl ?_
         gi_wp2
         refine stage_last rfl ?_
         refine stage_done (by kernel_rfl) ?_
         gi_wp2
         go_roundw
         case rel=>exact ⟨i+1,A6,c6,_,HLT.out.1,(by first|exact HEL.out _ _|rw [← HEL.out,HZ.out]),by go_num,Lib.hid (by first|(rw [← HEL.out];exact HF5.out)|(rw [← HEL.out,HZ.out];exact HF5.out))⟩
         case measure=>have:=HLT.out.1;simp [intOf];omega
        ·gi_wp2
         refine stage_post (isSame_below (Below.alloc (Below.alloc (below_drewM wq) (Nat.le_refl _) (.cells #[] 30)) (by simp) _) (fun k hk=>hk)) ?_
         refine stage_one 4 (by kernel_rfl) rfl ?_
         have ho0:((wq.drew.alloc (.cells #[] 30)).alloc (.cells #[.string f,.string d] 30)).ownsRow wq.heap.size 30 2 (.slice (some ⟨wq.heap.size,0,none⟩) 0 0) 0 []:=own_atM (Nat.le_refl _) (two_old wq.drew _ _)
         have hB0:Below wq.heap.size wq ((wq.drew.alloc (.cells #[] 30)).alloc (.cells #[.string f,.string d] 30)):=Below.alloc (Below.alloc (below_drewM wq) (Nat.le_refl _) _) (by simp) _
         have HS1:=Lib.hid (HSA.out _ hB0)
         gi_wp2_with (gi_at_builtin;go_loud (refine wpListIn_append_src _ rfl _ _ 22 rfl wq.heap.size 30 i0 (.agg #[.string ByteArray.empty,.string ByteArray.empty]) 2 32 Tryz.underlying22 hi hz0 hz1 hz2 rfl (by decide) (.slice (some ⟨wq.heap.size,0,none⟩) 0 0) 0 [] rfl ho0 _ k (cellsM (a.take k)) rfl HS1.out (one_cellsM _) (by unfold maxLen;omega) (by omega) hB0.size ?_;intro v1 w3 hown2 hgrow3))
         rw [Nat.zero_add,List.nil_append] at hown2
         have hB3:=grow_belowM hB0 hB0.size ho0 hgrow3
         have h57:=(hgrow3.block (wq.heap.size+1) (by simp) (by simp [Value.ownBlock])).trans (two_cur wq.drew (.cells #[] 30) (.cells #[.string f,.string d] 30))
         have hown3:=hown2
         clear hgrow3 hown2 ho0 hB0
         have hN3:wq.heap.size≤w3.heap.size:=hB3.size
         have HN1:=Lib.hid (srcM_one (x:=(f,d)) h57)
         have HB3:=Lib.hid hB3
         clear h57
         refine stage_post (isSame_below HB3.out (fun k hk=>hk)) ?_
         refine stage_one 10 (by kernel_rfl) rfl ?_
         gi_wp2_with (gi_at_builtin;go_loud (refine wpListIn_append_src _ rfl _ _ 22 rfl wq.heap.size 30 i0 (.agg #[.string ByteArray.empty,.string ByteArray.empty]) 2 32 Tryz.underlying22 hi hz0 hz1 hz2 rfl (by decide) v1 k _ rfl hown3 _ 1 [.string f,.string d] rfl HN1.out (one_pairM (f,d)) (by unfold maxLen;omega) (by omega) hN3 ?_;intro v2 w4 hown4 hgrow4))
         have hB4:=grow_belowM HB3.out hN3 hown3 hgrow4
         have hN4:=hB4.size
         have HB4:=Lib.hid hB4
         have HS2:=Lib.hid (HSB.out w4 hB4)
         clear hgrow4 hB4
         refine stage_post (isSame_below HB4.out (fun k hk=>hk)) ?_
         refine stage_one 14 (by kernel_rfl) rfl ?_
         gi_wp2_with (gi_at_builtin;go_loud (refine wpListIn_append_src _ rfl _ _ 22 rfl wq.heap.size 30 i0 (.agg #[.string ByteArray.empty,.string ByteArray.empty]) 2 32 Tryz.underlying22 hi hz0 hz1 hz2 rfl (by decide) v2 (k+1) _ rfl hown4 _ _ _ rfl HS2.out (one_cellsM _) (by unfold maxLen;omega) (by omega) hN4 ?_;intro v3 w5 hown5 hgrow5))
         have HB5:=Lib.hid (grow_belowM HB4.out hN4 hown4 hgrow5)
         obtain ⟨A6,c6,rfl⟩:=slice_shape hown5
         have HF5:=Lib.hid (HQ.out.new (x:=(f,d)) HXI.out HINS.out hk HSX.out HB5.out (by first|exact hown5|(rw [HZ.out,HD2.out];exact hown5)))
         clear hown5 hgrow5 hown4 hown3
         refine stage_post (isSame_below HB5.out (fun k hk=>hk)) ?_
         refine stage_one 15 (by kernel_rfl) rfl ?_
         gi_wp2
         refine stage_last rfl ?_
         refine stage_done (by kernel_rfl) ?_
         gi_wp2
         go_roundw
         case rel=>exact ⟨i+1,A6,c6,_,HLT.out.1,(by first|exact HEL.out _ _|rw [← HEL.out,HZ.out]),by go_num,Lib.hid (by first|(rw [← HEL.out];exact HF5.out)|(rw [← HEL.out,HZ.out];exact HF5.out))⟩
         case measure=>have:=HLT.out.1;simp [intOf];omega
       ·gi_wp2
        refine stage_post (isSame_below (Below.alloc (below_drewM wq) (Nat.le_refl _) _) (fun k hk=>hk)) ?_
        refine stage_one 0 (by kernel_rfl) rfl ?_
        gi_wp2
        refine stage_post (isSame_below (Below.alloc (Below.alloc (below_drewM wq) (Nat.le_refl _) (.cells #[.string f,.string d] 30)) (by simp) _) (fun k hk=>hk)) ?_
        refine stage_one 4 (by kernel_rfl) rfl ?_
        have ho0:((wq.drew.alloc (.cells #[.string f,.string d] 30)).alloc (.cells #[] 30)).ownsRow wq.heap.size 30 2 (.slice (some ⟨wq.heap.size+1,0,none⟩) 0 0) 0 []:=own_atM (Nat.le_succ _) (two_cur wq.drew _ _)
        have hB0:Below wq.heap.size wq ((wq.drew.alloc (.cells #[.string f,.string d] 30)).alloc (.cells #[] 30)):=Below.alloc (Below.alloc (below_drewM wq) (Nat.le_refl _) _) (by simp) _
        have HS1:=Lib.hid (HSA.out _ hB0)
        gi_wp2_with (gi_at_builtin;go_loud (refine wpListIn_append_src _ rfl _ _ 22 rfl wq.heap.size 30 i0 (.agg #[.string ByteArray.empty,.string ByteArray.empty]) 2 32 Tryz.underlying22 hi hz0 hz1 hz2 rfl (by decide) (.slice (some ⟨wq.heap.size+1,0,none⟩) 0 0) 0 [] rfl ho0 _ k (cellsM (a.take k)) rfl HS1.out (one_cellsM _) (by unfold maxLen;omega) (by omega) hB0.size ?_;intro v1 w3 hown2 hgrow3))
        rw [Nat.zero_add,List.nil_append] at hown2
        have hB3:=grow_belowM hB0 hB0.size ho0 hgrow3
        have h57:=(hgrow3.block wq.heap.size (by simp;omega) (by simp [Value.ownBlock])).trans (two_old wq.drew (.cells #[.string f,.string d] 30) (.cells #[] 30))
        have hown3:=hown2
        clear hgrow3 hown2 ho0 hB0
        have hN3:wq.heap.size≤w3.heap.size:=hB3.size
        have HN1:=Lib.hid (srcM_one (x:=(f,d)) h57)
        have HB3:=Lib.hid hB3
        clear h57
        refine stage_post (isSame_below HB3.out (fun k hk=>hk)) ?_
        refine stage_one 10 (by kernel_rfl) rfl ?_
        gi_wp2_with (gi_at_builtin;go_loud (refine wpListIn_append_src _ rfl _ _ 22 rfl wq.heap.size 30 i0 (.agg #[.string ByteArray.empty,.string ByteArray.empty]) 2 32 Tryz.underlying22 hi hz0 hz1 hz2 rfl (by decide) v1 k _ rfl hown3 _ 1 [.string f,.string d] rfl HN1.out (one_pairM (f,d)) (by unfold maxLen;omega) (by omega) hN3 ?_;intro v2 w4 hown4 hgrow4))
        have hB4:=grow_belowM HB3.out hN3 hown3 hgrow4
        have hN4:=hB4.size
        have HB4:=Lib.hid hB4
        have HS2:=Lib.hid (HSB.out w4 hB4)
        clear hgrow4 hB4
        refine stage_post (isSame_below HB4.out (fun k hk=>hk)) ?_
        refine stage_one 14 (by kernel_rfl) rfl ?_
        gi_wp2_with (gi_at_builtin;go_loud (refine wpListIn_append_src _ rfl _ _ 22 rfl wq.heap.size 30 i0 (.agg #[.string ByteArray.empty,.string ByteArray.empty]) 2 32 Tryz.underlying22 hi hz0 hz1 hz2 rfl (by decide) v2 (k+1) _ rfl hown4 _ _ _ rfl HS2.out (one_cellsM _) (by unfold maxLen;omega) (by omega) hN4 ?_;intro v3 w5 hown5 hgrow5))
        have HB5:=Lib.hid (grow_belowM HB4.out hN4 hown4 hgrow5)
        obtain ⟨A6,c6,rfl⟩:=slice_shape hown5
        have HF5:=Lib.hid (HQ.out.new (x:=(f,d)) HXI.out HINS.out hk HSX.out HB5.out (by first|exact hown5|(rw [HZ.out,HD2.out];exact hown5)))
        clear hown5 hgrow5 hown4 hown3
        refine stage_post (isSame_below HB5.out (fun k hk=>hk)) ?_
        refine stage_one 15 (by kernel_rfl) rfl ?_
        gi_wp2
        refine stage_last rfl ?_
        refine stage_done (by kernel_rfl) ?_
        gi_wp2
        go_roundw
        case rel=>exact ⟨i+1,A6,c6,_,HLT.out.1,(by first|exact HEL.out _ _|rw [← HEL.out,HZ.out]),by go_num,Lib.hid (by first|(rw [← HEL.out];exact HF5.out)|(rw [← HEL.out,HZ.out];exact HF5.out))⟩
        case measure=>have:=HLT.out.1;simp [intOf];omega
    ·have hka':¬ (k:Int) < (a.length:Int):=by omega
     have hkeq:((k:Int)==(a.length:Int))=true:=by rw [beq_iff_eq];omega
     have HINS:=Lib.hid (show insX a (f,d)=.ok (a.take k++(f,d)::a.drop k) from insX_new hk HLO.out (fun z hz=>by rw [List.getElem?_eq_none (by omega)] at hz;cases hz))
     gi_wp2
     gi_quiet (fail)
     have HQ1:=Lib.hid (HQ0.out.later (below_drewN' (Below.refl _ _) nq))
     generalize wr.drewN nq=w1 at *
     clear HQ0 HXC0 nq
     gi_wp2
     gi_quiet (fail)
     have HQ:=Lib.hid (HQ1.out.later (below_drewN' (Below.refl _ _) nq))
     generalize w1.drewN nq=wq at *
     clear HQ1 nq
     have HXC:=Lib.hid (HV.out.cell2 HQ.out.nw.below HXI.out)
     dsimp only at HXC
     have HEL:=Lib.hid (show ∀ (A:Option Addr) c,(Value.slice A (k+1+(a.length - k)) c)=.slice A (a.take k++(f,d)::a.drop k).length c from fun A c=>by congr 1;simp;omega)
     have HD2:=Lib.hid (show cellsM (a.drop k)=[] by rw [List.drop_of_length_le (by omega)];rfl)
     have HZ:=Lib.hid (show a.length - k=0 by omega)
     have hi3':(k:Int)≤(a.length:Int):=by omega
     rcases HQ.out.cap with ⟨rfl,rfl,e0⟩|⟨g,rfl,hcl1,hcl2⟩
     have e1:a.length=0:=by rw [e0];rfl
     have HKZ:=Lib.hid (show k=0 by omega)
     have HSA:=Lib.hid (show ∀ W,Below wq.heap.size wq W→Src W 2 (.slice none k 0) k (cellsM (a.take k)) from fun W hB=>by rw [HKZ.out];exact srcM_zero)
     have HSB:=Lib.hid (show ∀ W,Below wq.heap.size wq W→Src W 2 (.slice none (a.length - k) 0) (a.length - k) (cellsM (a.drop k)) from fun W hB=>by rw [HD2.out,HZ.out];exact srcM_zero)
     have hi2:(k:Int)≤((0:Nat):Int):=by have:=HKZ.out;omega
     clear e0 e1
     rotate_left
     have HSA:=Lib.hid (show ∀ W,Below wq.heap.size wq W→Src W 2 (.slice (some ⟨g,0,none⟩) k cc) k (cellsM (a.take k)) from fun W hB=>srcM_take HQ.out.own hB hk)
     have hi2:(k:Int)≤(cc:Int):=by omega
     by_cases hck:cc=k
     have HSB:=Lib.hid (show ∀ W,Below wq.heap.size wq W→Src W 2 (.slice (some ⟨g,0,none⟩) 0 0) 0 (cellsM []) from fun W hB=>srcM_zero)
     have hck2:=hck.symm
     clear hck
     subst hck2
     rotate_left
     have HSB:=Lib.hid (show ∀ W,Below wq.heap.size wq W→Src W 2 (.slice (some ⟨g,k*2,none⟩) (a.length - k) (cc - k)) (a.length - k) (cellsM (a.drop k)) from fun W hB=>by rw [HD2.out,HZ.out];exact srcM_zero)
     have hc0:cc≠0:=by omega
     rotate_left
     all_goals
      obtain ⟨hbq,q0,q1⟩:=HXC.out
      have xi0:∀ x:SameAt wq (fun k=>k < wq.heap.size),x.W.cell? ⟨b,o+i*2,none⟩=some (.string f):=fun x=>x.cell hbq q0
      have xi1:∀ x:SameAt wq (fun k=>k < wq.heap.size),x.W.cell? ⟨b,o+i*2+1,none⟩=some (.string d):=fun x=>x.cell hbq q1
      gi_wp2
      refine wpIn_stage (IsSame wq (fun k=>k < wq.heap.size)) [1,2,3,5,6,7,8,11,12,13] [15] hmx (by kernel_rfl) (isSame_of fun _ _=>rfl) ?_
      change wpStage _ _ _ _ _ _ _ _ (6+10) _ _ _
      refine stage_reads [1,2,3,5,6,7,8,11,12,13] 6 _ _ (by kernel_rfl) ?_
      change wpQuietIn _ _ _ _ (fun W'=>∃ x:SameAt wq (fun k=>k < wq.heap.size),W'=x.W) _ _ _
      simp only [pick_cons,pick_nil,List.getElem?_cons_zero,List.getElem?_cons_succ,Option.elim_some]
      repeat (gi_big_quiet_step (fail))
      refine wpQuietIn_nil ?_
      clear xi0 xi1 q0 q1 hbq
      refine stage_two 0 9 (by kernel_rfl) rfl rfl ?_ ?_
      ·gi_wp2
       refine stage_post (isSame_below (Below.alloc (below_drewM wq) (Nat.le_refl _) _) (fun k hk=>hk)) ?_
       refine stage_two 4 9 (by kernel_rfl) rfl rfl ?_ ?_
       ·have ho0:(wq.drew.alloc (.cells #[] 30)).ownsRow wq.heap.size 30 2 (.slice (some ⟨wq.heap.size,0,none⟩) 0 0) 0 []:=own_atM (Nat.le_refl _) (heap_alloc_new wq.drew _)
        have hB0:Below wq.heap.size wq (wq.drew.alloc (.cells #[] 30)):=Below.alloc (below_drewM wq) (Nat.le_refl _) _
        have HS1:=Lib.hid (HSA.out _ hB0)
        gi_wp2_with (gi_at_builtin;go_loud (refine wpListIn_append_src _ rfl _ _ 22 rfl wq.heap.size 30 i0 (.agg #[.string ByteArray.empty,.string ByteArray.empty]) 2 32 Tryz.underlying22 hi hz0 hz1 hz2 rfl (by decide) (.slice (some ⟨wq.heap.size,0,none⟩) 0 0) 0 [] rfl ho0 _ k (cellsM (a.take k)) rfl HS1.out (one_cellsM _) (by unfold maxLen;omega) (by omega) hB0.size ?_;intro v1 w3 hown2 hgrow3))
        rw [Nat.zero_add,List.nil_append] at hown2
        have hB2:=grow_belowM hB0 hB0.size ho0 hgrow3
        refine stage_post (isSame_below hB2 (fun k hk=>hk)) ?_
        refine stage_one 9 (by kernel_rfl) rfl ?_
        gi_wp2
        have hB3:Below wq.heap.size wq (w3.alloc (.cells #[.string f,.string d] 30)):=hB2.alloc hB2.size _
        have hown3:=World.ownsRow.alloc hown2 (.cells #[.string f,.string d] 30)
        have h57:(w3.alloc (.cells #[.string f,.string d] 30)).heap[w3.heap.size]?=some (.cells #[.string f,.string d] 30 (0,0)):=heap_alloc_new w3 _
        clear hown2 hgrow3 hB2 ho0 hB0
        generalize w3.alloc (.cells #[.string f,.string d] 30)=W3 at *
        have hN3:wq.heap.size≤W3.heap.size:=hB3.size
        have HN1:=Lib.hid (srcM_one (x:=(f,d)) h57)
        have HB3:=Lib.hid hB3
        clear h57
        refine stage_post (isSame_below HB3.out (fun k hk=>hk)) ?_
        refine stage_one 10 (by kernel_rfl) rfl ?_
        gi_wp2_with (gi_at_builtin;go_loud (refine wpListIn_append_src _ rfl _ _ 22 rfl wq.heap.size 30 i0 (.agg #[.string ByteArray.empty,.string ByteArray.empty]) 2 32 Tryz.underlying22 hi hz0 hz1 hz2 rfl (by decide) v1 k _ rfl hown3 _ 1 [.string f,.string d] rfl HN1.out (one_pairM (f,d)) (by unfold maxLen;omega) (by omega) hN3 ?_;intro v2 w4 hown4 hgrow4))
        have hB4:=grow_belowM HB3.out hN3 hown3 hgrow4
        have hN4:=hB4.size
        have HB4:=Lib.hid hB4
        have HS2:=Lib.hid (HSB.out w4 hB4)
        clear hgrow4 hB4
        refine stage_post (isSame_below HB4.out (fun k hk=>hk)) ?_
        refine stage_one 14 (by kernel_rfl) rfl ?_
        gi_wp2_with (gi_at_builtin;go_loud (refine wpListIn_append_src _ rfl _ _ 22 rfl wq.heap.size 30 i0 (.agg #[.string ByteArray.empty,.string ByteArray.empty]) 2 32 Tryz.underlying22 hi hz0 hz1 hz2 rfl (by decide) v2 (k+1) _ rfl hown4 _ _ _ rfl HS2.out (one_cellsM _) (by unfold maxLen;omega) (by omega) hN4 ?_;intro v3 w5 hown5 hgrow5))
        have HB5:=Lib.hid (grow_belowM HB4.out hN4 hown4 hgrow5)
        obtain ⟨A6,c6,rfl⟩:=slice_shape hown5
        have HF5:=Lib.hid (HQ.out.new (x:=(f,d)) HXI.out HINS.out hk HSX.out HB5.out (by first|exact hown5|(rw [HZ.out,HD2.out];exact hown5)))
        clear hown5 hgrow5 hown4 hown3
        refine stage_post (isSame_below HB5.out (fun k hk=>hk)) ?_
        refine stage_one 15 (by kernel_rfl) rfl ?_
        gi_wp2
        refine stage_last rfl ?_
        refine stage_done (by kernel_rfl) ?_
        gi_wp2
        go_roundw
        case rel=>exact ⟨i+1,A6,c6,_,HLT.out.1,(by first|exact HEL.out _ _|rw [← HEL.out,HZ.out]),by go_num,Lib.hid (by first|(rw [← HEL.out];exact HF5.out)|(rw [← HEL.out,HZ.out];exact HF5.out))⟩
        case measure=>have:=HLT.out.1;simp [intOf];omega
       ·gi_wp2
        refine stage_post (isSame_below (Below.alloc (Below.alloc (below_drewM wq) (Nat.le_refl _) (.cells #[] 30)) (by simp) _) (fun k hk=>hk)) ?_
        refine stage_one 4 (by kernel_rfl) rfl ?_
        have ho0:((wq.drew.alloc (.cells #[] 30)).alloc (.cells #[.string f,.string d] 30)).ownsRow wq.heap.size 30 2 (.slice (some ⟨wq.heap.size,0,none⟩) 0 0) 0 []:=own_atM (Nat.le_refl _) (two_old wq.drew _ _)
        have hB0:Below wq.heap.size wq ((wq.drew.alloc (.cells #[] 30)).alloc (.cells #[.string f,.string d] 30)):=Below.alloc (Below.alloc (below_drewM wq) (Nat.le_refl _) _) (by simp) _
        have HS1:=Lib.hid (HSA.out _ hB0)
        gi_wp2_with (gi_at_builtin;go_loud (refine wpListIn_append_src _ rfl _ _ 22 rfl wq.heap.size 30 i0 (.agg #[.string ByteArray.empty,.string ByteArray.empty]) 2 32 Tryz.underlying22 hi hz0 hz1 hz2 rfl (by decide) (.slice (some ⟨wq.heap.size,0,none⟩) 0 0) 0 [] rfl ho0 _ k (cellsM (a.take k)) rfl HS1.out (one_cellsM _) (by unfold maxLen;omega) (by omega) hB0.size ?_;intro v1 w3 hown2 hgrow3))
        rw [Nat.zero_add,List.nil_append] at hown2
        have hB3:=grow_belowM hB0 hB0.size ho0 hgrow3
        have h57:=(hgrow3.block (wq.heap.size+1) (by simp) (by simp [Value.ownBlock])).trans (two_cur wq.drew (.cells #[] 30) (.cells #[.string f,.string d] 30))
        have hown3:=hown2
        clear hgrow3 hown2 ho0 hB0
        have hN3:wq.heap.size≤w3.heap.size:=hB3.size
        have HN1:=Lib.hid (srcM_one (x:=(f,d)) h57)
        have HB3:=Lib.hid hB3
        clear h57
        refine stage_post (isSame_below HB3.out (fun k hk=>hk)) ?_
        refine stage_one 10 (by kernel_rfl) rfl ?_
        gi_wp2_with (gi_at_builtin;go_loud (refine wpListIn_append_src _ rfl _ _ 22 rfl wq.heap.size 30 i0 (.agg #[.string ByteArray.empty,.string ByteArray.empty]) 2 32 Tryz.underlying22 hi hz0 hz1 hz2 rfl (by decide) v1 k _ rfl hown3 _ 1 [.string f,.string d] rfl HN1.out (one_pairM (f,d)) (by unfold maxLen;omega) (by omega) hN3 ?_;intro v2 w4 hown4 hgrow4))
        have hB4:=grow_belowM HB3.out hN3 hown3 hgrow4
        have hN4:=hB4.size
        have HB4:=Lib.hid hB4
        have HS2:=Lib.hid (HSB.out w4 hB4)
        clear hgrow4 hB4
        refine stage_post (isSame_below HB4.out (fun k hk=>hk)) ?_
        refine stage_one 14 (by kernel_rfl) rfl ?_
        gi_wp2_with (gi_at_builtin;go_loud (refine wpListIn_append_src _ rfl _ _ 22 rfl wq.heap.size 30 i0 (.agg #[.string ByteArray.empty,.string ByteArray.empty]) 2 32 Tryz.underlying22 hi hz0 hz1 hz2 rfl (by decide) v2 (k+1) _ rfl hown4 _ _ _ rfl HS2.out (one_cellsM _) (by unfold maxLen;omega) (by omega) hN4 ?_;intro v3 w5 hown5 hgrow5))
        have HB5:=Lib.hid (grow_belowM HB4.out hN4 hown4 hgrow5)
        obtain ⟨A6,c6,rfl⟩:=slice_shape hown5
        have HF5:=Lib.hid (HQ.out.new (x:=(f,d)) HXI.out HINS.out hk HSX.out HB5.out (by first|exact hown5|(rw [HZ.out,HD2.out];exact hown5)))
        clear hown5 hgrow5 hown4 hown3
        refine stage_post (isSame_below HB5.out (fun k hk=>hk)) ?_
        refine stage_one 15 (by kernel_rfl) rfl ?_
        gi_wp2
        refine stage_last rfl ?_
        refine stage_done (by kernel_rfl) ?_
        gi_wp2
        go_roundw
        case rel=>exact ⟨i+1,A6,c6,_,HLT.out.1,(by first|exact HEL.out _ _|rw [← HEL.out,HZ.out]),by go_num,Lib.hid (by first|(rw [← HEL.out];exact HF5.out)|(rw [← HEL.out,HZ.out];exact HF5.out))⟩
        case measure=>have:=HLT.out.1;simp [intOf];omega
      ·gi_wp2
       refine stage_post (isSame_below (Below.alloc (below_drewM wq) (Nat.le_refl _) _) (fun k hk=>hk)) ?_
       refine stage_one 0 (by kernel_rfl) rfl ?_
       gi_wp2
       refine stage_post (isSame_below (Below.alloc (Below.alloc (below_drewM wq) (Nat.le_refl _) (.cells #[.string f,.string d] 30)) (by simp) _) (fun k hk=>hk)) ?_
       refine stage_one 4 (by kernel_rfl) rfl ?_
       have ho0:((wq.drew.alloc (.cells #[.string f,.string d] 30)).alloc (.cells #[] 30)).ownsRow wq.heap.size 30 2 (.slice (some ⟨wq.heap.size+1,0,none⟩) 0 0) 0 []:=own_atM (Nat.le_succ _) (two_cur wq.drew _ _)
       have hB0:Below wq.heap.size wq ((wq.drew.alloc (.cells #[.string f,.string d] 30)).alloc (.cells #[] 30)):=Below.alloc (Below.alloc (below_drewM wq) (Nat.le_refl _) _) (by simp) _
       have HS1:=Lib.hid (HSA.out _ hB0)
       gi_wp2_with (gi_at_builtin;go_loud (refine wpListIn_append_src _ rfl _ _ 22 rfl wq.heap.size 30 i0 (.agg #[.string ByteArray.empty,.string ByteArray.empty]) 2 32 Tryz.underlying22 hi hz0 hz1 hz2 rfl (by decide) (.slice (some ⟨wq.heap.size+1,0,none⟩) 0 0) 0 [] rfl ho0 _ k (cellsM (a.take k)) rfl HS1.out (one_cellsM _) (by unfold maxLen;omega) (by omega) hB0.size ?_;intro v1 w3 hown2 hgrow3))
       rw [Nat.zero_add,List.nil_append] at hown2
       have hB3:=grow_belowM hB0 hB0.size ho0 hgrow3
       have h57:=(hgrow3.block wq.heap.size (by simp;omega) (by simp [Value.ownBlock])).trans (two_old wq.drew (.cells #[.string f,.string d] 30) (.cells #[] 30))
       have hown3:=hown2
       clear hgrow3 hown2 ho0 hB0
       have hN3:wq.heap.size≤w3.heap.size:=hB3.size
       have HN1:=Lib.hid (srcM_one (x:=(f,d)) h57)
       have HB3:=Lib.hid hB3
       clear h57
       refine stage_post (isSame_below HB3.out (fun k hk=>hk)) ?_
       refine stage_one 10 (by kernel_rfl) rfl ?_
       gi_wp2_with (gi_at_builtin;go_loud (refine wpListIn_append_src _ rfl _ _ 22 rfl wq.heap.size 30 i0 (.agg #[.string ByteArray.empty,.string ByteArray.empty]) 2 32 Tryz.underlying22 hi hz0 hz1 hz2 rfl (by decide) v1 k _ rfl hown3 _ 1 [.string f,.string d] rfl HN1.out (one_pairM (f,d)) (by unfold maxLen;omega) (by omega) hN3 ?_;intro v2 w4 hown4 hgrow4))
       have hB4:=grow_belowM HB3.out hN3 hown3 hgrow4
       have hN4:=hB4.size
       have HB4:=Lib.hid hB4
       have HS2:=Lib.hid (HSB.out w4 hB4)
       clear hgrow4 hB4
       refine stage_post (isSame_below HB4.out (fun k hk=>hk)) ?_
       refine stage_one 14 (by kernel_rfl) rfl ?_
       gi_wp2_with (gi_at_builtin;go_loud (refine wpListIn_append_src _ rfl _ _ 22 rfl wq.heap.size 30 i0 (.agg #[.string ByteArray.empty,.string ByteArray.empty]) 2 32 Tryz.underlying22 hi hz0 hz1 hz2 rfl (by decide) v2 (k+1) _ rfl hown4 _ _ _ rfl HS2.out (one_cellsM _) (by unfold maxLen;omega) (by omega) hN4 ?_;intro v3 w5 hown5 hgrow5))
       have HB5:=Lib.hid (grow_belowM HB4.out hN4 hown4 hgrow5)
       obtain ⟨A6,c6,rfl⟩:=slice_shape hown5
       have HF5:=Lib.hid (HQ.out.new (x:=(f,d)) HXI.out HINS.out hk HSX.out HB5.out (by first|exact hown5|(rw [HZ.out,HD2.out];exact hown5)))
       clear hown5 hgrow5 hown4 hown3
       refine stage_post (isSame_below HB5.out (fun k hk=>hk)) ?_
       refine stage_one 15 (by kernel_rfl) rfl ?_
       gi_wp2
       refine stage_last rfl ?_
       refine stage_done (by kernel_rfl) ?_
       gi_wp2
       go_roundw
       case rel=>exact ⟨i+1,A6,c6,_,HLT.out.1,(by first|exact HEL.out _ _|rw [← HEL.out,HZ.out]),by go_num,Lib.hid (by first|(rw [← HEL.out];exact HF5.out)|(rw [← HEL.out,HZ.out];exact HF5.out))⟩
       case measure=>have:=HLT.out.1;simp [intOf];omega
  ·have hlt':¬ (i:Int) < (ls.length:Int):=by omega
   have HR:=Lib.hid (show mk=.ok (keepX a) by
    have:=HI.out.coll
    rw [List.drop_of_length_le (by omega)] at this
    rw [← HMK.out]
    exact collK_ok this)
   have HWS:=Lib.hid HI.out.nw.below.size
   clear hlt
   gi_wp2
   gi_loopw [9,10] (fun v9 v10 wq=>∃ (k:Nat) (A1:Option Addr) (c1:Nat),k≤a.length∧v9=.slice A1 (keepX (a.take k)).length c1∧v10=.int .i64 (k:Int)∧Hid (OwnM wo.heap.size wq (.slice A1 (keepX (a.take k)).length c1) (keepX (a.take k)))∧Hid (Below wo.heap.size wo wq)) (fun _ v10 _=>a.length - (intOf v10).toNat)
   case atStart=>exact ⟨0,none,0,Nat.zero_le _,rfl,rfl,Lib.hid (OwnM.nil _ _),Lib.hid (Below.refl _ _)⟩
   case round =>
    obtain ⟨k,A1,c1,hk,rfl,rfl,HO,HB⟩:=hrel
    by_cases hka:k < a.length
    ·obtain ⟨y,hy⟩:∃ y,a[k]?=some y:=⟨_,List.getElem?_eq_getElem hka⟩
     have hka2:(k:Int) < (a.length:Int):=by omega
     obtain ⟨g,rfl,hgb,p0,p1⟩:=(HI.out.later HB.out).at hy
     have HKS:=Lib.hid (keepX_snoc hy)
     have HKA:=Lib.hid hka
     have HLK:=Lib.hid (show (keepX (a.take k)).length≤1000 by unfold keepX;have:=List.length_filter_le (fun x:L2=>decide (x.2≠zT)) (a.take k);rw [List.length_take] at this;omega)
     obtain ⟨yf,yd⟩:=y
     dsimp only at p0 p1 HKS
     have TE:=eq_bytes yd zT
     rw [zT_list] at TE
     clear hy hka
     by_cases he:yd=zT
     ·rw [decide_eq_true he] at TE
      rw [if_pos he] at HKS
      clear he
      gi_wp2
      go_roundw
      case rel=>exact ⟨k+1,A1,c1,HKA.out,by rw [HKS.out],by go_num,by rw [HKS.out];exact HO,HB⟩
      case measure=>have:=HKA.out;simp [intOf];omega
     ·rw [decide_eq_false he] at TE
      rw [if_neg he] at HKS
      have HN:=Lib.hid (show ∀ (A:Option Addr) c,(Value.slice A ((keepX (a.take k)).length+1) c)=.slice A (keepX (a.take (k+1))).length c from fun A c=>by rw [HKS.out];simp)
      clear he
      have HO1:=Lib.hid (OwnM.later HO.out (below_alloc (Below.refl _ _) (.cells #[.string yf,.string yd] 30)))
      have HB1:=Lib.hid (below_alloc2 HB.out HB.out.size (.cells #[.string yf,.string yd] 30))
      have HS1:=Lib.hid (srcM_one (x:=(yf,yd)) (heap_alloc_new wr (.cells #[.string yf,.string yd] 30)))
      have hsz:=HB1.out.size
      gi_wp2_with (gi_at_builtin;go_loud (refine wpListIn_append_src _ rfl _ _ 22 rfl wo.heap.size 30 i0 (.agg #[.string ByteArray.empty,.string ByteArray.empty]) 2 32 Tryz.underlying22 hi hz0 hz1 hz2 rfl (by decide) _ _ _ rfl HO1.out _ 1 [.string yf,.string yd] rfl HS1.out (one_pairM (yf,yd)) (by have:=HLK.out;unfold maxLen;omega) (by have:=HLK.out;omega) hsz ?_;intro v1 w4 hown4 hgrow4;obtain ⟨A6,c6,rfl⟩:=slice_shape hown4;have HB4:=Lib.hid (grow_belowM HB1.out HB1.out.size HO1.out hgrow4);have HO4:=Lib.hid hown4;clear hown4 hgrow4))
      go_roundw
      case rel=>exact ⟨k+1,A6,c6,HKA.out,HN.out _ _,by go_num,Lib.hid (by rw [← HN.out,HKS.out];unfold OwnM;rw [List.length_append,cellsM_append];exact HO4.out),HB4⟩
      case measure=>have:=HKA.out;simp [intOf];omega
    ·have hka2:¬ (k:Int) < (a.length:Int):=by omega
     obtain rfl:k=a.length:=by omega
     clear hka
     rw [List.take_length] at HO ⊢
     gi_wp2
     refine bodyPost_ret (results_tmp2 rfl _ _ _) rfl ?_
     rw [HR.out]
     exact ⟨⟨_,rfl,owns_base HO.out HWS.out⟩,(HI.out.nw.later HB.out).below⟩
end S2
end Go.Proofs.YtigapglmipmbeaaGreatDoor
namespace Go.Proofs.YtigapglmipmbeaaGreatDoor
open Go.RowKit Go.Shelf
open Lim
attribute [local go_sem] Oper.semAt_some
theorem rdcheck_any (ls:List L2) (v:Value) (w:World) (hv:LRow w v ls) (hs:Short ls) (hr:Res w) :
  Calls Tryz.prog 37 #[v] w fun e w'=>e=.returned (.int .i64 (chkD ls:Int))∧Below w.heap.size w w':=by
 have HV:=Lib.hid hv
 obtain ⟨A,c,rfl,hlen,hcells⟩:=hv
 have HS:=Lib.hid hs
 have H0:=Lib.hid (NW.refl hr)
 clear hr hcells hs
 go_enter Tryz.func37,Tryz.ntmps37
 go_wp2
 go_loopw [3] (fun v3 wr=>∃ k:Nat,k≤ls.length∧v3=.int .i64 (k:Int)∧Hid (chkL none ls=chkL (keyAt ls k) (ls.drop k))∧Hid (NW w wr)) (fun v3 _=>ls.length - (intOf v3).toNat)
 case atStart=>exact ⟨0,Nat.zero_le _,rfl,Lib.hid (by simp [keyAt]),H0⟩
 case round =>
  clear H0
  obtain ⟨k,hk,rfl,HE,HN⟩:=hrel
  by_cases hlt:k < ls.length
  ·obtain ⟨x,hx⟩:∃ x,ls[k]?=some x:=⟨_,List.getElem?_eq_getElem hlt⟩
   obtain ⟨b,o,c',e',hb2,c0,c1⟩:=HV.out.at HN.out.below hx
   simp only [Value.slice.injEq,true_and] at e'
   obtain ⟨rfl,rfl⟩:=e'
   have hlt':(k:Int) < (ls.length:Int):=by omega
   have hsx:=(HS.out x (List.mem_of_getElem? hx)).2
   have HD:=Lib.hid (drop_of hx)
   have HLT:=Lib.hid (And.intro hlt hlt')
   have HXK:=Lib.hid hx
   obtain ⟨f,d⟩:=x
   dsimp only at c0 c1 HD HXK hsx
   clear hx hlt
   by_cases h0:errQ d.data.toList=0
   ·have HSG:=Lib.hid (retRSign_ok hsx h0)
    by_cases h2:0 < valQ d.data.toList
    ·have d1:decide (sgQ (valQ d.data.toList)≤0)=false:=decide_eq_false (fun h=>by have:=(sg_gt _).2 h2;omega)
     have h1:posE d=0:=posE_zero.2 ⟨h0,by grind⟩
     have HH:=Lib.hid (And.intro h1 h2)
     clear h0 h1 h2 hsx
     generalize sgQ (valQ d.data.toList)=sg at *
     rcases Nat.eq_zero_or_pos k with hk0|hk0
     ·have HR:=Lib.hid (show chkL none ls=chkL (keyAt ls (k+1)) (ls.drop (k+1)) by
       rw [HE.out,HD.out,keyAt_succ HXK.out,hk0]
       exact chkL_go (x:=(f,d)) HH.out.1 HH.out.2 rfl)
      have d0:decide (0 < (k:Int))=false:=decide_eq_false (by omega)
      have d0n:decide (0 < k)=false:=decide_eq_false (by omega)
      clear hk0
      go_wp2_with (go_at_call 110;refine (HSG.out _ HN.out.res).mono ?_;rintro e w3 ⟨rfl,hb⟩;have H3:=Lib.hid (HN.out.later hb);have hb3:=Nat.lt_of_lt_of_le hb2 hb.size;clear hb)
      go_quiet (fail)
      have H4:=Lib.hid (fun n=>H3.out.drewN n)
      go_wp2
      go_roundw
      case rel=>exact ⟨k+1,HLT.out.1,by go_num,HR,H4.out _⟩
      case measure=>have:=HLT.out.1;simp [intOf];omega
     ·obtain ⟨j,hj⟩:∃ j,k=j+1:=⟨k - 1,by omega⟩
      have hjl:(j:Int) < (ls.length:Int):=by have:=HLT.out.1;omega
      obtain ⟨y,hy⟩:∃ y,ls[j]?=some y:=⟨_,List.getElem?_eq_getElem (by omega)⟩
      have e1:(k:Int) - 1=(j:Int):=by omega
      have d0:decide (0 < (k:Int))=true:=decide_eq_true (by omega)
      have d0n:decide (0 < k)=true:=decide_eq_true (by omega)
      have HKJ:=Lib.hid hj
      clear hk0 hj
      have HYK:=Lib.hid hy
      cases h3:ltK y.1 f with
      | true =>
       have HR:=Lib.hid (show chkL none ls=chkL (keyAt ls (k+1)) (ls.drop (k+1)) by
        rw [HE.out,HD.out,keyAt_succ HXK.out,HKJ.out,keyAt_succ hy]
        exact chkL_go (x:=(f,d)) HH.out.1 HH.out.2 (by show (!ltK y.1 f)=false;rw [h3];rfl))
       have TL:=lt_bytes y.1 f
       rw [h3] at TL
       clear h3 hy
       go_wp2_with (go_at_call 110;refine (HSG.out _ HN.out.res).mono ?_;rintro e w3 ⟨rfl,hb⟩;have H3:=Lib.hid (HN.out.later hb);have hb3:=Nat.lt_of_lt_of_le hb2 hb.size;obtain ⟨hb4,q0,q1⟩:=HV.out.cell2 H3.out.below HXK.out;obtain ⟨hb5,p0,p1⟩:=HV.out.cell2 H3.out.below HYK.out;clear hb)
       go_quiet (fail)
       have H4:=Lib.hid (fun n=>H3.out.drewN n)
       go_wp2
       go_roundw
       case rel=>exact ⟨k+1,HLT.out.1,by go_num,HR,H4.out _⟩
       case measure=>have:=HLT.out.1;simp [intOf];omega
      | false =>
       have HR:=Lib.hid (show chkL none ls=9 by
        rw [HE.out,HD.out,HKJ.out,keyAt_succ hy]
        exact chkL_ord (x:=(f,d)) HH.out.1 HH.out.2 (by show (!ltK y.1 f)=true;rw [h3];rfl))
       have TL:=lt_bytes y.1 f
       rw [h3] at TL
       clear h3 hy
       go_wp2_with (go_at_call 110;refine (HSG.out _ HN.out.res).mono ?_;rintro e w3 ⟨rfl,hb⟩;have H3:=Lib.hid (HN.out.later hb);have hb3:=Nat.lt_of_lt_of_le hb2 hb.size;obtain ⟨hb4,q0,q1⟩:=HV.out.cell2 H3.out.below HXK.out;obtain ⟨hb5,p0,p1⟩:=HV.out.cell2 H3.out.below HYK.out;clear hb)
       go_quiet (fail)
       have H4:=Lib.hid (fun n=>H3.out.drewN n)
       go_wp2
       go_ret
       refine ⟨?_,(H4.out _).below⟩
       unfold chkD
       rw [HR.out]
       rfl
    ·have d1:decide (sgQ (valQ d.data.toList)≤0)=true:=decide_eq_true (Classical.byContradiction fun h=>h2 ((sg_gt _).1 (by omega)))
     have HR:=Lib.hid (show chkL none ls=2 by
      rw [HE.out,HD.out]
      by_cases h1:posE d=0
      ·exact chkL_low (x:=(f,d)) h1 h2
      ·rw [chkL_err (x:=(f,d)) h1]
       show posE d=2
       unfold posE at h1 ⊢
       rw [if_neg (by simpa using h0)] at h1 ⊢
       split
       ·rfl
       ·rename_i h4;rw [if_neg h4] at h1;exact absurd rfl h1)
     generalize sgQ (valQ d.data.toList)=sg at *
     clear h0 h2 hsx
     go_wp2_with (go_at_call 110;refine (HSG.out _ HN.out.res).mono ?_;rintro e w3 ⟨rfl,hb⟩;have H3:=Lib.hid (HN.out.later hb);have hb3:=Nat.lt_of_lt_of_le hb2 hb.size;clear hb)
     go_ret
     refine ⟨?_,H3.out.below⟩
     unfold chkD
     rw [HR.out]
     rfl
   ·have HSG:=Lib.hid (retRSign_err hsx h0)
    have HR:=Lib.hid (show chkL none ls=errQ d.data.toList∧chkL none ls≠0 by
     rw [HE.out,HD.out,chkL_err (x:=(f,d)) (by show posE d≠0;rw [posE_err h0];exact h0)]
     show posE d=_∧posE d≠0
     rw [posE_err h0]
     exact ⟨rfl,h0⟩)
    have hm:=ne_zero h0
    clear h0 hsx
    go_wp2_with (go_at_call 110;refine (HSG.out _ HN.out.res).mono ?_;rintro e w3 ⟨rfl,hb⟩;have H3:=Lib.hid (HN.out.later hb);have hb3:=Nat.lt_of_lt_of_le hb2 hb.size;clear hb)
    go_ret
    refine ⟨?_,H3.out.below⟩
    unfold chkD
    rw [if_pos HR.out.2,HR.out.1]
    rfl
  ·have hlt':¬ (k:Int) < (ls.length:Int):=by omega
   obtain rfl:k=ls.length:=by omega
   have h0:chkL none ls=0:=by
    have:=HE.out
    rw [List.drop_length] at this
    exact this
   have HQ:=Lib.hid (show chkD ls=chkS (foldX (fun x:L2=>.ok x.2) zT ls) by unfold chkD;rw [h0];rfl)
   have HER:=Lib.hid (errs_of h0)
   clear h0 hlt hk HE
   go_wp2
   go_loopw [6,8] (fun v6 v8 wq=>∃ (k:Nat) (s:ByteArray),k≤ls.length∧v8=.int .i64 (k:Int)∧v6=.string s∧Hid (errQ s.data.toList=0∧foldX (fun x:L2=>(.ok x.2:XE)) zT ls=foldX (fun x:L2=>.ok x.2) s (ls.drop k))∧Hid (NW w wq)) (fun _ v8 _=>ls.length - (intOf v8).toNat)
   case atStart=>exact ⟨0,zT,Nat.zero_le _,rfl,rfl,Lib.hid ⟨err_zT,by simp⟩,HN⟩
   case round =>
    clear HN hlt'
    obtain ⟨k,s,hk,rfl,rfl,HE,HN⟩:=hrel
    by_cases hlt:k < ls.length
    ·obtain ⟨x,hx⟩:∃ x,ls[k]?=some x:=⟨_,List.getElem?_eq_getElem hlt⟩
     obtain ⟨b,o,c',e',hb2,c0,c1⟩:=HV.out.at HN.out.below hx
     simp only [Value.slice.injEq,true_and] at e'
     obtain ⟨rfl,rfl⟩:=e'
     have hlt':(k:Int) < (ls.length:Int):=by omega
     have HD:=Lib.hid (drop_of hx)
     have HLT:=Lib.hid (And.intro hlt hlt')
     have HA:=Lib.hid (retRPlX (size_ok HE.out.1) (HS.out x (List.mem_of_getElem? hx)).2)
     obtain ⟨f,d⟩:=x
     dsimp only at c0 c1 HD HA
     clear hx hlt
     cases ha:plX s d with
     | error n =>
      have HR:=Lib.hid (show foldX (fun x:L2=>(.ok x.2:XE)) zT ls=.error n by rw [HE.out.2,HD.out];exact foldX_err2 rfl ha)
      have hm:=ne_zero (exQ_err ha)
      rw [ha] at HA
      change Hid (Ret _ _ (.tuple #[.string ⟨#[]⟩,.int .i64 (n:Int)])) at HA
      clear ha
      go_wp2_with (go_at_call 59;refine (HA.out _ HN.out.res).mono ?_;rintro e w3 ⟨rfl,hb⟩;have H3:=Lib.hid (HN.out.later hb);clear hb)
      go_ret
      rw [HQ.out,HR.out]
      exact ⟨rfl,H3.out.below⟩
     | ok t =>
      have HR:=Lib.hid (show errQ t.data.toList=0∧foldX (fun x:L2=>(.ok x.2:XE)) zT ls=foldX (fun x:L2=>.ok x.2) t (ls.drop (k+1)) from ⟨plX_ok ha,by rw [HE.out.2,HD.out];exact foldX_ok rfl ha⟩)
      rw [ha] at HA
      change Hid (Ret _ _ (.tuple #[.string t,.int .i64 0])) at HA
      clear ha
      go_wp2_with (go_at_call 59;refine (HA.out _ HN.out.res).mono ?_;rintro e w3 ⟨rfl,hb⟩;have H3:=Lib.hid (HN.out.later hb);clear hb)
      go_roundw
      case rel=>exact ⟨k+1,t,HLT.out.1,by go_num,rfl,HR,H3⟩
      case measure=>have:=HLT.out.1;simp [intOf];omega
    ·have hlt':¬ (k:Int) < (ls.length:Int):=by omega
     obtain rfl:k=ls.length:=by omega
     have HR:=Lib.hid (show foldX (fun x:L2=>(.ok x.2:XE)) zT ls=.ok s by
      have:=HE.out.2
      rwa [List.drop_length] at this)
     have TE:=eq_bytes s oT
     rw [oT_list] at TE
     rw [HR.out,chkS_ok] at HQ
     clear hlt
     by_cases h1:s=oT
     ·rw [decide_eq_true h1] at TE
      rw [if_pos h1] at HQ
      clear h1
      go_wp2
      go_ret
      rw [HQ.out]
      exact ⟨rfl,HN.out.below⟩
     ·rw [decide_eq_false h1] at TE
      rw [if_neg h1] at HQ
      clear h1
      go_wp2
      go_ret
      rw [HQ.out]
      exact ⟨rfl,HN.out.below⟩
theorem rdboth_any (p q:List L2) (vp vq:Value) (w:World) (hp:LRow w vp p) (hq:LRow w vq q) (sp:Short p) (sq:Short q) (hr:Res w) :
  Calls Tryz.prog 114 #[vp,vq] w fun e w'=>e=.returned (.int .i64 (chk2 p q:Int))∧Below w.heap.size w w':=by
 have N0:=Lib.hid (NW.refl hr)
 have TKA:True:=trivial
 have HP:=Lib.hid (rdcheck_any p vp w hp sp hr)
 have HQ:=Lib.hid (fun W (hW:NW w W)=>rdcheck_any q vq W (hq.below hW.below) sq hW.res)
 clear hp hq sp sq hr
 by_cases h0:chkD p=0
 ·have HR:=Lib.hid (show chk2 p q=chkD q from if_neg (by simpa using h0))
  rw [h0] at HP
  change Hid (Calls _ _ _ _ fun e w'=>e=.returned (.int .i64 0)∧_) at HP
  clear h0
  go_enter Tryz.func114,Tryz.ntmps114
  go_wp2_with (first
   | (clear TKA;go_at_call 37;refine HP.out.mono ?_;rintro e w1 ⟨rfl,hb⟩;have N1:=Lib.hid (N0.out.later hb);clear hb)
   | (go_at_call 37;refine (HQ.out _ N1.out).mono ?_;rintro e w2 ⟨rfl,hb⟩;have N2:=Lib.hid (N1.out.later hb);clear hb))
  go_ret
  rw [HR.out]
  exact ⟨rfl,N2.out.below⟩
 ·have HR:=Lib.hid (show chk2 p q=chkD p from if_pos h0)
  have hm:=ne_zero h0
  clear h0
  go_enter Tryz.func114,Tryz.ntmps114
  go_wp2_with (clear TKA;go_at_call 37;refine HP.out.mono ?_;rintro e w1 ⟨rfl,hb⟩;have N1:=Lib.hid (N0.out.later hb);clear hb)
  go_ret
  rw [HR.out]
  exact ⟨rfl,N1.out.below⟩
theorem atT_hit {x:L2} {l:List L2} {k:ByteArray} (h:x.1=k):atT (x::l) k=x.2∧hasT (x::l) k=true:=by unfold atT hasT;rw [if_pos h,if_pos h];exact ⟨rfl,rfl⟩
theorem atT_miss {x:L2} {l:List L2} {k:ByteArray} (h:x.1≠k):atT (x::l) k=atT l k∧hasT (x::l) k=hasT l k:=by
 constructor
 ·conv=>lhs;unfold atT
  rw [if_neg h]
 ·conv=>lhs;unfold hasT
  rw [if_neg h]
theorem rdfind_any (ls:List L2) (v:Value) (key:ByteArray) (w:World) (hv:LRow w v ls) :
  Calls Tryz.prog 126 #[v,.string key] w fun e w'=>e=.returned (.tuple #[.string (atT ls key),.bool (hasT ls key)])∧w'=w:=by
 have HV:=Lib.hid hv
 obtain ⟨A,c,rfl,hlen,hcells⟩:=hv
 clear hcells
 go_enter Tryz.func126,Tryz.ntmps126
 go_wp2
 go_loopw [6] (fun v6 wr=>∃ k:Nat,k≤ls.length∧v6=.int .i64 (k:Int)∧Hid (atT ls key=atT (ls.drop k) key∧hasT ls key=hasT (ls.drop k) key)∧wr=w) (fun v6 _=>ls.length - (intOf v6).toNat)
 case atStart=>exact ⟨0,Nat.zero_le _,rfl,Lib.hid (by simp),rfl⟩
 case round =>
  obtain ⟨k,hk,rfl,HE,rfl⟩:=hrel
  by_cases hlt:k < ls.length
  ·obtain ⟨x,hx⟩:∃ x,ls[k]?=some x:=⟨_,List.getElem?_eq_getElem hlt⟩
   obtain ⟨b,o,c',e',hb2,c0,c1⟩:=HV.out.at (Below.refl _ _) hx
   simp only [Value.slice.injEq,true_and] at e'
   obtain ⟨rfl,rfl⟩:=e'
   have hlt':(k:Int) < (ls.length:Int):=by omega
   have HD:=Lib.hid (drop_of hx)
   have HLT:=Lib.hid (And.intro hlt hlt')
   obtain ⟨f,d⟩:=x
   dsimp only at c0 c1 HD
   have TE:=eq_bytes f key
   clear hx hlt
   by_cases h1:f=key
   ·rw [decide_eq_true h1] at TE
    have HR:=Lib.hid (show atT ls key=d∧hasT ls key=true by rw [HE.out.1,HE.out.2,HD.out];exact atT_hit h1)
    clear h1
    go_wp2
    go_ret2
    rw [HR.out.1,HR.out.2]
    exact ⟨rfl,rfl⟩
   ·rw [decide_eq_false h1] at TE
    have HR:=Lib.hid (show atT ls key=atT (ls.drop (k+1)) key∧hasT ls key=hasT (ls.drop (k+1)) key by rw [HE.out.1,HE.out.2,HD.out];exact atT_miss h1)
    clear h1
    go_wp2
    go_roundw
    case rel=>exact ⟨k+1,HLT.out.1,by go_num,HR,trivial⟩
    case measure=>have:=HLT.out.1;simp [intOf];omega
  ·have hlt':¬ (k:Int) < (ls.length:Int):=by omega
   obtain rfl:k=ls.length:=by omega
   have HR:=Lib.hid (show atT ls key=zT∧hasT ls key=false by
    have:=HE.out
    rw [List.drop_length] at this
    exact this)
   clear hlt
   go_wp2
   go_ret2
   rw [HR.out.1,HR.out.2]
   exact ⟨rfl,rfl⟩
theorem rdAt_any (ls:List L2) (v:Value) (key:ByteArray) (w:World) (hv:LRow w v ls) :
  Calls Tryz.prog 39 #[v,.string key] w fun e w'=>e=.returned (.string (atT ls key))∧w'=w:=by
 have HF:=Lib.hid (rdfind_any ls v key w hv)
 clear hv
 go_enter Tryz.func39,Tryz.ntmps39
 go_wp2_with (go_at_call 126;refine HF.out.mono ?_;rintro e w1 ⟨rfl,rfl⟩)
 go_ret
 exact ⟨rfl,rfl⟩
theorem Short.coll:∀ {l a b:List L2},collX a l=.ok b→Short a→Short l→Short b
 | [],a,b,h,ha,_=>by cases h;exact ha
 | x::l,a,b,h,ha,hl=>by
  unfold collX at h
  split at h
  ·cases h
  ·rename_i m hm
   exact Short.coll h (Short.ins hm ha (hl x (by simp))) fun y hy=>hl y (by simp [hy])
theorem Short.keep {a:List L2} (h:Short a):Short (keepX a):=fun x hx=>h x ((List.mem_filter.1 hx).1)
theorem Short.make {l d:List L2} (h:makeX l=.ok d) (hl:Short l):Short d:=by
 unfold makeX at h
 split at h
 ·cases h
 ·split at h
  ·cases h
  ·rename_i a ha
   unfold doneX at h
   split at h
   ·cases h
   ·cases h
    exact (Short.coll ha (fun x h=>by cases h) hl).keep
theorem rdmake_any (ls:List L2) (v:Value) (w:World) (hv:LRow w v ls) (hs:Short ls) (hr:Res w) :
  Calls Tryz.prog 26 #[v] w fun e w'=>ResM w.heap.size (makeX ls) e w'∧Below w.heap.size w w':=by
 have HV:=Lib.hid hv
 have HS:=Lib.hid hs
 have HC:=Lib.hid (fun (W:World) (hW:NW w W)=>S2.rdcollect_any ls _ W (hv.below hW.below) hs hW.res)
 obtain ⟨A,c,rfl,HLEN,hcells⟩:=hv
 have H0:=Lib.hid (NW.refl hr)
 clear hr hcells hs
 generalize hm:makeX ls=mk
 have HMK:=Lib.hid hm
 clear hm
 go_enter Tryz.func26,Tryz.ntmps26
 go_wp2
 go_loopw [4] (fun v4 wr=>∃ k:Nat,k≤ls.length∧v4=.int .i64 (k:Int)∧Hid (posL ls=posL (ls.drop k))∧Hid (NW w wr)) (fun v4 _=>ls.length - (intOf v4).toNat)
 case atStart=>exact ⟨0,Nat.zero_le _,rfl,Lib.hid (by simp),H0⟩
 case round =>
  clear H0
  obtain ⟨k,hk,rfl,HE,HN⟩:=hrel
  by_cases hlt:k < ls.length
  ·obtain ⟨x,hx⟩:∃ x,ls[k]?=some x:=⟨_,List.getElem?_eq_getElem hlt⟩
   obtain ⟨b,o,c',e',hb2,c0,c1⟩:=HV.out.at HN.out.below hx
   simp only [Value.slice.injEq,true_and] at e'
   obtain ⟨rfl,rfl⟩:=e'
   have hlt':(k:Int) < (ls.length:Int):=by omega
   have hsx:=(HS.out x (List.mem_of_getElem? hx)).2
   have HD:=Lib.hid (drop_of hx)
   have HLT:=Lib.hid (And.intro hlt hlt')
   obtain ⟨f,d⟩:=x
   dsimp only at c0 c1 HD hsx
   clear hx hlt
   by_cases h0:errQ d.data.toList=0
   ·have HSG:=Lib.hid (retRSign_ok hsx h0)
    by_cases h2:valQ d.data.toList < 0
    ·have d1:decide (sgQ (valQ d.data.toList) < 0)=true:=decide_eq_true ((sg_lt _).2 h2)
     have HR:=Lib.hid (show mk=.error 2 by
      have h1:posE d=2:=by unfold posE;rw [if_neg (by simpa using h0),if_pos h2]
      have h3:posL ls=2:=by rw [HE.out,HD.out,posL_err (x:=(f,d)) (by rw [h1];decide),h1]
      rw [← HMK.out];unfold makeX;rw [if_pos (by rw [h3];decide),h3])
     generalize sgQ (valQ d.data.toList)=sg at *
     clear h0 h2 hsx
     go_wp2_with (go_at_call 110;refine (HSG.out _ HN.out.res).mono ?_;rintro e w3 ⟨rfl,hb⟩;have H3:=Lib.hid (HN.out.later hb);clear hb)
     go_ret2
     rw [HR.out]
     exact ⟨rfl,H3.out.below⟩
    ·have d1:decide (sgQ (valQ d.data.toList) < 0)=false:=decide_eq_false (fun h=>h2 ((sg_lt _).1 h))
     have HR:=Lib.hid (show posL ls=posL (ls.drop (k+1)) by
      rw [HE.out,HD.out]
      exact posL_go (x:=(f,d)) (by show posE d=0;unfold posE;rw [if_neg (by simpa using h0),if_neg h2]))
     generalize sgQ (valQ d.data.toList)=sg at *
     clear h0 h2 hsx
     go_wp2_with (go_at_call 110;refine (HSG.out _ HN.out.res).mono ?_;rintro e w3 ⟨rfl,hb⟩;have H3:=Lib.hid (HN.out.later hb);clear hb)
     go_roundw
     case rel=>exact ⟨k+1,HLT.out.1,by go_num,HR,H3⟩
     case measure=>have:=HLT.out.1;simp [intOf];omega
   ·have HSG:=Lib.hid (retRSign_err hsx h0)
    have HR:=Lib.hid (show mk=.error (errQ d.data.toList) by
     have h3:posL ls=errQ d.data.toList:=by rw [HE.out,HD.out,posL_err (x:=(f,d)) (by show posE d≠0;rw [posE_err h0];exact h0)];exact posE_err h0
     rw [← HMK.out];unfold makeX;rw [if_pos (by rw [h3];exact h0),h3])
    have hm:=ne_zero h0
    have hm2:=ne_zero2 h0
    clear h0 hsx
    go_wp2_with (go_at_call 110;refine (HSG.out _ HN.out.res).mono ?_;rintro e w3 ⟨rfl,hb⟩;have H3:=Lib.hid (HN.out.later hb);clear hb)
    go_ret2
    rw [HR.out]
    exact ⟨rfl,H3.out.below⟩
  ·have hlt':¬ (k:Int) < (ls.length:Int):=by omega
   have h0:posL ls=0:=by
    have:=HE.out
    rw [List.drop_of_length_le (by omega)] at this
    exact this
   have HMK2:mk=(match collX [] ls with|.error n=>.error n|.ok a=>doneX a):=by
    rw [← HMK.out]
    unfold makeX
    rw [if_neg (by simpa using h0)]
    rfl
   clear hlt HMK HE h0
   cases hc:collX [] ls with
   | error n =>
    rw [hc] at HMK2
    have HCC:=Lib.hid (HC.out wr HN.out)
    rw [collK_err hc] at HCC
    change Hid (Calls _ _ _ _ fun e w'=>e=.returned (.tuple #[.slice none 0 0,.int .i64 (n:Int)])∧_) at HCC
    have hm:=ne_zero (collX_ne hc)
    have hm2:=ne_zero2 (collX_ne hc)
    have HR:=Lib.hid (show mk=.error n from HMK2)
    clear hc HMK2
    go_wp2_with (go_at_call 111;refine HCC.out.mono ?_;rintro e w3 ⟨rfl,hb⟩;have H3:=Lib.hid (HN.out.later hb);clear hb)
    go_ret2
    rw [HR.out]
    exact ⟨rfl,H3.out.below⟩
   | ok a =>
    rw [hc] at HMK2
    have HCC:=Lib.hid (HC.out wr HN.out)
    rw [collK_ok hc] at HCC
    change Hid (Calls _ _ _ _ fun e w'=>(∃ u,e=.returned (.tuple #[u,.int .i64 0])∧OwnM wr.heap.size w' u (keepX a))∧_) at HCC
    have hl:(keepX a).length≤1000:=by
     have h1:=collX_len hc
     have h2:=List.length_filter_le (fun x:L2=>decide (x.2≠zT)) a
     unfold keepX
     simp at h1
     omega
    have HCK:=Lib.hid (fun (W:World) (u:Value) (ho:OwnM wr.heap.size W u (keepX a)) (hr:Res W)=>rdcheck_any (keepX a) u W (ho.row hl) (Short.coll hc (fun x h=>by cases h) HS.out).keep hr)
    have HWR:=Lib.hid HN.out.below.size
    change mk=doneX a at HMK2
    unfold doneX at HMK2
    have TK0:True:=trivial
    have TK1:True:=trivial
    clear hc hl
    by_cases hz:chkD (keepX a)=0
    ·have HR:=Lib.hid (show mk=.ok (keepX a) by rw [HMK2,if_neg (by simpa using hz)])
     rw [hz] at HCK
     clear hz HMK2
     go_wp2_with (first
      | (clear TK0;go_at_call 111;refine HCC.out.mono ?_;rintro e w3 ⟨⟨u,rfl,ho⟩,hb⟩;have H3:=Lib.hid (HN.out.later hb);have HO3:=Lib.hid ho;clear hb ho)
      | (clear TK1;go_at_call 37;refine (HCK.out _ _ HO3.out H3.out.res).mono ?_;rintro e w4 ⟨rfl,hb⟩;have H4:=Lib.hid (H3.out.later hb);have HO4:=Lib.hid (HO3.out.later hb);clear hb))
     go_ret2
     rw [HR.out]
     exact ⟨⟨_,rfl,owns_base HO4.out HWR.out⟩,H4.out.below⟩
    ·have HR:=Lib.hid (show mk=.error (chkD (keepX a)) by rw [HMK2,if_pos hz])
     have hm:=ne_zero hz
     have hm2:=ne_zero2 hz
     generalize chkD (keepX a)=n at *
     clear hz HMK2
     go_wp2_with (first
      | (clear TK0;go_at_call 111;refine HCC.out.mono ?_;rintro e w3 ⟨⟨u,rfl,ho⟩,hb⟩;have H3:=Lib.hid (HN.out.later hb);have HO3:=Lib.hid ho;clear hb ho)
      | (clear TK1;go_at_call 37;refine (HCK.out _ _ HO3.out H3.out.res).mono ?_;rintro e w4 ⟨rfl,hb⟩;have H4:=Lib.hid (H3.out.later hb);clear hb))
     go_ret2
     rw [HR.out]
     exact ⟨rfl,H4.out.below⟩
end Go.Proofs.YtigapglmipmbeaaGreatDoor
namespace Go.Proofs.YtigapglmipmbeaaGreatDoor
open Go.RowKit Go.Shelf
open Lim
section
variable {a b:ByteArray} {p q:Rat} (w:World)
end
section
variable {a b c:ByteArray} {p q:Rat} (w:World)
theorem rcmpT (ha:IsT a p) (hb:IsT b q) :
  Calls Tryz.prog 119 #[.string a,.string b] w fun e w'=>e=.returned (.tuple #[.int .i64 (cmpQ p q),.int .i64 0])∧Below w.heap.size w w':=by
 refine (refCmp_any a b w ha.size hb.size).mono ?_
 rintro e w' ⟨rfl,h⟩
 rw [two_I ha hb]
 exact ⟨rfl,h⟩
end
end Go.Proofs.YtigapglmipmbeaaGreatDoor
