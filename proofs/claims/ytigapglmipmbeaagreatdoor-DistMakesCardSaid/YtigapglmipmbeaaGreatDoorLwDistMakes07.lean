/- The reference 08: scaled, Mix (printed by mkdref4.py). The reference 08: Push, Point (printed by mkdref4.py). Same of the program's dist and of the reference 08; kit.Same of masses. law 08: half, thirds and the examples that each statement asks first (printed by mkdlives.py). law 08: number, least, plus, times. A long region's order check, reckoned without an array of what has come: quick for the kernel. Walks of laws behind made: one class of later worlds for all that follows. What Delta, Factor and Moment give, as rationals. No program in sight. The plain law of DistTriangle: distances as texts. No program in sight. The plain law of DistFactors: the least factor as a text. No program in sight. law 08: names (printed by mkdlaw3.py). DistPushes, as a walk (printed by mkdlaw3.py). Laws inside a fence: drawn regions of one class of later worlds; what Mix gives (printed by mkdlaw4.py). (printed by mkrangep.py) A range over a function whose yields come in a known order; what holds in memory may speak of what has come. How a function hands back results that lie in cells: a struct and an error. -/
import Derived.Test.YtigapglmipmbeaaGreatDoorLwDistMakes03
import Derived.Test.YtigapglmipmbeaaGreatDoorLwDistMakes06
import Derived.Test.YtigapglmipmbeaaGreatDoorLwDistMakes01
import Derived.Test.YtigapglmipmbeaaGreatDoorLwDistMakes02
import Derived.Test.YtigapglmipmbeaaGreatDoorRb03
import Derived.Test.YtigapglmipmbeaaGreatDoorRb10
set_option maxRecDepth 100000
set_option maxHeartbeats 16000000
namespace Go.Proofs.YtigapglmipmbeaaGreatDoor
open Go.RowKit Go.Shelf
open Lim
attribute [local go_sem] Oper.semAt_some
theorem rdscaled_any (ls:List L2) (v:Value) (b:ByteArray) (w:World) (hv:LRow w v ls) (hs:Short ls) (hb:b.size≤270000) (hr:Res w) :
  Calls Tryz.prog 115 #[v,.string b] w fun e w'=>ResM w.heap.size (scaleX ls b) e w'∧Below w.heap.size w w':=by
 have HV:=Lib.hid hv
 have HS:=Lib.hid hs
 have HRS:=Lib.hid hr
 have N0:=Lib.hid (NW.refl hr)
 have HBS:=Lib.hid hb
 obtain ⟨A0,c0,rfl,HLEN,_⟩:=hv
 obtain ⟨i0,hi,hz0,hz1,hz2⟩:=info_parts infoM
 clear hs hr hb
 generalize hm:scaleX ls b=mk
 have HMK:=Lib.hid hm
 clear hm
 go_enter Tryz.func115,Tryz.ntmps115
 go_wp2
 go_loopw [6,7] (fun v6 v7 wr=>∃ (done:List L2) (A1:Option Addr) (c1:Nat),done.length≤ls.length∧v6=.slice A1 done.length c1∧v7=.int .i64 (done.length:Int)∧Hid (mk=scaleR done (scaleX (ls.drop done.length) b))∧Hid (OwnM w.heap.size wr (.slice A1 done.length c1) done)∧Hid (NW w wr)) (fun _ v7 _=>ls.length - (intOf v7).toNat)
 case atStart=>exact ⟨[],none,0,Nat.zero_le _,rfl,rfl,Lib.hid (by rw [scaleR_nil];exact HMK.out.symm),Lib.hid (OwnM.nil _ _),N0⟩
 case round =>
  clear N0
  obtain ⟨done,A1,c1,hk,rfl,rfl,HE,HO,HN⟩:=hrel
  by_cases hlt:done.length < ls.length
  ·obtain ⟨x,hx⟩:∃ x,ls[done.length]?=some x:=⟨_,List.getElem?_eq_getElem hlt⟩
   obtain ⟨b2,o,c',e',hb2,q0,q1⟩:=HV.out.at HN.out.below hx
   simp only [Value.slice.injEq,true_and] at e'
   obtain ⟨rfl,rfl⟩:=e'
   have hlt':(done.length:Int) < (ls.length:Int):=by omega
   have HD:=drop_of hx
   have HSX:=Lib.hid (HS.out x (List.mem_of_getElem? hx))
   have HLT:=Lib.hid (And.intro hlt hlt')
   have HXC:=Lib.hid hx
   rw [HD] at HE
   have HMU:=Lib.hid (retRMulX HSX.out.2 HBS.out)
   obtain ⟨f,d⟩:=x
   dsimp only at q0 q1 HMU
   clear hx hlt HD
   cases hmu:mulX d b with
   | error n =>
    rw [hmu] at HMU
    change Hid (Ret _ _ (.tuple #[.string ⟨#[]⟩,.int .i64 (n:Int)])) at HMU
    have hz:=ne_zero (exQ_err hmu)
    have hz9:=ne_zero2 (exQ_err hmu)
    have HR:=Lib.hid (show mk=.error n by rw [HE.out,scaleX_err (x:=(f,d)) hmu];rfl)
    clear hmu
    go_wp2_with (go_at_call 149;refine (HMU.out _ HN.out.res).mono ?_;rintro e w3 ⟨rfl,hb⟩;have H3:=Lib.hid (HN.out.later hb);clear hb)
    go_ret2
    rw [HR.out]
    exact ⟨rfl,H3.out.below⟩
   | ok p =>
    rw [hmu] at HMU
    change Hid (Ret _ _ (.tuple #[.string p,.int .i64 0])) at HMU
    have HR:=Lib.hid (show mk=scaleR (done++[(f,p)]) (scaleX (ls.drop (done.length+1)) b) by rw [HE.out,scaleX_go (x:=(f,d)) hmu])
    have TK0:True:=trivial
    clear hmu
    go_wp2_with (first
     | (clear TK0;go_at_call 149;refine (HMU.out _ HN.out.res).mono ?_;rintro e w3 ⟨rfl,hb⟩;have H3:=Lib.hid (HN.out.later hb);have HO3:=Lib.hid (OwnM.later HO.out hb);obtain ⟨hb4,q2,q3⟩:=HV.out.cell2 H3.out.below HXC.out;dsimp only at q2 q3;have HA3:=Lib.hid (OwnM.later HO3.out (below_alloc (Below.refl _ _) (.cells #[.string f,.string p] 30)));have HN3:=Lib.hid (H3.out.alloc (.cells #[.string f,.string p] 30));clear hb)
     | (at_builtin;refine wpList_append_own _ rfl _ _ 22 rfl w.heap.size 30 i0 (.agg #[.string ByteArray.empty,.string ByteArray.empty]) 2 32 Tryz.underlying22 hi hz0 hz1 hz2 rfl (by decide) _ _ _ rfl HA3.out ⟨w3.heap.size,0,none⟩ 1 1 [.string f,.string p] rfl rfl (cell_two_new _ _ _ _) (one_pairM (f,p)) (by have:=HLT.out.1;unfold maxLen;omega) (by have:=HLT.out.1;omega) HN3.out.below.size ?_;intro v' w7 hown7 hgrow7 _;obtain ⟨A5,c5,rfl⟩:=slice_shape hown7;have HO7:=Lib.hid (show OwnM w.heap.size w7 (.slice A5 (done.length+1) c5) (done++[(f,p)]) by unfold OwnM;rw [List.length_append,cellsM_append];exact hown7);have HN7:=Lib.hid (grow_nw HN3.out HRS.out hgrow7 (fun r e=>HA3.out.base e));clear hown7 hgrow7))
    go_roundw
    case rel =>
     have e1:(done++[(f,p)]).length=done.length+1:=by simp
     exact ⟨done++[(f,p)],A5,c5,by rw [e1];exact HLT.out.1,by rw [e1],by rw [e1];go_num,Lib.hid (by rw [e1];exact HR.out),Lib.hid (by rw [e1];exact HO7.out),HN7⟩
    case measure=>have:=HLT.out.1;simp [intOf];omega
  ·have hlt':¬ (done.length:Int) < (ls.length:Int):=by omega
   have hd:ls.drop done.length=[]:=List.drop_of_length_le (by omega)
   have HR:=Lib.hid (show mk=.ok done by rw [HE.out,hd];show Except.ok (done++[])=_;rw [List.append_nil])
   clear hlt hd
   go_wp2
   go_ret2
   rw [HR.out]
   exact ⟨⟨_,rfl,HO.out⟩,HN.out.below⟩
theorem rdmix_any (p:ByteArray) (a b:List L2) (va vb:Value) (w:World) (ha:LRow w va a) (hb:LRow w vb b) (sa:Short a) (sb:Short b) (hp:p.size≤270000) (hlen:a.length+b.length≤1000) (hsub:posE p=0→¬ 1 < valQ p.data.toList→∃ r,subX oT p=.ok r) (hr:Res w) :
  Calls Tryz.prog 30 #[.string p,va,vb] w fun e w'=>ResM w.heap.size (mixX p a b) e w'∧Below w.heap.size w w':=by
 have NA:=Lib.hid (NW.refl hr)
 have HCK:=Lib.hid (rdboth_any a b va vb w ha hb sa sb hr)
 have HLA:=Lib.hid (show a.length≤1000 from ha.choose_spec.choose_spec.2.1)
 have HLB:=Lib.hid (show b.length≤1000 from hb.choose_spec.choose_spec.2.1)
 obtain ⟨A0,c0,rfl,_,_⟩:=id ha
 obtain ⟨A1,c1,rfl,_,_⟩:=id hb
 have HA:=Lib.hid ha
 have HB:=Lib.hid hb
 have SA:=Lib.hid sa
 have SB:=Lib.hid sb
 have HRS:=Lib.hid hr
 clear ha hb sa sb hr
 have TK0:True:=trivial
 have TK1:True:=trivial
 have TK2:True:=trivial
 have TK3:True:=trivial
 have TK4:True:=trivial
 have TK5:True:=trivial
 by_cases hc:chk2 a b=0
 ·obtain ⟨hca,hcb⟩:=chk2_both hc
  have pos0:∀ ls:List L2,chkD ls=0→0 < ls.length:=fun ls h=>by
   rcases Nat.eq_zero_or_pos ls.length with h2|h2
   ·have e:=List.eq_nil_of_length_eq_zero h2
    subst e
    exact absurd h (by decide)
   ·exact h2
  have ha0:=pos0 a hca
  have hb0:=pos0 b hcb
  rw [hc] at HCK
  change Hid (Calls _ _ _ _ fun e w'=>e=.returned (.int .i64 0)∧_) at HCK
  clear pos0 hca hcb
  by_cases hq:posE p=0
  ·have hpe:=(posE_zero.1 hq).1
   have hp0:=(posE_zero.1 hq).2
   have HPS:=Lib.hid (retRSign_ok hp hpe)
   have dn:decide (sgQ (valQ p.data.toList) < 0)=false:=decide_eq_false (fun h=>by have:=(sg_lt _).1 h;grind)
   generalize sgQ (valQ p.data.toList)=sg at *
   have HCM:=Lib.hid (fun (W:World) (_:Res W)=>rcmpT W (IsT.of hpe) IsT.one)
   by_cases h1:1 < valQ p.data.toList
   ·have HR:=Lib.hid (show mixX p a b=.error 2 by unfold mixX;rw [if_neg (by simpa using hc),if_neg (by simpa using hq),if_pos h1])
    have d1:decide (0 < cmpQ (valQ p.data.toList) 1)=true:=decide_eq_true (by have:=(cmpQ_lt 1 (valQ p.data.toList)).2 h1;rw [cmpQ_swap] at this;omega)
    generalize cmpQ (valQ p.data.toList) 1=cq at *
    clear hc hq hpe hp0 h1 ha0 hb0 hsub
    go_enter Tryz.func30,Tryz.ntmps30
    go_wp2_with ((clear TK0;go_at_call 114;refine (HCK.out).mono ?_;rintro e w1 ⟨rfl,hb⟩;have N1:=Lib.hid (NA.out.later hb);clear hb))
    go_wp2_with ((clear TK1;go_at_call 110;refine (HPS.out _ N1.out.res).mono ?_;rintro e w2 ⟨rfl,hb⟩;have N2:=Lib.hid (N1.out.later hb);clear hb))
    go_wp2_with ((clear TK2;go_at_call 119;refine (HCM.out _ N2.out.res).mono ?_;rintro e w3 ⟨rfl,hb⟩;have N3:=Lib.hid (N2.out.later hb);clear hb))
    go_wp2
    go_ret2
    rw [HR.out]
    exact ⟨rfl,N3.out.below⟩
   ·obtain ⟨r,hsr⟩:=hsub hq h1
    have d1:decide (0 < cmpQ (valQ p.data.toList) 1)=false:=decide_eq_false (fun h=>h1 ((cmpQ_lt 1 (valQ p.data.toList)).1 (by rw [cmpQ_swap];omega)))
    have hM:mixX p a b=(match scaleX a p with|.error n=>.error n|.ok x=>match scaleX b r with|.error n=>.error n|.ok y=>makeX (x++y)):=by
     unfold mixX
     rw [if_neg (by simpa using hc),if_neg (by simpa using hq),if_neg h1,hsr]
     rfl
    have HSB:=retRSubX (a:=oT) (b:=p) oT_small hp
    rw [hsr] at HSB
    change Ret _ #[.string ⟨#[49]⟩,.string p] (.tuple #[.string r,.int .i64 0]) at HSB
    have HSB:=Lib.hid HSB
    have hrs:=size_ok (subX_ok hsr)
    have HSX:=Lib.hid (fun (W:World) (hW:NW w W)=>rdscaled_any a _ p W (HA.out.below hW.below) SA.out hp hW.res)
    have HSY:=Lib.hid (fun (W:World) (hW:NW w W)=>rdscaled_any b _ r W (HB.out.below hW.below) SB.out hrs hW.res)
    have HB0:=Lib.hid hb0
    generalize cmpQ (valQ p.data.toList) 1=cq at *
    clear hc hq hpe hp0 h1 ha0 hb0 hsub hsr hrs hp
    cases hx:scaleX a p with
    | error n =>
     rw [hx] at hM HSX
     change Hid (∀ W (_:NW w W),Calls _ _ _ _ fun e w'=>e=.returned (.tuple #[.slice none 0 0,.int .i64 (n:Int)])∧_) at HSX
     have hz:=ne_zero (scaleX_ne hx)
     have hz2:=ne_zero2 (scaleX_ne hx)
     have HR:=Lib.hid (show mixX p a b=.error n from hM)
     clear hx hM
     go_enter Tryz.func30,Tryz.ntmps30
     go_wp2_with ((clear TK0;go_at_call 114;refine (HCK.out).mono ?_;rintro e w1 ⟨rfl,hb⟩;have N1:=Lib.hid (NA.out.later hb);clear hb))
     go_wp2_with ((clear TK1;go_at_call 110;refine (HPS.out _ N1.out.res).mono ?_;rintro e w2 ⟨rfl,hb⟩;have N2:=Lib.hid (N1.out.later hb);clear hb))
     go_wp2_with ((clear TK2;go_at_call 119;refine (HCM.out _ N2.out.res).mono ?_;rintro e w3 ⟨rfl,hb⟩;have N3:=Lib.hid (N2.out.later hb);clear hb))
     go_wp2_with ((clear TK3;go_at_call 61;refine (HSB.out _ N3.out.res).mono ?_;rintro e w4 ⟨rfl,hb⟩;have N4:=Lib.hid (N3.out.later hb);clear hb))
     go_wp2_with ((clear TK4;go_at_call 115;refine (HSX.out _ N4.out).mono ?_;rintro e w5 ⟨rfl,hb⟩;have N5:=Lib.hid (N4.out.later hb);clear hb))
     go_wp2
     go_ret2
     rw [HR.out]
     exact ⟨rfl,N5.out.below⟩
    | ok xs =>
     rw [hx] at hM HSX
     change Hid (∀ W (_:NW w W),Calls _ _ _ _ fun e w'=>(∃ u,e=.returned (.tuple #[u,.int .i64 0])∧OwnM _ w' u xs)∧_) at HSX
     cases hy:scaleX b r with
     | error n =>
      rw [hy] at hM HSY
      change Hid (∀ W (_:NW w W),Calls _ _ _ _ fun e w'=>e=.returned (.tuple #[.slice none 0 0,.int .i64 (n:Int)])∧_) at HSY
      have hz:=ne_zero (scaleX_ne hy)
      have hz2:=ne_zero2 (scaleX_ne hy)
      have HR:=Lib.hid (show mixX p a b=.error n from hM)
      clear hx hy hM
      go_enter Tryz.func30,Tryz.ntmps30
      go_wp2_with ((clear TK0;go_at_call 114;refine (HCK.out).mono ?_;rintro e w1 ⟨rfl,hb⟩;have N1:=Lib.hid (NA.out.later hb);clear hb))
      go_wp2_with ((clear TK1;go_at_call 110;refine (HPS.out _ N1.out.res).mono ?_;rintro e w2 ⟨rfl,hb⟩;have N2:=Lib.hid (N1.out.later hb);clear hb))
      go_wp2_with ((clear TK2;go_at_call 119;refine (HCM.out _ N2.out.res).mono ?_;rintro e w3 ⟨rfl,hb⟩;have N3:=Lib.hid (N2.out.later hb);clear hb))
      go_wp2_with ((clear TK3;go_at_call 61;refine (HSB.out _ N3.out.res).mono ?_;rintro e w4 ⟨rfl,hb⟩;have N4:=Lib.hid (N3.out.later hb);clear hb))
      go_wp2_with ((clear TK4;go_at_call 115;refine (HSX.out _ N4.out).mono ?_;rintro e w5 ⟨⟨u5,rfl,ho5⟩,hb⟩;obtain ⟨A5,c5,rfl⟩:=ho5.slice;have N5:=Lib.hid (N4.out.later hb);have HO5:=Lib.hid ho5;have HZ5:=Lib.hid hb.size;clear hb ho5))
      go_wp2_with ((clear TK5;go_at_call 115;refine (HSY.out _ N5.out).mono ?_;rintro e w6 ⟨rfl,hb⟩;have N6:=Lib.hid (N5.out.later hb);clear hb))
      go_wp2
      go_ret2
      rw [HR.out]
      exact ⟨rfl,N6.out.below⟩
     | ok ys =>
      rw [hy] at hM HSY
      change Hid (∀ W (_:NW w W),Calls _ _ _ _ fun e w'=>(∃ u,e=.returned (.tuple #[u,.int .i64 0])∧OwnM _ w' u ys)∧_) at HSY
      have HY0:=Lib.hid (show 0 < ys.length by rw [scaleX_len hy];exact HB0.out)
      have HXY:=Lib.hid (show xs.length+ys.length≤2000 by rw [scaleX_len hy,scaleX_len hx];have:=HLA.out;have:=HLB.out;omega)
      have hsm:Short (xs++ys):=fun z hz=>by
       rcases List.mem_append.1 hz with h|h
       ·exact scaleX_short hx SA.out z h
       ·exact scaleX_short hy SB.out z h
      have HMC:=Lib.hid (fun (W:World) (u:Value) (B:Nat) (ho:OwnM B W u (xs++ys)) (hr:Res W)=>rdmake_any (xs++ys) u W (ho.row (by rw [List.length_append,scaleX_len hx,scaleX_len hy];exact hlen)) hsm hr)
      obtain ⟨i0,hi,hz0,hz1,hz2⟩:=info_parts infoM
      have TK6:True:=trivial
      have HR:=Lib.hid (show mixX p a b=makeX (xs++ys) from hM)
      rw [← HR.out] at HMC
      clear hx hy hsm hM
      generalize mixX p a b=mk at *
      cases mk with
      | error n =>
       change Hid (∀ W u B (_:OwnM B W u (xs++ys)) (_:Res W),Calls _ _ _ _ fun e w'=>e=.returned (.tuple #[.slice none 0 0,.int .i64 (n:Int)])∧_) at HMC
       go_enter Tryz.func30,Tryz.ntmps30
       go_wp2_with ((clear TK0;go_at_call 114;refine (HCK.out).mono ?_;rintro e w1 ⟨rfl,hb⟩;have N1:=Lib.hid (NA.out.later hb);clear hb))
       go_wp2_with ((clear TK1;go_at_call 110;refine (HPS.out _ N1.out.res).mono ?_;rintro e w2 ⟨rfl,hb⟩;have N2:=Lib.hid (N1.out.later hb);clear hb))
       go_wp2_with ((clear TK2;go_at_call 119;refine (HCM.out _ N2.out.res).mono ?_;rintro e w3 ⟨rfl,hb⟩;have N3:=Lib.hid (N2.out.later hb);clear hb))
       go_wp2_with ((clear TK3;go_at_call 61;refine (HSB.out _ N3.out.res).mono ?_;rintro e w4 ⟨rfl,hb⟩;have N4:=Lib.hid (N3.out.later hb);clear hb))
       go_wp2_with ((clear TK4;go_at_call 115;refine (HSX.out _ N4.out).mono ?_;rintro e w5 ⟨⟨u5,rfl,ho5⟩,hb⟩;obtain ⟨A5,c5,rfl⟩:=ho5.slice;have N5:=Lib.hid (N4.out.later hb);have HO5:=Lib.hid ho5;have HZ5:=Lib.hid hb.size;clear hb ho5))
       go_wp2_with (first
        | (clear TK5;go_at_call 115;refine (HSY.out _ N5.out).mono ?_;rintro e w6 ⟨⟨u6,rfl,ho6⟩,hb⟩;obtain ⟨g6,c6,rfl,hg6⟩:=ho6.ofPos HY0.out;have N6:=Lib.hid (N5.out.later hb);have HO6:=Lib.hid ho6;have HO5:=Lib.hid (OwnM.later HO5.out hb);have HSR:=Lib.hid (World.ownsRow.cells ho6 (g:=g6) rfl);have HZ6:=Lib.hid hb.size;clear hb ho6 hg6)
        | (at_builtin;refine wpList_append_own _ rfl _ _ 22 rfl w4.heap.size 30 i0 (.agg #[.string ByteArray.empty,.string ByteArray.empty]) 2 32 Tryz.underlying22 hi hz0 hz1 hz2 rfl (by decide) _ _ _ rfl HO5.out ⟨g6,0,none⟩ ys.length c6 (cellsM ys) rfl (cellsM_length ys) HSR.out (one_cellsM ys) (by have:=HXY.out;unfold maxLen;omega) (by have:=HXY.out;omega) (Nat.le_trans HZ5.out HZ6.out) ?_;intro v' w7 hown7 hgrow7 _;have HO7:=Lib.hid (show OwnM w4.heap.size w7 v' (xs++ys) by unfold OwnM;rw [List.length_append,cellsM_append];exact hown7);have HG7:=Lib.hid hgrow7;clear hown7 hgrow7)
        | (clear TK6;go_at_call 26;have N7:=Lib.hid (grow_nw N6.out HRS.out HG7.out (fun r e=>Nat.le_trans N4.out.below.size (HO5.out.base e)));refine (HMC.out _ _ _ HO7.out N7.out.res).mono ?_;rintro e w8 ⟨rfl,hb⟩;have N8:=Lib.hid (N7.out.later hb);clear hb))
       go_wp2
       go_ret2
       exact ⟨rfl,N8.out.below⟩
      | ok d =>
       change Hid (∀ W u B (_:OwnM B W u (xs++ys)) (_:Res W),Calls _ _ _ _ fun e w'=>(∃ u,e=.returned (.tuple #[u,.int .i64 0])∧OwnM _ w' u d)∧_) at HMC
       go_enter Tryz.func30,Tryz.ntmps30
       go_wp2_with ((clear TK0;go_at_call 114;refine (HCK.out).mono ?_;rintro e w1 ⟨rfl,hb⟩;have N1:=Lib.hid (NA.out.later hb);clear hb))
       go_wp2_with ((clear TK1;go_at_call 110;refine (HPS.out _ N1.out.res).mono ?_;rintro e w2 ⟨rfl,hb⟩;have N2:=Lib.hid (N1.out.later hb);clear hb))
       go_wp2_with ((clear TK2;go_at_call 119;refine (HCM.out _ N2.out.res).mono ?_;rintro e w3 ⟨rfl,hb⟩;have N3:=Lib.hid (N2.out.later hb);clear hb))
       go_wp2_with ((clear TK3;go_at_call 61;refine (HSB.out _ N3.out.res).mono ?_;rintro e w4 ⟨rfl,hb⟩;have N4:=Lib.hid (N3.out.later hb);clear hb))
       go_wp2_with ((clear TK4;go_at_call 115;refine (HSX.out _ N4.out).mono ?_;rintro e w5 ⟨⟨u5,rfl,ho5⟩,hb⟩;obtain ⟨A5,c5,rfl⟩:=ho5.slice;have N5:=Lib.hid (N4.out.later hb);have HO5:=Lib.hid ho5;have HZ5:=Lib.hid hb.size;clear hb ho5))
       go_wp2_with (first
        | (clear TK5;go_at_call 115;refine (HSY.out _ N5.out).mono ?_;rintro e w6 ⟨⟨u6,rfl,ho6⟩,hb⟩;obtain ⟨g6,c6,rfl,hg6⟩:=ho6.ofPos HY0.out;have N6:=Lib.hid (N5.out.later hb);have HO6:=Lib.hid ho6;have HO5:=Lib.hid (OwnM.later HO5.out hb);have HSR:=Lib.hid (World.ownsRow.cells ho6 (g:=g6) rfl);have HZ6:=Lib.hid hb.size;clear hb ho6 hg6)
        | (at_builtin;refine wpList_append_own _ rfl _ _ 22 rfl w4.heap.size 30 i0 (.agg #[.string ByteArray.empty,.string ByteArray.empty]) 2 32 Tryz.underlying22 hi hz0 hz1 hz2 rfl (by decide) _ _ _ rfl HO5.out ⟨g6,0,none⟩ ys.length c6 (cellsM ys) rfl (cellsM_length ys) HSR.out (one_cellsM ys) (by have:=HXY.out;unfold maxLen;omega) (by have:=HXY.out;omega) (Nat.le_trans HZ5.out HZ6.out) ?_;intro v' w7 hown7 hgrow7 _;have HO7:=Lib.hid (show OwnM w4.heap.size w7 v' (xs++ys) by unfold OwnM;rw [List.length_append,cellsM_append];exact hown7);have HG7:=Lib.hid hgrow7;clear hown7 hgrow7)
        | (clear TK6;go_at_call 26;have N7:=Lib.hid (grow_nw N6.out HRS.out HG7.out (fun r e=>Nat.le_trans N4.out.below.size (HO5.out.base e)));refine (HMC.out _ _ _ HO7.out N7.out.res).mono ?_;rintro e w8 ⟨⟨u8,rfl,ho8⟩,hb⟩;have N8:=Lib.hid (N7.out.later hb);have HO8:=Lib.hid (owns_base ho8 N7.out.below.size);clear hb ho8))
       go_wp2
       go_ret2
       exact ⟨⟨_,rfl,HO8.out⟩,N8.out.below⟩
  ·have HR0:=Lib.hid (show mixX p a b=.error (posE p) by unfold mixX;rw [if_neg (by simpa using hc),if_pos hq])
   by_cases hpe:errQ p.data.toList=0
   ·have hneg:valQ p.data.toList < 0:=Classical.byContradiction fun h=>hq (posE_zero.2 ⟨hpe,by grind⟩)
    have HR:=Lib.hid (show mixX p a b=.error 2 by rw [HR0.out];unfold posE;rw [if_neg (by simpa using hpe),if_pos hneg])
    have HPS:=Lib.hid (retRSign_ok hp hpe)
    have dn:decide (sgQ (valQ p.data.toList) < 0)=true:=decide_eq_true ((sg_lt _).2 hneg)
    generalize sgQ (valQ p.data.toList)=sg at *
    have HCM:=Lib.hid (fun (W:World) (_:Res W)=>rcmpT W (IsT.of hpe) IsT.one)
    generalize cmpQ (valQ p.data.toList) 1=cq at *
    clear hc hq ha0 hb0 hsub hpe hneg HR0
    go_enter Tryz.func30,Tryz.ntmps30
    go_wp2_with ((clear TK0;go_at_call 114;refine (HCK.out).mono ?_;rintro e w1 ⟨rfl,hb⟩;have N1:=Lib.hid (NA.out.later hb);clear hb))
    go_wp2_with ((clear TK1;go_at_call 110;refine (HPS.out _ N1.out.res).mono ?_;rintro e w2 ⟨rfl,hb⟩;have N2:=Lib.hid (N1.out.later hb);clear hb))
    go_wp2_with ((clear TK2;go_at_call 119;refine (HCM.out _ N2.out.res).mono ?_;rintro e w3 ⟨rfl,hb⟩;have N3:=Lib.hid (N2.out.later hb);clear hb))
    go_wp2
    go_ret2
    rw [HR.out]
    exact ⟨rfl,N3.out.below⟩
   ·have hz:=ne_zero hpe
    have hz2:=ne_zero2 hpe
    have HR:=Lib.hid (show mixX p a b=.error (errQ p.data.toList) by rw [HR0.out,posE_err hpe])
    have HPS:=Lib.hid (retRSign_err hp hpe)
    generalize errQ p.data.toList=n at *
    clear hc hq ha0 hb0 hsub hpe HR0
    go_enter Tryz.func30,Tryz.ntmps30
    go_wp2_with ((clear TK0;go_at_call 114;refine (HCK.out).mono ?_;rintro e w1 ⟨rfl,hb⟩;have N1:=Lib.hid (NA.out.later hb);clear hb))
    go_wp2_with ((clear TK1;go_at_call 110;refine (HPS.out _ N1.out.res).mono ?_;rintro e w2 ⟨rfl,hb⟩;have N2:=Lib.hid (N1.out.later hb);clear hb))
    go_wp2
    go_ret2
    rw [HR.out]
    exact ⟨rfl,N2.out.below⟩
 ·have hz:=ne_zero hc
  have hz2:=ne_zero2 hc
  have HR:=Lib.hid (show mixX p a b=.error (chk2 a b) by unfold mixX;rw [if_pos hc])
  generalize chk2 a b=n at *
  clear hc hsub
  go_enter Tryz.func30,Tryz.ntmps30
  go_wp2_with ((clear TK0;go_at_call 114;refine (HCK.out).mono ?_;rintro e w1 ⟨rfl,hb⟩;have N1:=Lib.hid (NA.out.later hb);clear hb))
  go_wp2
  go_ret2
  rw [HR.out]
  exact ⟨rfl,N1.out.below⟩
theorem cell_two_set (w:World) (p:Addr) (v x y:Value) (t:TypeId):∀ j u,[x,y][j]?=some u→((w.setCell p v).alloc (.cells #[x,y] t)).cell? ((⟨w.heap.size,0,none⟩:Addr).add j)=some u:=by
 have h:=cell_two_new (w.setCell p v) x y t
 have e:(w.setCell p v).heap.size=w.heap.size:=by simp
 rw [e] at h
 exact h
theorem rdpush_any (ls:List L2) (f t:List ByteArray) (v vf vt:Value) (w:World) (hv:LRow w v ls) (hf:SRowT w vf f) (ht:SRowT w vt t) (hs:Short ls) (htk:∀ x∈t,x.size≤270000) (hr:Res w) :
  Calls Tryz.prog 33 #[v,vf,vt] w fun e w'=>ResM w.heap.size (pushX ls f t) e w'∧Below w.heap.size w w':=by
 have HV:=Lib.hid hv
 have HF:=Lib.hid hf
 have HT:=Lib.hid ht
 have HS:=Lib.hid hs
 have HTK:=Lib.hid htk
 have HRS:=Lib.hid hr
 have HCK:=Lib.hid (rdcheck_any ls v w hv hs hr)
 have N0:=Lib.hid (NW.refl hr)
 have hll:ls.length≤1000:=hv.choose_spec.choose_spec.2.1
 have HLL:=Lib.hid hll
 obtain ⟨A0,c0,rfl,_,_⟩:=id hv
 obtain ⟨A1,c1,rfl,hl1,_⟩:=id hf
 obtain ⟨A2,c2,rfl,hl2,_⟩:=id ht
 unfold maxLen at hl1 hl2
 clear hv hf ht hs hr htk
 generalize hm:pushX ls f t=mk
 have HMK:=Lib.hid hm
 clear hm
 have TK0:True:=trivial
 by_cases hc:chkD ls=0
 ·by_cases hl:f.length=t.length
  ·have h0:0 < ls.length:=by
    rcases Nat.eq_zero_or_pos ls.length with h|h
    ·have e:=List.eq_nil_of_length_eq_zero h
     subst e
     exact absurd hc (by decide)
    ·exact h
   have HR:=Lib.hid (show mk=makeX (ls.map fun x=>(turnX (f.zip t) x.1,x.2)) by rw [← HMK.out];unfold pushX;rw [if_neg (by simpa using hc),if_neg (by simpa using hl)])
   rw [hc] at HCK
   change Hid (Calls _ _ _ _ fun e w'=>e=.returned (.int .i64 0)∧_) at HCK
   rw [← hl] at HT ⊢
   have HTU:=Lib.hid (fun k=>idxT_turn (k:=k) (f:=f) (t:=t) (n:=0) hl)
   have HLE:=Lib.hid hl
   clear hc h0 hl
   have TK1:True:=trivial
   go_enter Tryz.func33,Tryz.ntmps33
   go_wp2_with ((clear TK0;go_at_call 37;refine HCK.out.mono ?_;rintro e w1 ⟨rfl,hb⟩;have N1:=Lib.hid (N0.out.later hb);clear hb))
   obtain ⟨i0,hi,hz0,hz1,hz2⟩:=info_parts infoM
   go_wp2
   go_loopw [9,10] (fun v9 v10 wr=>∃ (k:Nat) (A1:Option Addr) (c1:Nat),k≤ls.length∧v9=.slice A1 k c1∧v10=.int .i64 (k:Int)∧Hid (OwnM w.heap.size wr (.slice A1 k c1) ((ls.take k).map fun x=>(turnX (f.zip t) x.1,x.2)))∧Hid (NW w wr)) (fun _ v10 _=>ls.length - (intOf v10).toNat)
   case atStart=>exact ⟨0,none,0,Nat.zero_le _,rfl,rfl,Lib.hid (OwnM.nil _ _),N1⟩
   case round =>
    clear N1
    obtain ⟨k,A9,c9,hk,rfl,rfl,HO,HN⟩:=hrel
    by_cases hlt:k < ls.length
    ·obtain ⟨wo,rfl⟩:∃ wo,wo=wr:=⟨_,rfl⟩
     obtain ⟨x,hx⟩:∃ x,ls[k]?=some x:=⟨_,List.getElem?_eq_getElem hlt⟩
     have hlt':(k:Int) < (ls.length:Int):=by omega
     obtain ⟨b2,o2,c',e',hb2,q0,q1⟩:=HV.out.at HN.out.below hx
     simp only [Value.slice.injEq,true_and] at e'
     obtain ⟨rfl,rfl⟩:=e'
     have HLT:=Lib.hid (And.intro hlt hlt')
     have HKL:=Lib.hid (show k≤1000 by have:=HLL.out;omega)
     have HTX:=Lib.hid (HTU.out x.1)
     have HM:=Lib.hid (show ∀ (W:World) A c z,turnX (f.zip t) x.1=z→W.ownsRow w.heap.size 30 2 (.slice A (k+1) c) (k+1) (cellsM ((ls.take k).map fun x=>(turnX (f.zip t) x.1,x.2))++[.string z,.string x.2])→OwnM w.heap.size W (.slice A (k+1) c) ((ls.take (k+1)).map fun x=>(turnX (f.zip t) x.1,x.2)) from fun W A c z hz h=>by
      have e:(ls.take (k+1)).map (fun x=>(turnX (f.zip t) x.1,x.2))=(ls.take k).map (fun x=>(turnX (f.zip t) x.1,x.2))++[(z,x.2)]:=by
       rw [List.take_add_one,hx,Option.toList_some,List.map_append,← hz];rfl
      have hl:((ls.take k).map fun x:L2=>(turnX (f.zip t) x.1,x.2)).length=k:=by rw [List.length_map,List.length_take];omega
      unfold OwnM
      rw [e,cellsM_append,List.length_append,hl]
      exact h)
     have HOK:=Lib.hid (show ((ls.take k).map fun x:L2=>(turnX (f.zip t) x.1,x.2)).length=k by rw [List.length_map,List.length_take];omega)
     have HO:=Lib.hid (show wo.ownsRow w.heap.size 30 2 (.slice A9 k c9) k (cellsM ((ls.take k).map fun x=>(turnX (f.zip t) x.1,x.2))) by have:=HO.out;unfold OwnM at this;rwa [HOK.out] at this)
     obtain ⟨f0,d0⟩:=x
     dsimp only at q0 q1 HTX HM
     have N5:=Lib.hid (HN.out.alloc (.cells #[.string f0,.string d0] 30))
     have HO5:=Lib.hid (owns_later HO.out (below_alloc (Below.refl _ _) (.cells #[.string f0,.string d0] 30)))
     have BX:=Lib.hid (Blk.new wo 30 #[.string f0,.string d0])
     have HWG:=Lib.hid HN.out.below.size
     clear hlt hx
     go_wp2
     go_loopw [12] (fun v12 wq=>∃ j:Nat,j≤f.length∧v12=.int .i64 (j:Int)∧Hid (idxT 0 f f0=idxT j (f.drop j) f0)∧Hid (Below (wo.alloc (.cells #[.string f0,.string d0] 30)).heap.size (wo.alloc (.cells #[.string f0,.string d0] 30)) wq)) (fun v12 _=>f.length - (intOf v12).toNat)
     case atStart=>exact ⟨0,Nat.zero_le _,rfl,Lib.hid (by simp),Lib.hid (Below.refl _ _)⟩
     case round =>
      clear q0 q1
      obtain ⟨j,hj,rfl,HE,HB⟩:=hrel
      have HBQ:=Lib.hid (Blk.below BX.out HB.out BX.out.lt)
      obtain ⟨x0,x1⟩:=cells2 HBQ.out
      have xl:=HBQ.out.lt
      by_cases hj2:j < f.length
      ·obtain ⟨y,hy⟩:∃ y,f[j]?=some y:=⟨_,List.getElem?_eq_getElem hj2⟩
       have hj3:(j:Int) < (f.length:Int):=by omega
       obtain ⟨b3,o3,c3,e3,hb3,p0⟩:=HF.out.at (N5.out.later HB.out).below hy
       simp only [Value.slice.injEq,true_and] at e3
       obtain ⟨rfl,rfl⟩:=e3
       have hd:f.drop j=y::f.drop (j+1):=by
        obtain ⟨h1,rfl⟩:=List.getElem?_eq_some_iff.1 hy
        exact drop_at h1
       rw [hd] at HE
       have HJ:=Lib.hid (And.intro hj2 hj3)
       have TE:=eq_bytes y f0
       clear hd hy hj2
       by_cases he:y=f0
       ·rw [decide_eq_true he] at TE
        rw [idxT_hit he.symm] at HE
        obtain ⟨z,hy1,hy2⟩:∃ z,t[j]?=some z∧turnX (f.zip t) f0=z:=by
         rcases HTX.out with ⟨h1,_⟩|⟨i,z,h1,h2,h3,h4⟩
         ·rw [HE.out] at h1;omega
         ·rw [HE.out] at h1
          obtain rfl:j=i:=by omega
          exact ⟨z,h3,h4⟩
        have HTZ:=Lib.hid hy2
        clear he
        go_wp2
        go_quiet (fail)
        have HB5:=Lib.hid (below_drewN' HB.out nq)
        generalize wr.drewN nq=w5 at *
        clear x0 x1 xl p0 hb3
        have N6:=Lib.hid (N5.out.later HB5.out)
        obtain ⟨b4,o4,c4,e4,hb4,p0⟩:=HT.out.at N6.out.below hy1
        simp only [Value.slice.injEq] at e4
        obtain ⟨rfl,h9,rfl⟩:=e4
        clear h9
        have BQ:=Lib.hid (Blk.below BX.out HB5.out BX.out.lt)
        obtain ⟨x0,x1⟩:=cells2 BQ.out
        have xl:=BQ.out.lt
        have fz:=BQ.out.frozen 0
        have BS:=Lib.hid (BQ.out.set_ 0 (.string z))
        have hgw:=grownBy_setCell' w5 wo.heap.size (.string z)
        have N7:=Lib.hid (grow_nw N6.out HRS.out hgw (fun r e=>by cases e;exact HWG.out))
        have HO8:=Lib.hid (World.ownsRow.kept (owns_later HO5.out HB5.out) hgw (by
         cases hv:(Value.slice A9 k c9).ownBlock with
         | none=>exact .inl rfl
         | some r=>exact .inr (fun e=>by
           cases e
           have:=(HO.out.lt _ hv).2
           omega)))
        obtain ⟨s0,s1⟩:=cells2 (u:=.string z) (v:=.string d0) BS.out
        clear hy1
        have HN6:=Lib.hid (NW.alloc N7.out (.cells #[.string z,.string d0] 30))
        have HO6:=Lib.hid (owns_later HO8.out (below_alloc (Below.refl _ _) (.cells #[.string z,.string d0] 30)))
        go_wp2_with (at_builtin;refine wpList_append_own _ rfl _ _ 22 rfl w.heap.size 30 i0 (.agg #[.string ByteArray.empty,.string ByteArray.empty]) 2 32 Tryz.underlying22 hi hz0 hz1 hz2 rfl (by decide) _ _ _ rfl HO6.out _ 1 1 [.string z,.string d0] rfl rfl (cell_two_set w5 _ _ _ _ _) (one_pairM (z,d0)) (by have:=HKL.out;unfold maxLen;omega) (by have:=HKL.out;omega) HN6.out.below.size ?_;intro v' w7 hown7 hgrow7 _;obtain ⟨A5,c5,rfl⟩:=slice_shape hown7;have HO7:=Lib.hid hown7;have HN7:=Lib.hid (grow_nw HN6.out HRS.out hgrow7 (fun r e=>(HO6.out.lt r e).1));clear hown7 hgrow7)
        go_roundw
        case rel=>exact ⟨k+1,A5,c5,HLT.out.1,rfl,by go_num,Lib.hid (HM.out _ _ _ z HTZ.out HO7.out),HN7⟩
        case measure=>have:=HLT.out.1;simp [intOf];omega
       ·rw [decide_eq_false he] at TE
        rw [idxT_miss (fun e=>he e.symm)] at HE
        clear he
        go_wp2
        go_quiet (fail)
        have HB5:=Lib.hid (below_drewN' HB.out nq)
        go_wp2
        go_roundw
        case rel=>exact ⟨j+1,HJ.out.1,by go_num,HE,HB5⟩
        case measure=>have:=HJ.out.1;simp [intOf];omega
      ·have hj3:¬ (j:Int) < (f.length:Int):=by omega
       have hjd:decide ((j:Int) < (f.length:Int))=false:=decide_eq_false hj3
       have hjdn:decide (j < f.length)=false:=decide_eq_false hj2
       have HTZ:=Lib.hid (show turnX (f.zip t) f0=f0 by
        rcases HTX.out with ⟨_,h2⟩|⟨i,z,h1,h2,_,_⟩
        ·exact h2
        ·have:=HE.out
         rw [List.drop_of_length_le (by omega)] at this
         rw [this] at h1
         change (-1:Int)=_ at h1
         omega)
       clear hj2
       go_wp2
       go_quiet (fail)
       have HB5:=Lib.hid (below_drewN' HB.out nq)
       generalize wr.drewN nq=w5 at *
       clear x0 x1 xl
       have N7:=Lib.hid (N5.out.later HB5.out)
       have BQ:=Lib.hid (Blk.below BX.out HB5.out BX.out.lt)
       obtain ⟨x0,x1⟩:=cells2 BQ.out
       have xl:=BQ.out.lt
       have HO8:=Lib.hid (owns_later HO5.out HB5.out)
       have HN6:=Lib.hid (NW.alloc N7.out (.cells #[.string f0,.string d0] 30))
       have HO6:=Lib.hid (owns_later HO8.out (below_alloc (Below.refl _ _) (.cells #[.string f0,.string d0] 30)))
       go_wp2_with (at_builtin;refine wpList_append_own _ rfl _ _ 22 rfl w.heap.size 30 i0 (.agg #[.string ByteArray.empty,.string ByteArray.empty]) 2 32 Tryz.underlying22 hi hz0 hz1 hz2 rfl (by decide) _ _ _ rfl HO6.out _ 1 1 [.string f0,.string d0] rfl rfl (cell_two_new w5 _ _ _) (one_pairM (f0,d0)) (by have:=HKL.out;unfold maxLen;omega) (by have:=HKL.out;omega) HN6.out.below.size ?_;intro v' w7 hown7 hgrow7 _;obtain ⟨A5,c5,rfl⟩:=slice_shape hown7;have HO7:=Lib.hid hown7;have HN7:=Lib.hid (grow_nw HN6.out HRS.out hgrow7 (fun r e=>(HO6.out.lt r e).1));clear hown7 hgrow7)
       go_roundw
       case rel=>exact ⟨k+1,A5,c5,HLT.out.1,rfl,by go_num,Lib.hid (HM.out _ _ _ f0 HTZ.out HO7.out),HN7⟩
       case measure=>have:=HLT.out.1;simp [intOf];omega
    ·have hlt':¬ (k:Int) < (ls.length:Int):=by omega
     obtain rfl:k=ls.length:=by omega
     rw [List.take_length] at HO
     have hsm:Short (ls.map fun x=>(turnX (f.zip t) x.1,x.2)):=fun z hz=>by
      obtain ⟨x,hx,rfl⟩:=List.mem_map.1 hz
      refine ⟨?_,(HS.out x hx).2⟩
      rcases HTU.out x.1 with ⟨_,h2⟩|⟨i,y,_,_,h3,h4⟩
      ·show (turnX (f.zip t) x.1).size≤_
       rw [h2];exact (HS.out x hx).1
      ·show (turnX (f.zip t) x.1).size≤_
       rw [h4];exact HTK.out y (List.mem_of_getElem? h3)
     have HMC:=Lib.hid (rdmake_any _ _ wr (HO.out.row (by rw [List.length_map];exact HLL.out)) hsm HN.out.res)
     have TK2:True:=trivial
     rw [← HR.out] at HMC
     clear hlt hsm
     cases mk with
     | error n =>
      change Hid (Calls _ _ _ _ fun e w'=>e=.returned (.tuple #[.slice none 0 0,.int .i64 (n:Int)])∧_) at HMC
      go_wp2_with ((clear TK2;go_at_call 26;refine HMC.out.mono ?_;rintro e w5 ⟨rfl,hb⟩;have N5:=Lib.hid (HN.out.later hb);clear hb))
      go_ret2
      exact ⟨rfl,N5.out.below⟩
     | ok d =>
      change Hid (Calls _ _ _ _ fun e w'=>(∃ u,e=.returned (.tuple #[u,.int .i64 0])∧OwnM _ w' u d)∧_) at HMC
      go_wp2_with ((clear TK2;go_at_call 26;refine HMC.out.mono ?_;rintro e w5 ⟨⟨u,rfl,ho⟩,hb⟩;have N5:=Lib.hid (HN.out.later hb);have HO5:=Lib.hid (owns_base ho HN.out.below.size);clear ho hb))
      go_ret2
      exact ⟨⟨_,rfl,HO5.out⟩,N5.out.below⟩
  ·have HR:=Lib.hid (show mk=.error 3 by rw [← HMK.out];unfold pushX;rw [if_neg (by simpa using hc),if_pos hl])
   rw [hc] at HCK
   change Hid (Calls _ _ _ _ fun e w'=>e=.returned (.int .i64 0)∧_) at HCK
   have hl':((f.length:Int)==(t.length:Int))=false:=by rw [beq_eq_false_iff_ne];omega
   have hl3:((f.length:Int) != (t.length:Int))=true:=by unfold bne;rw [hl'];rfl
   clear hc hl
   go_enter Tryz.func33,Tryz.ntmps33
   go_wp2_with ((clear TK0;go_at_call 37;refine HCK.out.mono ?_;rintro e w1 ⟨rfl,hb⟩;have N1:=Lib.hid (N0.out.later hb);clear hb))
   go_wp2
   go_ret2
   rw [HR.out]
   exact ⟨rfl,N1.out.below⟩
 ·have hz:=ne_zero hc
  have hz2:=ne_zero2 hc
  have HR:=Lib.hid (show mk=.error (chkD ls) by rw [← HMK.out];unfold pushX;rw [if_pos hc])
  generalize chkD ls=n at *
  clear hc
  go_enter Tryz.func33,Tryz.ntmps33
  go_wp2_with ((clear TK0;go_at_call 37;refine HCK.out.mono ?_;rintro e w1 ⟨rfl,hb⟩;have N1:=Lib.hid (N0.out.later hb);clear hb))
  go_wp2
  go_ret2
  rw [HR.out]
  exact ⟨rfl,N1.out.below⟩
def sameX (a b:List L2):Bool:=decide (a=b)
theorem sameX_len {a b:List L2} (h:a.length≠b.length):sameX a b=false:=decide_eq_false fun e=>h (congrArg List.length e)
theorem sameX_at {a b:List L2} {k:Nat} {x y:L2} (hx:a[k]?=some x) (hy:b[k]?=some y) (h:x≠y):sameX a b=false:=decide_eq_false fun e=>h (by
 rw [e,hy] at hx
 exact (Option.some.inj hx).symm)
theorem sameX_all {a b:List L2} (hl:a.length=b.length) (h:∀ k,k < a.length→a[k]?=b[k]?):sameX a b=true:=decide_eq_true (List.ext_getElem? fun k=>by
 rcases Nat.lt_or_ge k a.length with h1|h1
 ·exact h k h1
 ·rw [List.getElem?_eq_none h1,List.getElem?_eq_none (by omega)])
theorem sameX_refl (a:List L2):sameX a a=true:=decide_eq_true rfl
theorem equalM_any (a b:List L2) (va vb:Value) (w:World) (ha:LRow w va a) (hb:LRow w vb b) (hr:Res w) :
  Calls Tryz.prog 127 #[va,vb] w fun e w'=>e=.returned (.bool (sameX a b))∧Below w.heap.size w w':=by
 have HA:=Lib.hid ha
 have HB:=Lib.hid hb
 have N0:=Lib.hid (NW.refl hr)
 obtain ⟨A,c,rfl,hlen,hcells⟩:=ha
 obtain ⟨A',c',rfl,hlen',hcells'⟩:=hb
 clear hcells hcells' hr
 by_cases hl:a.length=b.length
 ·have hl1:((a.length:Int) != (b.length:Int))=false:=by rw [hl];exact bne_self_eq_false _
  have HL:=Lib.hid hl
  rw [← hl] at HB hl1
  rw [← hl]
  clear hl hlen'
  go_enter Tryz.func127,Tryz.ntmps127
  go_wp2
  go_loopw [13] (fun v13 wr=>∃ k:Nat,k≤a.length∧v13=.int .i64 (k:Int)∧Hid (∀ j,j < k→a[j]?=b[j]?)∧Hid (NW w wr)) (fun v13 _=>a.length - (intOf v13).toNat)
  case atStart=>exact ⟨0,Nat.zero_le _,rfl,Lib.hid (fun j h=>absurd h (by omega)),N0⟩
  case round =>
   clear N0
   obtain ⟨k,hk,rfl,HE,HN⟩:=hrel
   by_cases hlt:k < a.length
   ·obtain ⟨x,hx⟩:∃ x,a[k]?=some x:=⟨_,List.getElem?_eq_getElem hlt⟩
    obtain ⟨y,hy⟩:∃ y,b[k]?=some y:=⟨_,List.getElem?_eq_getElem (by have:=HL.out;omega)⟩
    obtain ⟨b1,o1,c1',e1,hb1,c0,c1⟩:=HA.out.at HN.out.below hx
    simp only [Value.slice.injEq,true_and] at e1
    obtain ⟨rfl,rfl⟩:=e1
    obtain ⟨b2,o2,c2',e2,hb2,d0,d1⟩:=HB.out.at HN.out.below hy
    rw [← HL.out] at e2
    simp only [Value.slice.injEq,true_and] at e2
    obtain ⟨rfl,rfl⟩:=e2
    have hlt':(k:Int) < (a.length:Int):=by omega
    have HLT:=Lib.hid (And.intro hlt hlt')
    have HX:=Lib.hid (And.intro hx hy)
    obtain ⟨f,d⟩:=x
    obtain ⟨g,e⟩:=y
    dsimp only at c0 c1 d0 d1
    have T1:=eq_bytes f g
    have T2:=eq_bytes d e
    clear hx hy hlt
    by_cases h1:f=g
    ·rw [decide_eq_true h1] at T1
     by_cases h2:d=e
     ·rw [decide_eq_true h2] at T2
      have HR:=Lib.hid (show ∀ j,j < k+1→a[j]?=b[j]? from fun j hj=>by
       rcases Nat.lt_or_ge j k with h|h
       ·exact HE.out j h
       ·obtain rfl:j=k:=by omega
        rw [HX.out.1,HX.out.2,h1,h2])
      clear h1 h2
      go_wp2
      go_quiet (fail)
      have H4:=Lib.hid (fun n=>HN.out.drewN n)
      go_wp2
      go_roundw
      case rel=>exact ⟨k+1,HLT.out.1,by go_num,HR,H4.out _⟩
      case measure=>have:=HLT.out.1;simp [intOf];omega
     ·rw [decide_eq_false h2] at T2
      have HR:=Lib.hid (sameX_at HX.out.1 HX.out.2 (fun e=>h2 (Prod.mk.inj e).2))
      clear h1 h2
      go_wp2
      go_quiet (fail)
      have H4:=Lib.hid (fun n=>HN.out.drewN n)
      go_wp2
      go_ret
      rw [HR.out]
      exact ⟨rfl,(H4.out _).below⟩
    ·rw [decide_eq_false h1] at T1
     have HR:=Lib.hid (sameX_at HX.out.1 HX.out.2 (fun e=>h1 (Prod.mk.inj e).1))
     clear h1
     go_wp2
     go_quiet (fail)
     have H4:=Lib.hid (fun n=>HN.out.drewN n)
     go_wp2
     go_ret
     rw [HR.out]
     exact ⟨rfl,(H4.out _).below⟩
   ·have hlt':¬ (k:Int) < (a.length:Int):=by omega
    have HR:=Lib.hid (sameX_all HL.out fun j hj=>HE.out j (by omega))
    clear hlt
    go_wp2
    go_ret
    rw [HR.out]
    exact ⟨rfl,HN.out.below⟩
 ·have hl1:((a.length:Int) != (b.length:Int))=true:=by rw [bne_iff_ne];omega
  have hl2:((a.length:Int)==(b.length:Int))=false:=by rw [beq_eq_false_iff_ne];omega
  have HR:=Lib.hid (sameX_len hl)
  clear hl
  go_enter Tryz.func127,Tryz.ntmps127
  go_wp2
  go_ret
  rw [HR.out]
  exact ⟨rfl,N0.out.below⟩
theorem dsame_any (a b:List L2) (va vb:Value) (w:World) (ha:LRow w va a) (hb:LRow w vb b) (hr:Res w) :
  Calls Tryz.prog 40 #[va,vb] w fun e w'=>e=.returned (.bool (sameX a b))∧Below w.heap.size w w':=by
 have HE:=Lib.hid (equalM_any a b va vb w ha hb hr)
 clear ha hb hr
 go_enter Tryz.func40,Tryz.ntmps40
 go_wp2_with (go_at_call 127;refine HE.out.mono ?_;rintro e w3 ⟨rfl,hb⟩;have H3:=Lib.hid hb;clear hb)
 go_ret
 exact ⟨rfl,H3.out⟩
theorem rdsame_any (a b:List L2) (va vb:Value) (w:World) (ha:LRow w va a) (hb:LRow w vb b) (hr:Res w) :
  Calls Tryz.prog 34 #[va,vb] w fun e w'=>e=.returned (.bool (sameX a b))∧Below w.heap.size w w':=by
 have HA:=Lib.hid ha
 have HB:=Lib.hid hb
 have N0:=Lib.hid (NW.refl hr)
 obtain ⟨A,c,rfl,hlen,hcells⟩:=ha
 obtain ⟨A',c',rfl,hlen',hcells'⟩:=hb
 clear hcells hcells' hr
 by_cases hl:a.length=b.length
 ·have hl1:((a.length:Int) != (b.length:Int))=false:=by rw [hl];exact bne_self_eq_false _
  have HL:=Lib.hid hl
  rw [← hl] at HB hl1
  rw [← hl]
  clear hl hlen'
  go_enter Tryz.func34,Tryz.ntmps34
  go_wp2
  go_loopw [5] (fun v5 wr=>∃ k:Nat,k≤a.length∧v5=.int .i64 (k:Int)∧Hid (∀ j,j < k→a[j]?=b[j]?)∧Hid (NW w wr)) (fun v5 _=>a.length - (intOf v5).toNat)
  case atStart=>exact ⟨0,Nat.zero_le _,rfl,Lib.hid (fun j h=>absurd h (by omega)),N0⟩
  case round =>
   clear N0
   obtain ⟨k,hk,rfl,HE,HN⟩:=hrel
   by_cases hlt:k < a.length
   ·obtain ⟨x,hx⟩:∃ x,a[k]?=some x:=⟨_,List.getElem?_eq_getElem hlt⟩
    obtain ⟨y,hy⟩:∃ y,b[k]?=some y:=⟨_,List.getElem?_eq_getElem (by have:=HL.out;omega)⟩
    obtain ⟨b1,o1,c1',e1,hb1,c0,c1⟩:=HA.out.at HN.out.below hx
    simp only [Value.slice.injEq,true_and] at e1
    obtain ⟨rfl,rfl⟩:=e1
    obtain ⟨b2,o2,c2',e2,hb2,d0,d1⟩:=HB.out.at HN.out.below hy
    rw [← HL.out] at e2
    simp only [Value.slice.injEq,true_and] at e2
    obtain ⟨rfl,rfl⟩:=e2
    have hlt':(k:Int) < (a.length:Int):=by omega
    have HLT:=Lib.hid (And.intro hlt hlt')
    have HX:=Lib.hid (And.intro hx hy)
    obtain ⟨f,d⟩:=x
    obtain ⟨g,e⟩:=y
    dsimp only at c0 c1 d0 d1
    have T1:=eq_bytes f g
    have T2:=eq_bytes d e
    clear hx hy hlt
    by_cases h1:f=g
    ·rw [decide_eq_true h1] at T1
     by_cases h2:d=e
     ·rw [decide_eq_true h2] at T2
      have HR:=Lib.hid (show ∀ j,j < k+1→a[j]?=b[j]? from fun j hj=>by
       rcases Nat.lt_or_ge j k with h|h
       ·exact HE.out j h
       ·obtain rfl:j=k:=by omega
        rw [HX.out.1,HX.out.2,h1,h2])
      clear h1 h2
      go_wp2
      go_quiet (fail)
      have H4:=Lib.hid (fun n=>HN.out.drewN n)
      go_wp2
      go_roundw
      case rel=>exact ⟨k+1,HLT.out.1,by go_num,HR,H4.out _⟩
      case measure=>have:=HLT.out.1;simp [intOf];omega
     ·rw [decide_eq_false h2] at T2
      have HR:=Lib.hid (sameX_at HX.out.1 HX.out.2 (fun e=>h2 (Prod.mk.inj e).2))
      clear h1 h2
      go_wp2
      go_quiet (fail)
      have H4:=Lib.hid (fun n=>HN.out.drewN n)
      go_wp2
      go_ret
      rw [HR.out]
      exact ⟨rfl,(H4.out _).below⟩
    ·rw [decide_eq_false h1] at T1
     have HR:=Lib.hid (sameX_at HX.out.1 HX.out.2 (fun e=>h1 (Prod.mk.inj e).1))
     clear h1
     go_wp2
     go_quiet (fail)
     have H4:=Lib.hid (fun n=>HN.out.drewN n)
     go_wp2
     go_ret
     rw [HR.out]
     exact ⟨rfl,(H4.out _).below⟩
   ·have hlt':¬ (k:Int) < (a.length:Int):=by omega
    have HR:=Lib.hid (sameX_all HL.out fun j hj=>HE.out j (by omega))
    clear hlt
    go_wp2
    go_ret
    rw [HR.out]
    exact ⟨rfl,HN.out.below⟩
 ·have hl1:((a.length:Int) != (b.length:Int))=true:=by rw [bne_iff_ne];omega
  have hl2:((a.length:Int)==(b.length:Int))=false:=by rw [beq_eq_false_iff_ne];omega
  have HR:=Lib.hid (sameX_len hl)
  clear hl
  go_enter Tryz.func34,Tryz.ntmps34
  go_wp2
  go_ret
  rw [HR.out]
  exact ⟨rfl,N0.out.below⟩
theorem ksame_any (a b:List L2) (va vb:Value) (w:World) (ha:LRow w va a) (hb:LRow w vb b) (hr:Res w) :
  Calls Tryz.prog 35 #[va,vb] w fun e w'=>e=.returned (.bool (sameX a b))∧Below w.heap.size w w':=by
 have HA:=Lib.hid ha
 have HB:=Lib.hid hb
 have N0:=Lib.hid (NW.refl hr)
 obtain ⟨A,c,rfl,hlen,hcells⟩:=ha
 obtain ⟨A',c',rfl,hlen',hcells'⟩:=hb
 clear hcells hcells' hr
 by_cases hl:a.length=b.length
 ·have hl1:((a.length:Int) != (b.length:Int))=false:=by rw [hl];exact bne_self_eq_false _
  have HL:=Lib.hid hl
  rw [← hl] at HB hl1
  rw [← hl]
  clear hl hlen'
  go_enter Tryz.func35,Tryz.ntmps35
  go_wp2
  go_loopw [5] (fun v5 wr=>∃ k:Nat,k≤a.length∧v5=.int .i64 (k:Int)∧Hid (∀ j,j < k→a[j]?=b[j]?)∧Hid (NW w wr)) (fun v5 _=>a.length - (intOf v5).toNat)
  case atStart=>exact ⟨0,Nat.zero_le _,rfl,Lib.hid (fun j h=>absurd h (by omega)),N0⟩
  case round =>
   clear N0
   obtain ⟨k,hk,rfl,HE,HN⟩:=hrel
   by_cases hlt:k < a.length
   ·obtain ⟨x,hx⟩:∃ x,a[k]?=some x:=⟨_,List.getElem?_eq_getElem hlt⟩
    obtain ⟨y,hy⟩:∃ y,b[k]?=some y:=⟨_,List.getElem?_eq_getElem (by have:=HL.out;omega)⟩
    obtain ⟨b1,o1,c1',e1,hb1,c0,c1⟩:=HA.out.at HN.out.below hx
    simp only [Value.slice.injEq,true_and] at e1
    obtain ⟨rfl,rfl⟩:=e1
    obtain ⟨b2,o2,c2',e2,hb2,d0,d1⟩:=HB.out.at HN.out.below hy
    rw [← HL.out] at e2
    simp only [Value.slice.injEq,true_and] at e2
    obtain ⟨rfl,rfl⟩:=e2
    have hlt':(k:Int) < (a.length:Int):=by omega
    have HLT:=Lib.hid (And.intro hlt hlt')
    have HX:=Lib.hid (And.intro hx hy)
    obtain ⟨f,d⟩:=x
    obtain ⟨g,e⟩:=y
    dsimp only at c0 c1 d0 d1
    have T1:=eq_bytes f g
    have T2:=eq_bytes d e
    clear hx hy hlt
    by_cases h1:f=g
    ·rw [decide_eq_true h1] at T1
     by_cases h2:d=e
     ·rw [decide_eq_true h2] at T2
      have HR:=Lib.hid (show ∀ j,j < k+1→a[j]?=b[j]? from fun j hj=>by
       rcases Nat.lt_or_ge j k with h|h
       ·exact HE.out j h
       ·obtain rfl:j=k:=by omega
        rw [HX.out.1,HX.out.2,h1,h2])
      clear h1 h2
      go_wp2
      go_quiet (fail)
      have H4:=Lib.hid (fun n=>HN.out.drewN n)
      go_wp2
      go_roundw
      case rel=>exact ⟨k+1,HLT.out.1,by go_num,HR,H4.out _⟩
      case measure=>have:=HLT.out.1;simp [intOf];omega
     ·rw [decide_eq_false h2] at T2
      have HR:=Lib.hid (sameX_at HX.out.1 HX.out.2 (fun e=>h2 (Prod.mk.inj e).2))
      clear h1 h2
      go_wp2
      go_quiet (fail)
      have H4:=Lib.hid (fun n=>HN.out.drewN n)
      go_wp2
      go_ret
      rw [HR.out]
      exact ⟨rfl,(H4.out _).below⟩
    ·rw [decide_eq_false h1] at T1
     have HR:=Lib.hid (sameX_at HX.out.1 HX.out.2 (fun e=>h1 (Prod.mk.inj e).1))
     clear h1
     go_wp2
     go_quiet (fail)
     have H4:=Lib.hid (fun n=>HN.out.drewN n)
     go_wp2
     go_ret
     rw [HR.out]
     exact ⟨rfl,(H4.out _).below⟩
   ·have hlt':¬ (k:Int) < (a.length:Int):=by omega
    have HR:=Lib.hid (sameX_all HL.out fun j hj=>HE.out j (by omega))
    clear hlt
    go_wp2
    go_ret
    rw [HR.out]
    exact ⟨rfl,HN.out.below⟩
 ·have hl1:((a.length:Int) != (b.length:Int))=true:=by rw [bne_iff_ne];omega
  have hl2:((a.length:Int)==(b.length:Int))=false:=by rw [beq_eq_false_iff_ne];omega
  have HR:=Lib.hid (sameX_len hl)
  clear hl
  go_enter Tryz.func35,Tryz.ntmps35
  go_wp2
  go_ret
  rw [HR.out]
  exact ⟨rfl,N0.out.below⟩
end Go.Proofs.YtigapglmipmbeaaGreatDoor
namespace Go.Proofs.YtigapglmipmbeaaGreatDoor
open Go.RowKit Go.Shelf
open Lim
def halfL:List L2:=[(⟨#[97]⟩,⟨#[49,47,50]⟩),(⟨#[98]⟩,⟨#[49,47,50]⟩)]
def thirdsL:List L2:=[(⟨#[97]⟩,⟨#[49,47,51]⟩),(⟨#[98]⟩,⟨#[50,47,51]⟩)]
def livesL:List L2:=[(⟨#[98]⟩,⟨#[49,47,50]⟩),(⟨#[97]⟩,⟨#[49,47,52]⟩),(⟨#[97]⟩,⟨#[49,47,52]⟩),(⟨#[99]⟩,⟨#[48]⟩)]
theorem ex_make:makeX livesL=.ok halfL:=by kernel_rfl
theorem ex_delta:deltaX halfL thirdsL oT=.ok ⟨#[49,47,54]⟩:=by kernel_rfl
theorem ex_mom:momV halfL thirdsL 2=.tuple #[.string ⟨#[57,47,56]⟩,.bool true,.int .i64 0]:=by kernel_rfl
theorem short_lit {ls:List L2} (h:(ls.all fun x=>decide (x.1.size≤270000)&&decide (x.2.size≤270000))=true):Short ls:=fun x hx=>by
 have:=List.all_eq_true.1 h x hx
 simpa using this
theorem short_half:Short halfL:=short_lit (by decide)
theorem short_thirds:Short thirdsL:=short_lit (by decide)
theorem short_lives:Short livesL:=short_lit (by decide)
theorem half_any (w:World):Calls Tryz.prog 43 #[] w fun e w'=>e=.returned (.slice (some ⟨w.heap.size,0,none⟩) 2 2)∧w'=w.alloc (.cells #[.string ⟨#[97]⟩,.string ⟨#[49,47,50]⟩,.string ⟨#[98]⟩,.string ⟨#[49,47,50]⟩] 30):=by
 go_enter Tryz.func43,Tryz.ntmps43
 go_wp2
 go_ret
 exact ⟨rfl,rfl⟩
theorem half_row (w:World):LRow (w.alloc (.cells #[.string ⟨#[97]⟩,.string ⟨#[49,47,50]⟩,.string ⟨#[98]⟩,.string ⟨#[49,47,50]⟩] 30)) (.slice (some ⟨w.heap.size,0,none⟩) 2 2) halfL:=LRow.ofBlk (Blk.new w 30 #[.string ⟨#[97]⟩,.string ⟨#[49,47,50]⟩,.string ⟨#[98]⟩,.string ⟨#[49,47,50]⟩]) rfl (by decide)
theorem half_call (w:World) (_hr:Res w):Calls Tryz.prog 43 #[] w fun e w'=>(∃ b,e=.returned (.slice (some ⟨b,0,none⟩) 2 2)∧LRow w' (.slice (some ⟨b,0,none⟩) 2 2) halfL)∧Below w.heap.size w w':=by
 refine (half_any w).mono ?_
 rintro e w' ⟨rfl,rfl⟩
 exact ⟨⟨_,rfl,half_row w⟩,below_alloc (Below.refl _ _) _⟩
theorem thirds_any (w:World):Calls Tryz.prog 44 #[] w fun e w'=>e=.returned (.slice (some ⟨w.heap.size,0,none⟩) 2 2)∧w'=w.alloc (.cells #[.string ⟨#[97]⟩,.string ⟨#[49,47,51]⟩,.string ⟨#[98]⟩,.string ⟨#[50,47,51]⟩] 30):=by
 go_enter Tryz.func44,Tryz.ntmps44
 go_wp2
 go_ret
 exact ⟨rfl,rfl⟩
theorem thirds_row (w:World):LRow (w.alloc (.cells #[.string ⟨#[97]⟩,.string ⟨#[49,47,51]⟩,.string ⟨#[98]⟩,.string ⟨#[50,47,51]⟩] 30)) (.slice (some ⟨w.heap.size,0,none⟩) 2 2) thirdsL:=LRow.ofBlk (Blk.new w 30 #[.string ⟨#[97]⟩,.string ⟨#[49,47,51]⟩,.string ⟨#[98]⟩,.string ⟨#[50,47,51]⟩]) rfl (by decide)
theorem thirds_call (w:World) (_hr:Res w):Calls Tryz.prog 44 #[] w fun e w'=>(∃ b,e=.returned (.slice (some ⟨b,0,none⟩) 2 2)∧LRow w' (.slice (some ⟨b,0,none⟩) 2 2) thirdsL)∧Below w.heap.size w w':=by
 refine (thirds_any w).mono ?_
 rintro e w' ⟨rfl,rfl⟩
 exact ⟨⟨_,rfl,thirds_row w⟩,below_alloc (Below.refl _ _) _⟩
theorem dlives_any (w:World) (hr:Res w):Calls Tryz.prog 21 #[] w fun e w'=>e=.returned (.bool true)∧Below w.heap.size w w':=by
 have NA:=Lib.hid ((NW.refl hr).alloc (.cells #[.string ⟨#[98]⟩,.string ⟨#[49,47,50]⟩,.string ⟨#[97]⟩,.string ⟨#[49,47,52]⟩,.string ⟨#[97]⟩,.string ⟨#[49,47,52]⟩,.string ⟨#[99]⟩,.string ⟨#[48]⟩] 30))
 have HMK:=Lib.hid (dmake_any livesL (.slice (some ⟨w.heap.size,0,none⟩) 4 4) _ (LRow.ofBlk (Blk.new w 30 #[.string ⟨#[98]⟩,.string ⟨#[49,47,50]⟩,.string ⟨#[97]⟩,.string ⟨#[49,47,52]⟩,.string ⟨#[97]⟩,.string ⟨#[49,47,52]⟩,.string ⟨#[99]⟩,.string ⟨#[48]⟩]) rfl (by decide)) short_lives NA.out.res)
 rw [ex_make] at HMK
 have HDL:=Lib.hid (fun vp vq (w:World) hp hq hr=>ddelta_any halfL thirdsL vp vq oT w hp hq short_half short_thirds oT_small hr)
 rw [ex_delta] at HDL
 have HMO:=Lib.hid (fun vp vq (w:World) hp hq hr=>dmoment_any halfL thirdsL vp vq 2 w hp hq short_half short_thirds hr)
 rw [ex_mom] at HMO
 have HSM:=Lib.hid (fun va vb (w:World) ha hb hr=>dsame_any halfL halfL va vb w ha hb hr)
 rw [sameX_refl] at HSM
 have HMK2:=HMK
 change Hid (Calls _ _ _ _ fun e w'=>(∃ u,e=.returned (.tuple #[u,.int .i64 0])∧OwnM _ w' u halfL)∧_) at HMK
 change Hid (∀ vp vq w,_→_→_→Calls _ _ #[vp,vq,.string ⟨#[49]⟩] _ fun e w'=>e=.returned (.tuple #[.string ⟨#[49,47,54]⟩,.int .i64 0])∧_) at HDL
 have N0:=NA
 clear hr HMK2 NA
 have TK0:True:=trivial
 have TK1:True:=trivial
 have TK2:True:=trivial
 have TK3:True:=trivial
 have TK4:True:=trivial
 have TK5:True:=trivial
 have TK6:True:=trivial
 have TK7:True:=trivial
 have TK8:True:=trivial
 go_enter Tryz.func21,Tryz.ntmps21
 go_wp2_with ((clear TK0;go_at_call 25;refine (HMK.out).mono ?_;rintro e w1 ⟨⟨u,rfl,hu⟩,hb⟩;have N1:=Lib.hid (N0.out.later hb);clear hb;obtain ⟨A1,c1,rfl⟩:=hu.slice;have HU:=Lib.hid hu;clear hu))
 go_wp2_with ((clear TK1;go_at_call 43;refine (half_call _ N1.out.res).mono ?_;rintro e w2 ⟨⟨b2,rfl,r2⟩,hb⟩;have hb2:=hb;have N2:=Lib.hid (N1.out.later hb);clear hb;have R2:=Lib.hid r2;clear r2;have HU2:=Lib.hid (HU.out.later hb2);clear hb2))
 go_wp2_with ((clear TK2;go_at_call 44;refine (thirds_call _ N2.out.res).mono ?_;rintro e w3 ⟨⟨b3,rfl,r3⟩,hb⟩;have hb3:=hb;have N3:=Lib.hid (N2.out.later hb);clear hb;have R3:=Lib.hid r3;clear r3;have Q3:=Lib.hid (R2.out.below hb3);have HU3:=Lib.hid (HU2.out.later hb3);clear hb3))
 go_wp2_with ((clear TK3;go_at_call 45;refine (HDL.out _ _ _ Q3.out R3.out N3.out.res).mono ?_;rintro e w4 ⟨rfl,hb⟩;have hb4:=hb;have N4:=Lib.hid (N3.out.later hb);clear hb;have HU4:=Lib.hid (HU3.out.later hb4);clear hb4))
 go_wp2_with ((clear TK4;go_at_call 43;refine (half_call _ N4.out.res).mono ?_;rintro e w5 ⟨⟨b5,rfl,r5⟩,hb⟩;have hb5:=hb;have N5:=Lib.hid (N4.out.later hb);clear hb;have R5:=Lib.hid r5;clear r5;have HU5:=Lib.hid (HU4.out.later hb5);clear hb5))
 go_wp2_with ((clear TK5;go_at_call 44;refine (thirds_call _ N5.out.res).mono ?_;rintro e w6 ⟨⟨b6,rfl,r6⟩,hb⟩;have hb6:=hb;have N6:=Lib.hid (N5.out.later hb);clear hb;have R6:=Lib.hid r6;clear r6;have Q6:=Lib.hid (R5.out.below hb6);have HU6:=Lib.hid (HU5.out.later hb6);clear hb6))
 go_wp2_with ((clear TK6;go_at_call 48;refine (HMO.out _ _ _ Q6.out R6.out N6.out.res).mono ?_;rintro e w7 ⟨rfl,hb⟩;have hb7:=hb;have N7:=Lib.hid (N6.out.later hb);clear hb;have HU7:=Lib.hid (HU6.out.later hb7);clear hb7))
 go_wp2_with ((clear TK7;go_at_call 43;refine (half_call _ N7.out.res).mono ?_;rintro e w8 ⟨⟨b8,rfl,r8⟩,hb⟩;have hb8:=hb;have N8:=Lib.hid (N7.out.later hb);clear hb;have R8:=Lib.hid r8;clear r8;have HU8:=Lib.hid ((HU7.out.later hb8).row (by decide));clear hb8))
 go_wp2_with ((clear TK8;go_at_call 40;refine (HSM.out _ _ _ HU8.out R8.out N8.out.res).mono ?_;rintro e w9 ⟨rfl,hb⟩;have N9:=Lib.hid (N8.out.later hb);clear hb))
 go_wp2
 go_ret
 exact ⟨rfl,N9.out.below⟩
end Go.Proofs.YtigapglmipmbeaaGreatDoor
namespace Go.Proofs.YtigapglmipmbeaaGreatDoor
open Go.RowKit
end Go.Proofs.YtigapglmipmbeaaGreatDoor
namespace Go.Proofs.YtigapglmipmbeaaGreatDoor
open Go.RowKit Go.Shelf
open Lim
section
variable {P:Program} {id:Nat} {Q:Exit→Act→World→Prop} {a:Act} {w0:World} {l:List Oper}
end
end Go.Proofs.YtigapglmipmbeaaGreatDoor
namespace Go.Proofs.YtigapglmipmbeaaGreatDoor
open Lim
section
variable {l m n:List L2} (hl:Dst 385 l) (hm:Dst 385 m) (hn:Dst 385 n)
include hl hm
include hn
end
section
variable {l m:List L2} (hl:Dst 385 l) (hm:Dst 385 m)
include hl hm
end
end Go.Proofs.YtigapglmipmbeaaGreatDoor
namespace Go.Proofs.YtigapglmipmbeaaGreatDoor
open Go.RowKit Go.Shelf
def LSRow (w:World) (v:Value) (lss:List (List ByteArray)):Prop:=∃ b c,v=.slice (some ⟨b,0,none⟩) lss.length c∧b < w.heap.size∧lss.length≤8 ∧
 ∀ (j:Nat) (ls:List ByteArray),lss[j]?=some ls→∃ u,w.cell? ⟨b,j,none⟩=some u∧SRowT w u ls
theorem LSRow.ofBlk {w:World} {b:Nat} {t:TypeId} {vs:List (Value × List ByteArray)} {n c:Nat} (h:Blk w b t (vs.map (·.1)).toArray) (hn:n=vs.length) (hl:vs.length≤8) (hv:∀ x∈vs,SRowT w x.1 x.2):LSRow w (.slice (some ⟨b,0,none⟩) n c) (vs.map (·.2)):=by
 subst hn
 refine ⟨b,c,by rw [List.length_map],h.lt,by rw [List.length_map];exact hl,fun j ls hj=>?_⟩
 rw [List.getElem?_map] at hj
 cases hx:vs[j]? with
 | none=>rw [hx] at hj;cases hj
 | some x =>
  rw [hx] at hj
  cases hj
  exact ⟨x.1,by rw [h.cell];simp [hx],hv x (List.mem_of_getElem? hx)⟩
def nameD (ls:List ByteArray):Bool:=decide (ls.length≤16)&&ls.all fun x=>decide (x.size≤12)
def namesD (lss:List (List ByteArray)):Bool:=lss.all nameD
theorem nameD_iff {ls:List ByteArray}:nameD ls=true↔ls.length≤16∧∀ x∈ls,x.size≤12:=by
 unfold nameD
 rw [Bool.and_eq_true,decide_eq_true_eq,List.all_eq_true]
 simp only [decide_eq_true_eq]
theorem nameD_len {ls:List ByteArray} (h:¬ ls.length≤16):nameD ls=false:=by unfold nameD;rw [decide_eq_false h];rfl
theorem nameD_at {j:Nat} {x:ByteArray} {ls:List ByteArray} (hx:ls[j]?=some x) (h:¬ x.size≤12):nameD ls=false:=by
 cases e:nameD ls with
 | false=>rfl
 | true=>exact absurd ((nameD_iff.1 e).2 x (List.mem_of_getElem? hx)) h
theorem nameD_of {ls:List ByteArray} (h:ls.length≤16) (h2:∀ (j:Nat) x,ls[j]?=some x→x.size≤12):nameD ls=true:=nameD_iff.2 ⟨h,fun x hx=>by
 obtain ⟨j,hj⟩:=List.getElem?_of_mem hx
 exact h2 j x hj⟩
theorem namesD_at {j:Nat} {ls:List ByteArray} {lss:List (List ByteArray)} (hx:lss[j]?=some ls) (h:nameD ls=false):namesD lss=false:=by
 unfold namesD
 rw [List.all_eq_false]
 exact ⟨ls,List.mem_of_getElem? hx,by rw [h];decide⟩
theorem namesD_of {lss:List (List ByteArray)} (h:∀ (j:Nat) ls,lss[j]?=some ls→nameD ls=true):namesD lss=true:=by
 unfold namesD
 rw [List.all_eq_true]
 intro ls hl
 obtain ⟨j,hj⟩:=List.getElem?_of_mem hl
 exact h j ls hj
theorem names8_any (lss:List (List ByteArray)) (v:Value) (w:World) (hv:LSRow w v lss) :
  Calls Tryz.prog 23 #[v] w fun e w'=>e=.returned (.bool (namesD lss))∧w'=w:=by
 obtain ⟨b,c,rfl,hb,hlen,hcell⟩:=hv
 have HC:=Lib.hid hcell
 clear hcell
 go_enter Tryz.func23,Tryz.ntmps23
 go_wp2
 go_loopw [3] (fun v3 wr=>∃ i:Nat,i≤lss.length∧v3=.int .i64 (i:Int)∧Hid (∀ (j:Nat) ls,j < i→lss[j]?=some ls→nameD ls=true)∧wr=w) (fun v3 _=>lss.length - (intOf v3).toNat)
 case atStart=>exact ⟨0,Nat.zero_le _,rfl,Lib.hid (fun j ls h=>absurd h (by omega)),rfl⟩
 case round =>
  obtain ⟨i,hi,rfl,HE,rfl⟩:=hrel
  by_cases hlt:i < lss.length
  ·obtain ⟨ls,hls⟩:∃ ls,lss[i]?=some ls:=⟨_,List.getElem?_eq_getElem hlt⟩
   obtain ⟨u,cu,hu⟩:=HC.out i ls hls
   have HU:=Lib.hid hu
   obtain ⟨A,cc,rfl,hl,_⟩:=hu
   unfold maxLen at hl
   have hlt':(i:Int) < (lss.length:Int):=by omega
   have HLS:=Lib.hid (And.intro hls hlt)
   clear hls hlt
   by_cases h1:ls.length≤16
   ·have d1:decide (16 < (ls.length:Int))=false:=decide_eq_false (by omega)
    have d1n:decide (16 < ls.length)=false:=decide_eq_false (by omega)
    obtain ⟨wo,rfl⟩:∃ wo,wo=wr:=⟨_,rfl⟩
    go_wp2
    go_loopw [4] (fun v4 wr=>∃ k:Nat,k≤ls.length∧v4=.int .i64 (k:Int)∧Hid (∀ (j:Nat) x,j < k→ls[j]?=some x→x.size≤12)∧wr=wo) (fun v4 _=>ls.length - (intOf v4).toNat)
    case atStart=>exact ⟨0,Nat.zero_le _,rfl,Lib.hid (fun j x h=>absurd h (by omega)),rfl⟩
    case round =>
     obtain ⟨k,hk,rfl,HF,rfl⟩:=hrel
     by_cases hk2:k < ls.length
     ·obtain ⟨x,hx⟩:∃ x,ls[k]?=some x:=⟨_,List.getElem?_eq_getElem hk2⟩
      obtain ⟨b1,o1,c1',e1,hb1,c0⟩:=HU.out.at (Below.refl _ _) hx
      simp only [Value.slice.injEq,true_and] at e1
      obtain ⟨rfl,rfl⟩:=e1
      have hk2':(k:Int) < (ls.length:Int):=by omega
      have HX:=Lib.hid (And.intro hx hk2)
      clear hx hk2
      by_cases g1:x.size≤12
      ·have t1:decide (12 < (x.size:Int))=false:=decide_eq_false (by omega)
       have t1n:decide (12 < x.size)=false:=decide_eq_false (by omega)
       have HS:=Lib.hid g1
       clear g1
       go_wp2
       go_roundw
       case rel=>exact ⟨k+1,HX.out.2,by go_num,Lib.hid (fun j y hj hxj=>by
        rcases Nat.lt_or_ge j k with h|h
        ·exact HF.out j y h hxj
        ·obtain rfl:j=k:=by omega
         rw [HX.out.1] at hxj
         cases hxj
         exact HS.out),trivial⟩
       case measure=>have:=HX.out.2;simp [intOf];omega
      ·have t1:decide (12 < (x.size:Int))=true:=decide_eq_true (by omega)
       have t1n:decide (12 < x.size)=true:=decide_eq_true (by omega)
       have HR:=Lib.hid (namesD_at HLS.out.1 (nameD_at HX.out.1 g1))
       clear g1
       go_wp2
       go_ret
       rw [HR.out]
       exact ⟨rfl,rfl⟩
     ·have hk2':¬ (k:Int) < (ls.length:Int):=by omega
      have HR:=Lib.hid (nameD_of h1 fun j x hx=>HF.out j x (by have:=(List.getElem?_eq_some_iff.1 hx).1;omega) hx)
      clear hk2
      go_wp2
      go_roundw
      case rel=>exact ⟨i+1,HLS.out.2,by go_num,Lib.hid (fun j l hj hlj=>by
       rcases Nat.lt_or_ge j i with h|h
       ·exact HE.out j l h hlj
       ·obtain rfl:j=i:=by omega
        rw [HLS.out.1] at hlj
        cases hlj
        exact HR.out),trivial⟩
      case measure=>have:=HLS.out.2;simp [intOf];omega
   ·have d1:decide (16 < (ls.length:Int))=true:=decide_eq_true (by omega)
    have d1n:decide (16 < ls.length)=true:=decide_eq_true (by omega)
    have HR:=Lib.hid (namesD_at HLS.out.1 (nameD_len h1))
    clear h1
    go_wp2
    go_ret
    rw [HR.out]
    exact ⟨rfl,rfl⟩
  ·have hlt':¬ (i:Int) < (lss.length:Int):=by omega
   have HR:=Lib.hid (namesD_of fun j ls hj=>HE.out j ls (by have:=(List.getElem?_eq_some_iff.1 hj).1;omega) hj)
   clear hlt
   go_wp2
   go_ret
   rw [HR.out]
   exact ⟨rfl,rfl⟩
end Go.Proofs.YtigapglmipmbeaaGreatDoor
namespace Go.Proofs.YtigapglmipmbeaaGreatDoor
open Go.RowKit Go.Shelf
open Lim
attribute [local go_sem] Oper.semAt_some
def LaterW.lift {w0:World} (z:LaterW w0) (z':LaterW z.W):LaterW w0:=⟨z'.W,z.h.trans (z'.h.mono z.h.size)⟩
theorem make_short {d l:List L2} (h:makeX l=.ok d) (hl:Short l) (h2:l.length≤1000):Short d∧d.length≤1000:=⟨Short.make h hl,make_len h h2⟩
end Go.Proofs.YtigapglmipmbeaaGreatDoor
namespace Go.Proofs.YtigapglmipmbeaaGreatDoor
open Go.RowKit Go.Shelf
open Lim
theorem mix_short {p:ByteArray} {a b d:List L2} (h:mixX p a b=.ok d) (sa:Short a) (sb:Short b) (hl:a.length+b.length≤1000):Short d∧d.length≤1000:=by
 unfold mixX at h
 split at h
 ·cases h
 ·split at h
  ·cases h
  ·split at h
   ·cases h
   ·split at h
    ·cases h
    ·split at h
     ·cases h
     ·rename_i x hx
      split at h
      ·cases h
      ·rename_i y hy
       refine make_short h (fun z hz=>?_) (by rw [List.length_append,scaleX_len hx,scaleX_len hy];exact hl)
       rcases List.mem_append.1 hz with h1|h1
       ·exact scaleX_short hx sa z h1
       ·exact scaleX_short hy sb z h1
theorem sub_one {p:ByteArray} (h:errQ p.data.toList=0) {j:Nat} (s:Sz j (valQ p.data.toList)) (hj:1+j+1≤maxD):subX oT p=.ok (rT (1 - valQ p.data.toList))∧IsT (rT (1 - valQ p.data.toList)) (1 - valQ p.data.toList):=by
 have f1:fits (1 - valQ p.data.toList)=true:=fits_sz.2 ((Sz.one.sub s).mono hj)
 refine ⟨?_,isT_rT f1⟩
 rw [subX_val err_oT h,val_oT,ovT_fit f1]
end Go.Proofs.YtigapglmipmbeaaGreatDoor
namespace Go.Proofs.YtigapglmipmbeaaGreatDoor.RP
open Go.RowKit Go.Shelf Go.Proofs.YtigapglmipmbeaaGreatDoor
def ordPost {α:Type} (I:List α→World→Prop) (Ix:Code→List α→World→Prop) (xs:List α) (W:World):Exit→Act→World→Prop
 | .normal,_,W'=>KeepsOthers W W'∧I xs W'
 | .ret,_,W'=>KeepsOthers W W'∧Ix .ret xs W'
 | .exit id,_,W'=>KeepsOthers W W'∧Ix (.exit id) xs W'
 | .goto t,_,W'=>KeepsOthers W W'∧Ix (.goto t) xs W'
 | .panic _,_,_=>False
 | .outgrown,_,_=>False
def SeqOrd {α:Type} (F:Fence) (n:Nat) (P:Program) (g:Nat) (lb:Array Value) (encs:α→Array Value) (Nx:List α→α→World→Prop) (S:List α→Prop) (G:List α→World→Prop):Prop :=
 ∀ (l:Nat) (J Jx:List α→World→Prop) (W:World),(∀ pre W1,J pre W1→G pre W1)→AbidesFrom W.heap.size J→AbidesFrom W.heap.size Jx →
  (∀ pre x W1,J pre W1→Nx pre x W1→YieldAt F (n - 1) P l (encs x) W1 fun e W'=>(e=.returned (.bool true)∧J (pre++[x]) W')∨(e=.returned (.bool false)∧Jx (pre++[x]) W')) →
  J [] W →
  CallsIn F n P g (#[.func (.yield l) #[] #[]]++lb) W fun e W'=>(∃ v,e=.returned v)∧((∃ xs,S xs∧J xs W')∨(∃ pre x,Jx (pre++[x]) W'))
section
variable {F:Fence} {n:Nat} {P:Program}
def Books (rec:LoopState→Option Code→Loop) (D:Nat) (st:LoopState) (pe:Option Code) (W:World):Prop :=
 W.heap[D+1]?=some (.loop (rec st pe))∧W.heap[D]?=some (.deferred (some []))
theorem Books.abides {rec:LoopState→Option Code→Loop} {D B:Nat} {st:LoopState} {pe:Option Code} {W W':World} {row:Option Nat} (h:Books rec D st pe W) (hg:W.grownBy W' row)
  (hr:∀ r,row=some r→B≤r∧∃ o:Obj,W.heap[r]?=some o∧o.isWalk=true):Books rec D st pe W' :=
 ⟨(grownBy_keeps hg (fun r e=>(hr r e).2) h.1 rfl).trans h.1,(grownBy_keeps hg (fun r e=>(hr r e).2) h.2 rfl).trans h.2⟩
theorem Books.turned {rec:LoopState→Option Code→Loop} {D:Nat} {st:LoopState} {pe:Option Code} {W:World} (h:Books rec D st pe W) (o:Loop) :
  (W.putObj (D+1) (.loop o)).heap[D+1]?=some (.loop o)∧(W.putObj (D+1) (.loop o)).heap[D]?=some (.deferred (some []))∧Turn D W (W.putObj (D+1) (.loop o)) :=
 ⟨World.putObj_heap_same (Array.getElem?_eq_some_iff.1 h.1).1,(World.putObj_heap_other (by omega)).trans h.2,D+1,_,_,by omega,h.1,rfl,rfl⟩
theorem wpIn_range_ord {α:Type} {g:Operand} {ps:Array Tmp} {assign body:Code} {Q:Exit→Act→World→Prop} {a:Act} {w:World}
  (hro:F.round=none) (h1:1≤n) {gf:Nat} {lb:Array Value} (hg:a.eval g=.func (.func gf) #[] lb) (hFg:F.fn gf) (eg:∀ args w,(callFunc gf args).run P w=.ok (.enter gf args) w)
  {encs:α→Array Value} {Nx:List α→α→World→Prop} {S:List α→Prop} {G:List α→World→Prop} (hseq:SeqOrd F (n - 1) P gf lb encs Nx S G) (hps:∀ x,(encs x).size=ps.size)
  (I:List α→World→Prop) (Ix:Code→List α→World→Prop) (hG:∀ pre W,I pre W→G pre W) (hI:OwnFrom w.heap.size I) (hIx:∀ c,OwnFrom w.heap.size (Ix c)) (h0:I [] w)
  (hround:∀ (l:Nat) (pre:List α) (x:α) (W:World) (K:Act→World→Prop),I pre W→Nx pre x W →
   (∀ a' Wa,KeepsOthers W Wa→I pre Wa→(∀ Wb,Turn w.heap.size Wa Wb→I pre Wb→body.wpIn (F.inRound l) (n - 1 - 1) P (ordPost I Ix (pre++[x]) Wb) a' Wb)→K a' Wa) →
   assign.wpIn (F.inRound l) (n - 1 - 1) P (Exit.then K (fun _ _ _=>False)) { tmps:=(ps.zip (encs x)).foldl (fun t (p,v)=>t.setIfInBounds p v) a.tmps,defers:=[] } W)
  (hdone:∀ (D:Nat) (xs:List α) (W:World),w.heap.size≤D→S xs→I xs W→W.heap[D]?=some (.deferred (some []))→Q .normal { a with defers:={ target:=.collected D,args:=#[] }::a.defers } W)
  (hstop:∀ (D:Nat) (c:Code) (pre:List α) (x:α) (W:World),w.heap.size≤D→Ix c (pre++[x]) W→W.heap[D]?=some (.deferred (some []))→c.wpIn F n P Q { a with defers:={ target:=.collected D,args:=#[] }::a.defers } W) :
  (Code.rangeFunc g ps assign body).wpIn F n P Q a w:=by
 refine wpIn_rangeFunc ?_
 intro fn hfn
 rw [hro]
 obtain ⟨rec,hrec⟩:∃ rec:LoopState→Option Code→Loop,rec=fun st pe=>{ state:=st,pending:=pe,fn,tmps:=a.tmps,params:=ps,assign,body,defers:=w.heap.size }:=⟨_,rfl⟩
 obtain ⟨W1,hW1⟩:∃ W1,(w.alloc (.deferred (some []))).alloc (.loop (rec .ready none))=W1:=⟨_,rfl⟩
 have hb1:Books rec w.heap.size .ready none W1:=by
  subst hW1
  refine ⟨?_,(Below.heap_alloc _ _ _ (by simp)).trans (World.alloc_heap_new w _)⟩
  have:=World.alloc_heap_new (w.alloc (.deferred (some []))) (.loop (rec .ready none))
  rwa [World.size_alloc] at this
 have hI1:I [] W1:=by subst hW1;exact hI.alloc _ (hI.alloc _ h0)
 have hsz:w.heap.size≤W1.heap.size:=by subst hW1;simp;omega
 have enters:(Instr.enterLoop fn a.tmps ps assign body none).run P w=.ok (w.heap.size+1,[{ target:=.collected w.heap.size,args:=#[] }]) W1:=by
  rw [← hW1,hrec];exact run_enterLoop_outer _ _ _ _ _
 clear hW1
 have hnw:∀ {A:World} {row:Option Nat},(∀ r,row=some r→W1.heap.size≤r∧∃ o:Obj,A.heap[r]?=some o∧o.isWalk=true)→∀ r,row=some r→w.heap.size≤r∧∃ o:Obj,A.heap[r]?=some o∧o.isCells=false :=
  fun hr r e=>by obtain ⟨hB,o,ho,hw⟩:=hr r e;exact ⟨by omega,o,ho,Obj.not_cells_of_walk hw⟩
 refine ⟨w.heap.size+1,_,W1,{ target:=.fn (.func gf) lb,args:=#[.func (.yield (w.heap.size+1)) #[] #[]] },W1,gf,#[.func (.yield (w.heap.size+1)) #[] #[]]++lb,W1,enters,?_,?_,?_,fun _=>h1,?_⟩
 ·simp only [resolve,hg]
  simp [go_sem]
 ·intro f' hf';simp [Target.leads] at hf';subst hf';exact hFg
 ·simp [invoke,go_sem,eg]
 refine (hseq (w.heap.size+1) (fun pre W=>I pre W∧Books rec w.heap.size .ready none W) (fun pre W=>∃ c,Ix c pre W∧Books rec w.heap.size .done (some c) W) W1
  (fun pre W h=>hG pre W h.1)
  (fun s A A' row hs hg' hr=>⟨hI s A A' row hs.1 hg' (hnw hr),hs.2.abides hg' hr⟩)
  (fun s A A' row hs hg' hr=>by obtain ⟨c,hc,hk⟩:=hs;exact ⟨c,hIx c s A A' row hc hg' (hnw hr),hk.abides hg' hr⟩)
  ?_ ⟨hI1,hb1⟩).mono ?_
 ·rintro pre x W ⟨hi,hk⟩ hnx
  have hy:=run_yield (P:=P) (args:=encs x) hk.1 (by rw [hrec];exact hps x)
  rw [hrec] at hy
  refine ⟨fn,_,assign,body,hy,roundIn_of_wpIn hfn (hround _ pre x W _ hi hnx ?_)⟩
  clear hy
  intro a' Wa hka hia hbody
  have hka':Books rec w.heap.size .ready none Wa:=⟨hka.same _ _ hk.1 rfl,hka.same _ _ hk.2 rfl⟩
  refine ⟨_,run_beginRound hka'.1 (by rw [hrec]),?_⟩
  obtain ⟨t1,t2,t3⟩:=hka'.turned { rec .ready none with state:=.busy }
  refine wpIn_mono (hbody _ t3 (OwnFrom.turn hI hia t3)) ?_
  -- the round's end, by whatever jump
  have fin:∀ (jump:Option Code) (W3:World),KeepsOthers (Wa.putObj (w.heap.size+1) (.loop { rec .ready none with state:=.busy })) W3 →
    ∃ W4,(Instr.endRound (w.heap.size+1) jump).run P W3=.ok (.bool jump.isNone) W4∧Books rec w.heap.size (if jump.isNone then .ready else .done) jump W4∧Turn w.heap.size W3 W4:=by
   intro jump W3 hk3
   have b3:Books (fun _ _=>{ rec .ready none with state:=.busy }) w.heap.size .ready none W3:=⟨hk3.same _ _ t1 rfl,hk3.same _ _ t2 rfl⟩
   obtain ⟨u1,u2,u3⟩:=b3.turned (rec (if jump.isNone then .ready else .done) jump)
   refine ⟨_,?_,⟨u1,u2⟩,u3⟩
   have:=run_endRound (P:=P) jump b3.1
   rw [hrec] at this ⊢
   exact this
  intro e a3 W3 hp
  cases e with
  | normal=>obtain ⟨W4,r1,r2,r3⟩:=fin none W3 hp.1;exact ⟨_,_,r1,.inl ⟨rfl,OwnFrom.turn hI hp.2 r3,r2⟩⟩
  | ret=>obtain ⟨W4,r1,r2,r3⟩:=fin (some .ret) W3 hp.1;exact ⟨_,_,r1,.inr ⟨rfl,.ret,OwnFrom.turn (hIx _) hp.2 r3,r2⟩⟩
  | exit id=>obtain ⟨W4,r1,r2,r3⟩:=fin (some (.exit id)) W3 hp.1;exact ⟨_,_,r1,.inr ⟨rfl,.exit id,OwnFrom.turn (hIx _) hp.2 r3,r2⟩⟩
  | goto t=>obtain ⟨W4,r1,r2,r3⟩:=fin (some (.goto t)) W3 hp.1;exact ⟨_,_,r1,.inr ⟨rfl,.goto t,OwnFrom.turn (hIx _) hp.2 r3,r2⟩⟩
  | panic ch=>exact hp.elim
  | outgrown=>exact hp.elim
 ·rintro e W2 ⟨⟨v,rfl⟩,(⟨xs,hS,hi,hk⟩|⟨pre,x,c,hi,hk⟩)⟩
  ·have hend:=run_endLoop (P:=P) hk.1 (by rw [hrec];simp)
   obtain ⟨t1,t2,t3⟩:=hk.turned { rec .ready none with state:=.exhausted }
   rw [hrec] at hend t2 t3
   exact ⟨none,_,hend,hdone _ xs _ (Nat.le_refl _) hS (OwnFrom.turn hI hi t3) t2⟩
  ·have hend:=run_endLoop (P:=P) hk.1 (by rw [hrec];simp)
   obtain ⟨t1,t2,t3⟩:=hk.turned { rec .done (some c) with state:=.exhausted }
   rw [hrec] at hend t2 t3
   exact ⟨some c,_,hend,hstop _ c pre x _ (Nat.le_refl _) (OwnFrom.turn (hIx c) hi t3) t2⟩
end
end Go.Proofs.YtigapglmipmbeaaGreatDoor.RP
namespace Go.Proofs.YtigapglmipmbeaaGreatDoor
open Go.RowKit Go.Shelf
open Lim
theorem run_errno {W:World} {e:Nat} {n:Int} (h:Blk W e 32 #[.int .i64 n]):(loadVar 32 ⟨e,0,none⟩).run Tryz.prog W=.ok (.int .i64 n) W:=by
 have hc:=cell0 h
 simp [go_sem,hc]
section
variable {fn:Func} {p q u:Tmp} {tmps:Array Value} {W:World} {g e:Nat} {T:TypeId} {x:Value} {n:Int}
theorem run_cell_errno (h:fn.results=#[.cell p T,.cell q 32]) (hp:tmps.getD p undef=.pointer (some ⟨g,0,none⟩)) (hg:(loadVar T ⟨g,0,none⟩).run Tryz.prog W=.ok x W)
  (hq:tmps.getD q undef=.pointer (some ⟨e,0,none⟩)) (he:Blk W e 32 #[.int .i64 n]) :
  (results fn tmps).run Tryz.prog W=.ok (.tuple #[x,.int .i64 n]) W:=by
 have h2:=run_errno he
 have hp':tmps[p]?.getD undef=.pointer (some ⟨g,0,none⟩):=by simpa using hp
 have hq':tmps[q]?.getD undef=.pointer (some ⟨e,0,none⟩):=by simpa using hq
 simp only [results,h]
 simp [Sem.run_bind,Result.andThen,hp',hq',asAddr,hg,h2]
end
end Go.Proofs.YtigapglmipmbeaaGreatDoor
