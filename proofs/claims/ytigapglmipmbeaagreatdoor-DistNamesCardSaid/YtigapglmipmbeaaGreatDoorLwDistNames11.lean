/- dist.Mix (printed by mkdprog.py). (printed by mkrangep.py) A range over a function whose yields come in a known order; what holds in memory may speak of what has come. How a function hands back results that lie in cells: a struct and an error. dist: the pairs of outcomes, and their iterator (printed by mkdprod.py). Curves of moments in memory, and the iterator over the orders of a curve. Functions of rat on numbers whose result does not fit. Curves of moments in plain rationals: what Check, Of, Add, Fits, To and Best compute. moment.least, between and the chain's steps, where nothing fails. moment.Check. moment.Check: the walk. dist.Product (printed by mkdprod.py). -/
import Derived.Test.YtigapglmipmbeaaGreatDoorLwDistNames10
import Derived.Test.YtigapglmipmbeaaGreatDoorLwDistNames08
import Derived.Test.YtigapglmipmbeaaGreatDoorLwDistNames02
import Derived.Test.YtigapglmipmbeaaGreatDoorLwDistNames03
import Derived.Test.YtigapglmipmbeaaGreatDoorLwDistNames07
import Derived.ArgAppend
import Derived.Deep.AppendLies
import Derived.Maps.OwnIn
set_option maxRecDepth 100000
set_option maxHeartbeats 16000000
namespace Go.Proofs.YtigapglmipmbeaaGreatDoor
open Go.RowKit Go.Shelf
open Lim
attribute [local go_sem] Oper.semAt_some
theorem dmix_any (p:ByteArray) (a b:List L2) (va vb:Value) (w:World) (ha:LRow w va a) (hb:LRow w vb b) (sa:Short a) (sb:Short b) (hp:p.size≤270000) (hlen:a.length+b.length≤1000) (hsub:posE p=0→¬ 1 < valQ p.data.toList→∃ r,subX oT p=.ok r) (hr:Res w) :
  Calls Tryz.prog 29 #[.string p,va,vb] w fun e w'=>ResM w.heap.size (mixX p a b) e w'∧Below w.heap.size w w':=by
 have NA:=Lib.hid ((NW.refl hr).alloc (.cells #[va,vb] 31))
 have HCK:=Lib.hid (dchecked_any a b va vb w.heap.size (w.alloc (.cells #[va,vb] 31)) (Blk.new w 31 #[va,vb]) (ha.below (below_alloc (Below.refl _ _) _)) (hb.below (below_alloc (Below.refl _ _) _)) sa sb NA.out.res)
 have HPS:=Lib.hid (positive_any hp)
 have HLA:=Lib.hid (show a.length≤1000 from ha.choose_spec.choose_spec.2.1)
 have HLB:=Lib.hid (show b.length≤1000 from hb.choose_spec.choose_spec.2.1)
 obtain ⟨A0,c0,rfl,_,_⟩:=id ha
 obtain ⟨A1,c1,rfl,_,_⟩:=id hb
 have HA:=Lib.hid ha
 have HB:=Lib.hid hb
 have SA:=Lib.hid sa
 have SB:=Lib.hid sb
 have HRS:=Lib.hid hr
 clear ha hb sa sb hr
 have TK0:True:=trivial
 have TK1:True:=trivial
 have TK2:True:=trivial
 have TK3:True:=trivial
 have TK4:True:=trivial
 have TK5:True:=trivial
 by_cases hc:chk2 a b=0
 ·obtain ⟨hca,hcb⟩:=chk2_both hc
  have pos0:∀ ls:List L2,chkD ls=0→0 < ls.length:=fun ls h=>by
   rcases Nat.eq_zero_or_pos ls.length with h2|h2
   ·have e:=List.eq_nil_of_length_eq_zero h2
    subst e
    exact absurd h (by decide)
   ·exact h2
  have ha0:=pos0 a hca
  have hb0:=pos0 b hcb
  rw [hc] at HCK
  change Hid (Calls _ _ _ _ fun e w'=>e=.returned (.int .i64 0)∧_) at HCK
  clear pos0 hca hcb
  by_cases hq:posE p=0
  ·have hpe:=(posE_zero.1 hq).1
   rw [hq] at HPS
   change Hid (Ret _ _ (.tuple #[.bool (posB p),.int .i64 0])) at HPS
   generalize posB p=pb at *
   have HCM:=Lib.hid (fun (W:World) hr=>cmpT (w:=W) (IsT.of hpe) IsT.one (k:=cmpQ (valQ p.data.toList) 1) rfl hr)
   by_cases h1:1 < valQ p.data.toList
   ·have HR:=Lib.hid (show mixX p a b=.error 2 by unfold mixX;rw [if_neg (by simpa using hc),if_neg (by simpa using hq),if_pos h1])
    have d1:decide (0 < cmpQ (valQ p.data.toList) 1)=true:=decide_eq_true (by have:=(cmpQ_lt 1 (valQ p.data.toList)).2 h1;rw [cmpQ_swap] at this;omega)
    generalize cmpQ (valQ p.data.toList) 1=cq at *
    clear hc hq hpe h1 ha0 hb0 hsub
    go_enter Tryz.func29,Tryz.ntmps29
    go_wp2_with ((clear TK0;go_at_call 112;refine (HCK.out).mono ?_;rintro e w1 ⟨rfl,hb⟩;have N1:=Lib.hid (NA.out.later hb);clear hb))
    go_wp2_with ((clear TK1;go_at_call 106;refine (HPS.out _ N1.out.res).mono ?_;rintro e w2 ⟨rfl,hb⟩;have N2:=Lib.hid (N1.out.later hb);clear hb))
    go_wp2_with ((clear TK2;go_at_call 116;refine (HCM.out _ N2.out.res).mono ?_;rintro e w3 ⟨rfl,hb⟩;have N3:=Lib.hid (N2.out.later hb);clear hb))
    go_wp2
    go_ret2
    rw [HR.out]
    exact ⟨rfl,N3.out.below⟩
   ·obtain ⟨r,hsr⟩:=hsub hq h1
    have d1:decide (0 < cmpQ (valQ p.data.toList) 1)=false:=decide_eq_false (fun h=>h1 ((cmpQ_lt 1 (valQ p.data.toList)).1 (by rw [cmpQ_swap];omega)))
    have hM:mixX p a b=(match scaleX a p with|.error n=>.error n|.ok x=>match scaleX b r with|.error n=>.error n|.ok y=>makeX (x++y)):=by
     unfold mixX
     rw [if_neg (by simpa using hc),if_neg (by simpa using hq),if_neg h1,hsr]
     rfl
    have HSB:=retSubX (a:=oT) (b:=p) oT_small hp
    rw [hsr] at HSB
    change Ret _ #[.string ⟨#[49]⟩,.string p] (.tuple #[.string r,.int .i64 0]) at HSB
    have HSB:=Lib.hid HSB
    have hrs:=size_ok (subX_ok hsr)
    have HSX:=Lib.hid (fun (W:World) (hW:NW w W)=>dscaled_any a _ p W (HA.out.below hW.below) ha0 SA.out hp hW.res)
    have HSY:=Lib.hid (fun (W:World) (hW:NW w W)=>dscaled_any b _ r W (HB.out.below hW.below) hb0 SB.out hrs hW.res)
    have HB0:=Lib.hid hb0
    generalize cmpQ (valQ p.data.toList) 1=cq at *
    clear hc hq hpe h1 ha0 hb0 hsub hsr hrs hp
    cases hx:scaleX a p with
    | error n =>
     rw [hx] at hM HSX
     change Hid (∀ W (_:NW w W),Calls _ _ _ _ fun e w'=>e=.returned (.tuple #[.slice none 0 0,.int .i64 (n:Int)])∧_) at HSX
     have hz:=ne_zero (scaleX_ne hx)
     have hz2:=ne_zero2 (scaleX_ne hx)
     have HR:=Lib.hid (show mixX p a b=.error n from hM)
     clear hx hM
     go_enter Tryz.func29,Tryz.ntmps29
     go_wp2_with ((clear TK0;go_at_call 112;refine (HCK.out).mono ?_;rintro e w1 ⟨rfl,hb⟩;have N1:=Lib.hid (NA.out.later hb);clear hb))
     go_wp2_with ((clear TK1;go_at_call 106;refine (HPS.out _ N1.out.res).mono ?_;rintro e w2 ⟨rfl,hb⟩;have N2:=Lib.hid (N1.out.later hb);clear hb))
     go_wp2_with ((clear TK2;go_at_call 116;refine (HCM.out _ N2.out.res).mono ?_;rintro e w3 ⟨rfl,hb⟩;have N3:=Lib.hid (N2.out.later hb);clear hb))
     go_wp2_with ((clear TK3;go_at_call 117;refine (HSB.out _ N3.out.res).mono ?_;rintro e w4 ⟨rfl,hb⟩;have N4:=Lib.hid (N3.out.later hb);clear hb))
     go_wp2_with ((clear TK4;go_at_call 118;refine (HSX.out _ N4.out).mono ?_;rintro e w5 ⟨rfl,hb⟩;have N5:=Lib.hid (N4.out.later hb);clear hb))
     go_wp2
     go_ret2
     rw [HR.out]
     exact ⟨rfl,N5.out.below⟩
    | ok xs =>
     rw [hx] at hM HSX
     change Hid (∀ W (_:NW w W),Calls _ _ _ _ fun e w'=>(∃ u,e=.returned (.tuple #[u,.int .i64 0])∧OwnM _ w' u xs)∧_) at HSX
     cases hy:scaleX b r with
     | error n =>
      rw [hy] at hM HSY
      change Hid (∀ W (_:NW w W),Calls _ _ _ _ fun e w'=>e=.returned (.tuple #[.slice none 0 0,.int .i64 (n:Int)])∧_) at HSY
      have hz:=ne_zero (scaleX_ne hy)
      have hz2:=ne_zero2 (scaleX_ne hy)
      have HR:=Lib.hid (show mixX p a b=.error n from hM)
      clear hx hy hM
      go_enter Tryz.func29,Tryz.ntmps29
      go_wp2_with ((clear TK0;go_at_call 112;refine (HCK.out).mono ?_;rintro e w1 ⟨rfl,hb⟩;have N1:=Lib.hid (NA.out.later hb);clear hb))
      go_wp2_with ((clear TK1;go_at_call 106;refine (HPS.out _ N1.out.res).mono ?_;rintro e w2 ⟨rfl,hb⟩;have N2:=Lib.hid (N1.out.later hb);clear hb))
      go_wp2_with ((clear TK2;go_at_call 116;refine (HCM.out _ N2.out.res).mono ?_;rintro e w3 ⟨rfl,hb⟩;have N3:=Lib.hid (N2.out.later hb);clear hb))
      go_wp2_with ((clear TK3;go_at_call 117;refine (HSB.out _ N3.out.res).mono ?_;rintro e w4 ⟨rfl,hb⟩;have N4:=Lib.hid (N3.out.later hb);clear hb))
      go_wp2_with ((clear TK4;go_at_call 118;refine (HSX.out _ N4.out).mono ?_;rintro e w5 ⟨⟨u5,rfl,ho5⟩,hb⟩;obtain ⟨A5,c5,rfl⟩:=ho5.slice;have N5:=Lib.hid (N4.out.later hb);have HO5:=Lib.hid ho5;have HZ5:=Lib.hid hb.size;clear hb ho5))
      go_wp2_with ((clear TK5;go_at_call 118;refine (HSY.out _ N5.out).mono ?_;rintro e w6 ⟨rfl,hb⟩;have N6:=Lib.hid (N5.out.later hb);clear hb))
      go_wp2
      go_ret2
      rw [HR.out]
      exact ⟨rfl,N6.out.below⟩
     | ok ys =>
      rw [hy] at hM HSY
      change Hid (∀ W (_:NW w W),Calls _ _ _ _ fun e w'=>(∃ u,e=.returned (.tuple #[u,.int .i64 0])∧OwnM _ w' u ys)∧_) at HSY
      have HY0:=Lib.hid (show 0 < ys.length by rw [scaleX_len hy];exact HB0.out)
      have HXY:=Lib.hid (show xs.length+ys.length≤2000 by rw [scaleX_len hy,scaleX_len hx];have:=HLA.out;have:=HLB.out;omega)
      have hsm:Short (xs++ys):=fun z hz=>by
       rcases List.mem_append.1 hz with h|h
       ·exact scaleX_short hx SA.out z h
       ·exact scaleX_short hy SB.out z h
      have HMC:=Lib.hid (fun (W:World) (u:Value) (B:Nat) (ho:OwnM B W u (xs++ys)) (hr:Res W)=>dmake_any (xs++ys) u W (ho.row (by rw [List.length_append,scaleX_len hx,scaleX_len hy];exact hlen)) hsm hr)
      obtain ⟨i0,hi,hz0,hz1,hz2⟩:=info_parts infoM
      have TK6:True:=trivial
      have HR:=Lib.hid (show mixX p a b=makeX (xs++ys) from hM)
      rw [← HR.out] at HMC
      clear hx hy hsm hM
      generalize mixX p a b=mk at *
      cases mk with
      | error n =>
       change Hid (∀ W u B (_:OwnM B W u (xs++ys)) (_:Res W),Calls _ _ _ _ fun e w'=>e=.returned (.tuple #[.slice none 0 0,.int .i64 (n:Int)])∧_) at HMC
       go_enter Tryz.func29,Tryz.ntmps29
       go_wp2_with ((clear TK0;go_at_call 112;refine (HCK.out).mono ?_;rintro e w1 ⟨rfl,hb⟩;have N1:=Lib.hid (NA.out.later hb);clear hb))
       go_wp2_with ((clear TK1;go_at_call 106;refine (HPS.out _ N1.out.res).mono ?_;rintro e w2 ⟨rfl,hb⟩;have N2:=Lib.hid (N1.out.later hb);clear hb))
       go_wp2_with ((clear TK2;go_at_call 116;refine (HCM.out _ N2.out.res).mono ?_;rintro e w3 ⟨rfl,hb⟩;have N3:=Lib.hid (N2.out.later hb);clear hb))
       go_wp2_with ((clear TK3;go_at_call 117;refine (HSB.out _ N3.out.res).mono ?_;rintro e w4 ⟨rfl,hb⟩;have N4:=Lib.hid (N3.out.later hb);clear hb))
       go_wp2_with ((clear TK4;go_at_call 118;refine (HSX.out _ N4.out).mono ?_;rintro e w5 ⟨⟨u5,rfl,ho5⟩,hb⟩;obtain ⟨A5,c5,rfl⟩:=ho5.slice;have N5:=Lib.hid (N4.out.later hb);have HO5:=Lib.hid ho5;have HZ5:=Lib.hid hb.size;clear hb ho5))
       go_wp2_with (first
        | (clear TK5;go_at_call 118;refine (HSY.out _ N5.out).mono ?_;rintro e w6 ⟨⟨u6,rfl,ho6⟩,hb⟩;obtain ⟨g6,c6,rfl,hg6⟩:=ho6.ofPos HY0.out;have N6:=Lib.hid (N5.out.later hb);have HO6:=Lib.hid ho6;have HO5:=Lib.hid (OwnM.later HO5.out hb);have HSR:=Lib.hid (World.ownsRow.cells ho6 (g:=g6) rfl);have HZ6:=Lib.hid hb.size;clear hb ho6 hg6)
        | (at_builtin;refine wpList_append_own _ rfl _ _ 22 rfl w4.heap.size 30 i0 (.agg #[.string ByteArray.empty,.string ByteArray.empty]) 2 32 Tryz.underlying22 hi hz0 hz1 hz2 rfl (by decide) _ _ _ rfl HO5.out ⟨g6,0,none⟩ ys.length c6 (cellsM ys) rfl (cellsM_length ys) HSR.out (one_cellsM ys) (by have:=HXY.out;unfold maxLen;omega) (by have:=HXY.out;omega) (Nat.le_trans HZ5.out HZ6.out) ?_;intro v' w7 hown7 hgrow7 _;have HO7:=Lib.hid (show OwnM w4.heap.size w7 v' (xs++ys) by unfold OwnM;rw [List.length_append,cellsM_append];exact hown7);have HG7:=Lib.hid hgrow7;clear hown7 hgrow7)
        | (clear TK6;go_at_call 25;have N7:=Lib.hid (grow_nw N6.out HRS.out HG7.out (fun r e=>Nat.le_trans N4.out.below.size (HO5.out.base e)));refine (HMC.out _ _ _ HO7.out N7.out.res).mono ?_;rintro e w8 ⟨rfl,hb⟩;have N8:=Lib.hid (N7.out.later hb);clear hb))
       go_wp2
       go_ret2
       exact ⟨rfl,N8.out.below⟩
      | ok d =>
       change Hid (∀ W u B (_:OwnM B W u (xs++ys)) (_:Res W),Calls _ _ _ _ fun e w'=>(∃ u,e=.returned (.tuple #[u,.int .i64 0])∧OwnM _ w' u d)∧_) at HMC
       go_enter Tryz.func29,Tryz.ntmps29
       go_wp2_with ((clear TK0;go_at_call 112;refine (HCK.out).mono ?_;rintro e w1 ⟨rfl,hb⟩;have N1:=Lib.hid (NA.out.later hb);clear hb))
       go_wp2_with ((clear TK1;go_at_call 106;refine (HPS.out _ N1.out.res).mono ?_;rintro e w2 ⟨rfl,hb⟩;have N2:=Lib.hid (N1.out.later hb);clear hb))
       go_wp2_with ((clear TK2;go_at_call 116;refine (HCM.out _ N2.out.res).mono ?_;rintro e w3 ⟨rfl,hb⟩;have N3:=Lib.hid (N2.out.later hb);clear hb))
       go_wp2_with ((clear TK3;go_at_call 117;refine (HSB.out _ N3.out.res).mono ?_;rintro e w4 ⟨rfl,hb⟩;have N4:=Lib.hid (N3.out.later hb);clear hb))
       go_wp2_with ((clear TK4;go_at_call 118;refine (HSX.out _ N4.out).mono ?_;rintro e w5 ⟨⟨u5,rfl,ho5⟩,hb⟩;obtain ⟨A5,c5,rfl⟩:=ho5.slice;have N5:=Lib.hid (N4.out.later hb);have HO5:=Lib.hid ho5;have HZ5:=Lib.hid hb.size;clear hb ho5))
       go_wp2_with (first
        | (clear TK5;go_at_call 118;refine (HSY.out _ N5.out).mono ?_;rintro e w6 ⟨⟨u6,rfl,ho6⟩,hb⟩;obtain ⟨g6,c6,rfl,hg6⟩:=ho6.ofPos HY0.out;have N6:=Lib.hid (N5.out.later hb);have HO6:=Lib.hid ho6;have HO5:=Lib.hid (OwnM.later HO5.out hb);have HSR:=Lib.hid (World.ownsRow.cells ho6 (g:=g6) rfl);have HZ6:=Lib.hid hb.size;clear hb ho6 hg6)
        | (at_builtin;refine wpList_append_own _ rfl _ _ 22 rfl w4.heap.size 30 i0 (.agg #[.string ByteArray.empty,.string ByteArray.empty]) 2 32 Tryz.underlying22 hi hz0 hz1 hz2 rfl (by decide) _ _ _ rfl HO5.out ⟨g6,0,none⟩ ys.length c6 (cellsM ys) rfl (cellsM_length ys) HSR.out (one_cellsM ys) (by have:=HXY.out;unfold maxLen;omega) (by have:=HXY.out;omega) (Nat.le_trans HZ5.out HZ6.out) ?_;intro v' w7 hown7 hgrow7 _;have HO7:=Lib.hid (show OwnM w4.heap.size w7 v' (xs++ys) by unfold OwnM;rw [List.length_append,cellsM_append];exact hown7);have HG7:=Lib.hid hgrow7;clear hown7 hgrow7)
        | (clear TK6;go_at_call 25;have N7:=Lib.hid (grow_nw N6.out HRS.out HG7.out (fun r e=>Nat.le_trans N4.out.below.size (HO5.out.base e)));refine (HMC.out _ _ _ HO7.out N7.out.res).mono ?_;rintro e w8 ⟨⟨u8,rfl,ho8⟩,hb⟩;have N8:=Lib.hid (N7.out.later hb);have HO8:=Lib.hid (owns_base ho8 N7.out.below.size);clear hb ho8))
       go_wp2
       go_ret2
       exact ⟨⟨_,rfl,HO8.out⟩,N8.out.below⟩
  ·have hz:=ne_zero hq
   have hz2:=ne_zero2 hq
   have HR:=Lib.hid (show mixX p a b=.error (posE p) by unfold mixX;rw [if_neg (by simpa using hc),if_pos hq])
   generalize posE p=n at *
   generalize posB p=pb at *
   clear hc hq ha0 hb0 hsub
   go_enter Tryz.func29,Tryz.ntmps29
   go_wp2_with ((clear TK0;go_at_call 112;refine (HCK.out).mono ?_;rintro e w1 ⟨rfl,hb⟩;have N1:=Lib.hid (NA.out.later hb);clear hb))
   go_wp2_with ((clear TK1;go_at_call 106;refine (HPS.out _ N1.out.res).mono ?_;rintro e w2 ⟨rfl,hb⟩;have N2:=Lib.hid (N1.out.later hb);clear hb))
   go_wp2
   go_ret2
   rw [HR.out]
   exact ⟨rfl,N2.out.below⟩
 ·have hz:=ne_zero hc
  have hz2:=ne_zero2 hc
  have HR:=Lib.hid (show mixX p a b=.error (chk2 a b) by unfold mixX;rw [if_pos hc])
  generalize chk2 a b=n at *
  clear hc hsub
  go_enter Tryz.func29,Tryz.ntmps29
  go_wp2_with ((clear TK0;go_at_call 112;refine (HCK.out).mono ?_;rintro e w1 ⟨rfl,hb⟩;have N1:=Lib.hid (NA.out.later hb);clear hb))
  go_wp2
  go_ret2
  rw [HR.out]
  exact ⟨rfl,N1.out.below⟩
end Go.Proofs.YtigapglmipmbeaaGreatDoor
namespace Go.Proofs.YtigapglmipmbeaaGreatDoor.RP
open Go.RowKit Go.Shelf Go.Proofs.YtigapglmipmbeaaGreatDoor
def ordPost {α:Type} (I:List α→World→Prop) (Ix:Code→List α→World→Prop) (xs:List α) (W:World):Exit→Act→World→Prop
 | .normal,_,W'=>KeepsOthers W W'∧I xs W'
 | .ret,_,W'=>KeepsOthers W W'∧Ix .ret xs W'
 | .exit id,_,W'=>KeepsOthers W W'∧Ix (.exit id) xs W'
 | .goto t,_,W'=>KeepsOthers W W'∧Ix (.goto t) xs W'
 | .panic _,_,_=>False
 | .outgrown,_,_=>False
def SeqOrd {α:Type} (F:Fence) (n:Nat) (P:Program) (g:Nat) (lb:Array Value) (encs:α→Array Value) (Nx:List α→α→World→Prop) (S:List α→Prop) (G:List α→World→Prop):Prop :=
 ∀ (l:Nat) (J Jx:List α→World→Prop) (W:World),(∀ pre W1,J pre W1→G pre W1)→AbidesFrom W.heap.size J→AbidesFrom W.heap.size Jx →
  (∀ pre x W1,J pre W1→Nx pre x W1→YieldAt F (n - 1) P l (encs x) W1 fun e W'=>(e=.returned (.bool true)∧J (pre++[x]) W')∨(e=.returned (.bool false)∧Jx (pre++[x]) W')) →
  J [] W →
  CallsIn F n P g (#[.func (.yield l) #[] #[]]++lb) W fun e W'=>(∃ v,e=.returned v)∧((∃ xs,S xs∧J xs W')∨(∃ pre x,Jx (pre++[x]) W'))
section
variable {F:Fence} {n:Nat} {P:Program}
def Books (rec:LoopState→Option Code→Loop) (D:Nat) (st:LoopState) (pe:Option Code) (W:World):Prop :=
 W.heap[D+1]?=some (.loop (rec st pe))∧W.heap[D]?=some (.deferred (some []))
theorem Books.abides {rec:LoopState→Option Code→Loop} {D B:Nat} {st:LoopState} {pe:Option Code} {W W':World} {row:Option Nat} (h:Books rec D st pe W) (hg:W.grownBy W' row)
  (hr:∀ r,row=some r→B≤r∧∃ o:Obj,W.heap[r]?=some o∧o.isWalk=true):Books rec D st pe W' :=
 ⟨(grownBy_keeps hg (fun r e=>(hr r e).2) h.1 rfl).trans h.1,(grownBy_keeps hg (fun r e=>(hr r e).2) h.2 rfl).trans h.2⟩
theorem Books.turned {rec:LoopState→Option Code→Loop} {D:Nat} {st:LoopState} {pe:Option Code} {W:World} (h:Books rec D st pe W) (o:Loop) :
  (W.putObj (D+1) (.loop o)).heap[D+1]?=some (.loop o)∧(W.putObj (D+1) (.loop o)).heap[D]?=some (.deferred (some []))∧Turn D W (W.putObj (D+1) (.loop o)) :=
 ⟨World.putObj_heap_same (Array.getElem?_eq_some_iff.1 h.1).1,(World.putObj_heap_other (by omega)).trans h.2,D+1,_,_,by omega,h.1,rfl,rfl⟩
theorem wpIn_range_ord {α:Type} {g:Operand} {ps:Array Tmp} {assign body:Code} {Q:Exit→Act→World→Prop} {a:Act} {w:World}
  (hro:F.round=none) (h1:1≤n) {gf:Nat} {lb:Array Value} (hg:a.eval g=.func (.func gf) #[] lb) (hFg:F.fn gf) (eg:∀ args w,(callFunc gf args).run P w=.ok (.enter gf args) w)
  {encs:α→Array Value} {Nx:List α→α→World→Prop} {S:List α→Prop} {G:List α→World→Prop} (hseq:SeqOrd F (n - 1) P gf lb encs Nx S G) (hps:∀ x,(encs x).size=ps.size)
  (I:List α→World→Prop) (Ix:Code→List α→World→Prop) (hG:∀ pre W,I pre W→G pre W) (hI:OwnFrom w.heap.size I) (hIx:∀ c,OwnFrom w.heap.size (Ix c)) (h0:I [] w)
  (hround:∀ (l:Nat) (pre:List α) (x:α) (W:World) (K:Act→World→Prop),I pre W→Nx pre x W →
   (∀ a' Wa,KeepsOthers W Wa→I pre Wa→(∀ Wb,Turn w.heap.size Wa Wb→I pre Wb→body.wpIn (F.inRound l) (n - 1 - 1) P (ordPost I Ix (pre++[x]) Wb) a' Wb)→K a' Wa) →
   assign.wpIn (F.inRound l) (n - 1 - 1) P (Exit.then K (fun _ _ _=>False)) { tmps:=(ps.zip (encs x)).foldl (fun t (p,v)=>t.setIfInBounds p v) a.tmps,defers:=[] } W)
  (hdone:∀ (D:Nat) (xs:List α) (W:World),w.heap.size≤D→S xs→I xs W→W.heap[D]?=some (.deferred (some []))→Q .normal { a with defers:={ target:=.collected D,args:=#[] }::a.defers } W)
  (hstop:∀ (D:Nat) (c:Code) (pre:List α) (x:α) (W:World),w.heap.size≤D→Ix c (pre++[x]) W→W.heap[D]?=some (.deferred (some []))→c.wpIn F n P Q { a with defers:={ target:=.collected D,args:=#[] }::a.defers } W) :
  (Code.rangeFunc g ps assign body).wpIn F n P Q a w:=by
 refine wpIn_rangeFunc ?_
 intro fn hfn
 rw [hro]
 obtain ⟨rec,hrec⟩:∃ rec:LoopState→Option Code→Loop,rec=fun st pe=>{ state:=st,pending:=pe,fn,tmps:=a.tmps,params:=ps,assign,body,defers:=w.heap.size }:=⟨_,rfl⟩
 obtain ⟨W1,hW1⟩:∃ W1,(w.alloc (.deferred (some []))).alloc (.loop (rec .ready none))=W1:=⟨_,rfl⟩
 have hb1:Books rec w.heap.size .ready none W1:=by
  subst hW1
  refine ⟨?_,(Below.heap_alloc _ _ _ (by simp)).trans (World.alloc_heap_new w _)⟩
  have:=World.alloc_heap_new (w.alloc (.deferred (some []))) (.loop (rec .ready none))
  rwa [World.size_alloc] at this
 have hI1:I [] W1:=by subst hW1;exact hI.alloc _ (hI.alloc _ h0)
 have hsz:w.heap.size≤W1.heap.size:=by subst hW1;simp;omega
 have enters:(Instr.enterLoop fn a.tmps ps assign body none).run P w=.ok (w.heap.size+1,[{ target:=.collected w.heap.size,args:=#[] }]) W1:=by
  rw [← hW1,hrec];exact run_enterLoop_outer _ _ _ _ _
 clear hW1
 have hnw:∀ {A:World} {row:Option Nat},(∀ r,row=some r→W1.heap.size≤r∧∃ o:Obj,A.heap[r]?=some o∧o.isWalk=true)→∀ r,row=some r→w.heap.size≤r∧∃ o:Obj,A.heap[r]?=some o∧o.isCells=false :=
  fun hr r e=>by obtain ⟨hB,o,ho,hw⟩:=hr r e;exact ⟨by omega,o,ho,Obj.not_cells_of_walk hw⟩
 refine ⟨w.heap.size+1,_,W1,{ target:=.fn (.func gf) lb,args:=#[.func (.yield (w.heap.size+1)) #[] #[]] },W1,gf,#[.func (.yield (w.heap.size+1)) #[] #[]]++lb,W1,enters,?_,?_,?_,fun _=>h1,?_⟩
 ·simp only [resolve,hg]
  simp [go_sem]
 ·intro f' hf';simp [Target.leads] at hf';subst hf';exact hFg
 ·simp [invoke,go_sem,eg]
 refine (hseq (w.heap.size+1) (fun pre W=>I pre W∧Books rec w.heap.size .ready none W) (fun pre W=>∃ c,Ix c pre W∧Books rec w.heap.size .done (some c) W) W1
  (fun pre W h=>hG pre W h.1)
  (fun s A A' row hs hg' hr=>⟨hI s A A' row hs.1 hg' (hnw hr),hs.2.abides hg' hr⟩)
  (fun s A A' row hs hg' hr=>by obtain ⟨c,hc,hk⟩:=hs;exact ⟨c,hIx c s A A' row hc hg' (hnw hr),hk.abides hg' hr⟩)
  ?_ ⟨hI1,hb1⟩).mono ?_
 ·rintro pre x W ⟨hi,hk⟩ hnx
  have hy:=run_yield (P:=P) (args:=encs x) hk.1 (by rw [hrec];exact hps x)
  rw [hrec] at hy
  refine ⟨fn,_,assign,body,hy,roundIn_of_wpIn hfn (hround _ pre x W _ hi hnx ?_)⟩
  clear hy
  intro a' Wa hka hia hbody
  have hka':Books rec w.heap.size .ready none Wa:=⟨hka.same _ _ hk.1 rfl,hka.same _ _ hk.2 rfl⟩
  refine ⟨_,run_beginRound hka'.1 (by rw [hrec]),?_⟩
  obtain ⟨t1,t2,t3⟩:=hka'.turned { rec .ready none with state:=.busy }
  refine wpIn_mono (hbody _ t3 (OwnFrom.turn hI hia t3)) ?_
  -- the round's end, by whatever jump
  have fin:∀ (jump:Option Code) (W3:World),KeepsOthers (Wa.putObj (w.heap.size+1) (.loop { rec .ready none with state:=.busy })) W3 →
    ∃ W4,(Instr.endRound (w.heap.size+1) jump).run P W3=.ok (.bool jump.isNone) W4∧Books rec w.heap.size (if jump.isNone then .ready else .done) jump W4∧Turn w.heap.size W3 W4:=by
   intro jump W3 hk3
   have b3:Books (fun _ _=>{ rec .ready none with state:=.busy }) w.heap.size .ready none W3:=⟨hk3.same _ _ t1 rfl,hk3.same _ _ t2 rfl⟩
   obtain ⟨u1,u2,u3⟩:=b3.turned (rec (if jump.isNone then .ready else .done) jump)
   refine ⟨_,?_,⟨u1,u2⟩,u3⟩
   have:=run_endRound (P:=P) jump b3.1
   rw [hrec] at this ⊢
   exact this
  intro e a3 W3 hp
  cases e with
  | normal=>obtain ⟨W4,r1,r2,r3⟩:=fin none W3 hp.1;exact ⟨_,_,r1,.inl ⟨rfl,OwnFrom.turn hI hp.2 r3,r2⟩⟩
  | ret=>obtain ⟨W4,r1,r2,r3⟩:=fin (some .ret) W3 hp.1;exact ⟨_,_,r1,.inr ⟨rfl,.ret,OwnFrom.turn (hIx _) hp.2 r3,r2⟩⟩
  | exit id=>obtain ⟨W4,r1,r2,r3⟩:=fin (some (.exit id)) W3 hp.1;exact ⟨_,_,r1,.inr ⟨rfl,.exit id,OwnFrom.turn (hIx _) hp.2 r3,r2⟩⟩
  | goto t=>obtain ⟨W4,r1,r2,r3⟩:=fin (some (.goto t)) W3 hp.1;exact ⟨_,_,r1,.inr ⟨rfl,.goto t,OwnFrom.turn (hIx _) hp.2 r3,r2⟩⟩
  | panic ch=>exact hp.elim
  | outgrown=>exact hp.elim
 ·rintro e W2 ⟨⟨v,rfl⟩,(⟨xs,hS,hi,hk⟩|⟨pre,x,c,hi,hk⟩)⟩
  ·have hend:=run_endLoop (P:=P) hk.1 (by rw [hrec];simp)
   obtain ⟨t1,t2,t3⟩:=hk.turned { rec .ready none with state:=.exhausted }
   rw [hrec] at hend t2 t3
   exact ⟨none,_,hend,hdone _ xs _ (Nat.le_refl _) hS (OwnFrom.turn hI hi t3) t2⟩
  ·have hend:=run_endLoop (P:=P) hk.1 (by rw [hrec];simp)
   obtain ⟨t1,t2,t3⟩:=hk.turned { rec .done (some c) with state:=.exhausted }
   rw [hrec] at hend t2 t3
   exact ⟨some c,_,hend,hstop _ c pre x _ (Nat.le_refl _) (OwnFrom.turn (hIx c) hi t3) t2⟩
end
end Go.Proofs.YtigapglmipmbeaaGreatDoor.RP
namespace Go.Proofs.YtigapglmipmbeaaGreatDoor
open Go.RowKit Go.Shelf
open Lim
theorem run_errno {W:World} {e:Nat} {n:Int} (h:Blk W e 32 #[.int .i64 n]):(loadVar 32 ⟨e,0,none⟩).run Tryz.prog W=.ok (.int .i64 n) W:=by
 have hc:=cell0 h
 simp [go_sem,hc]
section
variable {fn:Func} {p q u:Tmp} {tmps:Array Value} {W:World} {g e:Nat} {T:TypeId} {x:Value} {n:Int}
theorem run_cell_errno (h:fn.results=#[.cell p T,.cell q 32]) (hp:tmps.getD p undef=.pointer (some ⟨g,0,none⟩)) (hg:(loadVar T ⟨g,0,none⟩).run Tryz.prog W=.ok x W)
  (hq:tmps.getD q undef=.pointer (some ⟨e,0,none⟩)) (he:Blk W e 32 #[.int .i64 n]) :
  (results fn tmps).run Tryz.prog W=.ok (.tuple #[x,.int .i64 n]) W:=by
 have h2:=run_errno he
 have hp':tmps[p]?.getD undef=.pointer (some ⟨g,0,none⟩):=by simpa using hp
 have hq':tmps[q]?.getD undef=.pointer (some ⟨e,0,none⟩):=by simpa using hq
 simp only [results,h]
 simp [Sem.run_bind,Result.andThen,hp',hq',asAddr,hg,h2]
end
end Go.Proofs.YtigapglmipmbeaaGreatDoor
namespace Go.Proofs.YtigapglmipmbeaaGreatDoor
open Go.RowKit Go.Shelf
open Lim
attribute [local go_sem] Oper.semAt_some
def txtX:XE→ByteArray
 | .ok s=>s
 | .error _=>⟨#[]⟩
def errX:XE→Nat
 | .ok _=>0
 | .error n=>n
theorem resX_te (r:XE):resX r=.tuple #[.string (txtX r),.int .i64 (errX r:Int)]:=by cases r<;>rfl
def seqX:List (ByteArray × XE)→Except Nat (List L2)
 | []=>.ok []
 | x::l=>match x.2 with
  | .error n=>.error n
  | .ok p=>match seqX l with
   | .error n=>.error n
   | .ok m=>.ok ((x.1,p)::m)
theorem seqX_append:∀ (l r:List (ByteArray × XE)),seqX (l++r)=(match seqX l with|.error n=>.error n|.ok m=>match seqX r with|.error n=>.error n|.ok s=>.ok (m++s))
 | [],r=>by
  show seqX r=(match seqX r with|.error n=>.error n|.ok s=>.ok ([]++s))
  cases seqX r<;>rfl
 | x::l,r=>by
  have h:=seqX_append l r
  simp only [List.cons_append,seqX,h]
  cases x.2 with
  | error n=>rfl
  | ok p =>
   cases seqX l with
   | error n=>rfl
   | ok m=>cases seqX r<;>rfl
theorem seqX_ok:∀ {l:List (ByteArray × XE)},(∀ x∈l,errX x.2=0∧∃ s,x.2=.ok s)→seqX l=.ok (l.map fun x=>(x.1,txtX x.2))
 | [],_=>rfl
 | x::l,h=>by
  obtain ⟨_,s,hs⟩:=h x (by simp)
  have h2:=seqX_ok (l:=l) fun y hy=>h y (by simp [hy])
  simp only [seqX,hs,h2,List.map_cons,txtX]
theorem seqX_err:∀ {l:List (ByteArray × XE)} {t n:Nat} {x:ByteArray × XE},l[t]?=some x→(∀ (j:Nat) y,j < t→l[j]?=some y→∃ s,y.2=.ok s)→x.2=.error n→seqX l=.error n
 | [],t,n,x,h,_,_=>by simp at h
 | a::l,0,n,x,h,_,hx=>by
  simp only [List.getElem?_cons_zero,Option.some.injEq] at h
  subst h
  simp only [seqX,hx]
 | a::l,t+1,n,x,h,h0,hx=>by
  obtain ⟨s,hs⟩:=h0 0 a (by omega) rfl
  have h2:=seqX_err (l:=l) (t:=t) (by simpa using h) (fun j y hj hy=>h0 (j+1) y (by omega) (by simpa using hy)) hx
  simp only [seqX,hs,h2]
theorem scale_seq (k:ByteArray) (c:ByteArray):∀ b:List L2,(match scaleX b c with|.error n=>.error n|.ok m=>.ok (m.map fun y=>(joinT k y.1,y.2)))=seqX (b.map fun y=>(joinT k y.1,mulX y.2 c))
 | []=>rfl
 | y::b=>by
  have h:=scale_seq k c b
  simp only [List.map_cons,seqX,scaleX,← h]
  cases mulX y.2 c with
  | error n=>rfl
  | ok p=>cases scaleX b c<;>rfl
def pairsY (a b:List L2):List (ByteArray × XE):=a.flatMap fun x=>b.map fun y=>(joinT x.1 y.1,mulX y.2 x.2)
theorem pairX_seq (b:List L2):∀ a:List L2,pairX a b=seqX (pairsY a b)
 | []=>rfl
 | x::a=>by
  have h:=pairX_seq b a
  have h2:=scale_seq x.1 x.2 b
  show pairX (x::a) b=seqX ((b.map fun y=>(joinT x.1 y.1,mulX y.2 x.2))++pairsY a b)
  rw [seqX_append,← h2,← h]
  simp only [pairX]
  cases scaleX b x.2 with
  | error n=>rfl
  | ok m=>cases pairX a b<;>rfl
def aOf (a:List L2) (i:Nat):L2:=(a[i]?).getD (⟨#[]⟩,⟨#[]⟩)
theorem aOf_eq {a:List L2} {i:Nat} {x:L2} (h:a[i]?=some x):aOf a i=x:=by unfold aOf;rw [h];rfl
def pairT (a b:List L2) (t:Nat):ByteArray × XE:=(joinT (aOf a (t / b.length)).1 (aOf b (t % b.length)).1,mulX (aOf b (t % b.length)).2 (aOf a (t / b.length)).2)
theorem pairsY_length (b:List L2):∀ a:List L2,(pairsY a b).length=a.length*b.length
 | []=>by simp [pairsY]
 | x::a=>by
  have h:=pairsY_length b a
  show ((b.map _)++pairsY a b).length=_
  rw [List.length_append,List.length_map,h,List.length_cons,Nat.succ_mul,Nat.add_comm]
theorem pairsY_at {b:List L2}:∀ {a:List L2} {t:Nat},t < a.length*b.length→(pairsY a b)[t]?=some (pairT a b t)
 | [],t,h=>by simp at h
 | x::a,t,h=>by
  have hb:0 < b.length:=by
   rcases Nat.eq_zero_or_pos b.length with h0|h0
   ·rw [h0,Nat.mul_zero] at h;omega
   ·exact h0
  show ((b.map fun y=>(joinT x.1 y.1,mulX y.2 x.2))++pairsY a b)[t]?=_
  rcases Nat.lt_or_ge t b.length with h1|h1
  ·rw [List.getElem?_append_left (by rw [List.length_map];exact h1),List.getElem?_map,List.getElem?_eq_getElem h1]
   unfold pairT
   rw [Nat.div_eq_of_lt h1,Nat.mod_eq_of_lt h1,aOf_eq (x:=x) rfl,aOf_eq (List.getElem?_eq_getElem h1)]
   rfl
  ·rw [List.getElem?_append_right (by rw [List.length_map];exact h1),List.length_map]
   have h2:t - b.length < a.length*b.length:=by
    rw [List.length_cons,Nat.succ_mul] at h;omega
   rw [pairsY_at h2]
   unfold pairT
   have e1:t / b.length=(t - b.length) / b.length+1:=by
    rw [← Nat.sub_add_cancel h1,Nat.add_div_right _ hb,Nat.sub_add_cancel h1]
   have e2:t % b.length=(t - b.length) % b.length:=(Nat.mod_eq_sub_mod h1)
   rw [e1,← e2]
   rfl
theorem div_row {i j m:Nat} (h:j < m):(i*m+j) / m=i∧(i*m+j) % m=j:=by
 have hm:0 < m:=by omega
 constructor
 ·rw [Nat.mul_comm,Nat.mul_add_div hm,Nat.div_eq_of_lt h,Nat.add_zero]
 ·rw [Nat.mul_comm,Nat.mul_add_mod,Nat.mod_eq_of_lt h]
abbrev PZ:=Nat × Nat
def encP (a b:List L2) (z:PZ):Array Value:=#[.agg #[.string (pairT a b z.1).1,.string (txtX (pairT a b z.1).2)],.int .i64 (errX (pairT a b z.1).2:Int)]
def NotRow (bA g:Nat) (W:World):Prop:=∀ v,W.cell? ⟨bA,0,none⟩=some v→v.ownBlock≠some g
structure BoxX (a b:List L2) (bA:Nat) (z:PZ) (W:World):Prop where
 blk:Blk W z.2 30 #[.string (aOf a (z.1 / b.length)).1,.string (aOf a (z.1 / b.length)).2]
 nr:NotRow bA z.2 W
structure GP (a b:List L2) (va vb:Value) (ga gb bA:Nat) (pre:List PZ) (W:World):Prop where
 ba:Blk W ga 31 #[va]
 bb:Blk W gb 31 #[vb]
 ra:LRow W va a
 rb:LRow W vb b
 res:Res W
 box:∃ v,Blk W bA 22 #[v]∧∀ r,v.ownBlock=some r→r < W.heap.size
 last:∀ z,pre.getLast?=some z→BoxX a b bA z W
def NextP (a b:List L2) (bA:Nat) (pre:List PZ) (z:PZ) (W:World):Prop:=pre.map (·.1)=List.range z.1∧z.1 < a.length*b.length∧BoxX a b bA z W
theorem NotRow.later {bA g:Nat} {W W':World} (h:NotRow bA g W) (hb:Below W.heap.size W W') (hlt:bA < W.heap.size):NotRow bA g W':=fun v hv=>h v (by rw [← hb.cell (p:=⟨bA,0,none⟩) hlt];exact hv)
theorem pairs_seq (a b:List L2) (va vb:Value) (ga gb bA:Nat) (hsa:Short a) (hsb:Short b) :
  RP.SeqOrd Fence.wide 5 Tryz.prog 195 #[.pointer (some ⟨ga,0,none⟩),.pointer (some ⟨gb,0,none⟩)] (encP a b) (NextP a b bA) (fun xs=>xs.map (·.1)=List.range (a.length*b.length)) (GP a b va vb ga gb bA):=by
 intro l J Jx W hG hA _ hY h0
 have g0:=hG _ _ h0
 obtain ⟨Aa,ca,rfl,hla,_⟩:=id g0.ra
 obtain ⟨Ab,cb,rfl,hlb,_⟩:=id g0.rb
 refine callsIn_of_wp Tryz.func195 rfl trivial ?_ rfl
 simp only [Tryz.ntmps195,List.size_toArray,List.length_cons,List.length_nil,Nat.reduceAdd,Nat.reduceSub,Array.replicate_succ,Array.replicate_zero,List.push_toArray,List.append_toArray,List.nil_append,List.cons_append]
 have b0:=cell0 g0.ba
 have HG:=Lib.hid hG
 have HY:=Lib.hid hY
 have HA:=Lib.hid (show ∀ pre W1 W2,J pre W1→Below W1.heap.size W1 W2→J pre W2 from fun pre W1 W2 hj hb=>hA pre W1 W2 none hj (grown_none' hb none) (fun r e=>by cases e))
 have HSA:=Lib.hid hsa
 have HSB:=Lib.hid hsb
 clear hG hY hA g0 hsa hsb
 gi_wp2
 gi_loopw [12] (fun v12 wr=>∃ (i:Nat) (pre:List PZ),i≤a.length∧v12=.int .i64 (i:Int)∧Hid (pre.map (·.1)=List.range (i*b.length))∧Hid (J pre wr)) (fun v12 _=>a.length - (intOf v12).toNat)
 case atStart=>exact ⟨0,[],Nat.zero_le _,rfl,Lib.hid (by rw [Nat.zero_mul];rfl),Lib.hid h0⟩
 case round =>
  clear b0 h0
  obtain ⟨i,pre,hi,rfl,HP,HJ⟩:=hrel
  obtain ⟨wo,rfl⟩:∃ wo,wo=wr:=⟨_,rfl⟩
  by_cases hlt:i < a.length
  ·obtain ⟨x,hx⟩:∃ x,a[i]?=some x:=⟨_,List.getElem?_eq_getElem hlt⟩
   have hlt':(i:Int) < (a.length:Int):=by omega
   have G0:=HG.out _ _ HJ.out
   obtain ⟨b1,o1,c1,e1,hb1,q0,q1⟩:=G0.ra.at (Below.refl _ _) hx
   simp only [Value.slice.injEq,true_and] at e1
   obtain ⟨rfl,rfl⟩:=e1
   have HXI:=Lib.hid hx
   have HSX:=Lib.hid (HSA.out x (List.mem_of_getElem? hx))
   have HLT:=Lib.hid (And.intro hlt hlt')
   obtain ⟨f,d⟩:=x
   dsimp only at q0 q1 HSX
   have BX:=Lib.hid (Blk.new wo 30 #[.string f,.string d])
   have HJ1:=Lib.hid (HA.out _ _ _ HJ.out (below_alloc (Below.refl wo.heap.size wo) (.cells #[.string f,.string d] 30)))
   have NR:=Lib.hid (show NotRow bA wo.heap.size (wo.alloc (.cells #[.string f,.string d] 30)) by
    obtain ⟨v,hv,hr⟩:=G0.box
    refine NotRow.later (W:=wo) (fun u hu e=>?_) (below_alloc (Below.refl _ _) _) hv.lt
    rw [cell0 hv] at hu
    cases hu
    have:=hr _ e
    omega)
   have bb1:=cell0 (G0.bb.alloc (.cells #[.string f,.string d] 30))
   have ROW:=Lib.hid (show List.range ((i+1)*b.length)=List.range (i*b.length+b.length) by rw [Nat.succ_mul])
   clear hx hlt G0
   gi_wp2
   gi_loopw [18] (fun v18 wq=>∃ (j:Nat) (pre:List PZ),j≤b.length∧v18=.int .i64 (j:Int)∧Hid (pre.map (·.1)=List.range (i*b.length+j))∧Hid (J pre wq)∧Hid (Blk wq wo.heap.size 30 #[.string f,.string d])∧Hid (NotRow bA wo.heap.size wq)) (fun v18 _=>b.length - (intOf v18).toNat)
   case atStart=>exact ⟨0,pre,Nat.zero_le _,rfl,HP,HJ1,BX,NR⟩
   case round =>
    clear q0 q1 hb1 bb1 BX NR HJ1 HJ HP
    obtain ⟨j,pre,hj,rfl,HP,HJ,BX,NR⟩:=hrel
    by_cases hj2:j < b.length
    ·obtain ⟨y,hy⟩:∃ y,b[j]?=some y:=⟨_,List.getElem?_eq_getElem hj2⟩
     have hj3:(j:Int) < (b.length:Int):=by omega
     have G0:=HG.out _ _ HJ.out
     obtain ⟨b2,o2,c2,e2,hb2,p0,p1⟩:=G0.rb.at (Below.refl _ _) hy
     simp only [Value.slice.injEq,true_and] at e2
     obtain ⟨rfl,rfl⟩:=e2
     have HYI:=Lib.hid hy
     have HSY:=Lib.hid (HSB.out y (List.mem_of_getElem? hy))
     have HJL:=Lib.hid (And.intro hj2 hj3)
     obtain ⟨f2,d2⟩:=y
     dsimp only at p0 p1 HSY
     have hal:=below_alloc (Below.refl wr.heap.size wr) (.cells #[.string f2,.string d2] 30)
     obtain ⟨bx0,bx1⟩:=cells2 (BX.out.alloc (.cells #[.string f2,.string d2] 30))
     have bxl:=(BX.out.alloc (.cells #[.string f2,.string d2] 30)).lt
     have HJ1:=Lib.hid (HA.out _ _ _ HJ.out hal)
     have BX1:=Lib.hid (BX.out.alloc (.cells #[.string f2,.string d2] 30))
     have BY1:=Lib.hid (Blk.new wr 30 #[.string f2,.string d2])
     have NR1:=Lib.hid (NR.out.later hal (by obtain ⟨v,hv,_⟩:=G0.box;exact hv.lt))
     have HBA:=Lib.hid (show bA < (wr.alloc (.cells #[.string f2,.string d2] 30)).heap.size by obtain ⟨v,hv,_⟩:=G0.box;exact (hv.alloc _).lt)
     have HR1:=Lib.hid (G0.res.below hal)
     have HMU:=Lib.hid (retMulX HSY.out.2 HSX.out.2)
     rw [resX_te] at HMU
     obtain ⟨ed,em⟩:=div_row (i:=i) hj2
     have EP:=Lib.hid (show encP a b (i*b.length+j,wo.heap.size)=#[.agg #[.string (joinT f f2),.string (txtX (mulX d2 d))],.int .i64 (errX (mulX d2 d):Int)] by
      unfold encP pairT
      dsimp only
      rw [ed,em,aOf_eq HXI.out,aOf_eq HYI.out])
     have NX:=Lib.hid (show ∀ W:World,Blk W wo.heap.size 30 #[.string f,.string d]→NotRow bA wo.heap.size W→NextP a b bA pre (i*b.length+j,wo.heap.size) W from fun W h1 h2=>by
      refine ⟨HP.out,?_,?_,h2⟩
      ·show i*b.length+j < a.length*b.length
       have h3:=Nat.mul_le_mul_right b.length (show i+1≤a.length from HLT.out.1)
       rw [Nat.succ_mul] at h3
       have:=HJL.out.1
       omega
      ·show Blk W wo.heap.size _ #[.string (aOf a ((i*b.length+j) / b.length)).1,.string (aOf a ((i*b.length+j) / b.length)).2]
       rw [ed,aOf_eq HXI.out]
       exact h1)
     have LB:=Lib.hid (show ∀ W,J (pre++[(i*b.length+j,wo.heap.size)]) W→Blk W wo.heap.size 30 #[.string f,.string d]∧NotRow bA wo.heap.size W from fun W hj=>by
      have h2:=(HG.out _ _ hj).last (i*b.length+j,wo.heap.size) (by simp)
      have h3:=h2.blk
      dsimp only at h3
      rw [ed,aOf_eq HXI.out] at h3
      exact ⟨h3,h2.nr⟩)
     have HP1:=Lib.hid (show (pre++[(i*b.length+j,wo.heap.size)]).map (·.1)=List.range (i*b.length+(j+1)) by rw [List.map_append,HP.out,← Nat.add_assoc,List.range_succ];rfl)
     have EK:(f++⟨#[124]⟩++f2)=joinT f f2:=rfl
     have s1:¬ 9223372036854775807 < f.size+1:=by have:=HSX.out.1;omega
     have s2:¬ 9223372036854775807 < f.size+1+f2.size:=by have:=HSX.out.1;have:=HSY.out.1;omega
     generalize txtX (mulX d2 d)=tp at *
     generalize errX (mulX d2 d)=te at *
     clear ed em hy hj2 G0 hal
     have TK0:True:=trivial
     gi_wp2_with (clear TK0;refine ⟨trivial,?_⟩;gi_at_call 130;refine (callsIn_wide.2 (HMU.out _ HR1.out)).mono ?_;rintro e w3 ⟨rfl,hb⟩;obtain ⟨bx2,bx3⟩:=cells2 (BX1.out.below hb BX1.out.lt);have bxl2:=(BX1.out.below hb BX1.out.lt).lt;obtain ⟨by2,by3⟩:=cells2 (BY1.out.below hb BY1.out.lt);have byl2:=(BY1.out.below hb BY1.out.lt).lt;have HYY:=HY.out pre (i*b.length+j,wo.heap.size) w3 (HA.out _ _ _ HJ1.out hb) (NX.out w3 (BX1.out.below hb BX1.out.lt) (NR1.out.later hb HBA.out));rw [EP.out] at HYY;obtain ⟨fn,tmps,assign,body,hy,hR⟩:=HYY;clear hb)
     refine hR.mono ?_
     rintro e W3 (⟨rfl,hJ3⟩|⟨rfl,hJx3⟩)
     ·have LB3:=Lib.hid (LB.out _ hJ3)
      have HJ3:=Lib.hid hJ3
      clear hJ3
      gi_wp2
      go_roundw
      case rel=>exact ⟨j+1,_,HJL.out.1,by go_num,HP1,HJ3,Lib.hid LB3.out.1,Lib.hid LB3.out.2⟩
      case measure=>have:=HJL.out.1;simp [intOf];omega
     ·gi_wp2
      refine bodyPost_ret (results_none rfl _ _ _) rfl ?_
      exact ⟨⟨_,rfl⟩,.inr ⟨_,_,hJx3⟩⟩
    ·have hj3:¬ (j:Int) < (b.length:Int):=by omega
     obtain rfl:j=b.length:=by omega
     clear hj2
     gi_wp2
     go_roundw
     case rel=>exact ⟨i+1,pre,HLT.out.1,by go_num,Lib.hid (by rw [ROW.out];exact HP.out),HJ⟩
     case measure=>have:=HLT.out.1;simp [intOf];omega
  ·have hlt':¬ (i:Int) < (a.length:Int):=by omega
   obtain rfl:i=a.length:=by omega
   clear hlt
   gi_wp2
   go_end0
   exact ⟨⟨_,rfl⟩,.inl ⟨_,HP.out,HJ.out⟩⟩
theorem pairs_in (va vb:Value) (w:World) (hva:∃ A n c,va=.slice A n c) (hvb:∃ A n c,vb=.slice A n c) :
  CallsIn Fence.wide 5 Tryz.prog 113 #[va,vb] w fun e w'=>e=.returned (.func (.func 195) #[] #[.pointer (some ⟨w.heap.size,0,none⟩),.pointer (some ⟨w.heap.size+1,0,none⟩)]) ∧
   w'=(w.alloc (.cells #[va] 31)).alloc (.cells #[vb] 31):=by
 obtain ⟨A,n,c,rfl⟩:=hva
 obtain ⟨A',n',c',rfl⟩:=hvb
 refine callsIn_of_wp Tryz.func113 rfl trivial ?_ rfl
 simp only [Tryz.ntmps113,List.size_toArray,List.length_cons,List.length_nil,Nat.reduceAdd,Nat.reduceSub,Array.replicate_succ,Array.replicate_zero,List.push_toArray,List.append_toArray,List.nil_append,List.cons_append]
 gi_wp2
 go_ret
 exact ⟨rfl,rfl⟩
theorem eg_pairs:∀ args w,(callFunc 195 args).run Tryz.prog w=.ok (.enter 195 args) w:=enters_of Tryz.func195 (by kernel_rfl) rfl
end Go.Proofs.YtigapglmipmbeaaGreatDoor
namespace Go.Proofs.YtigapglmipmbeaaGreatDoor
open Go.RowKit Go.Shelf
open Lim
abbrev CT:=Nat→ByteArray
def cvA (c:CT):Array Value:=#[.string (c 0),.string (c 1),.string (c 2),.string (c 3),.string (c 4),.string (c 5),.string (c 6),.string (c 7)]
def upd (c:CT) (k:Nat) (x:ByteArray):CT:=fun j=>if j=k then x else c j
theorem cvA_set (c:CT) {k:Nat} (hk:k < 8) (x:ByteArray):(cvA c).setIfInBounds k (.string x)=cvA (upd c k x):=by
 match k,hk with
 | 0,_=>rfl
 | 1,_=>rfl
 | 2,_=>rfl
 | 3,_=>rfl
 | 4,_=>rfl
 | 5,_=>rfl
 | 6,_=>rfl
 | 7,_=>rfl
theorem cvA_get (c:CT) {k:Nat} (hk:k < 8):(cvA c)[k]?=some (.string (c k)):=by
 match k,hk with
 | 0,_=>rfl
 | 1,_=>rfl
 | 2,_=>rfl
 | 3,_=>rfl
 | 4,_=>rfl
 | 5,_=>rfl
 | 6,_=>rfl
 | 7,_=>rfl
theorem cvA_ext {c c':CT} (h:∀ k,k < 8→c k=c' k):cvA c=cvA c':=by
 unfold cvA
 rw [h 0 (by omega),h 1 (by omega),h 2 (by omega),h 3 (by omega),h 4 (by omega),h 5 (by omega),h 6 (by omega),h 7 (by omega)]
def CBlk (W:World) (g:Nat) (c:CT):Prop:=Blk W g 59 (cvA c)
section
variable {W W':World} {g:Nat} {c:CT}
theorem CBlk.lt (h:CBlk W g c):g < W.heap.size:=Blk.lt h
theorem CBlk.cell (h:CBlk W g c) {k:Nat} (hk:k < 8):W.cell? ⟨g,k,none⟩=some (.string (c k)):=by
 rw [Blk.cell h,cvA_get c hk]
theorem CBlk.frozen (h:CBlk W g c) (i:Nat):W.frozen? ⟨g,i,none⟩=false:=Blk.frozen h i
end
section
variable {a b:ByteArray} {p q:Rat} (w:World)
end
end Go.Proofs.YtigapglmipmbeaaGreatDoor
namespace Go.Proofs.YtigapglmipmbeaaGreatDoor
open Go.RowKit Go.Shelf
open Lim
attribute [local go_sem] Oper.semAt_some
def olds7 (c:CT):List Value:=[.string (c 0),.string (c 1),.string (c 2),.string (c 3),.string (c 4),.string (c 5),.string (c 6)]
theorem cells_olds {W:World} {g:Nat} {c:CT} (h:CBlk W g c):∀ j u,(olds7 c)[j]?=some u→W.cell? ((⟨g,0,none⟩:Addr).add j)=some u:=by
 intro j u hj
 have hlt:j < 7:=(List.getElem?_eq_some_iff.1 hj).1
 have e:(⟨g,0,none⟩:Addr).add j=⟨g,j,none⟩:=by unfold Addr.add;split<;>simp_all
 rw [e,h.cell (by omega)]
 match j,hlt,hj with
 | 0,_,hj=>exact hj
 | 1,_,hj=>exact hj
 | 2,_,hj=>exact hj
 | 3,_,hj=>exact hj
 | 4,_,hj=>exact hj
 | 5,_,hj=>exact hj
 | 6,_,hj=>exact hj
def RowT (W:World) (g:Nat) (c:CT):Prop:=∀ k,k < 8→W.cell? ⟨g,k,none⟩=some (.string (c k))
theorem rowT_of {W:World} {base e g cap:Nat} {c:CT} (h:W.ownsRow base e 1 (.slice (some ⟨g,0,none⟩) (7+1) cap) (7+1) (olds7 c++[.string (c 7)])):RowT W g c:=by
 intro k hk
 have h2:=h.cells (g:=g) rfl k (.string (c k)) (by
  match k,hk with
  | 0,_=>rfl
  | 1,_=>rfl
  | 2,_=>rfl
  | 3,_=>rfl
  | 4,_=>rfl
  | 5,_=>rfl
  | 6,_=>rfl
  | 7,_=>rfl)
 rwa [show (⟨g,0,none⟩:Addr).add k=⟨g,k,none⟩ by unfold Addr.add;split<;>simp_all] at h2
theorem eight (c:CT) {k:Nat} (hk:k < 8):[c 0,c 1,c 2,c 3,c 4,c 5,c 6,c 7][k]?=some (c k):=by
 match k,hk with
 | 0,_=>rfl
 | 1,_=>rfl
 | 2,_=>rfl
 | 3,_=>rfl
 | 4,_=>rfl
 | 5,_=>rfl
 | 6,_=>rfl
 | 7,_=>rfl
theorem leavesM_nil {F:Fence} {n:Nat} {P:Program} {fn:Func} {tmps:Array Value} {R:Ending→World→Prop} {w:World} (h:∃ v,(results fn tmps).run P w=.ok v w∧R (.returned v) w):bodyPostM F n P fn R .ret { tmps:=tmps,defers:=[] } w:=by
 obtain ⟨v,hr,hR⟩:=h
 exact ⟨v,hr,hR⟩
def listP (a b:List L2) (pre:List PZ):List L2:=pre.map fun z=>((pairT a b z.1).1,txtX (pairT a b z.1).2)
theorem Blk.turn {B g:Nat} {W W':World} {t:TypeId} {cs:Array Value} (h:Blk W g t cs) (ht:Turn B W W'):Blk W' g t cs:=by
 obtain ⟨r,o,o',hr,ho,hc,rfl⟩:=ht
 exact Blk.grown h (grownBy_putObj' W r o') (fun e=>by
  cases e
  rw [show W.heap[g]?=_ from h] at ho
  cases ho
  cases hc)
theorem NotRow.turn {B bA g:Nat} {W W':World} {t:TypeId} {v:Value} (h:NotRow bA g W) (hb:Blk W bA t #[v]) (ht:Turn B W W'):NotRow bA g W':=fun u hu=>by
 have h2:=cell0 (hb.turn ht)
 rw [h2] at hu
 cases hu
 exact h _ (cell0 hb)
theorem BoxX.turn {a b:List L2} {B bA:Nat} {z:PZ} {W W':World} {t:TypeId} {v:Value} (h:BoxX a b bA z W) (hb:Blk W bA t #[v]) (ht:Turn B W W'):BoxX a b bA z W':=⟨h.blk.turn ht,h.nr.turn hb ht⟩
theorem BoxX.later {a b:List L2} {bA:Nat} {z:PZ} {W W':World} (h:BoxX a b bA z W) (hlt:bA < W.heap.size) (hb:Below W.heap.size W W'):BoxX a b bA z W':=⟨h.blk.below hb h.blk.lt,h.nr.later hb hlt⟩
theorem blk_ty {W:World} {g:Nat} {T T':TypeId} {cs cs':Array Value} (h:Blk W g T cs) (h':Blk W g T' cs'):T=T':=by
 have e:some (Obj.cells cs T (0,0))=some (Obj.cells cs' T' (0,0)):=(show W.heap[g]?=_ from h).symm.trans h'
 simp only [Option.some.injEq,Obj.cells.injEq] at e
 exact e.2.1
theorem blk_ne {W:World} {g D:Nat} {T:TypeId} {cs:Array Value} {o:Obj} (h:Blk W g T cs) (hD:W.heap[D]?=some o) (hc:o.isCells=false):g≠D:=fun e=>by
 subst e
 rw [show W.heap[g]?=_ from h] at hD
 cases hD
 cases hc
theorem load_dist {W:World} {g:Nat} {v:Value} {A:Option Addr} {n c:Nat} (hv:v=.slice A n c) (h:Blk W g 31 #[v]):(loadVar 31 ⟨g,0,none⟩).run Tryz.prog W=.ok v W:=by
 subst hv
 have hc:=cell0 h
 simp [go_sem,hc]
structure PAt (w:World) (W:World):Prop where
 r4:Blk W w.heap.size 31 #[.slice none 0 0]
 r5:Blk W (w.heap.size+1) 32 #[.int .i64 0]
 nw:NW w W
theorem PAt.new {w:World} (hr:Res w):PAt w ((w.alloc (.cells #[.slice none 0 0] 31)).alloc (.cells #[.int .i64 0] 32)):=by
 have k1:=Blk.new w 31 #[.slice none 0 0]
 have k2:=Blk.new (w.alloc (.cells #[.slice none 0 0] 31)) 32 #[.int .i64 0]
 rw [World.size_alloc] at k2
 exact ⟨k1.alloc _,k2,((NW.refl hr).alloc _).alloc _⟩
theorem PAt.later {w W W':World} (h:PAt w W) (hb:Below W.heap.size W W'):PAt w W':=⟨h.r4.below hb h.r4.lt,h.r5.below hb h.r5.lt,h.nw.later hb⟩
theorem PAt.turn {w W W':World} {B:Nat} (h:PAt w W) (hB:w.heap.size≤B) (hr:Res w) (ht:Turn B W W'):PAt w W':=by
 refine ⟨h.r4.turn ht,h.r5.turn ht,?_⟩
 obtain ⟨r,o,o',hr',ho,hc,rfl⟩:=ht
 exact grow_nw h.nw hr (grownBy_putObj' W r o') (fun k e=>by cases e;omega)
theorem PAt.set {w W:World} (h:PAt w W) (v:Value) (n:Int):Blk ((W.setCell ⟨w.heap.size,0,none⟩ v).setCell ⟨w.heap.size+1,0,none⟩ (.int .i64 n)) w.heap.size 31 #[v] ∧
  Blk ((W.setCell ⟨w.heap.size,0,none⟩ v).setCell ⟨w.heap.size+1,0,none⟩ (.int .i64 n)) (w.heap.size+1) 32 #[.int .i64 n]∧Below w.heap.size w ((W.setCell ⟨w.heap.size,0,none⟩ v).setCell ⟨w.heap.size+1,0,none⟩ (.int .i64 n)) :=
 ⟨(h.r4.set_ 0 v).far (by simp) _,(h.r5.far (by simp) _).set_ 0 _,(h.nw.below.setCell (p:=⟨w.heap.size,0,none⟩) (Nat.le_refl _) _).setCell (p:=⟨w.heap.size+1,0,none⟩) (Nat.le_succ _) _⟩
theorem slice_fact (A:Option Addr) (n c:Nat):∃ A' n' c',Value.slice A n c=.slice A' n' c':=⟨A,n,c,rfl⟩
theorem own_ne {base n size:Nat} {W:World} {E T:TypeId} {v:Value} {us:List Value} {g r:Nat} {cs:Array Value} (h:W.ownsRow base E size v n us) (hr:v.ownBlock=some r) (hg:Blk W g T cs) (hT:T≠E):g≠r:=fun e=>by
 subst e
 obtain ⟨c1,h1⟩:=own_cells (n:=n) h hr
 rw [show W.heap[g]?=_ from hg] at h1
 simp only [Option.some.injEq,Obj.cells.injEq] at h1
 exact hT h1.2.1
structure IP (w:World) (a b:List L2) (va vb:Value) (bA:Nat) (pre:List PZ) (W:World):Prop where
 ok:∀ z∈pre,∃ s,(pairT a b z.1).2=.ok s
 at_:PAt w W
 ba:Blk W (bA+1) 31 #[va]
 bb:Blk W (bA+1+1) 31 #[vb]
 box:∃ A c,Blk W bA 22 #[.slice A pre.length c]∧W.ownsRow w.heap.size 30 2 (.slice A pre.length c) pre.length (cellsM (listP a b pre))
 last:∀ z,pre.getLast?=some z→BoxX a b bA z W
 lo:w.heap.size+1 < bA
theorem IP.gp {w W:World} {a b:List L2} {va vb:Value} {bA:Nat} {pre:List PZ} (h:IP w a b va vb bA pre W) (ha:LRow w va a) (hb:LRow w vb b):GP a b va vb (bA+1) (bA+1+1) bA pre W:=by
 obtain ⟨A,c,h1,h2⟩:=h.box
 exact ⟨h.ba,h.bb,ha.below h.at_.nw.below,hb.below h.at_.nw.below,h.at_.nw.res,⟨_,h1,fun r e=>(h2.lt r e).2⟩,h.last⟩
theorem IP.later {w W W':World} {a b:List L2} {va vb:Value} {bA:Nat} {pre:List PZ} (h:IP w a b va vb bA pre W) (hb:Below W.heap.size W W'):IP w a b va vb bA pre W':=by
 obtain ⟨A,c,h1,h2⟩:=h.box
 exact ⟨h.ok,h.at_.later hb,h.ba.below hb h.ba.lt,h.bb.below hb h.bb.lt,⟨A,c,h1.below hb h1.lt,owns_later h2 hb⟩,fun z hz=>(h.last z hz).later h1.lt hb,h.lo⟩
theorem NotRow.own {bA g B:Nat} {W W':World} {t:TypeId} {v:Value} {row:Option Nat} (h:NotRow bA g W) (hb:Blk W bA t #[v]) (hg:W.grownBy W' row) (hr:∀ r,row=some r→B≤r∧∃ o:Obj,W.heap[r]?=some o∧o.isCells=false):NotRow bA g W':=fun u hu=>by
 have h2:=cell0 (Blk.own_ hb hg hr)
 rw [h2] at hu
 cases hu
 exact h _ (cell0 hb)
theorem IP.own {w:World} {a b:List L2} {va vb:Value} {bA B:Nat} (hB:w.heap.size≤B) (hr0:Res w):OwnFrom B (IP w a b va vb bA):=by
 rintro pre W W' row h hg hr
 obtain ⟨A,c,h1,h2⟩:=h.box
 refine ⟨h.ok,⟨Blk.own_ h.at_.r4 hg hr,Blk.own_ h.at_.r5 hg hr,grow_nw h.at_.nw hr0 hg (fun r e=>Nat.le_trans hB (hr r e).1)⟩,Blk.own_ h.ba hg hr,Blk.own_ h.bb hg hr,⟨A,c,Blk.own_ h1 hg hr,World.ownsRow.kept h2 hg ?_⟩,fun z hz=>⟨Blk.own_ (h.last z hz).blk hg hr,(h.last z hz).nr.own h1 hg hr⟩,h.lo⟩
 cases hv:(Value.slice A pre.length c).ownBlock with
 | none=>exact .inl rfl
 | some g =>
  refine .inr fun e=>?_
  obtain ⟨_,o,ho,hc⟩:=hr g e.symm
  obtain ⟨cu,hcu⟩:=own_cells (n:=pre.length) h2 hv
  rw [hcu] at ho
  cases ho
  cases hc
theorem IP.step {w Wb W1:World} {a b:List L2} {va vb v':Value} {bA:Nat} {pre:List PZ} {z:PZ} {A:Option Addr} {c:Nat} {s:ByteArray} (h:IP w a b va vb bA pre Wb) (hr:Res w) (hz:(pairT a b z.1).2=.ok s) (hx:BoxX a b bA z Wb)
  (h1:Blk Wb bA 22 #[.slice A pre.length c]) (h2:Wb.ownsRow w.heap.size 30 2 (.slice A pre.length c) pre.length (cellsM (listP a b pre)))
  (hown:W1.ownsRow w.heap.size 30 2 v' (pre.length+1) (cellsM (listP a b pre)++[.string (pairT a b z.1).1,.string s])) (hg:(Wb.alloc (.cells #[.string (pairT a b z.1).1,.string s] 30)).grownBy W1 (Value.slice A pre.length c).ownBlock)
  (hat:v'.ownBlock=(Value.slice A pre.length c).ownBlock∨v'.ownBlock=some (Wb.alloc (.cells #[.string (pairT a b z.1).1,.string s] 30)).heap.size) :
  IP w a b va vb bA (pre++[z]) (W1.setCell ⟨bA,0,none⟩ v'):=by
 have hal:=below_alloc (Below.refl Wb.heap.size Wb) (.cells #[.string (pairT a b z.1).1,.string s] 30)
 have I2:=h.later hal
 have h1a:=h1.below hal h1.lt
 have h2a:=owns_later h2 hal
 have hxa:=hx.later h1.lt hal
 have keep:∀ {g:Nat} {T:TypeId} {cs:Array Value},Blk (Wb.alloc (.cells #[.string (pairT a b z.1).1,.string s] 30)) g T cs→(T≠30∨(Value.slice A pre.length c).ownBlock≠some g)→Blk W1 g T cs:=fun hb ho=>Blk.grown hb hg (fun e=>by
  rcases ho with ho|ho
  ·exact own_ne h2a e.symm hb ho rfl
  ·exact ho e.symm)
 have hnr:(Value.slice A pre.length c).ownBlock≠some z.2:=hx.nr _ (cell0 h1)
 have hbx:=keep hxa.blk (.inr hnr)
 have hzA:z.2≠bA:=fun e=>by
  have h3:=hx.blk
  rw [e] at h3
  exact absurd (blk_ty h3 h1) (by decide)
 have hboxA:=keep h1a (.inl (by decide))
 have hnw:NW w W1:=grow_nw I2.at_.nw hr hg (fun r e=>(h2a.lt r e).1)
 have hv'A:v'.ownBlock=none∨v'.ownBlock≠some bA:=by
  cases hv:v'.ownBlock with
  | none=>exact .inl rfl
  | some r =>
   refine .inr fun e=>?_
   cases e
   exact own_ne hown hv hboxA (by decide) rfl
 have hset:=grownBy_setCell' W1 bA v'
 have hlen:(pre++[z]).length=pre.length+1:=by simp
 have hlist:cellsM (listP a b (pre++[z]))=cellsM (listP a b pre)++[.string (pairT a b z.1).1,.string s]:=by
  unfold listP
  rw [List.map_append,cellsM_append]
  show _++cellsM [((pairT a b z.1).1,txtX (pairT a b z.1).2)]=_
  rw [hz]
  rfl
 obtain ⟨A',c',rfl⟩:=slice_shape hown
 have lo:=h.lo
 refine ⟨fun y hy=>?_,⟨(keep I2.at_.r4 (.inl (by decide))).far (by simp;omega) _,(keep I2.at_.r5 (.inl (by decide))).far (by simp;omega) _,grow_nw hnw hr hset (fun r e=>by cases e;omega)⟩,(keep I2.ba (.inl (by decide))).far (by simp) _,(keep I2.bb (.inl (by decide))).far (by simp;omega) _,⟨A',c',?_,?_⟩,fun y hy=>?_,lo⟩
 ·rcases List.mem_append.1 hy with hy|hy
  ·exact h.ok y hy
  ·rw [List.mem_singleton.1 hy];exact ⟨s,hz⟩
 ·rw [hlen];exact hboxA.set_ 0 _
 ·rw [hlen,hlist]
  exact World.ownsRow.kept hown hset (by
   cases hv:(Value.slice A' (pre.length+1) c').ownBlock with
   | none=>exact .inl rfl
   | some r=>rw [hv] at hv'A;exact .inr (fun e=>hv'A.resolve_left (by simp) e))
 ·obtain rfl:z=y:=by simpa using hy
  refine ⟨hbx.far (by simpa using hzA) _,fun u hu=>?_⟩
  rw [cell0 (hboxA.set_ 0 (.slice A' (pre.length+1) c'))] at hu
  cases hu
  intro e
  rcases hat with h3|h3
  ·rw [h3] at e;exact hnr e
  ·rw [h3] at e
   have e2:=Option.some.inj e
   have:=hxa.blk.lt
   omega
def IxP (w:World) (a b:List L2) (cd:Code) (_:List PZ) (W:World):Prop:=cd=.ret∧∃ n:Nat,pairX a b=.error n∧Blk W w.heap.size 31 #[.slice none 0 0]∧Blk W (w.heap.size+1) 32 #[.int .i64 (n:Int)]∧Below w.heap.size w W
theorem pair_err {a b:List L2} {pre:List PZ} {z:PZ} {n:Nat} (h:pre.map (·.1)=List.range z.1) (hlt:z.1 < a.length*b.length) (hok:∀ y∈pre,∃ s,(pairT a b y.1).2=.ok s) (hz:(pairT a b z.1).2=.error n):pairX a b=.error n:=by
 rw [pairX_seq]
 refine seqX_err (t:=z.1) (pairsY_at hlt) (fun j y hj hy=>?_) hz
 have hm:j∈pre.map (·.1):=by rw [h];exact List.mem_range.2 hj
 obtain ⟨u,hu,e⟩:=List.mem_map.1 hm
 rw [pairsY_at (by omega)] at hy
 cases hy
 obtain ⟨s,hs⟩:=hok u hu
 exact ⟨s,by rw [← e];exact hs⟩
theorem pair_done {a b:List L2} {xs:List PZ} (h:xs.map (·.1)=List.range (a.length*b.length)) (hok:∀ y∈xs,∃ s,(pairT a b y.1).2=.ok s):pairX a b=.ok (listP a b xs):=by
 have hall:∀ t,t < a.length*b.length→∃ s,(pairT a b t).2=.ok s:=fun t ht=>by
  have hm:t∈xs.map (·.1):=by rw [h];exact List.mem_range.2 ht
  obtain ⟨u,hu,e⟩:=List.mem_map.1 hm
  rw [← e]
  exact hok u hu
 have e1:pairsY a b=(List.range (a.length*b.length)).map (pairT a b):=by
  refine List.ext_getElem? fun t=>?_
  rw [List.getElem?_map]
  rcases Nat.lt_or_ge t (a.length*b.length) with ht|ht
  ·rw [pairsY_at ht,List.getElem?_range ht];rfl
  ·rw [List.getElem?_eq_none (by rw [pairsY_length];exact ht),List.getElem?_eq_none (by rw [List.length_range];exact ht)];rfl
 rw [pairX_seq,seqX_ok (fun x hx=>by
  rw [e1] at hx
  obtain ⟨t,ht,rfl⟩:=List.mem_map.1 hx
  obtain ⟨s,hs⟩:=hall t (List.mem_range.1 ht)
  exact ⟨by rw [hs];rfl,s,hs⟩),e1,← h,List.map_map,List.map_map]
 rfl
theorem seqX_mem:∀ {l:List (ByteArray × XE)} {m:List L2},seqX l=.ok m→∀ x∈m,∃ y∈l,x.1=y.1∧y.2=.ok x.2
 | [],m,h,x,hx=>by cases h;cases hx
 | a::l,m,h,x,hx=>by
  unfold seqX at h
  split at h
  ·cases h
  ·rename_i p hp
   split at h
   ·cases h
   ·rename_i r hr
    cases h
    rcases List.mem_cons.1 hx with rfl|hx
    ·exact ⟨a,by simp,rfl,hp⟩
    ·obtain ⟨y,hy,e⟩:=seqX_mem hr x hx
     exact ⟨y,by simp [hy],e⟩
theorem pairX_short {a b l:List L2} (h:pairX a b=.ok l) (ka:∀ x∈a,x.1.size≤100000) (kb:∀ x∈b,x.1.size≤100000):Short l:=fun x hx=>by
 rw [pairX_seq] at h
 obtain ⟨y,hy,e1,e2⟩:=seqX_mem h x hx
 unfold pairsY at hy
 obtain ⟨u,hu,hy⟩:=List.mem_flatMap.1 hy
 obtain ⟨v,hv,rfl⟩:=List.mem_map.1 hy
 have h1:=ka u hu
 have h2:=kb v hv
 refine ⟨?_,size_ok (mulX_ok e2)⟩
 rw [e1]
 show (joinT u.1 v.1).size≤_
 unfold joinT
 rw [ByteArray.size_append,ByteArray.size_append]
 have:(⟨#[124]⟩:ByteArray).size=1:=rfl
 omega
theorem dprod_any (a b:List L2) (va vb:Value) (w:World) (ha:LRow w va a) (hb:LRow w vb b) (sa:Short a) (sb:Short b) (ka:∀ x∈a,x.1.size≤100000) (kb:∀ x∈b,x.1.size≤100000) (hl:a.length*b.length≤1000) (hr:Res w) :
  Calls Tryz.prog 27 #[va,vb] w fun e w'=>ResM w.heap.size (prodX a b) e w'∧Below w.heap.size w w':=by
 have P0:=Lib.hid (PAt.new hr)
 have HCK:=Lib.hid (fun (W:World) (hW:NW w W)=>dchecked_any a b va vb W.heap.size (W.alloc (.cells #[va,vb] 31)) (Blk.new W 31 #[va,vb]) (ha.below (below_alloc hW.below _)) (hb.below (below_alloc hW.below _)) sa sb (hW.alloc _).res)
 obtain ⟨A0,c0,rfl,hla,_⟩:=id ha
 obtain ⟨A1,c1,rfl,hlb,_⟩:=id hb
 have HA:=Lib.hid ha
 have HB:=Lib.hid hb
 have SA:=Lib.hid sa
 have SB:=Lib.hid sb
 have KA:=Lib.hid ka
 have KB:=Lib.hid kb
 have HR:=Lib.hid hr
 obtain ⟨i0,hif,hz0,hz1,hz2⟩:=info_parts infoM
 clear ha hb sa sb ka kb hr
 by_cases hc:chk2 a b=0
 ·have HM:=Lib.hid (show prodX a b=(match pairX a b with|.error n=>.error n|.ok l=>makeX l) by unfold prodX;rw [if_neg (by simpa using hc),if_neg (by omega)];rfl)
  rw [hc] at HCK
  change Hid (∀ W (_:NW w W),Calls _ _ _ _ fun e w'=>e=.returned (.int .i64 0)∧_) at HCK
  have hml:(a.length:Int)*(b.length:Int)≤1000:=by exact_mod_cast hl
  have hm0:(0:Int)≤(a.length:Int)*(b.length:Int):=by exact_mod_cast Nat.zero_le _
  have hd0:decide (4096 < (a.length:Int)*(b.length:Int))=false:=decide_eq_false (by omega)
  have HL:=Lib.hid hl
  clear hc hl
  refine (callsIn_wide (n:=6)).1 ?_
  have h1:1≤6:=by omega
  refine callsIn_of_wp_marks Tryz.func27 rfl trivial ?_ rfl
  simp only [Tryz.ntmps27,List.size_toArray,List.length_cons,List.length_nil,Nat.reduceAdd,Nat.reduceSub,Array.replicate_succ,Array.replicate_zero,List.push_toArray,List.append_toArray,List.nil_append,List.cons_append]
  have TK0:True:=trivial
  gi_upto_region 1 with fail
  generalize (w.alloc (.cells #[.slice none 0 0] 31)).alloc (.cells #[.int .i64 0] 32)=W0 at *
  have P2:=Lib.hid (P0.out.later (below_alloc (Below.refl _ _) (.cells #[.slice A0 a.length c0,.slice A1 b.length c1] 31)))
  gi_wp2_with (first
   | (clear TK0;refine ⟨trivial,?_⟩;gi_at_call 112;refine (callsIn_wide.2 (HCK.out _ P0.out.nw)).mono ?_;rintro e w1 ⟨rfl,hb⟩;have P1:=Lib.hid (P2.out.later hb);clear hb)
   | (refine ⟨trivial,?_⟩;gi_at_call 113;refine (pairs_in _ _ _ (slice_fact _ _ _) (slice_fact _ _ _)).mono ?_;rintro e w' ⟨rfl,rfl⟩))
  have I0:IP w a b (.slice A0 a.length c0) (.slice A1 b.length c1) w1.heap.size [] (((w1.alloc (.cells #[.slice none 0 0] 22)).alloc (.cells #[.slice A0 a.length c0] 31)).alloc (.cells #[.slice A1 b.length c1] 31)):=by
   have k1:=Blk.new w1 22 #[.slice none 0 0]
   have k2:=Blk.new (w1.alloc (.cells #[.slice none 0 0] 22)) 31 #[.slice A0 a.length c0]
   have k3:=Blk.new ((w1.alloc (.cells #[.slice none 0 0] 22)).alloc (.cells #[.slice A0 a.length c0] 31)) 31 #[.slice A1 b.length c1]
   simp only [World.size_alloc] at k2 k3
   exact ⟨fun z h=>by (cases h),P1.out.later (below_alloc (below_alloc (below_alloc (Below.refl _ _) _) _) _),k2.alloc _,k3,⟨none,0,(k1.alloc _).alloc _,World.ownsRow_nil _ _ _ _⟩,fun z h=>by (cases h),P1.out.r5.lt⟩
  have hwB:w.heap.size≤(((w1.alloc (.cells #[.slice none 0 0] 22)).alloc (.cells #[.slice A0 a.length c0] 31)).alloc (.cells #[.slice A1 b.length c1] 31)).heap.size:=I0.at_.nw.below.size
  generalize ((w1.alloc (.cells #[.slice none 0 0] 22)).alloc (.cells #[.slice A0 a.length c0] 31)).alloc (.cells #[.slice A1 b.length c1] 31)=WR at *
  generalize w1.heap.size=bA at *
  refine RP.wpIn_range_ord rfl h1 (gf:=195) (lb:=#[.pointer (some ⟨bA+1,0,none⟩),.pointer (some ⟨bA+1+1,0,none⟩)]) rfl trivial eg_pairs
   (pairs_seq a b (.slice A0 a.length c0) (.slice A1 b.length c1) (bA+1) (bA+1+1) bA SA.out SB.out) (fun _=>rfl)
   (IP w a b (.slice A0 a.length c0) (.slice A1 b.length c1) bA) (IxP w a b) ?hG ?hI ?hIx I0 ?round ?done ?stop
  case hG=>exact fun pre W h=>h.gp HA.out HB.out
  case hI=>exact IP.own hwB HR.out
  case hIx =>
   rintro cd s W W' row ⟨q1,n,q2,q3,q4,q5⟩ hg hr
   exact ⟨q1,n,q2,Blk.own_ q3 hg hr,Blk.own_ q4 hg hr,below_own_ q5 (Nat.le_refl _) hwB hg hr⟩
  case round =>
   rintro l pre z W K hi hnx hK
   have he:encP a b z=#[.agg #[.string (pairT a b z.1).1,.string (txtX (pairT a b z.1).2)],.int .i64 (errX (pairT a b z.1).2:Int)]:=rfl
   rw [he]
   have HNX:=Lib.hid hnx
   have HI:=Lib.hid hi
   have hpl:pre.length≤1000:=by
    have h2:=congrArg List.length hnx.1
    rw [List.length_map,List.length_range] at h2
    have:=hnx.2.1
    have:=HL.out
    omega
   have HPL:=Lib.hid hpl
   have HBL:=Lib.hid (show bA < W.heap.size by obtain ⟨A,c,h2,_⟩:=hi.box;exact h2.lt)
   clear hnx hi he hpl
   cases hp:(pairT a b z.1).2 with
   | ok s =>
    have HP:=Lib.hid hp
    have e0:((errX (.ok s):Nat):Int)=0:=rfl
    rw [e0]
    simp only [txtX]
    obtain ⟨key,hkey⟩:∃ k,(pairT a b z.1).1=k:=⟨_,rfl⟩
    rw [hkey]
    have HKEY:=Lib.hid hkey
    clear hp hkey e0
    gi_wp2
    refine hK _ _ (KeepsOthers.alloc _ _) (HI.out.later (below_alloc (Below.refl _ _) _)) ?_
    clear hK
    intro Wb ht hib
    have BM:=(Blk.new W 30 #[.string key,.string s]).turn ht
    obtain ⟨Aw,cw,bw,_⟩:=(HI.out.later (below_alloc (Below.refl W.heap.size W) (.cells #[.string key,.string s] 30))).box
    have BXZ:=Lib.hid ((HNX.out.2.2.later HBL.out (below_alloc (Below.refl W.heap.size W) (.cells #[.string key,.string s] 30))).turn bw ht)
    obtain ⟨A9,c9,hb1,hb2⟩:=hib.box
    have HB1:=Lib.hid hb1
    have HB2:=Lib.hid hb2
    have HIB:=Lib.hid hib
    have x0:=cell0 hb1
    obtain ⟨m0,m1⟩:=cells2 BM
    have ml:=BM.lt
    have bl:=hb1.lt
    have HO6:=Lib.hid (owns_later hb2 (below_alloc (Below.refl Wb.heap.size Wb) (.cells #[.string key,.string s] 30)))
    have HBA:=Lib.hid (hb1.alloc (.cells #[.string key,.string s] 30))
    have hbs:w.heap.size≤(Wb.alloc (.cells #[.string key,.string s] 30)).heap.size:=by have:=hib.at_.nw.below.size;simp;omega
    clear hib hb1 hb2 BM bw ht
    gi_wp2_with (gi_at_builtin;go_loud (refine wpListIn_append_own_at _ rfl _ _ 22 rfl w.heap.size 30 i0 (.agg #[.string ByteArray.empty,.string ByteArray.empty]) 2 32 Tryz.underlying22 hif hz0 hz1 hz2 rfl (by decide) _ _ _ rfl HO6.out ⟨Wb.heap.size,0,none⟩ 1 1 [.string key,.string s] rfl rfl (cell_two_new _ _ _ _) (one_pairM (key,s)) (by have:=HPL.out;unfold maxLen;omega) (by have:=HPL.out;omega) hbs ?_;intro v' w7 hown7 hgrow7 _ hat7;have hb7:=Blk.grown HBA.out hgrow7 (fun e=>own_ne HO6.out e.symm HBA.out (by decide) rfl);have c7:=cell0 hb7;have f7:=hb7.frozen 0;have l7:=hb7.lt;obtain ⟨A5,c5,rfl⟩:=slice_shape hown7;have H7:=Lib.hid (And.intro hown7 (And.intro hgrow7 hat7));clear hown7 hgrow7 hat7 hb7))
    refine ⟨((KeepsOthers.alloc Wb _).trans (KeepsOthers.of_grownBy H7.out.2.1 (fun j o e ho=>?_))).trans (KeepsOthers.setCell _ _ _),IP.step (z:=z) HIB.out HR.out HP.out BXZ.out HB1.out HB2.out (by rw [HKEY.out];exact H7.out.1) (by rw [HKEY.out];exact H7.out.2.1) (by rw [HKEY.out];exact H7.out.2.2)⟩
    obtain ⟨cu,hcu⟩:=own_cells (n:=pre.length) HO6.out e
    rw [hcu] at ho
    cases ho
    rfl
   | error n =>
    have hn:n≠0:=exQ_err (show mulX (aOf b (z.1 % b.length)).2 (aOf a (z.1 / b.length)).2=.error n from hp)
    have HP:=Lib.hid hp
    have hz:=ne_zero hn
    have hz9:=ne_zero2 hn
    simp only [txtX,errX]
    generalize (pairT a b z.1).1=key
    clear hp hn
    gi_wp2
    refine hK _ _ (KeepsOthers.alloc _ _) (HI.out.later (below_alloc (Below.refl _ _) _)) ?_
    clear hK
    intro Wb ht hib
    have HIB:=Lib.hid hib
    have y0:=cell0 hib.at_.r4
    have y1:=cell0 hib.at_.r5
    have z0:=hib.at_.r4.frozen 0
    have z1:=hib.at_.r5.frozen 0
    clear hib ht
    gi_wp2
    obtain ⟨s1,s2,s3⟩:=HIB.out.at_.set (.slice none 0 0) (n:Int)
    exact ⟨(KeepsOthers.setCell _ _ _).trans (KeepsOthers.setCell _ _ _),rfl,n,pair_err HNX.out.1 HNX.out.2.1 HI.out.ok HP.out,s1,s2,s3⟩
  case done =>
   rintro D xs W hD hS hib hK
   have hpx:=pair_done hS hib.ok
   have hxl:xs.length≤1000:=by
    have h2:=congrArg List.length hS
    rw [List.length_map,List.length_range] at h2
    have:=HL.out
    omega
   obtain ⟨A9,c9,hb1,hb2⟩:=hib.box
   have hll:(listP a b xs).length=xs.length:=by unfold listP;rw [List.length_map]
   have hrow:LRow W (.slice A9 xs.length c9) (listP a b xs):=OwnM.row (base:=w.heap.size) (by unfold OwnM;rw [hll];exact hb2) (by rw [hll];exact hxl)
   have HMC:=Lib.hid (dmake_any (listP a b xs) _ W hrow (pairX_short hpx KA.out KB.out) hib.at_.nw.res)
   have HMR:=Lib.hid (show prodX a b=makeX (listP a b xs) by rw [HM.out,hpx])
   have HIB:=Lib.hid hib
   have HKD:=Lib.hid hK
   have x0:=cell0 hb1
   have hDl:D < W.heap.size:=by
    rcases Nat.lt_or_ge D W.heap.size with h|h
    ·exact h
    ·rw [Array.getElem?_eq_none h] at hK;cases hK
   have HWB:=Lib.hid hwB
   clear hib hK hb1 hb2 hrow hll hpx hS
   generalize makeX (listP a b xs)=mk at *
   cases mk with
   | error n =>
    change Hid (Calls _ _ _ _ fun e w'=>e=.returned (.tuple #[.slice none 0 0,.int .i64 (n:Int)])∧_) at HMC
    gi_wp2_with (refine ⟨trivial,?_⟩;gi_at_call 25;refine (callsIn_wide.2 HMC.out).mono ?_;rintro e w8 ⟨rfl,hb⟩;have P8:=Lib.hid (HIB.out.at_.later hb);have y0:=cell0 P8.out.r4;have y1:=cell0 P8.out.r5;have z0:=P8.out.r4.frozen 0;have z1:=P8.out.r5.frozen 0;have HK8:=Lib.hid ((hb.block D hDl).trans HKD.out);clear hb)
    obtain ⟨s1,s2,s3⟩:=P8.out.set (.slice none 0 0) (n:Int)
    have hK':=((KeepsOthers.setCell w8 ⟨w.heap.size,0,none⟩ (.slice none 0 0)).trans (KeepsOthers.setCell _ ⟨w.heap.size+1,0,none⟩ (.int .i64 (n:Int)))).same D _ HK8.out rfl
    refine ⟨by simp,.inl ⟨_,_,rfl,run_takeDeferred hK',?_⟩⟩
    have gD:∀ {g:Nat} {t:TypeId} {cs:Array Value},Blk ((w8.setCell ⟨w.heap.size,0,none⟩ (.slice none 0 0)).setCell ⟨w.heap.size+1,0,none⟩ (.int .i64 (n:Int))) g t cs→Blk _ g t cs:=fun hb=>hb.grown (grownBy_putObj' _ D (.deferred none)) (fun e=>blk_ne hb hK' rfl (Option.some.inj e))
    exact ⟨_,run_cell_errno rfl rfl (load_dist rfl (gD s1)) rfl (gD s2),by rw [HMR.out];exact rfl,s3.trans (belowK_b (w:=w) (Nat.le_refl _) _ D _ _ (Nat.le_trans HWB.out hD) hK' rfl rfl)⟩
   | ok d =>
    change Hid (Calls _ _ _ _ fun e w'=>(∃ u,e=.returned (.tuple #[u,.int .i64 0])∧OwnM _ w' u d)∧_) at HMC
    gi_wp2_with (refine ⟨trivial,?_⟩;gi_at_call 25;refine (callsIn_wide.2 HMC.out).mono ?_;rintro e w8 ⟨⟨u8,rfl,ho⟩,hb⟩;obtain ⟨A8,c8,rfl⟩:=ho.slice;have HO8:=Lib.hid ho;have P8:=Lib.hid (HIB.out.at_.later hb);have y0:=cell0 P8.out.r4;have y1:=cell0 P8.out.r5;have z0:=P8.out.r4.frozen 0;have z1:=P8.out.r5.frozen 0;have HK8:=Lib.hid ((hb.block D hDl).trans HKD.out);clear hb ho)
    obtain ⟨s1,s2,s3⟩:=P8.out.set (.slice A8 d.length c8) 0
    have hK':=((KeepsOthers.setCell w8 ⟨w.heap.size,0,none⟩ (.slice A8 d.length c8)).trans (KeepsOthers.setCell _ ⟨w.heap.size+1,0,none⟩ (.int .i64 0))).same D _ HK8.out rfl
    refine ⟨by simp,.inl ⟨_,_,rfl,run_takeDeferred hK',?_⟩⟩
    have gD:∀ {g:Nat} {t:TypeId} {cs:Array Value},Blk ((w8.setCell ⟨w.heap.size,0,none⟩ (.slice A8 d.length c8)).setCell ⟨w.heap.size+1,0,none⟩ (.int .i64 0)) g t cs→Blk _ g t cs:=fun hb=>hb.grown (grownBy_putObj' _ D (.deferred none)) (fun e=>blk_ne hb hK' rfl (Option.some.inj e))
    refine ⟨_,run_cell_errno rfl rfl (load_dist rfl (gD s1)) rfl (gD s2),?_,s3.trans (belowK_b (w:=w) (Nat.le_refl _) _ D _ _ (Nat.le_trans HWB.out hD) hK' rfl rfl)⟩
    rw [HMR.out]
    refine ⟨_,rfl,owns_base (base:=W.heap.size) ?_ HIB.out.at_.nw.below.size⟩
    have step:∀ {A B:World} {r:Nat},A.ownsRow W.heap.size 30 2 (.slice A8 d.length c8) d.length (cellsM d)→A.grownBy B (some r)→(∀ cu,A.heap[r]?≠some (.cells cu 30 (0,0)))→B.ownsRow W.heap.size 30 2 (.slice A8 d.length c8) d.length (cellsM d):=fun h hg hne=>World.ownsRow.kept h hg (by
     cases hv:(Value.slice A8 d.length c8).ownBlock with
     | none=>exact .inl rfl
     | some g =>
      refine .inr fun e=>?_
      cases e
      obtain ⟨cu,hcu⟩:=own_cells (n:=d.length) h hv
      exact hne cu hcu)
    refine step (step (step HO8.out (grownBy_setCell' w8 w.heap.size (.slice A8 d.length c8)) (fun cu e=>?_)) (grownBy_setCell' _ (w.heap.size+1) (.int .i64 0)) (fun cu e=>?_)) (grownBy_putObj' _ D (.deferred none)) (fun cu e=>?_)
    ·exact absurd (blk_ty (show Blk w8 w.heap.size 30 cu from e) P8.out.r4) (by decide)
    ·have h5:Blk (w8.setCell ⟨w.heap.size,0,none⟩ (.slice A8 d.length c8)) (w.heap.size+1) 32 #[.int .i64 0]:=P8.out.r5.far (by simp) _
     exact absurd (blk_ty (show Blk _ (w.heap.size+1) 30 cu from e) h5) (by decide)
    ·rw [hK'] at e
     cases e
  case stop =>
   rintro D cd pre z W hD ⟨rfl,n,e1,b4,b5,hB⟩ hK
   gi_wp2
   refine ⟨by simp,.inl ⟨_,_,rfl,run_takeDeferred hK,?_⟩⟩
   have gD:∀ {g:Nat} {t:TypeId} {cs:Array Value},Blk W g t cs→Blk _ g t cs:=fun hb=>hb.grown (grownBy_putObj' _ D (.deferred none)) (fun e=>by
    cases e
    rw [show W.heap[D]?=_ from hb] at hK
    cases hK)
   exact ⟨_,run_cell_errno rfl rfl (load_dist rfl (gD b4)) rfl (gD b5),by rw [HM.out,e1];exact rfl,hB.trans (belowK_b (w:=w) (Nat.le_refl _) W D _ _ (Nat.le_trans hwB hD) hK rfl rfl)⟩
 ·have hz:=ne_zero hc
  have hz2:=ne_zero2 hc
  have HM:=Lib.hid (show prodX a b=.error (chk2 a b) by unfold prodX;rw [if_pos hc])
  generalize chk2 a b=n at *
  clear hc
  refine (callsIn_wide (n:=6)).1 ?_
  have h1:1≤6:=by omega
  refine callsIn_of_wp_marks Tryz.func27 rfl trivial ?_ rfl
  simp only [Tryz.ntmps27,List.size_toArray,List.length_cons,List.length_nil,Nat.reduceAdd,Nat.reduceSub,Array.replicate_succ,Array.replicate_zero,List.push_toArray,List.append_toArray,List.nil_append,List.cons_append]
  gi_upto_region 1 with fail
  generalize (w.alloc (.cells #[.slice none 0 0] 31)).alloc (.cells #[.int .i64 0] 32)=W0 at *
  have P2:=Lib.hid (P0.out.later (below_alloc (Below.refl _ _) (.cells #[.slice A0 a.length c0,.slice A1 b.length c1] 31)))
  gi_wp2_with (refine ⟨trivial,?_⟩;gi_at_call 112;refine (callsIn_wide.2 (HCK.out _ P0.out.nw)).mono ?_;rintro e w1 ⟨rfl,hb⟩;have P1:=Lib.hid (P2.out.later hb);have y0:=cell0 P1.out.r4;have y1:=cell0 P1.out.r5;have z0:=P1.out.r4.frozen 0;have z1:=P1.out.r5.frozen 0;clear hb)
  refine leavesM_nil ?_
  obtain ⟨s1,s2,s3⟩:=P1.out.set (.slice none 0 0) (n:Int)
  exact ⟨_,run_cell_errno rfl rfl (load_dist rfl s1) rfl s2,by rw [HM.out];exact rfl,s3⟩
end Go.Proofs.YtigapglmipmbeaaGreatDoor
