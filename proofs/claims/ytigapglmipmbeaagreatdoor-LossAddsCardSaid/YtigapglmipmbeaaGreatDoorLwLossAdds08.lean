/- kit.Has on the bytes of a string; what Product gives (printed by mkdlaw5.py). LossAdds: what the sum of two losses gives of products; no program in sight. The reference 08: scaled, Mix (printed by mkdref4.py). The reference 08: Product (printed by mkdref6.py). LossAdds, as a walk (printed by mkadd.py). Opening and shutting an argument that is a loss. Slices of structs with slices in them, in memory: how they read, how they are built, what keeps them. Plain words, no program. Opening arguments: lists of masses, of losses, of strings. -/
import Derived.Test.YtigapglmipmbeaaGreatDoorLwLossAdds07
import Derived.Lib.ConvBytes
import Derived.Test.YtigapglmipmbeaaGreatDoorLwLossAdds05
import Derived.Test.YtigapglmipmbeaaGreatDoorRb03
import Derived.Maps.OwnIn
import Derived.Test.YtigapglmipmbeaaGreatDoorLwLossAdds06
import Derived.Test.YtigapglmipmbeaaGreatDoorRb10
import Derived.ProofKit
import Derived.OpenShut
import Derived.ShutString
import Derived.ChangeOld
import Derived.ChangeSame
import Derived.Test.YtigapglmipmbeaaGreatDoorProg
import Derived.WalkKit
import Derived.Handy
import Derived.Lib.Hide
import Derived.BigQuiet
import Derived.Maps.OwnSet
import Derived.Maps.StringElems
import Derived.Maps.AppendAt
import Derived.WalkLawsBesides
import Derived.WalkSpells
import Derived.ChangeSlices
import Derived.Deep.Slices
import Derived.Test.YtigapglmipmbeaaGreatDoorLwLossAdds01
import Derived.Lib.SmallJoins
set_option maxRecDepth 100000
set_option maxHeartbeats 16000000
namespace Go.Proofs.YtigapglmipmbeaaGreatDoor
open Go.RowKit Go.Shelf
open Lim
attribute [local go_sem] Oper.semAt_some
theorem seqX_len:∀ {l:List (ByteArray × XE)} {m:List L2},seqX l=.ok m→m.length=l.length
 | [],m,h=>by cases h;rfl
 | a::l,m,h=>by
  unfold seqX at h
  split at h
  ·cases h
  ·split at h
   ·cases h
   ·rename_i r hr
    cases h
    rw [List.length_cons,List.length_cons,seqX_len hr]
theorem prod_short {a b d:List L2} (h:prodX a b=.ok d) (ka:∀ x∈a,x.1.size≤100000) (kb:∀ x∈b,x.1.size≤100000) (hl:a.length*b.length≤1000):Short d∧d.length≤1000:=by
 unfold prodX at h
 split at h
 ·cases h
 ·split at h
  ·cases h
  ·split at h
   ·cases h
   ·rename_i l hl2
    refine make_short h (pairX_short hl2 ka kb) ?_
    rw [pairX_seq] at hl2
    rw [seqX_len hl2,pairsY_length]
    exact hl
end Go.Proofs.YtigapglmipmbeaaGreatDoor
namespace Go.Proofs.YtigapglmipmbeaaGreatDoor
open Lim
theorem add_val {F d G e:Rat} (F1:1≤F) (G1:1≤G) (fF:fits F=true) (fd:fits d=true) (fG:fits G=true) (fe:fits e=true) (d0:0≤d) (d1:d≤1) (e0:0≤e) (e1:e≤1)
  (h1:fits (F*G)=true) (h2:fits (d+e)=true):foldR plusL [(rT F,rT d),(rT G,rT e)]=.ok (F*G,minQ (d+e) 1):=by
 have hd:LossIs (rT F) (rT d) (F,d):=⟨isT_rT fF,isT_rT fd,F1,d0,d1⟩
 have he:LossIs (rT G) (rT e) (G,e):=⟨isT_rT fG,isT_rT fe,G1,e0,e1⟩
 have hz:firstL [(rT F,rT d),(rT G,rT e)]=0:=by
  rw [firstL_zero]
  intro x hx
  simp only [List.mem_cons,List.not_mem_nil,or_false] at hx
  rcases hx with rfl|rfl
  ·exact hd.err
  ·exact he.err
 unfold foldR
 rw [if_neg (by omega)]
 simp only [List.map_cons,List.map_nil,valL,val_rT fF,val_rT fd,val_rT fG,val_rT fe,foldE]
 rw [plusL_none hd.ok]
 dsimp only
 rw [plusL_ok h1 h2]
theorem add_all {L:Nat→List L2} {F G:Rat} (hL:∀ i,Dst 289 (L i)) (hn:∀ i,(L i).length≤12) (hk:∀ i,∀ x∈L i,x.1.size≤12) (F1:1≤F) (G1:1≤G) (sF:Sz 12 F) (sG:Sz 12 G) :
  ∃ p q,prodX (L 0) (L 2)=.ok p∧prodX (L 1) (L 3)=.ok q∧(Short p∧p.length≤1000)∧(Short q∧q.length≤1000) ∧
   foldR plusL [(rT F,rT (nearQ L F 0)),(rT G,rT (nearQ L G 2))]=.ok (F*G,minQ (nearQ L F 0+nearQ L G 2) 1) ∧
   holdsR (rT F) (rT (nearQ L F 0)) (L 0) (L 1)=.ok true∧holdsR (rT G) (rT (nearQ L G 2)) (L 2) (L 3)=.ok true ∧
   holdsR (rT (F*G)) (rT (minQ (nearQ L F 0+nearQ L G 2) 1)) p q=.ok true ∧
   fits (F*G)=true∧fits (minQ (nearQ L F 0+nearQ L G 2) 1)=true:=by
 have F0:0≤F:=Rat.le_trans (by decide) F1
 have G0:0≤G:=Rat.le_trans (by decide) G1
 have hl:∀ i j,(L i).length*(L j).length≤144:=fun i j=>Nat.mul_le_mul (hn i) (hn j)
 have hk2:∀ i,∀ x∈L i,x.1.size≤100000:=fun i x hx=>Nat.le_trans (hk i x hx) (by omega)
 obtain ⟨p,ep,dp,mp⟩:=prod_dst (hL 0) (hL 2) (Nat.le_trans (hl 0 2) (by omega)) (by unfold maxD;omega)
 obtain ⟨q,eq,dq,mq⟩:=prod_dst (hL 1) (hL 3) (Nat.le_trans (hl 1 3) (by omega)) (by unfold maxD;omega)
 have fitS:∀ {j:Nat} {q:Rat},Sz j q→j≤4000→fits q=true:=fun {j q} h hj=>fits_sz.2 (h.mono hj)
 have s1:=near_sz hL F0 sF 0
 have s2:=near_sz hL G0 sG 2
 obtain ⟨t1,t2⟩:=near_top hL F0 0
 obtain ⟨u1,u2⟩:=near_top hL G0 2
 have sM:=sF.mul sG
 have sP:=s1.add s2
 have sN:Sz 1181 (minQ (nearQ L F 0+nearQ L G 2) 1):=sz_min (sP.mono (by omega)) (Sz.one.mono (by omega))
 have m1:=mul_ge_one F1 G1
 have hz:∀ i,deltaD (valsD (L i)) (valsD (L (i+1))) F≤nearQ L F i∧deltaD (valsD (L (i+1))) (valsD (L i)) F≤nearQ L F i:=fun i=>le_maxQ _ _
 have hz':∀ i,deltaD (valsD (L i)) (valsD (L (i+1))) G≤nearQ L G i∧deltaD (valsD (L (i+1))) (valsD (L i)) G≤nearQ L G i:=fun i=>le_maxQ _ _
 have c1:=delta_prod (hL 0).isD (hL 1).isD (hL 2).isD (hL 3).isD dp.isD dq.isD mp mq F0 G0
 have c2:=delta_prod (hL 1).isD (hL 0).isD (hL 3).isD (hL 2).isD dq.isD dp.isD mq mp F0 G0
 have k1:deltaD (valsD p) (valsD q) (F*G)≤nearQ L F 0+nearQ L G 2:=Rat.le_trans c1 (Rat.le_trans (Rat.add_le_add_right.2 (hz 0).1) (Rat.add_le_add_left.2 (hz' 2).1))
 have k2:deltaD (valsD q) (valsD p) (F*G)≤nearQ L F 0+nearQ L G 2:=Rat.le_trans c2 (Rat.le_trans (Rat.add_le_add_right.2 (hz 0).2) (Rat.add_le_add_left.2 (hz' 2).2))
 have hM0:0≤F*G:=Rat.mul_nonneg F0 G0
 refine ⟨p,q,ep,eq,prod_short ep (hk2 0) (hk2 2) (Nat.le_trans (hl 0 2) (by omega)),prod_short eq (hk2 1) (hk2 3) (Nat.le_trans (hl 1 3) (by omega)),?_,?_,?_,?_,fitS sM (by omega),fitS sN (by omega)⟩
 ·exact add_val F1 G1 (fitS sF (by omega)) (fitS s1 (by omega)) (fitS sG (by omega)) (fitS s2 (by omega)) t1 t2 u1 u2 (fitS sM (by omega)) (fitS sP (by omega))
 ·exact holdsR_ok (j:=12) (hL 0) (hL 1) F1 sF (by unfold maxD;omega) t1 t2 (fitS s1 (by omega)) (by unfold maxD;omega) (by omega) (hz 0).1 (hz 0).2
 ·exact holdsR_ok (j:=12) (hL 2) (hL 3) G1 sG (by unfold maxD;omega) u1 u2 (fitS s2 (by omega)) (by unfold maxD;omega) (by omega) (hz' 2).1 (hz' 2).2
 ·exact holdsR_ok (j:=12+12) dp dq m1 sM (by unfold maxD;omega) (le_minQ (by grind) (by decide)) (minQ_le _ _).2 (fitS sN (by omega)) (by unfold maxD;omega) (by omega)
   (le_minQ k1 (delta_top dp.isD dq.isD hM0)) (le_minQ k2 (delta_top dq.isD dp.isD hM0))
end Go.Proofs.YtigapglmipmbeaaGreatDoor
namespace Go.Proofs.YtigapglmipmbeaaGreatDoor
open Go.RowKit Go.Shelf
open Lim
attribute [local go_sem] Oper.semAt_some
theorem rdscaled_any (ls:List L2) (v:Value) (b:ByteArray) (w:World) (hv:LRow w v ls) (hs:Short ls) (hb:b.size≤270000) (hr:Res w) :
  Calls Tryz.prog 115 #[v,.string b] w fun e w'=>ResM w.heap.size (scaleX ls b) e w'∧Below w.heap.size w w':=by
 have HV:=Lib.hid hv
 have HS:=Lib.hid hs
 have HRS:=Lib.hid hr
 have N0:=Lib.hid (NW.refl hr)
 have HBS:=Lib.hid hb
 obtain ⟨A0,c0,rfl,HLEN,_⟩:=hv
 obtain ⟨i0,hi,hz0,hz1,hz2⟩:=info_parts infoM
 clear hs hr hb
 generalize hm:scaleX ls b=mk
 have HMK:=Lib.hid hm
 clear hm
 go_enter Tryz.func115,Tryz.ntmps115
 go_wp2
 go_loopw [6,7] (fun v6 v7 wr=>∃ (done:List L2) (A1:Option Addr) (c1:Nat),done.length≤ls.length∧v6=.slice A1 done.length c1∧v7=.int .i64 (done.length:Int)∧Hid (mk=scaleR done (scaleX (ls.drop done.length) b))∧Hid (OwnM w.heap.size wr (.slice A1 done.length c1) done)∧Hid (NW w wr)) (fun _ v7 _=>ls.length - (intOf v7).toNat)
 case atStart=>exact ⟨[],none,0,Nat.zero_le _,rfl,rfl,Lib.hid (by rw [scaleR_nil];exact HMK.out.symm),Lib.hid (OwnM.nil _ _),N0⟩
 case round =>
  clear N0
  obtain ⟨done,A1,c1,hk,rfl,rfl,HE,HO,HN⟩:=hrel
  by_cases hlt:done.length < ls.length
  ·obtain ⟨x,hx⟩:∃ x,ls[done.length]?=some x:=⟨_,List.getElem?_eq_getElem hlt⟩
   obtain ⟨b2,o,c',e',hb2,q0,q1⟩:=HV.out.at HN.out.below hx
   simp only [Value.slice.injEq,true_and] at e'
   obtain ⟨rfl,rfl⟩:=e'
   have hlt':(done.length:Int) < (ls.length:Int):=by omega
   have HD:=drop_of hx
   have HSX:=Lib.hid (HS.out x (List.mem_of_getElem? hx))
   have HLT:=Lib.hid (And.intro hlt hlt')
   have HXC:=Lib.hid hx
   rw [HD] at HE
   have HMU:=Lib.hid (retRMulX HSX.out.2 HBS.out)
   obtain ⟨f,d⟩:=x
   dsimp only at q0 q1 HMU
   clear hx hlt HD
   cases hmu:mulX d b with
   | error n =>
    rw [hmu] at HMU
    change Hid (Ret _ _ (.tuple #[.string ⟨#[]⟩,.int .i64 (n:Int)])) at HMU
    have hz:=ne_zero (exQ_err hmu)
    have hz9:=ne_zero2 (exQ_err hmu)
    have HR:=Lib.hid (show mk=.error n by rw [HE.out,scaleX_err (x:=(f,d)) hmu];rfl)
    clear hmu
    go_wp2_with (go_at_call 149;refine (HMU.out _ HN.out.res).mono ?_;rintro e w3 ⟨rfl,hb⟩;have H3:=Lib.hid (HN.out.later hb);clear hb)
    go_ret2
    rw [HR.out]
    exact ⟨rfl,H3.out.below⟩
   | ok p =>
    rw [hmu] at HMU
    change Hid (Ret _ _ (.tuple #[.string p,.int .i64 0])) at HMU
    have HR:=Lib.hid (show mk=scaleR (done++[(f,p)]) (scaleX (ls.drop (done.length+1)) b) by rw [HE.out,scaleX_go (x:=(f,d)) hmu])
    have TK0:True:=trivial
    clear hmu
    go_wp2_with (first
     | (clear TK0;go_at_call 149;refine (HMU.out _ HN.out.res).mono ?_;rintro e w3 ⟨rfl,hb⟩;have H3:=Lib.hid (HN.out.later hb);have HO3:=Lib.hid (OwnM.later HO.out hb);obtain ⟨hb4,q2,q3⟩:=HV.out.cell2 H3.out.below HXC.out;dsimp only at q2 q3;have HA3:=Lib.hid (OwnM.later HO3.out (below_alloc (Below.refl _ _) (.cells #[.string f,.string p] 30)));have HN3:=Lib.hid (H3.out.alloc (.cells #[.string f,.string p] 30));clear hb)
     | (at_builtin;refine wpList_append_own _ rfl _ _ 22 rfl w.heap.size 30 i0 (.agg #[.string ByteArray.empty,.string ByteArray.empty]) 2 32 Tryz.underlying22 hi hz0 hz1 hz2 rfl (by decide) _ _ _ rfl HA3.out ⟨w3.heap.size,0,none⟩ 1 1 [.string f,.string p] rfl rfl (cell_two_new _ _ _ _) (one_pairM (f,p)) (by have:=HLT.out.1;unfold maxLen;omega) (by have:=HLT.out.1;omega) HN3.out.below.size ?_;intro v' w7 hown7 hgrow7 _;obtain ⟨A5,c5,rfl⟩:=slice_shape hown7;have HO7:=Lib.hid (show OwnM w.heap.size w7 (.slice A5 (done.length+1) c5) (done++[(f,p)]) by unfold OwnM;rw [List.length_append,cellsM_append];exact hown7);have HN7:=Lib.hid (grow_nw HN3.out HRS.out hgrow7 (fun r e=>HA3.out.base e));clear hown7 hgrow7))
    go_roundw
    case rel =>
     have e1:(done++[(f,p)]).length=done.length+1:=by simp
     exact ⟨done++[(f,p)],A5,c5,by rw [e1];exact HLT.out.1,by rw [e1],by rw [e1];go_num,Lib.hid (by rw [e1];exact HR.out),Lib.hid (by rw [e1];exact HO7.out),HN7⟩
    case measure=>have:=HLT.out.1;simp [intOf];omega
  ·have hlt':¬ (done.length:Int) < (ls.length:Int):=by omega
   have hd:ls.drop done.length=[]:=List.drop_of_length_le (by omega)
   have HR:=Lib.hid (show mk=.ok done by rw [HE.out,hd];show Except.ok (done++[])=_;rw [List.append_nil])
   clear hlt hd
   go_wp2
   go_ret2
   rw [HR.out]
   exact ⟨⟨_,rfl,HO.out⟩,HN.out.below⟩
end Go.Proofs.YtigapglmipmbeaaGreatDoor
namespace Go.Proofs.YtigapglmipmbeaaGreatDoor
open Go.RowKit Go.Shelf
open Lim
attribute [local go_sem] Oper.semAt_some wide_fn
def joinAt (f:ByteArray) (ys:List L2) (k:Nat):List L2:=(ys.take k).map (fun y=>(joinT f y.1,y.2))++ys.drop k
theorem joinAt_zero (f:ByteArray) (ys:List L2):joinAt f ys 0=ys:=by simp [joinAt]
theorem joinAt_all (f:ByteArray) (ys:List L2):joinAt f ys ys.length=ys.map fun y=>(joinT f y.1,y.2):=by simp [joinAt]
theorem joinAt_len {f:ByteArray} {ys:List L2} {k:Nat}:(joinAt f ys k).length=ys.length:=by
 unfold joinAt
 rw [List.length_append,List.length_map,List.length_take,List.length_drop]
 omega
theorem joinAt_split {f:ByteArray} {ys:List L2} {k:Nat} {y:L2} (h:ys[k]?=some y):joinAt f ys k=(ys.take k).map (fun y=>(joinT f y.1,y.2))++y::ys.drop (k+1)∧((ys.take k).map fun y:L2=>(joinT f y.1,y.2)).length=k:=by
 obtain ⟨hk,rfl⟩:=List.getElem?_eq_some_iff.1 h
 refine ⟨?_,by rw [List.length_map,List.length_take];omega⟩
 unfold joinAt
 rw [drop_at hk]
theorem joinAt_get {f:ByteArray} {ys:List L2} {k:Nat} {y:L2} (h:ys[k]?=some y):(joinAt f ys k)[k]?=some y:=by
 obtain ⟨e,l⟩:=joinAt_split (f:=f) h
 rw [e,List.getElem?_append_right (by rw [l];exact Nat.le_refl _),l,Nat.sub_self]
 rfl
theorem joinAt_set {f:ByteArray} {ys:List L2} {k:Nat} {y:L2} (h:ys[k]?=some y):(joinAt f ys k).set k (joinT f y.1,y.2)=joinAt f ys (k+1):=by
 obtain ⟨e,l⟩:=joinAt_split (f:=f) h
 rw [e,List.set_append_right _ _ (by rw [l];exact Nat.le_refl _),l,Nat.sub_self,List.set_cons_zero]
 unfold joinAt
 rw [List.take_add_one,h,Option.toList_some,List.map_append,List.append_assoc]
 rfl
theorem pairX_err {x:L2} {a b done:List L2} {n:Nat} (h:scaleX b x.2=.error n):scaleR done (pairX (x::a) b)=.error n:=by
 have e:pairX (x::a) b=.error n:=by
  unfold pairX
  rw [h]
 rw [e]
 rfl
theorem pairX_go {x:L2} {a b ys done:List L2} (h:scaleX b x.2=.ok ys):scaleR done (pairX (x::a) b)=scaleR (done++joinAt x.1 ys ys.length) (pairX a b):=by
 have e:pairX (x::a) b=(match pairX a b with|.error n=>.error n|.ok r=>.ok (ys.map (fun y=>(joinT x.1 y.1,y.2))++r)):=by
  simp only [pairX,h]
  rfl
 rw [e,joinAt_all]
 cases pairX a b with
 | error n=>rfl
 | ok m=>simp [scaleR]
theorem scaleX_keyB {b:ByteArray}:∀ {l m:List L2},scaleX l b=.ok m→(∀ x∈l,x.1.size≤100000)→∀ y∈m,y.1.size≤100000
 | [],m,h,_,y,hy=>by cases h;cases hy
 | x::l,m,h,hs,y,hy=>by
  unfold scaleX at h
  split at h
  ·cases h
  ·split at h
   ·cases h
   ·rename_i r hr
    cases h
    rcases List.mem_cons.1 hy with rfl|hy
    ·exact hs x (by simp)
    ·exact scaleX_keyB hr (fun z hz=>hs z (by simp [hz])) y hy
theorem rdprod_any (a b:List L2) (va vb:Value) (w:World) (ha:LRow w va a) (hb:LRow w vb b) (sa:Short a) (sb:Short b) (ka:∀ x∈a,x.1.size≤100000) (kb:∀ x∈b,x.1.size≤100000) (hl:a.length*b.length≤1000) (hr:Res w) :
  Calls Tryz.prog 28 #[va,vb] w fun e w'=>ResM w.heap.size (prodX a b) e w'∧Below w.heap.size w w':=by
 have HCK:=Lib.hid (rdboth_any a b va vb w ha hb sa sb hr)
 have N0:=Lib.hid (NW.refl hr)
 have HA:=Lib.hid ha
 have HB:=Lib.hid hb
 have SA:=Lib.hid sa
 have SB:=Lib.hid sb
 have KA:=Lib.hid ka
 have KB:=Lib.hid kb
 have HRS:=Lib.hid hr
 obtain ⟨A0,c0,rfl,hla,_⟩:=id ha
 obtain ⟨A1,c1,rfl,hlb,_⟩:=id hb
 obtain ⟨i0,hif,hz0,hz1,hz2⟩:=info_parts infoM
 clear ha hb sa sb ka kb hr
 have TK0:True:=trivial
 by_cases hc:chk2 a b=0
 ·have hb0:0 < b.length:=by
   cases b with
   | nil =>
    have h2:chkD []=0:=by
     unfold chk2 at hc
     by_cases h:chkD a=0
     ·rw [if_neg (by omega)] at hc;exact hc
     ·rw [if_pos h] at hc;exact absurd hc h
    exact absurd h2 (by decide +kernel)
   | cons x l=>simp
  have HB0:=Lib.hid hb0
  have HM:=Lib.hid (show prodX a b=(match pairX a b with|.error n=>.error n|.ok l=>makeX l) by unfold prodX;rw [if_neg (by simpa using hc),if_neg (by omega)];rfl)
  generalize prodX a b=mk at *
  rw [hc] at HCK
  change Hid (Calls _ _ _ _ fun e w'=>e=.returned (.int .i64 0)∧_) at HCK
  have hml:(a.length:Int)*(b.length:Int)≤1000:=by exact_mod_cast hl
  have hm0:(0:Int)≤(a.length:Int)*(b.length:Int):=by exact_mod_cast Nat.zero_le _
  have hd0:decide (4096 < (a.length:Int)*(b.length:Int))=false:=decide_eq_false (by omega)
  have HL:=Lib.hid hl
  clear hc hl hb0
  refine (callsIn_wide (n:=6)).1 ?_
  have h1:1≤6:=by omega
  have hmx:Tryz.prog.follows .mixedOrders=true:=by kernel_rfl
  refine callsIn_of_wp Tryz.func28 rfl trivial ?_ rfl
  simp only [Tryz.ntmps28,List.size_toArray,List.length_cons,List.length_nil,Nat.reduceAdd,Nat.reduceSub,Array.replicate_succ,Array.replicate_zero,List.push_toArray,List.append_toArray,List.nil_append,List.cons_append]
  gi_wp2_with (clear TK0;gi_at_call 114;refine (callsIn_wide.2 HCK.out).mono ?_;rintro e w1 ⟨rfl,hb⟩;have N1:=Lib.hid (N0.out.later hb);clear hb)
  gi_loopw [7,8] (fun v7 v8 wr=>∃ (i:Nat) (done:List L2) (A5:Option Addr) (c5:Nat),i≤a.length∧v7=.slice A5 done.length c5∧v8=.int .i64 (i:Int)∧Hid (pairX a b=scaleR done (pairX (a.drop i) b))∧Hid (done.length=i*b.length)∧Hid (OwnM w.heap.size wr (.slice A5 done.length c5) done)∧Hid (NW w wr)) (fun _ v8 _=>a.length - (intOf v8).toNat)
  case atStart=>exact ⟨0,[],none,0,Nat.zero_le _,rfl,rfl,Lib.hid (by rw [scaleR_nil];rfl),Lib.hid (by simp),Lib.hid (OwnM.nil _ _),N1⟩
  case round =>
   clear N1
   obtain ⟨i,done,A5,c5,hi,rfl,rfl,HE,HDL,HO,HN⟩:=hrel
   obtain ⟨wo,rfl⟩:∃ wo,wo=wr:=⟨_,rfl⟩
   by_cases hlt:i < a.length
   ·obtain ⟨x,hx⟩:∃ x,a[i]?=some x:=⟨_,List.getElem?_eq_getElem hlt⟩
    obtain ⟨b2,o2,c',e',hb2,q0,q1⟩:=HA.out.at HN.out.below hx
    simp only [Value.slice.injEq,true_and] at e'
    obtain ⟨rfl,rfl⟩:=e'
    have hlt':(i:Int) < (a.length:Int):=by omega
    rw [drop_of hx] at HE
    have HSX:=Lib.hid (SA.out x (List.mem_of_getElem? hx))
    have HKX:=Lib.hid (KA.out x (List.mem_of_getElem? hx))
    have HLT:=Lib.hid (And.intro hlt hlt')
    have HSC:=Lib.hid (rdscaled_any b _ x.2 wo (HB.out.below HN.out.below) SB.out HSX.out.2 HN.out.res)
    obtain ⟨f,d⟩:=x
    dsimp only at q0 q1 HSX HSC HKX
    clear hx hlt
    cases hsc:scaleX b d with
    | error n =>
     rw [hsc] at HSC
     change Hid (Calls _ _ _ _ fun e w'=>e=.returned (.tuple #[.slice none 0 0,.int .i64 (n:Int)])∧_) at HSC
     have hz:=ne_zero (scaleX_ne hsc)
     have hz9:=ne_zero2 (scaleX_ne hsc)
     have HR:=Lib.hid (show mk=.error n by rw [HM.out,HE.out,pairX_err (x:=(f,d)) hsc]<;>rfl)
     clear hsc
     gi_wp2_with (gi_at_call 115;refine (callsIn_wide.2 HSC.out).mono ?_;rintro e w3 ⟨rfl,hb⟩;have H3:=Lib.hid (HN.out.later hb);clear hb)
     go_ret2
     rw [HR.out]
     exact ⟨rfl,H3.out.below⟩
    | ok ys =>
     rw [hsc] at HSC
     change Hid (Calls _ _ _ _ fun e w'=>(∃ u,e=.returned (.tuple #[u,.int .i64 0])∧OwnM _ w' u ys)∧_) at HSC
     have HYL:=Lib.hid (scaleX_len hsc)
     have hyl:ys.length≤1000:=by rw [scaleX_len hsc];exact hlb
     have HEN:=Lib.hid (HE.out.trans (pairX_go (x:=(f,d)) (a:=a.drop (i+1)) (done:=done) hsc))
     dsimp only at HEN
     have HY0:=Lib.hid (show 0 < ys.length by rw [scaleX_len hsc];exact HB0.out)
     have HYB:=Lib.hid (show ∀ y∈ys,y.1.size≤100000 from fun y hy=>scaleX_keyB hsc KB.out y hy)
     clear hsc HE
     gi_wp2_with (gi_at_call 115;refine (callsIn_wide.2 HSC.out).mono ?_;rintro e w3 ⟨⟨u3,rfl,ho3⟩,hb⟩;obtain ⟨g3,c3,rfl,hg3⟩:=ho3.ofPos HY0.out;have HO3:=Lib.hid ho3;have HB3:=Lib.hid hb;have HG3:=Lib.hid hg3;clear hb ho3 hg3)
     have HCF:∀ W,Below wo.heap.size wo W→W.cell? _=some (.string f):=fun W h=>(h.cell (p:=_) hb2).trans q0
     have HCF:=Lib.hid HCF
     clear q0 q1
     gi_loopw [11] (fun v11 wq=>∃ k:Nat,k≤ys.length∧v11=.int .i64 (k:Int)∧Hid (OwnM wo.heap.size wq (.slice (some ⟨g3,0,none⟩) ys.length c3) (joinAt f ys k))∧Hid (Below wo.heap.size wo wq)) (fun v11 _=>ys.length - (intOf v11).toNat)
     case atStart=>exact ⟨0,Nat.zero_le _,rfl,Lib.hid (by rw [joinAt_zero];exact HO3.out),HB3⟩
     case round =>
      clear HO3 HB3
      obtain ⟨k,hk,rfl,HO4,HB4⟩:=hrel
      by_cases hk2:k < ys.length
      ·obtain ⟨y,hy⟩:∃ y,ys[k]?=some y:=⟨_,List.getElem?_eq_getElem hk2⟩
       have hk3:(k:Int) < (ys.length:Int):=by omega
       obtain ⟨x0,x1,xl⟩:=HO4.out.cell (joinAt_get (f:=f) hy)
       have fz:=HO4.out.frozen (k*2)
       have p0:=HCF.out _ HB4.out
       have pl:=Nat.lt_of_lt_of_le hb2 HB4.out.size
       have HST:=Lib.hid (OwnM.set1 (joinT f y.1) HO4.out (joinAt_get (f:=f) hy))
       rw [joinAt_set hy] at HST
       have HKY:=Lib.hid (HYB.out y (List.mem_of_getElem? hy))
       have HKT:=Lib.hid (And.intro hk2 hk3)
       obtain ⟨f2,d2⟩:=y
       dsimp only at x0 x1 HST HKY
       have EK:(f++⟨#[124]⟩++f2)=joinT f f2:=rfl
       have s1:¬ 9223372036854775807 < f.size+1:=by have:=HKX.out;omega
       have s2:¬ 9223372036854775807 < f.size+1+f2.size:=by have:=HKX.out;have:=HKY.out;omega
       have V0:∀ z:SameAt wr (fun k=>k < wr.heap.size),z.W.cell? _=some (.string f):=fun z=>z.cell pl p0
       have V1:∀ z:SameAt wr (fun k=>k < wr.heap.size),z.W.cell? ⟨g3,k*2,none⟩=some (.string f2):=fun z=>z.cell xl x0
       have HYG:=Lib.hid hy
       clear hk2 hy x1
       gi_wp2
       refine wpIn_stage (IsSame wr (fun k=>k < wr.heap.size)) [0,1,2,3,4,5,6,7,8,9,10,11,12,13] [16] hmx (by kernel_rfl) (isSame_of fun _ _=>rfl) ?_
       change wpStage _ _ _ _ _ _ _ _ (3+14) _ _ _
       refine stage_reads [0,1,2,3,4,5,6,7,8,9,10,11,12,13] 3 _ _ (by kernel_rfl) ?_
       change wpQuietIn _ _ _ _ (fun W'=>∃ x:SameAt wr (fun k=>k < wr.heap.size),W'=x.W) _ _ _
       simp only [pick_cons,pick_nil,List.getElem?_cons_zero,List.getElem?_cons_succ,Option.elim_some]
       repeat (gi_big_quiet_step (fail))
       refine wpQuietIn_nil ?_
       clear V0 V1
       have HDR:=Lib.hid (below_drewM wr)
       have HO6:=Lib.hid (OwnM.later HO4.out HDR.out)
       obtain ⟨x0,x1,xl⟩:=HO6.out.cell (joinAt_get (f:=f) HYG.out)
       refine stage_one 14 (by kernel_rfl) rfl ?_
       gi_wp2
       refine stage_post (isSame_below HDR.out (fun k hk=>hk)) ?_
       refine stage_one 15 (by kernel_rfl) rfl ?_
       gi_wp2
       refine stage_post (isSame_below HDR.out (fun k hk=>hk)) ?_
       refine stage_one 16 (by kernel_rfl) rfl ?_
       gi_wp2
       refine stage_last rfl ?_
       refine stage_done (by kernel_rfl) ?_
       gi_wp2
       go_roundw
       case rel=>exact ⟨k+1,HKT.out.1,by go_num,Lib.hid HST.out.1,Lib.hid ((HB4.out.trans (HDR.out.mono HB4.out.size)).setCell (p:=⟨g3,k*2,none⟩) HG3.out _)⟩
       case measure=>have:=HKT.out.1;simp [intOf];omega
      ·have hk3:¬ (k:Int) < (ys.length:Int):=by omega
       obtain rfl:k=ys.length:=by omega
       have HSR:=Lib.hid (World.ownsRow.cells HO4.out (g:=g3) rfl)
       have HO7:=Lib.hid (OwnM.later HO.out HB4.out)
       have HN7:=Lib.hid (HN.out.later HB4.out)
       have HLB:=Lib.hid (show done.length+ys.length=(i+1)*b.length by rw [HDL.out,HYL.out,Nat.succ_mul])
       have HLM:=Lib.hid (show done.length+ys.length≤1000 by rw [HLB.out];exact Nat.le_trans (Nat.mul_le_mul_right _ HLT.out.1) HL.out)
       clear hk2 hk
       gi_wp2_with (gi_at_builtin;go_loud (refine wpListIn_append_own_at _ rfl _ _ 22 rfl w.heap.size 30 i0 (.agg #[.string ByteArray.empty,.string ByteArray.empty]) 2 32 Tryz.underlying22 hif hz0 hz1 hz2 rfl (by decide) _ _ _ rfl HO7.out ⟨g3,0,none⟩ ys.length c3 (cellsM (joinAt f ys ys.length)) rfl (by rw [cellsM_length,joinAt_len]) HSR.out (one_cellsM _) (by have:=HLM.out;unfold maxLen;omega) (by have:=HLM.out;omega) HN7.out.below.size ?_;intro v' w8 hown8 hgrow8 _ _;obtain ⟨A8,c8,rfl⟩:=slice_shape hown8;have HO8:=Lib.hid (show OwnM w.heap.size w8 (.slice A8 (done.length+ys.length) c8) (done++joinAt f ys ys.length) by unfold OwnM;rw [List.length_append,joinAt_len,cellsM_append];exact hown8);have HN8:=Lib.hid (grow_nw HN7.out HRS.out hgrow8 (fun r e=>HO7.out.base e));clear hown8 hgrow8))
       go_roundw
       case rel =>
        have e1:(done++joinAt f ys ys.length).length=done.length+ys.length:=by rw [List.length_append,joinAt_len]
        exact ⟨i+1,done++joinAt f ys ys.length,A8,c8,HLT.out.1,by rw [e1],by go_num,HEN,Lib.hid (by rw [e1];exact HLB.out),Lib.hid (by rw [e1];exact HO8.out),HN8⟩
       case measure=>have:=HLT.out.1;simp [intOf];omega
   ·have hlt':¬ (i:Int) < (a.length:Int):=by omega
    obtain rfl:i=a.length:=by omega
    have hpx:pairX a b=.ok done:=by
     rw [HE.out,List.drop_length]
     show Except.ok (done++[])=_
     rw [List.append_nil]
    have hdl:done.length≤1000:=by rw [HDL.out];exact HL.out
    have HMC:=Lib.hid (rdmake_any done _ wo (HO.out.row hdl) (pairX_short hpx KA.out KB.out) HN.out.res)
    have HMR:=Lib.hid (show mk=makeX done by rw [HM.out,hpx]<;>rfl)
    clear hlt hpx hdl
    generalize makeX done=mm at *
    cases mm with
    | error n =>
     change Hid (Calls _ _ _ _ fun e w'=>e=.returned (.tuple #[.slice none 0 0,.int .i64 (n:Int)])∧_) at HMC
     gi_wp2_with (gi_at_call 26;refine (callsIn_wide.2 HMC.out).mono ?_;rintro e w8 ⟨rfl,hb⟩;have H3:=Lib.hid (HN.out.later hb);clear hb)
     go_ret2
     rw [HMR.out]
     exact ⟨rfl,H3.out.below⟩
    | ok out =>
     change Hid (Calls _ _ _ _ fun e w'=>(∃ u,e=.returned (.tuple #[u,.int .i64 0])∧OwnM _ w' u out)∧_) at HMC
     gi_wp2_with (gi_at_call 26;refine (callsIn_wide.2 HMC.out).mono ?_;rintro e w8 ⟨⟨u8,rfl,ho⟩,hb⟩;have HO8:=Lib.hid ho;have H3:=Lib.hid (HN.out.later hb);clear hb ho)
     go_ret2
     rw [HMR.out]
     exact ⟨⟨_,rfl,owns_base HO8.out HN.out.below.size⟩,H3.out.below⟩
 ·have hz:=ne_zero hc
  have hz9:=ne_zero2 hc
  have HR:=Lib.hid (show prodX a b=.error (chk2 a b) by unfold prodX;rw [if_pos hc])
  generalize prodX a b=mk at *
  generalize chk2 a b=n at *
  clear hc hl
  go_enter Tryz.func28,Tryz.ntmps28
  go_wp2_with ((clear TK0;go_at_call 114;refine (HCK.out).mono ?_;rintro e w1 ⟨rfl,hb⟩;have N1:=Lib.hid (N0.out.later hb);clear hb))
  go_wp2
  go_ret2
  rw [HR.out]
  exact ⟨rfl,N1.out.below⟩
theorem stage_three {F:Fence} {n:Nat} {P:Program} {C:World→Prop} {ops:List Oper} {H:List Nat} {waits:Nat→Bool} {Q':Act→World→Prop} {f:Nat} {LT:Array Bool} {a:Act} {w:World} (i j k:Nat) {o o2 o3:Oper} (hr:Region.ready .any ops.toArray LT=[i,j,k]) (ho:ops[i]?=some o) (ho2:ops[j]?=some o2) (ho3:ops[k]?=some o3)
  (h:wpListIn F n P ops.toArray (StagePost F n P ops H C waits Q' f LT i) [o] a w) (h2:wpListIn F n P ops.toArray (StagePost F n P ops H C waits Q' f LT j) [o2] a w) (h3:wpListIn F n P ops.toArray (StagePost F n P ops H C waits Q' f LT k) [o3] a w):wpStage F n P ops H C waits Q' (f+1) LT a w :=
 .inr ⟨fun e=>(by rw [hr] at e;cases e),fun l hl o' ho'=>by
  rw [hr] at hl
  simp only [List.mem_cons,List.not_mem_nil,or_false] at hl
  rcases hl with rfl|rfl|rfl
  ·rw [ho] at ho';cases ho';exact h
  ·rw [ho2] at ho';cases ho';exact h2
  ·rw [ho3] at ho';cases ho';exact h3⟩
theorem share3 {A B C:Type} (P:A→B→C→Prop) {T:Prop} (G:A→B→C→Prop) (main:(∀ a b c,P a b c→G a b c)→T) (rest:∀ a b c,P a b c→G a b c):T:=main rest
theorem lossAdds_any (a b c d:List L2) (va vb vc vd:Value) (f g:ByteArray) (w:World) (ha:LRowW w va a) (hb:LRowW w vb b) (hc:LRowW w vc c) (hd:LRowW w vd d) (hf:f.size≤maxLen) (hg:g.size≤maxLen) (hr:Res w) :
  Calls Tryz.prog 8 #[va,vb,vc,vd,.string f,.string g] w fun e w'=>e=.returned (.bool true)∧Below w.heap.size w w':=by
 have N0:=Lib.hid (NW.refl hr)
 have HLV:=Lib.hid (fun (w:World) hr=>llives_any w hr)
 have HMD:=Lib.hid (fun (W:World) (hW:NW w W)=>made9_any [a,b,c,d] (.slice (some ⟨W.heap.size,0,none⟩) 4 4) (W.alloc (.cells #[va,vb,vc,vd] 22))
  (LLRow.ofBlk (vs:=[(va,a),(vb,b),(vc,c),(vd,d)]) (Blk.new W 22 #[va,vb,vc,vd]) rfl (by simp) (fun x hx=>by
   have hbw:=below_alloc hW.below (.cells #[va,vb,vc,vd] 22)
   simp only [List.mem_cons,List.not_mem_nil,or_false] at hx
   rcases hx with rfl|rfl|rfl|rfl
   ·exact ha.below hbw
   ·exact hb.below hbw
   ·exact hc.below hbw
   ·exact hd.below hbw
  )) (by simp) (hW.alloc _).res rdmake_any)
 obtain ⟨A0,c0,rfl,_,_⟩:=id ha
 obtain ⟨A1,c1,rfl,_,_⟩:=id hb
 obtain ⟨A2,c2,rfl,_,_⟩:=id hc
 obtain ⟨A3,c3,rfl,_,_⟩:=id hd
 clear ha hb hc hd hr
 have TK0:True:=trivial
 have TK1:True:=trivial
 cases hm:madeD 12 12 24 [a,b,c,d] with
 | none =>
  rw [hm] at HMD
  change Hid (∀ W (_:NW w W),Calls _ _ _ _ fun e w'=>e=.returned (.tuple #[.slice none 0 0,.bool false])∧_) at HMD
  clear hm
  go_enter Tryz.func8,Tryz.ntmps8
  go_wp2_with ((clear TK0;go_at_call 65;refine (HLV.out _ N0.out.res).mono ?_;rintro e w1 ⟨rfl,hb⟩;have N1:=Lib.hid (N0.out.later hb);clear hb))
  go_wp2_with ((clear TK1;go_at_call 66;refine (HMD.out _ N1.out).mono ?_;rintro e w2 ⟨rfl,hb⟩;have N2:=Lib.hid ((N1.out.alloc _).later hb);clear hb))
  go_wp2
  go_ret
  exact ⟨rfl,N2.out.below⟩
 | some outs =>
  obtain ⟨hol,hod⟩:=Made9.of hm
  obtain ⟨l0,l1,l2,l3,rfl⟩:∃ l0 l1 l2 l3,outs=[l0,l1,l2,l3]:=by
   match outs,hol with
   | [x0,x1,x2,x3],_=>exact ⟨x0,x1,x2,x3,rfl⟩
  rw [hm] at HMD
  change Hid (∀ W (_:NW w W),Calls _ _ _ _ fun e w'=>(∃ u,e=.returned (.tuple #[u,.bool true])∧LLRow w' u [l0,l1,l2,l3])∧_) at HMD
  have M0:=hod l0 (by simp)
  have M1:=hod l1 (by simp)
  have M2:=hod l2 (by simp)
  have M3:=hod l3 (by simp)
  clear hm hol hod
  have HNF:=Lib.hid (fun (W:World) (_:Res W)=>factor_any f W hf)
  have HNG:=Lib.hid (fun (W:World) (_:Res W)=>factor_any g W hg)
  have TK2:True:=trivial
  have TK3:True:=trivial
  cases hnf:factorB f with
  | false =>
   rw [hnf] at HNF
   clear hnf M0 M1 M2 M3
   go_enter Tryz.func8,Tryz.ntmps8
   go_wp2_with ((clear TK0;go_at_call 65;refine (HLV.out _ N0.out.res).mono ?_;rintro e w1 ⟨rfl,hb⟩;have N1:=Lib.hid (N0.out.later hb);clear hb))
   go_wp2_with ((clear TK1;go_at_call 66;refine (HMD.out _ N1.out).mono ?_;rintro e w2 ⟨⟨u,rfl,hl⟩,hb⟩;obtain ⟨bb,cc,rfl,hbb,_,hcell⟩:=hl;have HCL:=Lib.hid (And.intro hbb hcell);have N2:=Lib.hid ((N1.out.alloc _).later hb);clear hb hbb hcell))
   obtain ⟨B0,k0,y0,rr⟩:=LLRow.nth (j:=0) (l:=l0) HCL.out.1 HCL.out.2 rfl
   have R0:=Lib.hid rr
   clear rr
   obtain ⟨B1,k1,y1,rr⟩:=LLRow.nth (j:=1) (l:=l1) HCL.out.1 HCL.out.2 rfl
   have R1:=Lib.hid rr
   clear rr
   obtain ⟨B2,k2,y2,rr⟩:=LLRow.nth (j:=2) (l:=l2) HCL.out.1 HCL.out.2 rfl
   have R2:=Lib.hid rr
   clear rr
   obtain ⟨B3,k3,y3,rr⟩:=LLRow.nth (j:=3) (l:=l3) HCL.out.1 HCL.out.2 rfl
   have R3:=Lib.hid rr
   clear rr
   have RS:=Lib.hid (fun z:LaterW w2=>N2.out.res.below z.h)
   clear HCL
   go_wp2_with ((clear TK2;go_at_call 67;refine (HNF.out _ (RS.out ⟨w2,Below.refl _ _⟩)).mono ?_;rintro e w9 ⟨rfl,hb9⟩;obtain ⟨z0,rfl⟩:=LaterW.step ⟨w2,Below.refl _ _⟩ hb9;clear hb9))
   go_wp2
   go_ret
   exact ⟨rfl,(N2.out.later z0.h).below⟩
  | true =>
   rw [hnf] at HNF
   obtain ⟨F,rfl,F1,sF,fF⟩:=factor_text hnf
   clear hnf
   cases hng:factorB g with
   | false =>
    rw [hng] at HNG
    clear hng M0 M1 M2 M3 F1 sF fF
    generalize rT F=tF at *
    go_enter Tryz.func8,Tryz.ntmps8
    go_wp2_with ((clear TK0;go_at_call 65;refine (HLV.out _ N0.out.res).mono ?_;rintro e w1 ⟨rfl,hb⟩;have N1:=Lib.hid (N0.out.later hb);clear hb))
    go_wp2_with ((clear TK1;go_at_call 66;refine (HMD.out _ N1.out).mono ?_;rintro e w2 ⟨⟨u,rfl,hl⟩,hb⟩;obtain ⟨bb,cc,rfl,hbb,_,hcell⟩:=hl;have HCL:=Lib.hid (And.intro hbb hcell);have N2:=Lib.hid ((N1.out.alloc _).later hb);clear hb hbb hcell))
    obtain ⟨B0,k0,y0,rr⟩:=LLRow.nth (j:=0) (l:=l0) HCL.out.1 HCL.out.2 rfl
    have R0:=Lib.hid rr
    clear rr
    obtain ⟨B1,k1,y1,rr⟩:=LLRow.nth (j:=1) (l:=l1) HCL.out.1 HCL.out.2 rfl
    have R1:=Lib.hid rr
    clear rr
    obtain ⟨B2,k2,y2,rr⟩:=LLRow.nth (j:=2) (l:=l2) HCL.out.1 HCL.out.2 rfl
    have R2:=Lib.hid rr
    clear rr
    obtain ⟨B3,k3,y3,rr⟩:=LLRow.nth (j:=3) (l:=l3) HCL.out.1 HCL.out.2 rfl
    have R3:=Lib.hid rr
    clear rr
    have RS:=Lib.hid (fun z:LaterW w2=>N2.out.res.below z.h)
    clear HCL
    go_wp2_with ((clear TK2;go_at_call 67;refine (HNF.out _ (RS.out ⟨w2,Below.refl _ _⟩)).mono ?_;rintro e w9 ⟨rfl,hb9⟩;obtain ⟨z0,rfl⟩:=LaterW.step ⟨w2,Below.refl _ _⟩ hb9;clear hb9))
    go_wp2_with ((clear TK3;go_at_call 67;refine (HNG.out _ (RS.out z0)).mono ?_;rintro e w9 ⟨rfl,hb9⟩;obtain ⟨z1,rfl⟩:=LaterW.step z0 hb9;clear hb9))
    go_wp2
    go_ret
    exact ⟨rfl,(N2.out.later z1.h).below⟩
   | true =>
    rw [hng] at HNG
    obtain ⟨G,rfl,G1,sG,fG⟩:=factor_text hng
    clear hng
    have F0:0≤F:=Rat.le_trans (by decide) F1
    have G0:0≤G:=Rat.le_trans (by decide) G1
    obtain ⟨Lf,hLf,rfl,rfl,rfl,rfl⟩:∃ L:Nat→List L2,(∀ i,Made9 (L i))∧L 0=l0∧L 1=l1∧L 2=l2∧L 3=l3:=⟨fun i=>match i with|0=>l0|1=>l1|2=>l2|_=>l3,fun i=>(match i with|0=>M0|1=>M1|2=>M2|_+3=>M3),rfl,rfl,rfl,rfl⟩
    have hD:=fun i=>(hLf i).dst
    obtain ⟨p,q,ep,eq,hp,hq,hadd,hx,hy,hz,fM,fN⟩:=add_all hD (fun i=>(hLf i).len) (fun i=>(hLf i).key) F1 G1 sF sG
    have HL0:=Lib.hid (fun (u v:Value) (W:World) (hu:LRow W u (Lf 0)) (hv:LRow W v (Lf 1)) (hr:Res W)=>least9_pair hD F0 F1 sF 0 u v W hu hv (hLf 0).short (hLf 1).short hr)
    have HL2:=Lib.hid (fun (u v:Value) (W:World) (hu:LRow W u (Lf 2)) (hv:LRow W v (Lf 3)) (hr:Res W)=>least9_pair hD G0 G1 sG 2 u v W hu hv (hLf 2).short (hLf 3).short hr)
    have HXC:=Lib.hid (fun (u v:Value) (W:World) (hu:LRow W u (Lf 0)) (hv:LRow W v (Lf 2)) (hr:Res W)=>rdprod_any (Lf 0) (Lf 2) u v W hu hv (hLf 0).short (hLf 2).short (fun x hx=>Nat.le_trans ((hLf 0).key x hx) (by omega)) (fun x hx=>Nat.le_trans ((hLf 2).key x hx) (by omega)) (Nat.le_trans (Nat.mul_le_mul (hLf 0).len (hLf 2).len) (by omega)) hr)
    have HYC:=Lib.hid (fun (u v:Value) (W:World) (hu:LRow W u (Lf 1)) (hv:LRow W v (Lf 3)) (hr:Res W)=>rdprod_any (Lf 1) (Lf 3) u v W hu hv (hLf 1).short (hLf 3).short (fun x hx=>Nat.le_trans ((hLf 1).key x hx) (by omega)) (fun x hx=>Nat.le_trans ((hLf 3).key x hx) (by omega)) (Nat.le_trans (Nat.mul_le_mul (hLf 1).len (hLf 3).len) (by omega)) hr)
    rw [ep] at HXC
    rw [eq] at HYC
    change Hid (∀ u v W (_:LRow W u (Lf 0)) (_:LRow W v (Lf 2)) (_:Res W),Calls _ _ _ _ fun e w'=>(∃ u,e=.returned (.tuple #[u,.int .i64 0])∧OwnM _ w' u p)∧_) at HXC
    change Hid (∀ u v W (_:LRow W u (Lf 1)) (_:LRow W v (Lf 3)) (_:Res W),Calls _ _ _ _ fun e w'=>(∃ u,e=.returned (.tuple #[u,.int .i64 0])∧OwnM _ w' u q)∧_) at HYC
    have z1:=size_ok (err_rT fF)
    have z2:=size_ok (err_rT (near_fit hD F0 sF 0))
    have z3:=size_ok (err_rT fG)
    have z4:=size_ok (err_rT (near_fit hD G0 sG 2))
    have z5:=size_ok (err_rT fM)
    have z6:=size_ok (err_rT fN)
    have HAD:=Lib.hid (fun (W:World) (hr:Res W)=>lossAdd_any (rT F) (rT (nearQ Lf F 0)) (rT G) (rT (nearQ Lf G 2)) W z1 z2 z3 z4 hr)
    rw [hadd] at HAD
    change Hid (∀ (W:World) (_:Res W),Calls _ _ _ _ fun e w'=>e=.returned (.tuple #[.agg #[.string (rT (F*G)),.string (rT (minQ (nearQ Lf F 0+nearQ Lf G 2) 1))],.int .i64 0])∧_) at HAD
    have HH1:=Lib.hid (fun u v (W:World) (hu:LRow W u (Lf 0)) (hv:LRow W v (Lf 1)) (hr:Res W)=>holds9_any _ _ (Lf 0) (Lf 1) u v true W hu hv (hLf 0).short (hLf 1).short z1 z2 hr hx)
    have HH2:=Lib.hid (fun u v (W:World) (hu:LRow W u (Lf 2)) (hv:LRow W v (Lf 3)) (hr:Res W)=>holds9_any _ _ (Lf 2) (Lf 3) u v true W hu hv (hLf 2).short (hLf 3).short z3 z4 hr hy)
    have HH3:=Lib.hid (fun u v (W:World) (hu:LRow W u p) (hv:LRow W v q) (hr:Res W)=>holds9_any _ _ p q u v true W hu hv hp.1 hq.1 z5 z6 hr hz)
    have HLP:=Lib.hid hp.2
    have HLQ:=Lib.hid hq.2
    generalize rT (minQ (nearQ Lf F 0+nearQ Lf G 2) 1)=td at *
    generalize rT (nearQ Lf F 0)=tx at *
    generalize rT (nearQ Lf G 2)=ty at *
    generalize rT (F*G)=tM at *
    generalize rT F=tF at *
    generalize rT G=tG at *
    clear z1 z2 z3 z4 z5 z6 hx hy hz fM fN hadd hp hq ep eq hD F0 G0 F1 G1 sF sG fF fG
    have HLE:=fun i=>(hLf i).len
    have HLE:=Lib.hid HLE
    clear hLf
    refine (callsIn_wide (n:=6)).1 ?_
    have h1:1≤6:=by omega
    have hmx:Tryz.prog.follows .mixedOrders=true:=by kernel_rfl
    refine callsIn_of_wp Tryz.func8 rfl trivial ?_ rfl
    simp only [Tryz.ntmps8,List.size_toArray,List.length_cons,List.length_nil,Nat.reduceAdd,Nat.reduceSub,Array.replicate_succ,Array.replicate_zero,List.push_toArray,List.append_toArray,List.nil_append,List.cons_append]
    gi_wp2_with ((clear TK0;gi_at_call 65;refine (callsIn_wide.2 (HLV.out _ N0.out.res)).mono ?_;rintro e w1 ⟨rfl,hb⟩;have N1:=Lib.hid (N0.out.later hb);clear hb))
    gi_wp2_with ((clear TK1;gi_at_call 66;refine (callsIn_wide.2 (HMD.out _ N1.out)).mono ?_;rintro e w2 ⟨⟨u,rfl,hl⟩,hb⟩;obtain ⟨bb,cc,rfl,hbb,_,hcell⟩:=hl;have HCL:=Lib.hid (And.intro hbb hcell);have N2:=Lib.hid ((N1.out.alloc _).later hb);clear hb hbb hcell))
    obtain ⟨B0,k0,y0,rr⟩:=LLRow.nth (j:=0) (l:=Lf 0) HCL.out.1 HCL.out.2 rfl
    have R0:=Lib.hid rr
    clear rr
    obtain ⟨B1,k1,y1,rr⟩:=LLRow.nth (j:=1) (l:=Lf 1) HCL.out.1 HCL.out.2 rfl
    have R1:=Lib.hid rr
    clear rr
    obtain ⟨B2,k2,y2,rr⟩:=LLRow.nth (j:=2) (l:=Lf 2) HCL.out.1 HCL.out.2 rfl
    have R2:=Lib.hid rr
    clear rr
    obtain ⟨B3,k3,y3,rr⟩:=LLRow.nth (j:=3) (l:=Lf 3) HCL.out.1 HCL.out.2 rfl
    have R3:=Lib.hid rr
    clear rr
    have RS:=Lib.hid (fun z:LaterW w2=>N2.out.res.below z.h)
    have HBB:=Lib.hid HCL.out.1
    clear HCL
    gi_wp2_with ((clear TK2;gi_at_call 67;refine (callsIn_wide.2 (HNF.out _ (RS.out ⟨w2,Below.refl _ _⟩))).mono ?_;rintro e w9 ⟨rfl,hb9⟩;obtain ⟨z0,rfl⟩:=LaterW.step ⟨w2,Below.refl _ _⟩ hb9;clear hb9))
    gi_wp2_with ((clear TK3;gi_at_call 67;refine (callsIn_wide.2 (HNG.out _ (RS.out z0))).mono ?_;rintro e w9 ⟨rfl,hb9⟩;obtain ⟨z1,rfl⟩:=LaterW.step z0 hb9;clear hb9))
    gi_wp2
    have HL0q:=Lib.hid (fun z:LaterW w2=>HL0.out _ _ _ ((R0.out _).row (Nat.le_trans (HLE.out 0) (by omega))) ((R1.out _).row (Nat.le_trans (HLE.out 1) (by omega))) (RS.out z))
    have HL2q:=Lib.hid (fun z:LaterW w2=>HL2.out _ _ _ ((R2.out _).row (Nat.le_trans (HLE.out 2) (by omega))) ((R3.out _).row (Nat.le_trans (HLE.out 3) (by omega))) (RS.out z))
    have V0:∀ x:SameAt z1.W (fun k=>k < z1.W.heap.size),x.W.cell? ⟨bb,0,none⟩=some (.slice B0 (Lf 0).length k0):=fun x=>x.cell (Nat.lt_of_lt_of_le HBB.out z1.h.size) (y0 z1)
    have V1:∀ x:SameAt z1.W (fun k=>k < z1.W.heap.size),x.W.cell? ⟨bb,1,none⟩=some (.slice B1 (Lf 1).length k1):=fun x=>x.cell (Nat.lt_of_lt_of_le HBB.out z1.h.size) (y1 z1)
    have V2:∀ x:SameAt z1.W (fun k=>k < z1.W.heap.size),x.W.cell? ⟨bb,2,none⟩=some (.slice B2 (Lf 2).length k2):=fun x=>x.cell (Nat.lt_of_lt_of_le HBB.out z1.h.size) (y2 z1)
    have V3:∀ x:SameAt z1.W (fun k=>k < z1.W.heap.size),x.W.cell? ⟨bb,3,none⟩=some (.slice B3 (Lf 3).length k3):=fun x=>x.cell (Nat.lt_of_lt_of_le HBB.out z1.h.size) (y3 z1)
    refine wpIn_stage (IsSame z1.W (fun k=>k < z1.W.heap.size)) [0,1,2,3,4,5,6,8,9,10,11,12,13,14] [] hmx (by kernel_rfl) (isSame_of fun _ _=>rfl) ?_
    change wpStage _ _ _ _ _ _ _ _ (6+14) _ _ _
    refine stage_reads [0,1,2,3,4,5,6,8,9,10,11,12,13,14] 6 _ _ (by kernel_rfl) ?_
    change wpQuietIn _ _ _ _ (fun W'=>∃ x:SameAt z1.W (fun k=>k < z1.W.heap.size),W'=x.W) _ _ _
    simp only [pick_cons,pick_nil,List.getElem?_cons_zero,List.getElem?_cons_succ,Option.elim_some]
    repeat (gi_big_quiet_step (fail))
    refine wpQuietIn_nil ?_
    clear V0 V1 V2 V3
    obtain ⟨zd,hzd⟩:=LaterW.step z1 (below_drewM z1.W)
    have HS:=Lib.hid (below_drewM z1.W)
    rw [hzd] at HS ⊢
    clear hzd
    apply share3 (fun (b1 b2:Nat) (z:LaterW w2)=>Below z1.W.heap.size z1.W z.W∧z1.W.heap.size≤b1∧z1.W.heap.size≤b2∧b1≠b2∧Blk z.W b1 63 #[.string ⟨#[]⟩,.string ⟨#[]⟩]∧Blk z.W b2 63 #[.string ⟨#[]⟩,.string ⟨#[]⟩])
    case main =>
     intro SH
     refine stage_three 7 16 17 (by kernel_rfl) rfl rfl rfl ?_ ?_ ?_
     ·skip
      gi_wp2_with (gi_at_call 68;refine (callsIn_wide.2 (HL0q.out zd)).mono ?_;rintro e w9 ⟨rfl,hb9⟩;have HS:=Lib.hid (HS.out.trans (hb9.mono HS.out.size));obtain ⟨zd,rfl⟩:=LaterW.step zd hb9;clear hb9)
      refine stage_post (isSame_below HS.out (fun k hk=>hk)) ?_
      refine stage_three 15 16 17 (by kernel_rfl) rfl rfl rfl ?_ ?_ ?_
      ·skip
       gi_wp2_with (gi_at_call 68;refine (callsIn_wide.2 (HL2q.out zd)).mono ?_;rintro e w9 ⟨rfl,hb9⟩;have HS:=Lib.hid (HS.out.trans (hb9.mono HS.out.size));obtain ⟨zd,rfl⟩:=LaterW.step zd hb9;clear hb9)
       refine stage_post (isSame_below HS.out (fun k hk=>hk)) ?_
       refine stage_two 16 17 (by kernel_rfl) rfl rfl ?_ ?_
       ·skip
        gi_wp2
        have hb9:=below_alloc (Below.refl zd.W.heap.size zd.W) (.cells #[.string ⟨#[]⟩,.string ⟨#[]⟩] 63)
        have K1:=Blk.new zd.W 63 #[.string ⟨#[]⟩,.string ⟨#[]⟩]
        have lo1:=HS.out.size
        have HS:=Lib.hid (HS.out.trans (hb9.mono HS.out.size))
        obtain ⟨ze,hze⟩:=LaterW.step zd hb9
        clear hb9
        rw [hze] at K1 HS ⊢
        have K1:=Lib.hid K1
        clear hze
        generalize zd.W.heap.size=b1 at *
        obtain ⟨zd,rfl⟩:∃ x,x=ze:=⟨_,rfl⟩
        refine stage_post (isSame_below HS.out (fun k hk=>hk)) ?_
        refine stage_one 17 (by kernel_rfl) rfl ?_
        gi_wp2
        have hb9:=below_alloc (Below.refl zd.W.heap.size zd.W) (.cells #[.string ⟨#[]⟩,.string ⟨#[]⟩] 63)
        have K2:=Blk.new zd.W 63 #[.string ⟨#[]⟩,.string ⟨#[]⟩]
        have lo2:=HS.out.size
        have hne:b1 < zd.W.heap.size:=K1.out.lt
        have K1:=Lib.hid (K1.out.below hb9 K1.out.lt)
        have HS:=Lib.hid (HS.out.trans (hb9.mono HS.out.size))
        obtain ⟨ze,hze⟩:=LaterW.step zd hb9
        clear hb9
        rw [hze] at K2 HS K1 ⊢
        have K2:=Lib.hid K2
        clear hze
        generalize zd.W.heap.size=b2 at *
        obtain ⟨zd,rfl⟩:∃ x,x=ze:=⟨_,rfl⟩
        refine stage_post (isSame_below HS.out (fun k hk=>hk)) ?_
        exact SH _ _ _ ⟨HS.out,lo1,lo2,by omega,K1.out,K2.out⟩
       ·skip
        gi_wp2
        have hb9:=below_alloc (Below.refl zd.W.heap.size zd.W) (.cells #[.string ⟨#[]⟩,.string ⟨#[]⟩] 63)
        have K2:=Blk.new zd.W 63 #[.string ⟨#[]⟩,.string ⟨#[]⟩]
        have lo2:=HS.out.size
        have HS:=Lib.hid (HS.out.trans (hb9.mono HS.out.size))
        obtain ⟨ze,hze⟩:=LaterW.step zd hb9
        clear hb9
        rw [hze] at K2 HS ⊢
        have K2:=Lib.hid K2
        clear hze
        generalize zd.W.heap.size=b2 at *
        obtain ⟨zd,rfl⟩:∃ x,x=ze:=⟨_,rfl⟩
        refine stage_post (isSame_below HS.out (fun k hk=>hk)) ?_
        refine stage_one 16 (by kernel_rfl) rfl ?_
        gi_wp2
        have hb9:=below_alloc (Below.refl zd.W.heap.size zd.W) (.cells #[.string ⟨#[]⟩,.string ⟨#[]⟩] 63)
        have K1:=Blk.new zd.W 63 #[.string ⟨#[]⟩,.string ⟨#[]⟩]
        have lo1:=HS.out.size
        have hne:b2 < zd.W.heap.size:=K2.out.lt
        have K2:=Lib.hid (K2.out.below hb9 K2.out.lt)
        have HS:=Lib.hid (HS.out.trans (hb9.mono HS.out.size))
        obtain ⟨ze,hze⟩:=LaterW.step zd hb9
        clear hb9
        rw [hze] at K1 HS K2 ⊢
        have K1:=Lib.hid K1
        clear hze
        generalize zd.W.heap.size=b1 at *
        obtain ⟨zd,rfl⟩:∃ x,x=ze:=⟨_,rfl⟩
        refine stage_post (isSame_below HS.out (fun k hk=>hk)) ?_
        exact SH _ _ _ ⟨HS.out,lo1,lo2,by omega,K1.out,K2.out⟩
      ·skip
       gi_wp2
       have hb9:=below_alloc (Below.refl zd.W.heap.size zd.W) (.cells #[.string ⟨#[]⟩,.string ⟨#[]⟩] 63)
       have K1:=Blk.new zd.W 63 #[.string ⟨#[]⟩,.string ⟨#[]⟩]
       have lo1:=HS.out.size
       have HS:=Lib.hid (HS.out.trans (hb9.mono HS.out.size))
       obtain ⟨ze,hze⟩:=LaterW.step zd hb9
       clear hb9
       rw [hze] at K1 HS ⊢
       have K1:=Lib.hid K1
       clear hze
       generalize zd.W.heap.size=b1 at *
       obtain ⟨zd,rfl⟩:∃ x,x=ze:=⟨_,rfl⟩
       refine stage_post (isSame_below HS.out (fun k hk=>hk)) ?_
       refine stage_two 15 17 (by kernel_rfl) rfl rfl ?_ ?_
       ·skip
        gi_wp2_with (gi_at_call 68;refine (callsIn_wide.2 (HL2q.out zd)).mono ?_;rintro e w9 ⟨rfl,hb9⟩;have HS:=Lib.hid (HS.out.trans (hb9.mono HS.out.size));have K1:=Lib.hid (K1.out.below hb9 K1.out.lt);obtain ⟨zd,rfl⟩:=LaterW.step zd hb9;clear hb9)
        refine stage_post (isSame_below HS.out (fun k hk=>hk)) ?_
        refine stage_one 17 (by kernel_rfl) rfl ?_
        gi_wp2
        have hb9:=below_alloc (Below.refl zd.W.heap.size zd.W) (.cells #[.string ⟨#[]⟩,.string ⟨#[]⟩] 63)
        have K2:=Blk.new zd.W 63 #[.string ⟨#[]⟩,.string ⟨#[]⟩]
        have lo2:=HS.out.size
        have hne:b1 < zd.W.heap.size:=K1.out.lt
        have K1:=Lib.hid (K1.out.below hb9 K1.out.lt)
        have HS:=Lib.hid (HS.out.trans (hb9.mono HS.out.size))
        obtain ⟨ze,hze⟩:=LaterW.step zd hb9
        clear hb9
        rw [hze] at K2 HS K1 ⊢
        have K2:=Lib.hid K2
        clear hze
        generalize zd.W.heap.size=b2 at *
        obtain ⟨zd,rfl⟩:∃ x,x=ze:=⟨_,rfl⟩
        refine stage_post (isSame_below HS.out (fun k hk=>hk)) ?_
        exact SH _ _ _ ⟨HS.out,lo1,lo2,by omega,K1.out,K2.out⟩
       ·skip
        gi_wp2
        have hb9:=below_alloc (Below.refl zd.W.heap.size zd.W) (.cells #[.string ⟨#[]⟩,.string ⟨#[]⟩] 63)
        have K2:=Blk.new zd.W 63 #[.string ⟨#[]⟩,.string ⟨#[]⟩]
        have lo2:=HS.out.size
        have hne:b1 < zd.W.heap.size:=K1.out.lt
        have K1:=Lib.hid (K1.out.below hb9 K1.out.lt)
        have HS:=Lib.hid (HS.out.trans (hb9.mono HS.out.size))
        obtain ⟨ze,hze⟩:=LaterW.step zd hb9
        clear hb9
        rw [hze] at K2 HS K1 ⊢
        have K2:=Lib.hid K2
        clear hze
        generalize zd.W.heap.size=b2 at *
        obtain ⟨zd,rfl⟩:∃ x,x=ze:=⟨_,rfl⟩
        refine stage_post (isSame_below HS.out (fun k hk=>hk)) ?_
        refine stage_one 15 (by kernel_rfl) rfl ?_
        gi_wp2_with (gi_at_call 68;refine (callsIn_wide.2 (HL2q.out zd)).mono ?_;rintro e w9 ⟨rfl,hb9⟩;have HS:=Lib.hid (HS.out.trans (hb9.mono HS.out.size));have K1:=Lib.hid (K1.out.below hb9 K1.out.lt);have K2:=Lib.hid (K2.out.below hb9 K2.out.lt);obtain ⟨zd,rfl⟩:=LaterW.step zd hb9;clear hb9)
        refine stage_post (isSame_below HS.out (fun k hk=>hk)) ?_
        exact SH _ _ _ ⟨HS.out,lo1,lo2,by omega,K1.out,K2.out⟩
      ·skip
       gi_wp2
       have hb9:=below_alloc (Below.refl zd.W.heap.size zd.W) (.cells #[.string ⟨#[]⟩,.string ⟨#[]⟩] 63)
       have K2:=Blk.new zd.W 63 #[.string ⟨#[]⟩,.string ⟨#[]⟩]
       have lo2:=HS.out.size
       have HS:=Lib.hid (HS.out.trans (hb9.mono HS.out.size))
       obtain ⟨ze,hze⟩:=LaterW.step zd hb9
       clear hb9
       rw [hze] at K2 HS ⊢
       have K2:=Lib.hid K2
       clear hze
       generalize zd.W.heap.size=b2 at *
       obtain ⟨zd,rfl⟩:∃ x,x=ze:=⟨_,rfl⟩
       refine stage_post (isSame_below HS.out (fun k hk=>hk)) ?_
       refine stage_two 15 16 (by kernel_rfl) rfl rfl ?_ ?_
       ·skip
        gi_wp2_with (gi_at_call 68;refine (callsIn_wide.2 (HL2q.out zd)).mono ?_;rintro e w9 ⟨rfl,hb9⟩;have HS:=Lib.hid (HS.out.trans (hb9.mono HS.out.size));have K2:=Lib.hid (K2.out.below hb9 K2.out.lt);obtain ⟨zd,rfl⟩:=LaterW.step zd hb9;clear hb9)
        refine stage_post (isSame_below HS.out (fun k hk=>hk)) ?_
        refine stage_one 16 (by kernel_rfl) rfl ?_
        gi_wp2
        have hb9:=below_alloc (Below.refl zd.W.heap.size zd.W) (.cells #[.string ⟨#[]⟩,.string ⟨#[]⟩] 63)
        have K1:=Blk.new zd.W 63 #[.string ⟨#[]⟩,.string ⟨#[]⟩]
        have lo1:=HS.out.size
        have hne:b2 < zd.W.heap.size:=K2.out.lt
        have K2:=Lib.hid (K2.out.below hb9 K2.out.lt)
        have HS:=Lib.hid (HS.out.trans (hb9.mono HS.out.size))
        obtain ⟨ze,hze⟩:=LaterW.step zd hb9
        clear hb9
        rw [hze] at K1 HS K2 ⊢
        have K1:=Lib.hid K1
        clear hze
        generalize zd.W.heap.size=b1 at *
        obtain ⟨zd,rfl⟩:∃ x,x=ze:=⟨_,rfl⟩
        refine stage_post (isSame_below HS.out (fun k hk=>hk)) ?_
        exact SH _ _ _ ⟨HS.out,lo1,lo2,by omega,K1.out,K2.out⟩
       ·skip
        gi_wp2
        have hb9:=below_alloc (Below.refl zd.W.heap.size zd.W) (.cells #[.string ⟨#[]⟩,.string ⟨#[]⟩] 63)
        have K1:=Blk.new zd.W 63 #[.string ⟨#[]⟩,.string ⟨#[]⟩]
        have lo1:=HS.out.size
        have hne:b2 < zd.W.heap.size:=K2.out.lt
        have K2:=Lib.hid (K2.out.below hb9 K2.out.lt)
        have HS:=Lib.hid (HS.out.trans (hb9.mono HS.out.size))
        obtain ⟨ze,hze⟩:=LaterW.step zd hb9
        clear hb9
        rw [hze] at K1 HS K2 ⊢
        have K1:=Lib.hid K1
        clear hze
        generalize zd.W.heap.size=b1 at *
        obtain ⟨zd,rfl⟩:∃ x,x=ze:=⟨_,rfl⟩
        refine stage_post (isSame_below HS.out (fun k hk=>hk)) ?_
        refine stage_one 15 (by kernel_rfl) rfl ?_
        gi_wp2_with (gi_at_call 68;refine (callsIn_wide.2 (HL2q.out zd)).mono ?_;rintro e w9 ⟨rfl,hb9⟩;have HS:=Lib.hid (HS.out.trans (hb9.mono HS.out.size));have K1:=Lib.hid (K1.out.below hb9 K1.out.lt);have K2:=Lib.hid (K2.out.below hb9 K2.out.lt);obtain ⟨zd,rfl⟩:=LaterW.step zd hb9;clear hb9)
        refine stage_post (isSame_below HS.out (fun k hk=>hk)) ?_
        exact SH _ _ _ ⟨HS.out,lo1,lo2,by omega,K1.out,K2.out⟩
     ·skip
      gi_wp2
      have hb9:=below_alloc (Below.refl zd.W.heap.size zd.W) (.cells #[.string ⟨#[]⟩,.string ⟨#[]⟩] 63)
      have K1:=Blk.new zd.W 63 #[.string ⟨#[]⟩,.string ⟨#[]⟩]
      have lo1:=HS.out.size
      have HS:=Lib.hid (HS.out.trans (hb9.mono HS.out.size))
      obtain ⟨ze,hze⟩:=LaterW.step zd hb9
      clear hb9
      rw [hze] at K1 HS ⊢
      have K1:=Lib.hid K1
      clear hze
      generalize zd.W.heap.size=b1 at *
      obtain ⟨zd,rfl⟩:∃ x,x=ze:=⟨_,rfl⟩
      refine stage_post (isSame_below HS.out (fun k hk=>hk)) ?_
      refine stage_two 7 17 (by kernel_rfl) rfl rfl ?_ ?_
      ·skip
       gi_wp2_with (gi_at_call 68;refine (callsIn_wide.2 (HL0q.out zd)).mono ?_;rintro e w9 ⟨rfl,hb9⟩;have HS:=Lib.hid (HS.out.trans (hb9.mono HS.out.size));have K1:=Lib.hid (K1.out.below hb9 K1.out.lt);obtain ⟨zd,rfl⟩:=LaterW.step zd hb9;clear hb9)
       refine stage_post (isSame_below HS.out (fun k hk=>hk)) ?_
       refine stage_two 15 17 (by kernel_rfl) rfl rfl ?_ ?_
       ·skip
        gi_wp2_with (gi_at_call 68;refine (callsIn_wide.2 (HL2q.out zd)).mono ?_;rintro e w9 ⟨rfl,hb9⟩;have HS:=Lib.hid (HS.out.trans (hb9.mono HS.out.size));have K1:=Lib.hid (K1.out.below hb9 K1.out.lt);obtain ⟨zd,rfl⟩:=LaterW.step zd hb9;clear hb9)
        refine stage_post (isSame_below HS.out (fun k hk=>hk)) ?_
        refine stage_one 17 (by kernel_rfl) rfl ?_
        gi_wp2
        have hb9:=below_alloc (Below.refl zd.W.heap.size zd.W) (.cells #[.string ⟨#[]⟩,.string ⟨#[]⟩] 63)
        have K2:=Blk.new zd.W 63 #[.string ⟨#[]⟩,.string ⟨#[]⟩]
        have lo2:=HS.out.size
        have hne:b1 < zd.W.heap.size:=K1.out.lt
        have K1:=Lib.hid (K1.out.below hb9 K1.out.lt)
        have HS:=Lib.hid (HS.out.trans (hb9.mono HS.out.size))
        obtain ⟨ze,hze⟩:=LaterW.step zd hb9
        clear hb9
        rw [hze] at K2 HS K1 ⊢
        have K2:=Lib.hid K2
        clear hze
        generalize zd.W.heap.size=b2 at *
        obtain ⟨zd,rfl⟩:∃ x,x=ze:=⟨_,rfl⟩
        refine stage_post (isSame_below HS.out (fun k hk=>hk)) ?_
        exact SH _ _ _ ⟨HS.out,lo1,lo2,by omega,K1.out,K2.out⟩
       ·skip
        gi_wp2
        have hb9:=below_alloc (Below.refl zd.W.heap.size zd.W) (.cells #[.string ⟨#[]⟩,.string ⟨#[]⟩] 63)
        have K2:=Blk.new zd.W 63 #[.string ⟨#[]⟩,.string ⟨#[]⟩]
        have lo2:=HS.out.size
        have hne:b1 < zd.W.heap.size:=K1.out.lt
        have K1:=Lib.hid (K1.out.below hb9 K1.out.lt)
        have HS:=Lib.hid (HS.out.trans (hb9.mono HS.out.size))
        obtain ⟨ze,hze⟩:=LaterW.step zd hb9
        clear hb9
        rw [hze] at K2 HS K1 ⊢
        have K2:=Lib.hid K2
        clear hze
        generalize zd.W.heap.size=b2 at *
        obtain ⟨zd,rfl⟩:∃ x,x=ze:=⟨_,rfl⟩
        refine stage_post (isSame_below HS.out (fun k hk=>hk)) ?_
        refine stage_one 15 (by kernel_rfl) rfl ?_
        gi_wp2_with (gi_at_call 68;refine (callsIn_wide.2 (HL2q.out zd)).mono ?_;rintro e w9 ⟨rfl,hb9⟩;have HS:=Lib.hid (HS.out.trans (hb9.mono HS.out.size));have K1:=Lib.hid (K1.out.below hb9 K1.out.lt);have K2:=Lib.hid (K2.out.below hb9 K2.out.lt);obtain ⟨zd,rfl⟩:=LaterW.step zd hb9;clear hb9)
        refine stage_post (isSame_below HS.out (fun k hk=>hk)) ?_
        exact SH _ _ _ ⟨HS.out,lo1,lo2,by omega,K1.out,K2.out⟩
      ·skip
       gi_wp2
       have hb9:=below_alloc (Below.refl zd.W.heap.size zd.W) (.cells #[.string ⟨#[]⟩,.string ⟨#[]⟩] 63)
       have K2:=Blk.new zd.W 63 #[.string ⟨#[]⟩,.string ⟨#[]⟩]
       have lo2:=HS.out.size
       have hne:b1 < zd.W.heap.size:=K1.out.lt
       have K1:=Lib.hid (K1.out.below hb9 K1.out.lt)
       have HS:=Lib.hid (HS.out.trans (hb9.mono HS.out.size))
       obtain ⟨ze,hze⟩:=LaterW.step zd hb9
       clear hb9
       rw [hze] at K2 HS K1 ⊢
       have K2:=Lib.hid K2
       clear hze
       generalize zd.W.heap.size=b2 at *
       obtain ⟨zd,rfl⟩:∃ x,x=ze:=⟨_,rfl⟩
       refine stage_post (isSame_below HS.out (fun k hk=>hk)) ?_
       refine stage_one 7 (by kernel_rfl) rfl ?_
       gi_wp2_with (gi_at_call 68;refine (callsIn_wide.2 (HL0q.out zd)).mono ?_;rintro e w9 ⟨rfl,hb9⟩;have HS:=Lib.hid (HS.out.trans (hb9.mono HS.out.size));have K1:=Lib.hid (K1.out.below hb9 K1.out.lt);have K2:=Lib.hid (K2.out.below hb9 K2.out.lt);obtain ⟨zd,rfl⟩:=LaterW.step zd hb9;clear hb9)
       refine stage_post (isSame_below HS.out (fun k hk=>hk)) ?_
       refine stage_one 15 (by kernel_rfl) rfl ?_
       gi_wp2_with (gi_at_call 68;refine (callsIn_wide.2 (HL2q.out zd)).mono ?_;rintro e w9 ⟨rfl,hb9⟩;have HS:=Lib.hid (HS.out.trans (hb9.mono HS.out.size));have K1:=Lib.hid (K1.out.below hb9 K1.out.lt);have K2:=Lib.hid (K2.out.below hb9 K2.out.lt);obtain ⟨zd,rfl⟩:=LaterW.step zd hb9;clear hb9)
       refine stage_post (isSame_below HS.out (fun k hk=>hk)) ?_
       exact SH _ _ _ ⟨HS.out,lo1,lo2,by omega,K1.out,K2.out⟩
     ·skip
      gi_wp2
      have hb9:=below_alloc (Below.refl zd.W.heap.size zd.W) (.cells #[.string ⟨#[]⟩,.string ⟨#[]⟩] 63)
      have K2:=Blk.new zd.W 63 #[.string ⟨#[]⟩,.string ⟨#[]⟩]
      have lo2:=HS.out.size
      have HS:=Lib.hid (HS.out.trans (hb9.mono HS.out.size))
      obtain ⟨ze,hze⟩:=LaterW.step zd hb9
      clear hb9
      rw [hze] at K2 HS ⊢
      have K2:=Lib.hid K2
      clear hze
      generalize zd.W.heap.size=b2 at *
      obtain ⟨zd,rfl⟩:∃ x,x=ze:=⟨_,rfl⟩
      refine stage_post (isSame_below HS.out (fun k hk=>hk)) ?_
      refine stage_two 7 16 (by kernel_rfl) rfl rfl ?_ ?_
      ·skip
       gi_wp2_with (gi_at_call 68;refine (callsIn_wide.2 (HL0q.out zd)).mono ?_;rintro e w9 ⟨rfl,hb9⟩;have HS:=Lib.hid (HS.out.trans (hb9.mono HS.out.size));have K2:=Lib.hid (K2.out.below hb9 K2.out.lt);obtain ⟨zd,rfl⟩:=LaterW.step zd hb9;clear hb9)
       refine stage_post (isSame_below HS.out (fun k hk=>hk)) ?_
       refine stage_two 15 16 (by kernel_rfl) rfl rfl ?_ ?_
       ·skip
        gi_wp2_with (gi_at_call 68;refine (callsIn_wide.2 (HL2q.out zd)).mono ?_;rintro e w9 ⟨rfl,hb9⟩;have HS:=Lib.hid (HS.out.trans (hb9.mono HS.out.size));have K2:=Lib.hid (K2.out.below hb9 K2.out.lt);obtain ⟨zd,rfl⟩:=LaterW.step zd hb9;clear hb9)
        refine stage_post (isSame_below HS.out (fun k hk=>hk)) ?_
        refine stage_one 16 (by kernel_rfl) rfl ?_
        gi_wp2
        have hb9:=below_alloc (Below.refl zd.W.heap.size zd.W) (.cells #[.string ⟨#[]⟩,.string ⟨#[]⟩] 63)
        have K1:=Blk.new zd.W 63 #[.string ⟨#[]⟩,.string ⟨#[]⟩]
        have lo1:=HS.out.size
        have hne:b2 < zd.W.heap.size:=K2.out.lt
        have K2:=Lib.hid (K2.out.below hb9 K2.out.lt)
        have HS:=Lib.hid (HS.out.trans (hb9.mono HS.out.size))
        obtain ⟨ze,hze⟩:=LaterW.step zd hb9
        clear hb9
        rw [hze] at K1 HS K2 ⊢
        have K1:=Lib.hid K1
        clear hze
        generalize zd.W.heap.size=b1 at *
        obtain ⟨zd,rfl⟩:∃ x,x=ze:=⟨_,rfl⟩
        refine stage_post (isSame_below HS.out (fun k hk=>hk)) ?_
        exact SH _ _ _ ⟨HS.out,lo1,lo2,by omega,K1.out,K2.out⟩
       ·skip
        gi_wp2
        have hb9:=below_alloc (Below.refl zd.W.heap.size zd.W) (.cells #[.string ⟨#[]⟩,.string ⟨#[]⟩] 63)
        have K1:=Blk.new zd.W 63 #[.string ⟨#[]⟩,.string ⟨#[]⟩]
        have lo1:=HS.out.size
        have hne:b2 < zd.W.heap.size:=K2.out.lt
        have K2:=Lib.hid (K2.out.below hb9 K2.out.lt)
        have HS:=Lib.hid (HS.out.trans (hb9.mono HS.out.size))
        obtain ⟨ze,hze⟩:=LaterW.step zd hb9
        clear hb9
        rw [hze] at K1 HS K2 ⊢
        have K1:=Lib.hid K1
        clear hze
        generalize zd.W.heap.size=b1 at *
        obtain ⟨zd,rfl⟩:∃ x,x=ze:=⟨_,rfl⟩
        refine stage_post (isSame_below HS.out (fun k hk=>hk)) ?_
        refine stage_one 15 (by kernel_rfl) rfl ?_
        gi_wp2_with (gi_at_call 68;refine (callsIn_wide.2 (HL2q.out zd)).mono ?_;rintro e w9 ⟨rfl,hb9⟩;have HS:=Lib.hid (HS.out.trans (hb9.mono HS.out.size));have K1:=Lib.hid (K1.out.below hb9 K1.out.lt);have K2:=Lib.hid (K2.out.below hb9 K2.out.lt);obtain ⟨zd,rfl⟩:=LaterW.step zd hb9;clear hb9)
        refine stage_post (isSame_below HS.out (fun k hk=>hk)) ?_
        exact SH _ _ _ ⟨HS.out,lo1,lo2,by omega,K1.out,K2.out⟩
      ·skip
       gi_wp2
       have hb9:=below_alloc (Below.refl zd.W.heap.size zd.W) (.cells #[.string ⟨#[]⟩,.string ⟨#[]⟩] 63)
       have K1:=Blk.new zd.W 63 #[.string ⟨#[]⟩,.string ⟨#[]⟩]
       have lo1:=HS.out.size
       have hne:b2 < zd.W.heap.size:=K2.out.lt
       have K2:=Lib.hid (K2.out.below hb9 K2.out.lt)
       have HS:=Lib.hid (HS.out.trans (hb9.mono HS.out.size))
       obtain ⟨ze,hze⟩:=LaterW.step zd hb9
       clear hb9
       rw [hze] at K1 HS K2 ⊢
       have K1:=Lib.hid K1
       clear hze
       generalize zd.W.heap.size=b1 at *
       obtain ⟨zd,rfl⟩:∃ x,x=ze:=⟨_,rfl⟩
       refine stage_post (isSame_below HS.out (fun k hk=>hk)) ?_
       refine stage_one 7 (by kernel_rfl) rfl ?_
       gi_wp2_with (gi_at_call 68;refine (callsIn_wide.2 (HL0q.out zd)).mono ?_;rintro e w9 ⟨rfl,hb9⟩;have HS:=Lib.hid (HS.out.trans (hb9.mono HS.out.size));have K1:=Lib.hid (K1.out.below hb9 K1.out.lt);have K2:=Lib.hid (K2.out.below hb9 K2.out.lt);obtain ⟨zd,rfl⟩:=LaterW.step zd hb9;clear hb9)
       refine stage_post (isSame_below HS.out (fun k hk=>hk)) ?_
       refine stage_one 15 (by kernel_rfl) rfl ?_
       gi_wp2_with (gi_at_call 68;refine (callsIn_wide.2 (HL2q.out zd)).mono ?_;rintro e w9 ⟨rfl,hb9⟩;have HS:=Lib.hid (HS.out.trans (hb9.mono HS.out.size));have K1:=Lib.hid (K1.out.below hb9 K1.out.lt);have K2:=Lib.hid (K2.out.below hb9 K2.out.lt);obtain ⟨zd,rfl⟩:=LaterW.step zd hb9;clear hb9)
       refine stage_post (isSame_below HS.out (fun k hk=>hk)) ?_
       exact SH _ _ _ ⟨HS.out,lo1,lo2,by omega,K1.out,K2.out⟩
    case rest =>
     rintro b1 b2 z4 ⟨HS,lo1,lo2,hne,K1,K2⟩
     obtain ⟨p0,p1⟩:=cells2 K1
     have f0:=K1.frozen 0
     have f1:=K1.frozen 1
     refine stage_one 18 (by kernel_rfl) rfl ?_
     gi_wp2
     have K1:=(K1.set_ 0 (.string tF)).set_ 1 (.string tx)
     have K2:=(K2.far (p:=⟨b1,0,none⟩) hne.symm (.string tF)).far (p:=⟨b1,1,none⟩) hne.symm (.string tx)
     have HS:=(HS.setCell (p:=⟨b1,0,none⟩) lo1 (.string tF)).setCell (p:=⟨b1,1,none⟩) lo1 (.string tx)
     refine stage_post (isSame_below HS (fun k hk=>hk)) ?_
     clear p0 p1 f0 f1
     obtain ⟨p0,p1⟩:=cells2 K2
     have f0:=K2.frozen 0
     have f1:=K2.frozen 1
     refine stage_one 19 (by kernel_rfl) rfl ?_
     gi_wp2
     have K2:=(K2.set_ 0 (.string tG)).set_ 1 (.string ty)
     have K1:=(K1.far (p:=⟨b2,0,none⟩) hne (.string tG)).far (p:=⟨b2,1,none⟩) hne (.string ty)
     have HS:=(HS.setCell (p:=⟨b2,0,none⟩) lo2 (.string tG)).setCell (p:=⟨b2,1,none⟩) lo2 (.string ty)
     refine stage_post (isSame_below HS (fun k hk=>hk)) ?_
     clear p0 p1 f0 f1
     refine stage_done (by kernel_rfl) ?_
     obtain ⟨z5,hz5⟩:=LaterW.step z1 HS
     rw [hz5] at K1 K2 ⊢
     have K1:=Lib.hid K1
     have K2:=Lib.hid K2
     clear HS hz5 lo1 lo2 hne
     generalize z5=z at *
     gi_wp2
     have V7i:∀ x:SameAt z.W (fun k=>k < z.W.heap.size),x.W.cell? ⟨bb,0,none⟩=some (.slice B0 (Lf 0).length k0):=fun x=>x.cell (Nat.lt_of_lt_of_le HBB.out z.h.size) (y0 z)
     have V7j:∀ x:SameAt z.W (fun k=>k < z.W.heap.size),x.W.cell? ⟨bb,2,none⟩=some (.slice B2 (Lf 2).length k2):=fun x=>x.cell (Nat.lt_of_lt_of_le HBB.out z.h.size) (y2 z)
     refine wpIn_stage (IsSame z.W (fun k=>k < z.W.heap.size)) [0,1,2,3,4,5,7,8,9] [] hmx (by kernel_rfl) (isSame_of fun _ _=>rfl) ?_
     change wpStage _ _ _ _ _ _ _ _ (6+6) _ _ _
     refine stage_reads [0,1,2,3,4,5] 6 _ _ (by kernel_rfl) ?_
     change wpQuietIn _ _ _ _ (fun W'=>∃ x:SameAt z.W (fun k=>k < z.W.heap.size),W'=x.W) _ _ _
     simp only [pick_cons,pick_nil,List.getElem?_cons_zero,List.getElem?_cons_succ,Option.elim_some]
     repeat (gi_big_quiet_step (fail))
     refine wpQuietIn_nil ?_
     clear V7i V7j
     obtain ⟨zd,hzd⟩:=LaterW.step z (below_drewM z.W)
     have HDR:=Lib.hid (below_drewM z.W)
     refine stage_one 6 (by kernel_rfl) rfl ?_
     rw [hzd] at HDR ⊢
     clear hzd
     gi_wp2_with (gi_at_call 28;refine (callsIn_wide.2 (HXC.out _ _ _ ((R0.out _).row (Nat.le_trans (HLE.out 0) (by omega))) ((R2.out _).row (Nat.le_trans (HLE.out 2) (by omega))) (RS.out zd))).mono ?_;rintro e w9 ⟨⟨u7,rfl,ho7⟩,hb9⟩;obtain ⟨G7,g7,rfl⟩:=ho7.slice;have HO7:=Lib.hid ho7;have HS7:=Lib.hid (HDR.out.trans (hb9.mono HDR.out.size));obtain ⟨z3,rfl⟩:=LaterW.step zd hb9;clear hb9 ho7)
     refine stage_post (isSame_below HS7.out (fun k hk=>hk)) ?_
     change wpStage _ _ _ _ _ _ _ _ (2+3) _ _ _
     refine stage_reads [7,8,9] 2 _ _ (by kernel_rfl) ?_
     change wpQuietIn _ _ _ _ (fun W'=>∃ x:SameAt z.W (fun k=>k < z.W.heap.size),W'=x.W) _ _ _
     simp only [pick_cons,pick_nil,List.getElem?_cons_zero,List.getElem?_cons_succ,Option.elim_some]
     repeat (gi_big_quiet_step (fail))
     refine wpQuietIn_nil ?_
     refine stage_one 10 (by kernel_rfl) rfl ?_
     gi_wp2
     refine stage_post (isSame_below HS7.out (fun k hk=>hk)) ?_
     refine stage_one 11 (by kernel_rfl) rfl ?_
     gi_wp2
     refine stage_post (isSame_below HS7.out (fun k hk=>hk)) ?_
     refine stage_done (by kernel_rfl) ?_
     have K1:=Lib.hid (K1.out.below HS7.out K1.out.lt)
     have K2:=Lib.hid (K2.out.below HS7.out K2.out.lt)
     clear HS7 HDR
     gi_wp2
     have V8i:∀ x:SameAt z3.W (fun k=>k < z3.W.heap.size),x.W.cell? ⟨bb,1,none⟩=some (.slice B1 (Lf 1).length k1):=fun x=>x.cell (Nat.lt_of_lt_of_le HBB.out z3.h.size) (y1 z3)
     have V8j:∀ x:SameAt z3.W (fun k=>k < z3.W.heap.size),x.W.cell? ⟨bb,3,none⟩=some (.slice B3 (Lf 3).length k3):=fun x=>x.cell (Nat.lt_of_lt_of_le HBB.out z3.h.size) (y3 z3)
     refine wpIn_stage (IsSame z3.W (fun k=>k < z3.W.heap.size)) [0,1,2,3,4,5,7,8,9] [] hmx (by kernel_rfl) (isSame_of fun _ _=>rfl) ?_
     change wpStage _ _ _ _ _ _ _ _ (6+6) _ _ _
     refine stage_reads [0,1,2,3,4,5] 6 _ _ (by kernel_rfl) ?_
     change wpQuietIn _ _ _ _ (fun W'=>∃ x:SameAt z3.W (fun k=>k < z3.W.heap.size),W'=x.W) _ _ _
     simp only [pick_cons,pick_nil,List.getElem?_cons_zero,List.getElem?_cons_succ,Option.elim_some]
     repeat (gi_big_quiet_step (fail))
     refine wpQuietIn_nil ?_
     clear V8i V8j
     obtain ⟨zd,hzd⟩:=LaterW.step z3 (below_drewM z3.W)
     have HDR:=Lib.hid (below_drewM z3.W)
     refine stage_one 6 (by kernel_rfl) rfl ?_
     rw [hzd] at HDR ⊢
     clear hzd
     gi_wp2_with (gi_at_call 28;refine (callsIn_wide.2 (HYC.out _ _ _ ((R1.out _).row (Nat.le_trans (HLE.out 1) (by omega))) ((R3.out _).row (Nat.le_trans (HLE.out 3) (by omega))) (RS.out zd))).mono ?_;rintro e w9 ⟨⟨u8,rfl,ho8⟩,hb9⟩;obtain ⟨G8,g8,rfl⟩:=ho8.slice;have HO8:=Lib.hid ho8;have HS8:=Lib.hid (HDR.out.trans (hb9.mono HDR.out.size));obtain ⟨z4,rfl⟩:=LaterW.step zd hb9;clear hb9 ho8)
     refine stage_post (isSame_below HS8.out (fun k hk=>hk)) ?_
     change wpStage _ _ _ _ _ _ _ _ (2+3) _ _ _
     refine stage_reads [7,8,9] 2 _ _ (by kernel_rfl) ?_
     change wpQuietIn _ _ _ _ (fun W'=>∃ x:SameAt z3.W (fun k=>k < z3.W.heap.size),W'=x.W) _ _ _
     simp only [pick_cons,pick_nil,List.getElem?_cons_zero,List.getElem?_cons_succ,Option.elim_some]
     repeat (gi_big_quiet_step (fail))
     refine wpQuietIn_nil ?_
     refine stage_one 10 (by kernel_rfl) rfl ?_
     gi_wp2
     refine stage_post (isSame_below HS8.out (fun k hk=>hk)) ?_
     refine stage_one 11 (by kernel_rfl) rfl ?_
     gi_wp2
     refine stage_post (isSame_below HS8.out (fun k hk=>hk)) ?_
     refine stage_done (by kernel_rfl) ?_
     have K1:=Lib.hid (K1.out.below HS8.out K1.out.lt)
     have K2:=Lib.hid (K2.out.below HS8.out K2.out.lt)
     have HO7:=Lib.hid (OwnM.later HO7.out HS8.out)
     clear HS8 HDR
     obtain ⟨p0,p1⟩:=cells2 K1.out
     obtain ⟨p2,p3⟩:=cells2 K2.out
     gi_wp2_with (gi_at_call 69;refine (callsIn_wide.2 (HAD.out _ (RS.out z4))).mono ?_;rintro e w9 ⟨rfl,hb9⟩;have K1:=Lib.hid (K1.out.below hb9 K1.out.lt);have K2:=Lib.hid (K2.out.below hb9 K2.out.lt);have HO7:=Lib.hid (OwnM.later HO7.out hb9);have HO8:=Lib.hid (OwnM.later HO8.out hb9);obtain ⟨z8,rfl⟩:=LaterW.step z4 hb9;clear hb9)
     have K3:=Blk.new z8.W 63 #[.string tM,.string td]
     have hb9:=below_alloc (Below.refl z8.W.heap.size z8.W) (.cells #[.string tM,.string td] 63)
     have K1:=K1.out.below hb9 K1.out.lt
     have K2:=K2.out.below hb9 K2.out.lt
     have HO7:=OwnM.later HO7.out hb9
     have HO8:=OwnM.later HO8.out hb9
     obtain ⟨z9,hz9⟩:=LaterW.step z8 hb9
     rw [hz9] at K1 K2 K3 HO7 HO8 ⊢
     clear hz9 hb9
     generalize z8.W.heap.size=b3 at *
     have X7:=Lib.hid (fun x:LaterW z9.W=>(OwnM.later HO7 x.h).row HLP.out)
     have X8:=Lib.hid (fun x:LaterW z9.W=>(OwnM.later HO8 x.h).row HLQ.out)
     clear HO7 HO8
     have v0:∀ x:LaterW z9.W,x.W.cell? ⟨bb,0,none⟩=some (.slice B0 (Lf 0).length k0):=fun x=>y0 (z9.lift x)
     have v1:∀ x:LaterW z9.W,x.W.cell? ⟨bb,1,none⟩=some (.slice B1 (Lf 1).length k1):=fun x=>y1 (z9.lift x)
     have v2:∀ x:LaterW z9.W,x.W.cell? ⟨bb,2,none⟩=some (.slice B2 (Lf 2).length k2):=fun x=>y2 (z9.lift x)
     have v3:∀ x:LaterW z9.W,x.W.cell? ⟨bb,3,none⟩=some (.slice B3 (Lf 3).length k3):=fun x=>y3 (z9.lift x)
     have u10:∀ x:LaterW z9.W,x.W.cell? ⟨b1,0,none⟩=some _:=fun x=>(x.h.cell (p:=⟨b1,0,none⟩) K1.lt).trans (cells2 K1).1
     have u11:∀ x:LaterW z9.W,x.W.cell? ⟨b1,1,none⟩=some _:=fun x=>(x.h.cell (p:=⟨b1,1,none⟩) K1.lt).trans (cells2 K1).2
     have u20:∀ x:LaterW z9.W,x.W.cell? ⟨b2,0,none⟩=some _:=fun x=>(x.h.cell (p:=⟨b2,0,none⟩) K2.lt).trans (cells2 K2).1
     have u21:∀ x:LaterW z9.W,x.W.cell? ⟨b2,1,none⟩=some _:=fun x=>(x.h.cell (p:=⟨b2,1,none⟩) K2.lt).trans (cells2 K2).2
     have u30:∀ x:LaterW z9.W,x.W.cell? ⟨b3,0,none⟩=some _:=fun x=>(x.h.cell (p:=⟨b3,0,none⟩) K3.lt).trans (cells2 K3).1
     have u31:∀ x:LaterW z9.W,x.W.cell? ⟨b3,1,none⟩=some _:=fun x=>(x.h.cell (p:=⟨b3,1,none⟩) K3.lt).trans (cells2 K3).2
     clear K1 K2 K3 y0 y1 y2 y3 p0 p1 p2 p3
     refine wpIn_region_wide (w0:=z9.W) ⟨z9.W,Below.refl _ _⟩ rfl hmx (by kernel_rfl) ?_
     repeat (gi_big_quiet_step (fail))
     gi_big_quiet_step ((gi_at_call 70;refine (callsIn_wide.2 (HH1.out _ _ _ ((R0.out (z9.lift _)).row (Nat.le_trans (HLE.out 0) (by omega))) ((R1.out (z9.lift _)).row (Nat.le_trans (HLE.out 1) (by omega))) (RS.out (z9.lift _)))).mono ?_;rintro e w99 ⟨rfl,hb9⟩;exact ⟨rfl,⟨⟨w99,(LaterW.h _).trans (hb9.mono (LaterW.h _).size)⟩,rfl⟩⟩))
     repeat (gi_big_quiet_step (fail))
     gi_big_quiet_step ((gi_at_call 70;refine (callsIn_wide.2 (HH2.out _ _ _ ((R2.out (z9.lift _)).row (Nat.le_trans (HLE.out 2) (by omega))) ((R3.out (z9.lift _)).row (Nat.le_trans (HLE.out 3) (by omega))) (RS.out (z9.lift _)))).mono ?_;rintro e w99 ⟨rfl,hb9⟩;exact ⟨rfl,⟨⟨w99,(LaterW.h _).trans (hb9.mono (LaterW.h _).size)⟩,rfl⟩⟩))
     repeat (gi_big_quiet_step (fail))
     gi_big_quiet_step ((gi_at_call 70;refine (callsIn_wide.2 (HH3.out _ _ _ (X7.out _) (X8.out _) (RS.out (z9.lift _)))).mono ?_;rintro e w99 ⟨rfl,hb9⟩;exact ⟨rfl,⟨⟨w99,(LaterW.h _).trans (hb9.mono (LaterW.h _).size)⟩,rfl⟩⟩))
     repeat (gi_big_quiet_step (fail))
     refine wpQuietIn_nil ?_
     rintro _ ⟨zz,rfl⟩
     gi_wp2
     refine bodyPost_ret (results_tmp rfl _ _ _) rfl ?_
     exact ⟨rfl,(N2.out.later (z9.lift zz).h).below⟩
end Go.Proofs.YtigapglmipmbeaaGreatDoor
namespace Go.Proofs.YtigapglmipmbeaaGreatDoor
open Go.ChangeShapes Go.WideShapes Go.ChangeAt Go.RowKit
section
variable {H:Type} {enc:TypeId × Value→H}
end
end Go.Proofs.YtigapglmipmbeaaGreatDoor
namespace Go.Proofs.YtigapglmipmbeaaGreatDoor
open Go.RowKit
structure Kind (α:Type) where
 ty:TypeId
 k:Nat
 is:(C:TypeId→Nat→Prop)→World→List Value→α→Prop
 inner:List TypeId
 len:∀ {C w l x},is C w l x→l.length=k
 keep:∀ {C C':TypeId→Nat→Prop} {w w':World} {l x},is C w l x→(∀ E b,E∈inner→b < w.heap.size→C E b→C' E b∧w'.heap[b]?=w.heap[b]?)→is C' w' l x
def SRow {α:Type} (K:Kind α) (C:TypeId→Nat→Prop) (w:World) (v:Value) (xs:List α):Prop :=
 ∃ A c,v=.slice A xs.length c∧xs.length≤c∧c≤maxLen∧(0 < xs.length→∃ b o,A=some ⟨b,o,none⟩∧C K.ty b∧b < w.heap.size ∧
  ∀ (j:Nat) (x:α),xs[j]?=some x→∃ l,K.is C w l x∧∀ (i:Nat) (u:Value),l[i]?=some u→w.cell? ⟨b,o+j*K.k+i,none⟩=some u)
section
variable {α:Type} {K:Kind α} {C C':TypeId→Nat→Prop} {w w':World} {v:Value} {xs:List α}
theorem SRow.keep (h:SRow K C w v xs) (hk:∀ E b,E∈K.ty::K.inner→b < w.heap.size→C E b→C' E b∧w'.heap[b]?=w.heap[b]?):SRow K C' w' v xs:=by
 obtain ⟨A,c,e,h1,h2,h3⟩:=h
 refine ⟨A,c,e,h1,h2,fun h0=>?_⟩
 obtain ⟨b,o,eA,hC,hb,hx⟩:=h3 h0
 obtain ⟨hC',hs⟩:=hk K.ty b (by simp) hb hC
 have hb':b < w'.heap.size:=by
  have:w'.heap[b]?=some w.heap[b]:=hs.trans (Array.getElem?_eq_getElem hb)
  exact (Array.getElem?_eq_some_iff.1 this).1
 refine ⟨b,o,eA,hC',hb',fun j x hj=>?_⟩
 obtain ⟨l,hl,hc⟩:=hx j x hj
 exact ⟨l,K.keep hl fun E b hE=>hk E b (List.mem_cons_of_mem _ hE),fun i u hi=>(World.cell?_of_block hs).trans (hc i u hi)⟩
theorem SRow.nil (K:Kind α) (C:TypeId→Nat→Prop) (w:World):SRow K C w (.slice none 0 0) []:=⟨none,0,rfl,Nat.le_refl _,Nat.zero_le _,fun h=>absurd h (by simp)⟩
theorem SRow.take {A:Option Addr} {c:Nat} (h:SRow K C w (.slice A xs.length c) xs) {n:Nat} (hn:n≤xs.length):SRow K C w (.slice A n c) (xs.take n):=by
 obtain ⟨A',c',e,h1,h2,h3⟩:=h
 simp only [Value.slice.injEq,true_and] at e
 obtain ⟨rfl,rfl⟩:=e
 have hl:(xs.take n).length=n:=by simp;omega
 refine ⟨A,c,by rw [hl],by omega,h2,fun h0=>?_⟩
 obtain ⟨b,o,eA,hC,hb,hx⟩:=h3 (by omega)
 refine ⟨b,o,eA,hC,hb,fun j x hj=>hx j x ?_⟩
 rw [List.getElem?_take] at hj
 split at hj
 ·exact hj
 ·cases hj
end
def Own (base:Nat) (w:World) (E:TypeId) (b:Nat):Prop:=base≤b∧∃ cur,w.heap[b]?=some (.cells cur E (0,0))
def Any (_:TypeId) (_:Nat):Prop:=True
section
variable {α:Type} {K:Kind α} {base:Nat} {w w':World} {v v':Value} {xs:List α}
theorem own_keep {base:Nat} {w w':World} {row:Option Nat} (hg:w.grownBy w' row) {E:TypeId} {b:Nat} (hE:∀ r,row=some r→∀ cur,w.heap[r]?≠some (.cells cur E (0,0))) (h:Own base w E b):Own base w' E b∧w'.heap[b]?=w.heap[b]?:=by
 obtain ⟨hb,cur,hc⟩:=h
 have hs:w'.heap[b]?=w.heap[b]?:=hg.block b (Array.getElem?_eq_some_iff.1 hc).1 fun e=>hE b e.symm cur hc
 exact ⟨⟨hb,cur,hs.trans hc⟩,hs⟩
end
open Go.ChangeShapes
section
variable {H:Type} {enc:TypeId × Value→H} {w:World} {base:Nat} {sp:Nat→Bool} {held:Bool} {fuel:Nat}
theorem open_kind {α:Type} {K:Kind α} {T:TypeId} (hu:Tryz.prog.underlying T=some (.slice K.ty)) (hk:Tryz.prog.cellsOf K.ty=K.k) (hk0:0 < K.k)
  (hel:∀ n cs y,DataW.trod enc Tryz.prog w base sp held n K.ty cs=some y→∃ x,K.is Any w cs x) {cs:List Value} {y:DataW H × List MemPlace} (h:DataW.trod enc Tryz.prog w base sp held fuel T cs=some y) :
  ∃ v xs,cs=[v]∧SRow K Any w v xs:=by
 rcases Go.Deep.open_slice hu h with ⟨hcs,_⟩|⟨a,len,cap,m,n,D,Pl,hcs,_,hl,hm,hmm,_,hx⟩
 ·exact ⟨_,[],hcs,SRow.nil K Any w⟩
 ·have hlm:len≤m:=by rw [hmm];split<;>omega
  have each:∀ i,i < len→∃ z:Option α × List Value,∃ x,z.1=some x∧K.is Any w z.2 x∧∀ j,j < K.k→w.cell? (a.add (i*K.k+j))=z.2[j]?:=by
   intro i hi
   obtain ⟨cs',h1,h2⟩:=hx i (by omega)
   rw [hk] at h1
   obtain ⟨_,hlen,hcell⟩:=World.cells?_some h1
   obtain ⟨x,hi'⟩:=hel _ _ _ h2
   exact ⟨(some x,cs'),x,rfl,hi',fun j hj=>by rw [← Go.Deep.add_add];exact hcell j hj⟩
  obtain ⟨f,hf⟩:=Go.Deep.choose_lt each
  by_cases h0:0 < len
  case neg =>
   obtain rfl:len=0:=by omega
   exact ⟨_,[],hcs,some a,cap,rfl,Nat.zero_le _,hm,fun h=>absurd h (by simp)⟩
  have hne:∃ g:Nat→α,∀ i,i < len→(f i).1=some (g i):=by
   obtain ⟨x0,e0,_⟩:=hf 0 h0
   refine ⟨fun i=>(f i).1.getD x0,fun i hi=>?_⟩
   obtain ⟨x,e,_⟩:=hf i hi
   simp [e]
  obtain ⟨g,hg⟩:=hne
  refine ⟨_,(List.range len).map g,hcs,some a,cap,by simp,by simpa using hl,hm,fun _=>?_⟩
  have hcl:∀ i,i < len→∀ j u,(f i).2[j]?=some u→w.cell? (a.add (i*K.k+j))=some u:=fun i hi j u hu=>by
   obtain ⟨x,e,hi',hc⟩:=hf i hi
   have:=K.len hi'
   have hj:j < K.k:=by have:=(List.getElem?_eq_some_iff.1 hu).1;omega
   rw [hc j hj,hu]
  obtain ⟨b,o,spot⟩:=a
  have h00:∃ u,(f 0).2[0]?=some u:=by
   obtain ⟨x,e,hi',hc⟩:=hf 0 h0
   have:=K.len hi'
   exact ⟨_,List.getElem?_eq_getElem (by omega)⟩
  obtain ⟨u0,hu0⟩:=h00
  have hc0:=hcl 0 h0 0 u0 hu0
  have hspot:spot=none:=by simpa [Addr.add] using World.cell?_spot hc0
  subst hspot
  have hlt:=World.block_lt_of_cell? w _ hc0
  refine ⟨b,o,rfl,trivial,by simpa [Addr.add] using hlt,fun j x hj=>?_⟩
  have hjl:j < len:=by have:=(List.getElem?_eq_some_iff.1 hj).1;simpa using this
  obtain ⟨x',e,hi',_⟩:=hf j hjl
  have ex:x=x':=by
   rw [List.getElem?_map,List.getElem?_range hjl] at hj
   simp only [Option.map_some,Option.some.injEq] at hj
   have:=hg j hjl
   rw [e] at this
   simp only [Option.some.injEq] at this
   rw [← hj,← this]
  subst ex
  refine ⟨(f j).2,hi',fun i u hu=>?_⟩
  have:=hcl j hjl i u hu
  unfold Addr.add at this
  split at this
  ·simp_all
  ·rw [show o+j*K.k+i=o+(j*K.k+i) by omega]
   exact this
end
end Go.Proofs.YtigapglmipmbeaaGreatDoor
namespace Go.Proofs.YtigapglmipmbeaaGreatDoor
open Go.RowKit Go.ChangeShapes Go.WideShapes Go.ChangeAt
def pairK (t:TypeId):Kind L2 where
 ty:=t
 k:=2
 is:=fun _ _ l x=>l=[.string x.1,.string x.2]∧x.1.size≤maxLen∧x.2.size≤maxLen
 inner:=[]
 len:=fun h=>by rw [h.1];rfl
 keep:=fun h _=>h
theorem cellsMass:Tryz.prog.cellsOf 30=2:=by kernel_rfl
theorem cellsNumD:Tryz.prog.cellsOf 23=1:=by kernel_rfl
theorem cellsStrD:Tryz.prog.cellsOf 9=1:=by kernel_rfl
theorem laidOutD:laidOutB Tryz.prog=true:=by kernel_rfl
section
variable {H:Type} {enc:TypeId × Value→H} {w:World} {base:Nat} {sp:Nat→Bool} {held:Bool} {fuel:Nat}
theorem open_mass1 (n:Nat) (cs:List Value) (y:DataW H × List MemPlace) (h:DataW.trod enc Tryz.prog w base sp held n 30 cs=some y):∃ x,(pairK 30).is Any w cs x:=by
 obtain ⟨y0,y1,n',_,hl,g0,g1⟩:=trod_struct2 Tryz.underlying30 h
 rw [cellsMass] at hl
 match cs,hl with
 | [c0,c1],_ =>
  simp [cellsStrD,cellsNumD] at g0 g1
  obtain ⟨a,e0,_,z0⟩:=DataW.trod_string Tryz.underlying9 g0
  obtain ⟨b,e1,_,z1⟩:=DataW.trod_string Tryz.underlying23 g1
  simp only [List.cons.injEq,and_true] at e0 e1
  subst e0 e1
  exact ⟨(a,b),rfl,z0,z1⟩
theorem row_of_kind {t:TypeId} {v:Value} {ls:List L2} (h:SRow (pairK t) Any w v ls):LRowW w v ls∧∀ x∈ls,x.1.size≤maxLen∧x.2.size≤maxLen:=by
 obtain ⟨A,c,e,h1,h2,h3⟩:=h
 refine ⟨⟨A,c,e,by omega,fun h0=>?_⟩,fun x hx=>?_⟩
 ·obtain ⟨b,o,eA,_,hb,hx⟩:=h3 h0
  refine ⟨b,o,eA,hb,fun j x hj=>?_⟩
  obtain ⟨l,⟨hl,_⟩,hc⟩:=hx j x hj
  subst hl
  exact ⟨hc 0 _ rfl,hc 1 _ rfl⟩
 ·obtain ⟨j,hj⟩:=List.getElem?_of_mem hx
  obtain ⟨b,o,_,_,_,hx⟩:=h3 (by have:=(List.getElem?_eq_some_iff.1 hj).1;omega)
  obtain ⟨l,⟨_,hs⟩,_⟩:=hx j x hj
  exact hs
theorem open_masses {a0:Option Addr} {len0 cap0:Nat} {d:DataW H} {p:List MemPlace} (h:DataW.Trod enc Tryz.prog w base sp held 22 (.slice a0 len0 cap0) d p) :
  ∃ ls,LRowW w (.slice a0 len0 cap0) ls∧∀ x∈ls,x.1.size≤maxLen∧x.2.size≤maxLen:=by
 obtain ⟨f,hf⟩:=h
 obtain ⟨v',ls,e,hr⟩:=open_kind (K:=pairK 30) Tryz.underlying22 cellsMass (by decide) open_mass1 hf
 simp [Value.cells] at e
 subst e
 exact ⟨ls,row_of_kind hr⟩
theorem trod_below {v:Value} {t:TypeId} {d:DataW H} {p:List MemPlace} (h:DataW.Trod enc Tryz.prog w base sp held t v d p):∀ x∈p,x.block < w.heap.size:=by
 obtain ⟨m,hm⟩:=h
 exact DataW.trod_lt m _ _ _ hm
end
end Go.Proofs.YtigapglmipmbeaaGreatDoor
