/- DistMakes, as a walk (printed by mkdmk.py). Opening and shutting an argument that is a loss. Slices of structs with slices in them, in memory: how they read, how they are built, what keeps them. Plain words, no program. Opening arguments: lists of masses, of losses, of strings. Opening arguments: slices of strings. Facts of the program that each card asks. -/
import Derived.Test.YtigapglmipmbeaaGreatDoorLwDistMakes03
import Derived.Test.YtigapglmipmbeaaGreatDoorLwDistMakes07
import Derived.Test.YtigapglmipmbeaaGreatDoorLwDistMakes08
import Derived.Test.YtigapglmipmbeaaGreatDoorLwDistMakes01
import Derived.Test.YtigapglmipmbeaaGreatDoorRb10
import Derived.ProofKit
import Derived.OpenShut
import Derived.ShutString
import Derived.ChangeOld
import Derived.ChangeSame
import Derived.Test.YtigapglmipmbeaaGreatDoorProg
import Derived.WalkKit
import Derived.Handy
import Derived.Lib.Hide
import Derived.BigQuiet
import Derived.Maps.OwnSet
import Derived.Maps.StringElems
import Derived.Maps.AppendAt
import Derived.WalkLawsBesides
import Derived.WalkSpells
import Derived.ChangeSlices
import Derived.Deep.Slices
import Derived.Lib.SmallJoins
import Derived.Test.YtigapglmipmbeaaGreatDoorCards
import Derived.Test.YtigapglmipmbeaaGreatDoorTie
import Derived.KernelRfl
import Derived.SevenTiedAt
set_option maxRecDepth 100000
set_option maxHeartbeats 16000000
namespace Go.Proofs.YtigapglmipmbeaaGreatDoor
open Go.RowKit Go.Shelf
open Lim
attribute [local go_sem] Oper.semAt_some
def errM:Except Nat (List L2)→Nat
 | .ok _=>0
 | .error n=>n
def okM:Except Nat (List L2)→List L2
 | .ok l=>l
 | .error _=>[]
theorem ResM.tup {base:Nat} {r:Except Nat (List L2)} {e:Ending} {w':World} (h:ResM base r e w') (hl:(okM r).length≤1000):∃ A c,e=.returned (.tuple #[.slice A (okM r).length c,.int .i64 (errM r:Int)])∧LRow w' (.slice A (okM r).length c) (okM r):=by
 cases r with
 | error n=>exact ⟨none,0,h,LRow.nil _ _ _⟩
 | ok l =>
  obtain ⟨u,rfl,ho⟩:=h
  obtain ⟨A,c,rfl⟩:=ho.slice
  exact ⟨A,c,rfl,ho.row hl⟩
theorem okM_make {l:List L2} (h:l.length≤1000):(okM (makeX l)).length≤1000:=by
 cases e:makeX l with
 | error n=>exact Nat.zero_le _
 | ok d=>exact make_len e h
theorem okM_prod {a b:List L2} (ka:∀ x∈a,x.1.size≤100000) (kb:∀ x∈b,x.1.size≤100000) (hl:a.length*b.length≤1000):(okM (prodX a b)).length≤1000:=by
 cases e:prodX a b with
 | error n=>exact Nat.zero_le _
 | ok d=>exact (prod_short e ka kb hl).2
theorem okM_mix {p:ByteArray} {a b:List L2} (sa:Short a) (sb:Short b) (hl:a.length+b.length≤1000):(okM (mixX p a b)).length≤1000:=by
 cases e:mixX p a b with
 | error n=>exact Nat.zero_le _
 | ok d=>exact (mix_short e sa sb hl).2
theorem okM_push {a:List L2} {f t:List ByteArray} (hl:a.length≤1000):(okM (pushX a f t)).length≤1000:=by
 cases e:pushX a f t with
 | error n=>exact Nat.zero_le _
 | ok d =>
  unfold pushX at e
  split at e
  ·cases e
  ·split at e
   ·cases e
   ·exact make_len e (by rw [List.length_map];exact hl)
theorem distMakes_any (a b:List L2) (va vb:Value) (p:ByteArray) (f t:List ByteArray) (vf vt:Value) (k:ByteArray) (w:World) (ha:LRowW w va a) (hb:LRowW w vb b) (hp:p.size≤maxLen) (hf:SRowT w vf f) (ht:SRowT w vt t) (_hk:k.size≤maxLen) (hr:Res w) :
  Calls Tryz.prog 3 #[va,vb,.string p,vf,vt,.string k] w fun e w'=>e=.returned (.bool true)∧Below w.heap.size w w':=by
 have N0:=Lib.hid (NW.refl hr)
 have HLV:=Lib.hid (fun (w:World) hr=>dlives_any w hr)
 have HLI:=Lib.hid (fun (W:World) (hW:NW w W)=>light8_any [a,b] (.slice (some ⟨W.heap.size,0,none⟩) 2 2) (W.alloc (.cells #[va,vb] 22))
  (LLRow.ofBlk (vs:=[(va,a),(vb,b)]) (Blk.new W 22 #[va,vb]) rfl (by simp) (fun x hx=>by
   have hbw:=below_alloc hW.below (.cells #[va,vb] 22)
   simp only [List.mem_cons,List.not_mem_nil,or_false] at hx
   rcases hx with rfl|rfl
   ·exact ha.below hbw
   ·exact hb.below hbw)))
 have HNM:=Lib.hid (fun (W:World) (hW:NW w W)=>names8_any [f,t,[k]] (.slice (some ⟨W.heap.size+1,0,none⟩) 3 3) ((W.alloc (.cells #[.string k] 9)).alloc (.cells #[vf,vt,.slice (some ⟨W.heap.size,0,none⟩) 1 1] 24))
  (by
   have k1:=Blk.new (W.alloc (.cells #[.string k] 9)) 24 #[vf,vt,.slice (some ⟨W.heap.size,0,none⟩) 1 1]
   rw [World.size_alloc] at k1
   refine LSRow.ofBlk (vs:=[(vf,f),(vt,t),(.slice (some ⟨W.heap.size,0,none⟩) 1 1,[k])]) k1 rfl (by simp) (fun x hx=>?_)
   have hbw:=below_alloc (below_alloc hW.below (.cells #[.string k] 9)) (.cells #[vf,vt,.slice (some ⟨W.heap.size,0,none⟩) 1 1] 24)
   simp only [List.mem_cons,List.not_mem_nil,or_false] at hx
   rcases hx with rfl|rfl|rfl
   ·exact hf.below hbw
   ·exact ht.below hbw
   ·have k2:=(Blk.new W 9 #[.string k]).alloc (.cells #[vf,vt,.slice (some ⟨W.heap.size,0,none⟩) 1 1] 24)
    refine ⟨_,_,rfl,by unfold maxLen;simp,fun _=>⟨W.heap.size,0,rfl,k2.lt,fun j x hj=>?_⟩⟩
    match j with
    | 0=>cases hj;exact cell0 k2
    | j+1=>simp at hj))
 obtain ⟨A,c,rfl,_,_⟩:=id ha
 obtain ⟨A',c',rfl,_,_⟩:=id hb
 obtain ⟨F,cf,rfl,hfl,_⟩:=id hf
 obtain ⟨T,ct,rfl,htl,_⟩:=id ht
 have HA:=Lib.hid ha
 have HB:=Lib.hid hb
 have HF:=Lib.hid hf
 have HT:=Lib.hid ht
 unfold maxLen at hp hfl htl
 clear ha hb hf ht hr
 have TK0:True:=trivial
 have TK1:True:=trivial
 have TK2:True:=trivial
 cases hl:lightsD 16 12 24 [a,b] with
 | false =>
  rw [hl] at HLI
  clear hl
  go_enter Tryz.func3,Tryz.ntmps3
  go_wp2_with ((clear TK0;go_at_call 21;refine (HLV.out _ N0.out.res).mono ?_;rintro e w1 ⟨rfl,hb⟩;have N1:=Lib.hid (N0.out.later hb);clear hb))
  go_wp2_with ((clear TK1;go_at_call 22;refine (HLI.out _ N1.out).mono ?_;rintro e w2 ⟨rfl,hw⟩;have N2:=Lib.hid (show NW w w2 by rw [hw];exact N1.out.alloc _);clear hw))
  go_wp2
  go_ret
  exact ⟨rfl,N2.out.below⟩
 | true =>
  rw [hl] at HLI
  cases hn:namesD [f,t,[k]] with
  | false =>
   rw [hn] at HNM
   clear hl hn
   go_enter Tryz.func3,Tryz.ntmps3
   go_wp2_with ((clear TK0;go_at_call 21;refine (HLV.out _ N0.out.res).mono ?_;rintro e w1 ⟨rfl,hb⟩;have N1:=Lib.hid (N0.out.later hb);clear hb))
   go_wp2_with ((clear TK1;go_at_call 22;refine (HLI.out _ N1.out).mono ?_;rintro e w2 ⟨rfl,hw⟩;have N2:=Lib.hid (show NW w w2 by rw [hw];exact N1.out.alloc _);clear hw))
   go_wp2_with ((clear TK2;go_at_call 23;refine (HNM.out _ N2.out).mono ?_;rintro e w3 ⟨rfl,hw⟩;have N3:=Lib.hid (show NW w w3 by rw [hw];exact (N2.out.alloc _).alloc _);clear hw))
   go_wp2
   go_ret
   exact ⟨rfl,N3.out.below⟩
  | true =>
   rw [hn] at HNM
   by_cases h24:p.size≤24
   ·have t1:decide (24 < (p.size:Int))=false:=decide_eq_false (by omega)
    have t1n:decide (24 < p.size)=false:=decide_eq_false (by omega)
    have hall:∀ ls∈[a,b],ls.length≤16∧∀ x∈ls,x.1.size≤12∧x.2.size≤24:=fun ls h=>lightD_iff.1 (List.all_eq_true.1 hl ls h)
    obtain ⟨la,sa⟩:=hall a (by simp)
    obtain ⟨lb,sb⟩:=hall b (by simp)
    have hnm:∀ ls∈[f,t,[k]],ls.length≤16∧∀ x∈ls,x.size≤12:=fun ls h=>nameD_iff.1 (List.all_eq_true.1 hn ls h)
    obtain ⟨lf,sf⟩:=hnm f (by simp)
    obtain ⟨lt,st⟩:=hnm t (by simp)
    have sha:Short a:=fun x hx=>⟨Nat.le_trans (sa x hx).1 (by omega),Nat.le_trans (sa x hx).2 (by omega)⟩
    have shb:Short b:=fun x hx=>⟨Nat.le_trans (sb x hx).1 (by omega),Nat.le_trans (sb x hx).2 (by omega)⟩
    have ka:∀ x∈a,x.1.size≤100000:=fun x hx=>Nat.le_trans (sa x hx).1 (by omega)
    have kb:∀ x∈b,x.1.size≤100000:=fun x hx=>Nat.le_trans (sb x hx).1 (by omega)
    have stk:∀ x∈t,x.size≤270000:=fun x hx=>Nat.le_trans (st x hx) (by omega)
    have hab:a.length*b.length≤1000:=Nat.le_trans (Nat.mul_le_mul la lb) (by omega)
    have hsub:posE p=0→¬ 1 < valQ p.data.toList→∃ r,subX oT p=.ok r:=fun h1 _=>by
     have pe:=(posE_zero.1 h1).1
     have ps:=sz_of_text pe (k:=24) (by rw [← size_list];exact h24)
     exact ⟨_,(sub_one pe ps (by decide)).1⟩
    have hp2:p.size≤270000:=by omega
    have ra:=fun (W:World) (hW:NW w W)=>(HA.out.below hW.below).row (by omega)
    have rb:=fun (W:World) (hW:NW w W)=>(HB.out.below hW.below).row (by omega)
    have HOA:=Lib.hid (fun W (hW:NW w W)=>ownM_any a _ W (ra W hW) hW.res)
    have HOB:=Lib.hid (fun W (hW:NW w W)=>ownM_any b _ W (rb W hW) hW.res)
    have HOF:=Lib.hid (fun W (hW:NW w W)=>ownS_any f _ W (HF.out.below hW.below) (by omega) hW.res)
    have HOT:=Lib.hid (fun W (hW:NW w W)=>ownS_any t _ W (HT.out.below hW.below) (by omega) hW.res)
    have HMK:=Lib.hid (fun v W (hv:LRow W v a) (hW:NW w W)=>dmake_any a v W hv sha hW.res)
    have HMR:=Lib.hid (fun W (hW:NW w W)=>rdmake_any a _ W (ra W hW) sha hW.res)
    have HPK:=Lib.hid (fun u v W (hu:LRow W u a) (hv:LRow W v b) (hW:NW w W)=>dprod_any a b u v W hu hv sha shb ka kb hab hW.res)
    have HPR:=Lib.hid (fun W (hW:NW w W)=>rdprod_any a b _ _ W (ra W hW) (rb W hW) sha shb ka kb hab hW.res)
    have HXK:=Lib.hid (fun u v W (hu:LRow W u a) (hv:LRow W v b) (hW:NW w W)=>dmix_any p a b u v W hu hv sha shb hp2 (by omega) hsub hW.res)
    have HXR:=Lib.hid (fun W (hW:NW w W)=>rdmix_any p a b _ _ W (ra W hW) (rb W hW) sha shb hp2 (by omega) hsub hW.res)
    have HUK:=Lib.hid (fun v x y W (hv:LRow W v a) (hx:SRowT W x f) (hy:SRowT W y t) (hW:NW w W)=>dpush_any a f t v x y W hv hx hy sha stk hW.res)
    have HUR:=Lib.hid (fun W (hW:NW w W)=>rdpush_any a f t _ _ _ W (ra W hW) (HF.out.below hW.below) (HT.out.below hW.below) sha stk hW.res)
    have HC1:=Lib.hid (fun W (hW:NW w W)=>dcheck_any a _ W (ra W hW) sha hW.res)
    have HC2:=Lib.hid (fun W (hW:NW w W)=>rdcheck_any a _ W (ra W hW) sha hW.res)
    have HT1:=Lib.hid (fun W (hW:NW w W)=>dAt_any a _ k W (ra W hW) hW.res)
    have HT2:=Lib.hid (fun W (hW:NW w W)=>rdAt_any a _ k W (ra W hW))
    have HS1:=Lib.hid (fun W (hW:NW w W)=>dsame_any a b _ _ W (ra W hW) (rb W hW) hW.res)
    have HS2:=Lib.hid (fun W (hW:NW w W)=>rdsame_any a b _ _ W (ra W hW) (rb W hW) hW.res)
    have HS3:=Lib.hid (fun W (hW:NW w W)=>dsame_any a a _ _ W (ra W hW) (ra W hW) hW.res)
    rw [sameX_refl] at HS3
    have HKA:=Lib.hid (fun u W (hu:LRow W u a) (hW:NW w W)=>ksame_any a a u _ W hu (ra W hW) hW.res)
    have HKB:=Lib.hid (fun u W (hu:LRow W u b) (hW:NW w W)=>ksame_any b b u _ W hu (rb W hW) hW.res)
    rw [sameX_refl] at HKA HKB
    have HRS:=Lib.hid (fun (l:List L2) u v W (hu:LRow W u l) (hv:LRow W v l) (hW:NW w W)=>rdsame_any l l u v W hu hv hW.res)
    have HPS:=Lib.hid (fun (l:List L2) u v W (hu:LRow W u l) (hv:LRow W v l) (hW:NW w W)=>dsame_any l l u v W hu hv hW.res)
    have HL1:=Lib.hid (okM_make (l:=a) (by omega))
    have HL2:=Lib.hid (okM_prod ka kb hab)
    have HL3:=Lib.hid (okM_mix (p:=p) sha shb (by omega))
    have HL4:=Lib.hid (okM_push (a:=a) (f:=f) (t:=t) (by omega))
    have HLA:=Lib.hid (show a.length≤1000 by omega)
    have HLB:=Lib.hid (show b.length≤1000 by omega)
    generalize makeX a=mk at *
    generalize prodX a b=pr at *
    generalize mixX p a b=mx at *
    generalize pushX a f t=pu at *
    generalize chkD a=ck at *
    generalize atT a k=tx at *
    generalize sameX a b=sx at *
    clear hl hn h24 hall la sa lb sb hnm lf sf lt st sha shb ka kb stk hab hsub hp2 ra rb
    have TK3:True:=trivial
    have TK11:True:=trivial
    have TK15:True:=trivial
    have TK16:True:=trivial
    have TK17:True:=trivial
    have TK19:True:=trivial
    go_enter Tryz.func3,Tryz.ntmps3
    go_wp2_with ((clear TK0;go_at_call 21;refine (HLV.out _ N0.out.res).mono ?_;rintro e w1 ⟨rfl,hb⟩;have N1:=Lib.hid (N0.out.later hb);clear hb))
    go_wp2_with ((clear TK1;go_at_call 22;refine (HLI.out _ N1.out).mono ?_;rintro e w2 ⟨rfl,hw⟩;have N2:=Lib.hid (show NW w w2 by rw [hw];exact N1.out.alloc _);clear hw))
    go_wp2_with ((clear TK2;go_at_call 23;refine (HNM.out _ N2.out).mono ?_;rintro e w3 ⟨rfl,hw⟩;have N3:=Lib.hid (show NW w w3 by rw [hw];exact (N2.out.alloc _).alloc _);clear hw))
    go_wp2_with ((clear TK3;go_at_call 24;refine (HOA.out _ N3.out).mono ?_;rintro e w4 ⟨⟨uA,rfl,ho⟩,hb⟩;have XA:=Lib.hid (ho.row HLA.out);obtain ⟨AA,cA,rfl⟩:=ho.slice;clear ho;have N4:=Lib.hid (N3.out.later hb);clear hb))
    go_wp2_with ((go_at_call 24;refine (HOB.out _ N4.out).mono ?_;rintro e w5 ⟨⟨uB,rfl,ho⟩,hb⟩;have XA:=Lib.hid (XA.out.below hb);have XB:=Lib.hid (ho.row HLB.out);obtain ⟨AB,cB,rfl⟩:=ho.slice;clear ho;have N5:=Lib.hid (N4.out.later hb);clear hb))
    go_wp2_with ((go_at_call 25;refine (HMK.out _ _ XA.out N5.out).mono ?_;rintro e w6 ⟨hm,hb⟩;have XA:=Lib.hid (XA.out.below hb);have XB:=Lib.hid (XB.out.below hb);obtain ⟨A1,c1,rfl,hw⟩:=hm.tup HL1.out;have X1:=Lib.hid hw;clear hw hm;have N6:=Lib.hid (N5.out.later hb);clear hb))
    go_wp2_with ((go_at_call 26;refine (HMR.out _ N6.out).mono ?_;rintro e w7 ⟨hm,hb⟩;have XA:=Lib.hid (XA.out.below hb);have XB:=Lib.hid (XB.out.below hb);have X1:=Lib.hid (X1.out.below hb);obtain ⟨A2,c2,rfl,hw⟩:=hm.tup HL1.out;have X2:=Lib.hid hw;clear hw hm;have N7:=Lib.hid (N6.out.later hb);clear hb))
    go_wp2_with ((go_at_call 27;refine (HPK.out _ _ _ XA.out XB.out N7.out).mono ?_;rintro e w8 ⟨hm,hb⟩;have XA:=Lib.hid (XA.out.below hb);have XB:=Lib.hid (XB.out.below hb);have X1:=Lib.hid (X1.out.below hb);have X2:=Lib.hid (X2.out.below hb);obtain ⟨A3,c3,rfl,hw⟩:=hm.tup HL2.out;have X3:=Lib.hid hw;clear hw hm;have N8:=Lib.hid (N7.out.later hb);clear hb))
    go_wp2_with ((go_at_call 28;refine (HPR.out _ N8.out).mono ?_;rintro e w9 ⟨hm,hb⟩;have XA:=Lib.hid (XA.out.below hb);have XB:=Lib.hid (XB.out.below hb);have X1:=Lib.hid (X1.out.below hb);have X2:=Lib.hid (X2.out.below hb);have X3:=Lib.hid (X3.out.below hb);obtain ⟨A4,c4,rfl,hw⟩:=hm.tup HL2.out;have X4:=Lib.hid hw;clear hw hm;have N9:=Lib.hid (N8.out.later hb);clear hb))
    go_wp2_with ((go_at_call 29;refine (HXK.out _ _ _ XA.out XB.out N9.out).mono ?_;rintro e w10 ⟨hm,hb⟩;have XA:=Lib.hid (XA.out.below hb);have XB:=Lib.hid (XB.out.below hb);have X1:=Lib.hid (X1.out.below hb);have X2:=Lib.hid (X2.out.below hb);have X3:=Lib.hid (X3.out.below hb);have X4:=Lib.hid (X4.out.below hb);obtain ⟨A5,c5,rfl,hw⟩:=hm.tup HL3.out;have X5:=Lib.hid hw;clear hw hm;have N10:=Lib.hid (N9.out.later hb);clear hb))
    go_wp2_with ((go_at_call 30;refine (HXR.out _ N10.out).mono ?_;rintro e w11 ⟨hm,hb⟩;have XA:=Lib.hid (XA.out.below hb);have XB:=Lib.hid (XB.out.below hb);have X1:=Lib.hid (X1.out.below hb);have X2:=Lib.hid (X2.out.below hb);have X3:=Lib.hid (X3.out.below hb);have X4:=Lib.hid (X4.out.below hb);have X5:=Lib.hid (X5.out.below hb);obtain ⟨A6,c6,rfl,hw⟩:=hm.tup HL3.out;have X6:=Lib.hid hw;clear hw hm;have N11:=Lib.hid (N10.out.later hb);clear hb))
    go_wp2_with ((clear TK11;go_at_call 32;refine (HOF.out _ N11.out).mono ?_;rintro e w12 ⟨⟨uF,rfl,ho⟩,hb⟩;have XA:=Lib.hid (XA.out.below hb);have XB:=Lib.hid (XB.out.below hb);have X1:=Lib.hid (X1.out.below hb);have X2:=Lib.hid (X2.out.below hb);have X3:=Lib.hid (X3.out.below hb);have X4:=Lib.hid (X4.out.below hb);have X5:=Lib.hid (X5.out.below hb);have X6:=Lib.hid (X6.out.below hb);have XF:=Lib.hid ho;obtain ⟨AF,cF,rfl,_,_⟩:=ho;have N12:=Lib.hid (N11.out.later hb);clear hb))
    go_wp2_with ((go_at_call 32;refine (HOT.out _ N12.out).mono ?_;rintro e w13 ⟨⟨uT,rfl,ho⟩,hb⟩;have XA:=Lib.hid (XA.out.below hb);have XB:=Lib.hid (XB.out.below hb);have X1:=Lib.hid (X1.out.below hb);have X2:=Lib.hid (X2.out.below hb);have X3:=Lib.hid (X3.out.below hb);have X4:=Lib.hid (X4.out.below hb);have X5:=Lib.hid (X5.out.below hb);have X6:=Lib.hid (X6.out.below hb);have XF:=Lib.hid (XF.out.below hb);have XT:=Lib.hid ho;obtain ⟨AT,cT,rfl,_,_⟩:=ho;have N13:=Lib.hid (N12.out.later hb);clear hb))
    go_wp2_with ((go_at_call 31;refine (HUK.out _ _ _ _ XA.out XF.out XT.out N13.out).mono ?_;rintro e w14 ⟨hm,hb⟩;have XA:=Lib.hid (XA.out.below hb);have XB:=Lib.hid (XB.out.below hb);have X1:=Lib.hid (X1.out.below hb);have X2:=Lib.hid (X2.out.below hb);have X3:=Lib.hid (X3.out.below hb);have X4:=Lib.hid (X4.out.below hb);have X5:=Lib.hid (X5.out.below hb);have X6:=Lib.hid (X6.out.below hb);have XF:=Lib.hid (XF.out.below hb);have XT:=Lib.hid (XT.out.below hb);obtain ⟨A7,c7,rfl,hw⟩:=hm.tup HL4.out;have X7:=Lib.hid hw;clear hw hm;have N14:=Lib.hid (N13.out.later hb);clear hb))
    go_wp2_with ((go_at_call 33;refine (HUR.out _ N14.out).mono ?_;rintro e w15 ⟨hm,hb⟩;have XA:=Lib.hid (XA.out.below hb);have XB:=Lib.hid (XB.out.below hb);have X1:=Lib.hid (X1.out.below hb);have X2:=Lib.hid (X2.out.below hb);have X3:=Lib.hid (X3.out.below hb);have X4:=Lib.hid (X4.out.below hb);have X5:=Lib.hid (X5.out.below hb);have X6:=Lib.hid (X6.out.below hb);have X7:=Lib.hid (X7.out.below hb);obtain ⟨A8,c8,rfl,hw⟩:=hm.tup HL4.out;have X8:=Lib.hid hw;clear hw hm;have N15:=Lib.hid (N14.out.later hb);clear hb))
    go_wp2_with ((clear TK15;go_at_call 34;refine (HRS.out (okM mk) _ _ _ X1.out X2.out N15.out).mono ?_;rw [sameX_refl];rintro e w16 ⟨rfl,hb⟩;have XA:=Lib.hid (XA.out.below hb);have XB:=Lib.hid (XB.out.below hb);have X1:=Lib.hid (X1.out.below hb);have X2:=Lib.hid (X2.out.below hb);have X3:=Lib.hid (X3.out.below hb);have X4:=Lib.hid (X4.out.below hb);have X5:=Lib.hid (X5.out.below hb);have X6:=Lib.hid (X6.out.below hb);have X7:=Lib.hid (X7.out.below hb);have X8:=Lib.hid (X8.out.below hb);have N16:=Lib.hid (N15.out.later hb);clear hb))
    go_wp2_with ((clear TK16;go_at_call 34;refine (HRS.out (okM pr) _ _ _ X3.out X4.out N16.out).mono ?_;rw [sameX_refl];rintro e w17 ⟨rfl,hb⟩;have XA:=Lib.hid (XA.out.below hb);have XB:=Lib.hid (XB.out.below hb);have X1:=Lib.hid (X1.out.below hb);have X2:=Lib.hid (X2.out.below hb);have X3:=Lib.hid (X3.out.below hb);have X4:=Lib.hid (X4.out.below hb);have X5:=Lib.hid (X5.out.below hb);have X6:=Lib.hid (X6.out.below hb);have X7:=Lib.hid (X7.out.below hb);have X8:=Lib.hid (X8.out.below hb);have N17:=Lib.hid (N16.out.later hb);clear hb))
    go_wp2_with ((clear TK17;go_at_call 34;refine (HRS.out (okM mx) _ _ _ X5.out X6.out N17.out).mono ?_;rw [sameX_refl];rintro e w18 ⟨rfl,hb⟩;have XA:=Lib.hid (XA.out.below hb);have XB:=Lib.hid (XB.out.below hb);have X1:=Lib.hid (X1.out.below hb);have X2:=Lib.hid (X2.out.below hb);have X3:=Lib.hid (X3.out.below hb);have X4:=Lib.hid (X4.out.below hb);have X5:=Lib.hid (X5.out.below hb);have X6:=Lib.hid (X6.out.below hb);have X7:=Lib.hid (X7.out.below hb);have X8:=Lib.hid (X8.out.below hb);have N18:=Lib.hid (N17.out.later hb);clear hb))
    go_wp2_with ((go_at_call 34;refine (HRS.out (okM pu) _ _ _ X7.out X8.out N18.out).mono ?_;rw [sameX_refl];rintro e w19 ⟨rfl,hb⟩;have XA:=Lib.hid (XA.out.below hb);have XB:=Lib.hid (XB.out.below hb);have X1:=Lib.hid (X1.out.below hb);have X2:=Lib.hid (X2.out.below hb);have X3:=Lib.hid (X3.out.below hb);have X4:=Lib.hid (X4.out.below hb);have X5:=Lib.hid (X5.out.below hb);have X6:=Lib.hid (X6.out.below hb);have X7:=Lib.hid (X7.out.below hb);have X8:=Lib.hid (X8.out.below hb);have N19:=Lib.hid (N18.out.later hb);clear hb))
    go_wp2_with ((clear TK19;go_at_call 35;refine (HKA.out _ _ XA.out N19.out).mono ?_;rintro e w20 ⟨rfl,hb⟩;have XA:=Lib.hid (XA.out.below hb);have XB:=Lib.hid (XB.out.below hb);have X1:=Lib.hid (X1.out.below hb);have X2:=Lib.hid (X2.out.below hb);have X3:=Lib.hid (X3.out.below hb);have X4:=Lib.hid (X4.out.below hb);have X5:=Lib.hid (X5.out.below hb);have X6:=Lib.hid (X6.out.below hb);have X7:=Lib.hid (X7.out.below hb);have X8:=Lib.hid (X8.out.below hb);have N20:=Lib.hid (N19.out.later hb);clear hb))
    go_wp2_with ((go_at_call 35;refine (HKB.out _ _ XB.out N20.out).mono ?_;rintro e w21 ⟨rfl,hb⟩;have XA:=Lib.hid (XA.out.below hb);have XB:=Lib.hid (XB.out.below hb);have X1:=Lib.hid (X1.out.below hb);have X2:=Lib.hid (X2.out.below hb);have X3:=Lib.hid (X3.out.below hb);have X4:=Lib.hid (X4.out.below hb);have X5:=Lib.hid (X5.out.below hb);have X6:=Lib.hid (X6.out.below hb);have X7:=Lib.hid (X7.out.below hb);have X8:=Lib.hid (X8.out.below hb);have N21:=Lib.hid (N20.out.later hb);clear hb))
    go_wp2_with ((go_at_call 36;refine (HC1.out _ N21.out).mono ?_;rintro e w22 ⟨rfl,hb⟩;have N22:=Lib.hid (N21.out.later hb);clear hb))
    go_wp2_with ((go_at_call 37;refine (HC2.out _ N22.out).mono ?_;rintro e w23 ⟨rfl,hb⟩;have N23:=Lib.hid (N22.out.later hb);clear hb))
    go_wp2_with ((go_at_call 38;refine (HT1.out _ N23.out).mono ?_;rintro e w24 ⟨rfl,hb⟩;have N24:=Lib.hid (N23.out.later hb);clear hb))
    go_wp2_with ((go_at_call 39;refine (HT2.out _ N24.out).mono ?_;rintro e w25 ⟨rfl,hw⟩;have N25:=Lib.hid (show NW w w25 by rw [hw];exact N24.out);clear hw))
    go_wp2_with ((go_at_call 40;refine (HS1.out _ N25.out).mono ?_;rintro e w26 ⟨rfl,hb⟩;have N26:=Lib.hid (N25.out.later hb);clear hb))
    go_wp2_with ((go_at_call 34;refine (HS2.out _ N26.out).mono ?_;rintro e w27 ⟨rfl,hb⟩;have N27:=Lib.hid (N26.out.later hb);clear hb))
    go_wp2_with ((go_at_call 40;refine (HS3.out _ N27.out).mono ?_;rintro e w28 ⟨rfl,hb⟩;have N28:=Lib.hid (N27.out.later hb);clear hb))
    go_wp2_with ((go_at_call 41;refine (dpoint_any k _).mono ?_;rintro e w29 ⟨⟨uP,rfl,ho⟩,hb⟩;have XP:=Lib.hid ho;obtain ⟨AP,cP,rfl,_,_⟩:=ho;have N29:=Lib.hid (N28.out.later hb);clear hb))
    go_wp2_with ((go_at_call 42;refine (rdpoint_any k _).mono ?_;rintro e w30 ⟨⟨uQ,rfl,ho⟩,hb⟩;have XP:=Lib.hid (XP.out.below hb);have XQ:=Lib.hid ho;obtain ⟨AQ,cQ,rfl,_,_⟩:=ho;have N30:=Lib.hid (N29.out.later hb);clear hb))
    go_wp2_with ((go_at_call 40;refine (HPS.out [(k,oT)] _ _ _ XP.out XQ.out N30.out).mono ?_;rw [sameX_refl];rintro e w31 ⟨rfl,hb⟩;have XP:=Lib.hid (XP.out.below hb);have XQ:=Lib.hid (XQ.out.below hb);have N31:=Lib.hid (N30.out.later hb);clear hb))
    go_wp2
    go_ret
    exact ⟨rfl,N31.out.below⟩
   ·have t1:decide (24 < (p.size:Int))=true:=decide_eq_true (by omega)
    have t1n:decide (24 < p.size)=true:=decide_eq_true (by omega)
    clear hl hn h24
    go_enter Tryz.func3,Tryz.ntmps3
    go_wp2_with ((clear TK0;go_at_call 21;refine (HLV.out _ N0.out.res).mono ?_;rintro e w1 ⟨rfl,hb⟩;have N1:=Lib.hid (N0.out.later hb);clear hb))
    go_wp2_with ((clear TK1;go_at_call 22;refine (HLI.out _ N1.out).mono ?_;rintro e w2 ⟨rfl,hw⟩;have N2:=Lib.hid (show NW w w2 by rw [hw];exact N1.out.alloc _);clear hw))
    go_wp2_with ((clear TK2;go_at_call 23;refine (HNM.out _ N2.out).mono ?_;rintro e w3 ⟨rfl,hw⟩;have N3:=Lib.hid (show NW w w3 by rw [hw];exact (N2.out.alloc _).alloc _);clear hw))
    go_wp2
    go_ret
    exact ⟨rfl,N3.out.below⟩
end Go.Proofs.YtigapglmipmbeaaGreatDoor
namespace Go.Proofs.YtigapglmipmbeaaGreatDoor
open Go.ChangeShapes Go.WideShapes Go.ChangeAt Go.RowKit
section
variable {H:Type} {enc:TypeId × Value→H}
end
end Go.Proofs.YtigapglmipmbeaaGreatDoor
namespace Go.Proofs.YtigapglmipmbeaaGreatDoor
open Go.RowKit
structure Kind (α:Type) where
 ty:TypeId
 k:Nat
 is:(C:TypeId→Nat→Prop)→World→List Value→α→Prop
 inner:List TypeId
 len:∀ {C w l x},is C w l x→l.length=k
 keep:∀ {C C':TypeId→Nat→Prop} {w w':World} {l x},is C w l x→(∀ E b,E∈inner→b < w.heap.size→C E b→C' E b∧w'.heap[b]?=w.heap[b]?)→is C' w' l x
def SRow {α:Type} (K:Kind α) (C:TypeId→Nat→Prop) (w:World) (v:Value) (xs:List α):Prop :=
 ∃ A c,v=.slice A xs.length c∧xs.length≤c∧c≤maxLen∧(0 < xs.length→∃ b o,A=some ⟨b,o,none⟩∧C K.ty b∧b < w.heap.size ∧
  ∀ (j:Nat) (x:α),xs[j]?=some x→∃ l,K.is C w l x∧∀ (i:Nat) (u:Value),l[i]?=some u→w.cell? ⟨b,o+j*K.k+i,none⟩=some u)
section
variable {α:Type} {K:Kind α} {C C':TypeId→Nat→Prop} {w w':World} {v:Value} {xs:List α}
theorem SRow.keep (h:SRow K C w v xs) (hk:∀ E b,E∈K.ty::K.inner→b < w.heap.size→C E b→C' E b∧w'.heap[b]?=w.heap[b]?):SRow K C' w' v xs:=by
 obtain ⟨A,c,e,h1,h2,h3⟩:=h
 refine ⟨A,c,e,h1,h2,fun h0=>?_⟩
 obtain ⟨b,o,eA,hC,hb,hx⟩:=h3 h0
 obtain ⟨hC',hs⟩:=hk K.ty b (by simp) hb hC
 have hb':b < w'.heap.size:=by
  have:w'.heap[b]?=some w.heap[b]:=hs.trans (Array.getElem?_eq_getElem hb)
  exact (Array.getElem?_eq_some_iff.1 this).1
 refine ⟨b,o,eA,hC',hb',fun j x hj=>?_⟩
 obtain ⟨l,hl,hc⟩:=hx j x hj
 exact ⟨l,K.keep hl fun E b hE=>hk E b (List.mem_cons_of_mem _ hE),fun i u hi=>(World.cell?_of_block hs).trans (hc i u hi)⟩
theorem SRow.nil (K:Kind α) (C:TypeId→Nat→Prop) (w:World):SRow K C w (.slice none 0 0) []:=⟨none,0,rfl,Nat.le_refl _,Nat.zero_le _,fun h=>absurd h (by simp)⟩
theorem SRow.take {A:Option Addr} {c:Nat} (h:SRow K C w (.slice A xs.length c) xs) {n:Nat} (hn:n≤xs.length):SRow K C w (.slice A n c) (xs.take n):=by
 obtain ⟨A',c',e,h1,h2,h3⟩:=h
 simp only [Value.slice.injEq,true_and] at e
 obtain ⟨rfl,rfl⟩:=e
 have hl:(xs.take n).length=n:=by simp;omega
 refine ⟨A,c,by rw [hl],by omega,h2,fun h0=>?_⟩
 obtain ⟨b,o,eA,hC,hb,hx⟩:=h3 (by omega)
 refine ⟨b,o,eA,hC,hb,fun j x hj=>hx j x ?_⟩
 rw [List.getElem?_take] at hj
 split at hj
 ·exact hj
 ·cases hj
end
def Own (base:Nat) (w:World) (E:TypeId) (b:Nat):Prop:=base≤b∧∃ cur,w.heap[b]?=some (.cells cur E (0,0))
def Any (_:TypeId) (_:Nat):Prop:=True
section
variable {α:Type} {K:Kind α} {base:Nat} {w w':World} {v v':Value} {xs:List α}
theorem own_keep {base:Nat} {w w':World} {row:Option Nat} (hg:w.grownBy w' row) {E:TypeId} {b:Nat} (hE:∀ r,row=some r→∀ cur,w.heap[r]?≠some (.cells cur E (0,0))) (h:Own base w E b):Own base w' E b∧w'.heap[b]?=w.heap[b]?:=by
 obtain ⟨hb,cur,hc⟩:=h
 have hs:w'.heap[b]?=w.heap[b]?:=hg.block b (Array.getElem?_eq_some_iff.1 hc).1 fun e=>hE b e.symm cur hc
 exact ⟨⟨hb,cur,hs.trans hc⟩,hs⟩
end
open Go.ChangeShapes
section
variable {H:Type} {enc:TypeId × Value→H} {w:World} {base:Nat} {sp:Nat→Bool} {held:Bool} {fuel:Nat}
theorem open_kind {α:Type} {K:Kind α} {T:TypeId} (hu:Tryz.prog.underlying T=some (.slice K.ty)) (hk:Tryz.prog.cellsOf K.ty=K.k) (hk0:0 < K.k)
  (hel:∀ n cs y,DataW.trod enc Tryz.prog w base sp held n K.ty cs=some y→∃ x,K.is Any w cs x) {cs:List Value} {y:DataW H × List MemPlace} (h:DataW.trod enc Tryz.prog w base sp held fuel T cs=some y) :
  ∃ v xs,cs=[v]∧SRow K Any w v xs:=by
 rcases Go.Deep.open_slice hu h with ⟨hcs,_⟩|⟨a,len,cap,m,n,D,Pl,hcs,_,hl,hm,hmm,_,hx⟩
 ·exact ⟨_,[],hcs,SRow.nil K Any w⟩
 ·have hlm:len≤m:=by rw [hmm];split<;>omega
  have each:∀ i,i < len→∃ z:Option α × List Value,∃ x,z.1=some x∧K.is Any w z.2 x∧∀ j,j < K.k→w.cell? (a.add (i*K.k+j))=z.2[j]?:=by
   intro i hi
   obtain ⟨cs',h1,h2⟩:=hx i (by omega)
   rw [hk] at h1
   obtain ⟨_,hlen,hcell⟩:=World.cells?_some h1
   obtain ⟨x,hi'⟩:=hel _ _ _ h2
   exact ⟨(some x,cs'),x,rfl,hi',fun j hj=>by rw [← Go.Deep.add_add];exact hcell j hj⟩
  obtain ⟨f,hf⟩:=Go.Deep.choose_lt each
  by_cases h0:0 < len
  case neg =>
   obtain rfl:len=0:=by omega
   exact ⟨_,[],hcs,some a,cap,rfl,Nat.zero_le _,hm,fun h=>absurd h (by simp)⟩
  have hne:∃ g:Nat→α,∀ i,i < len→(f i).1=some (g i):=by
   obtain ⟨x0,e0,_⟩:=hf 0 h0
   refine ⟨fun i=>(f i).1.getD x0,fun i hi=>?_⟩
   obtain ⟨x,e,_⟩:=hf i hi
   simp [e]
  obtain ⟨g,hg⟩:=hne
  refine ⟨_,(List.range len).map g,hcs,some a,cap,by simp,by simpa using hl,hm,fun _=>?_⟩
  have hcl:∀ i,i < len→∀ j u,(f i).2[j]?=some u→w.cell? (a.add (i*K.k+j))=some u:=fun i hi j u hu=>by
   obtain ⟨x,e,hi',hc⟩:=hf i hi
   have:=K.len hi'
   have hj:j < K.k:=by have:=(List.getElem?_eq_some_iff.1 hu).1;omega
   rw [hc j hj,hu]
  obtain ⟨b,o,spot⟩:=a
  have h00:∃ u,(f 0).2[0]?=some u:=by
   obtain ⟨x,e,hi',hc⟩:=hf 0 h0
   have:=K.len hi'
   exact ⟨_,List.getElem?_eq_getElem (by omega)⟩
  obtain ⟨u0,hu0⟩:=h00
  have hc0:=hcl 0 h0 0 u0 hu0
  have hspot:spot=none:=by simpa [Addr.add] using World.cell?_spot hc0
  subst hspot
  have hlt:=World.block_lt_of_cell? w _ hc0
  refine ⟨b,o,rfl,trivial,by simpa [Addr.add] using hlt,fun j x hj=>?_⟩
  have hjl:j < len:=by have:=(List.getElem?_eq_some_iff.1 hj).1;simpa using this
  obtain ⟨x',e,hi',_⟩:=hf j hjl
  have ex:x=x':=by
   rw [List.getElem?_map,List.getElem?_range hjl] at hj
   simp only [Option.map_some,Option.some.injEq] at hj
   have:=hg j hjl
   rw [e] at this
   simp only [Option.some.injEq] at this
   rw [← hj,← this]
  subst ex
  refine ⟨(f j).2,hi',fun i u hu=>?_⟩
  have:=hcl j hjl i u hu
  unfold Addr.add at this
  split at this
  ·simp_all
  ·rw [show o+j*K.k+i=o+(j*K.k+i) by omega]
   exact this
end
end Go.Proofs.YtigapglmipmbeaaGreatDoor
namespace Go.Proofs.YtigapglmipmbeaaGreatDoor
open Go.RowKit Go.ChangeShapes Go.WideShapes Go.ChangeAt
def pairK (t:TypeId):Kind L2 where
 ty:=t
 k:=2
 is:=fun _ _ l x=>l=[.string x.1,.string x.2]∧x.1.size≤maxLen∧x.2.size≤maxLen
 inner:=[]
 len:=fun h=>by rw [h.1];rfl
 keep:=fun h _=>h
theorem cellsMass:Tryz.prog.cellsOf 30=2:=by kernel_rfl
theorem cellsNumD:Tryz.prog.cellsOf 23=1:=by kernel_rfl
theorem cellsStrD:Tryz.prog.cellsOf 9=1:=by kernel_rfl
theorem laidOutD:laidOutB Tryz.prog=true:=by kernel_rfl
section
variable {H:Type} {enc:TypeId × Value→H} {w:World} {base:Nat} {sp:Nat→Bool} {held:Bool} {fuel:Nat}
theorem open_mass1 (n:Nat) (cs:List Value) (y:DataW H × List MemPlace) (h:DataW.trod enc Tryz.prog w base sp held n 30 cs=some y):∃ x,(pairK 30).is Any w cs x:=by
 obtain ⟨y0,y1,n',_,hl,g0,g1⟩:=trod_struct2 Tryz.underlying30 h
 rw [cellsMass] at hl
 match cs,hl with
 | [c0,c1],_ =>
  simp [cellsStrD,cellsNumD] at g0 g1
  obtain ⟨a,e0,_,z0⟩:=DataW.trod_string Tryz.underlying9 g0
  obtain ⟨b,e1,_,z1⟩:=DataW.trod_string Tryz.underlying23 g1
  simp only [List.cons.injEq,and_true] at e0 e1
  subst e0 e1
  exact ⟨(a,b),rfl,z0,z1⟩
theorem row_of_kind {t:TypeId} {v:Value} {ls:List L2} (h:SRow (pairK t) Any w v ls):LRowW w v ls∧∀ x∈ls,x.1.size≤maxLen∧x.2.size≤maxLen:=by
 obtain ⟨A,c,e,h1,h2,h3⟩:=h
 refine ⟨⟨A,c,e,by omega,fun h0=>?_⟩,fun x hx=>?_⟩
 ·obtain ⟨b,o,eA,_,hb,hx⟩:=h3 h0
  refine ⟨b,o,eA,hb,fun j x hj=>?_⟩
  obtain ⟨l,⟨hl,_⟩,hc⟩:=hx j x hj
  subst hl
  exact ⟨hc 0 _ rfl,hc 1 _ rfl⟩
 ·obtain ⟨j,hj⟩:=List.getElem?_of_mem hx
  obtain ⟨b,o,_,_,_,hx⟩:=h3 (by have:=(List.getElem?_eq_some_iff.1 hj).1;omega)
  obtain ⟨l,⟨_,hs⟩,_⟩:=hx j x hj
  exact hs
theorem open_masses {a0:Option Addr} {len0 cap0:Nat} {d:DataW H} {p:List MemPlace} (h:DataW.Trod enc Tryz.prog w base sp held 22 (.slice a0 len0 cap0) d p) :
  ∃ ls,LRowW w (.slice a0 len0 cap0) ls∧∀ x∈ls,x.1.size≤maxLen∧x.2.size≤maxLen:=by
 obtain ⟨f,hf⟩:=h
 obtain ⟨v',ls,e,hr⟩:=open_kind (K:=pairK 30) Tryz.underlying22 cellsMass (by decide) open_mass1 hf
 simp [Value.cells] at e
 subst e
 exact ⟨ls,row_of_kind hr⟩
theorem trod_below {v:Value} {t:TypeId} {d:DataW H} {p:List MemPlace} (h:DataW.Trod enc Tryz.prog w base sp held t v d p):∀ x∈p,x.block < w.heap.size:=by
 obtain ⟨m,hm⟩:=h
 exact DataW.trod_lt m _ _ _ hm
end
def oneK (t:TypeId):Kind ByteArray where
 ty:=t
 k:=1
 is:=fun _ _ l x=>l=[.string x]∧x.size≤maxLen
 inner:=[]
 len:=fun h=>by rw [h.1];rfl
 keep:=fun h _=>h
section
variable {H:Type} {enc:TypeId × Value→H} {w:World} {base:Nat} {sp:Nat→Bool} {held:Bool}
theorem open_str1 (n:Nat) (cs:List Value) (y:DataW H × List MemPlace) (h:DataW.trod enc Tryz.prog w base sp held n 9 cs=some y):∃ x,(oneK 9).is Any w cs x:=by
 obtain ⟨a,e0,_,z0⟩:=DataW.trod_string Tryz.underlying9 h
 exact ⟨a,e0,z0⟩
theorem open_strs {a0:Option Addr} {len0 cap0:Nat} {d:DataW H} {p:List MemPlace} (h:DataW.Trod enc Tryz.prog w base sp held 24 (.slice a0 len0 cap0) d p) :
  ∃ ls,SRowT w (.slice a0 len0 cap0) ls∧∀ x∈ls,x.size≤maxLen:=by
 obtain ⟨f,hf⟩:=h
 obtain ⟨v',ls,e,hr⟩:=open_kind (K:=oneK 9) Tryz.underlying24 cellsStrD (by decide) open_str1 hf
 simp [Value.cells] at e
 subst e
 obtain ⟨A,c,e,h1,h2,h3⟩:=hr
 refine ⟨ls,⟨A,c,e,by omega,fun h0=>?_⟩,fun x hx=>?_⟩
 ·obtain ⟨b,o,eA,_,hb,hx⟩:=h3 h0
  refine ⟨b,o,eA,hb,fun j x hj=>?_⟩
  obtain ⟨l,⟨hl,_⟩,hc⟩:=hx j x hj
  subst hl
  have:=hc 0 _ rfl
  simpa [oneK] using this
 ·obtain ⟨j,hj⟩:=List.getElem?_of_mem hx
  obtain ⟨b,o,_,_,_,hx⟩:=h3 (by have:=(List.getElem?_eq_some_iff.1 hj).1;omega)
  obtain ⟨l,⟨_,hs⟩,_⟩:=hx j x hj
  exact hs
end
end Go.Proofs.YtigapglmipmbeaaGreatDoor
namespace Go.Proofs.YtigapglmipmbeaaGreatDoor
open Go
theorem enters {P : Program} {rest : List (List Char)} (h : behindMainWord (wordsSigns P.initOrder.toList) = "cut".toList :: rest) (h1 : P.laysLater = false) (h2 : P.bearsReflect = false) (h3 : P.doorFits [] = true) : P.mayEnter = true := by
 have e : stripLifts liftWords ("cut".toList :: rest) = ([], "cut".toList :: rest) := by kernel_rfl
 unfold Program.mayEnter
 rw [h]
 dsimp only
 rw [e]
 simp [h1,h2,h3]
theorem cons_of_head {α:Type} {l:List α} {x:α} (h:l.head?=some x):l=x::l.tail:=by
 cases l with
 | nil=>cases h
 | cons y t=>cases h;rfl
theorem doorFitsF:Tryz.prog.doorFits []=true:=by kernel_rfl
theorem headWordF : (behindMainWord (wordsSigns Tryz.prog.initOrder.toList)).head? = some "cut".toList := by kernel_rfl
theorem laysLaterF:Tryz.prog.laysLater=false:=by kernel_rfl
theorem bearsReflectF:Tryz.prog.bearsReflect=false:=by kernel_rfl
theorem mayEnterF:Tryz.prog.mayEnter=true:=enters (cons_of_head headWordF) laysLaterF bearsReflectF doorFitsF
theorem mainIsF : Tryz.prog.mainIs = some (true, "5395951699d0e7c088c16c506ed30de6925104505e2026abbc93d9abbfe2aced".toList) := by kernel_rfl
theorem looksF:true=Tryz.prog.looks []:=by kernel_rfl
end Go.Proofs.YtigapglmipmbeaaGreatDoor
