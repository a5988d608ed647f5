/- dist: slices.Index of strings, Push (printed by mkdprog.py). law 08: what the chapter's examples give (printed by mkdnam.py). kit.Own of masses and strings; Point (printed by mkdmk.py). (printed by mkstage2.py) Regions that draw their order, in stages; a slot may be read by a read and written by one of the others that waits for it: reads (guarded or not) may come as soon as their edges allow, also behind some of the others; the others come in any order that their edges allow. The reference's rational numbers: Reduce, Negative, Over, Times, Plus (printed by mkrq.py). The reference's Negative (printed by mkrqn.py). The reference: two, Order. The reference's Write. The reference's Write of a rational number, two, Order (printed by mkrwq.py). The reference's Add, Mul, Sub, Div (printed by mkradd.py). The reference's Order of rational numbers, Cmp, Min, Max (printed by mkrord.py). The reference's functions of one number: Neg, Abs, Inv, Sign (printed by mkrone.py). The reference's round, Floor, Ceil, Sign (printed by mkrround.py). The reference's functions of numbers, as the plain model of chapter 8 speaks of them (printed by mkdref.py). The reference 08: collect and Make (printed by mkdcoll.py). The reference 08: Check, both, find, At, within, Same (printed by mkdref.py). The reference 08: Make (printed by mkdcoll.py). The reference's Power of natural numbers; odd. Powers that are too great. The reference's Pow of rational numbers (printed by mkrpw.py). The reference's functions of two numbers, on texts of numbers. law 08: number, least, plus, times. A long region's order check, reckoned without an array of what has come: quick for the kernel. Walks of laws behind made: one class of later worlds for all that follows. -/
import Derived.Test.YtigapglmipmbeaaGreatDoorLwDistNames10
import Derived.Test.YtigapglmipmbeaaGreatDoorLwDistNames11
import Derived.Test.YtigapglmipmbeaaGreatDoorLwDistNames02
import Derived.Test.YtigapglmipmbeaaGreatDoorLwDistNames07
import Derived.Test.YtigapglmipmbeaaGreatDoorLwDistNames08
import Derived.Test.YtigapglmipmbeaaGreatDoorLwDistNames06
import Derived.Test.YtigapglmipmbeaaGreatDoorLwDistNames09
import Derived.Laws.Bits128
set_option maxRecDepth 100000
set_option maxHeartbeats 16000000
namespace Go.Proofs.YtigapglmipmbeaaGreatDoor
open Go.RowKit Go.Shelf
open Lim
attribute [local go_sem] Oper.semAt_some
def SRowT (w:World) (v:Value) (ts:List ByteArray):Prop :=
 ∃ A c,v=.slice A ts.length c∧ts.length≤maxLen∧(0 < ts.length→∃ b o,A=some ⟨b,o,none⟩∧b < w.heap.size∧∀ (j:Nat) (x:ByteArray),ts[j]?=some x→w.cell? ⟨b,o+j,none⟩=some (.string x))
theorem SRowT.below {w w':World} {v:Value} {ts:List ByteArray} (h:SRowT w v ts) (hb:Below w.heap.size w w'):SRowT w' v ts:=by
 obtain ⟨A,c,e,h1,h2⟩:=h
 refine ⟨A,c,e,h1,fun h0=>?_⟩
 obtain ⟨b,o,e2,hlt,hc⟩:=h2 h0
 exact ⟨b,o,e2,Nat.lt_of_lt_of_le hlt hb.size,fun j x hj=>(hb.cell (p:=⟨b,o+j,none⟩) hlt).trans (hc j x hj)⟩
theorem SRowT.at {w W:World} {v:Value} {ts:List ByteArray} (h:SRowT w v ts) (hb:Below w.heap.size w W) {k:Nat} {x:ByteArray} (hx:ts[k]?=some x) :
  ∃ b o c,v=.slice (some ⟨b,o,none⟩) ts.length c∧b < W.heap.size∧W.cell? ⟨b,o+k,none⟩=some (.string x):=by
 obtain ⟨A,c,rfl,_,hc⟩:=h
 obtain ⟨b,o,rfl,hlt,hcell⟩:=hc (by have:=(List.getElem?_eq_some_iff.1 hx).1;omega)
 exact ⟨b,o,c,rfl,Nat.lt_of_lt_of_le hlt hb.size,(hb.cell (p:=⟨b,o+k,none⟩) hlt).trans (hcell k x hx)⟩
def idxT:Nat→List ByteArray→ByteArray→Int
 | _,[],_=>-1
 | n,x::l,k=>if k=x then (n:Int) else idxT (n+1) l k
theorem idxT_hit {k x:ByteArray} {n:Nat} {l:List ByteArray} (h:k=x):idxT n (x::l) k=(n:Int):=if_pos h
theorem idxT_miss {k x:ByteArray} {n:Nat} {l:List ByteArray} (h:k≠x):idxT n (x::l) k=idxT (n+1) l k:=if_neg h
theorem idxT_turn {k:ByteArray}:∀ {f t:List ByteArray} {n:Nat},f.length=t.length→(idxT n f k=-1∧turnX (f.zip t) k=k)∨∃ (i:Nat) (y:ByteArray),idxT n f k=((n+i:Nat):Int)∧i < f.length∧t[i]?=some y∧turnX (f.zip t) k=y
 | [],t,n,_=>.inl ⟨rfl,by simp [turnX]⟩
 | x::f,[],n,h=>by simp at h
 | x::f,y::t,n,h=>by
  by_cases hx:k=x
  ·exact .inr ⟨0,y,by rw [idxT_hit hx];rfl,by simp,rfl,by simp only [List.zip_cons_cons,turnX];rw [if_pos hx.symm]⟩
  ·have e:turnX ((x::f).zip (y::t)) k=turnX (f.zip t) k:=by simp only [List.zip_cons_cons,turnX];rw [if_neg (fun h=>hx h.symm)]
   rw [idxT_miss hx,e]
   rcases idxT_turn (k:=k) (f:=f) (t:=t) (n:=n+1) (by simpa using h) with h1|⟨i,z,h1,h2,h3,h4⟩
   ·exact .inl h1
   ·exact .inr ⟨i+1,z,by rw [h1];congr 1;omega,by simp;omega,by simpa using h3,h4⟩
theorem dindex_any (ts:List ByteArray) (v:Value) (key:ByteArray) (w:World) (hv:SRowT w v ts) :
  Calls Tryz.prog 121 #[v,.string key] w fun e w'=>e=.returned (.int .i64 (idxT 0 ts key))∧w'=w:=by
 have HV:=Lib.hid hv
 obtain ⟨A,c,rfl,HLEN,hcells⟩:=hv
 unfold maxLen at HLEN
 clear hcells
 generalize hm:idxT 0 ts key=mk
 have HMK:=Lib.hid hm
 clear hm
 go_enter Tryz.func121,Tryz.ntmps121
 go_wp2
 go_loopw [8] (fun v8 wr=>w=wr∧∃ k:Nat,k≤ts.length∧v8=.int .i64 (k:Int)∧Hid (mk=idxT k (ts.drop k) key)) (fun v8 _=>ts.length - (intOf v8).toNat)
 case atStart=>exact ⟨rfl,0,Nat.zero_le _,rfl,Lib.hid (by simpa using HMK.out.symm)⟩
 case round =>
  obtain ⟨rfl,k,hk,rfl,HE⟩:=hrel
  by_cases hlt:k < ts.length
  ·obtain ⟨x,hx⟩:∃ x,ts[k]?=some x:=⟨_,List.getElem?_eq_getElem hlt⟩
   obtain ⟨b,o,c',e',hb2,c0⟩:=HV.out.at (Below.refl _ _) hx
   simp only [Value.slice.injEq,true_and] at e'
   obtain ⟨rfl,rfl⟩:=e'
   have hlt':(k:Int) < (ts.length:Int):=by omega
   have hd:ts.drop k=x::ts.drop (k+1):=by
    obtain ⟨h1,rfl⟩:=List.getElem?_eq_some_iff.1 hx
    exact drop_at h1
   rw [hd] at HE
   have HLT:=Lib.hid (And.intro hlt hlt')
   have TE:=eq_bytes key x
   clear hd hx hlt
   by_cases he:key=x
   ·rw [decide_eq_true he] at TE
    have HR:=Lib.hid (show mk=(k:Int) by rw [HE.out,idxT_hit he])
    clear he
    go_wp2
    go_ret
    rw [HR.out]
    exact ⟨rfl,rfl⟩
   ·rw [decide_eq_false he] at TE
    have HR:=Lib.hid (show mk=idxT (k+1) (ts.drop (k+1)) key by rw [HE.out,idxT_miss he])
    clear he
    go_wp2
    go_roundw
    case rel=>exact ⟨trivial,k+1,HLT.out.1,by go_num,HR⟩
    case measure=>have:=HLT.out.1;simp [intOf];omega
  ·have hlt':¬ (k:Int) < (ts.length:Int):=by omega
   have HR:=Lib.hid (show mk=-1 by rw [HE.out,List.drop_of_length_le (by omega)];rfl)
   clear hlt
   go_wp2
   go_ret
   rw [HR.out]
   exact ⟨rfl,rfl⟩
theorem dpush_any (ls:List L2) (f t:List ByteArray) (v vf vt:Value) (w:World) (hv:LRow w v ls) (hf:SRowT w vf f) (ht:SRowT w vt t) (hs:Short ls) (htk:∀ x∈t,x.size≤270000) (hr:Res w) :
  Calls Tryz.prog 31 #[v,vf,vt] w fun e w'=>ResM w.heap.size (pushX ls f t) e w'∧Below w.heap.size w w':=by
 have HV:=Lib.hid hv
 have HF:=Lib.hid hf
 have HT:=Lib.hid ht
 have HS:=Lib.hid hs
 have HTK:=Lib.hid htk
 have HRS:=Lib.hid hr
 have HCK:=Lib.hid (dcheck_any ls v w hv hs hr)
 have N0:=Lib.hid (NW.refl hr)
 have hll:ls.length≤1000:=hv.choose_spec.choose_spec.2.1
 have HLL:=Lib.hid hll
 obtain ⟨A0,c0,rfl,_,_⟩:=id hv
 obtain ⟨A1,c1,rfl,hl1,_⟩:=id hf
 obtain ⟨A2,c2,rfl,hl2,_⟩:=id ht
 unfold maxLen at hl1 hl2
 clear hv hf ht hs hr htk
 generalize hm:pushX ls f t=mk
 have HMK:=Lib.hid hm
 clear hm
 have TK0:True:=trivial
 by_cases hc:chkD ls=0
 ·by_cases hl:f.length=t.length
  ·have h0:0 < ls.length:=by
    rcases Nat.eq_zero_or_pos ls.length with h|h
    ·have e:=List.eq_nil_of_length_eq_zero h
     subst e
     exact absurd hc (by decide)
    ·exact h
   have HCL:=Lib.hid (fun (W:World) (hW:NW w W)=>dclone_any ls _ W (HV.out.below hW.below) h0)
   have HR:=Lib.hid (show mk=makeX (ls.map fun x=>(turnX (f.zip t) x.1,x.2)) by rw [← HMK.out];unfold pushX;rw [if_neg (by simpa using hc),if_neg (by simpa using hl)])
   rw [hc] at HCK
   change Hid (Calls _ _ _ _ fun e w'=>e=.returned (.int .i64 0)∧_) at HCK
   rw [← hl] at HT ⊢
   have HTU:=Lib.hid (fun k=>idxT_turn (k:=k) (f:=f) (t:=t) (n:=0) hl)
   have HLE:=Lib.hid hl
   clear hc h0 hl
   have TK1:True:=trivial
   go_enter Tryz.func31,Tryz.ntmps31
   go_wp2_with ((clear TK0;go_at_call 36;refine HCK.out.mono ?_;rintro e w1 ⟨rfl,hb⟩;have N1:=Lib.hid (N0.out.later hb);clear hb))
   go_wp2_with ((clear TK1;go_at_call 120;refine (HCL.out _ N1.out).mono ?_;rintro e w2 ⟨⟨g,cc,rfl,hg,ho⟩,hb⟩;have HG:=Lib.hid (Nat.le_trans N1.out.below.size hg);have HO:=Lib.hid (owns_base ho N1.out.below.size);have N2:=Lib.hid (N1.out.later hb);clear hg ho hb))
   go_loopw [26] (fun v26 wr=>∃ k:Nat,k≤ls.length∧v26=.int .i64 (k:Int)∧Hid (OwnM w.heap.size wr (.slice (some ⟨g,0,none⟩) ls.length cc) ((ls.take k).map (fun x=>(turnX (f.zip t) x.1,x.2))++ls.drop k))∧Hid (NW w wr)) (fun v26 _=>ls.length - (intOf v26).toNat)
   case atStart=>exact ⟨0,Nat.zero_le _,rfl,HO,N2⟩
   case round =>
    clear HO N2
    obtain ⟨k,hk,rfl,HO,HN⟩:=hrel
    by_cases hlt:k < ls.length
    ·obtain ⟨x,hx⟩:∃ x,ls[k]?=some x:=⟨_,List.getElem?_eq_getElem hlt⟩
     have hlt':(k:Int) < (ls.length:Int):=by omega
     have hkl:((ls.take k).map fun x:L2=>(turnX (f.zip t) x.1,x.2)).length=k:=by rw [List.length_map,List.length_take];omega
     have hg1:((ls.take k).map (fun x:L2=>(turnX (f.zip t) x.1,x.2))++ls.drop k)[k]?=some x:=by
      rw [drop_of hx]
      have:=get_mid ((ls.take k).map fun x:L2=>(turnX (f.zip t) x.1,x.2)) x (ls.drop (k+1))
      rwa [hkl] at this
     have HGX:=Lib.hid hg1
     have HST:=Lib.hid (show ∀ z:L2,z=(turnX (f.zip t) x.1,x.2)→((ls.take k).map (fun x:L2=>(turnX (f.zip t) x.1,x.2))++ls.drop k).set k z=(ls.take (k+1)).map (fun x:L2=>(turnX (f.zip t) x.1,x.2))++ls.drop (k+1) from fun z hz=>by
      rw [drop_of hx,List.take_add_one,hx,Option.toList_some,List.map_append,hz]
      have:=set_mid ((ls.take k).map fun x:L2=>(turnX (f.zip t) x.1,x.2)) x (turnX (f.zip t) x.1,x.2) (ls.drop (k+1))
      rw [hkl] at this
      rw [this]
      simp)
     have HTX:=HTU.out x.1
     obtain ⟨p0,p1,hgb⟩:=HO.out.cell hg1
     have HIX:=Lib.hid (fun (W:World) (hW:NW w W)=>dindex_any f _ x.1 W (HF.out.below hW.below))
     have HLT:=Lib.hid (And.intro hlt hlt')
     have TK2:True:=trivial
     clear hg1 hlt hkl hx
     rcases HTX with ⟨h1,h2⟩|⟨i,y,h1,h2,h3,h4⟩
     ·rw [h1] at HIX
      have HS2:=Lib.hid (show (ls.take (k+1)).map (fun x:L2=>(turnX (f.zip t) x.1,x.2))++ls.drop (k+1)=(ls.take k).map (fun x:L2=>(turnX (f.zip t) x.1,x.2))++ls.drop k by
       rw [← HST.out x (by rw [h2])]
       exact List.ext_getElem? fun j=>by
        rw [List.getElem?_set]
        split
        ·rename_i e;subst e;rw [HGX.out,if_pos (List.getElem?_eq_some_iff.1 HGX.out).1]
        ·rfl)
      clear h1 h2
      go_wp2_with ((clear TK2;go_at_call 121;refine (HIX.out _ HN.out).mono ?_;rintro e w5 ⟨rfl,hw⟩;subst hw))
      go_roundw
      case rel=>exact ⟨k+1,HLT.out.1,by go_num,Lib.hid (by rw [HS2.out];exact HO.out),HN⟩
      case measure=>have:=HLT.out.1;simp [intOf];omega
     ·rw [h1,Nat.zero_add] at HIX
      have hi0:(0:Int)≤(i:Int):=by omega
      have hi1:(i:Int) < (f.length:Int):=by omega
      obtain ⟨b3,o3,c3,e3,hb3,t0⟩:=HT.out.at HN.out.below h3
      simp only [Value.slice.injEq] at e3
      obtain ⟨rfl,h9,rfl⟩:=e3
      clear h9
      have HS2:=Lib.hid (HST.out (y,x.2) (by rw [h4]))
      have fz:=OwnM.frozen HO.out (k*2)
      clear h1 h2 h3 h4
      go_wp2_with ((clear TK2;go_at_call 121;refine (HIX.out _ HN.out).mono ?_;rintro e w5 ⟨rfl,hw⟩;subst hw))
      go_roundw
      case rel =>
       obtain ⟨r1,r2⟩:=OwnM.set1 y HO.out HGX.out
       exact ⟨k+1,HLT.out.1,by go_num,Lib.hid (by rw [← HS2.out];exact r1),Lib.hid (grow_nw HN.out HRS.out r2 (fun r e=>by cases e;exact HG.out))⟩
      case measure=>have:=HLT.out.1;simp [intOf];omega
    ·have hlt':¬ (k:Int) < (ls.length:Int):=by omega
     obtain rfl:k=ls.length:=by omega
     rw [List.take_length,List.drop_length,List.append_nil] at HO
     have hsm:Short (ls.map fun x=>(turnX (f.zip t) x.1,x.2)):=fun z hz=>by
      obtain ⟨x,hx,rfl⟩:=List.mem_map.1 hz
      refine ⟨?_,(HS.out x hx).2⟩
      rcases HTU.out x.1 with ⟨_,h2⟩|⟨i,y,_,_,h3,h4⟩
      ·show (turnX (f.zip t) x.1).size≤_
       rw [h2];exact (HS.out x hx).1
      ·show (turnX (f.zip t) x.1).size≤_
       rw [h4];exact HTK.out y (List.mem_of_getElem? h3)
     have HMC:=Lib.hid (dmake_any _ _ wr (HO.out.row (by rw [List.length_map];exact HLL.out)) hsm HN.out.res)
     have TK2:True:=trivial
     rw [← HR.out] at HMC
     clear hlt hsm
     cases mk with
     | error n =>
      change Hid (Calls _ _ _ _ fun e w'=>e=.returned (.tuple #[.slice none 0 0,.int .i64 (n:Int)])∧_) at HMC
      go_wp2_with ((clear TK2;go_at_call 25;refine HMC.out.mono ?_;rintro e w5 ⟨rfl,hb⟩;have N5:=Lib.hid (HN.out.later hb);clear hb))
      go_ret2
      exact ⟨rfl,N5.out.below⟩
     | ok d =>
      change Hid (Calls _ _ _ _ fun e w'=>(∃ u,e=.returned (.tuple #[u,.int .i64 0])∧OwnM _ w' u d)∧_) at HMC
      go_wp2_with ((clear TK2;go_at_call 25;refine HMC.out.mono ?_;rintro e w5 ⟨⟨u,rfl,ho⟩,hb⟩;have N5:=Lib.hid (HN.out.later hb);have HO5:=Lib.hid (owns_base ho HN.out.below.size);clear ho hb))
      go_ret2
      exact ⟨⟨_,rfl,HO5.out⟩,N5.out.below⟩
  ·have HR:=Lib.hid (show mk=.error 3 by rw [← HMK.out];unfold pushX;rw [if_neg (by simpa using hc),if_pos hl])
   rw [hc] at HCK
   change Hid (Calls _ _ _ _ fun e w'=>e=.returned (.int .i64 0)∧_) at HCK
   have hl':((f.length:Int)==(t.length:Int))=false:=by rw [beq_eq_false_iff_ne];omega
   have hl3:((f.length:Int) != (t.length:Int))=true:=by unfold bne;rw [hl'];rfl
   clear hc hl
   go_enter Tryz.func31,Tryz.ntmps31
   go_wp2_with ((clear TK0;go_at_call 36;refine HCK.out.mono ?_;rintro e w1 ⟨rfl,hb⟩;have N1:=Lib.hid (N0.out.later hb);clear hb))
   go_wp2
   go_ret2
   rw [HR.out]
   exact ⟨rfl,N1.out.below⟩
 ·have hz:=ne_zero hc
  have hz2:=ne_zero2 hc
  have HR:=Lib.hid (show mk=.error (chkD ls) by rw [← HMK.out];unfold pushX;rw [if_pos hc])
  generalize chkD ls=n at *
  clear hc
  go_enter Tryz.func31,Tryz.ntmps31
  go_wp2_with ((clear TK0;go_at_call 36;refine HCK.out.mono ?_;rintro e w1 ⟨rfl,hb⟩;have N1:=Lib.hid (N0.out.later hb);clear hb))
  go_wp2
  go_ret2
  rw [HR.out]
  exact ⟨rfl,N1.out.below⟩
end Go.Proofs.YtigapglmipmbeaaGreatDoor
namespace Go.Proofs.YtigapglmipmbeaaGreatDoor
open Lim
def badL:List (List L2):=[[],[(⟨#[97]⟩,⟨#[120]⟩)],[(⟨#[97]⟩,⟨#[48]⟩),(⟨#[98]⟩,⟨#[49]⟩)],[(⟨#[98]⟩,⟨#[49,47,50]⟩),(⟨#[97]⟩,⟨#[49,47,50]⟩)],[(⟨#[97]⟩,⟨#[49,47,50]⟩),(⟨#[97]⟩,⟨#[49,47,50]⟩)],[(⟨#[97]⟩,⟨#[49,47,50]⟩)],[(⟨#[97]⟩,⟨#[50]⟩),(⟨#[98]⟩,⟨#[45,49]⟩)]]
def wantL:List Nat:=[15,3,2,9,9,15,2]
def pointL:List L2:=[(⟨#[97]⟩,⟨#[49]⟩)]
def mkL:List L2:=[(⟨#[97]⟩,⟨#[45,49]⟩),(⟨#[97]⟩,⟨#[50]⟩)]
theorem bad_want:∀ {j:Nat} {l:List L2},badL[j]?=some l→wantL[j]?=some (chkD l)∧Short l∧l.length≤1000
 | 0,l,h=>by cases h;exact ⟨by decide +kernel,short_lit (by decide),by decide⟩
 | 1,l,h=>by cases h;exact ⟨by decide +kernel,short_lit (by decide),by decide⟩
 | 2,l,h=>by cases h;exact ⟨by decide +kernel,short_lit (by decide),by decide⟩
 | 3,l,h=>by cases h;exact ⟨by decide +kernel,short_lit (by decide),by decide⟩
 | 4,l,h=>by cases h;exact ⟨by decide +kernel,short_lit (by decide),by decide⟩
 | 5,l,h=>by cases h;exact ⟨by decide +kernel,short_lit (by decide),by decide⟩
 | 6,l,h=>by cases h;exact ⟨by decide +kernel,short_lit (by decide),by decide⟩
 | j+7,l,h=>by simp [badL] at h
theorem short_point:Short pointL:=short_lit (by decide)
theorem short_mk:Short mkL:=short_lit (by decide)
theorem nam_1:resX (deltaX halfL thirdsL ⟨#[51,47,50]⟩)=.tuple #[.string ⟨#[48]⟩,.int .i64 0]:=by kernel_rfl
theorem nam_2:resX (deltaX pointL halfL ⟨#[49]⟩)=.tuple #[.string ⟨#[49,47,50]⟩,.int .i64 0]:=by kernel_rfl
theorem nam_3:resX (deltaX thirdsL halfL oT)=.tuple #[.string ⟨#[49,47,54]⟩,.int .i64 0]:=by kernel_rfl
theorem nam_4:facV halfL thirdsL=.tuple #[.string ⟨#[51,47,50]⟩,.bool true,.int .i64 0]:=by kernel_rfl
theorem nam_5:facV halfL pointL=.tuple #[.string ⟨#[]⟩,.bool false,.int .i64 0]:=by kernel_rfl
theorem nam_6:prodX pointL halfL=.ok [(⟨#[97,124,97]⟩,⟨#[49,47,50]⟩),(⟨#[97,124,98]⟩,⟨#[49,47,50]⟩)]:=by kernel_rfl
theorem nam_7:mixX ⟨#[49,47,50]⟩ pointL thirdsL=.ok [(⟨#[97]⟩,⟨#[50,47,51]⟩),(⟨#[98]⟩,⟨#[49,47,51]⟩)]:=by kernel_rfl
theorem nam_8:pushX halfL [⟨#[98]⟩] [⟨#[97]⟩]=.ok pointL:=by kernel_rfl
theorem nam_9:pushX halfL [⟨#[98]⟩] []=.error 3:=by kernel_rfl
theorem nam_10:mixX ⟨#[50]⟩ halfL thirdsL=.error 2:=by kernel_rfl
theorem nam_11:resX (deltaX halfL thirdsL ⟨#[45,49]⟩)=.tuple #[.string ⟨#[]⟩,.int .i64 2]:=by kernel_rfl
theorem nam_12:momV halfL thirdsL 9=.tuple #[.string ⟨#[]⟩,.bool false,.int .i64 2]:=by kernel_rfl
theorem nam_13:makeX mkL=.error 2:=by kernel_rfl
theorem nam_14:resX (deltaX halfL thirdsL ⟨#[48]⟩)=.tuple #[.string ⟨#[49]⟩,.int .i64 0]:=by kernel_rfl
theorem nam_sub:posE ⟨#[49,47,50]⟩=0→¬ 1 < valQ (⟨#[49,47,50]⟩:ByteArray).data.toList→∃ r,subX oT ⟨#[49,47,50]⟩=.ok r:=fun _ _=>⟨⟨#[49,47,50]⟩,by kernel_rfl⟩
theorem nam_sub2:posE ⟨#[50]⟩=0→¬ 1 < valQ (⟨#[50]⟩:ByteArray).data.toList→∃ r,subX oT ⟨#[50]⟩=.ok r:=fun _ h=>absurd (show (1:Rat) < valQ (⟨#[50]⟩:ByteArray).data.toList by decide +kernel) h
theorem nam_at1:atT thirdsL ⟨#[98]⟩=⟨#[50,47,51]⟩:=by kernel_rfl
theorem nam_at2:atT thirdsL ⟨#[122]⟩=⟨#[48]⟩:=by kernel_rfl
theorem nam_at3:atT [] ⟨#[]⟩=⟨#[48]⟩:=by kernel_rfl
theorem same_refl8 (l:List L2):sameX l l=true:=by unfold sameX;simp
end Go.Proofs.YtigapglmipmbeaaGreatDoor
namespace Go.Proofs.YtigapglmipmbeaaGreatDoor
open Go.RowKit Go.Shelf
open Lim
attribute [local go_sem] Oper.semAt_some
theorem dpoint_any (k:ByteArray) (w:World):Calls Tryz.prog 41 #[.string k] w fun e w'=>(∃ u,e=.returned u∧LRow w' u [(k,oT)])∧Below w.heap.size w w':=by
 have HB:=Lib.hid (Blk.new w 30 #[.string k,.string ⟨#[49]⟩])
 go_enter Tryz.func41,Tryz.ntmps41
 go_wp2
 go_ret
 exact ⟨⟨_,rfl,LRow.one HB.out⟩,below_alloc (Below.refl _ _) _⟩
end Go.Proofs.YtigapglmipmbeaaGreatDoor
namespace Go.Proofs.YtigapglmipmbeaaGreatDoor.S2
open Go.RowKit Go.Proofs.YtigapglmipmbeaaGreatDoor
def bareRead (o:Oper):Bool:=pureRead { o with guard:=none }
def stageOk (ops:List Oper) (H:List Nat):Bool :=
 (List.range ops.length).all fun j=>match ops[j]? with
  | none=>true
  | some o=>ownEdges j o&&noDefer o&&noSel o&&(match o.guard with|none=>true|some (k,_)=>waitsOn o k) &&
   (if H.contains j then bareRead o&&farOf o o.dst else true) &&
   (List.range ops.length).all fun i=>i==j || (match ops[i]? with|none=>true|some h=>(waitsOn o i || (farOf o h.dst || (waitsOn h j&&!H.contains i)))&&(h.dst.isNone || h.dst != o.dst))
structure StOk (ops:List Oper) (H:List Nat) (j:Nat) (o:Oper):Prop where
 edges:ownEdges j o=true
 nd:noDefer o=true
 ns:noSel o=true
 gd:∀ k b,o.guard=some (k,b)→waitsOn o k=true
 rd:j∈H→bareRead o=true∧farOf o o.dst=true
 far:∀ i h,i≠j→ops[i]?=some h→(waitsOn o i=true∨farOf o h.dst=true∨(waitsOn h j=true∧i ∉ H))∧(h.dst=none∨h.dst≠o.dst)
theorem stage_at {ops:List Oper} {H:List Nat} (hok:stageOk ops H=true) {j:Nat} {o:Oper} (hj:ops[j]?=some o):StOk ops H j o:=by
 have hlt:j < ops.length:=(List.getElem?_eq_some_iff.1 hj).1
 have h2:=List.all_eq_true.1 hok j (List.mem_range.2 hlt)
 rw [hj] at h2
 simp only [Bool.and_eq_true] at h2
 obtain ⟨⟨⟨⟨⟨h3,h4⟩,h5⟩,h6⟩,h7⟩,h8⟩:=h2
 refine ⟨h3,h4,h5,fun k b hg=>?_,fun hm=>?_,fun i h hne hi=>?_⟩
 ·rw [hg] at h6;exact h6
 ·rw [if_pos (by simpa using hm)] at h7;simpa using h7
 ·have:=List.all_eq_true.1 h8 i (List.mem_range.2 (List.getElem?_eq_some_iff.1 hi).1)
  rw [hi] at this
  simp only [Bool.or_eq_true,beq_iff_eq,Bool.and_eq_true,Option.isNone_iff_eq_none,bne_iff_ne] at this
  rcases this with h|h
  ·exact absurd h hne
  ·refine ⟨?_,h.2⟩
   rcases h.1 with h1|h1|h1
   ·exact .inl h1
   ·exact .inr (.inl h1)
   ·exact .inr (.inr ⟨h1.1,by have h2:=h1.2;simpa using h2⟩)
section
variable {F:Fence} {n:Nat} {P:Program} {C:World→Prop} {ops:List Oper} {H:List Nat}
theorem bare_runs {o:Oper} {a:Act} {K':Act→World→Prop} {Q:Exit→Act→World→Prop} {w:World} {v:Value} (hp:bareRead o=true) (hrun:o.quietAtIn F n P a C w v) (hK:K' (a.put o.dst v) w)
  (ha:∀ f,o.about P w a.eval=some f→F.fn f):o.wpIn F n P a w K' Q:=pure_runs (o:={ o with guard:=none }) hp hrun hK ha
theorem wanted_of {o:Oper} {a b:Act} (h:∀ k bb,o.guard=some (k,bb)→∀ s,(ops[k]?).bind (·.dst)=some s→a.tmps[s]?=b.tmps[s]?) :
  Region.wanted o (yielded ops.toArray a.tmps)=Region.wanted o (yielded ops.toArray b.tmps):=by
 unfold Region.wanted
 cases hg:o.guard with
 | none=>rfl
 | some kb =>
  obtain ⟨k,bb⟩:=kb
  have:yielded ops.toArray a.tmps k=yielded ops.toArray b.tmps k:=by
   unfold yielded
   rw [List.getElem?_toArray]
   cases hd:(ops[k]?).bind (·.dst) with
   | none=>rfl
   | some s =>
    simp only [Option.bind_some]
    rw [h k bb hg s hd]
  simp only [this]
def HeadVal (F:Fence) (n:Nat) (P:Program) (C:World→Prop) (ops:List Oper) (o:Oper) (b:Act) (v:Value):Prop :=
 o.askedIn F P b C∧((Region.wanted o (yielded ops.toArray b.tmps)=true∧∀ w,C w→o.quietAtIn F n P b C w v)∨(Region.wanted o (yielded ops.toArray b.tmps)=false∧v=undef))
theorem slot_other {b:Act} {d:Option Tmp} {u:Value} {s:Tmp} (h:d≠some s):(b.put d u).tmps[s]?=b.tmps[s]?:=by
 cases d with
 | none=>rfl
 | some e=>rw [put_get,if_neg (fun h'=>h (by rw [h'.1]))]
theorem HeadVal.of {o:Oper} {a b:Act} {v:Value} (h:HeadVal F n P C ops o b v) (hns:noSel o=true) (hev:∀ x∈o.op.operands,a.eval x=b.eval x)
  (hg:∀ k bb,o.guard=some (k,bb)→∀ s,(ops[k]?).bind (·.dst)=some s→a.tmps[s]?=b.tmps[s]?):HeadVal F n P C ops o a v:=by
 obtain ⟨h1,h2⟩:=h
 obtain ⟨e1,e2⟩:=quietAt_of (P:=P) (sel_of hns) hev
 refine ⟨fun w hw f hf=>h1 w hw f (by rw [← e2];exact hf),?_⟩
 rw [wanted_of hg]
 rcases h2 with ⟨hw,hq⟩|h2
 ·refine .inl ⟨hw,fun w hw=>?_⟩
  have:=hq w hw
  unfold Oper.quietAtIn at this ⊢
  rw [e1]
  exact this
 ·exact .inr h2
def wpStage (F:Fence) (n:Nat) (P:Program) (ops:List Oper) (H:List Nat) (C:World→Prop) (waits:Nat→Bool) (Q':Act→World→Prop):Nat→Array Bool→Act→World→Prop
 | 0,LT,b,w=>Region.ready .any ops.toArray LT=[]∧Q' b w
 | f+1,LT,b,w =>
  (∃ i o,i∈H∧i∈Region.ready .any ops.toArray LT∧ops[i]?=some o∧∃ v,HeadVal F n P C ops o b v∧wpStage F n P ops H C waits Q' f (LT.setIfInBounds i true) (b.put o.dst v) w) ∨
  ((Region.ready .any ops.toArray LT=[]→Q' b w) ∧
   ∀ j∈Region.ready .any ops.toArray LT,∀ o,ops[j]?=some o→wpListIn F n P ops.toArray (fun e a' w'=>e=.normal∧(waits j=false→C w')∧wpStage F n P ops H C waits Q' f (LT.setIfInBounds j true) a' w') [o] b w)
def Owed (H:List Nat) (L LT:Array Bool) (i:Nat):Prop:=i∈H∧LT[i]?=some true∧L[i]?=some false
def Known (F:Fence) (n:Nat) (P:Program) (C:World→Prop) (ops:List Oper) (H:List Nat) (L LT:Array Bool) (b:Act):Prop :=
 ∀ i o,Owed H L LT i→ops[i]?=some o→∃ v,b.put o.dst v=b∧HeadVal F n P C ops o b v
theorem set_get {L:Array Bool} {j i:Nat} (hj:j < L.size):(L.setIfInBounds j true)[i]?=if j=i then some true else L[i]?:=by
 by_cases h:j=i
 ·subst h;rw [if_pos rfl,Array.getElem?_setIfInBounds_self_of_lt hj]
 ·rw [if_neg h,Array.getElem?_setIfInBounds_ne h]
theorem get_or {L:Array Bool} {i:Nat} (h:i < L.size):L[i]?=some true∨L[i]?=some false:=by
 rw [Array.getElem?_eq_getElem h]
 cases L[i]<;>simp
theorem owed_agree (hok:stageOk ops H=true) {L LT:Array Bool} (_hs1:L.size=ops.length) {a b:Act} (hl:Lack ops (Owed H L LT) a b) {j:Nat} {o:Oper} (hoj:ops[j]?=some o) (hself:Owed H L LT j→farOf o o.dst=true)
  (hall:∀ k,waitsOn o k=true→L[k]?=some true):(∀ x∈o.op.operands,a.eval x=b.eval x)∧∀ k bb,o.guard=some (k,bb)→∀ s,(ops[k]?).bind (·.dst)=some s→a.tmps[s]?=b.tmps[s]?:=by
 have hS:=stage_at hok hoj
 refine ⟨hl.eval fun i h' hi hh d hd=>?_,fun k bb hg s hs=>hl.same s fun i h' hi hh e=>?_⟩
 ·by_cases hij:i=j
  ·subst hij
   rw [hoj] at hh;cases hh
   exact farOf_spec (hself hi) d hd
  ·rcases (hS.far i h' hij hh).1 with hw|hf|hf
   ·have:=hall i hw
    rw [hi.2.2] at this;cases this
   ·exact farOf_spec hf d hd
   ·exact absurd hi.1 hf.2
 ·have hk:=hall k (hS.gd k bb hg)
  have hik:i≠k:=fun e'=>by subst e';rw [hi.2.2] at hk;cases hk
  obtain ⟨ok,hok',hd⟩:=Option.bind_eq_some_iff.1 hs
  rcases ((stage_at hok hok').far i h' hik hh).2 with h0|h0
  ·rw [h0] at e;cases e
  ·exact h0 (by rw [e,hd])
theorem known_put (hok:stageOk ops H=true) {L LT:Array Bool} {b:Act} (hk:Known F n P C ops H L LT b) {j:Nat} {o:Oper} (hoj:ops[j]?=some o) (hj:LT[j]?=some false)
  (hcl:∀ i o,i∈H→LT[i]?=some true→ops[i]?=some o→∀ k,waitsOn o k=true→LT[k]?=some true) (u:Value) {i:Nat} {oi:Oper} (hi:Owed H L LT i) (hoi:ops[i]?=some oi) (hno:waitsOn o i=true→j∈H) :
  ∃ v,(b.put o.dst u).put oi.dst v=b.put o.dst u∧HeadVal F n P C ops oi (b.put o.dst u) v:=by
 obtain ⟨v,h1,h2⟩:=hk i oi hi hoi
 have hij:i≠j:=fun e=>by subst e;rw [hi.2.1] at hj;cases hj
 have hSi:=stage_at hok hoi
 have hSj:=stage_at hok hoj
 have hw:∀ k,waitsOn oi k=true→k≠j:=fun k hk e=>by
  subst e
  have:=hcl i oi hi.1 hi.2.1 hoi k hk
  rw [hj] at this;cases this
 have hfar:=(hSi.far j o (fun e=>hij e.symm) hoj)
 refine ⟨v,?_,h2.of hSi.ns (operands_far (farOf_spec ?_)) fun k bb hg s hs=>slot_other fun e=>?_⟩
 ·rcases hfar.2 with h|h
  ·rw [h];exact h1
  ·have hc:=Act.put_comm b (x:=oi.dst) (y:=o.dst) v u (fun d h1 h2=>h (h2.trans h1.symm))
   rw [← hc,h1]
 ·rcases hfar.1 with h|h|h
  ·exact absurd rfl (hw j h)
  ·exact h
  ·exact absurd (hno h.1) h.2
 ·have hkj:=hw k (hSi.gd k bb hg)
  obtain ⟨ok,hok',hd⟩:=Option.bind_eq_some_iff.1 hs
  rcases (hSj.far k ok hkj hok').2 with h0|h0
  ·rw [h0] at hd;cases hd
  ·exact h0 (by rw [e,hd])
structure StInv (F:Fence) (n:Nat) (P:Program) (C:World→Prop) (ops:List Oper) (H:List Nat) (L LT:Array Bool) (a b:Act) (w:World):Prop where
 s1:L.size=ops.length
 s2:LT.size=ops.length
 same:∀ i:Nat,i < ops.length→i ∉ H→L[i]?=LT[i]?
 le:∀ i:Nat,L[i]?=some true→LT[i]?=some true
 closed:∀ (i:Nat) (o:Oper),i∈H→LT[i]?=some true→ops[i]?=some o→∀ k,waitsOn o k=true→LT[k]?=some true
 known:(∀ i∈H,i < ops.length→L[i]?=some true)∨(C w∧Known F n P C ops H L LT b)
 lack:Lack ops (Owed H L LT) a b
theorem StInv.hoist (hok:stageOk ops H=true) {L LT:Array Bool} {a b:Act} {w:World} (h:StInv F n P C ops H L LT a b w) {i:Nat} {o:Oper} (hi:i∈H) (hoi:ops[i]?=some o) (hLT:LT[i]?=some false)
  (hall:∀ k,waitsOn o k=true→LT[k]?=some true) {v:Value} (hv:HeadVal F n P C ops o b v):StInv F n P C ops H L (LT.setIfInBounds i true) a (b.put o.dst v) w:=by
 have hil:=(List.getElem?_eq_some_iff.1 hoi).1
 have hlt:i < LT.size:=by rw [h.s2];exact hil
 have hLi:L[i]?=some false:=by
  rcases get_or (L:=L) (i:=i) (by rw [h.s1];exact hil) with e|e
  ·have:=h.le i e;rw [hLT] at this;cases this
  ·exact e
 have hS:=stage_at hok hoi
 have hwi:waitsOn o i=true→False:=fun e=>by have:=hall i e;rw [hLT] at this;cases this
 refine ⟨h.s1,by simpa using h.s2,fun k hk hkH=>?_,fun k hk=>?_,fun k ok hk hkT hok' j hj=>?_,?_,?_⟩
 ·rw [set_get hlt,if_neg (fun e=>hkH (by rw [← e];exact hi))];exact h.same k hk hkH
 ·rw [set_get hlt];split
  ·rfl
  ·exact h.le k hk
 ·rw [set_get hlt]
  by_cases e:i=j
  ·rw [if_pos e]
  ·rw [if_neg e]
   by_cases e2:i=k
   ·subst e2;rw [hoi] at hok';cases hok';exact hall j hj
   ·rw [set_get hlt,if_neg e2] at hkT;exact h.closed k ok hk hkT hok' j hj
 ·rcases h.known with hk|⟨hC,hk⟩
  ·have:=hk i hi hil;rw [hLi] at this;cases this
  ·refine .inr ⟨hC,fun k ok hkO hok'=>?_⟩
   by_cases e:i=k
   ·subst e
    rw [hoi] at hok';cases hok'
    refine ⟨v,put_put_same _ _ _,hv.of hS.ns (operands_far (farOf_spec (hS.rd hi).2)) fun k bb hg s hs=>slot_other fun e=>?_⟩
    have hki:k≠i:=fun e'=>by subst e';exact hwi (hS.gd k bb hg)
    obtain ⟨ok,hok',hd⟩:=Option.bind_eq_some_iff.1 hs
    rcases (hS.far k ok hki hok').2 with h0|h0
    ·rw [h0] at hd;cases hd
    ·exact h0 (by rw [e,hd])
   ·refine known_put hok hk hoi hLT h.closed v ⟨hkO.1,?_,hkO.2.2⟩ hok' (fun _=>hi)
    have:=hkO.2.1
    rwa [set_get hlt,if_neg e] at this
 ·refine ⟨h.lack.defers.trans (put_defers _ _ _).symm,h.lack.size.trans (put_size _ _ _).symm,fun s hs=>?_⟩
  have h1:=h.lack.same s fun k ok hk hok'=>hs k ok ⟨hk.1,by rw [set_get hlt];split;rfl;exact hk.2.1,hk.2.2⟩ hok'
  rw [h1,slot_other (hs i o ⟨hi,by rw [set_get hlt,if_pos rfl],hLi⟩ hoi)]
theorem StInv.paid (_hok:stageOk ops H=true) {L LT:Array Bool} {a b:Act} {w:World} (h:StInv F n P C ops H L LT a b w) {j:Nat} {o:Oper} (hoj:ops[j]?=some o) (hO:Owed H L LT j) {v:Value} (hb:b.put o.dst v=b) :
  StInv F n P C ops H (L.setIfInBounds j true) LT (a.put o.dst v) b w:=by
 have hjl:j < L.size:=by rw [h.s1];exact (List.getElem?_eq_some_iff.1 hoj).1
 have sub:∀ k,Owed H (L.setIfInBounds j true) LT k→Owed H L LT k:=fun k hk=>by
  refine ⟨hk.1,hk.2.1,?_⟩
  have:=hk.2.2
  rw [set_get hjl] at this
  split at this
  ·cases this
  ·exact this
 refine ⟨by simpa using h.s1,h.s2,fun k hk hkH=>?_,fun k hk=>?_,h.closed,?_,?_⟩
 ·rw [set_get hjl,if_neg (fun e=>hkH (by rw [← e];exact hO.1))];exact h.same k hk hkH
 ·rw [set_get hjl] at hk
  split at hk
  ·rename_i e;rw [← e];exact hO.2.1
  ·exact h.le k hk
 ·rcases h.known with hk|⟨hC,hk⟩
  ·exact .inl fun k hkH hkl=>by rw [set_get hjl];split;rfl;exact hk k hkH hkl
  ·exact .inr ⟨hC,fun k ok hkO=>hk k ok (sub k hkO)⟩
 ·refine h.lack.head hoj hb fun k hk=>?_
  by_cases e:j=k
  ·exact .inl e.symm
  ·exact .inr ⟨hk.1,hk.2.1,by rw [set_get hjl,if_neg e];exact hk.2.2⟩
theorem StInv.step (hok:stageOk ops H=true) {L LT:Array Bool} {a b a' b':Act} {w w':World} (h:StInv F n P C ops H L LT a b w) {j:Nat} {o:Oper} (hoj:ops[j]?=some o) (_hL:L[j]?=some false) (hLT:LT[j]?=some false)
  (hall:∀ k,waitsOn o k=true→L[k]?=some true) {u:Value} {b0:Act} (hkn:Known F n P C ops H L LT b→Known F n P C ops H L LT b0) (hb':b'=b0.put o.dst u) (hl':Lack ops (Owed H L LT) a' b') (hC':C w'∨∀ i∈H,i < ops.length→waitsOn o i=true) :
  StInv F n P C ops H (L.setIfInBounds j true) (LT.setIfInBounds j true) a' b' w':=by
 have hjl:j < L.size:=by rw [h.s1];exact (List.getElem?_eq_some_iff.1 hoj).1
 have hjt:j < LT.size:=by rw [h.s2];exact (List.getElem?_eq_some_iff.1 hoj).1
 have sub:∀ k,Owed H (L.setIfInBounds j true) (LT.setIfInBounds j true) k→Owed H L LT k:=fun k hk=>by
  have h1:=hk.2.1
  have h2:=hk.2.2
  rw [set_get hjl] at h2
  rw [set_get hjt] at h1
  split at h2
  ·cases h2
  ·rename_i e;rw [if_neg e] at h1;exact ⟨hk.1,h1,h2⟩
 refine ⟨by simpa using h.s1,by simpa using h.s2,fun k hk hkH=>?_,fun k hk=>?_,fun k ok hk hkT hok' m hm=>?_,?_,?_⟩
 ·rw [set_get hjl,set_get hjt];split
  ·rfl
  ·exact h.same k hk hkH
 ·rw [set_get hjl] at hk;rw [set_get hjt]
  split
  ·rfl
  ·rename_i e;rw [if_neg e] at hk;exact h.le k hk
 ·rw [set_get hjt]
  split
  ·rfl
  ·by_cases e2:j=k
   ·subst e2;rw [hoj] at hok';cases hok';exact h.le m (hall m hm)
   ·rw [set_get hjt,if_neg e2] at hkT;exact h.closed k ok hk hkT hok' m hm
 ·rcases h.known with hk|⟨hC,hk⟩
  ·exact .inl fun k hkH hkl=>by rw [set_get hjl];split;rfl;exact hk k hkH hkl
  ·rcases hC' with hC'|hC'
   ·refine .inr ⟨hC',fun k ok hkO hok'=>?_⟩
    rw [hb']
    exact known_put hok (hkn hk) hoj hLT h.closed u (sub k hkO) hok' (fun hw=>by
     have h1:=hall k hw
     have h2:=(sub k hkO).2.2
     rw [h1] at h2;cases h2)
   ·exact .inl fun k hkH hkl=>by rw [set_get hjl];split;rfl;exact hall k (hC' k hkH hkl)
 ·exact hl'.mono fun k hkl hk=>by
   refine ⟨hk.1,?_,?_⟩
   ·rw [set_get hjt];split;rfl;exact hk.2.1
   ·rw [set_get hjl]
    split
    ·rename_i e;subst e;have:=hk.2.1;rw [hLT] at this;cases this
    ·exact hk.2.2
theorem getD_false {L:Array Bool} {i:Nat} (hi:i < L.size) (h:L.getD i true=false):L[i]?=some false:=by
 rcases get_or hi with e|e
 ·rw [getD_of e] at h;cases h
 ·exact e
theorem ready_exists (hok:stageOk ops H=true) {L:Array Bool} (hsz:L.size=ops.length) (hu:unlisted ops.length L≠0):∃ i,i∈Region.ready .any ops.toArray L:=by
 have hne:∃ i,i < ops.length∧L.getD i true=false:=by
  have hpos:0 < ((List.range ops.length).filter fun i=>!L.getD i true).length:=by unfold unlisted at hu;omega
  obtain ⟨i,hi⟩:=List.exists_mem_of_length_pos hpos
  obtain ⟨g1,g2⟩:=List.mem_filter.1 hi
  exact ⟨i,List.mem_range.1 g1,by simpa using g2⟩
 obtain ⟨i0,⟨hi0,hu0⟩,hmin⟩:=exists_least (p:=fun i=>i < ops.length∧L.getD i true=false) hne
 have ho:ops[i0]?=some ops[i0]:=by simp [hi0]
 refine ⟨i0,mem_ready.2 ⟨hu0,ops[i0],by simp [hi0],fun e he hb=>?_⟩⟩
 have hlt:=ownEdges_spec (stage_at hok ho).edges e he hb
 have hnot:¬ L.getD e.on true=false:=fun hh=>by have:=hmin e.on ⟨by omega,hh⟩;omega
 exact getD_of (listed_of (k:=ops.length) (by omega) (by omega) (.inl (by simpa using hnot)))
theorem ready_none {L:Array Bool} (hsz:L.size=ops.length) (hu:unlisted ops.length L=0):Region.ready .any ops.toArray L=[]:=by
 rw [List.eq_nil_iff_forall_not_mem]
 intro j hj
 obtain ⟨hj1,o,ho,_⟩:=mem_ready.1 hj
 have hlt:j < ops.length:=by have:=(Array.getElem?_eq_some_iff.1 ho).1;simpa using this
 have:=listed_of (k:=ops.length) (by omega) hlt (.inr (unlisted_zero hu (by omega) j hlt))
 rw [getD_of this] at hj1;cases hj1
theorem ready_facts (hok:stageOk ops H=true) {L:Array Bool} (hsz:L.size=ops.length) {j:Nat} (hj:j∈Region.ready .any ops.toArray L):∃ o,ops[j]?=some o∧ops.toArray[j]?=some o∧L[j]?=some false∧∀ k,waitsOn o k=true→L[k]?=some true:=by
 obtain ⟨hj1,o,ho,hall⟩:=mem_ready.1 hj
 have hjl:j < ops.length:=by have:=(Array.getElem?_eq_some_iff.1 ho).1;simpa using this
 have hoj:ops[j]?=some o:=by rw [← ho];simp
 refine ⟨o,hoj,ho,getD_false (by omega) hj1,fun k hk=>?_⟩
 obtain ⟨e,he,hb,hon⟩:=waitsOn_spec hk
 have h1:=hall e he hb
 have hel:=ownEdges_spec (stage_at hok hoj).edges e he hb
 rw [hon] at h1 hel
 exact listed_of (k:=ops.length) (by omega) (by omega) (.inr h1)
theorem ready_mono (hok:stageOk ops H=true) {L LT:Array Bool} (hs1:L.size=ops.length) (_hs2:LT.size=ops.length) (hle:∀ i:Nat,L[i]?=some true→LT[i]?=some true) {j:Nat} (hj:j∈Region.ready .any ops.toArray L) (hLT:LT[j]?=some false):j∈Region.ready .any ops.toArray LT:=by
 obtain ⟨o,hoj,ho,hL,hall⟩:=ready_facts hok hs1 hj
 refine mem_ready.2 ⟨getD_of hLT,o,ho,fun e he hb=>?_⟩
 have hw:waitsOn o e.on=true:=by
  unfold waitsOn
  rw [Array.any_eq_true']
  exact ⟨e,he,by simp [hb]⟩
 exact getD_of (hle _ (hall _ hw))
theorem Known.defers {L LT:Array Bool} {b:Act} (h:Known F n P C ops H L LT b) (ds:List Deferred):Known F n P C ops H L LT { b with defers:=ds }:=by
 intro i o hi ho
 obtain ⟨u,h2,h3⟩:=h i o hi ho
 refine ⟨u,?_,h3⟩
 cases hd:o.dst with
 | none=>rfl
 | some d =>
  rw [hd] at h2
  have:=congrArg Act.tmps h2
  simp only [Act.put] at this ⊢
  rw [this]
theorem stage_paid (hok:stageOk ops H=true) {L LT:Array Bool} {a b:Act} {w:World} (hI:StInv F n P C ops H L LT a b w) {j:Nat} {o:Oper} (hO:Owed H L LT j) (hoj:ops[j]?=some o) (ho:ops.toArray[j]?=some o)
  (hall:∀ k,waitsOn o k=true→L[k]?=some true) {Q:Exit→Act→World→Prop} {K:Act→World→Prop} (hK:∀ v,b.put o.dst v=b→K (a.put o.dst v) w):wpOpIn F n P ops.toArray Q j K a w:=by
 have hS:=stage_at hok hoj
 rcases hI.known with hk|⟨hC,hk⟩
 ·have:=hk j hO.1 (List.getElem?_eq_some_iff.1 hoj).1;rw [hO.2.2] at this;cases this
 ·obtain ⟨v,hb,hv⟩:=hk j o hO hoj
  obtain ⟨hev,hgd⟩:=owed_agree hok hI.s1 hI.lack hoj (fun h=>(hS.rd h.1).2) hall
  obtain ⟨hask,hcase⟩:=hv.of hS.ns hev hgd
  unfold wpOpIn
  rw [ho]
  dsimp only
  rcases hcase with ⟨hw,hq⟩|⟨hw,rfl⟩
  ·rw [if_pos hw]
   exact bare_runs (hS.rd hO.1).1 (hq w hC) (hK v hb) (fun f hf=>hask w hC f hf)
  ·rw [if_neg (by rw [hw];simp)]
   exact ⟨fun f hf=>hask w hC f hf,hK _ hb⟩
theorem stage_run (hok:stageOk ops H=true) (waits:Nat→Bool) (hw:∀ j o,ops[j]?=some o→waits j=true→∀ i∈H,i < ops.length→waitsOn o i=true) (Q:Exit→Act→World→Prop):∀ (g f:Nat) (L LT:Array Bool) (a b:Act) (w:World),
  unlisted ops.length L=g→unlisted ops.length LT=f→StInv F n P C ops H L LT a b w→wpStage F n P ops H C waits (fun a w=>Q .normal a w) f LT b w→wpAnyIn F n P .any ops.toArray Q g L a w:=by
 intro g
 induction g with
 | zero =>
  intro f L LT a b w hg hf hI h
  have hall:∀ i,i < ops.length→L[i]?=some true:=fun i hi=>listed_of (k:=ops.length) (by rw [hI.s1];omega) hi (.inr (unlisted_zero hg (by rw [hI.s1];omega) i hi))
  have hut:unlisted ops.length LT=0:=by
   unfold unlisted
   rw [List.length_eq_zero_iff,List.filter_eq_nil_iff]
   intro i hi
   have:=hI.le i (hall i (List.mem_range.1 hi))
   simp [Array.getD_eq_getD_getElem?,this]
  rw [hut] at hf
  subst hf
  refine ⟨ready_none hI.s1 hg,?_⟩
  rw [hI.lack.full fun i hi hn=>by have:=hall i hi;rw [hn.2.2] at this;cases this]
  exact h.2
 | succ g ih =>
  intro f
  have less:∀ {L:Array Bool} {j k:Nat},L.size=ops.length→j < ops.length→L[j]?=some false→unlisted ops.length L=k+1→unlisted ops.length (L.setIfInBounds j true)=k:=fun hsz hj hf hu=>by
   have:=unlisted_set hj (by omega) (getD_of (d:=true) hf)
   omega
  induction f with
  | zero =>
   intro L LT a b w hg hf hI h
   obtain ⟨r0,hr0⟩:=ready_exists hok hI.s1 (by omega)
   refine ⟨fun e=>(by rw [e] at hr0;cases hr0),fun j hj=>?_⟩
   obtain ⟨o,hoj,ho,hL,hall⟩:=ready_facts hok hI.s1 hj
   have hjl:=(List.getElem?_eq_some_iff.1 hoj).1
   have hLT:LT[j]?=some true:=listed_of (k:=ops.length) (by rw [hI.s2];omega) hjl (.inr (unlisted_zero hf (by rw [hI.s2];omega) j hjl))
   have hjH:j∈H:=by
    by_cases hm:j∈H
    ·exact hm
    ·have:=hI.same j hjl hm;rw [hL,hLT] at this;cases this
   have hO:Owed H L LT j:=⟨hjH,hLT,hL⟩
   exact stage_paid hok hI hO hoj ho hall fun v hb=>ih 0 _ LT _ b w (less hI.s1 hjl hL hg) hf (hI.paid hok hoj hO hb) h
  | succ f ihf =>
   intro L LT a b w hg hf hI h
   rcases h with ⟨i,o,hiH,hir,hoi,v,hv,hst⟩|⟨h1,h2⟩
   ·obtain ⟨o',hoi',_,hLTi,halli⟩:=ready_facts hok hI.s2 hir
    rw [hoi] at hoi';cases hoi'
    have hil:=(List.getElem?_eq_some_iff.1 hoi).1
    exact ihf L _ a _ w hg (less hI.s2 hil hLTi hf) (hI.hoist hok hiH hoi hLTi halli hv) hst
   ·obtain ⟨r0,hr0⟩:=ready_exists hok hI.s1 (by omega)
    refine ⟨fun e=>(by rw [e] at hr0;cases hr0),fun j hj=>?_⟩
    obtain ⟨o,hoj,ho,hL,hall⟩:=ready_facts hok hI.s1 hj
    have hjl:=(List.getElem?_eq_some_iff.1 hoj).1
    rcases get_or (L:=LT) (i:=j) (by rw [hI.s2];exact hjl) with hLT|hLT
    ·have hjH:j∈H:=by
      by_cases hm:j∈H
      ·exact hm
      ·have:=hI.same j hjl hm;rw [hL,hLT] at this;cases this
     have hO:Owed H L LT j:=⟨hjH,hLT,hL⟩
     exact stage_paid hok hI hO hoj ho hall fun v hb=>ih (f+1) _ LT _ b w (less hI.s1 hjl hL hg) hf (hI.paid hok hoj hO hb) (.inr ⟨h1,h2⟩)
    ·have hrT:=ready_mono hok hI.s1 hI.s2 hI.le hj hLT
     have h3:=h2 j hrT o hoj
     have hS:=stage_at hok hoj
     obtain ⟨hev,hgd⟩:=owed_agree hok hI.s1 hI.lack hoj (fun h=>by have:=h.2.1;rw [hLT] at this;cases this) hall
     obtain ⟨e1,e2⟩:=quietAt_of (P:=P) (sel_of hS.ns) hev
     have hC':∀ w',(waits j=false→C w')→(C w'∨∀ i∈H,i < ops.length→waitsOn o i=true):=fun w' h=>by
      cases hwj:waits j with
      | true=>exact .inr (hw j o hoj hwj)
      | false=>exact .inl (h hwj)
     simp only [wpListIn] at h3
     unfold wpOpIn
     rw [ho]
     dsimp only
     rw [wanted_of hgd]
     by_cases hwt:Region.wanted o (yielded ops.toArray b.tmps)=true
     ·rw [if_pos hwt] at h3 ⊢
      refine wpIn_move hS.nd e1 (e2 w) (fun v w' h'=>?_) (fun d w' h'=>?_) (fun e a w h=>h.1) h3
      ·exact ih f _ _ _ _ w' (less hI.s1 hjl hL hg) (less hI.s2 hjl hLT hf) (hI.step hok hoj hL hLT hall id rfl (hI.lack.tail _ _) (hC' w' h'.2.1)) h'.2.2
      ·exact ih f _ _ _ _ w' (less hI.s1 hjl hL hg) (less hI.s2 hjl hLT hf) (hI.step hok hoj hL hLT hall (fun hk=>hk.defers _) rfl ((hI.lack.defer d).tail _ _) (hC' w' h'.2.1)) h'.2.2
     ·rw [if_neg hwt] at h3 ⊢
      obtain ⟨h4,h5⟩:=h3
      exact ⟨fun f hf=>h4 f (by rw [← e2 w];exact hf),ih f _ _ _ _ w (less hI.s1 hjl hL hg) (less hI.s2 hjl hLT hf) (hI.step hok hoj hL hLT hall id rfl (hI.lack.tail _ _) (hC' w h5.2.1)) h5.2.2⟩
def hoistOk (ops:List Oper) (H:List Nat):List Nat→Array Bool→Bool
 | [],_=>true
 | i::l,LT=>H.contains i&&!(LT.getD i true)&&(match ops[i]? with|none=>false|some o=>o.after.all fun e=>!Region.binds .any e || LT.getD e.on false)&&hoistOk ops H l (LT.setIfInBounds i true)
def listAll (hs:List Nat) (LT:Array Bool):Array Bool:=hs.foldl (fun LT i=>LT.setIfInBounds i true) LT
theorem stage_reads {waits:Nat→Bool} {Q':Act→World→Prop} {w:World}:∀ (hs:List Nat) (f:Nat) (LT:Array Bool) (b:Act),hoistOk ops H hs LT=true →
  wpQuietIn F n P ops.toArray C (fun b'=>wpStage F n P ops H C waits Q' f (listAll hs LT) b' w) (pickOps ops hs) b→wpStage F n P ops H C waits Q' (f+hs.length) LT b w
 | [],f,LT,b,_,h=>h
 | i::l,f,LT,b,hh,h=>by
  simp only [hoistOk,Bool.and_eq_true,Bool.not_eq_true'] at hh
  obtain ⟨⟨⟨h1,h2⟩,h3⟩,h4⟩:=hh
  cases ho:ops[i]? with
  | none=>rw [ho] at h3;cases h3
  | some o =>
   rw [ho] at h3
   rw [pick_cons,ho] at h
   obtain ⟨hask,h⟩:=h
   have hr:i∈Region.ready .any ops.toArray LT:=mem_ready.2 ⟨h2,o,by simpa using ho,fun e he hb=>by
    have:=Array.all_eq_true_iff_forall_mem.1 h3 e he
    rw [hb] at this
    simpa using this⟩
   have hH:i∈H:=by simpa using h1
   by_cases hwt:Region.wanted o (yielded ops.toArray b.tmps)=true
   ·rw [if_pos hwt] at h
    obtain ⟨v,hv,h⟩:=h
    exact .inl ⟨i,o,hH,hr,ho,v,⟨hask,.inl ⟨hwt,hv⟩⟩,stage_reads l f _ _ h4 h⟩
   ·rw [if_neg hwt] at h
    exact .inl ⟨i,o,hH,hr,ho,undef,⟨hask,.inr ⟨by simpa using hwt,rfl⟩⟩,stage_reads l f _ _ h4 h⟩
def StagePost (F:Fence) (n:Nat) (P:Program) (ops:List Oper) (H:List Nat) (C:World→Prop) (waits:Nat→Bool) (Q':Act→World→Prop) (f:Nat) (LT:Array Bool) (i:Nat):Exit→Act→World→Prop :=
 fun e a' w'=>e=.normal∧(waits i=false→C w')∧wpStage F n P ops H C waits Q' f (LT.setIfInBounds i true) a' w'
theorem stage_post {waits:Nat→Bool} {Q':Act→World→Prop} {f:Nat} {LT:Array Bool} {i:Nat} {a:Act} {w:World} (hC:C w) (h:wpStage F n P ops H C waits Q' f (LT.setIfInBounds i true) a w):StagePost F n P ops H C waits Q' f LT i .normal a w:=⟨rfl,fun _=>hC,h⟩
theorem stage_one {waits:Nat→Bool} {Q':Act→World→Prop} {f:Nat} {LT:Array Bool} {a:Act} {w:World} (i:Nat) {o:Oper} (hr:Region.ready .any ops.toArray LT=[i]) (ho:ops[i]?=some o)
  (h:wpListIn F n P ops.toArray (StagePost F n P ops H C waits Q' f LT i) [o] a w):wpStage F n P ops H C waits Q' (f+1) LT a w :=
 .inr ⟨fun e=>(by rw [hr] at e;cases e),fun j hj o' ho'=>by
  rw [hr] at hj
  obtain rfl:j=i:=by simpa using hj
  rw [ho] at ho'
  cases ho'
  exact h⟩
theorem stage_done {waits:Nat→Bool} {Q':Act→World→Prop} {LT:Array Bool} {a:Act} {w:World} (hr:Region.ready .any ops.toArray LT=[]) (h:Q' a w):wpStage F n P ops H C waits Q' 0 LT a w:=⟨hr,h⟩
def stageAll (ops:List Oper) (H ws:List Nat):Bool :=
 stageOk ops H&&ws.all fun j=>match ops[j]? with|none=>true|some o=>H.all fun i=>waitsOn o i
theorem wpIn_stage {id:Nat} {Q:Exit→Act→World→Prop} {a:Act} {w:World} (C:World→Prop) (H ws:List Nat) (hm:P.follows .mixedOrders=true) (hB:stageAll ops H ws=true) (hC:C w.drew)
  (h:wpStage F n P ops H C (fun i=>ws.contains i) (fun a w=>Q .normal a w) ops.length (Array.replicate ops.length false) a w.drew):(Code.region id ops.toArray true).wpIn F n P Q a w:=by
 simp only [stageAll,Bool.and_eq_true] at hB
 obtain ⟨hok,hws⟩:=hB
 refine wpIn_region_any hm ?_
 have hun:unlisted ops.length (Array.replicate ops.length false)=ops.length:=by
  unfold unlisted
  rw [List.filter_eq_self.2 (fun i hi=>?_),List.length_range]
  have:=List.mem_range.1 hi
  simp only [Array.getD_eq_getD_getElem?]
  rw [Array.getElem?_replicate,if_pos (by omega)];rfl
 have hno:∀ i:Nat,(Array.replicate ops.length false)[i]?≠some true:=fun i=>by
  rw [Array.getElem?_replicate];split<;>simp
 have hrun:=stage_run (F:=F) (n:=n) (P:=P) (C:=C) hok (fun i=>ws.contains i) (fun j o ho hj i hi _=>by
   have:=List.all_eq_true.1 hws j (by simpa using hj)
   rw [ho] at this
   exact List.all_eq_true.1 this i hi) Q ops.length ops.length (Array.replicate ops.length false) (Array.replicate ops.length false) a a w.drew hun hun
  ⟨by simp,by simp,fun _ _ _=>rfl,fun _ h=>h,fun i o _ h=>absurd h (hno i),.inr ⟨hC,fun i o hO=>absurd hO.2.1 (hno i)⟩,⟨rfl,rfl,fun _ _=>rfl⟩⟩ h
 simpa using hrun
end
end Go.Proofs.YtigapglmipmbeaaGreatDoor.S2
namespace Go.Proofs.YtigapglmipmbeaaGreatDoor
open Go.RowKit Go.Shelf
open Lim
attribute [local go_sem] Oper.semAt_some
end Go.Proofs.YtigapglmipmbeaaGreatDoor
namespace Go.Proofs.YtigapglmipmbeaaGreatDoor
open Go.RowKit Go.Shelf
open Lim
end Go.Proofs.YtigapglmipmbeaaGreatDoor
namespace Go.Proofs.YtigapglmipmbeaaGreatDoor
open Go.RowKit Go.Shelf
open Lim
attribute [local go_sem] Oper.semAt_some
end Go.Proofs.YtigapglmipmbeaaGreatDoor
namespace Go.Proofs.YtigapglmipmbeaaGreatDoor
open Go.RowKit Go.Shelf
open Lim
section
variable {w:World} {g:Nat} {t:TypeId} {P S:List Value} {v:Value}
end
end Go.Proofs.YtigapglmipmbeaaGreatDoor
namespace Go.Proofs.YtigapglmipmbeaaGreatDoor
open Go.RowKit Go.Shelf
open Lim
attribute [local go_sem] Oper.semAt_some
end Go.Proofs.YtigapglmipmbeaaGreatDoor
namespace Go.Proofs.YtigapglmipmbeaaGreatDoor
open Go.RowKit Go.Shelf
open Lim
section
variable {a b:ByteArray} (ha:a.size≤270000) (hb:b.size≤270000)
include ha hb
end
end Go.Proofs.YtigapglmipmbeaaGreatDoor
namespace Go.Proofs.YtigapglmipmbeaaGreatDoor
open Go.RowKit Go.Shelf
open Lim
attribute [local go_sem] Oper.semAt_some wide_fn
namespace S2
end S2
end Go.Proofs.YtigapglmipmbeaaGreatDoor
namespace Go.Proofs.YtigapglmipmbeaaGreatDoor
open Go.RowKit Go.Shelf
open Lim
attribute [local go_sem] Oper.semAt_some
theorem Short.coll:∀ {l a b:List L2},collX a l=.ok b→Short a→Short l→Short b
 | [],a,b,h,ha,_=>by cases h;exact ha
 | x::l,a,b,h,ha,hl=>by
  unfold collX at h
  split at h
  ·cases h
  ·rename_i m hm
   exact Short.coll h (Short.ins hm ha (hl x (by simp))) fun y hy=>hl y (by simp [hy])
theorem Short.keep {a:List L2} (h:Short a):Short (keepX a):=fun x hx=>h x ((List.mem_filter.1 hx).1)
end Go.Proofs.YtigapglmipmbeaaGreatDoor
namespace Go.Proofs.YtigapglmipmbeaaGreatDoor
open Go.RowKit Go.Shelf
open Lim
section
variable {a b c:ByteArray} {p q:Rat} (w:World)
end
end Go.Proofs.YtigapglmipmbeaaGreatDoor
namespace Go.Proofs.YtigapglmipmbeaaGreatDoor
open Go.RowKit
end Go.Proofs.YtigapglmipmbeaaGreatDoor
namespace Go.Proofs.YtigapglmipmbeaaGreatDoor
open Go.RowKit Go.Shelf
open Lim
section
variable {P:Program} {id:Nat} {Q:Exit→Act→World→Prop} {a:Act} {w0:World} {l:List Oper}
theorem wp_region_wide (x:LaterW w0) (hm:P.follows .mixedOrders=true) (hB:Region.lexB .any l.toArray=true)
  (h:wpQuiet P l.toArray (fun W=>∃ x:LaterW w0,W=x.W) (fun a'=>∀ W,(∃ x:LaterW w0,W=x.W)→Q .normal a' W) l a):(Code.region id l.toArray true).wp P Q a x.W :=
 wp_region_quiet (C:=fun W=>∃ x:LaterW w0,W=x.W) hm hB ⟨⟨{ x.W with drawn:=x.W.drawn+1 },x.h.trans ⟨rfl,rfl,rfl,Nat.le_refl _,fun _ _=>rfl⟩⟩,rfl⟩ (by simpa using h)
end
theorem LLRow.nth {w:World} {bb j:Nat} {outs:List (List L2)} {l:List L2} (hbb:bb < w.heap.size) (h:∀ (j:Nat) (ls:List L2),outs[j]?=some ls→∃ u,w.cell? ⟨bb,j,none⟩=some u∧LRowW w u ls) (hj:outs[j]?=some l) :
  ∃ A c,(∀ z:LaterW w,z.W.cell? ⟨bb,j,none⟩=some (.slice A l.length c))∧∀ z:LaterW w,LRowW z.W (.slice A l.length c) l:=by
 obtain ⟨u,h1,h2⟩:=h j l hj
 obtain ⟨A,c,rfl,_,_⟩:=id h2
 exact ⟨A,c,fun z=>(z.h.cell (p:=⟨bb,j,none⟩) hbb).trans h1,fun z=>h2.below z.h⟩
end Go.Proofs.YtigapglmipmbeaaGreatDoor
