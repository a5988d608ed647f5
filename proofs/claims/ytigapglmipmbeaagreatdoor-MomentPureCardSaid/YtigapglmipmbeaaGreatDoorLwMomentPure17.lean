/- The reference 08: Check, both, find, At, within, Same (printed by mkdref.py). A region that draws its order and only reads and calls what lays blocks of its own: one walk. A long region's order check, reckoned without an array of what has come: quick for the kernel. The reference 08: Delta, Distance, Factor, part, Moment (printed by mkdref.py). The reference 08: Moment (printed by mkdref.py). law 10: curve (printed by mkmom.py). Masses in a slice of the call's own. Lists of masses in memory: literal blocks, lists of lists; how large lists are. What a law makes of its lists. No program in sight. law 08: light (printed by mkdlight.py). The map that Make fills, and the list that it stands for. The library's contracts of maps.Keys, slices.Sorted and slices.Sort laid at this program, by the kit's tool lay-plain. slices.Sorted(maps.Keys(m)) at this program, as plain calls. -/
import Derived.Test.YtigapglmipmbeaaGreatDoorLwMomentPure16
import Derived.Test.YtigapglmipmbeaaGreatDoorLwMomentPure01
import Derived.BigQuiet
import Derived.Below
import Derived.Test.YtigapglmipmbeaaGreatDoorLwMomentPure15
import Derived.Test.YtigapglmipmbeaaGreatDoorLwMomentPure11
import Derived.Test.YtigapglmipmbeaaGreatDoorLwMomentPure14
import Derived.Maps.AppendAt
import Derived.ProofKit
import Derived.Maps.OwnSet
import Derived.Maps.StringElems
import Derived.Sort.KeysCollected
import Derived.Shelf.SlIter.Nil
import Derived.Shelf.SortM.Plain
import Derived.Shelf.SortM.SortNone
import Derived.Ground.GgzProg
import Derived.Ground.SlgmProg
import Derived.Test.YtigapglmipmbeaaGreatDoorProg
set_option maxRecDepth 100000
set_option maxHeartbeats 16000000
namespace Go.Proofs.YtigapglmipmbeaaGreatDoor
open Go.RowKit Go.Shelf
open Lim
attribute [local go_sem] Oper.semAt_some
theorem rdcheck_any (ls:List L2) (v:Value) (w:World) (hv:LRow w v ls) (hs:Short ls) (hr:Res w) :
  Calls Tryz.prog 37 #[v] w fun e w'=>e=.returned (.int .i64 (chkD ls:Int))∧Below w.heap.size w w':=by
 have HV:=Lib.hid hv
 obtain ⟨A,c,rfl,hlen,hcells⟩:=hv
 have HS:=Lib.hid hs
 have H0:=Lib.hid (NW.refl hr)
 clear hr hcells hs
 go_enter Tryz.func37,Tryz.ntmps37
 go_wp2
 go_loopw [3] (fun v3 wr=>∃ k:Nat,k≤ls.length∧v3=.int .i64 (k:Int)∧Hid (chkL none ls=chkL (keyAt ls k) (ls.drop k))∧Hid (NW w wr)) (fun v3 _=>ls.length - (intOf v3).toNat)
 case atStart=>exact ⟨0,Nat.zero_le _,rfl,Lib.hid (by simp [keyAt]),H0⟩
 case round =>
  clear H0
  obtain ⟨k,hk,rfl,HE,HN⟩:=hrel
  by_cases hlt:k < ls.length
  ·obtain ⟨x,hx⟩:∃ x,ls[k]?=some x:=⟨_,List.getElem?_eq_getElem hlt⟩
   obtain ⟨b,o,c',e',hb2,c0,c1⟩:=HV.out.at HN.out.below hx
   simp only [Value.slice.injEq,true_and] at e'
   obtain ⟨rfl,rfl⟩:=e'
   have hlt':(k:Int) < (ls.length:Int):=by omega
   have hsx:=(HS.out x (List.mem_of_getElem? hx)).2
   have HD:=Lib.hid (drop_of hx)
   have HLT:=Lib.hid (And.intro hlt hlt')
   have HXK:=Lib.hid hx
   obtain ⟨f,d⟩:=x
   dsimp only at c0 c1 HD HXK hsx
   clear hx hlt
   by_cases h0:errQ d.data.toList=0
   ·have HSG:=Lib.hid (retRSign_ok hsx h0)
    by_cases h2:0 < valQ d.data.toList
    ·have d1:decide (sgQ (valQ d.data.toList)≤0)=false:=decide_eq_false (fun h=>by have:=(sg_gt _).2 h2;omega)
     have h1:posE d=0:=posE_zero.2 ⟨h0,by grind⟩
     have HH:=Lib.hid (And.intro h1 h2)
     clear h0 h1 h2 hsx
     generalize sgQ (valQ d.data.toList)=sg at *
     rcases Nat.eq_zero_or_pos k with hk0|hk0
     ·have HR:=Lib.hid (show chkL none ls=chkL (keyAt ls (k+1)) (ls.drop (k+1)) by
       rw [HE.out,HD.out,keyAt_succ HXK.out,hk0]
       exact chkL_go (x:=(f,d)) HH.out.1 HH.out.2 rfl)
      have d0:decide (0 < (k:Int))=false:=decide_eq_false (by omega)
      have d0n:decide (0 < k)=false:=decide_eq_false (by omega)
      clear hk0
      go_wp2_with (go_at_call 110;refine (HSG.out _ HN.out.res).mono ?_;rintro e w3 ⟨rfl,hb⟩;have H3:=Lib.hid (HN.out.later hb);have hb3:=Nat.lt_of_lt_of_le hb2 hb.size;clear hb)
      go_quiet (fail)
      have H4:=Lib.hid (fun n=>H3.out.drewN n)
      go_wp2
      go_roundw
      case rel=>exact ⟨k+1,HLT.out.1,by go_num,HR,H4.out _⟩
      case measure=>have:=HLT.out.1;simp [intOf];omega
     ·obtain ⟨j,hj⟩:∃ j,k=j+1:=⟨k - 1,by omega⟩
      have hjl:(j:Int) < (ls.length:Int):=by have:=HLT.out.1;omega
      obtain ⟨y,hy⟩:∃ y,ls[j]?=some y:=⟨_,List.getElem?_eq_getElem (by omega)⟩
      have e1:(k:Int) - 1=(j:Int):=by omega
      have d0:decide (0 < (k:Int))=true:=decide_eq_true (by omega)
      have d0n:decide (0 < k)=true:=decide_eq_true (by omega)
      have HKJ:=Lib.hid hj
      clear hk0 hj
      have HYK:=Lib.hid hy
      cases h3:ltK y.1 f with
      | true =>
       have HR:=Lib.hid (show chkL none ls=chkL (keyAt ls (k+1)) (ls.drop (k+1)) by
        rw [HE.out,HD.out,keyAt_succ HXK.out,HKJ.out,keyAt_succ hy]
        exact chkL_go (x:=(f,d)) HH.out.1 HH.out.2 (by show (!ltK y.1 f)=false;rw [h3];rfl))
       have TL:=lt_bytes y.1 f
       rw [h3] at TL
       clear h3 hy
       go_wp2_with (go_at_call 110;refine (HSG.out _ HN.out.res).mono ?_;rintro e w3 ⟨rfl,hb⟩;have H3:=Lib.hid (HN.out.later hb);have hb3:=Nat.lt_of_lt_of_le hb2 hb.size;obtain ⟨hb4,q0,q1⟩:=HV.out.cell2 H3.out.below HXK.out;obtain ⟨hb5,p0,p1⟩:=HV.out.cell2 H3.out.below HYK.out;clear hb)
       go_quiet (fail)
       have H4:=Lib.hid (fun n=>H3.out.drewN n)
       go_wp2
       go_roundw
       case rel=>exact ⟨k+1,HLT.out.1,by go_num,HR,H4.out _⟩
       case measure=>have:=HLT.out.1;simp [intOf];omega
      | false =>
       have HR:=Lib.hid (show chkL none ls=9 by
        rw [HE.out,HD.out,HKJ.out,keyAt_succ hy]
        exact chkL_ord (x:=(f,d)) HH.out.1 HH.out.2 (by show (!ltK y.1 f)=true;rw [h3];rfl))
       have TL:=lt_bytes y.1 f
       rw [h3] at TL
       clear h3 hy
       go_wp2_with (go_at_call 110;refine (HSG.out _ HN.out.res).mono ?_;rintro e w3 ⟨rfl,hb⟩;have H3:=Lib.hid (HN.out.later hb);have hb3:=Nat.lt_of_lt_of_le hb2 hb.size;obtain ⟨hb4,q0,q1⟩:=HV.out.cell2 H3.out.below HXK.out;obtain ⟨hb5,p0,p1⟩:=HV.out.cell2 H3.out.below HYK.out;clear hb)
       go_quiet (fail)
       have H4:=Lib.hid (fun n=>H3.out.drewN n)
       go_wp2
       go_ret
       refine ⟨?_,(H4.out _).below⟩
       unfold chkD
       rw [HR.out]
       rfl
    ·have d1:decide (sgQ (valQ d.data.toList)≤0)=true:=decide_eq_true (Classical.byContradiction fun h=>h2 ((sg_gt _).1 (by omega)))
     have HR:=Lib.hid (show chkL none ls=2 by
      rw [HE.out,HD.out]
      by_cases h1:posE d=0
      ·exact chkL_low (x:=(f,d)) h1 h2
      ·rw [chkL_err (x:=(f,d)) h1]
       show posE d=2
       unfold posE at h1 ⊢
       rw [if_neg (by simpa using h0)] at h1 ⊢
       split
       ·rfl
       ·rename_i h4;rw [if_neg h4] at h1;exact absurd rfl h1)
     generalize sgQ (valQ d.data.toList)=sg at *
     clear h0 h2 hsx
     go_wp2_with (go_at_call 110;refine (HSG.out _ HN.out.res).mono ?_;rintro e w3 ⟨rfl,hb⟩;have H3:=Lib.hid (HN.out.later hb);have hb3:=Nat.lt_of_lt_of_le hb2 hb.size;clear hb)
     go_ret
     refine ⟨?_,H3.out.below⟩
     unfold chkD
     rw [HR.out]
     rfl
   ·have HSG:=Lib.hid (retRSign_err hsx h0)
    have HR:=Lib.hid (show chkL none ls=errQ d.data.toList∧chkL none ls≠0 by
     rw [HE.out,HD.out,chkL_err (x:=(f,d)) (by show posE d≠0;rw [posE_err h0];exact h0)]
     show posE d=_∧posE d≠0
     rw [posE_err h0]
     exact ⟨rfl,h0⟩)
    have hm:=ne_zero h0
    clear h0 hsx
    go_wp2_with (go_at_call 110;refine (HSG.out _ HN.out.res).mono ?_;rintro e w3 ⟨rfl,hb⟩;have H3:=Lib.hid (HN.out.later hb);have hb3:=Nat.lt_of_lt_of_le hb2 hb.size;clear hb)
    go_ret
    refine ⟨?_,H3.out.below⟩
    unfold chkD
    rw [if_pos HR.out.2,HR.out.1]
    rfl
  ·have hlt':¬ (k:Int) < (ls.length:Int):=by omega
   obtain rfl:k=ls.length:=by omega
   have h0:chkL none ls=0:=by
    have:=HE.out
    rw [List.drop_length] at this
    exact this
   have HQ:=Lib.hid (show chkD ls=chkS (foldX (fun x:L2=>.ok x.2) zT ls) by unfold chkD;rw [h0];rfl)
   have HER:=Lib.hid (errs_of h0)
   clear h0 hlt hk HE
   go_wp2
   go_loopw [6,8] (fun v6 v8 wq=>∃ (k:Nat) (s:ByteArray),k≤ls.length∧v8=.int .i64 (k:Int)∧v6=.string s∧Hid (errQ s.data.toList=0∧foldX (fun x:L2=>(.ok x.2:XE)) zT ls=foldX (fun x:L2=>.ok x.2) s (ls.drop k))∧Hid (NW w wq)) (fun _ v8 _=>ls.length - (intOf v8).toNat)
   case atStart=>exact ⟨0,zT,Nat.zero_le _,rfl,rfl,Lib.hid ⟨err_zT,by simp⟩,HN⟩
   case round =>
    clear HN hlt'
    obtain ⟨k,s,hk,rfl,rfl,HE,HN⟩:=hrel
    by_cases hlt:k < ls.length
    ·obtain ⟨x,hx⟩:∃ x,ls[k]?=some x:=⟨_,List.getElem?_eq_getElem hlt⟩
     obtain ⟨b,o,c',e',hb2,c0,c1⟩:=HV.out.at HN.out.below hx
     simp only [Value.slice.injEq,true_and] at e'
     obtain ⟨rfl,rfl⟩:=e'
     have hlt':(k:Int) < (ls.length:Int):=by omega
     have HD:=Lib.hid (drop_of hx)
     have HLT:=Lib.hid (And.intro hlt hlt')
     have HA:=Lib.hid (retRPlX (size_ok HE.out.1) (HS.out x (List.mem_of_getElem? hx)).2)
     obtain ⟨f,d⟩:=x
     dsimp only at c0 c1 HD HA
     clear hx hlt
     cases ha:plX s d with
     | error n =>
      have HR:=Lib.hid (show foldX (fun x:L2=>(.ok x.2:XE)) zT ls=.error n by rw [HE.out.2,HD.out];exact foldX_err2 rfl ha)
      have hm:=ne_zero (exQ_err ha)
      rw [ha] at HA
      change Hid (Ret _ _ (.tuple #[.string ⟨#[]⟩,.int .i64 (n:Int)])) at HA
      clear ha
      go_wp2_with (go_at_call 59;refine (HA.out _ HN.out.res).mono ?_;rintro e w3 ⟨rfl,hb⟩;have H3:=Lib.hid (HN.out.later hb);clear hb)
      go_ret
      rw [HQ.out,HR.out]
      exact ⟨rfl,H3.out.below⟩
     | ok t =>
      have HR:=Lib.hid (show errQ t.data.toList=0∧foldX (fun x:L2=>(.ok x.2:XE)) zT ls=foldX (fun x:L2=>.ok x.2) t (ls.drop (k+1)) from ⟨plX_ok ha,by rw [HE.out.2,HD.out];exact foldX_ok rfl ha⟩)
      rw [ha] at HA
      change Hid (Ret _ _ (.tuple #[.string t,.int .i64 0])) at HA
      clear ha
      go_wp2_with (go_at_call 59;refine (HA.out _ HN.out.res).mono ?_;rintro e w3 ⟨rfl,hb⟩;have H3:=Lib.hid (HN.out.later hb);clear hb)
      go_roundw
      case rel=>exact ⟨k+1,t,HLT.out.1,by go_num,rfl,HR,H3⟩
      case measure=>have:=HLT.out.1;simp [intOf];omega
    ·have hlt':¬ (k:Int) < (ls.length:Int):=by omega
     obtain rfl:k=ls.length:=by omega
     have HR:=Lib.hid (show foldX (fun x:L2=>(.ok x.2:XE)) zT ls=.ok s by
      have:=HE.out.2
      rwa [List.drop_length] at this)
     have TE:=eq_bytes s oT
     rw [oT_list] at TE
     rw [HR.out,chkS_ok] at HQ
     clear hlt
     by_cases h1:s=oT
     ·rw [decide_eq_true h1] at TE
      rw [if_pos h1] at HQ
      clear h1
      go_wp2
      go_ret
      rw [HQ.out]
      exact ⟨rfl,HN.out.below⟩
     ·rw [decide_eq_false h1] at TE
      rw [if_neg h1] at HQ
      clear h1
      go_wp2
      go_ret
      rw [HQ.out]
      exact ⟨rfl,HN.out.below⟩
theorem rdboth_any (p q:List L2) (vp vq:Value) (w:World) (hp:LRow w vp p) (hq:LRow w vq q) (sp:Short p) (sq:Short q) (hr:Res w) :
  Calls Tryz.prog 114 #[vp,vq] w fun e w'=>e=.returned (.int .i64 (chk2 p q:Int))∧Below w.heap.size w w':=by
 have N0:=Lib.hid (NW.refl hr)
 have TKA:True:=trivial
 have HP:=Lib.hid (rdcheck_any p vp w hp sp hr)
 have HQ:=Lib.hid (fun W (hW:NW w W)=>rdcheck_any q vq W (hq.below hW.below) sq hW.res)
 clear hp hq sp sq hr
 by_cases h0:chkD p=0
 ·have HR:=Lib.hid (show chk2 p q=chkD q from if_neg (by simpa using h0))
  rw [h0] at HP
  change Hid (Calls _ _ _ _ fun e w'=>e=.returned (.int .i64 0)∧_) at HP
  clear h0
  go_enter Tryz.func114,Tryz.ntmps114
  go_wp2_with (first
   | (clear TKA;go_at_call 37;refine HP.out.mono ?_;rintro e w1 ⟨rfl,hb⟩;have N1:=Lib.hid (N0.out.later hb);clear hb)
   | (go_at_call 37;refine (HQ.out _ N1.out).mono ?_;rintro e w2 ⟨rfl,hb⟩;have N2:=Lib.hid (N1.out.later hb);clear hb))
  go_ret
  rw [HR.out]
  exact ⟨rfl,N2.out.below⟩
 ·have HR:=Lib.hid (show chk2 p q=chkD p from if_pos h0)
  have hm:=ne_zero h0
  clear h0
  go_enter Tryz.func114,Tryz.ntmps114
  go_wp2_with (clear TKA;go_at_call 37;refine HP.out.mono ?_;rintro e w1 ⟨rfl,hb⟩;have N1:=Lib.hid (N0.out.later hb);clear hb)
  go_ret
  rw [HR.out]
  exact ⟨rfl,N1.out.below⟩
theorem atT_hit {x:L2} {l:List L2} {k:ByteArray} (h:x.1=k):atT (x::l) k=x.2∧hasT (x::l) k=true:=by unfold atT hasT;rw [if_pos h,if_pos h];exact ⟨rfl,rfl⟩
theorem atT_miss {x:L2} {l:List L2} {k:ByteArray} (h:x.1≠k):atT (x::l) k=atT l k∧hasT (x::l) k=hasT l k:=by
 constructor
 ·conv=>lhs;unfold atT
  rw [if_neg h]
 ·conv=>lhs;unfold hasT
  rw [if_neg h]
theorem rdfind_any (ls:List L2) (v:Value) (key:ByteArray) (w:World) (hv:LRow w v ls) :
  Calls Tryz.prog 126 #[v,.string key] w fun e w'=>e=.returned (.tuple #[.string (atT ls key),.bool (hasT ls key)])∧w'=w:=by
 have HV:=Lib.hid hv
 obtain ⟨A,c,rfl,hlen,hcells⟩:=hv
 clear hcells
 go_enter Tryz.func126,Tryz.ntmps126
 go_wp2
 go_loopw [6] (fun v6 wr=>∃ k:Nat,k≤ls.length∧v6=.int .i64 (k:Int)∧Hid (atT ls key=atT (ls.drop k) key∧hasT ls key=hasT (ls.drop k) key)∧wr=w) (fun v6 _=>ls.length - (intOf v6).toNat)
 case atStart=>exact ⟨0,Nat.zero_le _,rfl,Lib.hid (by simp),rfl⟩
 case round =>
  obtain ⟨k,hk,rfl,HE,rfl⟩:=hrel
  by_cases hlt:k < ls.length
  ·obtain ⟨x,hx⟩:∃ x,ls[k]?=some x:=⟨_,List.getElem?_eq_getElem hlt⟩
   obtain ⟨b,o,c',e',hb2,c0,c1⟩:=HV.out.at (Below.refl _ _) hx
   simp only [Value.slice.injEq,true_and] at e'
   obtain ⟨rfl,rfl⟩:=e'
   have hlt':(k:Int) < (ls.length:Int):=by omega
   have HD:=Lib.hid (drop_of hx)
   have HLT:=Lib.hid (And.intro hlt hlt')
   obtain ⟨f,d⟩:=x
   dsimp only at c0 c1 HD
   have TE:=eq_bytes f key
   clear hx hlt
   by_cases h1:f=key
   ·rw [decide_eq_true h1] at TE
    have HR:=Lib.hid (show atT ls key=d∧hasT ls key=true by rw [HE.out.1,HE.out.2,HD.out];exact atT_hit h1)
    clear h1
    go_wp2
    go_ret2
    rw [HR.out.1,HR.out.2]
    exact ⟨rfl,rfl⟩
   ·rw [decide_eq_false h1] at TE
    have HR:=Lib.hid (show atT ls key=atT (ls.drop (k+1)) key∧hasT ls key=hasT (ls.drop (k+1)) key by rw [HE.out.1,HE.out.2,HD.out];exact atT_miss h1)
    clear h1
    go_wp2
    go_roundw
    case rel=>exact ⟨k+1,HLT.out.1,by go_num,HR,trivial⟩
    case measure=>have:=HLT.out.1;simp [intOf];omega
  ·have hlt':¬ (k:Int) < (ls.length:Int):=by omega
   obtain rfl:k=ls.length:=by omega
   have HR:=Lib.hid (show atT ls key=zT∧hasT ls key=false by
    have:=HE.out
    rw [List.drop_length] at this
    exact this)
   clear hlt
   go_wp2
   go_ret2
   rw [HR.out.1,HR.out.2]
   exact ⟨rfl,rfl⟩
theorem rdAt_any (ls:List L2) (v:Value) (key:ByteArray) (w:World) (hv:LRow w v ls) :
  Calls Tryz.prog 39 #[v,.string key] w fun e w'=>e=.returned (.string (atT ls key))∧w'=w:=by
 have HF:=Lib.hid (rdfind_any ls v key w hv)
 clear hv
 go_enter Tryz.func39,Tryz.ntmps39
 go_wp2_with (go_at_call 126;refine HF.out.mono ?_;rintro e w1 ⟨rfl,rfl⟩)
 go_ret
 exact ⟨rfl,rfl⟩
theorem inX_hit {x:L2} {l q:List L2} (h:hasT q x.1=true):inX (x::l) q=inX l q:=by
 conv=>lhs;unfold inX
 rw [if_pos h]
theorem inX_miss {x:L2} {l q:List L2} (h:hasT q x.1=false):inX (x::l) q=false:=by
 unfold inX
 rw [if_neg (by rw [h];decide)]
theorem rdwithin_any (p q:List L2) (vp vq:Value) (w:World) (hp:LRow w vp p) (hq:LRow w vq q) :
  Calls Tryz.prog 159 #[vp,vq] w fun e w'=>e=.returned (.bool (inX p q))∧w'=w:=by
 have HV:=Lib.hid hp
 have HF:=Lib.hid (fun k=>rdfind_any q vq k w hq)
 obtain ⟨A,c,rfl,hlen,hcells⟩:=hp
 clear hcells hq
 go_enter Tryz.func159,Tryz.ntmps159
 go_wp2
 go_loopw [5] (fun v5 wr=>∃ k:Nat,k≤p.length∧v5=.int .i64 (k:Int)∧Hid (inX p q=inX (p.drop k) q)∧wr=w) (fun v5 _=>p.length - (intOf v5).toNat)
 case atStart=>exact ⟨0,Nat.zero_le _,rfl,Lib.hid (by simp),rfl⟩
 case round =>
  obtain ⟨k,hk,rfl,HE,rfl⟩:=hrel
  by_cases hlt:k < p.length
  ·obtain ⟨x,hx⟩:∃ x,p[k]?=some x:=⟨_,List.getElem?_eq_getElem hlt⟩
   obtain ⟨b,o,c',e',hb2,c0,c1⟩:=HV.out.at (Below.refl _ _) hx
   simp only [Value.slice.injEq,true_and] at e'
   obtain ⟨rfl,rfl⟩:=e'
   have hlt':(k:Int) < (p.length:Int):=by omega
   have HD:=Lib.hid (drop_of hx)
   have HLT:=Lib.hid (And.intro hlt hlt')
   obtain ⟨f,d⟩:=x
   dsimp only at c0 c1 HD
   have HFK:=Lib.hid (HF.out f)
   clear hx hlt
   cases h1:hasT q f with
   | true =>
    have HR:=Lib.hid (show inX p q=inX (p.drop (k+1)) q by rw [HE.out,HD.out];exact inX_hit h1)
    rw [h1] at HFK
    clear h1
    go_wp2_with (go_at_call 126;refine HFK.out.mono ?_;rintro e w1 ⟨rfl,rfl⟩)
    go_roundw
    case rel=>exact ⟨k+1,HLT.out.1,by go_num,HR,trivial⟩
    case measure=>have:=HLT.out.1;simp [intOf];omega
   | false =>
    have HR:=Lib.hid (show inX p q=false by rw [HE.out,HD.out];exact inX_miss h1)
    rw [h1] at HFK
    clear h1
    go_wp2_with (go_at_call 126;refine HFK.out.mono ?_;rintro e w1 ⟨rfl,rfl⟩)
    go_ret
    rw [HR.out]
    exact ⟨rfl,rfl⟩
  ·have hlt':¬ (k:Int) < (p.length:Int):=by omega
   obtain rfl:k=p.length:=by omega
   have HR:=Lib.hid (show inX p q=true by
    have:=HE.out
    rw [List.drop_length] at this
    exact this)
   clear hlt
   go_wp2
   go_ret
   rw [HR.out]
   exact ⟨rfl,rfl⟩
end Go.Proofs.YtigapglmipmbeaaGreatDoor
namespace Go.Proofs.YtigapglmipmbeaaGreatDoor
open Go.RowKit
structure LaterW (w:World) where
 W:World
 h:Below w.heap.size w W
instance (w:World):Nonempty (LaterW w):=⟨⟨w,Below.refl _ _⟩⟩
theorem wp_region_later {P:Program} {id:Nat} {Q:Exit→Act→World→Prop} {a:Act} {w:World} {l:List Oper} (hm:P.follows .mixedOrders=true) (hB:Region.lexB .any l.toArray=true)
  (h:wpQuiet P l.toArray (fun W=>∃ x:LaterW w,W=x.W) (fun a'=>∀ W,(∃ x:LaterW w,W=x.W)→Q .normal a' W) l a):(Code.region id l.toArray true).wp P Q a w :=
 wp_region_quiet (C:=fun W=>∃ x:LaterW w,W=x.W) hm hB ⟨⟨{ w with drawn:=w.drawn+1 },⟨rfl,rfl,rfl,Nat.le_refl _,fun _ _=>rfl⟩⟩,rfl⟩ (by simpa using h)
def fastFree (md:Region.Mode) (ops:Array Oper) (k:Nat) (o:Oper) (l:List Oper):Bool :=
 l.all fun y=>y.after.any (fun e=>Region.binds md e&&e.on==k) || o.apart ops y
def fastLex (md:Region.Mode) (ops:Array Oper):Nat→List Oper→Bool
 | _,[]=>true
 | k,o::l=>(o.after.all fun e=>!Region.binds md e || decide (e.on < k))&&fastFree md ops k o l&&fastLex md ops (k+1) l
theorem fast_from {md:Region.Mode} {ops:Array Oper}:∀ (l:List Oper) (k:Nat) (L:Array Bool),fastLex md ops k l=true→(∀ j,l[j]?=ops[k+j]?)→ops.size=k+l.length →
  (∀ i,i < ops.size→L[i]?=some (decide (i < k)))→Region.lexFrom md ops l.length k L=true
 | [],k,L,_,_,hs,hL=>by
  have hall:∀ i∈List.range ops.size,¬ (!L.getD i true&&((ops[i]?).map (·.after.all fun e=>!Region.binds md e || L.getD e.on false)).getD false)=true:=fun i hi=>by
   have hi:=List.mem_range.1 hi
   have hk:i < k:=by simpa using (show i < k+([]:List Oper).length from hs ▸ hi)
   have h1:L.getD i true=true:=by rw [Array.getD_eq_getD_getElem?,hL i hi,decide_eq_true hk];rfl
   rw [h1];simp
  show (Region.ready md ops L).isEmpty=true
  unfold Region.ready
  rw [List.isEmpty_iff,List.filter_eq_nil_iff]
  exact hall
 | o::l,k,L,h,hl,hs,hL=>by
  unfold fastLex at h
  simp only [Bool.and_eq_true] at h
  obtain ⟨⟨h1,h2⟩,h3⟩:=h
  have h0:ops[k]?=some o:=by simpa using (hl 0).symm
  have hk:k < ops.size:=by rw [hs,List.length_cons];omega
  have get:∀ i d,i < ops.size→L.getD i d=decide (i < k):=fun i d hi=>by rw [Array.getD_eq_getD_getElem?,hL i hi];rfl
  have hLs:ops.size≤L.size:=by
   rcases Nat.lt_or_ge L.size ops.size with h|h
   ·have:=hL L.size h
    rw [Array.getElem?_eq_none (Nat.le_refl _)] at this
    cases this
   ·exact h
  show ((Region.ready md ops L).contains k&&Region.free md ops L k&&Region.lexFrom md ops l.length (k+1) (L.setIfInBounds k true))=true
  simp only [Bool.and_eq_true]
  refine ⟨⟨?_,?_⟩,fast_from l (k+1) _ h3 (fun j=>?_) (by rw [hs,List.length_cons];omega) (fun i hi=>?_)⟩
  ·rw [List.contains_iff_mem,mem_ready]
   refine ⟨by rw [get k true hk];exact decide_eq_false (by omega),o,h0,fun e he hb=>?_⟩
   have:=Array.all_eq_true'.1 h1 e he
   rw [hb] at this
   have hlt:e.on < k:=by simpa using this
   rw [get e.on false (by omega)]
   exact decide_eq_true hlt
  ·unfold Region.free
   rw [h0]
   simp only [List.all_eq_true,List.mem_range]
   intro j hj
   by_cases hjk:j=k
   ·subst hjk;simp
   ·rcases Nat.lt_or_ge j k with hlt|hge
    ·rw [get j true hj,decide_eq_true hlt];simp
    ·have hy:l[j - (k+1)]?=ops[j]?:=by
      have:=hl (j - (k+1)+1)
      rw [List.getElem?_cons_succ] at this
      rw [this]
      congr 1
      omega
     rw [← hy]
     cases hc:l[j - (k+1)]? with
     | none=>simp
     | some y =>
      have:=List.all_eq_true.1 h2 y (List.mem_of_getElem? hc)
      simp only [this,Bool.or_true]
  ·have:=hl (j+1)
   rw [List.getElem?_cons_succ] at this
   rw [this]
   congr 1
   omega
  ·by_cases e:k=i
   ·subst e
    rw [Array.getElem?_setIfInBounds_self_of_lt (by omega),decide_eq_true (by omega)]
   ·rw [Array.getElem?_setIfInBounds_ne e,hL i hi]
    congr 1
    by_cases h:i < k
    ·rw [decide_eq_true h,decide_eq_true (by omega)]
    ·rw [decide_eq_false h,decide_eq_false (by omega)]
theorem lexB_fast {md:Region.Mode} {l:List Oper} (hn:Region.noSelect l.toArray=true) (h:fastLex md l.toArray 0 l=true):Region.lexB md l.toArray=true:=by
 unfold Region.lexB
 rw [hn,Bool.true_and,List.size_toArray]
 exact fast_from l 0 _ h (fun j=>by simp) (by simp) (fun i hi=>by
  have hi':i < l.length:=by simpa using hi
  rw [Array.getElem?_replicate,if_pos hi']
  rfl)
theorem wp_region_fast {P:Program} {id:Nat} {Q:Exit→Act→World→Prop} {a:Act} {w:World} {l:List Oper} (hm:P.follows .mixedOrders=true) (hn:Region.noSelect l.toArray=true) (hB:fastLex .any l.toArray 0 l=true)
  (h:wpQuiet P l.toArray (fun W=>∃ x:LaterW w,W=x.W) (fun a'=>∀ W,(∃ x:LaterW w,W=x.W)→Q .normal a' W) l a):(Code.region id l.toArray true).wp P Q a w :=
 wp_region_later hm (lexB_fast hn hB) h
end Go.Proofs.YtigapglmipmbeaaGreatDoor
namespace Go.Proofs.YtigapglmipmbeaaGreatDoor
open Go.RowKit Go.Shelf
open Lim
attribute [local go_sem] Oper.semAt_some
theorem plX_zero {s:ByteArray} (h:errQ s.data.toList=0):plX s zT=.ok s:=by
 rw [plX_val h err_zT,val_zT,Rat.add_zero,ovT_fit (IsT.of h).fits,← ok_rT h]
theorem maxX_pos {s:ByteArray} (h:errQ s.data.toList=0) (h0:0 < valQ s.data.toList):maxX zT s=.ok s:=by
 rw [maxX_val err_zT h,val_zT,if_pos]
 unfold cmpQ;rw [if_pos h0];decide
theorem maxX_neg {s:ByteArray} (h:errQ s.data.toList=0) (h0:¬ 0 < valQ s.data.toList):maxX zT s=.ok zT:=by
 rw [maxX_val err_zT h,val_zT,if_neg]
 unfold cmpQ;rw [if_neg h0];split<;>decide
theorem rddelta_any (p q:List L2) (vp vq:Value) (f:ByteArray) (w:World) (hp:LRow w vp p) (hq:LRow w vq q) (sp:Short p) (sq:Short q) (hf:f.size≤270000) (hr:Res w) :
  Calls Tryz.prog 102 #[vp,vq,.string f] w fun e w'=>e=.returned (resX (deltaX p q f))∧Below w.heap.size w w':=by
 have N0:=Lib.hid (NW.refl hr)
 have HC:=Lib.hid (rdboth_any p q vp vq w hp hq sp sq hr)
 have HVP:=Lib.hid hp
 have HVQ:=Lib.hid hq
 have HSH:=Lib.hid (And.intro sp sq)
 have HFS:=Lib.hid hf
 obtain ⟨A,c,rfl,hlen,hcells⟩:=hp
 obtain ⟨A',c',rfl,hlen',hcells'⟩:=hq
 clear hcells hcells' sp sq hr
 by_cases h0:chk2 p q=0
 ·have HR0:=Lib.hid (show deltaX p q f=if posE f≠0 then .error (posE f) else foldX (partX f q) zT p by unfold deltaX;rw [if_neg (by simpa using h0)])
  rw [h0] at HC
  change Hid (Calls _ _ _ _ fun e w'=>e=.returned (.int .i64 0)∧_) at HC
  clear h0
  by_cases h1:errQ f.data.toList=0
  ·have HSG:=Lib.hid (retRSign_ok hf h1)
   by_cases h2:valQ f.data.toList < 0
   ·have d1:decide (sgQ (valQ f.data.toList) < 0)=true:=decide_eq_true ((sg_lt _).2 h2)
    have HR:=Lib.hid (show deltaX p q f=.error 2 by
     have:posE f=2:=by unfold posE;rw [if_neg (by simpa using h1),if_pos h2]
     rw [HR0.out,this];rfl)
    clear h1 h2 hf
    generalize sgQ (valQ f.data.toList)=sg at *
    go_enter Tryz.func102,Tryz.ntmps102
    go_wp2_with (first
     | (go_at_call 114;refine (HC.out).mono ?_;rintro e w1 ⟨rfl,hb⟩;have N1:=Lib.hid (N0.out.later hb);clear hb)
     | (go_at_call 110;refine (HSG.out _ N1.out.res).mono ?_;rintro e w2 ⟨rfl,hb⟩;have N2:=Lib.hid (N1.out.later hb);clear hb))
    go_ret2
    rw [HR.out]
    exact ⟨rfl,N2.out.below⟩
   ·have d1:decide (sgQ (valQ f.data.toList) < 0)=false:=decide_eq_false (fun h=>h2 ((sg_lt _).1 h))
    have HR:=Lib.hid (show deltaX p q f=foldX (partX f q) zT p by
     have:posE f=0:=by unfold posE;rw [if_neg (by simpa using h1),if_neg h2]
     rw [HR0.out,this];rfl)
    clear h1 h2 hf
    generalize sgQ (valQ f.data.toList)=sg at *
    go_enter Tryz.func102,Tryz.ntmps102
    go_wp2_with (first
     | (go_at_call 114;refine HC.out.mono ?_;rintro e w1 ⟨rfl,hb⟩;have N1:=Lib.hid (N0.out.later hb);clear hb)
     | (go_at_call 110;refine (HSG.out _ N1.out.res).mono ?_;rintro e w2 ⟨rfl,hb⟩;have N2:=Lib.hid (N1.out.later hb);clear hb))
    go_loopw [11,12] (fun v11 v12 wr=>∃ (k:Nat) (s:ByteArray),k≤p.length∧v12=.int .i64 (k:Int)∧v11=.string s∧Hid (errQ s.data.toList=0∧foldX (partX f q) zT p=foldX (partX f q) s (p.drop k))∧Hid (NW w wr)) (fun _ v12 _=>p.length - (intOf v12).toNat)
    case atStart=>exact ⟨0,zT,Nat.zero_le _,rfl,rfl,Lib.hid ⟨err_zT,by simp⟩,N2⟩
    case round =>
     clear N0 N1 N2 HC HSG HR0
     obtain ⟨k,s,hk,rfl,rfl,HE,HN⟩:=hrel
     by_cases hlt:k < p.length
     ·obtain ⟨x,hx⟩:∃ x,p[k]?=some x:=⟨_,List.getElem?_eq_getElem hlt⟩
      obtain ⟨b,o,c2,e',hb2,c0,c1⟩:=HVP.out.at HN.out.below hx
      simp only [Value.slice.injEq,true_and] at e'
      obtain ⟨rfl,rfl⟩:=e'
      have hlt':(k:Int) < (p.length:Int):=by omega
      have HM:=Lib.hid (fun W (hW:NW w W)=>HVP.out.cell2 hW.below hx)
      have HAT:=Lib.hid (rdAt_any q _ x.1 wr (HVQ.out.below HN.out.below))
      have HML:=Lib.hid (retRMulX HFS.out (HSH.out.2.atT (k:=x.1)))
      have HXS:=Lib.hid (HSH.out.1 x (List.mem_of_getElem? hx)).2
      have HD:=Lib.hid (drop_of hx)
      have HLT:=Lib.hid (And.intro hlt hlt')
      have HP0:=Lib.hid (show foldX (partX f q) zT p=foldX (partX f q) s (x::p.drop (k+1)) by rw [HE.out.2,drop_of hx])
      obtain ⟨y,d⟩:=x
      dsimp only at c0 c1 HM HAT HML HXS HD HP0
      clear hx hlt
      cases hm:mulX f (atT q y) with
      | error n =>
       have HR2:=Lib.hid (show foldX (partX f q) zT p=.error n by rw [HP0.out];exact foldX_err (x:=(y,d)) (by unfold partX;dsimp only;rw [hm]))
       have hz:=ne_zero (exQ_err hm)
       rw [hm] at HML
       change Hid (Ret _ _ (.tuple #[.string ⟨#[]⟩,.int .i64 (n:Int)])) at HML
       clear hm
       go_wp2_with (first
        | (go_at_call 39;refine HAT.out.mono ?_;rintro e w3 ⟨rfl,rfl⟩)
        | (go_at_call 149;refine (HML.out _ HN.out.res).mono ?_;rintro e w4 ⟨rfl,hb⟩;have N4:=Lib.hid (HN.out.later hb);clear hb;obtain ⟨hb4,q0,q1⟩:=HM.out _ N4.out))
       go_ret2
       rw [HR.out,HR2.out]
       exact ⟨rfl,N4.out.below⟩
      | ok m =>
       rw [hm] at HML
       change Hid (Ret _ _ (.tuple #[.string m,.int .i64 0])) at HML
       have HSB:=Lib.hid (retRSubX HXS.out (size_ok (mulX_ok hm)))
       cases hs:subX d m with
       | error n =>
        have HR2:=Lib.hid (show foldX (partX f q) zT p=.error n by rw [HP0.out];exact foldX_err (x:=(y,d)) (by unfold partX;dsimp only;rw [hm];dsimp only;rw [hs]))
        have hz:=ne_zero (exQ_err hs)
        rw [hs] at HSB
        change Hid (Ret _ _ (.tuple #[.string ⟨#[]⟩,.int .i64 (n:Int)])) at HSB
        clear hm hs
        go_wp2_with (first
        | (go_at_call 39;refine HAT.out.mono ?_;rintro e w3 ⟨rfl,rfl⟩)
        | (go_at_call 149;refine (HML.out _ HN.out.res).mono ?_;rintro e w4 ⟨rfl,hb⟩;have N4:=Lib.hid (HN.out.later hb);clear hb;obtain ⟨hb4,q0,q1⟩:=HM.out _ N4.out)
        | (go_at_call 61;refine (HSB.out _ N4.out.res).mono ?_;rintro e w5 ⟨rfl,hb⟩;have N5:=Lib.hid (N4.out.later hb);clear hb))
        go_ret2
        rw [HR.out,HR2.out]
        exact ⟨rfl,N5.out.below⟩
       | ok t =>
        rw [hs] at HSB
        change Hid (Ret _ _ (.tuple #[.string t,.int .i64 0])) at HSB
        have HSG:=Lib.hid (retRSign_ok (size_ok (subX_ok hs)) (subX_ok hs))
        by_cases h0:0 < valQ t.data.toList
        ·have d1:decide (0 < sgQ (valQ t.data.toList))=true:=decide_eq_true ((sg_gt _).2 h0)
         have HPE:=Lib.hid (show partX f q (y,d)=.ok t by unfold partX;dsimp only;rw [hm];dsimp only;rw [hs];exact maxX_pos (subX_ok hs) h0)
         have HAD:=Lib.hid (retRPlX (size_ok HE.out.1) (size_ok (subX_ok hs)))
         clear hm hs h0
         generalize sgQ (valQ t.data.toList)=sg at *
         cases ha:plX s t with
         | error n =>
          rw [ha] at HAD
          have HR2:=Lib.hid (show foldX (partX f q) zT p=.error n by rw [HP0.out];exact foldX_err2 HPE.out ha)
          have hz:=ne_zero (exQ_err ha)
          change Hid (Ret _ _ (.tuple #[.string ⟨#[]⟩,.int .i64 (n:Int)])) at HAD
          clear ha
          go_wp2_with (first
        | (go_at_call 39;refine HAT.out.mono ?_;rintro e w3 ⟨rfl,rfl⟩)
        | (go_at_call 149;refine (HML.out _ HN.out.res).mono ?_;rintro e w4 ⟨rfl,hb⟩;have N4:=Lib.hid (HN.out.later hb);clear hb;obtain ⟨hb4,q0,q1⟩:=HM.out _ N4.out)
        | (go_at_call 61;refine (HSB.out _ N4.out.res).mono ?_;rintro e w5 ⟨rfl,hb⟩;have N5:=Lib.hid (N4.out.later hb);clear hb)
        | (go_at_call 110;refine (HSG.out _ N5.out.res).mono ?_;rintro e w6 ⟨rfl,hb⟩;have N6:=Lib.hid (N5.out.later hb);clear hb)
        | (go_at_call 59;refine (HAD.out _ N6.out.res).mono ?_;rintro e w7 ⟨rfl,hb⟩;have N7:=Lib.hid (N6.out.later hb);clear hb))
          go_ret2
          rw [HR.out,HR2.out]
          exact ⟨rfl,N7.out.below⟩
         | ok u =>
          rw [ha] at HAD
          have HR2:=Lib.hid (show foldX (partX f q) zT p=foldX (partX f q) u (p.drop (k+1)) by rw [HP0.out];exact foldX_ok HPE.out ha)
          change Hid (Ret _ _ (.tuple #[.string u,.int .i64 0])) at HAD
          have HER:=Lib.hid (plX_ok ha)
          clear ha
          go_wp2_with (first
        | (go_at_call 39;refine HAT.out.mono ?_;rintro e w3 ⟨rfl,rfl⟩)
        | (go_at_call 149;refine (HML.out _ HN.out.res).mono ?_;rintro e w4 ⟨rfl,hb⟩;have N4:=Lib.hid (HN.out.later hb);clear hb;obtain ⟨hb4,q0,q1⟩:=HM.out _ N4.out)
        | (go_at_call 61;refine (HSB.out _ N4.out.res).mono ?_;rintro e w5 ⟨rfl,hb⟩;have N5:=Lib.hid (N4.out.later hb);clear hb)
        | (go_at_call 110;refine (HSG.out _ N5.out.res).mono ?_;rintro e w6 ⟨rfl,hb⟩;have N6:=Lib.hid (N5.out.later hb);clear hb)
        | (go_at_call 59;refine (HAD.out _ N6.out.res).mono ?_;rintro e w7 ⟨rfl,hb⟩;have N7:=Lib.hid (N6.out.later hb);clear hb))
          go_roundw
          case rel=>exact ⟨k+1,u,HLT.out.1,by go_num,rfl,Lib.hid ⟨HER.out,HR2.out⟩,N7⟩
          case measure=>have:=HLT.out.1;simp [intOf];omega
        ·have d1:decide (0 < sgQ (valQ t.data.toList))=false:=decide_eq_false (fun h=>h0 ((sg_gt _).1 h))
         have HR2:=Lib.hid (show foldX (partX f q) zT p=foldX (partX f q) s (p.drop (k+1)) by
          rw [HP0.out]
          exact foldX_ok (x:=(y,d)) (p:=zT) (by unfold partX;dsimp only;rw [hm];dsimp only;rw [hs];exact maxX_neg (subX_ok hs) h0) (plX_zero HE.out.1))
         clear hm hs h0
         generalize sgQ (valQ t.data.toList)=sg at *
         go_wp2_with (first
        | (go_at_call 39;refine HAT.out.mono ?_;rintro e w3 ⟨rfl,rfl⟩)
        | (go_at_call 149;refine (HML.out _ HN.out.res).mono ?_;rintro e w4 ⟨rfl,hb⟩;have N4:=Lib.hid (HN.out.later hb);clear hb;obtain ⟨hb4,q0,q1⟩:=HM.out _ N4.out)
        | (go_at_call 61;refine (HSB.out _ N4.out.res).mono ?_;rintro e w5 ⟨rfl,hb⟩;have N5:=Lib.hid (N4.out.later hb);clear hb)
        | (go_at_call 110;refine (HSG.out _ N5.out.res).mono ?_;rintro e w6 ⟨rfl,hb⟩;have N6:=Lib.hid (N5.out.later hb);clear hb))
         go_roundw
         case rel=>exact ⟨k+1,s,HLT.out.1,by go_num,rfl,Lib.hid ⟨HE.out.1,HR2.out⟩,N6⟩
         case measure=>have:=HLT.out.1;simp [intOf];omega
     ·have hlt':¬ (k:Int) < (p.length:Int):=by omega
      obtain rfl:k=p.length:=by omega
      have HR2:=Lib.hid (show foldX (partX f q) zT p=.ok s by
       have:=HE.out.2
       rwa [List.drop_length] at this)
      clear hlt
      go_wp2
      go_ret2
      rw [HR.out,HR2.out]
      exact ⟨rfl,HN.out.below⟩
  ·have HSG:=Lib.hid (retRSign_err hf h1)
   have hm:=ne_zero h1
   have HR:=Lib.hid (show deltaX p q f=.error (errQ f.data.toList) by
    rw [HR0.out,posE_err h1,if_pos h1])
   clear h1 hf
   go_enter Tryz.func102,Tryz.ntmps102
   go_wp2_with (first
    | (go_at_call 114;refine (HC.out).mono ?_;rintro e w1 ⟨rfl,hb⟩;have N1:=Lib.hid (N0.out.later hb);clear hb)
    | (go_at_call 110;refine (HSG.out _ N1.out.res).mono ?_;rintro e w2 ⟨rfl,hb⟩;have N2:=Lib.hid (N1.out.later hb);clear hb))
   go_ret2
   rw [HR.out]
   exact ⟨rfl,N2.out.below⟩
 ·have HR:=Lib.hid (show deltaX p q f=.error (chk2 p q) by unfold deltaX;rw [if_pos h0])
  have hm:=ne_zero h0
  clear h0 hf
  go_enter Tryz.func102,Tryz.ntmps102
  go_wp2_with (go_at_call 114;refine (HC.out).mono ?_;rintro e w1 ⟨rfl,hb⟩;have N1:=Lib.hid (N0.out.later hb);clear hb)
  go_ret2
  rw [HR.out]
  exact ⟨rfl,N1.out.below⟩
def pxX (a b:ByteArray) (n:Int):XE:=match powX a n with
 | .error e=>.error e
 | .ok x=>match powX b (n - 1) with
  | .error e=>.error e
  | .ok y=>divX x y
theorem powsX_px (n:Int) (q:List L2) (m:L2):powsX n q m=pxX m.2 (atT q m.1) n:=rfl
theorem rpart_any {a b:ByteArray} {n:Int} {p q:Rat} {k:Nat} (ha:IsT a p) (hb:IsT b q) (hp:0 < p) (hq:0 < q) (sa:Sz k p) (sb:Sz k q) (hk:k*8+1≤maxD) (hn1:1≤n) (hn8:n≤8) :
  Ret 186 #[.string a,.string b,.int .i64 n] (resX (pxX a b n)):=fun w hr=>by
 obtain ⟨m,rfl⟩:∃ m:Nat,n=((m+1:Nat):Int):=⟨(n - 1).toNat,by omega⟩
 have f1:fits (p ^ (m+1))=true:=fits_sz.2 ((sa.pow (m+1)).mono (by
  have:k*(m+1)≤k*8:=Nat.mul_le_mul_left _ (by omega)
  omega))
 have f2:fits (q ^ m)=true:=fits_sz.2 ((sb.pow m).mono (by
  have:k*m≤k*8:=Nat.mul_le_mul_left _ (by omega)
  omega))
 have e1:=powX_val ha.err (m+1)
 have e2:=powX_val hb.err m
 rw [ha.val,ovT_fit f1] at e1
 rw [hb.val,ovT_fit f2] at e2
 have em:((m+1:Nat):Int) - 1=(m:Int):=by omega
 have hv:pxX a b ((m+1:Nat):Int)=divX (rT (p ^ (m+1))) (rT (q ^ m)):=by
  unfold pxX
  rw [e1]
  dsimp only
  rw [em,e2]
 rw [hv]
 clear hv
 have HPA:=Lib.hid (retPowS (n:=((m+1:Nat):Int)) ha hp (by rw [Rat.zpow_natCast];exact isT_rT f1) (by omega) (by omega))
 have HPB:=Lib.hid (retPowS (n:=(m:Int)) hb hq (by rw [Rat.zpow_natCast];exact isT_rT f2) (by omega) (by omega))
 have HDV:=Lib.hid (retRDivX (isT_rT f1).size (isT_rT f2).size)
 have N0:=Lib.hid (NW.refl hr)
 have TKA:True:=trivial
 have hem:=Lib.hid em
 obtain ⟨r0,r1,hc⟩:=resX_tup (divX (rT (p ^ (m+1))) (rT (q ^ m)))
 rw [hc] at HDV ⊢
 rw [← em] at HPB
 clear f1 f2 e1 e2 hc hp hq sa sb hr ha hb hem em
 generalize rT (p ^ (m+1))=s at *
 generalize rT (q ^ m)=t at *
 generalize ((m+1:Nat):Int)=n at *
 go_enter Tryz.func186,Tryz.ntmps186
 go_wp2_with (first
  | (clear TKA;go_at_call 240;refine (HPA.out _ N0.out.res).mono ?_;rintro e w1 ⟨rfl,hb⟩;have N1:=Lib.hid (N0.out.later hb);clear hb)
  | (go_at_call 240;refine (HPB.out _ N1.out.res).mono ?_;rintro e w2 ⟨rfl,hb⟩;have N2:=Lib.hid (N1.out.later hb);clear hb)
  | (go_at_call 160;refine (HDV.out _ N2.out.res).mono ?_;rintro e w3 ⟨rfl,hb⟩;have N3:=Lib.hid (N2.out.later hb);clear hb))
 go_ret2
 exact ⟨rfl,N3.out.below⟩
theorem rdfactor_any (p q:List L2) (vp vq:Value) (w:World) (hp:LRow w vp p) (hq:LRow w vq q) (sp:Short p) (sq:Short q) (hr:Res w) :
  Calls Tryz.prog 63 #[vp,vq] w fun e w'=>e=.returned (facV p q)∧Below w.heap.size w w':=by
 have N0:=Lib.hid (NW.refl hr)
 have HC:=Lib.hid (rdboth_any p q vp vq w hp hq sp sq hr)
 have HVP:=Lib.hid hp
 have HVQ:=Lib.hid hq
 have HSH:=Lib.hid (And.intro sp sq)
 have HWI:=Lib.hid (fun W (hW:NW w W)=>rdwithin_any p q vp vq W (hp.below hW.below) (hq.below hW.below))
 obtain ⟨A,c,rfl,hlen,hcells⟩:=hp
 obtain ⟨A',c',rfl,hlen',hcells'⟩:=hq
 clear hcells hcells' sp sq hr
 by_cases h0:chk2 p q=0
 ·rw [h0] at HC
  change Hid (Calls _ _ _ _ fun e w'=>e=.returned (.int .i64 0)∧_) at HC
  have HR0:=Lib.hid (show facV p q=if inX p q=false then .tuple #[.string ⟨#[]⟩,.bool false,.int .i64 0] else resF (mostX q zT p) by unfold facV;rw [if_neg (by simpa using h0)])
  clear h0
  cases hi:inX p q with
  | false =>
   have HR:=Lib.hid (show facV p q=.tuple #[.string ⟨#[]⟩,.bool false,.int .i64 0] by rw [HR0.out,if_pos hi])
   rw [hi] at HWI
   clear hi
   go_enter Tryz.func63,Tryz.ntmps63
   go_wp2_with (first
    | (go_at_call 114;refine HC.out.mono ?_;rintro e w1 ⟨rfl,hb⟩;have N1:=Lib.hid (N0.out.later hb);clear hb)
    | (go_at_call 159;refine (HWI.out _ N1.out).mono ?_;rintro e w2 ⟨rfl,hw⟩;have N2:=Lib.hid (show NW w w2 by rw [hw];exact N1.out);clear hw))
   go_ret3
   rw [HR.out]
   exact ⟨rfl,N2.out.below⟩
  | true =>
   have HR:=Lib.hid (show facV p q=resF (mostX q zT p) by rw [HR0.out,if_neg (by rw [hi];decide)])
   rw [hi] at HWI
   clear hi
   go_enter Tryz.func63,Tryz.ntmps63
   go_wp2_with (first
    | (go_at_call 114;refine HC.out.mono ?_;rintro e w1 ⟨rfl,hb⟩;have N1:=Lib.hid (N0.out.later hb);clear hb)
    | (go_at_call 159;refine (HWI.out _ N1.out).mono ?_;rintro e w2 ⟨rfl,hw⟩;have N2:=Lib.hid (show NW w w2 by rw [hw];exact N1.out);clear hw))
   go_loopw [8,9] (fun v8 v9 wr=>∃ (k:Nat) (s:ByteArray),k≤p.length∧v9=.int .i64 (k:Int)∧v8=.string s∧Hid (errQ s.data.toList=0∧mostX q zT p=mostX q s (p.drop k))∧Hid (NW w wr)) (fun _ v9 _=>p.length - (intOf v9).toNat)
   case atStart=>exact ⟨0,zT,Nat.zero_le _,rfl,rfl,Lib.hid ⟨err_zT,by simp⟩,N2⟩
   case round =>
    clear N0 N1 N2 HC HWI HR0
    obtain ⟨k,s,hk,rfl,rfl,HE,HN⟩:=hrel
    by_cases hlt:k < p.length
    ·obtain ⟨x,hx⟩:∃ x,p[k]?=some x:=⟨_,List.getElem?_eq_getElem hlt⟩
     obtain ⟨b,o,c2,e',hb2,c0,c1⟩:=HVP.out.at HN.out.below hx
     simp only [Value.slice.injEq,true_and] at e'
     obtain ⟨rfl,rfl⟩:=e'
     have hlt':(k:Int) < (p.length:Int):=by omega
     have z0:∀ z:LaterW wr,z.W.cell? ⟨b,o+k*2,none⟩=some (.string x.1):=fun z=>(z.h.cell (p:=⟨b,o+k*2,none⟩) hb2).trans c0
     have z1:∀ z:LaterW wr,z.W.cell? ⟨b,o+k*2+1,none⟩=some (.string x.2):=fun z=>(z.h.cell (p:=⟨b,o+k*2+1,none⟩) hb2).trans c1
     have HAT:=Lib.hid (fun W (hW:Below wr.heap.size wr W)=>rdAt_any q _ x.1 W ((HVQ.out.below HN.out.below).below hW))
     have HDV:=Lib.hid (retRDivX (HSH.out.1 x (List.mem_of_getElem? hx)).2 (HSH.out.2.atT (k:=x.1)))
     have HD:=Lib.hid (drop_of hx)
     have HLT:=Lib.hid (And.intro hlt hlt')
     obtain ⟨y,d⟩:=x
     dsimp only at c0 c1 z0 z1 HAT HDV HD
     clear hx hlt c0 c1
     cases hd:divX d (atT q y) with
     | error m =>
      have HR2:=Lib.hid (show mostX q zT p=.error m by rw [HE.out.2,HD.out];unfold mostX;dsimp only;rw [hd])
      have hm:=ne_zero (exQ_err hd)
      rw [hd] at HDV
      change Hid (Ret _ _ (.tuple #[.string ⟨#[]⟩,.int .i64 (m:Int)])) at HDV
      clear hd
      go_wp2
      refine wp_region_fast (by kernel_rfl) (by kernel_rfl) (by kernel_rfl) ?_
      repeat (go_big_quiet_step (first
       | (go_at_call 39;refine (HAT.out _ (LaterW.h _)).mono ?_;rintro e w99 ⟨rfl,rfl⟩;exact ⟨rfl,⟨_,rfl⟩⟩)
       | (go_at_call 160;refine (HDV.out _ (HN.out.res.below (LaterW.h _))).mono ?_;rintro e w99 ⟨rfl,hb9⟩;exact ⟨rfl,⟨⟨w99,(LaterW.h _).trans (hb9.mono (LaterW.h _).size)⟩,rfl⟩⟩)))
      refine wpQuiet_nil ?_
      rintro _ ⟨z,rfl⟩
      have N3:=Lib.hid (HN.out.later z.h)
      go_wp2
      go_ret3
      rw [HR.out,HR2.out]
      exact ⟨rfl,N3.out.below⟩
     | ok t =>
      rw [hd] at HDV
      change Hid (Ret _ _ (.tuple #[.string t,.int .i64 0])) at HDV
      have hmx:=maxX_val HE.out.1 (divX_ok hd)
      have HMX:=Lib.hid (retRMaxX (size_ok HE.out.1) (size_ok (divX_ok hd)))
      rw [hmx] at HMX
      have HR2:=Lib.hid (show mostX q zT p=mostX q (if cmpQ (valQ s.data.toList) (valQ t.data.toList) < 0 then t else s) (p.drop (k+1)) by
       rw [HE.out.2,HD.out]
       conv=>lhs;unfold mostX
       dsimp only
       rw [hd])
      have HER:=Lib.hid (show errQ (if cmpQ (valQ s.data.toList) (valQ t.data.toList) < 0 then t else s).data.toList=0 by split;exact divX_ok hd;exact HE.out.1)
      generalize (if cmpQ (valQ s.data.toList) (valQ t.data.toList) < 0 then t else s)=u at *
      change Hid (Ret _ _ (.tuple #[.string u,.int .i64 0])) at HMX
      clear hd hmx
      go_wp2
      refine wp_region_fast (by kernel_rfl) (by kernel_rfl) (by kernel_rfl) ?_
      repeat (go_big_quiet_step (first
       | (go_at_call 39;refine (HAT.out _ (LaterW.h _)).mono ?_;rintro e w99 ⟨rfl,rfl⟩;exact ⟨rfl,⟨_,rfl⟩⟩)
       | (go_at_call 160;refine (HDV.out _ (HN.out.res.below (LaterW.h _))).mono ?_;rintro e w99 ⟨rfl,hb9⟩;exact ⟨rfl,⟨⟨w99,(LaterW.h _).trans (hb9.mono (LaterW.h _).size)⟩,rfl⟩⟩)))
      refine wpQuiet_nil ?_
      rintro _ ⟨z,rfl⟩
      have N3:=Lib.hid (HN.out.later z.h)
      go_wp2_with (go_at_call 57;refine (HMX.out _ N3.out.res).mono ?_;rintro e w5 ⟨rfl,hb⟩;have N5:=Lib.hid (N3.out.later hb);clear hb)
      go_roundw
      case rel=>exact ⟨k+1,u,HLT.out.1,by go_num,rfl,Lib.hid ⟨HER.out,HR2.out⟩,N5⟩
      case measure=>have:=HLT.out.1;simp [intOf];omega
    ·have hlt':¬ (k:Int) < (p.length:Int):=by omega
     obtain rfl:k=p.length:=by omega
     have HR2:=Lib.hid (show mostX q zT p=.ok s by
      have:=HE.out.2
      rwa [List.drop_length] at this)
     clear hlt
     go_wp2
     go_ret3
     rw [HR.out,HR2.out]
     exact ⟨rfl,HN.out.below⟩
 ·have HR:=Lib.hid (show facV p q=.tuple #[.string ⟨#[]⟩,.bool false,.int .i64 (chk2 p q:Int)] by unfold facV;rw [if_pos h0])
  have hm:=ne_zero h0
  have hm2:=ne_zero2 h0
  clear h0
  go_enter Tryz.func63,Tryz.ntmps63
  go_wp2_with (go_at_call 114;refine (HC.out).mono ?_;rintro e w1 ⟨rfl,hb⟩;have N1:=Lib.hid (N0.out.later hb);clear hb)
  go_ret3
  rw [HR.out]
  exact ⟨rfl,N1.out.below⟩
theorem rdmoment_any (p q:List L2) (vp vq:Value) (n:Int) (j:Nat) (w:World) (hp:LRow w vp p) (hq:LRow w vq q) (sp:Short p) (sq:Short q) (kp:∀ x∈p,x.2.size≤j) (kq:∀ x∈q,x.2.size≤j) (hj:j*8+1≤maxD) (hr:Res w) :
  Calls Tryz.prog 104 #[vp,vq,.int .i64 n] w fun e w'=>e=.returned (momV p q n)∧Below w.heap.size w w':=by
 have N0:=Lib.hid (NW.refl hr)
 have HC:=Lib.hid (rdboth_any p q vp vq w hp hq sp sq hr)
 have HVP:=Lib.hid hp
 have HVQ:=Lib.hid hq
 have HSH:=Lib.hid (And.intro sp sq)
 have HWI:=Lib.hid (fun W (hW:NW w W)=>rdwithin_any p q vp vq W (hp.below hW.below) (hq.below hW.below))
 obtain ⟨A,c,rfl,hlen,hcells⟩:=hp
 obtain ⟨A',c',rfl,hlen',hcells'⟩:=hq
 clear hcells hcells' sp sq hr
 by_cases h0:chk2 p q=0
 ·rw [h0] at HC
  change Hid (Calls _ _ _ _ fun e w'=>e=.returned (.int .i64 0)∧_) at HC
  by_cases h1:n < 1
  ·have HR:=Lib.hid (show momV p q n=.tuple #[.string ⟨#[]⟩,.bool false,.int .i64 2] by unfold momV;rw [if_neg (by simpa using h0),if_pos (.inl h1)])
   have d1:decide (n < 1)=true:=decide_eq_true h1
   clear h0 h1
   go_enter Tryz.func104,Tryz.ntmps104
   go_wp2_with (go_at_call 114;refine (HC.out).mono ?_;rintro e w1 ⟨rfl,hb⟩;have N1:=Lib.hid (N0.out.later hb);clear hb)
   go_ret3
   rw [HR.out]
   exact ⟨rfl,N1.out.below⟩
  ·have d1:decide (n < 1)=false:=decide_eq_false h1
   by_cases h2:8 < n
   ·have HR:=Lib.hid (show momV p q n=.tuple #[.string ⟨#[]⟩,.bool false,.int .i64 2] by unfold momV;rw [if_neg (by simpa using h0),if_pos (.inr h2)])
    have d2:decide (8 < n)=true:=decide_eq_true h2
    clear h0 h1 h2
    go_enter Tryz.func104,Tryz.ntmps104
    go_wp2_with (go_at_call 114;refine (HC.out).mono ?_;rintro e w1 ⟨rfl,hb⟩;have N1:=Lib.hid (N0.out.later hb);clear hb)
    go_ret3
    rw [HR.out]
    exact ⟨rfl,N1.out.below⟩
   ·have d2:decide (8 < n)=false:=decide_eq_false h2
    have HR0:=Lib.hid (show momV p q n=if inX p q=false then .tuple #[.string ⟨#[]⟩,.bool false,.int .i64 0] else resF (foldX (powsX n q) zT p) by unfold momV;rw [if_neg (by simpa using h0),if_neg (by omega)])
    have hc0:=chk2_both h0
    cases hi:inX p q with
    | false =>
     have HR:=Lib.hid (show momV p q n=.tuple #[.string ⟨#[]⟩,.bool false,.int .i64 0] by rw [HR0.out,if_pos hi])
     rw [hi] at HWI
     clear h0 h1 h2 hi hc0
     go_enter Tryz.func104,Tryz.ntmps104
     go_wp2_with (first
      | (go_at_call 114;refine HC.out.mono ?_;rintro e w1 ⟨rfl,hb⟩;have N1:=Lib.hid (N0.out.later hb);clear hb)
      | (go_at_call 159;refine (HWI.out _ N1.out).mono ?_;rintro e w2 ⟨rfl,hw⟩;have N2:=Lib.hid (show NW w w2 by rw [hw];exact N1.out);clear hw))
     go_ret3
     rw [HR.out]
     exact ⟨rfl,N2.out.below⟩
    | true =>
     have HR:=Lib.hid (show momV p q n=resF (foldX (powsX n q) zT p) by rw [HR0.out,if_neg (by rw [hi];decide)])
     rw [hi] at HWI
     have HPT0:=Lib.hid (show ∀ x∈p,Ret 186 #[.string x.2,.string (atT q x.1),.int .i64 n] (resX (powsX n q x)) from fun x hx=>by
      obtain ⟨y,hy,_,e2⟩:=atT_mem (inX_iff.1 hi x hx)
      have hpx:=(chkD_zero hc0.1).1.plus _ (List.mem_map_of_mem hx)
      have hqy:=(chkD_zero hc0.2).1.plus _ (List.mem_map_of_mem hy)
      have ho:=(chkD_zero hc0.1).2.1 x hx
      have hoy:=(chkD_zero hc0.2).2.1 y hy
      rw [← e2] at hoy
      have hqy2:0 < valQ (atT q x.1).data.toList:=by rw [e2];exact hqy
      have kpx:Sz j (valX x):=sz_of_text ho (by rw [← size_list];exact kp x hx)
      have kqy:Sz j (valQ (atT q x.1).data.toList):=sz_of_text hoy (by rw [← size_list,e2];exact kq y hy)
      rw [powsX_px]
      exact rpart_any (IsT.of ho) (IsT.of hoy) hpx hqy2 kpx kqy hj (by omega) (by omega))
     clear h0 h1 h2 hi hc0 kp kq hj
     go_enter Tryz.func104,Tryz.ntmps104
     go_wp2_with (first
      | (go_at_call 114;refine HC.out.mono ?_;rintro e w1 ⟨rfl,hb⟩;have N1:=Lib.hid (N0.out.later hb);clear hb)
      | (go_at_call 159;refine (HWI.out _ N1.out).mono ?_;rintro e w2 ⟨rfl,hw⟩;have N2:=Lib.hid (show NW w w2 by rw [hw];exact N1.out);clear hw))
     go_loopw [10,11] (fun v10 v11 wr=>∃ (k:Nat) (s:ByteArray),k≤p.length∧v11=.int .i64 (k:Int)∧v10=.string s∧Hid (errQ s.data.toList=0∧foldX (powsX n q) zT p=foldX (powsX n q) s (p.drop k))∧Hid (NW w wr)) (fun _ v11 _=>p.length - (intOf v11).toNat)
     case atStart=>exact ⟨0,zT,Nat.zero_le _,rfl,rfl,Lib.hid ⟨err_zT,by simp⟩,N2⟩
     case round =>
      clear N0 N1 N2 HC HWI HR0
      obtain ⟨k,s,hk,rfl,rfl,HE,HN⟩:=hrel
      by_cases hlt:k < p.length
      ·obtain ⟨x,hx⟩:∃ x,p[k]?=some x:=⟨_,List.getElem?_eq_getElem hlt⟩
       obtain ⟨b,o,c2,e',hb2,c0,c1⟩:=HVP.out.at HN.out.below hx
       simp only [Value.slice.injEq,true_and] at e'
       obtain ⟨rfl,rfl⟩:=e'
       have hlt':(k:Int) < (p.length:Int):=by omega
       have z0:∀ z:LaterW wr,z.W.cell? ⟨b,o+k*2,none⟩=some (.string x.1):=fun z=>(z.h.cell (p:=⟨b,o+k*2,none⟩) hb2).trans c0
       have z1:∀ z:LaterW wr,z.W.cell? ⟨b,o+k*2+1,none⟩=some (.string x.2):=fun z=>(z.h.cell (p:=⟨b,o+k*2+1,none⟩) hb2).trans c1
       have HAT:=Lib.hid (fun W (hW:Below wr.heap.size wr W)=>rdAt_any q _ x.1 W ((HVQ.out.below HN.out.below).below hW))
       have HPT:=Lib.hid (HPT0.out x (List.mem_of_getElem? hx))
       have HP0:=Lib.hid (show foldX (powsX n q) zT p=foldX (powsX n q) s (x::p.drop (k+1)) by rw [HE.out.2,drop_of hx])
       have HLT:=Lib.hid (And.intro hlt hlt')
       cases hd:powsX n q x with
       | error m =>
        have HR2:=Lib.hid (show foldX (powsX n q) zT p=.error m by rw [HP0.out];exact foldX_err hd)
        have hm:=ne_zero (powsX_ne hd)
        rw [hd] at HPT
        change Hid (Ret _ _ (.tuple #[.string ⟨#[]⟩,.int .i64 (m:Int)])) at HPT
        obtain ⟨y,d⟩:=x
        dsimp only at c0 c1 z0 z1 HAT HPT
        clear hx hlt c0 c1 hd HPT0
        go_wp2
        refine wp_region_fast (by kernel_rfl) (by kernel_rfl) (by kernel_rfl) ?_
        repeat (go_big_quiet_step (first
         | (go_at_call 39;refine (HAT.out _ (LaterW.h _)).mono ?_;rintro e w99 ⟨rfl,rfl⟩;exact ⟨rfl,⟨_,rfl⟩⟩)
         | (go_at_call 186;refine (HPT.out _ (HN.out.res.below (LaterW.h _))).mono ?_;rintro e w99 ⟨rfl,hb9⟩;exact ⟨rfl,⟨⟨w99,(LaterW.h _).trans (hb9.mono (LaterW.h _).size)⟩,rfl⟩⟩)))
        refine wpQuiet_nil ?_
        rintro _ ⟨z,rfl⟩
        have N3:=Lib.hid (HN.out.later z.h)
        go_wp2
        go_ret3
        rw [HR.out,HR2.out]
        exact ⟨rfl,N3.out.below⟩
       | ok t =>
        rw [hd] at HPT
        change Hid (Ret _ _ (.tuple #[.string t,.int .i64 0])) at HPT
        have HPE:=Lib.hid hd
        have HAD:=Lib.hid (retRPlX (size_ok HE.out.1) (size_ok (powsX_fine hd)))
        obtain ⟨y,d⟩:=x
        dsimp only at c0 c1 z0 z1 HAT HPT
        clear hx hlt c0 c1 hd
        cases ha:plX s t with
        | error m =>
         rw [ha] at HAD
         have HR2:=Lib.hid (show foldX (powsX n q) zT p=.error m by rw [HP0.out];exact foldX_err2 HPE.out ha)
         have hz:=ne_zero (exQ_err ha)
         change Hid (Ret _ _ (.tuple #[.string ⟨#[]⟩,.int .i64 (m:Int)])) at HAD
         clear ha HPT0
         go_wp2
         refine wp_region_fast (by kernel_rfl) (by kernel_rfl) (by kernel_rfl) ?_
         repeat (go_big_quiet_step (first
          | (go_at_call 39;refine (HAT.out _ (LaterW.h _)).mono ?_;rintro e w99 ⟨rfl,rfl⟩;exact ⟨rfl,⟨_,rfl⟩⟩)
          | (go_at_call 186;refine (HPT.out _ (HN.out.res.below (LaterW.h _))).mono ?_;rintro e w99 ⟨rfl,hb9⟩;exact ⟨rfl,⟨⟨w99,(LaterW.h _).trans (hb9.mono (LaterW.h _).size)⟩,rfl⟩⟩)))
         refine wpQuiet_nil ?_
         rintro _ ⟨z,rfl⟩
         have N3:=Lib.hid (HN.out.later z.h)
         go_wp2_with (go_at_call 59;refine (HAD.out _ N3.out.res).mono ?_;rintro e w5 ⟨rfl,hb⟩;have N5:=Lib.hid (N3.out.later hb);clear hb)
         go_ret3
         rw [HR.out,HR2.out]
         exact ⟨rfl,N5.out.below⟩
        | ok u =>
         rw [ha] at HAD
         have HR2:=Lib.hid (show foldX (powsX n q) zT p=foldX (powsX n q) u (p.drop (k+1)) by rw [HP0.out];exact foldX_ok HPE.out ha)
         change Hid (Ret _ _ (.tuple #[.string u,.int .i64 0])) at HAD
         have HER:=Lib.hid (plX_ok ha)
         clear ha
         go_wp2
         refine wp_region_fast (by kernel_rfl) (by kernel_rfl) (by kernel_rfl) ?_
         repeat (go_big_quiet_step (first
          | (go_at_call 39;refine (HAT.out _ (LaterW.h _)).mono ?_;rintro e w99 ⟨rfl,rfl⟩;exact ⟨rfl,⟨_,rfl⟩⟩)
          | (go_at_call 186;refine (HPT.out _ (HN.out.res.below (LaterW.h _))).mono ?_;rintro e w99 ⟨rfl,hb9⟩;exact ⟨rfl,⟨⟨w99,(LaterW.h _).trans (hb9.mono (LaterW.h _).size)⟩,rfl⟩⟩)))
         refine wpQuiet_nil ?_
         rintro _ ⟨z,rfl⟩
         have N3:=Lib.hid (HN.out.later z.h)
         go_wp2_with (go_at_call 59;refine (HAD.out _ N3.out.res).mono ?_;rintro e w5 ⟨rfl,hb⟩;have N5:=Lib.hid (N3.out.later hb);clear hb)
         go_roundw
         case rel=>exact ⟨k+1,u,HLT.out.1,by go_num,rfl,Lib.hid ⟨HER.out,HR2.out⟩,N5⟩
         case measure=>have:=HLT.out.1;simp [intOf];omega
      ·have hlt':¬ (k:Int) < (p.length:Int):=by omega
       obtain rfl:k=p.length:=by omega
       have HR2:=Lib.hid (show foldX (powsX n q) zT p=.ok s by
        have:=HE.out.2
        rwa [List.drop_length] at this)
       clear hlt
       go_wp2
       go_ret3
       rw [HR.out,HR2.out]
       exact ⟨rfl,HN.out.below⟩
 ·have HR:=Lib.hid (show momV p q n=.tuple #[.string ⟨#[]⟩,.bool false,.int .i64 (chk2 p q:Int)] by unfold momV;rw [if_pos h0])
  have hm:=ne_zero h0
  clear h0
  go_enter Tryz.func104,Tryz.ntmps104
  go_wp2_with (go_at_call 114;refine (HC.out).mono ?_;rintro e w1 ⟨rfl,hb⟩;have N1:=Lib.hid (N0.out.later hb);clear hb)
  go_ret3
  rw [HR.out]
  exact ⟨rfl,N1.out.below⟩
def curM (x y:Nat→Rat):Nat→Rat:=fun i=>if i=7 then 0 else maxQ (x i) (y i)
def startC:CT:=fun i=>if i=7 then ⟨#[48]⟩ else ⟨#[]⟩
theorem curve10_any (p q:List L2) (vp vq:Value) (x y:Nat→Rat) (w:World) (hp:LRow w vp p) (hq:LRow w vq q) (sp:Short p) (sq:Short q) (kp:∀ x∈p,x.2.size≤60) (kq:∀ x∈q,x.2.size≤60) (hr:Res w)
  (hx:∀ i:Nat,i < 7→momV p q ((i:Int)+2)=.tuple #[.string (rT (x i)),.bool true,.int .i64 0]∧fits (x i)=true) (hy:∀ i:Nat,i < 7→momV q p ((i:Int)+2)=.tuple #[.string (rT (y i)),.bool true,.int .i64 0]∧fits (y i)=true) :
  Calls Tryz.prog 52 #[vp,vq] w fun e w'=>e=.returned (.tuple #[cv (txt (curM x y)),.bool true])∧Below w.heap.size w w':=by
 have N0:=Lib.hid (((NW.refl hr).alloc (.cells #[.string ⟨#[]⟩,.string ⟨#[]⟩,.string ⟨#[]⟩,.string ⟨#[]⟩,.string ⟨#[]⟩,.string ⟨#[]⟩,.string ⟨#[]⟩,.string ⟨#[]⟩] 59)).alloc (.cells #[.string ⟨#[]⟩,.string ⟨#[]⟩,.string ⟨#[]⟩,.string ⟨#[]⟩,.string ⟨#[]⟩,.string ⟨#[]⟩,.string ⟨#[]⟩,.string ⟨#[48]⟩] 59))
 have K4:=Lib.hid (show CBlk ((w.alloc (.cells #[.string ⟨#[]⟩,.string ⟨#[]⟩,.string ⟨#[]⟩,.string ⟨#[]⟩,.string ⟨#[]⟩,.string ⟨#[]⟩,.string ⟨#[]⟩,.string ⟨#[]⟩] 59)).alloc (.cells #[.string ⟨#[]⟩,.string ⟨#[]⟩,.string ⟨#[]⟩,.string ⟨#[]⟩,.string ⟨#[]⟩,.string ⟨#[]⟩,.string ⟨#[]⟩,.string ⟨#[48]⟩] 59)) w.heap.size zC from Blk.alloc (Blk.new w 59 #[.string ⟨#[]⟩,.string ⟨#[]⟩,.string ⟨#[]⟩,.string ⟨#[]⟩,.string ⟨#[]⟩,.string ⟨#[]⟩,.string ⟨#[]⟩,.string ⟨#[]⟩]) _)
 have K6:=Lib.hid (show CBlk ((w.alloc (.cells #[.string ⟨#[]⟩,.string ⟨#[]⟩,.string ⟨#[]⟩,.string ⟨#[]⟩,.string ⟨#[]⟩,.string ⟨#[]⟩,.string ⟨#[]⟩,.string ⟨#[]⟩] 59)).alloc (.cells #[.string ⟨#[]⟩,.string ⟨#[]⟩,.string ⟨#[]⟩,.string ⟨#[]⟩,.string ⟨#[]⟩,.string ⟨#[]⟩,.string ⟨#[]⟩,.string ⟨#[48]⟩] 59)) (w.heap.size+1) startC from by
  have h:=Blk.new (w.alloc (.cells #[.string ⟨#[]⟩,.string ⟨#[]⟩,.string ⟨#[]⟩,.string ⟨#[]⟩,.string ⟨#[]⟩,.string ⟨#[]⟩,.string ⟨#[]⟩,.string ⟨#[]⟩] 59)) 59 #[.string ⟨#[]⟩,.string ⟨#[]⟩,.string ⟨#[]⟩,.string ⟨#[]⟩,.string ⟨#[]⟩,.string ⟨#[]⟩,.string ⟨#[]⟩,.string ⟨#[48]⟩]
  rw [World.size_alloc] at h
  exact h)
 have HX:=Lib.hid (fun (i:Nat) (_:i < 7) W (hW:NW w W)=>rdmoment_any p q _ _ ((i:Int)+2) 60 W (hp.below hW.below) (hq.below hW.below) sp sq kp kq (by decide) hW.res)
 have HY:=Lib.hid (fun (i:Nat) (_:i < 7) W (hW:NW w W)=>rdmoment_any q p _ _ ((i:Int)+2) 60 W (hq.below hW.below) (hp.below hW.below) sq sp kq kp (by decide) hW.res)
 have HRS:=Lib.hid hr
 have FX:=Lib.hid hx
 have FY:=Lib.hid hy
 obtain ⟨A,ca,rfl,_,_⟩:=id hp
 obtain ⟨B,cb,rfl,_,_⟩:=id hq
 clear hp hq sp sq kp kq hr hx hy
 go_enter Tryz.func52,Tryz.ntmps52
 go_wp2
 go_loopw [7] (fun v7 wr=>∃ (i:Nat) (c:CT),i≤7∧v7=.int .i64 (i:Int)∧Hid (∀ j,j < i→c j=rT (maxQ (x j) (y j)))∧Hid (c 7=⟨#[48]⟩)∧Hid (CBlk wr w.heap.size zC)∧Hid (CBlk wr (w.heap.size+1) c)∧Hid (NW w wr)) (fun v7 _=>7 - (intOf v7).toNat)
 case atStart=>exact ⟨0,startC,by omega,rfl,Lib.hid (fun j h=>absurd h (by omega)),Lib.hid rfl,K4,K6,N0⟩
 case round =>
  clear K4 K6 N0
  obtain ⟨i,c,hi,rfl,HE,HZ,K4,K6,HN⟩:=hrel
  by_cases hlt:i < 7
  ·have hlt':(i:Int) < 7:=by omega
   have HM1:=Lib.hid (HX.out i hlt)
   have HM2:=Lib.hid (HY.out i hlt)
   obtain ⟨ex,fx⟩:=FX.out i hlt
   obtain ⟨ey,fy⟩:=FY.out i hlt
   rw [ex] at HM1
   rw [ey] at HM2
   have HMX:=Lib.hid (fun W=>rmaxT W (isT_rT fx) (isT_rT fy))
   have HLT:=Lib.hid hlt
   have HTM:=Lib.hid (rfl:rT (maxQ (x i) (y i))=rT (maxQ (x i) (y i)))
   generalize rT (x i)=tx at *
   generalize rT (y i)=ty at *
   obtain ⟨tm,htm⟩:∃ t,t=rT (maxQ (x i) (y i)):=⟨_,rfl⟩
   rw [← htm] at HMX
   have HTM:=Lib.hid htm
   clear ex ey fx fy htm hlt
   have TK0:True:=trivial
   have TK1:True:=trivial
   go_wp2_with ((clear TK0;go_at_call 104;refine (HM1.out _ HN.out).mono ?_;rintro e w3 ⟨rfl,hb⟩;have N3:=Lib.hid (HN.out.later hb);have K4:=Lib.hid (K4.out.later hb);have K6:=Lib.hid (K6.out.later hb);clear hb))
   go_wp2_with ((clear TK1;go_at_call 104;refine (HM2.out _ N3.out).mono ?_;rintro e w4 ⟨rfl,hb⟩;have N4:=Lib.hid (N3.out.later hb);have K4:=Lib.hid (K4.out.later hb);have K6:=Lib.hid (K6.out.later hb);clear hb))
   go_wp2_with ((go_at_call 57;refine (HMX.out _).mono ?_;rintro e w5 ⟨rfl,hb⟩;have N5:=Lib.hid (N4.out.later hb);have K4:=Lib.hid (K4.out.later hb);have K6:=Lib.hid (K6.out.later hb);have p0:=K6.out.cell (k:=i) (by have:=HLT.out;omega);have f0:=K6.out.frozen i;have l0:=K6.out.lt;clear hb))
   have K6':=Lib.hid (K6.out.set_ (k:=i) (by have:=HLT.out;omega) tm)
   have K4':=Lib.hid (show CBlk (w5.setCell ⟨w.heap.size+1,i,none⟩ (.string tm)) w.heap.size zC from Blk.far K4.out (p:=⟨w.heap.size+1,i,none⟩) (by simp) _)
   have N6:=Lib.hid (show NW w (w5.setCell ⟨w.heap.size+1,i,none⟩ (.string tm)) from by
    have hb:=N5.out.below.setCell (p:=⟨w.heap.size+1,i,none⟩) (Nat.le_succ _) (.string tm)
    exact ⟨hb,HRS.out.below hb⟩)
   clear p0 f0 l0
   go_roundw
   case rel=>exact ⟨i+1,upd c i tm,HLT.out,by go_num,Lib.hid (fun j hj=>by
    by_cases e:j=i
    ·subst e;rw [upd_same];exact HTM.out
    ·rw [upd_other c tm e];exact HE.out j (by omega)),Lib.hid (by rw [upd_other c tm (by have:=HLT.out;omega)];exact HZ.out),K4',K6',N6⟩
   case measure=>have:=HLT.out;simp [intOf];omega
  ·have hlt':¬ (i:Int) < 7:=by omega
   obtain rfl:i=7:=by omega
   have HC:=Lib.hid (show cv c=cv (txt (curM x y)) from cv_ext fun k hk=>by
    by_cases e:k=7
    ·subst e
     rw [HZ.out]
     show _=rT (curM x y 7)
     rw [show curM x y 7=0 from if_pos rfl]
     exact IsT.zero.text
    ·rw [HE.out k (by omega)]
     show _=rT (curM x y k)
     rw [show curM x y k=maxQ (x k) (y k) from if_neg e])
   obtain ⟨c0,c1,c2,c3,c4,c5,c6,c7⟩:=K6.out.cells
   obtain ⟨z0,z1,z2,z3,z4,z5,z6,z7⟩:=K4.out.cells
   obtain ⟨y0,y1,y2,y3,y4,y5,y6,y7⟩:=K4.out.frozens
   clear hlt
   go_wp2
   refine bodyPost_ret (run_cell_tmp rfl rfl (load_curve (fin8_blk c K4.out))) rfl ?_
   rw [← HC.out]
   exact ⟨rfl,fin8_below HN.out.below (Nat.le_refl _) c⟩
theorem curve10_no1 (p q:List L2) (vp vq:Value) (ty:ByteArray) (by_:Bool) (n:Int) (h1:momV p q 2=.tuple #[.string ⟨#[]⟩,.bool false,.int .i64 0]) (h2:momV q p 2=.tuple #[.string ty,.bool by_,.int .i64 n]) (w:World) (hp:LRow w vp p) (hq:LRow w vq q) (sp:Short p) (sq:Short q) (kp:∀ x∈p,x.2.size≤60) (kq:∀ x∈q,x.2.size≤60) (hr:Res w) :
  Calls Tryz.prog 52 #[vp,vq] w fun e w'=>e=.returned (.tuple #[cv startC,.bool false])∧Below w.heap.size w w':=by
 have N0:=Lib.hid (((NW.refl hr).alloc (.cells #[.string ⟨#[]⟩,.string ⟨#[]⟩,.string ⟨#[]⟩,.string ⟨#[]⟩,.string ⟨#[]⟩,.string ⟨#[]⟩,.string ⟨#[]⟩,.string ⟨#[]⟩] 59)).alloc (.cells #[.string ⟨#[]⟩,.string ⟨#[]⟩,.string ⟨#[]⟩,.string ⟨#[]⟩,.string ⟨#[]⟩,.string ⟨#[]⟩,.string ⟨#[]⟩,.string ⟨#[48]⟩] 59))
 have K4:=Lib.hid (show CBlk ((w.alloc (.cells #[.string ⟨#[]⟩,.string ⟨#[]⟩,.string ⟨#[]⟩,.string ⟨#[]⟩,.string ⟨#[]⟩,.string ⟨#[]⟩,.string ⟨#[]⟩,.string ⟨#[]⟩] 59)).alloc (.cells #[.string ⟨#[]⟩,.string ⟨#[]⟩,.string ⟨#[]⟩,.string ⟨#[]⟩,.string ⟨#[]⟩,.string ⟨#[]⟩,.string ⟨#[]⟩,.string ⟨#[48]⟩] 59)) w.heap.size zC from Blk.alloc (Blk.new w 59 #[.string ⟨#[]⟩,.string ⟨#[]⟩,.string ⟨#[]⟩,.string ⟨#[]⟩,.string ⟨#[]⟩,.string ⟨#[]⟩,.string ⟨#[]⟩,.string ⟨#[]⟩]) _)
 have K6:=Lib.hid (show CBlk ((w.alloc (.cells #[.string ⟨#[]⟩,.string ⟨#[]⟩,.string ⟨#[]⟩,.string ⟨#[]⟩,.string ⟨#[]⟩,.string ⟨#[]⟩,.string ⟨#[]⟩,.string ⟨#[]⟩] 59)).alloc (.cells #[.string ⟨#[]⟩,.string ⟨#[]⟩,.string ⟨#[]⟩,.string ⟨#[]⟩,.string ⟨#[]⟩,.string ⟨#[]⟩,.string ⟨#[]⟩,.string ⟨#[48]⟩] 59)) (w.heap.size+1) startC from by
  have h:=Blk.new (w.alloc (.cells #[.string ⟨#[]⟩,.string ⟨#[]⟩,.string ⟨#[]⟩,.string ⟨#[]⟩,.string ⟨#[]⟩,.string ⟨#[]⟩,.string ⟨#[]⟩,.string ⟨#[]⟩] 59)) 59 #[.string ⟨#[]⟩,.string ⟨#[]⟩,.string ⟨#[]⟩,.string ⟨#[]⟩,.string ⟨#[]⟩,.string ⟨#[]⟩,.string ⟨#[]⟩,.string ⟨#[48]⟩]
  rw [World.size_alloc] at h
  exact h)
 have HX:=Lib.hid (fun W (hW:NW w W)=>rdmoment_any p q _ _ 2 60 W (hp.below hW.below) (hq.below hW.below) sp sq kp kq (by decide) hW.res)
 have HY:=Lib.hid (fun W (hW:NW w W)=>rdmoment_any q p _ _ 2 60 W (hq.below hW.below) (hp.below hW.below) sq sp kq kp (by decide) hW.res)
 obtain ⟨A,ca,rfl,_,_⟩:=id hp
 obtain ⟨B,cb,rfl,_,_⟩:=id hq
 rw [h1] at HX
 rw [h2] at HY
 clear hp hq sp sq kp kq hr h1 h2
 go_enter Tryz.func52,Tryz.ntmps52
 go_wp2
 go_loopw [7] (fun v7 wr=>v7=.int .i64 0∧Hid (CBlk wr w.heap.size zC)∧Hid (CBlk wr (w.heap.size+1) startC)∧Hid (NW w wr)) (fun _ _=>0)
 case atStart=>exact ⟨rfl,K4,K6,N0⟩
 case round =>
  clear K4 K6 N0
  obtain ⟨rfl,K4,K6,HN⟩:=hrel
  have TK0:True:=trivial
  have TK1:True:=trivial
  go_wp2_with ((clear TK0;go_at_call 104;refine (HX.out _ HN.out).mono ?_;rintro e w3 ⟨rfl,hb⟩;have N3:=Lib.hid (HN.out.later hb);have K4:=Lib.hid (K4.out.later hb);have K6:=Lib.hid (K6.out.later hb);clear hb))
  go_wp2_with ((clear TK1;go_at_call 104;refine (HY.out _ N3.out).mono ?_;rintro e w4 ⟨rfl,hb⟩;have N4:=Lib.hid (N3.out.later hb);have K4:=Lib.hid (K4.out.later hb);have K6:=Lib.hid (K6.out.later hb);obtain ⟨c0,c1,c2,c3,c4,c5,c6,c7⟩:=K6.out.cells;obtain ⟨z0,z1,z2,z3,z4,z5,z6,z7⟩:=K4.out.cells;obtain ⟨y0,y1,y2,y3,y4,y5,y6,y7⟩:=K4.out.frozens;clear hb))
  refine bodyPost_ret (run_cell_tmp rfl rfl (load_curve (fin8_blk startC K4.out))) rfl ?_
  exact ⟨rfl,fin8_below N4.out.below (Nat.le_refl _) startC⟩
theorem curve10_no2 (p q:List L2) (vp vq:Value) (tx:ByteArray) (h1:momV p q 2=.tuple #[.string tx,.bool true,.int .i64 0]) (h2:momV q p 2=.tuple #[.string ⟨#[]⟩,.bool false,.int .i64 0]) (w:World) (hp:LRow w vp p) (hq:LRow w vq q) (sp:Short p) (sq:Short q) (kp:∀ x∈p,x.2.size≤60) (kq:∀ x∈q,x.2.size≤60) (hr:Res w) :
  Calls Tryz.prog 52 #[vp,vq] w fun e w'=>e=.returned (.tuple #[cv startC,.bool false])∧Below w.heap.size w w':=by
 have N0:=Lib.hid (((NW.refl hr).alloc (.cells #[.string ⟨#[]⟩,.string ⟨#[]⟩,.string ⟨#[]⟩,.string ⟨#[]⟩,.string ⟨#[]⟩,.string ⟨#[]⟩,.string ⟨#[]⟩,.string ⟨#[]⟩] 59)).alloc (.cells #[.string ⟨#[]⟩,.string ⟨#[]⟩,.string ⟨#[]⟩,.string ⟨#[]⟩,.string ⟨#[]⟩,.string ⟨#[]⟩,.string ⟨#[]⟩,.string ⟨#[48]⟩] 59))
 have K4:=Lib.hid (show CBlk ((w.alloc (.cells #[.string ⟨#[]⟩,.string ⟨#[]⟩,.string ⟨#[]⟩,.string ⟨#[]⟩,.string ⟨#[]⟩,.string ⟨#[]⟩,.string ⟨#[]⟩,.string ⟨#[]⟩] 59)).alloc (.cells #[.string ⟨#[]⟩,.string ⟨#[]⟩,.string ⟨#[]⟩,.string ⟨#[]⟩,.string ⟨#[]⟩,.string ⟨#[]⟩,.string ⟨#[]⟩,.string ⟨#[48]⟩] 59)) w.heap.size zC from Blk.alloc (Blk.new w 59 #[.string ⟨#[]⟩,.string ⟨#[]⟩,.string ⟨#[]⟩,.string ⟨#[]⟩,.string ⟨#[]⟩,.string ⟨#[]⟩,.string ⟨#[]⟩,.string ⟨#[]⟩]) _)
 have K6:=Lib.hid (show CBlk ((w.alloc (.cells #[.string ⟨#[]⟩,.string ⟨#[]⟩,.string ⟨#[]⟩,.string ⟨#[]⟩,.string ⟨#[]⟩,.string ⟨#[]⟩,.string ⟨#[]⟩,.string ⟨#[]⟩] 59)).alloc (.cells #[.string ⟨#[]⟩,.string ⟨#[]⟩,.string ⟨#[]⟩,.string ⟨#[]⟩,.string ⟨#[]⟩,.string ⟨#[]⟩,.string ⟨#[]⟩,.string ⟨#[48]⟩] 59)) (w.heap.size+1) startC from by
  have h:=Blk.new (w.alloc (.cells #[.string ⟨#[]⟩,.string ⟨#[]⟩,.string ⟨#[]⟩,.string ⟨#[]⟩,.string ⟨#[]⟩,.string ⟨#[]⟩,.string ⟨#[]⟩,.string ⟨#[]⟩] 59)) 59 #[.string ⟨#[]⟩,.string ⟨#[]⟩,.string ⟨#[]⟩,.string ⟨#[]⟩,.string ⟨#[]⟩,.string ⟨#[]⟩,.string ⟨#[]⟩,.string ⟨#[48]⟩]
  rw [World.size_alloc] at h
  exact h)
 have HX:=Lib.hid (fun W (hW:NW w W)=>rdmoment_any p q _ _ 2 60 W (hp.below hW.below) (hq.below hW.below) sp sq kp kq (by decide) hW.res)
 have HY:=Lib.hid (fun W (hW:NW w W)=>rdmoment_any q p _ _ 2 60 W (hq.below hW.below) (hp.below hW.below) sq sp kq kp (by decide) hW.res)
 obtain ⟨A,ca,rfl,_,_⟩:=id hp
 obtain ⟨B,cb,rfl,_,_⟩:=id hq
 rw [h1] at HX
 rw [h2] at HY
 clear hp hq sp sq kp kq hr h1 h2
 go_enter Tryz.func52,Tryz.ntmps52
 go_wp2
 go_loopw [7] (fun v7 wr=>v7=.int .i64 0∧Hid (CBlk wr w.heap.size zC)∧Hid (CBlk wr (w.heap.size+1) startC)∧Hid (NW w wr)) (fun _ _=>0)
 case atStart=>exact ⟨rfl,K4,K6,N0⟩
 case round =>
  clear K4 K6 N0
  obtain ⟨rfl,K4,K6,HN⟩:=hrel
  have TK0:True:=trivial
  have TK1:True:=trivial
  go_wp2_with ((clear TK0;go_at_call 104;refine (HX.out _ HN.out).mono ?_;rintro e w3 ⟨rfl,hb⟩;have N3:=Lib.hid (HN.out.later hb);have K4:=Lib.hid (K4.out.later hb);have K6:=Lib.hid (K6.out.later hb);clear hb))
  go_wp2_with ((clear TK1;go_at_call 104;refine (HY.out _ N3.out).mono ?_;rintro e w4 ⟨rfl,hb⟩;have N4:=Lib.hid (N3.out.later hb);have K4:=Lib.hid (K4.out.later hb);have K6:=Lib.hid (K6.out.later hb);obtain ⟨c0,c1,c2,c3,c4,c5,c6,c7⟩:=K6.out.cells;obtain ⟨z0,z1,z2,z3,z4,z5,z6,z7⟩:=K4.out.cells;obtain ⟨y0,y1,y2,y3,y4,y5,y6,y7⟩:=K4.out.frozens;clear hb))
  refine bodyPost_ret (run_cell_tmp rfl rfl (load_curve (fin8_blk startC K4.out))) rfl ?_
  exact ⟨rfl,fin8_below N4.out.below (Nat.le_refl _) startC⟩
end Go.Proofs.YtigapglmipmbeaaGreatDoor
namespace Go.Proofs.YtigapglmipmbeaaGreatDoor
open Go.RowKit Go.Shelf
def cellsM (ls:List L2):List Value:=ls.flatMap fun x=>[.string x.1,.string x.2]
theorem cellsM_cons (x:L2) (l:List L2):cellsM (x::l)=.string x.1::.string x.2::cellsM l:=rfl
theorem cellsM_append (l m:List L2):cellsM (l++m)=cellsM l++cellsM m:=by unfold cellsM;rw [List.flatMap_append]
theorem cellsM_length:∀ ls:List L2,(cellsM ls).length=ls.length*2
 | []=>rfl
 | x::l=>by rw [cellsM_cons,List.length_cons,List.length_cons,cellsM_length l,List.length_cons];omega
theorem cellsM_at:∀ {ls:List L2} {k:Nat} {x:L2},ls[k]?=some x→(cellsM ls)[k*2]?=some (.string x.1)∧(cellsM ls)[k*2+1]?=some (.string x.2)
 | [],k,x,h=>by simp at h
 | y::l,0,x,h=>by
  simp only [List.getElem?_cons_zero,Option.some.injEq] at h
  subst h
  exact ⟨rfl,rfl⟩
 | y::l,k+1,x,h=>by
  have h2:l[k]?=some x:=by simpa using h
  rw [cellsM_cons,show (k+1)*2=k*2+1+1 by omega]
  exact cellsM_at h2
theorem infoM:(Tryz.prog.info? 30).map (fun i=>(i.zero,i.size,i.bytes))=some (some (.agg #[.string ByteArray.empty,.string ByteArray.empty]),2,32):=by kernel_rfl
theorem slice_shape {w:World} {base e size n:Nat} {v:Value} {us:List Value} (h:w.ownsRow base e size v n us):∃ A c,v=.slice A n c:=by
 rcases h.2 with ⟨e1,h0⟩|⟨g,cap,cur,e1,_⟩
 ·exact ⟨none,0,by rw [e1,h0]⟩
 ·exact ⟨_,_,e1⟩
theorem owns_base {w:World} {base base' e size n:Nat} {v:Value} {us:List Value} (h:w.ownsRow base e size v n us) (hb:base'≤base):w.ownsRow base' e size v n us:=by
 refine ⟨h.1,?_⟩
 rcases h.2 with h2|⟨g,cap,cur,e1,h3,h4⟩
 ·exact .inl h2
 ·exact .inr ⟨g,cap,cur,e1,Nat.le_trans hb h3,h4⟩
def OwnM (base:Nat) (w:World) (v:Value) (ls:List L2):Prop:=w.ownsRow base 30 2 v ls.length (cellsM ls)
theorem OwnM.nil (base:Nat) (w:World):OwnM base w (.slice none 0 0) []:=World.ownsRow_nil _ _ _ _
theorem OwnM.row {base:Nat} {w:World} {v:Value} {ls:List L2} (h:OwnM base w v ls) (hl:ls.length≤1000):LRow w v ls:=by
 rcases h.2 with ⟨e,h0⟩|⟨g,cap,cur,e,hb,hh,h1,h2,_⟩
 ·subst e
  have:ls=[]:=List.eq_nil_of_length_eq_zero h0
  subst this
  exact LRow.nil _ _ _
 ·subst e
  refine ⟨_,_,rfl,hl,fun _=>⟨g,0,rfl,(Array.getElem?_eq_some_iff.1 hh).1,fun j x hj=>?_⟩⟩
  obtain ⟨c0,c1⟩:=cellsM_at hj
  have r0:=World.ownsRow.cells h (g:=g) rfl _ _ c0
  have r1:=World.ownsRow.cells h (g:=g) rfl _ _ c1
  rw [show (⟨g,0,none⟩:Addr).add (j*2)=⟨g,0+j*2,none⟩ by unfold Addr.add;split<;>simp_all] at r0
  rw [show (⟨g,0,none⟩:Addr).add (j*2+1)=⟨g,0+(j*2+1),none⟩ by unfold Addr.add;split<;>simp_all] at r1
  exact ⟨r0,r1⟩
theorem OwnM.slice {base:Nat} {w:World} {v:Value} {ls:List L2} (h:OwnM base w v ls):∃ A c,v=.slice A ls.length c:=by
 rcases h.2 with ⟨e,h0⟩|⟨g,cap,cur,e,_⟩
 ·exact ⟨none,0,by rw [e,h0]⟩
 ·exact ⟨_,_,e⟩
theorem OwnM.later {base:Nat} {w w':World} {v:Value} {ls:List L2} (h:OwnM base w v ls) (hb:Below w.heap.size w w'):OwnM base w' v ls:=by
 have hg:w.grownBy w' none:=⟨hb.os,hb.tape,hb.output,hb.size,fun k hk _=>hb.block k hk⟩
 refine World.ownsRow.kept h hg ?_
 cases v.ownBlock with
 | none=>exact .inl rfl
 | some g=>exact .inr (by simp)
theorem grow_nw {w W W':World} (h:NW w W) (hr:Res w) {row:Option Nat} (hg:W.grownBy W' row) (hrow:∀ r,row=some r→w.heap.size≤r):NW w W':=by
 have hb:Below w.heap.size w W':=h.below.grown hg h.below.size hrow
 exact ⟨hb,hr.below hb⟩
theorem grown_none' {w w':World} (h:Below w.heap.size w w') (row:Option Nat):w.grownBy w' row:=⟨h.os,h.tape,h.output,h.size,fun k hk _=>h.block k hk⟩
def LRowW (w:World) (v:Value) (ls:List L2):Prop :=
 ∃ A c,v=.slice A ls.length c∧ls.length≤maxLen∧(0 < ls.length→∃ b o,A=some ⟨b,o,none⟩∧b < w.heap.size ∧
  ∀ (j:Nat) (x:L2),ls[j]?=some x→w.cell? ⟨b,o+j*2,none⟩=some (.string x.1)∧w.cell? ⟨b,o+j*2+1,none⟩=some (.string x.2))
theorem LRowW.below {w w':World} {v:Value} {ls:List L2} (h:LRowW w v ls) (hb:Below w.heap.size w w'):LRowW w' v ls:=by
 obtain ⟨A,c,e,h1,h2⟩:=h
 refine ⟨A,c,e,h1,fun h0=>?_⟩
 obtain ⟨b,o,e2,hlt,hc⟩:=h2 h0
 refine ⟨b,o,e2,Nat.lt_of_lt_of_le hlt hb.size,fun j x hj=>?_⟩
 obtain ⟨c0,c1⟩:=hc j x hj
 exact ⟨by rw [hb.cell (p:=⟨b,o+j*2,none⟩) hlt];exact c0,by rw [hb.cell (p:=⟨b,o+j*2+1,none⟩) hlt];exact c1⟩
theorem LRow.wide {w:World} {v:Value} {ls:List L2} (h:LRow w v ls):LRowW w v ls:=by
 obtain ⟨A,c,e,h1,h2⟩:=h
 exact ⟨A,c,e,by unfold maxLen;omega,h2⟩
theorem LRowW.row {w:World} {v:Value} {ls:List L2} (h:LRowW w v ls) (hl:ls.length≤1000):LRow w v ls:=by
 obtain ⟨A,c,e,_,h2⟩:=h
 exact ⟨A,c,e,hl,h2⟩
theorem LRowW.at {w W:World} {v:Value} {ls:List L2} (h:LRowW w v ls) (hb:Below w.heap.size w W) {k:Nat} {x:L2} (hx:ls[k]?=some x) :
  ∃ b o c,v=.slice (some ⟨b,o,none⟩) ls.length c∧b < W.heap.size∧W.cell? ⟨b,o+k*2,none⟩=some (.string x.1)∧W.cell? ⟨b,o+k*2+1,none⟩=some (.string x.2):=by
 obtain ⟨A,c,rfl,_,hc⟩:=h
 obtain ⟨b,o,rfl,hlt,hcell⟩:=hc (by have:=(List.getElem?_eq_some_iff.1 hx).1;omega)
 obtain ⟨c0,c1⟩:=hcell k x hx
 exact ⟨b,o,c,rfl,Nat.lt_of_lt_of_le hlt hb.size,by rw [hb.cell (p:=⟨b,o+k*2,none⟩) hlt];exact c0,by rw [hb.cell (p:=⟨b,o+k*2+1,none⟩) hlt];exact c1⟩
def LLRow (w:World) (v:Value) (lss:List (List L2)):Prop:=∃ b c,v=.slice (some ⟨b,0,none⟩) lss.length c∧b < w.heap.size∧lss.length≤8 ∧
 ∀ (j:Nat) (ls:List L2),lss[j]?=some ls→∃ u,w.cell? ⟨b,j,none⟩=some u∧LRowW w u ls
theorem LLRow.ofBlk {w:World} {b:Nat} {t:TypeId} {vs:List (Value × List L2)} {n c:Nat} (h:Blk w b t (vs.map (·.1)).toArray) (hn:n=vs.length) (hl:vs.length≤8) (hv:∀ x∈vs,LRowW w x.1 x.2):LLRow w (.slice (some ⟨b,0,none⟩) n c) (vs.map (·.2)):=by
 subst hn
 refine ⟨b,c,by rw [List.length_map],h.lt,by rw [List.length_map];exact hl,fun j ls hj=>?_⟩
 rw [List.getElem?_map] at hj
 cases hx:vs[j]? with
 | none=>rw [hx] at hj;cases hj
 | some x =>
  rw [hx] at hj
  cases hj
  exact ⟨x.1,by rw [h.cell];simp [hx],hv x (List.mem_of_getElem? hx)⟩
def lightD (n k p:Nat) (ls:List L2):Bool:=decide (ls.length≤n)&&ls.all fun x=>decide (x.1.size≤k)&&decide (x.2.size≤p)
theorem lightD_iff {n k p:Nat} {ls:List L2}:lightD n k p ls=true↔ls.length≤n∧∀ x∈ls,x.1.size≤k∧x.2.size≤p:=by
 unfold lightD
 rw [Bool.and_eq_true,decide_eq_true_eq,List.all_eq_true]
 simp only [Bool.and_eq_true,decide_eq_true_eq]
end Go.Proofs.YtigapglmipmbeaaGreatDoor
namespace Go.Proofs.YtigapglmipmbeaaGreatDoor
open Lim
def oneM (n k p:Nat) (l:List L2):Option (List L2) :=
 if lightD n k p l=true then (match makeX l with
  | .error _=>none
  | .ok d=>if lightD n k p d=true then some d else none) else none
def madeD (n k p:Nat):List (List L2)→Option (List (List L2))
 | []=>some []
 | l::t=>match oneM n k p l with
  | none=>none
  | some d=>match madeD n k p t with
   | none=>none
   | some r=>some (d::r)
theorem oneM_some {n k p:Nat} {l d:List L2}:oneM n k p l=some d↔lightD n k p l=true∧makeX l=.ok d∧lightD n k p d=true:=by
 unfold oneM
 constructor
 ·intro h
  split at h
  ·rename_i h1
   split at h
   ·cases h
   ·rename_i e he
    split at h
    ·rename_i h2;cases h;exact ⟨h1,he,h2⟩
    ·cases h
  ·cases h
 ·rintro ⟨h1,h2,h3⟩
  rw [if_pos h1,h2]
  dsimp only
  rw [if_pos h3]
theorem madeD_none {n k p:Nat}:∀ {lss:List (List L2)} {j:Nat} {l:List L2},lss[j]?=some l→oneM n k p l=none→madeD n k p lss=none
 | [],j,l,h,_=>by simp at h
 | a::t,0,l,h,h2=>by
  simp only [List.getElem?_cons_zero,Option.some.injEq] at h
  subst h
  simp only [madeD,h2]
 | a::t,j+1,l,h,h2=>by
  have:=madeD_none (lss:=t) (j:=j) (by simpa using h) h2
  simp only [madeD,this]
  cases oneM n k p a<;>rfl
theorem madeD_some {n k p:Nat}:∀ {lss outs:List (List L2)},lss.length=outs.length→(∀ (j:Nat) l d,lss[j]?=some l→outs[j]?=some d→oneM n k p l=some d)→madeD n k p lss=some outs
 | [],[],_,_=>rfl
 | [],_::_,h,_=>by simp at h
 | _::_,[],h,_=>by simp at h
 | a::t,d::r,hl,h=>by
  have h1:=h 0 a d rfl rfl
  have h2:=madeD_some (lss:=t) (outs:=r) (by simpa using hl) fun j l e hl he=>h (j+1) l e (by simpa using hl) (by simpa using he)
  simp only [madeD,h1,h2]
theorem madeD_spec {n k p:Nat}:∀ {lss outs:List (List L2)},madeD n k p lss=some outs→outs.length=lss.length∧∀ d∈outs,lightD n k p d=true∧Dst (p*n+1) d
 | [],outs,h=>by
  cases h
  exact ⟨rfl,fun d hd=>by cases hd⟩
 | a::t,outs,h=>by
  simp only [madeD] at h
  cases h1:oneM n k p a with
  | none=>rw [h1] at h;cases h
  | some d =>
   rw [h1] at h
   cases h2:madeD n k p t with
   | none=>rw [h2] at h;cases h
   | some r =>
    rw [h2] at h
    cases h
    obtain ⟨r1,r2⟩:=madeD_spec h2
    obtain ⟨o1,o2,o3⟩:=oneM_some.1 h1
    refine ⟨by simp [r1],fun e he=>?_⟩
    rcases List.mem_cons.1 he with rfl|he
    ·obtain ⟨l1,l2⟩:=lightD_iff.1 o3
     exact ⟨o3,Dst.light (makeX_ok o2).1 l1 fun x hx=>(l2 x hx).2⟩
    ·exact r2 e he
end Go.Proofs.YtigapglmipmbeaaGreatDoor
namespace Go.Proofs.YtigapglmipmbeaaGreatDoor
open Go.RowKit Go.Shelf
end Go.Proofs.YtigapglmipmbeaaGreatDoor
namespace Go.Proofs.YtigapglmipmbeaaGreatDoor
open Go.RowKit Go.Maps Go.Sort Go.Shelf
open Lim
def mKey (k:ByteArray):Lit:=.string k.data.toList
section
variable {w:World} {b n:Nat} {D:DataW Unit} {key s:ByteArray} (hown:w.ownsMap Tryz.prog 9 (plainElem Tryz.prog 23) b n D) (hk:key.size≤maxLen) (hs:D.atKey (mKey key) (.lit (.string []))=.lit (.string s.data.toList))
include hown hk hs
end
end Go.Proofs.YtigapglmipmbeaaGreatDoor
namespace Go.Proofs.YtigapglmipmbeaaGreatDoor
open Go.Shelf
end Go.Proofs.YtigapglmipmbeaaGreatDoor
namespace Go.Proofs.YtigapglmipmbeaaGreatDoor
open Go.RowKit Go.Maps Go.Sort Go.Shelf
end Go.Proofs.YtigapglmipmbeaaGreatDoor
