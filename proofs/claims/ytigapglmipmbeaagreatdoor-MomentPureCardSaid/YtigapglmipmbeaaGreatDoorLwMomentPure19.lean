/- The reference 08: Make (printed by mkdcoll.py). law 08: half, thirds and the examples that each statement asks first (printed by mkdlives.py). law 08: number, least, plus, times. Walks of laws behind made: one class of later worlds for all that follows. law 09: few (printed by mkdlight.py). law 09: made, as a walk (printed by mkmade9.py). law 09: factor, least, holds (printed by mklhelp9.py). What law 09's made gives (printed by mkgrp.py). MomentDeltas: To for long curves; what the law asks; no walk (printed by mkmomd.py). Texts of given numbers, by reckoning; the examples of losses in plain rationals. loss.sampled, Alpha, Beta and Half, where no number on the way is too long. What Alpha, Beta and Half return for good parameters, and where a parameter is out of its range. The reference's losses (printed by mklref.py). Alpha, Beta and Half with their errors, the program's and the reference's (printed by mkrests.py). MomentPure: what it asks; no walk. law 10's curve on what made gives. dist: slices.Clone of masses, scaled (printed by mkdprog.py). dist.Mix (printed by mkdprog.py). dist: slices.Index of strings, Push (printed by mkdprog.py). law 08: names (printed by mkdlaw3.py). DistPushes, as a walk (printed by mkdlaw3.py). Laws inside a fence: drawn regions of one class of later worlds; what Mix gives (printed by mkdlaw4.py). The reference's sums and comparisons of losses (printed by mklref2.py). The door of a function that defers ends, inside the wide fence. loss.Late, where no number on the way is too long. The reference's Group and Late (printed by mklref3.py). The examples of losses that each statement asks first. The statements' lives and light (printed by mkllives.py). LossGroups, as a walk (printed by mkgrp.py). (printed by mkrangep.py) A range over a function whose yields come in a known order; what holds in memory may speak of what has come. dist: the pairs of outcomes, and their iterator (printed by mkdprod.py). dist.Product (printed by mkdprod.py). The statements' Pick. kit.Has on the bytes of a string; what Product gives (printed by mkdlaw5.py). LossAdds: what the sum of two losses gives of products; no program in sight. The reference 08: scaled, Mix (printed by mkdref4.py). The reference 08: Product (printed by mkdref6.py). LossAdds, as a walk (printed by mkadd.py). The examples that each statement of chapter 10 asks first (printed by mkmlaws.py). MomentPure, as a walk (printed by mkmomp.py). Opening and shutting an argument that is a loss. -/
import Derived.Test.YtigapglmipmbeaaGreatDoorLwMomentPure18
import Derived.Test.YtigapglmipmbeaaGreatDoorLwMomentPure17
import Derived.Test.YtigapglmipmbeaaGreatDoorLwMomentPure16
import Derived.Test.YtigapglmipmbeaaGreatDoorLwMomentPure14
import Derived.Test.YtigapglmipmbeaaGreatDoorLwMomentPure10
import Derived.Test.YtigapglmipmbeaaGreatDoorLwMomentPure15
import Derived.Test.YtigapglmipmbeaaGreatDoorLwMomentPure02
import Derived.Test.YtigapglmipmbeaaGreatDoorLwMomentPure13
import Derived.RecoverIn
import Derived.TacticsInMore
import Derived.Test.YtigapglmipmbeaaGreatDoorLwMomentPure11
import Derived.Maps.OwnIn
import Derived.Test.YtigapglmipmbeaaGreatDoorLwMomentPure01
import Derived.Lib.ConvBytes
import Derived.ProofKit
import Derived.OpenShut
import Derived.ShutString
import Derived.ChangeOld
import Derived.ChangeSame
set_option maxRecDepth 100000
set_option maxHeartbeats 16000000
namespace Go.Proofs.YtigapglmipmbeaaGreatDoor
open Go.RowKit Go.Shelf
open Lim
attribute [local go_sem] Oper.semAt_some
theorem Short.coll:∀ {l a b:List L2},collX a l=.ok b→Short a→Short l→Short b
 | [],a,b,h,ha,_=>by cases h;exact ha
 | x::l,a,b,h,ha,hl=>by
  unfold collX at h
  split at h
  ·cases h
  ·rename_i m hm
   exact Short.coll h (Short.ins hm ha (hl x (by simp))) fun y hy=>hl y (by simp [hy])
theorem Short.keep {a:List L2} (h:Short a):Short (keepX a):=fun x hx=>h x ((List.mem_filter.1 hx).1)
theorem rdmake_any (ls:List L2) (v:Value) (w:World) (hv:LRow w v ls) (hs:Short ls) (hr:Res w) :
  Calls Tryz.prog 26 #[v] w fun e w'=>ResM w.heap.size (makeX ls) e w'∧Below w.heap.size w w':=by
 have HV:=Lib.hid hv
 have HS:=Lib.hid hs
 have HC:=Lib.hid (fun (W:World) (hW:NW w W)=>S2.rdcollect_any ls _ W (hv.below hW.below) hs hW.res)
 obtain ⟨A,c,rfl,HLEN,hcells⟩:=hv
 have H0:=Lib.hid (NW.refl hr)
 clear hr hcells hs
 generalize hm:makeX ls=mk
 have HMK:=Lib.hid hm
 clear hm
 go_enter Tryz.func26,Tryz.ntmps26
 go_wp2
 go_loopw [4] (fun v4 wr=>∃ k:Nat,k≤ls.length∧v4=.int .i64 (k:Int)∧Hid (posL ls=posL (ls.drop k))∧Hid (NW w wr)) (fun v4 _=>ls.length - (intOf v4).toNat)
 case atStart=>exact ⟨0,Nat.zero_le _,rfl,Lib.hid (by simp),H0⟩
 case round =>
  clear H0
  obtain ⟨k,hk,rfl,HE,HN⟩:=hrel
  by_cases hlt:k < ls.length
  ·obtain ⟨x,hx⟩:∃ x,ls[k]?=some x:=⟨_,List.getElem?_eq_getElem hlt⟩
   obtain ⟨b,o,c',e',hb2,c0,c1⟩:=HV.out.at HN.out.below hx
   simp only [Value.slice.injEq,true_and] at e'
   obtain ⟨rfl,rfl⟩:=e'
   have hlt':(k:Int) < (ls.length:Int):=by omega
   have hsx:=(HS.out x (List.mem_of_getElem? hx)).2
   have HD:=Lib.hid (drop_of hx)
   have HLT:=Lib.hid (And.intro hlt hlt')
   obtain ⟨f,d⟩:=x
   dsimp only at c0 c1 HD hsx
   clear hx hlt
   by_cases h0:errQ d.data.toList=0
   ·have HSG:=Lib.hid (retRSign_ok hsx h0)
    by_cases h2:valQ d.data.toList < 0
    ·have d1:decide (sgQ (valQ d.data.toList) < 0)=true:=decide_eq_true ((sg_lt _).2 h2)
     have HR:=Lib.hid (show mk=.error 2 by
      have h1:posE d=2:=by unfold posE;rw [if_neg (by simpa using h0),if_pos h2]
      have h3:posL ls=2:=by rw [HE.out,HD.out,posL_err (x:=(f,d)) (by rw [h1];decide),h1]
      rw [← HMK.out];unfold makeX;rw [if_pos (by rw [h3];decide),h3])
     generalize sgQ (valQ d.data.toList)=sg at *
     clear h0 h2 hsx
     go_wp2_with (go_at_call 110;refine (HSG.out _ HN.out.res).mono ?_;rintro e w3 ⟨rfl,hb⟩;have H3:=Lib.hid (HN.out.later hb);clear hb)
     go_ret2
     rw [HR.out]
     exact ⟨rfl,H3.out.below⟩
    ·have d1:decide (sgQ (valQ d.data.toList) < 0)=false:=decide_eq_false (fun h=>h2 ((sg_lt _).1 h))
     have HR:=Lib.hid (show posL ls=posL (ls.drop (k+1)) by
      rw [HE.out,HD.out]
      exact posL_go (x:=(f,d)) (by show posE d=0;unfold posE;rw [if_neg (by simpa using h0),if_neg h2]))
     generalize sgQ (valQ d.data.toList)=sg at *
     clear h0 h2 hsx
     go_wp2_with (go_at_call 110;refine (HSG.out _ HN.out.res).mono ?_;rintro e w3 ⟨rfl,hb⟩;have H3:=Lib.hid (HN.out.later hb);clear hb)
     go_roundw
     case rel=>exact ⟨k+1,HLT.out.1,by go_num,HR,H3⟩
     case measure=>have:=HLT.out.1;simp [intOf];omega
   ·have HSG:=Lib.hid (retRSign_err hsx h0)
    have HR:=Lib.hid (show mk=.error (errQ d.data.toList) by
     have h3:posL ls=errQ d.data.toList:=by rw [HE.out,HD.out,posL_err (x:=(f,d)) (by show posE d≠0;rw [posE_err h0];exact h0)];exact posE_err h0
     rw [← HMK.out];unfold makeX;rw [if_pos (by rw [h3];exact h0),h3])
    have hm:=ne_zero h0
    have hm2:=ne_zero2 h0
    clear h0 hsx
    go_wp2_with (go_at_call 110;refine (HSG.out _ HN.out.res).mono ?_;rintro e w3 ⟨rfl,hb⟩;have H3:=Lib.hid (HN.out.later hb);clear hb)
    go_ret2
    rw [HR.out]
    exact ⟨rfl,H3.out.below⟩
  ·have hlt':¬ (k:Int) < (ls.length:Int):=by omega
   have h0:posL ls=0:=by
    have:=HE.out
    rw [List.drop_of_length_le (by omega)] at this
    exact this
   have HMK2:mk=(match collX [] ls with|.error n=>.error n|.ok a=>doneX a):=by
    rw [← HMK.out]
    unfold makeX
    rw [if_neg (by simpa using h0)]
    rfl
   clear hlt HMK HE h0
   cases hc:collX [] ls with
   | error n =>
    rw [hc] at HMK2
    have HCC:=Lib.hid (HC.out wr HN.out)
    rw [collK_err hc] at HCC
    change Hid (Calls _ _ _ _ fun e w'=>e=.returned (.tuple #[.slice none 0 0,.int .i64 (n:Int)])∧_) at HCC
    have hm:=ne_zero (collX_ne hc)
    have hm2:=ne_zero2 (collX_ne hc)
    have HR:=Lib.hid (show mk=.error n from HMK2)
    clear hc HMK2
    go_wp2_with (go_at_call 111;refine HCC.out.mono ?_;rintro e w3 ⟨rfl,hb⟩;have H3:=Lib.hid (HN.out.later hb);clear hb)
    go_ret2
    rw [HR.out]
    exact ⟨rfl,H3.out.below⟩
   | ok a =>
    rw [hc] at HMK2
    have HCC:=Lib.hid (HC.out wr HN.out)
    rw [collK_ok hc] at HCC
    change Hid (Calls _ _ _ _ fun e w'=>(∃ u,e=.returned (.tuple #[u,.int .i64 0])∧OwnM wr.heap.size w' u (keepX a))∧_) at HCC
    have hl:(keepX a).length≤1000:=by
     have h1:=collX_len hc
     have h2:=List.length_filter_le (fun x:L2=>decide (x.2≠zT)) a
     unfold keepX
     simp at h1
     omega
    have HCK:=Lib.hid (fun (W:World) (u:Value) (ho:OwnM wr.heap.size W u (keepX a)) (hr:Res W)=>rdcheck_any (keepX a) u W (ho.row hl) (Short.coll hc (fun x h=>by cases h) HS.out).keep hr)
    have HWR:=Lib.hid HN.out.below.size
    change mk=doneX a at HMK2
    unfold doneX at HMK2
    have TK0:True:=trivial
    have TK1:True:=trivial
    clear hc hl
    by_cases hz:chkD (keepX a)=0
    ·have HR:=Lib.hid (show mk=.ok (keepX a) by rw [HMK2,if_neg (by simpa using hz)])
     rw [hz] at HCK
     clear hz HMK2
     go_wp2_with (first
      | (clear TK0;go_at_call 111;refine HCC.out.mono ?_;rintro e w3 ⟨⟨u,rfl,ho⟩,hb⟩;have H3:=Lib.hid (HN.out.later hb);have HO3:=Lib.hid ho;clear hb ho)
      | (clear TK1;go_at_call 37;refine (HCK.out _ _ HO3.out H3.out.res).mono ?_;rintro e w4 ⟨rfl,hb⟩;have H4:=Lib.hid (H3.out.later hb);have HO4:=Lib.hid (HO3.out.later hb);clear hb))
     go_ret2
     rw [HR.out]
     exact ⟨⟨_,rfl,owns_base HO4.out HWR.out⟩,H4.out.below⟩
    ·have HR:=Lib.hid (show mk=.error (chkD (keepX a)) by rw [HMK2,if_pos hz])
     have hm:=ne_zero hz
     have hm2:=ne_zero2 hz
     generalize chkD (keepX a)=n at *
     clear hz HMK2
     go_wp2_with (first
      | (clear TK0;go_at_call 111;refine HCC.out.mono ?_;rintro e w3 ⟨⟨u,rfl,ho⟩,hb⟩;have H3:=Lib.hid (HN.out.later hb);have HO3:=Lib.hid ho;clear hb ho)
      | (clear TK1;go_at_call 37;refine (HCK.out _ _ HO3.out H3.out.res).mono ?_;rintro e w4 ⟨rfl,hb⟩;have H4:=Lib.hid (H3.out.later hb);clear hb))
     go_ret2
     rw [HR.out]
     exact ⟨rfl,H4.out.below⟩
end Go.Proofs.YtigapglmipmbeaaGreatDoor
namespace Go.Proofs.YtigapglmipmbeaaGreatDoor
open Go.RowKit Go.Shelf
open Lim
section
variable {P:Program} {id:Nat} {Q:Exit→Act→World→Prop} {a:Act} {w0:World} {l:List Oper}
end
theorem LaterW.step {w0:World} (z:LaterW w0) {W:World} (hb:Below z.W.heap.size z.W W):∃ x:LaterW w0,W=x.W:=⟨⟨W,z.h.trans (hb.mono z.h.size)⟩,rfl⟩
theorem LLRow.nth {w:World} {bb j:Nat} {outs:List (List L2)} {l:List L2} (hbb:bb < w.heap.size) (h:∀ (j:Nat) (ls:List L2),outs[j]?=some ls→∃ u,w.cell? ⟨bb,j,none⟩=some u∧LRowW w u ls) (hj:outs[j]?=some l) :
  ∃ A c,(∀ z:LaterW w,z.W.cell? ⟨bb,j,none⟩=some (.slice A l.length c))∧∀ z:LaterW w,LRowW z.W (.slice A l.length c) l:=by
 obtain ⟨u,h1,h2⟩:=h j l hj
 obtain ⟨A,c,rfl,_,_⟩:=id h2
 exact ⟨A,c,fun z=>(z.h.cell (p:=⟨bb,j,none⟩) hbb).trans h1,fun z=>h2.below z.h⟩
end Go.Proofs.YtigapglmipmbeaaGreatDoor
namespace Go.Proofs.YtigapglmipmbeaaGreatDoor
open Go.RowKit Go.Shelf
end Go.Proofs.YtigapglmipmbeaaGreatDoor
namespace Go.Proofs.YtigapglmipmbeaaGreatDoor
open Go.RowKit Go.Shelf
open Lim
section
variable {c:CT} {m:Nat→Rat} {k:Nat}
end
structure Made10 (l:List L2):Prop where
 len:l.length≤6
 key:∀ x∈l,x.1.size≤12
 txt:∀ x∈l,x.2.size≤12
 dst:Dst 73 l
theorem Made10.short {l:List L2} (h:Made10 l):Short l:=fun x hx=>⟨Nat.le_trans (h.key x hx) (by omega),Nat.le_trans (h.txt x hx) (by omega)⟩
theorem Made10.t60 {l:List L2} (h:Made10 l):∀ x∈l,x.2.size≤60:=fun x hx=>Nat.le_trans (h.txt x hx) (by omega)
theorem Made10.sz {l:List L2} (h:Made10 l):∀ x∈l,Sz 12 (valX x):=fun x hx=>sz_of_text (h.dst.okV x hx) (k:=12) (by rw [← size_list];exact h.txt x hx)
theorem Made10.of {lss outs:List (List L2)} (h:madeD 6 12 12 lss=some outs):outs.length=lss.length∧∀ d∈outs,Made10 d:=by
 obtain ⟨h1,h2⟩:=madeD_spec h
 refine ⟨h1,fun d hd=>?_⟩
 obtain ⟨h3,h4⟩:=h2 d hd
 obtain ⟨l1,l2⟩:=lightD_iff.1 h3
 exact ⟨l1,fun x hx=>(l2 x hx).1,fun x hx=>(l2 x hx).2,h4⟩
theorem mfactor_text {f:ByteArray} (h:mfactorB f=true):∃ F:Rat,f=rT F∧1≤F∧Sz 12 F∧fits F=true:=by
 obtain ⟨h1,h2,h3⟩:=mfactor_ok h
 have hs:=sz_of_text h2 (k:=12) (by rw [← size_list];exact h1)
 exact ⟨_,(IsT.of h2).1,h3,hs,fits_sz.2 (hs.mono (by unfold maxD;omega))⟩
def momX (p q:List L2) (i:Nat):Rat:=momD (valsD p) (valsD q) (i+1)
theorem mom_at {p q:List L2} (hp:Made10 p) (hq:Made10 q) (hin:inX p q=true) (i:Nat) (hi:i < 7):momV p q ((i:Int)+2)=.tuple #[.string (rT (momX p q i)),.bool true,.int .i64 0]∧Sz 1200 (momX p q i)∧1≤momX p q i:=by
 obtain ⟨r1,r2⟩:=mom10 (n:=i+1) (K:=1200) (by omega) hp.dst hq.dst hp.len hq.len hp.sz hq.sz (by omega) hin
 have e:((i+1+1:Nat):Int)=(i:Int)+2:=by omega
 rw [e] at r1
 refine ⟨r1,r2,mom_one hp.dst.isD hq.dst.isD (fun e he=>?_) (i+1)⟩
 rw [keys_vals]
 obtain ⟨z,hz,rfl⟩:=List.mem_map.1 he
 exact inX_iff.1 hin z hz
theorem momd_all {p q:List L2} {F:Rat} (hp:Made10 p) (hq:Made10 q) (h1:inX p q=true) (h2:inX q p=true) (F1:1≤F) (sF:Sz 12 F) :
  CIs (txt (curM (momX p q) (momX q p))) (curM (momX p q) (momX q p))∧SzC 1200 (curM (momX p q) (momX q p)) ∧
   ∀ i,i < 7→holdsR (rT F) (rT (toM (curM (momX p q) (momX q p)) F i)) p q=.ok true∧fits (toM (curM (momX p q) (momX q p)) F i)=true:=by
 have F0:0≤F:=Rat.le_trans (by decide) F1
 have e7:curM (momX p q) (momX q p) 7=0:=if_pos rfl
 have ei:∀ i,i < 7→curM (momX p q) (momX q p) i=maxQ (momX p q i) (momX q p i):=fun i hi=>if_neg (by omega)
 have hs:SzC 1200 (curM (momX p q) (momX q p)):=fun i hi=>by
  by_cases h:i=7
  ·subst h;rw [e7];exact Sz.zero.mono (by omega)
  ·rw [ei i (by omega)];exact sz_max (mom_at hp hq h1 i (by omega)).2.1 (mom_at hq hp h2 i (by omega)).2.1
 have hc:CIs (txt (curM (momX p q) (momX q p))) (curM (momX p q) (momX q p)):=CIs.mk' hs (by unfold maxD;omega)
  (fun i hi=>by rw [ei i hi];exact Rat.le_trans (mom_at hp hq h1 i hi).2.2 (le_maxQ _ _).1) (by rw [e7];exact Rat.le_refl) (by rw [e7];decide)
 refine ⟨hc,hs,fun i hi=>?_⟩
 have sd:=sz_toM hs sF hi
 have fd:fits (toM (curM (momX p q) (momX q p)) F i)=true:=fits_sz.2 (sd.mono (by unfold maxD;omega))
 have hco:0≤shM i*(pwM F i)⁻¹:=Rat.mul_nonneg (Rat.le_of_lt (shM_pos hi)) (Rat.le_of_lt (Rat.inv_pos.2 (pwM_pos F1 i)))
 have hd:dM (curM (momX p q) (momX q p)) F i=maxQ (momX p q i) (momX q p i)*shM i*(pwM F i)⁻¹:=by
  unfold dM xM lateM
  rw [e7,ei i hi]
  grind
 have a1:=mom_delta hp.dst hq.dst h1 F1 i
 have a2:=mom_delta hq.dst hp.dst h2 F1 i
 have b1:=Rat.mul_le_mul_of_nonneg_right (le_maxQ (momX p q i) (momX q p i)).1 hco
 have b2:=Rat.mul_le_mul_of_nonneg_right (le_maxQ (momX p q i) (momX q p i)).2 hco
 have k1:deltaD (valsD p) (valsD q) F≤dM (curM (momX p q) (momX q p)) F i:=by
  rw [hd]
  change _≤momX p q i*shM i*(pwM F i)⁻¹ at a1
  grind
 have k2:deltaD (valsD q) (valsD p) F≤dM (curM (momX p q) (momX q p)) F i:=by
  rw [hd]
  change _≤momX q p i*shM i*(pwM F i)⁻¹ at a2
  grind
 exact ⟨holdsR_ok (j:=12) hp.dst hq.dst F1 sF (by unfold maxD;omega) (toM_zero hc F1 hi) (toM_top _ _ _) fd (by unfold maxD;omega) (by omega)
  (le_minQ k1 (delta_top hp.dst.isD hq.dst.isD F0)) (le_minQ k2 (delta_top hq.dst.isD hp.dst.isD F0)),fd⟩
def litB (m:Bool) (ln ld l:List UInt8) (q:Rat):Bool :=
 NForm ln&&NForm ld&&decide (dv ld≠0)&&decide ((dv ln).gcd (dv ld)=1)&&(!m || decide (dv ln≠0))&&decide (ln.length≤100)&&decide (ld.length≤100) &&
  decide (mkQ m (dv ln) (dv ld)=q)&&decide ((if m then [45] else [])++ln++(if dv ld=1 then [] else 47::ld)=l)
theorem isT_lit (m:Bool) (ln ld:List UInt8) {l:List UInt8} {q:Rat} (h:litB m ln ld l q=true):IsT ⟨l.toArray⟩ q∧Sz 100 q:=by
 unfold litB at h
 simp only [Bool.and_eq_true,decide_eq_true_eq,Bool.or_eq_true,Bool.not_eq_true'] at h
 obtain ⟨⟨⟨⟨⟨⟨⟨⟨h1,h2⟩,h3⟩,h4⟩,h5⟩,h6⟩,h7⟩,h8⟩,h9⟩:=h
 have e1:=NForm.eq h1
 have e2:=NForm.eq h2
 have hm:m=true→dv ln≠0:=fun hm=>by
  rcases h5 with h5|h5
  ·rw [hm] at h5;cases h5
  ·exact h5
 obtain ⟨p1,p2,p3⟩:=mkQ_low (m:=m) h3 h4
 have hs:Sz 100 q:=by
  rw [← h8,sz_iff (by decide),p1,p2,← Lib.decDigits_length,← Lib.decDigits_length,e1,e2]
  exact ⟨h6,h7⟩
 refine ⟨⟨?_,hs.mono (by decide)⟩,hs⟩
 rw [← h8,text_q h3 h4 hm,e1,e2,h9]
theorem t_3_2:IsT ⟨#[51,47,50]⟩ (3/2):=(isT_lit false [51] [50] (by decide +kernel)).1
section
variable {f:ByteArray} {F:Rat} (w:World)
end
end Go.Proofs.YtigapglmipmbeaaGreatDoor
namespace Go.Proofs.YtigapglmipmbeaaGreatDoor
open Go.RowKit Go.Shelf
open Lim
attribute [local go_sem] Oper.semAt_some
section
variable {f:ByteArray} (w:World)
end
theorem rsubT' {a b c:ByteArray} {p q:Rat} (ha:IsT a p) (hb:IsT b q) (hc:IsT c (p+-q)) (w:World) (hr:Res w) :
  Calls Tryz.prog 61 #[.string a,.string b] w fun e w'=>e=.returned (.tuple #[.string c,.int .i64 0])∧Below w.heap.size w w':=by
 have h:=retRSubX (a:=a) (b:=b) ha.size hb.size w hr
 rw [subX_val ha.err hb.err,ha.val,hb.val,Rat.sub_eq_add_neg,ovT_fit hc.fits,← hc.text] at h
 exact h
end Go.Proofs.YtigapglmipmbeaaGreatDoor
namespace Go.Proofs.YtigapglmipmbeaaGreatDoor
open Go.RowKit Go.Shelf
open Lim
theorem retInvR {a c:ByteArray} {p:Rat} (ha:IsT a p) (h0:p≠0) (hc:IsT c p⁻¹):Ret 60 #[.string a] (.tuple #[.string c,.int .i64 0]):=fun w _=>by
 refine (refInv_ok a w ha.size ha.err (by rw [ha.val];exact h0)).mono ?_
 rintro e w' ⟨rfl,h⟩
 rw [ha.val,out_T hc]
 exact ⟨rfl,h⟩
def pairL (u v:Rat):List L2:=[(⟨#[120]⟩,rT u),(⟨#[121]⟩,rT v)]
section
variable {u v:Rat}
theorem pair_all {P:L2→Prop} (h1:P (⟨#[120]⟩,rT u)) (h2:P (⟨#[121]⟩,rT v)):∀ x∈pairL u v,P x:=fun x hx=>by
 rcases List.mem_cons.1 hx with rfl|hx
 ·exact h1
 ·rcases List.mem_cons.1 hx with rfl|hx
  ·exact h2
  ·cases hx
theorem pair_sz (su:Sz 26 u) (sv:Sz 26 v):∀ x∈pairL u v,Sz 26 (valX x):=by
 refine pair_all ?_ ?_
 ·show Sz 26 (valQ _);rw [val_rT (fits_sz.2 (su.mono (by decide)))];exact su
 ·show Sz 26 (valQ _);rw [val_rT (fits_sz.2 (sv.mono (by decide)))];exact sv
theorem pair_vals (su:Sz 26 u) (sv:Sz 26 v):valsD (pairL u v)=[(⟨#[120]⟩,u),(⟨#[121]⟩,v)]:=by
 show [(_,valQ _),(_,valQ _)]=_
 rw [val_rT (fits_sz.2 (su.mono (by decide))),val_rT (fits_sz.2 (sv.mono (by decide)))]
theorem pair_dst (hu:0 < u) (hv:0 < v) (h1:u+v=1) (su:Sz 26 u) (sv:Sz 26 v):Dst 53 (pairL u v):=by
 have fu:=fits_sz.2 (su.mono (show 26≤maxD by decide))
 have fv:=fits_sz.2 (sv.mono (show 26≤maxD by decide))
 have hl:=denB_lt (f:=valX) (pair_sz su sv)
 refine ⟨chkD_of (pair_all ⟨err_rT fu,by rw [val_rT fu];exact hu⟩ ⟨err_rT fv,by rw [val_rT fv];exact hv⟩) ?_ ?_ (denB_pos _) (Nat.lt_of_lt_of_le hl (pow_le (show 26*2+1≤maxD by decide))) (fun x hx=>denB_has hx),_,denB_pos _,hl,fun x hx=>denB_has hx⟩
 ·show List.Pairwise _ [(⟨#[120]⟩:ByteArray),⟨#[121]⟩]
  decide
 ·rw [pair_vals su sv]
  show u+(v+0)=1
  grind
theorem pair_in (a b:Rat):inX (pairL u v) (pairL a b)=true:=inX_iff.2 (pair_all (by show (⟨#[120]⟩:ByteArray)∈[(⟨#[120]⟩:ByteArray),⟨#[121]⟩];simp) (by show (⟨#[121]⟩:ByteArray)∈[(⟨#[120]⟩:ByteArray),⟨#[121]⟩];simp))
theorem pair_short (su:Sz 26 u) (sv:Sz 26 v):Short (pairL u v)∧∀ x∈pairL u v,x.2.size≤60:=by
 have a:=ratText_le su
 have b:=ratText_le sv
 have a2:(rT u).size≤54:=by rw [size_list];exact a
 have b2:(rT v).size≤54:=by rw [size_list];exact b
 exact ⟨pair_all ⟨show 1≤270000 by decide,Nat.le_trans a2 (by decide)⟩ ⟨show 1≤270000 by decide,Nat.le_trans b2 (by decide)⟩,pair_all (Nat.le_trans a2 (by decide)) (Nat.le_trans b2 (by decide))⟩
theorem pair_mom (hu:0 < u) (hv:0 < v) (h1:u+v=1) (su:Sz 26 u) (sv:Sz 26 v) {n:Nat} (hn:n < 8) :
  momV (pairL u v) (pairL v u) ((n+1:Nat):Int)=.tuple #[.string (rT (momD (valsD (pairL u v)) (valsD (pairL v u)) n)),.bool true,.int .i64 0]∧fits (momD (valsD (pairL u v)) (valsD (pairL v u)) n)=true:=by
 have hp:=pair_dst hu hv h1 su sv
 have hq:=pair_dst hv hu (by grind) sv su
 have hin:=pair_in (u:=u) (v:=v) v u
 have tq:=pair_sz sv su
 obtain ⟨D1,d1,d2,d3⟩:=hp.den
 obtain ⟨D2,e1,e2,e3⟩:=inv_den tq
 have hb:momD (valsD (pairL u v)) (valsD (pairL v u)) n≤((10 ^ 183:Nat):Rat):=by
  refine Rat.le_trans (mom_le hp hq hin tq) (Rat.natCast_le_natCast.2 ?_)
  have h2:(10 ^ 26) ^ n≤(10 ^ 26) ^ 7:=Nat.pow_le_pow_right (by decide) (by omega)
  have h3:=Nat.mul_le_mul (Nat.le_refl 2) h2
  exact Nat.le_trans h3 (by decide)
 have e4:D2 < 10 ^ 53:=e2
 have hroom:=room10 (n:=n) (a:=53) (b:=53) (c:=184) (by omega) d2 e4 (show 10 ^ 183 < 10 ^ 184 from Nat.pow_lt_pow_right (by decide) (by decide)) d1 e1
 have hk:26*(n+1)+1+(26*n+1)≤maxD:=by unfold maxD;omega
 exact momV_fit (k:=26) (M:=10 ^ 183) hp.ok hq.ok hin hn (pair_sz su sv) tq hk d1 e1 d3 e3 (Nat.pow_pos (by decide)) (lt_pow_mono hroom (by decide)) hb
theorem pair_val (su:Sz 26 u) (sv:Sz 26 v) (n:Nat):momD (valsD (pairL u v)) (valsD (pairL v u)) n=u ^ (n+1)*(v ^ n)⁻¹+v ^ (n+1)*(u ^ n)⁻¹:=by
 rw [pair_vals su sv,pair_vals sv su]
 have m1:massD [(⟨#[120]⟩,v),(⟨#[121]⟩,u)] (⟨#[120]⟩:ByteArray)=v:=by
  show (if (⟨#[120]⟩:ByteArray)=⟨#[120]⟩ then v else 0)+((if (⟨#[121]⟩:ByteArray)=⟨#[120]⟩ then u else 0)+0)=v
  rw [if_pos rfl,if_neg (by decide)]
  grind
 have m2:massD [(⟨#[120]⟩,v),(⟨#[121]⟩,u)] (⟨#[121]⟩:ByteArray)=u:=by
  show (if (⟨#[120]⟩:ByteArray)=⟨#[121]⟩ then v else 0)+((if (⟨#[121]⟩:ByteArray)=⟨#[121]⟩ then u else 0)+0)=u
  rw [if_neg (by decide),if_pos rfl]
  grind
 show u ^ (n+1)*(massD [(⟨#[120]⟩,v),(⟨#[121]⟩,u)] (⟨#[120]⟩:ByteArray) ^ n)⁻¹+(v ^ (n+1)*(massD [(⟨#[120]⟩,v),(⟨#[121]⟩,u)] (⟨#[121]⟩:ByteArray) ^ n)⁻¹+0)=_
 rw [m1,m2,Rat.add_zero]
end
def smaQ (F:Rat):Rat:=(F+1)⁻¹
def larQ (F:Rat):Rat:=F*(F+1)⁻¹
section
variable {F:Rat} (F1:1≤F)
include F1
theorem sma_pos:0 < smaQ F:=Rat.inv_pos.2 (by grind)
theorem lar_pos:0 < larQ F:=Rat.mul_pos (by grind) (sma_pos F1)
theorem two_one:larQ F+smaQ F=1:=by
 have:=Rat.mul_inv_cancel (F+1) (by grind)
 unfold larQ smaQ
 generalize (F+1)⁻¹=C at *
 grind
theorem lar_sub:1+-smaQ F=larQ F:=by have:=two_one F1;grind
omit F1 in
theorem sma_sz (sF:Sz 12 F):Sz 26 (smaQ F):=(sz_next sF).inv.mono (by decide)
omit F1 in
theorem lar_sz (sF:Sz 12 F):Sz 26 (larQ F):=(sF.mul (sz_next sF).inv).mono (by decide)
theorem two_pur (n:Nat):larQ F ^ (n+1)*(smaQ F ^ n)⁻¹+smaQ F ^ (n+1)*(larQ F ^ n)⁻¹=purQ F n:=by
 have h0:=sma_pos F1
 have e:larQ F=F*smaQ F:=rfl
 have i1:=Rat.mul_inv_cancel (smaQ F ^ n) (by have:=Rat.pow_pos h0 (n:=n);grind)
 rw [e,mul_pow',mul_pow',inv_mul',Rat.pow_succ (q:=smaQ F)]
 unfold purQ
 rw [show (F+1)⁻¹=smaQ F from rfl]
 generalize smaQ F ^ n=A at *
 generalize A⁻¹=B at *
 generalize F ^ (n+1)=C
 generalize (F ^ n)⁻¹=D
 generalize smaQ F=s at *
 have e1:C*(A*s)*B=C*s*(A*B):=by grind
 have e2:A*s*(D*B)=D*s*(A*B):=by grind
 rw [e1,e2,i1]
 grind
omit F1 in
theorem exa_cur (x:Nat→Rat) (hx:∀ i,x i=purQ F (i+1)):curM x x=ofM F 0:=by
 funext i
 unfold curM ofM
 split
 ·rfl
 ·have:maxQ (x i) (x i)=x i:=by unfold maxQ;split<;>rfl
  rw [this,hx,pur_of]
theorem exa_any (sF:Sz 12 F) (vp vq:Value) (w:World) (hp:LRow w vp (pairL (larQ F) (smaQ F))) (hq:LRow w vq (pairL (smaQ F) (larQ F))) (hr:Res w) :
  Calls Tryz.prog 52 #[vp,vq] w fun e w'=>e=.returned (.tuple #[cv (txt (ofM F 0)),.bool true])∧Below w.heap.size w w':=by
 have su:=lar_sz sF
 have sv:=sma_sz sF
 have hu:=lar_pos F1
 have hv:=sma_pos F1
 have h1:=two_one F1
 have a:=pair_short su sv
 have b:=pair_short sv su
 have e:∀ i:Nat,((i:Nat):Int)+2=((i+1+1:Nat):Int):=fun i=>by omega
 have v1:∀ i:Nat,momD (valsD (pairL (larQ F) (smaQ F))) (valsD (pairL (smaQ F) (larQ F))) (i+1)=purQ F (i+1):=fun i=>by rw [pair_val su sv,two_pur F1]
 have v2:∀ i:Nat,momD (valsD (pairL (smaQ F) (larQ F))) (valsD (pairL (larQ F) (smaQ F))) (i+1)=purQ F (i+1):=fun i=>by rw [pair_val sv su,Rat.add_comm,two_pur F1]
 rw [← exa_cur (fun i=>purQ F (i+1)) fun _=>rfl]
 refine curve10_any (pairL (larQ F) (smaQ F)) (pairL (smaQ F) (larQ F)) vp vq _ _ w hp hq a.1 b.1 a.2 b.2 hr (fun i hi=>?_) fun i hi=>?_
 ·have h:=pair_mom hu hv h1 su sv (n:=i+1) (by omega)
  rw [v1] at h
  rw [e]
  exact h
 ·have h:=pair_mom hv hu (by grind) sv su (n:=i+1) (by omega)
  rw [v2] at h
  rw [e]
  exact h
end
section
variable {p q:List L2}
theorem mass_key (hq:(q.map (·.1)).Nodup) {x:L2} (hx:x∈q):massD (valsD q) x.1=valX x :=
 massD_at (l:=valsD q) (by rw [keys_vals];exact hq) (e:=(x.1,valX x)) (List.mem_map.2 ⟨x,hx,rfl⟩)
theorem most_sz24 (hp:Made10 p) (hq:Made10 q) (hin:inX p q=true):Sz 24 (mostD (valsD p) (valsD q) 0):=by
 refine most_sz (Sz.zero.mono (by decide)) fun e he=>?_
 obtain ⟨x,hx,rfl⟩:=List.mem_map.1 he
 obtain ⟨y,hy,e1⟩:=List.mem_map.1 (inX_iff.1 hin x hx)
 have h1:=mass_key hq.dst.once hy
 rw [e1] at h1
 show Sz 24 (valX x*(massD (valsD q) x.1)⁻¹)
 rw [h1]
 exact Sz.mono ((hp.sz x hx).mul (hq.sz y hy).inv) (Nat.le_of_eq rfl)
theorem fac_is (hp:Made10 p) (hq:Made10 q) (hin:inX p q=true):facV p q=.tuple #[.string (rT (mostD (valsD p) (valsD q) 0)),.bool true,.int .i64 0] :=
 (facV_fit (k:=12) hp.dst.ok hq.dst.ok hp.sz hq.sz (by decide) hin).1
def bothF (p q:List L2):Rat:=maxQ (mostD (valsD p) (valsD q) 0) (mostD (valsD q) (valsD p) 0)
theorem pure_all (hp:Made10 p) (hq:Made10 q) (h1:inX p q=true) (h2:inX q p=true) :
  1≤bothF p q∧Sz 24 (bothF p q)∧CIs (txt (ofM (bothF p q) 0)) (ofM (bothF p q) 0)∧CIs (txt (curM (momX p q) (momX q p))) (curM (momX p q) (momX q p))∧leM (curM (momX p q) (momX q p)) (ofM (bothF p q) 0)=true:=by
 have k1:=in_keys h1
 have k2:=in_keys h2
 have dp:=hp.dst.isD
 have dq:=hq.dst.isD
 have g:=le_maxQ (mostD (valsD p) (valsD q) 0) (mostD (valsD q) (valsD p) 0)
 have R1:1≤bothF p q:=Rat.le_trans (most_one dp dq k1) g.1
 have sR:Sz 24 (bothF p q):=sz_max (most_sz24 hp hq h1) (most_sz24 hq hp h2)
 have n1:=near_of dp dq k1 k2 g.1 g.2
 have n2:=near_of dq dp k2 k1 g.2 g.1
 have b1:∀ i,i < 7→momX p q i≤ofM (bothF p q) 0 i:=fun i hi=>by
  rw [ofM_i _ _ hi,pur_of]
  exact (near_pure dp dq k2 R1 n1 (i+1)).1
 have b2:∀ i,i < 7→momX q p i≤ofM (bothF p q) 0 i:=fun i hi=>by
  rw [ofM_i _ _ hi,pur_of]
  exact (near_pure dq dp k1 R1 n2 (i+1)).1
 have z7:ofM (bothF p q) 0 7=0:=if_pos rfl
 have e7:curM (momX p q) (momX q p) 7=0:=if_pos rfl
 refine ⟨R1,sR,CIs.mk' (sz_ofM (j:=1) sR Sz.zero (by omega)) (by decide) (fun i hi=>Rat.le_trans (mom_at hp hq h1 i hi).2.2 (b1 i hi)) (by rw [z7];exact Rat.le_refl) (by rw [z7];decide),
  (momd_all hp hq h1 h2 (F:=1) Rat.le_refl (Sz.one.mono (by decide))).1,leM_iff.2 fun i hi=>?_⟩
 by_cases h:i=7
 ·subst h;rw [e7,z7];exact Rat.le_refl
 ·rw [show curM (momX p q) (momX q p) i=maxQ (momX p q i) (momX q p i) from if_neg h]
  exact maxQ_le.2 ⟨b1 i (by omega),b2 i (by omega)⟩
end
theorem curve_made {p q:List L2} (hp:Made10 p) (hq:Made10 q):∃ (cq:CT) (b:Bool),(∀ u v (W:World) (_:LRow W u p) (_:LRow W v q) (_:Res W),
  Calls Tryz.prog 52 #[u,v] W fun e w'=>e=.returned (.tuple #[cv cq,.bool b])∧Below W.heap.size W w')∧(b=true→inX p q=true∧inX q p=true∧cq=txt (curM (momX p q) (momX q p))):=by
 by_cases h1:inX p q=true∧inX q p=true
 ·obtain ⟨h1,h2⟩:=h1
  exact ⟨_,true,fun u v W hu hv hr=>curve10_any p q u v (momX p q) (momX q p) W hu hv hp.short hq.short hp.t60 hq.t60 hr
   (fun i hi=>⟨(mom_at hp hq h1 i hi).1,fits_sz.2 ((mom_at hp hq h1 i hi).2.1.mono (by unfold maxD;omega))⟩)
   (fun i hi=>⟨(mom_at hq hp h2 i hi).1,fits_sz.2 ((mom_at hq hp h2 i hi).2.1.mono (by unfold maxD;omega))⟩),fun _=>⟨h1,h2,rfl⟩⟩
 ·refine ⟨startC,false,fun u v W hu hv hr=>?_,fun h=>by cases h⟩
  cases h2:inX p q with
  | false =>
   have e1:=momV_out (n:=2) hp.dst.ok hq.dst.ok (by omega) (by omega) h2
   cases h3:inX q p with
   | false=>exact curve10_no1 p q u v _ _ _ e1 (momV_out (n:=2) hq.dst.ok hp.dst.ok (by omega) (by omega) h3) W hu hv hp.short hq.short hp.t60 hq.t60 hr
   | true=>exact curve10_no1 p q u v _ _ _ e1 (mom_at hq hp h3 0 (by omega)).1 W hu hv hp.short hq.short hp.t60 hq.t60 hr
  | true =>
   have h3:inX q p=false:=by
    cases h3:inX q p with
    | false=>rfl
    | true=>exact absurd ⟨h2,h3⟩ h1
   exact curve10_no2 p q u v _ (mom_at hp hq h2 0 (by omega)).1 (momV_out (n:=2) hq.dst.ok hp.dst.ok (by omega) (by omega) h3) W hu hv hp.short hq.short hp.t60 hq.t60 hr
end Go.Proofs.YtigapglmipmbeaaGreatDoor
namespace Go.Proofs.YtigapglmipmbeaaGreatDoor
open Go.RowKit Go.Shelf
open Lim
attribute [local go_sem] Oper.semAt_some
theorem LRow.src {w:World} {b o n c:Nat} {ls:List L2} (h:LRow w (.slice (some ⟨b,o,none⟩) n c) ls) (h0:0 < ls.length):∀ j u,(cellsM ls)[j]?=some u→w.cell? ((⟨b,o,none⟩:Addr).add j)=some u:=by
 obtain ⟨A,c',e,_,hc⟩:=h
 simp only [Value.slice.injEq] at e
 obtain ⟨b',o',e2,_,hcell⟩:=hc h0
 rw [← e.1] at e2
 simp only [Option.some.injEq,Addr.mk.injEq] at e2
 obtain ⟨rfl,rfl,_⟩:=e2
 intro j u hu
 have hj:j < ls.length*2:=by rw [← cellsM_length];exact (List.getElem?_eq_some_iff.1 hu).1
 obtain ⟨x,hx⟩:∃ x,ls[j / 2]?=some x:=⟨_,List.getElem?_eq_getElem (by omega)⟩
 obtain ⟨c0,c1⟩:=hcell _ _ hx
 obtain ⟨m0,m1⟩:=cellsM_at hx
 rw [addr_add0]
 rcases Nat.mod_two_eq_zero_or_one j with h|h
 ·rw [show j / 2*2=j by omega] at c0 m0
  rw [m0] at hu;cases hu;exact c0
 ·rw [show o+j / 2*2+1=o+j by omega] at c1
  rw [show j / 2*2+1=j by omega] at m1
  rw [m1] at hu;cases hu;exact c1
theorem OwnM.ofPos {base:Nat} {w:World} {v:Value} {ls:List L2} (h:OwnM base w v ls) (h0:0 < ls.length):∃ g c,v=.slice (some ⟨g,0,none⟩) ls.length c∧base≤g:=by
 rcases h.2 with ⟨_,e⟩|⟨g,cap,cur,e,hb,_⟩
 ·omega
 ·exact ⟨g,cap,e,hb⟩
theorem OwnM.len {base g n c:Nat} {w:World} {ls:List L2} (h:OwnM base w (.slice (some ⟨g,0,none⟩) n c) ls):n=ls.length:=by
 rcases h.2 with ⟨h',_⟩|⟨g',cap',cur,h',_⟩
 ·simp at h'
 ·simp only [Value.slice.injEq] at h';exact h'.2.1
theorem cellsM_set1:∀ {l:List L2} {k:Nat} {y:L2} (s:ByteArray),l[k]?=some y→cellsM (l.set k (s,y.2))=(cellsM l).set (k*2) (.string s)
 | [],k,y,s,h=>by simp at h
 | x::l,0,y,s,h=>by
  simp only [List.getElem?_cons_zero,Option.some.injEq] at h
  subst h
  rfl
 | x::l,k+1,y,s,h=>by
  rw [List.set_cons_succ,cellsM_cons,cellsM_cons,cellsM_set1 s (by simpa using h),show (k+1)*2=k*2+1+1 by omega,List.set_cons_succ,List.set_cons_succ]
end Go.Proofs.YtigapglmipmbeaaGreatDoor
namespace Go.Proofs.YtigapglmipmbeaaGreatDoor
open Go.RowKit Go.Shelf
end Go.Proofs.YtigapglmipmbeaaGreatDoor
namespace Go.Proofs.YtigapglmipmbeaaGreatDoor
open Go.RowKit Go.Shelf
open Lim
attribute [local go_sem] Oper.semAt_some
def LaterW.lift {w0:World} (z:LaterW w0) (z':LaterW z.W):LaterW w0:=⟨z'.W,z.h.trans (z'.h.mono z.h.size)⟩
end Go.Proofs.YtigapglmipmbeaaGreatDoor
namespace Go.Proofs.YtigapglmipmbeaaGreatDoor
open Go.RowKit Go.Shelf
open Lim
theorem wpIn_region_wide {F:Fence} {n:Nat} {P:Program} {id:Nat} {Q:Exit→Act→World→Prop} {a:Act} {w0:World} {l:List Oper} (x:LaterW w0) (hro:F.round=none) (hm:P.follows .mixedOrders=true) (hB:Region.lexB .any l.toArray=true)
  (h:wpQuietIn F n P l.toArray (fun W=>∃ x:LaterW w0,W=x.W) (fun a'=>∀ W,(∃ x:LaterW w0,W=x.W)→Q .normal a' W) l a):(Code.region id l.toArray true).wpIn F n P Q a x.W :=
 wpIn_region_quiet (C:=fun W=>∃ x:LaterW w0,W=x.W) hro hm hB ⟨⟨{ x.W with drawn:=x.W.drawn+1 },x.h.trans ⟨rfl,rfl,rfl,Nat.le_refl _,fun _ _=>rfl⟩⟩,rfl⟩ (by simpa using h)
section
variable {fn:Func} {tmps:Array Value} {R:Ending→World→Prop} {b n:Nat} {w:World}
end
end Go.Proofs.YtigapglmipmbeaaGreatDoor
namespace Go.Proofs.YtigapglmipmbeaaGreatDoor
open Go.RowKit Go.Shelf
open Lim
attribute [local go_sem] Oper.semAt_some wide_fn
end Go.Proofs.YtigapglmipmbeaaGreatDoor
namespace Go.Proofs.YtigapglmipmbeaaGreatDoor.RP
open Go.RowKit Go.Shelf Go.Proofs.YtigapglmipmbeaaGreatDoor
def ordPost {α:Type} (I:List α→World→Prop) (Ix:Code→List α→World→Prop) (xs:List α) (W:World):Exit→Act→World→Prop
 | .normal,_,W'=>KeepsOthers W W'∧I xs W'
 | .ret,_,W'=>KeepsOthers W W'∧Ix .ret xs W'
 | .exit id,_,W'=>KeepsOthers W W'∧Ix (.exit id) xs W'
 | .goto t,_,W'=>KeepsOthers W W'∧Ix (.goto t) xs W'
 | .panic _,_,_=>False
 | .outgrown,_,_=>False
def SeqOrd {α:Type} (F:Fence) (n:Nat) (P:Program) (g:Nat) (lb:Array Value) (encs:α→Array Value) (Nx:List α→α→World→Prop) (S:List α→Prop) (G:List α→World→Prop):Prop :=
 ∀ (l:Nat) (J Jx:List α→World→Prop) (W:World),(∀ pre W1,J pre W1→G pre W1)→AbidesFrom W.heap.size J→AbidesFrom W.heap.size Jx →
  (∀ pre x W1,J pre W1→Nx pre x W1→YieldAt F (n - 1) P l (encs x) W1 fun e W'=>(e=.returned (.bool true)∧J (pre++[x]) W')∨(e=.returned (.bool false)∧Jx (pre++[x]) W')) →
  J [] W →
  CallsIn F n P g (#[.func (.yield l) #[] #[]]++lb) W fun e W'=>(∃ v,e=.returned v)∧((∃ xs,S xs∧J xs W')∨(∃ pre x,Jx (pre++[x]) W'))
section
variable {F:Fence} {n:Nat} {P:Program}
def Books (rec:LoopState→Option Code→Loop) (D:Nat) (st:LoopState) (pe:Option Code) (W:World):Prop :=
 W.heap[D+1]?=some (.loop (rec st pe))∧W.heap[D]?=some (.deferred (some []))
theorem Books.abides {rec:LoopState→Option Code→Loop} {D B:Nat} {st:LoopState} {pe:Option Code} {W W':World} {row:Option Nat} (h:Books rec D st pe W) (hg:W.grownBy W' row)
  (hr:∀ r,row=some r→B≤r∧∃ o:Obj,W.heap[r]?=some o∧o.isWalk=true):Books rec D st pe W' :=
 ⟨(grownBy_keeps hg (fun r e=>(hr r e).2) h.1 rfl).trans h.1,(grownBy_keeps hg (fun r e=>(hr r e).2) h.2 rfl).trans h.2⟩
theorem Books.turned {rec:LoopState→Option Code→Loop} {D:Nat} {st:LoopState} {pe:Option Code} {W:World} (h:Books rec D st pe W) (o:Loop) :
  (W.putObj (D+1) (.loop o)).heap[D+1]?=some (.loop o)∧(W.putObj (D+1) (.loop o)).heap[D]?=some (.deferred (some []))∧Turn D W (W.putObj (D+1) (.loop o)) :=
 ⟨World.putObj_heap_same (Array.getElem?_eq_some_iff.1 h.1).1,(World.putObj_heap_other (by omega)).trans h.2,D+1,_,_,by omega,h.1,rfl,rfl⟩
theorem wpIn_range_ord {α:Type} {g:Operand} {ps:Array Tmp} {assign body:Code} {Q:Exit→Act→World→Prop} {a:Act} {w:World}
  (hro:F.round=none) (h1:1≤n) {gf:Nat} {lb:Array Value} (hg:a.eval g=.func (.func gf) #[] lb) (hFg:F.fn gf) (eg:∀ args w,(callFunc gf args).run P w=.ok (.enter gf args) w)
  {encs:α→Array Value} {Nx:List α→α→World→Prop} {S:List α→Prop} {G:List α→World→Prop} (hseq:SeqOrd F (n - 1) P gf lb encs Nx S G) (hps:∀ x,(encs x).size=ps.size)
  (I:List α→World→Prop) (Ix:Code→List α→World→Prop) (hG:∀ pre W,I pre W→G pre W) (hI:OwnFrom w.heap.size I) (hIx:∀ c,OwnFrom w.heap.size (Ix c)) (h0:I [] w)
  (hround:∀ (l:Nat) (pre:List α) (x:α) (W:World) (K:Act→World→Prop),I pre W→Nx pre x W →
   (∀ a' Wa,KeepsOthers W Wa→I pre Wa→(∀ Wb,Turn w.heap.size Wa Wb→I pre Wb→body.wpIn (F.inRound l) (n - 1 - 1) P (ordPost I Ix (pre++[x]) Wb) a' Wb)→K a' Wa) →
   assign.wpIn (F.inRound l) (n - 1 - 1) P (Exit.then K (fun _ _ _=>False)) { tmps:=(ps.zip (encs x)).foldl (fun t (p,v)=>t.setIfInBounds p v) a.tmps,defers:=[] } W)
  (hdone:∀ (D:Nat) (xs:List α) (W:World),w.heap.size≤D→S xs→I xs W→W.heap[D]?=some (.deferred (some []))→Q .normal { a with defers:={ target:=.collected D,args:=#[] }::a.defers } W)
  (hstop:∀ (D:Nat) (c:Code) (pre:List α) (x:α) (W:World),w.heap.size≤D→Ix c (pre++[x]) W→W.heap[D]?=some (.deferred (some []))→c.wpIn F n P Q { a with defers:={ target:=.collected D,args:=#[] }::a.defers } W) :
  (Code.rangeFunc g ps assign body).wpIn F n P Q a w:=by
 refine wpIn_rangeFunc ?_
 intro fn hfn
 rw [hro]
 obtain ⟨rec,hrec⟩:∃ rec:LoopState→Option Code→Loop,rec=fun st pe=>{ state:=st,pending:=pe,fn,tmps:=a.tmps,params:=ps,assign,body,defers:=w.heap.size }:=⟨_,rfl⟩
 obtain ⟨W1,hW1⟩:∃ W1,(w.alloc (.deferred (some []))).alloc (.loop (rec .ready none))=W1:=⟨_,rfl⟩
 have hb1:Books rec w.heap.size .ready none W1:=by
  subst hW1
  refine ⟨?_,(Below.heap_alloc _ _ _ (by simp)).trans (World.alloc_heap_new w _)⟩
  have:=World.alloc_heap_new (w.alloc (.deferred (some []))) (.loop (rec .ready none))
  rwa [World.size_alloc] at this
 have hI1:I [] W1:=by subst hW1;exact hI.alloc _ (hI.alloc _ h0)
 have hsz:w.heap.size≤W1.heap.size:=by subst hW1;simp;omega
 have enters:(Instr.enterLoop fn a.tmps ps assign body none).run P w=.ok (w.heap.size+1,[{ target:=.collected w.heap.size,args:=#[] }]) W1:=by
  rw [← hW1,hrec];exact run_enterLoop_outer _ _ _ _ _
 clear hW1
 have hnw:∀ {A:World} {row:Option Nat},(∀ r,row=some r→W1.heap.size≤r∧∃ o:Obj,A.heap[r]?=some o∧o.isWalk=true)→∀ r,row=some r→w.heap.size≤r∧∃ o:Obj,A.heap[r]?=some o∧o.isCells=false :=
  fun hr r e=>by obtain ⟨hB,o,ho,hw⟩:=hr r e;exact ⟨by omega,o,ho,Obj.not_cells_of_walk hw⟩
 refine ⟨w.heap.size+1,_,W1,{ target:=.fn (.func gf) lb,args:=#[.func (.yield (w.heap.size+1)) #[] #[]] },W1,gf,#[.func (.yield (w.heap.size+1)) #[] #[]]++lb,W1,enters,?_,?_,?_,fun _=>h1,?_⟩
 ·simp only [resolve,hg]
  simp [go_sem]
 ·intro f' hf';simp [Target.leads] at hf';subst hf';exact hFg
 ·simp [invoke,go_sem,eg]
 refine (hseq (w.heap.size+1) (fun pre W=>I pre W∧Books rec w.heap.size .ready none W) (fun pre W=>∃ c,Ix c pre W∧Books rec w.heap.size .done (some c) W) W1
  (fun pre W h=>hG pre W h.1)
  (fun s A A' row hs hg' hr=>⟨hI s A A' row hs.1 hg' (hnw hr),hs.2.abides hg' hr⟩)
  (fun s A A' row hs hg' hr=>by obtain ⟨c,hc,hk⟩:=hs;exact ⟨c,hIx c s A A' row hc hg' (hnw hr),hk.abides hg' hr⟩)
  ?_ ⟨hI1,hb1⟩).mono ?_
 ·rintro pre x W ⟨hi,hk⟩ hnx
  have hy:=run_yield (P:=P) (args:=encs x) hk.1 (by rw [hrec];exact hps x)
  rw [hrec] at hy
  refine ⟨fn,_,assign,body,hy,roundIn_of_wpIn hfn (hround _ pre x W _ hi hnx ?_)⟩
  clear hy
  intro a' Wa hka hia hbody
  have hka':Books rec w.heap.size .ready none Wa:=⟨hka.same _ _ hk.1 rfl,hka.same _ _ hk.2 rfl⟩
  refine ⟨_,run_beginRound hka'.1 (by rw [hrec]),?_⟩
  obtain ⟨t1,t2,t3⟩:=hka'.turned { rec .ready none with state:=.busy }
  refine wpIn_mono (hbody _ t3 (OwnFrom.turn hI hia t3)) ?_
  -- the round's end, by whatever jump
  have fin:∀ (jump:Option Code) (W3:World),KeepsOthers (Wa.putObj (w.heap.size+1) (.loop { rec .ready none with state:=.busy })) W3 →
    ∃ W4,(Instr.endRound (w.heap.size+1) jump).run P W3=.ok (.bool jump.isNone) W4∧Books rec w.heap.size (if jump.isNone then .ready else .done) jump W4∧Turn w.heap.size W3 W4:=by
   intro jump W3 hk3
   have b3:Books (fun _ _=>{ rec .ready none with state:=.busy }) w.heap.size .ready none W3:=⟨hk3.same _ _ t1 rfl,hk3.same _ _ t2 rfl⟩
   obtain ⟨u1,u2,u3⟩:=b3.turned (rec (if jump.isNone then .ready else .done) jump)
   refine ⟨_,?_,⟨u1,u2⟩,u3⟩
   have:=run_endRound (P:=P) jump b3.1
   rw [hrec] at this ⊢
   exact this
  intro e a3 W3 hp
  cases e with
  | normal=>obtain ⟨W4,r1,r2,r3⟩:=fin none W3 hp.1;exact ⟨_,_,r1,.inl ⟨rfl,OwnFrom.turn hI hp.2 r3,r2⟩⟩
  | ret=>obtain ⟨W4,r1,r2,r3⟩:=fin (some .ret) W3 hp.1;exact ⟨_,_,r1,.inr ⟨rfl,.ret,OwnFrom.turn (hIx _) hp.2 r3,r2⟩⟩
  | exit id=>obtain ⟨W4,r1,r2,r3⟩:=fin (some (.exit id)) W3 hp.1;exact ⟨_,_,r1,.inr ⟨rfl,.exit id,OwnFrom.turn (hIx _) hp.2 r3,r2⟩⟩
  | goto t=>obtain ⟨W4,r1,r2,r3⟩:=fin (some (.goto t)) W3 hp.1;exact ⟨_,_,r1,.inr ⟨rfl,.goto t,OwnFrom.turn (hIx _) hp.2 r3,r2⟩⟩
  | panic ch=>exact hp.elim
  | outgrown=>exact hp.elim
 ·rintro e W2 ⟨⟨v,rfl⟩,(⟨xs,hS,hi,hk⟩|⟨pre,x,c,hi,hk⟩)⟩
  ·have hend:=run_endLoop (P:=P) hk.1 (by rw [hrec];simp)
   obtain ⟨t1,t2,t3⟩:=hk.turned { rec .ready none with state:=.exhausted }
   rw [hrec] at hend t2 t3
   exact ⟨none,_,hend,hdone _ xs _ (Nat.le_refl _) hS (OwnFrom.turn hI hi t3) t2⟩
  ·have hend:=run_endLoop (P:=P) hk.1 (by rw [hrec];simp)
   obtain ⟨t1,t2,t3⟩:=hk.turned { rec .done (some c) with state:=.exhausted }
   rw [hrec] at hend t2 t3
   exact ⟨some c,_,hend,hstop _ c pre x _ (Nat.le_refl _) (OwnFrom.turn (hIx c) hi t3) t2⟩
end
end Go.Proofs.YtigapglmipmbeaaGreatDoor.RP
namespace Go.Proofs.YtigapglmipmbeaaGreatDoor
open Go.RowKit Go.Shelf
open Lim
attribute [local go_sem] Oper.semAt_some
end Go.Proofs.YtigapglmipmbeaaGreatDoor
namespace Go.Proofs.YtigapglmipmbeaaGreatDoor
open Go.RowKit
end Go.Proofs.YtigapglmipmbeaaGreatDoor
namespace Go.Proofs.YtigapglmipmbeaaGreatDoor
open Go.RowKit Go.Shelf
open Lim
attribute [local go_sem] Oper.semAt_some
end Go.Proofs.YtigapglmipmbeaaGreatDoor
namespace Go.Proofs.YtigapglmipmbeaaGreatDoor
open Lim
end Go.Proofs.YtigapglmipmbeaaGreatDoor
namespace Go.Proofs.YtigapglmipmbeaaGreatDoor
open Go.RowKit Go.Shelf
open Lim
attribute [local go_sem] Oper.semAt_some
end Go.Proofs.YtigapglmipmbeaaGreatDoor
namespace Go.Proofs.YtigapglmipmbeaaGreatDoor
open Go.RowKit Go.Shelf
open Lim
attribute [local go_sem] Oper.semAt_some wide_fn
theorem share3 {A B C:Type} (P:A→B→C→Prop) {T:Prop} (G:A→B→C→Prop) (main:(∀ a b c,P a b c→G a b c)→T) (rest:∀ a b c,P a b c→G a b c):T:=main rest
end Go.Proofs.YtigapglmipmbeaaGreatDoor
namespace Go.Proofs.YtigapglmipmbeaaGreatDoor
open Go.RowKit Go.Shelf
open Lim
theorem cells8 {W:World} {g:Nat} {t:TypeId} {v0 v1 v2 v3 v4 v5 v6 v7:Value} (h:Blk W g t #[v0,v1,v2,v3,v4,v5,v6,v7]):W.cell? ⟨g,0,none⟩=some v0∧W.cell? ⟨g,1,none⟩=some v1∧W.cell? ⟨g,2,none⟩=some v2∧W.cell? ⟨g,3,none⟩=some v3 ∧
  W.cell? ⟨g,4,none⟩=some v4∧W.cell? ⟨g,5,none⟩=some v5∧W.cell? ⟨g,6,none⟩=some v6∧W.cell? ⟨g,7,none⟩=some v7 :=
 ⟨by rw [Blk.cell h];rfl,by rw [Blk.cell h];rfl,by rw [Blk.cell h];rfl,by rw [Blk.cell h];rfl,by rw [Blk.cell h];rfl,by rw [Blk.cell h];rfl,by rw [Blk.cell h];rfl,by rw [Blk.cell h];rfl⟩
theorem m_2:IsT ⟨#[50]⟩ 2:=(isT_lit false [50] [49] (by decide +kernel)).1
theorem m_3:IsT ⟨#[51]⟩ 3:=(isT_lit false [51] [49] (by decide +kernel)).1
theorem m_114:IsT ⟨#[49,49,47,52]⟩ (11/4):=(isT_lit false [49,49] [52] (by decide +kernel)).1
theorem m_18:IsT ⟨#[49,47,56]⟩ (1/8):=(isT_lit false [49] [56] (by decide +kernel)).1
theorem sz_lit {q:Rat} (h:decide (nm q < 10 ^ 60∧q.den < 10 ^ 60)=true):Sz 120 q :=
 have h2:nm q < 10 ^ 60∧q.den < 10 ^ 60:=of_decide_eq_true h
 Sz.mono (j:=60) h2 (by decide)
theorem of_cis {F L:Rat} (sf:Sz 120 F) (sl:Sz 120 L) (h:((List.range 7).all fun i=>decide (1≤ofM F L i))=true) (h0:0≤L) (h1:L≤1):CIs (txt (ofM F L)) (ofM F L) :=
 CIs.mk' (sz_ofM sf sl (by omega)) (by decide) (fun i hi=>of_decide_eq_true (List.all_eq_true.1 h i (List.mem_range.2 hi))) h0 h1
def twoT:CT:=fun i=>if i=0 then ⟨#[51,47,50]⟩ else if i=1 then ⟨#[49,49,47,52]⟩ else if i=7 then ⟨#[48]⟩ else txt (ofM 2 0) i
theorem two_txt:∀ k,k < 8→txt (ofM 2 0) k=twoT k:=by
 intro k _
 unfold twoT
 split
 ·rename_i h;subst h
  show rT (ofM 2 0 0)=_
  rw [show ofM 2 0 0=3/2 by decide +kernel]
  exact t_3_2.text.symm
 ·split
  ·rename_i h;subst h
   show rT (ofM 2 0 1)=_
   rw [show ofM 2 0 1=11/4 by decide +kernel]
   exact m_114.text.symm
  ·split
   ·rename_i h;subst h
    show rT (ofM 2 0 7)=_
    rw [show ofM 2 0 7=0 by decide +kernel]
    exact IsT.zero.text.symm
   ·rfl
theorem two_cv:cv (txt (ofM 2 0))=.agg #[.string ⟨#[51,47,50]⟩,.string ⟨#[49,49,47,52]⟩,.string (txt (ofM 2 0) 2),.string (txt (ofM 2 0) 3),.string (txt (ofM 2 0) 4),.string (txt (ofM 2 0) 5),.string (txt (ofM 2 0) 6),.string ⟨#[48]⟩]:=by
 have e0:=two_txt 0 (by omega)
 have e1:=two_txt 1 (by omega)
 have e7:=two_txt 7 (by omega)
 unfold cv
 rw [e0,e1,e7]
 rfl
theorem two_of:Ret 62 #[.string ⟨#[50]⟩,.string ⟨#[48]⟩] (.tuple #[.agg #[.string ⟨#[51,47,50]⟩,.string ⟨#[49,49,47,52]⟩,.string (txt (ofM 2 0) 2),.string (txt (ofM 2 0) 3),.string (txt (ofM 2 0) 4),.string (txt (ofM 2 0) 5),.string (txt (ofM 2 0) 6),.string ⟨#[48]⟩],.int .i64 0]):=by
 have h:=mofV m_2 (sz_lit (by decide +kernel)) (by decide +kernel) IsT.zero (sz_lit (by decide +kernel)) (by decide +kernel) (by decide +kernel)
 rwa [two_cv] at h
theorem two_to:Ret 53 #[.agg #[.string ⟨#[51,47,50]⟩,.string ⟨#[49,49,47,52]⟩,.string (txt (ofM 2 0) 2),.string (txt (ofM 2 0) 3),.string (txt (ofM 2 0) 4),.string (txt (ofM 2 0) 5),.string (txt (ofM 2 0) 6),.string ⟨#[48]⟩],.int .i64 2,.string ⟨#[51]⟩] (.tuple #[.agg #[.string ⟨#[51]⟩,.string ⟨#[49,47,56]⟩],.int .i64 0]):=by
 have sm:SzC 100 (ofM 2 0):=fun i hi=>by
  have h:((List.range 8).all fun i=>decide (nm (ofM 2 0 i) < 10 ^ 60∧(ofM 2 0 i).den < 10 ^ 60))=true:=by decide +kernel
  have h2:nm (ofM 2 0 i) < 10 ^ 60∧(ofM 2 0 i).den < 10 ^ 60:=of_decide_eq_true (List.all_eq_true.1 h i (List.mem_range.2 hi))
  exact Sz.mono (j:=60) h2 (by decide)
 have h:=mtoV (of_cis (F:=2) (L:=0) (sz_lit (by decide +kernel)) (sz_lit (by decide +kernel)) (by decide +kernel) (by decide +kernel) (by decide +kernel)) sm (by omega) m_3 (sz_lit (by decide +kernel)) (by decide +kernel) (i:=0) (by omega)
 rw [two_cv,show toM (ofM 2 0) 3 0=1/8 by decide +kernel,← m_18.text] at h
 exact h
theorem mlives_any  (w:World) (hr:Res w) :
  Calls Tryz.prog 49 #[] w fun e w'=>e=.returned (.bool true)∧Below w.heap.size w w':=by
 have D0:=Lib.hid (LW.nil hr)
 clear hr
 have TK0:True:=trivial
 have TK1:True:=trivial
 obtain ⟨t,ht⟩:∃ t,t=txt (ofM 2 0):=⟨_,rfl⟩
 have HO:=Lib.hid two_of
 have HT:=Lib.hid two_to
 rw [← ht] at HO HT
 clear ht
 go_enter Tryz.func49,Tryz.ntmps49
 go_wp2_with ((clear TK0;go_at_call 62;refine (HO.out _ D0.out.res).mono ?_;rintro e w1 ⟨rfl,hb⟩;have D1:=Lib.hid (D0.out.later hb);clear hb))
 go_wp2_with ((clear TK1;go_at_call 53;refine (HT.out _ (D1.out.push (w1.heap.size) 59 #[.string ⟨#[51,47,50]⟩,.string ⟨#[49,49,47,52]⟩,.string (t 2),.string (t 3),.string (t 4),.string (t 5),.string (t 6),.string ⟨#[48]⟩] rfl).res).mono ?_;rintro e w2 ⟨rfl,hb⟩;have D2:=Lib.hid ((D1.out.push (w1.heap.size) 59 #[.string ⟨#[51,47,50]⟩,.string ⟨#[49,49,47,52]⟩,.string (t 2),.string (t 3),.string (t 4),.string (t 5),.string (t 6),.string ⟨#[48]⟩] rfl).later hb);have CA:=D2.out.held _ (.head _);obtain ⟨a0,a1,a2,a3,a4,a5,a6,a7⟩:=cells8 CA;have al:=CA.lt;clear CA;clear hb))
 go_wp2
 go_ret
 exact ⟨rfl,(D2.out.push w2.heap.size 63 #[.string ⟨#[51]⟩,.string ⟨#[49,47,56]⟩] rfl).below⟩
end Go.Proofs.YtigapglmipmbeaaGreatDoor
namespace Go.Proofs.YtigapglmipmbeaaGreatDoor
open Go.RowKit Go.Shelf
open Lim
attribute [local go_sem] Oper.semAt_some wide_fn
theorem eq7_same (X:CT) (w:World):(Op.equalIn 9999 57 (.agg #[.string (X 0),.string (X 1),.string (X 2),.string (X 3),.string (X 4),.string (X 5),.string (X 6)]) (.agg #[.string (X 0),.string (X 1),.string (X 2),.string (X 3),.string (X 4),.string (X 5),.string (X 6)])).run Tryz.prog w=.ok true w:=by
 rw [eq7_in]
 simp
attribute [local go_sem] eq7_same
theorem momentPure_any (a b:List L2) (va vb:Value) (f:ByteArray) (w:World) (ha:LRowW w va a) (hb:LRowW w vb b) (hf:f.size≤maxLen) (hr:Res w) :
  Calls Tryz.prog 7 #[va,vb,.string f] w fun e w'=>e=.returned (.bool true)∧Below w.heap.size w w':=by
 have N0:=Lib.hid (NW.refl hr)
 have HLV:=Lib.hid (fun (w:World) hr=>mlives_any w hr)
 have HMD:=Lib.hid (fun (W:World) (hW:NW w W)=>made10_any [a,b] (.slice (some ⟨W.heap.size,0,none⟩) 2 2) (W.alloc (.cells #[va,vb] 22))
  (LLRow.ofBlk (vs:=[(va,a),(vb,b)]) (Blk.new W 22 #[va,vb]) rfl (by simp) (fun x hx=>by
   have hbw:=below_alloc hW.below (.cells #[va,vb] 22)
   simp only [List.mem_cons,List.not_mem_nil,or_false] at hx
   rcases hx with rfl|rfl
   ·exact ha.below hbw
   ·exact hb.below hbw
  )) (by simp) (hW.alloc _).res rdmake_any)
 obtain ⟨A0,c0,rfl,_,_⟩:=id ha
 obtain ⟨A1,c1,rfl,_,_⟩:=id hb
 clear ha hb hr
 have TK0:True:=trivial
 have TK1:True:=trivial
 cases hm:madeD 6 12 12 [a,b] with
 | none =>
  rw [hm] at HMD
  change Hid (∀ W (_:NW w W),Calls _ _ _ _ fun e w'=>e=.returned (.tuple #[.slice none 0 0,.bool false])∧_) at HMD
  clear hm
  go_enter Tryz.func7,Tryz.ntmps7
  go_wp2_with ((clear TK0;go_at_call 49;refine (HLV.out _ N0.out.res).mono ?_;rintro e w1 ⟨rfl,hb⟩;have N1:=Lib.hid (N0.out.later hb);clear hb))
  go_wp2_with ((clear TK1;go_at_call 50;refine (HMD.out _ N1.out).mono ?_;rintro e w2 ⟨rfl,hb⟩;have N2:=Lib.hid ((N1.out.alloc _).later hb);clear hb))
  go_wp2
  go_ret
  exact ⟨rfl,N2.out.below⟩
 | some outs =>
  obtain ⟨hol,hod⟩:=Made10.of hm
  obtain ⟨l0,l1,rfl⟩:∃ l0 l1,outs=[l0,l1]:=by
   match outs,hol with
   | [x0,x1],_=>exact ⟨x0,x1,rfl⟩
  rw [hm] at HMD
  change Hid (∀ W (_:NW w W),Calls _ _ _ _ fun e w'=>(∃ u,e=.returned (.tuple #[u,.bool true])∧LLRow w' u [l0,l1])∧_) at HMD
  have M0:=hod l0 (by simp)
  have M1:=hod l1 (by simp)
  clear hm hol hod
  have HNF:=Lib.hid (fun (W:World) (_:Res W)=>mfactor_any f W hf)
  have TK2:True:=trivial
  cases hnf:mfactorB f with
  | false =>
   rw [hnf] at HNF
   clear hnf M0 M1
   go_enter Tryz.func7,Tryz.ntmps7
   go_wp2_with ((clear TK0;go_at_call 49;refine (HLV.out _ N0.out.res).mono ?_;rintro e w1 ⟨rfl,hb⟩;have N1:=Lib.hid (N0.out.later hb);clear hb))
   go_wp2_with ((clear TK1;go_at_call 50;refine (HMD.out _ N1.out).mono ?_;rintro e w2 ⟨⟨u,rfl,hl⟩,hb⟩;obtain ⟨bb,cc,rfl,hbb,_,hcell⟩:=hl;have HCL:=Lib.hid (And.intro hbb hcell);have N2:=Lib.hid ((N1.out.alloc _).later hb);clear hb hbb hcell))
   obtain ⟨B0,k0,y0,rr⟩:=LLRow.nth (j:=0) (l:=l0) HCL.out.1 HCL.out.2 rfl
   have R0:=Lib.hid rr
   clear rr
   obtain ⟨B1,k1,y1,rr⟩:=LLRow.nth (j:=1) (l:=l1) HCL.out.1 HCL.out.2 rfl
   have R1:=Lib.hid rr
   clear rr
   have RS:=Lib.hid (fun z:LaterW w2=>N2.out.res.below z.h)
   clear HCL
   go_wp2_with ((clear TK2;go_at_call 51;refine (HNF.out _ (RS.out ⟨w2,Below.refl _ _⟩)).mono ?_;rintro e w9 ⟨rfl,hb9⟩;obtain ⟨z0,rfl⟩:=LaterW.step ⟨w2,Below.refl _ _⟩ hb9;clear hb9))
   go_wp2
   go_ret
   exact ⟨rfl,(N2.out.later z0.h).below⟩
  | true =>
   rw [hnf] at HNF
   obtain ⟨F,rfl,F1,sF,fF⟩:=mfactor_text hnf
   clear hnf
   have HM0:=Lib.hid M0
   have HM1:=Lib.hid M1
   have fN:fits (F+1)=true:=fits_sz.2 ((sz_next sF).mono (by decide))
   have fS:fits (smaQ F)=true:=fits_sz.2 ((sma_sz sF).mono (by decide))
   have fL:fits (larQ F)=true:=fits_sz.2 ((lar_sz sF).mono (by decide))
   have HAD:=Lib.hid (retAdd (isT_rT fF) IsT.one (isT_rT fN))
   have HIV:=Lib.hid (show Ret 60 #[.string (rT (F+1))] (.tuple #[.string (rT (smaQ F)),.int .i64 0]) from retInvR (isT_rT fN) (next_ne F1) (isT_rT fS))
   have HSB:=Lib.hid (fun (W:World) (hr:Res W)=>rsubT' IsT.one (isT_rT fS) (show IsT (rT (larQ F)) (1+-smaQ F) by rw [lar_sub F1];exact isT_rT fL) W hr)
   have HOF:=Lib.hid (mofV (isT_rT fF) (sF.mono (by decide)) F1 IsT.zero (Sz.zero.mono (by decide)) Rat.le_refl (by decide))
   have HEX:=Lib.hid (fun u v (W:World) (hu:LRow W u (pairL (larQ F) (smaQ F))) (hv:LRow W v (pairL (smaQ F) (larQ F))) (hr:Res W)=>exa_any F1 sF u v W hu hv hr)
   obtain ⟨cq,b,hcv,hb⟩:=curve_made M0 M1
   have HCV:=Lib.hid hcv
   have HB:=Lib.hid hb
   clear hcv hb fN fS fL F1 sF fF M0 M1
   generalize txt (ofM F 0)=cF at *
   change Hid (∀ u v W (_:LRow W u [(⟨#[120]⟩,rT (larQ F)),(⟨#[121]⟩,rT (smaQ F))]) (_:LRow W v [(⟨#[120]⟩,rT (smaQ F)),(⟨#[121]⟩,rT (larQ F))]) (_:Res W),Calls _ _ _ _ fun e w'=>e=.returned (.tuple #[.agg #[.string (cF 0),.string (cF 1),.string (cF 2),.string (cF 3),.string (cF 4),.string (cF 5),.string (cF 6),.string (cF 7)],.bool true])∧_) at HEX
   change Hid (∀ W (_:Res W),Calls _ _ _ _ fun e w'=>e=.returned (.tuple #[.agg #[.string (cF 0),.string (cF 1),.string (cF 2),.string (cF 3),.string (cF 4),.string (cF 5),.string (cF 6),.string (cF 7)],.int .i64 0])∧_) at HOF
   change Hid (∀ u v W (_:LRow W u l0) (_:LRow W v l1) (_:Res W),Calls _ _ _ _ fun e w'=>e=.returned (.tuple #[.agg #[.string (cq 0),.string (cq 1),.string (cq 2),.string (cq 3),.string (cq 4),.string (cq 5),.string (cq 6),.string (cq 7)],.bool b])∧_) at HCV
   generalize rT (larQ F)=tL at *
   generalize rT (smaQ F)=tS at *
   generalize rT (F+1)=tN at *
   generalize rT F=tF at *
   refine (callsIn_wide (n:=6)).1 ?_
   have h1:1≤6:=by omega
   have hmx:Tryz.prog.follows .mixedOrders=true:=by kernel_rfl
   refine callsIn_of_wp Tryz.func7 rfl trivial ?_ rfl
   simp only [Tryz.ntmps7,List.size_toArray,List.length_cons,List.length_nil,Nat.reduceAdd,Nat.reduceSub,Array.replicate_succ,Array.replicate_zero,List.push_toArray,List.append_toArray,List.nil_append,List.cons_append]
   gi_wp2_with ((clear TK0;gi_at_call 49;refine (callsIn_wide.2 (HLV.out _ N0.out.res)).mono ?_;rintro e w1 ⟨rfl,hb⟩;have N1:=Lib.hid (N0.out.later hb);clear hb))
   gi_wp2_with ((clear TK1;gi_at_call 50;refine (callsIn_wide.2 (HMD.out _ N1.out)).mono ?_;rintro e w2 ⟨⟨u,rfl,hl⟩,hb⟩;obtain ⟨bb,cc,rfl,hbb,_,hcell⟩:=hl;have HCL:=Lib.hid (And.intro hbb hcell);have N2:=Lib.hid ((N1.out.alloc _).later hb);clear hb hbb hcell))
   obtain ⟨B0,k0,y0,rr⟩:=LLRow.nth (j:=0) (l:=l0) HCL.out.1 HCL.out.2 rfl
   have R0:=Lib.hid rr
   clear rr
   obtain ⟨B1,k1,y1,rr⟩:=LLRow.nth (j:=1) (l:=l1) HCL.out.1 HCL.out.2 rfl
   have R1:=Lib.hid rr
   clear rr
   have RS:=Lib.hid (fun z:LaterW w2=>N2.out.res.below z.h)
   have HBB:=Lib.hid HCL.out.1
   clear HCL
   gi_wp2_with ((clear TK2;gi_at_call 51;refine (callsIn_wide.2 (HNF.out _ (RS.out ⟨w2,Below.refl _ _⟩))).mono ?_;rintro e w9 ⟨rfl,hb9⟩;obtain ⟨z0,rfl⟩:=LaterW.step ⟨w2,Below.refl _ _⟩ hb9;clear hb9))
   gi_wp2_with (gi_at_call 59;refine (callsIn_wide.2 (HAD.out _ (RS.out z0))).mono ?_;rintro e w9 ⟨rfl,hb9⟩;obtain ⟨za,rfl⟩:=LaterW.step z0 hb9;clear hb9)
   gi_wp2_with (gi_at_call 60;refine (callsIn_wide.2 (HIV.out _ (RS.out za))).mono ?_;rintro e w9 ⟨rfl,hb9⟩;obtain ⟨zb,rfl⟩:=LaterW.step za hb9;clear hb9)
   gi_wp2_with (gi_at_call 61;refine (callsIn_wide.2 (HSB.out _ (RS.out zb))).mono ?_;rintro e w9 ⟨rfl,hb9⟩;obtain ⟨zc,rfl⟩:=LaterW.step zb hb9;clear hb9)
   gi_wp2_with (gi_at_call 62;refine (callsIn_wide.2 (HOF.out _ (RS.out zc))).mono ?_;rintro e w9 ⟨rfl,hb9⟩;obtain ⟨zd,rfl⟩:=LaterW.step zc hb9;clear hb9)
   have K5:=CBlk.new zd.W cF
   have b5:=below_alloc (Below.refl zd.W.heap.size zd.W) (.cells #[.string (cF 0),.string (cF 1),.string (cF 2),.string (cF 3),.string (cF 4),.string (cF 5),.string (cF 6),.string (cF 7)] 59)
   have s5:(zd.W.alloc (.cells #[.string (cF 0),.string (cF 1),.string (cF 2),.string (cF 3),.string (cF 4),.string (cF 5),.string (cF 6),.string (cF 7)] 59)).heap.size=zd.W.heap.size+1:=World.size_alloc _ _
   have K6:=Blk.new (zd.W.alloc (.cells #[.string (cF 0),.string (cF 1),.string (cF 2),.string (cF 3),.string (cF 4),.string (cF 5),.string (cF 6),.string (cF 7)] 59)) 30 #[.string ⟨#[120]⟩,.string tL,.string ⟨#[121]⟩,.string tS]
   have b6:=below_alloc b5 (.cells #[.string ⟨#[120]⟩,.string tL,.string ⟨#[121]⟩,.string tS] 30)
   have s6:((zd.W.alloc (.cells #[.string (cF 0),.string (cF 1),.string (cF 2),.string (cF 3),.string (cF 4),.string (cF 5),.string (cF 6),.string (cF 7)] 59)).alloc (.cells #[.string ⟨#[120]⟩,.string tL,.string ⟨#[121]⟩,.string tS] 30)).heap.size=zd.W.heap.size+1+1:=by rw [World.size_alloc,World.size_alloc]
   rw [s5] at K6
   have K7:=Blk.new ((zd.W.alloc (.cells #[.string (cF 0),.string (cF 1),.string (cF 2),.string (cF 3),.string (cF 4),.string (cF 5),.string (cF 6),.string (cF 7)] 59)).alloc (.cells #[.string ⟨#[120]⟩,.string tL,.string ⟨#[121]⟩,.string tS] 30)) 30 #[.string ⟨#[120]⟩,.string tS,.string ⟨#[121]⟩,.string tL]
   have b7:=below_alloc b6 (.cells #[.string ⟨#[120]⟩,.string tS,.string ⟨#[121]⟩,.string tL] 30)
   rw [s6] at K7
   have HU:=Lib.hid (LRow.two (K6.alloc (.cells #[.string ⟨#[120]⟩,.string tS,.string ⟨#[121]⟩,.string tL] 30)))
   have HV:=Lib.hid (LRow.two K7)
   have H5:=Lib.hid ((K5.alloc (.cells #[.string ⟨#[120]⟩,.string tL,.string ⟨#[121]⟩,.string tS] 30)).alloc (.cells #[.string ⟨#[120]⟩,.string tS,.string ⟨#[121]⟩,.string tL] 30))
   obtain ⟨ze,hze⟩:=LaterW.step zd b7
   have HZE:=Lib.hid hze
   rw [hze] at H5
   clear K5 K6 K7 b5 b6 b7 s5 s6 hze
   gi_wp2_with (gi_at_call 52;refine (callsIn_wide.2 (HEX.out _ _ _ HU.out HV.out (by rw [HZE.out];exact RS.out ze))).mono ?_;rintro e w9 ⟨rfl,hb9⟩;rw [HZE.out] at hb9;obtain ⟨zf,rfl⟩:=LaterW.step ze hb9;have H5:=Lib.hid (H5.out.later hb9);clear hb9 HU HV HZE;obtain ⟨c0,c1,c2,c3,c4,c5,c6,c7⟩:=H5.out.cells;have cl:=H5.out.lt)
   gi_wp2
   have b8:=below_alloc (Below.refl zf.W.heap.size zf.W) (.cells #[.string (cF 0),.string (cF 1),.string (cF 2),.string (cF 3),.string (cF 4),.string (cF 5),.string (cF 6),.string (cF 7)] 59)
   obtain ⟨zg,hzg⟩:=LaterW.step zf b8
   rw [hzg]
   clear b8 hzg c0 c1 c2 c3 c4 c5 c6 c7 cl H5 HEX HOF HAD HIV HSB
   have V0:∀ x:SameAt zg.W (fun k=>k < zg.W.heap.size),x.W.cell? ⟨bb,0,none⟩=some (.slice B0 l0.length k0):=fun x=>x.cell (Nat.lt_of_lt_of_le HBB.out zg.h.size) (y0 zg)
   have V1:∀ x:SameAt zg.W (fun k=>k < zg.W.heap.size),x.W.cell? ⟨bb,1,none⟩=some (.slice B1 l1.length k1):=fun x=>x.cell (Nat.lt_of_lt_of_le HBB.out zg.h.size) (y1 zg)
   refine wpIn_stage (IsSame zg.W (fun k=>k < zg.W.heap.size)) [0,1,2,3,4,5,7,8,9] [] hmx (by kernel_rfl) (isSame_of fun _ _=>rfl) ?_
   change wpStage _ _ _ _ _ _ _ _ (7+6) _ _ _
   refine stage_reads [0,1,2,3,4,5] 7 _ _ (by kernel_rfl) ?_
   change wpQuietIn _ _ _ _ (fun W'=>∃ x:SameAt zg.W (fun k=>k < zg.W.heap.size),W'=x.W) _ _ _
   simp only [pick_cons,pick_nil,List.getElem?_cons_zero,List.getElem?_cons_succ,Option.elim_some]
   repeat (gi_big_quiet_step (fail))
   refine wpQuietIn_nil ?_
   clear V0 V1
   obtain ⟨zd,hzd⟩:=LaterW.step zg (below_drewM zg.W)
   have HS:=Lib.hid (below_drewM zg.W)
   rw [hzd] at HS ⊢
   clear hzd
   apply share3 (fun (bx:Nat) (z:LaterW w2) (_:Nat)=>Below zg.W.heap.size zg.W z.W∧zg.W.heap.size≤bx∧CBlk z.W bx cq)
   case main =>
    intro SH
    refine stage_two 6 10 (by kernel_rfl) rfl rfl ?_ ?_
    ·skip
     gi_wp2_with (gi_at_call 52;refine (callsIn_wide.2 (HCV.out _ _ _ ((R0.out _).row (Nat.le_trans HM0.out.len (by omega))) ((R1.out _).row (Nat.le_trans HM1.out.len (by omega))) (RS.out zd))).mono ?_;rintro e w9 ⟨rfl,hb9⟩;have HS:=Lib.hid (HS.out.trans (hb9.mono HS.out.size));obtain ⟨zd,rfl⟩:=LaterW.step zd hb9;clear hb9)
     refine stage_post (isSame_below HS.out (fun k hk=>hk)) ?_
     change wpStage _ _ _ _ _ _ _ _ (3+3) _ _ _
     refine stage_reads [7,8,9] 3 _ _ (by kernel_rfl) ?_
     change wpQuietIn _ _ _ _ (fun W'=>∃ x:SameAt zg.W (fun k=>k < zg.W.heap.size),W'=x.W) _ _ _
     simp only [pick_cons,pick_nil,List.getElem?_cons_zero,List.getElem?_cons_succ,Option.elim_some]
     repeat (gi_big_quiet_step (fail))
     refine wpQuietIn_nil ?_
     refine stage_one 10 (by kernel_rfl) rfl ?_
     gi_wp2
     have hb9:=below_alloc (Below.refl zd.W.heap.size zd.W) (.cells #[.string ⟨#[]⟩,.string ⟨#[]⟩,.string ⟨#[]⟩,.string ⟨#[]⟩,.string ⟨#[]⟩,.string ⟨#[]⟩,.string ⟨#[]⟩,.string ⟨#[]⟩] 59)
     have KB:=(show CBlk (zd.W.alloc (.cells #[.string ⟨#[]⟩,.string ⟨#[]⟩,.string ⟨#[]⟩,.string ⟨#[]⟩,.string ⟨#[]⟩,.string ⟨#[]⟩,.string ⟨#[]⟩,.string ⟨#[]⟩] 59)) zd.W.heap.size zC from Blk.new zd.W 59 #[.string ⟨#[]⟩,.string ⟨#[]⟩,.string ⟨#[]⟩,.string ⟨#[]⟩,.string ⟨#[]⟩,.string ⟨#[]⟩,.string ⟨#[]⟩,.string ⟨#[]⟩])
     have lo:=HS.out.size
     have HS:=Lib.hid (HS.out.trans (hb9.mono HS.out.size))
     obtain ⟨ze,hze⟩:=LaterW.step zd hb9
     rw [hze] at KB HS ⊢
     have KB:=Lib.hid KB
     clear hb9 hze
     generalize zd.W.heap.size=bx at *
     obtain ⟨zd,rfl⟩:∃ x,x=ze:=⟨_,rfl⟩
     refine stage_post (isSame_below HS.out (fun k hk=>hk)) ?_
     obtain ⟨c0,c1,c2,c3,c4,c5,c6,c7⟩:=KB.out.cells
     obtain ⟨g0,g1,g2,g3,g4,g5,g6,g7⟩:=KB.out.frozens
     refine stage_one 11 (by kernel_rfl) rfl ?_
     gi_wp2
     have KQ:CBlk ((((((((zd.W.setCell ⟨bx,0,none⟩ (.string (cq 0))).setCell ⟨bx,1,none⟩ (.string (cq 1))).setCell ⟨bx,2,none⟩ (.string (cq 2))).setCell ⟨bx,3,none⟩ (.string (cq 3))).setCell ⟨bx,4,none⟩ (.string (cq 4))).setCell ⟨bx,5,none⟩ (.string (cq 5))).setCell ⟨bx,6,none⟩ (.string (cq 6))).setCell ⟨bx,7,none⟩ (.string (cq 7))) bx cq:=fin8_blk cq KB.out
     have HS:Below zg.W.heap.size zg.W ((((((((zd.W.setCell ⟨bx,0,none⟩ (.string (cq 0))).setCell ⟨bx,1,none⟩ (.string (cq 1))).setCell ⟨bx,2,none⟩ (.string (cq 2))).setCell ⟨bx,3,none⟩ (.string (cq 3))).setCell ⟨bx,4,none⟩ (.string (cq 4))).setCell ⟨bx,5,none⟩ (.string (cq 5))).setCell ⟨bx,6,none⟩ (.string (cq 6))).setCell ⟨bx,7,none⟩ (.string (cq 7))):=fin8_below HS.out lo cq
     refine stage_post (isSame_below HS (fun k hk=>hk)) ?_
     refine stage_one 12 (by kernel_rfl) rfl ?_
     gi_wp2
     refine stage_post (isSame_below HS (fun k hk=>hk)) ?_
     refine stage_done (by kernel_rfl) ?_
     obtain ⟨z5,hz5⟩:=LaterW.step zg HS
     rw [hz5] at KQ HS ⊢
     obtain ⟨dd⟩:Nonempty Nat:=⟨0⟩
     exact SH _ _ dd ⟨HS,lo,KQ⟩
    ·skip
     gi_wp2
     have hb9:=below_alloc (Below.refl zd.W.heap.size zd.W) (.cells #[.string ⟨#[]⟩,.string ⟨#[]⟩,.string ⟨#[]⟩,.string ⟨#[]⟩,.string ⟨#[]⟩,.string ⟨#[]⟩,.string ⟨#[]⟩,.string ⟨#[]⟩] 59)
     have KB:=(show CBlk (zd.W.alloc (.cells #[.string ⟨#[]⟩,.string ⟨#[]⟩,.string ⟨#[]⟩,.string ⟨#[]⟩,.string ⟨#[]⟩,.string ⟨#[]⟩,.string ⟨#[]⟩,.string ⟨#[]⟩] 59)) zd.W.heap.size zC from Blk.new zd.W 59 #[.string ⟨#[]⟩,.string ⟨#[]⟩,.string ⟨#[]⟩,.string ⟨#[]⟩,.string ⟨#[]⟩,.string ⟨#[]⟩,.string ⟨#[]⟩,.string ⟨#[]⟩])
     have lo:=HS.out.size
     have HS:=Lib.hid (HS.out.trans (hb9.mono HS.out.size))
     obtain ⟨ze,hze⟩:=LaterW.step zd hb9
     rw [hze] at KB HS ⊢
     have KB:=Lib.hid KB
     clear hb9 hze
     generalize zd.W.heap.size=bx at *
     obtain ⟨zd,rfl⟩:∃ x,x=ze:=⟨_,rfl⟩
     refine stage_post (isSame_below HS.out (fun k hk=>hk)) ?_
     refine stage_one 6 (by kernel_rfl) rfl ?_
     gi_wp2_with (gi_at_call 52;refine (callsIn_wide.2 (HCV.out _ _ _ ((R0.out _).row (Nat.le_trans HM0.out.len (by omega))) ((R1.out _).row (Nat.le_trans HM1.out.len (by omega))) (RS.out zd))).mono ?_;rintro e w9 ⟨rfl,hb9⟩;have HS:=Lib.hid (HS.out.trans (hb9.mono HS.out.size));have KB:=Lib.hid (KB.out.later hb9);obtain ⟨zd,rfl⟩:=LaterW.step zd hb9;clear hb9)
     refine stage_post (isSame_below HS.out (fun k hk=>hk)) ?_
     change wpStage _ _ _ _ _ _ _ _ (2+3) _ _ _
     refine stage_reads [7,8,9] 2 _ _ (by kernel_rfl) ?_
     change wpQuietIn _ _ _ _ (fun W'=>∃ x:SameAt zg.W (fun k=>k < zg.W.heap.size),W'=x.W) _ _ _
     simp only [pick_cons,pick_nil,List.getElem?_cons_zero,List.getElem?_cons_succ,Option.elim_some]
     repeat (gi_big_quiet_step (fail))
     refine wpQuietIn_nil ?_
     obtain ⟨c0,c1,c2,c3,c4,c5,c6,c7⟩:=KB.out.cells
     obtain ⟨g0,g1,g2,g3,g4,g5,g6,g7⟩:=KB.out.frozens
     refine stage_one 11 (by kernel_rfl) rfl ?_
     gi_wp2
     have KQ:CBlk ((((((((zd.W.setCell ⟨bx,0,none⟩ (.string (cq 0))).setCell ⟨bx,1,none⟩ (.string (cq 1))).setCell ⟨bx,2,none⟩ (.string (cq 2))).setCell ⟨bx,3,none⟩ (.string (cq 3))).setCell ⟨bx,4,none⟩ (.string (cq 4))).setCell ⟨bx,5,none⟩ (.string (cq 5))).setCell ⟨bx,6,none⟩ (.string (cq 6))).setCell ⟨bx,7,none⟩ (.string (cq 7))) bx cq:=fin8_blk cq KB.out
     have HS:Below zg.W.heap.size zg.W ((((((((zd.W.setCell ⟨bx,0,none⟩ (.string (cq 0))).setCell ⟨bx,1,none⟩ (.string (cq 1))).setCell ⟨bx,2,none⟩ (.string (cq 2))).setCell ⟨bx,3,none⟩ (.string (cq 3))).setCell ⟨bx,4,none⟩ (.string (cq 4))).setCell ⟨bx,5,none⟩ (.string (cq 5))).setCell ⟨bx,6,none⟩ (.string (cq 6))).setCell ⟨bx,7,none⟩ (.string (cq 7))):=fin8_below HS.out lo cq
     refine stage_post (isSame_below HS (fun k hk=>hk)) ?_
     refine stage_one 12 (by kernel_rfl) rfl ?_
     gi_wp2
     refine stage_post (isSame_below HS (fun k hk=>hk)) ?_
     refine stage_done (by kernel_rfl) ?_
     obtain ⟨z5,hz5⟩:=LaterW.step zg HS
     rw [hz5] at KQ HS ⊢
     obtain ⟨dd⟩:Nonempty Nat:=⟨0⟩
     exact SH _ _ dd ⟨HS,lo,KQ⟩
   case rest =>
    rintro bx z5 _ ⟨HS,lo,KQ⟩
    clear HS lo
    have KQ:=Lib.hid KQ
    cases b with
    | false =>
     gi_wp2
     refine bodyPost_ret (results_tmp rfl _ _ _) rfl ?_
     exact ⟨rfl,(N2.out.later z5.h).below⟩
    | true =>
     obtain ⟨h1,h2,hq⟩:=HB.out rfl
     obtain ⟨R1,sR,ciR,ciC,hle⟩:=pure_all HM0.out HM1.out h1 h2
     have HFA:=Lib.hid (fun u v (W:World) (hu:LRow W u l0) (hv:LRow W v l1) (hr:Res W)=>rdfactor_any l0 l1 u v W hu hv HM0.out.short HM1.out.short hr)
     have HFB:=Lib.hid (fun u v (W:World) (hu:LRow W u l1) (hv:LRow W v l0) (hr:Res W)=>rdfactor_any l1 l0 u v W hu hv HM1.out.short HM0.out.short hr)
     rw [fac_is HM0.out HM1.out h1] at HFA
     rw [fac_is HM1.out HM0.out h2] at HFB
     have HMX:=Lib.hid (fun (W:World)=>rmaxT W (isT_rT (fits_sz.2 ((most_sz24 HM0.out HM1.out h1).mono (by decide)))) (isT_rT (fits_sz.2 ((most_sz24 HM1.out HM0.out h2).mono (by decide)))))
     change Hid (∀ W,Calls _ _ _ _ fun e w'=>e=.returned (.tuple #[.string (rT (bothF l0 l1)),.int .i64 0])∧_) at HMX
     have HOR:=Lib.hid (mofV (isT_rT (fits_sz.2 (sR.mono (show 24≤maxD by decide)))) (sR.mono (by decide)) R1 IsT.zero (Sz.zero.mono (by decide)) Rat.le_refl (by decide))
     have HFT:=Lib.hid (mfitsV ciC ciR)
     rw [hle,← hq] at HFT
     generalize txt (ofM (bothF l0 l1) 0)=cR at *
     change Hid (∀ W (_:Res W),Calls _ _ _ _ fun e w'=>e=.returned (.tuple #[.agg #[.string (cR 0),.string (cR 1),.string (cR 2),.string (cR 3),.string (cR 4),.string (cR 5),.string (cR 6),.string (cR 7)],.int .i64 0])∧_) at HOR
     change Hid (∀ W (_:Res W),Calls _ _ #[.agg #[.string (cq 0),.string (cq 1),.string (cq 2),.string (cq 3),.string (cq 4),.string (cq 5),.string (cq 6),.string (cq 7)],.agg #[.string (cR 0),.string (cR 1),.string (cR 2),.string (cR 3),.string (cR 4),.string (cR 5),.string (cR 6),.string (cR 7)]] _ fun e w'=>e=.returned (.tuple #[.bool true,.int .i64 0])∧_) at HFT
     generalize rT (bothF l0 l1)=tR at *
     generalize rT (mostD (valsD l0) (valsD l1) 0)=tX at *
     generalize rT (mostD (valsD l1) (valsD l0) 0)=tY at *
     clear h1 h2 hq R1 sR ciR ciC hle HCV HB
     gi_wp2
     have v0:∀ x:LaterW z5.W,x.W.cell? ⟨bb,0,none⟩=some (.slice B0 l0.length k0):=fun x=>y0 (z5.lift x)
     have v1:∀ x:LaterW z5.W,x.W.cell? ⟨bb,1,none⟩=some (.slice B1 l1.length k1):=fun x=>y1 (z5.lift x)
     refine wpIn_region_wide (w0:=z5.W) ⟨z5.W,Below.refl _ _⟩ rfl hmx (by kernel_rfl) ?_
     repeat (gi_big_quiet_step (fail))
     gi_big_quiet_step ((gi_at_call 63;refine (callsIn_wide.2 (HFA.out _ _ _ ((R0.out (z5.lift _)).row (Nat.le_trans HM0.out.len (by omega))) ((R1.out (z5.lift _)).row (Nat.le_trans HM1.out.len (by omega))) (RS.out (z5.lift _)))).mono ?_;rintro e w99 ⟨rfl,hb9⟩;exact ⟨rfl,⟨⟨w99,(LaterW.h _).trans (hb9.mono (LaterW.h _).size)⟩,rfl⟩⟩))
     repeat (gi_big_quiet_step (fail))
     refine wpQuietIn_nil ?_
     rintro _ ⟨zz,rfl⟩
     clear v0 v1
     have KQ:=Lib.hid (KQ.out.later zz.h)
     obtain ⟨z6,hzn⟩:∃ x:LaterW w2,zz.W=x.W:=⟨z5.lift zz,rfl⟩
     rw [hzn] at KQ ⊢
     clear hzn zz
     gi_wp2
     have v0:∀ x:LaterW z6.W,x.W.cell? ⟨bb,0,none⟩=some (.slice B0 l0.length k0):=fun x=>y0 (z6.lift x)
     have v1:∀ x:LaterW z6.W,x.W.cell? ⟨bb,1,none⟩=some (.slice B1 l1.length k1):=fun x=>y1 (z6.lift x)
     refine wpIn_region_wide (w0:=z6.W) ⟨z6.W,Below.refl _ _⟩ rfl hmx (by kernel_rfl) ?_
     repeat (gi_big_quiet_step (fail))
     gi_big_quiet_step ((gi_at_call 63;refine (callsIn_wide.2 (HFB.out _ _ _ ((R1.out (z6.lift _)).row (Nat.le_trans HM1.out.len (by omega))) ((R0.out (z6.lift _)).row (Nat.le_trans HM0.out.len (by omega))) (RS.out (z6.lift _)))).mono ?_;rintro e w99 ⟨rfl,hb9⟩;exact ⟨rfl,⟨⟨w99,(LaterW.h _).trans (hb9.mono (LaterW.h _).size)⟩,rfl⟩⟩))
     repeat (gi_big_quiet_step (fail))
     refine wpQuietIn_nil ?_
     rintro _ ⟨zz,rfl⟩
     clear v0 v1
     have KQ:=Lib.hid (KQ.out.later zz.h)
     obtain ⟨z7,hzn⟩:∃ x:LaterW w2,zz.W=x.W:=⟨z6.lift zz,rfl⟩
     rw [hzn] at KQ ⊢
     clear hzn zz
     gi_wp2_with (gi_at_call 57;refine (callsIn_wide.2 (HMX.out _)).mono ?_;rintro e w9 ⟨rfl,hb9⟩;obtain ⟨z8,rfl⟩:=LaterW.step z7 hb9;have KQ:=Lib.hid (KQ.out.later hb9);clear hb9)
     gi_wp2_with (gi_at_call 62;refine (callsIn_wide.2 (HOR.out _ (RS.out z8))).mono ?_;rintro e w9 ⟨rfl,hb9⟩;obtain ⟨z9,rfl⟩:=LaterW.step z8 hb9;have KQ:=Lib.hid (KQ.out.later hb9);obtain ⟨d0,d1,d2,d3,d4,d5,d6,d7⟩:=KQ.out.cells;have dl:=KQ.out.lt;clear hb9)
     have HBX:=Lib.hid (below_alloc (Below.refl z9.W.heap.size z9.W) (.cells #[.string (cR 0),.string (cR 1),.string (cR 2),.string (cR 3),.string (cR 4),.string (cR 5),.string (cR 6),.string (cR 7)] 59))
     gi_wp2_with (gi_at_call 64;refine (callsIn_wide.2 (HFT.out _ ((RS.out z9).below HBX.out))).mono ?_;rintro e w9 ⟨rfl,hb9⟩;obtain ⟨zb,rfl⟩:=LaterW.step z9 (HBX.out.trans (hb9.mono HBX.out.size));clear hb9 HBX d0 d1 d2 d3 d4 d5 d6 d7)
     gi_wp2
     refine bodyPost_ret (results_tmp rfl _ _ _) rfl ?_
     exact ⟨rfl,(N2.out.later zb.h).below⟩
end Go.Proofs.YtigapglmipmbeaaGreatDoor
namespace Go.Proofs.YtigapglmipmbeaaGreatDoor
open Go.ChangeShapes Go.WideShapes Go.ChangeAt Go.RowKit
section
variable {H:Type} {enc:TypeId × Value→H}
end
end Go.Proofs.YtigapglmipmbeaaGreatDoor
