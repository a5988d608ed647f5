/- dist: Delta, Distance, Factor, Moment (printed by mkmeas.py). dist: Make. Same of the program's dist and of the reference 08; kit.Same of masses. law 08: half, thirds and the examples that each statement asks first (printed by mkdlives.py). Owned slices beside each other: what an append to one leaves of the other. Inserting at a place: what the reference's collect does. No program in sight. What Make, Mix, Push and Product give, as rationals. No program in sight. Distributions with a common denominator of few digits: Make, Mix, Push and Product keep them. No program in sight. What a law makes of its lists. No program in sight. law 08: light (printed by mkdlight.py). made, as a walk (printed by mkdmade.py). A region that draws its order and only reads and calls what lays blocks of its own: one walk. Appending a slice that is read to a slice of the call's own; what the reference's collect keeps. dist: slices.Clone of masses, scaled (printed by mkdprog.py). -/
import Derived.Test.YtigapglmipmbeaaGreatDoorLwDistNames09
import Derived.Test.YtigapglmipmbeaaGreatDoorLwDistNames08
import Derived.Test.YtigapglmipmbeaaGreatDoorLwDistNames01
import Derived.BigQuiet
import Derived.Below
import Derived.OwnWalkIn
import Derived.Sort.BigQuietIn
import Derived.Sort.QuietIn
set_option maxRecDepth 100000
set_option maxHeartbeats 16000000
namespace Go.Proofs.YtigapglmipmbeaaGreatDoor
open Go.RowKit Go.Shelf
open Lim
attribute [local go_sem] Oper.semAt_some
theorem nw_num {w:World} {g:Nat} {t:TypeId} {u:Value} (h:Blk w g t #[u]):∀ W,NW w W→W.cell? ⟨g,0,none⟩=some u∧g < W.heap.size:=fun W hW=>by
 have h2:=h.below hW.below h.lt
 exact ⟨by rw [h2.cell];rfl,h2.lt⟩
theorem nw_mass {w:World} {g:Nat} {t:TypeId} {u v:Value} (h:Blk w g t #[u,v]):∀ W,NW w W→W.cell? ⟨g,0,none⟩=some u∧W.cell? ⟨g,1,none⟩=some v∧g < W.heap.size:=fun W hW=>by
 have h2:=h.below hW.below h.lt
 exact ⟨(cells2 h2).1,(cells2 h2).2,h2.lt⟩
theorem zT_small:zT.size≤270000:=by decide
theorem oT_small:oT.size≤270000:=by decide
theorem Short.atT {k:ByteArray}:∀ {ls:List L2},Short ls→(atT ls k).size≤270000
 | [],_=>zT_small
 | x::l,h=>by
  unfold Go.Proofs.YtigapglmipmbeaaGreatDoor.atT
  split
  ·exact (h x (by simp)).2
  ·exact Short.atT fun y hy=>h y (by simp [hy])
theorem NW.trans {w W W':World} (h:NW w W) (h':NW W W'):NW w W':=⟨h.below.trans (h'.below.mono h.below.size),h'.res⟩
theorem chk2_both {a b:List L2} (h:chk2 a b=0):chkD a=0∧chkD b=0:=by
 unfold chk2 at h
 split at h
 ·rename_i h1;exact absurd h h1
 ·rename_i h1;exact ⟨Classical.byContradiction h1,h⟩
theorem resX_tup (r:XE):∃ c0 c1,resX r=.tuple #[.string c0,.int .i64 c1]:=by
 cases r
 ·exact ⟨_,_,rfl⟩
 ·exact ⟨_,_,rfl⟩
theorem delta1_any (x:L2) (k:Int) (gq gf:Nat) (q:List L2) (vq:Value) (f:ByteArray) (w:World) (hgq:Blk w gq 31 #[vq]) (hgf:Blk w gf 23 #[.string f]) (hv:LRow w vq q) (hasc:AscK q) (hsq:Short q) (hf:f.size≤270000) (hx:x.2.size≤270000) (hr:Res w) :
  Calls Tryz.prog 128 #[.int .i64 k,.agg #[.string x.1,.string x.2],.pointer (some ⟨gq,0,none⟩),.pointer (some ⟨gf,0,none⟩)] w fun e w'=>e=.returned (resX (partX f q x))∧Below w.heap.size w w':=by
 have HX:=Lib.hid (show NW w (w.alloc (.cells #[.string x.1,.string x.2] 30)) from (NW.refl hr).alloc _)
 have K0:Blk (w.alloc (.cells #[.string x.1,.string x.2] 30)) (w.heap.size) 30 #[.string x.1,.string x.2]:=by
  have:=Blk.new w 30 #[.string x.1,.string x.2]
  exact this
 have N0:=Lib.hid (NW.refl HX.out.res)
 have HF:=Lib.hid (dfind_any q vq x.1 _ (hv.below HX.out.below) hasc)
 have HM:=Lib.hid (nw_mass K0)
 have HO:=Lib.hid (hsq.atT (k:=x.1))
 have HG:=Lib.hid (nw_num (hgf.below HX.out.below hgf.lt))
 have x0:=(nw_num (hgq.below HX.out.below hgq.lt) _ N0.out).1
 have xl:=(nw_num (hgq.below HX.out.below hgq.lt) _ N0.out).2
 have HPX:=Lib.hid (show ∀ r,partX f q x=r→resX (partX f q x)=resX r from fun r h=>by rw [h])
 have HML:=Lib.hid (retMulX hf HO.out)
 have HXS:=Lib.hid hx
 obtain ⟨A',c',rfl,_,_⟩:=id hv
 obtain ⟨y,d⟩:=x
 dsimp only at HX HF HM HO x0 xl HML HXS N0
 clear hv hgq hgf hr hasc hsq hf hx K0
 cases hm:mulX f (atT q y) with
 | error n =>
  have HR:=Lib.hid (HPX.out (.error n) (by unfold partX;dsimp only;rw [hm]))
  have hz:=ne_zero (exQ_err hm)
  rw [hm] at HML
  change Hid (Ret _ _ (.tuple #[.string ⟨#[]⟩,.int .i64 (n:Int)])) at HML
  clear hm
  go_enter Tryz.func128,Tryz.ntmps128
  go_wp2_with (first
   | (go_at_call 129;refine (HF.out).mono ?_;rintro e w1 ⟨rfl,hb⟩;have N1:=Lib.hid (N0.out.later hb);clear hb;obtain ⟨g0,gl⟩:=HG.out _ N1.out)
   | (go_at_call 130;refine (HML.out _ N1.out.res).mono ?_;rintro e w2 ⟨rfl,hb⟩;have N2:=Lib.hid (N1.out.later hb);clear hb;obtain ⟨m0,m1,ml⟩:=HM.out _ N2.out))
  go_ret2
  rw [HR.out]
  exact ⟨rfl,HX.out.below.trans (N2.out.below.mono HX.out.below.size)⟩
 | ok s =>
  rw [hm] at HML
  change Hid (Ret _ _ (.tuple #[.string s,.int .i64 0])) at HML
  have HSB:=Lib.hid (retSubX HXS.out (size_ok (mulX_ok hm)))
  cases hs:subX d s with
  | error n =>
   have HR:=Lib.hid (HPX.out (.error n) (by unfold partX;dsimp only;rw [hm];dsimp only;rw [hs]))
   have hz:=ne_zero (exQ_err hs)
   rw [hs] at HSB
   change Hid (Ret _ _ (.tuple #[.string ⟨#[]⟩,.int .i64 (n:Int)])) at HSB
   clear hm hs
   go_enter Tryz.func128,Tryz.ntmps128
   go_wp2_with (first
    | (go_at_call 129;refine (HF.out).mono ?_;rintro e w1 ⟨rfl,hb⟩;have N1:=Lib.hid (N0.out.later hb);clear hb;obtain ⟨g0,gl⟩:=HG.out _ N1.out)
    | (go_at_call 130;refine (HML.out _ N1.out.res).mono ?_;rintro e w2 ⟨rfl,hb⟩;have N2:=Lib.hid (N1.out.later hb);clear hb;obtain ⟨m0,m1,ml⟩:=HM.out _ N2.out)
    | (go_at_call 117;refine (HSB.out _ N2.out.res).mono ?_;rintro e w3 ⟨rfl,hb⟩;have N3:=Lib.hid (N2.out.later hb);clear hb))
   go_ret2
   rw [HR.out]
   exact ⟨rfl,HX.out.below.trans (N3.out.below.mono HX.out.below.size)⟩
  | ok r =>
   rw [hs] at HSB
   change Hid (Ret _ _ (.tuple #[.string r,.int .i64 0])) at HSB
   have HMX:=Lib.hid (retMaxX zT_small (size_ok (subX_ok hs)))
   change Hid (Ret _ #[.string ⟨#[48]⟩,.string r] _) at HMX
   have HR:=Lib.hid (HPX.out (maxX zT r) (by unfold partX;dsimp only;rw [hm];dsimp only;rw [hs]))
   obtain ⟨c0,c1,hc⟩:=resX_tup (maxX zT r)
   rw [hc] at HR HMX
   clear hm hs hc
   go_enter Tryz.func128,Tryz.ntmps128
   go_wp2_with (first
    | (go_at_call 129;refine (HF.out).mono ?_;rintro e w1 ⟨rfl,hb⟩;have N1:=Lib.hid (N0.out.later hb);clear hb;obtain ⟨g0,gl⟩:=HG.out _ N1.out)
    | (go_at_call 130;refine (HML.out _ N1.out.res).mono ?_;rintro e w2 ⟨rfl,hb⟩;have N2:=Lib.hid (N1.out.later hb);clear hb;obtain ⟨m0,m1,ml⟩:=HM.out _ N2.out)
    | (go_at_call 117;refine (HSB.out _ N2.out.res).mono ?_;rintro e w3 ⟨rfl,hb⟩;have N3:=Lib.hid (N2.out.later hb);clear hb)
    | (go_at_call 131;refine (HMX.out _ N3.out.res).mono ?_;rintro e w4 ⟨rfl,hb⟩;have N4:=Lib.hid (N3.out.later hb);clear hb))
   go_ret2
   rw [HR.out]
   exact ⟨rfl,HX.out.below.trans (N4.out.below.mono HX.out.below.size)⟩
theorem runs_delta1:Runs 128:=runs_of Tryz.func128 (by kernel_rfl) (by kernel_rfl)
theorem partX_ne {f:ByteArray} {q:List L2} {x:L2} {n:Nat} (h:partX f q x=.error n):n≠0:=by
 unfold partX at h
 split at h
 ·rename_i h1;cases h;exact exQ_err h1
 ·split at h
  ·rename_i h1;cases h;exact exQ_err h1
  ·unfold maxX at h
   split at h
   ·rename_i h1;cases h;exact h1
   ·split at h
    ·rename_i h1;cases h;exact h1
    ·cases h
theorem partX_fine {f:ByteArray} {q:List L2} {x:L2} {s:ByteArray} (h:partX f q x=.ok s):errQ s.data.toList=0:=by
 unfold partX at h
 split at h
 ·cases h
 ·split at h
  ·cases h
  ·rename_i h1
   unfold maxX at h
   split at h
   ·cases h
   ·split at h
    ·cases h
    ·cases h
     split
     ·exact subX_ok h1
     ·exact err_zT
theorem ddelta_any (p q:List L2) (vp vq:Value) (f:ByteArray) (w:World) (hp:LRow w vp p) (hq:LRow w vq q) (sp:Short p) (sq:Short q) (hf:f.size≤270000) (hr:Res w) :
  Calls Tryz.prog 45 #[vp,vq,.string f] w fun e w'=>e=.returned (resX (deltaX p q f))∧Below w.heap.size w w':=by
 have HX:=Lib.hid (show NW w (((w.alloc (.cells #[vq] 31)).alloc (.cells #[.string f] 23)).alloc (.cells #[vp,vq] 31)) from (((NW.refl hr).alloc _).alloc _).alloc _)
 have K0:Blk (((w.alloc (.cells #[vq] 31)).alloc (.cells #[.string f] 23)).alloc (.cells #[vp,vq] 31)) (w.heap.size) 31 #[vq]:=by
  have:=Blk.new w 31 #[vq]
  exact ((this.alloc _).alloc _)
 have K1:Blk (((w.alloc (.cells #[vq] 31)).alloc (.cells #[.string f] 23)).alloc (.cells #[vp,vq] 31)) (w.heap.size+1) 23 #[.string f]:=by
  have:=Blk.new (w.alloc (.cells #[vq] 31)) 23 #[.string f]
  simp only [World.size_alloc] at this
  exact (this.alloc _)
 have K2:Blk (((w.alloc (.cells #[vq] 31)).alloc (.cells #[.string f] 23)).alloc (.cells #[vp,vq] 31)) (w.heap.size+1+1) 31 #[vp,vq]:=by
  have:=Blk.new ((w.alloc (.cells #[vq] 31)).alloc (.cells #[.string f] 23)) 31 #[vp,vq]
  simp only [World.size_alloc] at this
  exact this
 have N0:=Lib.hid (NW.refl HX.out.res)
 have hpx:=hp.below HX.out.below
 have hqx:=hq.below HX.out.below
 have HC:=Lib.hid (dchecked_any p q vp vq _ _ K2 hpx hqx sp sq HX.out.res)
 have B1:=Lib.hid (nw_num K1)
 have x0:=(nw_num (K0) _ N0.out).1
 have HP:=Lib.hid (positive_any hf)
 obtain ⟨A,c,rfl,hlen,hcells⟩:=id hp
 obtain ⟨A',c',rfl,hlen',hcells'⟩:=id hq
 by_cases h0:chk2 p q=0
 ·have HR0:=Lib.hid (show deltaX p q f=if posE f≠0 then .error (posE f) else foldX (partX f q) zT p by unfold deltaX;rw [if_neg (by simpa using h0)])
  rw [h0] at HC
  change Hid (Calls _ _ _ _ fun e w'=>e=.returned (.int .i64 0)∧_) at HC
  by_cases h1:posE f=0
  ·have HR:=Lib.hid (show deltaX p q f=foldX (partX f q) zT p by rw [HR0.out,if_neg (by simpa using h1)])
   rw [h1] at HP
   change Hid (Ret _ _ (.tuple #[.bool (posB f),.int .i64 0])) at HP
   have ha:=ascK_chk (chk2_both h0).2
   have HFD:=Lib.hid (fun W (hW:NW _ W) =>
    dfold_any 128 #[.pointer (some ⟨w.heap.size,0,none⟩),.pointer (some ⟨w.heap.size+1,0,none⟩)] runs_delta1 (partX f q) p _ W (hpx.below hW.below) hW.res (fun x n h=>partX_ne h) (fun x hx s h=>partX_fine h)
     (fun k x hx W2 hW2 hr2=>delta1_any x k _ _ q _ f W2 ((K0.below hW.below K0.lt).below hW2 (K0.below hW.below K0.lt).lt) ((K1.below hW.below K1.lt).below hW2 (K1.below hW.below K1.lt).lt) ((hqx.below hW.below).below hW2) ha sq hf (sp x (List.mem_of_getElem? hx)).2 hr2))
   obtain ⟨r0,r1,hc⟩:=resX_tup (foldX (partX f q) zT p)
   rw [hc] at HFD
   have HR2:=Lib.hid (show resX (deltaX p q f)=.tuple #[.string r0,.int .i64 r1] by rw [HR.out,hc])
   clear K0 K1 K2 hpx hqx hp hq sp sq hf hr h0 h1 ha hc hcells hcells'
   go_enter Tryz.func45,Tryz.ntmps45
   go_wp2_with (first
    | (go_at_call 112;refine (HC.out).mono ?_;rintro e w1 ⟨rfl,hb⟩;have N1:=Lib.hid (N0.out.later hb);clear hb;obtain ⟨f0,fl⟩:=B1.out _ N1.out)
    | (go_at_call 106;refine (HP.out _ N1.out.res).mono ?_;rintro e w2 ⟨rfl,hb⟩;have N2:=Lib.hid (N1.out.later hb);clear hb)
    | (go_at_call 122;refine (HFD.out _ N2.out).mono ?_;rintro e w3 ⟨rfl,hb⟩;have N3:=Lib.hid (N2.out.later hb);clear hb))
   go_ret2
   rw [HR2.out]
   exact ⟨rfl,HX.out.below.trans (N3.out.below.mono HX.out.below.size)⟩
  ·have HR:=Lib.hid (show deltaX p q f=.error (posE f) by rw [HR0.out,if_pos h1])
   have hm:=ne_zero h1
   clear K0 K1 K2 hpx hqx hp hq sp sq hf hr h0 h1 hcells hcells'
   go_enter Tryz.func45,Tryz.ntmps45
   go_wp2_with (first
    | (go_at_call 112;refine (HC.out).mono ?_;rintro e w1 ⟨rfl,hb⟩;have N1:=Lib.hid (N0.out.later hb);clear hb;obtain ⟨f0,fl⟩:=B1.out _ N1.out)
    | (go_at_call 106;refine (HP.out _ N1.out.res).mono ?_;rintro e w2 ⟨rfl,hb⟩;have N2:=Lib.hid (N1.out.later hb);clear hb))
   go_ret2
   rw [HR.out]
   exact ⟨rfl,HX.out.below.trans (N2.out.below.mono HX.out.below.size)⟩
 ·have HR:=Lib.hid (show deltaX p q f=.error (chk2 p q) by unfold deltaX;rw [if_pos h0])
  have hm:=ne_zero h0
  clear K0 K1 K2 hpx hqx hp hq sp sq hf hr h0 hcells hcells'
  go_enter Tryz.func45,Tryz.ntmps45
  go_wp2_with (go_at_call 112;refine (HC.out).mono ?_;rintro e w1 ⟨rfl,hb⟩;have N1:=Lib.hid (N0.out.later hb);clear hb)
  go_ret2
  rw [HR.out]
  exact ⟨rfl,HX.out.below.trans (N1.out.below.mono HX.out.below.size)⟩
theorem ddistance_any (p q:List L2) (vp vq:Value) (w:World) (hp:LRow w vp p) (hq:LRow w vq q) (sp:Short p) (sq:Short q) (hr:Res w) :
  Calls Tryz.prog 46 #[vp,vq] w fun e w'=>e=.returned (resX (deltaX p q oT))∧Below w.heap.size w w':=by
 have HD:=Lib.hid (ddelta_any p q vp vq oT w hp hq sp sq oT_small hr)
 have N0:=Lib.hid (NW.refl hr)
 obtain ⟨r0,r1,hc⟩:=resX_tup (deltaX p q oT)
 rw [hc] at HD
 change Hid (Calls _ _ #[vp,vq,.string ⟨#[49]⟩] _ _) at HD
 rw [hc]
 clear hp hq sp sq hr hc
 go_enter Tryz.func46,Tryz.ntmps46
 go_wp2_with (go_at_call 45;refine (HD.out).mono ?_;rintro e w1 ⟨rfl,hb⟩;have N1:=Lib.hid (N0.out.later hb);clear hb)
 go_ret2
 exact ⟨rfl,N1.out.below⟩
theorem moment1_any (x:L2) (k:Int) (gq gf:Nat) (q:List L2) (vq:Value) (n:Int) (w:World) (hgq:Blk w gq 31 #[vq]) (hgf:Blk w gf 3 #[.int .i64 n]) (hv:LRow w vq q) (hasc:AscK q) (hsq:Short q) (hn1:1≤n) (hn8:n≤8) (hx:x.2.size≤270000) (hr:Res w) :
  Calls Tryz.prog 134 #[.int .i64 k,.agg #[.string x.1,.string x.2],.pointer (some ⟨gq,0,none⟩),.pointer (some ⟨gf,0,none⟩)] w fun e w'=>e=.returned (resX (powsX n q x))∧Below w.heap.size w w':=by
 have HX:=Lib.hid (show NW w (w.alloc (.cells #[.string x.1,.string x.2] 30)) from (NW.refl hr).alloc _)
 have K0:Blk (w.alloc (.cells #[.string x.1,.string x.2] 30)) (w.heap.size) 30 #[.string x.1,.string x.2]:=by
  have:=Blk.new w 30 #[.string x.1,.string x.2]
  exact this
 have N0:=Lib.hid (NW.refl HX.out.res)
 have HF:=Lib.hid (dfind_any q vq x.1 _ (hv.below HX.out.below) hasc)
 have HM:=Lib.hid (nw_mass K0)
 have HO:=Lib.hid (hsq.atT (k:=x.1))
 have HG:=Lib.hid (nw_num (hgf.below HX.out.below hgf.lt))
 have x0:=(nw_num (hgq.below HX.out.below hgq.lt) _ N0.out).1
 have xl:=(nw_num (hgq.below HX.out.below hgq.lt) _ N0.out).2
 have HPX:=Lib.hid (show ∀ r,powsX n q x=r→resX (powsX n q x)=resX r from fun r h=>by rw [h])
 have HPA:=Lib.hid (retPowX hx n (by omega) (by omega))
 have HPB:=Lib.hid (retPowX HO.out (n - 1) (by omega) (by omega))
 obtain ⟨y,d⟩:=x
 dsimp only at HX HF HM HO x0 xl HPA HPB N0
 have TKA:True:=trivial
 clear hv hgq hgf hr hasc hsq hx K0
 cases ha:powX d n with
 | error z =>
  have HR:=Lib.hid (HPX.out (.error z) (by unfold powsX;dsimp only;rw [ha]))
  have hz:=ne_zero (exQ_err ha)
  rw [ha] at HPA
  change Hid (Ret _ _ (.tuple #[.string ⟨#[]⟩,.int .i64 (z:Int)])) at HPA
  clear ha
  go_enter Tryz.func134,Tryz.ntmps134
  go_wp2_with (first
   | (go_at_call 129;refine (HF.out).mono ?_;rintro e w1 ⟨rfl,hb⟩;have N1:=Lib.hid (N0.out.later hb);clear hb;obtain ⟨g0,gl⟩:=HG.out _ N1.out;obtain ⟨m0,m1,ml⟩:=HM.out _ N1.out)
   | (go_at_call 135;refine (HPA.out _ N1.out.res).mono ?_;rintro e w2 ⟨rfl,hb⟩;have N2:=Lib.hid (N1.out.later hb);clear hb;clear g0 gl m0 m1 ml TKA;obtain ⟨g0,gl⟩:=HG.out _ N2.out))
  go_ret2
  rw [HR.out]
  exact ⟨rfl,HX.out.below.trans (N2.out.below.mono HX.out.below.size)⟩
 | ok s =>
  rw [ha] at HPA
  change Hid (Ret _ _ (.tuple #[.string s,.int .i64 0])) at HPA
  cases hb:powX (atT q y) (n - 1) with
  | error z =>
   have HR:=Lib.hid (HPX.out (.error z) (by unfold powsX;dsimp only;rw [ha];dsimp only;rw [hb]))
   have hz:=ne_zero (exQ_err hb)
   rw [hb] at HPB
   change Hid (Ret _ _ (.tuple #[.string ⟨#[]⟩,.int .i64 (z:Int)])) at HPB
   clear ha hb
   go_enter Tryz.func134,Tryz.ntmps134
   go_wp2_with (first
    | (go_at_call 129;refine (HF.out).mono ?_;rintro e w1 ⟨rfl,hb⟩;have N1:=Lib.hid (N0.out.later hb);clear hb;obtain ⟨g0,gl⟩:=HG.out _ N1.out;obtain ⟨m0,m1,ml⟩:=HM.out _ N1.out)
    | (go_at_call 135;clear TKA;refine (HPA.out _ N1.out.res).mono ?_;rintro e w2 ⟨rfl,hb⟩;have N2:=Lib.hid (N1.out.later hb);clear hb g0 gl m0 m1 ml;obtain ⟨g0,gl⟩:=HG.out _ N2.out)
    | (go_at_call 135;refine (HPB.out _ N2.out.res).mono ?_;rintro e w3 ⟨rfl,hb⟩;have N3:=Lib.hid (N2.out.later hb);clear hb))
   go_ret2
   rw [HR.out]
   exact ⟨rfl,HX.out.below.trans (N3.out.below.mono HX.out.below.size)⟩
  | ok t =>
   rw [hb] at HPB
   change Hid (Ret _ _ (.tuple #[.string t,.int .i64 0])) at HPB
   have HDV:=Lib.hid (retDivX (size_ok (powX_ok ha)) (size_ok (powX_ok hb)))
   have HR:=Lib.hid (HPX.out (divX s t) (by unfold powsX;dsimp only;rw [ha];dsimp only;rw [hb]))
   obtain ⟨r0,r1,hc⟩:=resX_tup (divX s t)
   rw [hc] at HR HDV
   clear ha hb hc
   go_enter Tryz.func134,Tryz.ntmps134
   go_wp2_with (first
    | (go_at_call 129;refine (HF.out).mono ?_;rintro e w1 ⟨rfl,hb⟩;have N1:=Lib.hid (N0.out.later hb);clear hb;obtain ⟨g0,gl⟩:=HG.out _ N1.out;obtain ⟨m0,m1,ml⟩:=HM.out _ N1.out)
    | (go_at_call 135;clear TKA;refine (HPA.out _ N1.out.res).mono ?_;rintro e w2 ⟨rfl,hb⟩;have N2:=Lib.hid (N1.out.later hb);clear hb g0 gl m0 m1 ml;obtain ⟨g0,gl⟩:=HG.out _ N2.out)
    | (go_at_call 135;refine (HPB.out _ N2.out.res).mono ?_;rintro e w3 ⟨rfl,hb⟩;have N3:=Lib.hid (N2.out.later hb);clear hb)
    | (go_at_call 133;refine (HDV.out _ N3.out.res).mono ?_;rintro e w4 ⟨rfl,hb⟩;have N4:=Lib.hid (N3.out.later hb);clear hb))
   go_ret2
   rw [HR.out]
   exact ⟨rfl,HX.out.below.trans (N4.out.below.mono HX.out.below.size)⟩
theorem runs_moment1:Runs 134:=runs_of Tryz.func134 (by kernel_rfl) (by kernel_rfl)
theorem powsX_ne {n:Int} {q:List L2} {x:L2} {z:Nat} (h:powsX n q x=.error z):z≠0:=by
 unfold powsX at h
 split at h
 ·rename_i h1;cases h;exact exQ_err h1
 ·split at h
  ·rename_i h1;cases h;exact exQ_err h1
  ·exact exQ_err h
theorem powsX_fine {n:Int} {q:List L2} {x:L2} {s:ByteArray} (h:powsX n q x=.ok s):errQ s.data.toList=0:=by
 unfold powsX at h
 split at h
 ·cases h
 ·split at h
  ·cases h
  ·exact divX_ok h
theorem dmoment_any (p q:List L2) (vp vq:Value) (n:Int) (w:World) (hp:LRow w vp p) (hq:LRow w vq q) (sp:Short p) (sq:Short q) (hr:Res w) :
  Calls Tryz.prog 48 #[vp,vq,.int .i64 n] w fun e w'=>e=.returned (momV p q n)∧Below w.heap.size w w':=by
 have HX:=Lib.hid (show NW w (((w.alloc (.cells #[vq] 31)).alloc (.cells #[.int .i64 n] 3)).alloc (.cells #[vp,vq] 31)) from (((NW.refl hr).alloc _).alloc _).alloc _)
 have K0:Blk (((w.alloc (.cells #[vq] 31)).alloc (.cells #[.int .i64 n] 3)).alloc (.cells #[vp,vq] 31)) (w.heap.size) 31 #[vq]:=by
  have:=Blk.new w 31 #[vq]
  exact ((this.alloc _).alloc _)
 have K1:Blk (((w.alloc (.cells #[vq] 31)).alloc (.cells #[.int .i64 n] 3)).alloc (.cells #[vp,vq] 31)) (w.heap.size+1) 3 #[.int .i64 n]:=by
  have:=Blk.new (w.alloc (.cells #[vq] 31)) 3 #[.int .i64 n]
  simp only [World.size_alloc] at this
  exact (this.alloc _)
 have K2:Blk (((w.alloc (.cells #[vq] 31)).alloc (.cells #[.int .i64 n] 3)).alloc (.cells #[vp,vq] 31)) (w.heap.size+1+1) 31 #[vp,vq]:=by
  have:=Blk.new ((w.alloc (.cells #[vq] 31)).alloc (.cells #[.int .i64 n] 3)) 31 #[vp,vq]
  simp only [World.size_alloc] at this
  exact this
 have N0:=Lib.hid (NW.refl HX.out.res)
 have hpx:=hp.below HX.out.below
 have hqx:=hq.below HX.out.below
 have HC:=Lib.hid (dchecked_any p q vp vq _ _ K2 hpx hqx sp sq HX.out.res)
 have B0:=Lib.hid (nw_num K0)
 have B1:=Lib.hid (nw_num K1)
 have x0:=(nw_num K0 _ N0.out).1
 obtain ⟨A,c,rfl,hlen,hcells⟩:=id hp
 obtain ⟨A',c',rfl,hlen',hcells'⟩:=id hq
 by_cases h0:chk2 p q=0
 ·rw [h0] at HC
  change Hid (Calls _ _ _ _ fun e w'=>e=.returned (.int .i64 0)∧_) at HC
  have ha:=ascK_chk (chk2_both h0).2
  by_cases h1:n < 1
  ·have HR:=Lib.hid (show momV p q n=.tuple #[.string ⟨#[]⟩,.bool false,.int .i64 2] by unfold momV;rw [if_neg (by simpa using h0),if_pos (.inl h1)])
   have d1:decide (n < 1)=true:=decide_eq_true h1
   clear K0 K1 K2 hpx hqx hp hq sp sq hr h0 hcells hcells' h1 ha
   go_enter Tryz.func48,Tryz.ntmps48
   go_wp2_with (go_at_call 112;refine (HC.out).mono ?_;rintro e w1 ⟨rfl,hb⟩;have N1:=Lib.hid (N0.out.later hb);clear hb;obtain ⟨f0,fl⟩:=B1.out _ N1.out;obtain ⟨v0,vl⟩:=B0.out _ N1.out)
   go_ret3
   rw [HR.out]
   exact ⟨rfl,HX.out.below.trans (N1.out.below.mono HX.out.below.size)⟩
  ·have d1:decide (n < 1)=false:=decide_eq_false h1
   by_cases h2:8 < n
   ·have HR:=Lib.hid (show momV p q n=.tuple #[.string ⟨#[]⟩,.bool false,.int .i64 2] by unfold momV;rw [if_neg (by simpa using h0),if_pos (.inr h2)])
    have d2:decide (8 < n)=true:=decide_eq_true h2
    clear K0 K1 K2 hpx hqx hp hq sp sq hr h0 hcells hcells' h1 h2 ha
    go_enter Tryz.func48,Tryz.ntmps48
    go_wp2_with (go_at_call 112;refine (HC.out).mono ?_;rintro e w1 ⟨rfl,hb⟩;have N1:=Lib.hid (N0.out.later hb);clear hb;obtain ⟨f0,fl⟩:=B1.out _ N1.out;obtain ⟨v0,vl⟩:=B0.out _ N1.out)
    go_ret3
    rw [HR.out]
    exact ⟨rfl,HX.out.below.trans (N1.out.below.mono HX.out.below.size)⟩
   ·have d2:decide (8 < n)=false:=decide_eq_false h2
    have HR0:=Lib.hid (show momV p q n=if inX p q=false then .tuple #[.string ⟨#[]⟩,.bool false,.int .i64 0] else resF (foldX (powsX n q) zT p) by unfold momV;rw [if_neg (by simpa using h0),if_neg (by omega)])
    have HWI:=Lib.hid (fun W (hW:NW _ W)=>dwithin_any p q _ _ W (hpx.below hW.below) (hqx.below hW.below) ha hW.res)
    cases hi:inX p q with
    | false =>
     have HR:=Lib.hid (show momV p q n=.tuple #[.string ⟨#[]⟩,.bool false,.int .i64 0] by rw [HR0.out,if_pos hi])
     rw [hi] at HWI
     clear K0 K1 K2 hpx hqx hp hq sp sq hr h0 hcells hcells' h1 h2 ha hi
     go_enter Tryz.func48,Tryz.ntmps48
     go_wp2_with (first
      | (go_at_call 112;refine (HC.out).mono ?_;rintro e w1 ⟨rfl,hb⟩;have N1:=Lib.hid (N0.out.later hb);clear hb;obtain ⟨f0,fl⟩:=B1.out _ N1.out;obtain ⟨v0,vl⟩:=B0.out _ N1.out)
      | (go_at_call 132;refine (HWI.out _ N1.out).mono ?_;rintro e w2 ⟨rfl,hb⟩;have N2:=Lib.hid (N1.out.later hb);clear hb))
     go_ret3
     rw [HR.out]
     exact ⟨rfl,HX.out.below.trans (N2.out.below.mono HX.out.below.size)⟩
    | true =>
     have HR:=Lib.hid (show momV p q n=resF (foldX (powsX n q) zT p) by rw [HR0.out,if_neg (by rw [hi];decide)])
     rw [hi] at HWI
     have HFD:=Lib.hid (fun W (hW:NW _ W) =>
      dfold_any 134 #[.pointer (some ⟨w.heap.size,0,none⟩),.pointer (some ⟨w.heap.size+1,0,none⟩)] runs_moment1 (powsX n q) p _ W (hpx.below hW.below) hW.res (fun x n h=>powsX_ne h) (fun x hx s h=>powsX_fine h)
       (fun k x hx W2 hW2 hr2=>moment1_any x k _ _ q _ n W2 ((K0.below hW.below K0.lt).below hW2 (K0.below hW.below K0.lt).lt) ((K1.below hW.below K1.lt).below hW2 (K1.below hW.below K1.lt).lt) ((hqx.below hW.below).below hW2) ha sq (by omega) (by omega) (sp x (List.mem_of_getElem? hx)).2 hr2))
     cases hf:foldX (powsX n q) zT p with
     | error z =>
      rw [hf] at HFD HR
      change Hid (∀ W,_→Calls _ _ _ _ fun e w'=>e=.returned (.tuple #[.string ⟨#[]⟩,.int .i64 (z:Int)])∧_) at HFD
      have hm:=ne_zero (foldX_ne (fun x m h=>powsX_ne h) hf)
      clear K0 K1 K2 hpx hqx hp hq sp sq hr h0 hcells hcells' h1 h2 ha hi hf
      go_enter Tryz.func48,Tryz.ntmps48
      go_wp2_with (first
       | (go_at_call 112;refine (HC.out).mono ?_;rintro e w1 ⟨rfl,hb⟩;have N1:=Lib.hid (N0.out.later hb);clear hb;obtain ⟨f0,fl⟩:=B1.out _ N1.out;obtain ⟨v0,vl⟩:=B0.out _ N1.out)
       | (go_at_call 132;refine (HWI.out _ N1.out).mono ?_;rintro e w2 ⟨rfl,hb⟩;have N2:=Lib.hid (N1.out.later hb);clear hb)
       | (go_at_call 122;refine (HFD.out _ N2.out).mono ?_;rintro e w3 ⟨rfl,hb⟩;have N3:=Lib.hid (N2.out.later hb);clear hb))
      go_ret3
      rw [HR.out]
      exact ⟨rfl,HX.out.below.trans (N3.out.below.mono HX.out.below.size)⟩
     | ok s =>
      rw [hf] at HFD HR
      change Hid (∀ W,_→Calls _ _ _ _ fun e w'=>e=.returned (.tuple #[.string s,.int .i64 0])∧_) at HFD
      clear K0 K1 K2 hpx hqx hp hq sp sq hr h0 hcells hcells' h1 h2 ha hi hf
      go_enter Tryz.func48,Tryz.ntmps48
      go_wp2_with (first
       | (go_at_call 112;refine (HC.out).mono ?_;rintro e w1 ⟨rfl,hb⟩;have N1:=Lib.hid (N0.out.later hb);clear hb;obtain ⟨f0,fl⟩:=B1.out _ N1.out;obtain ⟨v0,vl⟩:=B0.out _ N1.out)
       | (go_at_call 132;refine (HWI.out _ N1.out).mono ?_;rintro e w2 ⟨rfl,hb⟩;have N2:=Lib.hid (N1.out.later hb);clear hb)
       | (go_at_call 122;refine (HFD.out _ N2.out).mono ?_;rintro e w3 ⟨rfl,hb⟩;have N3:=Lib.hid (N2.out.later hb);clear hb))
      go_ret3
      rw [HR.out]
      exact ⟨rfl,HX.out.below.trans (N3.out.below.mono HX.out.below.size)⟩
 ·have HR:=Lib.hid (show momV p q n=.tuple #[.string ⟨#[]⟩,.bool false,.int .i64 (chk2 p q:Int)] by unfold momV;rw [if_pos h0])
  have hm:=ne_zero h0
  clear K0 K1 K2 hpx hqx hp hq sp sq hr h0 hcells hcells'
  go_enter Tryz.func48,Tryz.ntmps48
  go_wp2_with (go_at_call 112;refine (HC.out).mono ?_;rintro e w1 ⟨rfl,hb⟩;have N1:=Lib.hid (N0.out.later hb);clear hb)
  go_ret3
  rw [HR.out]
  exact ⟨rfl,HX.out.below.trans (N1.out.below.mono HX.out.below.size)⟩
theorem dfactor_any (p q:List L2) (vp vq:Value) (w:World) (hp:LRow w vp p) (hq:LRow w vq q) (sp:Short p) (sq:Short q) (hr:Res w) :
  Calls Tryz.prog 47 #[vp,vq] w fun e w'=>e=.returned (facV p q)∧Below w.heap.size w w':=by
 have HX:=Lib.hid (show NW w (w.alloc (.cells #[vp,vq] 31)) from (NW.refl hr).alloc _)
 have K0:Blk (w.alloc (.cells #[vp,vq] 31)) (w.heap.size) 31 #[vp,vq]:=by
  have:=Blk.new w 31 #[vp,vq]
  exact this
 have N0:=Lib.hid (NW.refl HX.out.res)
 have hpx:=hp.below HX.out.below
 have hqx:=hq.below HX.out.below
 have HC:=Lib.hid (dchecked_any p q vp vq _ _ K0 hpx hqx sp sq HX.out.res)
 obtain ⟨A,c,rfl,hlen,hcells⟩:=id hp
 obtain ⟨A',c',rfl,hlen',hcells'⟩:=id hq
 by_cases h0:chk2 p q=0
 ·rw [h0] at HC
  change Hid (Calls _ _ _ _ fun e w'=>e=.returned (.int .i64 0)∧_) at HC
  have ha:=ascK_chk (chk2_both h0).2
  have HR0:=Lib.hid (show facV p q=if inX p q=false then .tuple #[.string ⟨#[]⟩,.bool false,.int .i64 0] else resF (mostX q zT p) by unfold facV;rw [if_neg (by simpa using h0)])
  have HWI:=Lib.hid (fun W (hW:NW _ W)=>dwithin_any p q _ _ W (hpx.below hW.below) (hqx.below hW.below) ha hW.res)
  cases hi:inX p q with
  | false =>
   have HR:=Lib.hid (show facV p q=.tuple #[.string ⟨#[]⟩,.bool false,.int .i64 0] by rw [HR0.out,if_pos hi])
   rw [hi] at HWI
   clear K0 hpx hqx hp hq sp sq hr h0 hcells hcells' ha hi
   go_enter Tryz.func47,Tryz.ntmps47
   go_wp2_with (first
    | (go_at_call 112;refine (HC.out).mono ?_;rintro e w1 ⟨rfl,hb⟩;have N1:=Lib.hid (N0.out.later hb);clear hb)
    | (go_at_call 132;refine (HWI.out _ N1.out).mono ?_;rintro e w2 ⟨rfl,hb⟩;have N2:=Lib.hid (N1.out.later hb);clear hb))
   go_ret3
   rw [HR.out]
   exact ⟨rfl,HX.out.below.trans (N2.out.below.mono HX.out.below.size)⟩
  | true =>
   have HR:=Lib.hid (show facV p q=resF (mostX q zT p) by rw [HR0.out,if_neg (by rw [hi];decide)])
   rw [hi] at HWI
   have HPX:=Lib.hid hpx
   have HFI:=Lib.hid (fun W (hW:NW _ W) k=>dfind_any q _ k W (hqx.below hW.below) ha)
   have HSH:=Lib.hid (And.intro sp sq)
   clear K0 hpx hqx hp hq sp sq hr h0 hcells hcells' ha hi
   go_enter Tryz.func47,Tryz.ntmps47
   go_wp2_with (first
    | (go_at_call 112;refine HC.out.mono ?_;rintro e w1 ⟨rfl,hb⟩;have N1:=Lib.hid (N0.out.later hb);clear hb)
    | (go_at_call 132;refine (HWI.out _ N1.out).mono ?_;rintro e w2 ⟨rfl,hb⟩;have N2:=Lib.hid (N1.out.later hb);clear hb))
   go_loopw [8,30] (fun v8 v30 wr=>∃ (k:Nat) (s:ByteArray),k≤p.length∧v30=.int .i64 (k:Int)∧v8=.string s∧Hid (errQ s.data.toList=0∧mostX q zT p=mostX q s (p.drop k))∧Hid (NW (w.alloc (.cells #[(.slice A p.length c),(.slice A' q.length c')] 31)) wr)) (fun _ v30 _=>p.length - (intOf v30).toNat)
   case atStart=>exact ⟨0,zT,Nat.zero_le _,rfl,rfl,Lib.hid ⟨err_zT,by simp⟩,N2⟩
   case round =>
    clear N0 N1 N2 HC HWI HR0
    obtain ⟨k,s,hk,rfl,rfl,HE,HN⟩:=hrel
    by_cases hlt:k < p.length
    ·obtain ⟨x,hx⟩:∃ x,p[k]?=some x:=⟨_,List.getElem?_eq_getElem hlt⟩
     obtain ⟨b,o,c2,e',hb2,c0,c1⟩:=HPX.out.at HN.out.below hx
     simp only [Value.slice.injEq,true_and] at e'
     obtain ⟨rfl,rfl⟩:=e'
     have hlt':(k:Int) < (p.length:Int):=by omega
     have HA:=Lib.hid (HN.out.alloc (.cells #[.string x.1,.string x.2] 30))
     have HM:=Lib.hid (nw_mass (Blk.new wr 30 #[.string x.1,.string x.2]))
     have NA:=Lib.hid (NW.refl HA.out.res)
     have HDV:=Lib.hid (retDivX (HSH.out.1 x (List.mem_of_getElem? hx)).2 (HSH.out.2.atT (k:=x.1)))
     have HD:=Lib.hid (drop_of hx)
     have HLT:=Lib.hid (And.intro hlt hlt')
     have HFK:=Lib.hid (HFI.out _ HA.out x.1)
     obtain ⟨y,d⟩:=x
     dsimp only at c0 c1 HA HM NA HDV HFK
     clear hx hlt
     cases hd:divX d (atT q y) with
     | error z =>
      have HR2:=Lib.hid (show mostX q zT p=.error z by rw [HE.out.2,HD.out];unfold mostX;dsimp only;rw [hd])
      have hm:=ne_zero (exQ_err hd)
      rw [hd] at HDV
      change Hid (Ret _ _ (.tuple #[.string ⟨#[]⟩,.int .i64 (z:Int)])) at HDV
      clear hd
      go_wp2_with (first
       | (go_at_call 129;refine HFK.out.mono ?_;rintro e w3 ⟨rfl,hb⟩;have N3:=Lib.hid (NA.out.later hb);clear hb;obtain ⟨m0,m1,ml⟩:=HM.out _ N3.out)
       | (go_at_call 133;refine (HDV.out _ N3.out.res).mono ?_;rintro e w4 ⟨rfl,hb⟩;have N4:=Lib.hid (N3.out.later hb);clear hb))
      go_ret3
      rw [HR.out,HR2.out]
      exact ⟨rfl,((HX.out.trans HA.out).trans N4.out).below⟩
     | ok t =>
      rw [hd] at HDV
      change Hid (Ret _ _ (.tuple #[.string t,.int .i64 0])) at HDV
      have hmx:=maxX_val HE.out.1 (divX_ok hd)
      have HMX:=Lib.hid (retMaxX (size_ok HE.out.1) (size_ok (divX_ok hd)))
      rw [hmx] at HMX
      have HR2:=Lib.hid (show mostX q zT p=mostX q (if cmpQ (valQ s.data.toList) (valQ t.data.toList) < 0 then t else s) (p.drop (k+1)) by
       rw [HE.out.2,HD.out]
       conv=>lhs;unfold mostX
       dsimp only
       rw [hd])
      have HER:=Lib.hid (show errQ (if cmpQ (valQ s.data.toList) (valQ t.data.toList) < 0 then t else s).data.toList=0 by split;exact divX_ok hd;exact HE.out.1)
      generalize (if cmpQ (valQ s.data.toList) (valQ t.data.toList) < 0 then t else s)=u at *
      change Hid (Ret _ _ (.tuple #[.string u,.int .i64 0])) at HMX
      clear hd hmx
      go_wp2_with (first
       | (go_at_call 129;refine HFK.out.mono ?_;rintro e w3 ⟨rfl,hb⟩;have N3:=Lib.hid (NA.out.later hb);clear hb;obtain ⟨m0,m1,ml⟩:=HM.out _ N3.out)
       | (go_at_call 133;refine (HDV.out _ N3.out.res).mono ?_;rintro e w4 ⟨rfl,hb⟩;have N4:=Lib.hid (N3.out.later hb);clear hb)
       | (go_at_call 131;refine (HMX.out _ N4.out.res).mono ?_;rintro e w5 ⟨rfl,hb⟩;have N5:=Lib.hid (N4.out.later hb);clear hb))
      go_roundw
      case rel=>exact ⟨k+1,u,HLT.out.1,by go_num,rfl,Lib.hid ⟨HER.out,HR2.out⟩,Lib.hid (HA.out.trans N5.out)⟩
      case measure=>have:=HLT.out.1;simp [intOf];omega
    ·have hlt':¬ (k:Int) < (p.length:Int):=by omega
     obtain rfl:k=p.length:=by omega
     have HR2:=Lib.hid (show mostX q zT p=.ok s by
      have:=HE.out.2
      rwa [List.drop_length] at this)
     clear hlt
     go_wp2
     go_ret3
     rw [HR.out,HR2.out]
     exact ⟨rfl,HX.out.below.trans (HN.out.below.mono HX.out.below.size)⟩
 ·have HR:=Lib.hid (show facV p q=.tuple #[.string ⟨#[]⟩,.bool false,.int .i64 (chk2 p q:Int)] by unfold facV;rw [if_pos h0])
  have hm:=ne_zero h0
  have hm2:=ne_zero2 h0
  clear K0 hpx hqx hp hq sp sq hr h0 hcells hcells'
  go_enter Tryz.func47,Tryz.ntmps47
  go_wp2_with (go_at_call 112;refine (HC.out).mono ?_;rintro e w1 ⟨rfl,hb⟩;have N1:=Lib.hid (N0.out.later hb);clear hb)
  go_ret3
  rw [HR.out]
  exact ⟨rfl,HX.out.below.trans (N1.out.below.mono HX.out.below.size)⟩
end Go.Proofs.YtigapglmipmbeaaGreatDoor
namespace Go.Proofs.YtigapglmipmbeaaGreatDoor
open Go.RowKit Go.Maps Go.Sort Go.Shelf
open Lim
attribute [local go_sem] Oper.semAt_some
theorem posL_err {x:L2} {l:List L2} (h:posE x.2≠0):posL (x::l)=posE x.2:=by unfold posL;rw [if_pos h]
theorem posL_go {x:L2} {l:List L2} (h:posE x.2=0):posL (x::l)=posL l:=by
 conv=>lhs;unfold posL
 rw [if_neg (by simpa using h)]
structure MapI (w:World) (mb:Nat) (ls:List L2) (k:Nat) (wr:World):Prop where
 nw:NW w wr
 hmb:w.heap.size≤mb
 st:∃ (A:DataW Unit) (a:List L2),wr.ownsMap Tryz.prog 9 (plainElem Tryz.prog 23) mb k A∧RelM A a∧collX [] ls=collX a (ls.drop k)∧a.length≤k∧Short a
theorem short_cons {x:L2} {l:List L2}:Short (x::l)↔(x.1.size≤270000∧x.2.size≤270000)∧Short l:=by
 unfold Short
 constructor
 ·intro h;exact ⟨h x (by simp),fun y hy=>h y (by simp [hy])⟩
 ·rintro ⟨h1,h2⟩ y hy
  rcases List.mem_cons.1 hy with rfl|hy
  ·exact h1
  ·exact h2 y hy
theorem Short.ins:∀ {a b:List L2} {x:L2},insX a x=.ok b→Short a→x.1.size≤270000∧x.2.size≤270000→Short b
 | [],b,x,h,_,hx=>by cases h;exact short_cons.2 ⟨hx,fun _ h=>by cases h⟩
 | y::l,b,x,h,ha,hx=>by
  obtain ⟨h1,h2⟩:=short_cons.1 ha
  unfold insX at h
  split at h
  ·split at h
   ·cases h
   ·rename_i m hm
    cases h
    exact short_cons.2 ⟨h1,Short.ins hm h2 hx⟩
  ·split at h
   ·split at h
    ·cases h
    ·rename_i s hs
     cases h
     exact short_cons.2 ⟨⟨h1.1,size_ok (plX_ok hs)⟩,h2⟩
   ·cases h
    exact short_cons.2 ⟨hx,ha⟩
theorem collX_cons (a:List L2) (x:L2) (l:List L2):collX a (x::l)=(match insX a x with|.error n=>.error n|.ok b=>collX b l):=rfl
theorem short_len {s:ByteArray} (h:s.size≤270000):s.size≤maxLen:=by unfold maxLen;omega
def ResM (base:Nat) (r:Except Nat (List L2)) (e:Ending) (w':World):Prop:=match r with
 | .error n=>e=.returned (.tuple #[.slice none 0 0,.int .i64 (n:Int)])
 | .ok out=>∃ u,e=.returned (.tuple #[u,.int .i64 0])∧OwnM base w' u out
theorem dmake_any (ls:List L2) (v:Value) (w:World) (hv:LRow w v ls) (hs:Short ls) (hr:Res w) :
  Calls Tryz.prog 25 #[v] w fun e w'=>ResM w.heap.size (makeX ls) e w'∧Below w.heap.size w w':=by
 have HV:=Lib.hid hv
 have HS:=Lib.hid hs
 obtain ⟨A,c,rfl,HLEN,hcells⟩:=hv
 have N0:=Lib.hid (NW.refl hr)
 have HRS:=Lib.hid hr
 have hmm:=@run_makeMap Tryz.prog
 clear hr hcells hs
 generalize hm:makeX ls=mk
 have HMK:=Lib.hid hm
 clear hm
 go_enter Tryz.func25,Tryz.ntmps25
 go_wp2
 go_loopw [21] (fun v21 wr=>∃ k:Nat,k≤ls.length∧v21=.int .i64 (k:Int)∧Hid (posL ls=posL (ls.drop k))∧Hid (NW w wr)) (fun v21 _=>ls.length - (intOf v21).toNat)
 case atStart=>exact ⟨0,Nat.zero_le _,rfl,Lib.hid (by simp),N0⟩
 case round =>
  clear N0
  obtain ⟨k,hk,rfl,HE,HN⟩:=hrel
  by_cases hlt:k < ls.length
  ·obtain ⟨x,hx⟩:∃ x,ls[k]?=some x:=⟨_,List.getElem?_eq_getElem hlt⟩
   obtain ⟨b,o,c',e',hb2,c0,c1⟩:=HV.out.at HN.out.below hx
   simp only [Value.slice.injEq,true_and] at e'
   obtain ⟨rfl,rfl⟩:=e'
   have hlt':(k:Int) < (ls.length:Int):=by omega
   have HX:=Lib.hid (HN.out.alloc (.cells #[.string x.1,.string x.2] 30))
   have HP:=Lib.hid (positive_any (HS.out x (List.mem_of_getElem? hx)).2)
   have HD:=Lib.hid (drop_of hx)
   have HLT:=Lib.hid (And.intro hlt hlt')
   obtain ⟨f,d⟩:=x
   dsimp only at c0 c1 HX HP HD
   clear hx hlt
   by_cases h1:posE d=0
   ·have HR:=Lib.hid (show posL ls=posL (ls.drop (k+1)) by rw [HE.out,HD.out];exact posL_go (x:=(f,d)) h1)
    rw [h1] at HP
    change Hid (Ret _ _ (.tuple #[.bool (posB d),.int .i64 0])) at HP
    clear h1
    go_wp2_with (go_at_call 106;refine (HP.out _ HX.out.res).mono ?_;rintro e w3 ⟨rfl,hb⟩;have H3:=Lib.hid (HX.out.later hb);clear hb)
    go_roundw
    case rel=>exact ⟨k+1,HLT.out.1,by go_num,HR,H3⟩
    case measure=>have:=HLT.out.1;simp [intOf];omega
   ·have HR:=Lib.hid (show mk=.error (posE d) by
     have h2:posL ls=posE d:=by rw [HE.out,HD.out];exact posL_err (x:=(f,d)) h1
     rw [← HMK.out]
     unfold makeX
     rw [if_pos (by rw [h2];exact h1),h2])
    have hm:=ne_zero h1
    clear h1
    go_wp2_with (go_at_call 106;refine (HP.out _ HX.out.res).mono ?_;rintro e w3 ⟨rfl,hb⟩;have H3:=Lib.hid (HX.out.later hb);clear hb)
    go_ret2
    rw [HR.out]
    exact ⟨rfl,H3.out.below⟩
  ·have hlt':¬ (k:Int) < (ls.length:Int):=by omega
   obtain rfl:k=ls.length:=by omega
   have HMK2:=Lib.hid (show mk=(match collX [] ls with|.error n=>.error n|.ok a=>doneX a) by
    have h0:posL ls=0:=by
     have:=HE.out
     rw [List.drop_length] at this
     exact this
    rw [← HMK.out]
    unfold makeX
    rw [if_neg (by simpa using h0)]
    rfl)
   clear hlt HMK HE
   obtain ⟨wo,rfl⟩:∃ wo,wo=wr:=⟨_,rfl⟩
   go_wp2
   go_loopw [38] (fun v38 wq=>∃ k:Nat,k≤ls.length∧v38=.int .i64 (k:Int)∧Hid (MapI w wo.heap.size ls k wq)) (fun v38 _=>ls.length - (intOf v38).toNat)
   case atStart=>exact ⟨0,Nat.zero_le _,rfl,Lib.hid ⟨HN.out.later (below_alloc (Below.refl _ _) _),HN.out.below.size,.map [],[],World.ownsMap_made _ _ _ _,RelM.nil,by simp,Nat.zero_le _,fun _ h=>by cases h⟩⟩
   case round =>
    have HN0:=Lib.hid HN.out.below.size
    clear HN hlt' hmm
    obtain ⟨k,hk,rfl,HI⟩:=hrel
    obtain ⟨D,a,hown,hrel,hcoll,hal,hsa⟩:=HI.out.st
    by_cases hlt:k < ls.length
    ·obtain ⟨x,hx⟩:∃ x,ls[k]?=some x:=⟨_,List.getElem?_eq_getElem hlt⟩
     obtain ⟨b,o,c',e',hb2,c0,c1⟩:=HV.out.at HI.out.nw.below hx
     simp only [Value.slice.injEq,true_and] at e'
     obtain ⟨rfl,rfl⟩:=e'
     have hlt':(k:Int) < (ls.length:Int):=by omega
     have HX:=Lib.hid (HI.out.nw.alloc (.cells #[.string x.1,.string x.2] 30))
     have hsx:=HS.out x (List.mem_of_getElem? hx)
     have hkey:=keyOfK (short_len hsx.1)
     have HCO:=Lib.hid (show collX [] ls=(match insX a x with|.error n=>.error n|.ok b=>collX b (ls.drop (k+1))) by rw [hcoll,drop_of hx];rfl)
     have HLT:=Lib.hid (And.intro hlt hlt')
     have hown2:=hown.alloc (.cells #[.string x.1,.string x.2] 30)
     have HMB:=Lib.hid (Blk.new wr 30 #[.string x.1,.string x.2])
     have hml:wo.heap.size < wr.heap.size:=hown.lt
     have hnm:k < maxLen:=by unfold maxLen;omega
     have HAL:=Lib.hid hal
     have him:=hown.isMap
     cases hh:hasT a x.1 with
     | false =>
      obtain ⟨b',eb,hbl,hrel'⟩:=hrel.fresh him hh
      have HB:=Lib.hid (show collX [] ls=collX b' (ls.drop (k+1)) by rw [HCO.out,eb])
      have HRL:=Lib.hid (And.intro hrel' (And.intro hbl (Short.ins eb hsa hsx)))
      have hhas:=(hrel.has x.1).trans hh
      have hlook:=lookS_ok (s:=⟨#[]⟩) hown2 (short_len hsx.1) (atKey_of_not_has hhas _) hhas
      have hvs:=short_len hsx.2
      obtain ⟨f,d⟩:=x
      dsimp only at c0 c1 HX hkey hown2 HMB HRL hlook hvs
      clear hx hlt hown hrel hcoll hal hsa hsx eb hbl hrel' HCO him hh hhas
      go_wp2_with (first
       | (at_mapUpdate;refine wpList_mapUpdate_own _ rfl _ _ _ 129 rfl 9 23 lawK Tryz.underlying129 (plainElem Tryz.prog 23) wo.heap.size k D rfl hown2 hnm _ _ _ rfl rfl hkey _ [] (plainElem_string Tryz.underlying23 hvs) ?_;intro w1 hown1 hgrow1;have HO1:=Lib.hid (And.intro hown1 hgrow1);clear hown1 hgrow1))
      go_roundw
      case rel=>exact ⟨k+1,HLT.out.1,by go_num,Lib.hid ⟨grow_nw HX.out HRS.out HO1.out.2 (fun r e=>by cases e;exact HN0.out),HN0.out,_,_,HO1.out.1,HRL.out.1,HB.out,by rw [HRL.out.2.1];have:=HAL.out;omega,HRL.out.2.2⟩⟩
      case measure=>have:=HLT.out.1;simp [intOf];omega
     | true =>
      have hhas:=(hrel.has x.1).trans hh
      have hlook:=lookS_ok hown2 (short_len hsx.1) (hrel.text x.1 hh) hhas
      have hat:(atT a x.1).size≤270000:=Short.atT hsa
      have HAD:=Lib.hid (retPlX hat hsx.2)
      have hio:=ins_old hrel.asc hh
      have HFX:=Lib.hid (fun W (hW:NW w W)=>hW.below)
      cases ha:plX (atT a x.1) x.2 with
      | error n =>
       rw [ha] at HAD hio
       have HR:=Lib.hid (show mk=.error n by rw [HMK2.out,HCO.out,hio])
       change Hid (Ret _ _ (.tuple #[.string ⟨#[]⟩,.int .i64 (n:Int)])) at HAD
       have hm:=ne_zero (exQ_err ha)
       obtain ⟨f,d⟩:=x
       dsimp only at c0 c1 HX hkey hown2 HMB hlook HAD
       clear hx hlt hown hrel hcoll hal hsa hsx HCO him hh hio ha hat hhas
       go_wp2_with (first
        | (go_at_call 107;refine (HAD.out _ HX.out.res).mono ?_;rintro e w3 ⟨rfl,hb⟩;have H3:=Lib.hid (HX.out.later hb);clear hb))
       go_ret2
       rw [HR.out]
       exact ⟨rfl,H3.out.below⟩
      | ok s =>
       rw [ha] at HAD hio
       have HB:=Lib.hid (show collX [] ls=collX (setT a x.1 s) (ls.drop (k+1)) by rw [HCO.out,hio])
       have HRL:=Lib.hid (And.intro (hrel.over (s:=s) him hh) (Short.ins hio hsa hsx))
       change Hid (Ret _ _ (.tuple #[.string s,.int .i64 0])) at HAD
       have hvs:=short_len (size_ok (plX_ok ha))
       obtain ⟨f,d⟩:=x
       dsimp only at c0 c1 HX hkey hown2 HMB hlook HAD HRL
       clear hx hlt hown hrel hcoll hal hsa hsx HCO him hh hio ha hat hhas
       go_wp2_with (first
        | (go_at_call 107;refine (HAD.out _ HX.out.res).mono ?_;rintro e w3 ⟨rfl,hb⟩;have H3:=Lib.hid (HX.out.later hb);have hown3:=hown2.kept (grown_none' hb none) (by simp);obtain ⟨q0,q1⟩:=cells2 (HMB.out.below hb HMB.out.lt);have ql:=(HMB.out.below hb HMB.out.lt).lt;clear hb hown2)
        | (at_mapUpdate;refine wpList_mapUpdate_own _ rfl _ _ _ 129 rfl 9 23 lawK Tryz.underlying129 (plainElem Tryz.prog 23) wo.heap.size k D rfl hown3 hnm _ _ _ rfl rfl hkey _ [] (plainElem_string Tryz.underlying23 hvs) ?_;intro w1 hown1 hgrow1;have HO1:=Lib.hid (And.intro hown1 hgrow1);clear hown1 hgrow1))
       go_roundw
       case rel=>exact ⟨k+1,HLT.out.1,by go_num,Lib.hid ⟨grow_nw H3.out HRS.out HO1.out.2 (fun r e=>by cases e;exact HN0.out),HN0.out,_,_,HO1.out.1,HRL.out.1,HB.out,by unfold setT;rw [List.length_map];have:=HAL.out;omega,HRL.out.2⟩⟩
       case measure=>have:=HLT.out.1;simp [intOf];omega
    ·have hlt':¬ (k:Int) < (ls.length:Int):=by omega
     obtain rfl:k=ls.length:=by omega
     rw [List.drop_length] at hcoll
     have HMK3:=Lib.hid (show mk=doneX a by rw [HMK2.out,hcoll];rfl)
     have HNQ:=Lib.hid HI.out.nw
     have HSA:=Lib.hid (And.intro hsa hrel)
     have hal2:a.length≤1000:=by omega
     have HK:=Lib.hid (keysN wo.heap.size ls.length D a wr hown hrel (by omega))
     have HKW:=Lib.hid (mapsKeysN (some wo.heap.size) wr)
     have HOW:=Lib.hid hown
     clear hlt HI HMK2 hcoll hown hrel hsa
     obtain ⟨wm,rfl⟩:∃ wm,wm=wr:=⟨_,rfl⟩
     go_wp2_with (first
      | (go_at_call 109;refine HKW.out.mono ?_;rintro e w3 ⟨rfl,hw3⟩;subst hw3)
      | (go_at_call 108;refine HK.out.mono ?_;rintro e w4 ⟨vk,rfl,hrow,hb⟩;obtain ⟨Ak,ck,rfl⟩:=slice_of_owns hrow;have HW4:=Lib.hid (And.intro hrow hb);clear hrow hb))
     have HB4:=Lib.hid (show Below wm.heap.size wm w4 from (below_alloc (Below.refl wm.heap.size wm) _).trans (HW4.out.2.mono (Nat.le_succ _)))
     have HN4:=Lib.hid (HNQ.out.later HB4.out)
     have HO4:=Lib.hid (HOW.out.kept (grown_none' HB4.out none) (by simp))
     have HR4:=Lib.hid (row_of_owns HW4.out.1).2.2.2
     have HL4:=Lib.hid HO4.out.lt
     clear HK HKW HW4 HOW HNQ HN0
     go_loopw [15,75] (fun v15 v75 wr=>∃ (k:Nat) (A0:Option Addr) (cc:Nat),k≤a.length∧v75=.int .i64 (k:Int)∧v15=.slice A0 (keepX (a.take k)).length cc∧Hid (OwnM w4.heap.size wr (.slice A0 (keepX (a.take k)).length cc) (keepX (a.take k)))∧Hid (Below w4.heap.size w4 wr)) (fun _ v75 _=>a.length - (intOf v75).toNat)
     case atStart=>exact ⟨0,none,0,Nat.zero_le _,rfl,rfl,Lib.hid (OwnM.nil _ _),Lib.hid (Below.refl _ _)⟩
     case round =>
      obtain ⟨k,A0,cc,hk,rfl,rfl,HO,HB⟩:=hrel
      by_cases hlt:k < a.length
      ·obtain ⟨x,hx⟩:∃ x,a[k]?=some x:=⟨_,List.getElem?_eq_getElem hlt⟩
       obtain ⟨bk,ok,rfl,hbk,hck⟩:=HR4.out (by rw [List.length_map];omega)
       have c0:=hck k (.string x.1) (by rw [List.getElem?_map,hx];rfl)
       rw [← HB.out.cell (p:=⟨bk,ok+k,none⟩) hbk] at c0
       have hbk2:bk < wr.heap.size:=Nat.lt_of_lt_of_le hbk HB.out.size
       have hlt':(k:Int) < (a.length:Int):=by omega
       have hxm:=List.mem_of_getElem? hx
       have hsx:=HSA.out.1 x hxm
       have hat:=atT_at (ascK_of HSA.out.2.asc) ltK_irr hx rfl
       have hown:=HO4.out.kept (grown_none' HB.out none) (by simp)
       have hlook:=lookS hown (short_len hsx.1) (HSA.out.2.text x.1 hat.2)
       rw [hat.1] at hlook
       have TE:=eq_bytes x.2 zT
       rw [zT_list] at TE
       have HLT:=Lib.hid (And.intro hlt hlt')
       have HTK:=Lib.hid (show keepX (a.take (k+1))=keepX (a.take k)++keepX [x] by
        unfold keepX
        rw [List.take_add_one,hx,List.filter_append]
        rfl)
       have hkl:(keepX (a.take k)).length≤1000:=by
        have h1:=List.length_filter_le (fun x:L2=>decide (x.2≠zT)) (a.take k)
        have h2:(a.take k).length≤a.length:=by rw [List.length_take];omega
        unfold keepX
        omega
       by_cases hz:x.2=zT
       ·rw [decide_eq_true hz] at TE
        have HE:=Lib.hid (show keepX (a.take (k+1))=keepX (a.take k) by
         rw [HTK.out]
         unfold keepX
         rw [List.filter_cons_of_neg (by simpa using hz),List.filter_nil,List.append_nil])
        obtain ⟨f,d⟩:=x
        dsimp only at c0 hlook TE
        clear hlt hx hck hbk hxm hsx hat hz HTK
        go_wp2
        go_roundw
        case rel=>exact ⟨k+1,A0,cc,HLT.out.1,by go_num,by rw [HE.out],by rw [HE.out];exact HO,HB⟩
        case measure=>have:=HLT.out.1;simp [intOf];omega
       ·rw [decide_eq_false hz] at TE
        have HE:=Lib.hid (show keepX (a.take (k+1))=keepX (a.take k)++[x] by
         rw [HTK.out]
         unfold keepX
         rw [List.filter_cons_of_pos (by simpa using hz),List.filter_nil])
        have hw4:w4.heap.size≤wr.heap.size:=HB.out.size
        have HOL:=Lib.hid (show (wr.alloc (.cells #[.string x.1,.string x.2] 30)).ownsRow w4.heap.size 30 2 (.slice A0 (keepX (a.take k)).length cc) (keepX (a.take k)).length (cellsM (keepX (a.take k))) from HO.out.later (below_alloc (Below.refl _ _) _))
        obtain ⟨i0,hi,hz0,hz1,hz2⟩:=info_parts infoM
        obtain ⟨f,d⟩:=x
        dsimp only at c0 hlook TE HOL
        clear hlt hx hck hbk hxm hsx hat hz HTK
        generalize hkk:(keepX (a.take k)).length=kk at *
        go_wp2_with (at_builtin;refine wpList_append_own _ rfl _ _ 31 rfl w4.heap.size 30 i0 (.agg #[.string ByteArray.empty,.string ByteArray.empty]) 2 32 Tryz.underlying31 hi hz0 hz1 hz2 rfl (by decide) _ _ _ rfl HOL.out ⟨wr.heap.size,0,none⟩ 1 1 [.string f,.string d] rfl rfl (cell_two_new _ _ _ _) (by simp [Value.oneCell']) (by unfold maxLen;omega) (by omega) (by simp;omega) ?_;intro v' w5 hown' hgrow _;obtain ⟨A5,c5,rfl⟩:=slice_shape hown';have HO5:=Lib.hid (And.intro hown' hgrow);clear hown' hgrow)
        go_roundw
        case rel =>
         have e1:(keepX (a.take (k+1))).length=kk+1:=by rw [HE.out,List.length_append,hkk];rfl
         refine ⟨k+1,A5,c5,HLT.out.1,by go_num,by rw [e1],Lib.hid ?_,Lib.hid ?_⟩
         ·unfold OwnM
          rw [e1,HE.out,← cellsM_snoc]
          exact HO5.out.1
         ·exact (HB.out.trans ((below_alloc (Below.refl _ _) _).mono HB.out.size)).grown HO5.out.2 (by simp;omega) (fun r e=>(HOL.out.lt r e).1)
        case measure=>have:=HLT.out.1;simp [intOf];omega
      ·have hlt':¬ (k:Int) < (a.length:Int):=by omega
       obtain rfl:k=a.length:=by omega
       rw [List.take_length] at HO ⊢
       have hkl:(keepX a).length≤1000:=Nat.le_trans (List.length_filter_le _ _) (by omega)
       have HNZ:=Lib.hid (HN4.out.later (show Below w4.heap.size w4 wr from HB.out))
       have hsk:Short (keepX a):=fun x hx=>HSA.out.1 x (List.mem_filter.1 hx).1
       have HCK:=Lib.hid (dcheck_any (keepX a) _ wr (HO.out.row hkl) hsk HNZ.out.res)
       have HOB:=Lib.hid (show ∀ W,Below wr.heap.size wr W→OwnM w.heap.size W (.slice A0 (keepX a).length cc) (keepX a) from fun W hW=>by
        have h1:=HO.out.later hW
        exact owns_base h1 HN4.out.below.size)
       clear hlt hsk hkl
       by_cases h0:chkD (keepX a)=0
       ·have HR:=Lib.hid (show mk=.ok (keepX a) by rw [HMK3.out];unfold doneX;rw [if_neg (by simpa using h0)])
        rw [h0] at HCK
        change Hid (Calls _ _ _ _ fun e w'=>e=.returned (.int .i64 0)∧_) at HCK
        clear h0
        go_wp2_with (go_at_call 36;refine HCK.out.mono ?_;rintro e w6 ⟨rfl,hb⟩;have H6:=Lib.hid (And.intro hb (HNZ.out.later hb));clear hb)
        go_ret2
        rw [HR.out]
        exact ⟨⟨_,rfl,HOB.out _ H6.out.1⟩,H6.out.2.below⟩
       ·have HR:=Lib.hid (show mk=.error (chkD (keepX a)) by rw [HMK3.out];unfold doneX;rw [if_pos h0])
        have hm:=ne_zero h0
        clear h0
        go_wp2_with (go_at_call 36;refine HCK.out.mono ?_;rintro e w6 ⟨rfl,hb⟩;have H6:=Lib.hid (HNZ.out.later hb);clear hb)
        go_ret2
        rw [HR.out]
        exact ⟨rfl,H6.out.below⟩
end Go.Proofs.YtigapglmipmbeaaGreatDoor
namespace Go.Proofs.YtigapglmipmbeaaGreatDoor
open Go.RowKit Go.Shelf
open Lim
attribute [local go_sem] Oper.semAt_some
def sameX (a b:List L2):Bool:=decide (a=b)
theorem sameX_len {a b:List L2} (h:a.length≠b.length):sameX a b=false:=decide_eq_false fun e=>h (congrArg List.length e)
theorem sameX_at {a b:List L2} {k:Nat} {x y:L2} (hx:a[k]?=some x) (hy:b[k]?=some y) (h:x≠y):sameX a b=false:=decide_eq_false fun e=>h (by
 rw [e,hy] at hx
 exact (Option.some.inj hx).symm)
theorem sameX_all {a b:List L2} (hl:a.length=b.length) (h:∀ k,k < a.length→a[k]?=b[k]?):sameX a b=true:=decide_eq_true (List.ext_getElem? fun k=>by
 rcases Nat.lt_or_ge k a.length with h1|h1
 ·exact h k h1
 ·rw [List.getElem?_eq_none h1,List.getElem?_eq_none (by omega)])
theorem sameX_refl (a:List L2):sameX a a=true:=decide_eq_true rfl
theorem equalM_any (a b:List L2) (va vb:Value) (w:World) (ha:LRow w va a) (hb:LRow w vb b) (hr:Res w) :
  Calls Tryz.prog 127 #[va,vb] w fun e w'=>e=.returned (.bool (sameX a b))∧Below w.heap.size w w':=by
 have HA:=Lib.hid ha
 have HB:=Lib.hid hb
 have N0:=Lib.hid (NW.refl hr)
 obtain ⟨A,c,rfl,hlen,hcells⟩:=ha
 obtain ⟨A',c',rfl,hlen',hcells'⟩:=hb
 clear hcells hcells' hr
 by_cases hl:a.length=b.length
 ·have hl1:((a.length:Int) != (b.length:Int))=false:=by rw [hl];exact bne_self_eq_false _
  have HL:=Lib.hid hl
  rw [← hl] at HB hl1
  rw [← hl]
  clear hl hlen'
  go_enter Tryz.func127,Tryz.ntmps127
  go_wp2
  go_loopw [13] (fun v13 wr=>∃ k:Nat,k≤a.length∧v13=.int .i64 (k:Int)∧Hid (∀ j,j < k→a[j]?=b[j]?)∧Hid (NW w wr)) (fun v13 _=>a.length - (intOf v13).toNat)
  case atStart=>exact ⟨0,Nat.zero_le _,rfl,Lib.hid (fun j h=>absurd h (by omega)),N0⟩
  case round =>
   clear N0
   obtain ⟨k,hk,rfl,HE,HN⟩:=hrel
   by_cases hlt:k < a.length
   ·obtain ⟨x,hx⟩:∃ x,a[k]?=some x:=⟨_,List.getElem?_eq_getElem hlt⟩
    obtain ⟨y,hy⟩:∃ y,b[k]?=some y:=⟨_,List.getElem?_eq_getElem (by have:=HL.out;omega)⟩
    obtain ⟨b1,o1,c1',e1,hb1,c0,c1⟩:=HA.out.at HN.out.below hx
    simp only [Value.slice.injEq,true_and] at e1
    obtain ⟨rfl,rfl⟩:=e1
    obtain ⟨b2,o2,c2',e2,hb2,d0,d1⟩:=HB.out.at HN.out.below hy
    rw [← HL.out] at e2
    simp only [Value.slice.injEq,true_and] at e2
    obtain ⟨rfl,rfl⟩:=e2
    have hlt':(k:Int) < (a.length:Int):=by omega
    have HLT:=Lib.hid (And.intro hlt hlt')
    have HX:=Lib.hid (And.intro hx hy)
    obtain ⟨f,d⟩:=x
    obtain ⟨g,e⟩:=y
    dsimp only at c0 c1 d0 d1
    have T1:=eq_bytes f g
    have T2:=eq_bytes d e
    clear hx hy hlt
    by_cases h1:f=g
    ·rw [decide_eq_true h1] at T1
     by_cases h2:d=e
     ·rw [decide_eq_true h2] at T2
      have HR:=Lib.hid (show ∀ j,j < k+1→a[j]?=b[j]? from fun j hj=>by
       rcases Nat.lt_or_ge j k with h|h
       ·exact HE.out j h
       ·obtain rfl:j=k:=by omega
        rw [HX.out.1,HX.out.2,h1,h2])
      clear h1 h2
      go_wp2
      go_quiet (fail)
      have H4:=Lib.hid (fun n=>HN.out.drewN n)
      go_wp2
      go_roundw
      case rel=>exact ⟨k+1,HLT.out.1,by go_num,HR,H4.out _⟩
      case measure=>have:=HLT.out.1;simp [intOf];omega
     ·rw [decide_eq_false h2] at T2
      have HR:=Lib.hid (sameX_at HX.out.1 HX.out.2 (fun e=>h2 (Prod.mk.inj e).2))
      clear h1 h2
      go_wp2
      go_quiet (fail)
      have H4:=Lib.hid (fun n=>HN.out.drewN n)
      go_wp2
      go_ret
      rw [HR.out]
      exact ⟨rfl,(H4.out _).below⟩
    ·rw [decide_eq_false h1] at T1
     have HR:=Lib.hid (sameX_at HX.out.1 HX.out.2 (fun e=>h1 (Prod.mk.inj e).1))
     clear h1
     go_wp2
     go_quiet (fail)
     have H4:=Lib.hid (fun n=>HN.out.drewN n)
     go_wp2
     go_ret
     rw [HR.out]
     exact ⟨rfl,(H4.out _).below⟩
   ·have hlt':¬ (k:Int) < (a.length:Int):=by omega
    have HR:=Lib.hid (sameX_all HL.out fun j hj=>HE.out j (by omega))
    clear hlt
    go_wp2
    go_ret
    rw [HR.out]
    exact ⟨rfl,HN.out.below⟩
 ·have hl1:((a.length:Int) != (b.length:Int))=true:=by rw [bne_iff_ne];omega
  have hl2:((a.length:Int)==(b.length:Int))=false:=by rw [beq_eq_false_iff_ne];omega
  have HR:=Lib.hid (sameX_len hl)
  clear hl
  go_enter Tryz.func127,Tryz.ntmps127
  go_wp2
  go_ret
  rw [HR.out]
  exact ⟨rfl,N0.out.below⟩
theorem dsame_any (a b:List L2) (va vb:Value) (w:World) (ha:LRow w va a) (hb:LRow w vb b) (hr:Res w) :
  Calls Tryz.prog 40 #[va,vb] w fun e w'=>e=.returned (.bool (sameX a b))∧Below w.heap.size w w':=by
 have HE:=Lib.hid (equalM_any a b va vb w ha hb hr)
 clear ha hb hr
 go_enter Tryz.func40,Tryz.ntmps40
 go_wp2_with (go_at_call 127;refine HE.out.mono ?_;rintro e w3 ⟨rfl,hb⟩;have H3:=Lib.hid hb;clear hb)
 go_ret
 exact ⟨rfl,H3.out⟩
end Go.Proofs.YtigapglmipmbeaaGreatDoor
namespace Go.Proofs.YtigapglmipmbeaaGreatDoor
open Go.RowKit Go.Shelf
open Lim
def halfL:List L2:=[(⟨#[97]⟩,⟨#[49,47,50]⟩),(⟨#[98]⟩,⟨#[49,47,50]⟩)]
def thirdsL:List L2:=[(⟨#[97]⟩,⟨#[49,47,51]⟩),(⟨#[98]⟩,⟨#[50,47,51]⟩)]
def livesL:List L2:=[(⟨#[98]⟩,⟨#[49,47,50]⟩),(⟨#[97]⟩,⟨#[49,47,52]⟩),(⟨#[97]⟩,⟨#[49,47,52]⟩),(⟨#[99]⟩,⟨#[48]⟩)]
theorem ex_make:makeX livesL=.ok halfL:=by kernel_rfl
theorem ex_delta:deltaX halfL thirdsL oT=.ok ⟨#[49,47,54]⟩:=by kernel_rfl
theorem ex_mom:momV halfL thirdsL 2=.tuple #[.string ⟨#[57,47,56]⟩,.bool true,.int .i64 0]:=by kernel_rfl
theorem short_lit {ls:List L2} (h:(ls.all fun x=>decide (x.1.size≤270000)&&decide (x.2.size≤270000))=true):Short ls:=fun x hx=>by
 have:=List.all_eq_true.1 h x hx
 simpa using this
theorem short_half:Short halfL:=short_lit (by decide)
theorem short_thirds:Short thirdsL:=short_lit (by decide)
theorem short_lives:Short livesL:=short_lit (by decide)
theorem half_any (w:World):Calls Tryz.prog 43 #[] w fun e w'=>e=.returned (.slice (some ⟨w.heap.size,0,none⟩) 2 2)∧w'=w.alloc (.cells #[.string ⟨#[97]⟩,.string ⟨#[49,47,50]⟩,.string ⟨#[98]⟩,.string ⟨#[49,47,50]⟩] 30):=by
 go_enter Tryz.func43,Tryz.ntmps43
 go_wp2
 go_ret
 exact ⟨rfl,rfl⟩
theorem half_row (w:World):LRow (w.alloc (.cells #[.string ⟨#[97]⟩,.string ⟨#[49,47,50]⟩,.string ⟨#[98]⟩,.string ⟨#[49,47,50]⟩] 30)) (.slice (some ⟨w.heap.size,0,none⟩) 2 2) halfL:=LRow.ofBlk (Blk.new w 30 #[.string ⟨#[97]⟩,.string ⟨#[49,47,50]⟩,.string ⟨#[98]⟩,.string ⟨#[49,47,50]⟩]) rfl (by decide)
theorem half_call (w:World) (_hr:Res w):Calls Tryz.prog 43 #[] w fun e w'=>(∃ b,e=.returned (.slice (some ⟨b,0,none⟩) 2 2)∧LRow w' (.slice (some ⟨b,0,none⟩) 2 2) halfL)∧Below w.heap.size w w':=by
 refine (half_any w).mono ?_
 rintro e w' ⟨rfl,rfl⟩
 exact ⟨⟨_,rfl,half_row w⟩,below_alloc (Below.refl _ _) _⟩
theorem thirds_any (w:World):Calls Tryz.prog 44 #[] w fun e w'=>e=.returned (.slice (some ⟨w.heap.size,0,none⟩) 2 2)∧w'=w.alloc (.cells #[.string ⟨#[97]⟩,.string ⟨#[49,47,51]⟩,.string ⟨#[98]⟩,.string ⟨#[50,47,51]⟩] 30):=by
 go_enter Tryz.func44,Tryz.ntmps44
 go_wp2
 go_ret
 exact ⟨rfl,rfl⟩
theorem thirds_row (w:World):LRow (w.alloc (.cells #[.string ⟨#[97]⟩,.string ⟨#[49,47,51]⟩,.string ⟨#[98]⟩,.string ⟨#[50,47,51]⟩] 30)) (.slice (some ⟨w.heap.size,0,none⟩) 2 2) thirdsL:=LRow.ofBlk (Blk.new w 30 #[.string ⟨#[97]⟩,.string ⟨#[49,47,51]⟩,.string ⟨#[98]⟩,.string ⟨#[50,47,51]⟩]) rfl (by decide)
theorem thirds_call (w:World) (_hr:Res w):Calls Tryz.prog 44 #[] w fun e w'=>(∃ b,e=.returned (.slice (some ⟨b,0,none⟩) 2 2)∧LRow w' (.slice (some ⟨b,0,none⟩) 2 2) thirdsL)∧Below w.heap.size w w':=by
 refine (thirds_any w).mono ?_
 rintro e w' ⟨rfl,rfl⟩
 exact ⟨⟨_,rfl,thirds_row w⟩,below_alloc (Below.refl _ _) _⟩
theorem dlives_any (w:World) (hr:Res w):Calls Tryz.prog 21 #[] w fun e w'=>e=.returned (.bool true)∧Below w.heap.size w w':=by
 have NA:=Lib.hid ((NW.refl hr).alloc (.cells #[.string ⟨#[98]⟩,.string ⟨#[49,47,50]⟩,.string ⟨#[97]⟩,.string ⟨#[49,47,52]⟩,.string ⟨#[97]⟩,.string ⟨#[49,47,52]⟩,.string ⟨#[99]⟩,.string ⟨#[48]⟩] 30))
 have HMK:=Lib.hid (dmake_any livesL (.slice (some ⟨w.heap.size,0,none⟩) 4 4) _ (LRow.ofBlk (Blk.new w 30 #[.string ⟨#[98]⟩,.string ⟨#[49,47,50]⟩,.string ⟨#[97]⟩,.string ⟨#[49,47,52]⟩,.string ⟨#[97]⟩,.string ⟨#[49,47,52]⟩,.string ⟨#[99]⟩,.string ⟨#[48]⟩]) rfl (by decide)) short_lives NA.out.res)
 rw [ex_make] at HMK
 have HDL:=Lib.hid (fun vp vq (w:World) hp hq hr=>ddelta_any halfL thirdsL vp vq oT w hp hq short_half short_thirds oT_small hr)
 rw [ex_delta] at HDL
 have HMO:=Lib.hid (fun vp vq (w:World) hp hq hr=>dmoment_any halfL thirdsL vp vq 2 w hp hq short_half short_thirds hr)
 rw [ex_mom] at HMO
 have HSM:=Lib.hid (fun va vb (w:World) ha hb hr=>dsame_any halfL halfL va vb w ha hb hr)
 rw [sameX_refl] at HSM
 have HMK2:=HMK
 change Hid (Calls _ _ _ _ fun e w'=>(∃ u,e=.returned (.tuple #[u,.int .i64 0])∧OwnM _ w' u halfL)∧_) at HMK
 change Hid (∀ vp vq w,_→_→_→Calls _ _ #[vp,vq,.string ⟨#[49]⟩] _ fun e w'=>e=.returned (.tuple #[.string ⟨#[49,47,54]⟩,.int .i64 0])∧_) at HDL
 have N0:=NA
 clear hr HMK2 NA
 have TK0:True:=trivial
 have TK1:True:=trivial
 have TK2:True:=trivial
 have TK3:True:=trivial
 have TK4:True:=trivial
 have TK5:True:=trivial
 have TK6:True:=trivial
 have TK7:True:=trivial
 have TK8:True:=trivial
 go_enter Tryz.func21,Tryz.ntmps21
 go_wp2_with ((clear TK0;go_at_call 25;refine (HMK.out).mono ?_;rintro e w1 ⟨⟨u,rfl,hu⟩,hb⟩;have N1:=Lib.hid (N0.out.later hb);clear hb;obtain ⟨A1,c1,rfl⟩:=hu.slice;have HU:=Lib.hid hu;clear hu))
 go_wp2_with ((clear TK1;go_at_call 43;refine (half_call _ N1.out.res).mono ?_;rintro e w2 ⟨⟨b2,rfl,r2⟩,hb⟩;have hb2:=hb;have N2:=Lib.hid (N1.out.later hb);clear hb;have R2:=Lib.hid r2;clear r2;have HU2:=Lib.hid (HU.out.later hb2);clear hb2))
 go_wp2_with ((clear TK2;go_at_call 44;refine (thirds_call _ N2.out.res).mono ?_;rintro e w3 ⟨⟨b3,rfl,r3⟩,hb⟩;have hb3:=hb;have N3:=Lib.hid (N2.out.later hb);clear hb;have R3:=Lib.hid r3;clear r3;have Q3:=Lib.hid (R2.out.below hb3);have HU3:=Lib.hid (HU2.out.later hb3);clear hb3))
 go_wp2_with ((clear TK3;go_at_call 45;refine (HDL.out _ _ _ Q3.out R3.out N3.out.res).mono ?_;rintro e w4 ⟨rfl,hb⟩;have hb4:=hb;have N4:=Lib.hid (N3.out.later hb);clear hb;have HU4:=Lib.hid (HU3.out.later hb4);clear hb4))
 go_wp2_with ((clear TK4;go_at_call 43;refine (half_call _ N4.out.res).mono ?_;rintro e w5 ⟨⟨b5,rfl,r5⟩,hb⟩;have hb5:=hb;have N5:=Lib.hid (N4.out.later hb);clear hb;have R5:=Lib.hid r5;clear r5;have HU5:=Lib.hid (HU4.out.later hb5);clear hb5))
 go_wp2_with ((clear TK5;go_at_call 44;refine (thirds_call _ N5.out.res).mono ?_;rintro e w6 ⟨⟨b6,rfl,r6⟩,hb⟩;have hb6:=hb;have N6:=Lib.hid (N5.out.later hb);clear hb;have R6:=Lib.hid r6;clear r6;have Q6:=Lib.hid (R5.out.below hb6);have HU6:=Lib.hid (HU5.out.later hb6);clear hb6))
 go_wp2_with ((clear TK6;go_at_call 48;refine (HMO.out _ _ _ Q6.out R6.out N6.out.res).mono ?_;rintro e w7 ⟨rfl,hb⟩;have hb7:=hb;have N7:=Lib.hid (N6.out.later hb);clear hb;have HU7:=Lib.hid (HU6.out.later hb7);clear hb7))
 go_wp2_with ((clear TK7;go_at_call 43;refine (half_call _ N7.out.res).mono ?_;rintro e w8 ⟨⟨b8,rfl,r8⟩,hb⟩;have hb8:=hb;have N8:=Lib.hid (N7.out.later hb);clear hb;have R8:=Lib.hid r8;clear r8;have HU8:=Lib.hid ((HU7.out.later hb8).row (by decide));clear hb8))
 go_wp2_with ((clear TK8;go_at_call 40;refine (HSM.out _ _ _ HU8.out R8.out N8.out.res).mono ?_;rintro e w9 ⟨rfl,hb⟩;have N9:=Lib.hid (N8.out.later hb);clear hb))
 go_wp2
 go_ret
 exact ⟨rfl,N9.out.below⟩
end Go.Proofs.YtigapglmipmbeaaGreatDoor
namespace Go.Proofs.YtigapglmipmbeaaGreatDoor
open Go.RowKit Go.Shelf
theorem own_cells {base n size:Nat} {w:World} {E:TypeId} {v:Value} {us:List Value} (h:w.ownsRow base E size v n us) {r:Nat} (hr:v.ownBlock=some r):∃ cur,w.heap[r]?=some (.cells cur E (0,0)):=by
 rcases h.2 with ⟨e,_⟩|⟨g,cap,cur,e,_,hh,_⟩
 ·subst e;cases hr
 ·subst e
  simp only [Value.ownBlock,Option.some.injEq] at hr
  subst hr
  exact ⟨cur,hh⟩
theorem owns_later {base n size:Nat} {w w':World} {E:TypeId} {v:Value} {us:List Value} (h:w.ownsRow base E size v n us) (hb:Below w.heap.size w w'):w'.ownsRow base E size v n us:=by
 refine World.ownsRow.kept h (grown_none' hb none) ?_
 cases v.ownBlock with
 | none=>exact .inl rfl
 | some g=>exact .inr (by simp)
end Go.Proofs.YtigapglmipmbeaaGreatDoor
namespace Go.Proofs.YtigapglmipmbeaaGreatDoor
end Go.Proofs.YtigapglmipmbeaaGreatDoor
namespace Go.Proofs.YtigapglmipmbeaaGreatDoor
open Lim
section
variable {a b:Nat} {ls la lb:List L2}
end
end Go.Proofs.YtigapglmipmbeaaGreatDoor
namespace Go.Proofs.YtigapglmipmbeaaGreatDoor
open Go.RowKit Go.Shelf
end Go.Proofs.YtigapglmipmbeaaGreatDoor
namespace Go.Proofs.YtigapglmipmbeaaGreatDoor
open Go.RowKit Go.Shelf
open Lim
end Go.Proofs.YtigapglmipmbeaaGreatDoor
namespace Go.Proofs.YtigapglmipmbeaaGreatDoor
open Go.RowKit
structure LaterW (w:World) where
 W:World
 h:Below w.heap.size w W
instance (w:World):Nonempty (LaterW w):=⟨⟨w,Below.refl _ _⟩⟩
end Go.Proofs.YtigapglmipmbeaaGreatDoor
namespace Go.Proofs.YtigapglmipmbeaaGreatDoor
open Go.RowKit Go.Shelf
open Lim
theorem wide_fn (f:FuncId):Fence.wide.fn f↔True:=iff_of_true trivial trivial
theorem LaterW.at {w:World} {b o:Nat} {u:Value} (hb:b < w.heap.size) (h:w.cell? ⟨b,o,none⟩=some u):∀ z:LaterW w,z.W.cell? ⟨b,o,none⟩=some u:=fun z=>(z.h.cell (p:=⟨b,o,none⟩) hb).trans h
theorem addr_add0 (g j i:Nat):((⟨g,j,none⟩:Addr).add i)=⟨g,j+i,none⟩:=by unfold Addr.add;split<;>simp_all
theorem cellsM_set:∀ {l:List L2} {k:Nat} {y:L2} (s:ByteArray),l[k]?=some y→cellsM (l.set k (y.1,s))=(cellsM l).set (k*2+1) (.string s)
 | [],k,y,s,h=>by simp at h
 | x::l,0,y,s,h=>by
  simp only [List.getElem?_cons_zero,Option.some.injEq] at h
  subst h
  rfl
 | x::l,k+1,y,s,h=>by
  rw [List.set_cons_succ,cellsM_cons,cellsM_cons,cellsM_set s (by simpa using h),show (k+1)*2+1=k*2+1+1+1 by omega,List.set_cons_succ,List.set_cons_succ]
theorem one_cellsM (l:List L2):∀ u∈cellsM l,u.oneCell'=true:=fun u hu=>by
 unfold cellsM at hu
 obtain ⟨x,_,hx⟩:=List.mem_flatMap.1 hu
 simp only [List.mem_cons,List.not_mem_nil,or_false] at hx
 rcases hx with rfl|rfl<;>rfl
theorem one_pairM (x:L2):∀ u∈([.string x.1,.string x.2]:List Value),u.oneCell'=true:=fun u hu=>by
 simp only [List.mem_cons,List.not_mem_nil,or_false] at hu
 rcases hu with rfl|rfl<;>rfl
theorem own_atM {W:World} {base b:Nat} (hb:base≤b) (h:W.heap[b]?=some (.cells #[] 30 (0,0))):W.ownsRow base 30 2 (.slice (some ⟨b,0,none⟩) 0 0) 0 [] :=
 ⟨rfl,.inr ⟨b,0,#[],rfl,hb,h,Nat.le_refl _,Nat.zero_le _,rfl,rfl⟩⟩
theorem grow_belowM {n size m:Nat} {w W W':World} {e:TypeId} {v:Value} {xs:List Value} (h:Below n w W) (hn:n≤W.heap.size) (ho:W.ownsRow n e size v m xs) (hg:W.grownBy W' v.ownBlock):Below n w W' :=
 ⟨hg.os.trans h.os,hg.tape.trans h.tape,hg.output.trans h.output,Nat.le_trans h.size hg.size,fun k hk=>(hg.block k (by omega) fun e=>by have:=(ho.lt k e.symm).1;omega).trans (h.block k hk)⟩
section
variable {w W W':World} {ls a:List L2} {i:Nat} {v:Value}
end
end Go.Proofs.YtigapglmipmbeaaGreatDoor
namespace Go.Proofs.YtigapglmipmbeaaGreatDoor
open Go.RowKit Go.Shelf
open Lim
attribute [local go_sem] Oper.semAt_some
theorem LRow.src {w:World} {b o n c:Nat} {ls:List L2} (h:LRow w (.slice (some ⟨b,o,none⟩) n c) ls) (h0:0 < ls.length):∀ j u,(cellsM ls)[j]?=some u→w.cell? ((⟨b,o,none⟩:Addr).add j)=some u:=by
 obtain ⟨A,c',e,_,hc⟩:=h
 simp only [Value.slice.injEq] at e
 obtain ⟨b',o',e2,_,hcell⟩:=hc h0
 rw [← e.1] at e2
 simp only [Option.some.injEq,Addr.mk.injEq] at e2
 obtain ⟨rfl,rfl,_⟩:=e2
 intro j u hu
 have hj:j < ls.length*2:=by rw [← cellsM_length];exact (List.getElem?_eq_some_iff.1 hu).1
 obtain ⟨x,hx⟩:∃ x,ls[j / 2]?=some x:=⟨_,List.getElem?_eq_getElem (by omega)⟩
 obtain ⟨c0,c1⟩:=hcell _ _ hx
 obtain ⟨m0,m1⟩:=cellsM_at hx
 rw [addr_add0]
 rcases Nat.mod_two_eq_zero_or_one j with h|h
 ·rw [show j / 2*2=j by omega] at c0 m0
  rw [m0] at hu;cases hu;exact c0
 ·rw [show o+j / 2*2+1=o+j by omega] at c1
  rw [show j / 2*2+1=j by omega] at m1
  rw [m1] at hu;cases hu;exact c1
theorem LRow.ofPos {w:World} {v:Value} {ls:List L2} (h:LRow w v ls) (h0:0 < ls.length):∃ b o c,v=.slice (some ⟨b,o,none⟩) ls.length c:=by
 obtain ⟨A,c,e,_,hc⟩:=h
 obtain ⟨b,o,rfl,_,_⟩:=hc h0
 exact ⟨b,o,c,e⟩
theorem OwnM.ofPos {base:Nat} {w:World} {v:Value} {ls:List L2} (h:OwnM base w v ls) (h0:0 < ls.length):∃ g c,v=.slice (some ⟨g,0,none⟩) ls.length c∧base≤g:=by
 rcases h.2 with ⟨_,e⟩|⟨g,cap,cur,e,hb,_⟩
 ·omega
 ·exact ⟨g,cap,e,hb⟩
theorem OwnM.cell {base g n c k:Nat} {w:World} {ls:List L2} {x:L2} (h:OwnM base w (.slice (some ⟨g,0,none⟩) n c) ls) (hx:ls[k]?=some x):w.cell? ⟨g,k*2,none⟩=some (.string x.1)∧w.cell? ⟨g,k*2+1,none⟩=some (.string x.2)∧g < w.heap.size:=by
 obtain ⟨c0,c1⟩:=cellsM_at hx
 have r0:=World.ownsRow.cells h (g:=g) rfl _ _ c0
 have r1:=World.ownsRow.cells h (g:=g) rfl _ _ c1
 rw [addr_add0,Nat.zero_add] at r0 r1
 exact ⟨r0,r1,(World.ownsRow.lt h g rfl).2⟩
theorem OwnM.frozen {base g n c:Nat} {w:World} {ls:List L2} (h:OwnM base w (.slice (some ⟨g,0,none⟩) n c) ls) (j:Nat):w.frozen? ⟨g,j,none⟩=false:=by
 rcases h.2 with ⟨h',_⟩|⟨g',cap',cur,h',_,hg,_⟩
 ·simp at h'
 ·simp only [Value.slice.injEq,Option.some.injEq,Addr.mk.injEq,and_true] at h'
  obtain ⟨rfl,_⟩:=h'
  exact frozen_of_row w g j cur _ hg
theorem OwnM.len {base g n c:Nat} {w:World} {ls:List L2} (h:OwnM base w (.slice (some ⟨g,0,none⟩) n c) ls):n=ls.length:=by
 rcases h.2 with ⟨h',_⟩|⟨g',cap',cur,h',_⟩
 ·simp at h'
 ·simp only [Value.slice.injEq] at h';exact h'.2.1
theorem OwnM.set2 {base g n c k:Nat} {w:World} {ls:List L2} {y:L2} (s:ByteArray) (h:OwnM base w (.slice (some ⟨g,0,none⟩) n c) ls) (hy:ls[k]?=some y) :
  OwnM base (w.setCell ⟨g,k*2+1,none⟩ (.string s)) (.slice (some ⟨g,0,none⟩) n c) (ls.set k (y.1,s))∧w.grownBy (w.setCell ⟨g,k*2+1,none⟩ (.string s)) (some g):=by
 obtain rfl:=h.len
 obtain ⟨r1,r2⟩:=World.ownsRow.stored h (k*2+1) (.string s)
 refine ⟨?_,r2⟩
 unfold OwnM
 rw [List.length_set,cellsM_set s hy]
 exact r1
theorem cellsM_set1:∀ {l:List L2} {k:Nat} {y:L2} (s:ByteArray),l[k]?=some y→cellsM (l.set k (s,y.2))=(cellsM l).set (k*2) (.string s)
 | [],k,y,s,h=>by simp at h
 | x::l,0,y,s,h=>by
  simp only [List.getElem?_cons_zero,Option.some.injEq] at h
  subst h
  rfl
 | x::l,k+1,y,s,h=>by
  rw [List.set_cons_succ,cellsM_cons,cellsM_cons,cellsM_set1 s (by simpa using h),show (k+1)*2=k*2+1+1 by omega,List.set_cons_succ,List.set_cons_succ]
theorem OwnM.set1 {base g n c k:Nat} {w:World} {ls:List L2} {y:L2} (s:ByteArray) (h:OwnM base w (.slice (some ⟨g,0,none⟩) n c) ls) (hy:ls[k]?=some y) :
  OwnM base (w.setCell ⟨g,k*2,none⟩ (.string s)) (.slice (some ⟨g,0,none⟩) n c) (ls.set k (s,y.2))∧w.grownBy (w.setCell ⟨g,k*2,none⟩ (.string s)) (some g):=by
 obtain rfl:=h.len
 obtain ⟨r1,r2⟩:=World.ownsRow.stored h (k*2) (.string s)
 refine ⟨?_,r2⟩
 unfold OwnM
 rw [List.length_set,cellsM_set1 s hy]
 exact r1
theorem set_mid {α:Type} (d:List α) (y z:α) (r:List α):(d++y::r).set d.length z=d++z::r:=by rw [List.set_append_right _ _ (Nat.le_refl _)];simp
theorem get_mid {α:Type} (d:List α) (y:α) (r:List α):(d++y::r)[d.length]?=some y:=by rw [List.getElem?_append_right (Nat.le_refl _)];simp
theorem dclone_any (ls:List L2) (v:Value) (w:World) (hv:LRow w v ls) (h0:0 < ls.length) :
  Calls Tryz.prog 120 #[v] w fun e w'=>(∃ g c,e=.returned (.slice (some ⟨g,0,none⟩) ls.length c)∧w.heap.size≤g∧OwnM w.heap.size w' (.slice (some ⟨g,0,none⟩) ls.length c) ls)∧Below w.heap.size w w':=by
 obtain ⟨b,o,c,rfl⟩:=hv.ofPos h0
 have HL:=Lib.hid (show ls.length≤1000 from hv.choose_spec.choose_spec.2.1)
 have HS:=Lib.hid (hv.below (below_alloc (Below.refl _ _) (.cells #[] 30)))
 have HC:=Lib.hid (HS.out.src h0)
 have HO:=Lib.hid (own_atM (W:=w.alloc (.cells #[] 30)) (Nat.le_refl w.heap.size) (heap_alloc_new w _))
 have HB0:=Lib.hid (below_alloc (Below.refl w.heap.size w) (.cells #[] 30))
 have H0:=Lib.hid h0
 obtain ⟨i0,hi,hz0,hz1,hz2⟩:=info_parts infoM
 have hq:=Lib.run_eql_slice_nil (P:=Tryz.prog) w 22 30 (some ⟨b,o,none⟩) ls.length c 0 0 Tryz.underlying22
 clear hv h0
 go_enter Tryz.func120,Tryz.ntmps120
 go_wp2_with (at_builtin;refine wpList_append_own _ rfl _ _ 22 rfl w.heap.size 30 i0 (.agg #[.string ByteArray.empty,.string ByteArray.empty]) 2 32 Tryz.underlying22 hi hz0 hz1 hz2 rfl (by decide) _ _ _ rfl HO.out ⟨b,o,none⟩ ls.length c (cellsM ls) rfl (cellsM_length ls) HC.out (one_cellsM ls) (by have:=HL.out;unfold maxLen;omega) (by have:=HL.out;omega) HB0.out.size ?_;intro v' w4 hown4 hgrow4 _;have HO4:=Lib.hid hown4;have HB4:=Lib.hid (grow_belowM HB0.out HB0.out.size HO.out hgrow4);clear hown4 hgrow4)
 go_ret
 have ho:OwnM w.heap.size w4 v' ls:=by
  have:=HO4.out
  rwa [Nat.zero_add,List.nil_append] at this
 obtain ⟨g,c4,rfl,hg⟩:=ho.ofPos H0.out
 exact ⟨⟨g,c4,rfl,hg,ho⟩,HB4.out⟩
def scaleR (done:List L2) (r:Except Nat (List L2)):Except Nat (List L2):=match r with
 | .error n=>.error n
 | .ok m=>.ok (done++m)
theorem scaleR_nil (r:Except Nat (List L2)):scaleR [] r=r:=by cases r<;>rfl
theorem scaleX_err {x:L2} {l:List L2} {b:ByteArray} {n:Nat} (h:mulX x.2 b=.error n):scaleX (x::l) b=.error n:=by simp only [scaleX,h]
theorem scaleX_go {x:L2} {l done:List L2} {b p:ByteArray} (h:mulX x.2 b=.ok p):scaleR done (scaleX (x::l) b)=scaleR (done++[(x.1,p)]) (scaleX l b):=by
 simp only [scaleX,h]
 cases scaleX l b with
 | error n=>rfl
 | ok m=>simp [scaleR]
theorem scaleX_ne {b:ByteArray}:∀ {l:List L2} {n:Nat},scaleX l b=.error n→n≠0
 | [],n,h=>by cases h
 | x::l,n,h=>by
  unfold scaleX at h
  split at h
  ·rename_i m hm;cases h;exact exQ_err hm
  ·split at h
   ·rename_i m hm;cases h;exact scaleX_ne hm
   ·cases h
theorem scaleX_len {b:ByteArray}:∀ {l m:List L2},scaleX l b=.ok m→m.length=l.length
 | [],m,h=>by cases h;rfl
 | x::l,m,h=>by
  unfold scaleX at h
  split at h
  ·cases h
  ·split at h
   ·cases h
   ·rename_i r hr
    cases h
    rw [List.length_cons,List.length_cons,scaleX_len hr]
theorem scaleX_short {b:ByteArray}:∀ {l m:List L2},scaleX l b=.ok m→Short l→Short m
 | [],m,h,_=>by cases h;exact fun x hx=>by cases hx
 | x::l,m,h,hs=>by
  unfold scaleX at h
  split at h
  ·cases h
  ·rename_i p hp
   split at h
   ·cases h
   ·rename_i r hr
    cases h
    exact short_cons.2 ⟨⟨(hs x (by simp)).1,size_ok (mulX_ok hp)⟩,scaleX_short hr fun y hy=>hs y (by simp [hy])⟩
theorem dscaled_any (ls:List L2) (v:Value) (b:ByteArray) (w:World) (hv:LRow w v ls) (h0:0 < ls.length) (hs:Short ls) (hb:b.size≤270000) (hr:Res w) :
  Calls Tryz.prog 118 #[v,.string b] w fun e w'=>ResM w.heap.size (scaleX ls b) e w'∧Below w.heap.size w w':=by
 have HS:=Lib.hid hs
 have HCL:=Lib.hid (dclone_any ls v w hv h0)
 have HRS:=Lib.hid hr
 have N0:=Lib.hid (NW.refl hr)
 have HBS:=Lib.hid hb
 have hll:ls.length≤1000:=hv.choose_spec.choose_spec.2.1
 obtain ⟨b0,o0,c0,rfl⟩:=hv.ofPos h0
 clear hv h0 hs hr hb
 generalize hm:scaleX ls b=mk
 have HMK:=Lib.hid hm
 clear hm
 go_enter Tryz.func118,Tryz.ntmps118
 go_wp2_with (go_at_call 120;refine HCL.out.mono ?_;rintro e w1 ⟨⟨g,cc,rfl,hg,ho⟩,hb⟩;have HG:=Lib.hid hg;have HO:=Lib.hid ho;have N1:=Lib.hid (N0.out.later hb);clear hg ho hb)
 go_loopw [13] (fun v13 wr=>∃ done:List L2,done.length≤ls.length∧v13=.int .i64 (done.length:Int)∧Hid (mk=scaleR done (scaleX (ls.drop done.length) b))∧Hid (OwnM w.heap.size wr (.slice (some ⟨g,0,none⟩) ls.length cc) (done++ls.drop done.length))∧Hid (NW w wr)) (fun v13 _=>ls.length - (intOf v13).toNat)
 case atStart=>exact ⟨[],Nat.zero_le _,rfl,Lib.hid (by rw [scaleR_nil];exact HMK.out.symm),HO,N1⟩
 case round =>
  clear HO N1
  obtain ⟨done,hk,rfl,HE,HO,HN⟩:=hrel
  by_cases hlt:done.length < ls.length
  ·obtain ⟨x,hx⟩:∃ x,ls[done.length]?=some x:=⟨_,List.getElem?_eq_getElem hlt⟩
   have hlt':(done.length:Int) < (ls.length:Int):=by omega
   have HD:=drop_of hx
   have HSX:=Lib.hid (HS.out x (List.mem_of_getElem? hx))
   have HLT:=Lib.hid (And.intro hlt hlt')
   rw [HD] at HE HO
   clear hx hlt HD
   obtain ⟨p0,p1,hgb⟩:=HO.out.cell (get_mid done x _)
   have HMU:=Lib.hid (retMulX HSX.out.2 HBS.out)
   cases hmu:mulX x.2 b with
   | error n =>
    rw [hmu] at HMU
    change Hid (Ret _ _ (.tuple #[.string ⟨#[]⟩,.int .i64 (n:Int)])) at HMU
    have hz:=ne_zero (exQ_err hmu)
    have hz2:=ne_zero2 (exQ_err hmu)
    have HR:=Lib.hid (show mk=.error n by rw [HE.out,scaleX_err hmu];rfl)
    clear hmu
    go_wp2_with (go_at_call 130;refine (HMU.out _ HN.out.res).mono ?_;rintro e w3 ⟨rfl,hb⟩;have H3:=Lib.hid (HN.out.later hb);have HO3:=Lib.hid (OwnM.later HO.out hb);obtain ⟨q0,q1,hgb3⟩:=HO3.out.cell (get_mid done x _);have fz:=OwnM.frozen HO3.out (done.length*2+1);clear hb)
    go_ret2
    rw [HR.out]
    exact ⟨rfl,(grow_nw H3.out HRS.out (OwnM.set2 ⟨#[]⟩ HO3.out (get_mid done x _)).2 (fun r e=>by cases e;exact HG.out)).below⟩
   | ok p =>
    rw [hmu] at HMU
    change Hid (Ret _ _ (.tuple #[.string p,.int .i64 0])) at HMU
    have HR:=Lib.hid (show mk=scaleR (done++[(x.1,p)]) (scaleX (ls.drop (done.length+1)) b) by rw [HE.out,scaleX_go hmu])
    clear hmu
    go_wp2_with (go_at_call 130;refine (HMU.out _ HN.out.res).mono ?_;rintro e w3 ⟨rfl,hb⟩;have H3:=Lib.hid (HN.out.later hb);have HO3:=Lib.hid (OwnM.later HO.out hb);obtain ⟨q0,q1,hgb3⟩:=HO3.out.cell (get_mid done x _);have fz:=OwnM.frozen HO3.out (done.length*2+1);clear hb)
    go_roundw
    case rel =>
     obtain ⟨r1,r2⟩:=OwnM.set2 p HO3.out (get_mid done x _)
     rw [set_mid] at r1
     have e1:(done++[(x.1,p)]).length=done.length+1:=by simp
     exact ⟨done++[(x.1,p)],by rw [e1];exact HLT.out.1,by rw [e1];go_num,Lib.hid (by rw [e1];exact HR.out),Lib.hid (by rw [e1];simpa using r1),Lib.hid (grow_nw H3.out HRS.out r2 (fun r e=>by cases e;exact HG.out))⟩
    case measure=>have:=HLT.out.1;simp [intOf];omega
  ·have hlt':¬ (done.length:Int) < (ls.length:Int):=by omega
   have hd:ls.drop done.length=[]:=List.drop_of_length_le (by omega)
   have HR:=Lib.hid (show mk=.ok done by rw [HE.out,hd];show Except.ok (done++[])=_;rw [List.append_nil])
   rw [hd,List.append_nil] at HO
   clear hlt hd
   go_wp2
   go_ret2
   rw [HR.out]
   exact ⟨⟨_,rfl,HO.out⟩,HN.out.below⟩
end Go.Proofs.YtigapglmipmbeaaGreatDoor
