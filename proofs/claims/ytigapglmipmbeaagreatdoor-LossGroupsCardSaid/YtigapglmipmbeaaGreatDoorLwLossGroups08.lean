/- Texts of given numbers, by reckoning; the examples of losses in plain rationals. The examples of losses that each statement asks first. The statements' lives and light (printed by mkllives.py). LossGroups, as a walk (printed by mkgrp.py). Opening and shutting an argument that is a loss. Slices of structs with slices in them, in memory: how they read, how they are built, what keeps them. Plain words, no program. Opening arguments: lists of masses, of losses, of strings. Facts of the program that each card asks. -/
import Derived.Test.YtigapglmipmbeaaGreatDoorRb10
import Derived.Test.YtigapglmipmbeaaGreatDoorLwLossGroups07
import Derived.Test.YtigapglmipmbeaaGreatDoorLwLossGroups05
import Derived.Test.YtigapglmipmbeaaGreatDoorRb03
import Derived.ProofKit
import Derived.OpenShut
import Derived.ShutString
import Derived.ChangeOld
import Derived.ChangeSame
import Derived.Test.YtigapglmipmbeaaGreatDoorProg
import Derived.WalkKit
import Derived.Handy
import Derived.Lib.Hide
import Derived.BigQuiet
import Derived.Maps.OwnSet
import Derived.Maps.StringElems
import Derived.Maps.AppendAt
import Derived.WalkLawsBesides
import Derived.WalkSpells
import Derived.ChangeSlices
import Derived.Deep.Slices
import Derived.Test.YtigapglmipmbeaaGreatDoorLwLossGroups01
import Derived.Lib.SmallJoins
import Derived.Test.YtigapglmipmbeaaGreatDoorCards
import Derived.Test.YtigapglmipmbeaaGreatDoorTie
import Derived.KernelRfl
import Derived.SevenTiedAt
set_option maxRecDepth 100000
set_option maxHeartbeats 16000000
namespace Go.Proofs.YtigapglmipmbeaaGreatDoor
open Go.RowKit Go.Shelf
open Lim
def litB (m:Bool) (ln ld l:List UInt8) (q:Rat):Bool :=
 NForm ln && NForm ld && decide (dv ld≠0) && decide ((dv ln).gcd (dv ld)=1) && (!m || decide (dv ln≠0)) && decide (ln.length≤100) && decide (ld.length≤100) &&
  decide (mkQ m (dv ln) (dv ld)=q) && decide ((if m then [45] else [])++ln++(if dv ld=1 then [] else 47::ld)=l)
theorem isT_lit (m:Bool) (ln ld:List UInt8) {l:List UInt8} {q:Rat} (h:litB m ln ld l q=true):IsT ⟨l.toArray⟩ q∧Sz 100 q:=by
 unfold litB at h
 simp only [Bool.and_eq_true,decide_eq_true_eq,Bool.or_eq_true,Bool.not_eq_true'] at h
 obtain ⟨⟨⟨⟨⟨⟨⟨⟨h1,h2⟩,h3⟩,h4⟩,h5⟩,h6⟩,h7⟩,h8⟩,h9⟩:=h
 have e1:=NForm.eq h1
 have e2:=NForm.eq h2
 have hm:m=true→dv ln≠0:=fun hm=>by
  rcases h5 with h5 | h5
  ·rw [hm] at h5;cases h5
  ·exact h5
 obtain ⟨p1,p2,p3⟩:=mkQ_low (m:=m) h3 h4
 have hs:Sz 100 q:=by
  rw [← h8,sz_iff (by decide),p1,p2,← Lib.decDigits_length,← Lib.decDigits_length,e1,e2]
  exact ⟨h6,h7⟩
 refine ⟨⟨?_,hs.mono (by decide)⟩,hs⟩
 rw [← h8,text_q h3 h4 hm,e1,e2,h9]
theorem fits_lit {q:Rat} (h:decide (nm q < 10 ^ 60∧q.den < 10 ^ 60)=true):fits q=true :=
 have h2:nm q < 10 ^ 60∧q.den < 10 ^ 60:=of_decide_eq_true h
 fits_sz.2 (Sz.mono (j:=60) h2 (by decide))
theorem t_3_2:IsT ⟨#[51,47,50]⟩ (3/2):=(isT_lit false [51] [50] (by decide +kernel)).1
theorem t_1_10:IsT ⟨#[49,47,49,48]⟩ (1/10):=(isT_lit false [49] [49,48] (by decide +kernel)).1
end Go.Proofs.YtigapglmipmbeaaGreatDoor
namespace Go.Proofs.YtigapglmipmbeaaGreatDoor
open Go.RowKit Go.Shelf
open Lim
theorem valL_is {f d:ByteArray} {l:LQ} (h:LossIs f d l):valL (f,d)=l:=by
 unfold valL
 rw [h.f.val,h.d.val]
theorem firstL_is {f d f' d':ByteArray} {a b:LQ} (ha:LossIs f d a) (hb:LossIs f' d' b):firstL [(f,d),(f',d')]=0:=by
 rw [firstL_two];dsimp only;rw [ha.err,hb.err];rfl
theorem addX {f d f' d' x y:ByteArray} {a b:LQ} (ha:LossIs f d a) (hb:LossIs f' d' b) (hx:IsT x (a.1*b.1)) (h2:fits (a.2+b.2)=true) (hy:IsT y (minQ (a.2+b.2) 1)) :
  resL (foldR plusL [(f,d),(f',d')])=.tuple #[.agg #[.string x,.string y],.int .i64 0]:=by
 rw [foldR_two (fun a ha=>plusL_none ha) (firstL_is ha hb),valL_is ha,valL_is hb,plusL_ok hx.fits h2]
 unfold resL lossT
 dsimp only
 rw [← hx.text,← hy.text]
theorem groupX {f d x y:ByteArray} {l:LQ} {k:Nat} {p s:Rat} (hl:LossIs f d l) (hk:k≤50) (hp:powsum l.1 k=.ok (p,s)) (hx:IsT x p) (h2:fits (l.2*s)=true) (hy:IsT y (minQ (l.2*s) 1)) :
  resL (groupR f d (k:Int))=.tuple #[.agg #[.string x,.string y],.int .i64 0]:=by
 unfold groupR
 rw [if_neg (by rw [hl.err];decide),if_neg (by omega),valL_is hl,Int.toNat_natCast]
 unfold groupL
 rw [hp]
 dsimp only
 rw [ovr_ok h2]
 unfold resL lossT
 dsimp only
 rw [← hx.text,← hy.text]
theorem lateX {f d u x:ByteArray} {l:LQ} {q:Rat} (hl:LossIs f d l) (hu:IsT u q) (h0:0≤q) (h1:q≤1) (f1:fits (l.1+1)=true) (f2:fits ((l.1+1)*q)=true) (f3:fits (l.2+(l.1+1)*q)=true) (hx:IsT x (minQ (l.2+(l.1+1)*q) 1)) :
  resL (lateR f d u)=.tuple #[.agg #[.string f,.string x],.int .i64 0]:=by
 unfold lateR
 rw [if_neg (by rw [hl.err];decide),if_neg (by rw [hu.err];decide),hu.val,if_neg,valL_is hl]
 ·unfold lateL
  rw [ovr_ok f1]
  dsimp only
  rw [ovr_ok f2]
  dsimp only
  rw [ovr_ok f3]
  unfold resL lossT
  dsimp only
  rw [← hx.text,← hl.f.text]
 ·rw [cmpQ_lt,cmpQ_gt]
  intro h
  rcases h with h | h <;> grind
theorem exa:LossIs ⟨#[51,47,50]⟩ ⟨#[49,47,49,48]⟩ (3/2,1/10):=⟨t_3_2,t_1_10,by decide +kernel,by decide +kernel,by decide +kernel⟩
theorem t_2:IsT ⟨#[50]⟩ 2:=(isT_lit false [50] [49] (by decide +kernel)).1
theorem exb:LossIs ⟨#[50]⟩ ⟨#[48]⟩ (2,0):=⟨t_2,IsT.zero,by decide +kernel,by decide +kernel,by decide +kernel⟩
theorem ex_add:resL (foldR plusL [(⟨#[51,47,50]⟩,⟨#[49,47,49,48]⟩),(⟨#[50]⟩,⟨#[48]⟩)])=.tuple #[.agg #[.string ⟨#[51]⟩,.string ⟨#[49,47,49,48]⟩],.int .i64 0] :=
 addX exa exb (by rw [show ((3/2,1/10):LQ).1*((2,0):LQ).1=3 by decide +kernel];exact (isT_lit false [51] [49] (by decide +kernel)).1)
  (fits_lit (by decide +kernel)) (by rw [show minQ (((3/2,1/10):LQ).2+((2,0):LQ).2) 1=1/10 by decide +kernel];exact t_1_10)
theorem pow2:powsum (3/2) 2=.ok (9/4,5/2):=by
 have h0:powsum (3/2) 0=.ok (1,0):=rfl
 have h1:=powsum_ok (p:=1) (s:=0) h0 (fits_lit (by decide +kernel)) (fits_lit (by decide +kernel))
 have h2:=powsum_ok h1 (fits_lit (by decide +kernel)) (fits_lit (by decide +kernel))
 rw [show (1*(3/2)*(3/2):Rat)=9/4 by decide +kernel,show (0+1+1*(3/2):Rat)=5/2 by decide +kernel] at h2
 exact h2
theorem ex_group:resL (groupR ⟨#[51,47,50]⟩ ⟨#[49,47,49,48]⟩ 2)=.tuple #[.agg #[.string ⟨#[57,47,52]⟩,.string ⟨#[49,47,52]⟩],.int .i64 0] :=
 groupX (k:=2) exa (by decide) pow2 (isT_lit false [57] [52] (by decide +kernel)).1 (fits_lit (by decide +kernel))
  (by rw [show minQ (((3/2,1/10):LQ).2*(5/2)) 1=1/4 by decide +kernel];exact (isT_lit false [49] [52] (by decide +kernel)).1)
theorem t_1_100:IsT ⟨#[49,47,49,48,48]⟩ (1/100):=(isT_lit false [49] [49,48,48] (by decide +kernel)).1
theorem ex_late:resL (lateR ⟨#[50]⟩ ⟨#[48]⟩ ⟨#[49,47,49,48,48]⟩)=.tuple #[.agg #[.string ⟨#[50]⟩,.string ⟨#[51,47,49,48,48]⟩],.int .i64 0] :=
 lateX exb t_1_100 (by decide +kernel) (by decide +kernel) (fits_lit (by decide +kernel)) (fits_lit (by decide +kernel)) (fits_lit (by decide +kernel))
  (by rw [show minQ (((2,0):LQ).2+(((2,0):LQ).1+1)*(1/100)) 1=3/100 by decide +kernel];exact (isT_lit false [51] [49,48,48] (by decide +kernel)).1)
def Held (W:World) (L:List (Nat × ByteArray × ByteArray)):Prop:=∀ x∈L,Blk W x.1 63 #[.string x.2.1,.string x.2.2]
theorem Held.later {W W':World} {L:List (Nat × ByteArray × ByteArray)} (h:Held W L) (hb:Below W.heap.size W W'):Held W' L:=fun x hx=>(h x hx).below hb (h x hx).lt
theorem Held.push {W:World} {L:List (Nat × ByteArray × ByteArray)} (h:Held W L) (x y:ByteArray):Held (W.alloc (.cells #[.string x,.string y] 63)) ((W.heap.size,x,y)::L):=by
 intro z hz
 rcases List.mem_cons.1 hz with rfl | hz
 ·exact Blk.new W _ _
 ·exact (h z hz).alloc _
theorem Held.at {W:World} {L:List (Nat × ByteArray × ByteArray)} (h:Held W L) {b:Nat} {x y:ByteArray} (hm:(b,x,y)∈L):W.cell? ⟨b,0,none⟩=some (.string x)∧W.cell? ⟨b,1,none⟩=some (.string y)∧b < W.heap.size :=
 ⟨(cells2 (h _ hm)).1,(cells2 (h _ hm)).2,(h _ hm).lt⟩
end Go.Proofs.YtigapglmipmbeaaGreatDoor
namespace Go.Proofs.YtigapglmipmbeaaGreatDoor
open Go.RowKit Go.Shelf
open Lim
theorem llives_any (w:World) (hr:Res w):Calls Tryz.prog 65 #[] w fun e w'=>e=.returned (.bool true)∧Below w.heap.size w w':=by
 have H0:=At2.new w 63 63 #[.string ⟨#[51,47,50]⟩,.string ⟨#[49,47,49,48]⟩] #[.string ⟨#[50]⟩,.string ⟨#[48]⟩] hr
 have D0:=Lib.hid (show Held ((w.alloc (.cells #[.string ⟨#[51,47,50]⟩,.string ⟨#[49,47,49,48]⟩] 63)).alloc (.cells #[.string ⟨#[50]⟩,.string ⟨#[48]⟩] 63)) [(w.heap.size,⟨#[51,47,50]⟩,⟨#[49,47,49,48]⟩),(w.heap.size+1,⟨#[50]⟩,⟨#[48]⟩)] from by
  intro x hx
  simp only [List.mem_cons,List.not_mem_nil,or_false] at hx
  rcases hx with rfl | rfl
  ·exact H0.a
  ·exact H0.b)
 have B0:=Lib.hid H0.below
 have R0:=Lib.hid H0.res
 have HA:=Lib.hid (fun (w:World) hr=>lossAdd_any ⟨#[51,47,50]⟩ ⟨#[49,47,49,48]⟩ ⟨#[50]⟩ ⟨#[48]⟩ w (by decide) (by decide) (by decide) (by decide) hr)
 have HG:=Lib.hid (fun (w:World) hr=>lossGroup_any ⟨#[51,47,50]⟩ ⟨#[49,47,49,48]⟩ 2 w (by decide) (by decide) hr)
 have HT:=Lib.hid (fun (w:World) hr=>lossLate_any ⟨#[50]⟩ ⟨#[48]⟩ ⟨#[49,47,49,48,48]⟩ w (by decide) (by decide) (by decide) hr (fun _ _=>by rw [valL_is exb,t_1_100.val];exact ⟨fits_lit (by decide +kernel),fits_lit (by decide +kernel),fits_lit (by decide +kernel)⟩))
 rw [ex_add] at HA
 rw [ex_group] at HG
 rw [ex_late] at HT
 clear H0 hr
 go_enter Tryz.func65,Tryz.ntmps65
 go_wp2_with (first
  | (go_at_call 69;refine (HA.out _ R0.out).mono ?_;rintro e w1 ⟨rfl,hb⟩;have D1:=Lib.hid (D0.out.later hb);have B1:=Lib.hid (B0.out.trans (hb.mono B0.out.size));have R1:=Lib.hid (R0.out.below hb);obtain ⟨c1_0a,c1_0b,c1_0l⟩:=D1.out.at (b:=w.heap.size) (x:=⟨#[51,47,50]⟩) (y:=⟨#[49,47,49,48]⟩) (by simp);obtain ⟨c1_1a,c1_1b,c1_1l⟩:=D1.out.at (b:=w.heap.size+1) (x:=⟨#[50]⟩) (y:=⟨#[48]⟩) (by simp);clear hb)
  | (go_at_call 71;refine (HG.out _ (R1.out.below (below_alloc (Below.refl _ _) _))).mono ?_;rintro e w2 ⟨rfl,hb⟩;have D2:=Lib.hid (Held.later (D1.out.push ⟨#[51]⟩ ⟨#[49,47,49,48]⟩) hb);have B2:=Lib.hid ((below_alloc B1.out (.cells #[.string ⟨#[51]⟩,.string ⟨#[49,47,49,48]⟩] 63)).trans (hb.mono (below_alloc B1.out (.cells #[.string ⟨#[51]⟩,.string ⟨#[49,47,49,48]⟩] 63)).size));have R2:=Lib.hid (Res.below ((R1.out.below (below_alloc (Below.refl _ _) (.cells #[.string ⟨#[51]⟩,.string ⟨#[49,47,49,48]⟩] 63)))) hb);obtain ⟨c2_0a,c2_0b,c2_0l⟩:=D2.out.at (b:=w.heap.size) (x:=⟨#[51,47,50]⟩) (y:=⟨#[49,47,49,48]⟩) (by simp);obtain ⟨c2_1a,c2_1b,c2_1l⟩:=D2.out.at (b:=w.heap.size+1) (x:=⟨#[50]⟩) (y:=⟨#[48]⟩) (by simp);obtain ⟨c2_2a,c2_2b,c2_2l⟩:=D2.out.at (b:=w1.heap.size) (x:=⟨#[51]⟩) (y:=⟨#[49,47,49,48]⟩) (by simp);clear hb)
  | (go_at_call 74;refine (HT.out _ (R2.out.below (below_alloc (Below.refl _ _) _))).mono ?_;rintro e w3 ⟨rfl,hb⟩;have D3:=Lib.hid (Held.later (D2.out.push ⟨#[57,47,52]⟩ ⟨#[49,47,52]⟩) hb);have B3:=Lib.hid ((below_alloc B2.out (.cells #[.string ⟨#[57,47,52]⟩,.string ⟨#[49,47,52]⟩] 63)).trans (hb.mono (below_alloc B2.out (.cells #[.string ⟨#[57,47,52]⟩,.string ⟨#[49,47,52]⟩] 63)).size));have R3:=Lib.hid (Res.below ((R2.out.below (below_alloc (Below.refl _ _) (.cells #[.string ⟨#[57,47,52]⟩,.string ⟨#[49,47,52]⟩] 63)))) hb);obtain ⟨c3_0a,c3_0b,c3_0l⟩:=D3.out.at (b:=w.heap.size) (x:=⟨#[51,47,50]⟩) (y:=⟨#[49,47,49,48]⟩) (by simp);obtain ⟨c3_1a,c3_1b,c3_1l⟩:=D3.out.at (b:=w.heap.size+1) (x:=⟨#[50]⟩) (y:=⟨#[48]⟩) (by simp);obtain ⟨c3_2a,c3_2b,c3_2l⟩:=D3.out.at (b:=w1.heap.size) (x:=⟨#[51]⟩) (y:=⟨#[49,47,49,48]⟩) (by simp);obtain ⟨c3_3a,c3_3b,c3_3l⟩:=D3.out.at (b:=w2.heap.size) (x:=⟨#[57,47,52]⟩) (y:=⟨#[49,47,52]⟩) (by simp);clear hb))
 go_ret
 exact ⟨rfl,below_alloc B3.out _⟩
end Go.Proofs.YtigapglmipmbeaaGreatDoor
namespace Go.Proofs.YtigapglmipmbeaaGreatDoor
open Go.RowKit Go.Shelf
open Lim
attribute [local go_sem] Oper.semAt_some wide_fn
theorem lossGroups_any (a b c d:List L2) (va vb vc vd:Value) (f:ByteArray) (w:World) (ha:LRowW w va a) (hb:LRowW w vb b) (hc:LRowW w vc c) (hd:LRowW w vd d) (hf:f.size≤maxLen) (hr:Res w) :
  Calls Tryz.prog 9 #[va,vb,vc,vd,.string f] w fun e w'=>e=.returned (.bool true)∧Below w.heap.size w w':=by
 have N0:=Lib.hid (NW.refl hr)
 have HLV:=Lib.hid (fun (w:World) hr=>llives_any w hr)
 have HMD:=Lib.hid (fun (W:World) (hW:NW w W)=>made9_any [a,b,c,d] (.slice (some ⟨W.heap.size,0,none⟩) 4 4) (W.alloc (.cells #[va,vb,vc,vd] 22))
  (LLRow.ofBlk (vs:=[(va,a),(vb,b),(vc,c),(vd,d)]) (Blk.new W 22 #[va,vb,vc,vd]) rfl (by simp) (fun x hx=>by
   have hbw:=below_alloc hW.below (.cells #[va,vb,vc,vd] 22)
   simp only [List.mem_cons,List.not_mem_nil,or_false] at hx
   rcases hx with rfl | rfl | rfl | rfl
   ·exact ha.below hbw
   ·exact hb.below hbw
   ·exact hc.below hbw
   ·exact hd.below hbw
  )) (by simp) (hW.alloc _).res rdmake_any)
 obtain ⟨A0,c0,rfl,_,_⟩:=id ha
 obtain ⟨A1,c1,rfl,_,_⟩:=id hb
 obtain ⟨A2,c2,rfl,_,_⟩:=id hc
 obtain ⟨A3,c3,rfl,_,_⟩:=id hd
 clear ha hb hc hd hr
 have TK0:True:=trivial
 have TK1:True:=trivial
 cases hm:madeD 12 12 24 [a,b,c,d] with
 | none =>
  rw [hm] at HMD
  change Hid (∀ W (_:NW w W),Calls _ _ _ _ fun e w'=>e=.returned (.tuple #[.slice none 0 0,.bool false])∧_) at HMD
  clear hm
  go_enter Tryz.func9,Tryz.ntmps9
  go_wp2_with ((clear TK0;go_at_call 65;refine (HLV.out _ N0.out.res).mono ?_;rintro e w1 ⟨rfl,hb⟩;have N1:=Lib.hid (N0.out.later hb);clear hb))
  go_wp2_with ((clear TK1;go_at_call 66;refine (HMD.out _ N1.out).mono ?_;rintro e w2 ⟨rfl,hb⟩;have N2:=Lib.hid ((N1.out.alloc _).later hb);clear hb))
  go_wp2
  go_ret
  exact ⟨rfl,N2.out.below⟩
 | some outs =>
  obtain ⟨hol,hod⟩:=Made9.of hm
  obtain ⟨l0,l1,l2,l3,rfl⟩:∃ l0 l1 l2 l3,outs=[l0,l1,l2,l3]:=by
   match outs,hol with
   | [x0,x1,x2,x3],_=>exact ⟨x0,x1,x2,x3,rfl⟩
  rw [hm] at HMD
  change Hid (∀ W (_:NW w W),Calls _ _ _ _ fun e w'=>(∃ u,e=.returned (.tuple #[u,.bool true])∧LLRow w' u [l0,l1,l2,l3])∧_) at HMD
  have M0:=hod l0 (by simp)
  have M1:=hod l1 (by simp)
  have M2:=hod l2 (by simp)
  have M3:=hod l3 (by simp)
  clear hm hol hod
  have HNF:=Lib.hid (fun (W:World) (_:Res W)=>factor_any f W hf)
  have TK2:True:=trivial
  cases hnf:factorB f with
  | false =>
   rw [hnf] at HNF
   clear hnf M0 M1 M2 M3
   go_enter Tryz.func9,Tryz.ntmps9
   go_wp2_with ((clear TK0;go_at_call 65;refine (HLV.out _ N0.out.res).mono ?_;rintro e w1 ⟨rfl,hb⟩;have N1:=Lib.hid (N0.out.later hb);clear hb))
   go_wp2_with ((clear TK1;go_at_call 66;refine (HMD.out _ N1.out).mono ?_;rintro e w2 ⟨⟨u,rfl,hl⟩,hb⟩;obtain ⟨bb,cc,rfl,hbb,_,hcell⟩:=hl;have HCL:=Lib.hid (And.intro hbb hcell);have N2:=Lib.hid ((N1.out.alloc _).later hb);clear hb hbb hcell))
   obtain ⟨B0,k0,y0,rr⟩:=LLRow.nth (j:=0) (l:=l0) HCL.out.1 HCL.out.2 rfl
   have R0:=Lib.hid rr
   clear rr
   obtain ⟨B1,k1,y1,rr⟩:=LLRow.nth (j:=1) (l:=l1) HCL.out.1 HCL.out.2 rfl
   have R1:=Lib.hid rr
   clear rr
   obtain ⟨B2,k2,y2,rr⟩:=LLRow.nth (j:=2) (l:=l2) HCL.out.1 HCL.out.2 rfl
   have R2:=Lib.hid rr
   clear rr
   obtain ⟨B3,k3,y3,rr⟩:=LLRow.nth (j:=3) (l:=l3) HCL.out.1 HCL.out.2 rfl
   have R3:=Lib.hid rr
   clear rr
   have RS:=Lib.hid (fun z:LaterW w2=>N2.out.res.below z.h)
   clear HCL
   go_wp2_with ((clear TK2;go_at_call 67;refine (HNF.out _ (RS.out ⟨w2,Below.refl _ _⟩)).mono ?_;rintro e w9 ⟨rfl,hb9⟩;obtain ⟨z0,rfl⟩:=LaterW.step ⟨w2,Below.refl _ _⟩ hb9;clear hb9))
   go_wp2
   go_ret
   exact ⟨rfl,(N2.out.later z0.h).below⟩
  | true =>
   rw [hnf] at HNF
   obtain ⟨F,rfl,F1,sF,fF⟩:=factor_text hnf
   clear hnf
   have F0:0≤F:=Rat.le_trans (by decide) F1
   have hszF:=sF
   obtain ⟨Lf,hLf,rfl,rfl,rfl,rfl⟩:∃ L:Nat→List L2,(∀ i,Made9 (L i))∧L 0=l0∧L 1=l1∧L 2=l2∧L 3=l3:=⟨fun i=>match i with | 0=>l0 | 1=>l1 | 2=>l2 | _=>l3,fun i=>(match i with | 0=>M0 | 1=>M1 | 2=>M2 | _+3=>M3),rfl,rfl,rfl,rfl⟩
   have hD:=fun i=>(hLf i).dst
   have HLE:=Lib.hid (fun (i:Nat) (u v:Value) (W:World) (hu:LRow W u (Lf i)) (hv:LRow W v (Lf (i+1))) (hr:Res W)=>least9_pair hD F0 F1 sF i u v W hu hv (hLf i).short (hLf (i+1)).short hr)
   refine (callsIn_wide (n:=6)).1 ?_
   have h1:1≤6:=by omega
   have hmx:Tryz.prog.follows .mixedOrders=true:=by kernel_rfl
   refine callsIn_of_wp Tryz.func9 rfl trivial ?_ rfl
   simp only [Tryz.ntmps9,List.size_toArray,List.length_cons,List.length_nil,Nat.reduceAdd,Nat.reduceSub,Array.replicate_succ,Array.replicate_zero,List.push_toArray,List.append_toArray,List.nil_append,List.cons_append]
   gi_wp2_with ((clear TK0;gi_at_call 65;refine (callsIn_wide.2 (HLV.out _ N0.out.res)).mono ?_;rintro e w1 ⟨rfl,hb⟩;have N1:=Lib.hid (N0.out.later hb);clear hb))
   gi_wp2_with ((clear TK1;gi_at_call 66;refine (callsIn_wide.2 (HMD.out _ N1.out)).mono ?_;rintro e w2 ⟨⟨u,rfl,hl⟩,hb⟩;obtain ⟨bb,cc,rfl,hbb,_,hcell⟩:=hl;have HCL:=Lib.hid (And.intro hbb hcell);have N2:=Lib.hid ((N1.out.alloc _).later hb);clear hb hbb hcell))
   obtain ⟨B0,k0,y0,rr⟩:=LLRow.nth (j:=0) (l:=Lf 0) HCL.out.1 HCL.out.2 rfl
   have R0:=Lib.hid rr
   clear rr
   obtain ⟨B1,k1,y1,rr⟩:=LLRow.nth (j:=1) (l:=Lf 1) HCL.out.1 HCL.out.2 rfl
   have R1:=Lib.hid rr
   clear rr
   obtain ⟨B2,k2,y2,rr⟩:=LLRow.nth (j:=2) (l:=Lf 2) HCL.out.1 HCL.out.2 rfl
   have R2:=Lib.hid rr
   clear rr
   obtain ⟨B3,k3,y3,rr⟩:=LLRow.nth (j:=3) (l:=Lf 3) HCL.out.1 HCL.out.2 rfl
   have R3:=Lib.hid rr
   clear rr
   have RS:=Lib.hid (fun z:LaterW w2=>N2.out.res.below z.h)
   have HBB:=Lib.hid HCL.out.1
   have HCM:=HCL
   clear HCL
   gi_wp2_with ((clear TK2;gi_at_call 67;refine (callsIn_wide.2 (HNF.out _ (RS.out ⟨w2,Below.refl _ _⟩))).mono ?_;rintro e w9 ⟨rfl,hb9⟩;obtain ⟨z0,rfl⟩:=LaterW.step ⟨w2,Below.refl _ _⟩ hb9;clear hb9))
   gi_wp2
   have V0:∀ x:SameAt z0.W (fun k=>k < z0.W.heap.size),x.W.cell? ⟨bb,0,none⟩=some (.slice B0 (Lf 0).length k0):=fun x=>x.cell (Nat.lt_of_lt_of_le HBB.out z0.h.size) (y0 z0)
   have V1:∀ x:SameAt z0.W (fun k=>k < z0.W.heap.size),x.W.cell? ⟨bb,1,none⟩=some (.slice B1 (Lf 1).length k1):=fun x=>x.cell (Nat.lt_of_lt_of_le HBB.out z0.h.size) (y1 z0)
   refine wpIn_stage (IsSame z0.W (fun k=>k < z0.W.heap.size)) [0,1,2,3,4,5,6] [] hmx (by kernel_rfl) (isSame_of fun _ _=>rfl) ?_
   change wpStage _ _ _ _ _ _ _ _ (3+7) _ _ _
   refine stage_reads [0,1,2,3,4,5,6] 3 _ _ (by kernel_rfl) ?_
   change wpQuietIn _ _ _ _ (fun W'=>∃ x:SameAt z0.W (fun k=>k < z0.W.heap.size),W'=x.W) _ _ _
   simp only [pick_cons,pick_nil,List.getElem?_cons_zero,List.getElem?_cons_succ,Option.elim_some]
   repeat (gi_big_quiet_step (fail))
   refine wpQuietIn_nil ?_
   clear V0 V1
   obtain ⟨zd,hzd⟩:=LaterW.step z0 (below_drewM z0.W)
   have HDR:=Lib.hid (below_drewM z0.W)
   rw [hzd] at HDR ⊢
   clear hzd
   refine stage_two 7 8 (by kernel_rfl) rfl rfl ?_ ?_
   gi_wp2_with (gi_at_call 68;refine (callsIn_wide.2 (HLE.out 0 _ _ _ ((R0.out _).row (Nat.le_trans (hLf 0).len (by omega))) ((R1.out _).row (Nat.le_trans (hLf 1).len (by omega))) (RS.out zd))).mono ?_;rintro e w9 ⟨rfl,hb9⟩;have HS:=Lib.hid (HDR.out.trans (hb9.mono HDR.out.size));clear hb9)
   refine stage_post (isSame_below HS.out (fun k hk=>hk)) ?_
   refine stage_one 8 (by kernel_rfl) rfl ?_
   gi_wp2
   have HB2:=below_alloc HS.out (.cells #[.string ⟨#[]⟩,.string ⟨#[]⟩] 63)
   refine stage_post (isSame_below HB2 (fun k hk=>hk)) ?_
   have KB:=Lib.hid (Blk.new w9 63 #[.string ⟨#[]⟩,.string ⟨#[]⟩])
   have hlo:z0.W.heap.size≤w9.heap.size:=HS.out.size
   obtain ⟨p0,p1⟩:=cells2 KB.out
   have f0:=KB.out.frozen 0
   have f1:=KB.out.frozen 1
   refine stage_one 9 (by kernel_rfl) rfl ?_
   gi_wp2
   have KQ:=Blk.new w9 63 #[.string (rT F),.string (rT (nearQ Lf F 0))]
   have BW:=below_alloc HS.out (.cells #[.string (rT F),.string (rT (nearQ Lf F 0))] 63)
   refine stage_post (isSame_below BW (fun k hk=>hk)) ?_
   refine stage_done (by kernel_rfl) ?_
   obtain ⟨z5,hz5⟩:=LaterW.step z0 BW
   have hb5:=Nat.le_trans z0.h.size hlo
   rw [hz5] at KQ ⊢
   have KC:=Lib.hid KQ
   clear p0 p1 f0 f1 KB BW hz5 hlo KQ
   generalize w9.heap.size=bx at *
   rotate_left
   gi_wp2
   have HB2:=below_alloc HDR.out (.cells #[.string ⟨#[]⟩,.string ⟨#[]⟩] 63)
   refine stage_post (isSame_below HB2 (fun k hk=>hk)) ?_
   have KA:=Blk.new zd.W 63 #[.string ⟨#[]⟩,.string ⟨#[]⟩]
   obtain ⟨ze,hze⟩:=LaterW.step zd (below_alloc (Below.refl zd.W.heap.size zd.W) (.cells #[.string ⟨#[]⟩,.string ⟨#[]⟩] 63))
   refine stage_one 7 (by kernel_rfl) rfl ?_
   rw [hze] at HB2 KA ⊢
   have hlo:z0.W.heap.size≤zd.W.heap.size:=HDR.out.size
   have KA:=Lib.hid KA
   have HB2:=Lib.hid HB2
   clear hze
   gi_wp2_with (gi_at_call 68;refine (callsIn_wide.2 (HLE.out 0 _ _ _ ((R0.out _).row (Nat.le_trans (hLf 0).len (by omega))) ((R1.out _).row (Nat.le_trans (hLf 1).len (by omega))) (RS.out ze))).mono ?_;rintro e w9 ⟨rfl,hb9⟩;have HS:=Lib.hid (HB2.out.trans (hb9.mono HB2.out.size));have KB:=Lib.hid (KA.out.below hb9 KA.out.lt);clear hb9)
   refine stage_post (isSame_below HS.out (fun k hk=>hk)) ?_
   obtain ⟨p0,p1⟩:=cells2 KB.out
   have f0:=KB.out.frozen 0
   have f1:=KB.out.frozen 1
   refine stage_one 9 (by kernel_rfl) rfl ?_
   gi_wp2
   have KQ:=(KB.out.set_ 0 (.string (rT F))).set_ 1 (.string (rT (nearQ Lf F 0)))
   have BW:=(HS.out.setCell (p:=⟨zd.W.heap.size,0,none⟩) hlo (.string (rT F))).setCell (p:=⟨zd.W.heap.size,1,none⟩) hlo (.string (rT (nearQ Lf F 0)))
   refine stage_post (isSame_below BW (fun k hk=>hk)) ?_
   refine stage_done (by kernel_rfl) ?_
   obtain ⟨z5,hz5⟩:=LaterW.step z0 BW
   have hb5:=Nat.le_trans z0.h.size hlo
   rw [hz5] at KQ ⊢
   have KC:=Lib.hid KQ
   clear p0 p1 f0 f1 KB BW hz5 hlo KQ
   generalize zd.W.heap.size=bx at *
   rotate_left
   all_goals
    gi_wp2
    gi_loopw [14] (fun v14 wr=>∃ (k:Nat) (z:LaterW w2),k≤3∧v14=.int .i64 ((k:Int)+2)∧wr=z.W∧Hid (Blk z.W bx 63 #[.string (rT F),.string (rT (farQ Lf F (min k 2)))])) (fun v14 _=>5 - (intOf v14).toNat)
    case atStart=>exact ⟨0,z5,by omega,rfl,rfl,KC⟩
    case round =>
     clear KC z5
     obtain ⟨k,z,hk,rfl,rfl,HK⟩:=hrel
     by_cases hlt:k < 3
     ·have hlt':(k:Int)+2≤4:=by omega
      have hm:min k 2=k:=by omega
      rw [hm] at HK
      obtain ⟨HG,HH⟩:=grp_round hD F1 sF hlt
      have HG2:groupR (rT F) (rT (farQ Lf F k)) ((k:Int)+2 - 1)=_:=(congrArg (groupR (rT F) (rT (farQ Lf F k))) (by omega)).trans HG
      have HGC:=Lib.hid (fun (W:World) (hr:Res W)=>lossGroup_any (rT F) (rT (farQ Lf F k)) ((k:Int)+2 - 1) W (size_ok (err_rT fF)) (size_ok (err_rT (far_fit hD F0 sF k))) hr)
      rw [HG2] at HGC
      obtain ⟨s1,s2⟩:=grp_size hD F1 sF hlt
      have HHC:=Lib.hid (fun u v (W:World) (hu:LRow W u (Lf 0)) (hv:LRow W v (Lf (k+1))) (hr:Res W)=>holds9_any _ _ (Lf 0) (Lf (k+1)) u v true W hu hv (hLf 0).short (hLf (k+1)).short s1 s2 hr HH)
      change Hid (∀ (W:World) (_:Res W),Calls _ _ _ _ fun e w'=>e=.returned (.tuple #[.agg #[.string (rT (F ^ (k+1))),.string (rT (minQ (farQ Lf F k*sumP F (k+1)) 1))],.int .i64 0])∧_) at HGC
      generalize rT (F ^ (k+1))=G1 at *
      generalize rT (minQ (farQ Lf F k*sumP F (k+1)) 1)=G2 at *
      clear HG HG2 HH s1 s2
      obtain ⟨B9,c9,y9,rr⟩:=LLRow.nth (j:=k+1) (l:=Lf (k+1)) HCM.out.1 HCM.out.2 (list_at hlt)
      have R9:=Lib.hid rr
      clear rr
      obtain ⟨p0,p1⟩:=cells2 HK.out
      have TK9:True:=trivial
      gi_wp2_with (clear TK9;gi_at_call 71;refine (callsIn_wide.2 (HGC.out _ (RS.out z))).mono ?_;rintro e w9 ⟨rfl,hb9⟩;have HK1:=Lib.hid (HK.out.below hb9 HK.out.lt);obtain ⟨z1,rfl⟩:=LaterW.step z hb9;clear hb9)
      have KA:=Blk.new z1.W 63 #[.string G1,.string G2]
      have HK2:=HK1.out.below (below_alloc (Below.refl z1.W.heap.size z1.W) (.cells #[.string G1,.string G2] 63)) HK1.out.lt
      obtain ⟨z2,hz2⟩:=LaterW.step z1 (below_alloc (Below.refl z1.W.heap.size z1.W) (.cells #[.string G1,.string G2] 63))
      rw [hz2] at KA HK2 ⊢
      have HK3:=Lib.hid HK2
      clear hz2 HK2 p0 p1 HK1
      generalize z1.W.heap.size=bq at *
      have v0:∀ x:LaterW z2.W,x.W.cell? ⟨bb,0,none⟩=some (.slice B0 (Lf 0).length k0):=fun x=>y0 (z2.lift x)
      have v9:∀ x:LaterW z2.W,x.W.cell? ⟨bb,k+1,none⟩=some (.slice B9 (Lf (k+1)).length c9):=fun x=>y9 (z2.lift x)
      have u0:∀ x:LaterW z2.W,x.W.cell? ⟨bq,0,none⟩=some (.string G1):=fun x=>(x.h.cell (p:=⟨bq,0,none⟩) KA.lt).trans (cells2 KA).1
      have u1:∀ x:LaterW z2.W,x.W.cell? ⟨bq,1,none⟩=some (.string G2):=fun x=>(x.h.cell (p:=⟨bq,1,none⟩) KA.lt).trans (cells2 KA).2
      clear KA
      refine wpIn_region_wide (w0:=z2.W) ⟨z2.W,Below.refl _ _⟩ rfl hmx (by kernel_rfl) ?_
      repeat (gi_big_quiet_step (first
       | (gi_at_call 70;refine (callsIn_wide.2 (HHC.out _ _ _ ((R0.out (z2.lift _)).row (Nat.le_trans (hLf 0).len (by omega))) ((R9.out (z2.lift _)).row (Nat.le_trans (hLf (k+1)).len (by omega))) (RS.out (z2.lift _)))).mono ?_;rintro e w99 ⟨rfl,hb9⟩;exact ⟨rfl,⟨⟨w99,(LaterW.h _).trans (hb9.mono (LaterW.h _).size)⟩,rfl⟩⟩)))
      refine wpQuietIn_nil ?_
      rintro _ ⟨z3,rfl⟩
      clear v0 v9 u0 u1
      have HK4:=Lib.hid (HK3.out.below z3.h HK3.out.lt)
      clear HK3
      by_cases hk2:k < 2
      ·have hk2':(k:Int)+2 < 4:=by omega
       have HMX:=Lib.hid (fun (W:World) (hr:Res W)=>refLossMax_any (rT F) (rT (farQ Lf F k)) (rT F) (rT (nearQ Lf F (k+1))) W (size_ok (err_rT fF)) (size_ok (err_rT (far_fit hD F0 sF k))) (size_ok (err_rT fF)) (size_ok (err_rT (near_fit hD F0 sF (k+1)))) hr)
       rw [above_same F1 fF (far_fit hD F0 sF k) (near_fit hD F0 sF (k+1)) (far_top hD F0 k).1 (far_top hD F0 k).2 (near_top hD F0 (k+1)).1 (near_top hD F0 (k+1)).2] at HMX
       change Hid (∀ (W:World) (_:Res W),Calls _ _ _ _ fun e w'=>e=.returned (.tuple #[.agg #[.string (rT F),.string (rT (farQ Lf F (k+1)))],.int .i64 0])∧_) at HMX
       obtain ⟨B8,c8,y8,rr⟩:=LLRow.nth (j:=k+2) (l:=Lf (k+1+1)) HCM.out.1 HCM.out.2 (list_at (k:=k+1) (by omega))
       have R8:=Lib.hid rr
       clear rr
       gi_wp2
       have hbb:bb≠bx:=by have:=HBB.out;omega
       have V9:∀ x:SameAt z3.W (fun k=>k < z3.W.heap.size∧k≠bx),x.W.cell? ⟨bb,k+1,none⟩=some (.slice B9 (Lf (k+1)).length c9):=fun x=>x.cell ⟨Nat.lt_of_lt_of_le HBB.out (z2.lift z3).h.size,hbb⟩ (y9 (z2.lift z3))
       have V8:∀ x:SameAt z3.W (fun k=>k < z3.W.heap.size∧k≠bx),x.W.cell? ⟨bb,k+2,none⟩=some (.slice B8 (Lf (k+1+1)).length c8):=fun x=>x.cell ⟨Nat.lt_of_lt_of_le HBB.out (z2.lift z3).h.size,hbb⟩ (y8 (z2.lift z3))
       refine wpIn_stage (IsSame z3.W (fun k=>k < z3.W.heap.size∧k≠bx)) [1,2,3,4,5,6,7,8,9,10,13,14] [] hmx (by kernel_rfl) (isSame_of fun _ _=>rfl) ?_
       change wpStage _ _ _ _ _ _ _ _ (7+10) _ _ _
       refine stage_reads [1,2,3,4,5,6,7,8,9,10] 7 _ _ (by kernel_rfl) ?_
       change wpQuietIn _ _ _ _ (fun W'=>∃ x:SameAt z3.W (fun k=>k < z3.W.heap.size∧k≠bx),W'=x.W) _ _ _
       simp only [pick_cons,pick_nil,List.getElem?_cons_zero,List.getElem?_cons_succ,Option.elim_some]
       repeat (gi_big_quiet_step (fail))
       refine wpQuietIn_nil ?_
       clear V9 V8
       obtain ⟨zd,hzd⟩:=LaterW.step (z2.lift z3) (below_drewM z3.W)
       have HDR:=Lib.hid (below_drewM z3.W)
       rw [hzd] at HDR ⊢
       clear hzd
       refine stage_two 0 11 (by kernel_rfl) rfl rfl ?_ ?_
       have HKD:=Lib.hid (HK4.out.below HDR.out HK4.out.lt)
       obtain ⟨p0,p1⟩:=cells2 HKD.out
       gi_wp2
       refine stage_post (isSame_below HDR.out (fun k hk=>hk.1)) ?_
       clear p0 p1 HKD
       refine stage_one 11 (by kernel_rfl) rfl ?_
       gi_wp2_with (gi_at_call 68;refine (callsIn_wide.2 (HLE.out (k+1) _ _ _ ((R9.out zd).row (Nat.le_trans (hLf (k+1)).len (by omega))) ((R8.out zd).row (Nat.le_trans (hLf (k+1+1)).len (by omega))) (RS.out zd))).mono ?_;rintro e w9 ⟨rfl,hb9⟩;have HS:=Lib.hid (HDR.out.trans (hb9.mono HDR.out.size));obtain ⟨z6,rfl⟩:=LaterW.step zd hb9;clear hb9)
       refine stage_post (isSame_below HS.out (fun k hk=>hk.1)) ?_
       rotate_left
       gi_wp2_with (gi_at_call 68;refine (callsIn_wide.2 (HLE.out (k+1) _ _ _ ((R9.out zd).row (Nat.le_trans (hLf (k+1)).len (by omega))) ((R8.out zd).row (Nat.le_trans (hLf (k+1+1)).len (by omega))) (RS.out zd))).mono ?_;rintro e w9 ⟨rfl,hb9⟩;have HS:=Lib.hid (HDR.out.trans (hb9.mono HDR.out.size));obtain ⟨z6,rfl⟩:=LaterW.step zd hb9;clear hb9)
       refine stage_post (isSame_below HS.out (fun k hk=>hk.1)) ?_
       have HKD:=Lib.hid (HK4.out.below HS.out HK4.out.lt)
       obtain ⟨p0,p1⟩:=cells2 HKD.out
       refine stage_one 0 (by kernel_rfl) rfl ?_
       gi_wp2
       refine stage_post (isSame_below HS.out (fun k hk=>hk.1)) ?_
       clear p0 p1 HKD
       all_goals
        refine stage_one 12 (by kernel_rfl) rfl ?_
        gi_wp2_with (gi_at_call 72;refine (callsIn_wide.2 (HMX.out _ (RS.out z6))).mono ?_;rintro e w9 ⟨rfl,hb9⟩;have HS2:=Lib.hid (HS.out.trans (hb9.mono HS.out.size));clear hb9)
        refine stage_post (isSame_below HS2.out (fun k hk=>hk.1)) ?_
        change wpStage _ _ _ _ _ _ _ _ (2+2) _ _ _
        refine stage_reads [13,14] 2 _ _ (by kernel_rfl) ?_
        change wpQuietIn _ _ _ _ (fun W'=>∃ x:SameAt z3.W (fun k=>k < z3.W.heap.size∧k≠bx),W'=x.W) _ _ _
        simp only [pick_cons,pick_nil,List.getElem?_cons_zero,List.getElem?_cons_succ,Option.elim_some]
        repeat (gi_big_quiet_step (fail))
        refine wpQuietIn_nil ?_
        have HK7:=Lib.hid (HK4.out.below HS2.out HK4.out.lt)
        obtain ⟨p0,p1⟩:=cells2 HK7.out
        have f0:=HK7.out.frozen 0
        have f1:=HK7.out.frozen 1
        have KN:=Lib.hid ((HK7.out.set_ 0 (.string (rT F))).set_ 1 (.string (rT (farQ Lf F (k+1)))))
        have HSI:=Lib.hid (show IsSame z3.W (fun k=>k < z3.W.heap.size∧k≠bx) ((w9.setCell ⟨bx,0,none⟩ (.string (rT F))).setCell ⟨bx,1,none⟩ (.string (rT (farQ Lf F (k+1))))) from isSame_of fun j hj=>by rw [Below.heap_setCell _ _ _ _ hj.2,Below.heap_setCell _ _ _ _ hj.2];exact HS2.out.block j hj.1)
        have BN:=Lib.hid (show ∃ z8:LaterW w2,((w9.setCell ⟨bx,0,none⟩ (.string (rT F))).setCell ⟨bx,1,none⟩ (.string (rT (farQ Lf F (k+1)))))=z8.W from ⟨⟨_,(((z2.lift z3).h.trans (HS2.out.mono (z2.lift z3).h.size)).setCell (p:=⟨bx,0,none⟩) hb5 _).setCell (p:=⟨bx,1,none⟩) hb5 _⟩,rfl⟩)
        refine stage_two 15 16 (by kernel_rfl) rfl rfl ?_ ?_
        gi_wp2
        refine stage_post (isSame_below HS2.out (fun k hk=>hk.1)) ?_
        refine stage_one 16 (by kernel_rfl) rfl ?_
        gi_wp2
        refine stage_post HSI.out ?_
        refine stage_done (by kernel_rfl) ?_
        rotate_left
        gi_wp2
        refine stage_post HSI.out ?_
        refine stage_one 15 (by kernel_rfl) rfl ?_
        gi_wp2
        refine stage_post HSI.out ?_
        refine stage_done (by kernel_rfl) ?_
        all_goals
         obtain ⟨z8,hz8⟩:=BN.out
         have KM:=KN.out
         rw [hz8] at KM ⊢
         have KM:=Lib.hid (show Blk z8.W bx 63 #[.string (rT F),.string (rT (farQ Lf F (min (k+1) 2)))] by rw [show min (k+1) 2=k+1 by omega];exact KM)
         clear p0 p1 f0 f1 HSI BN KN hz8
         gi_wp2
         go_roundw
         case rel=>exact ⟨k+1,z8,by omega,by go_num,rfl,KM⟩
         case measure=>simp [intOf];omega
      ·have hk2':¬ (k:Int)+2 < 4:=by omega
       obtain rfl:k=2:=by omega
       gi_wp2
       go_roundw
       case rel=>exact ⟨3,z2.lift z3,by omega,by go_num,rfl,HK4⟩
       case measure=>simp [intOf]
     ·obtain rfl:k=3:=by omega
      gi_wp2
      refine bodyPost_ret (results_tmp rfl _ _ _) rfl ?_
      exact ⟨rfl,(N2.out.later z.h).below⟩
end Go.Proofs.YtigapglmipmbeaaGreatDoor
namespace Go.Proofs.YtigapglmipmbeaaGreatDoor
open Go.ChangeShapes Go.WideShapes Go.ChangeAt Go.RowKit
section
variable {H:Type} {enc:TypeId × Value→H}
end
end Go.Proofs.YtigapglmipmbeaaGreatDoor
namespace Go.Proofs.YtigapglmipmbeaaGreatDoor
open Go.RowKit
structure Kind (α:Type) where
 ty:TypeId
 k:Nat
 is:(C:TypeId→Nat→Prop)→World→List Value→α→Prop
 inner:List TypeId
 len:∀ {C w l x},is C w l x→l.length=k
 keep:∀ {C C':TypeId→Nat→Prop} {w w':World} {l x},is C w l x→(∀ E b,E∈inner→b < w.heap.size→C E b→C' E b∧w'.heap[b]?=w.heap[b]?)→is C' w' l x
def SRow {α:Type} (K:Kind α) (C:TypeId→Nat→Prop) (w:World) (v:Value) (xs:List α):Prop :=
 ∃ A c,v=.slice A xs.length c∧xs.length≤c∧c≤maxLen∧(0 < xs.length→∃ b o,A=some ⟨b,o,none⟩∧C K.ty b∧b < w.heap.size ∧
  ∀ (j:Nat) (x:α),xs[j]?=some x→∃ l,K.is C w l x∧∀ (i:Nat) (u:Value),l[i]?=some u→w.cell? ⟨b,o+j*K.k+i,none⟩=some u)
section
variable {α:Type} {K:Kind α} {C C':TypeId→Nat→Prop} {w w':World} {v:Value} {xs:List α}
theorem SRow.keep (h:SRow K C w v xs) (hk:∀ E b,E∈K.ty::K.inner→b < w.heap.size→C E b→C' E b∧w'.heap[b]?=w.heap[b]?):SRow K C' w' v xs:=by
 obtain ⟨A,c,e,h1,h2,h3⟩:=h
 refine ⟨A,c,e,h1,h2,fun h0=>?_⟩
 obtain ⟨b,o,eA,hC,hb,hx⟩:=h3 h0
 obtain ⟨hC',hs⟩:=hk K.ty b (by simp) hb hC
 have hb':b < w'.heap.size:=by
  have:w'.heap[b]?=some w.heap[b]:=hs.trans (Array.getElem?_eq_getElem hb)
  exact (Array.getElem?_eq_some_iff.1 this).1
 refine ⟨b,o,eA,hC',hb',fun j x hj=>?_⟩
 obtain ⟨l,hl,hc⟩:=hx j x hj
 exact ⟨l,K.keep hl fun E b hE=>hk E b (List.mem_cons_of_mem _ hE),fun i u hi=>(World.cell?_of_block hs).trans (hc i u hi)⟩
theorem SRow.nil (K:Kind α) (C:TypeId→Nat→Prop) (w:World):SRow K C w (.slice none 0 0) []:=⟨none,0,rfl,Nat.le_refl _,Nat.zero_le _,fun h=>absurd h (by simp)⟩
theorem SRow.take {A:Option Addr} {c:Nat} (h:SRow K C w (.slice A xs.length c) xs) {n:Nat} (hn:n≤xs.length):SRow K C w (.slice A n c) (xs.take n):=by
 obtain ⟨A',c',e,h1,h2,h3⟩:=h
 simp only [Value.slice.injEq,true_and] at e
 obtain ⟨rfl,rfl⟩:=e
 have hl:(xs.take n).length=n:=by simp;omega
 refine ⟨A,c,by rw [hl],by omega,h2,fun h0=>?_⟩
 obtain ⟨b,o,eA,hC,hb,hx⟩:=h3 (by omega)
 refine ⟨b,o,eA,hC,hb,fun j x hj=>hx j x ?_⟩
 rw [List.getElem?_take] at hj
 split at hj
 ·exact hj
 ·cases hj
end
def Own (base:Nat) (w:World) (E:TypeId) (b:Nat):Prop:=base≤b∧∃ cur,w.heap[b]?=some (.cells cur E (0,0))
def Any (_:TypeId) (_:Nat):Prop:=True
section
variable {α:Type} {K:Kind α} {base:Nat} {w w':World} {v v':Value} {xs:List α}
theorem own_keep {base:Nat} {w w':World} {row:Option Nat} (hg:w.grownBy w' row) {E:TypeId} {b:Nat} (hE:∀ r,row=some r→∀ cur,w.heap[r]?≠some (.cells cur E (0,0))) (h:Own base w E b):Own base w' E b∧w'.heap[b]?=w.heap[b]?:=by
 obtain ⟨hb,cur,hc⟩:=h
 have hs:w'.heap[b]?=w.heap[b]?:=hg.block b (Array.getElem?_eq_some_iff.1 hc).1 fun e=>hE b e.symm cur hc
 exact ⟨⟨hb,cur,hs.trans hc⟩,hs⟩
end
open Go.ChangeShapes
section
variable {H:Type} {enc:TypeId × Value→H} {w:World} {base:Nat} {sp:Nat→Bool} {held:Bool} {fuel:Nat}
theorem open_kind {α:Type} {K:Kind α} {T:TypeId} (hu:Tryz.prog.underlying T=some (.slice K.ty)) (hk:Tryz.prog.cellsOf K.ty=K.k) (hk0:0 < K.k)
  (hel:∀ n cs y,DataW.trod enc Tryz.prog w base sp held n K.ty cs=some y→∃ x,K.is Any w cs x) {cs:List Value} {y:DataW H × List MemPlace} (h:DataW.trod enc Tryz.prog w base sp held fuel T cs=some y) :
  ∃ v xs,cs=[v]∧SRow K Any w v xs:=by
 rcases Go.Deep.open_slice hu h with ⟨hcs,_⟩ | ⟨a,len,cap,m,n,D,Pl,hcs,_,hl,hm,hmm,_,hx⟩
 ·exact ⟨_,[],hcs,SRow.nil K Any w⟩
 ·have hlm:len≤m:=by rw [hmm];split <;> omega
  have each:∀ i,i < len→∃ z:Option α × List Value,∃ x,z.1=some x∧K.is Any w z.2 x∧∀ j,j < K.k→w.cell? (a.add (i*K.k+j))=z.2[j]?:=by
   intro i hi
   obtain ⟨cs',h1,h2⟩:=hx i (by omega)
   rw [hk] at h1
   obtain ⟨_,hlen,hcell⟩:=World.cells?_some h1
   obtain ⟨x,hi'⟩:=hel _ _ _ h2
   exact ⟨(some x,cs'),x,rfl,hi',fun j hj=>by rw [← Go.Deep.add_add];exact hcell j hj⟩
  obtain ⟨f,hf⟩:=Go.Deep.choose_lt each
  by_cases h0:0 < len
  case neg =>
   obtain rfl:len=0:=by omega
   exact ⟨_,[],hcs,some a,cap,rfl,Nat.zero_le _,hm,fun h=>absurd h (by simp)⟩
  have hne:∃ g:Nat→α,∀ i,i < len→(f i).1=some (g i):=by
   obtain ⟨x0,e0,_⟩:=hf 0 h0
   refine ⟨fun i=>(f i).1.getD x0,fun i hi=>?_⟩
   obtain ⟨x,e,_⟩:=hf i hi
   simp [e]
  obtain ⟨g,hg⟩:=hne
  refine ⟨_,(List.range len).map g,hcs,some a,cap,by simp,by simpa using hl,hm,fun _=>?_⟩
  have hcl:∀ i,i < len→∀ j u,(f i).2[j]?=some u→w.cell? (a.add (i*K.k+j))=some u:=fun i hi j u hu=>by
   obtain ⟨x,e,hi',hc⟩:=hf i hi
   have:=K.len hi'
   have hj:j < K.k:=by have:=(List.getElem?_eq_some_iff.1 hu).1;omega
   rw [hc j hj,hu]
  obtain ⟨b,o,spot⟩:=a
  have h00:∃ u,(f 0).2[0]?=some u:=by
   obtain ⟨x,e,hi',hc⟩:=hf 0 h0
   have:=K.len hi'
   exact ⟨_,List.getElem?_eq_getElem (by omega)⟩
  obtain ⟨u0,hu0⟩:=h00
  have hc0:=hcl 0 h0 0 u0 hu0
  have hspot:spot=none:=by simpa [Addr.add] using World.cell?_spot hc0
  subst hspot
  have hlt:=World.block_lt_of_cell? w _ hc0
  refine ⟨b,o,rfl,trivial,by simpa [Addr.add] using hlt,fun j x hj=>?_⟩
  have hjl:j < len:=by have:=(List.getElem?_eq_some_iff.1 hj).1;simpa using this
  obtain ⟨x',e,hi',_⟩:=hf j hjl
  have ex:x=x':=by
   rw [List.getElem?_map,List.getElem?_range hjl] at hj
   simp only [Option.map_some,Option.some.injEq] at hj
   have:=hg j hjl
   rw [e] at this
   simp only [Option.some.injEq] at this
   rw [← hj,← this]
  subst ex
  refine ⟨(f j).2,hi',fun i u hu=>?_⟩
  have:=hcl j hjl i u hu
  unfold Addr.add at this
  split at this
  ·simp_all
  ·rw [show o+j*K.k+i=o+(j*K.k+i) by omega]
   exact this
end
end Go.Proofs.YtigapglmipmbeaaGreatDoor
namespace Go.Proofs.YtigapglmipmbeaaGreatDoor
open Go.RowKit Go.ChangeShapes Go.WideShapes Go.ChangeAt
def pairK (t:TypeId):Kind L2 where
 ty:=t
 k:=2
 is:=fun _ _ l x=>l=[.string x.1,.string x.2]∧x.1.size≤maxLen∧x.2.size≤maxLen
 inner:=[]
 len:=fun h=>by rw [h.1];rfl
 keep:=fun h _=>h
theorem cellsMass:Tryz.prog.cellsOf 30=2:=by kernel_rfl
theorem cellsNumD:Tryz.prog.cellsOf 23=1:=by kernel_rfl
theorem cellsStrD:Tryz.prog.cellsOf 9=1:=by kernel_rfl
theorem laidOutD:laidOutB Tryz.prog=true:=by kernel_rfl
section
variable {H:Type} {enc:TypeId × Value→H} {w:World} {base:Nat} {sp:Nat→Bool} {held:Bool} {fuel:Nat}
theorem open_mass1 (n:Nat) (cs:List Value) (y:DataW H × List MemPlace) (h:DataW.trod enc Tryz.prog w base sp held n 30 cs=some y):∃ x,(pairK 30).is Any w cs x:=by
 obtain ⟨y0,y1,n',_,hl,g0,g1⟩:=trod_struct2 Tryz.underlying30 h
 rw [cellsMass] at hl
 match cs,hl with
 | [c0,c1],_ =>
  simp [cellsStrD,cellsNumD] at g0 g1
  obtain ⟨a,e0,_,z0⟩:=DataW.trod_string Tryz.underlying9 g0
  obtain ⟨b,e1,_,z1⟩:=DataW.trod_string Tryz.underlying23 g1
  simp only [List.cons.injEq,and_true] at e0 e1
  subst e0 e1
  exact ⟨(a,b),rfl,z0,z1⟩
theorem row_of_kind {t:TypeId} {v:Value} {ls:List L2} (h:SRow (pairK t) Any w v ls):LRowW w v ls∧∀ x∈ls,x.1.size≤maxLen∧x.2.size≤maxLen:=by
 obtain ⟨A,c,e,h1,h2,h3⟩:=h
 refine ⟨⟨A,c,e,by omega,fun h0=>?_⟩,fun x hx=>?_⟩
 ·obtain ⟨b,o,eA,_,hb,hx⟩:=h3 h0
  refine ⟨b,o,eA,hb,fun j x hj=>?_⟩
  obtain ⟨l,⟨hl,_⟩,hc⟩:=hx j x hj
  subst hl
  exact ⟨hc 0 _ rfl,hc 1 _ rfl⟩
 ·obtain ⟨j,hj⟩:=List.getElem?_of_mem hx
  obtain ⟨b,o,_,_,_,hx⟩:=h3 (by have:=(List.getElem?_eq_some_iff.1 hj).1;omega)
  obtain ⟨l,⟨_,hs⟩,_⟩:=hx j x hj
  exact hs
theorem open_masses {a0:Option Addr} {len0 cap0:Nat} {d:DataW H} {p:List MemPlace} (h:DataW.Trod enc Tryz.prog w base sp held 22 (.slice a0 len0 cap0) d p) :
  ∃ ls,LRowW w (.slice a0 len0 cap0) ls∧∀ x∈ls,x.1.size≤maxLen∧x.2.size≤maxLen:=by
 obtain ⟨f,hf⟩:=h
 obtain ⟨v',ls,e,hr⟩:=open_kind (K:=pairK 30) Tryz.underlying22 cellsMass (by decide) open_mass1 hf
 simp [Value.cells] at e
 subst e
 exact ⟨ls,row_of_kind hr⟩
theorem trod_below {v:Value} {t:TypeId} {d:DataW H} {p:List MemPlace} (h:DataW.Trod enc Tryz.prog w base sp held t v d p):∀ x∈p,x.block < w.heap.size:=by
 obtain ⟨m,hm⟩:=h
 exact DataW.trod_lt m _ _ _ hm
end
end Go.Proofs.YtigapglmipmbeaaGreatDoor
namespace Go.Proofs.YtigapglmipmbeaaGreatDoor
open Go
theorem enters {P : Program} {rest : List (List Char)} (h : behindMainWord (wordsSigns P.initOrder.toList) = "cut".toList :: rest) (h1 : P.laysLater = false) (h2 : P.bearsReflect = false) (h3 : P.doorFits [] = true) : P.mayEnter = true := by
 have e : stripLifts liftWords ("cut".toList :: rest) = ([], "cut".toList :: rest) := by kernel_rfl
 unfold Program.mayEnter
 rw [h]
 dsimp only
 rw [e]
 simp [h1,h2,h3]
theorem cons_of_head {α:Type} {l:List α} {x:α} (h:l.head?=some x):l=x::l.tail:=by
 cases l with
 | nil=>cases h
 | cons y t=>cases h;rfl
theorem doorFitsF:Tryz.prog.doorFits []=true:=by kernel_rfl
theorem headWordF : (behindMainWord (wordsSigns Tryz.prog.initOrder.toList)).head? = some "cut".toList := by kernel_rfl
theorem laysLaterF:Tryz.prog.laysLater=false:=by kernel_rfl
theorem bearsReflectF:Tryz.prog.bearsReflect=false:=by kernel_rfl
theorem mayEnterF:Tryz.prog.mayEnter=true:=enters (cons_of_head headWordF) laysLaterF bearsReflectF doorFitsF
theorem mainIsF : Tryz.prog.mainIs = some (true, "5395951699d0e7c088c16c506ed30de6925104505e2026abbc93d9abbfe2aced".toList) := by kernel_rfl
theorem looksF:true=Tryz.prog.looks []:=by kernel_rfl
end Go.Proofs.YtigapglmipmbeaaGreatDoor
