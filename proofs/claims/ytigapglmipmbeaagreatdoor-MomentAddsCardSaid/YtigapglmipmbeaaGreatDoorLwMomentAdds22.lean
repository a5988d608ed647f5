/- MomentAdds, as a walk (printed by mkmomv.py). -/
import Derived.Test.YtigapglmipmbeaaGreatDoorLwMomentAdds20
import Derived.Test.YtigapglmipmbeaaGreatDoorLwMomentAdds21
import Derived.Test.YtigapglmipmbeaaGreatDoorLwMomentAdds10
import Derived.ProofKit
import Derived.OpenShut
import Derived.ShutString
import Derived.ChangeOld
import Derived.ChangeSame
import Derived.Test.YtigapglmipmbeaaGreatDoorProg
import Derived.WalkKit
import Derived.Handy
import Derived.Lib.Hide
import Derived.BigQuiet
import Derived.Maps.OwnSet
import Derived.Maps.StringElems
import Derived.Maps.AppendAt
import Derived.WalkLawsBesides
import Derived.WalkSpells
import Derived.ChangeSlices
import Derived.Deep.Slices
import Derived.Test.YtigapglmipmbeaaGreatDoorLwMomentAdds18
import Derived.Lib.SmallJoins
import Derived.Test.YtigapglmipmbeaaGreatDoorCards
import Derived.Test.YtigapglmipmbeaaGreatDoorTie
import Derived.KernelRfl
import Derived.SevenTiedAt
set_option maxRecDepth 100000
set_option maxHeartbeats 16000000
open Go.Proofs.Tryz
namespace Go.Proofs.YtigapglmipmbeaaGreatDoor
open Go.RowKit Go.Shelf
open Lim
attribute [local go_sem] Oper.semAt_some a8H
theorem a9e(a b c d:List L2)(va vb vc vd:Value)(f:ByteArray)(n m r:Int)(w:World)(ha:a38 w va a)(hb:a38 w vb b)(hc:a38 w vc c)(hd:a38 w vd d)(hf:f.size≤maxLen)(hn1:-9223372036854775808≤n)(hn2:n≤9223372036854775807)(hm1:-9223372036854775808≤m)(hm2:m≤9223372036854775807)(hr1:-9223372036854775808≤r)(hr2:r≤9223372036854775807)(hr:Res w) :
  Calls prog 6 #[va,vb,vc,vd,.string f,.int .i64 n,.int .i64 m,.int .i64 r] w fun e w'=>e=.returned (.bool true)∧Below w.heap.size w w':=by
 have N0:=b9W (NW.refl hr);have HLV:=b9W (fun (w:World) hr=>b3_ w hr);have HMD:=b9W (fun (W:World) (hW:NW w W)=>b4I [a,b,c,d] (.slice (some ⟨W.heap.size,0,none⟩) 4 4) (W.alloc (.cells #[va,vb,vc,vd] 22))
  (a5I.ofBlk (vs:=[(va,a),(vb,b),(vc,c),(vd,d)]) (Blk.new W 22 #[va,vb,vc,vd]) rfl (by simp) (fun x hx=>by
   have hbw:=a0d hW.below (.cells #[va,vb,vc,vd] 22)
   simp only[List.mem_cons,List.not_mem_nil,or_false]at hx
   rcases hx with rfl|rfl|rfl|rfl
   ·exact ha.below hbw
   ·exact hb.below hbw
   ·exact hc.below hbw
   ·exact hd.below hbw
  )) (by simp) (hW.alloc _).res a63)
 obtain⟨A0,c0,rfl,_,_⟩:=id ha;obtain⟨A1,c1,rfl,_,_⟩:=id hb;obtain⟨A2,c2,rfl,_,_⟩:=id hc;obtain⟨A3,c3,rfl,_,_⟩:=id hd;clear ha hb hc hd hr;have TK0:True:=trivial;have TK1:True:=trivial
 cases hm:a7e 6 12 12 [a,b,c,d]with
 | none =>
  rw[hm]at HMD;change Hid (∀ W (_:NW w W),Calls _ _ _ _ fun e w'=>e=.returned (.tuple #[.slice none 0 0,.bool false])∧_) at HMD;clear hm
  go_enter func6,ntmps6
  go_wp2_with ((clear TK0;go_at_call 49;refine(HLV.out _ N0.out.res).mono ?_;rintro e w1 ⟨rfl,hb⟩;have N1:=b9W (N0.out.later hb);clear hb))
  go_wp2_with ((clear TK1;go_at_call 50;refine(HMD.out _ N1.out).mono ?_;rintro e w2 ⟨rfl,hb⟩;have N2:=b9W ((N1.out.alloc _).later hb);clear hb))
  go_wp2
  go_ret
  exact⟨rfl,N2.out.below⟩
 | some outs =>
  obtain⟨hol,hod⟩:=a2C.of hm;obtain⟨l0,l1,l2,l3,rfl⟩:∃ l0 l1 l2 l3,outs=[l0,l1,l2,l3]:=by
   match outs,hol with
   | [x0,x1,x2,x3],_=>exact⟨x0,x1,x2,x3,rfl⟩
  rw[hm]at HMD;change Hid (∀ W (_:NW w W),Calls _ _ _ _ fun e w'=>(∃ u,e=.returned (.tuple #[u,.bool true])∧a5I w' u [l0,l1,l2,l3])∧_) at HMD;have M0:=hod l0 (by simp);have M1:=hod l1 (by simp);have M2:=hod l2 (by simp);have M3:=hod l3 (by simp);clear hm hol hod;have HNF:=b9W (fun (W:World) (_:Res W)=>b2k f W hf);have HPK:=b9W (fun (W:World)=>b22 n 7 W (by omega) hn1 hn2 (by omega));clear hn1 hn2;have TK2:True:=trivial
  cases hnf:a4A f with
  | false =>
   rw[hnf]at HNF;clear hnf M0 M1 M2 M3
   go_enter func6,ntmps6
   go_wp2_with ((clear TK0;go_at_call 49;refine(HLV.out _ N0.out.res).mono ?_;rintro e w1 ⟨rfl,hb⟩;have N1:=b9W (N0.out.later hb);clear hb))
   go_wp2_with ((clear TK1;go_at_call 50;refine(HMD.out _ N1.out).mono ?_;rintro e w2 ⟨⟨u,rfl,hl⟩,hb⟩;obtain⟨bb,cc,rfl,hbb,_,hcell⟩:=hl;have HCL:=b9W (And.intro hbb hcell);have N2:=b9W ((N1.out.alloc _).later hb);clear hb hbb hcell))
   obtain⟨B0,k0,y0,rr⟩:=a5I.nth (j:=0) (l:=l0) HCL.out.1 HCL.out.2 rfl;have R0:=b9W rr;clear rr;obtain⟨B1,k1,y1,rr⟩:=a5I.nth (j:=1) (l:=l1) HCL.out.1 HCL.out.2 rfl;have R1:=b9W rr;clear rr;obtain⟨B2,k2,y2,rr⟩:=a5I.nth (j:=2) (l:=l2) HCL.out.1 HCL.out.2 rfl;have R2:=b9W rr;clear rr;obtain⟨B3,k3,y3,rr⟩:=a5I.nth (j:=3) (l:=l3) HCL.out.1 HCL.out.2 rfl;have R3:=b9W rr;clear rr;have RS:=b9W (fun z:a0v w2=>N2.out.res.below z.h);clear HCL
   go_wp2_with ((clear TK2;go_at_call 51;refine(HNF.out _ (RS.out ⟨w2,Below.refl _ _⟩)).mono ?_;rintro e w9 ⟨rfl,hb9⟩;obtain⟨z0,rfl⟩:=a0v.step ⟨w2,Below.refl _ _⟩ hb9;clear hb9))
   go_wp2
   go_ret
   exact⟨rfl,(N2.out.later z0.h).below⟩
  | true =>
   rw[hnf]at HNF;obtain⟨F,rfl,F1,sF,fF⟩:=b1x hnf;clear hnf;have HM0:=b9W M0;have HM1:=b9W M1;have HM2:=b9W M2;have HM3:=b9W M3;have HL0:=b9W (fun u (W:World) (hu:LRow W u l0) (hr:Res W)=>a4Q l0 u m W hu HM0.out.short (HM0.out.dst.mono (by omega)) (Nat.le_trans HM0.out.len (by omega)) hm1 hm2 hr);have HL1:=b9W (fun u (W:World) (hu:LRow W u l1) (hr:Res W)=>a4Q l1 u r W hu HM1.out.short (HM1.out.dst.mono (by omega)) (Nat.le_trans HM1.out.len (by omega)) hr1 hr2 hr);have HL2:=b9W (fun u (W:World) (hu:LRow W u l2) (hr:Res W)=>a4Q l2 u r W hu HM2.out.short (HM2.out.dst.mono (by omega)) (Nat.le_trans HM2.out.len (by omega)) hr1 hr2 hr);have HL3:=b9W (fun u (W:World) (hu:LRow W u l3) (hr:Res W)=>a4Q l3 u m W hu HM3.out.short (HM3.out.dst.mono (by omega)) (Nat.le_trans HM3.out.len (by omega)) hm1 hm2 hr);have HF1:=b9W F1;have HSF:=b9W sF;have HFF:=b9W fF;obtain⟨cq,b1,hcv,hb⟩:=a9z M0 M1;have HCV:=b9W hcv;have HB:=b9W hb;clear hcv hb;obtain⟨cr,b2,hcv,hb⟩:=a9z M2 M3;have HCW:=b9W hcv;have HBW:=b9W hb;clear hcv hb F1 sF fF M0 M1 M2 M3 hm1 hm2 hr1 hr2;change Hid (∀ u v W (_:LRow W u l0) (_:LRow W v l1) (_:Res W),Calls _ _ _ _ fun e w'=>e=.returned (.tuple #[.agg #[.string (cq 0),.string (cq 1),.string (cq 2),.string (cq 3),.string (cq 4),.string (cq 5),.string (cq 6),.string (cq 7)],.bool b1])∧_) at HCV;change Hid (∀ u v W (_:LRow W u l2) (_:LRow W v l3) (_:Res W),Calls _ _ _ _ fun e w'=>e=.returned (.tuple #[.agg #[.string (cr 0),.string (cr 1),.string (cr 2),.string (cr 3),.string (cr 4),.string (cr 5),.string (cr 6),.string (cr 7)],.bool b2])∧_) at HCW;obtain⟨tF,htF⟩:∃ t,rT F=t:=⟨_,rfl⟩;rw[htF]at HNF ⊢;have HTF:=b9W htF;clear htF;refine(callsIn_wide (n:=6)).1 ?_;have h1:1≤6:=by omega
   have hmx:prog.follows .mixedOrders=true:=by kernel_rfl
   refine callsIn_of_wp func6 rfl trivial ?_ rfl
   simp only[ntmps6,List.size_toArray,List.length_cons,List.length_nil,Nat.reduceAdd,Nat.reduceSub,Array.replicate_succ,Array.replicate_zero,List.push_toArray,List.append_toArray,List.nil_append,List.cons_append]
   gi_wp2_with ((clear TK0;gi_at_call 49;refine(callsIn_wide.2 (HLV.out _ N0.out.res)).mono ?_;rintro e w1 ⟨rfl,hb⟩;have N1:=b9W (N0.out.later hb);clear hb))
   gi_wp2_with ((clear TK1;gi_at_call 50;refine(callsIn_wide.2 (HMD.out _ N1.out)).mono ?_;rintro e w2 ⟨⟨u,rfl,hl⟩,hb⟩;obtain⟨bb,cc,rfl,hbb,_,hcell⟩:=hl;have HCL:=b9W (And.intro hbb hcell);have N2:=b9W ((N1.out.alloc _).later hb);clear hb hbb hcell))
   obtain⟨B0,k0,y0,rr⟩:=a5I.nth (j:=0) (l:=l0) HCL.out.1 HCL.out.2 rfl;have R0:=b9W rr;clear rr;obtain⟨B1,k1,y1,rr⟩:=a5I.nth (j:=1) (l:=l1) HCL.out.1 HCL.out.2 rfl;have R1:=b9W rr;clear rr;obtain⟨B2,k2,y2,rr⟩:=a5I.nth (j:=2) (l:=l2) HCL.out.1 HCL.out.2 rfl;have R2:=b9W rr;clear rr;obtain⟨B3,k3,y3,rr⟩:=a5I.nth (j:=3) (l:=l3) HCL.out.1 HCL.out.2 rfl;have R3:=b9W rr;clear rr;have RS:=b9W (fun z:a0v w2=>N2.out.res.below z.h);have HBB:=b9W HCL.out.1;clear HCL
   gi_wp2_with ((clear TK2;gi_at_call 51;refine(callsIn_wide.2 (HNF.out _ (RS.out ⟨w2,Below.refl _ _⟩))).mono ?_;rintro e w9 ⟨rfl,hb9⟩;obtain⟨z0,rfl⟩:=a0v.step ⟨w2,Below.refl _ _⟩ hb9;clear hb9))
   gi_wp2;have V0:∀ x:a0n z0.W (fun k=>k < z0.W.heap.size),x.W.cell? ⟨bb,0,none⟩=some (.slice B0 l0.length k0):=fun x=>x.cell (Nat.lt_of_lt_of_le HBB.out z0.h.size) (y0 z0);have V1:∀ x:a0n z0.W (fun k=>k < z0.W.heap.size),x.W.cell? ⟨bb,1,none⟩=some (.slice B1 l1.length k1):=fun x=>x.cell (Nat.lt_of_lt_of_le HBB.out z0.h.size) (y1 z0);refine a0o (a0R z0.W (fun k=>k < z0.W.heap.size)) [0,1,2,3,4,5,7,8,9] [] hmx (by kernel_rfl) (a0g fun _ _=>rfl) ?_;change a0l _ _ _ _ _ _ _ _ (7+6) _ _ _;refine a0e [0,1,2,3,4,5] 7 _ _ (by kernel_rfl) ?_;change wpQuietIn _ _ _ _ (fun W'=>∃ x:a0n z0.W (fun k=>k < z0.W.heap.size),W'=x.W) _ _ _
   simp only[a0h,a0m,List.getElem?_cons_zero,List.getElem?_cons_succ,Option.elim_some]
   repeat (gi_big_quiet_step (fail))
   refine wpQuietIn_nil ?_;clear V0 V1;obtain⟨zd,hzd⟩:=a0v.step z0 (a0P z0.W);have HS:=b9W (a0P z0.W);rw[hzd]at HS ⊢;clear hzd
   apply b3I (fun (bx:Nat) (z:a0v w2) (_:Nat)=>Below z0.W.heap.size z0.W z.W∧z0.W.heap.size≤bx∧CBlk z.W bx cq)
   case main =>
    intro SH;refine a1p 6 10 (by kernel_rfl) rfl rfl ?_ ?_
    ·skip
     gi_wp2_with (gi_at_call 52;refine(callsIn_wide.2 (HCV.out _ _ _ ((R0.out _).row (Nat.le_trans HM0.out.len (by omega))) ((R1.out _).row (Nat.le_trans HM1.out.len (by omega))) (RS.out zd))).mono ?_;rintro e w9 ⟨rfl,hb9⟩;have HS:=b9W (HS.out.trans (hb9.mono HS.out.size));obtain⟨zd,rfl⟩:=a0v.step zd hb9;clear hb9)
     refine a0b (a0a HS.out (fun k hk=>hk)) ?_;change a0l _ _ _ _ _ _ _ _ (3+3) _ _ _;refine a0e [7,8,9] 3 _ _ (by kernel_rfl) ?_;change wpQuietIn _ _ _ _ (fun W'=>∃ x:a0n z0.W (fun k=>k < z0.W.heap.size),W'=x.W) _ _ _
     simp only[a0h,a0m,List.getElem?_cons_zero,List.getElem?_cons_succ,Option.elim_some]
     repeat (gi_big_quiet_step (fail))
     refine wpQuietIn_nil ?_;refine a0c 10 (by kernel_rfl) rfl ?_;gi_wp2;have hb9:=a0d (Below.refl zd.W.heap.size zd.W) (.cells #[.string ⟨#[]⟩,.string ⟨#[]⟩,.string ⟨#[]⟩,.string ⟨#[]⟩,.string ⟨#[]⟩,.string ⟨#[]⟩,.string ⟨#[]⟩,.string ⟨#[]⟩] 59);have KB:=(show CBlk (zd.W.alloc (.cells #[.string ⟨#[]⟩,.string ⟨#[]⟩,.string ⟨#[]⟩,.string ⟨#[]⟩,.string ⟨#[]⟩,.string ⟨#[]⟩,.string ⟨#[]⟩,.string ⟨#[]⟩] 59)) zd.W.heap.size zC from Blk.new zd.W 59 #[.string ⟨#[]⟩,.string ⟨#[]⟩,.string ⟨#[]⟩,.string ⟨#[]⟩,.string ⟨#[]⟩,.string ⟨#[]⟩,.string ⟨#[]⟩,.string ⟨#[]⟩]);have lo:=HS.out.size;have HS:=b9W (HS.out.trans (hb9.mono HS.out.size));obtain⟨ze,hze⟩:=a0v.step zd hb9;rw[hze]at KB HS ⊢;have KB:=b9W KB;clear hb9 hze;generalize zd.W.heap.size=bx at *;obtain⟨zd,rfl⟩:∃ x,x=ze:=⟨_,rfl⟩;refine a0b (a0a HS.out (fun k hk=>hk)) ?_;obtain⟨c0,c1,c2,c3,c4,c5,c6,c7⟩:=KB.out.cells;obtain⟨g0,g1,g2,g3,g4,g5,g6,g7⟩:=KB.out.frozens;refine a0c 11 (by kernel_rfl) rfl ?_;gi_wp2;have KQ:CBlk ((((((((zd.W.setCell ⟨bx,0,none⟩ (.string (cq 0))).setCell ⟨bx,1,none⟩ (.string (cq 1))).setCell ⟨bx,2,none⟩ (.string (cq 2))).setCell ⟨bx,3,none⟩ (.string (cq 3))).setCell ⟨bx,4,none⟩ (.string (cq 4))).setCell ⟨bx,5,none⟩ (.string (cq 5))).setCell ⟨bx,6,none⟩ (.string (cq 6))).setCell ⟨bx,7,none⟩ (.string (cq 7))) bx cq:=a3w cq KB.out;have HS:Below z0.W.heap.size z0.W ((((((((zd.W.setCell ⟨bx,0,none⟩ (.string (cq 0))).setCell ⟨bx,1,none⟩ (.string (cq 1))).setCell ⟨bx,2,none⟩ (.string (cq 2))).setCell ⟨bx,3,none⟩ (.string (cq 3))).setCell ⟨bx,4,none⟩ (.string (cq 4))).setCell ⟨bx,5,none⟩ (.string (cq 5))).setCell ⟨bx,6,none⟩ (.string (cq 6))).setCell ⟨bx,7,none⟩ (.string (cq 7))):=a2h HS.out lo cq;refine a0b (a0a HS (fun k hk=>hk)) ?_;refine a0c 12 (by kernel_rfl) rfl ?_;gi_wp2;refine a0b (a0a HS (fun k hk=>hk)) ?_;refine a0i (by kernel_rfl) ?_;obtain⟨z5,hz5⟩:=a0v.step z0 HS;rw[hz5]at KQ HS ⊢;obtain⟨dd⟩:Nonempty Nat:=⟨0⟩;exact SH _ _ dd ⟨HS,lo,KQ⟩
    ·skip
     gi_wp2;have hb9:=a0d (Below.refl zd.W.heap.size zd.W) (.cells #[.string ⟨#[]⟩,.string ⟨#[]⟩,.string ⟨#[]⟩,.string ⟨#[]⟩,.string ⟨#[]⟩,.string ⟨#[]⟩,.string ⟨#[]⟩,.string ⟨#[]⟩] 59);have KB:=(show CBlk (zd.W.alloc (.cells #[.string ⟨#[]⟩,.string ⟨#[]⟩,.string ⟨#[]⟩,.string ⟨#[]⟩,.string ⟨#[]⟩,.string ⟨#[]⟩,.string ⟨#[]⟩,.string ⟨#[]⟩] 59)) zd.W.heap.size zC from Blk.new zd.W 59 #[.string ⟨#[]⟩,.string ⟨#[]⟩,.string ⟨#[]⟩,.string ⟨#[]⟩,.string ⟨#[]⟩,.string ⟨#[]⟩,.string ⟨#[]⟩,.string ⟨#[]⟩]);have lo:=HS.out.size;have HS:=b9W (HS.out.trans (hb9.mono HS.out.size));obtain⟨ze,hze⟩:=a0v.step zd hb9;rw[hze]at KB HS ⊢;have KB:=b9W KB;clear hb9 hze;generalize zd.W.heap.size=bx at *;obtain⟨zd,rfl⟩:∃ x,x=ze:=⟨_,rfl⟩;refine a0b (a0a HS.out (fun k hk=>hk)) ?_;refine a0c 6 (by kernel_rfl) rfl ?_
     gi_wp2_with (gi_at_call 52;refine(callsIn_wide.2 (HCV.out _ _ _ ((R0.out _).row (Nat.le_trans HM0.out.len (by omega))) ((R1.out _).row (Nat.le_trans HM1.out.len (by omega))) (RS.out zd))).mono ?_;rintro e w9 ⟨rfl,hb9⟩;have HS:=b9W (HS.out.trans (hb9.mono HS.out.size));have KB:=b9W (KB.out.later hb9);obtain⟨zd,rfl⟩:=a0v.step zd hb9;clear hb9)
     refine a0b (a0a HS.out (fun k hk=>hk)) ?_;change a0l _ _ _ _ _ _ _ _ (2+3) _ _ _;refine a0e [7,8,9] 2 _ _ (by kernel_rfl) ?_;change wpQuietIn _ _ _ _ (fun W'=>∃ x:a0n z0.W (fun k=>k < z0.W.heap.size),W'=x.W) _ _ _
     simp only[a0h,a0m,List.getElem?_cons_zero,List.getElem?_cons_succ,Option.elim_some]
     repeat (gi_big_quiet_step (fail))
     refine wpQuietIn_nil ?_;obtain⟨c0,c1,c2,c3,c4,c5,c6,c7⟩:=KB.out.cells;obtain⟨g0,g1,g2,g3,g4,g5,g6,g7⟩:=KB.out.frozens;refine a0c 11 (by kernel_rfl) rfl ?_;gi_wp2;have KQ:CBlk ((((((((zd.W.setCell ⟨bx,0,none⟩ (.string (cq 0))).setCell ⟨bx,1,none⟩ (.string (cq 1))).setCell ⟨bx,2,none⟩ (.string (cq 2))).setCell ⟨bx,3,none⟩ (.string (cq 3))).setCell ⟨bx,4,none⟩ (.string (cq 4))).setCell ⟨bx,5,none⟩ (.string (cq 5))).setCell ⟨bx,6,none⟩ (.string (cq 6))).setCell ⟨bx,7,none⟩ (.string (cq 7))) bx cq:=a3w cq KB.out;have HS:Below z0.W.heap.size z0.W ((((((((zd.W.setCell ⟨bx,0,none⟩ (.string (cq 0))).setCell ⟨bx,1,none⟩ (.string (cq 1))).setCell ⟨bx,2,none⟩ (.string (cq 2))).setCell ⟨bx,3,none⟩ (.string (cq 3))).setCell ⟨bx,4,none⟩ (.string (cq 4))).setCell ⟨bx,5,none⟩ (.string (cq 5))).setCell ⟨bx,6,none⟩ (.string (cq 6))).setCell ⟨bx,7,none⟩ (.string (cq 7))):=a2h HS.out lo cq;refine a0b (a0a HS (fun k hk=>hk)) ?_;refine a0c 12 (by kernel_rfl) rfl ?_;gi_wp2;refine a0b (a0a HS (fun k hk=>hk)) ?_;refine a0i (by kernel_rfl) ?_;obtain⟨z5,hz5⟩:=a0v.step z0 HS;rw[hz5]at KQ HS ⊢;obtain⟨dd⟩:Nonempty Nat:=⟨0⟩;exact SH _ _ dd ⟨HS,lo,KQ⟩
   case rest =>
    rintro bx z5 _ ⟨HS,lo1,KQ⟩;have lo1:=Nat.le_trans z0.h.size lo1;clear HS HCV;have KQ:=b9W KQ;gi_wp2;have V0:∀ x:a0n z5.W (fun k=>k < z5.W.heap.size),x.W.cell? ⟨bb,2,none⟩=some (.slice B2 l2.length k2):=fun x=>x.cell (Nat.lt_of_lt_of_le HBB.out z5.h.size) (y2 z5);have V1:∀ x:a0n z5.W (fun k=>k < z5.W.heap.size),x.W.cell? ⟨bb,3,none⟩=some (.slice B3 l3.length k3):=fun x=>x.cell (Nat.lt_of_lt_of_le HBB.out z5.h.size) (y3 z5);refine a0o (a0R z5.W (fun k=>k < z5.W.heap.size)) [0,1,2,3,4,5,7,8,9] [] hmx (by kernel_rfl) (a0g fun _ _=>rfl) ?_;change a0l _ _ _ _ _ _ _ _ (7+6) _ _ _;refine a0e [0,1,2,3,4,5] 7 _ _ (by kernel_rfl) ?_;change wpQuietIn _ _ _ _ (fun W'=>∃ x:a0n z5.W (fun k=>k < z5.W.heap.size),W'=x.W) _ _ _
    simp only[a0h,a0m,List.getElem?_cons_zero,List.getElem?_cons_succ,Option.elim_some]
    repeat (gi_big_quiet_step (fail))
    refine wpQuietIn_nil ?_;clear V0 V1;obtain⟨zd,hzd⟩:=a0v.step z5 (a0P z5.W);have HS:=b9W (a0P z5.W);rw[hzd]at HS ⊢;clear hzd
    apply b3I (fun (bw:Nat) (z:a0v w2) (_:Nat)=>Below z5.W.heap.size z5.W z.W∧z5.W.heap.size≤bw∧CBlk z.W bw cr)
    case main =>
     intro SH;refine a1p 6 10 (by kernel_rfl) rfl rfl ?_ ?_
     ·skip
      gi_wp2_with (gi_at_call 52;refine(callsIn_wide.2 (HCW.out _ _ _ ((R2.out _).row (Nat.le_trans HM2.out.len (by omega))) ((R3.out _).row (Nat.le_trans HM3.out.len (by omega))) (RS.out zd))).mono ?_;rintro e w9 ⟨rfl,hb9⟩;have HS:=b9W (HS.out.trans (hb9.mono HS.out.size));obtain⟨zd,rfl⟩:=a0v.step zd hb9;clear hb9)
      refine a0b (a0a HS.out (fun k hk=>hk)) ?_;change a0l _ _ _ _ _ _ _ _ (3+3) _ _ _;refine a0e [7,8,9] 3 _ _ (by kernel_rfl) ?_;change wpQuietIn _ _ _ _ (fun W'=>∃ x:a0n z5.W (fun k=>k < z5.W.heap.size),W'=x.W) _ _ _
      simp only[a0h,a0m,List.getElem?_cons_zero,List.getElem?_cons_succ,Option.elim_some]
      repeat (gi_big_quiet_step (fail))
      refine wpQuietIn_nil ?_;refine a0c 10 (by kernel_rfl) rfl ?_;gi_wp2;have hb9:=a0d (Below.refl zd.W.heap.size zd.W) (.cells #[.string ⟨#[]⟩,.string ⟨#[]⟩,.string ⟨#[]⟩,.string ⟨#[]⟩,.string ⟨#[]⟩,.string ⟨#[]⟩,.string ⟨#[]⟩,.string ⟨#[]⟩] 59);have KB:=(show CBlk (zd.W.alloc (.cells #[.string ⟨#[]⟩,.string ⟨#[]⟩,.string ⟨#[]⟩,.string ⟨#[]⟩,.string ⟨#[]⟩,.string ⟨#[]⟩,.string ⟨#[]⟩,.string ⟨#[]⟩] 59)) zd.W.heap.size zC from Blk.new zd.W 59 #[.string ⟨#[]⟩,.string ⟨#[]⟩,.string ⟨#[]⟩,.string ⟨#[]⟩,.string ⟨#[]⟩,.string ⟨#[]⟩,.string ⟨#[]⟩,.string ⟨#[]⟩]);have lo:=HS.out.size;have HS:=b9W (HS.out.trans (hb9.mono HS.out.size));obtain⟨ze,hze⟩:=a0v.step zd hb9;rw[hze]at KB HS ⊢;have KB:=b9W KB;clear hb9 hze;generalize zd.W.heap.size=bw at *;obtain⟨zd,rfl⟩:∃ x,x=ze:=⟨_,rfl⟩;refine a0b (a0a HS.out (fun k hk=>hk)) ?_;obtain⟨c0,c1,c2,c3,c4,c5,c6,c7⟩:=KB.out.cells;obtain⟨g0,g1,g2,g3,g4,g5,g6,g7⟩:=KB.out.frozens;refine a0c 11 (by kernel_rfl) rfl ?_;gi_wp2;have KQ:CBlk ((((((((zd.W.setCell ⟨bw,0,none⟩ (.string (cr 0))).setCell ⟨bw,1,none⟩ (.string (cr 1))).setCell ⟨bw,2,none⟩ (.string (cr 2))).setCell ⟨bw,3,none⟩ (.string (cr 3))).setCell ⟨bw,4,none⟩ (.string (cr 4))).setCell ⟨bw,5,none⟩ (.string (cr 5))).setCell ⟨bw,6,none⟩ (.string (cr 6))).setCell ⟨bw,7,none⟩ (.string (cr 7))) bw cr:=a3w cr KB.out;have HS:Below z5.W.heap.size z5.W ((((((((zd.W.setCell ⟨bw,0,none⟩ (.string (cr 0))).setCell ⟨bw,1,none⟩ (.string (cr 1))).setCell ⟨bw,2,none⟩ (.string (cr 2))).setCell ⟨bw,3,none⟩ (.string (cr 3))).setCell ⟨bw,4,none⟩ (.string (cr 4))).setCell ⟨bw,5,none⟩ (.string (cr 5))).setCell ⟨bw,6,none⟩ (.string (cr 6))).setCell ⟨bw,7,none⟩ (.string (cr 7))):=a2h HS.out lo cr;refine a0b (a0a HS (fun k hk=>hk)) ?_;refine a0c 12 (by kernel_rfl) rfl ?_;gi_wp2;refine a0b (a0a HS (fun k hk=>hk)) ?_;refine a0i (by kernel_rfl) ?_;obtain⟨z6,hz5⟩:=a0v.step z5 HS;rw[hz5]at KQ HS ⊢;obtain⟨dd⟩:Nonempty Nat:=⟨0⟩;exact SH _ _ dd ⟨HS,lo,KQ⟩
     ·skip
      gi_wp2;have hb9:=a0d (Below.refl zd.W.heap.size zd.W) (.cells #[.string ⟨#[]⟩,.string ⟨#[]⟩,.string ⟨#[]⟩,.string ⟨#[]⟩,.string ⟨#[]⟩,.string ⟨#[]⟩,.string ⟨#[]⟩,.string ⟨#[]⟩] 59);have KB:=(show CBlk (zd.W.alloc (.cells #[.string ⟨#[]⟩,.string ⟨#[]⟩,.string ⟨#[]⟩,.string ⟨#[]⟩,.string ⟨#[]⟩,.string ⟨#[]⟩,.string ⟨#[]⟩,.string ⟨#[]⟩] 59)) zd.W.heap.size zC from Blk.new zd.W 59 #[.string ⟨#[]⟩,.string ⟨#[]⟩,.string ⟨#[]⟩,.string ⟨#[]⟩,.string ⟨#[]⟩,.string ⟨#[]⟩,.string ⟨#[]⟩,.string ⟨#[]⟩]);have lo:=HS.out.size;have HS:=b9W (HS.out.trans (hb9.mono HS.out.size));obtain⟨ze,hze⟩:=a0v.step zd hb9;rw[hze]at KB HS ⊢;have KB:=b9W KB;clear hb9 hze;generalize zd.W.heap.size=bw at *;obtain⟨zd,rfl⟩:∃ x,x=ze:=⟨_,rfl⟩;refine a0b (a0a HS.out (fun k hk=>hk)) ?_;refine a0c 6 (by kernel_rfl) rfl ?_
      gi_wp2_with (gi_at_call 52;refine(callsIn_wide.2 (HCW.out _ _ _ ((R2.out _).row (Nat.le_trans HM2.out.len (by omega))) ((R3.out _).row (Nat.le_trans HM3.out.len (by omega))) (RS.out zd))).mono ?_;rintro e w9 ⟨rfl,hb9⟩;have HS:=b9W (HS.out.trans (hb9.mono HS.out.size));have KB:=b9W (KB.out.later hb9);obtain⟨zd,rfl⟩:=a0v.step zd hb9;clear hb9)
      refine a0b (a0a HS.out (fun k hk=>hk)) ?_;change a0l _ _ _ _ _ _ _ _ (2+3) _ _ _;refine a0e [7,8,9] 2 _ _ (by kernel_rfl) ?_;change wpQuietIn _ _ _ _ (fun W'=>∃ x:a0n z5.W (fun k=>k < z5.W.heap.size),W'=x.W) _ _ _
      simp only[a0h,a0m,List.getElem?_cons_zero,List.getElem?_cons_succ,Option.elim_some]
      repeat (gi_big_quiet_step (fail))
      refine wpQuietIn_nil ?_;obtain⟨c0,c1,c2,c3,c4,c5,c6,c7⟩:=KB.out.cells;obtain⟨g0,g1,g2,g3,g4,g5,g6,g7⟩:=KB.out.frozens;refine a0c 11 (by kernel_rfl) rfl ?_;gi_wp2;have KQ:CBlk ((((((((zd.W.setCell ⟨bw,0,none⟩ (.string (cr 0))).setCell ⟨bw,1,none⟩ (.string (cr 1))).setCell ⟨bw,2,none⟩ (.string (cr 2))).setCell ⟨bw,3,none⟩ (.string (cr 3))).setCell ⟨bw,4,none⟩ (.string (cr 4))).setCell ⟨bw,5,none⟩ (.string (cr 5))).setCell ⟨bw,6,none⟩ (.string (cr 6))).setCell ⟨bw,7,none⟩ (.string (cr 7))) bw cr:=a3w cr KB.out;have HS:Below z5.W.heap.size z5.W ((((((((zd.W.setCell ⟨bw,0,none⟩ (.string (cr 0))).setCell ⟨bw,1,none⟩ (.string (cr 1))).setCell ⟨bw,2,none⟩ (.string (cr 2))).setCell ⟨bw,3,none⟩ (.string (cr 3))).setCell ⟨bw,4,none⟩ (.string (cr 4))).setCell ⟨bw,5,none⟩ (.string (cr 5))).setCell ⟨bw,6,none⟩ (.string (cr 6))).setCell ⟨bw,7,none⟩ (.string (cr 7))):=a2h HS.out lo cr;refine a0b (a0a HS (fun k hk=>hk)) ?_;refine a0c 12 (by kernel_rfl) rfl ?_;gi_wp2;refine a0b (a0a HS (fun k hk=>hk)) ?_;refine a0i (by kernel_rfl) ?_;obtain⟨z6,hz5⟩:=a0v.step z5 HS;rw[hz5]at KQ HS ⊢;obtain⟨dd⟩:Nonempty Nat:=⟨0⟩;exact SH _ _ dd ⟨HS,lo,KQ⟩
    case rest =>
     rintro bw z6 _ ⟨HS,lo2,KR⟩;have KQ2:=b9W (KQ.out.later HS);have hne:bx≠bw:=by have:=KQ.out.lt;omega
     have KQ:=KQ2;clear KQ2;have lo2:=Nat.le_trans z5.h.size lo2;have HLO:=b9W (And.intro lo1 lo2);have HNE:=b9W hne;have KR:=b9W KR;clear HS lo1 lo2 hne HCW
     cases b1 with
     | false =>
      gi_wp2;refine bodyPost_ret (results_tmp rfl _ _ _) rfl ?_;exact⟨rfl,(N2.out.later z6.h).below⟩
     | true =>
      cases b2 with
      | false =>
       gi_wp2;refine bodyPost_ret (results_tmp rfl _ _ _) rfl ?_;exact⟨rfl,(N2.out.later z6.h).below⟩
      | true =>
       obtain⟨h01,h10,hq⟩:=HB.out rfl;obtain⟨h23,h32,hr⟩:=HBW.out rfl;have HIN:=b9W (And.intro h01 (And.intro h10 (And.intro h23 h32)));have HQ:=b9W hq;have HR:=b9W hr;have HBX:=b9W (And.intro KQ.out.lt KR.out.lt);clear h01 h10 h23 h32 hq hr HB HBW;obtain⟨B0w,hB0⟩:∃ B,B=z6.W.heap.size:=⟨_,rfl⟩;have HBZ:=b9W (fun (x:a0v z6.W)=>(hB0 ▸ x.h.size:B0w≤x.W.heap.size));rw[← hB0]at HBX;clear hB0;have XZ:=b9W (Below.refl z6.W.heap.size z6.W);have TL0:True:=trivial
       gi_wp2_with (clear TL0;gi_at_call 56;refine(callsIn_wide.2 (HL0.out _ _ ((R0.out _).row (Nat.le_trans HM0.out.len (by omega))) (RS.out z6))).mono ?_;rintro e w9 ⟨⟨uu,zs0,o0,ez,mk,rfl,own,sh,ln⟩,hb9⟩;obtain⟨A4,c4,rfl⟩:=own.slice;have HO0:=b9W (a4X.of own ln (HBZ.out ⟨z6.W,XZ.out⟩));have HT0:=b9W (a2E.mk HM0.out ez mk);have HSH0:=b9W (And.intro sh ln);clear own ez mk sh ln;have KQ:=b9W (KQ.out.later hb9);have KR:=b9W (KR.out.later hb9);have XZ:=b9W (XZ.out.trans (hb9.mono XZ.out.size));obtain⟨zl0,rfl⟩:=a0v.step z6 hb9;clear hb9)
       have TL1:True:=trivial
       gi_wp2_with (clear TL1;gi_at_call 56;refine(callsIn_wide.2 (HL1.out _ _ ((R1.out _).row (Nat.le_trans HM1.out.len (by omega))) (RS.out zl0))).mono ?_;rintro e w9 ⟨⟨uu,zs1,o1,ez,mk,rfl,own,sh,ln⟩,hb9⟩;obtain⟨A5,c5,rfl⟩:=own.slice;have HO1:=b9W (a4X.of own ln (HBZ.out ⟨zl0.W,XZ.out⟩));have HT1:=b9W (a2E.mk HM1.out ez mk);have HSH1:=b9W (And.intro sh ln);clear own ez mk sh ln;have KQ:=b9W (KQ.out.later hb9);have KR:=b9W (KR.out.later hb9);have HO0:=b9W (HO0.out.later hb9);have XZ:=b9W (XZ.out.trans (hb9.mono XZ.out.size));obtain⟨zl1,rfl⟩:=a0v.step zl0 hb9;clear hb9)
       have TL2:True:=trivial
       gi_wp2_with (clear TL2;gi_at_call 56;refine(callsIn_wide.2 (HL2.out _ _ ((R2.out _).row (Nat.le_trans HM2.out.len (by omega))) (RS.out zl1))).mono ?_;rintro e w9 ⟨⟨uu,zs2,o2,ez,mk,rfl,own,sh,ln⟩,hb9⟩;obtain⟨A6,c6,rfl⟩:=own.slice;have HO2:=b9W (a4X.of own ln (HBZ.out ⟨zl1.W,XZ.out⟩));have HT2:=b9W (a2E.mk HM2.out ez mk);have HSH2:=b9W (And.intro sh ln);clear own ez mk sh ln;have KQ:=b9W (KQ.out.later hb9);have KR:=b9W (KR.out.later hb9);have HO0:=b9W (HO0.out.later hb9);have HO1:=b9W (HO1.out.later hb9);have XZ:=b9W (XZ.out.trans (hb9.mono XZ.out.size));obtain⟨zl2,rfl⟩:=a0v.step zl1 hb9;clear hb9)
       have TL3:True:=trivial
       gi_wp2_with (clear TL3;gi_at_call 56;refine(callsIn_wide.2 (HL3.out _ _ ((R3.out _).row (Nat.le_trans HM3.out.len (by omega))) (RS.out zl2))).mono ?_;rintro e w9 ⟨⟨uu,zs3,o3,ez,mk,rfl,own,sh,ln⟩,hb9⟩;obtain⟨A7,c7,rfl⟩:=own.slice;have HO3:=b9W (a4X.of own ln (HBZ.out ⟨zl2.W,XZ.out⟩));have HT3:=b9W (a2E.mk HM3.out ez mk);have HSH3:=b9W (And.intro sh ln);clear own ez mk sh ln;have KQ:=b9W (KQ.out.later hb9);have KR:=b9W (KR.out.later hb9);have HO0:=b9W (HO0.out.later hb9);have HO1:=b9W (HO1.out.later hb9);have HO2:=b9W (HO2.out.later hb9);have XZ:=b9W (XZ.out.trans (hb9.mono XZ.out.size));obtain⟨zl3,rfl⟩:=a0v.step zl2 hb9;clear hb9)
       obtain⟨X,hX⟩:∃ X,X=curL (momX l0 l1) (momX l1 l0) (maxQ (a02 zs0) (a02 zs1)):=⟨_,rfl⟩;obtain⟨Y,hY⟩:∃ Y,Y=curL (momX l2 l3) (momX l3 l2) (maxQ (a02 zs2) (a02 zs3)):=⟨_,rfl⟩;obtain⟨cX,cY,zX,zY,cS,zS,z7,sX7,P,Q,eP,eQ,hP,hQ,hall⟩:=b7w HT0.out HT1.out HT2.out HT3.out HIN.out.1 HIN.out.2.1 HIN.out.2.2.1 HIN.out.2.2.2 HF1.out HSF.out hX hY;have HXU:=b9W (fun (W:World)=>b88 W (a16 (a0V.2 (HT0.out.sum.2.2.mono (show 74≤maxD by decide)))) (a16 (a0V.2 (HT1.out.sum.2.2.mono (show 74≤maxD by decide)))));have HXV:=b9W (fun (W:World)=>b88 W (a16 (a0V.2 (HT2.out.sum.2.2.mono (show 74≤maxD by decide)))) (a16 (a0V.2 (HT3.out.sum.2.2.mono (show 74≤maxD by decide)))));rw[show maxQ (a02 zs0) (a02 zs1)=X 7 by rw[hX,a8p]]at HXU;rw[show maxQ (a02 zs2) (a02 zs3)=Y 7 by rw[hY,a8p]]at HXV;change Hid (∀ W,Calls _ _ _ _ fun e w'=>e=.returned (.tuple #[.string (txt X 7),.int .i64 0])∧_) at HXU;change Hid (∀ W,Calls _ _ _ _ fun e w'=>e=.returned (.tuple #[.string (txt Y 7),.int .i64 0])∧_) at HXV;have HAD:=b9W (maddR cX cY zX zY (by unfold maxD;omega));have HTS:=b9W (fun (i:Nat) (hi:i < 7) (W:World) (hr:Res W)=>mtoL cS zS z7 (by omega) (by omega) (a16 HFF.out) HSF.out HF1.out hi W hr);have HTX:=b9W (fun (i:Nat) (hi:i < 7) (W:World) (hr:Res W)=>mtoL (k:=1200) cX (fun i hi=>zX i (by omega)) sX7 (by omega) (by omega) (a16 HFF.out) HSF.out HF1.out hi W hr);have ky:∀ {o:List L2},(∀ x∈o,x.1.size≤12)→∀ x∈o,x.1.size≤100000:=fun h x hx=>Nat.le_trans (h x hx) (by omega);have HPP:=b9W (fun u v (W:World) (hu:LRow W u o0) (hv:LRow W v o2) (hr:Res W)=>a9B o0 o2 u v W hu hv HSH0.out.1 HSH2.out.1 (ky HT0.out.key) (ky HT2.out.key) (Nat.le_trans (Nat.mul_le_mul HT0.out.len HT2.out.len) (by omega)) hr);have HPQ:=b9W (fun u v (W:World) (hu:LRow W u o1) (hv:LRow W v o3) (hr:Res W)=>a9B o1 o3 u v W hu hv HSH1.out.1 HSH3.out.1 (ky HT1.out.key) (ky HT3.out.key) (Nat.le_trans (Nat.mul_le_mul HT1.out.len HT3.out.len) (by omega)) hr);rw[eP]at HPP;rw[eQ]at HPQ;change Hid (∀ u v W (_:LRow W u o0) (_:LRow W v o2) (_:Res W),Calls _ _ _ _ fun e w'=>(∃ u,e=.returned (.tuple #[u,.int .i64 0])∧OwnM _ w' u P)∧_) at HPP;change Hid (∀ u v W (_:LRow W u o1) (_:LRow W v o3) (_:Res W),Calls _ _ _ _ fun e w'=>(∃ u,e=.returned (.tuple #[u,.int .i64 0])∧OwnM _ w' u Q)∧_) at HPQ;have hsf:=a14 (a1Z HFF.out);have HHS:=b9W (fun (i:Nat) (hi:i < 7) u v (W:World) (hu:LRow W u P) (hv:LRow W v Q) (hr:Res W)=>a4W (rT F) (rT (toM (sumM X Y) F i)) P Q u v W hu hv hP.1 hQ.1 hsf (a14 (a1Z (hall i hi).2.2.1)) hr);have HHX:=b9W (fun (i:Nat) (hi:i < 7) u v (W:World) (hu:LRow W u o0) (hv:LRow W v o1) (hr:Res W)=>a4W (rT F) (rT (toM X F i)) o0 o1 u v W hu hv HSH0.out.1 HSH1.out.1 hsf (a14 (a1Z (hall i hi).2.2.2)) hr);have HHR:=b9W (fun i hi=>And.intro (hall i hi).1 (hall i hi).2.1);have HLP:=b9W (And.intro hP.2 hQ.2);have HQX:=b9W (a94 HQ.out hX);have HRY:=b9W (a94 HR.out hY);clear cX cY zX zY cS zS z7 sX7 eP eQ hP hQ hall hX hY ky hsf;rw[HTF.out]at HTS HTX HHS HHX HHR;generalize toM (sumM X Y) F=tms at *;generalize toM X F=tmx at *;generalize txt (sumM X Y)=cs at *;generalize txt X=cx at *;generalize txt Y=cy at *;generalize rT (a02 zs0)=t0 at *;generalize rT (a02 zs1)=t1 at *;generalize rT (a02 zs2)=t2 at *;generalize rT (a02 zs3)=t3 at *;clear HT0 HT1 HT2 HT3 HL0 HL1 HL2 HL3 HIN HQ HR HSF HFF HF1 HTF XZ HBZ;change Hid (∀ (i:Nat) (hi:i < 7) (W:World) (_:Res W),Calls _ _ #[.agg #[.string (cs 0),.string (cs 1),.string (cs 2),.string (cs 3),.string (cs 4),.string (cs 5),.string (cs 6),.string (cs 7)],.int .i64 ((i:Int)+2),.string tF] _ fun e w'=>e=.returned (.tuple #[.agg #[.string tF,.string (rT (tms i))],.int .i64 0])∧_) at HTS;change Hid (∀ (i:Nat) (hi:i < 7) (W:World) (_:Res W),Calls _ _ #[.agg #[.string (cx 0),.string (cx 1),.string (cx 2),.string (cx 3),.string (cx 4),.string (cx 5),.string (cx 6),.string (cx 7)],.int .i64 ((i:Int)+2),.string tF] _ fun e w'=>e=.returned (.tuple #[.agg #[.string tF,.string (rT (tmx i))],.int .i64 0])∧_) at HTX;change Hid (∀ (W:World) (_:Res W),Calls _ _ #[.agg #[.string (cx 0),.string (cx 1),.string (cx 2),.string (cx 3),.string (cx 4),.string (cx 5),.string (cx 6),.string (cx 7)],.agg #[.string (cy 0),.string (cy 1),.string (cy 2),.string (cy 3),.string (cy 4),.string (cy 5),.string (cy 6),.string (cy 7)]] _ fun e w'=>e=.returned (.tuple #[.agg #[.string (cs 0),.string (cs 1),.string (cs 2),.string (cs 3),.string (cs 4),.string (cs 5),.string (cs 6),.string (cs 7)],.int .i64 0])∧_) at HAD;have TM0:True:=trivial
       gi_wp2_with (clear TM0;gi_at_call 57;refine(callsIn_wide.2 (HXU.out _)).mono ?_;rintro e w9 ⟨rfl,hb9⟩;have KQ:=b9W (KQ.out.later hb9);have KR:=b9W (KR.out.later hb9);have HO0:=b9W (HO0.out.later hb9);have HO1:=b9W (HO1.out.later hb9);have HO2:=b9W (HO2.out.later hb9);have HO3:=b9W (HO3.out.later hb9);obtain⟨zm0,rfl⟩:=a0v.step zl3 hb9;clear hb9;obtain⟨_,_,_,_,_,_,_,p7⟩:=KQ.out.cells;obtain⟨_,_,_,_,_,_,_,f7⟩:=KQ.out.frozens;have lt7:=KQ.out.lt)
       have KQ2:=(KQ.out.set_ (k:=7) (by omega) (cx 7)).congr HQX.out;have KR2:=KR.out.far (HNE.out.symm) 7 (.string (cx 7));have HO02:=HO0.out.set HBX.out.1 7 (.string (cx 7));have HO12:=HO1.out.set HBX.out.1 7 (.string (cx 7));have HO22:=HO2.out.set HBX.out.1 7 (.string (cx 7));have HO32:=HO3.out.set HBX.out.1 7 (.string (cx 7));obtain⟨zc0,hz⟩:∃ x:a0v w2,zm0.W.setCell ⟨bx,7,none⟩ (.string (cx 7))=x.W:=⟨⟨_,zm0.h.setCell (p:=⟨bx,7,none⟩) HLO.out.1 (.string (cx 7))⟩,rfl⟩;rw[hz]at KQ2 KR2 HO02 HO12 HO22 HO32 ⊢;clear hz p7 f7 lt7 KQ KR HO0 HO1 HO2 HO3;have KQ:=b9W KQ2;have KR:=b9W KR2;have HO0:=b9W HO02;have HO1:=b9W HO12;have HO2:=b9W HO22;have HO3:=b9W HO32;clear KQ2 KR2 HO02 HO12 HO22 HO32;have TM1:True:=trivial
       gi_wp2_with (clear TM1;gi_at_call 57;refine(callsIn_wide.2 (HXV.out _)).mono ?_;rintro e w9 ⟨rfl,hb9⟩;have KQ:=b9W (KQ.out.later hb9);have KR:=b9W (KR.out.later hb9);have HO0:=b9W (HO0.out.later hb9);have HO1:=b9W (HO1.out.later hb9);have HO2:=b9W (HO2.out.later hb9);have HO3:=b9W (HO3.out.later hb9);obtain⟨zm1,rfl⟩:=a0v.step zc0 hb9;clear hb9;obtain⟨_,_,_,_,_,_,_,p7⟩:=KR.out.cells;obtain⟨_,_,_,_,_,_,_,f7⟩:=KR.out.frozens;have lt7:=KR.out.lt)
       have KR2:=(KR.out.set_ (k:=7) (by omega) (cy 7)).congr HRY.out;have KQ2:=KQ.out.far (HNE.out) 7 (.string (cy 7));have HO02:=HO0.out.set HBX.out.2 7 (.string (cy 7));have HO12:=HO1.out.set HBX.out.2 7 (.string (cy 7));have HO22:=HO2.out.set HBX.out.2 7 (.string (cy 7));have HO32:=HO3.out.set HBX.out.2 7 (.string (cy 7));obtain⟨zc1,hz⟩:∃ x:a0v w2,zm1.W.setCell ⟨bw,7,none⟩ (.string (cy 7))=x.W:=⟨⟨_,zm1.h.setCell (p:=⟨bw,7,none⟩) HLO.out.2 (.string (cy 7))⟩,rfl⟩;rw[hz]at KR2 KQ2 HO02 HO12 HO22 HO32 ⊢;clear hz p7 f7 lt7 KQ KR HO0 HO1 HO2 HO3;have KQ:=b9W KQ2;have KR:=b9W KR2;have HO0:=b9W HO02;have HO1:=b9W HO12;have HO2:=b9W HO22;have HO3:=b9W HO32;clear KQ2 KR2 HO02 HO12 HO22 HO32;clear HQX HRY HXU HXV HLO HNE HBX;have TP0:True:=trivial
       gi_wp2_with (clear TP0;gi_at_call 28;refine(callsIn_wide.2 (HPP.out _ _ _ HO0.out.1 HO2.out.1 (RS.out zc1))).mono ?_;rintro e w9 ⟨⟨u,rfl,own⟩,hb9⟩;obtain⟨A8,kA8,rfl⟩:=own.slice;have HP:=b9W (own.row HLP.out.1);have KQ:=b9W (KQ.out.later hb9);have KR:=b9W (KR.out.later hb9);have HO0:=b9W (HO0.out.later hb9);have HO1:=b9W (HO1.out.later hb9);have HO2:=b9W (HO2.out.later hb9);have HO3:=b9W (HO3.out.later hb9);obtain⟨zp0,rfl⟩:=a0v.step zc1 hb9;clear hb9 own)
       have TP1:True:=trivial
       gi_wp2_with (clear TP1;gi_at_call 28;refine(callsIn_wide.2 (HPQ.out _ _ _ HO1.out.1 HO3.out.1 (RS.out zp0))).mono ?_;rintro e w9 ⟨⟨u,rfl,own⟩,hb9⟩;obtain⟨A9,kA9,rfl⟩:=own.slice;have HR:=b9W (own.row HLP.out.2);have KQ:=b9W (KQ.out.later hb9);have KR:=b9W (KR.out.later hb9);have HO0:=b9W (HO0.out.later hb9);have HO1:=b9W (HO1.out.later hb9);have HO2:=b9W (HO2.out.later hb9);have HO3:=b9W (HO3.out.later hb9);have HP:=b9W (HP.out.below hb9);obtain⟨zp1,rfl⟩:=a0v.step zp0 hb9;clear hb9 own;obtain⟨c0,c1,c2,c3,c4,c5,c6,c7⟩:=KQ.out.cells;obtain⟨d0,d1,d2,d3,d4,d5,d6,d7⟩:=KR.out.cells;have cl:=KQ.out.lt;have dl:=KR.out.lt)
       gi_wp2_with (gi_at_call 58;refine(callsIn_wide.2 (HAD.out _ (RS.out zp1))).mono ?_;rintro e w9 ⟨rfl,hb9⟩;clear c0 c1 c2 c3 c4 c5 c6 c7 d0 d1 d2 d3 d4 d5 d6 d7 cl dl HO2 HO3 KR;have KQ:=b9W (KQ.out.later hb9);have HO0:=b9W (HO0.out.later hb9);have HO1:=b9W (HO1.out.later hb9);have HP:=b9W (HP.out.below hb9);have HR:=b9W (HR.out.below hb9);obtain⟨zq,rfl⟩:=a0v.step zp1 hb9;clear hb9)
       clear HAD HPP HPQ HLP;have KS:=CBlk.new zq.W cs;have hb9:=a0d (Below.refl zq.W.heap.size zq.W) (.cells #[.string (cs 0),.string (cs 1),.string (cs 2),.string (cs 3),.string (cs 4),.string (cs 5),.string (cs 6),.string (cs 7)] 59);obtain⟨zr,hz⟩:=a0v.step zq hb9;rw[hz]at KS hb9 ⊢;have KQ:=b9W (KQ.out.later hb9);have HO0:=b9W (HO0.out.later hb9);have HO1:=b9W (HO1.out.later hb9);have HP:=b9W (HP.out.below hb9);have HR:=b9W (HR.out.below hb9);clear hz hb9;have KS:=b9W KS;generalize zq.W.heap.size=bs at *;have v0:∀ x:a0n zr.W (fun k=>k < zr.W.heap.size),x.W.cell? ⟨bs,0,none⟩=some (.string (cs 0)):=fun x=>x.cell KS.out.lt (KS.out.cell (k:=0) (by omega));have v1:∀ x:a0n zr.W (fun k=>k < zr.W.heap.size),x.W.cell? ⟨bs,1,none⟩=some (.string (cs 1)):=fun x=>x.cell KS.out.lt (KS.out.cell (k:=1) (by omega));have v2:∀ x:a0n zr.W (fun k=>k < zr.W.heap.size),x.W.cell? ⟨bs,2,none⟩=some (.string (cs 2)):=fun x=>x.cell KS.out.lt (KS.out.cell (k:=2) (by omega));have v3:∀ x:a0n zr.W (fun k=>k < zr.W.heap.size),x.W.cell? ⟨bs,3,none⟩=some (.string (cs 3)):=fun x=>x.cell KS.out.lt (KS.out.cell (k:=3) (by omega));have v4:∀ x:a0n zr.W (fun k=>k < zr.W.heap.size),x.W.cell? ⟨bs,4,none⟩=some (.string (cs 4)):=fun x=>x.cell KS.out.lt (KS.out.cell (k:=4) (by omega));have v5:∀ x:a0n zr.W (fun k=>k < zr.W.heap.size),x.W.cell? ⟨bs,5,none⟩=some (.string (cs 5)):=fun x=>x.cell KS.out.lt (KS.out.cell (k:=5) (by omega));have v6:∀ x:a0n zr.W (fun k=>k < zr.W.heap.size),x.W.cell? ⟨bs,6,none⟩=some (.string (cs 6)):=fun x=>x.cell KS.out.lt (KS.out.cell (k:=6) (by omega));have v7:∀ x:a0n zr.W (fun k=>k < zr.W.heap.size),x.W.cell? ⟨bs,7,none⟩=some (.string (cs 7)):=fun x=>x.cell KS.out.lt (KS.out.cell (k:=7) (by omega));refine a0o (a0R zr.W (fun k=>k < zr.W.heap.size)) [0,1,3,4,6,7,8] [] hmx (by kernel_rfl) (a0g fun _ _=>rfl) ?_;change a0l _ _ _ _ _ _ _ _ (9+3) _ _ _;refine a0e [0,1,4] 9 _ _ (by kernel_rfl) ?_;change wpQuietIn _ _ _ _ (fun W'=>∃ x:a0n zr.W (fun k=>k < zr.W.heap.size),W'=x.W) _ _ _
       simp only[a0h,a0m,List.getElem?_cons_zero,List.getElem?_cons_succ,Option.elim_some]
       repeat (gi_big_quiet_step (fail))
       refine wpQuietIn_nil ?_;clear v0 v1 v2 v3 v4 v5 v6 v7;obtain⟨zd,hzd⟩:=a0v.step zr (a0P zr.W);have HS:=b9W (a0P zr.W);rw[hzd]at HS ⊢;clear hzd
       apply b3I (fun (bz:Nat) (z:a0v w2) (j:Nat)=>j < 7∧Below zr.W.heap.size zr.W z.W∧zr.W.heap.size≤bz∧Blk z.W bz 63 #[.string tF,.string (rT (tms j))])
       case main =>
        intro SH;refine a1p 2 9 (by kernel_rfl) rfl rfl ?_ ?_
        ·skip
         gi_wp2_with (gi_at_call 54;refine(callsIn_wide.2 (HPK.out _)).mono ?_;rintro e w9 ⟨j,rfl,j0,j7,hw⟩;replace hw:=hw.symm;subst hw)
         obtain⟨i,rfl⟩:=Int.eq_ofNat_of_zero_le j0;have hi7:i < 7:=by omega
         refine a0b (a0a HS.out (fun k hk=>hk)) ?_;change a0l _ _ _ _ _ _ _ _ (7+1) _ _ _;refine a0e [3] 7 _ _ (by kernel_rfl) ?_;change wpQuietIn _ _ _ _ (fun W'=>∃ x:a0n zr.W (fun k=>k < zr.W.heap.size),W'=x.W) _ _ _
         simp only[a0h,a0m,List.getElem?_cons_zero,List.getElem?_cons_succ,Option.elim_some]
         repeat (gi_big_quiet_step (fail))
         refine wpQuietIn_nil ?_;refine a1p 5 9 (by kernel_rfl) rfl rfl ?_ ?_
         ·skip
          have HT:=b9W (HTS.out i hi7);have e2:(i:Int)+2=2+(i:Int):=by omega
          rw[e2]at HT;clear e2
          gi_wp2_with (gi_at_call 53;refine(callsIn_wide.2 (HT.out _ (RS.out zd))).mono ?_;rintro e w9 ⟨rfl,hb9⟩;have HS:=b9W (HS.out.trans (hb9.mono HS.out.size));obtain⟨zd,rfl⟩:=a0v.step zd hb9;clear hb9)
          refine a0b (a0a HS.out (fun k hk=>hk)) ?_;change a0l _ _ _ _ _ _ _ _ (3+3) _ _ _;refine a0e [6,7,8] 3 _ _ (by kernel_rfl) ?_;change wpQuietIn _ _ _ _ (fun W'=>∃ x:a0n zr.W (fun k=>k < zr.W.heap.size),W'=x.W) _ _ _
          simp only[a0h,a0m,List.getElem?_cons_zero,List.getElem?_cons_succ,Option.elim_some]
          repeat (gi_big_quiet_step (fail))
          refine wpQuietIn_nil ?_;refine a0c 9 (by kernel_rfl) rfl ?_;gi_wp2;have hb9:=a0d (Below.refl zd.W.heap.size zd.W) (.cells #[.string ⟨#[]⟩,.string ⟨#[]⟩] 63);have KB:=Blk.new zd.W 63 #[.string ⟨#[]⟩,.string ⟨#[]⟩];have lo:=HS.out.size;have HS:=b9W (HS.out.trans (hb9.mono HS.out.size));obtain⟨ze,hze⟩:=a0v.step zd hb9;rw[hze]at KB HS ⊢;have KB:=b9W KB;clear hb9 hze;generalize zd.W.heap.size=bz at *;obtain⟨zd,rfl⟩:∃ x,x=ze:=⟨_,rfl⟩;refine a0b (a0a HS.out (fun k hk=>hk)) ?_;obtain⟨p0,p1⟩:=a06 KB.out;have f0:=KB.out.frozen 0;have f1:=KB.out.frozen 1;refine a0c 10 (by kernel_rfl) rfl ?_;gi_wp2;have KX:=(KB.out.set_ 0 (.string tF)).set_ 1 (.string (rT (tms i)));have HS:=(HS.out.setCell (p:=⟨bz,0,none⟩) lo (.string tF)).setCell (p:=⟨bz,1,none⟩) lo (.string (rT (tms i)));refine a0b (a0a HS (fun k hk=>hk)) ?_;refine a0c 11 (by kernel_rfl) rfl ?_;gi_wp2;refine a0b (a0a HS (fun k hk=>hk)) ?_;refine a0i (by kernel_rfl) ?_;obtain⟨zt,hzo⟩:=a0v.step zr HS;rw[hzo]at KX HS ⊢;exact SH _ _ _ ⟨hi7,HS,lo,KX⟩
         ·skip
          gi_wp2;have hb9:=a0d (Below.refl zd.W.heap.size zd.W) (.cells #[.string ⟨#[]⟩,.string ⟨#[]⟩] 63);have KB:=Blk.new zd.W 63 #[.string ⟨#[]⟩,.string ⟨#[]⟩];have lo:=HS.out.size;have HS:=b9W (HS.out.trans (hb9.mono HS.out.size));obtain⟨ze,hze⟩:=a0v.step zd hb9;rw[hze]at KB HS ⊢;have KB:=b9W KB;clear hb9 hze;generalize zd.W.heap.size=bz at *;obtain⟨zd,rfl⟩:∃ x,x=ze:=⟨_,rfl⟩;refine a0b (a0a HS.out (fun k hk=>hk)) ?_;refine a0c 5 (by kernel_rfl) rfl ?_;have HT:=b9W (HTS.out i hi7);have e2:(i:Int)+2=2+(i:Int):=by omega
          rw[e2]at HT;clear e2
          gi_wp2_with (gi_at_call 53;refine(callsIn_wide.2 (HT.out _ (RS.out zd))).mono ?_;rintro e w9 ⟨rfl,hb9⟩;have HS:=b9W (HS.out.trans (hb9.mono HS.out.size));have KB:=b9W (KB.out.below hb9 KB.out.lt);obtain⟨zd,rfl⟩:=a0v.step zd hb9;clear hb9)
          refine a0b (a0a HS.out (fun k hk=>hk)) ?_;change a0l _ _ _ _ _ _ _ _ (2+3) _ _ _;refine a0e [6,7,8] 2 _ _ (by kernel_rfl) ?_;change wpQuietIn _ _ _ _ (fun W'=>∃ x:a0n zr.W (fun k=>k < zr.W.heap.size),W'=x.W) _ _ _
          simp only[a0h,a0m,List.getElem?_cons_zero,List.getElem?_cons_succ,Option.elim_some]
          repeat (gi_big_quiet_step (fail))
          refine wpQuietIn_nil ?_;obtain⟨p0,p1⟩:=a06 KB.out;have f0:=KB.out.frozen 0;have f1:=KB.out.frozen 1;refine a0c 10 (by kernel_rfl) rfl ?_;gi_wp2;have KX:=(KB.out.set_ 0 (.string tF)).set_ 1 (.string (rT (tms i)));have HS:=(HS.out.setCell (p:=⟨bz,0,none⟩) lo (.string tF)).setCell (p:=⟨bz,1,none⟩) lo (.string (rT (tms i)));refine a0b (a0a HS (fun k hk=>hk)) ?_;refine a0c 11 (by kernel_rfl) rfl ?_;gi_wp2;refine a0b (a0a HS (fun k hk=>hk)) ?_;refine a0i (by kernel_rfl) ?_;obtain⟨zt,hzo⟩:=a0v.step zr HS;rw[hzo]at KX HS ⊢;exact SH _ _ _ ⟨hi7,HS,lo,KX⟩
        ·skip
         gi_wp2;have hb9:=a0d (Below.refl zd.W.heap.size zd.W) (.cells #[.string ⟨#[]⟩,.string ⟨#[]⟩] 63);have KB:=Blk.new zd.W 63 #[.string ⟨#[]⟩,.string ⟨#[]⟩];have lo:=HS.out.size;have HS:=b9W (HS.out.trans (hb9.mono HS.out.size));obtain⟨ze,hze⟩:=a0v.step zd hb9;rw[hze]at KB HS ⊢;have KB:=b9W KB;clear hb9 hze;generalize zd.W.heap.size=bz at *;obtain⟨zd,rfl⟩:∃ x,x=ze:=⟨_,rfl⟩;refine a0b (a0a HS.out (fun k hk=>hk)) ?_;refine a0c 2 (by kernel_rfl) rfl ?_
         gi_wp2_with (gi_at_call 54;refine(callsIn_wide.2 (HPK.out _)).mono ?_;rintro e w9 ⟨j,rfl,j0,j7,hw⟩;replace hw:=hw.symm;subst hw)
         obtain⟨i,rfl⟩:=Int.eq_ofNat_of_zero_le j0;have hi7:i < 7:=by omega
         refine a0b (a0a HS.out (fun k hk=>hk)) ?_;change a0l _ _ _ _ _ _ _ _ (6+1) _ _ _;refine a0e [3] 6 _ _ (by kernel_rfl) ?_;change wpQuietIn _ _ _ _ (fun W'=>∃ x:a0n zr.W (fun k=>k < zr.W.heap.size),W'=x.W) _ _ _
         simp only[a0h,a0m,List.getElem?_cons_zero,List.getElem?_cons_succ,Option.elim_some]
         repeat (gi_big_quiet_step (fail))
         refine wpQuietIn_nil ?_;refine a0c 5 (by kernel_rfl) rfl ?_;have HT:=b9W (HTS.out i hi7);have e2:(i:Int)+2=2+(i:Int):=by omega
         rw[e2]at HT;clear e2
         gi_wp2_with (gi_at_call 53;refine(callsIn_wide.2 (HT.out _ (RS.out zd))).mono ?_;rintro e w9 ⟨rfl,hb9⟩;have HS:=b9W (HS.out.trans (hb9.mono HS.out.size));have KB:=b9W (KB.out.below hb9 KB.out.lt);obtain⟨zd,rfl⟩:=a0v.step zd hb9;clear hb9)
         refine a0b (a0a HS.out (fun k hk=>hk)) ?_;change a0l _ _ _ _ _ _ _ _ (2+3) _ _ _;refine a0e [6,7,8] 2 _ _ (by kernel_rfl) ?_;change wpQuietIn _ _ _ _ (fun W'=>∃ x:a0n zr.W (fun k=>k < zr.W.heap.size),W'=x.W) _ _ _
         simp only[a0h,a0m,List.getElem?_cons_zero,List.getElem?_cons_succ,Option.elim_some]
         repeat (gi_big_quiet_step (fail))
         refine wpQuietIn_nil ?_;obtain⟨p0,p1⟩:=a06 KB.out;have f0:=KB.out.frozen 0;have f1:=KB.out.frozen 1;refine a0c 10 (by kernel_rfl) rfl ?_;gi_wp2;have KX:=(KB.out.set_ 0 (.string tF)).set_ 1 (.string (rT (tms i)));have HS:=(HS.out.setCell (p:=⟨bz,0,none⟩) lo (.string tF)).setCell (p:=⟨bz,1,none⟩) lo (.string (rT (tms i)));refine a0b (a0a HS (fun k hk=>hk)) ?_;refine a0c 11 (by kernel_rfl) rfl ?_;gi_wp2;refine a0b (a0a HS (fun k hk=>hk)) ?_;refine a0i (by kernel_rfl) ?_;obtain⟨zt,hzo⟩:=a0v.step zr HS;rw[hzo]at KX HS ⊢;exact SH _ _ _ ⟨hi7,HS,lo,KX⟩
       case rest =>
        rintro bt zt it ⟨hit,HS,lo,KT⟩;clear lo HTS KS;have KQ:=b9W (KQ.out.later HS);have HO0:=b9W (HO0.out.later HS);have HO1:=b9W (HO1.out.later HS);have HP:=b9W (HP.out.below HS);have HR:=b9W (HR.out.below HS);have KT:=b9W KT;have HIT:=b9W hit;clear HS hit;gi_wp2;have v0:∀ x:a0n zt.W (fun k=>k < zt.W.heap.size),x.W.cell? ⟨bx,0,none⟩=some (.string (cx 0)):=fun x=>x.cell KQ.out.lt (KQ.out.cell (k:=0) (by omega));have v1:∀ x:a0n zt.W (fun k=>k < zt.W.heap.size),x.W.cell? ⟨bx,1,none⟩=some (.string (cx 1)):=fun x=>x.cell KQ.out.lt (KQ.out.cell (k:=1) (by omega));have v2:∀ x:a0n zt.W (fun k=>k < zt.W.heap.size),x.W.cell? ⟨bx,2,none⟩=some (.string (cx 2)):=fun x=>x.cell KQ.out.lt (KQ.out.cell (k:=2) (by omega));have v3:∀ x:a0n zt.W (fun k=>k < zt.W.heap.size),x.W.cell? ⟨bx,3,none⟩=some (.string (cx 3)):=fun x=>x.cell KQ.out.lt (KQ.out.cell (k:=3) (by omega));have v4:∀ x:a0n zt.W (fun k=>k < zt.W.heap.size),x.W.cell? ⟨bx,4,none⟩=some (.string (cx 4)):=fun x=>x.cell KQ.out.lt (KQ.out.cell (k:=4) (by omega));have v5:∀ x:a0n zt.W (fun k=>k < zt.W.heap.size),x.W.cell? ⟨bx,5,none⟩=some (.string (cx 5)):=fun x=>x.cell KQ.out.lt (KQ.out.cell (k:=5) (by omega));have v6:∀ x:a0n zt.W (fun k=>k < zt.W.heap.size),x.W.cell? ⟨bx,6,none⟩=some (.string (cx 6)):=fun x=>x.cell KQ.out.lt (KQ.out.cell (k:=6) (by omega));have v7:∀ x:a0n zt.W (fun k=>k < zt.W.heap.size),x.W.cell? ⟨bx,7,none⟩=some (.string (cx 7)):=fun x=>x.cell KQ.out.lt (KQ.out.cell (k:=7) (by omega));refine a0o (a0R zt.W (fun k=>k < zt.W.heap.size)) [0,1,3,4,6,7,8] [] hmx (by kernel_rfl) (a0g fun _ _=>rfl) ?_;change a0l _ _ _ _ _ _ _ _ (9+3) _ _ _;refine a0e [0,1,4] 9 _ _ (by kernel_rfl) ?_;change wpQuietIn _ _ _ _ (fun W'=>∃ x:a0n zt.W (fun k=>k < zt.W.heap.size),W'=x.W) _ _ _
        simp only[a0h,a0m,List.getElem?_cons_zero,List.getElem?_cons_succ,Option.elim_some]
        repeat (gi_big_quiet_step (fail))
        refine wpQuietIn_nil ?_;clear v0 v1 v2 v3 v4 v5 v6 v7;obtain⟨zd,hzd⟩:=a0v.step zt (a0P zt.W);have HS:=b9W (a0P zt.W);rw[hzd]at HS ⊢;clear hzd
        apply b3I (fun (bz:Nat) (z:a0v w2) (j:Nat)=>j < 7∧Below zt.W.heap.size zt.W z.W∧zt.W.heap.size≤bz∧Blk z.W bz 63 #[.string tF,.string (rT (tmx j))])
        case main =>
         intro SH;refine a1p 2 9 (by kernel_rfl) rfl rfl ?_ ?_
         ·skip
          gi_wp2_with (gi_at_call 54;refine(callsIn_wide.2 (HPK.out _)).mono ?_;rintro e w9 ⟨j,rfl,j0,j7,hw⟩;replace hw:=hw.symm;subst hw)
          obtain⟨i,rfl⟩:=Int.eq_ofNat_of_zero_le j0;have hi7:i < 7:=by omega
          refine a0b (a0a HS.out (fun k hk=>hk)) ?_;change a0l _ _ _ _ _ _ _ _ (7+1) _ _ _;refine a0e [3] 7 _ _ (by kernel_rfl) ?_;change wpQuietIn _ _ _ _ (fun W'=>∃ x:a0n zt.W (fun k=>k < zt.W.heap.size),W'=x.W) _ _ _
          simp only[a0h,a0m,List.getElem?_cons_zero,List.getElem?_cons_succ,Option.elim_some]
          repeat (gi_big_quiet_step (fail))
          refine wpQuietIn_nil ?_;refine a1p 5 9 (by kernel_rfl) rfl rfl ?_ ?_
          ·skip
           have HT:=b9W (HTX.out i hi7);have e2:(i:Int)+2=2+(i:Int):=by omega
           rw[e2]at HT;clear e2
           gi_wp2_with (gi_at_call 53;refine(callsIn_wide.2 (HT.out _ (RS.out zd))).mono ?_;rintro e w9 ⟨rfl,hb9⟩;have HS:=b9W (HS.out.trans (hb9.mono HS.out.size));obtain⟨zd,rfl⟩:=a0v.step zd hb9;clear hb9)
           refine a0b (a0a HS.out (fun k hk=>hk)) ?_;change a0l _ _ _ _ _ _ _ _ (3+3) _ _ _;refine a0e [6,7,8] 3 _ _ (by kernel_rfl) ?_;change wpQuietIn _ _ _ _ (fun W'=>∃ x:a0n zt.W (fun k=>k < zt.W.heap.size),W'=x.W) _ _ _
           simp only[a0h,a0m,List.getElem?_cons_zero,List.getElem?_cons_succ,Option.elim_some]
           repeat (gi_big_quiet_step (fail))
           refine wpQuietIn_nil ?_;refine a0c 9 (by kernel_rfl) rfl ?_;gi_wp2;have hb9:=a0d (Below.refl zd.W.heap.size zd.W) (.cells #[.string ⟨#[]⟩,.string ⟨#[]⟩] 63);have KB:=Blk.new zd.W 63 #[.string ⟨#[]⟩,.string ⟨#[]⟩];have lo:=HS.out.size;have HS:=b9W (HS.out.trans (hb9.mono HS.out.size));obtain⟨ze,hze⟩:=a0v.step zd hb9;rw[hze]at KB HS ⊢;have KB:=b9W KB;clear hb9 hze;generalize zd.W.heap.size=bz at *;obtain⟨zd,rfl⟩:∃ x,x=ze:=⟨_,rfl⟩;refine a0b (a0a HS.out (fun k hk=>hk)) ?_;obtain⟨p0,p1⟩:=a06 KB.out;have f0:=KB.out.frozen 0;have f1:=KB.out.frozen 1;refine a0c 10 (by kernel_rfl) rfl ?_;gi_wp2;have KX:=(KB.out.set_ 0 (.string tF)).set_ 1 (.string (rT (tmx i)));have HS:=(HS.out.setCell (p:=⟨bz,0,none⟩) lo (.string tF)).setCell (p:=⟨bz,1,none⟩) lo (.string (rT (tmx i)));refine a0b (a0a HS (fun k hk=>hk)) ?_;refine a0c 11 (by kernel_rfl) rfl ?_;gi_wp2;refine a0b (a0a HS (fun k hk=>hk)) ?_;refine a0i (by kernel_rfl) ?_;obtain⟨zu,hzo⟩:=a0v.step zt HS;rw[hzo]at KX HS ⊢;exact SH _ _ _ ⟨hi7,HS,lo,KX⟩
          ·skip
           gi_wp2;have hb9:=a0d (Below.refl zd.W.heap.size zd.W) (.cells #[.string ⟨#[]⟩,.string ⟨#[]⟩] 63);have KB:=Blk.new zd.W 63 #[.string ⟨#[]⟩,.string ⟨#[]⟩];have lo:=HS.out.size;have HS:=b9W (HS.out.trans (hb9.mono HS.out.size));obtain⟨ze,hze⟩:=a0v.step zd hb9;rw[hze]at KB HS ⊢;have KB:=b9W KB;clear hb9 hze;generalize zd.W.heap.size=bz at *;obtain⟨zd,rfl⟩:∃ x,x=ze:=⟨_,rfl⟩;refine a0b (a0a HS.out (fun k hk=>hk)) ?_;refine a0c 5 (by kernel_rfl) rfl ?_;have HT:=b9W (HTX.out i hi7);have e2:(i:Int)+2=2+(i:Int):=by omega
           rw[e2]at HT;clear e2
           gi_wp2_with (gi_at_call 53;refine(callsIn_wide.2 (HT.out _ (RS.out zd))).mono ?_;rintro e w9 ⟨rfl,hb9⟩;have HS:=b9W (HS.out.trans (hb9.mono HS.out.size));have KB:=b9W (KB.out.below hb9 KB.out.lt);obtain⟨zd,rfl⟩:=a0v.step zd hb9;clear hb9)
           refine a0b (a0a HS.out (fun k hk=>hk)) ?_;change a0l _ _ _ _ _ _ _ _ (2+3) _ _ _;refine a0e [6,7,8] 2 _ _ (by kernel_rfl) ?_;change wpQuietIn _ _ _ _ (fun W'=>∃ x:a0n zt.W (fun k=>k < zt.W.heap.size),W'=x.W) _ _ _
           simp only[a0h,a0m,List.getElem?_cons_zero,List.getElem?_cons_succ,Option.elim_some]
           repeat (gi_big_quiet_step (fail))
           refine wpQuietIn_nil ?_;obtain⟨p0,p1⟩:=a06 KB.out;have f0:=KB.out.frozen 0;have f1:=KB.out.frozen 1;refine a0c 10 (by kernel_rfl) rfl ?_;gi_wp2;have KX:=(KB.out.set_ 0 (.string tF)).set_ 1 (.string (rT (tmx i)));have HS:=(HS.out.setCell (p:=⟨bz,0,none⟩) lo (.string tF)).setCell (p:=⟨bz,1,none⟩) lo (.string (rT (tmx i)));refine a0b (a0a HS (fun k hk=>hk)) ?_;refine a0c 11 (by kernel_rfl) rfl ?_;gi_wp2;refine a0b (a0a HS (fun k hk=>hk)) ?_;refine a0i (by kernel_rfl) ?_;obtain⟨zu,hzo⟩:=a0v.step zt HS;rw[hzo]at KX HS ⊢;exact SH _ _ _ ⟨hi7,HS,lo,KX⟩
         ·skip
          gi_wp2;have hb9:=a0d (Below.refl zd.W.heap.size zd.W) (.cells #[.string ⟨#[]⟩,.string ⟨#[]⟩] 63);have KB:=Blk.new zd.W 63 #[.string ⟨#[]⟩,.string ⟨#[]⟩];have lo:=HS.out.size;have HS:=b9W (HS.out.trans (hb9.mono HS.out.size));obtain⟨ze,hze⟩:=a0v.step zd hb9;rw[hze]at KB HS ⊢;have KB:=b9W KB;clear hb9 hze;generalize zd.W.heap.size=bz at *;obtain⟨zd,rfl⟩:∃ x,x=ze:=⟨_,rfl⟩;refine a0b (a0a HS.out (fun k hk=>hk)) ?_;refine a0c 2 (by kernel_rfl) rfl ?_
          gi_wp2_with (gi_at_call 54;refine(callsIn_wide.2 (HPK.out _)).mono ?_;rintro e w9 ⟨j,rfl,j0,j7,hw⟩;replace hw:=hw.symm;subst hw)
          obtain⟨i,rfl⟩:=Int.eq_ofNat_of_zero_le j0;have hi7:i < 7:=by omega
          refine a0b (a0a HS.out (fun k hk=>hk)) ?_;change a0l _ _ _ _ _ _ _ _ (6+1) _ _ _;refine a0e [3] 6 _ _ (by kernel_rfl) ?_;change wpQuietIn _ _ _ _ (fun W'=>∃ x:a0n zt.W (fun k=>k < zt.W.heap.size),W'=x.W) _ _ _
          simp only[a0h,a0m,List.getElem?_cons_zero,List.getElem?_cons_succ,Option.elim_some]
          repeat (gi_big_quiet_step (fail))
          refine wpQuietIn_nil ?_;refine a0c 5 (by kernel_rfl) rfl ?_;have HT:=b9W (HTX.out i hi7);have e2:(i:Int)+2=2+(i:Int):=by omega
          rw[e2]at HT;clear e2
          gi_wp2_with (gi_at_call 53;refine(callsIn_wide.2 (HT.out _ (RS.out zd))).mono ?_;rintro e w9 ⟨rfl,hb9⟩;have HS:=b9W (HS.out.trans (hb9.mono HS.out.size));have KB:=b9W (KB.out.below hb9 KB.out.lt);obtain⟨zd,rfl⟩:=a0v.step zd hb9;clear hb9)
          refine a0b (a0a HS.out (fun k hk=>hk)) ?_;change a0l _ _ _ _ _ _ _ _ (2+3) _ _ _;refine a0e [6,7,8] 2 _ _ (by kernel_rfl) ?_;change wpQuietIn _ _ _ _ (fun W'=>∃ x:a0n zt.W (fun k=>k < zt.W.heap.size),W'=x.W) _ _ _
          simp only[a0h,a0m,List.getElem?_cons_zero,List.getElem?_cons_succ,Option.elim_some]
          repeat (gi_big_quiet_step (fail))
          refine wpQuietIn_nil ?_;obtain⟨p0,p1⟩:=a06 KB.out;have f0:=KB.out.frozen 0;have f1:=KB.out.frozen 1;refine a0c 10 (by kernel_rfl) rfl ?_;gi_wp2;have KX:=(KB.out.set_ 0 (.string tF)).set_ 1 (.string (rT (tmx i)));have HS:=(HS.out.setCell (p:=⟨bz,0,none⟩) lo (.string tF)).setCell (p:=⟨bz,1,none⟩) lo (.string (rT (tmx i)));refine a0b (a0a HS (fun k hk=>hk)) ?_;refine a0c 11 (by kernel_rfl) rfl ?_;gi_wp2;refine a0b (a0a HS (fun k hk=>hk)) ?_;refine a0i (by kernel_rfl) ?_;obtain⟨zu,hzo⟩:=a0v.step zt HS;rw[hzo]at KX HS ⊢;exact SH _ _ _ ⟨hi7,HS,lo,KX⟩
        case rest =>
         rintro bu zu iu ⟨hiu,HS,lo,KU⟩;clear lo HTX KQ HPK;have HO0:=b9W (HO0.out.later HS);have HO1:=b9W (HO1.out.later HS);have HP:=b9W (HP.out.below HS);have HR:=b9W (HR.out.below HS);have KT:=b9W (KT.out.below HS KT.out.lt);have HHC:=b9W (HHS.out it HIT.out);have HHD:=b9W (HHX.out iu hiu);rw[(HHR.out it HIT.out).1]at HHC;rw[(HHR.out iu hiu).2]at HHD;clear HS hiu HIT HHR HHS HHX;change Hid (∀ u v (W:World) (_:LRow W u P) (_:LRow W v Q) (_:Res W),Calls _ _ _ _ fun e w'=>e=.returned (.tuple #[.bool true,.int .i64 0])∧_) at HHC;change Hid (∀ u v (W:World) (_:LRow W u o0) (_:LRow W v o1) (_:Res W),Calls _ _ _ _ fun e w'=>e=.returned (.tuple #[.bool true,.int .i64 0])∧_) at HHD;generalize rT (tms it)=td at *;generalize rT (tmx iu)=te at *;have KU:=b9W KU;obtain⟨p0,p1⟩:=a06 KT.out;have pl:=KT.out.lt;have TH0:True:=trivial
         gi_wp2_with (clear TH0;gi_at_call 55;refine(callsIn_wide.2 (HHC.out _ _ _ HP.out HR.out (RS.out zu))).mono ?_;rintro e w9 ⟨rfl,hb9⟩;clear p0 p1 pl;have HO0:=b9W (HO0.out.later hb9);have HO1:=b9W (HO1.out.later hb9);have HP:=b9W (HP.out.below hb9);have HR:=b9W (HR.out.below hb9);have KT:=b9W (KT.out.below hb9 KT.out.lt);have KU:=b9W (KU.out.below hb9 KU.out.lt);obtain⟨zv,rfl⟩:=a0v.step zu hb9;clear hb9;obtain⟨p0,p1⟩:=a06 KU.out;have pl:=KU.out.lt)
         gi_wp2_with (gi_at_call 55;refine(callsIn_wide.2 (HHD.out _ _ _ HO0.out.1 HO1.out.1 (RS.out zv))).mono ?_;rintro e w9 ⟨rfl,hb9⟩;obtain⟨zx,rfl⟩:=a0v.step zv hb9;clear hb9)
         gi_wp2;refine bodyPost_ret (results_tmp rfl _ _ _) rfl ?_;exact⟨rfl,(N2.out.later zx.h).below⟩
end Go.Proofs.YtigapglmipmbeaaGreatDoor
namespace Go.Proofs.YtigapglmipmbeaaGreatDoor
open Go.ChangeShapes Go.WideShapes Go.ChangeAt Go.RowKit
section
variable {H:Type} {enc:TypeId × Value→H}
end
end Go.Proofs.YtigapglmipmbeaaGreatDoor
namespace Go.Proofs.YtigapglmipmbeaaGreatDoor
open Go.RowKit
structure Kind (α:Type) where
 ty:TypeId
 k:Nat
 is:(C:TypeId→Nat→Prop)→World→List Value→α→Prop
 inner:List TypeId
 len:∀ {C w l x},is C w l x→l.length=k
 keep:∀ {C C':TypeId→Nat→Prop} {w w':World} {l x},is C w l x→(∀ E b,E∈inner→b < w.heap.size→C E b→C' E b∧w'.heap[b]?=w.heap[b]?)→is C' w' l x
def SRow{α:Type}(K:Kind α)(C:TypeId→Nat→Prop)(w:World)(v:Value)(xs:List α):Prop :=
 ∃ A c,v=.slice A xs.length c∧xs.length≤c∧c≤maxLen∧(0 < xs.length→∃ b o,A=some ⟨b,o,none⟩∧C K.ty b∧b < w.heap.size ∧
  ∀ (j:Nat) (x:α),xs[j]?=some x→∃ l,K.is C w l x∧∀ (i:Nat) (u:Value),l[i]?=some u→w.cell? ⟨b,o+j*K.k+i,none⟩=some u)
section
variable {α:Type} {K:Kind α} {C C':TypeId→Nat→Prop} {w w':World} {v:Value} {xs:List α}
theorem SRow.keep(h:SRow K C w v xs)(hk:∀ E b,E∈K.ty::K.inner→b < w.heap.size→C E b→C' E b∧w'.heap[b]?=w.heap[b]?):SRow K C' w' v xs:=by
 obtain⟨A,c,e,h1,h2,h3⟩:=h;refine⟨A,c,e,h1,h2,fun h0=>?_⟩;obtain⟨b,o,eA,hC,hb,hx⟩:=h3 h0;obtain⟨hC',hs⟩:=hk K.ty b (by simp) hb hC;have hb':b < w'.heap.size:=by
  have:w'.heap[b]?=some w.heap[b]:=hs.trans (Array.getElem?_eq_getElem hb);exact(Array.getElem?_eq_some_iff.1 this).1
 refine⟨b,o,eA,hC',hb',fun j x hj=>?_⟩;obtain⟨l,hl,hc⟩:=hx j x hj;exact⟨l,K.keep hl fun E b hE=>hk E b (List.mem_cons_of_mem _ hE),fun i u hi=>(World.cell?_of_block hs).trans (hc i u hi)⟩
theorem SRow.nil(K:Kind α)(C:TypeId→Nat→Prop)(w:World):SRow K C w (.slice none 0 0) []:=⟨none,0,rfl,Nat.le_refl _,Nat.zero_le _,fun h=>absurd h (by simp)⟩
theorem SRow.take{A:Option Addr}{c:Nat}(h:SRow K C w (.slice A xs.length c) xs){n:Nat}(hn:n≤xs.length):SRow K C w (.slice A n c) (xs.take n):=by
 obtain⟨A',c',e,h1,h2,h3⟩:=h
 simp only[Value.slice.injEq,true_and]at e
 obtain⟨rfl,rfl⟩:=e;have hl:(xs.take n).length=n:=by simp;omega
 refine⟨A,c,by rw[hl],by omega,h2,fun h0=>?_⟩;obtain⟨b,o,eA,hC,hb,hx⟩:=h3 (by omega);refine⟨b,o,eA,hC,hb,fun j x hj=>hx j x ?_⟩;rw[List.getElem?_take]at hj
 split at hj
 ·exact hj
 ·cases hj
end
def Own(base:Nat)(w:World)(E:TypeId)(b:Nat):Prop:=base≤b∧∃ cur,w.heap[b]?=some (.cells cur E (0,0))
def Any(_:TypeId)(_:Nat):Prop:=True
section
variable {α:Type} {K:Kind α} {base:Nat} {w w':World} {v v':Value} {xs:List α}
theorem own_keep{base:Nat}{w w':World}{row:Option Nat}(hg:w.grownBy w' row){E:TypeId}{b:Nat}(hE:∀ r,row=some r→∀ cur,w.heap[r]?≠some (.cells cur E (0,0)))(h:Own base w E b):Own base w' E b∧w'.heap[b]?=w.heap[b]?:=by
 obtain⟨hb,cur,hc⟩:=h;have hs:w'.heap[b]?=w.heap[b]?:=hg.block b (Array.getElem?_eq_some_iff.1 hc).1 fun e=>hE b e.symm cur hc;exact⟨⟨hb,cur,hs.trans hc⟩,hs⟩
end
open Go.ChangeShapes
section
variable {H:Type} {enc:TypeId × Value→H} {w:World} {base:Nat} {sp:Nat→Bool} {held:Bool} {fuel:Nat}
theorem b5d{α:Type}{K:Kind α}{T:TypeId}(hu:prog.underlying T=some (.slice K.ty))(hk:prog.cellsOf K.ty=K.k)(hk0:0 < K.k)
  (hel:∀ n cs y,DataW.trod enc prog w base sp held n K.ty cs=some y→∃ x,K.is Any w cs x) {cs:List Value} {y:DataW H × List MemPlace} (h:DataW.trod enc prog w base sp held fuel T cs=some y) :
  ∃ v xs,cs=[v]∧SRow K Any w v xs:=by
 rcases Go.Deep.open_slice hu h with⟨hcs,_⟩|⟨a,len,cap,m,n,D,Pl,hcs,_,hl,hm,hmm,_,hx⟩
 ·exact⟨_,[],hcs,SRow.nil K Any w⟩
 ·have hlm:len≤m:=by rw[hmm];split<;>omega
  have each:∀ i,i < len→∃ z:Option α × List Value,∃ x,z.1=some x∧K.is Any w z.2 x∧∀ j,j < K.k→w.cell? (a.add (i*K.k+j))=z.2[j]?:=by
   intro i hi;obtain⟨cs',h1,h2⟩:=hx i (by omega);rw[hk]at h1;obtain⟨_,hlen,hcell⟩:=World.cells?_some h1;obtain⟨x,hi'⟩:=hel _ _ _ h2;exact⟨(some x,cs'),x,rfl,hi',fun j hj=>by rw[← Go.Deep.add_add];exact hcell j hj⟩
  obtain⟨f,hf⟩:=Go.Deep.choose_lt each
  by_cases h0:0 < len
  case neg =>
   obtain rfl:len=0:=by omega
   exact⟨_,[],hcs,some a,cap,rfl,Nat.zero_le _,hm,fun h=>absurd h (by simp)⟩
  have hne:∃ g:Nat→α,∀ i,i < len→(f i).1=some (g i):=by
   obtain⟨x0,e0,_⟩:=hf 0 h0;refine⟨fun i=>(f i).1.getD x0,fun i hi=>?_⟩;obtain⟨x,e,_⟩:=hf i hi
   simp[e]
  obtain⟨g,hg⟩:=hne;refine⟨_,(List.range len).map g,hcs,some a,cap,by simp,by simpa using hl,hm,fun _=>?_⟩;have hcl:∀ i,i < len→∀ j u,(f i).2[j]?=some u→w.cell? (a.add (i*K.k+j))=some u:=fun i hi j u hu=>by
   obtain⟨x,e,hi',hc⟩:=hf i hi;have:=K.len hi';have hj:j < K.k:=by have:=(List.getElem?_eq_some_iff.1 hu).1;omega
   rw[hc j hj,hu]
  obtain⟨b,o,spot⟩:=a;have h00:∃ u,(f 0).2[0]?=some u:=by
   obtain⟨x,e,hi',hc⟩:=hf 0 h0;have:=K.len hi';exact⟨_,List.getElem?_eq_getElem (by omega)⟩
  obtain⟨u0,hu0⟩:=h00;have hc0:=hcl 0 h0 0 u0 hu0;have hspot:spot=none:=by simpa[Addr.add]using World.cell?_spot hc0
  subst hspot;have hlt:=World.block_lt_of_cell? w _ hc0;refine⟨b,o,rfl,trivial,by simpa[Addr.add]using hlt,fun j x hj=>?_⟩;have hjl:j < len:=by have:=(List.getElem?_eq_some_iff.1 hj).1;simpa using this
  obtain⟨x',e,hi',_⟩:=hf j hjl;have ex:x=x':=by
   rw[List.getElem?_map,List.getElem?_range hjl]at hj
   simp only[Option.map_some,Option.some.injEq]at hj
   have:=hg j hjl;rw[e]at this
   simp only[Option.some.injEq]at this
   rw[← hj,← this]
  subst ex;refine⟨(f j).2,hi',fun i u hu=>?_⟩;have:=hcl j hjl i u hu;unfold Addr.add at this
  split at this
  ·simp_all
  ·rw[show o+j*K.k+i=o+(j*K.k+i) by omega]
   exact this
end
end Go.Proofs.YtigapglmipmbeaaGreatDoor
namespace Go.Proofs.YtigapglmipmbeaaGreatDoor
open Go.RowKit Go.ChangeShapes Go.WideShapes Go.ChangeAt
def b9a(t:TypeId):Kind L2 where
 ty:=t
 k:=2
 is:=fun _ _ l x=>l=[.string x.1,.string x.2]∧x.1.size≤maxLen∧x.2.size≤maxLen
 inner:=[]
 len:=fun h=>by rw[h.1];rfl
 keep:=fun h _=>h
theorem b0_:prog.cellsOf 30=2:=by kernel_rfl
theorem b50:prog.cellsOf 23=1:=by kernel_rfl
theorem b46:prog.cellsOf 9=1:=by kernel_rfl
theorem a7O:laidOutB prog=true:=by kernel_rfl
section
variable {H:Type} {enc:TypeId × Value→H} {w:World} {base:Nat} {sp:Nat→Bool} {held:Bool} {fuel:Nat}
theorem b4g(n:Nat)(cs:List Value)(y:DataW H × List MemPlace)(h:DataW.trod enc prog w base sp held n 30 cs=some y):∃ x,(b9a 30).is Any w cs x:=by
 obtain⟨y0,y1,n',_,hl,g0,g1⟩:=trod_struct2 underlying30 h;rw[b0_]at hl
 match cs,hl with
 | [c0,c1],_ =>
  simp[b46,b50]at g0 g1
  obtain⟨a,e0,_,z0⟩:=DataW.trod_string underlying9 g0;obtain⟨b,e1,_,z1⟩:=DataW.trod_string underlying23 g1
  simp only[List.cons.injEq,and_true]at e0 e1
  subst e0 e1;exact⟨(a,b),rfl,z0,z1⟩
theorem b15{t:TypeId}{v:Value}{ls:List L2}(h:SRow (b9a t) Any w v ls):a38 w v ls∧∀ x∈ls,x.1.size≤maxLen∧x.2.size≤maxLen:=by
 obtain⟨A,c,e,h1,h2,h3⟩:=h;refine⟨⟨A,c,e,by omega,fun h0=>?_⟩,fun x hx=>?_⟩
 ·obtain⟨b,o,eA,_,hb,hx⟩:=h3 h0
  refine⟨b,o,eA,hb,fun j x hj=>?_⟩;obtain⟨l,⟨hl,_⟩,hc⟩:=hx j x hj;subst hl;exact⟨hc 0 _ rfl,hc 1 _ rfl⟩
 ·obtain⟨j,hj⟩:=List.getElem?_of_mem hx
  obtain⟨b,o,_,_,_,hx⟩:=h3 (by have:=(List.getElem?_eq_some_iff.1 hj).1;omega);obtain⟨l,⟨_,hs⟩,_⟩:=hx j x hj;exact hs
theorem a4J{a0:Option Addr}{len0 cap0:Nat}{d:DataW H}{p:List MemPlace}(h:DataW.Trod enc prog w base sp held 22 (.slice a0 len0 cap0) d p) :
  ∃ ls,a38 w (.slice a0 len0 cap0) ls∧∀ x∈ls,x.1.size≤maxLen∧x.2.size≤maxLen:=by
 obtain⟨f,hf⟩:=h;obtain⟨v',ls,e,hr⟩:=b5d (K:=b9a 30) underlying22 b0_ (by decide) b4g hf
 simp[Value.cells]at e
 subst e;exact⟨ls,b15 hr⟩
theorem a5z{v:Value}{t:TypeId}{d:DataW H}{p:List MemPlace}(h:DataW.Trod enc prog w base sp held t v d p):∀ x∈p,x.block < w.heap.size:=by
 obtain⟨m,hm⟩:=h;exact DataW.trod_lt m _ _ _ hm
end
end Go.Proofs.YtigapglmipmbeaaGreatDoor
namespace Go.Proofs.YtigapglmipmbeaaGreatDoor
open Go
theorem b1n{P : Program}{rest : List (List Char)}(h : behindMainWord (wordsSigns P.initOrder.toList) = "cut".toList :: rest)(h1 : P.laysLater = false)(h2 : P.bearsReflect = false)(h3 : P.doorFits [] = true) : P.mayEnter = true := by
 have e : stripLifts liftWords ("cut".toList :: rest) = ([], "cut".toList :: rest) := by kernel_rfl
 unfold Program.mayEnter;rw[h]
 dsimp only
 rw[e]
 simp[h1,h2,h3]
theorem b0Q{α:Type}{l:List α}{x:α}(h:l.head?=some x):l=x::l.tail:=by
 cases l with
 | nil=>cases h
 | cons y t=>cases h;rfl
theorem b59:prog.doorFits []=true:=by kernel_rfl
theorem b6j : (behindMainWord (wordsSigns prog.initOrder.toList)).head? = some "cut".toList := by kernel_rfl
theorem b37:prog.laysLater=false:=by kernel_rfl
theorem b0l:prog.bearsReflect=false:=by kernel_rfl
theorem b4Q:prog.mayEnter=true:=b1n (b0Q b6j) b37 b0l b59
theorem b9N : prog.mainIs = some (true, "5395951699d0e7c088c16c506ed30de6925104505e2026abbc93d9abbfe2aced".toList) := by kernel_rfl
theorem looksF:true=prog.looks []:=by kernel_rfl
end Go.Proofs.YtigapglmipmbeaaGreatDoor
