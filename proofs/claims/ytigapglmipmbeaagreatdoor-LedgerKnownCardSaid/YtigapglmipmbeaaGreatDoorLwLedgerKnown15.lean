/- LedgerKnown, as a walk (printed by mkledy.py). Opening and shutting an argument that is a loss. Slices of structs with slices in them, in memory: how they read, how they are built, what keeps them. Plain words, no program. Opening arguments: lists of masses, of losses, of strings. Facts of the program that each card asks. -/
import Derived.Test.YtigapglmipmbeaaGreatDoorLwLedgerKnown14
import Derived.Test.YtigapglmipmbeaaGreatDoorLwLedgerKnown08
import Derived.ProofKit
import Derived.OpenShut
import Derived.ShutString
import Derived.ChangeOld
import Derived.ChangeSame
import Derived.Test.YtigapglmipmbeaaGreatDoorProg
import Derived.WalkKit
import Derived.Handy
import Derived.Lib.Hide
import Derived.BigQuiet
import Derived.Maps.OwnSet
import Derived.Maps.StringElems
import Derived.Maps.AppendAt
import Derived.WalkLawsBesides
import Derived.WalkSpells
import Derived.ChangeSlices
import Derived.Deep.Slices
import Derived.Test.YtigapglmipmbeaaGreatDoorLwLedgerKnown10
import Derived.Lib.SmallJoins
import Derived.Test.YtigapglmipmbeaaGreatDoorCards
import Derived.Test.YtigapglmipmbeaaGreatDoorTie
import Derived.KernelRfl
import Derived.SevenTiedAt
set_option maxRecDepth 100000
set_option maxHeartbeats 16000000
namespace Go.Proofs.YtigapglmipmbeaaGreatDoor
open Go.RowKit Go.Shelf
open Lim
theorem grown_set2 {w w2:World} {g i:Nat} {u:Value} (h:Below w.heap.size w w2):w.grownBy (w2.setCell ⟨g,i,none⟩ u) (some g) :=
 ⟨h.os,h.tape,h.output,by simpa [World.setCell] using h.size,fun k hk hne=>(Below.heap_setCell w2 ⟨g,i,none⟩ u k (fun e=>hne (by rw [e]))).trans (h.block k hk)⟩
theorem gres_a2 (g nb nc:Nat) (f l:ByteArray) (lf ld f0 d0 f2 d2:ByteArray) (n m:Int) (s1:St) (w:World) (hr:Res w) (h:Led w g (St.dir lf ld f0 d0 n) s1) (hn:w.cell? ⟨nb,0,none⟩=some (.string ⟨#[97]⟩)) (hl:nb < w.heap.size)
  (HV:Hid (∀ W,Res W→Calls Tryz.prog 238 #[.agg #[.string f,.string l]] W fun e w'=>e=.returned (.int .i64 0)∧Below W.heap.size W w'))
  (HA:Hid (∀ W,Res W→Calls Tryz.prog 378 #[.agg #[.string lf,.string ld,.string f0,.string d0,.int .i64 n],.agg #[.string f,.string l]] W fun e w'=>e=.returned (.tuple #[(St.dir lf ld f2 d2 m).val,.bool true])∧Below W.heap.size W w')) :
  Calls Tryz.prog 88 #[.pointer (some ⟨g,0,none⟩),.slice (some ⟨nb,0,none⟩) 1 nc,.agg #[.string f,.string l]] w fun e w'=>e=.returned (.int .i64 0)∧Led w' g (St.dir lf ld f2 d2 m) s1∧w.grownBy w' (some g):=by
 have N:=Lib.hid (TI.new (f:=f) (l:=l) hr h hn hl)
 have HG:=Lib.hid h.lt
 have HT:=Lib.hid (gtry_a g nb nc f l lf ld f0 d0 f2 d2 n m s1 _ N.out.nw.res N.out.led N.out.nm N.out.nl HV HA)
 obtain ⟨b0,b1⟩:=cells2 N.out.kc
 have bl:=N.out.kc.lt
 clear hr h hn hl HV HA
 go_enter Tryz.func88,Tryz.ntmps88
 go_wp2_with (go_at_call 179;refine HT.out.mono ?_;rintro e w2 ⟨⟨v,rfl,hv⟩,hb⟩;have HV:=Lib.hid hv;have N:=Lib.hid (N.out.later hb);clear hb hv b0 b1 bl;obtain ⟨qA,qn,qc,mb,qv,kg,hm,hw⟩:=N.out.led;have p2:w2.cell? ⟨g,2,none⟩=some qv:=kg.cell 2;have pf:=kg.frozen 2;have HM:=Lib.hid hm;have KG:=Lib.hid kg;have gl:=kg.lt;clear kg hm hw;obtain ⟨RB,rc,rfl⟩:=slice_shape HV.out)
 go_ret
 refine ⟨rfl,⟨qA,qn,qc,mb,_,KG.out.set_ 2 _,HM.out.setCell (a:=⟨g,2,none⟩) (fun e=>map_ne HM.out KG.out e.symm) _,Go.Joins.ownsRow_le (ownsRow_setCell_below HV.out (a:=⟨g,2,none⟩) (by have:=HG.out;simp;omega) _) (Nat.zero_le _)⟩,?_⟩
 exact grown_set2 N.out.nw.below
theorem gres_b2 (g nb nc:Nat) (f l:ByteArray) (lf ld:ByteArray) (c t:CT) (n m:Int) (s0:St) (w:World) (hr:Res w) (h:Led w g s0 (St.cur lf ld c 2 n)) (hn:w.cell? ⟨nb,0,none⟩=some (.string ⟨#[98]⟩)) (hl:nb < w.heap.size)
  (HV:Hid (∀ W,Res W→Calls Tryz.prog 238 #[.agg #[.string f,.string l]] W fun e w'=>e=.returned (.int .i64 0)∧Below W.heap.size W w'))
  (HA:Hid (∀ W,Res W→Calls Tryz.prog 382 #[.agg #[.string lf,.string ld,.string (c 0),.string (c 1),.string (c 2),.string (c 3),.string (c 4),.string (c 5),.string (c 6),.string (c 7),.int .i64 2,.int .i64 n],.agg #[.string f,.string l]] W fun e w'=>e=.returned (.tuple #[(St.cur lf ld t 2 m).val,.bool true])∧Below W.heap.size W w')) :
  Calls Tryz.prog 88 #[.pointer (some ⟨g,0,none⟩),.slice (some ⟨nb,0,none⟩) 1 nc,.agg #[.string f,.string l]] w fun e w'=>e=.returned (.int .i64 0)∧Led w' g s0 (St.cur lf ld t 2 m)∧w.grownBy w' (some g):=by
 have N:=Lib.hid (TI.new (f:=f) (l:=l) hr h hn hl)
 have HG:=Lib.hid h.lt
 have HT:=Lib.hid (gtry_b g nb nc f l lf ld c t n m s0 _ N.out.nw.res N.out.led N.out.nm N.out.nl HV HA)
 obtain ⟨b0,b1⟩:=cells2 N.out.kc
 have bl:=N.out.kc.lt
 clear hr h hn hl HV HA
 go_enter Tryz.func88,Tryz.ntmps88
 go_wp2_with (go_at_call 179;refine HT.out.mono ?_;rintro e w2 ⟨⟨v,rfl,hv⟩,hb⟩;have HV:=Lib.hid hv;have N:=Lib.hid (N.out.later hb);clear hb hv b0 b1 bl;obtain ⟨qA,qn,qc,mb,qv,kg,hm,hw⟩:=N.out.led;have p2:w2.cell? ⟨g,2,none⟩=some qv:=kg.cell 2;have pf:=kg.frozen 2;have HM:=Lib.hid hm;have KG:=Lib.hid kg;have gl:=kg.lt;clear kg hm hw;obtain ⟨RB,rc,rfl⟩:=slice_shape HV.out)
 go_ret
 refine ⟨rfl,⟨qA,qn,qc,mb,_,KG.out.set_ 2 _,HM.out.setCell (a:=⟨g,2,none⟩) (fun e=>map_ne HM.out KG.out e.symm) _,Go.Joins.ownsRow_le (ownsRow_setCell_below HV.out (a:=⟨g,2,none⟩) (by have:=HG.out;simp;omega) _) (Nat.zero_le _)⟩,?_⟩
 exact grown_set2 N.out.nw.below
structure YI (w:World) (g na nb tc:Nat) (s0 s1:St) (W:World):Prop where
 led:Led W g s0 s1
 a:Blk W na 9 #[.string ⟨#[97]⟩]
 b:Blk W nb 9 #[.string ⟨#[98]⟩]
 c:Blk W tc 97 #[.string ⟨#[50]⟩,.string ⟨#[48]⟩]
 nw:NW w W
 ne:na≠g∧nb≠g∧tc≠g
 lo:w.heap.size≤g
section
variable {w W W':World} {g na nb tc:Nat} {s0 s1 t0 t1:St}
theorem YI.later (h:YI w g na nb tc s0 s1 W) (hb:Below W.heap.size W W'):YI w g na nb tc s0 s1 W':=⟨h.led.later hb,h.a.below hb h.a.lt,h.b.below hb h.b.lt,h.c.below hb h.c.lt,h.nw.later hb,h.ne,h.lo⟩
theorem YI.alloc (h:YI w g na nb tc s0 s1 W) (o:Obj):YI w g na nb tc s0 s1 (W.alloc o):=h.later (below_alloc (Below.refl _ _) o)
theorem YI.res (h:YI w g na nb tc s0 s1 W) (hr:Res w) (hg:W.grownBy W' (some g)) (hl:Led W' g t0 t1):YI w g na nb tc t0 t1 W' :=
 ⟨hl,h.a.grown hg (fun e=>h.ne.1 (Option.some.inj e)),h.b.grown hg (fun e=>h.ne.2.1 (Option.some.inj e)),h.c.grown hg (fun e=>h.ne.2.2 (Option.some.inj e)),grow_nw h.nw hr hg (fun r e=>by cases e;exact h.lo),h.ne,h.lo⟩
theorem YI.new {w1:World} (hr:Res w) (hb:Below w.heap.size w w1) (hl:Led w1 g s0 s1) (lo:w.heap.size≤g) :
  YI w g w1.heap.size (w1.heap.size+1) (w1.heap.size+1+1) s0 s1 (((w1.alloc (.cells #[.string ⟨#[97]⟩] 9)).alloc (.cells #[.string ⟨#[98]⟩] 9)).alloc (.cells #[.string ⟨#[50]⟩,.string ⟨#[48]⟩] 97)):=by
 have gl:=hl.lt
 have k1:=Blk.new w1 9 #[.string ⟨#[97]⟩]
 have k2:=Blk.new (w1.alloc (.cells #[.string ⟨#[97]⟩] 9)) 9 #[.string ⟨#[98]⟩]
 have k3:=Blk.new ((w1.alloc (.cells #[.string ⟨#[97]⟩] 9)).alloc (.cells #[.string ⟨#[98]⟩] 9)) 97 #[.string ⟨#[50]⟩,.string ⟨#[48]⟩]
 rw [World.size_alloc] at k2
 rw [World.size_alloc,World.size_alloc] at k3
 have b1:=below_alloc (Below.refl w1.heap.size w1) (.cells #[.string ⟨#[97]⟩] 9)
 have b2:=below_alloc b1 (.cells #[.string ⟨#[98]⟩] 9)
 have b3:=below_alloc b2 (.cells #[.string ⟨#[50]⟩,.string ⟨#[48]⟩] 97)
 exact ⟨hl.later b3,(k1.alloc _).alloc _,k2.alloc _,k3,((((NW.refl hr).later hb).alloc _).alloc _).alloc _,⟨by omega,by omega,by omega⟩,lo⟩
end
theorem ledgerKnown_any (w:World) (hr:Res w) :
  Calls Tryz.prog 12 #[] w fun e w'=>e=.returned (.bool true)∧Below w.heap.size w w':=by
 have HR:=Lib.hid hr
 have HE:=Lib.hid (gexample_any w hr)
 clear hr
 have TK0:True:=trivial
 have TK1:True:=trivial
 have TK2:True:=trivial
 have TK3:True:=trivial
 have TK4:True:=trivial
 have TK5:True:=trivial
 have TK6:True:=trivial
 have TK7:True:=trivial
 have TK8:True:=trivial
 have TK9:True:=trivial
 have TK10:True:=trivial
 have TK11:True:=trivial
 have TK12:True:=trivial
 have TK13:True:=trivial
 have TK14:True:=trivial
 have TK15:True:=trivial
 have TK16:True:=trivial
 have TK17:True:=trivial
 have TK18:True:=trivial
 have TK19:True:=trivial
 go_enter Tryz.func12,Tryz.ntmps12
 go_wp2_with (clear TK0;go_at_call 87;refine HE.out.mono ?_;rintro e w0 ⟨⟨g,rfl,hg,hl⟩,hb⟩;have Y:=Lib.hid (YI.new HR.out hb hl hg);clear hb hl hg HE;obtain ⟨q0,q1⟩:=cells2 Y.out.c;have ql:=Y.out.c.lt)
 generalize ((w0.alloc (.cells #[.string ⟨#[97]⟩] 9)).alloc (.cells #[.string ⟨#[98]⟩] 9)).alloc (.cells #[.string ⟨#[50]⟩,.string ⟨#[48]⟩] 97)=W at *
 generalize w0.heap.size+1+1=tc at *
 generalize w0.heap.size+1=nb at *
 generalize w0.heap.size=na at *
 go_wp2_with (clear TK1;go_at_call 88;refine (gres_a2 g na 1 ⟨#[50]⟩ ⟨#[48]⟩ ⟨#[52]⟩ ⟨#[49,47,49,48]⟩ ⟨#[49]⟩ ⟨#[48]⟩ ⟨#[50]⟩ ⟨#[48]⟩ 0 1 (St.cur ⟨#[51]⟩ ⟨#[49,47,50]⟩ noneT 2 0) _ Y.out.nw.res Y.out.led (Y.out.a.cell 0) Y.out.a.lt kv_2 (Lib.hid kstep0)).mono ?_;rintro e w1 ⟨rfl,hl,hg⟩;have Y:=Lib.hid (Y.out.res HR.out hg hl);clear q0 q1 ql hg hl;obtain ⟨q0,q1⟩:=cells2 Y.out.c;have ql:=Y.out.c.lt)
 go_wp2_with (clear TK2;go_at_call 88;refine (gres_a2 g na 1 ⟨#[50]⟩ ⟨#[48]⟩ ⟨#[52]⟩ ⟨#[49,47,49,48]⟩ ⟨#[50]⟩ ⟨#[48]⟩ ⟨#[52]⟩ ⟨#[48]⟩ 1 2 (St.cur ⟨#[51]⟩ ⟨#[49,47,50]⟩ noneT 2 0) _ Y.out.nw.res Y.out.led (Y.out.a.cell 0) Y.out.a.lt kv_2 (Lib.hid kstep1)).mono ?_;rintro e w2 ⟨rfl,hl,hg⟩;have Y:=Lib.hid (Y.out.res HR.out hg hl);clear q0 q1 ql hg hl;obtain ⟨q0,q1⟩:=cells2 Y.out.c;have ql:=Y.out.c.lt)
 go_wp2_with (clear TK3;go_at_call 89;refine (gspentq _ ⟨#[97]⟩ ⟨#[52]⟩ ⟨#[48]⟩ _ (Lib.hid (gspent_a g ⟨#[52]⟩ ⟨#[49,47,49,48]⟩ ⟨#[52]⟩ ⟨#[48]⟩ 2 (St.cur ⟨#[51]⟩ ⟨#[49,47,50]⟩ noneT 2 0) _ Y.out.led))).mono ?_;rintro e w3 ⟨rfl,hb⟩;have Y:=Lib.hid (Y.out.later hb);clear hb q0 q1 ql;obtain ⟨q0,q1⟩:=cells2 Y.out.c;have ql:=Y.out.c.lt)
 go_wp2_with (clear TK4;go_at_call 88;refine (gres_a2 g na 1 ⟨#[49]⟩ ⟨#[48]⟩ ⟨#[52]⟩ ⟨#[49,47,49,48]⟩ ⟨#[52]⟩ ⟨#[48]⟩ ⟨#[52]⟩ ⟨#[48]⟩ 2 3 (St.cur ⟨#[51]⟩ ⟨#[49,47,50]⟩ noneT 2 0) _ Y.out.nw.res Y.out.led (Y.out.a.cell 0) Y.out.a.lt kv_1 (Lib.hid kstep2)).mono ?_;rintro e w4 ⟨rfl,hl,hg⟩;have Y:=Lib.hid (Y.out.res HR.out hg hl);clear q0 q1 ql hg hl;obtain ⟨q0,q1⟩:=cells2 Y.out.c;have ql:=Y.out.c.lt)
 go_wp2_with (clear TK5;go_at_call 88;refine (gres_err _ _ ⟨#[51,47,50]⟩ ⟨#[48]⟩ _ (Lib.hid (gtry_over g na 1 ⟨#[51,47,50]⟩ ⟨#[48]⟩ ⟨#[52]⟩ ⟨#[49,47,49,48]⟩ ⟨#[52]⟩ ⟨#[48]⟩ ⟨#[54]⟩ ⟨#[48]⟩ 3 4 (St.cur ⟨#[51]⟩ ⟨#[49,47,50]⟩ noneT 2 0) _ (Y.out.alloc _).nw.res (Y.out.alloc _).led ((Y.out.alloc _).a.cell 0) (Y.out.alloc _).a.lt kv_32 (Lib.hid kstep3)))).mono ?_;rintro e w5 ⟨rfl,hb⟩;have Y:=Lib.hid (Y.out.later hb);clear hb q0 q1 ql;obtain ⟨q0,q1⟩:=cells2 Y.out.c;have ql:=Y.out.c.lt)
 go_wp2_with (clear TK6;go_at_call 88;refine (gres_b2 g nb 1 ⟨#[50]⟩ ⟨#[48]⟩ ⟨#[51]⟩ ⟨#[49,47,50]⟩ noneT kT 0 1 (St.dir ⟨#[52]⟩ ⟨#[49,47,49,48]⟩ ⟨#[52]⟩ ⟨#[48]⟩ 3) _ Y.out.nw.res Y.out.led (Y.out.b.cell 0) Y.out.b.lt kv_2 (Lib.hid kstepb)).mono ?_;rintro e w6 ⟨rfl,hl,hg⟩;have Y:=Lib.hid (Y.out.res HR.out hg hl);clear q0 q1 ql hg hl;obtain ⟨q0,q1⟩:=cells2 Y.out.c;have ql:=Y.out.c.lt)
 go_wp2_with (clear TK7;go_at_call 89;refine (gspentq _ ⟨#[98]⟩ ⟨#[51]⟩ ⟨#[49,47,56]⟩ _ (Lib.hid (gspent_b1 g (St.dir ⟨#[52]⟩ ⟨#[49,47,49,48]⟩ ⟨#[52]⟩ ⟨#[48]⟩ 3) ⟨#[51]⟩ ⟨#[49,47,50]⟩ ⟨#[51]⟩ ⟨#[49,47,56]⟩ kT _ Y.out.nw.res Y.out.led (Lib.hid k_to)))).mono ?_;rintro e w7 ⟨rfl,hb⟩;have Y:=Lib.hid (Y.out.later hb);clear hb q0 q1 ql;obtain ⟨q0,q1⟩:=cells2 Y.out.c;have ql:=Y.out.c.lt)
 go_wp2_with (clear TK8;go_at_call 88;refine (gres_err _ _ ⟨#[51,47,50]⟩ ⟨#[48]⟩ _ (Lib.hid (gtry_over2 g w7.heap.size ⟨#[51,47,50]⟩ ⟨#[48]⟩ ⟨#[52]⟩ ⟨#[49,47,49,48]⟩ ⟨#[52]⟩ ⟨#[48]⟩ ⟨#[54]⟩ ⟨#[48]⟩ 3 4 (St.cur ⟨#[51]⟩ ⟨#[49,47,50]⟩ kT 2 1) _ ((Y.out.alloc (.cells #[.string ⟨#[97]⟩,.string ⟨#[98]⟩] 9)).alloc (.cells #[.string ⟨#[51,47,50]⟩,.string ⟨#[48]⟩] 97)).nw.res ((Y.out.alloc (.cells #[.string ⟨#[97]⟩,.string ⟨#[98]⟩] 9)).alloc (.cells #[.string ⟨#[51,47,50]⟩,.string ⟨#[48]⟩] 97)).led (((Blk.new w7 9 #[.string ⟨#[97]⟩,.string ⟨#[98]⟩]).alloc (.cells #[.string ⟨#[51,47,50]⟩,.string ⟨#[48]⟩] 97)).cell 0) (((Blk.new w7 9 #[.string ⟨#[97]⟩,.string ⟨#[98]⟩]).alloc (.cells #[.string ⟨#[51,47,50]⟩,.string ⟨#[48]⟩] 97)).cell 1) ((Blk.new w7 9 #[.string ⟨#[97]⟩,.string ⟨#[98]⟩]).alloc (.cells #[.string ⟨#[51,47,50]⟩,.string ⟨#[48]⟩] 97)).lt kv_32 (Lib.hid kstep3)))).mono ?_;rintro e w8 ⟨rfl,hb⟩;have Y:=Lib.hid ((Y.out.alloc (.cells #[.string ⟨#[97]⟩,.string ⟨#[98]⟩] 9)).later hb);clear hb q0 q1 ql;obtain ⟨q0,q1⟩:=cells2 Y.out.c;have ql:=Y.out.c.lt)
 go_wp2_with (clear TK9;go_at_call 90;refine (gcharges_b g (St.dir ⟨#[52]⟩ ⟨#[49,47,49,48]⟩ ⟨#[52]⟩ ⟨#[48]⟩ 3) ⟨#[51]⟩ ⟨#[49,47,50]⟩ kT 2 1 _ Y.out.led).mono ?_;rintro e w9 ⟨rfl,hb⟩;have Y:=Lib.hid (Y.out.later hb);clear hb q0 q1 ql;have YA:=Lib.hid (Y.out.alloc (.cells #[.string ⟨#[99]⟩] 9));obtain ⟨q0,q1⟩:=cells2 YA.out.c;have ql:=YA.out.c.lt)
 go_wp2_with (clear TK10;go_at_call 91;refine (gfits_err _ _ ⟨#[50]⟩ ⟨#[48]⟩ 7 _ (Lib.hid (gtry_unknown g w9.heap.size 1 ⟨#[50]⟩ ⟨#[48]⟩ (St.dir ⟨#[52]⟩ ⟨#[49,47,49,48]⟩ ⟨#[52]⟩ ⟨#[48]⟩ 3) (St.cur ⟨#[51]⟩ ⟨#[49,47,50]⟩ kT 2 1) _ (YA.out.alloc _).nw.res (YA.out.alloc _).led (((Blk.new w9 9 #[.string ⟨#[99]⟩]).alloc (.cells #[.string ⟨#[50]⟩,.string ⟨#[48]⟩] 97)).cell 0) ((Blk.new w9 9 #[.string ⟨#[99]⟩]).alloc (.cells #[.string ⟨#[50]⟩,.string ⟨#[48]⟩] 97)).lt kv_2))).mono ?_;rintro e w10 ⟨rfl,hb⟩;have Y:=Lib.hid (YA.out.later hb);clear hb q0 q1 ql YA;have YA:=Lib.hid (Y.out.alloc (.cells #[.string ⟨#[98]⟩,.string ⟨#[98]⟩] 9));obtain ⟨q0,q1⟩:=cells2 YA.out.c;have ql:=YA.out.c.lt)
 go_wp2_with (clear TK11;go_at_call 91;refine (gfits_err _ _ ⟨#[50]⟩ ⟨#[48]⟩ 8 _ (Lib.hid (gtry_double g w10.heap.size ⟨#[50]⟩ ⟨#[48]⟩ (St.dir ⟨#[52]⟩ ⟨#[49,47,49,48]⟩ ⟨#[52]⟩ ⟨#[48]⟩ 3) (St.cur ⟨#[51]⟩ ⟨#[49,47,50]⟩ kT 2 1) _ (YA.out.alloc _).nw.res (YA.out.alloc _).led (((Blk.new w10 9 #[.string ⟨#[98]⟩,.string ⟨#[98]⟩]).alloc (.cells #[.string ⟨#[50]⟩,.string ⟨#[48]⟩] 97)).cell 0) (((Blk.new w10 9 #[.string ⟨#[98]⟩,.string ⟨#[98]⟩]).alloc (.cells #[.string ⟨#[50]⟩,.string ⟨#[48]⟩] 97)).cell 1) ((Blk.new w10 9 #[.string ⟨#[98]⟩,.string ⟨#[98]⟩]).alloc (.cells #[.string ⟨#[50]⟩,.string ⟨#[48]⟩] 97)).lt kv_2))).mono ?_;rintro e w11 ⟨rfl,hb⟩;have Y:=Lib.hid (YA.out.later hb);clear hb q0 q1 ql YA;obtain ⟨q0,q1⟩:=cells2 Y.out.c;have ql:=Y.out.c.lt)
 have HT:=Lib.hid (gfits_err (.pointer (some ⟨g,0,none⟩)) (.slice (some ⟨nb,0,none⟩) 1 1) ⟨#[49,47,50]⟩ ⟨#[48]⟩ 2 w11 (Lib.hid (gtry_bad2 g (.slice (some ⟨nb,0,none⟩) 1 1) ⟨#[49,47,50]⟩ ⟨#[48]⟩ (St.dir ⟨#[52]⟩ ⟨#[49,47,49,48]⟩ ⟨#[52]⟩ ⟨#[48]⟩ 3) (St.cur ⟨#[51]⟩ ⟨#[49,47,50]⟩ kT 2 1) (w11.alloc (.cells #[.string ⟨#[49,47,50]⟩,.string ⟨#[48]⟩] 97)) (Y.out.alloc (.cells #[.string ⟨#[49,47,50]⟩,.string ⟨#[48]⟩] 97)).nw.res (Y.out.alloc (.cells #[.string ⟨#[49,47,50]⟩,.string ⟨#[48]⟩] 97)).led kv_low)))
 go_wp2_with (clear TK12;go_at_call 91;refine (HT.out).mono ?_;rintro e w12 ⟨rfl,hb⟩;clear HT;have Y:=Lib.hid (Y.out.later hb);clear hb q0 q1 ql;obtain ⟨q0,q1⟩:=cells2 Y.out.c;have ql:=Y.out.c.lt)
 have HT:=Lib.hid (gfits_err (.pointer (some ⟨g,0,none⟩)) (.slice (some ⟨nb,0,none⟩) 1 1) ⟨#[50]⟩ ⟨#[50]⟩ 2 w12 (Lib.hid (gtry_bad2 g (.slice (some ⟨nb,0,none⟩) 1 1) ⟨#[50]⟩ ⟨#[50]⟩ (St.dir ⟨#[52]⟩ ⟨#[49,47,49,48]⟩ ⟨#[52]⟩ ⟨#[48]⟩ 3) (St.cur ⟨#[51]⟩ ⟨#[49,47,50]⟩ kT 2 1) (w12.alloc (.cells #[.string ⟨#[50]⟩,.string ⟨#[50]⟩] 97)) (Y.out.alloc (.cells #[.string ⟨#[50]⟩,.string ⟨#[50]⟩] 97)).nw.res (Y.out.alloc (.cells #[.string ⟨#[50]⟩,.string ⟨#[50]⟩] 97)).led kv_late)))
 go_wp2_with (clear TK13;go_at_call 91;refine (HT.out).mono ?_;rintro e w13 ⟨rfl,hb⟩;clear HT;have Y:=Lib.hid (Y.out.later hb);clear hb q0 q1 ql;obtain ⟨q0,q1⟩:=cells2 Y.out.c;have ql:=Y.out.c.lt)
 have HT:=Lib.hid (gfits_err (.pointer (some ⟨g,0,none⟩)) (.slice (some ⟨nb,0,none⟩) 1 1) ⟨#[48,50]⟩ ⟨#[48]⟩ 3 w13 (Lib.hid (gtry_bad3 g (.slice (some ⟨nb,0,none⟩) 1 1) ⟨#[48,50]⟩ ⟨#[48]⟩ (St.dir ⟨#[52]⟩ ⟨#[49,47,49,48]⟩ ⟨#[52]⟩ ⟨#[48]⟩ 3) (St.cur ⟨#[51]⟩ ⟨#[49,47,50]⟩ kT 2 1) (w13.alloc (.cells #[.string ⟨#[48,50]⟩,.string ⟨#[48]⟩] 97)) (Y.out.alloc (.cells #[.string ⟨#[48,50]⟩,.string ⟨#[48]⟩] 97)).nw.res (Y.out.alloc (.cells #[.string ⟨#[48,50]⟩,.string ⟨#[48]⟩] 97)).led kv_form)))
 go_wp2_with (clear TK14;go_at_call 91;refine (HT.out).mono ?_;rintro e w14 ⟨rfl,hb⟩;clear HT;have N:=Lib.hid ((Y.out.later hb).nw.alloc (.cells #[.string ⟨#[49]⟩,.string ⟨#[48]⟩] 63));have K8:=Lib.hid (Blk.new w14 63 #[.string ⟨#[49]⟩,.string ⟨#[48]⟩]);clear hb q0 q1 ql Y;obtain ⟨r0,r1⟩:=cells2 K8.out;have rl:=K8.out.lt;have KA:=Lib.hid (show Blk ((w14.alloc (.cells #[.string ⟨#[49]⟩,.string ⟨#[48]⟩] 63)).alloc (.cells #[.string ⟨#[97]⟩,.string ⟨#[49]⟩,.string ⟨#[48]⟩,.int .i64 0,.string ⟨#[97]⟩,.string ⟨#[49]⟩,.string ⟨#[48]⟩,.int .i64 0] 104)) (w14.heap.size+1) 104 #[.string ⟨#[97]⟩,.string ⟨#[49]⟩,.string ⟨#[48]⟩,.int .i64 0,.string ⟨#[97]⟩,.string ⟨#[49]⟩,.string ⟨#[48]⟩,.int .i64 0] from by have:=Blk.new (w14.alloc (.cells #[.string ⟨#[49]⟩,.string ⟨#[48]⟩] 63)) 104 #[.string ⟨#[97]⟩,.string ⟨#[49]⟩,.string ⟨#[48]⟩,.int .i64 0,.string ⟨#[97]⟩,.string ⟨#[49]⟩,.string ⟨#[48]⟩,.int .i64 0];rwa [World.size_alloc] at this);have N:=Lib.hid (N.out.alloc (.cells #[.string ⟨#[97]⟩,.string ⟨#[49]⟩,.string ⟨#[48]⟩,.int .i64 0,.string ⟨#[97]⟩,.string ⟨#[49]⟩,.string ⟨#[48]⟩,.int .i64 0] 104));have K8:=Lib.hid (K8.out.alloc (.cells #[.string ⟨#[97]⟩,.string ⟨#[49]⟩,.string ⟨#[48]⟩,.int .i64 0,.string ⟨#[97]⟩,.string ⟨#[49]⟩,.string ⟨#[48]⟩,.int .i64 0] 104)))
 go_wp2_with (clear TK15;go_at_call 92;refine (gnew_dup ⟨#[49]⟩ ⟨#[48]⟩ (by decide) (by decide) lx_1.err ⟨#[49]⟩ ⟨#[48]⟩ (by decide) (by decide) lx_1.err (w14.heap.size+1) 2 _ N.out.res KA.out).mono ?_;rintro e w15 ⟨rfl,hb⟩;have N:=Lib.hid (N.out.later hb);have K8:=Lib.hid (K8.out.below hb K8.out.lt);clear hb r0 r1 rl KA;obtain ⟨r0,r1⟩:=cells2 K8.out;have rl:=K8.out.lt;have KA:=Lib.hid (Blk.new w15 104 #[.string ⟨#[]⟩,.string ⟨#[49]⟩,.string ⟨#[48]⟩,.int .i64 0]);have N:=Lib.hid (N.out.alloc (.cells #[.string ⟨#[]⟩,.string ⟨#[49]⟩,.string ⟨#[48]⟩,.int .i64 0] 104));have K8:=Lib.hid (K8.out.alloc (.cells #[.string ⟨#[]⟩,.string ⟨#[49]⟩,.string ⟨#[48]⟩,.int .i64 0] 104)))
 go_wp2_with (clear TK16;go_at_call 92;refine (gnew_name ⟨#[49]⟩ ⟨#[48]⟩ (by decide) (by decide) lx_1.err w15.heap.size 1 _ N.out.res KA.out).mono ?_;rintro e w16 ⟨rfl,hb⟩;have N:=Lib.hid (N.out.later hb);have K8:=Lib.hid (K8.out.below hb K8.out.lt);clear hb r0 r1 rl KA;obtain ⟨r0,r1⟩:=cells2 K8.out;have rl:=K8.out.lt;have KA:=Lib.hid (Blk.new w16 104 #[.string ⟨#[97]⟩,.string ⟨#[49]⟩,.string ⟨#[48]⟩,.int .i64 1]);have N:=Lib.hid (N.out.alloc (.cells #[.string ⟨#[97]⟩,.string ⟨#[49]⟩,.string ⟨#[48]⟩,.int .i64 1] 104));have K8:=Lib.hid (K8.out.alloc (.cells #[.string ⟨#[97]⟩,.string ⟨#[49]⟩,.string ⟨#[48]⟩,.int .i64 1] 104)))
 go_wp2_with (clear TK17;go_at_call 92;refine (gnew_order ⟨#[49]⟩ ⟨#[48]⟩ (by decide) (by decide) lx_1.err w16.heap.size 1 _ N.out.res KA.out).mono ?_;rintro e w17 ⟨rfl,hb⟩;have N:=Lib.hid (N.out.later hb);have K8:=Lib.hid (K8.out.below hb K8.out.lt);clear hb r0 r1 rl KA;obtain ⟨r0,r1⟩:=cells2 K8.out;have rl:=K8.out.lt;have KA:=Lib.hid (Blk.new w17 104 #[.string ⟨#[97]⟩,.string ⟨#[49,47,50]⟩,.string ⟨#[48]⟩,.int .i64 0]);have N:=Lib.hid (N.out.alloc (.cells #[.string ⟨#[97]⟩,.string ⟨#[49,47,50]⟩,.string ⟨#[48]⟩,.int .i64 0] 104));have K8:=Lib.hid (K8.out.alloc (.cells #[.string ⟨#[97]⟩,.string ⟨#[49,47,50]⟩,.string ⟨#[48]⟩,.int .i64 0] 104)))
 go_wp2_with (clear TK18;go_at_call 92;refine (gnew_range ⟨#[49,47,50]⟩ ⟨#[48]⟩ (by decide) (by decide) (by decide +kernel) w17.heap.size 1 _ N.out.res KA.out).mono ?_;rintro e w18 ⟨rfl,hb⟩;have N:=Lib.hid (N.out.later hb);clear hb r0 r1 rl KA K8)
 go_wp2_with (clear TK19;go_at_call 93;refine (gawake_any _ N.out.res).mono ?_;rintro e w19 ⟨rfl,hb⟩;have N:=Lib.hid (N.out.later hb);clear hb)
 go_ret
 exact ⟨rfl,N.out.below⟩
end Go.Proofs.YtigapglmipmbeaaGreatDoor
namespace Go.Proofs.YtigapglmipmbeaaGreatDoor
open Go.ChangeShapes Go.WideShapes Go.ChangeAt Go.RowKit
section
variable {H:Type} {enc:TypeId × Value→H}
end
end Go.Proofs.YtigapglmipmbeaaGreatDoor
namespace Go.Proofs.YtigapglmipmbeaaGreatDoor
open Go.RowKit
structure Kind (α:Type) where
 ty:TypeId
 k:Nat
 is:(C:TypeId→Nat→Prop)→World→List Value→α→Prop
 inner:List TypeId
 len:∀ {C w l x},is C w l x→l.length=k
 keep:∀ {C C':TypeId→Nat→Prop} {w w':World} {l x},is C w l x→(∀ E b,E∈inner→b < w.heap.size→C E b→C' E b∧w'.heap[b]?=w.heap[b]?)→is C' w' l x
section
variable {α:Type} {K:Kind α} {C C':TypeId→Nat→Prop} {w w':World} {v:Value} {xs:List α}
end
def Own (base:Nat) (w:World) (E:TypeId) (b:Nat):Prop:=base≤b∧∃ cur,w.heap[b]?=some (.cells cur E (0,0))
def Any (_:TypeId) (_:Nat):Prop:=True
section
variable {α:Type} {K:Kind α} {base:Nat} {w w':World} {v v':Value} {xs:List α}
theorem own_keep {base:Nat} {w w':World} {row:Option Nat} (hg:w.grownBy w' row) {E:TypeId} {b:Nat} (hE:∀ r,row=some r→∀ cur,w.heap[r]?≠some (.cells cur E (0,0))) (h:Own base w E b):Own base w' E b∧w'.heap[b]?=w.heap[b]?:=by
 obtain ⟨hb,cur,hc⟩:=h
 have hs:w'.heap[b]?=w.heap[b]?:=hg.block b (Array.getElem?_eq_some_iff.1 hc).1 fun e=>hE b e.symm cur hc
 exact ⟨⟨hb,cur,hs.trans hc⟩,hs⟩
end
open Go.ChangeShapes
section
variable {H:Type} {enc:TypeId × Value→H} {w:World} {base:Nat} {sp:Nat→Bool} {held:Bool} {fuel:Nat}
end
end Go.Proofs.YtigapglmipmbeaaGreatDoor
namespace Go.Proofs.YtigapglmipmbeaaGreatDoor
open Go.RowKit Go.ChangeShapes Go.WideShapes Go.ChangeAt
section
variable {H:Type} {enc:TypeId × Value→H} {w:World} {base:Nat} {sp:Nat→Bool} {held:Bool} {fuel:Nat}
end
end Go.Proofs.YtigapglmipmbeaaGreatDoor
namespace Go.Proofs.YtigapglmipmbeaaGreatDoor
open Go
theorem enters {P : Program} {rest : List (List Char)} (h : behindMainWord (wordsSigns P.initOrder.toList) = "cut".toList :: rest) (h1 : P.laysLater = false) (h2 : P.bearsReflect = false) (h3 : P.doorFits [] = true) : P.mayEnter = true := by
 have e : stripLifts liftWords ("cut".toList :: rest) = ([], "cut".toList :: rest) := by kernel_rfl
 unfold Program.mayEnter
 rw [h]
 dsimp only
 rw [e]
 simp [h1,h2,h3]
theorem cons_of_head {α:Type} {l:List α} {x:α} (h:l.head?=some x):l=x::l.tail:=by
 cases l with
 | nil=>cases h
 | cons y t=>cases h;rfl
theorem doorFitsF:Tryz.prog.doorFits []=true:=by kernel_rfl
theorem headWordF : (behindMainWord (wordsSigns Tryz.prog.initOrder.toList)).head? = some "cut".toList := by kernel_rfl
theorem laysLaterF:Tryz.prog.laysLater=false:=by kernel_rfl
theorem bearsReflectF:Tryz.prog.bearsReflect=false:=by kernel_rfl
theorem mayEnterF:Tryz.prog.mayEnter=true:=enters (cons_of_head headWordF) laysLaterF bearsReflectF doorFitsF
theorem mainIsF : Tryz.prog.mainIs = some (true, "5395951699d0e7c088c16c506ed30de6925104505e2026abbc93d9abbfe2aced".toList) := by kernel_rfl
theorem looksF:true=Tryz.prog.looks []:=by kernel_rfl
end Go.Proofs.YtigapglmipmbeaaGreatDoor
