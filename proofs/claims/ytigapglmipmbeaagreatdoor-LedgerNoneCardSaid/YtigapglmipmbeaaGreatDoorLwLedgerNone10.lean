/- The ledger: valid; an account's after (printed by mkledt.py). The ledger: try and Reserve of one name (printed by mkledr.py). The reference's rational numbers: Reduce, Negative, Over, Times, Plus (printed by mkrq.py). The reference's Negative (printed by mkrqn.py). The reference: two, Order. The reference's Write. The reference's Write of a rational number, two, Order (printed by mkrwq.py). The reference's Add, Mul, Sub, Div (printed by mkradd.py). The reference's Order of rational numbers, Cmp, Min, Max (printed by mkrord.py). The reference's Power of natural numbers; odd. The reference's functions of one number: Neg, Abs, Inv, Sign (printed by mkrone.py). Powers that are too great. The reference's Pow of rational numbers (printed by mkrpw.py). The reference's functions of two numbers, on texts of numbers. The reference's losses (printed by mklref.py). The reference's sums and comparisons of losses (printed by mklref2.py). The reference's Group and Late (printed by mklref3.py). Texts of given numbers, by reckoning; the examples of losses in plain rationals. The examples of losses that each statement asks first. The examples of law 33: example, spent, awake (printed by mkleda.py). LedgerNone, as a walk (printed by mkledz.py). Opening and shutting an argument that is a loss. Slices of structs with slices in them, in memory: how they read, how they are built, what keeps them. Plain words, no program. Opening arguments: lists of masses, of losses, of strings. Opening an argument that is an act of the ledger's chapter. Facts of the program that each card asks. -/
import Derived.Test.YtigapglmipmbeaaGreatDoorLwLedgerNone09
import Derived.Test.YtigapglmipmbeaaGreatDoorLwLedgerNone08
import Derived.LoopN
import Derived.Lib.SmallJoins
import Derived.Test.YtigapglmipmbeaaGreatDoorLwLedgerNone07
import Derived.Test.YtigapglmipmbeaaGreatDoorLwLedgerNone06
import Derived.Laws.Bits128
import Derived.LoopNIn
import Derived.ProofKit
import Derived.OpenShut
import Derived.ShutString
import Derived.ChangeOld
import Derived.ChangeSame
import Derived.Test.YtigapglmipmbeaaGreatDoorProg
import Derived.WalkKit
import Derived.Handy
import Derived.Lib.Hide
import Derived.BigQuiet
import Derived.Maps.OwnSet
import Derived.Maps.StringElems
import Derived.Maps.AppendAt
import Derived.WalkLawsBesides
import Derived.WalkSpells
import Derived.ChangeSlices
import Derived.Deep.Slices
import Derived.Deep.Strs
import Derived.Test.YtigapglmipmbeaaGreatDoorCards
import Derived.Test.YtigapglmipmbeaaGreatDoorTie
import Derived.KernelRfl
import Derived.SevenTiedAt
set_option maxRecDepth 100000
set_option maxHeartbeats 16000000
namespace Go.Proofs.YtigapglmipmbeaaGreatDoor
open Go.RowKit Go.Shelf
open Lim
structure VAt (w:World) (t1 t2:TypeId) (c1 c2:Array Value) (W:World):Prop where
 b0:Blk W w.heap.size t1 c1
 b1:Blk W (w.heap.size+1) t2 c2
 nw:NW w W
theorem VAt.new {w:World} {t1 t2:TypeId} {c1 c2:Array Value} (hr:Res w):VAt w t1 t2 c1 c2 ((w.alloc (.cells c1 t1)).alloc (.cells c2 t2)):=by
 have k1:=Blk.new w t1 c1
 have k2:=Blk.new (w.alloc (.cells c1 t1)) t2 c2
 rw [World.size_alloc] at k2
 exact ⟨k1.alloc _,k2,((NW.refl hr).alloc _).alloc _⟩
theorem VAt.later {w:World} {t1 t2:TypeId} {c1 c2:Array Value} {W W':World} (h:VAt w t1 t2 c1 c2 W) (hb:Below W.heap.size W W'):VAt w t1 t2 c1 c2 W':=⟨h.b0.below hb h.b0.lt,h.b1.below hb h.b1.lt,h.nw.later hb⟩
theorem VAt.alloc {w:World} {t1 t2:TypeId} {c1 c2:Array Value} {W:World} (h:VAt w t1 t2 c1 c2 W) (o:Obj):VAt w t1 t2 c1 c2 (W.alloc o):=⟨h.b0.alloc o,h.b1.alloc o,h.nw.alloc o⟩
theorem gvalid_ok (f l:ByteArray) (w:World) (h1:f.size≤270000) (h2:l.size≤270000) (ef:errQ f.data.toList=0) (el:errQ l.data.toList=0) (e2:errL f l=0) (hr:Res w) :
  Calls Tryz.prog 238 #[.agg #[.string f,.string l]] w fun e w'=>e=.returned (.int .i64 0)∧Below w.heap.size w w':=by
 have H0:=Lib.hid (VAt.new (w:=w) (t1:=97) (t2:=23) (c1:=#[.string f,.string l]) (c2:=#[.string f,.string l]) hr)
 have HCF:=Lib.hid (fun (W:World) (hr:Res W)=>ratCheck_any f W h1 hr)
 have HCL:=Lib.hid (fun (W:World) (hr:Res W)=>ratCheck_any l W h2 hr)
 have HLC:=Lib.hid (fun (W:World) (hr:Res W)=>lcheck_any f l W h1 h2 hr)
 rw [ef] at HCF
 rw [el] at HCL
 rw [e2] at HLC
 clear h1 h2 ef el e2 hr
 obtain ⟨p0,p1⟩:=cells2 H0.out.b0
 obtain ⟨q0,q1⟩:=cells2 H0.out.b1
 have pl:=H0.out.b0.lt
 have ql:=H0.out.b1.lt
 have TK0:True:=trivial
 have TK1:True:=trivial
 go_enter Tryz.func238,Tryz.ntmps238
 go_wp2
 refine wp_loop_rounds 3 ?_
 rw [rounds_succ]
 go_wp2_with (clear TK0;go_at_call 138;refine (HCF.out _ H0.out.nw.res).mono ?_;rintro e w1 ⟨rfl,hb⟩;have H1:=Lib.hid (H0.out.later hb);clear hb p0 p1 pl q0 q1 ql;obtain ⟨p0,p1⟩:=cells2 H1.out.b0;obtain ⟨q0,q1⟩:=cells2 H1.out.b1;have pl:=H1.out.b0.lt;have ql:=H1.out.b1.lt)
 rw [rounds_succ]
 go_wp2_with (clear TK1;go_at_call 138;refine (HCL.out _ H1.out.nw.res).mono ?_;rintro e w2 ⟨rfl,hb⟩;have H2:=Lib.hid (H1.out.later hb);clear hb p0 p1 pl q0 q1 ql;obtain ⟨p0,p1⟩:=cells2 H2.out.b0;obtain ⟨q0,q1⟩:=cells2 H2.out.b1;have pl:=H2.out.b0.lt;have ql:=H2.out.b1.lt)
 rw [rounds_succ]
 go_wp2_with (go_at_call 182;refine (HLC.out _ H2.out.nw.res).mono ?_;rintro e w3 ⟨rfl,hb⟩;have H3:=Lib.hid (H2.out.later hb);clear hb p0 p1 pl q0 q1 ql)
 go_ret
 exact ⟨rfl,H3.out.nw.below⟩
theorem dafter_any (lf ld f d cf cl f1 d1 f2 d2:ByteArray) (n:Int) (b:Bool) (w:World) (hr:Res w) (hn1:0≤n) (hn2:n≤1000)
  (HL:Hid (∀ W,Res W→Calls Tryz.prog 74 #[.agg #[.string cf,.string ⟨#[48]⟩],.string cl] W fun e w'=>e=.returned (.tuple #[.agg #[.string f1,.string d1],.int .i64 0])∧Below W.heap.size W w'))
  (HA:Hid (∀ W,Res W→Calls Tryz.prog 69 #[.agg #[.string f,.string d],.agg #[.string f1,.string d1]] W fun e w'=>e=.returned (.tuple #[.agg #[.string f2,.string d2],.int .i64 0])∧Below W.heap.size W w'))
  (HF:Hid (∀ W,Res W→Calls Tryz.prog 381 #[.agg #[.string f2,.string d2],.agg #[.string lf,.string ld]] W fun e w'=>e=.returned (.tuple #[.bool b,.int .i64 0])∧Below W.heap.size W w')) :
  Calls Tryz.prog 378 #[.agg #[.string lf,.string ld,.string f,.string d,.int .i64 n],.agg #[.string cf,.string cl]] w fun e w'=>e=.returned (.tuple #[(St.dir lf ld f2 d2 (n+1)).val,.bool b])∧Below w.heap.size w w':=by
 cases b
 ·have H0:=Lib.hid (VAt.new (w:=w) (t1:=206) (t2:=97) (c1:=#[.string lf,.string ld,.string f,.string d,.int .i64 n]) (c2:=#[.string cf,.string cl]) hr)
  obtain ⟨q0,q1⟩:=cells2 H0.out.b1
  have ql:=H0.out.b1.lt
  have HR:=Lib.hid hr
  clear hr
  go_enter Tryz.func378,Tryz.ntmps378
  go_wp2_with (go_at_call 74;refine (HL.out _ H0.out.nw.res).mono ?_;rintro e w1 ⟨rfl,hb⟩;have H1:=Lib.hid ((H0.out.later hb).alloc (.cells #[.string f1,.string d1] 63));have HW:=Lib.hid (Blk.new w1 63 #[.string f1,.string d1]);clear hb q0 q1 ql;obtain ⟨q0,q1⟩:=cells2 HW.out;have ql:=HW.out.lt;have p0:(w1.alloc (.cells #[.string f1,.string d1] 63)).cell? ⟨w.heap.size,0,none⟩=some (.string lf):=H1.out.b0.cell 0;have p1:(w1.alloc (.cells #[.string f1,.string d1] 63)).cell? ⟨w.heap.size,1,none⟩=some (.string ld):=H1.out.b0.cell 1;have p2:(w1.alloc (.cells #[.string f1,.string d1] 63)).cell? ⟨w.heap.size,2,none⟩=some (.string f):=H1.out.b0.cell 2;have p3:(w1.alloc (.cells #[.string f1,.string d1] 63)).cell? ⟨w.heap.size,3,none⟩=some (.string d):=H1.out.b0.cell 3;have p4:(w1.alloc (.cells #[.string f1,.string d1] 63)).cell? ⟨w.heap.size,4,none⟩=some (.int .i64 n):=H1.out.b0.cell 4;have pl:=H1.out.b0.lt)
  go_wp2_with (go_at_call 69;refine (HA.out _ H1.out.nw.res).mono ?_;rintro e w2 ⟨rfl,hb⟩;have H2:=Lib.hid (H1.out.later hb);clear hb q0 q1 ql p0 p1 p2 p3 p4 pl;have p0:w2.cell? ⟨w.heap.size,0,none⟩=some (.string lf):=H2.out.b0.cell 0;have p1:w2.cell? ⟨w.heap.size,1,none⟩=some (.string ld):=H2.out.b0.cell 1;have p2:w2.cell? ⟨w.heap.size,2,none⟩=some (.string f):=H2.out.b0.cell 2;have p3:w2.cell? ⟨w.heap.size,3,none⟩=some (.string d):=H2.out.b0.cell 3;have p4:w2.cell? ⟨w.heap.size,4,none⟩=some (.int .i64 n):=H2.out.b0.cell 4;have pl:=H2.out.b0.lt;have z2:=H2.out.b0.frozen 2;have z3:=H2.out.b0.frozen 3;have HK2:=Lib.hid (show Blk ((w2.setCell ⟨w.heap.size,2,none⟩ (.string f2)).setCell ⟨w.heap.size,3,none⟩ (.string d2)) w.heap.size 206 #[.string lf,.string ld,.string f2,.string d2,.int .i64 n] from (H2.out.b0.set_ 2 (.string f2)).set_ 3 (.string d2));have e0:((w2.setCell ⟨w.heap.size,2,none⟩ (.string f2)).setCell ⟨w.heap.size,3,none⟩ (.string d2)).cell? ⟨w.heap.size,0,none⟩=some (.string lf):=HK2.out.cell 0;have e1:((w2.setCell ⟨w.heap.size,2,none⟩ (.string f2)).setCell ⟨w.heap.size,3,none⟩ (.string d2)).cell? ⟨w.heap.size,1,none⟩=some (.string ld):=HK2.out.cell 1;have e2:((w2.setCell ⟨w.heap.size,2,none⟩ (.string f2)).setCell ⟨w.heap.size,3,none⟩ (.string d2)).cell? ⟨w.heap.size,2,none⟩=some (.string f2):=HK2.out.cell 2;have e3:((w2.setCell ⟨w.heap.size,2,none⟩ (.string f2)).setCell ⟨w.heap.size,3,none⟩ (.string d2)).cell? ⟨w.heap.size,3,none⟩=some (.string d2):=HK2.out.cell 3;have e4:((w2.setCell ⟨w.heap.size,2,none⟩ (.string f2)).setCell ⟨w.heap.size,3,none⟩ (.string d2)).cell? ⟨w.heap.size,4,none⟩=some (.int .i64 n):=HK2.out.cell 4;have z4:=HK2.out.frozen 4;have yl:=HK2.out.lt;have HK3:=Lib.hid (fun u=>(show Blk (((w2.setCell ⟨w.heap.size,2,none⟩ (.string f2)).setCell ⟨w.heap.size,3,none⟩ (.string d2)).setCell ⟨w.heap.size,4,none⟩ u) w.heap.size 206 #[.string lf,.string ld,.string f2,.string d2,u] from HK2.out.set_ 4 u));have g0:∀ u,(((w2.setCell ⟨w.heap.size,2,none⟩ (.string f2)).setCell ⟨w.heap.size,3,none⟩ (.string d2)).setCell ⟨w.heap.size,4,none⟩ u).cell? ⟨w.heap.size,0,none⟩=some (.string lf):=fun u=>(HK3.out u).cell 0;have g1:∀ u,(((w2.setCell ⟨w.heap.size,2,none⟩ (.string f2)).setCell ⟨w.heap.size,3,none⟩ (.string d2)).setCell ⟨w.heap.size,4,none⟩ u).cell? ⟨w.heap.size,1,none⟩=some (.string ld):=fun u=>(HK3.out u).cell 1;have g2:∀ u,(((w2.setCell ⟨w.heap.size,2,none⟩ (.string f2)).setCell ⟨w.heap.size,3,none⟩ (.string d2)).setCell ⟨w.heap.size,4,none⟩ u).cell? ⟨w.heap.size,2,none⟩=some (.string f2):=fun u=>(HK3.out u).cell 2;have g3:∀ u,(((w2.setCell ⟨w.heap.size,2,none⟩ (.string f2)).setCell ⟨w.heap.size,3,none⟩ (.string d2)).setCell ⟨w.heap.size,4,none⟩ u).cell? ⟨w.heap.size,3,none⟩=some (.string d2):=fun u=>(HK3.out u).cell 3;have g4:∀ u,(((w2.setCell ⟨w.heap.size,2,none⟩ (.string f2)).setCell ⟨w.heap.size,3,none⟩ (.string d2)).setCell ⟨w.heap.size,4,none⟩ u).cell? ⟨w.heap.size,4,none⟩=some u:=fun u=>(HK3.out u).cell 4;have gl:=fun u=>(HK3.out u).lt;have HB3:=Lib.hid (fun u=>(show Below w.heap.size w (((w2.setCell ⟨w.heap.size,2,none⟩ (.string f2)).setCell ⟨w.heap.size,3,none⟩ (.string d2)).setCell ⟨w.heap.size,4,none⟩ u) from ((H2.out.nw.below.setCell (p:=⟨w.heap.size,2,none⟩) (Nat.le_refl _) _).setCell (p:=⟨w.heap.size,3,none⟩) (Nat.le_refl _) _).setCell (p:=⟨w.heap.size,4,none⟩) (Nat.le_refl _) u)))
  go_wp2_with (go_at_call 381;refine (HF.out _ (HR.out.below (HB3.out _))).mono ?_;rintro e w4 ⟨rfl,hb⟩;have K4:=(HK3.out _).below hb (HK3.out _).lt;have HB4:=Lib.hid ((HB3.out _).trans (hb.mono (HB3.out _).size));clear hb p0 p1 p2 p3 p4 pl z2 z3 e0 e1 e2 e3 e4 z4 yl g0 g1 g2 g3 g4 gl;have k0:=K4.cell 0;have k1:=K4.cell 1;have k2:=K4.cell 2;have k3:=K4.cell 3;have k4:=K4.cell 4;have kl:=K4.lt)
  go_ret2
  exact ⟨rfl,HB4.out⟩
 ·have H0:=Lib.hid (VAt.new (w:=w) (t1:=206) (t2:=97) (c1:=#[.string lf,.string ld,.string f,.string d,.int .i64 n]) (c2:=#[.string cf,.string cl]) hr)
  obtain ⟨q0,q1⟩:=cells2 H0.out.b1
  have ql:=H0.out.b1.lt
  have HR:=Lib.hid hr
  clear hr
  go_enter Tryz.func378,Tryz.ntmps378
  go_wp2_with (go_at_call 74;refine (HL.out _ H0.out.nw.res).mono ?_;rintro e w1 ⟨rfl,hb⟩;have H1:=Lib.hid ((H0.out.later hb).alloc (.cells #[.string f1,.string d1] 63));have HW:=Lib.hid (Blk.new w1 63 #[.string f1,.string d1]);clear hb q0 q1 ql;obtain ⟨q0,q1⟩:=cells2 HW.out;have ql:=HW.out.lt;have p0:(w1.alloc (.cells #[.string f1,.string d1] 63)).cell? ⟨w.heap.size,0,none⟩=some (.string lf):=H1.out.b0.cell 0;have p1:(w1.alloc (.cells #[.string f1,.string d1] 63)).cell? ⟨w.heap.size,1,none⟩=some (.string ld):=H1.out.b0.cell 1;have p2:(w1.alloc (.cells #[.string f1,.string d1] 63)).cell? ⟨w.heap.size,2,none⟩=some (.string f):=H1.out.b0.cell 2;have p3:(w1.alloc (.cells #[.string f1,.string d1] 63)).cell? ⟨w.heap.size,3,none⟩=some (.string d):=H1.out.b0.cell 3;have p4:(w1.alloc (.cells #[.string f1,.string d1] 63)).cell? ⟨w.heap.size,4,none⟩=some (.int .i64 n):=H1.out.b0.cell 4;have pl:=H1.out.b0.lt)
  go_wp2_with (go_at_call 69;refine (HA.out _ H1.out.nw.res).mono ?_;rintro e w2 ⟨rfl,hb⟩;have H2:=Lib.hid (H1.out.later hb);clear hb q0 q1 ql p0 p1 p2 p3 p4 pl;have p0:w2.cell? ⟨w.heap.size,0,none⟩=some (.string lf):=H2.out.b0.cell 0;have p1:w2.cell? ⟨w.heap.size,1,none⟩=some (.string ld):=H2.out.b0.cell 1;have p2:w2.cell? ⟨w.heap.size,2,none⟩=some (.string f):=H2.out.b0.cell 2;have p3:w2.cell? ⟨w.heap.size,3,none⟩=some (.string d):=H2.out.b0.cell 3;have p4:w2.cell? ⟨w.heap.size,4,none⟩=some (.int .i64 n):=H2.out.b0.cell 4;have pl:=H2.out.b0.lt;have z2:=H2.out.b0.frozen 2;have z3:=H2.out.b0.frozen 3;have HK2:=Lib.hid (show Blk ((w2.setCell ⟨w.heap.size,2,none⟩ (.string f2)).setCell ⟨w.heap.size,3,none⟩ (.string d2)) w.heap.size 206 #[.string lf,.string ld,.string f2,.string d2,.int .i64 n] from (H2.out.b0.set_ 2 (.string f2)).set_ 3 (.string d2));have e0:((w2.setCell ⟨w.heap.size,2,none⟩ (.string f2)).setCell ⟨w.heap.size,3,none⟩ (.string d2)).cell? ⟨w.heap.size,0,none⟩=some (.string lf):=HK2.out.cell 0;have e1:((w2.setCell ⟨w.heap.size,2,none⟩ (.string f2)).setCell ⟨w.heap.size,3,none⟩ (.string d2)).cell? ⟨w.heap.size,1,none⟩=some (.string ld):=HK2.out.cell 1;have e2:((w2.setCell ⟨w.heap.size,2,none⟩ (.string f2)).setCell ⟨w.heap.size,3,none⟩ (.string d2)).cell? ⟨w.heap.size,2,none⟩=some (.string f2):=HK2.out.cell 2;have e3:((w2.setCell ⟨w.heap.size,2,none⟩ (.string f2)).setCell ⟨w.heap.size,3,none⟩ (.string d2)).cell? ⟨w.heap.size,3,none⟩=some (.string d2):=HK2.out.cell 3;have e4:((w2.setCell ⟨w.heap.size,2,none⟩ (.string f2)).setCell ⟨w.heap.size,3,none⟩ (.string d2)).cell? ⟨w.heap.size,4,none⟩=some (.int .i64 n):=HK2.out.cell 4;have z4:=HK2.out.frozen 4;have yl:=HK2.out.lt;have HK3:=Lib.hid (fun u=>(show Blk (((w2.setCell ⟨w.heap.size,2,none⟩ (.string f2)).setCell ⟨w.heap.size,3,none⟩ (.string d2)).setCell ⟨w.heap.size,4,none⟩ u) w.heap.size 206 #[.string lf,.string ld,.string f2,.string d2,u] from HK2.out.set_ 4 u));have g0:∀ u,(((w2.setCell ⟨w.heap.size,2,none⟩ (.string f2)).setCell ⟨w.heap.size,3,none⟩ (.string d2)).setCell ⟨w.heap.size,4,none⟩ u).cell? ⟨w.heap.size,0,none⟩=some (.string lf):=fun u=>(HK3.out u).cell 0;have g1:∀ u,(((w2.setCell ⟨w.heap.size,2,none⟩ (.string f2)).setCell ⟨w.heap.size,3,none⟩ (.string d2)).setCell ⟨w.heap.size,4,none⟩ u).cell? ⟨w.heap.size,1,none⟩=some (.string ld):=fun u=>(HK3.out u).cell 1;have g2:∀ u,(((w2.setCell ⟨w.heap.size,2,none⟩ (.string f2)).setCell ⟨w.heap.size,3,none⟩ (.string d2)).setCell ⟨w.heap.size,4,none⟩ u).cell? ⟨w.heap.size,2,none⟩=some (.string f2):=fun u=>(HK3.out u).cell 2;have g3:∀ u,(((w2.setCell ⟨w.heap.size,2,none⟩ (.string f2)).setCell ⟨w.heap.size,3,none⟩ (.string d2)).setCell ⟨w.heap.size,4,none⟩ u).cell? ⟨w.heap.size,3,none⟩=some (.string d2):=fun u=>(HK3.out u).cell 3;have g4:∀ u,(((w2.setCell ⟨w.heap.size,2,none⟩ (.string f2)).setCell ⟨w.heap.size,3,none⟩ (.string d2)).setCell ⟨w.heap.size,4,none⟩ u).cell? ⟨w.heap.size,4,none⟩=some u:=fun u=>(HK3.out u).cell 4;have gl:=fun u=>(HK3.out u).lt;have HB3:=Lib.hid (fun u=>(show Below w.heap.size w (((w2.setCell ⟨w.heap.size,2,none⟩ (.string f2)).setCell ⟨w.heap.size,3,none⟩ (.string d2)).setCell ⟨w.heap.size,4,none⟩ u) from ((H2.out.nw.below.setCell (p:=⟨w.heap.size,2,none⟩) (Nat.le_refl _) _).setCell (p:=⟨w.heap.size,3,none⟩) (Nat.le_refl _) _).setCell (p:=⟨w.heap.size,4,none⟩) (Nat.le_refl _) u)))
  go_wp2_with (go_at_call 381;refine (HF.out _ (HR.out.below (HB3.out _))).mono ?_;rintro e w4 ⟨rfl,hb⟩;have K4:=(HK3.out _).below hb (HK3.out _).lt;have HB4:=Lib.hid ((HB3.out _).trans (hb.mono (HB3.out _).size));clear hb p0 p1 p2 p3 p4 pl z2 z3 e0 e1 e2 e3 e4 z4 yl g0 g1 g2 g3 g4 gl;have k0:=K4.cell 0;have k1:=K4.cell 1;have k2:=K4.cell 2;have k3:=K4.cell 3;have k4:=K4.cell 4;have kl:=K4.lt)
  go_ret2
  exact ⟨rfl,HB4.out⟩
end Go.Proofs.YtigapglmipmbeaaGreatDoor
namespace Go.Proofs.YtigapglmipmbeaaGreatDoor
open Go.RowKit Go.Shelf
open Lim
attribute [local go_sem] Oper.semAt_some wide_fn
structure TI (w:World) (g nb:Nat) (x f l:ByteArray) (s0 s1:St) (W:World):Prop where
 led:Led W g s0 s1
 nm:W.cell? ⟨nb,0,none⟩=some (.string x)
 nl:nb < W.heap.size
 kc:Blk W w.heap.size 97 #[.string f,.string l]
 nw:NW w W
theorem TI.later {w W W':World} {g nb:Nat} {x f l:ByteArray} {s0 s1:St} (h:TI w g nb x f l s0 s1 W) (hb:Below W.heap.size W W'):TI w g nb x f l s0 s1 W' :=
 ⟨h.led.later hb,(hb.cell (p:=⟨nb,0,none⟩) h.nl).trans h.nm,Nat.lt_of_lt_of_le h.nl hb.size,h.kc.below hb h.kc.lt,h.nw.later hb⟩
theorem TI.new {w:World} {g nb:Nat} {x f l:ByteArray} {s0 s1:St} (hr:Res w) (h:Led w g s0 s1) (hn:w.cell? ⟨nb,0,none⟩=some (.string x)) (hl:nb < w.heap.size):TI w g nb x f l s0 s1 (w.alloc (.cells #[.string f,.string l] 97)):=by
 have hb:=below_alloc (Below.refl w.heap.size w) (.cells #[.string f,.string l] 97)
 exact ⟨h.later hb,(hb.cell (p:=⟨nb,0,none⟩) hl).trans hn,Nat.lt_of_lt_of_le hl hb.size,Blk.new _ _ _,(NW.refl hr).alloc _⟩
theorem gtry_a (g nb nc:Nat) (f l:ByteArray) (lf ld f0 d0 f2 d2:ByteArray) (n m:Int) (s1:St) (w:World) (hr:Res w) (h:Led w g (St.dir lf ld f0 d0 n) s1) (hn:w.cell? ⟨nb,0,none⟩=some (.string ⟨#[97]⟩)) (hl:nb < w.heap.size)
  (HV:Hid (∀ W,Res W→Calls Tryz.prog 238 #[.agg #[.string f,.string l]] W fun e w'=>e=.returned (.int .i64 0)∧Below W.heap.size W w'))
  (HA:Hid (∀ W,Res W→Calls Tryz.prog 378 #[.agg #[.string lf,.string ld,.string f0,.string d0,.int .i64 n],.agg #[.string f,.string l]] W fun e w'=>e=.returned (.tuple #[(St.dir lf ld f2 d2 m).val,.bool true])∧Below W.heap.size W w')) :
  Calls Tryz.prog 179 #[.pointer (some ⟨g,0,none⟩),.slice (some ⟨nb,0,none⟩) 1 nc,.agg #[.string f,.string l]] w fun e w'=>(∃ v,e=.returned (.tuple #[v,.int .i64 0])∧w'.ownsRow w.heap.size 199 1 v 2 [(St.dir lf ld f2 d2 m).val,(s1).val])∧Below w.heap.size w w':=by
 have N:=Lib.hid (TI.new (f:=f) (l:=l) hr h hn hl)
 have HN:=Lib.hid (fun W (hW:Led W g (St.dir lf ld f0 d0 n) s1)=>gnone_led g _ _ W hW)
 have hmx:Tryz.prog.follows .mixedOrders=true:=by kernel_rfl
 have ME:=@meth_da
 clear hr h hn hl
 obtain ⟨b0,b1⟩:=cells2 N.out.kc
 have bl:=N.out.kc.lt
 go_enter Tryz.func179,Tryz.ntmps179
 go_wp2_with (first
  | (go_at_call 184;refine (HN.out _ N.out.led).mono ?_;rintro e w1 ⟨rfl,rfl⟩)
  | (go_at_call 238;refine (HV.out _ N.out.nw.res).mono ?_;rintro e w2 ⟨rfl,hb⟩;have N:=Lib.hid (N.out.later hb);clear hb b0 b1 bl;obtain ⟨qA,qn,qc,mb,qv,kg,hm,hw⟩:=N.out.led;have p1:w2.cell? ⟨g,1,none⟩=some (.map (some mb)):=kg.cell 1;have p2:w2.cell? ⟨g,2,none⟩=some qv:=kg.cell 2;have HM:=Lib.hid hm;have HW:=Lib.hid hw;have pn:=N.out.nm;have pl:=N.out.nl;have gl:=kg.lt;clear kg hm hw))
 refine wp_loop_rounds 2 ?_
 rw [rounds_succ]
 go_wp2_with (first
  | (at_lookup;refine wpList_lookup_own_ok_int _ rfl _ _ 108 rfl 9 3 .i64 lawN Tryz.underlying108 Tryz.underlying3 (zeroN _) mb 2 ixD rfl HM.out _ _ rfl keyA ?_;intro ci hat hwc;rw [ixD_a] at hat;simp only [DataW.lit.injEq,Lit.int.injEq,true_and] at hat;subst hat;rw [has_a];clear hwc)
  | (go_at_call 239;refine (gcontains0 _ _ _ _).mono ?_;rintro e w3 ⟨rfl,h3⟩;replace h3:=h3.symm;subst h3))
 rw [rounds_succ]
 have HCL:=Lib.hid (show ∃ sb sc,qv=.slice (some ⟨sb,0,none⟩) 2 sc∧sb < w2.heap.size∧w2.cell? ⟨sb,0,none⟩=some (St.dir lf ld f0 d0 n).val∧w2.cell? ⟨sb,1,none⟩=some (s1).val from by obtain ⟨a,b,h1,_,h2,h3,h4⟩:=row_two HW.out;exact ⟨a,b,h1,h2,h3,h4⟩)
 obtain ⟨sb,sc,rfl,hs1,hs2,hs3⟩:=HCL.out
 have HKL:=Lib.hid (gclone_st sb 2 sc [(St.dir lf ld f0 d0 n).val,(s1).val] w2 hs1 rfl (by omega) (fun j u hj=>by match j,hj with|0,hj=>(simp at hj;subst hj;exact hs2)|1,hj=>(simp at hj;subst hj;exact hs3)) (fun u hu=>by simp only [List.mem_cons,List.not_mem_nil,or_false] at hu;rcases hu with rfl|rfl<;>exact St.one _))
 clear hs1 hs2 hs3 HCL
 go_wp2_with (go_at_call 185;refine HKL.out.mono ?_;rintro e w4 ⟨⟨v4,rfl,hv4⟩,hb⟩;obtain ⟨cb,cc,rfl,hcb,hcl,k0,k1⟩:=row_two hv4;have HV4:=Lib.hid (Go.Joins.ownsRow_le hv4 N.out.nw.below.size);have HCB:=Lib.hid (Nat.le_trans N.out.nw.below.size hcb);have N:=Lib.hid (N.out.later hb);clear hb hv4 hcb HM HW HKL p1 p2 pn pl gl;obtain ⟨qA,qn,qc,mb,qv,kg,hm,hw⟩:=N.out.led;have p1:w4.cell? ⟨g,1,none⟩=some (.map (some mb)):=kg.cell 1;have p2:w4.cell? ⟨g,2,none⟩=some qv:=kg.cell 2;have HM:=Lib.hid hm;have HW:=Lib.hid hw;have pn:=N.out.nm;have pl:=N.out.nl;have gl:=kg.lt;clear kg hm hw)
 refine wp_loop_rounds 2 ?_
 rw [rounds_succ]
 go_wp2_with (at_lookup;refine wpList_lookup_own_int _ rfl _ _ 108 rfl 9 3 .i64 lawN Tryz.underlying108 Tryz.underlying3 (zeroN _) mb 2 ixD rfl HM.out _ _ rfl keyA ?_;intro ci hat hwc;rw [ixD_a] at hat;simp only [DataW.lit.injEq,Lit.int.injEq,true_and] at hat;subst hat;clear hwc)
 generalize hW5:w4=W5 at *
 clear hW5 p1 p2 pn pl gl HM HW
 unfold St.val at k0
 have v0:∀ x:SameAt W5 (fun k=>k < W5.heap.size),x.W.cell? ⟨cb,0,none⟩=some _:=fun x=>x.cell hcl k0
 have v1:∀ x:SameAt W5 (fun k=>k < W5.heap.size),x.W.cell? ⟨w.heap.size,0,none⟩=some (.string f):=fun x=>x.cell N.out.kc.lt (N.out.kc.cell 0)
 have v2:∀ x:SameAt W5 (fun k=>k < W5.heap.size),x.W.cell? ⟨w.heap.size,1,none⟩=some (.string l):=fun x=>x.cell N.out.kc.lt (N.out.kc.cell 1)
 refine wpIn_wide.1 (wpIn_stage (n:=3) (IsSame W5 (fun k=>k < W5.heap.size)) [0,1,2,3,4,6,7,8,9,10] [] hmx (by kernel_rfl) (isSame_of fun _ _=>rfl) ?_)
 change wpStage _ _ _ _ _ _ _ _ (6+5) _ _ _
 refine stage_reads [0,1,2,3,4] 6 _ _ (by kernel_rfl) ?_
 change wpQuietIn _ _ _ _ (fun W'=>∃ x:SameAt W5 (fun k=>k < W5.heap.size),W'=x.W) _ _ _
 simp only [pick_cons,pick_nil,List.getElem?_cons_zero,List.getElem?_cons_succ,Option.elim_some]
 repeat (gi_big_quiet_step (fail))
 refine wpQuietIn_nil ?_
 clear v0 v1 v2
 refine stage_one 5 (by kernel_rfl) rfl ?_
 gi_wp2_with (gi_at_call 378;refine (callsIn_wide.2 (HA.out _ (N.out.nw.res.below (below_drewM W5)))).mono ?_;rintro e w6 ⟨rfl,hb⟩;have HB6:=Lib.hid (show Below W5.heap.size W5 w6 from (below_drewM W5).trans hb);clear hb)
 refine stage_post (isSame_below HB6.out (fun k hk=>hk)) ?_
 change wpStage _ _ _ _ _ _ _ _ (0+5) _ _ _
 refine stage_reads [6,7,8,9,10] 0 _ _ (by kernel_rfl) ?_
 change wpQuietIn _ _ _ _ (fun W'=>∃ x:SameAt W5 (fun k=>k < W5.heap.size),W'=x.W) _ _ _
 simp only [pick_cons,pick_nil,List.getElem?_cons_zero,List.getElem?_cons_succ,Option.elim_some]
 repeat (gi_big_quiet_step (fail))
 refine wpQuietIn_nil ?_
 refine stage_done (by kernel_rfl) ?_
 have HV6:=Lib.hid (own_later HV4.out HB6.out)
 have N:=Lib.hid (N.out.later HB6.out)
 have hl6:cb < w6.heap.size:=Nat.lt_of_lt_of_le hcl HB6.out.size
 have hc6:w6.cell? ⟨cb,0,none⟩=some (St.dir lf ld f0 d0 n).val:=(World.ownsRow.cellAt HV6.out 0 (by omega))
 have hf6:w6.frozen? ⟨cb,0,none⟩=false:=World.ownsRow.frozenAt HV6.out 0
 unfold St.val at hc6 ⊢
 go_wp2
 rw [rounds_succ]
 go_wp2
 go_ret2
 obtain ⟨r1,r2⟩:=World.ownsRow.stored HV6.out 0 (St.dir lf ld f2 d2 m).val
 exact ⟨⟨_,rfl,r1⟩,N.out.nw.below.setCell (p:=⟨cb,0,none⟩) HCB.out _⟩
theorem gres_a (g nb nc:Nat) (f l:ByteArray) (lf ld f0 d0 f2 d2:ByteArray) (n m:Int) (s1:St) (w:World) (hr:Res w) (h:Led w g (St.dir lf ld f0 d0 n) s1) (hn:w.cell? ⟨nb,0,none⟩=some (.string ⟨#[97]⟩)) (hl:nb < w.heap.size)
  (HV:Hid (∀ W,Res W→Calls Tryz.prog 238 #[.agg #[.string f,.string l]] W fun e w'=>e=.returned (.int .i64 0)∧Below W.heap.size W w'))
  (HA:Hid (∀ W,Res W→Calls Tryz.prog 378 #[.agg #[.string lf,.string ld,.string f0,.string d0,.int .i64 n],.agg #[.string f,.string l]] W fun e w'=>e=.returned (.tuple #[(St.dir lf ld f2 d2 m).val,.bool true])∧Below W.heap.size W w')) :
  Calls Tryz.prog 88 #[.pointer (some ⟨g,0,none⟩),.slice (some ⟨nb,0,none⟩) 1 nc,.agg #[.string f,.string l]] w fun e w'=>e=.returned (.int .i64 0)∧Led w' g (St.dir lf ld f2 d2 m) s1∧Below g w w':=by
 have N:=Lib.hid (TI.new (f:=f) (l:=l) hr h hn hl)
 have HG:=Lib.hid h.lt
 have HT:=Lib.hid (gtry_a g nb nc f l lf ld f0 d0 f2 d2 n m s1 _ N.out.nw.res N.out.led N.out.nm N.out.nl HV HA)
 obtain ⟨b0,b1⟩:=cells2 N.out.kc
 have bl:=N.out.kc.lt
 clear hr h hn hl HV HA
 go_enter Tryz.func88,Tryz.ntmps88
 go_wp2_with (go_at_call 179;refine HT.out.mono ?_;rintro e w2 ⟨⟨v,rfl,hv⟩,hb⟩;have HV:=Lib.hid hv;have N:=Lib.hid (N.out.later hb);clear hb hv b0 b1 bl;obtain ⟨qA,qn,qc,mb,qv,kg,hm,hw⟩:=N.out.led;have p2:w2.cell? ⟨g,2,none⟩=some qv:=kg.cell 2;have pf:=kg.frozen 2;have HM:=Lib.hid hm;have KG:=Lib.hid kg;have gl:=kg.lt;clear kg hm hw;obtain ⟨RB,rc,rfl⟩:=slice_shape HV.out)
 go_ret
 refine ⟨rfl,⟨qA,qn,qc,mb,_,KG.out.set_ 2 _,HM.out.setCell (a:=⟨g,2,none⟩) (fun e=>map_ne HM.out KG.out e.symm) _,Go.Joins.ownsRow_le (ownsRow_setCell_below HV.out (a:=⟨g,2,none⟩) (by have:=HG.out;simp;omega) _) (Nat.zero_le _)⟩,?_⟩
 exact Below.setCell (p:=⟨g,2,none⟩) (Go.Joins.below_le N.out.nw.below (Nat.le_of_lt HG.out)) (Nat.le_refl _) _
end Go.Proofs.YtigapglmipmbeaaGreatDoor
namespace Go.Proofs.YtigapglmipmbeaaGreatDoor
open Go.RowKit Go.Shelf
open Lim
attribute [local go_sem] Oper.semAt_some
end Go.Proofs.YtigapglmipmbeaaGreatDoor
namespace Go.Proofs.YtigapglmipmbeaaGreatDoor
open Go.RowKit Go.Shelf
open Lim
end Go.Proofs.YtigapglmipmbeaaGreatDoor
namespace Go.Proofs.YtigapglmipmbeaaGreatDoor
open Go.RowKit Go.Shelf
open Lim
attribute [local go_sem] Oper.semAt_some
theorem two_set {W:World} {g4 g5 n:Nat} {w:World} {t t':TypeId} {m vn vd x y z:Value} {cs:Array Value} (h4:Blk W g4 t #[m,vn,vd]) (h5:Blk W g5 t' cs) (hne:g5≠g4) (hb:Below n w W) (hn:n≤g4) :
  Blk (((W.setCell ⟨g4,0,none⟩ x).setCell ⟨g4,1,none⟩ y).setCell ⟨g4,2,none⟩ z).drew g4 t #[x,y,z]∧Blk (((W.setCell ⟨g4,0,none⟩ x).setCell ⟨g4,1,none⟩ y).setCell ⟨g4,2,none⟩ z).drew g5 t' cs ∧
  Below n w (((W.setCell ⟨g4,0,none⟩ x).setCell ⟨g4,1,none⟩ y).setCell ⟨g4,2,none⟩ z).drew∧∀ k,k≠g4→(((W.setCell ⟨g4,0,none⟩ x).setCell ⟨g4,1,none⟩ y).setCell ⟨g4,2,none⟩ z).drew.heap[k]?=W.heap[k]? :=
 ⟨set3 h4,((h5.far (p:=⟨g4,0,none⟩) hne _).far (p:=⟨g4,1,none⟩) hne _).far (p:=⟨g4,2,none⟩) hne _,below_drew (set3_below hb hn),fun k hk=>set3_heap k hk⟩
end Go.Proofs.YtigapglmipmbeaaGreatDoor
namespace Go.Proofs.YtigapglmipmbeaaGreatDoor
open Go.RowKit Go.Shelf
open Lim
section
variable {w:World} {g:Nat} {t:TypeId} {P S:List Value} {v:Value}
end
end Go.Proofs.YtigapglmipmbeaaGreatDoor
namespace Go.Proofs.YtigapglmipmbeaaGreatDoor
open Go.RowKit Go.Shelf
open Lim
attribute [local go_sem] Oper.semAt_some
end Go.Proofs.YtigapglmipmbeaaGreatDoor
namespace Go.Proofs.YtigapglmipmbeaaGreatDoor
open Go.RowKit Go.Shelf
open Lim
section
variable {a b c:ByteArray} {p q:Rat} (w:World)
end
theorem firstL_two (x y:L2):firstL [x,y]=if errL x.1 x.2≠0 then errL x.1 x.2 else errL y.1 y.2:=by
 unfold firstL
 congr 1
 obtain ⟨f,d⟩:=y
 exact firstL_one f d
theorem foldR_two {op:LQ→LQ→Except Nat LQ} (hop:∀ a,OkL a→op noneL a=.ok a) {x y:L2} (h:firstL [x,y]=0):foldR op [x,y]=op (valL x) (valL y):=by
 unfold foldR
 rw [if_neg (by omega)]
 have hx:=(errL_zero (firstL_zero.1 h x (by simp))).ok
 simp only [List.map_cons,List.map_nil,foldE]
 rw [show op noneL (valL x)=.ok (valL x) from hop _ hx]
 dsimp only
 cases op (valL x) (valL y)<;>rfl
def litB (m:Bool) (ln ld l:List UInt8) (q:Rat):Bool :=
 NForm ln&&NForm ld&&decide (dv ld≠0)&&decide ((dv ln).gcd (dv ld)=1)&&(!m || decide (dv ln≠0))&&decide (ln.length≤100)&&decide (ld.length≤100) &&
  decide (mkQ m (dv ln) (dv ld)=q)&&decide ((if m then [45] else [])++ln++(if dv ld=1 then [] else 47::ld)=l)
theorem isT_lit (m:Bool) (ln ld:List UInt8) {l:List UInt8} {q:Rat} (h:litB m ln ld l q=true):IsT ⟨l.toArray⟩ q∧Sz 100 q:=by
 unfold litB at h
 simp only [Bool.and_eq_true,decide_eq_true_eq,Bool.or_eq_true,Bool.not_eq_true'] at h
 obtain ⟨⟨⟨⟨⟨⟨⟨⟨h1,h2⟩,h3⟩,h4⟩,h5⟩,h6⟩,h7⟩,h8⟩,h9⟩:=h
 have e1:=NForm.eq h1
 have e2:=NForm.eq h2
 have hm:m=true→dv ln≠0:=fun hm=>by
  rcases h5 with h5|h5
  ·rw [hm] at h5;cases h5
  ·exact h5
 obtain ⟨p1,p2,p3⟩:=mkQ_low (m:=m) h3 h4
 have hs:Sz 100 q:=by
  rw [← h8,sz_iff (by decide),p1,p2,← Lib.decDigits_length,← Lib.decDigits_length,e1,e2]
  exact ⟨h6,h7⟩
 refine ⟨⟨?_,hs.mono (by decide)⟩,hs⟩
 rw [← h8,text_q h3 h4 hm,e1,e2,h9]
theorem fits_lit {q:Rat} (h:decide (nm q < 10 ^ 60∧q.den < 10 ^ 60)=true):fits q=true :=
 have h2:nm q < 10 ^ 60∧q.den < 10 ^ 60:=of_decide_eq_true h
 fits_sz.2 (Sz.mono (j:=60) h2 (by decide))
theorem t_1_10:IsT ⟨#[49,47,49,48]⟩ (1/10):=(isT_lit false [49] [49,48] (by decide +kernel)).1
theorem valL_is {f d:ByteArray} {l:LQ} (h:LossIs f d l):valL (f,d)=l:=by
 unfold valL
 rw [h.f.val,h.d.val]
theorem firstL_is {f d f' d':ByteArray} {a b:LQ} (ha:LossIs f d a) (hb:LossIs f' d' b):firstL [(f,d),(f',d')]=0:=by
 rw [firstL_two];dsimp only;rw [ha.err,hb.err];rfl
theorem addX {f d f' d' x y:ByteArray} {a b:LQ} (ha:LossIs f d a) (hb:LossIs f' d' b) (hx:IsT x (a.1*b.1)) (h2:fits (a.2+b.2)=true) (hy:IsT y (minQ (a.2+b.2) 1)) :
  resL (foldR plusL [(f,d),(f',d')])=.tuple #[.agg #[.string x,.string y],.int .i64 0]:=by
 rw [foldR_two (fun a ha=>plusL_none ha) (firstL_is ha hb),valL_is ha,valL_is hb,plusL_ok hx.fits h2]
 unfold resL lossT
 dsimp only
 rw [← hx.text,← hy.text]
theorem lateX {f d u x:ByteArray} {l:LQ} {q:Rat} (hl:LossIs f d l) (hu:IsT u q) (h0:0≤q) (h1:q≤1) (f1:fits (l.1+1)=true) (f2:fits ((l.1+1)*q)=true) (f3:fits (l.2+(l.1+1)*q)=true) (hx:IsT x (minQ (l.2+(l.1+1)*q) 1)) :
  resL (lateR f d u)=.tuple #[.agg #[.string f,.string x],.int .i64 0]:=by
 unfold lateR
 rw [if_neg (by rw [hl.err];decide),if_neg (by rw [hu.err];decide),hu.val,if_neg,valL_is hl]
 ·unfold lateL
  rw [ovr_ok f1]
  dsimp only
  rw [ovr_ok f2]
  dsimp only
  rw [ovr_ok f3]
  unfold resL lossT
  dsimp only
  rw [← hx.text,← hl.f.text]
 ·rw [cmpQ_lt,cmpQ_gt]
  intro h
  rcases h with h|h<;>grind
theorem t_2:IsT ⟨#[50]⟩ 2:=(isT_lit false [50] [49] (by decide +kernel)).1
theorem exb:LossIs ⟨#[50]⟩ ⟨#[48]⟩ (2,0):=⟨t_2,IsT.zero,by decide +kernel,by decide +kernel,by decide +kernel⟩
end Go.Proofs.YtigapglmipmbeaaGreatDoor
namespace Go.Proofs.YtigapglmipmbeaaGreatDoor
open Go.RowKit Go.Shelf
open Lim
attribute [local go_sem] Oper.semAt_some wide_fn
theorem lx_1:LossIs ⟨#[49]⟩ ⟨#[48]⟩ (1,0):=⟨IsT.one,IsT.zero,by decide +kernel,by decide +kernel,by decide +kernel⟩
theorem lx_4:LossIs ⟨#[52]⟩ ⟨#[49,47,49,48]⟩ (4,1/10):=⟨(isT_lit false [52] [49] (by decide +kernel)).1,t_1_10,by decide +kernel,by decide +kernel,by decide +kernel⟩
theorem lx_3:LossIs ⟨#[51]⟩ ⟨#[49,47,50]⟩ (3,1/2):=⟨(isT_lit false [51] [49] (by decide +kernel)).1,(isT_lit false [49] [50] (by decide +kernel)).1,by decide +kernel,by decide +kernel,by decide +kernel⟩
theorem lx_late:resL (lateR ⟨#[50]⟩ ⟨#[48]⟩ ⟨#[48]⟩)=.tuple #[.agg #[.string ⟨#[50]⟩,.string ⟨#[48]⟩],.int .i64 0] :=
 lateX exb IsT.zero (by decide +kernel) (by decide +kernel) (fits_lit (by decide +kernel)) (fits_lit (by decide +kernel)) (fits_lit (by decide +kernel))
  (by rw [show minQ (((2,0):LQ).2+(((2,0):LQ).1+1)*0) 1=0 by decide +kernel];exact IsT.zero)
theorem lx_add:resL (foldR plusL [(⟨#[49]⟩,⟨#[48]⟩),(⟨#[50]⟩,⟨#[48]⟩)])=.tuple #[.agg #[.string ⟨#[50]⟩,.string ⟨#[48]⟩],.int .i64 0] :=
 addX lx_1 exb (by rw [show ((1,0):LQ).1*((2,0):LQ).1=2 by decide +kernel];exact t_2)
  (fits_lit (by decide +kernel)) (by rw [show minQ (((1,0):LQ).2+((2,0):LQ).2) 1=0 by decide +kernel];exact IsT.zero)
theorem lx_fits:resB (fitsR [(⟨#[50]⟩,⟨#[48]⟩),(⟨#[52]⟩,⟨#[49,47,49,48]⟩)] (valL (⟨#[50]⟩,⟨#[48]⟩)) (valL (⟨#[52]⟩,⟨#[49,47,49,48]⟩)))=.tuple #[.bool true,.int .i64 0]:=by
 unfold fitsR
 rw [if_neg (by rw [firstL_is exb lx_4];decide),valL_is exb,valL_is lx_4,show fitsL (2,0) (4,1/10)=true by decide +kernel]
 rfl
theorem gexample_any (w:World) (hr:Res w) :
  Calls Tryz.prog 87 #[] w fun e w'=>(∃ g,e=.returned (.pointer (some ⟨g,0,none⟩))∧w.heap.size≤g∧Led w' g (St.dir ⟨#[52]⟩ ⟨#[49,47,49,48]⟩ ⟨#[49]⟩ ⟨#[48]⟩ 0) (St.cur ⟨#[51]⟩ ⟨#[49,47,50]⟩ noneT 2 0))∧Below w.heap.size w w':=by
 have HB:=Lib.hid (below_alloc (Below.refl w.heap.size w) (.cells #[.string ⟨#[97]⟩,.string ⟨#[52]⟩,.string ⟨#[49,47,49,48]⟩,.int .i64 0,.string ⟨#[98]⟩,.string ⟨#[51]⟩,.string ⟨#[49,47,50]⟩,.int .i64 2] 104))
 have HN:=Lib.hid (gnew2 ⟨#[52]⟩ ⟨#[49,47,49,48]⟩ ⟨#[51]⟩ ⟨#[49,47,50]⟩ (by decide) (by decide) (by decide) (by decide) lx_4.err lx_3.err w.heap.size 2 _ (hr.below HB.out) (Blk.new w 104 #[.string ⟨#[97]⟩,.string ⟨#[52]⟩,.string ⟨#[49,47,49,48]⟩,.int .i64 0,.string ⟨#[98]⟩,.string ⟨#[51]⟩,.string ⟨#[49,47,50]⟩,.int .i64 2]))
 clear hr
 go_enter Tryz.func87,Tryz.ntmps87
 go_wp2_with (go_at_call 92;refine HN.out.mono ?_;rintro e w1 ⟨⟨g,rfl,hg,hl⟩,hb⟩;have HL:=Lib.hid hl;have HG:=Lib.hid (Nat.le_trans HB.out.size hg);have HC:=Lib.hid (HB.out.trans (hb.mono HB.out.size));clear hb hg hl)
 go_ret
 exact ⟨⟨g,rfl,HG.out,HL.out⟩,HC.out⟩
theorem gspentq (p:Value) (s f d:ByteArray) (w:World)
  (HS:Hid (Calls Tryz.prog 94 #[p,.string s] w fun e w'=>e=.returned (.tuple #[.agg #[.string f,.string d],.bool true])∧Below w.heap.size w w')) :
  Calls Tryz.prog 89 #[p,.string s,.string f,.string d] w fun e w'=>e=.returned (.bool true)∧Below w.heap.size w w':=by
 go_enter Tryz.func89,Tryz.ntmps89
 go_wp2_with (go_at_call 94;refine HS.out.mono ?_;rintro e w1 ⟨rfl,hb⟩;have HB:=Lib.hid hb;have K:=Blk.new w1 63 #[.string f,.string d];obtain ⟨b0,b1⟩:=cells2 K;have bl:=K.lt;clear hb K)
 go_ret
 exact ⟨rfl,below_alloc HB.out _⟩
theorem gawake_any (w:World) (hr:Res w):Calls Tryz.prog 93 #[] w fun e w'=>e=.returned (.bool true)∧Below w.heap.size w w':=by
 have HR:=Lib.hid hr
 have HE:=Lib.hid (gexample_any w hr)
 have HV:=Lib.hid (fun (W:World) (hr:Res W)=>gvalid_ok ⟨#[50]⟩ ⟨#[48]⟩ W (by decide) (by decide) t_2.err IsT.zero.err exb.err hr)
 have HLT:=Lib.hid (fun (W:World) (hr:Res W)=>lossLate_any ⟨#[50]⟩ ⟨#[48]⟩ ⟨#[48]⟩ W (by decide) (by decide) (by decide) hr (fun _ _=>by rw [valL_is exb,IsT.zero.val];exact ⟨fits_lit (by decide +kernel),fits_lit (by decide +kernel),fits_lit (by decide +kernel)⟩))
 have HAD:=Lib.hid (fun (W:World) (hr:Res W)=>lossAdd_any ⟨#[49]⟩ ⟨#[48]⟩ ⟨#[50]⟩ ⟨#[48]⟩ W (by decide) (by decide) (by decide) (by decide) hr)
 have HFT:=Lib.hid (fun (W:World) (hr:Res W)=>lossFits_any ⟨#[50]⟩ ⟨#[48]⟩ ⟨#[52]⟩ ⟨#[49,47,49,48]⟩ W (by decide) (by decide) (by decide) (by decide) hr)
 rw [lx_late] at HLT
 rw [lx_add] at HAD
 rw [lx_fits] at HFT
 have HAF:=Lib.hid (fun (W:World) (hr:Res W)=>dafter_any ⟨#[52]⟩ ⟨#[49,47,49,48]⟩ ⟨#[49]⟩ ⟨#[48]⟩ ⟨#[50]⟩ ⟨#[48]⟩ ⟨#[50]⟩ ⟨#[48]⟩ ⟨#[50]⟩ ⟨#[48]⟩ 0 true W hr (by omega) (by omega) HLT HAD HFT)
 change Hid (∀ W,Res W→Calls _ _ _ _ fun e w'=>e=.returned (.tuple #[(St.dir ⟨#[52]⟩ ⟨#[49,47,49,48]⟩ ⟨#[50]⟩ ⟨#[48]⟩ 1).val,.bool true])∧_) at HAF
 clear hr HLT HAD HFT
 have TS0:True:=trivial
 have TS1:True:=trivial
 go_enter Tryz.func93,Tryz.ntmps93
 go_wp2_with (go_at_call 87;refine HE.out.mono ?_;rintro e w1 ⟨⟨g,rfl,hg,hl⟩,hb⟩;have HL:=Lib.hid hl;have HG:=Lib.hid hg;have N1:=Lib.hid ((NW.refl HR.out).later hb);have HB1:=Lib.hid (below_alloc (Below.refl w1.heap.size w1) (.cells #[.string ⟨#[97]⟩] 9));clear hb hg hl)
 go_wp2_with (go_at_call 88;refine (gres_a g w1.heap.size 1 ⟨#[50]⟩ ⟨#[48]⟩ ⟨#[52]⟩ ⟨#[49,47,49,48]⟩ ⟨#[49]⟩ ⟨#[48]⟩ ⟨#[50]⟩ ⟨#[48]⟩ 0 1 (St.cur ⟨#[51]⟩ ⟨#[49,47,50]⟩ noneT 2 0) _ (N1.out.res.below HB1.out) (HL.out.later HB1.out) ((Blk.new w1 9 #[.string ⟨#[97]⟩]).cell 0) (Blk.new w1 9 #[.string ⟨#[97]⟩]).lt HV HAF).mono ?_;rintro e w2 ⟨rfl,hl2,hb2⟩;have HL2:=Lib.hid hl2;have hb3:=(N1.out.below.trans (HB1.out.mono N1.out.below.size)).trans (hb2.mono HG.out);have N2:=Lib.hid (show NW w w2 from ⟨hb3,HR.out.below hb3⟩);clear hb2 hb3 hl2)
 go_wp2_with (first
  | (clear TS0;go_at_call 89;refine (gspentq _ ⟨#[97]⟩ ⟨#[50]⟩ ⟨#[48]⟩ _ (Lib.hid (gspent_a g ⟨#[52]⟩ ⟨#[49,47,49,48]⟩ ⟨#[50]⟩ ⟨#[48]⟩ 1 (St.cur ⟨#[51]⟩ ⟨#[49,47,50]⟩ noneT 2 0) _ HL2.out))).mono ?_;rintro e w3 ⟨rfl,hb⟩;have HL2:=Lib.hid (HL2.out.later hb);have N2:=Lib.hid (N2.out.later hb);clear hb)
  | (clear TS1;go_at_call 89;refine (gspentq _ ⟨#[98]⟩ ⟨#[49]⟩ ⟨#[48]⟩ _ (Lib.hid (gspent_b g (St.dir ⟨#[52]⟩ ⟨#[49,47,49,48]⟩ ⟨#[50]⟩ ⟨#[48]⟩ 1) ⟨#[51]⟩ ⟨#[49,47,50]⟩ noneT 2 _ HL2.out))).mono ?_;rintro e w4 ⟨rfl,hb⟩;have HL2:=Lib.hid (HL2.out.later hb);have N2:=Lib.hid (N2.out.later hb);clear hb)
  | (go_at_call 90;refine (gcharges_a g ⟨#[52]⟩ ⟨#[49,47,49,48]⟩ ⟨#[50]⟩ ⟨#[48]⟩ 1 (St.cur ⟨#[51]⟩ ⟨#[49,47,50]⟩ noneT 2 0) _ HL2.out).mono ?_;rintro e w5 ⟨rfl,hb⟩;have N2:=Lib.hid (N2.out.later hb);clear hb))
 go_ret
 exact ⟨rfl,N2.out.below⟩
theorem stepL {w0:World} (z:LaterW w0) {W:World} (hb:Below z.W.heap.size z.W W):∃ x:LaterW w0,W=x.W:=⟨⟨W,z.h.trans (hb.mono z.h.size)⟩,rfl⟩
structure ZAt (k:Int) (A:Option Addr) (n c:Nat) (f l:ByteArray) (w W:World):Prop where
 k0:Blk W w.heap.size 107 #[.int .i64 k,.slice A n c,.string f,.string l]
 k1:Blk W (w.heap.size+1) 111 #[.slice none 0 0,.map none,.slice none 0 0]
 k2:Blk W (w.heap.size+2) 94 #[.pointer none,.pointer (some ⟨w.heap.size+1,0,none⟩)]
 nw:NW w W
theorem ZAt.new (k:Int) (A:Option Addr) (n c:Nat) (f l:ByteArray) {w:World} (hr:Res w):ZAt k A n c f l w (((w.alloc (.cells #[.int .i64 k,.slice A n c,.string f,.string l] 107)).alloc (.cells #[.slice none 0 0,.map none,.slice none 0 0] 111)).alloc (.cells #[.pointer none,.pointer (some ⟨w.heap.size+1,0,none⟩)] 94)):=by
 have k1:=Blk.new w 107 #[.int .i64 k,.slice A n c,.string f,.string l]
 have k2:=Blk.new (w.alloc (.cells #[.int .i64 k,.slice A n c,.string f,.string l] 107)) 111 #[.slice none 0 0,.map none,.slice none 0 0]
 have k3:=Blk.new ((w.alloc (.cells #[.int .i64 k,.slice A n c,.string f,.string l] 107)).alloc (.cells #[.slice none 0 0,.map none,.slice none 0 0] 111)) 94 #[.pointer none,.pointer (some ⟨w.heap.size+1,0,none⟩)]
 rw [World.size_alloc] at k2
 rw [World.size_alloc,World.size_alloc] at k3
 exact ⟨(k1.alloc _).alloc _,k2.alloc _,k3,(((NW.refl hr).alloc _).alloc _).alloc _⟩
theorem ZAt.later {k:Int} {A:Option Addr} {n c:Nat} {f l:ByteArray} {w W W':World} (h:ZAt k A n c f l w W) (hb:Below W.heap.size W W'):ZAt k A n c f l w W':=⟨h.k0.below hb h.k0.lt,h.k1.below hb h.k1.lt,h.k2.below hb h.k2.lt,h.nw.later hb⟩
theorem neqL0 (w:World):(binOp .neq 63 (.agg #[.string ⟨#[]⟩,.string ⟨#[]⟩]) (.agg #[.string ⟨#[]⟩,.string ⟨#[]⟩])).run Tryz.prog w=.ok (.bool false) w:=by kernel_rfl
theorem ledgerNone_any (k:Int) (A:Option Addr) (n c:Nat) (f l:ByteArray) (w:World) (hr:Res w) :
  Calls Tryz.prog 13 #[.agg #[.int .i64 k,.slice A n c,.string f,.string l]] w fun e w'=>e=.returned (.bool true)∧Below w.heap.size w w':=by
 have Z:=ZAt.new (k:=k) (A:=A) (n:=n) (c:=c) (f:=f) (l:=l) hr
 have NQ:=neqL0
 clear hr
 refine (callsIn_wide (n:=6)).1 ?_
 have hmx:Tryz.prog.follows .mixedOrders=true:=by kernel_rfl
 refine callsIn_of_wp Tryz.func13 rfl trivial ?_ rfl
 simp only [Tryz.ntmps13,List.size_toArray,List.length_cons,List.length_nil,Nat.reduceAdd,Nat.reduceSub,Array.replicate_succ,Array.replicate_zero,List.push_toArray,List.append_toArray,List.nil_append,List.cons_append]
 gi_wp2
 generalize ((w.alloc (.cells #[.int .i64 k,.slice A n c,.string f,.string l] 107)).alloc (.cells #[.slice none 0 0,.map none,.slice none 0 0] 111)).alloc (.cells #[.pointer none,.pointer (some ⟨w.heap.size+1,0,none⟩)] 94)=w3 at *
 have ZB:=Lib.hid (fun z:LaterW w3=>Z.later z.h)
 obtain ⟨z0,hz0⟩:∃ z:LaterW w3,w3=z.W:=⟨⟨w3,Below.refl _ _⟩,rfl⟩
 clear Z
 refine wpIn_loop_rounds 3 ?_
 rw [show w3=z0.W from hz0]
 clear hz0
 rw [roundsIn_succ]
 obtain ⟨q0,q1⟩:=cells2 (ZB.out z0).k2
 have ql:=(ZB.out z0).k2.lt
 have TS0:True:=trivial
 gi_wp2_with (clear TS0;gi_at_call 94;refine (callsIn_wide.2 (gspent_nil _ _ _ (.inl rfl))).mono ?_;rintro e w9 ⟨rfl,hb9⟩;clear q0 q1 ql;obtain ⟨za0,rfl⟩:=stepL z0 hb9;clear hb9)
 have K6:=Blk.new za0.W 63 #[.string ⟨#[]⟩,.string ⟨#[]⟩]
 have hb9:=below_alloc (Below.refl za0.W.heap.size za0.W) (.cells #[.string ⟨#[]⟩,.string ⟨#[]⟩] 63)
 obtain ⟨zb0,hz⟩:=stepL za0 hb9
 rw [hz] at K6 ⊢
 clear hz hb9
 generalize za0.W.heap.size=g6 at *
 have v0:∀ x:SameAt zb0.W (fun k=>k < zb0.W.heap.size),x.W.cell? ⟨w.heap.size,1,none⟩=some (.slice A n c):=fun x=>x.cell (ZB.out zb0).k0.lt ((ZB.out zb0).k0.cell 1)
 have v1:∀ x:SameAt zb0.W (fun k=>k < zb0.W.heap.size),x.W.cell? ⟨w.heap.size,2,none⟩=some (.string f):=fun x=>x.cell (ZB.out zb0).k0.lt ((ZB.out zb0).k0.cell 2)
 have v2:∀ x:SameAt zb0.W (fun k=>k < zb0.W.heap.size),x.W.cell? ⟨w.heap.size,3,none⟩=some (.string l):=fun x=>x.cell (ZB.out zb0).k0.lt ((ZB.out zb0).k0.cell 3)
 have v3:∀ x:SameAt zb0.W (fun k=>k < zb0.W.heap.size),x.W.cell? ⟨g6,0,none⟩=some (.string ⟨#[]⟩):=fun x=>x.cell K6.lt (K6.cell 0)
 have v4:∀ x:SameAt zb0.W (fun k=>k < zb0.W.heap.size),x.W.cell? ⟨g6,1,none⟩=some (.string ⟨#[]⟩):=fun x=>x.cell K6.lt (K6.cell 1)
 refine wpIn_stage (IsSame zb0.W (fun k=>k < zb0.W.heap.size)) [0,1,2,3,4,6,7,8,9,10,11,12,14,15,16,17,18,19,20,21,22,23,24,25,27,28,29,30,33,34,35,36,38,39,40,41,43,44] [] hmx (by kernel_rfl) (isSame_of fun _ _=>rfl) ?_
 change wpStage _ _ _ _ _ _ _ _ (40+5) _ _ _
 refine stage_reads [0,1,2,3,4] 40 _ _ (by kernel_rfl) ?_
 change wpQuietIn _ _ _ _ (fun W'=>∃ x:SameAt zb0.W (fun k=>k < zb0.W.heap.size),W'=x.W) _ _ _
 simp only [pick_cons,pick_nil,List.getElem?_cons_zero,List.getElem?_cons_succ,Option.elim_some]
 repeat (gi_big_quiet_step (fail))
 refine wpQuietIn_nil ?_
 obtain ⟨zd,hzd⟩:=stepL zb0 (below_drewM zb0.W)
 have HS:=Lib.hid (below_drewM zb0.W)
 rw [hzd] at HS ⊢
 clear hzd
 refine stage_one 5 (by kernel_rfl) rfl ?_
 gi_wp2_with (gi_at_call 91;refine (callsIn_wide.2 (gfits_nil _ _ _ _ _ (.inl rfl))).mono ?_;rintro e w9 ⟨rfl,hb9⟩;have HS:=Lib.hid (HS.out.trans (hb9.mono HS.out.size));obtain ⟨zd,rfl⟩:=stepL zd hb9;clear hb9)
 refine stage_post (isSame_below HS.out (fun k hk=>hk)) ?_
 change wpStage _ _ _ _ _ _ _ _ (32+7) _ _ _
 refine stage_reads [6,7,8,9,10,11,12] 32 _ _ (by kernel_rfl) ?_
 change wpQuietIn _ _ _ _ (fun W'=>∃ x:SameAt zb0.W (fun k=>k < zb0.W.heap.size),W'=x.W) _ _ _
 simp only [pick_cons,pick_nil,List.getElem?_cons_zero,List.getElem?_cons_succ,Option.elim_some]
 repeat (gi_big_quiet_step (fail))
 refine wpQuietIn_nil ?_
 refine stage_one 13 (by kernel_rfl) rfl ?_
 gi_wp2_with (gi_at_call 88;refine (callsIn_wide.2 (gres_nil _ _ _ _ _ (.inl rfl))).mono ?_;rintro e w9 ⟨rfl,hb9⟩;have HS:=Lib.hid (HS.out.trans (hb9.mono HS.out.size));obtain ⟨zd,rfl⟩:=stepL zd hb9;clear hb9)
 refine stage_post (isSame_below HS.out (fun k hk=>hk)) ?_
 change wpStage _ _ _ _ _ _ _ _ (19+12) _ _ _
 refine stage_reads [14,15,16,17,18,19,20,21,22,23,24,25] 19 _ _ (by kernel_rfl) ?_
 change wpQuietIn _ _ _ _ (fun W'=>∃ x:SameAt zb0.W (fun k=>k < zb0.W.heap.size),W'=x.W) _ _ _
 simp only [pick_cons,pick_nil,List.getElem?_cons_zero,List.getElem?_cons_succ,Option.elim_some]
 repeat (gi_big_quiet_step (fail))
 refine wpQuietIn_nil ?_
 refine stage_one 26 (by kernel_rfl) rfl ?_
 gi_wp2_with (gi_at_call 90;refine (callsIn_wide.2 (gcharges_nil _ _ _ (.inl rfl))).mono ?_;rintro e w9 ⟨rfl,rfl⟩)
 refine stage_post (isSame_below HS.out (fun k hk=>hk)) ?_
 change wpStage _ _ _ _ _ _ _ _ (14+4) _ _ _
 refine stage_reads [27,28,29,30] 14 _ _ (by kernel_rfl) ?_
 change wpQuietIn _ _ _ _ (fun W'=>∃ x:SameAt zb0.W (fun k=>k < zb0.W.heap.size),W'=x.W) _ _ _
 simp only [pick_cons,pick_nil,List.getElem?_cons_zero,List.getElem?_cons_succ,Option.elim_some]
 repeat (gi_big_quiet_step (fail))
 refine wpQuietIn_nil ?_
 refine stage_one 31 (by kernel_rfl) rfl ?_
 gi_wp2_with (gi_at_call 95;refine (callsIn_wide.2 (gaccounts_nil _ _ (.inl rfl))).mono ?_;rintro e w9 ⟨rfl,rfl⟩)
 refine stage_post (isSame_below HS.out (fun k hk=>hk)) ?_
 refine stage_one 32 (by kernel_rfl) rfl ?_
 gi_wp2
 refine stage_post (isSame_below HS.out (fun k hk=>hk)) ?_
 change wpStage _ _ _ _ _ _ _ _ (4+8) _ _ _
 refine stage_reads [33,34,35,36,38,39,40,41] 4 _ _ (by kernel_rfl) ?_
 change wpQuietIn _ _ _ _ (fun W'=>∃ x:SameAt zb0.W (fun k=>k < zb0.W.heap.size),W'=x.W) _ _ _
 simp only [pick_cons,pick_nil,List.getElem?_cons_zero,List.getElem?_cons_succ,Option.elim_some]
 repeat (gi_big_quiet_step (fail))
 refine wpQuietIn_nil ?_
 refine stage_one 37 (by kernel_rfl) rfl ?_
 gi_wp2_with (gi_at_call 96;refine (callsIn_wide.2 (gcopy_nil _ _ (.inl rfl))).mono ?_;rintro e w9 ⟨⟨gn,rfl,KN⟩,hb9⟩;have HS:=Lib.hid (HS.out.trans (hb9.mono HS.out.size));obtain ⟨zd,rfl⟩:=stepL zd hb9;clear hb9)
 refine stage_post (isSame_below HS.out (fun k hk=>hk)) ?_
 refine stage_one 42 (by kernel_rfl) rfl ?_
 gi_wp2_with (gi_at_call 91;refine (callsIn_wide.2 (gfits_nil _ _ _ _ _ (.inr ⟨_,rfl,KN⟩))).mono ?_;rintro e w9 ⟨rfl,hb9⟩;have HS:=Lib.hid (HS.out.trans (hb9.mono HS.out.size));obtain ⟨zd,rfl⟩:=stepL zd hb9;clear hb9)
 refine stage_post (isSame_below HS.out (fun k hk=>hk)) ?_
 change wpStage _ _ _ _ _ _ _ _ (0+2) _ _ _
 refine stage_reads [43,44] 0 _ _ (by kernel_rfl) ?_
 change wpQuietIn _ _ _ _ (fun W'=>∃ x:SameAt zb0.W (fun k=>k < zb0.W.heap.size),W'=x.W) _ _ _
 simp only [pick_cons,pick_nil,List.getElem?_cons_zero,List.getElem?_cons_succ,Option.elim_some]
 repeat (gi_big_quiet_step (fail))
 refine wpQuietIn_nil ?_
 refine stage_done (by kernel_rfl) ?_
 clear v0 v1 v2 v3 v4 K6 KN
 obtain ⟨zc0,hz⟩:∃ x:LaterW w3,x=zd:=⟨_,rfl⟩
 rw [← hz]
 clear hz HS
 gi_wp2
 rw [roundsIn_succ]
 obtain ⟨q0,q1⟩:=cells2 (ZB.out zc0).k2
 have ql:=(ZB.out zc0).k2.lt
 have TS1:True:=trivial
 gi_wp2_with (clear TS1;gi_at_call 94;refine (callsIn_wide.2 (gspent_nil _ _ _ (.inr ⟨_,rfl,(ZB.out zc0).k1⟩))).mono ?_;rintro e w9 ⟨rfl,hb9⟩;clear q0 q1 ql;obtain ⟨za1,rfl⟩:=stepL zc0 hb9;clear hb9)
 have K6:=Blk.new za1.W 63 #[.string ⟨#[]⟩,.string ⟨#[]⟩]
 have hb9:=below_alloc (Below.refl za1.W.heap.size za1.W) (.cells #[.string ⟨#[]⟩,.string ⟨#[]⟩] 63)
 obtain ⟨zb1,hz⟩:=stepL za1 hb9
 rw [hz] at K6 ⊢
 clear hz hb9
 generalize za1.W.heap.size=g6 at *
 have v0:∀ x:SameAt zb1.W (fun k=>k < zb1.W.heap.size),x.W.cell? ⟨w.heap.size,1,none⟩=some (.slice A n c):=fun x=>x.cell (ZB.out zb1).k0.lt ((ZB.out zb1).k0.cell 1)
 have v1:∀ x:SameAt zb1.W (fun k=>k < zb1.W.heap.size),x.W.cell? ⟨w.heap.size,2,none⟩=some (.string f):=fun x=>x.cell (ZB.out zb1).k0.lt ((ZB.out zb1).k0.cell 2)
 have v2:∀ x:SameAt zb1.W (fun k=>k < zb1.W.heap.size),x.W.cell? ⟨w.heap.size,3,none⟩=some (.string l):=fun x=>x.cell (ZB.out zb1).k0.lt ((ZB.out zb1).k0.cell 3)
 have v3:∀ x:SameAt zb1.W (fun k=>k < zb1.W.heap.size),x.W.cell? ⟨g6,0,none⟩=some (.string ⟨#[]⟩):=fun x=>x.cell K6.lt (K6.cell 0)
 have v4:∀ x:SameAt zb1.W (fun k=>k < zb1.W.heap.size),x.W.cell? ⟨g6,1,none⟩=some (.string ⟨#[]⟩):=fun x=>x.cell K6.lt (K6.cell 1)
 refine wpIn_stage (IsSame zb1.W (fun k=>k < zb1.W.heap.size)) [0,1,2,3,4,6,7,8,9,10,11,12,14,15,16,17,18,19,20,21,22,23,24,25,27,28,29,30,33,34,35,36,38,39,40,41,43,44] [] hmx (by kernel_rfl) (isSame_of fun _ _=>rfl) ?_
 change wpStage _ _ _ _ _ _ _ _ (40+5) _ _ _
 refine stage_reads [0,1,2,3,4] 40 _ _ (by kernel_rfl) ?_
 change wpQuietIn _ _ _ _ (fun W'=>∃ x:SameAt zb1.W (fun k=>k < zb1.W.heap.size),W'=x.W) _ _ _
 simp only [pick_cons,pick_nil,List.getElem?_cons_zero,List.getElem?_cons_succ,Option.elim_some]
 repeat (gi_big_quiet_step (fail))
 refine wpQuietIn_nil ?_
 obtain ⟨zd,hzd⟩:=stepL zb1 (below_drewM zb1.W)
 have HS:=Lib.hid (below_drewM zb1.W)
 rw [hzd] at HS ⊢
 clear hzd
 refine stage_one 5 (by kernel_rfl) rfl ?_
 gi_wp2_with (gi_at_call 91;refine (callsIn_wide.2 (gfits_nil _ _ _ _ _ (.inr ⟨_,rfl,(ZB.out zd).k1⟩))).mono ?_;rintro e w9 ⟨rfl,hb9⟩;have HS:=Lib.hid (HS.out.trans (hb9.mono HS.out.size));obtain ⟨zd,rfl⟩:=stepL zd hb9;clear hb9)
 refine stage_post (isSame_below HS.out (fun k hk=>hk)) ?_
 change wpStage _ _ _ _ _ _ _ _ (32+7) _ _ _
 refine stage_reads [6,7,8,9,10,11,12] 32 _ _ (by kernel_rfl) ?_
 change wpQuietIn _ _ _ _ (fun W'=>∃ x:SameAt zb1.W (fun k=>k < zb1.W.heap.size),W'=x.W) _ _ _
 simp only [pick_cons,pick_nil,List.getElem?_cons_zero,List.getElem?_cons_succ,Option.elim_some]
 repeat (gi_big_quiet_step (fail))
 refine wpQuietIn_nil ?_
 refine stage_one 13 (by kernel_rfl) rfl ?_
 gi_wp2_with (gi_at_call 88;refine (callsIn_wide.2 (gres_nil _ _ _ _ _ (.inr ⟨_,rfl,(ZB.out zd).k1⟩))).mono ?_;rintro e w9 ⟨rfl,hb9⟩;have HS:=Lib.hid (HS.out.trans (hb9.mono HS.out.size));obtain ⟨zd,rfl⟩:=stepL zd hb9;clear hb9)
 refine stage_post (isSame_below HS.out (fun k hk=>hk)) ?_
 change wpStage _ _ _ _ _ _ _ _ (19+12) _ _ _
 refine stage_reads [14,15,16,17,18,19,20,21,22,23,24,25] 19 _ _ (by kernel_rfl) ?_
 change wpQuietIn _ _ _ _ (fun W'=>∃ x:SameAt zb1.W (fun k=>k < zb1.W.heap.size),W'=x.W) _ _ _
 simp only [pick_cons,pick_nil,List.getElem?_cons_zero,List.getElem?_cons_succ,Option.elim_some]
 repeat (gi_big_quiet_step (fail))
 refine wpQuietIn_nil ?_
 refine stage_one 26 (by kernel_rfl) rfl ?_
 gi_wp2_with (gi_at_call 90;refine (callsIn_wide.2 (gcharges_nil _ _ _ (.inr ⟨_,rfl,(ZB.out zd).k1⟩))).mono ?_;rintro e w9 ⟨rfl,rfl⟩)
 refine stage_post (isSame_below HS.out (fun k hk=>hk)) ?_
 change wpStage _ _ _ _ _ _ _ _ (14+4) _ _ _
 refine stage_reads [27,28,29,30] 14 _ _ (by kernel_rfl) ?_
 change wpQuietIn _ _ _ _ (fun W'=>∃ x:SameAt zb1.W (fun k=>k < zb1.W.heap.size),W'=x.W) _ _ _
 simp only [pick_cons,pick_nil,List.getElem?_cons_zero,List.getElem?_cons_succ,Option.elim_some]
 repeat (gi_big_quiet_step (fail))
 refine wpQuietIn_nil ?_
 refine stage_one 31 (by kernel_rfl) rfl ?_
 gi_wp2_with (gi_at_call 95;refine (callsIn_wide.2 (gaccounts_nil _ _ (.inr ⟨_,rfl,(ZB.out zd).k1⟩))).mono ?_;rintro e w9 ⟨rfl,rfl⟩)
 refine stage_post (isSame_below HS.out (fun k hk=>hk)) ?_
 refine stage_one 32 (by kernel_rfl) rfl ?_
 gi_wp2
 refine stage_post (isSame_below HS.out (fun k hk=>hk)) ?_
 change wpStage _ _ _ _ _ _ _ _ (4+8) _ _ _
 refine stage_reads [33,34,35,36,38,39,40,41] 4 _ _ (by kernel_rfl) ?_
 change wpQuietIn _ _ _ _ (fun W'=>∃ x:SameAt zb1.W (fun k=>k < zb1.W.heap.size),W'=x.W) _ _ _
 simp only [pick_cons,pick_nil,List.getElem?_cons_zero,List.getElem?_cons_succ,Option.elim_some]
 repeat (gi_big_quiet_step (fail))
 refine wpQuietIn_nil ?_
 refine stage_one 37 (by kernel_rfl) rfl ?_
 gi_wp2_with (gi_at_call 96;refine (callsIn_wide.2 (gcopy_nil _ _ (.inr ⟨_,rfl,(ZB.out zd).k1⟩))).mono ?_;rintro e w9 ⟨⟨gn,rfl,KN⟩,hb9⟩;have HS:=Lib.hid (HS.out.trans (hb9.mono HS.out.size));obtain ⟨zd,rfl⟩:=stepL zd hb9;clear hb9)
 refine stage_post (isSame_below HS.out (fun k hk=>hk)) ?_
 refine stage_one 42 (by kernel_rfl) rfl ?_
 gi_wp2_with (gi_at_call 91;refine (callsIn_wide.2 (gfits_nil _ _ _ _ _ (.inr ⟨_,rfl,KN⟩))).mono ?_;rintro e w9 ⟨rfl,hb9⟩;have HS:=Lib.hid (HS.out.trans (hb9.mono HS.out.size));obtain ⟨zd,rfl⟩:=stepL zd hb9;clear hb9)
 refine stage_post (isSame_below HS.out (fun k hk=>hk)) ?_
 change wpStage _ _ _ _ _ _ _ _ (0+2) _ _ _
 refine stage_reads [43,44] 0 _ _ (by kernel_rfl) ?_
 change wpQuietIn _ _ _ _ (fun W'=>∃ x:SameAt zb1.W (fun k=>k < zb1.W.heap.size),W'=x.W) _ _ _
 simp only [pick_cons,pick_nil,List.getElem?_cons_zero,List.getElem?_cons_succ,Option.elim_some]
 repeat (gi_big_quiet_step (fail))
 refine wpQuietIn_nil ?_
 refine stage_done (by kernel_rfl) ?_
 clear v0 v1 v2 v3 v4 K6 KN
 obtain ⟨zc1,hz⟩:∃ x:LaterW w3,x=zd:=⟨_,rfl⟩
 rw [← hz]
 clear hz HS
 gi_wp2
 rw [roundsIn_succ]
 gi_wp2_with (gi_at_call 93;refine (callsIn_wide.2 (gawake_any _ (ZB.out zc1).nw.res)).mono ?_;rintro e w9 ⟨rfl,hb9⟩;obtain ⟨z9,rfl⟩:=stepL zc1 hb9;clear hb9)
 refine bodyPost_ret (results_tmp rfl _ _ _) rfl ?_
 exact ⟨rfl,(ZB.out z9).nw.below⟩
end Go.Proofs.YtigapglmipmbeaaGreatDoor
namespace Go.Proofs.YtigapglmipmbeaaGreatDoor
open Go.ChangeShapes Go.WideShapes Go.ChangeAt Go.RowKit
theorem cellsNum:Tryz.prog.cellsOf 23=1:=by kernel_rfl
section
variable {H:Type} {enc:TypeId × Value→H}
end
end Go.Proofs.YtigapglmipmbeaaGreatDoor
namespace Go.Proofs.YtigapglmipmbeaaGreatDoor
open Go.RowKit
structure Kind (α:Type) where
 ty:TypeId
 k:Nat
 is:(C:TypeId→Nat→Prop)→World→List Value→α→Prop
 inner:List TypeId
 len:∀ {C w l x},is C w l x→l.length=k
 keep:∀ {C C':TypeId→Nat→Prop} {w w':World} {l x},is C w l x→(∀ E b,E∈inner→b < w.heap.size→C E b→C' E b∧w'.heap[b]?=w.heap[b]?)→is C' w' l x
section
variable {α:Type} {K:Kind α} {C C':TypeId→Nat→Prop} {w w':World} {v:Value} {xs:List α}
end
def Own (base:Nat) (w:World) (E:TypeId) (b:Nat):Prop:=base≤b∧∃ cur,w.heap[b]?=some (.cells cur E (0,0))
def Any (_:TypeId) (_:Nat):Prop:=True
section
variable {α:Type} {K:Kind α} {base:Nat} {w w':World} {v v':Value} {xs:List α}
theorem own_keep {base:Nat} {w w':World} {row:Option Nat} (hg:w.grownBy w' row) {E:TypeId} {b:Nat} (hE:∀ r,row=some r→∀ cur,w.heap[r]?≠some (.cells cur E (0,0))) (h:Own base w E b):Own base w' E b∧w'.heap[b]?=w.heap[b]?:=by
 obtain ⟨hb,cur,hc⟩:=h
 have hs:w'.heap[b]?=w.heap[b]?:=hg.block b (Array.getElem?_eq_some_iff.1 hc).1 fun e=>hE b e.symm cur hc
 exact ⟨⟨hb,cur,hs.trans hc⟩,hs⟩
end
open Go.ChangeShapes
section
variable {H:Type} {enc:TypeId × Value→H} {w:World} {base:Nat} {sp:Nat→Bool} {held:Bool} {fuel:Nat}
end
end Go.Proofs.YtigapglmipmbeaaGreatDoor
namespace Go.Proofs.YtigapglmipmbeaaGreatDoor
open Go.RowKit Go.ChangeShapes Go.WideShapes Go.ChangeAt
theorem laidOutD:laidOutB Tryz.prog=true:=by kernel_rfl
section
variable {H:Type} {enc:TypeId × Value→H} {w:World} {base:Nat} {sp:Nat→Bool} {held:Bool} {fuel:Nat}
theorem trod_below {v:Value} {t:TypeId} {d:DataW H} {p:List MemPlace} (h:DataW.Trod enc Tryz.prog w base sp held t v d p):∀ x∈p,x.block < w.heap.size:=by
 obtain ⟨m,hm⟩:=h
 exact DataW.trod_lt m _ _ _ hm
end
theorem cellsAct:Tryz.prog.cellsOf 107=4:=by kernel_rfl
theorem cellsIntK:Tryz.prog.cellsOf 3=1:=by kernel_rfl
theorem cellsStrsK:Tryz.prog.cellsOf 24=1:=by kernel_rfl
theorem cellsCharge:Tryz.prog.cellsOf 97=2:=by kernel_rfl
section
variable {H:Type} {enc:TypeId × Value→H}
theorem open_act {W:World} {base b2:Nat} {sp:Nat→Bool} {held:Bool} {v:Value} {d:DataW H} {p:List MemPlace} (hok:Value.okWide Tryz.prog W .any base 107 v) (h:DataW.Trod enc Tryz.prog W b2 sp held 107 v d p) :
  ∃ (k:Int) (A:Option Addr) (n c:Nat) (f g:ByteArray),v=.agg #[.int .i64 k,.slice A n c,.string f,.string g]:=by
 obtain ⟨cs,rfl,hsz⟩:=okWide_struct Tryz.underlying107 hok
 rw [cellsAct] at hsz
 obtain ⟨l⟩:=cs
 match l,hsz with
 | [c0,c1,c2,c3],_ =>
  obtain ⟨fuel,hf⟩:=h
  obtain ⟨y0,y1,y2,m,_,_,hy0,hy1,hy2⟩:=Go.Deep.trod_struct3 Tryz.underlying107 hf
  simp [Value.cells,cellsIntK,cellsStrsK,cellsCharge] at hy0 hy1 hy2
  obtain ⟨a,e0,_,_⟩:=DataW.trod_int Tryz.underlying3 hy0
  obtain ⟨A,n,c,e1⟩:=Go.Joins.slice_form Tryz.underlying24 hy1
  obtain ⟨z0,z1,m2,_,_,hz0,hz1⟩:=trod_struct2 Tryz.underlying97 hy2
  simp [cellsNum] at hz0 hz1
  obtain ⟨f,e2,_,_⟩:=DataW.trod_string Tryz.underlying23 hz0
  obtain ⟨g,e3,_,_⟩:=DataW.trod_string Tryz.underlying23 hz1
  simp only [List.cons.injEq,and_true] at e0 e1 e2 e3
  subst e0 e1 e2 e3
  exact ⟨a,A,n,c,f,g,rfl⟩
end
end Go.Proofs.YtigapglmipmbeaaGreatDoor
namespace Go.Proofs.YtigapglmipmbeaaGreatDoor
open Go
theorem enters {P : Program} {rest : List (List Char)} (h : behindMainWord (wordsSigns P.initOrder.toList) = "cut".toList :: rest) (h1 : P.laysLater = false) (h2 : P.bearsReflect = false) (h3 : P.doorFits [] = true) : P.mayEnter = true := by
 have e : stripLifts liftWords ("cut".toList :: rest) = ([], "cut".toList :: rest) := by kernel_rfl
 unfold Program.mayEnter
 rw [h]
 dsimp only
 rw [e]
 simp [h1,h2,h3]
theorem cons_of_head {α:Type} {l:List α} {x:α} (h:l.head?=some x):l=x::l.tail:=by
 cases l with
 | nil=>cases h
 | cons y t=>cases h;rfl
theorem doorFitsF:Tryz.prog.doorFits []=true:=by kernel_rfl
theorem headWordF : (behindMainWord (wordsSigns Tryz.prog.initOrder.toList)).head? = some "cut".toList := by kernel_rfl
theorem laysLaterF:Tryz.prog.laysLater=false:=by kernel_rfl
theorem bearsReflectF:Tryz.prog.bearsReflect=false:=by kernel_rfl
theorem mayEnterF:Tryz.prog.mayEnter=true:=enters (cons_of_head headWordF) laysLaterF bearsReflectF doorFitsF
theorem mainIsF : Tryz.prog.mainIs = some (true, "5395951699d0e7c088c16c506ed30de6925104505e2026abbc93d9abbfe2aced".toList) := by kernel_rfl
theorem looksF:true=Tryz.prog.looks []:=by kernel_rfl
end Go.Proofs.YtigapglmipmbeaaGreatDoor
