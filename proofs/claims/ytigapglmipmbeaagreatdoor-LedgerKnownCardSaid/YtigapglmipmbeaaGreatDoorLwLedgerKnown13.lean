/- The ledger: least, half, after of an account that adds curves; what is spent on it (printed by mkledg.py). The reference of chapter 10: at. The reference of chapter 10: both. The reference of chapter 10: then. Curves of canonical texts: sums, sizes, what Add and None come to. Comparing curves. moment.Fits: the walk. moment.Of: the walk. moment.To: the walk (printed by mkmto.py). -/
import Derived.Test.YtigapglmipmbeaaGreatDoorLwLedgerKnown12
import Derived.Test.YtigapglmipmbeaaGreatDoorLwLedgerKnown10
import Derived.Test.YtigapglmipmbeaaGreatDoorLwLedgerKnown09
set_option maxRecDepth 100000
set_option maxHeartbeats 16000000
namespace Go.Proofs.YtigapglmipmbeaaGreatDoor
open Go.RowKit Go.Shelf
open Lim
attribute [local go_sem] Oper.semAt_some wide_fn
theorem stepG {w0:World} (z:LaterW w0) {W:World} (hb:Below z.W.heap.size z.W W):∃ x:LaterW w0,W=x.W:=⟨⟨W,z.h.trans (hb.mono z.h.size)⟩,rfl⟩
theorem shareG {A B:Type} (P:A→B→Prop) {T:Prop} (G:A→B→Prop) (main:(∀ a b,P a b→G a b)→T) (rest:∀ a b,P a b→G a b):T:=main rest
theorem gleast_any (x u:ByteArray) (w:World) (hr:Res w) (HM:Hid (∀ W,Res W→Calls Tryz.prog 143 #[.string x,.string ⟨#[49]⟩] W fun e w'=>e=.returned (.tuple #[.string u,.int .i64 0])∧Below W.heap.size W w')) :
  Calls Tryz.prog 385 #[.string x] w fun e w'=>e=.returned (.string u)∧Below w.heap.size w w':=by
 go_enter Tryz.func385,Tryz.ntmps385
 go_wp2_with (go_at_call 143;refine (HM.out _ hr).mono ?_;rintro e w1 ⟨rfl,hb⟩;have HB:=Lib.hid hb;clear hb)
 go_ret
 exact ⟨rfl,HB.out⟩
theorem ghalf_any (lf ld:ByteArray) (c:CT) (n:Int) (x y:ByteArray) (w:World) (hr:Res w)
  (HA:Hid (∀ W,Res W→Calls Tryz.prog 107 #[.string x,.string x] W fun e w'=>e=.returned (.tuple #[.string y,.int .i64 0])∧Below W.heap.size W w'))
  (HC:Hid (∀ W,Res W→Calls Tryz.prog 116 #[.string y,.string ld] W fun e w'=>e=.returned (.tuple #[.int .i64 (-1),.int .i64 0])∧Below W.heap.size W w')) :
  Calls Tryz.prog 386 #[.agg #[.string lf,.string ld,.string (c 0),.string (c 1),.string (c 2),.string (c 3),.string (c 4),.string (c 5),.string (c 6),.string (c 7),.int .i64 2,.int .i64 n],.string x] w fun e w'=>e=.returned (.bool true)∧Below w.heap.size w w':=by
 have HK:=Lib.hid (Blk.new w 209 #[.string lf,.string ld,.string (c 0),.string (c 1),.string (c 2),.string (c 3),.string (c 4),.string (c 5),.string (c 6),.string (c 7),.int .i64 2,.int .i64 n])
 have HB0:=Lib.hid (below_alloc (Below.refl w.heap.size w) (.cells #[.string lf,.string ld,.string (c 0),.string (c 1),.string (c 2),.string (c 3),.string (c 4),.string (c 5),.string (c 6),.string (c 7),.int .i64 2,.int .i64 n] 209))
 have HR:=Lib.hid hr
 clear hr
 go_enter Tryz.func386,Tryz.ntmps386
 go_wp2_with (first
  | (go_at_call 107;refine (HA.out _ (HR.out.below HB0.out)).mono ?_;rintro e w1 ⟨rfl,hb⟩;have K:=HK.out.below hb HK.out.lt;have b1:w1.cell? ⟨w.heap.size,1,none⟩=some (.string ld):=K.cell 1;have bl:=K.lt;have HB1:=Lib.hid (HB0.out.trans (hb.mono HB0.out.size));clear hb K)
  | (go_at_call 116;refine (HC.out _ (HR.out.below HB1.out)).mono ?_;rintro e w2 ⟨rfl,hb⟩;have HB2:=Lib.hid (HB1.out.trans (hb.mono HB1.out.size));clear hb))
 go_ret
 exact ⟨rfl,HB2.out⟩
theorem gcafter (lf ld cf cl dl dz u y1 y2:ByteArray) (c k t:CT) (w:World) (hr:Res w)
  (HOF:Hid (∀ W,Res W→Calls Tryz.prog 62 #[.string cf,.string cl] W fun e w'=>e=.returned (.tuple #[.agg #[.string (k 0),.string (k 1),.string (k 2),.string (k 3),.string (k 4),.string (k 5),.string (k 6),.string (k 7)],.int .i64 0])∧Below W.heap.size W w'))
  (HAD:Hid (∀ W,Res W→Calls Tryz.prog 58 #[.agg #[.string (c 0),.string (c 1),.string (c 2),.string (c 3),.string (c 4),.string (c 5),.string (c 6),.string (c 7)],.agg #[.string (k 0),.string (k 1),.string (k 2),.string (k 3),.string (k 4),.string (k 5),.string (k 6),.string (k 7)]] W fun e w'=>e=.returned (.tuple #[.agg #[.string (t 0),.string (t 1),.string (t 2),.string (t 3),.string (t 4),.string (t 5),.string (t 6),.string ⟨#[48]⟩],.int .i64 0])∧Below W.heap.size W w'))
  (HTO:Hid (∀ W,Res W→Calls Tryz.prog 53 #[.agg #[.string (t 0),.string (t 1),.string (t 2),.string (t 3),.string (t 4),.string (t 5),.string (t 6),.string ⟨#[48]⟩],.int .i64 2,.string lf] W fun e w'=>e=.returned (.tuple #[.agg #[.string y1,.string dl],.int .i64 0])∧Below W.heap.size W w'))
  (HLS:Hid (∀ W,Res W→Calls Tryz.prog 385 #[.string ⟨#[48]⟩] W fun e w'=>e=.returned (.string u)∧Below W.heap.size W w'))
  (HLT:Hid (∀ W,Res W→Calls Tryz.prog 74 #[.agg #[.string lf,.string ⟨#[48]⟩],.string u] W fun e w'=>e=.returned (.tuple #[.agg #[.string y2,.string dz],.int .i64 0])∧Below W.heap.size W w'))
  (HH1:Hid (∀ W,Res W→Calls Tryz.prog 386 #[.agg #[.string lf,.string ld,.string (t 0),.string (t 1),.string (t 2),.string (t 3),.string (t 4),.string (t 5),.string (t 6),.string ⟨#[48]⟩,.int .i64 2,.int .i64 1],.string dl] W fun e w'=>e=.returned (.bool true)∧Below W.heap.size W w'))
  (HH2:Hid (∀ W,Res W→Calls Tryz.prog 386 #[.agg #[.string lf,.string ld,.string (t 0),.string (t 1),.string (t 2),.string (t 3),.string (t 4),.string (t 5),.string (t 6),.string ⟨#[48]⟩,.int .i64 2,.int .i64 1],.string dz] W fun e w'=>e=.returned (.bool true)∧Below W.heap.size W w')) :
  Calls Tryz.prog 382 #[.agg #[.string lf,.string ld,.string (c 0),.string (c 1),.string (c 2),.string (c 3),.string (c 4),.string (c 5),.string (c 6),.string (c 7),.int .i64 2,.int .i64 0],.agg #[.string cf,.string cl]] w fun e w'=>e=.returned (.tuple #[.iface 209 (.agg #[.string lf,.string ld,.string (t 0),.string (t 1),.string (t 2),.string (t 3),.string (t 4),.string (t 5),.string (t 6),.string ⟨#[48]⟩,.int .i64 2,.int .i64 1]),.bool true])∧Below w.heap.size w w':=by
 have H0:=Lib.hid (VAt.new (w:=w) (t1:=209) (t2:=97) (c1:=#[.string lf,.string ld,.string (c 0),.string (c 1),.string (c 2),.string (c 3),.string (c 4),.string (c 5),.string (c 6),.string (c 7),.int .i64 2,.int .i64 0]) (c2:=#[.string cf,.string cl]) hr)
 obtain ⟨q0,q1⟩:=cells2 H0.out.b1
 have ql:=H0.out.b1.lt
 have HR:=Lib.hid hr
 have hmx:Tryz.prog.follows .mixedOrders=true:=by kernel_rfl
 clear hr
 go_enter Tryz.func382,Tryz.ntmps382
 go_wp2_with (go_at_call 62;refine (HOF.out _ H0.out.nw.res).mono ?_;rintro e w1 ⟨rfl,hb⟩;have H1:=Lib.hid ((H0.out.later hb).alloc (.cells #[.string (k 0),.string (k 1),.string (k 2),.string (k 3),.string (k 4),.string (k 5),.string (k 6),.string (k 7)] 59));have HW:=Lib.hid (CBlk.new w1 k);clear hb q0 q1 ql;obtain ⟨q0,q1,q2,q3,q4,q5,q6,q7⟩:=HW.out.cells;have ql:=HW.out.lt;have p2:(w1.alloc (.cells #[.string (k 0),.string (k 1),.string (k 2),.string (k 3),.string (k 4),.string (k 5),.string (k 6),.string (k 7)] 59)).cell? ⟨w.heap.size,2,none⟩=some (.string (c 0)):=H1.out.b0.cell 2;have p3:(w1.alloc (.cells #[.string (k 0),.string (k 1),.string (k 2),.string (k 3),.string (k 4),.string (k 5),.string (k 6),.string (k 7)] 59)).cell? ⟨w.heap.size,3,none⟩=some (.string (c 1)):=H1.out.b0.cell 3;have p4:(w1.alloc (.cells #[.string (k 0),.string (k 1),.string (k 2),.string (k 3),.string (k 4),.string (k 5),.string (k 6),.string (k 7)] 59)).cell? ⟨w.heap.size,4,none⟩=some (.string (c 2)):=H1.out.b0.cell 4;have p5:(w1.alloc (.cells #[.string (k 0),.string (k 1),.string (k 2),.string (k 3),.string (k 4),.string (k 5),.string (k 6),.string (k 7)] 59)).cell? ⟨w.heap.size,5,none⟩=some (.string (c 3)):=H1.out.b0.cell 5;have p6:(w1.alloc (.cells #[.string (k 0),.string (k 1),.string (k 2),.string (k 3),.string (k 4),.string (k 5),.string (k 6),.string (k 7)] 59)).cell? ⟨w.heap.size,6,none⟩=some (.string (c 4)):=H1.out.b0.cell 6;have p7:(w1.alloc (.cells #[.string (k 0),.string (k 1),.string (k 2),.string (k 3),.string (k 4),.string (k 5),.string (k 6),.string (k 7)] 59)).cell? ⟨w.heap.size,7,none⟩=some (.string (c 5)):=H1.out.b0.cell 7;have p8:(w1.alloc (.cells #[.string (k 0),.string (k 1),.string (k 2),.string (k 3),.string (k 4),.string (k 5),.string (k 6),.string (k 7)] 59)).cell? ⟨w.heap.size,8,none⟩=some (.string (c 6)):=H1.out.b0.cell 8;have p9:(w1.alloc (.cells #[.string (k 0),.string (k 1),.string (k 2),.string (k 3),.string (k 4),.string (k 5),.string (k 6),.string (k 7)] 59)).cell? ⟨w.heap.size,9,none⟩=some (.string (c 7)):=H1.out.b0.cell 9;have pl:=H1.out.b0.lt)
 go_wp2_with (go_at_call 58;refine (HAD.out _ H1.out.nw.res).mono ?_;rintro e w2 ⟨rfl,hb⟩;have H2:=Lib.hid (H1.out.later hb);clear hb q0 q1 q2 q3 q4 q5 q6 q7 ql p2 p3 p4 p5 p6 p7 p8 p9 pl HW;have p2:w2.cell? ⟨w.heap.size,2,none⟩=some (.string (c 0)):=H2.out.b0.cell 2;have p3:w2.cell? ⟨w.heap.size,3,none⟩=some (.string (c 1)):=H2.out.b0.cell 3;have p4:w2.cell? ⟨w.heap.size,4,none⟩=some (.string (c 2)):=H2.out.b0.cell 4;have p5:w2.cell? ⟨w.heap.size,5,none⟩=some (.string (c 3)):=H2.out.b0.cell 5;have p6:w2.cell? ⟨w.heap.size,6,none⟩=some (.string (c 4)):=H2.out.b0.cell 6;have p7:w2.cell? ⟨w.heap.size,7,none⟩=some (.string (c 5)):=H2.out.b0.cell 7;have p8:w2.cell? ⟨w.heap.size,8,none⟩=some (.string (c 6)):=H2.out.b0.cell 8;have p9:w2.cell? ⟨w.heap.size,9,none⟩=some (.string (c 7)):=H2.out.b0.cell 9;have pl:=H2.out.b0.lt;have z2:=H2.out.b0.frozen 2;have z3:=H2.out.b0.frozen 3;have z4:=H2.out.b0.frozen 4;have z5:=H2.out.b0.frozen 5;have z6:=H2.out.b0.frozen 6;have z7:=H2.out.b0.frozen 7;have z8:=H2.out.b0.frozen 8;have z9:=H2.out.b0.frozen 9;have HK2:=Lib.hid (show Blk ((((((((w2.setCell ⟨w.heap.size,2,none⟩ (.string (t 0))).setCell ⟨w.heap.size,3,none⟩ (.string (t 1))).setCell ⟨w.heap.size,4,none⟩ (.string (t 2))).setCell ⟨w.heap.size,5,none⟩ (.string (t 3))).setCell ⟨w.heap.size,6,none⟩ (.string (t 4))).setCell ⟨w.heap.size,7,none⟩ (.string (t 5))).setCell ⟨w.heap.size,8,none⟩ (.string (t 6))).setCell ⟨w.heap.size,9,none⟩ (.string ⟨#[48]⟩)) w.heap.size 209 #[.string lf,.string ld,.string (t 0),.string (t 1),.string (t 2),.string (t 3),.string (t 4),.string (t 5),.string (t 6),.string ⟨#[48]⟩,.int .i64 2,.int .i64 0] from ((((((((H2.out.b0.set_ 2 (.string (t 0))).set_ 3 (.string (t 1))).set_ 4 (.string (t 2))).set_ 5 (.string (t 3))).set_ 6 (.string (t 4))).set_ 7 (.string (t 5))).set_ 8 (.string (t 6))).set_ 9 (.string ⟨#[48]⟩)));have e11:((((((((w2.setCell ⟨w.heap.size,2,none⟩ (.string (t 0))).setCell ⟨w.heap.size,3,none⟩ (.string (t 1))).setCell ⟨w.heap.size,4,none⟩ (.string (t 2))).setCell ⟨w.heap.size,5,none⟩ (.string (t 3))).setCell ⟨w.heap.size,6,none⟩ (.string (t 4))).setCell ⟨w.heap.size,7,none⟩ (.string (t 5))).setCell ⟨w.heap.size,8,none⟩ (.string (t 6))).setCell ⟨w.heap.size,9,none⟩ (.string ⟨#[48]⟩)).cell? ⟨w.heap.size,11,none⟩=some (.int .i64 0):=HK2.out.cell 11;have z11:=HK2.out.frozen 11;have yl:=HK2.out.lt;have HK3:=Lib.hid (show Blk (((((((((w2.setCell ⟨w.heap.size,2,none⟩ (.string (t 0))).setCell ⟨w.heap.size,3,none⟩ (.string (t 1))).setCell ⟨w.heap.size,4,none⟩ (.string (t 2))).setCell ⟨w.heap.size,5,none⟩ (.string (t 3))).setCell ⟨w.heap.size,6,none⟩ (.string (t 4))).setCell ⟨w.heap.size,7,none⟩ (.string (t 5))).setCell ⟨w.heap.size,8,none⟩ (.string (t 6))).setCell ⟨w.heap.size,9,none⟩ (.string ⟨#[48]⟩)).setCell ⟨w.heap.size,11,none⟩ (.int .i64 1)) w.heap.size 209 #[.string lf,.string ld,.string (t 0),.string (t 1),.string (t 2),.string (t 3),.string (t 4),.string (t 5),.string (t 6),.string ⟨#[48]⟩,.int .i64 2,.int .i64 1] from HK2.out.set_ 11 (.int .i64 1));have g0:(((((((((w2.setCell ⟨w.heap.size,2,none⟩ (.string (t 0))).setCell ⟨w.heap.size,3,none⟩ (.string (t 1))).setCell ⟨w.heap.size,4,none⟩ (.string (t 2))).setCell ⟨w.heap.size,5,none⟩ (.string (t 3))).setCell ⟨w.heap.size,6,none⟩ (.string (t 4))).setCell ⟨w.heap.size,7,none⟩ (.string (t 5))).setCell ⟨w.heap.size,8,none⟩ (.string (t 6))).setCell ⟨w.heap.size,9,none⟩ (.string ⟨#[48]⟩)).setCell ⟨w.heap.size,11,none⟩ (.int .i64 1)).cell? ⟨w.heap.size,0,none⟩=some (.string lf):=HK3.out.cell 0;have g1:(((((((((w2.setCell ⟨w.heap.size,2,none⟩ (.string (t 0))).setCell ⟨w.heap.size,3,none⟩ (.string (t 1))).setCell ⟨w.heap.size,4,none⟩ (.string (t 2))).setCell ⟨w.heap.size,5,none⟩ (.string (t 3))).setCell ⟨w.heap.size,6,none⟩ (.string (t 4))).setCell ⟨w.heap.size,7,none⟩ (.string (t 5))).setCell ⟨w.heap.size,8,none⟩ (.string (t 6))).setCell ⟨w.heap.size,9,none⟩ (.string ⟨#[48]⟩)).setCell ⟨w.heap.size,11,none⟩ (.int .i64 1)).cell? ⟨w.heap.size,1,none⟩=some (.string ld):=HK3.out.cell 1;have g2:(((((((((w2.setCell ⟨w.heap.size,2,none⟩ (.string (t 0))).setCell ⟨w.heap.size,3,none⟩ (.string (t 1))).setCell ⟨w.heap.size,4,none⟩ (.string (t 2))).setCell ⟨w.heap.size,5,none⟩ (.string (t 3))).setCell ⟨w.heap.size,6,none⟩ (.string (t 4))).setCell ⟨w.heap.size,7,none⟩ (.string (t 5))).setCell ⟨w.heap.size,8,none⟩ (.string (t 6))).setCell ⟨w.heap.size,9,none⟩ (.string ⟨#[48]⟩)).setCell ⟨w.heap.size,11,none⟩ (.int .i64 1)).cell? ⟨w.heap.size,2,none⟩=some (.string (t 0)):=HK3.out.cell 2;have g3:(((((((((w2.setCell ⟨w.heap.size,2,none⟩ (.string (t 0))).setCell ⟨w.heap.size,3,none⟩ (.string (t 1))).setCell ⟨w.heap.size,4,none⟩ (.string (t 2))).setCell ⟨w.heap.size,5,none⟩ (.string (t 3))).setCell ⟨w.heap.size,6,none⟩ (.string (t 4))).setCell ⟨w.heap.size,7,none⟩ (.string (t 5))).setCell ⟨w.heap.size,8,none⟩ (.string (t 6))).setCell ⟨w.heap.size,9,none⟩ (.string ⟨#[48]⟩)).setCell ⟨w.heap.size,11,none⟩ (.int .i64 1)).cell? ⟨w.heap.size,3,none⟩=some (.string (t 1)):=HK3.out.cell 3;have g4:(((((((((w2.setCell ⟨w.heap.size,2,none⟩ (.string (t 0))).setCell ⟨w.heap.size,3,none⟩ (.string (t 1))).setCell ⟨w.heap.size,4,none⟩ (.string (t 2))).setCell ⟨w.heap.size,5,none⟩ (.string (t 3))).setCell ⟨w.heap.size,6,none⟩ (.string (t 4))).setCell ⟨w.heap.size,7,none⟩ (.string (t 5))).setCell ⟨w.heap.size,8,none⟩ (.string (t 6))).setCell ⟨w.heap.size,9,none⟩ (.string ⟨#[48]⟩)).setCell ⟨w.heap.size,11,none⟩ (.int .i64 1)).cell? ⟨w.heap.size,4,none⟩=some (.string (t 2)):=HK3.out.cell 4;have g5:(((((((((w2.setCell ⟨w.heap.size,2,none⟩ (.string (t 0))).setCell ⟨w.heap.size,3,none⟩ (.string (t 1))).setCell ⟨w.heap.size,4,none⟩ (.string (t 2))).setCell ⟨w.heap.size,5,none⟩ (.string (t 3))).setCell ⟨w.heap.size,6,none⟩ (.string (t 4))).setCell ⟨w.heap.size,7,none⟩ (.string (t 5))).setCell ⟨w.heap.size,8,none⟩ (.string (t 6))).setCell ⟨w.heap.size,9,none⟩ (.string ⟨#[48]⟩)).setCell ⟨w.heap.size,11,none⟩ (.int .i64 1)).cell? ⟨w.heap.size,5,none⟩=some (.string (t 3)):=HK3.out.cell 5;have g6:(((((((((w2.setCell ⟨w.heap.size,2,none⟩ (.string (t 0))).setCell ⟨w.heap.size,3,none⟩ (.string (t 1))).setCell ⟨w.heap.size,4,none⟩ (.string (t 2))).setCell ⟨w.heap.size,5,none⟩ (.string (t 3))).setCell ⟨w.heap.size,6,none⟩ (.string (t 4))).setCell ⟨w.heap.size,7,none⟩ (.string (t 5))).setCell ⟨w.heap.size,8,none⟩ (.string (t 6))).setCell ⟨w.heap.size,9,none⟩ (.string ⟨#[48]⟩)).setCell ⟨w.heap.size,11,none⟩ (.int .i64 1)).cell? ⟨w.heap.size,6,none⟩=some (.string (t 4)):=HK3.out.cell 6;have g7:(((((((((w2.setCell ⟨w.heap.size,2,none⟩ (.string (t 0))).setCell ⟨w.heap.size,3,none⟩ (.string (t 1))).setCell ⟨w.heap.size,4,none⟩ (.string (t 2))).setCell ⟨w.heap.size,5,none⟩ (.string (t 3))).setCell ⟨w.heap.size,6,none⟩ (.string (t 4))).setCell ⟨w.heap.size,7,none⟩ (.string (t 5))).setCell ⟨w.heap.size,8,none⟩ (.string (t 6))).setCell ⟨w.heap.size,9,none⟩ (.string ⟨#[48]⟩)).setCell ⟨w.heap.size,11,none⟩ (.int .i64 1)).cell? ⟨w.heap.size,7,none⟩=some (.string (t 5)):=HK3.out.cell 7;have g8:(((((((((w2.setCell ⟨w.heap.size,2,none⟩ (.string (t 0))).setCell ⟨w.heap.size,3,none⟩ (.string (t 1))).setCell ⟨w.heap.size,4,none⟩ (.string (t 2))).setCell ⟨w.heap.size,5,none⟩ (.string (t 3))).setCell ⟨w.heap.size,6,none⟩ (.string (t 4))).setCell ⟨w.heap.size,7,none⟩ (.string (t 5))).setCell ⟨w.heap.size,8,none⟩ (.string (t 6))).setCell ⟨w.heap.size,9,none⟩ (.string ⟨#[48]⟩)).setCell ⟨w.heap.size,11,none⟩ (.int .i64 1)).cell? ⟨w.heap.size,8,none⟩=some (.string (t 6)):=HK3.out.cell 8;have g9:(((((((((w2.setCell ⟨w.heap.size,2,none⟩ (.string (t 0))).setCell ⟨w.heap.size,3,none⟩ (.string (t 1))).setCell ⟨w.heap.size,4,none⟩ (.string (t 2))).setCell ⟨w.heap.size,5,none⟩ (.string (t 3))).setCell ⟨w.heap.size,6,none⟩ (.string (t 4))).setCell ⟨w.heap.size,7,none⟩ (.string (t 5))).setCell ⟨w.heap.size,8,none⟩ (.string (t 6))).setCell ⟨w.heap.size,9,none⟩ (.string ⟨#[48]⟩)).setCell ⟨w.heap.size,11,none⟩ (.int .i64 1)).cell? ⟨w.heap.size,9,none⟩=some (.string ⟨#[48]⟩):=HK3.out.cell 9;have g10:(((((((((w2.setCell ⟨w.heap.size,2,none⟩ (.string (t 0))).setCell ⟨w.heap.size,3,none⟩ (.string (t 1))).setCell ⟨w.heap.size,4,none⟩ (.string (t 2))).setCell ⟨w.heap.size,5,none⟩ (.string (t 3))).setCell ⟨w.heap.size,6,none⟩ (.string (t 4))).setCell ⟨w.heap.size,7,none⟩ (.string (t 5))).setCell ⟨w.heap.size,8,none⟩ (.string (t 6))).setCell ⟨w.heap.size,9,none⟩ (.string ⟨#[48]⟩)).setCell ⟨w.heap.size,11,none⟩ (.int .i64 1)).cell? ⟨w.heap.size,10,none⟩=some (.int .i64 2):=HK3.out.cell 10;have g11:(((((((((w2.setCell ⟨w.heap.size,2,none⟩ (.string (t 0))).setCell ⟨w.heap.size,3,none⟩ (.string (t 1))).setCell ⟨w.heap.size,4,none⟩ (.string (t 2))).setCell ⟨w.heap.size,5,none⟩ (.string (t 3))).setCell ⟨w.heap.size,6,none⟩ (.string (t 4))).setCell ⟨w.heap.size,7,none⟩ (.string (t 5))).setCell ⟨w.heap.size,8,none⟩ (.string (t 6))).setCell ⟨w.heap.size,9,none⟩ (.string ⟨#[48]⟩)).setCell ⟨w.heap.size,11,none⟩ (.int .i64 1)).cell? ⟨w.heap.size,11,none⟩=some (.int .i64 1):=HK3.out.cell 11;have gl:=HK3.out.lt;have HB3:=Lib.hid (show Below w.heap.size w (((((((((w2.setCell ⟨w.heap.size,2,none⟩ (.string (t 0))).setCell ⟨w.heap.size,3,none⟩ (.string (t 1))).setCell ⟨w.heap.size,4,none⟩ (.string (t 2))).setCell ⟨w.heap.size,5,none⟩ (.string (t 3))).setCell ⟨w.heap.size,6,none⟩ (.string (t 4))).setCell ⟨w.heap.size,7,none⟩ (.string (t 5))).setCell ⟨w.heap.size,8,none⟩ (.string (t 6))).setCell ⟨w.heap.size,9,none⟩ (.string ⟨#[48]⟩)).setCell ⟨w.heap.size,11,none⟩ (.int .i64 1)) from ((((((((H2.out.nw.below.setCell (p:=⟨w.heap.size,2,none⟩) (Nat.le_refl _) (.string (t 0))).setCell (p:=⟨w.heap.size,3,none⟩) (Nat.le_refl _) (.string (t 1))).setCell (p:=⟨w.heap.size,4,none⟩) (Nat.le_refl _) (.string (t 2))).setCell (p:=⟨w.heap.size,5,none⟩) (Nat.le_refl _) (.string (t 3))).setCell (p:=⟨w.heap.size,6,none⟩) (Nat.le_refl _) (.string (t 4))).setCell (p:=⟨w.heap.size,7,none⟩) (Nat.le_refl _) (.string (t 5))).setCell (p:=⟨w.heap.size,8,none⟩) (Nat.le_refl _) (.string (t 6))).setCell (p:=⟨w.heap.size,9,none⟩) (Nat.le_refl _) (.string ⟨#[48]⟩)).setCell (p:=⟨w.heap.size,11,none⟩) (Nat.le_refl _) (.int .i64 1)))
 go_wp2_with (go_at_call 53;refine (HTO.out _ (HR.out.below (below_alloc HB3.out (.cells #[.string (t 0),.string (t 1),.string (t 2),.string (t 3),.string (t 4),.string (t 5),.string (t 6),.string ⟨#[48]⟩] 59)))).mono ?_;rintro e w5 ⟨rfl,hb⟩;have HK5:=Lib.hid ((HK3.out.alloc (.cells #[.string (t 0),.string (t 1),.string (t 2),.string (t 3),.string (t 4),.string (t 5),.string (t 6),.string ⟨#[48]⟩] 59)).below hb (HK3.out.alloc _).lt);have HB5:=Lib.hid ((below_alloc HB3.out (.cells #[.string (t 0),.string (t 1),.string (t 2),.string (t 3),.string (t 4),.string (t 5),.string (t 6),.string ⟨#[48]⟩] 59)).trans (hb.mono (below_alloc HB3.out (.cells #[.string (t 0),.string (t 1),.string (t 2),.string (t 3),.string (t 4),.string (t 5),.string (t 6),.string ⟨#[48]⟩] 59)).size));clear hb p2 p3 p4 p5 p6 p7 p8 p9 pl z2 z3 z4 z5 z6 z7 z8 z9 e11 z11 yl g0 g1 g2 g3 g4 g5 g6 g7 g8 g9 g10 g11 gl)
 have KD:=HK5.out.alloc (.cells #[.string y1,.string dl] 63)
 have KL:=Blk.new w5 63 #[.string y1,.string dl]
 have HB6:=below_alloc HB5.out (.cells #[.string y1,.string dl] 63)
 generalize w5.alloc (.cells #[.string y1,.string dl] 63)=W6 at *
 generalize w5.heap.size=lb at *
 have HD:=Lib.hid KD
 have HL:=Lib.hid KL
 have HB:=Lib.hid HB6
 clear KD KL HB6 HK5 HB5 HK2 HK3 HB3 H2 H1 H0
 have RS:=Lib.hid (fun z:LaterW W6=>HR.out.below (HB.out.trans (z.h.mono HB.out.size)))
 have v0:∀ x:SameAt W6 (fun k=>k < W6.heap.size),x.W.cell? ⟨w.heap.size,0,none⟩=some (.string lf):=fun x=>x.cell HD.out.lt (HD.out.cell 0)
 have v9:∀ x:SameAt W6 (fun k=>k < W6.heap.size),x.W.cell? ⟨w.heap.size,9,none⟩=some (.string ⟨#[48]⟩):=fun x=>x.cell HD.out.lt (HD.out.cell 9)
 refine wpIn_wide.1 (wpIn_stage (n:=3) (IsSame W6 (fun k=>k < W6.heap.size)) [0,1,2,3,4,5,6,9,10,11] [] hmx (by kernel_rfl) (isSame_of fun _ _=>rfl) ?_)
 change wpStage _ _ _ _ _ _ _ _ (8+7) _ _ _
 refine stage_reads [0,1,2,3,4,5,6] 8 _ _ (by kernel_rfl) ?_
 change wpQuietIn _ _ _ _ (fun W'=>∃ x:SameAt W6 (fun k=>k < W6.heap.size),W'=x.W) _ _ _
 simp only [pick_cons,pick_nil,List.getElem?_cons_zero,List.getElem?_cons_succ,Option.elim_some]
 repeat (gi_big_quiet_step (fail))
 refine wpQuietIn_nil ?_
 clear v0 v9
 obtain ⟨zd,hzd⟩:=stepG ⟨W6,Below.refl _ _⟩ (below_drewM W6)
 have HS:=Lib.hid (below_drewM W6)
 rw [hzd] at HS ⊢
 clear hzd
 apply shareG (fun (bz:Nat) (z:LaterW W6)=>Below W6.heap.size W6 z.W∧Blk z.W bz 63 #[.string y2,.string dz])
 case main =>
  intro SH
  refine stage_two 7 12 (by kernel_rfl) rfl rfl ?_ ?_
  ·skip
   gi_wp2_with (gi_at_call 385;refine (callsIn_wide.2 (HLS.out _ (RS.out zd))).mono ?_;rintro e w9 ⟨rfl,hb9⟩;have HS:=Lib.hid (HS.out.trans (hb9.mono HS.out.size));obtain ⟨zd,rfl⟩:=stepG zd hb9;clear hb9)
   refine stage_post (isSame_below HS.out (fun k hk=>hk)) ?_
   refine stage_two 8 12 (by kernel_rfl) rfl rfl ?_ ?_
   ·skip
    gi_wp2_with (gi_at_call 74;refine (callsIn_wide.2 (HLT.out _ (RS.out zd))).mono ?_;rintro e w9 ⟨rfl,hb9⟩;have HS:=Lib.hid (HS.out.trans (hb9.mono HS.out.size));obtain ⟨zd,rfl⟩:=stepG zd hb9;clear hb9)
    refine stage_post (isSame_below HS.out (fun k hk=>hk)) ?_
    change wpStage _ _ _ _ _ _ _ _ (3+3) _ _ _
    refine stage_reads [9,10,11] 3 _ _ (by kernel_rfl) ?_
    change wpQuietIn _ _ _ _ (fun W'=>∃ x:SameAt W6 (fun k=>k < W6.heap.size),W'=x.W) _ _ _
    simp only [pick_cons,pick_nil,List.getElem?_cons_zero,List.getElem?_cons_succ,Option.elim_some]
    repeat (gi_big_quiet_step (fail))
    refine wpQuietIn_nil ?_
    refine stage_one 12 (by kernel_rfl) rfl ?_
    gi_wp2
    have hb9:=below_alloc (Below.refl zd.W.heap.size zd.W) (.cells #[.string ⟨#[]⟩,.string ⟨#[]⟩] 63)
    have KB:=Blk.new zd.W 63 #[.string ⟨#[]⟩,.string ⟨#[]⟩]
    have lo:=HS.out.size
    have HS:=Lib.hid (HS.out.trans (hb9.mono HS.out.size))
    obtain ⟨ze,hze⟩:=stepG zd hb9
    rw [hze] at KB HS ⊢
    have KB:=Lib.hid KB
    clear hb9 hze
    generalize zd.W.heap.size=bz at *
    obtain ⟨zd,rfl⟩:∃ x,x=ze:=⟨_,rfl⟩
    refine stage_post (isSame_below HS.out (fun k hk=>hk)) ?_
    obtain ⟨p0,p1⟩:=cells2 KB.out
    have f0:=KB.out.frozen 0
    have f1:=KB.out.frozen 1
    have fl:=KB.out.lt
    refine stage_one 13 (by kernel_rfl) rfl ?_
    gi_wp2
    have KX:=(KB.out.set_ 0 (.string y2)).set_ 1 (.string dz)
    have HS:=(HS.out.setCell (p:=⟨bz,0,none⟩) lo (.string y2)).setCell (p:=⟨bz,1,none⟩) lo (.string dz)
    refine stage_post (isSame_below HS (fun k hk=>hk)) ?_
    refine stage_one 14 (by kernel_rfl) rfl ?_
    gi_wp2
    refine stage_post (isSame_below HS (fun k hk=>hk)) ?_
    refine stage_done (by kernel_rfl) ?_
    obtain ⟨z8,hz8⟩:=stepG ⟨W6,Below.refl _ _⟩ HS
    rw [hz8] at KX HS ⊢
    exact SH _ _ ⟨HS,KX⟩
   ·skip
    gi_wp2
    have hb9:=below_alloc (Below.refl zd.W.heap.size zd.W) (.cells #[.string ⟨#[]⟩,.string ⟨#[]⟩] 63)
    have KB:=Blk.new zd.W 63 #[.string ⟨#[]⟩,.string ⟨#[]⟩]
    have lo:=HS.out.size
    have HS:=Lib.hid (HS.out.trans (hb9.mono HS.out.size))
    obtain ⟨ze,hze⟩:=stepG zd hb9
    rw [hze] at KB HS ⊢
    have KB:=Lib.hid KB
    clear hb9 hze
    generalize zd.W.heap.size=bz at *
    obtain ⟨zd,rfl⟩:∃ x,x=ze:=⟨_,rfl⟩
    refine stage_post (isSame_below HS.out (fun k hk=>hk)) ?_
    refine stage_one 8 (by kernel_rfl) rfl ?_
    gi_wp2_with (gi_at_call 74;refine (callsIn_wide.2 (HLT.out _ (RS.out zd))).mono ?_;rintro e w9 ⟨rfl,hb9⟩;have HS:=Lib.hid (HS.out.trans (hb9.mono HS.out.size));have KB:=Lib.hid (KB.out.below hb9 KB.out.lt);obtain ⟨zd,rfl⟩:=stepG zd hb9;clear hb9)
    refine stage_post (isSame_below HS.out (fun k hk=>hk)) ?_
    change wpStage _ _ _ _ _ _ _ _ (2+3) _ _ _
    refine stage_reads [9,10,11] 2 _ _ (by kernel_rfl) ?_
    change wpQuietIn _ _ _ _ (fun W'=>∃ x:SameAt W6 (fun k=>k < W6.heap.size),W'=x.W) _ _ _
    simp only [pick_cons,pick_nil,List.getElem?_cons_zero,List.getElem?_cons_succ,Option.elim_some]
    repeat (gi_big_quiet_step (fail))
    refine wpQuietIn_nil ?_
    obtain ⟨p0,p1⟩:=cells2 KB.out
    have f0:=KB.out.frozen 0
    have f1:=KB.out.frozen 1
    have fl:=KB.out.lt
    refine stage_one 13 (by kernel_rfl) rfl ?_
    gi_wp2
    have KX:=(KB.out.set_ 0 (.string y2)).set_ 1 (.string dz)
    have HS:=(HS.out.setCell (p:=⟨bz,0,none⟩) lo (.string y2)).setCell (p:=⟨bz,1,none⟩) lo (.string dz)
    refine stage_post (isSame_below HS (fun k hk=>hk)) ?_
    refine stage_one 14 (by kernel_rfl) rfl ?_
    gi_wp2
    refine stage_post (isSame_below HS (fun k hk=>hk)) ?_
    refine stage_done (by kernel_rfl) ?_
    obtain ⟨z8,hz8⟩:=stepG ⟨W6,Below.refl _ _⟩ HS
    rw [hz8] at KX HS ⊢
    exact SH _ _ ⟨HS,KX⟩
  ·skip
   gi_wp2
   have hb9:=below_alloc (Below.refl zd.W.heap.size zd.W) (.cells #[.string ⟨#[]⟩,.string ⟨#[]⟩] 63)
   have KB:=Blk.new zd.W 63 #[.string ⟨#[]⟩,.string ⟨#[]⟩]
   have lo:=HS.out.size
   have HS:=Lib.hid (HS.out.trans (hb9.mono HS.out.size))
   obtain ⟨ze,hze⟩:=stepG zd hb9
   rw [hze] at KB HS ⊢
   have KB:=Lib.hid KB
   clear hb9 hze
   generalize zd.W.heap.size=bz at *
   obtain ⟨zd,rfl⟩:∃ x,x=ze:=⟨_,rfl⟩
   refine stage_post (isSame_below HS.out (fun k hk=>hk)) ?_
   refine stage_one 7 (by kernel_rfl) rfl ?_
   gi_wp2_with (gi_at_call 385;refine (callsIn_wide.2 (HLS.out _ (RS.out zd))).mono ?_;rintro e w9 ⟨rfl,hb9⟩;have HS:=Lib.hid (HS.out.trans (hb9.mono HS.out.size));have KB:=Lib.hid (KB.out.below hb9 KB.out.lt);obtain ⟨zd,rfl⟩:=stepG zd hb9;clear hb9)
   refine stage_post (isSame_below HS.out (fun k hk=>hk)) ?_
   refine stage_one 8 (by kernel_rfl) rfl ?_
   gi_wp2_with (gi_at_call 74;refine (callsIn_wide.2 (HLT.out _ (RS.out zd))).mono ?_;rintro e w9 ⟨rfl,hb9⟩;have HS:=Lib.hid (HS.out.trans (hb9.mono HS.out.size));have KB:=Lib.hid (KB.out.below hb9 KB.out.lt);obtain ⟨zd,rfl⟩:=stepG zd hb9;clear hb9)
   refine stage_post (isSame_below HS.out (fun k hk=>hk)) ?_
   change wpStage _ _ _ _ _ _ _ _ (2+3) _ _ _
   refine stage_reads [9,10,11] 2 _ _ (by kernel_rfl) ?_
   change wpQuietIn _ _ _ _ (fun W'=>∃ x:SameAt W6 (fun k=>k < W6.heap.size),W'=x.W) _ _ _
   simp only [pick_cons,pick_nil,List.getElem?_cons_zero,List.getElem?_cons_succ,Option.elim_some]
   repeat (gi_big_quiet_step (fail))
   refine wpQuietIn_nil ?_
   obtain ⟨p0,p1⟩:=cells2 KB.out
   have f0:=KB.out.frozen 0
   have f1:=KB.out.frozen 1
   have fl:=KB.out.lt
   refine stage_one 13 (by kernel_rfl) rfl ?_
   gi_wp2
   have KX:=(KB.out.set_ 0 (.string y2)).set_ 1 (.string dz)
   have HS:=(HS.out.setCell (p:=⟨bz,0,none⟩) lo (.string y2)).setCell (p:=⟨bz,1,none⟩) lo (.string dz)
   refine stage_post (isSame_below HS (fun k hk=>hk)) ?_
   refine stage_one 14 (by kernel_rfl) rfl ?_
   gi_wp2
   refine stage_post (isSame_below HS (fun k hk=>hk)) ?_
   refine stage_done (by kernel_rfl) ?_
   obtain ⟨z8,hz8⟩:=stepG ⟨W6,Below.refl _ _⟩ HS
   rw [hz8] at KX HS ⊢
   exact SH _ _ ⟨HS,KX⟩
 case rest =>
  rintro bz z9 ⟨HS,KB⟩
  have HD:=Lib.hid (HD.out.below HS HD.out.lt)
  have HL:=Lib.hid (HL.out.below HS HL.out.lt)
  have HB:=Lib.hid (HB.out.trans (HS.mono HB.out.size))
  have HZ:=Lib.hid KB
  clear HS KB
  have v0:z9.W.cell? ⟨w.heap.size,0,none⟩=some (.string lf):=HD.out.cell 0
  have v1:z9.W.cell? ⟨w.heap.size,1,none⟩=some (.string ld):=HD.out.cell 1
  have v2:z9.W.cell? ⟨w.heap.size,2,none⟩=some (.string (t 0)):=HD.out.cell 2
  have v3:z9.W.cell? ⟨w.heap.size,3,none⟩=some (.string (t 1)):=HD.out.cell 3
  have v4:z9.W.cell? ⟨w.heap.size,4,none⟩=some (.string (t 2)):=HD.out.cell 4
  have v5:z9.W.cell? ⟨w.heap.size,5,none⟩=some (.string (t 3)):=HD.out.cell 5
  have v6:z9.W.cell? ⟨w.heap.size,6,none⟩=some (.string (t 4)):=HD.out.cell 6
  have v7:z9.W.cell? ⟨w.heap.size,7,none⟩=some (.string (t 5)):=HD.out.cell 7
  have v8:z9.W.cell? ⟨w.heap.size,8,none⟩=some (.string (t 6)):=HD.out.cell 8
  have v9:z9.W.cell? ⟨w.heap.size,9,none⟩=some (.string ⟨#[48]⟩):=HD.out.cell 9
  have v10:z9.W.cell? ⟨w.heap.size,10,none⟩=some (.int .i64 2):=HD.out.cell 10
  have v11:z9.W.cell? ⟨w.heap.size,11,none⟩=some (.int .i64 1):=HD.out.cell 11
  have vl:=HD.out.lt
  go_wp2_with (go_at_call 53;refine (HTO.out _ (HR.out.below HB.out)).mono ?_;rintro e w10 ⟨rfl,hb⟩;clear v0 v1 v2 v3 v4 v5 v6 v7 v8 v9 v10 v11 vl;have HD:=Lib.hid ((HD.out.below hb HD.out.lt).alloc (.cells #[.string y1,.string dl] 63));have HL:=Lib.hid ((HL.out.below hb HL.out.lt).alloc (.cells #[.string y1,.string dl] 63));have HZ:=Lib.hid ((HZ.out.below hb HZ.out.lt).alloc (.cells #[.string y1,.string dl] 63));have HB:=Lib.hid (below_alloc (HB.out.trans (hb.mono HB.out.size)) (.cells #[.string y1,.string dl] 63));clear hb)
  generalize w10.alloc (.cells #[.string y1,.string dl] 63)=WB at *
  have RB:=Lib.hid (fun z:LaterW WB=>HR.out.below (HB.out.trans (z.h.mono HB.out.size)))
  have v0:∀ x:LaterW WB,x.W.cell? ⟨w.heap.size,0,none⟩=some (.string lf):=LaterW.at HD.out.lt (HD.out.cell 0)
  have v1:∀ x:LaterW WB,x.W.cell? ⟨w.heap.size,1,none⟩=some (.string ld):=LaterW.at HD.out.lt (HD.out.cell 1)
  have v2:∀ x:LaterW WB,x.W.cell? ⟨w.heap.size,2,none⟩=some (.string (t 0)):=LaterW.at HD.out.lt (HD.out.cell 2)
  have v3:∀ x:LaterW WB,x.W.cell? ⟨w.heap.size,3,none⟩=some (.string (t 1)):=LaterW.at HD.out.lt (HD.out.cell 3)
  have v4:∀ x:LaterW WB,x.W.cell? ⟨w.heap.size,4,none⟩=some (.string (t 2)):=LaterW.at HD.out.lt (HD.out.cell 4)
  have v5:∀ x:LaterW WB,x.W.cell? ⟨w.heap.size,5,none⟩=some (.string (t 3)):=LaterW.at HD.out.lt (HD.out.cell 5)
  have v6:∀ x:LaterW WB,x.W.cell? ⟨w.heap.size,6,none⟩=some (.string (t 4)):=LaterW.at HD.out.lt (HD.out.cell 6)
  have v7:∀ x:LaterW WB,x.W.cell? ⟨w.heap.size,7,none⟩=some (.string (t 5)):=LaterW.at HD.out.lt (HD.out.cell 7)
  have v8:∀ x:LaterW WB,x.W.cell? ⟨w.heap.size,8,none⟩=some (.string (t 6)):=LaterW.at HD.out.lt (HD.out.cell 8)
  have v9:∀ x:LaterW WB,x.W.cell? ⟨w.heap.size,9,none⟩=some (.string ⟨#[48]⟩):=LaterW.at HD.out.lt (HD.out.cell 9)
  have v10:∀ x:LaterW WB,x.W.cell? ⟨w.heap.size,10,none⟩=some (.int .i64 2):=LaterW.at HD.out.lt (HD.out.cell 10)
  have v11:∀ x:LaterW WB,x.W.cell? ⟨w.heap.size,11,none⟩=some (.int .i64 1):=LaterW.at HD.out.lt (HD.out.cell 11)
  have u1:∀ x:LaterW WB,x.W.cell? ⟨lb,1,none⟩=some (.string dl):=LaterW.at HL.out.lt (HL.out.cell 1)
  have u2:∀ x:LaterW WB,x.W.cell? ⟨bz,1,none⟩=some (.string dz):=LaterW.at HZ.out.lt (HZ.out.cell 1)
  refine wpIn_wide.1 (wpIn_region_later (n:=3) rfl hmx (by kernel_rfl) ?_)
  repeat (gi_big_quiet_step (fail))
  gi_big_quiet_step ((gi_at_call 386;refine (callsIn_wide.2 (HH1.out _ (RB.out _))).mono ?_;rintro e w99 ⟨rfl,hb9⟩;exact ⟨rfl,⟨⟨w99,(LaterW.h _).trans (hb9.mono (LaterW.h _).size)⟩,rfl⟩⟩))
  repeat (gi_big_quiet_step (fail))
  gi_big_quiet_step ((gi_at_call 386;refine (callsIn_wide.2 (HH2.out _ (RB.out _))).mono ?_;rintro e w99 ⟨rfl,hb9⟩;exact ⟨rfl,⟨⟨w99,(LaterW.h _).trans (hb9.mono (LaterW.h _).size)⟩,rfl⟩⟩))
  repeat (gi_big_quiet_step (fail))
  refine wpQuietIn_nil ?_
  rintro _ ⟨zz,rfl⟩
  go_wp2
  go_ret2
  exact ⟨rfl,HB.out.trans (zz.h.mono HB.out.size)⟩
end Go.Proofs.YtigapglmipmbeaaGreatDoor
namespace Go.Proofs.YtigapglmipmbeaaGreatDoor
open Go.RowKit Go.Shelf
open Lim
structure CIs (c:CT) (m:Nat→Rat):Prop where
 t:∀ i,i < 8→IsT (c i) (m i)
 one:∀ i,i < 7→1≤m i
 zero:0≤m 7
 top:m 7≤1
def valM (c:CT):Nat→Rat:=fun i=>valQ (c i).data.toList
def txt (m:Nat→Rat):CT:=fun i=>rT (m i)
theorem seven_at {α:Type} {f:Nat→α} {i:Nat} {x:α} (h:[f 0,f 1,f 2,f 3,f 4,f 5,f 6][i]?=some x):i < 7∧x=f i:=by
 match i,h with
 | 0,h=>exact ⟨by omega,(Option.some.inj h).symm⟩
 | 1,h=>exact ⟨by omega,(Option.some.inj h).symm⟩
 | 2,h=>exact ⟨by omega,(Option.some.inj h).symm⟩
 | 3,h=>exact ⟨by omega,(Option.some.inj h).symm⟩
 | 4,h=>exact ⟨by omega,(Option.some.inj h).symm⟩
 | 5,h=>exact ⟨by omega,(Option.some.inj h).symm⟩
 | 6,h=>exact ⟨by omega,(Option.some.inj h).symm⟩
 | i+7,h=>simp at h
theorem at_seven {α:Type} (f:Nat→α) {i:Nat} (h:i < 7):[f 0,f 1,f 2,f 3,f 4,f 5,f 6][i]?=some (f i):=by
 match i,h with
 | 0,_=>rfl
 | 1,_=>rfl
 | 2,_=>rfl
 | 3,_=>rfl
 | 4,_=>rfl
 | 5,_=>rfl
 | 6,_=>rfl
theorem CIs.of {c:CT} (h:errCT c=0):CIs c (valM c):=by
 have h1:=errC_zero (ms:=[c 0,c 1,c 2,c 3,c 4,c 5,c 6]) rfl h
 have hm:∀ i,i < 7→IsT (c i) (valM c i)∧1≤valM c i:=fun i hi =>
  h1.m i (c i) (valM c i) (at_seven c hi) (by
   unfold valC
   dsimp only
   rw [List.getElem?_map,at_seven c hi]
   rfl)
 refine ⟨fun i hi=>?_,fun i hi=>(hm i hi).2,h1.zero,h1.top⟩
 by_cases h7:i=7
 ·subst h7;exact h1.l
 ·exact (hm i (by omega)).1
theorem CIs.err {c:CT} {m:Nat→Rat} (h:CIs c m):errCT c=0 :=
 CurveIs.err (c:=([m 0,m 1,m 2,m 3,m 4,m 5,m 6],m 7)) ⟨rfl,rfl,fun i a q ha hq=>by
  obtain ⟨h1,rfl⟩:=seven_at ha
  obtain ⟨_,rfl⟩:=seven_at hq
  exact ⟨h.t i (by omega),h.one i h1⟩,h.t 7 (by omega),h.zero,h.top⟩
theorem CIs.sm {c:CT} {m:Nat→Rat} (h:CIs c m):SmC c:=fun k hk=>(h.t k hk).size
theorem CIs.errs {a b:CT} {m n:Nat→Rat} (ha:CIs a m) (hb:CIs b n):errCC a b=0:=by
 unfold errCC;rw [if_neg (by rw [ha.err];decide),hb.err]
theorem cv_ext {a b:CT} (h:∀ k,k < 8→a k=b k):cv a=cv b:=congrArg Value.agg (cvA_ext h)
theorem CIs.txt_eq {c:CT} {m:Nat→Rat} (h:CIs c m) {k:Nat} (hk:k < 8):c k=txt m k:=(h.t k hk).text
def SzC (k:Nat) (m:Nat→Rat):Prop:=∀ i,i < 8→Sz k (m i)
theorem CIs.mk' {m:Nat→Rat} {k:Nat} (hs:SzC k m) (hk:k≤maxD) (h1:∀ i,i < 7→1≤m i) (h0:0≤m 7) (ht:m 7≤1):CIs (txt m) m :=
 ⟨fun i hi=>isT_rT (fits_sz.2 ((hs i hi).mono hk)),h1,h0,ht⟩
def sumM (a b:Nat→Rat):Nat→Rat:=fun i=>if i=7 then minQ (a 7+b 7) 1 else a i*b i
theorem sumM_7 (a b:Nat→Rat):sumM a b 7=minQ (a 7+b 7) 1:=if_pos rfl
theorem sumM_i (a b:Nat→Rat) {i:Nat} (h:i < 7):sumM a b i=a i*b i:=if_neg (by omega)
section
variable {a b:CT} {m n:Nat→Rat} {j k:Nat}
theorem szC_sum (sm:SzC j m) (sn:SzC k n):SzC (j+k+1) (sumM m n):=by
 intro i hi
 by_cases h:i=7
 ·subst h
  rw [sumM_7]
  have h2:=(sm 7 (by omega)).add (sn 7 (by omega))
  unfold minQ
  split
  ·exact Sz.one.mono (by omega)
  ·exact h2
 ·rw [sumM_i m n (by omega)]
  exact ((sm i hi).mul (sn i hi)).mono (by omega)
theorem sumM_is (ha:CIs a m) (hb:CIs b n) (sm:SzC j m) (sn:SzC k n) (h:j+k+1≤maxD):CIs (txt (sumM m n)) (sumM m n):=by
 refine CIs.mk' (szC_sum sm sn) h (fun i hi=>?_) ?_ ?_
 ·rw [sumM_i m n hi]
  exact mul_ge_one (ha.one i hi) (hb.one i hi)
 ·rw [sumM_7]
  have:=ha.zero;have:=hb.zero
  exact le_minQ (by grind) (by decide +kernel)
 ·rw [sumM_7]
  exact (minQ_le _ _).2
theorem maddV (ha:CIs a m) (hb:CIs b n) (sm:SzC j m) (sn:SzC k n) (h:j+k+1≤maxD) (w:World) (hr:Res w) :
  Calls Tryz.prog 58 #[cv a,cv b] w fun e w'=>e=.returned (.tuple #[cv (txt (sumM m n)),.int .i64 0])∧Below w.heap.size w w':=by
 have hs:=sumM_is ha hb sm sn h
 have h7:Sz (j+k+1) (m 7+n 7):=(sm 7 (by omega)).add (sn 7 (by omega))
 refine madd_ok a b (txt (sumM m n)) (rT (m 7+n 7)) w ha.sm hb.sm hr (by rw [ha.errs hb];rfl) (Lib.hid fun i hi=>?_) (Lib.hid ?_) (Lib.hid ?_)
 ·refine doIs_ok (runs_of Tryz.func130 (by kernel_rfl) (by kernel_rfl)) fun w hr=>mulT w (ha.t i (by omega)) (hb.t i (by omega)) ?_ hr
  have:=hs.t i (by omega)
  rwa [sumM_i m n hi] at this
 ·exact doIs_ok (runs_of Tryz.func107 (by kernel_rfl) (by kernel_rfl)) fun w hr=>addT w (ha.t 7 (by omega)) (hb.t 7 (by omega)) (isT_rT (fits_sz.2 (h7.mono h))) hr
 ·refine doIs_ok (runs_of Tryz.func143 (by kernel_rfl) (by kernel_rfl)) fun w hr=>minT w (isT_rT (fits_sz.2 (h7.mono h))) IsT.one ?_ hr
  show rT (sumM m n 7)=_
  rw [sumM_7]
  exact (rT_min (isT_rT (fits_sz.2 (h7.mono h))) IsT.one).symm
end
def noneM:Nat→Rat:=fun i=>if i=7 then 0 else 1
theorem noneT_i {i:Nat} (h:i < 7):noneT i=⟨#[49]⟩:=by unfold noneT mixC;rw [if_pos h];rfl
theorem none_cis:CIs noneT noneM:=by
 refine ⟨fun i hi=>?_,fun i hi=>?_,?_,?_⟩
 ·by_cases h:i=7
  ·subst h;exact IsT.zero
  ·rw [noneT_i (by omega),show noneM i=1 from if_neg h];exact IsT.one
 ·rw [show noneM i=1 from if_neg (by omega)];exact Rat.le_refl
 ·exact Rat.le_refl
 ·show (0:Rat)≤1;decide +kernel
theorem none_szC:SzC 1 noneM:=by
 intro i _
 unfold noneM
 split
 ·exact Sz.zero
 ·exact Sz.one
end Go.Proofs.YtigapglmipmbeaaGreatDoor
namespace Go.Proofs.YtigapglmipmbeaaGreatDoor
open Go.RowKit Go.Shelf
open Lim
attribute [local go_sem] Oper.semAt_some
def lastT (x:ByteArray):CT:=fun k=>if k=7 then x else ⟨#[]⟩
def PowIs (n:Int) (a:ByteArray) (m:Int) (r:ByteArray):Prop:=∀ (h:Nat) (w:World),Res w→Blk w h 157 #[.int .i64 n]→Calls Tryz.prog 141 #[.pointer (some ⟨h,0,none⟩),.string a,.int .i64 m] w fun e w'=>e=.returned (.string r)∧Below w.heap.size w w'
def errOf (F L:ByteArray):Nat:=if errQ F.data.toList≠0 then errQ F.data.toList else if errQ L.data.toList≠0 then errQ L.data.toList else if cmpQ (valQ F.data.toList) 1 < 0∨errU L≠0 then 2 else 0
structure OfChk (w:World) (F L:ByteArray) (W:World):Prop where
 kf:Blk W w.heap.size 23 #[.string F]
 kz:CBlk W (w.heap.size+1) zC
 ks:Blk W (w.heap.size+1+1) 23 #[.string F,.string L]
 below:Below w.heap.size w W
theorem OfChk.later {w W W':World} {F L:ByteArray} (h:OfChk w F L W) (hb:Below W.heap.size W W'):OfChk w F L W' :=
 ⟨h.kf.below hb h.kf.lt,h.kz.later hb,h.ks.below hb h.ks.lt,h.below.trans (hb.mono h.below.size)⟩
theorem OfChk.new (w:World) (F L:ByteArray):OfChk w F L (((w.alloc (.cells #[.string F] 23)).alloc (cvO zC)).alloc (.cells #[.string F,.string L] 23)):=by
 have k1:=Blk.new w 23 #[.string F]
 have k2:=CBlk.new (w.alloc (.cells #[.string F] 23)) zC
 have k3:=Blk.new ((w.alloc (.cells #[.string F] 23)).alloc (cvO zC)) 23 #[.string F,.string L]
 rw [World.size_alloc] at k2
 rw [World.size_alloc,World.size_alloc] at k3
 exact ⟨(k1.alloc _).alloc _,k2.alloc _,k3,below_alloc (below_alloc (below_alloc (Below.refl _ _) _) _) _⟩
def two2 (F L:ByteArray):Nat→ByteArray:=fun k=>if k=0 then F else L
structure OfAt (w:World) (gh gn:Nat) (F nx:ByteArray) (r:CT) (m:Nat) (W:World):Prop where
 kf:Blk W w.heap.size 23 #[.string F]
 kz:CBlk W (w.heap.size+1) zC
 kh:Blk W gh 157 #[.int .i64 0]
 kn:Blk W gn 23 #[.string nx]
 ku:CBlk W (gn+1) (mixC (lastT (r 7)) r m)
 ko:CBlk W (gn+1+1) (lastT (r 7))
 below:Below w.heap.size w W
theorem OfAt.later {w W W':World} {gh gn:Nat} {F nx:ByteArray} {r:CT} {m:Nat} (h:OfAt w gh gn F nx r m W) (hb:Below W.heap.size W W'):OfAt w gh gn F nx r m W' :=
 ⟨h.kf.below hb h.kf.lt,h.kz.later hb,h.kh.below hb h.kh.lt,h.kn.below hb h.kn.lt,h.ku.later hb,h.ko.later hb,h.below.trans (hb.mono h.below.size)⟩
theorem OfAt.cells7 {w W:World} {gh gn:Nat} {F nx:ByteArray} {r:CT} (h:OfAt w gh gn F nx r 7 W):W.cell? ⟨gn+1,0,none⟩=some (.string (r 0))∧W.cell? ⟨gn+1,1,none⟩=some (.string (r 1))∧W.cell? ⟨gn+1,2,none⟩=some (.string (r 2))∧W.cell? ⟨gn+1,3,none⟩=some (.string (r 3)) ∧
  W.cell? ⟨gn+1,4,none⟩=some (.string (r 4))∧W.cell? ⟨gn+1,5,none⟩=some (.string (r 5))∧W.cell? ⟨gn+1,6,none⟩=some (.string (r 6))∧W.cell? ⟨gn+1,7,none⟩=some (.string (r 7)):=h.ku.cells
theorem curve_ret {F:Fence} {n:Nat} {fn:Func} {tmps:Array Value} {R:Ending→World→Prop} {p u:Tmp} {W w:World} {g:Nat} {z c:CT} (hres:fn.results=#[.cell p 59,.tmp u]) (hp:tmps.getD p undef=.pointer (some ⟨g,0,none⟩)) (hz:CBlk W g z)
  (hg:w.heap.size≤g) (hB:Below w.heap.size w W) (hR:∀ W',Below w.heap.size w W'→R (.returned (.tuple #[cv c,tmps.getD u undef])) W') :
  bodyPostM F n Tryz.prog fn R .ret { tmps:=tmps,defers:=[] } (fin8 W g c) :=
 leavesM_nil ⟨_,run_cell_tmp hres hp (load_curve (fin8_blk c hz)),hR _ (fin8_below hB hg c)⟩
theorem orders_last (F:Fence) (n:Nat) (hF:F.fn 151) (hro:F.round=none) (x:ByteArray) (w:World) :
  CallsIn F n Tryz.prog 151 #[.agg #[.string ⟨#[]⟩,.string ⟨#[]⟩,.string ⟨#[]⟩,.string ⟨#[]⟩,.string ⟨#[]⟩,.string ⟨#[]⟩,.string ⟨#[]⟩,.string x]] w fun e w'=>e=.returned (.func (.func 230) #[] #[.pointer (some ⟨w.heap.size,0,none⟩)]) ∧
   w'=w.alloc (.cells #[.string ⟨#[]⟩,.string ⟨#[]⟩,.string ⟨#[]⟩,.string ⟨#[]⟩,.string ⟨#[]⟩,.string ⟨#[]⟩,.string ⟨#[]⟩,.string x] 59):=orders_in F n hF hro (lastT x) w
structure OfCh (w:World) (gh:Nat) (F:ByteArray) (W:World):Prop where
 kf:Blk W w.heap.size 23 #[.string F]
 kz:CBlk W (w.heap.size+1) zC
 kh:Blk W gh 157 #[.int .i64 0]
 below:Below w.heap.size w W
theorem OfCh.later {w W W':World} {gh:Nat} {F:ByteArray} (h:OfCh w gh F W) (hb:Below W.heap.size W W'):OfCh w gh F W' :=
 ⟨h.kf.below hb h.kf.lt,h.kz.later hb,h.kh.below hb h.kh.lt,h.below.trans (hb.mono h.below.size)⟩
theorem OfChk.chain {w W:World} {F L:ByteArray} (h:OfChk w F L W):OfCh w W.heap.size F (W.alloc (.cells #[.int .i64 0] 157)) :=
 have hb:=below_alloc (Below.refl W.heap.size W) (.cells #[.int .i64 0] 157)
 ⟨h.kf.below hb h.kf.lt,h.kz.later hb,Blk.new W 157 #[.int .i64 0],h.below.trans (hb.mono h.below.size)⟩
theorem OfCh.at {w W:World} {gh:Nat} {F nx:ByteArray} {r:CT} (h:OfCh w gh F W):OfAt w gh W.heap.size F nx r 0 (((W.alloc (.cells #[.string nx] 23)).alloc (.cells #[.string ⟨#[]⟩,.string ⟨#[]⟩,.string ⟨#[]⟩,.string ⟨#[]⟩,.string ⟨#[]⟩,.string ⟨#[]⟩,.string ⟨#[]⟩,.string (r 7)] 59)).alloc (.cells #[.string ⟨#[]⟩,.string ⟨#[]⟩,.string ⟨#[]⟩,.string ⟨#[]⟩,.string ⟨#[]⟩,.string ⟨#[]⟩,.string ⟨#[]⟩,.string (r 7)] 59)):=by
 have hb:=below_alloc (below_alloc (below_alloc (Below.refl W.heap.size W) (.cells #[.string nx] 23)) (.cells #[.string ⟨#[]⟩,.string ⟨#[]⟩,.string ⟨#[]⟩,.string ⟨#[]⟩,.string ⟨#[]⟩,.string ⟨#[]⟩,.string ⟨#[]⟩,.string (r 7)] 59)) (.cells #[.string ⟨#[]⟩,.string ⟨#[]⟩,.string ⟨#[]⟩,.string ⟨#[]⟩,.string ⟨#[]⟩,.string ⟨#[]⟩,.string ⟨#[]⟩,.string (r 7)] 59)
 have k1:=((Blk.new W 23 #[.string nx]).alloc (.cells #[.string ⟨#[]⟩,.string ⟨#[]⟩,.string ⟨#[]⟩,.string ⟨#[]⟩,.string ⟨#[]⟩,.string ⟨#[]⟩,.string ⟨#[]⟩,.string (r 7)] 59)).alloc (.cells #[.string ⟨#[]⟩,.string ⟨#[]⟩,.string ⟨#[]⟩,.string ⟨#[]⟩,.string ⟨#[]⟩,.string ⟨#[]⟩,.string ⟨#[]⟩,.string (r 7)] 59)
 have k2:CBlk _ _ (lastT (r 7)):=(CBlk.new (W.alloc (.cells #[.string nx] 23)) (lastT (r 7))).alloc (.cells #[.string ⟨#[]⟩,.string ⟨#[]⟩,.string ⟨#[]⟩,.string ⟨#[]⟩,.string ⟨#[]⟩,.string ⟨#[]⟩,.string ⟨#[]⟩,.string (r 7)] 59)
 have k3:CBlk (((W.alloc (.cells #[.string nx] 23)).alloc (.cells #[.string ⟨#[]⟩,.string ⟨#[]⟩,.string ⟨#[]⟩,.string ⟨#[]⟩,.string ⟨#[]⟩,.string ⟨#[]⟩,.string ⟨#[]⟩,.string (r 7)] 59)).alloc (.cells #[.string ⟨#[]⟩,.string ⟨#[]⟩,.string ⟨#[]⟩,.string ⟨#[]⟩,.string ⟨#[]⟩,.string ⟨#[]⟩,.string ⟨#[]⟩,.string (r 7)] 59)) ((W.alloc (.cells #[.string nx] 23)).alloc (.cells #[.string ⟨#[]⟩,.string ⟨#[]⟩,.string ⟨#[]⟩,.string ⟨#[]⟩,.string ⟨#[]⟩,.string ⟨#[]⟩,.string ⟨#[]⟩,.string (r 7)] 59)).heap.size (lastT (r 7)):=CBlk.new ((W.alloc (.cells #[.string nx] 23)).alloc (.cells #[.string ⟨#[]⟩,.string ⟨#[]⟩,.string ⟨#[]⟩,.string ⟨#[]⟩,.string ⟨#[]⟩,.string ⟨#[]⟩,.string ⟨#[]⟩,.string (r 7)] 59)) (lastT (r 7))
 rw [World.size_alloc] at k2
 rw [World.size_alloc,World.size_alloc] at k3
 exact ⟨h.kf.below hb h.kf.lt,h.kz.later hb,h.kh.below hb h.kh.lt,k1,by rw [mixC_zero];exact k2,k3,h.below.trans (hb.mono h.below.size)⟩
def ofRes (r:CT) (n:Nat):Value:=if n=0 then .tuple #[cv r,.int .i64 0] else .tuple #[cv zC,.int .i64 (n:Int)]
theorem ofRes_ok (r:CT):ofRes r 0=.tuple #[cv r,.int .i64 0]:=rfl
theorem ofRes_no (r:CT) {n:Nat} (h:n≠0):ofRes r n=.tuple #[cv zC,.int .i64 (n:Int)]:=if_neg h
theorem mof_walk (F L nx:ByteArray) (x y s r:CT) (w:World) (hF:F.size≤270000) (hL:L.size≤270000) (hr:Res w) (hr7:r 7=L)
  (HN:Hid (errOf F L=0→DoIs 0 107 F ⟨#[49]⟩ nx)) (HX:Hid (errOf F L=0→∀ i:Nat,i < 7→PowIs 0 F ((i:Int)+2) (x i))) (HY:Hid (errOf F L=0→∀ i:Nat,i < 7→PowIs 0 F (1 - ((i:Int)+2)) (y i)))
  (HS:Hid (errOf F L=0→∀ i:Nat,i < 7→DoIs 0 107 (x i) (y i) (s i))) (HD:Hid (errOf F L=0→∀ i:Nat,i < 7→DoIs 0 133 (s i) nx (r i))) :
  Calls Tryz.prog 62 #[.string F,.string L] w fun e w'=>e=.returned (ofRes r (errOf F L))∧Below w.heap.size w w':=by
 subst hr7
 have H0:=Lib.hid (OfChk.new w F (r 7))
 have HR:=Lib.hid hr
 have HSZ:=Lib.hid (And.intro hF hL)
 clear hr hF hL
 refine (callsIn_wide (n:=3)).1 ?_
 have h1:1≤3:=by omega
 have hmx:Tryz.prog.follows .mixedOrders=true:=by kernel_rfl
 refine callsIn_of_wp_marks Tryz.func62 rfl trivial ?_ rfl
 simp only [Tryz.ntmps62,List.size_toArray,List.length_cons,List.length_nil,Nat.reduceAdd,Nat.reduceSub,Array.replicate_succ,Array.replicate_zero,List.push_toArray,List.append_toArray,List.nil_append,List.cons_append]
 gi_wp2
 gi_loopw [19] (fun v19 wr=>∃ k:Nat,k≤2∧v19=.int .i64 (k:Int)∧Hid (∀ j,j < k→errQ (two2 F (r 7) j).data.toList=0)∧Hid (OfChk w F (r 7) wr)) (fun v19 _=>2 - (intOf v19).toNat)
 case atStart=>exact ⟨0,by omega,rfl,Lib.hid (fun j h=>absurd h (by omega)),H0⟩
 case round =>
  obtain ⟨k,hk,rfl,HE,HM⟩:=hrel
  clear H0
  rcases Nat.lt_or_ge k 2 with hlt|hge
  ·have hck:wr.cell? ⟨w.heap.size+1+1,k,none⟩=some (.string (two2 F (r 7) k)):=by
    have:=cells2 HM.out.ks
    match k,hlt with
    | 0,_=>exact this.1
    | 1,_=>exact this.2
   have hlt':(k:Int) < 2:=by omega
   have hsz:(two2 F (r 7) k).size≤270000:=by
    unfold two2
    split
    ·exact HSZ.out.1
    ·exact HSZ.out.2
   have hF:=ratCheck_any (two2 F (r 7) k) wr hsz (HR.out.below HM.out.below)
   by_cases he:errQ (two2 F (r 7) k).data.toList=0
   ·rw [he] at hF
    have HF:=Lib.hid hF
    have HE1:=Lib.hid he
    clear hF he hsz
    gi_wp2_with (refine ⟨trivial,?_⟩;gi_at_call 138;refine (callsIn_wide.2 HF.out).mono ?_;rintro e w1 ⟨rfl,hb⟩;have HM1:=Lib.hid (HM.out.later hb);clear hb)
    go_roundw
    case rel=>exact ⟨k+1,hlt,by go_num,Lib.hid (fun j hj=>by
     rcases Nat.lt_or_ge j k with h|h
     ·exact HE.out j h
     ·obtain rfl:j=k:=by omega
      exact HE1.out),HM1⟩
    case measure=>simp [intOf];omega
   ·have HEO:Hid (errOf F (r 7)=errQ (two2 F (r 7) k).data.toList):=Lib.hid (by
     unfold errOf
     match k,hlt,HE,he with
     | 0,_,_,he=>exact if_pos he
     | 1,_,HE,he =>
      have h0:errQ F.data.toList=0:=HE.out 0 (by omega)
      rw [if_neg (by omega)]
      exact if_pos he)
    obtain ⟨z,hz⟩:∃ z:Int,(errQ (two2 F (r 7) k).data.toList:Int)=z:=⟨_,rfl⟩
    rw [hz] at hF
    have hne:(z==0)=false:=by rw [beq_eq_false_iff_ne];omega
    have HRS:Hid (ofRes r (errOf F (r 7))=.tuple #[cv zC,.int .i64 z]):=Lib.hid (by rw [HEO.out,ofRes_no r he,hz])
    have HF:=Lib.hid hF
    clear hF he hz hsz
    gi_wp2_with (refine ⟨trivial,?_⟩;gi_at_call 138;refine (callsIn_wide.2 HF.out).mono ?_;rintro e w1 ⟨rfl,hb⟩;have HM1:=Lib.hid (HM.out.later hb);obtain ⟨z0,z1,z2,z3,z4,z5,z6,z7⟩:=HM1.out.kz.cells;obtain ⟨y0,y1,y2,y3,y4,y5,y6,y7⟩:=HM1.out.kz.frozens;clear hb)
    exact curve_ret (g:=w.heap.size+1) (c:=zC) rfl rfl HM1.out.kz (Nat.le_succ _) HM1.out.below (fun W' h=>⟨by rw [HRS.out];rfl,h⟩)
  ·obtain rfl:k=2:=by omega
   have he0:errQ F.data.toList=0:=HE.out 0 (by omega)
   have he1:errQ (r 7).data.toList=0:=HE.out 1 (by omega)
   have TF:=IsT.of he0
   have TL:=IsT.of he1
   have eo:errOf F (r 7)=if cmpQ (valQ F.data.toList) 1 < 0∨errU (r 7)≠0 then 2 else 0:=by
    unfold errOf
    rw [if_neg (by omega),if_neg (by omega)]
   have hcf:=cell0 HM.out.kf
   have HL:=Lib.hid (mleast_any wr TF (HR.out.below HM.out.below))
   have HBW:=Lib.hid (fun (w:World) hr=>between_any w TL hr)
   have HEO:=Lib.hid eo
   clear HE he0 he1 TF TL eo hk hge
   generalize hkk:cmpQ (valQ F.data.toList) 1=kk at HL HEO
   clear hkk
   by_cases hk0:0≤kk
   ·have d1:decide (0≤kk)=true:=decide_eq_true hk0
    have n1:¬ kk < 0:=by omega
    by_cases hu:errU (r 7)=0
    ·rw [hu] at HBW
     have e0:errOf F (r 7)=0:=by
      rw [HEO.out,if_neg]
      rintro (h|h)
      ·exact n1 h
      ·exact h hu
     have HN:=Lib.hid (HN.out e0)
     have HX:=Lib.hid (HX.out e0)
     have HY:=Lib.hid (HY.out e0)
     have HS:=Lib.hid (HS.out e0)
     have HD:=Lib.hid (HD.out e0)
     have HRS:Hid (ofRes r (errOf F (r 7))=.tuple #[cv r,.int .i64 0]):=Lib.hid (by rw [e0];rfl)
     clear hk0 n1 hu HEO e0
     gi_wp2_with (first
      | (refine ⟨trivial,?_⟩;gi_at_call 139;refine (callsIn_wide.2 HL.out).mono ?_;rintro e w1 ⟨rfl,hb⟩;have HM1:=Lib.hid (HM.out.later hb);clear hb)
      | (refine ⟨trivial,?_⟩;gi_at_call 158;refine (callsIn_wide.2 (HBW.out _ (HR.out.below HM1.out.below))).mono ?_;rintro e w2 ⟨rfl,hb⟩;have HM2:=Lib.hid (HM1.out.later hb);have hcf2:=cell0 HM2.out.kf;have hlf2:=HM2.out.kf.lt;clear hb hcf))
     have TK0:True:=trivial
     have H3:=Lib.hid HM2.out.chain
     gi_wp2_with ((clear TK0;refine ⟨trivial,?_⟩;gi_at_call 140;refine (callsIn_wide.2 (HN.out w2.heap.size _ (HR.out.below H3.out.below) H3.out.kh)).mono ?_;rintro e w3 ⟨rfl,hb⟩;have H4:=Lib.hid (H3.out.later hb);clear hb hcf2))
     gi_wp2_with (refine ⟨trivial,?_⟩;gi_at_call 151;refine (orders_last Fence.wide 2 trivial rfl (r 7) _).mono ?_;rintro e w' ⟨rfl,rfl⟩)
     have hI0:OfAt w w2.heap.size w3.heap.size F nx r 0 _:=H4.out.at
     have hw2:=HM2.out.kz.lt
     have hw3:=H4.out.kh.lt
     clear H3 H4 HM2 HM1 HM
     generalize ((w3.alloc (.cells #[.string nx] 23)).alloc (.cells #[.string ⟨#[]⟩,.string ⟨#[]⟩,.string ⟨#[]⟩,.string ⟨#[]⟩,.string ⟨#[]⟩,.string ⟨#[]⟩,.string ⟨#[]⟩,.string (r 7)] 59)).alloc (.cells #[.string ⟨#[]⟩,.string ⟨#[]⟩,.string ⟨#[]⟩,.string ⟨#[]⟩,.string ⟨#[]⟩,.string ⟨#[]⟩,.string ⟨#[]⟩,.string (r 7)] 59)=WR at *
     generalize w2.heap.size=gh at *
     generalize w3.heap.size=gn at *
     have HW1:=Lib.hid (And.intro hw2 hw3)
     refine wpIn_range_ord rfl h1 (gf:=230) (lb:=#[.pointer (some ⟨gn+1+1,0,none⟩)]) rfl trivial eg_orders
      (orders_seq Fence.wide 2 trivial rfl (by omega) (gn+1+1) (lastT (r 7))) (fun _=>rfl)
      (fun pre W=>OfAt w gh gn F nx r pre.length W) (fun _ _ _=>False)
      ?hG ?hI (fun _ _ _ _ _ hs _ _=>hs) hI0 ?round ?done ?stop
     case hG=>rintro pre W h;exact h.ko
     case hI =>
      rintro s W W' row h hg hr
      exact ⟨Blk.own_ h.kf hg hr,Blk.own_ h.kz hg hr,Blk.own_ h.kh hg hr,Blk.own_ h.kn hg hr,Blk.own_ h.ku hg hr,Blk.own_ h.ko hg hr,below_own_ h.below (Nat.le_refl _) (by have:=hI0.below.size;omega) hg hr⟩
     case round =>
      rintro l pre i W K hi hnx hK
      have HNX:=Lib.hid hnx
      clear hnx hI0
      gi_wp2
      refine hK _ _ (KeepsOthers.refl _) hi ?_
      clear hK hi
      rintro Wb _ hm
      obtain ⟨hpre,hi7⟩:=HNX.out
      have hlen:pre.length=i:=by rw [hpre,List.length_range]
      rw [hlen] at hm
      have HLEN:=Lib.hid hlen
      have HI7:=Lib.hid hi7
      have hcf:=cell0 hm.kf
      have HM0:=Lib.hid hm
      have hi0:(0:Int)≤(i:Int):=by omega
      have hi1:(i:Int) < 7:=by omega
      have TK1:True:=trivial
      clear hm hpre hi7 hlen
      gi_wp2_with ((clear TK1;refine ⟨trivial,?_⟩;gi_at_call 141;refine (CallsIn.inRound l (callsIn_wide.2 (HX.out i HI7.out gh Wb (HR.out.below HM0.out.below) HM0.out.kh))).mono ?_;rintro e w5 ⟨rfl,hb⟩;have HM1:=Lib.hid (HM0.out.later hb);have HB1:=Lib.hid hb;have hcg:=cell0 HM1.out.kf;clear hb hcf))
      have TK2:True:=trivial
      gi_wp2_with ((clear TK2;refine ⟨trivial,?_⟩;gi_at_call 141;refine (CallsIn.inRound l (callsIn_wide.2 (HY.out i HI7.out gh w5 (HR.out.below HM1.out.below) HM1.out.kh))).mono ?_;rintro e w6 ⟨rfl,hb⟩;have HM2:=Lib.hid (HM1.out.later hb);have HB2:=Lib.hid (HB1.out.trans (hb.mono HB1.out.size));clear hb hcg))
      gi_upto_region 17 with fail
      have hln:=HM2.out.kn.lt
      have xn:∀ x:SameAt w6 (fun k=>k < w6.heap.size∧k≠gn+1),x.W.cell? ⟨gn,0,none⟩=some (.string nx):=fun x=>x.cell ⟨hln,by omega⟩ (cell0 HM2.out.kn)
      clear hln
      refine wpIn_stage (IsSame w6 (fun k=>k < w6.heap.size∧k≠gn+1)) [0,1,2,3,5,7,8] [] hmx (by kernel_rfl) (isSame_of fun _ _=>rfl) ?_
      change wpStage _ _ _ _ _ _ _ _ (4+6) _ _ _
      refine stage_reads [0,1,2,3,5,7] 4 _ _ (by kernel_rfl) ?_
      change wpQuietIn _ _ _ _ (fun W'=>∃ x:SameAt w6 (fun k=>k < w6.heap.size∧k≠gn+1),W'=x.W) _ _ _
      simp only [pick_cons,pick_nil,List.getElem?_cons_zero,List.getElem?_cons_succ,Option.elim_some]
      repeat (gi_big_quiet_step (fail))
      refine wpQuietIn_nil ?_
      have HD0:=Lib.hid (HM2.out.later (below_drew (Below.refl w6.heap.size w6)))
      refine stage_one 4 (by kernel_rfl) rfl ?_
      gi_wp2
      refine ⟨trivial,?_⟩
      refine (CallsIn.inRound l (callsIn_wide.2 (HS.out i HI7.out gh w6.drew (HR.out.below HD0.out.below) HD0.out.kh))).mono ?_
      rintro e w20 ⟨rfl,hb⟩
      have H20:=Lib.hid (HD0.out.later hb)
      have B20:=Lib.hid (below_undrew hb)
      clear hb
      gi_wp2
      refine stage_post (isSame_below B20.out (fun k hk=>hk.1)) ?_
      refine stage_one 6 (by kernel_rfl) rfl ?_
      gi_wp2
      refine ⟨trivial,?_⟩
      refine (CallsIn.inRound l (callsIn_wide.2 (HD.out i HI7.out gh w20 (HR.out.below H20.out.below) H20.out.kh))).mono ?_
      rintro e w21 ⟨rfl,hb⟩
      have H21:=Lib.hid (H20.out.later hb)
      have B21:=Lib.hid (B20.out.trans (hb.mono B20.out.size))
      have hcu:=H21.out.ku.cell (k:=i) (Nat.lt_succ_of_lt HI7.out)
      have hfu:=H21.out.ku.frozen i
      clear hb xn
      gi_wp2
      refine stage_post (isSame_below B21.out (fun k hk=>hk.1)) ?_
      change wpStage _ _ _ _ _ _ _ _ (1+1) _ _ _
      refine stage_reads [8] 1 _ _ (by kernel_rfl) ?_
      change wpQuietIn _ _ _ _ (fun W'=>∃ x:SameAt w6 (fun k=>k < w6.heap.size∧k≠gn+1),W'=x.W) _ _ _
      simp only [pick_cons,pick_nil,List.getElem?_cons_zero,List.getElem?_cons_succ,Option.elim_some]
      repeat (gi_big_quiet_step (fail))
      refine wpQuietIn_nil ?_
      refine stage_one 9 (by kernel_rfl) rfl ?_
      gi_wp2
      refine stage_post (isSame_of fun j hj=>(set_far _ (p:=⟨gn+1,i,none⟩) hj.2 _).trans (B21.out.block j hj.1)) ?_
      refine stage_done (by kernel_rfl) ?_
      gi_wp2
      obtain ⟨hg1,hg2⟩:=HW1.out
      refine ⟨(keeps_of_below (HB2.out.trans (B21.out.mono HB2.out.size))).trans (KeepsOthers.setCell _ _ _),?_⟩
      have el:(pre++[i]).length=i+1:=by rw [List.length_append,HLEN.out];rfl
      show OfAt w gh gn F nx r (pre++[i]).length _
      rw [el]
      exact ⟨Blk.far H21.out.kf (p:=⟨gn+1,i,none⟩) (by show w.heap.size≠gn+1;omega) _,Blk.far H21.out.kz (p:=⟨gn+1,i,none⟩) (by show w.heap.size+1≠gn+1;omega) _,Blk.far H21.out.kh (p:=⟨gn+1,i,none⟩) (by show gh≠gn+1;omega) _,
       Blk.far H21.out.kn (p:=⟨gn+1,i,none⟩) (by show gn≠gn+1;omega) _,by rw [← mixC_upd];exact H21.out.ku.set_ (Nat.lt_succ_of_lt HI7.out) (r i),Blk.far H21.out.ko (p:=⟨gn+1,i,none⟩) (by show gn+1+1≠gn+1;omega) _,H21.out.below.setCell (by show w.heap.size≤gn+1;omega) _⟩
     case done =>
      rintro D ys W hD hS hm hK
      rw [hS,List.length_range] at hm
      have HM0:=Lib.hid hm
      have HKD:=Lib.hid hK
      obtain ⟨q0,q1,q2,q3,q4,q5,q6,q7⟩:=hm.cells7
      obtain ⟨z0,z1,z2,z3,z4,z5,z6,z7⟩:=hm.kz.cells
      obtain ⟨y0,y1,y2,y3,y4,y5,y6,y7⟩:=hm.kz.frozens
      have ch:=cell0 hm.kh
      have HDD:=Lib.hid (Nat.le_trans hI0.below.size hD)
      clear hS hm hK hI0
      gi_wp2
      exact curve_end (W:=W) (g:=w.heap.size+1) (c:=r) rfl rfl HM0.out.kz HDD.out HKD.out (Nat.le_succ _) HM0.out.below (fun W' h=>⟨by rw [HRS.out];rfl,h⟩)
     case stop =>
      rintro D cd pre x' W hD _ h hK
      exact h.elim
    ·have e2:errOf F (r 7)=2:=by rw [HEO.out,if_pos (.inr hu)]
     have HRS:Hid (ofRes r (errOf F (r 7))=.tuple #[cv zC,.int .i64 2]):=Lib.hid (by rw [e2];rfl)
     obtain ⟨z,hz⟩:∃ z:Int,(errU (r 7):Int)=z:=⟨_,rfl⟩
     rw [hz] at HBW
     have hne:(z==0)=false:=by rw [beq_eq_false_iff_ne];omega
     clear hk0 n1 hu HEO e2 hz HN HX HY HS HD
     gi_wp2_with (first
      | (refine ⟨trivial,?_⟩;gi_at_call 139;refine (callsIn_wide.2 HL.out).mono ?_;rintro e w1 ⟨rfl,hb⟩;have HM1:=Lib.hid (HM.out.later hb);clear hb)
      | (refine ⟨trivial,?_⟩;gi_at_call 158;refine (callsIn_wide.2 (HBW.out _ (HR.out.below HM1.out.below))).mono ?_;rintro e w2 ⟨rfl,hb⟩;have HM2:=Lib.hid (HM1.out.later hb);obtain ⟨z0,z1,z2,z3,z4,z5,z6,z7⟩:=HM2.out.kz.cells;obtain ⟨y0,y1,y2,y3,y4,y5,y6,y7⟩:=HM2.out.kz.frozens;clear hb hcf))
     exact curve_ret (g:=w.heap.size+1) (c:=zC) rfl rfl HM2.out.kz (Nat.le_succ _) HM2.out.below (fun W' h=>⟨by rw [HRS.out];rfl,h⟩)
   ·have d1:decide (0≤kk)=false:=decide_eq_false hk0
    have e2:errOf F (r 7)=2:=by rw [HEO.out,if_pos (.inl (by omega))]
    have HRS:Hid (ofRes r (errOf F (r 7))=.tuple #[cv zC,.int .i64 2]):=Lib.hid (by rw [e2];rfl)
    clear hk0 HEO e2 HN HX HY HS HD HBW
    gi_wp2_with (first|(refine ⟨trivial,?_⟩;gi_at_call 139;refine (callsIn_wide.2 HL.out).mono ?_;rintro e w1 ⟨rfl,hb⟩;have HM1:=Lib.hid (HM.out.later hb);obtain ⟨z0,z1,z2,z3,z4,z5,z6,z7⟩:=HM1.out.kz.cells;obtain ⟨y0,y1,y2,y3,y4,y5,y6,y7⟩:=HM1.out.kz.frozens;clear hb hcf)|(refine ⟨trivial,?_⟩))
    exact curve_ret (g:=w.heap.size+1) (c:=zC) rfl rfl HM1.out.kz (Nat.le_succ _) HM1.out.below (fun W' h=>⟨by rw [HRS.out];rfl,h⟩)
structure ToAt (w:World) (c:CT) (W:World):Prop where
 kc:CBlk W w.heap.size c
 kz:Blk W (w.heap.size+1) 63 #[.string ⟨#[]⟩,.string ⟨#[]⟩]
 below:Below w.heap.size w W
theorem ToAt.later {w W W':World} {c:CT} (h:ToAt w c W) (hb:Below W.heap.size W W'):ToAt w c W' :=
 ⟨h.kc.later hb,h.kz.below hb h.kz.lt,h.below.trans (hb.mono h.below.size)⟩
theorem ToAt.new (w:World) (c:CT):ToAt w c ((w.alloc (cvO c)).alloc (.cells #[.string ⟨#[]⟩,.string ⟨#[]⟩] 63)):=by
 have k1:=(CBlk.new w c).alloc (.cells #[.string ⟨#[]⟩,.string ⟨#[]⟩] 63)
 have k2:=Blk.new (w.alloc (cvO c)) 63 #[.string ⟨#[]⟩,.string ⟨#[]⟩]
 rw [World.size_alloc] at k2
 exact ⟨k1,k2,below_alloc (below_alloc (Below.refl _ _) _) _⟩
structure ToCh (w:World) (gh:Nat) (c:CT) (W:World):Prop where
 kc:CBlk W w.heap.size c
 kz:Blk W (w.heap.size+1) 63 #[.string ⟨#[]⟩,.string ⟨#[]⟩]
 kh:Blk W gh 157 #[.int .i64 0]
 below:Below w.heap.size w W
theorem ToCh.later {w W W':World} {gh:Nat} {c:CT} (h:ToCh w gh c W) (hb:Below W.heap.size W W'):ToCh w gh c W' :=
 ⟨h.kc.later hb,h.kz.below hb h.kz.lt,h.kh.below hb h.kh.lt,h.below.trans (hb.mono h.below.size)⟩
theorem ToAt.chain {w W:World} {c:CT} (h:ToAt w c W):ToCh w W.heap.size c (W.alloc (.cells #[.int .i64 0] 157)) :=
 have hb:=below_alloc (Below.refl W.heap.size W) (.cells #[.int .i64 0] 157)
 ⟨h.kc.later hb,h.kz.below hb h.kz.lt,Blk.new W 157 #[.int .i64 0],h.below.trans (hb.mono h.below.size)⟩
theorem loss_ret {F:Fence} {n:Nat} {fn:Func} {tmps:Array Value} {R:Ending→World→Prop} {p u:Tmp} {W w:World} {g:Nat} {x y a b:ByteArray} (hres:fn.results=#[.cell p 63,.tmp u]) (hp:tmps.getD p undef=.pointer (some ⟨g,0,none⟩)) (hz:Blk W g 63 #[.string x,.string y])
  (hg:w.heap.size≤g) (hB:Below w.heap.size w W) (hR:∀ W',Below w.heap.size w W'→R (.returned (.tuple #[.agg #[.string a,.string b],tmps.getD u undef])) W') :
  bodyPostM F n Tryz.prog fn R .ret { tmps:=tmps,defers:=[] } ((W.setCell ⟨g,0,none⟩ (.string a)).setCell ⟨g,1,none⟩ (.string b)) :=
 leavesM_nil ⟨_,run_cell_tmp hres hp (load_loss hz.two_set),hR _ ((hB.setCell (p:=⟨g,0,none⟩) hg _).setCell (p:=⟨g,1,none⟩) hg _)⟩
theorem mto_e4 (c:CT) (i:Nat) (hi:i < 7) (F:ByteArray) (hs:F.size≤270000) (hn:errCT c=0) (n:Int) (hf:(errQ F.data.toList:Int)=n) (hne:(n==0)=false) (w:World) (hc:SmC c) (hr:Res w) :
  Calls Tryz.prog 53 #[cv c,.int .i64 ((i:Int)+2),.string F] w fun e w'=>e=.returned (.tuple #[.agg #[.string ⟨#[]⟩,.string ⟨#[]⟩],.int .i64 n])∧Below w.heap.size w w':=by
 have H0:=Lib.hid (ToAt.new w c)
 have HR:=Lib.hid hr
 have HC:=Lib.hid (fun (w:World) hr=>mcheck_walk c w hc hr)
 obtain ⟨c0,c1,c2,c3,c4,c5,c6,c7⟩:=H0.out.kc.cells
 clear hr hc
 rw [hn] at HC
 have HF:=Lib.hid (fun (w:World) hr=>ratCheck_any F w hs hr)
 rw [hf] at HF
 have hi0:(0:Int)≤(i:Int):=by omega
 have hi1:(i:Int) < 7:=by omega
 have d1:decide ((i:Int)+2 < 2)=false:=decide_eq_false (by omega)
 have d2:decide (8 < (i:Int)+2)=false:=decide_eq_false (by omega)
 clear hn hs hf hi
 have TK0:True:=trivial
 have TK1:True:=trivial
 refine (callsIn_wide (n:=3)).1 ?_
 have h1:1≤3:=by omega
 have hmx:Tryz.prog.follows .mixedOrders=true:=by kernel_rfl
 refine callsIn_of_wp_marks Tryz.func53 rfl trivial ?_ rfl
 simp only [Tryz.ntmps53,List.size_toArray,List.length_cons,List.length_nil,Nat.reduceAdd,Nat.reduceSub,Array.replicate_succ,Array.replicate_zero,List.push_toArray,List.append_toArray,List.nil_append,List.cons_append]
 gi_wp2_with ((clear TK0;refine ⟨trivial,?_⟩;gi_at_call 137;refine (callsIn_wide.2 (HC.out _ (HR.out.below H0.out.below))).mono ?_;rintro e w1 ⟨rfl,hb⟩;have H1:=Lib.hid (H0.out.later hb); clear hb c0 c1 c2 c3 c4 c5 c6 c7))
 gi_wp2_with ((clear TK1;refine ⟨trivial,?_⟩;gi_at_call 138;refine (callsIn_wide.2 (HF.out _ (HR.out.below H1.out.below))).mono ?_;rintro e w2 ⟨rfl,hb⟩;have H2:=Lib.hid (H1.out.later hb);obtain ⟨q0,q1⟩:=cells2 H2.out.kz;have z0:=H2.out.kz.frozen 0;have z1:=H2.out.kz.frozen 1;clear hb))
 exact loss_ret (g:=w.heap.size+1) rfl rfl H2.out.kz (Nat.le_succ _) H2.out.below (fun W' h=>⟨rfl,h⟩)
theorem mto_e5 (c:CT) (i:Nat) (hi:i < 7) (F:ByteArray) (hs:F.size≤270000) (hn:errCT c=0) (hf:errQ F.data.toList=0) (hl:cmpQ (valQ F.data.toList) 1 < 0) (w:World) (hc:SmC c) (hr:Res w) :
  Calls Tryz.prog 53 #[cv c,.int .i64 ((i:Int)+2),.string F] w fun e w'=>e=.returned (.tuple #[.agg #[.string ⟨#[]⟩,.string ⟨#[]⟩],.int .i64 2])∧Below w.heap.size w w':=by
 have H0:=Lib.hid (ToAt.new w c)
 have HR:=Lib.hid hr
 have HC:=Lib.hid (fun (w:World) hr=>mcheck_walk c w hc hr)
 obtain ⟨c0,c1,c2,c3,c4,c5,c6,c7⟩:=H0.out.kc.cells
 clear hr hc
 rw [hn] at HC
 have HF:=Lib.hid (fun (w:World) hr=>ratCheck_any F w hs hr)
 rw [hf] at HF
 have HL:=Lib.hid (fun (w:World) hr=>mleast_any w (IsT.of hf) hr)
 rw [decide_eq_false (show ¬ 0≤cmpQ (valQ F.data.toList) 1 by omega)] at HL
 have hi0:(0:Int)≤(i:Int):=by omega
 have hi1:(i:Int) < 7:=by omega
 have d1:decide ((i:Int)+2 < 2)=false:=decide_eq_false (by omega)
 have d2:decide (8 < (i:Int)+2)=false:=decide_eq_false (by omega)
 clear hn hs hf hi hl
 have TK0:True:=trivial
 have TK1:True:=trivial
 have TK2:True:=trivial
 refine (callsIn_wide (n:=3)).1 ?_
 have h1:1≤3:=by omega
 have hmx:Tryz.prog.follows .mixedOrders=true:=by kernel_rfl
 refine callsIn_of_wp_marks Tryz.func53 rfl trivial ?_ rfl
 simp only [Tryz.ntmps53,List.size_toArray,List.length_cons,List.length_nil,Nat.reduceAdd,Nat.reduceSub,Array.replicate_succ,Array.replicate_zero,List.push_toArray,List.append_toArray,List.nil_append,List.cons_append]
 gi_wp2_with ((clear TK0;refine ⟨trivial,?_⟩;gi_at_call 137;refine (callsIn_wide.2 (HC.out _ (HR.out.below H0.out.below))).mono ?_;rintro e w1 ⟨rfl,hb⟩;have H1:=Lib.hid (H0.out.later hb); clear hb c0 c1 c2 c3 c4 c5 c6 c7))
 gi_wp2_with ((clear TK1;refine ⟨trivial,?_⟩;gi_at_call 138;refine (callsIn_wide.2 (HF.out _ (HR.out.below H1.out.below))).mono ?_;rintro e w2 ⟨rfl,hb⟩;have H2:=Lib.hid (H1.out.later hb); clear hb))
 gi_wp2_with ((clear TK2;refine ⟨trivial,?_⟩;gi_at_call 139;refine (callsIn_wide.2 (HL.out _ (HR.out.below H2.out.below))).mono ?_;rintro e w3 ⟨rfl,hb⟩;have H3:=Lib.hid (H2.out.later hb);obtain ⟨q0,q1⟩:=cells2 H3.out.kz;have z0:=H3.out.kz.frozen 0;have z1:=H3.out.kz.frozen 1;clear hb))
 exact loss_ret (g:=w.heap.size+1) rfl rfl H3.out.kz (Nat.le_succ _) H3.out.below (fun W' h=>⟨rfl,h⟩)
theorem mto_ok (c:CT) (i:Nat) (hi:i < 7) (F:ByteArray) (hs:F.size≤270000) (hn:errCT c=0) (hf:errQ F.data.toList=0) (hl:¬ cmpQ (valQ F.data.toList) 1 < 0) (t1 t2 A B sh pw u1 xx nx lt dd de:ByteArray)
  (I1:Hid (∀ w,Res w→Calls Tryz.prog 142 #[.int .i64 ((i:Int)+1)] w fun e w'=>e=.returned (.string t1)∧Below w.heap.size w w')) (I2:Hid (∀ w,Res w→Calls Tryz.prog 142 #[.int .i64 ((i:Int)+2)] w fun e w'=>e=.returned (.string t2)∧Below w.heap.size w w'))
  (P1:Hid (PowIs 0 t1 ((i:Int)+1) A)) (P2:Hid (PowIs 0 t2 ((i:Int)+2) B)) (D1:Hid (DoIs 0 133 A B sh)) (P3:Hid (PowIs 0 F ((i:Int)+1) pw)) (D2:Hid (DoIs 0 130 (c i) sh u1)) (D3:Hid (DoIs 0 133 u1 pw xx))
  (D4:Hid (DoIs 0 107 F ⟨#[49]⟩ nx)) (D5:Hid (DoIs 0 130 nx (c 7) lt)) (D6:Hid (DoIs 0 107 xx lt dd)) (D7:Hid (DoIs 0 143 dd ⟨#[49]⟩ de)) (w:World) (hc:SmC c) (hr:Res w) :
  Calls Tryz.prog 53 #[cv c,.int .i64 ((i:Int)+2),.string F] w fun e w'=>e=.returned (.tuple #[.agg #[.string F,.string de],.int .i64 0])∧Below w.heap.size w w':=by
 have H0:=Lib.hid (ToAt.new w c)
 have HR:=Lib.hid hr
 have HC:=Lib.hid (fun (w:World) hr=>mcheck_walk c w hc hr)
 obtain ⟨c0,c1,c2,c3,c4,c5,c6,c7⟩:=H0.out.kc.cells
 clear hr hc
 rw [hn] at HC
 have HF:=Lib.hid (fun (w:World) hr=>ratCheck_any F w hs hr)
 rw [hf] at HF
 have HL:=Lib.hid (fun (w:World) hr=>mleast_any w (IsT.of hf) hr)
 rw [decide_eq_true (show 0≤cmpQ (valQ F.data.toList) 1 by omega)] at HL
 have hi0:(0:Int)≤(i:Int):=by omega
 have hi1:(i:Int) < 7:=by omega
 have d1:decide ((i:Int)+2 < 2)=false:=decide_eq_false (by omega)
 have d2:decide (8 < (i:Int)+2)=false:=decide_eq_false (by omega)
 have e21:(i:Int)+2 - 1=(i:Int)+1:=by omega
 have e22:(i:Int)+2 - 2=(i:Int):=by omega
 clear hn hs hf hl
 have TK0:True:=trivial
 have TK1:True:=trivial
 have TK2:True:=trivial
 have TK3:True:=trivial
 have TK4:True:=trivial
 have TK5:True:=trivial
 have TK6:True:=trivial
 have TK7:True:=trivial
 have TK8:True:=trivial
 have TK9:True:=trivial
 have TK10:True:=trivial
 have TK11:True:=trivial
 have TK12:True:=trivial
 have TK13:True:=trivial
 have TK14:True:=trivial
 have TK15:True:=trivial
 refine (callsIn_wide (n:=3)).1 ?_
 have h1:1≤3:=by omega
 have hmx:Tryz.prog.follows .mixedOrders=true:=by kernel_rfl
 refine callsIn_of_wp_marks Tryz.func53 rfl trivial ?_ rfl
 simp only [Tryz.ntmps53,List.size_toArray,List.length_cons,List.length_nil,Nat.reduceAdd,Nat.reduceSub,Array.replicate_succ,Array.replicate_zero,List.push_toArray,List.append_toArray,List.nil_append,List.cons_append]
 gi_wp2_with ((clear TK0;refine ⟨trivial,?_⟩;gi_at_call 137;refine (callsIn_wide.2 (HC.out _ (HR.out.below H0.out.below))).mono ?_;rintro e w1 ⟨rfl,hb⟩;have H1:=Lib.hid (H0.out.later hb); clear hb c0 c1 c2 c3 c4 c5 c6 c7))
 gi_wp2_with ((clear TK1;refine ⟨trivial,?_⟩;gi_at_call 138;refine (callsIn_wide.2 (HF.out _ (HR.out.below H1.out.below))).mono ?_;rintro e w2 ⟨rfl,hb⟩;have H2:=Lib.hid (H1.out.later hb); clear hb))
 gi_wp2_with ((clear TK2;refine ⟨trivial,?_⟩;gi_at_call 139;refine (callsIn_wide.2 (HL.out _ (HR.out.below H2.out.below))).mono ?_;rintro e w3 ⟨rfl,hb⟩;have H3:=Lib.hid (H2.out.later hb).chain;clear hb))
 gi_wp2_with ((clear TK3;refine ⟨trivial,?_⟩;gi_at_call 142;refine (callsIn_wide.2 (I1.out (w3.alloc (.cells #[.int .i64 0] 157)) (HR.out.below H3.out.below))).mono ?_;rintro e w4 ⟨rfl,hb⟩;have H4:=Lib.hid (H3.out.later hb);clear hb))
 gi_wp2_with ((clear TK4;refine ⟨trivial,?_⟩;gi_at_call 141;refine (callsIn_wide.2 (P1.out w3.heap.size w4 (HR.out.below H4.out.below) H4.out.kh)).mono ?_;rintro e w5 ⟨rfl,hb⟩;have H5:=Lib.hid (H4.out.later hb);clear hb))
 gi_wp2_with ((clear TK5;refine ⟨trivial,?_⟩;gi_at_call 142;refine (callsIn_wide.2 (I2.out w5 (HR.out.below H5.out.below))).mono ?_;rintro e w6 ⟨rfl,hb⟩;have H6:=Lib.hid (H5.out.later hb);clear hb))
 gi_wp2_with ((clear TK6;refine ⟨trivial,?_⟩;gi_at_call 141;refine (callsIn_wide.2 (P2.out w3.heap.size w6 (HR.out.below H6.out.below) H6.out.kh)).mono ?_;rintro e w7 ⟨rfl,hb⟩;have H7:=Lib.hid (H6.out.later hb);clear hb))
 gi_wp2_with ((clear TK7;refine ⟨trivial,?_⟩;gi_at_call 140;refine (callsIn_wide.2 (D1.out w3.heap.size w7 (HR.out.below H7.out.below) H7.out.kh)).mono ?_;rintro e w8 ⟨rfl,hb⟩;have H8:=Lib.hid (H7.out.later hb);clear hb))
 gi_wp2_with ((clear TK8;refine ⟨trivial,?_⟩;gi_at_call 141;refine (callsIn_wide.2 (P3.out w3.heap.size w8 (HR.out.below H8.out.below) H8.out.kh)).mono ?_;rintro e w9 ⟨rfl,hb⟩;have H9:=Lib.hid (H8.out.later hb);have ci:=H9.out.kc.cell (k:=i) (by omega);clear hb))
 gi_wp2_with ((clear TK9;refine ⟨trivial,?_⟩;gi_at_call 140;refine (callsIn_wide.2 (D2.out w3.heap.size w9 (HR.out.below H9.out.below) H9.out.kh)).mono ?_;rintro e w10 ⟨rfl,hb⟩;have H10:=Lib.hid (H9.out.later hb);clear ci;clear hb))
 gi_wp2_with ((clear TK10;refine ⟨trivial,?_⟩;gi_at_call 140;refine (callsIn_wide.2 (D3.out w3.heap.size w10 (HR.out.below H10.out.below) H10.out.kh)).mono ?_;rintro e w11 ⟨rfl,hb⟩;have H11:=Lib.hid (H10.out.later hb);clear hb))
 gi_upto_region 15 with fail
 have hlc:=H11.out.kc.lt
 have x7:∀ x:SameAt w11 (fun k=>k < w11.heap.size),x.W.cell? ⟨w.heap.size,7,none⟩=some (.string (c 7)):=fun x=>x.cell hlc (H11.out.kc.cell (by omega))
 clear hlc
 refine wpIn_stage (IsSame w11 (fun k=>k < w11.heap.size)) [0,2,3] [] hmx (by kernel_rfl) (isSame_of fun _ _=>rfl) ?_
 change wpStage _ _ _ _ _ _ _ _ (3+3) _ _ _
 refine stage_reads [0,2,3] 3 _ _ (by kernel_rfl) ?_
 change wpQuietIn _ _ _ _ (fun W'=>∃ x:SameAt w11 (fun k=>k < w11.heap.size),W'=x.W) _ _ _
 simp only [pick_cons,pick_nil,List.getElem?_cons_zero,List.getElem?_cons_succ,Option.elim_some]
 repeat (gi_big_quiet_step (fail))
 refine wpQuietIn_nil ?_
 have HD:=Lib.hid (H11.out.later (below_drew (Below.refl w11.heap.size w11)))
 refine stage_one 1 (by kernel_rfl) rfl ?_
 gi_wp2
 refine ⟨trivial,?_⟩
 refine (callsIn_wide.2 (D4.out w3.heap.size w11.drew (HR.out.below HD.out.below) HD.out.kh)).mono ?_
 rintro e w20 ⟨rfl,hb⟩
 have H20:=Lib.hid (HD.out.later hb)
 have B20:=Lib.hid (below_undrew hb)
 clear hb
 gi_wp2
 refine stage_post (isSame_below B20.out (fun k hk=>hk)) ?_
 refine stage_one 4 (by kernel_rfl) rfl ?_
 gi_wp2
 refine ⟨trivial,?_⟩
 refine (callsIn_wide.2 (D5.out w3.heap.size w20 (HR.out.below H20.out.below) H20.out.kh)).mono ?_
 rintro e w21 ⟨rfl,hb⟩
 have H21:=Lib.hid (H20.out.later hb)
 have B21:=Lib.hid (B20.out.trans (hb.mono B20.out.size))
 clear hb
 gi_wp2
 refine stage_post (isSame_below B21.out (fun k hk=>hk)) ?_
 refine stage_one 5 (by kernel_rfl) rfl ?_
 gi_wp2
 refine stage_post (isSame_below B21.out (fun k hk=>hk)) ?_
 refine stage_done (by kernel_rfl) ?_
 clear x7
 gi_wp2_with ((clear TK11;refine ⟨trivial,?_⟩;gi_at_call 140;refine (callsIn_wide.2 (D6.out w3.heap.size w21 (HR.out.below H21.out.below) H21.out.kh)).mono ?_;rintro e w22 ⟨rfl,hb⟩;have H22:=Lib.hid (H21.out.later hb);clear hb))
 gi_wp2_with ((clear TK12;refine ⟨trivial,?_⟩;gi_at_call 140;refine (callsIn_wide.2 (D7.out w3.heap.size w22 (HR.out.below H22.out.below) H22.out.kh)).mono ?_;rintro e w23 ⟨rfl,hb⟩;have H23:=Lib.hid (H22.out.later hb);have ch:=cell0 H23.out.kh;clear hb))
 gi_wp2_with ((clear TK13;refine ⟨trivial,?_⟩;gi_at_call 144;refine (callsIn_wide.2 (none_any w23)).mono ?_;rintro e w24 ⟨rfl,hb⟩;have H24:=Lib.hid (H23.out.later hb);obtain ⟨q0,q1⟩:=cells2 H24.out.kz;have z0:=H24.out.kz.frozen 0;have z1:=H24.out.kz.frozen 1;have hl:=H24.out.kz.lt;clear hb ch))
 exact leavesM_nil ⟨_,run_cell_tmp rfl rfl (load_loss (H24.out.kz.two_set.alloc _)),rfl,below_alloc ((H24.out.below.setCell (p:=⟨w.heap.size+1,0,none⟩) (Nat.le_succ _) _).setCell (p:=⟨w.heap.size+1,1,none⟩) (Nat.le_succ _) _) _⟩
end Go.Proofs.YtigapglmipmbeaaGreatDoor
