/- A ledger of two accounts, a and b: its memory; find, Spent, Charges (printed by mkledm.py). The ledger: clones of accounts and of states; Index and Contains of short lists (printed by mkledc.py). ledger.New at the two accounts of the chapter's examples (printed by mkledw.py). The ledger: valid; an account's after (printed by mkledt.py). The ledger: try and Reserve of one name (printed by mkledr.py). The reference's rational numbers: Reduce, Negative, Over, Times, Plus (printed by mkrq.py). The reference's Negative (printed by mkrqn.py). The reference: two, Order. -/
import Derived.Test.YtigapglmipmbeaaGreatDoorLwLedgerKnown10
import Derived.Maps.OwnOps
import Derived.StringKeys
import Derived.LoopN
import Derived.Maps.OwnIn
import Derived.Lib.SmallJoins
import Derived.Test.YtigapglmipmbeaaGreatDoorLwLedgerKnown09
import Derived.Test.YtigapglmipmbeaaGreatDoorLwLedgerKnown07
import Derived.Test.YtigapglmipmbeaaGreatDoorLwLedgerKnown08
set_option maxRecDepth 100000
set_option maxHeartbeats 16000000
namespace Go.Proofs.YtigapglmipmbeaaGreatDoor
open Go.RowKit Go.Shelf
open Lim
inductive St where
 | dir (lf ld f d:ByteArray) (n:Int)
 | cur (lf ld:ByteArray) (c:CT) (o n:Int)
def St.val:St→Value
 | .dir lf ld f d n=>.iface 206 (.agg #[.string lf,.string ld,.string f,.string d,.int .i64 n])
 | .cur lf ld c o n=>.iface 209 (.agg #[.string lf,.string ld,.string (c 0),.string (c 1),.string (c 2),.string (c 3),.string (c 4),.string (c 5),.string (c 6),.string (c 7),.int .i64 o,.int .i64 n])
theorem St.one (s:St):s.val.oneCell'=true:=by cases s<;>rfl
def kA:Lit:=.string [97]
def kB:Lit:=.string [98]
def ixD1:DataW Unit:=(DataW.map []:DataW Unit).put kA (.lit (.int .i64 0))
def ixD:DataW Unit:=ixD1.put kB (.lit (.int .i64 1))
theorem ixD_a:ixD.atKey kA (.lit (.int .i64 0))=.lit (.int .i64 0):=by rfl
theorem ixD_b:ixD.atKey kB (.lit (.int .i64 0))=.lit (.int .i64 1):=by rfl
theorem has_a:Maps.has ixD kA=true:=by rfl
theorem has_b:Maps.has ixD kB=true:=by rfl
theorem lawN:Maps.Keyed Tryz.prog 9:=Maps.string_keyed Tryz.underlying9
theorem zeroN (w:World):(zeroValue 3).run Tryz.prog w=.ok (.int .i64 0) w:=by kernel_rfl
theorem keyA:keyOf Tryz.prog 9 (.string ⟨#[97]⟩)=some kA:=WideMaps.keyOf_string_mk Tryz.underlying9 (by decide)
theorem keyB:keyOf Tryz.prog 9 (.string ⟨#[98]⟩)=some kB:=WideMaps.keyOf_string_mk Tryz.underlying9 (by decide)
theorem own_later {base n size:Nat} {w w':World} {e:TypeId} {v:Value} {xs:List Value} (h:w.ownsRow base e size v n xs) (hb:Below w.heap.size w w'):w'.ownsRow base e size v n xs:=by
 refine World.ownsRow.kept h (grown_none' hb none) ?_
 cases v.ownBlock with
 | none=>exact .inl rfl
 | some g=>exact .inr (by simp)
theorem map_later {w w':World} {k:TypeId} {R:Value→Option (DataW Unit × List MemPlace)} {b n:Nat} {D:DataW Unit} (h:w.ownsMap Tryz.prog k R b n D) (hb:Below w.heap.size w w'):w'.ownsMap Tryz.prog k R b n D :=
 h.kept (grown_none' hb none) (by simp)
def Led (w:World) (g:Nat) (s0 s1:St):Prop :=
 ∃ A n c mb v,Blk w g 111 #[.slice A n c,.map (some mb),v]∧w.ownsMap Tryz.prog 9 (plainElem Tryz.prog 3) mb 2 ixD∧w.ownsRow 0 199 1 v 2 [s0.val,s1.val]
theorem Led.later {w w':World} {g:Nat} {s0 s1:St} (h:Led w g s0 s1) (hb:Below w.heap.size w w'):Led w' g s0 s1:=by
 obtain ⟨A,n,c,mb,v,h1,h2,h3⟩:=h
 exact ⟨A,n,c,mb,v,h1.below hb h1.lt,map_later h2 hb,own_later h3 hb⟩
theorem Led.lt {w:World} {g:Nat} {s0 s1:St} (h:Led w g s0 s1):g < w.heap.size:=by
 obtain ⟨A,n,c,mb,v,h1,h2,h3⟩:=h
 exact h1.lt
theorem row_two {w:World} {base:Nat} {v x y:Value} (h:w.ownsRow base 199 1 v 2 [x,y]):∃ g c,v=.slice (some ⟨g,0,none⟩) 2 c∧base≤g∧g < w.heap.size∧w.cell? ⟨g,0,none⟩=some x∧w.cell? ⟨g,1,none⟩=some y:=by
 obtain ⟨g,c,rfl⟩:=ownsRow_succ h
 obtain ⟨h1,h2⟩:=World.ownsRow.lt h g rfl
 exact ⟨g,c,rfl,h1,h2,World.ownsRow.cellAt h 0 (by omega),World.ownsRow.cellAt h 1 (by omega)⟩
theorem gnone_led (g:Nat) (s0 s1:St) (w:World) (h:Led w g s0 s1):Calls Tryz.prog 184 #[.pointer (some ⟨g,0,none⟩)] w fun e w'=>e=.returned (.bool false)∧w'=w:=by
 have qM:=mapNil
 obtain ⟨A,n,c,mb,v,h1,h2,h3⟩:=h
 have p1:w.cell? ⟨g,1,none⟩=some (.map (some mb)):=h1.cell 1
 have hl:=h1.lt
 clear h1 h2 h3
 go_enter Tryz.func184,Tryz.ntmps184
 go_wp2
 go_ret
 exact ⟨rfl,rfl⟩
theorem gfind_a (g:Nat) (s0 s1:St) (w:World) (h:Led w g s0 s1):Calls Tryz.prog 180 #[.pointer (some ⟨g,0,none⟩),.string ⟨#[97]⟩] w fun e w'=>e=.returned (.tuple #[s0.val,.bool true])∧w'=w:=by
 have HN:=Lib.hid (gnone_led g s0 s1 w h)
 obtain ⟨A,n,c,mb,v,h1,h2,h3⟩:=h
 have p1:w.cell? ⟨g,1,none⟩=some (.map (some mb)):=h1.cell 1
 have p2:w.cell? ⟨g,2,none⟩=some v:=h1.cell 2
 have hl:=h1.lt
 have HM:=Lib.hid h2
 obtain ⟨gs,cs,rfl,_,hgl,r0,r1⟩:=row_two h3
 clear h1 h2 h3
 go_enter Tryz.func180,Tryz.ntmps180
 go_wp2_with (first
  | (go_at_call 184;refine HN.out.mono ?_;rintro e w1 ⟨rfl,rfl⟩)
  | (at_lookup;refine wpList_lookup_own_ok_int _ rfl _ _ 108 rfl 9 3 .i64 lawN Tryz.underlying108 Tryz.underlying3 (zeroN _) mb 2 ixD rfl HM.out _ _ rfl keyA ?_;intro ci hat hwc;rw [ixD_a] at hat;simp only [DataW.lit.injEq,Lit.int.injEq,true_and] at hat;subst hat;rw [has_a];clear hwc))
 go_ret2
 exact ⟨rfl,rfl⟩
theorem gfind_b (g:Nat) (s0 s1:St) (w:World) (h:Led w g s0 s1):Calls Tryz.prog 180 #[.pointer (some ⟨g,0,none⟩),.string ⟨#[98]⟩] w fun e w'=>e=.returned (.tuple #[s1.val,.bool true])∧w'=w:=by
 have HN:=Lib.hid (gnone_led g s0 s1 w h)
 obtain ⟨A,n,c,mb,v,h1,h2,h3⟩:=h
 have p1:w.cell? ⟨g,1,none⟩=some (.map (some mb)):=h1.cell 1
 have p2:w.cell? ⟨g,2,none⟩=some v:=h1.cell 2
 have hl:=h1.lt
 have HM:=Lib.hid h2
 obtain ⟨gs,cs,rfl,_,hgl,r0,r1⟩:=row_two h3
 clear h1 h2 h3
 go_enter Tryz.func180,Tryz.ntmps180
 go_wp2_with (first
  | (go_at_call 184;refine HN.out.mono ?_;rintro e w1 ⟨rfl,rfl⟩)
  | (at_lookup;refine wpList_lookup_own_ok_int _ rfl _ _ 108 rfl 9 3 .i64 lawN Tryz.underlying108 Tryz.underlying3 (zeroN _) mb 2 ixD rfl HM.out _ _ rfl keyB ?_;intro ci hat hwc;rw [ixD_b] at hat;simp only [DataW.lit.injEq,Lit.int.injEq,true_and] at hat;subst hat;rw [has_b];clear hwc))
 go_ret2
 exact ⟨rfl,rfl⟩
theorem dspent_any (lf ld f d:ByteArray) (n:Int) (w:World):Calls Tryz.prog 380 #[.agg #[.string lf,.string ld,.string f,.string d,.int .i64 n]] w fun e w'=>e=.returned (.agg #[.string f,.string d])∧Below w.heap.size w w':=by
 have B0:=Blk.new w 206 #[.string lf,.string ld,.string f,.string d,.int .i64 n]
 have B1:=B0.alloc (.cells #[.string ⟨#[]⟩,.string ⟨#[]⟩] 63)
 have B2:=Blk.new (w.alloc (.cells #[.string lf,.string ld,.string f,.string d,.int .i64 n] 206)) 63 #[.string ⟨#[]⟩,.string ⟨#[]⟩]
 rw [World.size_alloc] at B2
 have b0:((w.alloc (.cells #[.string lf,.string ld,.string f,.string d,.int .i64 n] 206)).alloc (.cells #[.string ⟨#[]⟩,.string ⟨#[]⟩] 63)).cell? ⟨w.heap.size,0,none⟩=some (.string lf):=B1.cell 0
 have b1:((w.alloc (.cells #[.string lf,.string ld,.string f,.string d,.int .i64 n] 206)).alloc (.cells #[.string ⟨#[]⟩,.string ⟨#[]⟩] 63)).cell? ⟨w.heap.size,1,none⟩=some (.string ld):=B1.cell 1
 have b2:((w.alloc (.cells #[.string lf,.string ld,.string f,.string d,.int .i64 n] 206)).alloc (.cells #[.string ⟨#[]⟩,.string ⟨#[]⟩] 63)).cell? ⟨w.heap.size,2,none⟩=some (.string f):=B1.cell 2
 have b3:((w.alloc (.cells #[.string lf,.string ld,.string f,.string d,.int .i64 n] 206)).alloc (.cells #[.string ⟨#[]⟩,.string ⟨#[]⟩] 63)).cell? ⟨w.heap.size,3,none⟩=some (.string d):=B1.cell 3
 have b4:((w.alloc (.cells #[.string lf,.string ld,.string f,.string d,.int .i64 n] 206)).alloc (.cells #[.string ⟨#[]⟩,.string ⟨#[]⟩] 63)).cell? ⟨w.heap.size,4,none⟩=some (.int .i64 n):=B1.cell 4
 have bl:=B1.lt
 obtain ⟨c0,c1⟩:=cells2 B2
 have f0:=B2.frozen 0
 have f1:=B2.frozen 1
 have cl:=B2.lt
 have HB:=Lib.hid (below_alloc (below_alloc (Below.refl w.heap.size w) (.cells #[.string lf,.string ld,.string f,.string d,.int .i64 n] 206)) (.cells #[.string ⟨#[]⟩,.string ⟨#[]⟩] 63))
 have HB3:=Lib.hid (show Blk ((w.alloc (.cells #[.string lf,.string ld,.string f,.string d,.int .i64 n] 206)).alloc (.cells #[.string f,.string d] 63)) (w.heap.size+1) 63 #[.string f,.string d] from by have:=Blk.new (w.alloc (.cells #[.string lf,.string ld,.string f,.string d,.int .i64 n] 206)) 63 #[.string f,.string d];rwa [World.size_alloc] at this)
 clear B0 B1 B2
 go_enter Tryz.func380,Tryz.ntmps380
 go_wp2
 refine bodyPost_ret (run_cell rfl rfl (load_loss HB3.out)) rfl ⟨rfl,below_alloc (below_alloc (Below.refl _ _) _) _⟩
theorem dcharges_any (lf ld f d:ByteArray) (n:Int) (w:World):Calls Tryz.prog 379 #[.agg #[.string lf,.string ld,.string f,.string d,.int .i64 n]] w fun e w'=>e=.returned (.int .i64 n)∧Below w.heap.size w w':=by
 have B1:=Blk.new w 206 #[.string lf,.string ld,.string f,.string d,.int .i64 n]
 have b0:(w.alloc (.cells #[.string lf,.string ld,.string f,.string d,.int .i64 n] 206)).cell? ⟨w.heap.size,0,none⟩=some (.string lf):=B1.cell 0
 have b1:(w.alloc (.cells #[.string lf,.string ld,.string f,.string d,.int .i64 n] 206)).cell? ⟨w.heap.size,1,none⟩=some (.string ld):=B1.cell 1
 have b2:(w.alloc (.cells #[.string lf,.string ld,.string f,.string d,.int .i64 n] 206)).cell? ⟨w.heap.size,2,none⟩=some (.string f):=B1.cell 2
 have b3:(w.alloc (.cells #[.string lf,.string ld,.string f,.string d,.int .i64 n] 206)).cell? ⟨w.heap.size,3,none⟩=some (.string d):=B1.cell 3
 have b4:(w.alloc (.cells #[.string lf,.string ld,.string f,.string d,.int .i64 n] 206)).cell? ⟨w.heap.size,4,none⟩=some (.int .i64 n):=B1.cell 4
 have bl:=B1.lt
 clear B1
 go_enter Tryz.func379,Tryz.ntmps379
 go_wp2
 go_ret
 exact ⟨rfl,below_alloc (Below.refl _ _) _⟩
theorem ccharges_any (lf ld:ByteArray) (c:CT) (o n:Int) (w:World):Calls Tryz.prog 383 #[.agg #[.string lf,.string ld,.string (c 0),.string (c 1),.string (c 2),.string (c 3),.string (c 4),.string (c 5),.string (c 6),.string (c 7),.int .i64 o,.int .i64 n]] w fun e w'=>e=.returned (.int .i64 n)∧Below w.heap.size w w':=by
 have B1:=Blk.new w 209 #[.string lf,.string ld,.string (c 0),.string (c 1),.string (c 2),.string (c 3),.string (c 4),.string (c 5),.string (c 6),.string (c 7),.int .i64 o,.int .i64 n]
 have b0:(w.alloc (.cells #[.string lf,.string ld,.string (c 0),.string (c 1),.string (c 2),.string (c 3),.string (c 4),.string (c 5),.string (c 6),.string (c 7),.int .i64 o,.int .i64 n] 209)).cell? ⟨w.heap.size,0,none⟩=some (.string lf):=B1.cell 0
 have b1:(w.alloc (.cells #[.string lf,.string ld,.string (c 0),.string (c 1),.string (c 2),.string (c 3),.string (c 4),.string (c 5),.string (c 6),.string (c 7),.int .i64 o,.int .i64 n] 209)).cell? ⟨w.heap.size,1,none⟩=some (.string ld):=B1.cell 1
 have b2:(w.alloc (.cells #[.string lf,.string ld,.string (c 0),.string (c 1),.string (c 2),.string (c 3),.string (c 4),.string (c 5),.string (c 6),.string (c 7),.int .i64 o,.int .i64 n] 209)).cell? ⟨w.heap.size,2,none⟩=some (.string (c 0)):=B1.cell 2
 have b3:(w.alloc (.cells #[.string lf,.string ld,.string (c 0),.string (c 1),.string (c 2),.string (c 3),.string (c 4),.string (c 5),.string (c 6),.string (c 7),.int .i64 o,.int .i64 n] 209)).cell? ⟨w.heap.size,3,none⟩=some (.string (c 1)):=B1.cell 3
 have b4:(w.alloc (.cells #[.string lf,.string ld,.string (c 0),.string (c 1),.string (c 2),.string (c 3),.string (c 4),.string (c 5),.string (c 6),.string (c 7),.int .i64 o,.int .i64 n] 209)).cell? ⟨w.heap.size,4,none⟩=some (.string (c 2)):=B1.cell 4
 have b5:(w.alloc (.cells #[.string lf,.string ld,.string (c 0),.string (c 1),.string (c 2),.string (c 3),.string (c 4),.string (c 5),.string (c 6),.string (c 7),.int .i64 o,.int .i64 n] 209)).cell? ⟨w.heap.size,5,none⟩=some (.string (c 3)):=B1.cell 5
 have b6:(w.alloc (.cells #[.string lf,.string ld,.string (c 0),.string (c 1),.string (c 2),.string (c 3),.string (c 4),.string (c 5),.string (c 6),.string (c 7),.int .i64 o,.int .i64 n] 209)).cell? ⟨w.heap.size,6,none⟩=some (.string (c 4)):=B1.cell 6
 have b7:(w.alloc (.cells #[.string lf,.string ld,.string (c 0),.string (c 1),.string (c 2),.string (c 3),.string (c 4),.string (c 5),.string (c 6),.string (c 7),.int .i64 o,.int .i64 n] 209)).cell? ⟨w.heap.size,7,none⟩=some (.string (c 5)):=B1.cell 7
 have b8:(w.alloc (.cells #[.string lf,.string ld,.string (c 0),.string (c 1),.string (c 2),.string (c 3),.string (c 4),.string (c 5),.string (c 6),.string (c 7),.int .i64 o,.int .i64 n] 209)).cell? ⟨w.heap.size,8,none⟩=some (.string (c 6)):=B1.cell 8
 have b9:(w.alloc (.cells #[.string lf,.string ld,.string (c 0),.string (c 1),.string (c 2),.string (c 3),.string (c 4),.string (c 5),.string (c 6),.string (c 7),.int .i64 o,.int .i64 n] 209)).cell? ⟨w.heap.size,9,none⟩=some (.string (c 7)):=B1.cell 9
 have b10:(w.alloc (.cells #[.string lf,.string ld,.string (c 0),.string (c 1),.string (c 2),.string (c 3),.string (c 4),.string (c 5),.string (c 6),.string (c 7),.int .i64 o,.int .i64 n] 209)).cell? ⟨w.heap.size,10,none⟩=some (.int .i64 o):=B1.cell 10
 have b11:(w.alloc (.cells #[.string lf,.string ld,.string (c 0),.string (c 1),.string (c 2),.string (c 3),.string (c 4),.string (c 5),.string (c 6),.string (c 7),.int .i64 o,.int .i64 n] 209)).cell? ⟨w.heap.size,11,none⟩=some (.int .i64 n):=B1.cell 11
 have bl:=B1.lt
 clear B1
 go_enter Tryz.func383,Tryz.ntmps383
 go_wp2
 go_ret
 exact ⟨rfl,below_alloc (Below.refl _ _) _⟩
theorem cspent_none (lf ld:ByteArray) (c:CT) (o:Int) (w:World):Calls Tryz.prog 384 #[.agg #[.string lf,.string ld,.string (c 0),.string (c 1),.string (c 2),.string (c 3),.string (c 4),.string (c 5),.string (c 6),.string (c 7),.int .i64 o,.int .i64 0]] w fun e w'=>e=.returned (.agg #[.string ⟨#[49]⟩,.string ⟨#[48]⟩])∧Below w.heap.size w w':=by
 have B0:=Blk.new w 209 #[.string lf,.string ld,.string (c 0),.string (c 1),.string (c 2),.string (c 3),.string (c 4),.string (c 5),.string (c 6),.string (c 7),.int .i64 o,.int .i64 0]
 have B1:=B0.alloc (.cells #[.string ⟨#[]⟩,.string ⟨#[]⟩] 63)
 have B2:=Blk.new (w.alloc (.cells #[.string lf,.string ld,.string (c 0),.string (c 1),.string (c 2),.string (c 3),.string (c 4),.string (c 5),.string (c 6),.string (c 7),.int .i64 o,.int .i64 0] 209)) 63 #[.string ⟨#[]⟩,.string ⟨#[]⟩]
 rw [World.size_alloc] at B2
 have b0:((w.alloc (.cells #[.string lf,.string ld,.string (c 0),.string (c 1),.string (c 2),.string (c 3),.string (c 4),.string (c 5),.string (c 6),.string (c 7),.int .i64 o,.int .i64 0] 209)).alloc (.cells #[.string ⟨#[]⟩,.string ⟨#[]⟩] 63)).cell? ⟨w.heap.size,0,none⟩=some (.string lf):=B1.cell 0
 have b1:((w.alloc (.cells #[.string lf,.string ld,.string (c 0),.string (c 1),.string (c 2),.string (c 3),.string (c 4),.string (c 5),.string (c 6),.string (c 7),.int .i64 o,.int .i64 0] 209)).alloc (.cells #[.string ⟨#[]⟩,.string ⟨#[]⟩] 63)).cell? ⟨w.heap.size,1,none⟩=some (.string ld):=B1.cell 1
 have b2:((w.alloc (.cells #[.string lf,.string ld,.string (c 0),.string (c 1),.string (c 2),.string (c 3),.string (c 4),.string (c 5),.string (c 6),.string (c 7),.int .i64 o,.int .i64 0] 209)).alloc (.cells #[.string ⟨#[]⟩,.string ⟨#[]⟩] 63)).cell? ⟨w.heap.size,2,none⟩=some (.string (c 0)):=B1.cell 2
 have b3:((w.alloc (.cells #[.string lf,.string ld,.string (c 0),.string (c 1),.string (c 2),.string (c 3),.string (c 4),.string (c 5),.string (c 6),.string (c 7),.int .i64 o,.int .i64 0] 209)).alloc (.cells #[.string ⟨#[]⟩,.string ⟨#[]⟩] 63)).cell? ⟨w.heap.size,3,none⟩=some (.string (c 1)):=B1.cell 3
 have b4:((w.alloc (.cells #[.string lf,.string ld,.string (c 0),.string (c 1),.string (c 2),.string (c 3),.string (c 4),.string (c 5),.string (c 6),.string (c 7),.int .i64 o,.int .i64 0] 209)).alloc (.cells #[.string ⟨#[]⟩,.string ⟨#[]⟩] 63)).cell? ⟨w.heap.size,4,none⟩=some (.string (c 2)):=B1.cell 4
 have b5:((w.alloc (.cells #[.string lf,.string ld,.string (c 0),.string (c 1),.string (c 2),.string (c 3),.string (c 4),.string (c 5),.string (c 6),.string (c 7),.int .i64 o,.int .i64 0] 209)).alloc (.cells #[.string ⟨#[]⟩,.string ⟨#[]⟩] 63)).cell? ⟨w.heap.size,5,none⟩=some (.string (c 3)):=B1.cell 5
 have b6:((w.alloc (.cells #[.string lf,.string ld,.string (c 0),.string (c 1),.string (c 2),.string (c 3),.string (c 4),.string (c 5),.string (c 6),.string (c 7),.int .i64 o,.int .i64 0] 209)).alloc (.cells #[.string ⟨#[]⟩,.string ⟨#[]⟩] 63)).cell? ⟨w.heap.size,6,none⟩=some (.string (c 4)):=B1.cell 6
 have b7:((w.alloc (.cells #[.string lf,.string ld,.string (c 0),.string (c 1),.string (c 2),.string (c 3),.string (c 4),.string (c 5),.string (c 6),.string (c 7),.int .i64 o,.int .i64 0] 209)).alloc (.cells #[.string ⟨#[]⟩,.string ⟨#[]⟩] 63)).cell? ⟨w.heap.size,7,none⟩=some (.string (c 5)):=B1.cell 7
 have b8:((w.alloc (.cells #[.string lf,.string ld,.string (c 0),.string (c 1),.string (c 2),.string (c 3),.string (c 4),.string (c 5),.string (c 6),.string (c 7),.int .i64 o,.int .i64 0] 209)).alloc (.cells #[.string ⟨#[]⟩,.string ⟨#[]⟩] 63)).cell? ⟨w.heap.size,8,none⟩=some (.string (c 6)):=B1.cell 8
 have b9:((w.alloc (.cells #[.string lf,.string ld,.string (c 0),.string (c 1),.string (c 2),.string (c 3),.string (c 4),.string (c 5),.string (c 6),.string (c 7),.int .i64 o,.int .i64 0] 209)).alloc (.cells #[.string ⟨#[]⟩,.string ⟨#[]⟩] 63)).cell? ⟨w.heap.size,9,none⟩=some (.string (c 7)):=B1.cell 9
 have b10:((w.alloc (.cells #[.string lf,.string ld,.string (c 0),.string (c 1),.string (c 2),.string (c 3),.string (c 4),.string (c 5),.string (c 6),.string (c 7),.int .i64 o,.int .i64 0] 209)).alloc (.cells #[.string ⟨#[]⟩,.string ⟨#[]⟩] 63)).cell? ⟨w.heap.size,10,none⟩=some (.int .i64 o):=B1.cell 10
 have b11:((w.alloc (.cells #[.string lf,.string ld,.string (c 0),.string (c 1),.string (c 2),.string (c 3),.string (c 4),.string (c 5),.string (c 6),.string (c 7),.int .i64 o,.int .i64 0] 209)).alloc (.cells #[.string ⟨#[]⟩,.string ⟨#[]⟩] 63)).cell? ⟨w.heap.size,11,none⟩=some (.int .i64 0):=B1.cell 11
 have bl:=B1.lt
 obtain ⟨c0,c1⟩:=cells2 B2
 have f0:=B2.frozen 0
 have f1:=B2.frozen 1
 have cl:=B2.lt
 have HB:=Lib.hid (below_alloc (below_alloc (Below.refl w.heap.size w) (.cells #[.string lf,.string ld,.string (c 0),.string (c 1),.string (c 2),.string (c 3),.string (c 4),.string (c 5),.string (c 6),.string (c 7),.int .i64 o,.int .i64 0] 209)) (.cells #[.string ⟨#[]⟩,.string ⟨#[]⟩] 63))
 have HB2:=Lib.hid B2
 clear B0 B1 B2
 go_enter Tryz.func384,Tryz.ntmps384
 go_wp2_with (go_at_call 144;refine (none_any _).mono ?_;rintro e w1 ⟨rfl,hb⟩;have K:=HB2.out.below hb HB2.out.lt;obtain ⟨k0,k1⟩:=cells2 K;have g0:=K.frozen 0;have g1:=K.frozen 1;have kl:=K.lt;have HK:=Lib.hid K;have HC:=Lib.hid (HB.out.trans (hb.mono HB.out.size));clear hb K)
 refine bodyPost_ret (run_cell rfl rfl (load_loss HK.out.two_set)) rfl ⟨rfl,(HC.out.setCell (p:=⟨w.heap.size+1,0,none⟩) (by simp) _).setCell (p:=⟨w.heap.size+1,1,none⟩) (by simp) _⟩
theorem meth_ds (lf ld f d : ByteArray) (n : Int) (w : World) : (method 484 206 (.agg #[.string lf, .string ld, .string f, .string d, .int .i64 n]) "privhouse/ledger.spent").run Tryz.prog w = .ok (380, .agg #[.string lf, .string ld, .string f, .string d, .int .i64 n]) w := by kernel_rfl
theorem nil_ds (lf ld f d : ByteArray) (n : Int) (w : World) : (nilAhead 484 206 (.agg #[.string lf, .string ld, .string f, .string d, .int .i64 n]) "privhouse/ledger.spent").run Tryz.prog w = .ok (some false) w := by kernel_rfl
theorem meth_dc (lf ld f d : ByteArray) (n : Int) (w : World) : (method 484 206 (.agg #[.string lf, .string ld, .string f, .string d, .int .i64 n]) "privhouse/ledger.charges").run Tryz.prog w = .ok (379, .agg #[.string lf, .string ld, .string f, .string d, .int .i64 n]) w := by kernel_rfl
theorem nil_dc (lf ld f d : ByteArray) (n : Int) (w : World) : (nilAhead 484 206 (.agg #[.string lf, .string ld, .string f, .string d, .int .i64 n]) "privhouse/ledger.charges").run Tryz.prog w = .ok (some false) w := by kernel_rfl
theorem meth_da (lf ld f d : ByteArray) (n : Int) (w : World) : (method 484 206 (.agg #[.string lf, .string ld, .string f, .string d, .int .i64 n]) "privhouse/ledger.after").run Tryz.prog w = .ok (378, .agg #[.string lf, .string ld, .string f, .string d, .int .i64 n]) w := by kernel_rfl
theorem meth_cs (lf ld : ByteArray) (c : CT) (o n : Int) (w : World) : (method 484 209 (.agg #[.string lf, .string ld, .string (c 0), .string (c 1), .string (c 2), .string (c 3), .string (c 4), .string (c 5), .string (c 6), .string (c 7), .int .i64 o, .int .i64 n]) "privhouse/ledger.spent").run Tryz.prog w = .ok (384, .agg #[.string lf, .string ld, .string (c 0), .string (c 1), .string (c 2), .string (c 3), .string (c 4), .string (c 5), .string (c 6), .string (c 7), .int .i64 o, .int .i64 n]) w := by kernel_rfl
theorem nil_cs (lf ld : ByteArray) (c : CT) (o n : Int) (w : World) : (nilAhead 484 209 (.agg #[.string lf, .string ld, .string (c 0), .string (c 1), .string (c 2), .string (c 3), .string (c 4), .string (c 5), .string (c 6), .string (c 7), .int .i64 o, .int .i64 n]) "privhouse/ledger.spent").run Tryz.prog w = .ok (some false) w := by kernel_rfl
theorem meth_cc (lf ld : ByteArray) (c : CT) (o n : Int) (w : World) : (method 484 209 (.agg #[.string lf, .string ld, .string (c 0), .string (c 1), .string (c 2), .string (c 3), .string (c 4), .string (c 5), .string (c 6), .string (c 7), .int .i64 o, .int .i64 n]) "privhouse/ledger.charges").run Tryz.prog w = .ok (383, .agg #[.string lf, .string ld, .string (c 0), .string (c 1), .string (c 2), .string (c 3), .string (c 4), .string (c 5), .string (c 6), .string (c 7), .int .i64 o, .int .i64 n]) w := by kernel_rfl
theorem nil_cc (lf ld : ByteArray) (c : CT) (o n : Int) (w : World) : (nilAhead 484 209 (.agg #[.string lf, .string ld, .string (c 0), .string (c 1), .string (c 2), .string (c 3), .string (c 4), .string (c 5), .string (c 6), .string (c 7), .int .i64 o, .int .i64 n]) "privhouse/ledger.charges").run Tryz.prog w = .ok (some false) w := by kernel_rfl
theorem meth_ca (lf ld : ByteArray) (c : CT) (o n : Int) (w : World) : (method 484 209 (.agg #[.string lf, .string ld, .string (c 0), .string (c 1), .string (c 2), .string (c 3), .string (c 4), .string (c 5), .string (c 6), .string (c 7), .int .i64 o, .int .i64 n]) "privhouse/ledger.after").run Tryz.prog w = .ok (382, .agg #[.string lf, .string ld, .string (c 0), .string (c 1), .string (c 2), .string (c 3), .string (c 4), .string (c 5), .string (c 6), .string (c 7), .int .i64 o, .int .i64 n]) w := by kernel_rfl
theorem gspent_a (g:Nat) (lf ld f d:ByteArray) (n:Int) (s1:St) (w:World) (h:Led w g (.dir lf ld f d n) s1):Calls Tryz.prog 94 #[.pointer (some ⟨g,0,none⟩),.string ⟨#[97]⟩] w fun e w'=>e=.returned (.tuple #[.agg #[.string f,.string d],.bool true])∧Below w.heap.size w w':=by
 have HB:=Lib.hid (below_alloc (Below.refl w.heap.size w) (.cells #[.string ⟨#[]⟩,.string ⟨#[]⟩] 63))
 have HF:=Lib.hid (gfind_a g _ _ _ (h.later HB.out))
 have HB2:=Lib.hid (Blk.new w 63 #[.string ⟨#[]⟩,.string ⟨#[]⟩])
 clear h
 unfold St.val at HF
 have NA:=nil_ds
 have ME:=meth_ds
 go_enter Tryz.func94,Tryz.ntmps94
 go_wp2_with (first
  | (go_at_call 180;refine HF.out.mono ?_;rintro e w1 ⟨rfl,rfl⟩)
  | (go_at_call 380;refine (dspent_any _ _ _ _ _ _).mono ?_;rintro e w1 ⟨rfl,hb⟩;have K:=HB2.out.below hb HB2.out.lt;obtain ⟨k0,k1⟩:=cells2 K;have g0:=K.frozen 0;have g1:=K.frozen 1;have kl:=K.lt;have HK:=Lib.hid K;have HC:=Lib.hid (HB.out.trans (hb.mono HB.out.size));clear hb K))
 refine bodyPost_ret (run_cell_tmp rfl rfl (load_loss HK.out.two_set)) rfl ⟨rfl,(HC.out.setCell (p:=⟨w.heap.size,0,none⟩) (Nat.le_refl _) _).setCell (p:=⟨w.heap.size,1,none⟩) (Nat.le_refl _) _⟩
theorem gspent_b (g:Nat) (s0:St) (lf ld:ByteArray) (c:CT) (o:Int) (w:World) (h:Led w g s0 (.cur lf ld c o 0)):Calls Tryz.prog 94 #[.pointer (some ⟨g,0,none⟩),.string ⟨#[98]⟩] w fun e w'=>e=.returned (.tuple #[.agg #[.string ⟨#[49]⟩,.string ⟨#[48]⟩],.bool true])∧Below w.heap.size w w':=by
 have HB:=Lib.hid (below_alloc (Below.refl w.heap.size w) (.cells #[.string ⟨#[]⟩,.string ⟨#[]⟩] 63))
 have HF:=Lib.hid (gfind_b g _ _ _ (h.later HB.out))
 have HB2:=Lib.hid (Blk.new w 63 #[.string ⟨#[]⟩,.string ⟨#[]⟩])
 clear h
 unfold St.val at HF
 have NA:=nil_cs
 have ME:=meth_cs
 go_enter Tryz.func94,Tryz.ntmps94
 go_wp2_with (first
  | (go_at_call 180;refine HF.out.mono ?_;rintro e w1 ⟨rfl,rfl⟩)
  | (go_at_call 384;refine (cspent_none _ _ _ _ _).mono ?_;rintro e w1 ⟨rfl,hb⟩;have K:=HB2.out.below hb HB2.out.lt;obtain ⟨k0,k1⟩:=cells2 K;have g0:=K.frozen 0;have g1:=K.frozen 1;have kl:=K.lt;have HK:=Lib.hid K;have HC:=Lib.hid (HB.out.trans (hb.mono HB.out.size));clear hb K))
 refine bodyPost_ret (run_cell_tmp rfl rfl (load_loss HK.out.two_set)) rfl ⟨rfl,(HC.out.setCell (p:=⟨w.heap.size,0,none⟩) (Nat.le_refl _) _).setCell (p:=⟨w.heap.size,1,none⟩) (Nat.le_refl _) _⟩
theorem gcharges_a (g:Nat) (lf ld f d:ByteArray) (n:Int) (s1:St) (w:World) (h:Led w g (.dir lf ld f d n) s1):Calls Tryz.prog 90 #[.pointer (some ⟨g,0,none⟩),.string ⟨#[97]⟩] w fun e w'=>e=.returned (.int .i64 n)∧Below w.heap.size w w':=by
 have HF:=Lib.hid (gfind_a g _ _ _ h)
 clear h
 unfold St.val at HF
 have NA:=nil_dc
 have ME:=meth_dc
 go_enter Tryz.func90,Tryz.ntmps90
 go_wp2_with (first
  | (go_at_call 180;refine HF.out.mono ?_;rintro e w1 ⟨rfl,rfl⟩)
  | (go_at_call 379;refine (dcharges_any _ _ _ _ _ _).mono ?_;rintro e w1 ⟨rfl,hb⟩;have HC:=Lib.hid hb;clear hb))
 go_ret
 exact ⟨rfl,HC.out⟩
theorem infoAI:(Tryz.prog.info? 199).map (fun i=>(i.zero,i.size,i.bytes))=some (some .nilIface,1,16):=by kernel_rfl
theorem infoAC:(Tryz.prog.info? 104).map (fun i=>(i.zero,i.size,i.bytes))=some (some (.agg #[.string ByteArray.empty,.string ByteArray.empty,.string ByteArray.empty,.int .i64 0]),4,56):=by kernel_rfl
theorem gclone_st (b n c:Nat) (xs:List Value) (w:World) (hb:b < w.heap.size) (hl:xs.length=n*1) (hn:n≤1000) (hc:∀ j u,xs[j]?=some u→w.cell? ⟨b,j,none⟩=some u) (h1:∀ u∈xs,u.oneCell'=true) :
  Calls Tryz.prog 185 #[.slice (some ⟨b,0,none⟩) n c] w fun e w'=>(∃ v,e=.returned v∧w'.ownsRow w.heap.size 199 1 v n xs)∧Below w.heap.size w w':=by
 have HB0:=Lib.hid (below_alloc (Below.refl w.heap.size w) (.cells #[] 199))
 have HC:=Lib.hid (show ∀ j u,xs[j]?=some u→(w.alloc (.cells #[] 199)).cell? ((⟨b,0,none⟩:Addr).add j)=some u from fun j u hj=>by
  rw [addr_add0,Nat.zero_add]
  exact (HB0.out.cell (p:=⟨b,j,none⟩) hb).trans (hc j u hj))
 have HO:=Lib.hid (show (w.alloc (.cells #[] 199)).ownsRow w.heap.size 199 1 (.slice (some ⟨w.heap.size,0,none⟩) 0 0) 0 [] from ⟨rfl,.inr ⟨w.heap.size,0,#[],rfl,Nat.le_refl _,heap_alloc_new w _,Nat.le_refl _,Nat.zero_le _,rfl,rfl⟩⟩)
 have H1:=Lib.hid h1
 have HL:=Lib.hid (And.intro hl hn)
 obtain ⟨i0,hi,hz0,hz1,hz2⟩:=info_parts infoAI
 have hq:=Lib.run_eql_slice_nil (P:=Tryz.prog) w 109 199 (some ⟨b,0,none⟩) n c 0 0 Tryz.underlying109
 clear hb hc h1 hl hn
 go_enter Tryz.func185,Tryz.ntmps185
 go_wp2_with (at_builtin;refine wpList_append_own _ rfl _ _ 109 rfl w.heap.size 199 i0 (.nilIface) 1 16 Tryz.underlying109 hi hz0 hz1 hz2 rfl (by decide) _ _ _ rfl HO.out ⟨b,0,none⟩ n c xs rfl HL.out.1 HC.out H1.out (by have:=HL.out;unfold maxLen;omega) (by have:=HL.out;omega) HB0.out.size ?_;intro v' w4 hown4 hgrow4 _;have HO4:=Lib.hid hown4;have HB4:=Lib.hid (grow_belowM HB0.out HB0.out.size HO.out hgrow4);clear hown4 hgrow4)
 go_ret
 exact ⟨⟨_,rfl,by have:=HO4.out;rwa [Nat.zero_add,List.nil_append] at this⟩,HB4.out⟩
theorem gclone_ac (b n c:Nat) (xs:List Value) (w:World) (hb:b < w.heap.size) (hl:xs.length=n*4) (hn:n≤1000) (hc:∀ j u,xs[j]?=some u→w.cell? ⟨b,j,none⟩=some u) (h1:∀ u∈xs,u.oneCell'=true) :
  Calls Tryz.prog 181 #[.slice (some ⟨b,0,none⟩) n c] w fun e w'=>(∃ v,e=.returned v∧w'.ownsRow w.heap.size 104 4 v n xs)∧Below w.heap.size w w':=by
 have HB0:=Lib.hid (below_alloc (Below.refl w.heap.size w) (.cells #[] 104))
 have HC:=Lib.hid (show ∀ j u,xs[j]?=some u→(w.alloc (.cells #[] 104)).cell? ((⟨b,0,none⟩:Addr).add j)=some u from fun j u hj=>by
  rw [addr_add0,Nat.zero_add]
  exact (HB0.out.cell (p:=⟨b,j,none⟩) hb).trans (hc j u hj))
 have HO:=Lib.hid (show (w.alloc (.cells #[] 104)).ownsRow w.heap.size 104 4 (.slice (some ⟨w.heap.size,0,none⟩) 0 0) 0 [] from ⟨rfl,.inr ⟨w.heap.size,0,#[],rfl,Nat.le_refl _,heap_alloc_new w _,Nat.le_refl _,Nat.zero_le _,rfl,rfl⟩⟩)
 have H1:=Lib.hid h1
 have HL:=Lib.hid (And.intro hl hn)
 obtain ⟨i0,hi,hz0,hz1,hz2⟩:=info_parts infoAC
 have hq:=Lib.run_eql_slice_nil (P:=Tryz.prog) w 105 104 (some ⟨b,0,none⟩) n c 0 0 Tryz.underlying105
 clear hb hc h1 hl hn
 go_enter Tryz.func181,Tryz.ntmps181
 go_wp2_with (at_builtin;refine wpList_append_own _ rfl _ _ 105 rfl w.heap.size 104 i0 (.agg #[.string ByteArray.empty,.string ByteArray.empty,.string ByteArray.empty,.int .i64 0]) 4 56 Tryz.underlying105 hi hz0 hz1 hz2 rfl (by decide) _ _ _ rfl HO.out ⟨b,0,none⟩ n c xs rfl HL.out.1 HC.out H1.out (by have:=HL.out;unfold maxLen;omega) (by have:=HL.out;omega) HB0.out.size ?_;intro v' w4 hown4 hgrow4 _;have HO4:=Lib.hid hown4;have HB4:=Lib.hid (grow_belowM HB0.out HB0.out.size HO.out hgrow4);clear hown4 hgrow4)
 go_ret
 exact ⟨⟨_,rfl,by have:=HO4.out;rwa [Nat.zero_add,List.nil_append] at this⟩,HB4.out⟩
theorem gindex0 (A:Option Addr) (c:Nat) (x:ByteArray) (w:World):Calls Tryz.prog 121 #[.slice A 0 c,.string x] w fun e w'=>e=.returned (.int .i64 (-1))∧w'=w:=by
 go_enter Tryz.func121,Tryz.ntmps121
 go_wp2
 refine wp_loop_rounds 1 ?_
 rw [rounds_succ]
 go_wp2
 go_ret
 exact ⟨rfl,rfl⟩
theorem gcontains0 (A:Option Addr) (c:Nat) (x:ByteArray) (w:World):Calls Tryz.prog 239 #[.slice A 0 c,.string x] w fun e w'=>e=.returned (.bool false)∧w'=w:=by
 go_enter Tryz.func239,Tryz.ntmps239
 go_wp2_with (go_at_call 121;refine (gindex0 A c x _).mono ?_;rintro e w1 ⟨rfl,rfl⟩)
 go_ret
 exact ⟨rfl,rfl⟩
end Go.Proofs.YtigapglmipmbeaaGreatDoor
namespace Go.Proofs.YtigapglmipmbeaaGreatDoor
open Go.RowKit Go.Shelf
open Lim
attribute [local go_sem] Oper.semAt_some wide_fn
theorem map_ne {w:World} {k T:TypeId} {R:Value→Option (DataW Unit × List MemPlace)} {b n g:Nat} {D:DataW Unit} {cs:Array Value} (h:w.ownsMap Tryz.prog k R b n D) (hk:Blk w g T cs):g≠b:=fun e=>by
 subst e
 obtain ⟨es,clock,h1,_⟩:=h
 rw [show w.heap[g]?=_ from hk] at h1
 cases h1
theorem map_ne_row {w:World} {k E:TypeId} {R:Value→Option (DataW Unit × List MemPlace)} {b n m base size:Nat} {D:DataW Unit} {v:Value} {xs:List Value} (h:w.ownsMap Tryz.prog k R b n D) (ho:w.ownsRow base E size v m xs):v.ownBlock≠some b:=fun e=>by
 obtain ⟨c1,h2⟩:=own_cells (n:=m) ho e
 obtain ⟨es,clock,h1,_⟩:=h
 rw [h1] at h2
 cases h2
theorem grown_setc (w:World) (b i:Nat) (u:Value):w.grownBy (w.setCell ⟨b,i,none⟩ u) (some b):=⟨rfl,rfl,rfl,by simp [World.setCell],fun k _ hne=>Below.heap_setCell _ _ _ _ (fun e=>hne (by rw [e]))⟩
theorem row_neL {base n size:Nat} {W:World} {E T:TypeId} {v:Value} {us:List Value} {g r:Nat} {cs:Array Value} (h:W.ownsRow base E size v n us) (hr:v.ownBlock=some r) (hg:Blk W g T cs) (hT:T≠E):g≠r:=fun e=>by
 subst e
 obtain ⟨c1,h1⟩:=own_cells (n:=n) h hr
 rw [show W.heap[g]?=_ from hg] at h1
 simp only [Option.some.injEq,Obj.cells.injEq] at h1
 exact hT h1.2.1
structure NewI (w:World) (gb:Nat) (cs:Array Value) (g mb:Nat) (gv:Value) (i j:Nat) (D:DataW Unit) (v:Value) (ss:List Value) (W:World):Prop where
 ka:Blk W gb 104 cs
 kg:Blk W g 111 #[gv,.map (some mb),v]
 mp:W.ownsMap Tryz.prog 9 (plainElem Tryz.prog 3) mb i D
 row:W.ownsRow w.heap.size 199 1 v j ss
 nw:NW w W
 lo:gb < w.heap.size∧w.heap.size≤g∧w.heap.size≤mb
section
variable {w W W':World} {gb g mb i j:Nat} {cs:Array Value} {gv v:Value} {D:DataW Unit} {ss:List Value}
theorem NewI.later (h:NewI w gb cs g mb gv i j D v ss W) (hb:Below W.heap.size W W'):NewI w gb cs g mb gv i j D v ss W' :=
 ⟨h.ka.below hb h.ka.lt,h.kg.below hb h.kg.lt,map_later h.mp hb,own_later h.row hb,h.nw.later hb,h.lo⟩
theorem NewI.alloc (h:NewI w gb cs g mb gv i j D v ss W) (o:Obj):NewI w gb cs g mb gv i j D v ss (W.alloc o):=h.later (below_alloc (Below.refl _ _) o)
theorem NewI.put (h:NewI w gb cs g mb gv i j D v ss W) (hr:Res w) {i':Nat} {D':DataW Unit} (hm:W'.ownsMap Tryz.prog 9 (plainElem Tryz.prog 3) mb i' D') (hg:W.grownBy W' (some mb)):NewI w gb cs g mb gv i' j D' v ss W' :=
 ⟨h.ka.grown hg (fun e=>by have:=h.lo;cases e;omega),h.kg.grown hg (fun e=>map_ne h.mp h.kg (by cases e;rfl)),hm,World.ownsRow.kept h.row hg (.inr (map_ne_row h.mp h.row)),grow_nw h.nw hr hg (fun r e=>by cases e;exact h.lo.2.2),h.lo⟩
theorem NewI.ne_row (h:NewI w gb cs g mb gv i j D v ss W):some gb≠v.ownBlock∧some g≠v.ownBlock∧some mb≠v.ownBlock :=
 ⟨fun e=>by have:=(World.ownsRow.lt h.row gb e.symm).1;have:=h.lo;omega,fun e=>row_neL h.row e.symm h.kg (by decide) rfl,fun e=>map_ne_row h.mp h.row e.symm⟩
theorem NewI.push (h:NewI w gb cs g mb gv i j D v ss W) (hr:Res w) {v':Value} {x:Value} (hg:W.grownBy W' v.ownBlock) (ho:W'.ownsRow w.heap.size 199 1 v' (j+1) (ss++[x])):NewI w gb cs g mb gv i (j+1) D v' (ss++[x]) (W'.setCell ⟨g,2,none⟩ v'):=by
 obtain ⟨n1,n2,n3⟩:=h.ne_row
 have k1:=h.ka.grown hg n1
 have k2:=h.kg.grown hg n2
 have m1:=h.mp.kept hg n3
 have w1:=grow_nw h.nw hr hg (fun r e=>(World.ownsRow.lt h.row r e).1)
 refine ⟨k1.far (p:=⟨g,2,none⟩) (fun (e:gb=g)=>by have:=h.lo;omega) _,k2.set_ 2 v',m1.setCell (a:=⟨g,2,none⟩) (fun e=>map_ne m1 k2 e.symm) _,World.ownsRow.kept ho (grown_setc _ _ _ _) (.inr (fun e=>row_neL ho e k2 (by decide) rfl)),grow_nw w1 hr (grown_setc _ _ _ _) (fun r e=>by cases e;exact h.lo.2.1),h.lo⟩
end
theorem NewI.start {w w1:World} {gb n c:Nat} {A:Option Addr} {cs:Array Value} (hr:Res w) (hk:Blk w gb 104 cs) (hb:Below w.heap.size w w1) :
  NewI w gb cs (w1.heap.size+1) w1.heap.size (.slice A n c) 0 0 (.map []) (.slice none 0 0) [] ((w1.alloc (.map #[] 0)).alloc (.cells #[.slice A n c,.map (some w1.heap.size),.slice none 0 0] 111)):=by
 have k:=Blk.new (w1.alloc (.map #[] 0)) 111 #[.slice A n c,.map (some w1.heap.size),.slice none 0 0]
 rw [World.size_alloc] at k
 exact ⟨((hk.below hb hk.lt).alloc _).alloc _,k,(World.ownsMap_made w1 _ _ _).alloc _,World.ownsRow_nil _ _ _ _,(((NW.refl hr).later hb).alloc _).alloc _,hk.lt,Nat.le_succ_of_le hb.size,hb.size⟩
theorem has_a0:Maps.has (DataW.map []:DataW Unit) kA=false:=by rfl
theorem has_b0:Maps.has ixD1 kB=false:=by rfl
theorem src_one {W:World} {B:Nat} {t:TypeId} {x:Value} (h:W.heap[B]?=some (.cells #[x] t (0,0))):Src W 1 (.slice (some ⟨B,0,none⟩) 1 1) 1 [x] :=
 ⟨rfl,.inr ⟨_,_,rfl,fun j u hu=>by
  match j with
  | 0=>rw [addr_add0];simp at hu;subst hu;simp [World.cell?,h]
  | j+1=>simp at hu⟩⟩
theorem gnew2 (lf0 ld0 lf1 ld1:ByteArray) (z0:lf0.size≤270000) (z1:ld0.size≤270000) (z2:lf1.size≤270000) (z3:ld1.size≤270000) (e0:errL lf0 ld0=0) (e1:errL lf1 ld1=0) (gb c:Nat) (w:World) (hr:Res w) (hk:Blk w gb 104 #[.string ⟨#[97]⟩,.string lf0,.string ld0,.int .i64 0,.string ⟨#[98]⟩,.string lf1,.string ld1,.int .i64 2]) :
  Calls Tryz.prog 92 #[.slice (some ⟨gb,0,none⟩) 2 c] w fun e w'=>(∃ g,e=.returned (.tuple #[.pointer (some ⟨g,0,none⟩),.int .i64 0])∧w.heap.size≤g∧Led w' g (St.dir lf0 ld0 ⟨#[49]⟩ ⟨#[48]⟩ 0) (St.cur lf1 ld1 noneT 2 0))∧Below w.heap.size w w':=by
 have HCL:=Lib.hid (gclone_ac gb 2 c [.string ⟨#[97]⟩,.string lf0,.string ld0,.int .i64 0,.string ⟨#[98]⟩,.string lf1,.string ld1,.int .i64 2] w hk.lt rfl (by omega) (fun j u hj=>(hk.cell j).trans (by simpa using hj)) (fun u hu=>by simp only [List.mem_cons,List.not_mem_nil,or_false] at hu;rcases hu with rfl|rfl|rfl|rfl|rfl|rfl|rfl|rfl<;>rfl))
 have HC0:=Lib.hid (fun (W:World) (hr:Res W)=>lcheck_any lf0 ld0 W z0 z1 hr)
 have HC1:=Lib.hid (fun (W:World) (hr:Res W)=>lcheck_any lf1 ld1 W z2 z3 hr)
 rw [e0] at HC0
 rw [e1] at HC1
 have HK:=Lib.hid hk
 have HR:=Lib.hid hr
 have hmm:=@run_makeMap Tryz.prog
 have hmx:Tryz.prog.follows .mixedOrders=true:=by kernel_rfl
 clear hk hr z0 z1 z2 z3 e0 e1
 go_enter Tryz.func92,Tryz.ntmps92
 go_wp2_with (go_at_call 181;refine HCL.out.mono ?_;rintro e w1 ⟨⟨v1,rfl,hv1⟩,hb⟩;have HV:=Lib.hid hv1;have HB1:=Lib.hid hb;obtain ⟨A1,c1,rfl⟩:=slice_shape hv1;clear hb hv1)
 have NI:=NewI.start HR.out HK.out HB1.out (A:=A1) (n:=2) (c:=c1)
 generalize (w1.alloc (.map #[] 0)).alloc (.cells #[.slice A1 2 c1,.map (some w1.heap.size),.slice none 0 0] 111)=W0 at *
 have HG:=Lib.hid (show w.heap.size≤w1.heap.size+1 from Nat.le_trans HB1.out.size (Nat.le_succ w1.heap.size))
 generalize w1.heap.size+1=g at *
 generalize w1.heap.size=mb at *
 have NI:=Lib.hid NI
 clear hmm HCL HV HB1
 obtain ⟨i0,hi,hz0,hz1,hz2⟩:=info_parts infoAI
 refine wp_loop_rounds 3 ?_
 rw [rounds_succ]
 have a0:W0.cell? ⟨gb,0,none⟩=some (.string ⟨#[97]⟩):=NI.out.ka.cell 0
 have a1:W0.cell? ⟨gb,1,none⟩=some (.string lf0):=NI.out.ka.cell 1
 have a2:W0.cell? ⟨gb,2,none⟩=some (.string ld0):=NI.out.ka.cell 2
 have a3:W0.cell? ⟨gb,3,none⟩=some (.int .i64 0):=NI.out.ka.cell 3
 have al:=NI.out.ka.lt
 go_wp2
 have K:=Blk.new W0 104 #[.string ⟨#[97]⟩,.string lf0,.string ld0,.int .i64 0]
 have N2:=NI.out.alloc (.cells #[.string ⟨#[97]⟩,.string lf0,.string ld0,.int .i64 0] 104)
 generalize W0.alloc (.cells #[.string ⟨#[97]⟩,.string lf0,.string ld0,.int .i64 0] 104)=X0 at *
 generalize W0.heap.size=t0 at *
 clear a0 a1 a2 a3 al NI
 have NI:=Lib.hid N2
 have KT:=Lib.hid K
 clear N2 K
 have v0:∀ x:SameAt X0 (fun k=>k < X0.heap.size),x.W.cell? ⟨g,1,none⟩=some (.map (some mb)):=fun x=>x.cell NI.out.kg.lt (NI.out.kg.cell 1)
 have v1:∀ x:SameAt X0 (fun k=>k < X0.heap.size),x.W.cell? ⟨t0,0,none⟩=some (.string ⟨#[97]⟩):=fun x=>x.cell KT.out.lt (KT.out.cell 0)
 refine wpIn_wide.1 (wpIn_stage (n:=3) (IsSame X0 (fun k=>k < X0.heap.size)) [0,1,2,3,4,5,7,8,9,10,11] [] hmx (by kernel_rfl) (isSame_of fun _ _=>rfl) ?_)
 change wpStage _ _ _ _ _ _ _ _ (6+6) _ _ _
 refine stage_reads [0,1,2,3,4,5] 6 _ _ (by kernel_rfl) ?_
 change wpQuietIn _ _ _ _ (fun W'=>∃ x:SameAt X0 (fun k=>k < X0.heap.size),W'=x.W) _ _ _
 simp only [pick_cons,pick_nil,List.getElem?_cons_zero,List.getElem?_cons_succ,Option.elim_some]
 repeat (gi_big_quiet_step (fail))
 refine wpQuietIn_nil ?_
 clear v0 v1
 refine stage_one 6 (by kernel_rfl) rfl ?_
 refine wpListIn_lookup_own_ok_int _ rfl _ _ 108 rfl 9 3 .i64 lawN Tryz.underlying108 Tryz.underlying3 (zeroN _) mb 0 (DataW.map []:DataW Unit) rfl NI.out.mp.drew _ _ rfl keyA ?_
 intro ci hat hwc
 rw [has_a0]
 clear hat hwc
 gi_wp2
 refine stage_post (isSame_of fun _ _=>rfl) ?_
 change wpStage _ _ _ _ _ _ _ _ (0+5) _ _ _
 refine stage_reads [7,8,9,10,11] 0 _ _ (by kernel_rfl) ?_
 change wpQuietIn _ _ _ _ (fun W'=>∃ x:SameAt X0 (fun k=>k < X0.heap.size),W'=x.W) _ _ _
 simp only [pick_cons,pick_nil,List.getElem?_cons_zero,List.getElem?_cons_succ,Option.elim_some]
 repeat (gi_big_quiet_step (fail))
 refine wpQuietIn_nil ?_
 refine stage_done (by kernel_rfl) ?_
 have NI:=Lib.hid (NI.out.later (below_drewM X0))
 have KT:=Lib.hid (Blk.below KT.out (below_drewM X0) KT.out.lt)
 generalize X0.drew=Y0 at *
 have e0:Y0.cell? ⟨t0,0,none⟩=some (.string ⟨#[97]⟩):=KT.out.cell 0
 have e1:Y0.cell? ⟨t0,1,none⟩=some (.string lf0):=KT.out.cell 1
 have e2:Y0.cell? ⟨t0,2,none⟩=some (.string ld0):=KT.out.cell 2
 have e3:Y0.cell? ⟨t0,3,none⟩=some (.int .i64 0):=KT.out.cell 3
 have el:=KT.out.lt
 go_wp2_with (go_at_call 182;refine (HC0.out _ NI.out.nw.res).mono ?_;rintro e w3 ⟨rfl,hb⟩;have NI:=Lib.hid (NI.out.later hb);have KT:=Lib.hid (Blk.below KT.out hb KT.out.lt);clear hb e0 e1 e2 e3 el;have e0:w3.cell? ⟨t0,0,none⟩=some (.string ⟨#[97]⟩):=KT.out.cell 0;have e1:w3.cell? ⟨t0,1,none⟩=some (.string lf0):=KT.out.cell 1;have e2:w3.cell? ⟨t0,2,none⟩=some (.string ld0):=KT.out.cell 2;have e3:w3.cell? ⟨t0,3,none⟩=some (.int .i64 0):=KT.out.cell 3;have el:=KT.out.lt)
 clear e0 e1 e2 e3 el
 have v0:∀ x:SameAt w3 (fun k=>k < w3.heap.size),x.W.cell? ⟨g,1,none⟩=some (.map (some mb)):=fun x=>x.cell NI.out.kg.lt (NI.out.kg.cell 1)
 have v1:∀ x:SameAt w3 (fun k=>k < w3.heap.size),x.W.cell? ⟨t0,0,none⟩=some (.string ⟨#[97]⟩):=fun x=>x.cell KT.out.lt (KT.out.cell 0)
 refine wpIn_wide.1 (wpIn_stage (n:=3) (IsSame w3 (fun k=>k < w3.heap.size)) [0,1,2,3,4,5,6] [7] hmx (by kernel_rfl) (isSame_of fun _ _=>rfl) ?_)
 change wpStage _ _ _ _ _ _ _ _ (1+7) _ _ _
 refine stage_reads [0,1,2,3,4,5,6] 1 _ _ (by kernel_rfl) ?_
 change wpQuietIn _ _ _ _ (fun W'=>∃ x:SameAt w3 (fun k=>k < w3.heap.size),W'=x.W) _ _ _
 simp only [pick_cons,pick_nil,List.getElem?_cons_zero,List.getElem?_cons_succ,Option.elim_some]
 repeat (gi_big_quiet_step (fail))
 refine wpQuietIn_nil ?_
 clear v0 v1
 refine stage_one 7 (by kernel_rfl) rfl ?_
 refine wpListIn_mapUpdate_own _ rfl _ _ _ 108 rfl 9 3 lawN Tryz.underlying108 (plainElem Tryz.prog 3) mb 0 (DataW.map []:DataW Unit) rfl NI.out.mp.drew (by unfold maxLen;omega) _ _ _ rfl rfl keyA _ [] (plainElem_int Tryz.underlying3 (by decide)) ?_
 intro w4 hown4 hgrow4
 gi_wp2
 refine stage_last rfl ?_
 refine stage_done (by kernel_rfl) ?_
 have NI:=Lib.hid (NI.out.later (below_drewM w3))
 have KT:=Lib.hid (Blk.below KT.out (below_drewM w3) KT.out.lt)
 have KT:=Lib.hid (Blk.grown KT.out hgrow4 (fun e=>map_ne NI.out.mp KT.out (Option.some.inj e)))
 have NI:=Lib.hid (NI.out.put HR.out hown4 hgrow4)
 clear hown4 hgrow4
 have e3:w4.cell? ⟨t0,3,none⟩=some (.int .i64 0):=KT.out.cell 3
 have el:=KT.out.lt
 go_wp2
 clear e3 el
 have KG4:=Lib.hid NI.out.kg
 have KT4:=KT
 have sg:∀ k,k=g∨k=t0→k < w4.heap.size:=fun k hk=>by rcases hk with rfl|rfl<;>first|exact NI.out.kg.lt|exact KT.out.lt
 have v0:∀ x:SameAt w4 (fun k=>k=g∨k=t0),x.W.cell? ⟨g,2,none⟩=some (.slice none 0 0):=fun x=>x.cell (.inl rfl) (NI.out.kg.cell 2)
 have u0:∀ x:SameAt w4 (fun k=>k=g∨k=t0),x.W.cell? ⟨t0,0,none⟩=some (.string ⟨#[97]⟩):=fun x=>x.cell (.inr rfl) (KT.out.cell 0)
 have u1:∀ x:SameAt w4 (fun k=>k=g∨k=t0),x.W.cell? ⟨t0,1,none⟩=some (.string lf0):=fun x=>x.cell (.inr rfl) (KT.out.cell 1)
 have u2:∀ x:SameAt w4 (fun k=>k=g∨k=t0),x.W.cell? ⟨t0,2,none⟩=some (.string ld0):=fun x=>x.cell (.inr rfl) (KT.out.cell 2)
 have u3:∀ x:SameAt w4 (fun k=>k=g∨k=t0),x.W.cell? ⟨t0,3,none⟩=some (.int .i64 0):=fun x=>x.cell (.inr rfl) (KT.out.cell 3)
 refine wpIn_wide.1 (wpIn_stage (n:=3) (IsSame w4 (fun k=>k=g∨k=t0)) [0,1,2,3,4,5,6,8] [14] hmx (by kernel_rfl) (isSame_of fun _ _=>rfl) ?_)
 change wpStage _ _ _ _ _ _ _ _ (8+7) _ _ _
 refine stage_reads [0,1,2,3,4,5,6] 8 _ _ (by kernel_rfl) ?_
 change wpQuietIn _ _ _ _ (fun W'=>∃ x:SameAt w4 (fun k=>k=g∨k=t0),W'=x.W) _ _ _
 simp only [pick_cons,pick_nil,List.getElem?_cons_zero,List.getElem?_cons_succ,Option.elim_some]
 repeat (gi_big_quiet_step (fail))
 refine wpQuietIn_nil ?_
 clear v0 u0 u1 u2 u3
 refine stage_one 7 (by kernel_rfl) rfl ?_
 gi_wp2_with (gi_at_call 144;refine (callsIn_wide.2 (none_any _)).mono ?_;rintro e w5 ⟨rfl,hb⟩;have HB:=Lib.hid (show Below w4.heap.size w4 w5 from (below_drewM w4).trans hb);clear hb)
 refine stage_post (isSame_below HB.out sg) ?_
 change wpStage _ _ _ _ _ _ _ _ (6+1) _ _ _
 refine stage_reads [8] 6 _ _ (by kernel_rfl) ?_
 change wpQuietIn _ _ _ _ (fun W'=>∃ x:SameAt w4 (fun k=>k=g∨k=t0),W'=x.W) _ _ _
 simp only [pick_cons,pick_nil,List.getElem?_cons_zero,List.getElem?_cons_succ,Option.elim_some]
 repeat (gi_big_quiet_step (fail))
 refine wpQuietIn_nil ?_
 refine stage_one 9 (by kernel_rfl) rfl ?_
 gi_wp2
 refine stage_post (isSame_below HB.out sg) ?_
 refine stage_one 10 (by kernel_rfl) rfl ?_
 gi_wp2
 have HB6:=Lib.hid (below_alloc HB.out (.cells #[(St.dir lf0 ld0 ⟨#[49]⟩ ⟨#[48]⟩ 0).val] 199))
 have NI:=Lib.hid (NI.out.later HB6.out)
 have KT:=Lib.hid (Blk.below KT.out HB6.out KT.out.lt)
 have HN1:=Lib.hid (show Src (w5.alloc (.cells #[(St.dir lf0 ld0 ⟨#[49]⟩ ⟨#[48]⟩ 0).val] 199)) 1 (.slice (some ⟨w5.heap.size,0,none⟩) 1 1) 1 [(St.dir lf0 ld0 ⟨#[49]⟩ ⟨#[48]⟩ 0).val] from src_one (heap_alloc_new w5 _))
 refine stage_post (isSame_below HB6.out sg) ?_
 refine stage_one 11 (by kernel_rfl) rfl ?_
 change wpListIn _ _ _ _ _ _ _ (w5.alloc (.cells #[(St.dir lf0 ld0 ⟨#[49]⟩ ⟨#[48]⟩ 0).val] 199))
 generalize w5.alloc (.cells #[(St.dir lf0 ld0 ⟨#[49]⟩ ⟨#[48]⟩ 0).val] 199)=w6 at *
 refine wpListIn_append_src _ rfl _ _ 109 rfl w.heap.size 199 i0 .nilIface 1 16 Tryz.underlying109 hi hz0 hz1 hz2 rfl (by decide) (.slice none 0 0) 0 [] rfl NI.out.row _ 1 [(St.dir lf0 ld0 ⟨#[49]⟩ ⟨#[48]⟩ 0).val] rfl HN1.out (fun u hu=>by simp only [List.mem_singleton] at hu;subst hu;exact St.one _) (by unfold maxLen;omega) (by omega) NI.out.nw.below.size ?_
 intro v7 w7 hown7 hgrow7
 gi_wp2
 have kg7:=NI.out.kg.grown hgrow7 NI.out.ne_row.2.1
 have HK7:=Lib.hid kg7
 have HT7:=Lib.hid (Blk.grown KT.out hgrow7 (fun e=>row_neL NI.out.row e.symm KT.out (by decide) rfl))
 have q2:w7.cell? ⟨g,2,none⟩=some (.slice none 0 0):=kg7.cell 2
 have qf:=kg7.frozen 2
 have ql:=kg7.lt
 have HP:=Lib.hid (NI.out.push HR.out hgrow7 hown7)
 obtain ⟨RB0,rd0,rfl⟩:=slice_shape hown7
 clear hown7 hgrow7 kg7
 refine stage_post (isSame_of (fun k hk=>hk.elim (fun e=>by rw [e];exact (show w7.heap[_]?=_ from HK7.out).trans (show w4.heap[_]?=_ from KG4.out).symm) (fun e=>by rw [e];exact (show w7.heap[_]?=_ from HT7.out).trans (show w4.heap[_]?=_ from KT4.out).symm))) ?_
 refine stage_one 12 (by kernel_rfl) rfl ?_
 gi_wp2
 refine stage_post (isSame_of (fun k hk=>hk.elim (fun e=>by rw [e];exact (show w7.heap[_]?=_ from HK7.out).trans (show w4.heap[_]?=_ from KG4.out).symm) (fun e=>by rw [e];exact (show w7.heap[_]?=_ from HT7.out).trans (show w4.heap[_]?=_ from KT4.out).symm))) ?_
 refine stage_one 13 (by kernel_rfl) rfl ?_
 gi_wp2
 refine stage_post (isSame_of (fun k hk=>hk.elim (fun e=>by rw [e];exact (show w7.heap[_]?=_ from HK7.out).trans (show w4.heap[_]?=_ from KG4.out).symm) (fun e=>by rw [e];exact (show w7.heap[_]?=_ from HT7.out).trans (show w4.heap[_]?=_ from KT4.out).symm))) ?_
 refine stage_one 14 (by kernel_rfl) rfl ?_
 gi_wp2
 refine stage_last rfl ?_
 refine stage_done (by kernel_rfl) ?_
 clear NI KT HB HB6 HN1 HK7 HT7 KG4 KT4 q2 qf ql sg
 have NI:=HP
 clear HP
 generalize w7.setCell ⟨g,2,none⟩ (.slice RB0 1 rd0)=W1 at *
 go_wp2
 rw [rounds_succ]
 have a0:W1.cell? ⟨gb,4,none⟩=some (.string ⟨#[98]⟩):=NI.out.ka.cell 4
 have a1:W1.cell? ⟨gb,5,none⟩=some (.string lf1):=NI.out.ka.cell 5
 have a2:W1.cell? ⟨gb,6,none⟩=some (.string ld1):=NI.out.ka.cell 6
 have a3:W1.cell? ⟨gb,7,none⟩=some (.int .i64 2):=NI.out.ka.cell 7
 have al:=NI.out.ka.lt
 go_wp2
 have K:=Blk.new W1 104 #[.string ⟨#[98]⟩,.string lf1,.string ld1,.int .i64 2]
 have N2:=NI.out.alloc (.cells #[.string ⟨#[98]⟩,.string lf1,.string ld1,.int .i64 2] 104)
 generalize W1.alloc (.cells #[.string ⟨#[98]⟩,.string lf1,.string ld1,.int .i64 2] 104)=X1 at *
 generalize W1.heap.size=t1 at *
 clear a0 a1 a2 a3 al NI
 have NI:=Lib.hid N2
 have KT:=Lib.hid K
 clear N2 K
 have v0:∀ x:SameAt X1 (fun k=>k < X1.heap.size),x.W.cell? ⟨g,1,none⟩=some (.map (some mb)):=fun x=>x.cell NI.out.kg.lt (NI.out.kg.cell 1)
 have v1:∀ x:SameAt X1 (fun k=>k < X1.heap.size),x.W.cell? ⟨t1,0,none⟩=some (.string ⟨#[98]⟩):=fun x=>x.cell KT.out.lt (KT.out.cell 0)
 refine wpIn_wide.1 (wpIn_stage (n:=3) (IsSame X1 (fun k=>k < X1.heap.size)) [0,1,2,3,4,5,7,8,9,10,11] [] hmx (by kernel_rfl) (isSame_of fun _ _=>rfl) ?_)
 change wpStage _ _ _ _ _ _ _ _ (6+6) _ _ _
 refine stage_reads [0,1,2,3,4,5] 6 _ _ (by kernel_rfl) ?_
 change wpQuietIn _ _ _ _ (fun W'=>∃ x:SameAt X1 (fun k=>k < X1.heap.size),W'=x.W) _ _ _
 simp only [pick_cons,pick_nil,List.getElem?_cons_zero,List.getElem?_cons_succ,Option.elim_some]
 repeat (gi_big_quiet_step (fail))
 refine wpQuietIn_nil ?_
 clear v0 v1
 refine stage_one 6 (by kernel_rfl) rfl ?_
 refine wpListIn_lookup_own_ok_int _ rfl _ _ 108 rfl 9 3 .i64 lawN Tryz.underlying108 Tryz.underlying3 (zeroN _) mb 1 ixD1 rfl NI.out.mp.drew _ _ rfl keyB ?_
 intro ci hat hwc
 rw [has_b0]
 clear hat hwc
 gi_wp2
 refine stage_post (isSame_of fun _ _=>rfl) ?_
 change wpStage _ _ _ _ _ _ _ _ (0+5) _ _ _
 refine stage_reads [7,8,9,10,11] 0 _ _ (by kernel_rfl) ?_
 change wpQuietIn _ _ _ _ (fun W'=>∃ x:SameAt X1 (fun k=>k < X1.heap.size),W'=x.W) _ _ _
 simp only [pick_cons,pick_nil,List.getElem?_cons_zero,List.getElem?_cons_succ,Option.elim_some]
 repeat (gi_big_quiet_step (fail))
 refine wpQuietIn_nil ?_
 refine stage_done (by kernel_rfl) ?_
 have NI:=Lib.hid (NI.out.later (below_drewM X1))
 have KT:=Lib.hid (Blk.below KT.out (below_drewM X1) KT.out.lt)
 generalize X1.drew=Y1 at *
 have e0:Y1.cell? ⟨t1,0,none⟩=some (.string ⟨#[98]⟩):=KT.out.cell 0
 have e1:Y1.cell? ⟨t1,1,none⟩=some (.string lf1):=KT.out.cell 1
 have e2:Y1.cell? ⟨t1,2,none⟩=some (.string ld1):=KT.out.cell 2
 have e3:Y1.cell? ⟨t1,3,none⟩=some (.int .i64 2):=KT.out.cell 3
 have el:=KT.out.lt
 go_wp2_with (go_at_call 182;refine (HC1.out _ NI.out.nw.res).mono ?_;rintro e w3 ⟨rfl,hb⟩;have NI:=Lib.hid (NI.out.later hb);have KT:=Lib.hid (Blk.below KT.out hb KT.out.lt);clear hb e0 e1 e2 e3 el;have e0:w3.cell? ⟨t1,0,none⟩=some (.string ⟨#[98]⟩):=KT.out.cell 0;have e1:w3.cell? ⟨t1,1,none⟩=some (.string lf1):=KT.out.cell 1;have e2:w3.cell? ⟨t1,2,none⟩=some (.string ld1):=KT.out.cell 2;have e3:w3.cell? ⟨t1,3,none⟩=some (.int .i64 2):=KT.out.cell 3;have el:=KT.out.lt)
 clear e0 e1 e2 e3 el
 have v0:∀ x:SameAt w3 (fun k=>k < w3.heap.size),x.W.cell? ⟨g,1,none⟩=some (.map (some mb)):=fun x=>x.cell NI.out.kg.lt (NI.out.kg.cell 1)
 have v1:∀ x:SameAt w3 (fun k=>k < w3.heap.size),x.W.cell? ⟨t1,0,none⟩=some (.string ⟨#[98]⟩):=fun x=>x.cell KT.out.lt (KT.out.cell 0)
 refine wpIn_wide.1 (wpIn_stage (n:=3) (IsSame w3 (fun k=>k < w3.heap.size)) [0,1,2,3,4,5,6] [7] hmx (by kernel_rfl) (isSame_of fun _ _=>rfl) ?_)
 change wpStage _ _ _ _ _ _ _ _ (1+7) _ _ _
 refine stage_reads [0,1,2,3,4,5,6] 1 _ _ (by kernel_rfl) ?_
 change wpQuietIn _ _ _ _ (fun W'=>∃ x:SameAt w3 (fun k=>k < w3.heap.size),W'=x.W) _ _ _
 simp only [pick_cons,pick_nil,List.getElem?_cons_zero,List.getElem?_cons_succ,Option.elim_some]
 repeat (gi_big_quiet_step (fail))
 refine wpQuietIn_nil ?_
 clear v0 v1
 refine stage_one 7 (by kernel_rfl) rfl ?_
 refine wpListIn_mapUpdate_own _ rfl _ _ _ 108 rfl 9 3 lawN Tryz.underlying108 (plainElem Tryz.prog 3) mb 1 ixD1 rfl NI.out.mp.drew (by unfold maxLen;omega) _ _ _ rfl rfl keyB _ [] (plainElem_int Tryz.underlying3 (by decide)) ?_
 intro w4 hown4 hgrow4
 gi_wp2
 refine stage_last rfl ?_
 refine stage_done (by kernel_rfl) ?_
 have NI:=Lib.hid (NI.out.later (below_drewM w3))
 have KT:=Lib.hid (Blk.below KT.out (below_drewM w3) KT.out.lt)
 have KT:=Lib.hid (Blk.grown KT.out hgrow4 (fun e=>map_ne NI.out.mp KT.out (Option.some.inj e)))
 have NI:=Lib.hid (NI.out.put HR.out hown4 hgrow4)
 clear hown4 hgrow4
 have e3:w4.cell? ⟨t1,3,none⟩=some (.int .i64 2):=KT.out.cell 3
 have el:=KT.out.lt
 go_wp2
 clear e3 el
 have KG4:=Lib.hid NI.out.kg
 have KT4:=KT
 have sg:∀ k,k=g∨k=t1→k < w4.heap.size:=fun k hk=>by rcases hk with rfl|rfl<;>first|exact NI.out.kg.lt|exact KT.out.lt
 have v0:∀ x:SameAt w4 (fun k=>k=g∨k=t1),x.W.cell? ⟨g,2,none⟩=some (.slice RB0 1 rd0):=fun x=>x.cell (.inl rfl) (NI.out.kg.cell 2)
 have u0:∀ x:SameAt w4 (fun k=>k=g∨k=t1),x.W.cell? ⟨t1,0,none⟩=some (.string ⟨#[98]⟩):=fun x=>x.cell (.inr rfl) (KT.out.cell 0)
 have u1:∀ x:SameAt w4 (fun k=>k=g∨k=t1),x.W.cell? ⟨t1,1,none⟩=some (.string lf1):=fun x=>x.cell (.inr rfl) (KT.out.cell 1)
 have u2:∀ x:SameAt w4 (fun k=>k=g∨k=t1),x.W.cell? ⟨t1,2,none⟩=some (.string ld1):=fun x=>x.cell (.inr rfl) (KT.out.cell 2)
 have u3:∀ x:SameAt w4 (fun k=>k=g∨k=t1),x.W.cell? ⟨t1,3,none⟩=some (.int .i64 2):=fun x=>x.cell (.inr rfl) (KT.out.cell 3)
 refine wpIn_wide.1 (wpIn_stage (n:=3) (IsSame w4 (fun k=>k=g∨k=t1)) [0,1,2,3,4,5,6,8,9,10] [16] hmx (by kernel_rfl) (isSame_of fun _ _=>rfl) ?_)
 change wpStage _ _ _ _ _ _ _ _ (8+9) _ _ _
 refine stage_reads [0,1,2,3,4,5,6,8,9] 8 _ _ (by kernel_rfl) ?_
 change wpQuietIn _ _ _ _ (fun W'=>∃ x:SameAt w4 (fun k=>k=g∨k=t1),W'=x.W) _ _ _
 simp only [pick_cons,pick_nil,List.getElem?_cons_zero,List.getElem?_cons_succ,Option.elim_some]
 repeat (gi_big_quiet_step (fail))
 refine wpQuietIn_nil ?_
 clear v0 u0 u1 u2 u3
 refine stage_one 7 (by kernel_rfl) rfl ?_
 gi_wp2_with (gi_at_call 183;refine (callsIn_wide.2 (mnone_any _)).mono ?_;rintro e w5 ⟨rfl,hb⟩;have HB:=Lib.hid (show Below w4.heap.size w4 w5 from (below_drewM w4).trans hb);clear hb)
 refine stage_post (isSame_below HB.out sg) ?_
 change wpStage _ _ _ _ _ _ _ _ (6+1) _ _ _
 refine stage_reads [10] 6 _ _ (by kernel_rfl) ?_
 change wpQuietIn _ _ _ _ (fun W'=>∃ x:SameAt w4 (fun k=>k=g∨k=t1),W'=x.W) _ _ _
 simp only [pick_cons,pick_nil,List.getElem?_cons_zero,List.getElem?_cons_succ,Option.elim_some]
 repeat (gi_big_quiet_step (fail))
 refine wpQuietIn_nil ?_
 refine stage_one 11 (by kernel_rfl) rfl ?_
 gi_wp2
 refine stage_post (isSame_below HB.out sg) ?_
 refine stage_one 12 (by kernel_rfl) rfl ?_
 gi_wp2
 have HB6:=Lib.hid (below_alloc HB.out (.cells #[(St.cur lf1 ld1 noneT 2 0).val] 199))
 have NI:=Lib.hid (NI.out.later HB6.out)
 have KT:=Lib.hid (Blk.below KT.out HB6.out KT.out.lt)
 have HN1:=Lib.hid (show Src (w5.alloc (.cells #[(St.cur lf1 ld1 noneT 2 0).val] 199)) 1 (.slice (some ⟨w5.heap.size,0,none⟩) 1 1) 1 [(St.cur lf1 ld1 noneT 2 0).val] from src_one (heap_alloc_new w5 _))
 refine stage_post (isSame_below HB6.out sg) ?_
 refine stage_one 13 (by kernel_rfl) rfl ?_
 change wpListIn _ _ _ _ _ _ _ (w5.alloc (.cells #[(St.cur lf1 ld1 noneT 2 0).val] 199))
 generalize w5.alloc (.cells #[(St.cur lf1 ld1 noneT 2 0).val] 199)=w6 at *
 refine wpListIn_append_src _ rfl _ _ 109 rfl w.heap.size 199 i0 .nilIface 1 16 Tryz.underlying109 hi hz0 hz1 hz2 rfl (by decide) (.slice RB0 1 rd0) 1 [(St.dir lf0 ld0 ⟨#[49]⟩ ⟨#[48]⟩ 0).val] rfl NI.out.row _ 1 [(St.cur lf1 ld1 noneT 2 0).val] rfl HN1.out (fun u hu=>by simp only [List.mem_singleton] at hu;subst hu;exact St.one _) (by unfold maxLen;omega) (by omega) NI.out.nw.below.size ?_
 intro v7 w7 hown7 hgrow7
 gi_wp2
 have kg7:=NI.out.kg.grown hgrow7 NI.out.ne_row.2.1
 have HK7:=Lib.hid kg7
 have HT7:=Lib.hid (Blk.grown KT.out hgrow7 (fun e=>row_neL NI.out.row e.symm KT.out (by decide) rfl))
 have q2:w7.cell? ⟨g,2,none⟩=some (.slice RB0 1 rd0):=kg7.cell 2
 have qf:=kg7.frozen 2
 have ql:=kg7.lt
 have HP:=Lib.hid (NI.out.push HR.out hgrow7 hown7)
 obtain ⟨RB1,rd1,rfl⟩:=slice_shape hown7
 clear hown7 hgrow7 kg7
 refine stage_post (isSame_of (fun k hk=>hk.elim (fun e=>by rw [e];exact (show w7.heap[_]?=_ from HK7.out).trans (show w4.heap[_]?=_ from KG4.out).symm) (fun e=>by rw [e];exact (show w7.heap[_]?=_ from HT7.out).trans (show w4.heap[_]?=_ from KT4.out).symm))) ?_
 refine stage_one 14 (by kernel_rfl) rfl ?_
 gi_wp2
 refine stage_post (isSame_of (fun k hk=>hk.elim (fun e=>by rw [e];exact (show w7.heap[_]?=_ from HK7.out).trans (show w4.heap[_]?=_ from KG4.out).symm) (fun e=>by rw [e];exact (show w7.heap[_]?=_ from HT7.out).trans (show w4.heap[_]?=_ from KT4.out).symm))) ?_
 refine stage_one 15 (by kernel_rfl) rfl ?_
 gi_wp2
 refine stage_post (isSame_of (fun k hk=>hk.elim (fun e=>by rw [e];exact (show w7.heap[_]?=_ from HK7.out).trans (show w4.heap[_]?=_ from KG4.out).symm) (fun e=>by rw [e];exact (show w7.heap[_]?=_ from HT7.out).trans (show w4.heap[_]?=_ from KT4.out).symm))) ?_
 refine stage_one 16 (by kernel_rfl) rfl ?_
 gi_wp2
 refine stage_last rfl ?_
 refine stage_done (by kernel_rfl) ?_
 clear NI KT HB HB6 HN1 HK7 HT7 KG4 KT4 q2 qf ql sg
 have NI:=HP
 clear HP
 generalize w7.setCell ⟨g,2,none⟩ (.slice RB1 2 rd1)=W2 at *
 go_wp2
 rw [rounds_succ]
 go_wp2
 go_ret2
 exact ⟨⟨g,rfl,HG.out,_,_,_,mb,_,NI.out.kg,NI.out.mp,Go.Joins.ownsRow_le NI.out.row (Nat.zero_le _)⟩,NI.out.nw.below⟩
end Go.Proofs.YtigapglmipmbeaaGreatDoor
namespace Go.Proofs.YtigapglmipmbeaaGreatDoor
open Go.RowKit Go.Shelf
open Lim
structure VAt (w:World) (t1 t2:TypeId) (c1 c2:Array Value) (W:World):Prop where
 b0:Blk W w.heap.size t1 c1
 b1:Blk W (w.heap.size+1) t2 c2
 nw:NW w W
theorem VAt.new {w:World} {t1 t2:TypeId} {c1 c2:Array Value} (hr:Res w):VAt w t1 t2 c1 c2 ((w.alloc (.cells c1 t1)).alloc (.cells c2 t2)):=by
 have k1:=Blk.new w t1 c1
 have k2:=Blk.new (w.alloc (.cells c1 t1)) t2 c2
 rw [World.size_alloc] at k2
 exact ⟨k1.alloc _,k2,((NW.refl hr).alloc _).alloc _⟩
theorem VAt.later {w:World} {t1 t2:TypeId} {c1 c2:Array Value} {W W':World} (h:VAt w t1 t2 c1 c2 W) (hb:Below W.heap.size W W'):VAt w t1 t2 c1 c2 W':=⟨h.b0.below hb h.b0.lt,h.b1.below hb h.b1.lt,h.nw.later hb⟩
theorem VAt.alloc {w:World} {t1 t2:TypeId} {c1 c2:Array Value} {W:World} (h:VAt w t1 t2 c1 c2 W) (o:Obj):VAt w t1 t2 c1 c2 (W.alloc o):=⟨h.b0.alloc o,h.b1.alloc o,h.nw.alloc o⟩
theorem gvalid_ok (f l:ByteArray) (w:World) (h1:f.size≤270000) (h2:l.size≤270000) (ef:errQ f.data.toList=0) (el:errQ l.data.toList=0) (e2:errL f l=0) (hr:Res w) :
  Calls Tryz.prog 238 #[.agg #[.string f,.string l]] w fun e w'=>e=.returned (.int .i64 0)∧Below w.heap.size w w':=by
 have H0:=Lib.hid (VAt.new (w:=w) (t1:=97) (t2:=23) (c1:=#[.string f,.string l]) (c2:=#[.string f,.string l]) hr)
 have HCF:=Lib.hid (fun (W:World) (hr:Res W)=>ratCheck_any f W h1 hr)
 have HCL:=Lib.hid (fun (W:World) (hr:Res W)=>ratCheck_any l W h2 hr)
 have HLC:=Lib.hid (fun (W:World) (hr:Res W)=>lcheck_any f l W h1 h2 hr)
 rw [ef] at HCF
 rw [el] at HCL
 rw [e2] at HLC
 clear h1 h2 ef el e2 hr
 obtain ⟨p0,p1⟩:=cells2 H0.out.b0
 obtain ⟨q0,q1⟩:=cells2 H0.out.b1
 have pl:=H0.out.b0.lt
 have ql:=H0.out.b1.lt
 have TK0:True:=trivial
 have TK1:True:=trivial
 go_enter Tryz.func238,Tryz.ntmps238
 go_wp2
 refine wp_loop_rounds 3 ?_
 rw [rounds_succ]
 go_wp2_with (clear TK0;go_at_call 138;refine (HCF.out _ H0.out.nw.res).mono ?_;rintro e w1 ⟨rfl,hb⟩;have H1:=Lib.hid (H0.out.later hb);clear hb p0 p1 pl q0 q1 ql;obtain ⟨p0,p1⟩:=cells2 H1.out.b0;obtain ⟨q0,q1⟩:=cells2 H1.out.b1;have pl:=H1.out.b0.lt;have ql:=H1.out.b1.lt)
 rw [rounds_succ]
 go_wp2_with (clear TK1;go_at_call 138;refine (HCL.out _ H1.out.nw.res).mono ?_;rintro e w2 ⟨rfl,hb⟩;have H2:=Lib.hid (H1.out.later hb);clear hb p0 p1 pl q0 q1 ql;obtain ⟨p0,p1⟩:=cells2 H2.out.b0;obtain ⟨q0,q1⟩:=cells2 H2.out.b1;have pl:=H2.out.b0.lt;have ql:=H2.out.b1.lt)
 rw [rounds_succ]
 go_wp2_with (go_at_call 182;refine (HLC.out _ H2.out.nw.res).mono ?_;rintro e w3 ⟨rfl,hb⟩;have H3:=Lib.hid (H2.out.later hb);clear hb p0 p1 pl q0 q1 ql)
 go_ret
 exact ⟨rfl,H3.out.nw.below⟩
theorem dafter_any (lf ld f d cf cl f1 d1 f2 d2:ByteArray) (n:Int) (b:Bool) (w:World) (hr:Res w) (hn1:0≤n) (hn2:n≤1000)
  (HL:Hid (∀ W,Res W→Calls Tryz.prog 74 #[.agg #[.string cf,.string ⟨#[48]⟩],.string cl] W fun e w'=>e=.returned (.tuple #[.agg #[.string f1,.string d1],.int .i64 0])∧Below W.heap.size W w'))
  (HA:Hid (∀ W,Res W→Calls Tryz.prog 69 #[.agg #[.string f,.string d],.agg #[.string f1,.string d1]] W fun e w'=>e=.returned (.tuple #[.agg #[.string f2,.string d2],.int .i64 0])∧Below W.heap.size W w'))
  (HF:Hid (∀ W,Res W→Calls Tryz.prog 381 #[.agg #[.string f2,.string d2],.agg #[.string lf,.string ld]] W fun e w'=>e=.returned (.tuple #[.bool b,.int .i64 0])∧Below W.heap.size W w')) :
  Calls Tryz.prog 378 #[.agg #[.string lf,.string ld,.string f,.string d,.int .i64 n],.agg #[.string cf,.string cl]] w fun e w'=>e=.returned (.tuple #[(St.dir lf ld f2 d2 (n+1)).val,.bool b])∧Below w.heap.size w w':=by
 cases b
 ·have H0:=Lib.hid (VAt.new (w:=w) (t1:=206) (t2:=97) (c1:=#[.string lf,.string ld,.string f,.string d,.int .i64 n]) (c2:=#[.string cf,.string cl]) hr)
  obtain ⟨q0,q1⟩:=cells2 H0.out.b1
  have ql:=H0.out.b1.lt
  have HR:=Lib.hid hr
  clear hr
  go_enter Tryz.func378,Tryz.ntmps378
  go_wp2_with (go_at_call 74;refine (HL.out _ H0.out.nw.res).mono ?_;rintro e w1 ⟨rfl,hb⟩;have H1:=Lib.hid ((H0.out.later hb).alloc (.cells #[.string f1,.string d1] 63));have HW:=Lib.hid (Blk.new w1 63 #[.string f1,.string d1]);clear hb q0 q1 ql;obtain ⟨q0,q1⟩:=cells2 HW.out;have ql:=HW.out.lt;have p0:(w1.alloc (.cells #[.string f1,.string d1] 63)).cell? ⟨w.heap.size,0,none⟩=some (.string lf):=H1.out.b0.cell 0;have p1:(w1.alloc (.cells #[.string f1,.string d1] 63)).cell? ⟨w.heap.size,1,none⟩=some (.string ld):=H1.out.b0.cell 1;have p2:(w1.alloc (.cells #[.string f1,.string d1] 63)).cell? ⟨w.heap.size,2,none⟩=some (.string f):=H1.out.b0.cell 2;have p3:(w1.alloc (.cells #[.string f1,.string d1] 63)).cell? ⟨w.heap.size,3,none⟩=some (.string d):=H1.out.b0.cell 3;have p4:(w1.alloc (.cells #[.string f1,.string d1] 63)).cell? ⟨w.heap.size,4,none⟩=some (.int .i64 n):=H1.out.b0.cell 4;have pl:=H1.out.b0.lt)
  go_wp2_with (go_at_call 69;refine (HA.out _ H1.out.nw.res).mono ?_;rintro e w2 ⟨rfl,hb⟩;have H2:=Lib.hid (H1.out.later hb);clear hb q0 q1 ql p0 p1 p2 p3 p4 pl;have p0:w2.cell? ⟨w.heap.size,0,none⟩=some (.string lf):=H2.out.b0.cell 0;have p1:w2.cell? ⟨w.heap.size,1,none⟩=some (.string ld):=H2.out.b0.cell 1;have p2:w2.cell? ⟨w.heap.size,2,none⟩=some (.string f):=H2.out.b0.cell 2;have p3:w2.cell? ⟨w.heap.size,3,none⟩=some (.string d):=H2.out.b0.cell 3;have p4:w2.cell? ⟨w.heap.size,4,none⟩=some (.int .i64 n):=H2.out.b0.cell 4;have pl:=H2.out.b0.lt;have z2:=H2.out.b0.frozen 2;have z3:=H2.out.b0.frozen 3;have HK2:=Lib.hid (show Blk ((w2.setCell ⟨w.heap.size,2,none⟩ (.string f2)).setCell ⟨w.heap.size,3,none⟩ (.string d2)) w.heap.size 206 #[.string lf,.string ld,.string f2,.string d2,.int .i64 n] from (H2.out.b0.set_ 2 (.string f2)).set_ 3 (.string d2));have e0:((w2.setCell ⟨w.heap.size,2,none⟩ (.string f2)).setCell ⟨w.heap.size,3,none⟩ (.string d2)).cell? ⟨w.heap.size,0,none⟩=some (.string lf):=HK2.out.cell 0;have e1:((w2.setCell ⟨w.heap.size,2,none⟩ (.string f2)).setCell ⟨w.heap.size,3,none⟩ (.string d2)).cell? ⟨w.heap.size,1,none⟩=some (.string ld):=HK2.out.cell 1;have e2:((w2.setCell ⟨w.heap.size,2,none⟩ (.string f2)).setCell ⟨w.heap.size,3,none⟩ (.string d2)).cell? ⟨w.heap.size,2,none⟩=some (.string f2):=HK2.out.cell 2;have e3:((w2.setCell ⟨w.heap.size,2,none⟩ (.string f2)).setCell ⟨w.heap.size,3,none⟩ (.string d2)).cell? ⟨w.heap.size,3,none⟩=some (.string d2):=HK2.out.cell 3;have e4:((w2.setCell ⟨w.heap.size,2,none⟩ (.string f2)).setCell ⟨w.heap.size,3,none⟩ (.string d2)).cell? ⟨w.heap.size,4,none⟩=some (.int .i64 n):=HK2.out.cell 4;have z4:=HK2.out.frozen 4;have yl:=HK2.out.lt;have HK3:=Lib.hid (fun u=>(show Blk (((w2.setCell ⟨w.heap.size,2,none⟩ (.string f2)).setCell ⟨w.heap.size,3,none⟩ (.string d2)).setCell ⟨w.heap.size,4,none⟩ u) w.heap.size 206 #[.string lf,.string ld,.string f2,.string d2,u] from HK2.out.set_ 4 u));have g0:∀ u,(((w2.setCell ⟨w.heap.size,2,none⟩ (.string f2)).setCell ⟨w.heap.size,3,none⟩ (.string d2)).setCell ⟨w.heap.size,4,none⟩ u).cell? ⟨w.heap.size,0,none⟩=some (.string lf):=fun u=>(HK3.out u).cell 0;have g1:∀ u,(((w2.setCell ⟨w.heap.size,2,none⟩ (.string f2)).setCell ⟨w.heap.size,3,none⟩ (.string d2)).setCell ⟨w.heap.size,4,none⟩ u).cell? ⟨w.heap.size,1,none⟩=some (.string ld):=fun u=>(HK3.out u).cell 1;have g2:∀ u,(((w2.setCell ⟨w.heap.size,2,none⟩ (.string f2)).setCell ⟨w.heap.size,3,none⟩ (.string d2)).setCell ⟨w.heap.size,4,none⟩ u).cell? ⟨w.heap.size,2,none⟩=some (.string f2):=fun u=>(HK3.out u).cell 2;have g3:∀ u,(((w2.setCell ⟨w.heap.size,2,none⟩ (.string f2)).setCell ⟨w.heap.size,3,none⟩ (.string d2)).setCell ⟨w.heap.size,4,none⟩ u).cell? ⟨w.heap.size,3,none⟩=some (.string d2):=fun u=>(HK3.out u).cell 3;have g4:∀ u,(((w2.setCell ⟨w.heap.size,2,none⟩ (.string f2)).setCell ⟨w.heap.size,3,none⟩ (.string d2)).setCell ⟨w.heap.size,4,none⟩ u).cell? ⟨w.heap.size,4,none⟩=some u:=fun u=>(HK3.out u).cell 4;have gl:=fun u=>(HK3.out u).lt;have HB3:=Lib.hid (fun u=>(show Below w.heap.size w (((w2.setCell ⟨w.heap.size,2,none⟩ (.string f2)).setCell ⟨w.heap.size,3,none⟩ (.string d2)).setCell ⟨w.heap.size,4,none⟩ u) from ((H2.out.nw.below.setCell (p:=⟨w.heap.size,2,none⟩) (Nat.le_refl _) _).setCell (p:=⟨w.heap.size,3,none⟩) (Nat.le_refl _) _).setCell (p:=⟨w.heap.size,4,none⟩) (Nat.le_refl _) u)))
  go_wp2_with (go_at_call 381;refine (HF.out _ (HR.out.below (HB3.out _))).mono ?_;rintro e w4 ⟨rfl,hb⟩;have K4:=(HK3.out _).below hb (HK3.out _).lt;have HB4:=Lib.hid ((HB3.out _).trans (hb.mono (HB3.out _).size));clear hb p0 p1 p2 p3 p4 pl z2 z3 e0 e1 e2 e3 e4 z4 yl g0 g1 g2 g3 g4 gl;have k0:=K4.cell 0;have k1:=K4.cell 1;have k2:=K4.cell 2;have k3:=K4.cell 3;have k4:=K4.cell 4;have kl:=K4.lt)
  go_ret2
  exact ⟨rfl,HB4.out⟩
 ·have H0:=Lib.hid (VAt.new (w:=w) (t1:=206) (t2:=97) (c1:=#[.string lf,.string ld,.string f,.string d,.int .i64 n]) (c2:=#[.string cf,.string cl]) hr)
  obtain ⟨q0,q1⟩:=cells2 H0.out.b1
  have ql:=H0.out.b1.lt
  have HR:=Lib.hid hr
  clear hr
  go_enter Tryz.func378,Tryz.ntmps378
  go_wp2_with (go_at_call 74;refine (HL.out _ H0.out.nw.res).mono ?_;rintro e w1 ⟨rfl,hb⟩;have H1:=Lib.hid ((H0.out.later hb).alloc (.cells #[.string f1,.string d1] 63));have HW:=Lib.hid (Blk.new w1 63 #[.string f1,.string d1]);clear hb q0 q1 ql;obtain ⟨q0,q1⟩:=cells2 HW.out;have ql:=HW.out.lt;have p0:(w1.alloc (.cells #[.string f1,.string d1] 63)).cell? ⟨w.heap.size,0,none⟩=some (.string lf):=H1.out.b0.cell 0;have p1:(w1.alloc (.cells #[.string f1,.string d1] 63)).cell? ⟨w.heap.size,1,none⟩=some (.string ld):=H1.out.b0.cell 1;have p2:(w1.alloc (.cells #[.string f1,.string d1] 63)).cell? ⟨w.heap.size,2,none⟩=some (.string f):=H1.out.b0.cell 2;have p3:(w1.alloc (.cells #[.string f1,.string d1] 63)).cell? ⟨w.heap.size,3,none⟩=some (.string d):=H1.out.b0.cell 3;have p4:(w1.alloc (.cells #[.string f1,.string d1] 63)).cell? ⟨w.heap.size,4,none⟩=some (.int .i64 n):=H1.out.b0.cell 4;have pl:=H1.out.b0.lt)
  go_wp2_with (go_at_call 69;refine (HA.out _ H1.out.nw.res).mono ?_;rintro e w2 ⟨rfl,hb⟩;have H2:=Lib.hid (H1.out.later hb);clear hb q0 q1 ql p0 p1 p2 p3 p4 pl;have p0:w2.cell? ⟨w.heap.size,0,none⟩=some (.string lf):=H2.out.b0.cell 0;have p1:w2.cell? ⟨w.heap.size,1,none⟩=some (.string ld):=H2.out.b0.cell 1;have p2:w2.cell? ⟨w.heap.size,2,none⟩=some (.string f):=H2.out.b0.cell 2;have p3:w2.cell? ⟨w.heap.size,3,none⟩=some (.string d):=H2.out.b0.cell 3;have p4:w2.cell? ⟨w.heap.size,4,none⟩=some (.int .i64 n):=H2.out.b0.cell 4;have pl:=H2.out.b0.lt;have z2:=H2.out.b0.frozen 2;have z3:=H2.out.b0.frozen 3;have HK2:=Lib.hid (show Blk ((w2.setCell ⟨w.heap.size,2,none⟩ (.string f2)).setCell ⟨w.heap.size,3,none⟩ (.string d2)) w.heap.size 206 #[.string lf,.string ld,.string f2,.string d2,.int .i64 n] from (H2.out.b0.set_ 2 (.string f2)).set_ 3 (.string d2));have e0:((w2.setCell ⟨w.heap.size,2,none⟩ (.string f2)).setCell ⟨w.heap.size,3,none⟩ (.string d2)).cell? ⟨w.heap.size,0,none⟩=some (.string lf):=HK2.out.cell 0;have e1:((w2.setCell ⟨w.heap.size,2,none⟩ (.string f2)).setCell ⟨w.heap.size,3,none⟩ (.string d2)).cell? ⟨w.heap.size,1,none⟩=some (.string ld):=HK2.out.cell 1;have e2:((w2.setCell ⟨w.heap.size,2,none⟩ (.string f2)).setCell ⟨w.heap.size,3,none⟩ (.string d2)).cell? ⟨w.heap.size,2,none⟩=some (.string f2):=HK2.out.cell 2;have e3:((w2.setCell ⟨w.heap.size,2,none⟩ (.string f2)).setCell ⟨w.heap.size,3,none⟩ (.string d2)).cell? ⟨w.heap.size,3,none⟩=some (.string d2):=HK2.out.cell 3;have e4:((w2.setCell ⟨w.heap.size,2,none⟩ (.string f2)).setCell ⟨w.heap.size,3,none⟩ (.string d2)).cell? ⟨w.heap.size,4,none⟩=some (.int .i64 n):=HK2.out.cell 4;have z4:=HK2.out.frozen 4;have yl:=HK2.out.lt;have HK3:=Lib.hid (fun u=>(show Blk (((w2.setCell ⟨w.heap.size,2,none⟩ (.string f2)).setCell ⟨w.heap.size,3,none⟩ (.string d2)).setCell ⟨w.heap.size,4,none⟩ u) w.heap.size 206 #[.string lf,.string ld,.string f2,.string d2,u] from HK2.out.set_ 4 u));have g0:∀ u,(((w2.setCell ⟨w.heap.size,2,none⟩ (.string f2)).setCell ⟨w.heap.size,3,none⟩ (.string d2)).setCell ⟨w.heap.size,4,none⟩ u).cell? ⟨w.heap.size,0,none⟩=some (.string lf):=fun u=>(HK3.out u).cell 0;have g1:∀ u,(((w2.setCell ⟨w.heap.size,2,none⟩ (.string f2)).setCell ⟨w.heap.size,3,none⟩ (.string d2)).setCell ⟨w.heap.size,4,none⟩ u).cell? ⟨w.heap.size,1,none⟩=some (.string ld):=fun u=>(HK3.out u).cell 1;have g2:∀ u,(((w2.setCell ⟨w.heap.size,2,none⟩ (.string f2)).setCell ⟨w.heap.size,3,none⟩ (.string d2)).setCell ⟨w.heap.size,4,none⟩ u).cell? ⟨w.heap.size,2,none⟩=some (.string f2):=fun u=>(HK3.out u).cell 2;have g3:∀ u,(((w2.setCell ⟨w.heap.size,2,none⟩ (.string f2)).setCell ⟨w.heap.size,3,none⟩ (.string d2)).setCell ⟨w.heap.size,4,none⟩ u).cell? ⟨w.heap.size,3,none⟩=some (.string d2):=fun u=>(HK3.out u).cell 3;have g4:∀ u,(((w2.setCell ⟨w.heap.size,2,none⟩ (.string f2)).setCell ⟨w.heap.size,3,none⟩ (.string d2)).setCell ⟨w.heap.size,4,none⟩ u).cell? ⟨w.heap.size,4,none⟩=some u:=fun u=>(HK3.out u).cell 4;have gl:=fun u=>(HK3.out u).lt;have HB3:=Lib.hid (fun u=>(show Below w.heap.size w (((w2.setCell ⟨w.heap.size,2,none⟩ (.string f2)).setCell ⟨w.heap.size,3,none⟩ (.string d2)).setCell ⟨w.heap.size,4,none⟩ u) from ((H2.out.nw.below.setCell (p:=⟨w.heap.size,2,none⟩) (Nat.le_refl _) _).setCell (p:=⟨w.heap.size,3,none⟩) (Nat.le_refl _) _).setCell (p:=⟨w.heap.size,4,none⟩) (Nat.le_refl _) u)))
  go_wp2_with (go_at_call 381;refine (HF.out _ (HR.out.below (HB3.out _))).mono ?_;rintro e w4 ⟨rfl,hb⟩;have K4:=(HK3.out _).below hb (HK3.out _).lt;have HB4:=Lib.hid ((HB3.out _).trans (hb.mono (HB3.out _).size));clear hb p0 p1 p2 p3 p4 pl z2 z3 e0 e1 e2 e3 e4 z4 yl g0 g1 g2 g3 g4 gl;have k0:=K4.cell 0;have k1:=K4.cell 1;have k2:=K4.cell 2;have k3:=K4.cell 3;have k4:=K4.cell 4;have kl:=K4.lt)
  go_ret2
  exact ⟨rfl,HB4.out⟩
end Go.Proofs.YtigapglmipmbeaaGreatDoor
namespace Go.Proofs.YtigapglmipmbeaaGreatDoor
open Go.RowKit Go.Shelf
open Lim
attribute [local go_sem] Oper.semAt_some wide_fn
structure TI (w:World) (g nb:Nat) (x f l:ByteArray) (s0 s1:St) (W:World):Prop where
 led:Led W g s0 s1
 nm:W.cell? ⟨nb,0,none⟩=some (.string x)
 nl:nb < W.heap.size
 kc:Blk W w.heap.size 97 #[.string f,.string l]
 nw:NW w W
theorem TI.later {w W W':World} {g nb:Nat} {x f l:ByteArray} {s0 s1:St} (h:TI w g nb x f l s0 s1 W) (hb:Below W.heap.size W W'):TI w g nb x f l s0 s1 W' :=
 ⟨h.led.later hb,(hb.cell (p:=⟨nb,0,none⟩) h.nl).trans h.nm,Nat.lt_of_lt_of_le h.nl hb.size,h.kc.below hb h.kc.lt,h.nw.later hb⟩
theorem TI.new {w:World} {g nb:Nat} {x f l:ByteArray} {s0 s1:St} (hr:Res w) (h:Led w g s0 s1) (hn:w.cell? ⟨nb,0,none⟩=some (.string x)) (hl:nb < w.heap.size):TI w g nb x f l s0 s1 (w.alloc (.cells #[.string f,.string l] 97)):=by
 have hb:=below_alloc (Below.refl w.heap.size w) (.cells #[.string f,.string l] 97)
 exact ⟨h.later hb,(hb.cell (p:=⟨nb,0,none⟩) hl).trans hn,Nat.lt_of_lt_of_le hl hb.size,Blk.new _ _ _,(NW.refl hr).alloc _⟩
theorem gtry_a (g nb nc:Nat) (f l:ByteArray) (lf ld f0 d0 f2 d2:ByteArray) (n m:Int) (s1:St) (w:World) (hr:Res w) (h:Led w g (St.dir lf ld f0 d0 n) s1) (hn:w.cell? ⟨nb,0,none⟩=some (.string ⟨#[97]⟩)) (hl:nb < w.heap.size)
  (HV:Hid (∀ W,Res W→Calls Tryz.prog 238 #[.agg #[.string f,.string l]] W fun e w'=>e=.returned (.int .i64 0)∧Below W.heap.size W w'))
  (HA:Hid (∀ W,Res W→Calls Tryz.prog 378 #[.agg #[.string lf,.string ld,.string f0,.string d0,.int .i64 n],.agg #[.string f,.string l]] W fun e w'=>e=.returned (.tuple #[(St.dir lf ld f2 d2 m).val,.bool true])∧Below W.heap.size W w')) :
  Calls Tryz.prog 179 #[.pointer (some ⟨g,0,none⟩),.slice (some ⟨nb,0,none⟩) 1 nc,.agg #[.string f,.string l]] w fun e w'=>(∃ v,e=.returned (.tuple #[v,.int .i64 0])∧w'.ownsRow w.heap.size 199 1 v 2 [(St.dir lf ld f2 d2 m).val,(s1).val])∧Below w.heap.size w w':=by
 have N:=Lib.hid (TI.new (f:=f) (l:=l) hr h hn hl)
 have HN:=Lib.hid (fun W (hW:Led W g (St.dir lf ld f0 d0 n) s1)=>gnone_led g _ _ W hW)
 have hmx:Tryz.prog.follows .mixedOrders=true:=by kernel_rfl
 have ME:=@meth_da
 clear hr h hn hl
 obtain ⟨b0,b1⟩:=cells2 N.out.kc
 have bl:=N.out.kc.lt
 go_enter Tryz.func179,Tryz.ntmps179
 go_wp2_with (first
  | (go_at_call 184;refine (HN.out _ N.out.led).mono ?_;rintro e w1 ⟨rfl,rfl⟩)
  | (go_at_call 238;refine (HV.out _ N.out.nw.res).mono ?_;rintro e w2 ⟨rfl,hb⟩;have N:=Lib.hid (N.out.later hb);clear hb b0 b1 bl;obtain ⟨qA,qn,qc,mb,qv,kg,hm,hw⟩:=N.out.led;have p1:w2.cell? ⟨g,1,none⟩=some (.map (some mb)):=kg.cell 1;have p2:w2.cell? ⟨g,2,none⟩=some qv:=kg.cell 2;have HM:=Lib.hid hm;have HW:=Lib.hid hw;have pn:=N.out.nm;have pl:=N.out.nl;have gl:=kg.lt;clear kg hm hw))
 refine wp_loop_rounds 2 ?_
 rw [rounds_succ]
 go_wp2_with (first
  | (at_lookup;refine wpList_lookup_own_ok_int _ rfl _ _ 108 rfl 9 3 .i64 lawN Tryz.underlying108 Tryz.underlying3 (zeroN _) mb 2 ixD rfl HM.out _ _ rfl keyA ?_;intro ci hat hwc;rw [ixD_a] at hat;simp only [DataW.lit.injEq,Lit.int.injEq,true_and] at hat;subst hat;rw [has_a];clear hwc)
  | (go_at_call 239;refine (gcontains0 _ _ _ _).mono ?_;rintro e w3 ⟨rfl,h3⟩;replace h3:=h3.symm;subst h3))
 rw [rounds_succ]
 have HCL:=Lib.hid (show ∃ sb sc,qv=.slice (some ⟨sb,0,none⟩) 2 sc∧sb < w2.heap.size∧w2.cell? ⟨sb,0,none⟩=some (St.dir lf ld f0 d0 n).val∧w2.cell? ⟨sb,1,none⟩=some (s1).val from by obtain ⟨a,b,h1,_,h2,h3,h4⟩:=row_two HW.out;exact ⟨a,b,h1,h2,h3,h4⟩)
 obtain ⟨sb,sc,rfl,hs1,hs2,hs3⟩:=HCL.out
 have HKL:=Lib.hid (gclone_st sb 2 sc [(St.dir lf ld f0 d0 n).val,(s1).val] w2 hs1 rfl (by omega) (fun j u hj=>by match j,hj with|0,hj=>(simp at hj;subst hj;exact hs2)|1,hj=>(simp at hj;subst hj;exact hs3)) (fun u hu=>by simp only [List.mem_cons,List.not_mem_nil,or_false] at hu;rcases hu with rfl|rfl<;>exact St.one _))
 clear hs1 hs2 hs3 HCL
 go_wp2_with (go_at_call 185;refine HKL.out.mono ?_;rintro e w4 ⟨⟨v4,rfl,hv4⟩,hb⟩;obtain ⟨cb,cc,rfl,hcb,hcl,k0,k1⟩:=row_two hv4;have HV4:=Lib.hid (Go.Joins.ownsRow_le hv4 N.out.nw.below.size);have HCB:=Lib.hid (Nat.le_trans N.out.nw.below.size hcb);have N:=Lib.hid (N.out.later hb);clear hb hv4 hcb HM HW HKL p1 p2 pn pl gl;obtain ⟨qA,qn,qc,mb,qv,kg,hm,hw⟩:=N.out.led;have p1:w4.cell? ⟨g,1,none⟩=some (.map (some mb)):=kg.cell 1;have p2:w4.cell? ⟨g,2,none⟩=some qv:=kg.cell 2;have HM:=Lib.hid hm;have HW:=Lib.hid hw;have pn:=N.out.nm;have pl:=N.out.nl;have gl:=kg.lt;clear kg hm hw)
 refine wp_loop_rounds 2 ?_
 rw [rounds_succ]
 go_wp2_with (at_lookup;refine wpList_lookup_own_int _ rfl _ _ 108 rfl 9 3 .i64 lawN Tryz.underlying108 Tryz.underlying3 (zeroN _) mb 2 ixD rfl HM.out _ _ rfl keyA ?_;intro ci hat hwc;rw [ixD_a] at hat;simp only [DataW.lit.injEq,Lit.int.injEq,true_and] at hat;subst hat;clear hwc)
 generalize hW5:w4=W5 at *
 clear hW5 p1 p2 pn pl gl HM HW
 unfold St.val at k0
 have v0:∀ x:SameAt W5 (fun k=>k < W5.heap.size),x.W.cell? ⟨cb,0,none⟩=some _:=fun x=>x.cell hcl k0
 have v1:∀ x:SameAt W5 (fun k=>k < W5.heap.size),x.W.cell? ⟨w.heap.size,0,none⟩=some (.string f):=fun x=>x.cell N.out.kc.lt (N.out.kc.cell 0)
 have v2:∀ x:SameAt W5 (fun k=>k < W5.heap.size),x.W.cell? ⟨w.heap.size,1,none⟩=some (.string l):=fun x=>x.cell N.out.kc.lt (N.out.kc.cell 1)
 refine wpIn_wide.1 (wpIn_stage (n:=3) (IsSame W5 (fun k=>k < W5.heap.size)) [0,1,2,3,4,6,7,8,9,10] [] hmx (by kernel_rfl) (isSame_of fun _ _=>rfl) ?_)
 change wpStage _ _ _ _ _ _ _ _ (6+5) _ _ _
 refine stage_reads [0,1,2,3,4] 6 _ _ (by kernel_rfl) ?_
 change wpQuietIn _ _ _ _ (fun W'=>∃ x:SameAt W5 (fun k=>k < W5.heap.size),W'=x.W) _ _ _
 simp only [pick_cons,pick_nil,List.getElem?_cons_zero,List.getElem?_cons_succ,Option.elim_some]
 repeat (gi_big_quiet_step (fail))
 refine wpQuietIn_nil ?_
 clear v0 v1 v2
 refine stage_one 5 (by kernel_rfl) rfl ?_
 gi_wp2_with (gi_at_call 378;refine (callsIn_wide.2 (HA.out _ (N.out.nw.res.below (below_drewM W5)))).mono ?_;rintro e w6 ⟨rfl,hb⟩;have HB6:=Lib.hid (show Below W5.heap.size W5 w6 from (below_drewM W5).trans hb);clear hb)
 refine stage_post (isSame_below HB6.out (fun k hk=>hk)) ?_
 change wpStage _ _ _ _ _ _ _ _ (0+5) _ _ _
 refine stage_reads [6,7,8,9,10] 0 _ _ (by kernel_rfl) ?_
 change wpQuietIn _ _ _ _ (fun W'=>∃ x:SameAt W5 (fun k=>k < W5.heap.size),W'=x.W) _ _ _
 simp only [pick_cons,pick_nil,List.getElem?_cons_zero,List.getElem?_cons_succ,Option.elim_some]
 repeat (gi_big_quiet_step (fail))
 refine wpQuietIn_nil ?_
 refine stage_done (by kernel_rfl) ?_
 have HV6:=Lib.hid (own_later HV4.out HB6.out)
 have N:=Lib.hid (N.out.later HB6.out)
 have hl6:cb < w6.heap.size:=Nat.lt_of_lt_of_le hcl HB6.out.size
 have hc6:w6.cell? ⟨cb,0,none⟩=some (St.dir lf ld f0 d0 n).val:=(World.ownsRow.cellAt HV6.out 0 (by omega))
 have hf6:w6.frozen? ⟨cb,0,none⟩=false:=World.ownsRow.frozenAt HV6.out 0
 unfold St.val at hc6 ⊢
 go_wp2
 rw [rounds_succ]
 go_wp2
 go_ret2
 obtain ⟨r1,r2⟩:=World.ownsRow.stored HV6.out 0 (St.dir lf ld f2 d2 m).val
 exact ⟨⟨_,rfl,r1⟩,N.out.nw.below.setCell (p:=⟨cb,0,none⟩) HCB.out _⟩
theorem gres_a (g nb nc:Nat) (f l:ByteArray) (lf ld f0 d0 f2 d2:ByteArray) (n m:Int) (s1:St) (w:World) (hr:Res w) (h:Led w g (St.dir lf ld f0 d0 n) s1) (hn:w.cell? ⟨nb,0,none⟩=some (.string ⟨#[97]⟩)) (hl:nb < w.heap.size)
  (HV:Hid (∀ W,Res W→Calls Tryz.prog 238 #[.agg #[.string f,.string l]] W fun e w'=>e=.returned (.int .i64 0)∧Below W.heap.size W w'))
  (HA:Hid (∀ W,Res W→Calls Tryz.prog 378 #[.agg #[.string lf,.string ld,.string f0,.string d0,.int .i64 n],.agg #[.string f,.string l]] W fun e w'=>e=.returned (.tuple #[(St.dir lf ld f2 d2 m).val,.bool true])∧Below W.heap.size W w')) :
  Calls Tryz.prog 88 #[.pointer (some ⟨g,0,none⟩),.slice (some ⟨nb,0,none⟩) 1 nc,.agg #[.string f,.string l]] w fun e w'=>e=.returned (.int .i64 0)∧Led w' g (St.dir lf ld f2 d2 m) s1∧Below g w w':=by
 have N:=Lib.hid (TI.new (f:=f) (l:=l) hr h hn hl)
 have HG:=Lib.hid h.lt
 have HT:=Lib.hid (gtry_a g nb nc f l lf ld f0 d0 f2 d2 n m s1 _ N.out.nw.res N.out.led N.out.nm N.out.nl HV HA)
 obtain ⟨b0,b1⟩:=cells2 N.out.kc
 have bl:=N.out.kc.lt
 clear hr h hn hl HV HA
 go_enter Tryz.func88,Tryz.ntmps88
 go_wp2_with (go_at_call 179;refine HT.out.mono ?_;rintro e w2 ⟨⟨v,rfl,hv⟩,hb⟩;have HV:=Lib.hid hv;have N:=Lib.hid (N.out.later hb);clear hb hv b0 b1 bl;obtain ⟨qA,qn,qc,mb,qv,kg,hm,hw⟩:=N.out.led;have p2:w2.cell? ⟨g,2,none⟩=some qv:=kg.cell 2;have pf:=kg.frozen 2;have HM:=Lib.hid hm;have KG:=Lib.hid kg;have gl:=kg.lt;clear kg hm hw;obtain ⟨RB,rc,rfl⟩:=slice_shape HV.out)
 go_ret
 refine ⟨rfl,⟨qA,qn,qc,mb,_,KG.out.set_ 2 _,HM.out.setCell (a:=⟨g,2,none⟩) (fun e=>map_ne HM.out KG.out e.symm) _,Go.Joins.ownsRow_le (ownsRow_setCell_below HV.out (a:=⟨g,2,none⟩) (by have:=HG.out;simp;omega) _) (Nat.zero_le _)⟩,?_⟩
 exact Below.setCell (p:=⟨g,2,none⟩) (Go.Joins.below_le N.out.nw.below (Nat.le_of_lt HG.out)) (Nat.le_refl _) _
end Go.Proofs.YtigapglmipmbeaaGreatDoor
namespace Go.Proofs.YtigapglmipmbeaaGreatDoor
open Go.RowKit Go.Shelf
open Lim
attribute [local go_sem] Oper.semAt_some
end Go.Proofs.YtigapglmipmbeaaGreatDoor
namespace Go.Proofs.YtigapglmipmbeaaGreatDoor
open Go.RowKit Go.Shelf
open Lim
end Go.Proofs.YtigapglmipmbeaaGreatDoor
namespace Go.Proofs.YtigapglmipmbeaaGreatDoor
open Go.RowKit Go.Shelf
open Lim
attribute [local go_sem] Oper.semAt_some
theorem two_set {W:World} {g4 g5 n:Nat} {w:World} {t t':TypeId} {m vn vd x y z:Value} {cs:Array Value} (h4:Blk W g4 t #[m,vn,vd]) (h5:Blk W g5 t' cs) (hne:g5≠g4) (hb:Below n w W) (hn:n≤g4) :
  Blk (((W.setCell ⟨g4,0,none⟩ x).setCell ⟨g4,1,none⟩ y).setCell ⟨g4,2,none⟩ z).drew g4 t #[x,y,z]∧Blk (((W.setCell ⟨g4,0,none⟩ x).setCell ⟨g4,1,none⟩ y).setCell ⟨g4,2,none⟩ z).drew g5 t' cs ∧
  Below n w (((W.setCell ⟨g4,0,none⟩ x).setCell ⟨g4,1,none⟩ y).setCell ⟨g4,2,none⟩ z).drew∧∀ k,k≠g4→(((W.setCell ⟨g4,0,none⟩ x).setCell ⟨g4,1,none⟩ y).setCell ⟨g4,2,none⟩ z).drew.heap[k]?=W.heap[k]? :=
 ⟨set3 h4,((h5.far (p:=⟨g4,0,none⟩) hne _).far (p:=⟨g4,1,none⟩) hne _).far (p:=⟨g4,2,none⟩) hne _,below_drew (set3_below hb hn),fun k hk=>set3_heap k hk⟩
end Go.Proofs.YtigapglmipmbeaaGreatDoor
