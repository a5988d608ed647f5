/- DistNames, as a walk (printed by mkdnam.py). Opening and shutting an argument that is a loss. Slices of structs with slices in them, in memory: how they read, how they are built, what keeps them. Plain words, no program. Opening arguments: lists of masses, of losses, of strings. Facts of the program that each card asks. -/
import Derived.Test.YtigapglmipmbeaaGreatDoorLwDistNames12
import Derived.Test.YtigapglmipmbeaaGreatDoorLwDistNames08
import Derived.ProofKit
import Derived.OpenShut
import Derived.ShutString
import Derived.ChangeOld
import Derived.ChangeSame
import Derived.Test.YtigapglmipmbeaaGreatDoorProg
import Derived.WalkKit
import Derived.Handy
import Derived.Lib.Hide
import Derived.BigQuiet
import Derived.Maps.OwnSet
import Derived.Maps.StringElems
import Derived.Maps.AppendAt
import Derived.WalkLawsBesides
import Derived.WalkSpells
import Derived.ChangeSlices
import Derived.Deep.Slices
import Derived.Test.YtigapglmipmbeaaGreatDoorLwDistNames09
import Derived.Lib.SmallJoins
import Derived.Test.YtigapglmipmbeaaGreatDoorCards
import Derived.Test.YtigapglmipmbeaaGreatDoorTie
import Derived.KernelRfl
import Derived.SevenTiedAt
set_option maxRecDepth 100000
set_option maxHeartbeats 16000000
namespace Go.Proofs.YtigapglmipmbeaaGreatDoor
open Go.RowKit Go.Shelf
open Lim
attribute [local go_sem] Oper.semAt_some
theorem srow_one {W:World} {b:Nat} {x:ByteArray} (k:Blk W b 9 #[.string x]):SRowT W (.slice (some ⟨b,0,none⟩) 1 1) [x] :=
 ⟨_,_,rfl,by unfold maxLen;simp,fun _=>⟨b,0,rfl,k.lt,fun j y hj=>by
  match j with
  | 0=>cases hj;exact cell0 k
  | j+1=>simp at hj⟩⟩
theorem srow_nil (W:World):SRowT W (.slice none 0 0) []:=⟨none,0,rfl,Nat.zero_le _,fun h=>by simp at h⟩
theorem distNames_any (w:World) (hr:Res w):Calls Tryz.prog 4 #[] w fun e w'=>e=.returned (.bool true)∧Below w.heap.size w w':=by
 have N0:=Lib.hid (NW.refl hr)
 have HLV:=Lib.hid (fun (w:World) hr=>dlives_any w hr)
 have HD1:=Lib.hid (fun u v W (hu:LRow W u halfL) (hv:LRow W v thirdsL) (hr:Res W)=>ddelta_any halfL thirdsL u v ⟨#[51,47,50]⟩ W hu hv short_half short_thirds (by decide) hr)
 have HD2:=Lib.hid (fun u v W (hu:LRow W u pointL) (hv:LRow W v halfL) (hr:Res W)=>ddelta_any pointL halfL u v ⟨#[49]⟩ W hu hv short_point short_half (by decide) hr)
 have HD3:=Lib.hid (fun u v W (hu:LRow W u thirdsL) (hv:LRow W v halfL) (hr:Res W)=>ddistance_any thirdsL halfL u v W hu hv short_thirds short_half hr)
 have HF1:=Lib.hid (fun u v W (hu:LRow W u halfL) (hv:LRow W v thirdsL) (hr:Res W)=>dfactor_any halfL thirdsL u v W hu hv short_half short_thirds hr)
 have HF2:=Lib.hid (fun u v W (hu:LRow W u halfL) (hv:LRow W v pointL) (hr:Res W)=>dfactor_any halfL pointL u v W hu hv short_half short_point hr)
 have HPR:=Lib.hid (fun u v W (hu:LRow W u pointL) (hv:LRow W v halfL) (hr:Res W)=>dprod_any pointL halfL u v W hu hv short_point short_half (by decide) (by decide) (by decide) hr)
 have HM1:=Lib.hid (fun u v W (hu:LRow W u pointL) (hv:LRow W v thirdsL) (hr:Res W)=>dmix_any ⟨#[49,47,50]⟩ pointL thirdsL u v W hu hv short_point short_thirds (by decide) (by decide) nam_sub hr)
 have HM2:=Lib.hid (fun u v W (hu:LRow W u halfL) (hv:LRow W v thirdsL) (hr:Res W)=>dmix_any ⟨#[50]⟩ halfL thirdsL u v W hu hv short_half short_thirds (by decide) (by decide) nam_sub2 hr)
 have HU1:=Lib.hid (fun u x y W (hu:LRow W u halfL) (hx:SRowT W x [⟨#[98]⟩]) (hy:SRowT W y [⟨#[97]⟩]) (hr:Res W)=>dpush_any halfL _ _ u x y W hu hx hy short_half (by decide) hr)
 have HU2:=Lib.hid (fun u x y W (hu:LRow W u halfL) (hx:SRowT W x [⟨#[98]⟩]) (hy:SRowT W y []) (hr:Res W)=>dpush_any halfL _ _ u x y W hu hx hy short_half (by decide) hr)
 have HD4:=Lib.hid (fun u v W (hu:LRow W u halfL) (hv:LRow W v thirdsL) (hr:Res W)=>ddelta_any halfL thirdsL u v ⟨#[45,49]⟩ W hu hv short_half short_thirds (by decide) hr)
 have HMO:=Lib.hid (fun u v W (hu:LRow W u halfL) (hv:LRow W v thirdsL) (hr:Res W)=>dmoment_any halfL thirdsL u v 9 W hu hv short_half short_thirds hr)
 have HMK:=Lib.hid (fun u W (hu:LRow W u mkL) (hr:Res W)=>dmake_any mkL u W hu short_mk hr)
 have HD5:=Lib.hid (fun u v W (hu:LRow W u halfL) (hv:LRow W v thirdsL) (hr:Res W)=>ddelta_any halfL thirdsL u v ⟨#[48]⟩ W hu hv short_half short_thirds (by decide) hr)
 have HSA:=Lib.hid (fun (l:List L2) u v W (hu:LRow W u l) (hv:LRow W v l) (hr:Res W)=>dsame_any l l u v W hu hv hr)
 have HT1:=Lib.hid (fun u W (hu:LRow W u thirdsL) (hr:Res W)=>dAt_any thirdsL u ⟨#[98]⟩ W hu hr)
 have HT2:=Lib.hid (fun u W (hu:LRow W u thirdsL) (hr:Res W)=>dAt_any thirdsL u ⟨#[122]⟩ W hu hr)
 have HT3:=Lib.hid (fun u W (hu:LRow W u []) (hr:Res W)=>dAt_any [] u ⟨#[]⟩ W hu hr)
 rw [nam_1] at HD1
 rw [nam_2] at HD2
 rw [nam_3] at HD3
 rw [nam_4] at HF1
 rw [nam_5] at HF2
 rw [nam_6] at HPR
 rw [nam_7] at HM1
 rw [nam_8] at HU1
 rw [nam_9] at HU2
 rw [nam_10] at HM2
 rw [nam_11] at HD4
 rw [nam_12] at HMO
 rw [nam_13] at HMK
 rw [nam_14] at HD5
 rw [nam_at1] at HT1
 rw [nam_at2] at HT2
 rw [nam_at3] at HT3
 simp only [same_refl8] at HSA
 clear hr
 have TK0:True:=trivial
 have TK1:True:=trivial
 have TK2:True:=trivial
 have TK3:True:=trivial
 have TK4:True:=trivial
 have TK5:True:=trivial
 have TK6:True:=trivial
 have TK7:True:=trivial
 have TK8:True:=trivial
 have TK9:True:=trivial
 have TK10:True:=trivial
 have TK11:True:=trivial
 have TK12:True:=trivial
 have TK13:True:=trivial
 have TK14:True:=trivial
 have TK15:True:=trivial
 have TK16:True:=trivial
 have TK17:True:=trivial
 have TK18:True:=trivial
 have TK19:True:=trivial
 have TK20:True:=trivial
 have TK21:True:=trivial
 have TK22:True:=trivial
 have TK23:True:=trivial
 have TK24:True:=trivial
 have TK25:True:=trivial
 have TK26:True:=trivial
 have TK27:True:=trivial
 have TK28:True:=trivial
 have TK29:True:=trivial
 have TK30:True:=trivial
 have TK31:True:=trivial
 have TK32:True:=trivial
 have TK33:True:=trivial
 have TK34:True:=trivial
 have TK35:True:=trivial
 have TK36:True:=trivial
 have TK37:True:=trivial
 have TK38:True:=trivial
 have TK39:True:=trivial
 go_enter Tryz.func4,Tryz.ntmps4
 go_wp2_with ((clear TK0;go_at_call 21;refine (HLV.out _ N0.out.res).mono ?_;rintro e w1 ⟨rfl,hb⟩;have N1:=Lib.hid (N0.out.later hb);clear hb))
 go_wp2_with ((clear TK1;go_at_call 43;refine (half_call _ N1.out.res).mono ?_;rintro e w2 ⟨⟨bP,rfl,ho⟩,hb⟩;have XP:=Lib.hid ho;clear ho;have N2:=Lib.hid (N1.out.later hb);clear hb))
 go_wp2_with ((clear TK2;go_at_call 44;refine (thirds_call _ N2.out.res).mono ?_;rintro e w3 ⟨⟨bQ,rfl,ho⟩,hb⟩;have XP:=Lib.hid (XP.out.below hb);have XQ:=Lib.hid ho;clear ho;have N3:=Lib.hid (N2.out.later hb);clear hb))
 go_wp2_with ((clear TK3;go_at_call 41;refine (dpoint_any _ _).mono ?_;rintro e w4 ⟨⟨uR,rfl,ho⟩,hb⟩;have XP:=Lib.hid (XP.out.below hb);have XQ:=Lib.hid (XQ.out.below hb);have XR:=Lib.hid (show LRow _ uR pointL from ho);obtain ⟨AR,cR,rfl,_,_⟩:=ho;have N4:=Lib.hid (N3.out.later hb);clear hb))
 have k0:=Blk.new w4 30 #[.string ⟨#[97]⟩,.string ⟨#[120]⟩]
 have k1:=Blk.new (w4.alloc (.cells #[.string ⟨#[97]⟩,.string ⟨#[120]⟩] 30)) 30 #[.string ⟨#[97]⟩,.string ⟨#[48]⟩,.string ⟨#[98]⟩,.string ⟨#[49]⟩]
 simp only [World.size_alloc] at k1
 have k2:=Blk.new ((w4.alloc (.cells #[.string ⟨#[97]⟩,.string ⟨#[120]⟩] 30)).alloc (.cells #[.string ⟨#[97]⟩,.string ⟨#[48]⟩,.string ⟨#[98]⟩,.string ⟨#[49]⟩] 30)) 30 #[.string ⟨#[98]⟩,.string ⟨#[49,47,50]⟩,.string ⟨#[97]⟩,.string ⟨#[49,47,50]⟩]
 simp only [World.size_alloc] at k2
 have k3:=Blk.new (((w4.alloc (.cells #[.string ⟨#[97]⟩,.string ⟨#[120]⟩] 30)).alloc (.cells #[.string ⟨#[97]⟩,.string ⟨#[48]⟩,.string ⟨#[98]⟩,.string ⟨#[49]⟩] 30)).alloc (.cells #[.string ⟨#[98]⟩,.string ⟨#[49,47,50]⟩,.string ⟨#[97]⟩,.string ⟨#[49,47,50]⟩] 30)) 30 #[.string ⟨#[97]⟩,.string ⟨#[49,47,50]⟩,.string ⟨#[97]⟩,.string ⟨#[49,47,50]⟩]
 simp only [World.size_alloc] at k3
 have k4:=Blk.new ((((w4.alloc (.cells #[.string ⟨#[97]⟩,.string ⟨#[120]⟩] 30)).alloc (.cells #[.string ⟨#[97]⟩,.string ⟨#[48]⟩,.string ⟨#[98]⟩,.string ⟨#[49]⟩] 30)).alloc (.cells #[.string ⟨#[98]⟩,.string ⟨#[49,47,50]⟩,.string ⟨#[97]⟩,.string ⟨#[49,47,50]⟩] 30)).alloc (.cells #[.string ⟨#[97]⟩,.string ⟨#[49,47,50]⟩,.string ⟨#[97]⟩,.string ⟨#[49,47,50]⟩] 30)) 30 #[.string ⟨#[97]⟩,.string ⟨#[49,47,50]⟩]
 simp only [World.size_alloc] at k4
 have k5:=Blk.new (((((w4.alloc (.cells #[.string ⟨#[97]⟩,.string ⟨#[120]⟩] 30)).alloc (.cells #[.string ⟨#[97]⟩,.string ⟨#[48]⟩,.string ⟨#[98]⟩,.string ⟨#[49]⟩] 30)).alloc (.cells #[.string ⟨#[98]⟩,.string ⟨#[49,47,50]⟩,.string ⟨#[97]⟩,.string ⟨#[49,47,50]⟩] 30)).alloc (.cells #[.string ⟨#[97]⟩,.string ⟨#[49,47,50]⟩,.string ⟨#[97]⟩,.string ⟨#[49,47,50]⟩] 30)).alloc (.cells #[.string ⟨#[97]⟩,.string ⟨#[49,47,50]⟩] 30)) 30 #[.string ⟨#[97]⟩,.string ⟨#[50]⟩,.string ⟨#[98]⟩,.string ⟨#[45,49]⟩]
 simp only [World.size_alloc] at k5
 have k6:=Blk.new ((((((w4.alloc (.cells #[.string ⟨#[97]⟩,.string ⟨#[120]⟩] 30)).alloc (.cells #[.string ⟨#[97]⟩,.string ⟨#[48]⟩,.string ⟨#[98]⟩,.string ⟨#[49]⟩] 30)).alloc (.cells #[.string ⟨#[98]⟩,.string ⟨#[49,47,50]⟩,.string ⟨#[97]⟩,.string ⟨#[49,47,50]⟩] 30)).alloc (.cells #[.string ⟨#[97]⟩,.string ⟨#[49,47,50]⟩,.string ⟨#[97]⟩,.string ⟨#[49,47,50]⟩] 30)).alloc (.cells #[.string ⟨#[97]⟩,.string ⟨#[49,47,50]⟩] 30)).alloc (.cells #[.string ⟨#[97]⟩,.string ⟨#[50]⟩,.string ⟨#[98]⟩,.string ⟨#[45,49]⟩] 30)) 31 #[.slice none 0 0,.slice (some ⟨w4.heap.size,0,none⟩) 1 1,.slice (some ⟨w4.heap.size+1,0,none⟩) 2 2,.slice (some ⟨w4.heap.size+1+1,0,none⟩) 2 2,.slice (some ⟨w4.heap.size+1+1+1,0,none⟩) 2 2,.slice (some ⟨w4.heap.size+1+1+1+1,0,none⟩) 1 1,.slice (some ⟨w4.heap.size+1+1+1+1+1,0,none⟩) 2 2]
 simp only [World.size_alloc] at k6
 have k7:=Blk.new (((((((w4.alloc (.cells #[.string ⟨#[97]⟩,.string ⟨#[120]⟩] 30)).alloc (.cells #[.string ⟨#[97]⟩,.string ⟨#[48]⟩,.string ⟨#[98]⟩,.string ⟨#[49]⟩] 30)).alloc (.cells #[.string ⟨#[98]⟩,.string ⟨#[49,47,50]⟩,.string ⟨#[97]⟩,.string ⟨#[49,47,50]⟩] 30)).alloc (.cells #[.string ⟨#[97]⟩,.string ⟨#[49,47,50]⟩,.string ⟨#[97]⟩,.string ⟨#[49,47,50]⟩] 30)).alloc (.cells #[.string ⟨#[97]⟩,.string ⟨#[49,47,50]⟩] 30)).alloc (.cells #[.string ⟨#[97]⟩,.string ⟨#[50]⟩,.string ⟨#[98]⟩,.string ⟨#[45,49]⟩] 30)).alloc (.cells #[.slice none 0 0,.slice (some ⟨w4.heap.size,0,none⟩) 1 1,.slice (some ⟨w4.heap.size+1,0,none⟩) 2 2,.slice (some ⟨w4.heap.size+1+1,0,none⟩) 2 2,.slice (some ⟨w4.heap.size+1+1+1,0,none⟩) 2 2,.slice (some ⟨w4.heap.size+1+1+1+1,0,none⟩) 1 1,.slice (some ⟨w4.heap.size+1+1+1+1+1,0,none⟩) 2 2] 31)) 32 #[.int .i64 15,.int .i64 3,.int .i64 2,.int .i64 9,.int .i64 9,.int .i64 15,.int .i64 2]
 simp only [World.size_alloc] at k7
 have hb8:Below w4.heap.size w4 ((((((((w4.alloc (.cells #[.string ⟨#[97]⟩,.string ⟨#[120]⟩] 30)).alloc (.cells #[.string ⟨#[97]⟩,.string ⟨#[48]⟩,.string ⟨#[98]⟩,.string ⟨#[49]⟩] 30)).alloc (.cells #[.string ⟨#[98]⟩,.string ⟨#[49,47,50]⟩,.string ⟨#[97]⟩,.string ⟨#[49,47,50]⟩] 30)).alloc (.cells #[.string ⟨#[97]⟩,.string ⟨#[49,47,50]⟩,.string ⟨#[97]⟩,.string ⟨#[49,47,50]⟩] 30)).alloc (.cells #[.string ⟨#[97]⟩,.string ⟨#[49,47,50]⟩] 30)).alloc (.cells #[.string ⟨#[97]⟩,.string ⟨#[50]⟩,.string ⟨#[98]⟩,.string ⟨#[45,49]⟩] 30)).alloc (.cells #[.slice none 0 0,.slice (some ⟨w4.heap.size,0,none⟩) 1 1,.slice (some ⟨w4.heap.size+1,0,none⟩) 2 2,.slice (some ⟨w4.heap.size+1+1,0,none⟩) 2 2,.slice (some ⟨w4.heap.size+1+1+1,0,none⟩) 2 2,.slice (some ⟨w4.heap.size+1+1+1+1,0,none⟩) 1 1,.slice (some ⟨w4.heap.size+1+1+1+1+1,0,none⟩) 2 2] 31)).alloc (.cells #[.int .i64 15,.int .i64 3,.int .i64 2,.int .i64 9,.int .i64 9,.int .i64 15,.int .i64 2] 32)):=(below_alloc (below_alloc (below_alloc (below_alloc (below_alloc (below_alloc (below_alloc (below_alloc (Below.refl _ _) _) _) _) _) _) _) _) _)
 have LB:LLRow ((((((((w4.alloc (.cells #[.string ⟨#[97]⟩,.string ⟨#[120]⟩] 30)).alloc (.cells #[.string ⟨#[97]⟩,.string ⟨#[48]⟩,.string ⟨#[98]⟩,.string ⟨#[49]⟩] 30)).alloc (.cells #[.string ⟨#[98]⟩,.string ⟨#[49,47,50]⟩,.string ⟨#[97]⟩,.string ⟨#[49,47,50]⟩] 30)).alloc (.cells #[.string ⟨#[97]⟩,.string ⟨#[49,47,50]⟩,.string ⟨#[97]⟩,.string ⟨#[49,47,50]⟩] 30)).alloc (.cells #[.string ⟨#[97]⟩,.string ⟨#[49,47,50]⟩] 30)).alloc (.cells #[.string ⟨#[97]⟩,.string ⟨#[50]⟩,.string ⟨#[98]⟩,.string ⟨#[45,49]⟩] 30)).alloc (.cells #[.slice none 0 0,.slice (some ⟨w4.heap.size,0,none⟩) 1 1,.slice (some ⟨w4.heap.size+1,0,none⟩) 2 2,.slice (some ⟨w4.heap.size+1+1,0,none⟩) 2 2,.slice (some ⟨w4.heap.size+1+1+1,0,none⟩) 2 2,.slice (some ⟨w4.heap.size+1+1+1+1,0,none⟩) 1 1,.slice (some ⟨w4.heap.size+1+1+1+1+1,0,none⟩) 2 2] 31)).alloc (.cells #[.int .i64 15,.int .i64 3,.int .i64 2,.int .i64 9,.int .i64 9,.int .i64 15,.int .i64 2] 32)) (.slice (some ⟨w4.heap.size+1+1+1+1+1+1,0,none⟩) 7 7) badL:=LLRow.ofBlk (vs:=[(.slice none 0 0,[]),(.slice (some ⟨w4.heap.size,0,none⟩) 1 1,[(⟨#[97]⟩,⟨#[120]⟩)]),(.slice (some ⟨w4.heap.size+1,0,none⟩) 2 2,[(⟨#[97]⟩,⟨#[48]⟩),(⟨#[98]⟩,⟨#[49]⟩)]),(.slice (some ⟨w4.heap.size+1+1,0,none⟩) 2 2,[(⟨#[98]⟩,⟨#[49,47,50]⟩),(⟨#[97]⟩,⟨#[49,47,50]⟩)]),(.slice (some ⟨w4.heap.size+1+1+1,0,none⟩) 2 2,[(⟨#[97]⟩,⟨#[49,47,50]⟩),(⟨#[97]⟩,⟨#[49,47,50]⟩)]),(.slice (some ⟨w4.heap.size+1+1+1+1,0,none⟩) 1 1,[(⟨#[97]⟩,⟨#[49,47,50]⟩)]),(.slice (some ⟨w4.heap.size+1+1+1+1+1,0,none⟩) 2 2,[(⟨#[97]⟩,⟨#[50]⟩),(⟨#[98]⟩,⟨#[45,49]⟩)])]) ((k6.alloc _)) rfl (by simp) (fun x hx=>by
  simp only [List.mem_cons,List.not_mem_nil,or_false] at hx
  rcases hx with rfl|rfl|rfl|rfl|rfl|rfl|rfl
  ·exact LRow.wide (LRow.nil _ _ _)
  ·exact (LRow.one ((((((((k0.alloc _).alloc _).alloc _).alloc _).alloc _).alloc _).alloc _))).wide
  ·exact (LRow.two (((((((k1.alloc _).alloc _).alloc _).alloc _).alloc _).alloc _))).wide
  ·exact (LRow.two ((((((k2.alloc _).alloc _).alloc _).alloc _).alloc _))).wide
  ·exact (LRow.two (((((k3.alloc _).alloc _).alloc _).alloc _))).wide
  ·exact (LRow.one ((((k4.alloc _).alloc _).alloc _))).wide
  ·exact (LRow.two (((k5.alloc _).alloc _))).wide
  )
 have LB:=Lib.hid LB
 have KW:=Lib.hid k7
 have XP:=Lib.hid (XP.out.below hb8)
 have XQ:=Lib.hid (XQ.out.below hb8)
 have XR:=Lib.hid (XR.out.below hb8)
 have N8:=Lib.hid (N4.out.later hb8)
 clear k0 k1 k2 k3 k4 k5 k6 k7 hb8
 generalize ((((((((w4.alloc (.cells #[.string ⟨#[97]⟩,.string ⟨#[120]⟩] 30)).alloc (.cells #[.string ⟨#[97]⟩,.string ⟨#[48]⟩,.string ⟨#[98]⟩,.string ⟨#[49]⟩] 30)).alloc (.cells #[.string ⟨#[98]⟩,.string ⟨#[49,47,50]⟩,.string ⟨#[97]⟩,.string ⟨#[49,47,50]⟩] 30)).alloc (.cells #[.string ⟨#[97]⟩,.string ⟨#[49,47,50]⟩,.string ⟨#[97]⟩,.string ⟨#[49,47,50]⟩] 30)).alloc (.cells #[.string ⟨#[97]⟩,.string ⟨#[49,47,50]⟩] 30)).alloc (.cells #[.string ⟨#[97]⟩,.string ⟨#[50]⟩,.string ⟨#[98]⟩,.string ⟨#[45,49]⟩] 30)).alloc (.cells #[.slice none 0 0,.slice (some ⟨w4.heap.size,0,none⟩) 1 1,.slice (some ⟨w4.heap.size+1,0,none⟩) 2 2,.slice (some ⟨w4.heap.size+1+1,0,none⟩) 2 2,.slice (some ⟨w4.heap.size+1+1+1,0,none⟩) 2 2,.slice (some ⟨w4.heap.size+1+1+1+1,0,none⟩) 1 1,.slice (some ⟨w4.heap.size+1+1+1+1+1,0,none⟩) 2 2] 31)).alloc (.cells #[.int .i64 15,.int .i64 3,.int .i64 2,.int .i64 9,.int .i64 9,.int .i64 15,.int .i64 2] 32))=W8 at *
 generalize w4.heap.size+1+1+1+1+1+1+1=bw at *
 generalize w4.heap.size+1+1+1+1+1+1=bb at *
 go_loopw [6] (fun v6 wr=>∃ k:Nat,k≤7∧v6=.int .i64 (k:Int)∧Hid (Below W8.heap.size W8 wr)) (fun v6 _=>7 - (intOf v6).toNat)
 case atStart=>exact ⟨0,Nat.zero_le _,rfl,Lib.hid (Below.refl _ _)⟩
 case round =>
  obtain ⟨k,hk,rfl,HB⟩:=hrel
  by_cases hlt:k < 7
  ·have hlt':(k:Int) < 7:=by omega
   obtain ⟨l,hl⟩:∃ l,badL[k]?=some l:=⟨_,List.getElem?_eq_getElem (show k < 7 from hlt)⟩
   obtain ⟨hw,hs,hn⟩:=bad_want hl
   obtain ⟨b9,c9,e9,hb9,_,hc9⟩:=LB.out.below HB.out
   simp only [Value.slice.injEq,Option.some.injEq,Addr.mk.injEq,and_true] at e9
   obtain ⟨rfl,_⟩:=e9
   obtain ⟨A9,d9,y9,r9⟩:=LLRow.nth hb9 hc9 hl
   have R9:=Lib.hid (fun z:LaterW wr=>(r9 z).row hn)
   have HWB:=KW.out.below HB.out KW.out.lt
   have x9:∀ z:LaterW wr,z.W.cell? ⟨bw,k,none⟩=some (.int .i64 (chkD l:Int)):=fun z=>by
    have h1:=(HWB.below z.h HWB.lt).cell k
    rw [h1]
    have h2:(#[.int .i64 15,.int .i64 3,.int .i64 2,.int .i64 9,.int .i64 9,.int .i64 15,.int .i64 2]:Array Value)=(List.map (fun n:Nat=>Value.int .i64 (n:Int)) wantL).toArray:=rfl
    rw [h2,List.getElem?_toArray,List.getElem?_map,hw]
    rfl
   have HCK:=Lib.hid (fun u W (hu:LRow W u l) (hr:Res W)=>dcheck_any l u W hu hs hr)
   have RS:=Lib.hid (fun z:LaterW wr=>(N8.out.later HB.out).res.below z.h)
   have HWR:=Lib.hid (And.intro hlt hlt')
   generalize (chkD l:Int)=nn at *
   clear hl hw hs hn r9 hc9 hb9 HWB hlt
   go_wp2
   refine wp_region_wide ⟨wr,Below.refl _ _⟩ (by kernel_rfl) (by kernel_rfl) ?_
   repeat (go_big_quiet_step (first
    | (go_at_call 36;refine (HCK.out _ _ (R9.out _) (RS.out _)).mono ?_;rintro e w99 ⟨rfl,hb9⟩;exact ⟨rfl,⟨⟨w99,(LaterW.h _).trans (hb9.mono (LaterW.h _).size)⟩,rfl⟩⟩)))
   refine wpQuiet_nil ?_
   rintro _ ⟨z9,rfl⟩
   clear y9 x9
   go_wp2
   go_roundw
   case rel=>exact ⟨k+1,HWR.out.1,by go_num,Lib.hid (HB.out.trans (z9.h.mono HB.out.size))⟩
   case measure=>have:=HWR.out.1;simp [intOf];omega
  ·have hlt':¬ (k:Int) < 7:=by omega
   have XP:=Lib.hid (XP.out.below HB.out)
   have XQ:=Lib.hid (XQ.out.below HB.out)
   have XR:=Lib.hid (XR.out.below HB.out)
   obtain ⟨w20,rfl⟩:∃ x,x=wr:=⟨_,rfl⟩
   have N20:=Lib.hid (N8.out.later HB.out)
   clear hlt LB KW N8 HB
   go_wp2_with ((clear TK4;go_at_call 45;refine (HD1.out _ _ _ XP.out XQ.out N20.out.res).mono ?_;rintro e w21 ⟨rfl,hb⟩;have XP:=Lib.hid (XP.out.below hb);have XQ:=Lib.hid (XQ.out.below hb);have XR:=Lib.hid (XR.out.below hb);have N21:=Lib.hid (N20.out.later hb);clear hb))
   go_wp2_with ((clear TK5;go_at_call 45;refine (HD2.out _ _ _ XR.out XP.out N21.out.res).mono ?_;rintro e w22 ⟨rfl,hb⟩;have XP:=Lib.hid (XP.out.below hb);have XQ:=Lib.hid (XQ.out.below hb);have XR:=Lib.hid (XR.out.below hb);have N22:=Lib.hid (N21.out.later hb);clear hb))
   go_wp2_with ((clear TK6;go_at_call 46;refine (HD3.out _ _ _ XQ.out XP.out N22.out.res).mono ?_;rintro e w23 ⟨rfl,hb⟩;have XP:=Lib.hid (XP.out.below hb);have XQ:=Lib.hid (XQ.out.below hb);have XR:=Lib.hid (XR.out.below hb);have N23:=Lib.hid (N22.out.later hb);clear hb))
   go_wp2_with ((clear TK7;go_at_call 47;refine (HF1.out _ _ _ XP.out XQ.out N23.out.res).mono ?_;rintro e w24 ⟨rfl,hb⟩;have XP:=Lib.hid (XP.out.below hb);have XQ:=Lib.hid (XQ.out.below hb);have XR:=Lib.hid (XR.out.below hb);have N24:=Lib.hid (N23.out.later hb);clear hb))
   go_wp2_with ((clear TK8;go_at_call 47;refine (HF2.out _ _ _ XP.out XR.out N24.out.res).mono ?_;rintro e w25 ⟨rfl,hb⟩;have XP:=Lib.hid (XP.out.below hb);have XQ:=Lib.hid (XQ.out.below hb);have XR:=Lib.hid (XR.out.below hb);have N25:=Lib.hid (N24.out.later hb);clear hb))
   go_wp2_with ((clear TK9;go_at_call 27;refine (HPR.out _ _ _ XR.out XP.out N25.out.res).mono ?_;rintro e w26 ⟨⟨uF,rfl,ho⟩,hb⟩;have XP:=Lib.hid (XP.out.below hb);have XQ:=Lib.hid (XQ.out.below hb);have XR:=Lib.hid (XR.out.below hb);have XF:=Lib.hid (ho.row (by decide));obtain ⟨AF,cF,rfl⟩:=ho.slice;clear ho;have N26:=Lib.hid (N25.out.later hb);clear hb))
   go_wp2_with ((clear TK10;go_at_call 29;refine (HM1.out _ _ _ XR.out XQ.out N26.out.res).mono ?_;rintro e w27 ⟨⟨uG,rfl,ho⟩,hb⟩;have XP:=Lib.hid (XP.out.below hb);have XQ:=Lib.hid (XQ.out.below hb);have XR:=Lib.hid (XR.out.below hb);have XF:=Lib.hid (XF.out.below hb);have XG:=Lib.hid (ho.row (by decide));obtain ⟨AG,cG,rfl⟩:=ho.slice;clear ho;have N27:=Lib.hid (N26.out.later hb);clear hb))
   have k0:=Blk.new w27 9 #[.string ⟨#[98]⟩]
   have k1:=Blk.new (w27.alloc (.cells #[.string ⟨#[98]⟩] 9)) 9 #[.string ⟨#[97]⟩]
   simp only [World.size_alloc] at k1
   have k0:=k0.alloc (.cells #[.string ⟨#[97]⟩] 9)
   have hb8:Below w27.heap.size w27 ((w27.alloc (.cells #[.string ⟨#[98]⟩] 9)).alloc (.cells #[.string ⟨#[97]⟩] 9)):=(below_alloc (below_alloc (Below.refl _ _) _) _)
   have XP:=Lib.hid (XP.out.below hb8)
   have XQ:=Lib.hid (XQ.out.below hb8)
   have XR:=Lib.hid (XR.out.below hb8)
   have XF:=Lib.hid (XF.out.below hb8)
   have XG:=Lib.hid (XG.out.below hb8)
   have YB:=Lib.hid (srow_one k0)
   have YA:=Lib.hid (srow_one k1)
   have N28:=Lib.hid (N27.out.later hb8)
   clear k0 k1 hb8
   generalize ((w27.alloc (.cells #[.string ⟨#[98]⟩] 9)).alloc (.cells #[.string ⟨#[97]⟩] 9))=w28 at *
   go_wp2_with ((clear TK11;go_at_call 31;refine (HU1.out _ _ _ _ XP.out YB.out YA.out N28.out.res).mono ?_;rintro e w29 ⟨⟨uH,rfl,ho⟩,hb⟩;have XP:=Lib.hid (XP.out.below hb);have XQ:=Lib.hid (XQ.out.below hb);have XR:=Lib.hid (XR.out.below hb);have XF:=Lib.hid (XF.out.below hb);have XG:=Lib.hid (XG.out.below hb);have XH:=Lib.hid (ho.row (by decide));obtain ⟨AH,cH,rfl⟩:=ho.slice;clear ho;have N29:=Lib.hid (N28.out.later hb);clear hb))
   have k0:=Blk.new w29 9 #[.string ⟨#[98]⟩]
   have hb8:Below w29.heap.size w29 (w29.alloc (.cells #[.string ⟨#[98]⟩] 9)):=(below_alloc (Below.refl _ _) _)
   have XP:=Lib.hid (XP.out.below hb8)
   have XQ:=Lib.hid (XQ.out.below hb8)
   have XR:=Lib.hid (XR.out.below hb8)
   have XF:=Lib.hid (XF.out.below hb8)
   have XG:=Lib.hid (XG.out.below hb8)
   have XH:=Lib.hid (XH.out.below hb8)
   have YC:=Lib.hid (srow_one k0)
   have N30:=Lib.hid (N29.out.later hb8)
   clear k0 hb8
   generalize (w29.alloc (.cells #[.string ⟨#[98]⟩] 9))=w30 at *
   go_wp2_with ((clear TK12;go_at_call 31;refine (HU2.out _ _ _ _ XP.out YC.out (srow_nil _) N30.out.res).mono ?_;rintro e w31 ⟨rfl,hb⟩;have XP:=Lib.hid (XP.out.below hb);have XQ:=Lib.hid (XQ.out.below hb);have XR:=Lib.hid (XR.out.below hb);have XF:=Lib.hid (XF.out.below hb);have XG:=Lib.hid (XG.out.below hb);have XH:=Lib.hid (XH.out.below hb);have N31:=Lib.hid (N30.out.later hb);clear hb))
   go_wp2_with ((clear TK13;go_at_call 29;refine (HM2.out _ _ _ XP.out XQ.out N31.out.res).mono ?_;rintro e w32 ⟨rfl,hb⟩;have XP:=Lib.hid (XP.out.below hb);have XQ:=Lib.hid (XQ.out.below hb);have XR:=Lib.hid (XR.out.below hb);have XF:=Lib.hid (XF.out.below hb);have XG:=Lib.hid (XG.out.below hb);have XH:=Lib.hid (XH.out.below hb);have N32:=Lib.hid (N31.out.later hb);clear hb))
   go_wp2_with ((clear TK14;go_at_call 45;refine (HD4.out _ _ _ XP.out XQ.out N32.out.res).mono ?_;rintro e w33 ⟨rfl,hb⟩;have XP:=Lib.hid (XP.out.below hb);have XQ:=Lib.hid (XQ.out.below hb);have XR:=Lib.hid (XR.out.below hb);have XF:=Lib.hid (XF.out.below hb);have XG:=Lib.hid (XG.out.below hb);have XH:=Lib.hid (XH.out.below hb);have N33:=Lib.hid (N32.out.later hb);clear hb))
   go_wp2_with ((clear TK15;go_at_call 48;refine (HMO.out _ _ _ XP.out XQ.out N33.out.res).mono ?_;rintro e w34 ⟨rfl,hb⟩;have XP:=Lib.hid (XP.out.below hb);have XQ:=Lib.hid (XQ.out.below hb);have XR:=Lib.hid (XR.out.below hb);have XF:=Lib.hid (XF.out.below hb);have XG:=Lib.hid (XG.out.below hb);have XH:=Lib.hid (XH.out.below hb);have N34:=Lib.hid (N33.out.later hb);clear hb))
   have k0:=Blk.new w34 30 #[.string ⟨#[97]⟩,.string ⟨#[45,49]⟩,.string ⟨#[97]⟩,.string ⟨#[50]⟩]
   have hb8:Below w34.heap.size w34 (w34.alloc (.cells #[.string ⟨#[97]⟩,.string ⟨#[45,49]⟩,.string ⟨#[97]⟩,.string ⟨#[50]⟩] 30)):=(below_alloc (Below.refl _ _) _)
   have XP:=Lib.hid (XP.out.below hb8)
   have XQ:=Lib.hid (XQ.out.below hb8)
   have XR:=Lib.hid (XR.out.below hb8)
   have XF:=Lib.hid (XF.out.below hb8)
   have XG:=Lib.hid (XG.out.below hb8)
   have XH:=Lib.hid (XH.out.below hb8)
   have XM:=Lib.hid (show LRow _ _ mkL from LRow.two k0)
   have N35:=Lib.hid (N34.out.later hb8)
   clear k0 hb8
   generalize (w34.alloc (.cells #[.string ⟨#[97]⟩,.string ⟨#[45,49]⟩,.string ⟨#[97]⟩,.string ⟨#[50]⟩] 30))=w35 at *
   go_wp2_with ((clear TK16;go_at_call 25;refine (HMK.out _ _ XM.out N35.out.res).mono ?_;rintro e w36 ⟨rfl,hb⟩;have XP:=Lib.hid (XP.out.below hb);have XQ:=Lib.hid (XQ.out.below hb);have XR:=Lib.hid (XR.out.below hb);have XF:=Lib.hid (XF.out.below hb);have XG:=Lib.hid (XG.out.below hb);have XH:=Lib.hid (XH.out.below hb);have N36:=Lib.hid (N35.out.later hb);clear hb))
   go_wp2_with ((clear TK17;go_at_call 45;refine (HD5.out _ _ _ XP.out XQ.out N36.out.res).mono ?_;rintro e w37 ⟨rfl,hb⟩;have XP:=Lib.hid (XP.out.below hb);have XQ:=Lib.hid (XQ.out.below hb);have XR:=Lib.hid (XR.out.below hb);have XF:=Lib.hid (XF.out.below hb);have XG:=Lib.hid (XG.out.below hb);have XH:=Lib.hid (XH.out.below hb);have N37:=Lib.hid (N36.out.later hb);clear hb))
   have k0:=Blk.new w37 30 #[.string ⟨#[97,124,97]⟩,.string ⟨#[49,47,50]⟩,.string ⟨#[97,124,98]⟩,.string ⟨#[49,47,50]⟩]
   have hb8:Below w37.heap.size w37 (w37.alloc (.cells #[.string ⟨#[97,124,97]⟩,.string ⟨#[49,47,50]⟩,.string ⟨#[97,124,98]⟩,.string ⟨#[49,47,50]⟩] 30)):=(below_alloc (Below.refl _ _) _)
   have XP:=Lib.hid (XP.out.below hb8)
   have XQ:=Lib.hid (XQ.out.below hb8)
   have XR:=Lib.hid (XR.out.below hb8)
   have XF:=Lib.hid (XF.out.below hb8)
   have XG:=Lib.hid (XG.out.below hb8)
   have XH:=Lib.hid (XH.out.below hb8)
   have Y1:=Lib.hid (LRow.two k0)
   have N38:=Lib.hid (N37.out.later hb8)
   clear k0 hb8
   generalize (w37.alloc (.cells #[.string ⟨#[97,124,97]⟩,.string ⟨#[49,47,50]⟩,.string ⟨#[97,124,98]⟩,.string ⟨#[49,47,50]⟩] 30))=w38 at *
   go_wp2_with ((clear TK18;go_at_call 40;refine (HSA.out _ _ _ _ XF.out Y1.out N38.out.res).mono ?_;rintro e w39 ⟨rfl,hb⟩;have XP:=Lib.hid (XP.out.below hb);have XQ:=Lib.hid (XQ.out.below hb);have XR:=Lib.hid (XR.out.below hb);have XF:=Lib.hid (XF.out.below hb);have XG:=Lib.hid (XG.out.below hb);have XH:=Lib.hid (XH.out.below hb);have N39:=Lib.hid (N38.out.later hb);clear hb))
   have k0:=Blk.new w39 30 #[.string ⟨#[97]⟩,.string ⟨#[50,47,51]⟩,.string ⟨#[98]⟩,.string ⟨#[49,47,51]⟩]
   have hb8:Below w39.heap.size w39 (w39.alloc (.cells #[.string ⟨#[97]⟩,.string ⟨#[50,47,51]⟩,.string ⟨#[98]⟩,.string ⟨#[49,47,51]⟩] 30)):=(below_alloc (Below.refl _ _) _)
   have XP:=Lib.hid (XP.out.below hb8)
   have XQ:=Lib.hid (XQ.out.below hb8)
   have XR:=Lib.hid (XR.out.below hb8)
   have XF:=Lib.hid (XF.out.below hb8)
   have XG:=Lib.hid (XG.out.below hb8)
   have XH:=Lib.hid (XH.out.below hb8)
   have Y2:=Lib.hid (LRow.two k0)
   have N40:=Lib.hid (N39.out.later hb8)
   clear k0 hb8
   generalize (w39.alloc (.cells #[.string ⟨#[97]⟩,.string ⟨#[50,47,51]⟩,.string ⟨#[98]⟩,.string ⟨#[49,47,51]⟩] 30))=w40 at *
   go_wp2_with ((clear TK19;go_at_call 40;refine (HSA.out _ _ _ _ XG.out Y2.out N40.out.res).mono ?_;rintro e w41 ⟨rfl,hb⟩;have XP:=Lib.hid (XP.out.below hb);have XQ:=Lib.hid (XQ.out.below hb);have XR:=Lib.hid (XR.out.below hb);have XF:=Lib.hid (XF.out.below hb);have XG:=Lib.hid (XG.out.below hb);have XH:=Lib.hid (XH.out.below hb);have N41:=Lib.hid (N40.out.later hb);clear hb))
   go_wp2_with ((clear TK20;go_at_call 40;refine (HSA.out _ _ _ _ XH.out XR.out N41.out.res).mono ?_;rintro e w42 ⟨rfl,hb⟩;have XP:=Lib.hid (XP.out.below hb);have XQ:=Lib.hid (XQ.out.below hb);have XR:=Lib.hid (XR.out.below hb);have XF:=Lib.hid (XF.out.below hb);have XG:=Lib.hid (XG.out.below hb);have XH:=Lib.hid (XH.out.below hb);have N42:=Lib.hid (N41.out.later hb);clear hb))
   go_wp2_with ((clear TK21;go_at_call 38;refine (HT1.out _ _ XQ.out N42.out.res).mono ?_;rintro e w43 ⟨rfl,hb⟩;have XP:=Lib.hid (XP.out.below hb);have XQ:=Lib.hid (XQ.out.below hb);have XR:=Lib.hid (XR.out.below hb);have XF:=Lib.hid (XF.out.below hb);have XG:=Lib.hid (XG.out.below hb);have XH:=Lib.hid (XH.out.below hb);have N43:=Lib.hid (N42.out.later hb);clear hb))
   go_wp2_with ((clear TK22;go_at_call 38;refine (HT2.out _ _ XQ.out N43.out.res).mono ?_;rintro e w44 ⟨rfl,hb⟩;have XP:=Lib.hid (XP.out.below hb);have XQ:=Lib.hid (XQ.out.below hb);have XR:=Lib.hid (XR.out.below hb);have XF:=Lib.hid (XF.out.below hb);have XG:=Lib.hid (XG.out.below hb);have XH:=Lib.hid (XH.out.below hb);have N44:=Lib.hid (N43.out.later hb);clear hb))
   go_wp2_with ((clear TK23;go_at_call 38;refine (HT3.out _ _ (LRow.nil _ _ _) N44.out.res).mono ?_;rintro e w45 ⟨rfl,hb⟩;have XP:=Lib.hid (XP.out.below hb);have XQ:=Lib.hid (XQ.out.below hb);have XR:=Lib.hid (XR.out.below hb);have XF:=Lib.hid (XF.out.below hb);have XG:=Lib.hid (XG.out.below hb);have XH:=Lib.hid (XH.out.below hb);have N45:=Lib.hid (N44.out.later hb);clear hb))
   have k0:=Blk.new w45 30 #[]
   have hb8:Below w45.heap.size w45 (w45.alloc (.cells #[] 30)):=(below_alloc (Below.refl _ _) _)
   have XP:=Lib.hid (XP.out.below hb8)
   have XQ:=Lib.hid (XQ.out.below hb8)
   have XR:=Lib.hid (XR.out.below hb8)
   have XF:=Lib.hid (XF.out.below hb8)
   have XG:=Lib.hid (XG.out.below hb8)
   have XH:=Lib.hid (XH.out.below hb8)
   have N46:=Lib.hid (N45.out.later hb8)
   clear k0 hb8
   generalize (w45.alloc (.cells #[] 30))=w46 at *
   go_wp2_with ((clear TK24;go_at_call 40;refine (HSA.out [] _ _ _ (LRow.nil _ _ _) (LRow.nil _ _ _) N46.out.res).mono ?_;rintro e w47 ⟨rfl,hb⟩;have XP:=Lib.hid (XP.out.below hb);have XQ:=Lib.hid (XQ.out.below hb);have XR:=Lib.hid (XR.out.below hb);have XF:=Lib.hid (XF.out.below hb);have XG:=Lib.hid (XG.out.below hb);have XH:=Lib.hid (XH.out.below hb);have N47:=Lib.hid (N46.out.later hb);clear hb))
   go_wp2
   go_ret
   exact ⟨rfl,N47.out.below⟩
end Go.Proofs.YtigapglmipmbeaaGreatDoor
namespace Go.Proofs.YtigapglmipmbeaaGreatDoor
open Go.ChangeShapes Go.WideShapes Go.ChangeAt Go.RowKit
section
variable {H:Type} {enc:TypeId × Value→H}
end
end Go.Proofs.YtigapglmipmbeaaGreatDoor
namespace Go.Proofs.YtigapglmipmbeaaGreatDoor
open Go.RowKit
structure Kind (α:Type) where
 ty:TypeId
 k:Nat
 is:(C:TypeId→Nat→Prop)→World→List Value→α→Prop
 inner:List TypeId
 len:∀ {C w l x},is C w l x→l.length=k
 keep:∀ {C C':TypeId→Nat→Prop} {w w':World} {l x},is C w l x→(∀ E b,E∈inner→b < w.heap.size→C E b→C' E b∧w'.heap[b]?=w.heap[b]?)→is C' w' l x
section
variable {α:Type} {K:Kind α} {C C':TypeId→Nat→Prop} {w w':World} {v:Value} {xs:List α}
end
def Own (base:Nat) (w:World) (E:TypeId) (b:Nat):Prop:=base≤b∧∃ cur,w.heap[b]?=some (.cells cur E (0,0))
def Any (_:TypeId) (_:Nat):Prop:=True
section
variable {α:Type} {K:Kind α} {base:Nat} {w w':World} {v v':Value} {xs:List α}
theorem own_keep {base:Nat} {w w':World} {row:Option Nat} (hg:w.grownBy w' row) {E:TypeId} {b:Nat} (hE:∀ r,row=some r→∀ cur,w.heap[r]?≠some (.cells cur E (0,0))) (h:Own base w E b):Own base w' E b∧w'.heap[b]?=w.heap[b]?:=by
 obtain ⟨hb,cur,hc⟩:=h
 have hs:w'.heap[b]?=w.heap[b]?:=hg.block b (Array.getElem?_eq_some_iff.1 hc).1 fun e=>hE b e.symm cur hc
 exact ⟨⟨hb,cur,hs.trans hc⟩,hs⟩
end
open Go.ChangeShapes
section
variable {H:Type} {enc:TypeId × Value→H} {w:World} {base:Nat} {sp:Nat→Bool} {held:Bool} {fuel:Nat}
end
end Go.Proofs.YtigapglmipmbeaaGreatDoor
namespace Go.Proofs.YtigapglmipmbeaaGreatDoor
open Go.RowKit Go.ChangeShapes Go.WideShapes Go.ChangeAt
section
variable {H:Type} {enc:TypeId × Value→H} {w:World} {base:Nat} {sp:Nat→Bool} {held:Bool} {fuel:Nat}
end
end Go.Proofs.YtigapglmipmbeaaGreatDoor
namespace Go.Proofs.YtigapglmipmbeaaGreatDoor
open Go
theorem enters {P : Program} {rest : List (List Char)} (h : behindMainWord (wordsSigns P.initOrder.toList) = "cut".toList :: rest) (h1 : P.laysLater = false) (h2 : P.bearsReflect = false) (h3 : P.doorFits [] = true) : P.mayEnter = true := by
 have e : stripLifts liftWords ("cut".toList :: rest) = ([], "cut".toList :: rest) := by kernel_rfl
 unfold Program.mayEnter
 rw [h]
 dsimp only
 rw [e]
 simp [h1,h2,h3]
theorem cons_of_head {α:Type} {l:List α} {x:α} (h:l.head?=some x):l=x::l.tail:=by
 cases l with
 | nil=>cases h
 | cons y t=>cases h;rfl
theorem doorFitsF:Tryz.prog.doorFits []=true:=by kernel_rfl
theorem headWordF : (behindMainWord (wordsSigns Tryz.prog.initOrder.toList)).head? = some "cut".toList := by kernel_rfl
theorem laysLaterF:Tryz.prog.laysLater=false:=by kernel_rfl
theorem bearsReflectF:Tryz.prog.bearsReflect=false:=by kernel_rfl
theorem mayEnterF:Tryz.prog.mayEnter=true:=enters (cons_of_head headWordF) laysLaterF bearsReflectF doorFitsF
theorem mainIsF : Tryz.prog.mainIs = some (true, "5395951699d0e7c088c16c506ed30de6925104505e2026abbc93d9abbfe2aced".toList) := by kernel_rfl
theorem looksF:true=Tryz.prog.looks []:=by kernel_rfl
end Go.Proofs.YtigapglmipmbeaaGreatDoor
