/- moment.Check: the walk. moment.both and Add. moment.Add: the walk (printed by mkmadd.py). moment.None. The ledger: what its functions return at a nil ledger and at a zero one (printed by mkledn.py). The functions of chapter 8 on texts: what the program and the reference compute. No program in sight. What a call returns in every world, new memory aside. The program's functions of numbers, as the plain model of chapter 8 speaks of them. dist: positive, fold, Check, checked. Distributions in plain rationals: sums over keys, and what Delta, Factor, Moment, Push, Product and Mix obey. No program in sight. Distributions in plain rationals: Push, Product, moments, and what Make collects. No program in sight. Common denominators: how long sums of many numbers are. No program in sight. Losses and moments of distributions in plain rationals: groups, late outcomes, the conversion of moments. No program in sight. What the functions of chapter 8 compute on texts, as rationals. No program in sight. dist: Check, checked. Masses in a slice of the call's own. Owned slices beside each other: what an append to one leaves of the other. Inserting at a place: what the reference's collect does. No program in sight. What Make, Mix, Push and Product give, as rationals. No program in sight. Distributions with a common denominator of few digits: Make, Mix, Push and Product keep them. No program in sight. Lists of masses in memory: literal blocks, lists of lists; how large lists are. What a law makes of its lists. No program in sight. law 08: light (printed by mkdlight.py). The map that Make fills, and the list that it stands for. The library's contracts of maps.Keys, slices.Sorted and slices.Sort laid at this program, by the kit's tool lay-plain. slices.Sorted(maps.Keys(m)) at this program, as plain calls. dist: find and At, by the library's searches. dist: find, At, within. dist: Delta, Distance, Factor, Moment (printed by mkmeas.py). dist: Make. made, as a walk (printed by mkdmade.py). A region that draws its order and only reads and calls what lays blocks of its own: one walk. Appending a slice that is read to a slice of the call's own; what the reference's collect keeps. -/
import Derived.Test.YtigapglmipmbeaaGreatDoorLwLedgerKnown09
import Derived.Deep.AppendLies
import Derived.Maps.OwnSet
import Derived.Test.YtigapglmipmbeaaGreatDoorLwLedgerKnown08
import Derived.Test.YtigapglmipmbeaaGreatDoorLwLedgerKnown07
import Derived.Sort.Walk0
import Derived.BigQuiet
import Derived.Maps.AppendAt
import Derived.ProofKit
import Derived.Maps.StringElems
import Derived.Sort.KeysCollected
import Derived.Shelf.SlIter.Nil
import Derived.Shelf.SortM.Plain
import Derived.Shelf.SortM.SortNone
import Derived.Ground.GgzProg
import Derived.Ground.SlgmProg
import Derived.Test.YtigapglmipmbeaaGreatDoorProg
import Derived.Test.YtigapglmipmbeaaGreatDoorLwLedgerKnown01
import Derived.Below
import Derived.OwnWalkIn
import Derived.Sort.BigQuietIn
import Derived.Sort.QuietIn
set_option maxRecDepth 100000
set_option maxHeartbeats 16000000
namespace Go.Proofs.YtigapglmipmbeaaGreatDoor
open Go.RowKit Go.Shelf
open Lim
attribute [local go_sem] Oper.semAt_some
theorem Tryz.infoN:(Tryz.prog.info? 23).map (fun i=>(i.zero,i.size,i.bytes))=some (some (.string ⟨#[]⟩),1,16):=by kernel_rfl
structure MAt (w:World) (c:CT) (W:World):Prop where
 c:CBlk W w.heap.size c
 e:Blk W (w.heap.size+1) 32 #[.int .i64 0]
 below:Below w.heap.size w W
theorem MAt.later {w W W':World} {c:CT} (h:MAt w c W) (hb:Below W.heap.size W W'):MAt w c W' :=
 ⟨h.c.later hb,h.e.below hb h.e.lt,h.below.trans (hb.mono h.below.size)⟩
theorem MAt.new (w:World) (c:CT):MAt w c ((w.alloc (.cells #[.string (c 0),.string (c 1),.string (c 2),.string (c 3),.string (c 4),.string (c 5),.string (c 6),.string (c 7)] 59)).alloc (.cells #[.int .i64 0] 32)):=by
 have k1:=CBlk.new w c
 have k2:=Blk.new (w.alloc (.cells #[.string (c 0),.string (c 1),.string (c 2),.string (c 3),.string (c 4),.string (c 5),.string (c 6),.string (c 7)] 59)) 32 #[.int .i64 0]
 rw [World.size_alloc] at k2
 exact ⟨k1.alloc _,k2,below_alloc (below_alloc (Below.refl _ _) _) _⟩
def olds7 (c:CT):List Value:=[.string (c 0),.string (c 1),.string (c 2),.string (c 3),.string (c 4),.string (c 5),.string (c 6)]
theorem cells_olds {W:World} {g:Nat} {c:CT} (h:CBlk W g c):∀ j u,(olds7 c)[j]?=some u→W.cell? ((⟨g,0,none⟩:Addr).add j)=some u:=by
 intro j u hj
 have hlt:j < 7:=(List.getElem?_eq_some_iff.1 hj).1
 have e:(⟨g,0,none⟩:Addr).add j=⟨g,j,none⟩:=by unfold Addr.add;split<;>simp_all
 rw [e,h.cell (by omega)]
 match j,hlt,hj with
 | 0,_,hj=>exact hj
 | 1,_,hj=>exact hj
 | 2,_,hj=>exact hj
 | 3,_,hj=>exact hj
 | 4,_,hj=>exact hj
 | 5,_,hj=>exact hj
 | 6,_,hj=>exact hj
theorem cells_one {W:World} {g:Nat} {t:TypeId} {v:Value} (h:Blk W g t #[v]):∀ j u,[v][j]?=some u→W.cell? ((⟨g,0,none⟩:Addr).add j)=some u:=by
 intro j u hj
 have e:(⟨g,0,none⟩:Addr).add j=⟨g,j,none⟩:=by unfold Addr.add;split<;>simp_all
 rw [e,h.cell]
 match j,hj with
 | 0,hj=>exact hj
def RowT (W:World) (g:Nat) (c:CT):Prop:=∀ k,k < 8→W.cell? ⟨g,k,none⟩=some (.string (c k))
theorem rowT_of {W:World} {base e g cap:Nat} {c:CT} (h:W.ownsRow base e 1 (.slice (some ⟨g,0,none⟩) (7+1) cap) (7+1) (olds7 c++[.string (c 7)])):RowT W g c:=by
 intro k hk
 have h2:=h.cells (g:=g) rfl k (.string (c k)) (by
  match k,hk with
  | 0,_=>rfl
  | 1,_=>rfl
  | 2,_=>rfl
  | 3,_=>rfl
  | 4,_=>rfl
  | 5,_=>rfl
  | 6,_=>rfl
  | 7,_=>rfl)
 rwa [show (⟨g,0,none⟩:Addr).add k=⟨g,k,none⟩ by unfold Addr.add;split<;>simp_all] at h2
theorem RowT.later {W W':World} {g:Nat} {c:CT} (h:RowT W g c) (hg:g < W.heap.size) (hb:Below W.heap.size W W'):RowT W' g c:=fun k hk=>(hb.cell (p:=⟨g,k,none⟩) hg).trans (h k hk)
def errCT (c:CT):Nat:=errC [c 0,c 1,c 2,c 3,c 4,c 5,c 6] (c 7)
theorem firstQ_at:∀ {L:List ByteArray} {k:Nat} {x:ByteArray},(∀ j y,j < k→L[j]?=some y→errQ y.data.toList=0)→L[k]?=some x→errQ x.data.toList≠0→firstQ L=errQ x.data.toList
 | [],_,_,_,h,_=>by simp at h
 | a::l,0,x,_,h,hn=>by
  cases h
  unfold firstQ
  rw [if_pos hn]
 | a::l,k+1,x,h0,h,hn=>by
  unfold firstQ
  rw [if_neg (by have:=h0 0 a (by omega) rfl;omega)]
  exact firstQ_at (fun j y hj hy=>h0 (j+1) y (by omega) hy) h hn
theorem eight (c:CT) {k:Nat} (hk:k < 8):[c 0,c 1,c 2,c 3,c 4,c 5,c 6,c 7][k]?=some (c k):=by
 match k,hk with
 | 0,_=>rfl
 | 1,_=>rfl
 | 2,_=>rfl
 | 3,_=>rfl
 | 4,_=>rfl
 | 5,_=>rfl
 | 6,_=>rfl
 | 7,_=>rfl
theorem mem_seven {c:CT} {x:ByteArray} (h:x∈[c 0,c 1,c 2,c 3,c 4,c 5,c 6]):∃ i,i < 7∧x=c i:=by
 simp only [List.mem_cons,List.not_mem_nil,or_false] at h
 rcases h with h|h|h|h|h|h|h
 ·exact ⟨0,by omega,h⟩
 ·exact ⟨1,by omega,h⟩
 ·exact ⟨2,by omega,h⟩
 ·exact ⟨3,by omega,h⟩
 ·exact ⟨4,by omega,h⟩
 ·exact ⟨5,by omega,h⟩
 ·exact ⟨6,by omega,h⟩
theorem seven_mem (c:CT) {i:Nat} (hi:i < 7):c i∈[c 0,c 1,c 2,c 3,c 4,c 5,c 6]:=by
 match i,hi with
 | 0,_=>simp
 | 1,_=>simp
 | 2,_=>simp
 | 3,_=>simp
 | 4,_=>simp
 | 5,_=>simp
 | 6,_=>simp
theorem errCT_first {c:CT} {k:Nat} (hk:k < 8) (h:∀ j,j < k→errQ (c j).data.toList=0) (hn:errQ (c k).data.toList≠0):errCT c=errQ (c k).data.toList:=by
 unfold errCT errC
 have e:firstQ ([c 0,c 1,c 2,c 3,c 4,c 5,c 6]++[c 7])=errQ (c k).data.toList:=firstQ_at (fun j y hj hy=>by
  have h2:=eight c (k:=j) (by omega)
  have h3:y=c j:=Option.some.inj (hy.symm.trans h2)
  rw [h3]
  exact h j hj) (eight c hk) hn
 rw [e,if_pos hn]
theorem first_zero {c:CT} (h:∀ j,j < 8→errQ (c j).data.toList=0):firstQ ([c 0,c 1,c 2,c 3,c 4,c 5,c 6]++[c 7])=0:=by
 rw [firstQ_zero]
 intro a ha
 rcases List.mem_append.1 ha with h1|h1
 ·obtain ⟨i,hi,rfl⟩:=mem_seven h1
  exact h i (by omega)
 ·rw [List.mem_singleton.1 h1]
  exact h 7 (by omega)
theorem errCT_low {c:CT} (h:∀ j,j < 8→errQ (c j).data.toList=0) (hl:∃ i,i < 7∧cmpQ (valQ (c i).data.toList) 1 < 0):errCT c=2:=by
 unfold errCT errC
 obtain ⟨i,hi,hn⟩:=hl
 rw [if_neg (by rw [first_zero h];decide),if_pos]
 unfold lowQ
 rw [List.any_eq_true]
 exact ⟨c i,seven_mem c hi,decide_eq_true hn⟩
theorem errCT_top {c:CT} (h:∀ j,j < 8→errQ (c j).data.toList=0) (hl:∀ i,i < 7→0≤cmpQ (valQ (c i).data.toList) 1):errCT c=errU (c 7):=by
 unfold errCT errC
 rw [if_neg (by rw [first_zero h];decide),if_neg]
 unfold lowQ
 rw [List.any_eq_true]
 rintro ⟨x,hx,hd⟩
 obtain ⟨i,hi,rfl⟩:=mem_seven hx
 have h1:=of_decide_eq_true hd
 have h2:=hl i hi
 omega
theorem leavesM_nil {F:Fence} {n:Nat} {P:Program} {fn:Func} {tmps:Array Value} {R:Ending→World→Prop} {w:World} (h:∃ v,(results fn tmps).run P w=.ok v w∧R (.returned v) w):bodyPostM F n P fn R .ret { tmps:=tmps,defers:=[] } w:=by
 obtain ⟨v,hr,hR⟩:=h
 exact ⟨v,hr,hR⟩
theorem mcheck_walk (c:CT) (w:World) (hs:∀ k,k < 8→(c k).size≤270000) (hr:Res w) :
  Calls Tryz.prog 137 #[.agg #[.string (c 0),.string (c 1),.string (c 2),.string (c 3),.string (c 4),.string (c 5),.string (c 6),.string (c 7)]] w fun e w'=>e=.returned (.int .i64 (errCT c:Int))∧Below w.heap.size w w':=by
 have H:=MAt.new w c
 have HR:=Lib.hid hr
 have HS:=Lib.hid hs
 obtain ⟨i0,hi,hz0,hz1,hz2⟩:=info_parts Tryz.infoN
 clear hr hs
 refine (callsIn_wide (n:=3)).1 ?_
 have h1:1≤3:=by omega
 have hmx:Tryz.prog.follows .mixedOrders=true:=by kernel_rfl
 refine callsIn_of_wp_marks Tryz.func137 rfl trivial ?_ rfl
 simp only [Tryz.ntmps137,List.size_toArray,List.length_cons,List.length_nil,Nat.reduceAdd,Nat.reduceSub,Array.replicate_succ,Array.replicate_zero,List.push_toArray,List.append_toArray,List.nil_append,List.cons_append]
 gi_upto_region 1 with fail
 generalize (w.alloc (.cells #[.string (c 0),.string (c 1),.string (c 2),.string (c 3),.string (c 4),.string (c 5),.string (c 6),.string (c 7)] 59)).alloc (.cells #[.int .i64 0] 32)=W at *
 have hlc:=H.c.lt
 have x7:∀ x:SameAt W (fun k=>k < W.heap.size),x.W.cell? ⟨w.heap.size,7,none⟩=some (.string (c 7)):=fun x=>x.cell hlc (H.c.cell (by omega))
 have HH:=Lib.hid H
 clear H hlc
 refine wpIn_stage (IsSame W (fun k=>k < W.heap.size)) [0,1,2,3,7] [] hmx (by kernel_rfl) (isSame_of fun _ _=>rfl) ?_
 change wpStage _ _ _ _ _ _ _ _ (3+5) _ _ _
 refine stage_reads [0,1,2,3,7] 3 _ _ (by kernel_rfl) ?_
 change wpQuietIn _ _ _ _ (fun W'=>∃ x:SameAt W (fun k=>k < W.heap.size),W'=x.W) _ _ _
 simp only [pick_cons,pick_nil,List.getElem?_cons_zero,List.getElem?_cons_succ,Option.elim_some]
 repeat (gi_big_quiet_step (fail))
 refine wpQuietIn_nil ?_
 refine stage_one 4 (by kernel_rfl) rfl ?_
 gi_wp2
 have HA:=Lib.hid (below_drew (below_alloc (Below.refl W.heap.size W) (.cells #[.string (c 7)] 23)))
 have KA:=Lib.hid (Blk.new W 23 #[.string (c 7)]).drew
 generalize (W.alloc (.cells #[.string (c 7)] 23)).drew=W1 at *
 refine stage_post (isSame_below HA.out (fun k hk=>hk)) ?_
 refine stage_one 5 (by kernel_rfl) rfl ?_
 refine wpListIn_append_grows _ rfl _ _ 178 rfl 23 i0 _ 1 16 Tryz.underlying178 hi hz0 hz1 hz2 rfl (by decide) ⟨w.heap.size,0,none⟩ 7 7 (olds7 c) rfl rfl (cells_olds (HH.out.c.below HA.out HH.out.c.lt)) ⟨W.heap.size,0,none⟩ 1 1 [.string (c 7)] rfl rfl (cells_one KA.out) (by omega) (by unfold maxLen;omega) (by omega) ?_
 intro v2 W2 hown hgrow
 obtain ⟨g2,cap,rfl,-,hlt2⟩:=hown.form (by omega)
 have HB2:=Lib.hid (HA.out.grown hgrow HA.out.size (fun k e=>by cases e))
 have HROW:=Lib.hid (rowT_of hown)
 clear hown hgrow
 gi_wp2
 refine stage_post (isSame_below HB2.out (fun k hk=>hk)) ?_
 refine stage_one 6 (by kernel_rfl) rfl ?_
 gi_wp2
 refine stage_post (isSame_below HB2.out (fun k hk=>hk)) ?_
 refine stage_done (by kernel_rfl) ?_
 have HM:=Lib.hid (HH.out.later HB2.out)
 gi_wp2
 gi_loopw [15] (fun v15 wr=>∃ k:Nat,k≤8∧v15=.int .i64 (k:Int)∧Hid (∀ j,j < k→errQ (c j).data.toList=0)∧Hid (MAt w c wr)∧Hid (RowT wr g2 c∧g2 < wr.heap.size)) (fun v15 _=>8 - (intOf v15).toNat)
 case atStart=>exact ⟨0,by omega,rfl,Lib.hid (fun j h=>absurd h (by omega)),HM,Lib.hid ⟨HROW.out,hlt2⟩⟩
 case round =>
  obtain ⟨k,hk,rfl,HE,HMr,HRr⟩:=hrel
  clear HM HROW hlt2
  have HM:=HMr
  have HRW:=HRr
  clear HMr HRr
  rcases Nat.lt_or_ge k 8 with hlt|hge
  ·have hck:=HRW.out.1 k hlt
   have hlt':(k:Int) < 8:=by omega
   have hF:=ratCheck_any (c k) wr (HS.out k hlt) (HR.out.below HM.out.below)
   by_cases he:errQ (c k).data.toList=0
   ·rw [he] at hF
    have HF:=Lib.hid hF
    have HE1:=Lib.hid he
    clear hF he
    gi_wp2_with (refine ⟨trivial,?_⟩;gi_at_call 138;refine (callsIn_wide.2 HF.out).mono ?_;rintro e w1 ⟨rfl,hb⟩;have HM1:=Lib.hid (HM.out.later hb);have HRW1:=Lib.hid (And.intro (HRW.out.1.later HRW.out.2 hb) (Nat.lt_of_lt_of_le HRW.out.2 hb.size));clear hb)
    go_roundw
    case rel=>exact ⟨k+1,hlt,by go_num,Lib.hid (fun j hj=>by
     rcases Nat.lt_or_ge j k with h|h
     ·exact HE.out j h
     ·obtain rfl:j=k:=by omega
      exact HE1.out),HM1,HRW1⟩
    case measure=>simp [intOf];omega
   ·have HN:=Lib.hid he
    obtain ⟨z,hz⟩:∃ z:Int,(errQ (c k).data.toList:Int)=z:=⟨_,rfl⟩
    rw [hz] at hF
    have hne:(z==0)=false:=by rw [beq_eq_false_iff_ne];omega
    have HZ:=Lib.hid hz
    have HF:=Lib.hid hF
    clear hF he hz
    gi_wp2_with (refine ⟨trivial,?_⟩;gi_at_call 138;refine (callsIn_wide.2 HF.out).mono ?_;rintro e w1 ⟨rfl,hb⟩;have HM1:=Lib.hid (HM.out.later hb);have ce:=cell0 HM1.out.e;have ze:=HM1.out.e.frozen 0;clear hb)
    refine leavesM_nil ?_
    exact ⟨_,run_cell rfl rfl (run_errno (HM1.out.e.set_ 0 (.int .i64 z))),by rw [errCT_first hlt HE.out HN.out,HZ.out],HM1.out.below.setCell (Nat.le_succ _) _⟩
  ·obtain rfl:k=8:=by omega
   obtain ⟨c0,c1,c2,c3,c4,c5,c6,c7⟩:=HM.out.c.cells
   gi_wp2_with (refine ⟨trivial,?_⟩;gi_at_call 151;refine (orders_in Fence.wide 2 trivial rfl c _).mono ?_;rintro e w' ⟨rfl,rfl⟩;clear c0 c1 c2 c3 c4 c5 c6 c7)
   have hbx:=CBlk.new wr c
   have hm:=HM.out.later (below_alloc (Below.refl _ _) (.cells #[.string (c 0),.string (c 1),.string (c 2),.string (c 3),.string (c 4),.string (c 5),.string (c 6),.string (c 7)] 59))
   have hwr:=HM.out.below.size
   have hlc:=HM.out.c.lt
   have hle:=HM.out.e.lt
   generalize wr.alloc (.cells #[.string (c 0),.string (c 1),.string (c 2),.string (c 3),.string (c 4),.string (c 5),.string (c 6),.string (c 7)] 59)=WR at *
   generalize wr.heap.size=gb at *
   have hgb:=hbx.lt
   clear HRW hk
   refine wpIn_range_ord rfl h1 (gf:=230) (lb:=#[.pointer (some ⟨gb,0,none⟩)]) rfl trivial eg_orders
    (orders_seq Fence.wide 2 trivial rfl (by omega) gb c) (fun _=>rfl)
    (fun pre W=>(∀ i∈pre,i < 7→0≤cmpQ (valQ (c i).data.toList) 1)∧CBlk W gb c∧MAt w c W)
    (fun cd pre W=>cd=.ret∧(∃ i,i < 7∧cmpQ (valQ (c i).data.toList) 1 < 0)∧Blk W (w.heap.size+1) 32 #[.int .i64 2]∧Below w.heap.size w W)
    ?hG ?hI ?hIx ⟨(fun _ h=>(by cases h)),hbx,hm⟩ ?round ?done ?stop
   case hG=>rintro pre W ⟨_,h,_⟩;exact h
   case hI =>
    rintro s W W' row ⟨q1,q2,q3⟩ hg hr
    exact ⟨q1,Blk.own_ q2 hg hr,Blk.own_ q3.c hg hr,Blk.own_ q3.e hg hr,below_own_ q3.below (Nat.le_refl _) (by have:=hm.below.size;omega) hg hr⟩
   case hIx =>
    rintro cd s W W' row ⟨q1,q2,q3,q4⟩ hg hr
    exact ⟨q1,q2,Blk.own_ q3 hg hr,below_own_ q4 (Nat.le_refl _) (by have:=hm.below.size;omega) hg hr⟩
   case round =>
    rintro l pre i W K hi hnx hK
    have HNX:=Lib.hid hnx
    clear hnx hbx hm
    gi_wp2
    refine hK _ _ (KeepsOthers.refl _) hi ?_
    clear hK hi
    rintro Wb _ ⟨hp,hbx,hm⟩
    have HT:=IsT.of (HE.out i (by have:=HNX.out.2;omega))
    have HL:=Lib.hid (mleast_any Wb HT (HR.out.below hm.below))
    have HP:=Lib.hid hp
    have HBX:=Lib.hid hbx
    have HMM:=Lib.hid hm
    clear hp hbx hm HT
    generalize hk:cmpQ (valQ (c i).data.toList) 1=k at HL
    have HKK:=Lib.hid hk
    clear hk
    by_cases hge:0≤k
    ·have d1:decide (0≤k)=true:=decide_eq_true hge
     have HGE:=Lib.hid hge
     clear hge
     gi_wp2_with (refine ⟨trivial,?_⟩;gi_at_call 139;refine (CallsIn.inRound l (callsIn_wide.2 HL.out)).mono ?_;rintro e w1 ⟨rfl,hb⟩;have HB1:=Lib.hid hb;clear hb)
     exact ⟨keeps_of_below HB1.out,fun j hj hj7=>by
      rcases List.mem_append.1 hj with h|h
      ·exact HP.out j h hj7
      ·obtain rfl:=List.mem_singleton.1 h
       rw [HKK.out]
       exact HGE.out,HBX.out.later HB1.out,HMM.out.later HB1.out⟩
    ·have d1:decide (0≤k)=false:=decide_eq_false hge
     have HGE:=Lib.hid hge
     clear hge
     gi_wp2_with (refine ⟨trivial,?_⟩;gi_at_call 139;refine (CallsIn.inRound l (callsIn_wide.2 HL.out)).mono ?_;rintro e w1 ⟨rfl,hb⟩;have HB1:=Lib.hid hb;have hm1:=HMM.out.later hb;have ce:=cell0 hm1.e;have ze:=hm1.e.frozen 0;clear hb)
     exact ⟨(keeps_of_below HB1.out).trans (KeepsOthers.setCell _ _ _),rfl,⟨i,HNX.out.2,by rw [HKK.out];have:=HGE.out;omega⟩,hm1.e.set_ 0 (.int .i64 2),hm1.below.setCell (Nat.le_succ _) _⟩
   case done =>
    rintro D ys W hD hS ⟨hp,_,hm⟩ hK
    have c7:=hm.c.cell (k:=7) (by omega)
    have HBW:=Lib.hid (between_any W (IsT.of (HE.out 7 (by omega))) (HR.out.below hm.below))
    have HMM:=Lib.hid hm
    have HKD:=Lib.hid hK
    have HHP:=Lib.hid (show ∀ i,i < 7→0≤cmpQ (valQ (c i).data.toList) 1 from fun i hi=>hp i (by rw [hS];exact List.mem_range.2 hi) hi)
    have hDl:D < W.heap.size:=by
     rcases Nat.lt_or_ge D W.heap.size with h|h
     ·exact h
     ·rw [Array.getElem?_eq_none h] at hK;cases hK
    clear hm hK hp hS
    gi_wp2_with (refine ⟨trivial,?_⟩;gi_at_call 158;refine (callsIn_wide.2 HBW.out).mono ?_;rintro e w1 ⟨rfl,hb⟩;have hm1:=HMM.out.later hb;have ce:=cell0 hm1.e;have ze:=hm1.e.frozen 0;have hK1:=(hb.block D hDl).trans HKD.out;clear hb)
    have hK':=(KeepsOthers.setCell w1 ⟨w.heap.size+1,0,none⟩ (.int .i64 (errU (c 7):Int))).same D _ hK1 rfl
    refine ⟨by simp,.inl ⟨_,_,rfl,run_takeDeferred hK',?_⟩⟩
    have hb3:Blk _ (w.heap.size+1) 32 #[.int .i64 (errU (c 7):Int)]:=(hm1.e.set_ 0 (.int .i64 (errU (c 7):Int))).grown (grownBy_putObj' _ D (.deferred none)) (fun e=>by injection e with e;omega)
    exact ⟨_,run_cell rfl rfl (run_errno hb3),by rw [errCT_top HE.out HHP.out],(hm1.below.setCell (Nat.le_succ _) _).trans (belowK_b (w:=w) (Nat.le_refl _) _ D _ _ (by omega) hK' rfl rfl)⟩
   case stop =>
    rintro D cd pre x' W hD _ ⟨rfl,hex,hb2,hB⟩ hK
    gi_wp2
    refine ⟨by simp,.inl ⟨_,_,rfl,run_takeDeferred hK,?_⟩⟩
    have hb3:Blk _ (w.heap.size+1) 32 #[.int .i64 2]:=hb2.grown (grownBy_putObj' _ D (.deferred none)) (fun e=>by injection e with e;omega)
    exact ⟨_,run_cell rfl rfl (run_errno hb3),by rw [errCT_low HE.out hex];rfl,hB.trans (belowK_b (w:=w) (Nat.le_refl _) W D _ _ (by omega) hK rfl rfl)⟩
abbrev cv (c:CT):Value:=.agg #[.string (c 0),.string (c 1),.string (c 2),.string (c 3),.string (c 4),.string (c 5),.string (c 6),.string (c 7)]
abbrev cvO (c:CT):Obj:=.cells #[.string (c 0),.string (c 1),.string (c 2),.string (c 3),.string (c 4),.string (c 5),.string (c 6),.string (c 7)] 59
def SmC (c:CT):Prop:=∀ k,k < 8→(c k).size≤270000
def errCC (a b:CT):Nat:=if errCT a≠0 then errCT a else errCT b
theorem mboth_any (a b:CT) (w:World) (ha:SmC a) (hb:SmC b) (hr:Res w) :
  Calls Tryz.prog 150 #[cv a,cv b] w fun e w'=>e=.returned (.int .i64 (errCC a b:Int))∧Below w.heap.size w w':=by
 have k1:=(CBlk.new w a).alloc (cvO b)
 have k2:=CBlk.new (w.alloc (cvO a)) b
 rw [World.size_alloc] at k2
 have HB:=Lib.hid (below_alloc (below_alloc (Below.refl w.heap.size w) (cvO a)) (cvO b))
 have HR:=Lib.hid (hr.below HB.out)
 have HA:=Lib.hid (fun (w:World) hr=>mcheck_walk a w ha hr)
 have HC:=Lib.hid (fun (w:World) hr=>mcheck_walk b w hb hr)
 have HK:=Lib.hid (And.intro k1 k2)
 obtain ⟨c0,c1,c2,c3,c4,c5,c6,c7⟩:=k1.cells
 clear k1 k2 hr
 by_cases h0:errCT a=0
 ·have e1:errCC a b=errCT b:=by unfold errCC;rw [if_neg (by omega)]
  rw [e1]
  rw [h0] at HA
  have TK1:True:=trivial
  clear h0 e1 ha hb
  go_enter Tryz.func150,Tryz.ntmps150
  go_wp2_with (first
   | (clear TK1;go_at_call 137;refine (HA.out _ HR.out).mono ?_;rintro e w1 ⟨rfl,hb⟩;have HB1:=Lib.hid (HB.out.trans (hb.mono HB.out.size));have HR1:=Lib.hid (HR.out.below hb);obtain ⟨d0,d1,d2,d3,d4,d5,d6,d7⟩:=(HK.out.2.later hb).cells;clear hb c0 c1 c2 c3 c4 c5 c6 c7)
   | (go_at_call 137;refine (HC.out _ HR1.out).mono ?_;rintro e w2 ⟨rfl,hb⟩;have HB2:=Lib.hid (HB1.out.trans (hb.mono HB1.out.size));clear hb))
  go_ret
  exact ⟨rfl,HB2.out⟩
 ·have e1:errCC a b=errCT a:=by unfold errCC;rw [if_pos h0]
  rw [e1]
  obtain ⟨z,hz⟩:∃ z:Int,(errCT a:Int)=z:=⟨_,rfl⟩
  rw [hz] at HA ⊢
  have hne:(z==0)=false:=by rw [beq_eq_false_iff_ne];omega
  clear h0 e1 hz ha hb
  go_enter Tryz.func150,Tryz.ntmps150
  go_wp2_with (go_at_call 137;refine (HA.out _ HR.out).mono ?_;rintro e w1 ⟨rfl,hb⟩;have HB1:=Lib.hid (HB.out.trans (hb.mono HB.out.size));clear hb)
  go_ret
  exact ⟨rfl,HB1.out⟩
def DoIs (n:Int) (F:FuncId) (a b r:ByteArray):Prop:=∀ (h:Nat) (w:World),Res w→Blk w h 157 #[.int .i64 n]→Calls Tryz.prog 140 #[.pointer (some ⟨h,0,none⟩),.func (.func F) #[] #[],.string a,.string b] w fun e w'=>e=.returned (.string r)∧Below w.heap.size w w'
theorem doIs_ok {F:FuncId} (hrun:Runs F) {a b r:ByteArray} (hF:Step F a b r):DoIs 0 F a b r:=fun h w hr hk=>do_ok F hrun h w hk hr hF
def zC:CT:=fun _=>⟨#[]⟩
def mixC (a r:CT) (m:Nat):CT:=fun k=>if k < m then r k else a k
theorem mixC_zero (a r:CT):mixC a r 0=a:=by funext k;unfold mixC;rw [if_neg (by omega)]
theorem mixC_upd (a r:CT) (m:Nat):upd (mixC a r m) m (r m)=mixC a r (m+1):=by
 funext k
 unfold upd mixC
 by_cases h:k=m
 ·rw [if_pos h,if_pos (by omega),h]
 ·rw [if_neg h]
  by_cases h2:k < m
  ·rw [if_pos h2,if_pos (by omega)]
  ·rw [if_neg h2,if_neg (by omega)]
theorem mixC_at (a r:CT) (m:Nat):mixC a r m m=a m:=if_neg (by omega)
theorem store8 {W:World} {g:Nat} {z:CT} (c:CT) (h:CBlk W g z):CBlk ((((((((W.setCell ⟨g,0,none⟩ (.string (c 0))).setCell ⟨g,1,none⟩ (.string (c 1))).setCell ⟨g,2,none⟩ (.string (c 2))).setCell ⟨g,3,none⟩ (.string (c 3))).setCell ⟨g,4,none⟩ (.string (c 4))).setCell ⟨g,5,none⟩ (.string (c 5))).setCell ⟨g,6,none⟩ (.string (c 6))).setCell ⟨g,7,none⟩ (.string (c 7))) g c:=by
 have h2:=(((((((h.set_ (k:=0) (by omega) (c 0)).set_ (k:=1) (by omega) (c 1)).set_ (k:=2) (by omega) (c 2)).set_ (k:=3) (by omega) (c 3)).set_ (k:=4) (by omega) (c 4)).set_ (k:=5) (by omega) (c 5)).set_ (k:=6) (by omega) (c 6)).set_ (k:=7) (by omega) (c 7)
 unfold CBlk at h2 ⊢
 exact h2
structure AddAt (w:World) (gh go:Nat) (n:Int) (a b r:CT) (m:Nat) (W:World):Prop where
 ka:CBlk W w.heap.size (mixC a r m)
 kb:CBlk W (w.heap.size+1) b
 kz:CBlk W (w.heap.size+1+1) zC
 kh:Blk W gh 157 #[.int .i64 n]
 ko:CBlk W go a
 below:Below w.heap.size w W
theorem AddAt.later {w W W':World} {gh go:Nat} {n:Int} {a b r:CT} {m:Nat} (h:AddAt w gh go n a b r m W) (hb:Below W.heap.size W W'):AddAt w gh go n a b r m W' :=
 ⟨h.ka.later hb,h.kb.later hb,h.kz.later hb,h.kh.below hb h.kh.lt,h.ko.later hb,h.below.trans (hb.mono h.below.size)⟩
theorem AddAt.cells7 {w W:World} {gh go:Nat} {n:Int} {a b r:CT} (h:AddAt w gh go n a b r 7 W):W.cell? ⟨w.heap.size,0,none⟩=some (.string (r 0))∧W.cell? ⟨w.heap.size,1,none⟩=some (.string (r 1))∧W.cell? ⟨w.heap.size,2,none⟩=some (.string (r 2))∧W.cell? ⟨w.heap.size,3,none⟩=some (.string (r 3)) ∧
  W.cell? ⟨w.heap.size,4,none⟩=some (.string (r 4))∧W.cell? ⟨w.heap.size,5,none⟩=some (.string (r 5))∧W.cell? ⟨w.heap.size,6,none⟩=some (.string (r 6))∧W.cell? ⟨w.heap.size,7,none⟩=some (.string (a 7)):=h.ka.cells
theorem CBlk.frozens {W:World} {g:Nat} {c:CT} (h:CBlk W g c):W.frozen? ⟨g,0,none⟩=false∧W.frozen? ⟨g,1,none⟩=false∧W.frozen? ⟨g,2,none⟩=false∧W.frozen? ⟨g,3,none⟩=false∧W.frozen? ⟨g,4,none⟩=false∧W.frozen? ⟨g,5,none⟩=false∧W.frozen? ⟨g,6,none⟩=false∧W.frozen? ⟨g,7,none⟩=false :=
 ⟨h.frozen 0,h.frozen 1,h.frozen 2,h.frozen 3,h.frozen 4,h.frozen 5,h.frozen 6,h.frozen 7⟩
theorem heap_lt {W:World} {D:Nat} {o:Obj} (h:W.heap[D]?=some o):D < W.heap.size:=by
 rcases Nat.lt_or_ge D W.heap.size with h2|h2
 ·exact h2
 ·rw [Array.getElem?_eq_none h2] at h;cases h
def fin8 (W:World) (g:Nat) (c:CT):World:=(((((((W.setCell ⟨g,0,none⟩ (.string (c 0))).setCell ⟨g,1,none⟩ (.string (c 1))).setCell ⟨g,2,none⟩ (.string (c 2))).setCell ⟨g,3,none⟩ (.string (c 3))).setCell ⟨g,4,none⟩ (.string (c 4))).setCell ⟨g,5,none⟩ (.string (c 5))).setCell ⟨g,6,none⟩ (.string (c 6))).setCell ⟨g,7,none⟩ (.string (c 7))
theorem fin8_blk {W:World} {g:Nat} {z:CT} (c:CT) (h:CBlk W g z):CBlk (fin8 W g c) g c:=store8 c h
theorem fin8_keeps (W:World) (g:Nat) (c:CT):KeepsOthers W (fin8 W g c) :=
 (((((((KeepsOthers.setCell _ _ _).trans (KeepsOthers.setCell _ _ _)).trans (KeepsOthers.setCell _ _ _)).trans (KeepsOthers.setCell _ _ _)).trans (KeepsOthers.setCell _ _ _)).trans (KeepsOthers.setCell _ _ _)).trans (KeepsOthers.setCell _ _ _)).trans (KeepsOthers.setCell _ _ _)
theorem fin8_below {B:Nat} {w W:World} {g:Nat} (h:Below B w W) (hg:B≤g) (c:CT):Below B w (fin8 W g c) :=
 (((((((h.setCell (p:=⟨g,0,none⟩) hg _).setCell (p:=⟨g,1,none⟩) hg _).setCell (p:=⟨g,2,none⟩) hg _).setCell (p:=⟨g,3,none⟩) hg _).setCell (p:=⟨g,4,none⟩) hg _).setCell (p:=⟨g,5,none⟩) hg _).setCell (p:=⟨g,6,none⟩) hg _).setCell (p:=⟨g,7,none⟩) hg _
theorem curve_done {F:Fence} {n:Nat} {fn:Func} {tmps:Array Value} {R:Ending→World→Prop} {p u:Tmp} {W w:World} {g D:Nat} {c:CT} (hres:fn.results=#[.cell p 59,.tmp u]) (hp:tmps.getD p undef=.pointer (some ⟨g,0,none⟩)) (hz:CBlk W g c)
  (hD:w.heap.size≤D) (hK:W.heap[D]?=some (.deferred (some []))) (hB:Below w.heap.size w W) (hR:∀ W',Below w.heap.size w W'→R (.returned (.tuple #[cv c,tmps.getD u undef])) W') :
  bodyPostM F n Tryz.prog fn R .ret { tmps:=tmps,defers:=[{ target:=.collected D,args:=#[] }] } W:=by
 refine ⟨by simp,.inl ⟨_,_,rfl,run_takeDeferred hK,?_⟩⟩
 have hb3:CBlk _ g c:=Blk.grown hz (grownBy_putObj' _ D (.deferred none)) (fun e=>by
  injection e with e
  subst e
  unfold CBlk Blk at hz
  rw [hz] at hK
  cases hK)
 exact ⟨_,run_cell_tmp hres hp (load_curve hb3),hR _ (hB.trans (belowK_b (w:=w) (Nat.le_refl _) _ D _ _ hD hK rfl rfl))⟩
theorem curve_end {F:Fence} {n:Nat} {fn:Func} {tmps:Array Value} {R:Ending→World→Prop} {p u:Tmp} {W w:World} {g D:Nat} {z c:CT} (hres:fn.results=#[.cell p 59,.tmp u]) (hp:tmps.getD p undef=.pointer (some ⟨g,0,none⟩)) (hz:CBlk W g z)
  (hD:w.heap.size≤D) (hK:W.heap[D]?=some (.deferred (some []))) (hg:w.heap.size≤g) (hB:Below w.heap.size w W) (hR:∀ W',Below w.heap.size w W'→R (.returned (.tuple #[cv c,tmps.getD u undef])) W') :
  bodyPostM F n Tryz.prog fn R .ret { tmps:=tmps,defers:=[{ target:=.collected D,args:=#[] }] } (fin8 W g c) :=
 curve_done hres hp (fin8_blk c hz) hD ((fin8_keeps W g c).same D _ hK rfl) (fin8_below hB hg c) hR
theorem set_far (W:World) {p:Addr} {k:Nat} (h:k≠p.block) (v:Value):(W.setCell p v).heap[k]?=W.heap[k]?:=Below.heap_setCell W p v k h
theorem madd_ok (a b r:CT) (s:ByteArray) (w:World) (ha:SmC a) (hb:SmC b) (hr:Res w) (hn:(errCC a b:Int)=0)
  (H7:Hid (∀ i,i < 7→DoIs 0 130 (a i) (b i) (r i))) (HA:Hid (DoIs 0 107 (a 7) (b 7) s)) (HM:Hid (DoIs 0 143 s ⟨#[49]⟩ (r 7))) :
  Calls Tryz.prog 58 #[cv a,cv b] w fun e w'=>e=.returned (.tuple #[cv r,.int .i64 0])∧Below w.heap.size w w':=by
 have k1:=((CBlk.new w a).alloc (cvO b)).alloc (.cells #[.string ⟨#[]⟩,.string ⟨#[]⟩,.string ⟨#[]⟩,.string ⟨#[]⟩,.string ⟨#[]⟩,.string ⟨#[]⟩,.string ⟨#[]⟩,.string ⟨#[]⟩] 59)
 have k2:=(CBlk.new (w.alloc (cvO a)) b).alloc (.cells #[.string ⟨#[]⟩,.string ⟨#[]⟩,.string ⟨#[]⟩,.string ⟨#[]⟩,.string ⟨#[]⟩,.string ⟨#[]⟩,.string ⟨#[]⟩,.string ⟨#[]⟩] 59)
 have k3:CBlk (((w.alloc (cvO a)).alloc (cvO b)).alloc (.cells #[.string ⟨#[]⟩,.string ⟨#[]⟩,.string ⟨#[]⟩,.string ⟨#[]⟩,.string ⟨#[]⟩,.string ⟨#[]⟩,.string ⟨#[]⟩,.string ⟨#[]⟩] 59)) ((w.alloc (cvO a)).alloc (cvO b)).heap.size zC:=CBlk.new ((w.alloc (cvO a)).alloc (cvO b)) zC
 rw [World.size_alloc] at k2
 rw [World.size_alloc,World.size_alloc] at k3
 have HB:=Lib.hid (below_alloc (below_alloc (below_alloc (Below.refl w.heap.size w) (cvO a)) (cvO b)) (.cells #[.string ⟨#[]⟩,.string ⟨#[]⟩,.string ⟨#[]⟩,.string ⟨#[]⟩,.string ⟨#[]⟩,.string ⟨#[]⟩,.string ⟨#[]⟩,.string ⟨#[]⟩] 59))
 have HR:=Lib.hid hr
 have HBO:=Lib.hid (fun (w:World) hr=>mboth_any a b w ha hb hr)
 have HK:=Lib.hid (And.intro k1 (And.intro k2 k3))
 obtain ⟨c0,c1,c2,c3,c4,c5,c6,c7⟩:=k1.cells
 obtain ⟨d0,d1,d2,d3,d4,d5,d6,d7⟩:=k2.cells
 rw [hn] at HBO
 clear k1 k2 k3 hr ha hb hn
 refine (callsIn_wide (n:=3)).1 ?_
 have h1:1≤3:=by omega
 have hmx:Tryz.prog.follows .mixedOrders=true:=by kernel_rfl
 refine callsIn_of_wp_marks Tryz.func58 rfl trivial ?_ rfl
 simp only [Tryz.ntmps58,List.size_toArray,List.length_cons,List.length_nil,Nat.reduceAdd,Nat.reduceSub,Array.replicate_succ,Array.replicate_zero,List.push_toArray,List.append_toArray,List.nil_append,List.cons_append]
 gi_wp2_with (first
  | (refine ⟨trivial,?_⟩;gi_at_call 150;refine (callsIn_wide.2 (HBO.out _ (HR.out.below HB.out))).mono ?_;rintro e w1 ⟨rfl,hb⟩;have HB1:=Lib.hid (HB.out.trans (hb.mono HB.out.size));have HK1:=Lib.hid (And.intro (HK.out.1.later hb) (And.intro (HK.out.2.1.later hb) (HK.out.2.2.later hb)));obtain ⟨f0,f1,f2,f3,f4,f5,f6,f7⟩:=HK1.out.1.cells;have hl1:=HK1.out.1.lt;clear hb c0 c1 c2 c3 c4 c5 c6 c7 d0 d1 d2 d3 d4 d5 d6 d7)
  | (refine ⟨trivial,?_⟩;gi_at_call 151;refine (orders_in Fence.wide 2 trivial rfl a _).mono ?_;rintro e w' ⟨rfl,rfl⟩;clear f0 f1 f2 f3 f4 f5 f6 f7))
 have hh:=(Blk.new w1 157 #[.int .i64 0]).alloc (cvO a)
 have ho:=CBlk.new (w1.alloc (.cells #[.int .i64 0] 157)) a
 rw [World.size_alloc] at ho
 have hbb:=below_alloc (below_alloc (Below.refl w1.heap.size w1) (.cells #[.int .i64 0] 157)) (cvO a)
 have hI0:AddAt w w1.heap.size (w1.heap.size+1) 0 a b r 0 ((w1.alloc (.cells #[.int .i64 0] 157)).alloc (cvO a)) :=
  ⟨by rw [mixC_zero];exact HK1.out.1.later hbb,HK1.out.2.1.later hbb,HK1.out.2.2.later hbb,hh,ho,HB1.out.trans (hbb.mono HB1.out.size)⟩
 have hw1:=HK1.out.2.2.lt
 clear hh ho hbb HK1 HK
 generalize (w1.alloc (.cells #[.int .i64 0] 157)).alloc (cvO a)=WR at *
 generalize w1.heap.size=gh at *
 have HW1:=Lib.hid hw1
 have hgo:=hI0.ko.lt
 refine wpIn_range_ord rfl h1 (gf:=230) (lb:=#[.pointer (some ⟨gh+1,0,none⟩)]) rfl trivial eg_orders
  (orders_seq Fence.wide 2 trivial rfl (by omega) (gh+1) a) (fun _=>rfl)
  (fun pre W=>AddAt w gh (gh+1) 0 a b r pre.length W) (fun _ _ _=>False)
  ?hG ?hI (fun _ _ _ _ _ hs _ _=>hs) hI0 ?round ?done ?stop
 case hG=>rintro pre W h;exact h.ko
 case hI =>
  rintro s W W' row h hg hr
  exact ⟨Blk.own_ h.ka hg hr,Blk.own_ h.kb hg hr,Blk.own_ h.kz hg hr,Blk.own_ h.kh hg hr,Blk.own_ h.ko hg hr,below_own_ h.below (Nat.le_refl _) (by have:=hI0.below.size;omega) hg hr⟩
 case round =>
  rintro l pre i W K hi hnx hK
  have HNX:=Lib.hid hnx
  clear hnx hI0
  gi_wp2
  refine hK _ _ (KeepsOthers.refl _) hi ?_
  clear hK hi
  rintro Wb _ hm
  obtain ⟨hpre,hi7⟩:=HNX.out
  have hlen:pre.length=i:=by rw [hpre,List.length_range]
  rw [hlen] at hm
  have HLEN:=Lib.hid hlen
  have HI7:=Lib.hid hi7
  have hcb:=hm.kb.cell (k:=i) (by omega)
  have HM0:=Lib.hid hm
  have hi0:(0:Int)≤(i:Int):=by omega
  have hi1:(i:Int) < 7:=by omega
  clear hm hpre hi7 hlen
  gi_wp2_with (refine ⟨trivial,?_⟩;gi_at_call 140;refine (CallsIn.inRound l (callsIn_wide.2 (H7.out i HI7.out gh Wb (HR.out.below HM0.out.below) HM0.out.kh))).mono ?_;rintro e w2 ⟨rfl,hb⟩;have HM1:=Lib.hid (HM0.out.later hb);have HB2:=Lib.hid hb;have hca:=HM1.out.ka.cell (k:=i) (by omega);have hza:=HM1.out.ka.frozen i;clear hb)
  have hg1:=HW1.out
  refine ⟨(keeps_of_below HB2.out).trans (KeepsOthers.setCell _ _ _),?_⟩
  have el:(pre++[i]).length=i+1:=by rw [List.length_append,HLEN.out];rfl
  show AddAt w gh (gh+1) 0 a b r (pre++[i]).length _
  rw [el]
  exact ⟨by rw [← mixC_upd];exact HM1.out.ka.set_ (by omega) (r i),Blk.far HM1.out.kb (p:=⟨w.heap.size,i,none⟩) (by show w.heap.size+1≠w.heap.size;omega) _,Blk.far HM1.out.kz (p:=⟨w.heap.size,i,none⟩) (by show w.heap.size+1+1≠w.heap.size;omega) _,
   Blk.far HM1.out.kh (p:=⟨w.heap.size,i,none⟩) (by show gh≠w.heap.size;omega) _,Blk.far HM1.out.ko (p:=⟨w.heap.size,i,none⟩) (by show gh+1≠w.heap.size;omega) _,HM1.out.below.setCell (Nat.le_refl _) _⟩
 case done =>
  rintro D ys W hD hS hm hK
  rw [hS,List.length_range] at hm
  have HM0:=Lib.hid hm
  have HKD:=Lib.hid hK
  have hDl:=heap_lt hK
  have c7:=hm.ka.cell (k:=7) (by omega)
  rw [mixC_at] at c7
  have d7:=hm.kb.cell (k:=7) (by omega)
  have HDD:=Lib.hid (And.intro hD hDl)
  have TK1:True:=trivial
  clear hS hm hK hI0
  gi_wp2_with ((clear TK1;refine ⟨trivial,?_⟩;gi_at_call 140;refine (callsIn_wide.2 (HA.out gh W (HR.out.below HM0.out.below) HM0.out.kh)).mono ?_;rintro e w2 ⟨rfl,hb⟩;have HM1:=Lib.hid (HM0.out.later hb);have HB2:=Lib.hid hb;clear hb c7 d7))
  gi_wp2_with ((refine ⟨trivial,?_⟩;gi_at_call 140;refine (callsIn_wide.2 (HM.out gh w2 (HR.out.below HM1.out.below) HM1.out.kh)).mono ?_;rintro e w3 ⟨rfl,hb⟩;have HM2:=Lib.hid (HM1.out.later hb);have HB3:=Lib.hid (HB2.out.trans (hb.mono HB2.out.size));obtain ⟨q0,q1,q2,q3,q4,q5,q6,q7⟩:=HM2.out.cells7;have qz:=HM2.out.ka.frozen 7;obtain ⟨z0,z1,z2,z3,z4,z5,z6,z7⟩:=HM2.out.kz.cells;obtain ⟨y0,y1,y2,y3,y4,y5,y6,y7⟩:=HM2.out.kz.frozens;have ch:=cell0 HM2.out.kh;have hg1:=HW1.out;have hne1:gh≠w.heap.size:=(by omega);clear hb))
  have hK3:=(KeepsOthers.setCell w3 ⟨w.heap.size,7,none⟩ (.string (r 7))).same D _ ((HB3.out.block D HDD.out.2).trans HKD.out) rfl
  have hsz:w.heap.size≤WR.heap.size:=by omega
  exact curve_end (W:=w3.setCell ⟨w.heap.size,7,none⟩ (.string (r 7))) (g:=w.heap.size+1+1) (c:=r) rfl rfl (Blk.far HM2.out.kz (p:=⟨w.heap.size,7,none⟩) (by show w.heap.size+1+1≠w.heap.size;omega) _)
   (Nat.le_trans hsz HDD.out.1) hK3 (by omega) (HM2.out.below.setCell (Nat.le_refl _) _) (fun W' h=>⟨rfl,h⟩)
 case stop =>
  rintro D cd pre x' W hD _ h hK
  exact h.elim
end Go.Proofs.YtigapglmipmbeaaGreatDoor
namespace Go.Proofs.YtigapglmipmbeaaGreatDoor
open Go.RowKit Go.Shelf
open Lim
def oneT:CT:=fun _=>⟨#[49]⟩
def lateT:CT:=fun k=>if k=7 then ⟨#[48]⟩ else ⟨#[]⟩
def noneT:CT:=mixC lateT oneT 7
structure NoneAt (w:World) (m:Nat) (W:World):Prop where
 z:CBlk W w.heap.size zC
 c:CBlk W (w.heap.size+1) (mixC lateT oneT m)
 below:Below w.heap.size w W
theorem mnone_any (w:World):Calls Tryz.prog 183 #[] w fun e w'=>e=.returned (cv noneT)∧Below w.heap.size w w':=by
 have H0:NoneAt w 0 ((w.alloc (.cells #[.string ⟨#[]⟩,.string ⟨#[]⟩,.string ⟨#[]⟩,.string ⟨#[]⟩,.string ⟨#[]⟩,.string ⟨#[]⟩,.string ⟨#[]⟩,.string ⟨#[]⟩] 59)).alloc (.cells #[.string ⟨#[]⟩,.string ⟨#[]⟩,.string ⟨#[]⟩,.string ⟨#[]⟩,.string ⟨#[]⟩,.string ⟨#[]⟩,.string ⟨#[]⟩,.string ⟨#[48]⟩] 59)):=by
  have k1:CBlk _ _ zC:=(CBlk.new w zC).alloc (.cells #[.string ⟨#[]⟩,.string ⟨#[]⟩,.string ⟨#[]⟩,.string ⟨#[]⟩,.string ⟨#[]⟩,.string ⟨#[]⟩,.string ⟨#[]⟩,.string ⟨#[48]⟩] 59)
  have k2:CBlk _ _ lateT:=CBlk.new (w.alloc (.cells #[.string ⟨#[]⟩,.string ⟨#[]⟩,.string ⟨#[]⟩,.string ⟨#[]⟩,.string ⟨#[]⟩,.string ⟨#[]⟩,.string ⟨#[]⟩,.string ⟨#[]⟩] 59)) lateT
  rw [World.size_alloc] at k2
  exact ⟨k1,by rw [mixC_zero];exact k2,below_alloc (below_alloc (Below.refl _ _) _) _⟩
 go_enter Tryz.func183,Tryz.ntmps183
 go_wp2
 go_loopw [4] (fun v4 wr=>∃ k:Nat,k≤7∧v4=.int .i64 (k:Int)∧Hid (NoneAt w k wr)) (fun v4 _=>7 - (intOf v4).toNat)
 case atStart=>exact ⟨0,by omega,rfl,Lib.hid H0⟩
 case round =>
  obtain ⟨k,hk,rfl,H⟩:=hrel
  clear H0
  rcases Nat.lt_or_ge k 7 with hlt|hge
  ·have hc:=H.out.c.cell (k:=k) (by omega)
   have hz:=H.out.c.frozen k
   have hi0:(0:Int)≤(k:Int):=by omega
   have hi1:(k:Int) < 7:=by omega
   go_wp2
   go_roundw
   case rel =>
    refine ⟨k+1,by omega,by go_num,Lib.hid ⟨Blk.far H.out.z (p:=⟨w.heap.size+1,k,none⟩) (by show w.heap.size≠w.heap.size+1;omega) _,?_,H.out.below.setCell (Nat.le_succ _) _⟩⟩
    rw [← mixC_upd]
    exact H.out.c.set_ (by omega) (oneT k)
   case measure=>simp [intOf];omega
  ·obtain rfl:k=7:=by omega
   obtain ⟨z0,z1,z2,z3,z4,z5,z6,z7⟩:=H.out.z.cells
   obtain ⟨y0,y1,y2,y3,y4,y5,y6,y7⟩:=H.out.z.frozens
   obtain ⟨c0,c1,c2,c3,c4,c5,c6,c7⟩:=H.out.c.cells
   go_wp2
   exact bodyPost_ret (run_cell rfl rfl (load_curve (fin8_blk noneT H.out.z))) rfl ⟨rfl,fin8_below H.out.below (Nat.le_refl _) noneT⟩
theorem mapNil (w:World) (r:Option Nat):(binOp .eql 108 (.map r) (.map none)).run Tryz.prog w=.ok (.bool r.isNone) w:=run_eql_map_nil w _ _ _ r Tryz.underlying108
end Go.Proofs.YtigapglmipmbeaaGreatDoor
namespace Go.Proofs.YtigapglmipmbeaaGreatDoor
open Go.RowKit
open Lim
abbrev XE:=Except Nat ByteArray
def exQ (r:List UInt8 × Nat):XE:=if r.2=0 then .ok ⟨r.1.toArray⟩ else .error r.2
def NoT (r:List UInt8 × Nat):Prop:=(r.2≠0→r.1=[])∧(r.2=0→errQ r.1=0)
theorem noT_out (q:Rat):NoT (outQ q):=by
 unfold outQ
 split
 ·exact ⟨fun _=>rfl,fun h=>by cases h⟩
 ·rename_i h
  refine ⟨fun h2=>absurd rfl h2,fun _=>?_⟩
  have h1:Lib.nDigits (nm q)≤maxD∧Lib.nDigits q.den≤maxD:=by omega
  exact errQ_rat h1.1 h1.2
theorem noT_err (n:Nat) (h:n≠0):NoT ([],n):=⟨fun _=>rfl,fun h2=>absurd h2 h⟩
theorem noT_two {f:Rat→Rat→List UInt8 × Nat} (h:∀ p q,NoT (f p q)) (a b:List UInt8):NoT (twoQ f a b):=by
 unfold twoQ
 split
 ·rename_i h0;exact noT_err _ h0
 ·split
  ·rename_i h0;exact noT_err _ h0
  ·exact h _ _
theorem exQ_ok {r:List UInt8 × Nat} {s:ByteArray} (hr:NoT r) (h:exQ r=.ok s):errQ s.data.toList=0:=by
 unfold exQ at h
 split at h
 ·rename_i h0;cases h;exact hr.2 h0
 ·cases h
theorem size_ok {s:ByteArray} (h:errQ s.data.toList=0):s.size≤270000:=(IsT.of h).size
def plX (a b:ByteArray):XE:=exQ (twoQ (fun p q=>outQ (p+q)) a.data.toList b.data.toList)
theorem plX_t (a b:ByteArray):NoT (twoQ (fun p q=>outQ (p+q)) a.data.toList b.data.toList):=noT_two (fun _ _=>noT_out _) _ _
theorem plX_ok {a b s:ByteArray} (h:plX a b=.ok s):errQ s.data.toList=0:=exQ_ok (plX_t a b) h
def zT:ByteArray:=⟨#[48]⟩
def ltK (a b:ByteArray):Bool:=decide (a.data.toList < b.data.toList)
def foldX {α:Type} (g:α→XE):ByteArray→List α→XE
 | s,[]=>.ok s
 | s,x::l=>match g x with
  | .error n=>.error n
  | .ok p=>match plX s p with
   | .error n=>.error n
   | .ok t=>foldX g t l
def atT:List L2→ByteArray→ByteArray
 | [],_=>zT
 | x::l,k=>if x.1=k then x.2 else atT l k
def insX:List L2→L2→Except Nat (List L2)
 | [],x=>.ok [x]
 | y::l,x=>if ltK y.1 x.1 then
   (match insX l x with
    | .error n=>.error n
    | .ok m=>.ok (y::m))
  else if y.1=x.1 then
   (match plX y.2 x.2 with
    | .error n=>.error n
    | .ok s=>.ok ((y.1,s)::l))
  else .ok (x::y::l)
end Go.Proofs.YtigapglmipmbeaaGreatDoor
namespace Go.Proofs.YtigapglmipmbeaaGreatDoor
open Go.RowKit Go.Shelf
def Ret (F:FuncId) (args:Array Value) (v:Value):Prop:=∀ w,Res w→Calls Tryz.prog F args w fun e w'=>e=.returned v∧Below w.heap.size w w'
end Go.Proofs.YtigapglmipmbeaaGreatDoor
namespace Go.Proofs.YtigapglmipmbeaaGreatDoor
open Go.RowKit Go.Shelf
open Lim
section
variable {a b:ByteArray} (ha:a.size≤270000) (hb:b.size≤270000)
include ha hb
end
end Go.Proofs.YtigapglmipmbeaaGreatDoor
namespace Go.Proofs.YtigapglmipmbeaaGreatDoor
open Go.RowKit Go.Shelf
open Lim
attribute [local go_sem] Oper.semAt_some
structure NW (w:World) (W:World):Prop where
 below:Below w.heap.size w W
 res:Res W
theorem NW.refl {w:World} (hr:Res w):NW w w:=⟨Below.refl _ _,hr⟩
theorem NW.later {w W W':World} (h:NW w W) (hb:Below W.heap.size W W'):NW w W':=⟨h.below.trans (hb.mono h.below.size),h.res.below hb⟩
theorem NW.alloc {w W:World} (h:NW w W) (o:Obj):NW w (W.alloc o):=h.later (below_alloc (Below.refl _ _) _)
end Go.Proofs.YtigapglmipmbeaaGreatDoor
namespace Go.Proofs.YtigapglmipmbeaaGreatDoor
open Lim
def pos (x:Rat):Rat:=if 0 < x then x else 0
section
variable {α β:Type} {f g:α→Rat} {l m:List α}
end
section
variable {a b:ByteArray} (ha:errQ a.data.toList=0) (hb:errQ b.data.toList=0)
include ha hb
end
section
variable {α:Type} {f:α→Rat}
end
end Go.Proofs.YtigapglmipmbeaaGreatDoor
namespace Go.Proofs.YtigapglmipmbeaaGreatDoor
open Go.RowKit Go.Shelf
open Lim
attribute [local go_sem] Oper.semAt_some
theorem LRow.at {w W:World} {v:Value} {ls:List L2} (h:LRow w v ls) (hb:Below w.heap.size w W) {k:Nat} {x:L2} (hx:ls[k]?=some x) :
  ∃ b o c,v=.slice (some ⟨b,o,none⟩) ls.length c∧b < W.heap.size∧W.cell? ⟨b,o+k*2,none⟩=some (.string x.1)∧W.cell? ⟨b,o+k*2+1,none⟩=some (.string x.2):=by
 obtain ⟨A,c,rfl,_,hc⟩:=h
 obtain ⟨b,o,rfl,hlt,hcell⟩:=hc (by have:=(List.getElem?_eq_some_iff.1 hx).1;omega)
 obtain ⟨c0,c1⟩:=hcell k x hx
 exact ⟨b,o,c,rfl,Nat.lt_of_lt_of_le hlt hb.size,by rw [hb.cell (p:=⟨b,o+k*2,none⟩) hlt];exact c0,by rw [hb.cell (p:=⟨b,o+k*2+1,none⟩) hlt];exact c1⟩
end Go.Proofs.YtigapglmipmbeaaGreatDoor
namespace Go.Proofs.YtigapglmipmbeaaGreatDoor
open Go.RowKit Go.Shelf
def cellsM (ls:List L2):List Value:=ls.flatMap fun x=>[.string x.1,.string x.2]
theorem cellsM_cons (x:L2) (l:List L2):cellsM (x::l)=.string x.1::.string x.2::cellsM l:=rfl
theorem cellsM_at:∀ {ls:List L2} {k:Nat} {x:L2},ls[k]?=some x→(cellsM ls)[k*2]?=some (.string x.1)∧(cellsM ls)[k*2+1]?=some (.string x.2)
 | [],k,x,h=>by simp at h
 | y::l,0,x,h=>by
  simp only [List.getElem?_cons_zero,Option.some.injEq] at h
  subst h
  exact ⟨rfl,rfl⟩
 | y::l,k+1,x,h=>by
  have h2:l[k]?=some x:=by simpa using h
  rw [cellsM_cons,show (k+1)*2=k*2+1+1 by omega]
  exact cellsM_at h2
theorem slice_shape {w:World} {base e size n:Nat} {v:Value} {us:List Value} (h:w.ownsRow base e size v n us):∃ A c,v=.slice A n c:=by
 rcases h.2 with ⟨e1,h0⟩|⟨g,cap,cur,e1,_⟩
 ·exact ⟨none,0,by rw [e1,h0]⟩
 ·exact ⟨_,_,e1⟩
theorem grow_nw {w W W':World} (h:NW w W) (hr:Res w) {row:Option Nat} (hg:W.grownBy W' row) (hrow:∀ r,row=some r→w.heap.size≤r):NW w W':=by
 have hb:Below w.heap.size w W':=h.below.grown hg h.below.size hrow
 exact ⟨hb,hr.below hb⟩
theorem grown_none' {w w':World} (h:Below w.heap.size w w') (row:Option Nat):w.grownBy w' row:=⟨h.os,h.tape,h.output,h.size,fun k hk _=>h.block k hk⟩
theorem own_cells {base n size:Nat} {w:World} {E:TypeId} {v:Value} {us:List Value} (h:w.ownsRow base E size v n us) {r:Nat} (hr:v.ownBlock=some r):∃ cur,w.heap[r]?=some (.cells cur E (0,0)):=by
 rcases h.2 with ⟨e,_⟩|⟨g,cap,cur,e,_,hh,_⟩
 ·subst e;cases hr
 ·subst e
  simp only [Value.ownBlock,Option.some.injEq] at hr
  subst hr
  exact ⟨cur,hh⟩
end Go.Proofs.YtigapglmipmbeaaGreatDoor
namespace Go.Proofs.YtigapglmipmbeaaGreatDoor
end Go.Proofs.YtigapglmipmbeaaGreatDoor
namespace Go.Proofs.YtigapglmipmbeaaGreatDoor
open Lim
section
variable {a b:Nat} {ls la lb:List L2}
end
end Go.Proofs.YtigapglmipmbeaaGreatDoor
namespace Go.Proofs.YtigapglmipmbeaaGreatDoor
open Go.RowKit Go.Shelf
def LRowW (w:World) (v:Value) (ls:List L2):Prop :=
 ∃ A c,v=.slice A ls.length c∧ls.length≤maxLen∧(0 < ls.length→∃ b o,A=some ⟨b,o,none⟩∧b < w.heap.size ∧
  ∀ (j:Nat) (x:L2),ls[j]?=some x→w.cell? ⟨b,o+j*2,none⟩=some (.string x.1)∧w.cell? ⟨b,o+j*2+1,none⟩=some (.string x.2))
theorem LRow.wide {w:World} {v:Value} {ls:List L2} (h:LRow w v ls):LRowW w v ls:=by
 obtain ⟨A,c,e,h1,h2⟩:=h
 exact ⟨A,c,e,by unfold maxLen;omega,h2⟩
theorem LRowW.at {w W:World} {v:Value} {ls:List L2} (h:LRowW w v ls) (hb:Below w.heap.size w W) {k:Nat} {x:L2} (hx:ls[k]?=some x) :
  ∃ b o c,v=.slice (some ⟨b,o,none⟩) ls.length c∧b < W.heap.size∧W.cell? ⟨b,o+k*2,none⟩=some (.string x.1)∧W.cell? ⟨b,o+k*2+1,none⟩=some (.string x.2):=by
 obtain ⟨A,c,rfl,_,hc⟩:=h
 obtain ⟨b,o,rfl,hlt,hcell⟩:=hc (by have:=(List.getElem?_eq_some_iff.1 hx).1;omega)
 obtain ⟨c0,c1⟩:=hcell k x hx
 exact ⟨b,o,c,rfl,Nat.lt_of_lt_of_le hlt hb.size,by rw [hb.cell (p:=⟨b,o+k*2,none⟩) hlt];exact c0,by rw [hb.cell (p:=⟨b,o+k*2+1,none⟩) hlt];exact c1⟩
end Go.Proofs.YtigapglmipmbeaaGreatDoor
namespace Go.Proofs.YtigapglmipmbeaaGreatDoor
open Lim
end Go.Proofs.YtigapglmipmbeaaGreatDoor
namespace Go.Proofs.YtigapglmipmbeaaGreatDoor
open Go.RowKit Go.Shelf
end Go.Proofs.YtigapglmipmbeaaGreatDoor
namespace Go.Proofs.YtigapglmipmbeaaGreatDoor
open Go.RowKit Go.Maps Go.Sort Go.Shelf
open Lim
def mKey (k:ByteArray):Lit:=.string k.data.toList
section
variable {w:World} {b n:Nat} {D:DataW Unit} {key s:ByteArray} (hown:w.ownsMap Tryz.prog 9 (plainElem Tryz.prog 23) b n D) (hk:key.size≤maxLen) (hs:D.atKey (mKey key) (.lit (.string []))=.lit (.string s.data.toList))
include hown hk hs
end
end Go.Proofs.YtigapglmipmbeaaGreatDoor
namespace Go.Proofs.YtigapglmipmbeaaGreatDoor
open Go.Shelf
end Go.Proofs.YtigapglmipmbeaaGreatDoor
namespace Go.Proofs.YtigapglmipmbeaaGreatDoor
open Go.RowKit Go.Maps Go.Sort Go.Shelf
end Go.Proofs.YtigapglmipmbeaaGreatDoor
namespace Go.Proofs.YtigapglmipmbeaaGreatDoor
open Go.RowKit Go.Shelf
open Lim
attribute [local go_sem] Oper.semAt_some
theorem zT_small:zT.size≤270000:=by decide
theorem Short.atT {k:ByteArray}:∀ {ls:List L2},Short ls→(atT ls k).size≤270000
 | [],_=>zT_small
 | x::l,h=>by
  unfold Go.Proofs.YtigapglmipmbeaaGreatDoor.atT
  split
  ·exact (h x (by simp)).2
  ·exact Short.atT fun y hy=>h y (by simp [hy])
end Go.Proofs.YtigapglmipmbeaaGreatDoor
namespace Go.Proofs.YtigapglmipmbeaaGreatDoor
open Go.RowKit Go.Maps Go.Sort Go.Shelf
open Lim
attribute [local go_sem] Oper.semAt_some
theorem short_cons {x:L2} {l:List L2}:Short (x::l)↔(x.1.size≤270000∧x.2.size≤270000)∧Short l:=by
 unfold Short
 constructor
 ·intro h;exact ⟨h x (by simp),fun y hy=>h y (by simp [hy])⟩
 ·rintro ⟨h1,h2⟩ y hy
  rcases List.mem_cons.1 hy with rfl|hy
  ·exact h1
  ·exact h2 y hy
theorem Short.ins:∀ {a b:List L2} {x:L2},insX a x=.ok b→Short a→x.1.size≤270000∧x.2.size≤270000→Short b
 | [],b,x,h,_,hx=>by cases h;exact short_cons.2 ⟨hx,fun _ h=>by cases h⟩
 | y::l,b,x,h,ha,hx=>by
  obtain ⟨h1,h2⟩:=short_cons.1 ha
  unfold insX at h
  split at h
  ·split at h
   ·cases h
   ·rename_i m hm
    cases h
    exact short_cons.2 ⟨h1,Short.ins hm h2 hx⟩
  ·split at h
   ·split at h
    ·cases h
    ·rename_i s hs
     cases h
     exact short_cons.2 ⟨⟨h1.1,size_ok (plX_ok hs)⟩,h2⟩
   ·cases h
    exact short_cons.2 ⟨hx,ha⟩
end Go.Proofs.YtigapglmipmbeaaGreatDoor
namespace Go.Proofs.YtigapglmipmbeaaGreatDoor
open Go.RowKit Go.Shelf
open Lim
end Go.Proofs.YtigapglmipmbeaaGreatDoor
namespace Go.Proofs.YtigapglmipmbeaaGreatDoor
open Go.RowKit
structure LaterW (w:World) where
 W:World
 h:Below w.heap.size w W
instance (w:World):Nonempty (LaterW w):=⟨⟨w,Below.refl _ _⟩⟩
end Go.Proofs.YtigapglmipmbeaaGreatDoor
namespace Go.Proofs.YtigapglmipmbeaaGreatDoor
open Go.RowKit Go.Shelf
open Lim
def Src (w:World) (size:Nat) (sv:Value) (m:Nat) (news:List Value):Prop :=
 news.length=m*size∧((∃ c,sv=.slice none 0 c∧m=0)∨∃ ad c,sv=.slice (some ad) m c∧∀ j u,news[j]?=some u→w.cell? (ad.add j)=some u)
theorem run_append_empty {P:Program} (w:World) (base:Nat) (t ty e:TypeId) (i:TypeInfo) (size:Nat) (ht:P.underlying t=some (.slice e)) (hi:P.info? e=some i) (hsize:i.size=size)
  (v:Value) (n:Nat) (xs:List Value) (hown:w.ownsRow base e size v n xs) (c:Nat):(Builtin.append_ #[t,t] ty #[v,.slice none 0 c]).run P w=.ok v w:=by
 subst hsize
 rcases hown.2 with ⟨rfl,rfl⟩|⟨g,cap,cur,rfl,hbg,hg,hnc,hcm,hcs,htake⟩
 ·simp [Builtin.append_,run_underlying ht,sizeOf,typeInfo,hi,Builtin.lenOf,Builtin.firstCells]
 ·simp [Builtin.append_,run_underlying ht,sizeOf,typeInfo,hi,Builtin.lenOf,Builtin.firstCells,loadCells,hnc,storeCells]
theorem wpListIn_append_src {F:Fence} {n:Nat} {P:Program} (w:World) {ops:Array Oper} {rest:List Oper} {o:Oper} {a:Act} {Q:Exit→Act→World→Prop}
  (hg:o.guard=none) (s x:Operand) (t:TypeId) (hop:o.op=Op.call { callee:=Callee.builtin Builtin.append,args:=#[s,x],argTypes:=#[t,t] })
  (base:Nat) (e:TypeId) (i:TypeInfo) (z:Value) (size bytes:Nat) (h1:P.underlying t=some (.slice e)) (h2:P.info? e=some i) (h3:i.zero=some z) (h4:i.size=size) (h5:i.bytes=bytes) (h6:z.cells.size=size) (h7:0 < size)
  (v:Value) (k:Nat) (xs:List Value) (hs:a.eval s=v) (hown:w.ownsRow base e size v k xs) (sv:Value) (m:Nat) (news:List Value) (hx:a.eval x=sv) (hsrc:Src w size sv m news)
  (h1c:∀ u∈news,u.oneCell'=true) (b1:k+m≤maxLen) (b2:(k+m)*bytes≤140737488355328) (b3:base≤w.heap.size)
  (hK:∀ v' w',w'.ownsRow base e size v' (k+m) (xs++news)→w.grownBy w' v.ownBlock→wpListIn F n P ops Q rest (a.put o.dst v') w') :
  wpListIn F n P ops Q (o::rest) a w:=by
 rcases hsrc with ⟨hl,⟨c,rfl,rfl⟩|⟨ad,c,rfl,hc⟩⟩
 ·have hn:news=[]:=List.eq_nil_of_length_eq_zero (by simpa using hl)
  subst hn
  refine wpListIn_plain hg fun K hK'=>?_
  have hrun:=run_append_empty (P:=P) w base t o.type e i size h1 h2 h4 v k xs hown c
  unfold Oper.wpIn
  refine ⟨?_,?_⟩
  ·simp [Oper.about,hop,resolve,Target.leads,Sem.run_pure]
  ·rw [Oper.semAt_plain F _ _ (by rw [hop];intro c hc';cases hc')]
   simp [execOp,hop,resolve,invoke,builtin,hs,hx,hrun,Result.andThen]
   exact hK' _ _ (hK v w (by simpa using hown) ⟨rfl,rfl,rfl,Nat.le_refl _,fun _ _ _=>rfl⟩)
 ·exact wpListIn_append_own w hg s x t hop base e i z size bytes h1 h2 h3 h4 h5 h6 h7 v k xs hs hown ad m c news hx hl hc h1c b1 b2 b3 fun v' w' r1 r2 _=>hK v' w' r1 r2
theorem wpIn_region_later {F:Fence} {n:Nat} {P:Program} {id:Nat} {Q:Exit→Act→World→Prop} {a:Act} {w:World} {l:List Oper} (hro:F.round=none) (hm:P.follows .mixedOrders=true) (hB:Region.lexB .any l.toArray=true)
  (h:wpQuietIn F n P l.toArray (fun W=>∃ x:LaterW w,W=x.W) (fun a'=>∀ W,(∃ x:LaterW w,W=x.W)→Q .normal a' W) l a):(Code.region id l.toArray true).wpIn F n P Q a w :=
 wpIn_region_quiet (C:=fun W=>∃ x:LaterW w,W=x.W) hro hm hB ⟨⟨{ w with drawn:=w.drawn+1 },⟨rfl,rfl,rfl,Nat.le_refl _,fun _ _=>rfl⟩⟩,rfl⟩ (by simpa using h)
theorem wide_fn (f:FuncId):Fence.wide.fn f↔True:=iff_of_true trivial trivial
theorem LaterW.at {w:World} {b o:Nat} {u:Value} (hb:b < w.heap.size) (h:w.cell? ⟨b,o,none⟩=some u):∀ z:LaterW w,z.W.cell? ⟨b,o,none⟩=some u:=fun z=>(z.h.cell (p:=⟨b,o,none⟩) hb).trans h
theorem addr_add0 (g j i:Nat):((⟨g,j,none⟩:Addr).add i)=⟨g,j+i,none⟩:=by unfold Addr.add;split<;>simp_all
theorem grow_belowM {n size m:Nat} {w W W':World} {e:TypeId} {v:Value} {xs:List Value} (h:Below n w W) (hn:n≤W.heap.size) (ho:W.ownsRow n e size v m xs) (hg:W.grownBy W' v.ownBlock):Below n w W' :=
 ⟨hg.os.trans h.os,hg.tape.trans h.tape,hg.output.trans h.output,Nat.le_trans h.size hg.size,fun k hk=>(hg.block k (by omega) fun e=>by have:=(ho.lt k e.symm).1;omega).trans (h.block k hk)⟩
theorem below_drewM (w:World):Below w.heap.size w w.drew:=⟨rfl,rfl,rfl,Nat.le_refl _,fun _ _=>rfl⟩
section
variable {w W W':World} {ls a:List L2} {i:Nat} {v:Value}
end
end Go.Proofs.YtigapglmipmbeaaGreatDoor
