/- Appending a slice that is read to a slice of the call's own; what the reference's collect keeps. The reference 08: collect and Make (printed by mkdcoll.py). The reference 08: Make (printed by mkdcoll.py). law 08: half, thirds and the examples that each statement asks first (printed by mkdlives.py). law 08: number, least, plus, times. Walks of laws behind made: one class of later worlds for all that follows. law 09: few (printed by mkdlight.py). law 09: made, as a walk (printed by mkmade9.py). law 09: factor, least, holds (printed by mklhelp9.py). What law 09's made gives (printed by mkgrp.py). MomentDeltas: To for long curves; what the law asks; no walk (printed by mkmomd.py). The plain law of DistFactors: the least factor as a text. No program in sight. dist: slices.Clone of masses, scaled (printed by mkdprog.py). dist.Mix (printed by mkdprog.py). dist: slices.Index of strings, Push (printed by mkdprog.py). law 08: names (printed by mkdlaw3.py). DistPushes, as a walk (printed by mkdlaw3.py). Laws inside a fence: drawn regions of one class of later worlds; what Mix gives (printed by mkdlaw4.py). -/
import Derived.Test.YtigapglmipmbeaaGreatDoorLwMomentDeltas17
import Derived.Test.YtigapglmipmbeaaGreatDoorLwMomentDeltas16
import Derived.OwnWalkIn
import Derived.Sort.BigQuietIn
import Derived.Sort.QuietIn
import Derived.Test.YtigapglmipmbeaaGreatDoorLwMomentDeltas15
import Derived.Test.YtigapglmipmbeaaGreatDoorLwMomentDeltas14
import Derived.Test.YtigapglmipmbeaaGreatDoorLwMomentDeltas10
set_option maxRecDepth 100000
set_option maxHeartbeats 16000000
namespace Go.Proofs.YtigapglmipmbeaaGreatDoor
open Go.RowKit Go.Shelf
open Lim
def Src (w:World) (size:Nat) (sv:Value) (m:Nat) (news:List Value):Prop :=
 news.length=m*size∧((∃ c,sv=.slice none 0 c∧m=0)∨∃ ad c,sv=.slice (some ad) m c∧∀ j u,news[j]?=some u→w.cell? (ad.add j)=some u)
theorem run_append_empty {P:Program} (w:World) (base:Nat) (t ty e:TypeId) (i:TypeInfo) (size:Nat) (ht:P.underlying t=some (.slice e)) (hi:P.info? e=some i) (hsize:i.size=size)
  (v:Value) (n:Nat) (xs:List Value) (hown:w.ownsRow base e size v n xs) (c:Nat):(Builtin.append_ #[t,t] ty #[v,.slice none 0 c]).run P w=.ok v w:=by
 subst hsize
 rcases hown.2 with ⟨rfl,rfl⟩|⟨g,cap,cur,rfl,hbg,hg,hnc,hcm,hcs,htake⟩
 ·simp [Builtin.append_,run_underlying ht,sizeOf,typeInfo,hi,Builtin.lenOf,Builtin.firstCells]
 ·simp [Builtin.append_,run_underlying ht,sizeOf,typeInfo,hi,Builtin.lenOf,Builtin.firstCells,loadCells,hnc,storeCells]
theorem wpListIn_append_src {F:Fence} {n:Nat} {P:Program} (w:World) {ops:Array Oper} {rest:List Oper} {o:Oper} {a:Act} {Q:Exit→Act→World→Prop}
  (hg:o.guard=none) (s x:Operand) (t:TypeId) (hop:o.op=Op.call { callee:=Callee.builtin Builtin.append,args:=#[s,x],argTypes:=#[t,t] })
  (base:Nat) (e:TypeId) (i:TypeInfo) (z:Value) (size bytes:Nat) (h1:P.underlying t=some (.slice e)) (h2:P.info? e=some i) (h3:i.zero=some z) (h4:i.size=size) (h5:i.bytes=bytes) (h6:z.cells.size=size) (h7:0 < size)
  (v:Value) (k:Nat) (xs:List Value) (hs:a.eval s=v) (hown:w.ownsRow base e size v k xs) (sv:Value) (m:Nat) (news:List Value) (hx:a.eval x=sv) (hsrc:Src w size sv m news)
  (h1c:∀ u∈news,u.oneCell'=true) (b1:k+m≤maxLen) (b2:(k+m)*bytes≤140737488355328) (b3:base≤w.heap.size)
  (hK:∀ v' w',w'.ownsRow base e size v' (k+m) (xs++news)→w.grownBy w' v.ownBlock→wpListIn F n P ops Q rest (a.put o.dst v') w') :
  wpListIn F n P ops Q (o::rest) a w:=by
 rcases hsrc with ⟨hl,⟨c,rfl,rfl⟩|⟨ad,c,rfl,hc⟩⟩
 ·have hn:news=[]:=List.eq_nil_of_length_eq_zero (by simpa using hl)
  subst hn
  refine wpListIn_plain hg fun K hK'=>?_
  have hrun:=run_append_empty (P:=P) w base t o.type e i size h1 h2 h4 v k xs hown c
  unfold Oper.wpIn
  refine ⟨?_,?_⟩
  ·simp [Oper.about,hop,resolve,Target.leads,Sem.run_pure]
  ·rw [Oper.semAt_plain F _ _ (by rw [hop];intro c hc';cases hc')]
   simp [execOp,hop,resolve,invoke,builtin,hs,hx,hrun,Result.andThen]
   exact hK' _ _ (hK v w (by simpa using hown) ⟨rfl,rfl,rfl,Nat.le_refl _,fun _ _ _=>rfl⟩)
 ·exact wpListIn_append_own w hg s x t hop base e i z size bytes h1 h2 h3 h4 h5 h6 h7 v k xs hs hown ad m c news hx hl hc h1c b1 b2 b3 fun v' w' r1 r2 _=>hK v' w' r1 r2
theorem wpIn_region_later {F:Fence} {n:Nat} {P:Program} {id:Nat} {Q:Exit→Act→World→Prop} {a:Act} {w:World} {l:List Oper} (hro:F.round=none) (hm:P.follows .mixedOrders=true) (hB:Region.lexB .any l.toArray=true)
  (h:wpQuietIn F n P l.toArray (fun W=>∃ x:LaterW w,W=x.W) (fun a'=>∀ W,(∃ x:LaterW w,W=x.W)→Q .normal a' W) l a):(Code.region id l.toArray true).wpIn F n P Q a w :=
 wpIn_region_quiet (C:=fun W=>∃ x:LaterW w,W=x.W) hro hm hB ⟨⟨{ w with drawn:=w.drawn+1 },⟨rfl,rfl,rfl,Nat.le_refl _,fun _ _=>rfl⟩⟩,rfl⟩ (by simpa using h)
theorem wide_fn (f:FuncId):Fence.wide.fn f↔True:=iff_of_true trivial trivial
theorem LaterW.at {w:World} {b o:Nat} {u:Value} (hb:b < w.heap.size) (h:w.cell? ⟨b,o,none⟩=some u):∀ z:LaterW w,z.W.cell? ⟨b,o,none⟩=some u:=fun z=>(z.h.cell (p:=⟨b,o,none⟩) hb).trans h
theorem addr_add0 (g j i:Nat):((⟨g,j,none⟩:Addr).add i)=⟨g,j+i,none⟩:=by unfold Addr.add;split<;>simp_all
theorem cellsM_take:∀ (l:List L2) (k:Nat),cellsM (l.take k)=(cellsM l).take (k*2)
 | _,0=>by simp [cellsM]
 | [],k+1=>by simp [cellsM]
 | x::l,k+1=>by
  rw [List.take_succ_cons,cellsM_cons,cellsM_cons,show (k+1)*2=k*2+1+1 by omega,List.take_succ_cons,List.take_succ_cons,cellsM_take l k]
theorem cellsM_drop:∀ (l:List L2) (k:Nat),cellsM (l.drop k)=(cellsM l).drop (k*2)
 | _,0=>by simp
 | [],k+1=>by simp [cellsM]
 | x::l,k+1=>by
  rw [List.drop_succ_cons,cellsM_cons,show (k+1)*2=k*2+1+1 by omega,List.drop_succ_cons,List.drop_succ_cons,cellsM_drop l k]
theorem cellsM_set:∀ {l:List L2} {k:Nat} {y:L2} (s:ByteArray),l[k]?=some y→cellsM (l.set k (y.1,s))=(cellsM l).set (k*2+1) (.string s)
 | [],k,y,s,h=>by simp at h
 | x::l,0,y,s,h=>by
  simp only [List.getElem?_cons_zero,Option.some.injEq] at h
  subst h
  rfl
 | x::l,k+1,y,s,h=>by
  rw [List.set_cons_succ,cellsM_cons,cellsM_cons,cellsM_set s (by simpa using h),show (k+1)*2+1=k*2+1+1+1 by omega,List.set_cons_succ,List.set_cons_succ]
theorem one_cellsM (l:List L2):∀ u∈cellsM l,u.oneCell'=true:=fun u hu=>by
 unfold cellsM at hu
 obtain ⟨x,_,hx⟩:=List.mem_flatMap.1 hu
 simp only [List.mem_cons,List.not_mem_nil,or_false] at hx
 rcases hx with rfl|rfl<;>rfl
theorem one_pairM (x:L2):∀ u∈([.string x.1,.string x.2]:List Value),u.oneCell'=true:=fun u hu=>by
 simp only [List.mem_cons,List.not_mem_nil,or_false] at hu
 rcases hu with rfl|rfl<;>rfl
theorem cell_later' {w W:World} {g j:Nat} {u:Value} (hB:Below w.heap.size w W) (h:w.cell? ⟨g,j,none⟩=some u) (hg:g < w.heap.size):W.cell? ⟨g,j,none⟩=some u:=(hB.cell (p:=⟨g,j,none⟩) hg).trans h
theorem own_lt {base n cap g:Nat} {w:World} {l:List Value} {E:TypeId} {size:Nat} (h:w.ownsRow base E size (.slice (some ⟨g,0,none⟩) n cap) n l):g < w.heap.size:=(h.lt g rfl).2
theorem srcM_take {base g cap:Nat} {w W:World} {a:List L2} (h:OwnM base w (.slice (some ⟨g,0,none⟩) a.length cap) a) (hB:Below w.heap.size w W) {k c:Nat} (hk:k≤a.length) :
  Src W 2 (.slice (some ⟨g,0,none⟩) k c) k (cellsM (a.take k)):=by
 refine ⟨by rw [cellsM_length,List.length_take,Nat.min_eq_left hk],.inr ⟨_,_,rfl,fun j u hu=>?_⟩⟩
 rw [cellsM_take,List.getElem?_take] at hu
 split at hu
 ·have:=World.ownsRow.cells h (g:=g) rfl j u hu
  rw [addr_add0] at this ⊢
  exact cell_later' hB this (own_lt h)
 ·cases hu
theorem srcM_drop {base g cap:Nat} {w W:World} {a:List L2} (h:OwnM base w (.slice (some ⟨g,0,none⟩) a.length cap) a) (hB:Below w.heap.size w W) {k c:Nat} :
  Src W 2 (.slice (some ⟨g,k*2,none⟩) (a.length - k) c) (a.length - k) (cellsM (a.drop k)):=by
 refine ⟨by rw [cellsM_length,List.length_drop],.inr ⟨_,_,rfl,fun j u hu=>?_⟩⟩
 rw [cellsM_drop,List.getElem?_drop] at hu
 have:=World.ownsRow.cells h (g:=g) rfl _ u hu
 rw [addr_add0] at this ⊢
 have:=cell_later' hB this (own_lt h)
 rwa [Nat.zero_add] at this
theorem srcM_zero {W:World} {A:Option Addr} {c:Nat}:Src W 2 (.slice A 0 c) 0 []:=by
 refine ⟨rfl,?_⟩
 cases A with
 | none=>exact .inl ⟨c,rfl,rfl⟩
 | some a=>exact .inr ⟨a,c,rfl,fun j u h=>by simp at h⟩
theorem srcM_one {W:World} {B:Nat} {x:L2} (h:W.heap[B]?=some (.cells #[.string x.1,.string x.2] 30 (0,0))):Src W 2 (.slice (some ⟨B,0,none⟩) 1 1) 1 [.string x.1,.string x.2] :=
 ⟨rfl,.inr ⟨_,_,rfl,fun j u hu=>by
  match j with
  | 0=>rw [addr_add0];simp at hu;subst hu;simp [World.cell?,h]
  | 1=>rw [addr_add0];simp at hu;subst hu;simp [World.cell?,h]
  | j+2=>simp at hu⟩⟩
theorem two_old (w:World) (o1 o2:Obj):((w.alloc o1).alloc o2).heap[w.heap.size]?=some o1:=(heap_alloc_old (w.alloc o1) o2 (by simp)).trans (heap_alloc_new w o1)
theorem two_cur (w:World) (o1 o2:Obj):((w.alloc o1).alloc o2).heap[w.heap.size+1]?=some o2:=by
 have:=heap_alloc_new (w.alloc o1) o2
 simpa using this
theorem own_atM {W:World} {base b:Nat} (hb:base≤b) (h:W.heap[b]?=some (.cells #[] 30 (0,0))):W.ownsRow base 30 2 (.slice (some ⟨b,0,none⟩) 0 0) 0 [] :=
 ⟨rfl,.inr ⟨b,0,#[],rfl,hb,h,Nat.le_refl _,Nat.zero_le _,rfl,rfl⟩⟩
theorem grow_belowM {n size m:Nat} {w W W':World} {e:TypeId} {v:Value} {xs:List Value} (h:Below n w W) (hn:n≤W.heap.size) (ho:W.ownsRow n e size v m xs) (hg:W.grownBy W' v.ownBlock):Below n w W' :=
 ⟨hg.os.trans h.os,hg.tape.trans h.tape,hg.output.trans h.output,Nat.le_trans h.size hg.size,fun k hk=>(hg.block k (by omega) fun e=>by have:=(ho.lt k e.symm).1;omega).trans (h.block k hk)⟩
theorem below_drewM (w:World):Below w.heap.size w w.drew:=⟨rfl,rfl,rfl,Nat.le_refl _,fun _ _=>rfl⟩
structure CollI (w:World) (ls:List L2) (i:Nat) (W:World) (v:Value) (a:List L2):Prop where
 nw:NW w W
 own:OwnM w.heap.size W v a
 coll:collX [] ls=collX a (ls.drop i)
 len:a.length≤i
 short:Short a
theorem CollI.nil {w:World} {ls:List L2} (hr:Res w):CollI w ls 0 w (.slice none 0 0) []:=⟨NW.refl hr,OwnM.nil _ _,by simp,Nat.le_refl _,fun x h=>by cases h⟩
section
variable {w W W':World} {ls a:List L2} {i:Nat} {v:Value}
theorem CollI.later (h:CollI w ls i W v a) (hb:Below W.heap.size W W'):CollI w ls i W' v a:=⟨h.nw.later hb,h.own.later hb,h.coll,h.len,h.short⟩
theorem CollI.cap {A:Option Addr} {c:Nat} (h:CollI w ls i W (.slice A a.length c) a):(A=none∧c=0∧a=[])∨∃ g,A=some ⟨g,0,none⟩∧a.length≤c∧c≤9223372036854775807:=by
 rcases h.own.2 with ⟨e,h0⟩|⟨g,c',cur,e,_,_,h1,h2,_⟩
 ·simp only [Value.slice.injEq] at e;exact .inl ⟨e.1,e.2.2,List.eq_nil_of_length_eq_zero h0⟩
 ·simp only [Value.slice.injEq] at e;unfold maxLen at h2;exact .inr ⟨g,e.1,by omega,by omega⟩
theorem CollI.at {A:Option Addr} {c k:Nat} {y:L2} (h:CollI w ls i W (.slice A a.length c) a) (hy:a[k]?=some y):∃ g,A=some ⟨g,0,none⟩∧g < W.heap.size∧W.cell? ⟨g,k*2,none⟩=some (.string y.1)∧W.cell? ⟨g,k*2+1,none⟩=some (.string y.2):=by
 have hk:=(List.getElem?_eq_some_iff.1 hy).1
 rcases h.cap with ⟨_,_,rfl⟩|⟨g,rfl,_⟩
 ·simp at hk
 ·obtain ⟨c0,c1⟩:=cellsM_at hy
  have r0:=World.ownsRow.cells h.own (g:=g) rfl _ _ c0
  have r1:=World.ownsRow.cells h.own (g:=g) rfl _ _ c1
  rw [addr_add0,Nat.zero_add] at r0 r1
  exact ⟨g,rfl,own_lt h.own,r0,r1⟩
theorem CollI.new {W5:World} {v3:Value} {x:L2} {k:Nat} (h:CollI w ls i W v a) (hx:ls[i]?=some x) (hins:insX a x=.ok (a.take k++x::a.drop k)) (hk:k≤a.length) (hsx:x.1.size≤270000∧x.2.size≤270000)
  (hB:Below W.heap.size W W5) (hown:W5.ownsRow W.heap.size 30 2 v3 (k+1+(a.length - k)) (cellsM (a.take k)++[.string x.1,.string x.2]++cellsM (a.drop k))) :
  CollI w ls (i+1) W5 v3 (a.take k++x::a.drop k):=by
 have e:(a.take k++x::a.drop k).length=k+1+(a.length - k):=by simp;omega
 refine ⟨h.nw.later hB,?_,?_,?_,?_⟩
 ·refine owns_base (base:=W.heap.size) ?_ h.nw.below.size
  rw [e,cellsM_append,cellsM_cons]
  simpa using hown
 ·rw [h.coll,drop_of hx,collX_step _ _ _ hins]
 ·rw [e];have:=h.len;omega
 ·exact Short.ins hins h.short hsx
theorem CollI.set {g c k:Nat} {x y:L2} {s:ByteArray} (hr:Res w) (h:CollI w ls i W (.slice (some ⟨g,0,none⟩) a.length c) a) (hx:ls[i]?=some x) (hy:a[k]?=some y) (hins:insX a x=.ok (a.set k (y.1,s))) (hsx:x.1.size≤270000∧x.2.size≤270000) :
  CollI w ls (i+1) (W.setCell ⟨g,k*2+1,none⟩ (.string s)) (.slice (some ⟨g,0,none⟩) a.length c) (a.set k (y.1,s)):=by
 obtain ⟨r1,r2⟩:=World.ownsRow.stored h.own (k*2+1) (.string s)
 have hg:=(h.own.lt g rfl).1
 refine ⟨grow_nw h.nw hr r2 (fun r e=>by cases e;exact hg),?_,?_,?_,?_⟩
 ·unfold OwnM
  rw [List.length_set,cellsM_set s hy]
  exact r1
 ·rw [h.coll,drop_of hx,collX_step _ _ _ hins]
 ·rw [List.length_set];have:=h.len;omega
 ·exact Short.ins hins h.short hsx
end
end Go.Proofs.YtigapglmipmbeaaGreatDoor
namespace Go.Proofs.YtigapglmipmbeaaGreatDoor
open Go.RowKit Go.Shelf
open Lim
attribute [local go_sem] Oper.semAt_some wide_fn
def collK (ls:List L2):Except Nat (List L2):=match collX [] ls with
 | .error n=>.error n
 | .ok a=>.ok (keepX a)
theorem collK_err {ls:List L2} {n:Nat} (h:collX [] ls=.error n):collK ls=.error n:=by unfold collK;rw [h]
theorem collK_ok {ls a:List L2} (h:collX [] ls=.ok a):collK ls=.ok (keepX a):=by unfold collK;rw [h]
theorem keepX_snoc {a:List L2} {k:Nat} {y:L2} (hy:a[k]?=some y):keepX (a.take (k+1))=if y.2=zT then keepX (a.take k) else keepX (a.take k)++[y]:=by
 unfold keepX
 rw [List.take_add_one,hy,Option.toList_some,List.filter_append]
 split
 ·rename_i h;rw [List.filter_cons_of_neg (by simpa using h)];simp
 ·rename_i h;rw [List.filter_cons_of_pos (by simpa using h)];simp
namespace S2
theorem rdcollect_any (ls:List L2) (v:Value) (w:World) (hv:LRow w v ls) (hs:Short ls) (hr:Res w) :
  Calls Tryz.prog 111 #[v] w fun e w'=>ResM w.heap.size (collK ls) e w'∧Below w.heap.size w w':=by
 have HV:=Lib.hid hv
 have HS:=Lib.hid hs
 obtain ⟨A,c,rfl,HLEN,hcells⟩:=hv
 have H0:=Lib.hid (CollI.nil (ls:=ls) hr)
 have HRS:=Lib.hid hr
 obtain ⟨i0,hi,hz0,hz1,hz2⟩:=info_parts infoM
 clear hr hcells hs
 generalize hm:collK ls=mk
 have HMK:=Lib.hid hm
 clear hm
 refine (callsIn_wide (n:=6)).1 ?_
 have h1:1≤6:=by omega
 have hmx:Tryz.prog.follows .mixedOrders=true:=by kernel_rfl
 refine callsIn_of_wp Tryz.func111 rfl trivial ?_ rfl
 simp only [Tryz.ntmps111,List.size_toArray,List.length_cons,List.length_nil,Nat.reduceAdd,Nat.reduceSub,Array.replicate_succ,Array.replicate_zero,List.push_toArray,List.append_toArray,List.nil_append,List.cons_append]
 gi_wp2
 gi_loopw [4,5] (fun v4 v5 wr=>∃ (i:Nat) (A0:Option Addr) (cc:Nat) (a:List L2),i≤ls.length∧v4=.slice A0 a.length cc∧v5=.int .i64 (i:Int)∧Hid (CollI w ls i wr (.slice A0 a.length cc) a)) (fun _ v5 _=>ls.length - (intOf v5).toNat)
 case atStart=>exact ⟨0,none,0,[],Nat.zero_le _,rfl,rfl,H0⟩
 case round =>
  clear H0
  obtain ⟨i,A0,cc,a,hi0,rfl,rfl,HI⟩:=hrel
  obtain ⟨wo,rfl⟩:∃ wo,wo=wr:=⟨_,rfl⟩
  have hal:=HI.out.len
  by_cases hlt:i < ls.length
  ·obtain ⟨x,hx⟩:∃ x,ls[i]?=some x:=⟨_,List.getElem?_eq_getElem hlt⟩
   obtain ⟨b,o,c',e',_,_,_⟩:=HV.out.at HI.out.nw.below hx
   simp only [Value.slice.injEq,true_and] at e'
   obtain ⟨rfl,rfl⟩:=e'
   have hlt':(i:Int) < (ls.length:Int):=by omega
   have HSX:=Lib.hid (HS.out x (List.mem_of_getElem? hx))
   have HXI:=Lib.hid hx
   have HLT:=Lib.hid (And.intro hlt hlt')
   obtain ⟨f,d⟩:=x
   dsimp only at HSX HXI
   clear hx hlt
   gi_wp2
   gi_loopw [6] (fun v6 wq=>∃ k:Nat,k≤a.length∧v6=.int .i64 (k:Int)∧Hid (∀ (j:Nat) y,j < k→a[j]?=some y→ltK y.1 f=true)∧Hid (CollI w ls i wq (.slice A0 a.length cc) a)) (fun v6 _=>a.length - (intOf v6).toNat)
   case atStart=>exact ⟨0,Nat.zero_le _,rfl,Lib.hid (fun j y h=>by omega),HI⟩
   case round =>
    clear HI
    obtain ⟨k,hk,rfl,HLO,HQ0⟩:=hrel
    have HXC0:=Lib.hid (HV.out.cell2 HQ0.out.nw.below HXI.out)
    by_cases hka:k < a.length
    ·obtain ⟨y,hy⟩:∃ y,a[k]?=some y:=⟨_,List.getElem?_eq_getElem hka⟩
     have hka':(k:Int) < (a.length:Int):=by omega
     have hkne:((k:Int)==(a.length:Int))=false:=by rw [beq_eq_false_iff_ne];omega
     obtain ⟨g,rfl,hgb,p0,p1⟩:=HQ0.out.at hy
     have HYK:=Lib.hid hy
     obtain ⟨yf,yd⟩:=y
     dsimp only at p0 p1 HYK
     obtain ⟨hbq,q0,q1⟩:=HXC0.out
     dsimp only at q0 q1
     have TL:=lt_bytes yf f
     cases h3:ltK yf f with
     | true =>
      rw [h3] at TL
      have HLO2:=Lib.hid (show ∀ (j:Nat) z,j < k+1→a[j]?=some z→ltK z.1 f=true from fun j z hj hz=>by
       rcases Nat.lt_or_ge j k with h|h
       ·exact HLO.out j z h hz
       ·obtain rfl:j=k:=by omega
        rw [HYK.out] at hz;cases hz;exact h3)
      have HKA:=Lib.hid hka
      clear h3 hy hka
      gi_wp2
      gi_quiet (fail)
      have HQ:=Lib.hid (HQ0.out.later (below_drewN' (Below.refl _ _) nq))
      gi_wp2
      go_roundw
      case rel=>exact ⟨k+1,HKA.out,by go_num,HLO2,HQ⟩
      case measure=>have:=HKA.out;simp [intOf];omega
     | false =>
      rw [h3] at TL
      have HLF:=Lib.hid h3
      clear h3 hy
      gi_wp2
      gi_quiet (fail)
      have HQ1:=Lib.hid (HQ0.out.later (below_drewN' (Below.refl _ _) nq))
      generalize wr.drewN nq=w1 at *
      clear p0 p1 q0 q1 hbq hgb TL HXC0 HQ0 nq
      obtain ⟨g',e',hgb,p0,p1⟩:=HQ1.out.at HYK.out
      cases e'
      have HXC1:=Lib.hid (HV.out.cell2 HQ1.out.nw.below HXI.out)
      obtain ⟨hbq,q0,q1⟩:=HXC1.out
      dsimp only at p0 p1 q0 q1
      have TE:=eq_bytes yf f
      by_cases he:yf=f
      ·rw [decide_eq_true he] at TE
       have HA:=Lib.hid (retRPlX (HQ1.out.short _ (List.mem_of_getElem? HYK.out)).2 HSX.out.2)
       have HIN:=Lib.hid (insX_old (x:=(f,d)) HLO.out HYK.out HLF.out he)
       dsimp only at HA HIN HSX
       clear he
       gi_wp2
       gi_quiet (fail)
       have HQ:=Lib.hid (HQ1.out.later (below_drewN' (Below.refl _ _) nq))
       generalize w1.drewN nq=wq at *
       clear p0 p1 q0 q1 hbq hgb TE HXC1 HQ1 nq
       obtain ⟨g',e',hgb,p0,p1⟩:=HQ.out.at HYK.out
       cases e'
       have HXC:=Lib.hid (HV.out.cell2 HQ.out.nw.below HXI.out)
       obtain ⟨hbq,q0,q1⟩:=HXC.out
       dsimp only at p0 p1 q0 q1
       have xi:=LaterW.at hgb p1
       have xj:=LaterW.at hbq q1
       have HKK:=Lib.hid (And.intro hgb p1)
       clear p0 p1 q0 q1 hbq hgb HXC
       cases hpl:plX yd d with
       | error n =>
        rw [hpl] at HA HIN
        change Hid (Ret _ _ (.tuple #[.string ⟨#[]⟩,.int .i64 (n:Int)])) at HA
        have hz:=ne_zero (exQ_err hpl)
        have hz2:=ne_zero2 (exQ_err hpl)
        have HR:=Lib.hid (show mk=.error n by rw [← HMK.out];exact collK_err (by rw [HQ.out.coll,drop_of HXI.out];exact collX_fail _ _ _ HIN.out))
        clear hpl
        gi_wp2
        refine wpIn_region_later rfl hmx (by kernel_rfl) ?_
        repeat (gi_big_quiet_step ((gi_at_call 59;refine (callsIn_wide.2 (HA.out _ (HQ.out.nw.res.below (LaterW.h _)))).mono ?_;rintro e w99 ⟨rfl,hb9⟩;exact ⟨rfl,⟨⟨w99,(LaterW.h _).trans (hb9.mono (LaterW.h _).size)⟩,rfl⟩⟩)))
        refine wpQuietIn_nil ?_
        rintro _ ⟨z,rfl⟩
        gi_wp2
        refine bodyPost_ret (results_tmp2 rfl _ _ _) rfl ?_
        rw [HR.out]
        exact ⟨rfl,(HQ.out.nw.later z.h).below⟩
       | ok s =>
        rw [hpl] at HA HIN
        change Hid (Ret _ _ (.tuple #[.string s,.int .i64 0])) at HA
        clear hpl
        gi_wp2
        refine wpIn_region_later rfl hmx (by kernel_rfl) ?_
        repeat (gi_big_quiet_step ((gi_at_call 59;refine (callsIn_wide.2 (HA.out _ (HQ.out.nw.res.below (LaterW.h _)))).mono ?_;rintro e w99 ⟨rfl,hb9⟩;exact ⟨rfl,⟨⟨w99,(LaterW.h _).trans (hb9.mono (LaterW.h _).size)⟩,rfl⟩⟩)))
        refine wpQuietIn_nil ?_
        rintro _ ⟨z,rfl⟩
        have HZ:=Lib.hid (HQ.out.later z.h)
        generalize z.W=wz at *
        clear xi xj
        obtain ⟨g',e',hgb,p0,p1⟩:=HZ.out.at HYK.out
        cases e'
        dsimp only at p0 p1
        have fz:=World.ownsRow.frozenAt HZ.out.own (k*2+1)
        gi_wp2
        go_roundw
        case rel=>exact ⟨i+1,some ⟨g,0,none⟩,cc,a.set k (yf,s),HLT.out.1,by rw [List.length_set],by go_num,Lib.hid (by rw [List.length_set];exact HZ.out.set HRS.out HXI.out HYK.out HIN.out HSX.out)⟩
        case measure=>have:=HLT.out.1;simp [intOf];omega
      ·rw [decide_eq_false he] at TE
       have HINS:=Lib.hid (show insX a (f,d)=.ok (a.take k++(f,d)::a.drop k) from insX_new hk HLO.out (fun z hz=>by rw [HYK.out] at hz;cases hz;exact ⟨HLF.out,he⟩))
       clear he
       gi_wp2
       gi_quiet (fail)
       have HQ:=Lib.hid (HQ1.out.later (below_drewN' (Below.refl _ _) nq))
       generalize w1.drewN nq=wq at *
       clear p0 p1 q0 q1 hbq hgb TE HXC1 HQ1 nq
       have HXC:=Lib.hid (HV.out.cell2 HQ.out.nw.below HXI.out)
       dsimp only at HXC
       have HEL:=Lib.hid (show ∀ (A:Option Addr) c,(Value.slice A (k+1+(a.length - k)) c)=.slice A (a.take k++(f,d)::a.drop k).length c from fun A c=>by congr 1;simp;omega)
       obtain ⟨hcl1,hcl2⟩:a.length≤cc∧cc≤9223372036854775807:=by
        rcases HQ.out.cap with ⟨e,_⟩|⟨_,_,h1,h2⟩
        ·cases e
        ·exact ⟨h1,h2⟩
       have hi3':(k:Int)≤(a.length:Int):=by omega
       have hi2:(k:Int)≤(cc:Int):=by omega
       have hck:cc≠k:=by omega
       have hc0:cc≠0:=by omega
       have HSA:=Lib.hid (show ∀ W,Below wq.heap.size wq W→Src W 2 (.slice (some ⟨g,0,none⟩) k cc) k (cellsM (a.take k)) from fun W hB=>srcM_take HQ.out.own hB hk)
       have HSB:=Lib.hid (show ∀ W,Below wq.heap.size wq W→Src W 2 (.slice (some ⟨g,k*2,none⟩) (a.length - k) (cc - k)) (a.length - k) (cellsM (a.drop k)) from fun W hB=>srcM_drop HQ.out.own hB)
       obtain ⟨hbq,q0,q1⟩:=HXC.out
       have xi0:∀ x:SameAt wq (fun k=>k < wq.heap.size),x.W.cell? ⟨b,o+i*2,none⟩=some (.string f):=fun x=>x.cell hbq q0
       have xi1:∀ x:SameAt wq (fun k=>k < wq.heap.size),x.W.cell? ⟨b,o+i*2+1,none⟩=some (.string d):=fun x=>x.cell hbq q1
       gi_wp2
       refine wpIn_stage (IsSame wq (fun k=>k < wq.heap.size)) [1,2,3,5,6,7,8,11,12,13] [15] hmx (by kernel_rfl) (isSame_of fun _ _=>rfl) ?_
       change wpStage _ _ _ _ _ _ _ _ (6+10) _ _ _
       refine stage_reads [1,2,3,5,6,7,8,11,12,13] 6 _ _ (by kernel_rfl) ?_
       change wpQuietIn _ _ _ _ (fun W'=>∃ x:SameAt wq (fun k=>k < wq.heap.size),W'=x.W) _ _ _
       simp only [pick_cons,pick_nil,List.getElem?_cons_zero,List.getElem?_cons_succ,Option.elim_some]
       repeat (gi_big_quiet_step (fail))
       refine wpQuietIn_nil ?_
       clear xi0 xi1 q0 q1 hbq
       refine stage_two 0 9 (by kernel_rfl) rfl rfl ?_ ?_
       ·gi_wp2
        refine stage_post (isSame_below (Below.alloc (below_drewM wq) (Nat.le_refl _) _) (fun k hk=>hk)) ?_
        refine stage_two 4 9 (by kernel_rfl) rfl rfl ?_ ?_
        ·have ho0:(wq.drew.alloc (.cells #[] 30)).ownsRow wq.heap.size 30 2 (.slice (some ⟨wq.heap.size,0,none⟩) 0 0) 0 []:=own_atM (Nat.le_refl _) (heap_alloc_new wq.drew _)
         have hB0:Below wq.heap.size wq (wq.drew.alloc (.cells #[] 30)):=Below.alloc (below_drewM wq) (Nat.le_refl _) _
         have HS1:=Lib.hid (HSA.out _ hB0)
         gi_wp2_with (gi_at_builtin;go_loud (refine wpListIn_append_src _ rfl _ _ 22 rfl wq.heap.size 30 i0 (.agg #[.string ByteArray.empty,.string ByteArray.empty]) 2 32 Tryz.underlying22 hi hz0 hz1 hz2 rfl (by decide) (.slice (some ⟨wq.heap.size,0,none⟩) 0 0) 0 [] rfl ho0 _ k (cellsM (a.take k)) rfl HS1.out (one_cellsM _) (by unfold maxLen;omega) (by omega) hB0.size ?_;intro v1 w3 hown2 hgrow3))
         rw [Nat.zero_add,List.nil_append] at hown2
         have hB2:=grow_belowM hB0 hB0.size ho0 hgrow3
         refine stage_post (isSame_below hB2 (fun k hk=>hk)) ?_
         refine stage_one 9 (by kernel_rfl) rfl ?_
         gi_wp2
         have hB3:Below wq.heap.size wq (w3.alloc (.cells #[.string f,.string d] 30)):=hB2.alloc hB2.size _
         have hown3:=World.ownsRow.alloc hown2 (.cells #[.string f,.string d] 30)
         have h57:(w3.alloc (.cells #[.string f,.string d] 30)).heap[w3.heap.size]?=some (.cells #[.string f,.string d] 30 (0,0)):=heap_alloc_new w3 _
         clear hown2 hgrow3 hB2 ho0 hB0
         generalize w3.alloc (.cells #[.string f,.string d] 30)=W3 at *
         have hN3:wq.heap.size≤W3.heap.size:=hB3.size
         have HN1:=Lib.hid (srcM_one (x:=(f,d)) h57)
         have HB3:=Lib.hid hB3
         clear h57
         refine stage_post (isSame_below HB3.out (fun k hk=>hk)) ?_
         refine stage_one 10 (by kernel_rfl) rfl ?_
         gi_wp2_with (gi_at_builtin;go_loud (refine wpListIn_append_src _ rfl _ _ 22 rfl wq.heap.size 30 i0 (.agg #[.string ByteArray.empty,.string ByteArray.empty]) 2 32 Tryz.underlying22 hi hz0 hz1 hz2 rfl (by decide) v1 k _ rfl hown3 _ 1 [.string f,.string d] rfl HN1.out (one_pairM (f,d)) (by unfold maxLen;omega) (by omega) hN3 ?_;intro v2 w4 hown4 hgrow4))
         have hB4:=grow_belowM HB3.out hN3 hown3 hgrow4
         have hN4:=hB4.size
         have HB4:=Lib.hid hB4
         have HS2:=Lib.hid (HSB.out w4 hB4)
         clear hgrow4 hB4
         refine stage_post (isSame_below HB4.out (fun k hk=>hk)) ?_
         refine stage_one 14 (by kernel_rfl) rfl ?_
         gi_wp2_with (gi_at_builtin;go_loud (refine wpListIn_append_src _ rfl _ _ 22 rfl wq.heap.size 30 i0 (.agg #[.string ByteArray.empty,.string ByteArray.empty]) 2 32 Tryz.underlying22 hi hz0 hz1 hz2 rfl (by decide) v2 (k+1) _ rfl hown4 _ _ _ rfl HS2.out (one_cellsM _) (by unfold maxLen;omega) (by omega) hN4 ?_;intro v3 w5 hown5 hgrow5))
         have HB5:=Lib.hid (grow_belowM HB4.out hN4 hown4 hgrow5)
         obtain ⟨A6,c6,rfl⟩:=slice_shape hown5
         have HF5:=Lib.hid (HQ.out.new (x:=(f,d)) HXI.out HINS.out hk HSX.out HB5.out (by first|exact hown5|(rw [HZ.out,HD2.out];exact hown5)))
         clear hown5 hgrow5 hown4 hown3
         refine stage_post (isSame_below HB5.out (fun k hk=>hk)) ?_
         refine stage_one 15 (by kernel_rfl) rfl ?_
         gi_wp2
         refine stage_last rfl ?_
         refine stage_done (by kernel_rfl) ?_
         gi_wp2
         go_roundw
         case rel=>exact ⟨i+1,A6,c6,_,HLT.out.1,(by first|exact HEL.out _ _|rw [← HEL.out,HZ.out]),by go_num,Lib.hid (by first|(rw [← HEL.out];exact HF5.out)|(rw [← HEL.out,HZ.out];exact HF5.out))⟩
         case measure=>have:=HLT.out.1;simp [intOf];omega
        ·gi_wp2
         refine stage_post (isSame_below (Below.alloc (Below.alloc (below_drewM wq) (Nat.le_refl _) (.cells #[] 30)) (by simp) _) (fun k hk=>hk)) ?_
         refine stage_one 4 (by kernel_rfl) rfl ?_
         have ho0:((wq.drew.alloc (.cells #[] 30)).alloc (.cells #[.string f,.string d] 30)).ownsRow wq.heap.size 30 2 (.slice (some ⟨wq.heap.size,0,none⟩) 0 0) 0 []:=own_atM (Nat.le_refl _) (two_old wq.drew _ _)
         have hB0:Below wq.heap.size wq ((wq.drew.alloc (.cells #[] 30)).alloc (.cells #[.string f,.string d] 30)):=Below.alloc (Below.alloc (below_drewM wq) (Nat.le_refl _) _) (by simp) _
         have HS1:=Lib.hid (HSA.out _ hB0)
         gi_wp2_with (gi_at_builtin;go_loud (refine wpListIn_append_src _ rfl _ _ 22 rfl wq.heap.size 30 i0 (.agg #[.string ByteArray.empty,.string ByteArray.empty]) 2 32 Tryz.underlying22 hi hz0 hz1 hz2 rfl (by decide) (.slice (some ⟨wq.heap.size,0,none⟩) 0 0) 0 [] rfl ho0 _ k (cellsM (a.take k)) rfl HS1.out (one_cellsM _) (by unfold maxLen;omega) (by omega) hB0.size ?_;intro v1 w3 hown2 hgrow3))
         rw [Nat.zero_add,List.nil_append] at hown2
         have hB3:=grow_belowM hB0 hB0.size ho0 hgrow3
         have h57:=(hgrow3.block (wq.heap.size+1) (by simp) (by simp [Value.ownBlock])).trans (two_cur wq.drew (.cells #[] 30) (.cells #[.string f,.string d] 30))
         have hown3:=hown2
         clear hgrow3 hown2 ho0 hB0
         have hN3:wq.heap.size≤w3.heap.size:=hB3.size
         have HN1:=Lib.hid (srcM_one (x:=(f,d)) h57)
         have HB3:=Lib.hid hB3
         clear h57
         refine stage_post (isSame_below HB3.out (fun k hk=>hk)) ?_
         refine stage_one 10 (by kernel_rfl) rfl ?_
         gi_wp2_with (gi_at_builtin;go_loud (refine wpListIn_append_src _ rfl _ _ 22 rfl wq.heap.size 30 i0 (.agg #[.string ByteArray.empty,.string ByteArray.empty]) 2 32 Tryz.underlying22 hi hz0 hz1 hz2 rfl (by decide) v1 k _ rfl hown3 _ 1 [.string f,.string d] rfl HN1.out (one_pairM (f,d)) (by unfold maxLen;omega) (by omega) hN3 ?_;intro v2 w4 hown4 hgrow4))
         have hB4:=grow_belowM HB3.out hN3 hown3 hgrow4
         have hN4:=hB4.size
         have HB4:=Lib.hid hB4
         have HS2:=Lib.hid (HSB.out w4 hB4)
         clear hgrow4 hB4
         refine stage_post (isSame_below HB4.out (fun k hk=>hk)) ?_
         refine stage_one 14 (by kernel_rfl) rfl ?_
         gi_wp2_with (gi_at_builtin;go_loud (refine wpListIn_append_src _ rfl _ _ 22 rfl wq.heap.size 30 i0 (.agg #[.string ByteArray.empty,.string ByteArray.empty]) 2 32 Tryz.underlying22 hi hz0 hz1 hz2 rfl (by decide) v2 (k+1) _ rfl hown4 _ _ _ rfl HS2.out (one_cellsM _) (by unfold maxLen;omega) (by omega) hN4 ?_;intro v3 w5 hown5 hgrow5))
         have HB5:=Lib.hid (grow_belowM HB4.out hN4 hown4 hgrow5)
         obtain ⟨A6,c6,rfl⟩:=slice_shape hown5
         have HF5:=Lib.hid (HQ.out.new (x:=(f,d)) HXI.out HINS.out hk HSX.out HB5.out (by first|exact hown5|(rw [HZ.out,HD2.out];exact hown5)))
         clear hown5 hgrow5 hown4 hown3
         refine stage_post (isSame_below HB5.out (fun k hk=>hk)) ?_
         refine stage_one 15 (by kernel_rfl) rfl ?_
         gi_wp2
         refine stage_last rfl ?_
         refine stage_done (by kernel_rfl) ?_
         gi_wp2
         go_roundw
         case rel=>exact ⟨i+1,A6,c6,_,HLT.out.1,(by first|exact HEL.out _ _|rw [← HEL.out,HZ.out]),by go_num,Lib.hid (by first|(rw [← HEL.out];exact HF5.out)|(rw [← HEL.out,HZ.out];exact HF5.out))⟩
         case measure=>have:=HLT.out.1;simp [intOf];omega
       ·gi_wp2
        refine stage_post (isSame_below (Below.alloc (below_drewM wq) (Nat.le_refl _) _) (fun k hk=>hk)) ?_
        refine stage_one 0 (by kernel_rfl) rfl ?_
        gi_wp2
        refine stage_post (isSame_below (Below.alloc (Below.alloc (below_drewM wq) (Nat.le_refl _) (.cells #[.string f,.string d] 30)) (by simp) _) (fun k hk=>hk)) ?_
        refine stage_one 4 (by kernel_rfl) rfl ?_
        have ho0:((wq.drew.alloc (.cells #[.string f,.string d] 30)).alloc (.cells #[] 30)).ownsRow wq.heap.size 30 2 (.slice (some ⟨wq.heap.size+1,0,none⟩) 0 0) 0 []:=own_atM (Nat.le_succ _) (two_cur wq.drew _ _)
        have hB0:Below wq.heap.size wq ((wq.drew.alloc (.cells #[.string f,.string d] 30)).alloc (.cells #[] 30)):=Below.alloc (Below.alloc (below_drewM wq) (Nat.le_refl _) _) (by simp) _
        have HS1:=Lib.hid (HSA.out _ hB0)
        gi_wp2_with (gi_at_builtin;go_loud (refine wpListIn_append_src _ rfl _ _ 22 rfl wq.heap.size 30 i0 (.agg #[.string ByteArray.empty,.string ByteArray.empty]) 2 32 Tryz.underlying22 hi hz0 hz1 hz2 rfl (by decide) (.slice (some ⟨wq.heap.size+1,0,none⟩) 0 0) 0 [] rfl ho0 _ k (cellsM (a.take k)) rfl HS1.out (one_cellsM _) (by unfold maxLen;omega) (by omega) hB0.size ?_;intro v1 w3 hown2 hgrow3))
        rw [Nat.zero_add,List.nil_append] at hown2
        have hB3:=grow_belowM hB0 hB0.size ho0 hgrow3
        have h57:=(hgrow3.block wq.heap.size (by simp;omega) (by simp [Value.ownBlock])).trans (two_old wq.drew (.cells #[.string f,.string d] 30) (.cells #[] 30))
        have hown3:=hown2
        clear hgrow3 hown2 ho0 hB0
        have hN3:wq.heap.size≤w3.heap.size:=hB3.size
        have HN1:=Lib.hid (srcM_one (x:=(f,d)) h57)
        have HB3:=Lib.hid hB3
        clear h57
        refine stage_post (isSame_below HB3.out (fun k hk=>hk)) ?_
        refine stage_one 10 (by kernel_rfl) rfl ?_
        gi_wp2_with (gi_at_builtin;go_loud (refine wpListIn_append_src _ rfl _ _ 22 rfl wq.heap.size 30 i0 (.agg #[.string ByteArray.empty,.string ByteArray.empty]) 2 32 Tryz.underlying22 hi hz0 hz1 hz2 rfl (by decide) v1 k _ rfl hown3 _ 1 [.string f,.string d] rfl HN1.out (one_pairM (f,d)) (by unfold maxLen;omega) (by omega) hN3 ?_;intro v2 w4 hown4 hgrow4))
        have hB4:=grow_belowM HB3.out hN3 hown3 hgrow4
        have hN4:=hB4.size
        have HB4:=Lib.hid hB4
        have HS2:=Lib.hid (HSB.out w4 hB4)
        clear hgrow4 hB4
        refine stage_post (isSame_below HB4.out (fun k hk=>hk)) ?_
        refine stage_one 14 (by kernel_rfl) rfl ?_
        gi_wp2_with (gi_at_builtin;go_loud (refine wpListIn_append_src _ rfl _ _ 22 rfl wq.heap.size 30 i0 (.agg #[.string ByteArray.empty,.string ByteArray.empty]) 2 32 Tryz.underlying22 hi hz0 hz1 hz2 rfl (by decide) v2 (k+1) _ rfl hown4 _ _ _ rfl HS2.out (one_cellsM _) (by unfold maxLen;omega) (by omega) hN4 ?_;intro v3 w5 hown5 hgrow5))
        have HB5:=Lib.hid (grow_belowM HB4.out hN4 hown4 hgrow5)
        obtain ⟨A6,c6,rfl⟩:=slice_shape hown5
        have HF5:=Lib.hid (HQ.out.new (x:=(f,d)) HXI.out HINS.out hk HSX.out HB5.out (by first|exact hown5|(rw [HZ.out,HD2.out];exact hown5)))
        clear hown5 hgrow5 hown4 hown3
        refine stage_post (isSame_below HB5.out (fun k hk=>hk)) ?_
        refine stage_one 15 (by kernel_rfl) rfl ?_
        gi_wp2
        refine stage_last rfl ?_
        refine stage_done (by kernel_rfl) ?_
        gi_wp2
        go_roundw
        case rel=>exact ⟨i+1,A6,c6,_,HLT.out.1,(by first|exact HEL.out _ _|rw [← HEL.out,HZ.out]),by go_num,Lib.hid (by first|(rw [← HEL.out];exact HF5.out)|(rw [← HEL.out,HZ.out];exact HF5.out))⟩
        case measure=>have:=HLT.out.1;simp [intOf];omega
    ·have hka':¬ (k:Int) < (a.length:Int):=by omega
     have hkeq:((k:Int)==(a.length:Int))=true:=by rw [beq_iff_eq];omega
     have HINS:=Lib.hid (show insX a (f,d)=.ok (a.take k++(f,d)::a.drop k) from insX_new hk HLO.out (fun z hz=>by rw [List.getElem?_eq_none (by omega)] at hz;cases hz))
     gi_wp2
     gi_quiet (fail)
     have HQ1:=Lib.hid (HQ0.out.later (below_drewN' (Below.refl _ _) nq))
     generalize wr.drewN nq=w1 at *
     clear HQ0 HXC0 nq
     gi_wp2
     gi_quiet (fail)
     have HQ:=Lib.hid (HQ1.out.later (below_drewN' (Below.refl _ _) nq))
     generalize w1.drewN nq=wq at *
     clear HQ1 nq
     have HXC:=Lib.hid (HV.out.cell2 HQ.out.nw.below HXI.out)
     dsimp only at HXC
     have HEL:=Lib.hid (show ∀ (A:Option Addr) c,(Value.slice A (k+1+(a.length - k)) c)=.slice A (a.take k++(f,d)::a.drop k).length c from fun A c=>by congr 1;simp;omega)
     have HD2:=Lib.hid (show cellsM (a.drop k)=[] by rw [List.drop_of_length_le (by omega)];rfl)
     have HZ:=Lib.hid (show a.length - k=0 by omega)
     have hi3':(k:Int)≤(a.length:Int):=by omega
     rcases HQ.out.cap with ⟨rfl,rfl,e0⟩|⟨g,rfl,hcl1,hcl2⟩
     have e1:a.length=0:=by rw [e0];rfl
     have HKZ:=Lib.hid (show k=0 by omega)
     have HSA:=Lib.hid (show ∀ W,Below wq.heap.size wq W→Src W 2 (.slice none k 0) k (cellsM (a.take k)) from fun W hB=>by rw [HKZ.out];exact srcM_zero)
     have HSB:=Lib.hid (show ∀ W,Below wq.heap.size wq W→Src W 2 (.slice none (a.length - k) 0) (a.length - k) (cellsM (a.drop k)) from fun W hB=>by rw [HD2.out,HZ.out];exact srcM_zero)
     have hi2:(k:Int)≤((0:Nat):Int):=by have:=HKZ.out;omega
     clear e0 e1
     rotate_left
     have HSA:=Lib.hid (show ∀ W,Below wq.heap.size wq W→Src W 2 (.slice (some ⟨g,0,none⟩) k cc) k (cellsM (a.take k)) from fun W hB=>srcM_take HQ.out.own hB hk)
     have hi2:(k:Int)≤(cc:Int):=by omega
     by_cases hck:cc=k
     have HSB:=Lib.hid (show ∀ W,Below wq.heap.size wq W→Src W 2 (.slice (some ⟨g,0,none⟩) 0 0) 0 (cellsM []) from fun W hB=>srcM_zero)
     have hck2:=hck.symm
     clear hck
     subst hck2
     rotate_left
     have HSB:=Lib.hid (show ∀ W,Below wq.heap.size wq W→Src W 2 (.slice (some ⟨g,k*2,none⟩) (a.length - k) (cc - k)) (a.length - k) (cellsM (a.drop k)) from fun W hB=>by rw [HD2.out,HZ.out];exact srcM_zero)
     have hc0:cc≠0:=by omega
     rotate_left
     all_goals
      obtain ⟨hbq,q0,q1⟩:=HXC.out
      have xi0:∀ x:SameAt wq (fun k=>k < wq.heap.size),x.W.cell? ⟨b,o+i*2,none⟩=some (.string f):=fun x=>x.cell hbq q0
      have xi1:∀ x:SameAt wq (fun k=>k < wq.heap.size),x.W.cell? ⟨b,o+i*2+1,none⟩=some (.string d):=fun x=>x.cell hbq q1
      gi_wp2
      refine wpIn_stage (IsSame wq (fun k=>k < wq.heap.size)) [1,2,3,5,6,7,8,11,12,13] [15] hmx (by kernel_rfl) (isSame_of fun _ _=>rfl) ?_
      change wpStage _ _ _ _ _ _ _ _ (6+10) _ _ _
      refine stage_reads [1,2,3,5,6,7,8,11,12,13] 6 _ _ (by kernel_rfl) ?_
      change wpQuietIn _ _ _ _ (fun W'=>∃ x:SameAt wq (fun k=>k < wq.heap.size),W'=x.W) _ _ _
      simp only [pick_cons,pick_nil,List.getElem?_cons_zero,List.getElem?_cons_succ,Option.elim_some]
      repeat (gi_big_quiet_step (fail))
      refine wpQuietIn_nil ?_
      clear xi0 xi1 q0 q1 hbq
      refine stage_two 0 9 (by kernel_rfl) rfl rfl ?_ ?_
      ·gi_wp2
       refine stage_post (isSame_below (Below.alloc (below_drewM wq) (Nat.le_refl _) _) (fun k hk=>hk)) ?_
       refine stage_two 4 9 (by kernel_rfl) rfl rfl ?_ ?_
       ·have ho0:(wq.drew.alloc (.cells #[] 30)).ownsRow wq.heap.size 30 2 (.slice (some ⟨wq.heap.size,0,none⟩) 0 0) 0 []:=own_atM (Nat.le_refl _) (heap_alloc_new wq.drew _)
        have hB0:Below wq.heap.size wq (wq.drew.alloc (.cells #[] 30)):=Below.alloc (below_drewM wq) (Nat.le_refl _) _
        have HS1:=Lib.hid (HSA.out _ hB0)
        gi_wp2_with (gi_at_builtin;go_loud (refine wpListIn_append_src _ rfl _ _ 22 rfl wq.heap.size 30 i0 (.agg #[.string ByteArray.empty,.string ByteArray.empty]) 2 32 Tryz.underlying22 hi hz0 hz1 hz2 rfl (by decide) (.slice (some ⟨wq.heap.size,0,none⟩) 0 0) 0 [] rfl ho0 _ k (cellsM (a.take k)) rfl HS1.out (one_cellsM _) (by unfold maxLen;omega) (by omega) hB0.size ?_;intro v1 w3 hown2 hgrow3))
        rw [Nat.zero_add,List.nil_append] at hown2
        have hB2:=grow_belowM hB0 hB0.size ho0 hgrow3
        refine stage_post (isSame_below hB2 (fun k hk=>hk)) ?_
        refine stage_one 9 (by kernel_rfl) rfl ?_
        gi_wp2
        have hB3:Below wq.heap.size wq (w3.alloc (.cells #[.string f,.string d] 30)):=hB2.alloc hB2.size _
        have hown3:=World.ownsRow.alloc hown2 (.cells #[.string f,.string d] 30)
        have h57:(w3.alloc (.cells #[.string f,.string d] 30)).heap[w3.heap.size]?=some (.cells #[.string f,.string d] 30 (0,0)):=heap_alloc_new w3 _
        clear hown2 hgrow3 hB2 ho0 hB0
        generalize w3.alloc (.cells #[.string f,.string d] 30)=W3 at *
        have hN3:wq.heap.size≤W3.heap.size:=hB3.size
        have HN1:=Lib.hid (srcM_one (x:=(f,d)) h57)
        have HB3:=Lib.hid hB3
        clear h57
        refine stage_post (isSame_below HB3.out (fun k hk=>hk)) ?_
        refine stage_one 10 (by kernel_rfl) rfl ?_
        gi_wp2_with (gi_at_builtin;go_loud (refine wpListIn_append_src _ rfl _ _ 22 rfl wq.heap.size 30 i0 (.agg #[.string ByteArray.empty,.string ByteArray.empty]) 2 32 Tryz.underlying22 hi hz0 hz1 hz2 rfl (by decide) v1 k _ rfl hown3 _ 1 [.string f,.string d] rfl HN1.out (one_pairM (f,d)) (by unfold maxLen;omega) (by omega) hN3 ?_;intro v2 w4 hown4 hgrow4))
        have hB4:=grow_belowM HB3.out hN3 hown3 hgrow4
        have hN4:=hB4.size
        have HB4:=Lib.hid hB4
        have HS2:=Lib.hid (HSB.out w4 hB4)
        clear hgrow4 hB4
        refine stage_post (isSame_below HB4.out (fun k hk=>hk)) ?_
        refine stage_one 14 (by kernel_rfl) rfl ?_
        gi_wp2_with (gi_at_builtin;go_loud (refine wpListIn_append_src _ rfl _ _ 22 rfl wq.heap.size 30 i0 (.agg #[.string ByteArray.empty,.string ByteArray.empty]) 2 32 Tryz.underlying22 hi hz0 hz1 hz2 rfl (by decide) v2 (k+1) _ rfl hown4 _ _ _ rfl HS2.out (one_cellsM _) (by unfold maxLen;omega) (by omega) hN4 ?_;intro v3 w5 hown5 hgrow5))
        have HB5:=Lib.hid (grow_belowM HB4.out hN4 hown4 hgrow5)
        obtain ⟨A6,c6,rfl⟩:=slice_shape hown5
        have HF5:=Lib.hid (HQ.out.new (x:=(f,d)) HXI.out HINS.out hk HSX.out HB5.out (by first|exact hown5|(rw [HZ.out,HD2.out];exact hown5)))
        clear hown5 hgrow5 hown4 hown3
        refine stage_post (isSame_below HB5.out (fun k hk=>hk)) ?_
        refine stage_one 15 (by kernel_rfl) rfl ?_
        gi_wp2
        refine stage_last rfl ?_
        refine stage_done (by kernel_rfl) ?_
        gi_wp2
        go_roundw
        case rel=>exact ⟨i+1,A6,c6,_,HLT.out.1,(by first|exact HEL.out _ _|rw [← HEL.out,HZ.out]),by go_num,Lib.hid (by first|(rw [← HEL.out];exact HF5.out)|(rw [← HEL.out,HZ.out];exact HF5.out))⟩
        case measure=>have:=HLT.out.1;simp [intOf];omega
       ·gi_wp2
        refine stage_post (isSame_below (Below.alloc (Below.alloc (below_drewM wq) (Nat.le_refl _) (.cells #[] 30)) (by simp) _) (fun k hk=>hk)) ?_
        refine stage_one 4 (by kernel_rfl) rfl ?_
        have ho0:((wq.drew.alloc (.cells #[] 30)).alloc (.cells #[.string f,.string d] 30)).ownsRow wq.heap.size 30 2 (.slice (some ⟨wq.heap.size,0,none⟩) 0 0) 0 []:=own_atM (Nat.le_refl _) (two_old wq.drew _ _)
        have hB0:Below wq.heap.size wq ((wq.drew.alloc (.cells #[] 30)).alloc (.cells #[.string f,.string d] 30)):=Below.alloc (Below.alloc (below_drewM wq) (Nat.le_refl _) _) (by simp) _
        have HS1:=Lib.hid (HSA.out _ hB0)
        gi_wp2_with (gi_at_builtin;go_loud (refine wpListIn_append_src _ rfl _ _ 22 rfl wq.heap.size 30 i0 (.agg #[.string ByteArray.empty,.string ByteArray.empty]) 2 32 Tryz.underlying22 hi hz0 hz1 hz2 rfl (by decide) (.slice (some ⟨wq.heap.size,0,none⟩) 0 0) 0 [] rfl ho0 _ k (cellsM (a.take k)) rfl HS1.out (one_cellsM _) (by unfold maxLen;omega) (by omega) hB0.size ?_;intro v1 w3 hown2 hgrow3))
        rw [Nat.zero_add,List.nil_append] at hown2
        have hB3:=grow_belowM hB0 hB0.size ho0 hgrow3
        have h57:=(hgrow3.block (wq.heap.size+1) (by simp) (by simp [Value.ownBlock])).trans (two_cur wq.drew (.cells #[] 30) (.cells #[.string f,.string d] 30))
        have hown3:=hown2
        clear hgrow3 hown2 ho0 hB0
        have hN3:wq.heap.size≤w3.heap.size:=hB3.size
        have HN1:=Lib.hid (srcM_one (x:=(f,d)) h57)
        have HB3:=Lib.hid hB3
        clear h57
        refine stage_post (isSame_below HB3.out (fun k hk=>hk)) ?_
        refine stage_one 10 (by kernel_rfl) rfl ?_
        gi_wp2_with (gi_at_builtin;go_loud (refine wpListIn_append_src _ rfl _ _ 22 rfl wq.heap.size 30 i0 (.agg #[.string ByteArray.empty,.string ByteArray.empty]) 2 32 Tryz.underlying22 hi hz0 hz1 hz2 rfl (by decide) v1 k _ rfl hown3 _ 1 [.string f,.string d] rfl HN1.out (one_pairM (f,d)) (by unfold maxLen;omega) (by omega) hN3 ?_;intro v2 w4 hown4 hgrow4))
        have hB4:=grow_belowM HB3.out hN3 hown3 hgrow4
        have hN4:=hB4.size
        have HB4:=Lib.hid hB4
        have HS2:=Lib.hid (HSB.out w4 hB4)
        clear hgrow4 hB4
        refine stage_post (isSame_below HB4.out (fun k hk=>hk)) ?_
        refine stage_one 14 (by kernel_rfl) rfl ?_
        gi_wp2_with (gi_at_builtin;go_loud (refine wpListIn_append_src _ rfl _ _ 22 rfl wq.heap.size 30 i0 (.agg #[.string ByteArray.empty,.string ByteArray.empty]) 2 32 Tryz.underlying22 hi hz0 hz1 hz2 rfl (by decide) v2 (k+1) _ rfl hown4 _ _ _ rfl HS2.out (one_cellsM _) (by unfold maxLen;omega) (by omega) hN4 ?_;intro v3 w5 hown5 hgrow5))
        have HB5:=Lib.hid (grow_belowM HB4.out hN4 hown4 hgrow5)
        obtain ⟨A6,c6,rfl⟩:=slice_shape hown5
        have HF5:=Lib.hid (HQ.out.new (x:=(f,d)) HXI.out HINS.out hk HSX.out HB5.out (by first|exact hown5|(rw [HZ.out,HD2.out];exact hown5)))
        clear hown5 hgrow5 hown4 hown3
        refine stage_post (isSame_below HB5.out (fun k hk=>hk)) ?_
        refine stage_one 15 (by kernel_rfl) rfl ?_
        gi_wp2
        refine stage_last rfl ?_
        refine stage_done (by kernel_rfl) ?_
        gi_wp2
        go_roundw
        case rel=>exact ⟨i+1,A6,c6,_,HLT.out.1,(by first|exact HEL.out _ _|rw [← HEL.out,HZ.out]),by go_num,Lib.hid (by first|(rw [← HEL.out];exact HF5.out)|(rw [← HEL.out,HZ.out];exact HF5.out))⟩
        case measure=>have:=HLT.out.1;simp [intOf];omega
      ·gi_wp2
       refine stage_post (isSame_below (Below.alloc (below_drewM wq) (Nat.le_refl _) _) (fun k hk=>hk)) ?_
       refine stage_one 0 (by kernel_rfl) rfl ?_
       gi_wp2
       refine stage_post (isSame_below (Below.alloc (Below.alloc (below_drewM wq) (Nat.le_refl _) (.cells #[.string f,.string d] 30)) (by simp) _) (fun k hk=>hk)) ?_
       refine stage_one 4 (by kernel_rfl) rfl ?_
       have ho0:((wq.drew.alloc (.cells #[.string f,.string d] 30)).alloc (.cells #[] 30)).ownsRow wq.heap.size 30 2 (.slice (some ⟨wq.heap.size+1,0,none⟩) 0 0) 0 []:=own_atM (Nat.le_succ _) (two_cur wq.drew _ _)
       have hB0:Below wq.heap.size wq ((wq.drew.alloc (.cells #[.string f,.string d] 30)).alloc (.cells #[] 30)):=Below.alloc (Below.alloc (below_drewM wq) (Nat.le_refl _) _) (by simp) _
       have HS1:=Lib.hid (HSA.out _ hB0)
       gi_wp2_with (gi_at_builtin;go_loud (refine wpListIn_append_src _ rfl _ _ 22 rfl wq.heap.size 30 i0 (.agg #[.string ByteArray.empty,.string ByteArray.empty]) 2 32 Tryz.underlying22 hi hz0 hz1 hz2 rfl (by decide) (.slice (some ⟨wq.heap.size+1,0,none⟩) 0 0) 0 [] rfl ho0 _ k (cellsM (a.take k)) rfl HS1.out (one_cellsM _) (by unfold maxLen;omega) (by omega) hB0.size ?_;intro v1 w3 hown2 hgrow3))
       rw [Nat.zero_add,List.nil_append] at hown2
       have hB3:=grow_belowM hB0 hB0.size ho0 hgrow3
       have h57:=(hgrow3.block wq.heap.size (by simp;omega) (by simp [Value.ownBlock])).trans (two_old wq.drew (.cells #[.string f,.string d] 30) (.cells #[] 30))
       have hown3:=hown2
       clear hgrow3 hown2 ho0 hB0
       have hN3:wq.heap.size≤w3.heap.size:=hB3.size
       have HN1:=Lib.hid (srcM_one (x:=(f,d)) h57)
       have HB3:=Lib.hid hB3
       clear h57
       refine stage_post (isSame_below HB3.out (fun k hk=>hk)) ?_
       refine stage_one 10 (by kernel_rfl) rfl ?_
       gi_wp2_with (gi_at_builtin;go_loud (refine wpListIn_append_src _ rfl _ _ 22 rfl wq.heap.size 30 i0 (.agg #[.string ByteArray.empty,.string ByteArray.empty]) 2 32 Tryz.underlying22 hi hz0 hz1 hz2 rfl (by decide) v1 k _ rfl hown3 _ 1 [.string f,.string d] rfl HN1.out (one_pairM (f,d)) (by unfold maxLen;omega) (by omega) hN3 ?_;intro v2 w4 hown4 hgrow4))
       have hB4:=grow_belowM HB3.out hN3 hown3 hgrow4
       have hN4:=hB4.size
       have HB4:=Lib.hid hB4
       have HS2:=Lib.hid (HSB.out w4 hB4)
       clear hgrow4 hB4
       refine stage_post (isSame_below HB4.out (fun k hk=>hk)) ?_
       refine stage_one 14 (by kernel_rfl) rfl ?_
       gi_wp2_with (gi_at_builtin;go_loud (refine wpListIn_append_src _ rfl _ _ 22 rfl wq.heap.size 30 i0 (.agg #[.string ByteArray.empty,.string ByteArray.empty]) 2 32 Tryz.underlying22 hi hz0 hz1 hz2 rfl (by decide) v2 (k+1) _ rfl hown4 _ _ _ rfl HS2.out (one_cellsM _) (by unfold maxLen;omega) (by omega) hN4 ?_;intro v3 w5 hown5 hgrow5))
       have HB5:=Lib.hid (grow_belowM HB4.out hN4 hown4 hgrow5)
       obtain ⟨A6,c6,rfl⟩:=slice_shape hown5
       have HF5:=Lib.hid (HQ.out.new (x:=(f,d)) HXI.out HINS.out hk HSX.out HB5.out (by first|exact hown5|(rw [HZ.out,HD2.out];exact hown5)))
       clear hown5 hgrow5 hown4 hown3
       refine stage_post (isSame_below HB5.out (fun k hk=>hk)) ?_
       refine stage_one 15 (by kernel_rfl) rfl ?_
       gi_wp2
       refine stage_last rfl ?_
       refine stage_done (by kernel_rfl) ?_
       gi_wp2
       go_roundw
       case rel=>exact ⟨i+1,A6,c6,_,HLT.out.1,(by first|exact HEL.out _ _|rw [← HEL.out,HZ.out]),by go_num,Lib.hid (by first|(rw [← HEL.out];exact HF5.out)|(rw [← HEL.out,HZ.out];exact HF5.out))⟩
       case measure=>have:=HLT.out.1;simp [intOf];omega
  ·have hlt':¬ (i:Int) < (ls.length:Int):=by omega
   have HR:=Lib.hid (show mk=.ok (keepX a) by
    have:=HI.out.coll
    rw [List.drop_of_length_le (by omega)] at this
    rw [← HMK.out]
    exact collK_ok this)
   have HWS:=Lib.hid HI.out.nw.below.size
   clear hlt
   gi_wp2
   gi_loopw [9,10] (fun v9 v10 wq=>∃ (k:Nat) (A1:Option Addr) (c1:Nat),k≤a.length∧v9=.slice A1 (keepX (a.take k)).length c1∧v10=.int .i64 (k:Int)∧Hid (OwnM wo.heap.size wq (.slice A1 (keepX (a.take k)).length c1) (keepX (a.take k)))∧Hid (Below wo.heap.size wo wq)) (fun _ v10 _=>a.length - (intOf v10).toNat)
   case atStart=>exact ⟨0,none,0,Nat.zero_le _,rfl,rfl,Lib.hid (OwnM.nil _ _),Lib.hid (Below.refl _ _)⟩
   case round =>
    obtain ⟨k,A1,c1,hk,rfl,rfl,HO,HB⟩:=hrel
    by_cases hka:k < a.length
    ·obtain ⟨y,hy⟩:∃ y,a[k]?=some y:=⟨_,List.getElem?_eq_getElem hka⟩
     have hka2:(k:Int) < (a.length:Int):=by omega
     obtain ⟨g,rfl,hgb,p0,p1⟩:=(HI.out.later HB.out).at hy
     have HKS:=Lib.hid (keepX_snoc hy)
     have HKA:=Lib.hid hka
     have HLK:=Lib.hid (show (keepX (a.take k)).length≤1000 by unfold keepX;have:=List.length_filter_le (fun x:L2=>decide (x.2≠zT)) (a.take k);rw [List.length_take] at this;omega)
     obtain ⟨yf,yd⟩:=y
     dsimp only at p0 p1 HKS
     have TE:=eq_bytes yd zT
     rw [zT_list] at TE
     clear hy hka
     by_cases he:yd=zT
     ·rw [decide_eq_true he] at TE
      rw [if_pos he] at HKS
      clear he
      gi_wp2
      go_roundw
      case rel=>exact ⟨k+1,A1,c1,HKA.out,by rw [HKS.out],by go_num,by rw [HKS.out];exact HO,HB⟩
      case measure=>have:=HKA.out;simp [intOf];omega
     ·rw [decide_eq_false he] at TE
      rw [if_neg he] at HKS
      have HN:=Lib.hid (show ∀ (A:Option Addr) c,(Value.slice A ((keepX (a.take k)).length+1) c)=.slice A (keepX (a.take (k+1))).length c from fun A c=>by rw [HKS.out];simp)
      clear he
      have HO1:=Lib.hid (OwnM.later HO.out (below_alloc (Below.refl _ _) (.cells #[.string yf,.string yd] 30)))
      have HB1:=Lib.hid (below_alloc2 HB.out HB.out.size (.cells #[.string yf,.string yd] 30))
      have HS1:=Lib.hid (srcM_one (x:=(yf,yd)) (heap_alloc_new wr (.cells #[.string yf,.string yd] 30)))
      have hsz:=HB1.out.size
      gi_wp2_with (gi_at_builtin;go_loud (refine wpListIn_append_src _ rfl _ _ 22 rfl wo.heap.size 30 i0 (.agg #[.string ByteArray.empty,.string ByteArray.empty]) 2 32 Tryz.underlying22 hi hz0 hz1 hz2 rfl (by decide) _ _ _ rfl HO1.out _ 1 [.string yf,.string yd] rfl HS1.out (one_pairM (yf,yd)) (by have:=HLK.out;unfold maxLen;omega) (by have:=HLK.out;omega) hsz ?_;intro v1 w4 hown4 hgrow4;obtain ⟨A6,c6,rfl⟩:=slice_shape hown4;have HB4:=Lib.hid (grow_belowM HB1.out HB1.out.size HO1.out hgrow4);have HO4:=Lib.hid hown4;clear hown4 hgrow4))
      go_roundw
      case rel=>exact ⟨k+1,A6,c6,HKA.out,HN.out _ _,by go_num,Lib.hid (by rw [← HN.out,HKS.out];unfold OwnM;rw [List.length_append,cellsM_append];exact HO4.out),HB4⟩
      case measure=>have:=HKA.out;simp [intOf];omega
    ·have hka2:¬ (k:Int) < (a.length:Int):=by omega
     obtain rfl:k=a.length:=by omega
     clear hka
     rw [List.take_length] at HO ⊢
     gi_wp2
     refine bodyPost_ret (results_tmp2 rfl _ _ _) rfl ?_
     rw [HR.out]
     exact ⟨⟨_,rfl,owns_base HO.out HWS.out⟩,(HI.out.nw.later HB.out).below⟩
end S2
end Go.Proofs.YtigapglmipmbeaaGreatDoor
namespace Go.Proofs.YtigapglmipmbeaaGreatDoor
open Go.RowKit Go.Shelf
open Lim
attribute [local go_sem] Oper.semAt_some
theorem Short.coll:∀ {l a b:List L2},collX a l=.ok b→Short a→Short l→Short b
 | [],a,b,h,ha,_=>by cases h;exact ha
 | x::l,a,b,h,ha,hl=>by
  unfold collX at h
  split at h
  ·cases h
  ·rename_i m hm
   exact Short.coll h (Short.ins hm ha (hl x (by simp))) fun y hy=>hl y (by simp [hy])
theorem Short.keep {a:List L2} (h:Short a):Short (keepX a):=fun x hx=>h x ((List.mem_filter.1 hx).1)
theorem rdmake_any (ls:List L2) (v:Value) (w:World) (hv:LRow w v ls) (hs:Short ls) (hr:Res w) :
  Calls Tryz.prog 26 #[v] w fun e w'=>ResM w.heap.size (makeX ls) e w'∧Below w.heap.size w w':=by
 have HV:=Lib.hid hv
 have HS:=Lib.hid hs
 have HC:=Lib.hid (fun (W:World) (hW:NW w W)=>S2.rdcollect_any ls _ W (hv.below hW.below) hs hW.res)
 obtain ⟨A,c,rfl,HLEN,hcells⟩:=hv
 have H0:=Lib.hid (NW.refl hr)
 clear hr hcells hs
 generalize hm:makeX ls=mk
 have HMK:=Lib.hid hm
 clear hm
 go_enter Tryz.func26,Tryz.ntmps26
 go_wp2
 go_loopw [4] (fun v4 wr=>∃ k:Nat,k≤ls.length∧v4=.int .i64 (k:Int)∧Hid (posL ls=posL (ls.drop k))∧Hid (NW w wr)) (fun v4 _=>ls.length - (intOf v4).toNat)
 case atStart=>exact ⟨0,Nat.zero_le _,rfl,Lib.hid (by simp),H0⟩
 case round =>
  clear H0
  obtain ⟨k,hk,rfl,HE,HN⟩:=hrel
  by_cases hlt:k < ls.length
  ·obtain ⟨x,hx⟩:∃ x,ls[k]?=some x:=⟨_,List.getElem?_eq_getElem hlt⟩
   obtain ⟨b,o,c',e',hb2,c0,c1⟩:=HV.out.at HN.out.below hx
   simp only [Value.slice.injEq,true_and] at e'
   obtain ⟨rfl,rfl⟩:=e'
   have hlt':(k:Int) < (ls.length:Int):=by omega
   have hsx:=(HS.out x (List.mem_of_getElem? hx)).2
   have HD:=Lib.hid (drop_of hx)
   have HLT:=Lib.hid (And.intro hlt hlt')
   obtain ⟨f,d⟩:=x
   dsimp only at c0 c1 HD hsx
   clear hx hlt
   by_cases h0:errQ d.data.toList=0
   ·have HSG:=Lib.hid (retRSign_ok hsx h0)
    by_cases h2:valQ d.data.toList < 0
    ·have d1:decide (sgQ (valQ d.data.toList) < 0)=true:=decide_eq_true ((sg_lt _).2 h2)
     have HR:=Lib.hid (show mk=.error 2 by
      have h1:posE d=2:=by unfold posE;rw [if_neg (by simpa using h0),if_pos h2]
      have h3:posL ls=2:=by rw [HE.out,HD.out,posL_err (x:=(f,d)) (by rw [h1];decide),h1]
      rw [← HMK.out];unfold makeX;rw [if_pos (by rw [h3];decide),h3])
     generalize sgQ (valQ d.data.toList)=sg at *
     clear h0 h2 hsx
     go_wp2_with (go_at_call 110;refine (HSG.out _ HN.out.res).mono ?_;rintro e w3 ⟨rfl,hb⟩;have H3:=Lib.hid (HN.out.later hb);clear hb)
     go_ret2
     rw [HR.out]
     exact ⟨rfl,H3.out.below⟩
    ·have d1:decide (sgQ (valQ d.data.toList) < 0)=false:=decide_eq_false (fun h=>h2 ((sg_lt _).1 h))
     have HR:=Lib.hid (show posL ls=posL (ls.drop (k+1)) by
      rw [HE.out,HD.out]
      exact posL_go (x:=(f,d)) (by show posE d=0;unfold posE;rw [if_neg (by simpa using h0),if_neg h2]))
     generalize sgQ (valQ d.data.toList)=sg at *
     clear h0 h2 hsx
     go_wp2_with (go_at_call 110;refine (HSG.out _ HN.out.res).mono ?_;rintro e w3 ⟨rfl,hb⟩;have H3:=Lib.hid (HN.out.later hb);clear hb)
     go_roundw
     case rel=>exact ⟨k+1,HLT.out.1,by go_num,HR,H3⟩
     case measure=>have:=HLT.out.1;simp [intOf];omega
   ·have HSG:=Lib.hid (retRSign_err hsx h0)
    have HR:=Lib.hid (show mk=.error (errQ d.data.toList) by
     have h3:posL ls=errQ d.data.toList:=by rw [HE.out,HD.out,posL_err (x:=(f,d)) (by show posE d≠0;rw [posE_err h0];exact h0)];exact posE_err h0
     rw [← HMK.out];unfold makeX;rw [if_pos (by rw [h3];exact h0),h3])
    have hm:=ne_zero h0
    have hm2:=ne_zero2 h0
    clear h0 hsx
    go_wp2_with (go_at_call 110;refine (HSG.out _ HN.out.res).mono ?_;rintro e w3 ⟨rfl,hb⟩;have H3:=Lib.hid (HN.out.later hb);clear hb)
    go_ret2
    rw [HR.out]
    exact ⟨rfl,H3.out.below⟩
  ·have hlt':¬ (k:Int) < (ls.length:Int):=by omega
   have h0:posL ls=0:=by
    have:=HE.out
    rw [List.drop_of_length_le (by omega)] at this
    exact this
   have HMK2:mk=(match collX [] ls with|.error n=>.error n|.ok a=>doneX a):=by
    rw [← HMK.out]
    unfold makeX
    rw [if_neg (by simpa using h0)]
    rfl
   clear hlt HMK HE h0
   cases hc:collX [] ls with
   | error n =>
    rw [hc] at HMK2
    have HCC:=Lib.hid (HC.out wr HN.out)
    rw [collK_err hc] at HCC
    change Hid (Calls _ _ _ _ fun e w'=>e=.returned (.tuple #[.slice none 0 0,.int .i64 (n:Int)])∧_) at HCC
    have hm:=ne_zero (collX_ne hc)
    have hm2:=ne_zero2 (collX_ne hc)
    have HR:=Lib.hid (show mk=.error n from HMK2)
    clear hc HMK2
    go_wp2_with (go_at_call 111;refine HCC.out.mono ?_;rintro e w3 ⟨rfl,hb⟩;have H3:=Lib.hid (HN.out.later hb);clear hb)
    go_ret2
    rw [HR.out]
    exact ⟨rfl,H3.out.below⟩
   | ok a =>
    rw [hc] at HMK2
    have HCC:=Lib.hid (HC.out wr HN.out)
    rw [collK_ok hc] at HCC
    change Hid (Calls _ _ _ _ fun e w'=>(∃ u,e=.returned (.tuple #[u,.int .i64 0])∧OwnM wr.heap.size w' u (keepX a))∧_) at HCC
    have hl:(keepX a).length≤1000:=by
     have h1:=collX_len hc
     have h2:=List.length_filter_le (fun x:L2=>decide (x.2≠zT)) a
     unfold keepX
     simp at h1
     omega
    have HCK:=Lib.hid (fun (W:World) (u:Value) (ho:OwnM wr.heap.size W u (keepX a)) (hr:Res W)=>rdcheck_any (keepX a) u W (ho.row hl) (Short.coll hc (fun x h=>by cases h) HS.out).keep hr)
    have HWR:=Lib.hid HN.out.below.size
    change mk=doneX a at HMK2
    unfold doneX at HMK2
    have TK0:True:=trivial
    have TK1:True:=trivial
    clear hc hl
    by_cases hz:chkD (keepX a)=0
    ·have HR:=Lib.hid (show mk=.ok (keepX a) by rw [HMK2,if_neg (by simpa using hz)])
     rw [hz] at HCK
     clear hz HMK2
     go_wp2_with (first
      | (clear TK0;go_at_call 111;refine HCC.out.mono ?_;rintro e w3 ⟨⟨u,rfl,ho⟩,hb⟩;have H3:=Lib.hid (HN.out.later hb);have HO3:=Lib.hid ho;clear hb ho)
      | (clear TK1;go_at_call 37;refine (HCK.out _ _ HO3.out H3.out.res).mono ?_;rintro e w4 ⟨rfl,hb⟩;have H4:=Lib.hid (H3.out.later hb);have HO4:=Lib.hid (HO3.out.later hb);clear hb))
     go_ret2
     rw [HR.out]
     exact ⟨⟨_,rfl,owns_base HO4.out HWR.out⟩,H4.out.below⟩
    ·have HR:=Lib.hid (show mk=.error (chkD (keepX a)) by rw [HMK2,if_pos hz])
     have hm:=ne_zero hz
     have hm2:=ne_zero2 hz
     generalize chkD (keepX a)=n at *
     clear hz HMK2
     go_wp2_with (first
      | (clear TK0;go_at_call 111;refine HCC.out.mono ?_;rintro e w3 ⟨⟨u,rfl,ho⟩,hb⟩;have H3:=Lib.hid (HN.out.later hb);have HO3:=Lib.hid ho;clear hb ho)
      | (clear TK1;go_at_call 37;refine (HCK.out _ _ HO3.out H3.out.res).mono ?_;rintro e w4 ⟨rfl,hb⟩;have H4:=Lib.hid (H3.out.later hb);clear hb))
     go_ret2
     rw [HR.out]
     exact ⟨rfl,H4.out.below⟩
end Go.Proofs.YtigapglmipmbeaaGreatDoor
namespace Go.Proofs.YtigapglmipmbeaaGreatDoor
open Go.RowKit Go.Shelf
open Lim
section
variable {P:Program} {id:Nat} {Q:Exit→Act→World→Prop} {a:Act} {w0:World} {l:List Oper}
end
theorem LaterW.step {w0:World} (z:LaterW w0) {W:World} (hb:Below z.W.heap.size z.W W):∃ x:LaterW w0,W=x.W:=⟨⟨W,z.h.trans (hb.mono z.h.size)⟩,rfl⟩
theorem LLRow.nth {w:World} {bb j:Nat} {outs:List (List L2)} {l:List L2} (hbb:bb < w.heap.size) (h:∀ (j:Nat) (ls:List L2),outs[j]?=some ls→∃ u,w.cell? ⟨bb,j,none⟩=some u∧LRowW w u ls) (hj:outs[j]?=some l) :
  ∃ A c,(∀ z:LaterW w,z.W.cell? ⟨bb,j,none⟩=some (.slice A l.length c))∧∀ z:LaterW w,LRowW z.W (.slice A l.length c) l:=by
 obtain ⟨u,h1,h2⟩:=h j l hj
 obtain ⟨A,c,rfl,_,_⟩:=id h2
 exact ⟨A,c,fun z=>(z.h.cell (p:=⟨bb,j,none⟩) hbb).trans h1,fun z=>h2.below z.h⟩
end Go.Proofs.YtigapglmipmbeaaGreatDoor
namespace Go.Proofs.YtigapglmipmbeaaGreatDoor
open Go.RowKit Go.Shelf
end Go.Proofs.YtigapglmipmbeaaGreatDoor
namespace Go.Proofs.YtigapglmipmbeaaGreatDoor
open Go.RowKit Go.Shelf
open Lim
section
variable {c:CT} {m:Nat→Rat} {k:Nat}
theorem mtoW (hc:CIs c m) (sm:SzC k m) (hk:k≤1900) {F:ByteArray} {f:Rat} (hF:IsT F f) (sf:Sz 12 f) (h1:1≤f) {i:Nat} (hi:i < 7):Ret 53 #[cv c,.int .i64 ((i:Int)+2),.string F] (.tuple #[.agg #[.string F,.string (rT (toM m f i))],.int .i64 0]):=fun w hr=>by
 have mx:∀ {j:Nat} {q:Rat},Sz j q→j≤4000→IsT (rT q) q:=fun h hj=>isT_rT (fits_sz.2 (h.mono hj))
 have f0:=ne_of_one h1
 have z1:((((i+1:Nat):Int)):Rat)≠0:=fun h=>by have:=Rat.intCast_inj.1 (h.trans (show (0:Rat)=((0:Int):Rat) from rfl));omega
 have z2:((((i+2:Nat):Int)):Rat)≠0:=fun h=>by have:=Rat.intCast_inj.1 (h.trans (show (0:Rat)=((0:Int):Rat) from rfl));omega
 have iA:IsT (rT (shA i)) (shA i):=mx (sz_shA hi) (by omega)
 have iB:IsT (rT (shB i)) (shB i):=mx (sz_shB hi) (by omega)
 have iS:IsT (rT (shM i)) (shM i):=mx (sz_shM hi) (by omega)
 have iP:IsT (rT (pwM f i)) (pwM f i):=mx (sz_pwM sf hi) (by omega)
 have iU:IsT (rT (m i*shM i)) (m i*shM i):=mx (sz_mM sm hi) (by omega)
 have iX:IsT (rT (xM m f i)) (xM m f i):=mx (sz_xM sm sf hi) (by omega)
 have iN:IsT (rT (f+1)) (f+1):=mx (sz_next sf) (by omega)
 have iL:IsT (rT (lateM m f)) (lateM m f):=mx (sz_lateM sm sf) (by omega)
 have iD:IsT (rT (dM m f i)) (dM m f i):=mx (sz_dM sm sf hi) (by omega)
 exact mto_ok c i hi F hF.size hc.err hF.err (by rw [hF.val,cmpQ_lt];exact Rat.not_lt.2 h1) _ _ _ _ _ _ _ _ _ _ _ _
  (Lib.hid (retInt (i+1) (by omega))) (Lib.hid (retInt (i+2) (by omega)))
  (Lib.hid (isPow (isT_int (by omega)) z1 iA (by omega) (by omega))) (Lib.hid (isPow (isT_int (by omega)) z2 iB (by omega) (by omega)))
  (Lib.hid (isDiv iA iB iS (shB_ne hi))) (Lib.hid (isPow hF f0 iP (by omega) (by omega))) (Lib.hid (isMul (hc.t i (by omega)) iS iU)) (Lib.hid (isDiv iU iP iX (by have:=pwM_pos h1 i;grind)))
  (Lib.hid (isAdd hF IsT.one iN)) (Lib.hid (isMul iN (hc.t 7 (by omega)) iL)) (Lib.hid (isAdd iX iL iD)) (Lib.hid (isMin1 iD)) w hc.sm hr
end
structure Made10 (l:List L2):Prop where
 len:l.length≤6
 key:∀ x∈l,x.1.size≤12
 txt:∀ x∈l,x.2.size≤12
 dst:Dst 73 l
theorem Made10.short {l:List L2} (h:Made10 l):Short l:=fun x hx=>⟨Nat.le_trans (h.key x hx) (by omega),Nat.le_trans (h.txt x hx) (by omega)⟩
theorem Made10.sz {l:List L2} (h:Made10 l):∀ x∈l,Sz 12 (valX x):=fun x hx=>sz_of_text (h.dst.okV x hx) (k:=12) (by rw [← size_list];exact h.txt x hx)
theorem Made10.of {lss outs:List (List L2)} (h:madeD 6 12 12 lss=some outs):outs.length=lss.length∧∀ d∈outs,Made10 d:=by
 obtain ⟨h1,h2⟩:=madeD_spec h
 refine ⟨h1,fun d hd=>?_⟩
 obtain ⟨h3,h4⟩:=h2 d hd
 obtain ⟨l1,l2⟩:=lightD_iff.1 h3
 exact ⟨l1,fun x hx=>(l2 x hx).1,fun x hx=>(l2 x hx).2,h4⟩
theorem mfactor_text {f:ByteArray} (h:mfactorB f=true):∃ F:Rat,f=rT F∧1≤F∧Sz 12 F∧fits F=true:=by
 obtain ⟨h1,h2,h3⟩:=mfactor_ok h
 have hs:=sz_of_text h2 (k:=12) (by rw [← size_list];exact h1)
 exact ⟨_,(IsT.of h2).1,h3,hs,fits_sz.2 (hs.mono (by unfold maxD;omega))⟩
def momX (p q:List L2) (i:Nat):Rat:=momD (valsD p) (valsD q) (i+1)
theorem mom_at {p q:List L2} (hp:Made10 p) (hq:Made10 q) (hin:inX p q=true) (i:Nat) (hi:i < 7):momV p q ((i:Int)+2)=.tuple #[.string (rT (momX p q i)),.bool true,.int .i64 0]∧Sz 1200 (momX p q i)∧1≤momX p q i:=by
 obtain ⟨r1,r2⟩:=mom10 (n:=i+1) (K:=1200) (by omega) hp.dst hq.dst hp.len hq.len hp.sz hq.sz (by omega) hin
 have e:((i+1+1:Nat):Int)=(i:Int)+2:=by omega
 rw [e] at r1
 refine ⟨r1,r2,mom_one hp.dst.isD hq.dst.isD (fun e he=>?_) (i+1)⟩
 rw [keys_vals]
 obtain ⟨z,hz,rfl⟩:=List.mem_map.1 he
 exact inX_iff.1 hin z hz
theorem momd_all {p q:List L2} {F:Rat} (hp:Made10 p) (hq:Made10 q) (h1:inX p q=true) (h2:inX q p=true) (F1:1≤F) (sF:Sz 12 F) :
  CIs (txt (curM (momX p q) (momX q p))) (curM (momX p q) (momX q p))∧SzC 1200 (curM (momX p q) (momX q p)) ∧
   ∀ i,i < 7→holdsR (rT F) (rT (toM (curM (momX p q) (momX q p)) F i)) p q=.ok true∧fits (toM (curM (momX p q) (momX q p)) F i)=true:=by
 have F0:0≤F:=Rat.le_trans (by decide) F1
 have e7:curM (momX p q) (momX q p) 7=0:=if_pos rfl
 have ei:∀ i,i < 7→curM (momX p q) (momX q p) i=maxQ (momX p q i) (momX q p i):=fun i hi=>if_neg (by omega)
 have hs:SzC 1200 (curM (momX p q) (momX q p)):=fun i hi=>by
  by_cases h:i=7
  ·subst h;rw [e7];exact Sz.zero.mono (by omega)
  ·rw [ei i (by omega)];exact sz_max (mom_at hp hq h1 i (by omega)).2.1 (mom_at hq hp h2 i (by omega)).2.1
 have hc:CIs (txt (curM (momX p q) (momX q p))) (curM (momX p q) (momX q p)):=CIs.mk' hs (by unfold maxD;omega)
  (fun i hi=>by rw [ei i hi];exact Rat.le_trans (mom_at hp hq h1 i hi).2.2 (le_maxQ _ _).1) (by rw [e7];exact Rat.le_refl) (by rw [e7];decide)
 refine ⟨hc,hs,fun i hi=>?_⟩
 have sd:=sz_toM hs sF hi
 have fd:fits (toM (curM (momX p q) (momX q p)) F i)=true:=fits_sz.2 (sd.mono (by unfold maxD;omega))
 have hco:0≤shM i*(pwM F i)⁻¹:=Rat.mul_nonneg (Rat.le_of_lt (shM_pos hi)) (Rat.le_of_lt (Rat.inv_pos.2 (pwM_pos F1 i)))
 have hd:dM (curM (momX p q) (momX q p)) F i=maxQ (momX p q i) (momX q p i)*shM i*(pwM F i)⁻¹:=by
  unfold dM xM lateM
  rw [e7,ei i hi]
  grind
 have a1:=mom_delta hp.dst hq.dst h1 F1 i
 have a2:=mom_delta hq.dst hp.dst h2 F1 i
 have b1:=Rat.mul_le_mul_of_nonneg_right (le_maxQ (momX p q i) (momX q p i)).1 hco
 have b2:=Rat.mul_le_mul_of_nonneg_right (le_maxQ (momX p q i) (momX q p i)).2 hco
 have k1:deltaD (valsD p) (valsD q) F≤dM (curM (momX p q) (momX q p)) F i:=by
  rw [hd]
  change _≤momX p q i*shM i*(pwM F i)⁻¹ at a1
  grind
 have k2:deltaD (valsD q) (valsD p) F≤dM (curM (momX p q) (momX q p)) F i:=by
  rw [hd]
  change _≤momX q p i*shM i*(pwM F i)⁻¹ at a2
  grind
 exact ⟨holdsR_ok (j:=12) hp.dst hq.dst F1 sF (by unfold maxD;omega) (toM_zero hc F1 hi) (toM_top _ _ _) fd (by unfold maxD;omega) (by omega)
  (le_minQ k1 (delta_top hp.dst.isD hq.dst.isD F0)) (le_minQ k2 (delta_top hq.dst.isD hp.dst.isD F0)),fd⟩
end Go.Proofs.YtigapglmipmbeaaGreatDoor
namespace Go.Proofs.YtigapglmipmbeaaGreatDoor
open Lim
section
variable {l m:List L2} (hl:Dst 385 l) (hm:Dst 385 m)
include hl hm
end
end Go.Proofs.YtigapglmipmbeaaGreatDoor
namespace Go.Proofs.YtigapglmipmbeaaGreatDoor
open Go.RowKit Go.Shelf
open Lim
attribute [local go_sem] Oper.semAt_some
theorem LRow.src {w:World} {b o n c:Nat} {ls:List L2} (h:LRow w (.slice (some ⟨b,o,none⟩) n c) ls) (h0:0 < ls.length):∀ j u,(cellsM ls)[j]?=some u→w.cell? ((⟨b,o,none⟩:Addr).add j)=some u:=by
 obtain ⟨A,c',e,_,hc⟩:=h
 simp only [Value.slice.injEq] at e
 obtain ⟨b',o',e2,_,hcell⟩:=hc h0
 rw [← e.1] at e2
 simp only [Option.some.injEq,Addr.mk.injEq] at e2
 obtain ⟨rfl,rfl,_⟩:=e2
 intro j u hu
 have hj:j < ls.length*2:=by rw [← cellsM_length];exact (List.getElem?_eq_some_iff.1 hu).1
 obtain ⟨x,hx⟩:∃ x,ls[j / 2]?=some x:=⟨_,List.getElem?_eq_getElem (by omega)⟩
 obtain ⟨c0,c1⟩:=hcell _ _ hx
 obtain ⟨m0,m1⟩:=cellsM_at hx
 rw [addr_add0]
 rcases Nat.mod_two_eq_zero_or_one j with h|h
 ·rw [show j / 2*2=j by omega] at c0 m0
  rw [m0] at hu;cases hu;exact c0
 ·rw [show o+j / 2*2+1=o+j by omega] at c1
  rw [show j / 2*2+1=j by omega] at m1
  rw [m1] at hu;cases hu;exact c1
theorem OwnM.ofPos {base:Nat} {w:World} {v:Value} {ls:List L2} (h:OwnM base w v ls) (h0:0 < ls.length):∃ g c,v=.slice (some ⟨g,0,none⟩) ls.length c∧base≤g:=by
 rcases h.2 with ⟨_,e⟩|⟨g,cap,cur,e,hb,_⟩
 ·omega
 ·exact ⟨g,cap,e,hb⟩
theorem OwnM.len {base g n c:Nat} {w:World} {ls:List L2} (h:OwnM base w (.slice (some ⟨g,0,none⟩) n c) ls):n=ls.length:=by
 rcases h.2 with ⟨h',_⟩|⟨g',cap',cur,h',_⟩
 ·simp at h'
 ·simp only [Value.slice.injEq] at h';exact h'.2.1
theorem cellsM_set1:∀ {l:List L2} {k:Nat} {y:L2} (s:ByteArray),l[k]?=some y→cellsM (l.set k (s,y.2))=(cellsM l).set (k*2) (.string s)
 | [],k,y,s,h=>by simp at h
 | x::l,0,y,s,h=>by
  simp only [List.getElem?_cons_zero,Option.some.injEq] at h
  subst h
  rfl
 | x::l,k+1,y,s,h=>by
  rw [List.set_cons_succ,cellsM_cons,cellsM_cons,cellsM_set1 s (by simpa using h),show (k+1)*2=k*2+1+1 by omega,List.set_cons_succ,List.set_cons_succ]
end Go.Proofs.YtigapglmipmbeaaGreatDoor
namespace Go.Proofs.YtigapglmipmbeaaGreatDoor
open Go.RowKit Go.Shelf
end Go.Proofs.YtigapglmipmbeaaGreatDoor
namespace Go.Proofs.YtigapglmipmbeaaGreatDoor
open Go.RowKit Go.Shelf
open Lim
attribute [local go_sem] Oper.semAt_some
def LaterW.lift {w0:World} (z:LaterW w0) (z':LaterW z.W):LaterW w0:=⟨z'.W,z.h.trans (z'.h.mono z.h.size)⟩
end Go.Proofs.YtigapglmipmbeaaGreatDoor
namespace Go.Proofs.YtigapglmipmbeaaGreatDoor
open Go.RowKit Go.Shelf
open Lim
theorem wpIn_region_wide {F:Fence} {n:Nat} {P:Program} {id:Nat} {Q:Exit→Act→World→Prop} {a:Act} {w0:World} {l:List Oper} (x:LaterW w0) (hro:F.round=none) (hm:P.follows .mixedOrders=true) (hB:Region.lexB .any l.toArray=true)
  (h:wpQuietIn F n P l.toArray (fun W=>∃ x:LaterW w0,W=x.W) (fun a'=>∀ W,(∃ x:LaterW w0,W=x.W)→Q .normal a' W) l a):(Code.region id l.toArray true).wpIn F n P Q a x.W :=
 wpIn_region_quiet (C:=fun W=>∃ x:LaterW w0,W=x.W) hro hm hB ⟨⟨{ x.W with drawn:=x.W.drawn+1 },x.h.trans ⟨rfl,rfl,rfl,Nat.le_refl _,fun _ _=>rfl⟩⟩,rfl⟩ (by simpa using h)
end Go.Proofs.YtigapglmipmbeaaGreatDoor
