/- Curves of moments in plain rationals: what Check, Of, Add, Fits, To and Best compute. moment.least, between and the chain's steps, where nothing fails. moment.Check. moment.Check: the walk. moment.both and Add. moment.Add: the walk (printed by mkmadd.py). moment.None. The reference's rational numbers: Reduce, Negative, Over, Times, Plus (printed by mkrq.py). The reference's Negative (printed by mkrqn.py). -/
import Derived.Test.YtigapglmipmbeaaGreatDoorLwMomentPure10
import Derived.Test.YtigapglmipmbeaaGreatDoorLwMomentPure08
import Derived.ArgAppend
import Derived.Deep.AppendLies
set_option maxRecDepth 100000
set_option maxHeartbeats 16000000
namespace Go.Proofs.YtigapglmipmbeaaGreatDoor
open Go.RowKit Go.Shelf
open Lim
abbrev CQ:=List Rat × Rat
def firstQ:List ByteArray→Nat
 | []=>0
 | a::l=>if errQ a.data.toList≠0 then errQ a.data.toList else firstQ l
def errU (l:ByteArray):Nat:=if cmpQ (valQ l.data.toList) 0 < 0∨cmpQ (valQ l.data.toList) 1 > 0 then 2 else 0
def lowQ (ms:List ByteArray):Bool:=ms.any fun m=>decide (cmpQ (valQ m.data.toList) 1 < 0)
def errC (ms:List ByteArray) (l:ByteArray):Nat :=
 if firstQ (ms++[l])≠0 then firstQ (ms++[l]) else if lowQ ms then 2 else errU l
theorem firstQ_zero {L:List ByteArray}:firstQ L=0↔∀ a∈L,errQ a.data.toList=0:=by
 induction L with
 | nil=>simp [firstQ]
 | cons a L ih =>
  unfold firstQ
  by_cases h:errQ a.data.toList=0
  ·rw [if_neg (by omega),ih];simp [h]
  ·rw [if_pos h];simp [h]
theorem errU_zero {l:ByteArray}:errU l=0↔0≤valQ l.data.toList∧valQ l.data.toList≤1:=by
 have a1:=cmpQ_lt (valQ l.data.toList) 0
 have a2:=cmpQ_gt (valQ l.data.toList) 1
 unfold errU
 split
 ·rename_i h
  constructor
  ·intro h2;cases h2
  ·intro h2
   rcases h with h|h
   ·have:=a1.1 h;grind
   ·have:=a2.1 h;grind
 ·rename_i h
  constructor
  ·intro _
   exact ⟨Rat.not_lt.1 (fun h2=>h (.inl (a1.2 h2))),Rat.not_lt.1 (fun h2=>h (.inr (a2.2 h2)))⟩
  ·intro _;rfl
theorem lowQ_false {ms:List ByteArray}:lowQ ms=false↔∀ m∈ms,1≤valQ m.data.toList:=by
 unfold lowQ
 rw [List.any_eq_false]
 constructor
 ·intro h m hm
  have:=h m hm
  rw [decide_eq_true_iff,cmpQ_lt] at this
  exact Rat.not_lt.1 this
 ·intro h m hm
  rw [decide_eq_true_iff,cmpQ_lt]
  exact Rat.not_lt.2 (h m hm)
structure CurveIs (ms:List ByteArray) (l:ByteArray) (c:CQ):Prop where
 len:ms.length=7
 same:c.1.length=7
 m:∀ (i:Nat) a q,ms[i]?=some a→c.1[i]?=some q→IsT a q∧1≤q
 l:IsT l c.2
 zero:0≤c.2
 top:c.2≤1
structure OkC (c:CQ):Prop where
 len:c.1.length=7
 m:∀ q∈c.1,fits q=true∧1≤q
 l:fits c.2=true
 zero:0≤c.2
 top:c.2≤1
def valC (ms:List ByteArray) (l:ByteArray):CQ:=(ms.map fun m=>valQ m.data.toList,valQ l.data.toList)
theorem errC_zero {ms:List ByteArray} {l:ByteArray} (hl:ms.length=7) (h:errC ms l=0):CurveIs ms l (valC ms l):=by
 unfold errC at h
 by_cases h1:firstQ (ms++[l])=0
 ·rw [if_neg (by omega)] at h
  have h1':=firstQ_zero.1 h1
  by_cases h2:lowQ ms=true
  ·rw [if_pos h2] at h;cases h
  ·rw [if_neg h2] at h
   have h2':=lowQ_false.1 (by simpa using h2)
   have h3:=errU_zero.1 h
   refine ⟨hl,by simpa [valC] using hl,?_,IsT.of (h1' l (by simp)),h3.1,h3.2⟩
   intro i a q ha hq
   unfold valC at hq
   rw [List.getElem?_map,ha] at hq
   cases hq
   have hm:=List.mem_of_getElem? ha
   exact ⟨IsT.of (h1' a (by simp [hm])),h2' a hm⟩
 ·rw [if_pos h1] at h;exact absurd h h1
theorem CurveIs.ok {ms:List ByteArray} {l:ByteArray} {c:CQ} (h:CurveIs ms l c):OkC c:=by
 refine ⟨h.same,fun q hq=>?_,h.l.fits,h.zero,h.top⟩
 obtain ⟨i,hi⟩:=List.getElem?_of_mem hq
 have hlt:i < ms.length:=by
  have:=(List.getElem?_eq_some_iff.1 hi).1
  have:=h.len;have:=h.same
  omega
 have:=h.m i _ q (List.getElem?_eq_getElem hlt) hi
 exact ⟨this.1.fits,this.2⟩
theorem CurveIs.texts {ms:List ByteArray} {l:ByteArray} {c:CQ} (h:CurveIs ms l c):ms=c.1.map rT∧l=rT c.2:=by
 refine ⟨?_,h.l.text⟩
 apply List.ext_getElem?
 intro i
 rw [List.getElem?_map]
 by_cases hi:i < 7
 ·have h1:i < ms.length:=by rw [h.len];exact hi
  have h2:i < c.1.length:=by rw [h.same];exact hi
  rw [List.getElem?_eq_getElem h1,List.getElem?_eq_getElem h2]
  have:=h.m i _ _ (List.getElem?_eq_getElem h1) (List.getElem?_eq_getElem h2)
  rw [this.1.text]
  rfl
 ·rw [List.getElem?_eq_none (by rw [h.len];omega),List.getElem?_eq_none (by rw [h.same];omega)]
  rfl
theorem CurveIs.err {ms:List ByteArray} {l:ByteArray} {c:CQ} (h:CurveIs ms l c):errC ms l=0:=by
 have hm:∀ a∈ms,errQ a.data.toList=0∧1≤valQ a.data.toList:=by
  intro a ha
  obtain ⟨i,hi⟩:=List.getElem?_of_mem ha
  have hlt:i < c.1.length:=by
   have:=(List.getElem?_eq_some_iff.1 hi).1
   have:=h.len;have:=h.same
   omega
  have:=h.m i a _ hi (List.getElem?_eq_getElem hlt)
  exact ⟨this.1.err,by rw [this.1.val];exact this.2⟩
 have h1:firstQ (ms++[l])=0:=by
  rw [firstQ_zero]
  intro a ha
  rcases List.mem_append.1 ha with h2|h2
  ·exact (hm a h2).1
  ·rw [List.mem_singleton.1 h2];exact h.l.err
 unfold errC
 rw [if_neg (by omega),lowQ_false.2 (fun a ha=>(hm a ha).2),if_neg (by decide)]
 exact errU_zero.2 (by rw [h.l.val];exact ⟨h.zero,h.top⟩)
theorem set_same {w:World} {g:Nat} {t:TypeId} {v:Value} (h:Blk w g t #[v]):w.setCell ⟨g,0,none⟩ v=w:=by
 have h2:(w.setCell ⟨g,0,none⟩ v).heap=w.heap:=by
  apply Array.ext_getElem?
  intro i
  by_cases e:i=g
  ·subst e
   have h1:Blk (w.setCell ⟨i,0,none⟩ v) i t #[v]:=h.set_ 0 v
   exact Eq.trans h1 (Eq.symm h)
  ·exact Below.heap_setCell w ⟨g,0,none⟩ v i e
 obtain ⟨heap,tape,drawn,os,output⟩:=w
 unfold World.setCell at h2 ⊢
 dsimp only at h2 ⊢
 rw [h2]
theorem mleast_any {a:ByteArray} {p:Rat} (w:World) (ha:IsT a p) (hr:Res w) :
  Calls Tryz.prog 139 #[.string a] w fun e w'=>e=.returned (.bool (decide (0≤cmpQ p 1)))∧Below w.heap.size w w':=by
 have HC:=Lib.hid (cmpT w ha IsT.one rfl hr)
 generalize cmpQ p 1=k at HC ⊢
 clear ha hr
 go_enter Tryz.func139,Tryz.ntmps139
 go_wp2_with (go_at_call 116;refine HC.out.mono ?_;rintro e w1 ⟨rfl,hb1⟩;have HB:=Lib.hid hb1;clear hb1)
 go_ret
 exact ⟨rfl,HB.out⟩
theorem sgQ_cmp (p:Rat):sgQ p < 0↔cmpQ p 0 < 0:=by
 have e1:cmpQ p 0 < 0↔p.num < 0:=by
  rw [cmpQ_cross,show (0:Rat).num=0 from rfl,show (0:Rat).den=1 from rfl]
  simp only [Int.zero_mul,Int.natCast_one,Int.mul_one]
  split
  ·rename_i h;exact ⟨fun _=>h,fun _=>by omega⟩
  ·rename_i h
   constructor
   ·intro h2;split at h2<;>omega
   ·intro h2;exact absurd h2 h
 rw [e1]
 unfold sgQ nm ng
 by_cases h0:p.num=0
 ·rw [h0];simp
 ·rw [if_neg (by omega)]
  by_cases h:p.num < 0
  ·rw [decide_eq_true h];simp [h]
  ·rw [decide_eq_false h];simp [h]
theorem between_any {a:ByteArray} {p:Rat} (w:World) (ha:IsT a p) (hr:Res w) :
  Calls Tryz.prog 158 #[.string a] w fun e w'=>e=.returned (.int .i64 (errU a:Int))∧Below w.heap.size w w':=by
 have HS:=Lib.hid (ratSign_any a w ha.size hr)
 have HC:=Lib.hid (fun w hr=>cmpT w ha IsT.one rfl hr)
 have HR:=Lib.hid hr
 unfold oneI at HS
 rw [if_neg (by rw [ha.err];decide)] at HS
 have e0:errU a=if sgQ p < 0∨cmpQ p 1 > 0 then 2 else 0:=by
  unfold errU
  rw [ha.val]
  simp only [sgQ_cmp]
 rw [ha.val] at HS
 rw [e0]
 unfold resI at HS
 dsimp only at HS
 rw [show (((0:Nat):Int))=0 from rfl] at HS
 generalize cmpQ p 1=k at *
 generalize sgQ p=s at *
 clear ha hr e0
 by_cases h1:s < 0
 ·rw [if_pos (.inl h1)]
  have d1:decide (s < 0)=true:=decide_eq_true h1
  clear h1
  go_enter Tryz.func158,Tryz.ntmps158
  go_wp2_with (first
   | (go_at_call 187;refine HS.out.mono ?_;rintro e w1 ⟨rfl,hb⟩;have HB1:=Lib.hid hb;have HR1:=Lib.hid (HR.out.below hb);clear hb)
   | (go_at_call 116;refine (HC.out _ HR1.out).mono ?_;rintro e w2 ⟨rfl,hb⟩;have HB2:=Lib.hid (HB1.out.trans (hb.mono HB1.out.size));clear hb))
  go_ret
  exact ⟨rfl,HB2.out⟩
 ·have d1:decide (s < 0)=false:=decide_eq_false h1
  by_cases h2:0 < k
  ·rw [if_pos (.inr h2)]
   have d2:decide (0 < k)=true:=decide_eq_true h2
   clear h1 h2
   go_enter Tryz.func158,Tryz.ntmps158
   go_wp2_with (first
    | (go_at_call 187;refine HS.out.mono ?_;rintro e w1 ⟨rfl,hb⟩;have HB1:=Lib.hid hb;have HR1:=Lib.hid (HR.out.below hb);clear hb)
    | (go_at_call 116;refine (HC.out _ HR1.out).mono ?_;rintro e w2 ⟨rfl,hb⟩;have HB2:=Lib.hid (HB1.out.trans (hb.mono HB1.out.size));clear hb))
   go_ret
   exact ⟨rfl,HB2.out⟩
  ·rw [if_neg (by rintro (h|h);exact h1 h;exact h2 h)]
   have d2:decide (0 < k)=false:=decide_eq_false h2
   clear h1 h2
   go_enter Tryz.func158,Tryz.ntmps158
   go_wp2_with (first
    | (go_at_call 187;refine HS.out.mono ?_;rintro e w1 ⟨rfl,hb⟩;have HB1:=Lib.hid hb;have HR1:=Lib.hid (HR.out.below hb);clear hb)
    | (go_at_call 116;refine (HC.out _ HR1.out).mono ?_;rintro e w2 ⟨rfl,hb⟩;have HB2:=Lib.hid (HB1.out.trans (hb.mono HB1.out.size));clear hb))
   go_ret
   exact ⟨rfl,HB2.out⟩
def Step (F:FuncId) (a b r:ByteArray):Prop:=∀ w,Res w→Calls Tryz.prog F #[.string a,.string b] w fun e w'=>e=.returned (.tuple #[.string r,.int .i64 0])∧Below w.heap.size w w'
theorem do_ok (F:FuncId) (hrun:Runs F) {a b r:ByteArray} (h:Nat) (w:World) (hk:Blk w h 157 #[.int .i64 0]) (hr:Res w) (hF:Step F a b r) :
  Calls Tryz.prog 140 #[.pointer (some ⟨h,0,none⟩),.func (.func F) #[] #[],.string a,.string b] w fun e w'=>e=.returned (.string r)∧Below w.heap.size w w':=by
 have c0:=cell0 hk
 have HK:=Lib.hid hk
 have HF:=Lib.hid (hF w hr)
 have hrn:=hrun
 unfold Runs at hrn
 clear hk hr hF hrun
 go_enter Tryz.func140,Tryz.ntmps140
 go_wp2
 refine HF.out.mono ?_
 rintro e w1 ⟨rfl,hb⟩
 have HK1:=Lib.hid (HK.out.below hb HK.out.lt)
 have HB:=Lib.hid hb
 have c1:=cell0 HK1.out
 have z1:=HK1.out.frozen 0
 clear hb c0
 go_wp2
 go_ret
 rw [set_same HK1.out]
 exact ⟨rfl,HB.out⟩
theorem pow_ok {a r:ByteArray} {p:Rat} {n:Int} (h:Nat) (w:World) (hk:Blk w h 157 #[.int .i64 0]) (ha:IsT a p) (h0:¬ (n < 0∧p=0)) (hc:IsT r (p ^ n)) (h1:-9223372036854775808≤n) (h2:n≤9223372036854775807) (hr:Res w) :
  Calls Tryz.prog 141 #[.pointer (some ⟨h,0,none⟩),.string a,.int .i64 n] w fun e w'=>e=.returned (.string r)∧Below w.heap.size w w':=by
 have c0:=cell0 hk
 have HK:=Lib.hid hk
 have HF:=Lib.hid (powT w ha h0 hc h1 h2 hr)
 clear hk hr ha h0 hc h1 h2
 go_enter Tryz.func141,Tryz.ntmps141
 go_wp2_with (go_at_call 135;refine HF.out.mono ?_;rintro e w1 ⟨rfl,hb⟩;have HK1:=Lib.hid (HK.out.below hb HK.out.lt);have HB:=Lib.hid hb;have c1:=cell0 HK1.out;have z1:=HK1.out.frozen 0;clear hb c0)
 go_ret
 rw [set_same HK1.out]
 exact ⟨rfl,HB.out⟩
theorem wpListIn_append_grows {F:Fence} {n:Nat} {P:Program} (w:World) {ops:Array Oper} {rest:List Oper} {o:Oper} {a:Act} {Q:Exit→Act→World→Prop}
  (hg:o.guard=none) (s x:Operand) (t:TypeId) (hop:o.op=Op.call { callee:=Callee.builtin Builtin.append,args:=#[s,x],argTypes:=#[t,t] })
  (e:TypeId) (i:TypeInfo) (z:Value) (size bytes:Nat) (h1:P.underlying t=some (.slice e)) (h2:P.info? e=some i) (h3:i.zero=some z) (h4:i.size=size) (h5:i.bytes=bytes) (h6:z.cells.size=size) (h7:0 < size)
  (b:Addr) (k cap:Nat) (olds:List Value) (hs:a.eval s=.slice (some b) k cap) (hlo:olds.length=k*size) (holds:∀ j u,olds[j]?=some u→w.cell? (b.add j)=some u)
  (ad:Addr) (m c:Nat) (news:List Value) (hx:a.eval x=.slice (some ad) m c) (hn:news.length=m*size) (hc:∀ j u,news[j]?=some u→w.cell? (ad.add j)=some u)
  (hfull:cap < k+m) (b1:k+m≤maxLen) (b2:(k+m)*bytes≤140737488355328)
  (hK:∀ v' w',w'.ownsRow w.heap.size e size v' (k+m) (olds++news)→w.grownBy w' none→wpListIn F n P ops Q rest (a.put o.dst v') w') :
  wpListIn F n P ops Q (o::rest) a w:=by
 refine wpListIn_plain hg fun K hK'=>?_
 obtain ⟨v',w',hrun,r1,r2⟩:=run_append_arg_grows (P:=P) w t o.type e i z size bytes h1 h2 h3 h4 h5 h6 h7 b k cap olds hlo holds ad m c news hn hc hfull b1 b2
 unfold Oper.wpIn
 refine ⟨?_,?_⟩
 ·simp [Oper.about,hop,resolve,Target.leads,Sem.run_pure]
 ·rw [Oper.semAt_plain F _ _ (by rw [hop];intro c hc';cases hc')]
  simp [execOp,hop,resolve,invoke,builtin,hs,hx,hrun,Result.andThen]
  exact hK' _ _ (hK v' w' r1 r2)
end Go.Proofs.YtigapglmipmbeaaGreatDoor
namespace Go.Proofs.YtigapglmipmbeaaGreatDoor
open Go.RowKit Go.Shelf
open Lim
attribute [local go_sem] Oper.semAt_some
theorem Tryz.infoN:(Tryz.prog.info? 23).map (fun i=>(i.zero,i.size,i.bytes))=some (some (.string ⟨#[]⟩),1,16):=by kernel_rfl
structure MAt (w:World) (c:CT) (W:World):Prop where
 c:CBlk W w.heap.size c
 e:Blk W (w.heap.size+1) 32 #[.int .i64 0]
 below:Below w.heap.size w W
theorem MAt.later {w W W':World} {c:CT} (h:MAt w c W) (hb:Below W.heap.size W W'):MAt w c W' :=
 ⟨h.c.later hb,h.e.below hb h.e.lt,h.below.trans (hb.mono h.below.size)⟩
theorem MAt.new (w:World) (c:CT):MAt w c ((w.alloc (.cells #[.string (c 0),.string (c 1),.string (c 2),.string (c 3),.string (c 4),.string (c 5),.string (c 6),.string (c 7)] 59)).alloc (.cells #[.int .i64 0] 32)):=by
 have k1:=CBlk.new w c
 have k2:=Blk.new (w.alloc (.cells #[.string (c 0),.string (c 1),.string (c 2),.string (c 3),.string (c 4),.string (c 5),.string (c 6),.string (c 7)] 59)) 32 #[.int .i64 0]
 rw [World.size_alloc] at k2
 exact ⟨k1.alloc _,k2,below_alloc (below_alloc (Below.refl _ _) _) _⟩
def olds7 (c:CT):List Value:=[.string (c 0),.string (c 1),.string (c 2),.string (c 3),.string (c 4),.string (c 5),.string (c 6)]
theorem cells_olds {W:World} {g:Nat} {c:CT} (h:CBlk W g c):∀ j u,(olds7 c)[j]?=some u→W.cell? ((⟨g,0,none⟩:Addr).add j)=some u:=by
 intro j u hj
 have hlt:j < 7:=(List.getElem?_eq_some_iff.1 hj).1
 have e:(⟨g,0,none⟩:Addr).add j=⟨g,j,none⟩:=by unfold Addr.add;split<;>simp_all
 rw [e,h.cell (by omega)]
 match j,hlt,hj with
 | 0,_,hj=>exact hj
 | 1,_,hj=>exact hj
 | 2,_,hj=>exact hj
 | 3,_,hj=>exact hj
 | 4,_,hj=>exact hj
 | 5,_,hj=>exact hj
 | 6,_,hj=>exact hj
theorem cells_one {W:World} {g:Nat} {t:TypeId} {v:Value} (h:Blk W g t #[v]):∀ j u,[v][j]?=some u→W.cell? ((⟨g,0,none⟩:Addr).add j)=some u:=by
 intro j u hj
 have e:(⟨g,0,none⟩:Addr).add j=⟨g,j,none⟩:=by unfold Addr.add;split<;>simp_all
 rw [e,h.cell]
 match j,hj with
 | 0,hj=>exact hj
def RowT (W:World) (g:Nat) (c:CT):Prop:=∀ k,k < 8→W.cell? ⟨g,k,none⟩=some (.string (c k))
theorem rowT_of {W:World} {base e g cap:Nat} {c:CT} (h:W.ownsRow base e 1 (.slice (some ⟨g,0,none⟩) (7+1) cap) (7+1) (olds7 c++[.string (c 7)])):RowT W g c:=by
 intro k hk
 have h2:=h.cells (g:=g) rfl k (.string (c k)) (by
  match k,hk with
  | 0,_=>rfl
  | 1,_=>rfl
  | 2,_=>rfl
  | 3,_=>rfl
  | 4,_=>rfl
  | 5,_=>rfl
  | 6,_=>rfl
  | 7,_=>rfl)
 rwa [show (⟨g,0,none⟩:Addr).add k=⟨g,k,none⟩ by unfold Addr.add;split<;>simp_all] at h2
theorem RowT.later {W W':World} {g:Nat} {c:CT} (h:RowT W g c) (hg:g < W.heap.size) (hb:Below W.heap.size W W'):RowT W' g c:=fun k hk=>(hb.cell (p:=⟨g,k,none⟩) hg).trans (h k hk)
def errCT (c:CT):Nat:=errC [c 0,c 1,c 2,c 3,c 4,c 5,c 6] (c 7)
theorem firstQ_at:∀ {L:List ByteArray} {k:Nat} {x:ByteArray},(∀ j y,j < k→L[j]?=some y→errQ y.data.toList=0)→L[k]?=some x→errQ x.data.toList≠0→firstQ L=errQ x.data.toList
 | [],_,_,_,h,_=>by simp at h
 | a::l,0,x,_,h,hn=>by
  cases h
  unfold firstQ
  rw [if_pos hn]
 | a::l,k+1,x,h0,h,hn=>by
  unfold firstQ
  rw [if_neg (by have:=h0 0 a (by omega) rfl;omega)]
  exact firstQ_at (fun j y hj hy=>h0 (j+1) y (by omega) hy) h hn
theorem eight (c:CT) {k:Nat} (hk:k < 8):[c 0,c 1,c 2,c 3,c 4,c 5,c 6,c 7][k]?=some (c k):=by
 match k,hk with
 | 0,_=>rfl
 | 1,_=>rfl
 | 2,_=>rfl
 | 3,_=>rfl
 | 4,_=>rfl
 | 5,_=>rfl
 | 6,_=>rfl
 | 7,_=>rfl
theorem mem_seven {c:CT} {x:ByteArray} (h:x∈[c 0,c 1,c 2,c 3,c 4,c 5,c 6]):∃ i,i < 7∧x=c i:=by
 simp only [List.mem_cons,List.not_mem_nil,or_false] at h
 rcases h with h|h|h|h|h|h|h
 ·exact ⟨0,by omega,h⟩
 ·exact ⟨1,by omega,h⟩
 ·exact ⟨2,by omega,h⟩
 ·exact ⟨3,by omega,h⟩
 ·exact ⟨4,by omega,h⟩
 ·exact ⟨5,by omega,h⟩
 ·exact ⟨6,by omega,h⟩
theorem seven_mem (c:CT) {i:Nat} (hi:i < 7):c i∈[c 0,c 1,c 2,c 3,c 4,c 5,c 6]:=by
 match i,hi with
 | 0,_=>simp
 | 1,_=>simp
 | 2,_=>simp
 | 3,_=>simp
 | 4,_=>simp
 | 5,_=>simp
 | 6,_=>simp
theorem errCT_first {c:CT} {k:Nat} (hk:k < 8) (h:∀ j,j < k→errQ (c j).data.toList=0) (hn:errQ (c k).data.toList≠0):errCT c=errQ (c k).data.toList:=by
 unfold errCT errC
 have e:firstQ ([c 0,c 1,c 2,c 3,c 4,c 5,c 6]++[c 7])=errQ (c k).data.toList:=firstQ_at (fun j y hj hy=>by
  have h2:=eight c (k:=j) (by omega)
  have h3:y=c j:=Option.some.inj (hy.symm.trans h2)
  rw [h3]
  exact h j hj) (eight c hk) hn
 rw [e,if_pos hn]
theorem first_zero {c:CT} (h:∀ j,j < 8→errQ (c j).data.toList=0):firstQ ([c 0,c 1,c 2,c 3,c 4,c 5,c 6]++[c 7])=0:=by
 rw [firstQ_zero]
 intro a ha
 rcases List.mem_append.1 ha with h1|h1
 ·obtain ⟨i,hi,rfl⟩:=mem_seven h1
  exact h i (by omega)
 ·rw [List.mem_singleton.1 h1]
  exact h 7 (by omega)
theorem errCT_low {c:CT} (h:∀ j,j < 8→errQ (c j).data.toList=0) (hl:∃ i,i < 7∧cmpQ (valQ (c i).data.toList) 1 < 0):errCT c=2:=by
 unfold errCT errC
 obtain ⟨i,hi,hn⟩:=hl
 rw [if_neg (by rw [first_zero h];decide),if_pos]
 unfold lowQ
 rw [List.any_eq_true]
 exact ⟨c i,seven_mem c hi,decide_eq_true hn⟩
theorem errCT_top {c:CT} (h:∀ j,j < 8→errQ (c j).data.toList=0) (hl:∀ i,i < 7→0≤cmpQ (valQ (c i).data.toList) 1):errCT c=errU (c 7):=by
 unfold errCT errC
 rw [if_neg (by rw [first_zero h];decide),if_neg]
 unfold lowQ
 rw [List.any_eq_true]
 rintro ⟨x,hx,hd⟩
 obtain ⟨i,hi,rfl⟩:=mem_seven hx
 have h1:=of_decide_eq_true hd
 have h2:=hl i hi
 omega
theorem leavesM_nil {F:Fence} {n:Nat} {P:Program} {fn:Func} {tmps:Array Value} {R:Ending→World→Prop} {w:World} (h:∃ v,(results fn tmps).run P w=.ok v w∧R (.returned v) w):bodyPostM F n P fn R .ret { tmps:=tmps,defers:=[] } w:=by
 obtain ⟨v,hr,hR⟩:=h
 exact ⟨v,hr,hR⟩
theorem mcheck_walk (c:CT) (w:World) (hs:∀ k,k < 8→(c k).size≤270000) (hr:Res w) :
  Calls Tryz.prog 137 #[.agg #[.string (c 0),.string (c 1),.string (c 2),.string (c 3),.string (c 4),.string (c 5),.string (c 6),.string (c 7)]] w fun e w'=>e=.returned (.int .i64 (errCT c:Int))∧Below w.heap.size w w':=by
 have H:=MAt.new w c
 have HR:=Lib.hid hr
 have HS:=Lib.hid hs
 obtain ⟨i0,hi,hz0,hz1,hz2⟩:=info_parts Tryz.infoN
 clear hr hs
 refine (callsIn_wide (n:=3)).1 ?_
 have h1:1≤3:=by omega
 have hmx:Tryz.prog.follows .mixedOrders=true:=by kernel_rfl
 refine callsIn_of_wp_marks Tryz.func137 rfl trivial ?_ rfl
 simp only [Tryz.ntmps137,List.size_toArray,List.length_cons,List.length_nil,Nat.reduceAdd,Nat.reduceSub,Array.replicate_succ,Array.replicate_zero,List.push_toArray,List.append_toArray,List.nil_append,List.cons_append]
 gi_upto_region 1 with fail
 generalize (w.alloc (.cells #[.string (c 0),.string (c 1),.string (c 2),.string (c 3),.string (c 4),.string (c 5),.string (c 6),.string (c 7)] 59)).alloc (.cells #[.int .i64 0] 32)=W at *
 have hlc:=H.c.lt
 have x7:∀ x:SameAt W (fun k=>k < W.heap.size),x.W.cell? ⟨w.heap.size,7,none⟩=some (.string (c 7)):=fun x=>x.cell hlc (H.c.cell (by omega))
 have HH:=Lib.hid H
 clear H hlc
 refine wpIn_stage (IsSame W (fun k=>k < W.heap.size)) [0,1,2,3,7] [] hmx (by kernel_rfl) (isSame_of fun _ _=>rfl) ?_
 change wpStage _ _ _ _ _ _ _ _ (3+5) _ _ _
 refine stage_reads [0,1,2,3,7] 3 _ _ (by kernel_rfl) ?_
 change wpQuietIn _ _ _ _ (fun W'=>∃ x:SameAt W (fun k=>k < W.heap.size),W'=x.W) _ _ _
 simp only [pick_cons,pick_nil,List.getElem?_cons_zero,List.getElem?_cons_succ,Option.elim_some]
 repeat (gi_big_quiet_step (fail))
 refine wpQuietIn_nil ?_
 refine stage_one 4 (by kernel_rfl) rfl ?_
 gi_wp2
 have HA:=Lib.hid (below_drew (below_alloc (Below.refl W.heap.size W) (.cells #[.string (c 7)] 23)))
 have KA:=Lib.hid (Blk.new W 23 #[.string (c 7)]).drew
 generalize (W.alloc (.cells #[.string (c 7)] 23)).drew=W1 at *
 refine stage_post (isSame_below HA.out (fun k hk=>hk)) ?_
 refine stage_one 5 (by kernel_rfl) rfl ?_
 refine wpListIn_append_grows _ rfl _ _ 178 rfl 23 i0 _ 1 16 Tryz.underlying178 hi hz0 hz1 hz2 rfl (by decide) ⟨w.heap.size,0,none⟩ 7 7 (olds7 c) rfl rfl (cells_olds (HH.out.c.below HA.out HH.out.c.lt)) ⟨W.heap.size,0,none⟩ 1 1 [.string (c 7)] rfl rfl (cells_one KA.out) (by omega) (by unfold maxLen;omega) (by omega) ?_
 intro v2 W2 hown hgrow
 obtain ⟨g2,cap,rfl,-,hlt2⟩:=hown.form (by omega)
 have HB2:=Lib.hid (HA.out.grown hgrow HA.out.size (fun k e=>by cases e))
 have HROW:=Lib.hid (rowT_of hown)
 clear hown hgrow
 gi_wp2
 refine stage_post (isSame_below HB2.out (fun k hk=>hk)) ?_
 refine stage_one 6 (by kernel_rfl) rfl ?_
 gi_wp2
 refine stage_post (isSame_below HB2.out (fun k hk=>hk)) ?_
 refine stage_done (by kernel_rfl) ?_
 have HM:=Lib.hid (HH.out.later HB2.out)
 gi_wp2
 gi_loopw [15] (fun v15 wr=>∃ k:Nat,k≤8∧v15=.int .i64 (k:Int)∧Hid (∀ j,j < k→errQ (c j).data.toList=0)∧Hid (MAt w c wr)∧Hid (RowT wr g2 c∧g2 < wr.heap.size)) (fun v15 _=>8 - (intOf v15).toNat)
 case atStart=>exact ⟨0,by omega,rfl,Lib.hid (fun j h=>absurd h (by omega)),HM,Lib.hid ⟨HROW.out,hlt2⟩⟩
 case round =>
  obtain ⟨k,hk,rfl,HE,HMr,HRr⟩:=hrel
  clear HM HROW hlt2
  have HM:=HMr
  have HRW:=HRr
  clear HMr HRr
  rcases Nat.lt_or_ge k 8 with hlt|hge
  ·have hck:=HRW.out.1 k hlt
   have hlt':(k:Int) < 8:=by omega
   have hF:=ratCheck_any (c k) wr (HS.out k hlt) (HR.out.below HM.out.below)
   by_cases he:errQ (c k).data.toList=0
   ·rw [he] at hF
    have HF:=Lib.hid hF
    have HE1:=Lib.hid he
    clear hF he
    gi_wp2_with (refine ⟨trivial,?_⟩;gi_at_call 138;refine (callsIn_wide.2 HF.out).mono ?_;rintro e w1 ⟨rfl,hb⟩;have HM1:=Lib.hid (HM.out.later hb);have HRW1:=Lib.hid (And.intro (HRW.out.1.later HRW.out.2 hb) (Nat.lt_of_lt_of_le HRW.out.2 hb.size));clear hb)
    go_roundw
    case rel=>exact ⟨k+1,hlt,by go_num,Lib.hid (fun j hj=>by
     rcases Nat.lt_or_ge j k with h|h
     ·exact HE.out j h
     ·obtain rfl:j=k:=by omega
      exact HE1.out),HM1,HRW1⟩
    case measure=>simp [intOf];omega
   ·have HN:=Lib.hid he
    obtain ⟨z,hz⟩:∃ z:Int,(errQ (c k).data.toList:Int)=z:=⟨_,rfl⟩
    rw [hz] at hF
    have hne:(z==0)=false:=by rw [beq_eq_false_iff_ne];omega
    have HZ:=Lib.hid hz
    have HF:=Lib.hid hF
    clear hF he hz
    gi_wp2_with (refine ⟨trivial,?_⟩;gi_at_call 138;refine (callsIn_wide.2 HF.out).mono ?_;rintro e w1 ⟨rfl,hb⟩;have HM1:=Lib.hid (HM.out.later hb);have ce:=cell0 HM1.out.e;have ze:=HM1.out.e.frozen 0;clear hb)
    refine leavesM_nil ?_
    exact ⟨_,run_cell rfl rfl (run_errno (HM1.out.e.set_ 0 (.int .i64 z))),by rw [errCT_first hlt HE.out HN.out,HZ.out],HM1.out.below.setCell (Nat.le_succ _) _⟩
  ·obtain rfl:k=8:=by omega
   obtain ⟨c0,c1,c2,c3,c4,c5,c6,c7⟩:=HM.out.c.cells
   gi_wp2_with (refine ⟨trivial,?_⟩;gi_at_call 151;refine (orders_in Fence.wide 2 trivial rfl c _).mono ?_;rintro e w' ⟨rfl,rfl⟩;clear c0 c1 c2 c3 c4 c5 c6 c7)
   have hbx:=CBlk.new wr c
   have hm:=HM.out.later (below_alloc (Below.refl _ _) (.cells #[.string (c 0),.string (c 1),.string (c 2),.string (c 3),.string (c 4),.string (c 5),.string (c 6),.string (c 7)] 59))
   have hwr:=HM.out.below.size
   have hlc:=HM.out.c.lt
   have hle:=HM.out.e.lt
   generalize wr.alloc (.cells #[.string (c 0),.string (c 1),.string (c 2),.string (c 3),.string (c 4),.string (c 5),.string (c 6),.string (c 7)] 59)=WR at *
   generalize wr.heap.size=gb at *
   have hgb:=hbx.lt
   clear HRW hk
   refine wpIn_range_ord rfl h1 (gf:=230) (lb:=#[.pointer (some ⟨gb,0,none⟩)]) rfl trivial eg_orders
    (orders_seq Fence.wide 2 trivial rfl (by omega) gb c) (fun _=>rfl)
    (fun pre W=>(∀ i∈pre,i < 7→0≤cmpQ (valQ (c i).data.toList) 1)∧CBlk W gb c∧MAt w c W)
    (fun cd pre W=>cd=.ret∧(∃ i,i < 7∧cmpQ (valQ (c i).data.toList) 1 < 0)∧Blk W (w.heap.size+1) 32 #[.int .i64 2]∧Below w.heap.size w W)
    ?hG ?hI ?hIx ⟨(fun _ h=>(by cases h)),hbx,hm⟩ ?round ?done ?stop
   case hG=>rintro pre W ⟨_,h,_⟩;exact h
   case hI =>
    rintro s W W' row ⟨q1,q2,q3⟩ hg hr
    exact ⟨q1,Blk.own_ q2 hg hr,Blk.own_ q3.c hg hr,Blk.own_ q3.e hg hr,below_own_ q3.below (Nat.le_refl _) (by have:=hm.below.size;omega) hg hr⟩
   case hIx =>
    rintro cd s W W' row ⟨q1,q2,q3,q4⟩ hg hr
    exact ⟨q1,q2,Blk.own_ q3 hg hr,below_own_ q4 (Nat.le_refl _) (by have:=hm.below.size;omega) hg hr⟩
   case round =>
    rintro l pre i W K hi hnx hK
    have HNX:=Lib.hid hnx
    clear hnx hbx hm
    gi_wp2
    refine hK _ _ (KeepsOthers.refl _) hi ?_
    clear hK hi
    rintro Wb _ ⟨hp,hbx,hm⟩
    have HT:=IsT.of (HE.out i (by have:=HNX.out.2;omega))
    have HL:=Lib.hid (mleast_any Wb HT (HR.out.below hm.below))
    have HP:=Lib.hid hp
    have HBX:=Lib.hid hbx
    have HMM:=Lib.hid hm
    clear hp hbx hm HT
    generalize hk:cmpQ (valQ (c i).data.toList) 1=k at HL
    have HKK:=Lib.hid hk
    clear hk
    by_cases hge:0≤k
    ·have d1:decide (0≤k)=true:=decide_eq_true hge
     have HGE:=Lib.hid hge
     clear hge
     gi_wp2_with (refine ⟨trivial,?_⟩;gi_at_call 139;refine (CallsIn.inRound l (callsIn_wide.2 HL.out)).mono ?_;rintro e w1 ⟨rfl,hb⟩;have HB1:=Lib.hid hb;clear hb)
     exact ⟨keeps_of_below HB1.out,fun j hj hj7=>by
      rcases List.mem_append.1 hj with h|h
      ·exact HP.out j h hj7
      ·obtain rfl:=List.mem_singleton.1 h
       rw [HKK.out]
       exact HGE.out,HBX.out.later HB1.out,HMM.out.later HB1.out⟩
    ·have d1:decide (0≤k)=false:=decide_eq_false hge
     have HGE:=Lib.hid hge
     clear hge
     gi_wp2_with (refine ⟨trivial,?_⟩;gi_at_call 139;refine (CallsIn.inRound l (callsIn_wide.2 HL.out)).mono ?_;rintro e w1 ⟨rfl,hb⟩;have HB1:=Lib.hid hb;have hm1:=HMM.out.later hb;have ce:=cell0 hm1.e;have ze:=hm1.e.frozen 0;clear hb)
     exact ⟨(keeps_of_below HB1.out).trans (KeepsOthers.setCell _ _ _),rfl,⟨i,HNX.out.2,by rw [HKK.out];have:=HGE.out;omega⟩,hm1.e.set_ 0 (.int .i64 2),hm1.below.setCell (Nat.le_succ _) _⟩
   case done =>
    rintro D ys W hD hS ⟨hp,_,hm⟩ hK
    have c7:=hm.c.cell (k:=7) (by omega)
    have HBW:=Lib.hid (between_any W (IsT.of (HE.out 7 (by omega))) (HR.out.below hm.below))
    have HMM:=Lib.hid hm
    have HKD:=Lib.hid hK
    have HHP:=Lib.hid (show ∀ i,i < 7→0≤cmpQ (valQ (c i).data.toList) 1 from fun i hi=>hp i (by rw [hS];exact List.mem_range.2 hi) hi)
    have hDl:D < W.heap.size:=by
     rcases Nat.lt_or_ge D W.heap.size with h|h
     ·exact h
     ·rw [Array.getElem?_eq_none h] at hK;cases hK
    clear hm hK hp hS
    gi_wp2_with (refine ⟨trivial,?_⟩;gi_at_call 158;refine (callsIn_wide.2 HBW.out).mono ?_;rintro e w1 ⟨rfl,hb⟩;have hm1:=HMM.out.later hb;have ce:=cell0 hm1.e;have ze:=hm1.e.frozen 0;have hK1:=(hb.block D hDl).trans HKD.out;clear hb)
    have hK':=(KeepsOthers.setCell w1 ⟨w.heap.size+1,0,none⟩ (.int .i64 (errU (c 7):Int))).same D _ hK1 rfl
    refine ⟨by simp,.inl ⟨_,_,rfl,run_takeDeferred hK',?_⟩⟩
    have hb3:Blk _ (w.heap.size+1) 32 #[.int .i64 (errU (c 7):Int)]:=(hm1.e.set_ 0 (.int .i64 (errU (c 7):Int))).grown (grownBy_putObj' _ D (.deferred none)) (fun e=>by injection e with e;omega)
    exact ⟨_,run_cell rfl rfl (run_errno hb3),by rw [errCT_top HE.out HHP.out],(hm1.below.setCell (Nat.le_succ _) _).trans (belowK_b (w:=w) (Nat.le_refl _) _ D _ _ (by omega) hK' rfl rfl)⟩
   case stop =>
    rintro D cd pre x' W hD _ ⟨rfl,hex,hb2,hB⟩ hK
    gi_wp2
    refine ⟨by simp,.inl ⟨_,_,rfl,run_takeDeferred hK,?_⟩⟩
    have hb3:Blk _ (w.heap.size+1) 32 #[.int .i64 2]:=hb2.grown (grownBy_putObj' _ D (.deferred none)) (fun e=>by injection e with e;omega)
    exact ⟨_,run_cell rfl rfl (run_errno hb3),by rw [errCT_low HE.out hex];rfl,hB.trans (belowK_b (w:=w) (Nat.le_refl _) W D _ _ (by omega) hK rfl rfl)⟩
abbrev cv (c:CT):Value:=.agg #[.string (c 0),.string (c 1),.string (c 2),.string (c 3),.string (c 4),.string (c 5),.string (c 6),.string (c 7)]
abbrev cvO (c:CT):Obj:=.cells #[.string (c 0),.string (c 1),.string (c 2),.string (c 3),.string (c 4),.string (c 5),.string (c 6),.string (c 7)] 59
def SmC (c:CT):Prop:=∀ k,k < 8→(c k).size≤270000
def errCC (a b:CT):Nat:=if errCT a≠0 then errCT a else errCT b
theorem mboth_any (a b:CT) (w:World) (ha:SmC a) (hb:SmC b) (hr:Res w) :
  Calls Tryz.prog 150 #[cv a,cv b] w fun e w'=>e=.returned (.int .i64 (errCC a b:Int))∧Below w.heap.size w w':=by
 have k1:=(CBlk.new w a).alloc (cvO b)
 have k2:=CBlk.new (w.alloc (cvO a)) b
 rw [World.size_alloc] at k2
 have HB:=Lib.hid (below_alloc (below_alloc (Below.refl w.heap.size w) (cvO a)) (cvO b))
 have HR:=Lib.hid (hr.below HB.out)
 have HA:=Lib.hid (fun (w:World) hr=>mcheck_walk a w ha hr)
 have HC:=Lib.hid (fun (w:World) hr=>mcheck_walk b w hb hr)
 have HK:=Lib.hid (And.intro k1 k2)
 obtain ⟨c0,c1,c2,c3,c4,c5,c6,c7⟩:=k1.cells
 clear k1 k2 hr
 by_cases h0:errCT a=0
 ·have e1:errCC a b=errCT b:=by unfold errCC;rw [if_neg (by omega)]
  rw [e1]
  rw [h0] at HA
  have TK1:True:=trivial
  clear h0 e1 ha hb
  go_enter Tryz.func150,Tryz.ntmps150
  go_wp2_with (first
   | (clear TK1;go_at_call 137;refine (HA.out _ HR.out).mono ?_;rintro e w1 ⟨rfl,hb⟩;have HB1:=Lib.hid (HB.out.trans (hb.mono HB.out.size));have HR1:=Lib.hid (HR.out.below hb);obtain ⟨d0,d1,d2,d3,d4,d5,d6,d7⟩:=(HK.out.2.later hb).cells;clear hb c0 c1 c2 c3 c4 c5 c6 c7)
   | (go_at_call 137;refine (HC.out _ HR1.out).mono ?_;rintro e w2 ⟨rfl,hb⟩;have HB2:=Lib.hid (HB1.out.trans (hb.mono HB1.out.size));clear hb))
  go_ret
  exact ⟨rfl,HB2.out⟩
 ·have e1:errCC a b=errCT a:=by unfold errCC;rw [if_pos h0]
  rw [e1]
  obtain ⟨z,hz⟩:∃ z:Int,(errCT a:Int)=z:=⟨_,rfl⟩
  rw [hz] at HA ⊢
  have hne:(z==0)=false:=by rw [beq_eq_false_iff_ne];omega
  clear h0 e1 hz ha hb
  go_enter Tryz.func150,Tryz.ntmps150
  go_wp2_with (go_at_call 137;refine (HA.out _ HR.out).mono ?_;rintro e w1 ⟨rfl,hb⟩;have HB1:=Lib.hid (HB.out.trans (hb.mono HB.out.size));clear hb)
  go_ret
  exact ⟨rfl,HB1.out⟩
def DoIs (n:Int) (F:FuncId) (a b r:ByteArray):Prop:=∀ (h:Nat) (w:World),Res w→Blk w h 157 #[.int .i64 n]→Calls Tryz.prog 140 #[.pointer (some ⟨h,0,none⟩),.func (.func F) #[] #[],.string a,.string b] w fun e w'=>e=.returned (.string r)∧Below w.heap.size w w'
theorem doIs_ok {F:FuncId} (hrun:Runs F) {a b r:ByteArray} (hF:Step F a b r):DoIs 0 F a b r:=fun h w hr hk=>do_ok F hrun h w hk hr hF
def zC:CT:=fun _=>⟨#[]⟩
def mixC (a r:CT) (m:Nat):CT:=fun k=>if k < m then r k else a k
theorem mixC_zero (a r:CT):mixC a r 0=a:=by funext k;unfold mixC;rw [if_neg (by omega)]
theorem mixC_upd (a r:CT) (m:Nat):upd (mixC a r m) m (r m)=mixC a r (m+1):=by
 funext k
 unfold upd mixC
 by_cases h:k=m
 ·rw [if_pos h,if_pos (by omega),h]
 ·rw [if_neg h]
  by_cases h2:k < m
  ·rw [if_pos h2,if_pos (by omega)]
  ·rw [if_neg h2,if_neg (by omega)]
theorem store8 {W:World} {g:Nat} {z:CT} (c:CT) (h:CBlk W g z):CBlk ((((((((W.setCell ⟨g,0,none⟩ (.string (c 0))).setCell ⟨g,1,none⟩ (.string (c 1))).setCell ⟨g,2,none⟩ (.string (c 2))).setCell ⟨g,3,none⟩ (.string (c 3))).setCell ⟨g,4,none⟩ (.string (c 4))).setCell ⟨g,5,none⟩ (.string (c 5))).setCell ⟨g,6,none⟩ (.string (c 6))).setCell ⟨g,7,none⟩ (.string (c 7))) g c:=by
 have h2:=(((((((h.set_ (k:=0) (by omega) (c 0)).set_ (k:=1) (by omega) (c 1)).set_ (k:=2) (by omega) (c 2)).set_ (k:=3) (by omega) (c 3)).set_ (k:=4) (by omega) (c 4)).set_ (k:=5) (by omega) (c 5)).set_ (k:=6) (by omega) (c 6)).set_ (k:=7) (by omega) (c 7)
 unfold CBlk at h2 ⊢
 exact h2
theorem CBlk.frozens {W:World} {g:Nat} {c:CT} (h:CBlk W g c):W.frozen? ⟨g,0,none⟩=false∧W.frozen? ⟨g,1,none⟩=false∧W.frozen? ⟨g,2,none⟩=false∧W.frozen? ⟨g,3,none⟩=false∧W.frozen? ⟨g,4,none⟩=false∧W.frozen? ⟨g,5,none⟩=false∧W.frozen? ⟨g,6,none⟩=false∧W.frozen? ⟨g,7,none⟩=false :=
 ⟨h.frozen 0,h.frozen 1,h.frozen 2,h.frozen 3,h.frozen 4,h.frozen 5,h.frozen 6,h.frozen 7⟩
def fin8 (W:World) (g:Nat) (c:CT):World:=(((((((W.setCell ⟨g,0,none⟩ (.string (c 0))).setCell ⟨g,1,none⟩ (.string (c 1))).setCell ⟨g,2,none⟩ (.string (c 2))).setCell ⟨g,3,none⟩ (.string (c 3))).setCell ⟨g,4,none⟩ (.string (c 4))).setCell ⟨g,5,none⟩ (.string (c 5))).setCell ⟨g,6,none⟩ (.string (c 6))).setCell ⟨g,7,none⟩ (.string (c 7))
theorem fin8_blk {W:World} {g:Nat} {z:CT} (c:CT) (h:CBlk W g z):CBlk (fin8 W g c) g c:=store8 c h
theorem fin8_keeps (W:World) (g:Nat) (c:CT):KeepsOthers W (fin8 W g c) :=
 (((((((KeepsOthers.setCell _ _ _).trans (KeepsOthers.setCell _ _ _)).trans (KeepsOthers.setCell _ _ _)).trans (KeepsOthers.setCell _ _ _)).trans (KeepsOthers.setCell _ _ _)).trans (KeepsOthers.setCell _ _ _)).trans (KeepsOthers.setCell _ _ _)).trans (KeepsOthers.setCell _ _ _)
theorem fin8_below {B:Nat} {w W:World} {g:Nat} (h:Below B w W) (hg:B≤g) (c:CT):Below B w (fin8 W g c) :=
 (((((((h.setCell (p:=⟨g,0,none⟩) hg _).setCell (p:=⟨g,1,none⟩) hg _).setCell (p:=⟨g,2,none⟩) hg _).setCell (p:=⟨g,3,none⟩) hg _).setCell (p:=⟨g,4,none⟩) hg _).setCell (p:=⟨g,5,none⟩) hg _).setCell (p:=⟨g,6,none⟩) hg _).setCell (p:=⟨g,7,none⟩) hg _
theorem curve_done {F:Fence} {n:Nat} {fn:Func} {tmps:Array Value} {R:Ending→World→Prop} {p u:Tmp} {W w:World} {g D:Nat} {c:CT} (hres:fn.results=#[.cell p 59,.tmp u]) (hp:tmps.getD p undef=.pointer (some ⟨g,0,none⟩)) (hz:CBlk W g c)
  (hD:w.heap.size≤D) (hK:W.heap[D]?=some (.deferred (some []))) (hB:Below w.heap.size w W) (hR:∀ W',Below w.heap.size w W'→R (.returned (.tuple #[cv c,tmps.getD u undef])) W') :
  bodyPostM F n Tryz.prog fn R .ret { tmps:=tmps,defers:=[{ target:=.collected D,args:=#[] }] } W:=by
 refine ⟨by simp,.inl ⟨_,_,rfl,run_takeDeferred hK,?_⟩⟩
 have hb3:CBlk _ g c:=Blk.grown hz (grownBy_putObj' _ D (.deferred none)) (fun e=>by
  injection e with e
  subst e
  unfold CBlk Blk at hz
  rw [hz] at hK
  cases hK)
 exact ⟨_,run_cell_tmp hres hp (load_curve hb3),hR _ (hB.trans (belowK_b (w:=w) (Nat.le_refl _) _ D _ _ hD hK rfl rfl))⟩
theorem curve_end {F:Fence} {n:Nat} {fn:Func} {tmps:Array Value} {R:Ending→World→Prop} {p u:Tmp} {W w:World} {g D:Nat} {z c:CT} (hres:fn.results=#[.cell p 59,.tmp u]) (hp:tmps.getD p undef=.pointer (some ⟨g,0,none⟩)) (hz:CBlk W g z)
  (hD:w.heap.size≤D) (hK:W.heap[D]?=some (.deferred (some []))) (hg:w.heap.size≤g) (hB:Below w.heap.size w W) (hR:∀ W',Below w.heap.size w W'→R (.returned (.tuple #[cv c,tmps.getD u undef])) W') :
  bodyPostM F n Tryz.prog fn R .ret { tmps:=tmps,defers:=[{ target:=.collected D,args:=#[] }] } (fin8 W g c) :=
 curve_done hres hp (fin8_blk c hz) hD ((fin8_keeps W g c).same D _ hK rfl) (fin8_below hB hg c) hR
theorem set_far (W:World) {p:Addr} {k:Nat} (h:k≠p.block) (v:Value):(W.setCell p v).heap[k]?=W.heap[k]?:=Below.heap_setCell W p v k h
end Go.Proofs.YtigapglmipmbeaaGreatDoor
namespace Go.Proofs.YtigapglmipmbeaaGreatDoor
open Go.RowKit Go.Shelf
open Lim
end Go.Proofs.YtigapglmipmbeaaGreatDoor
namespace Go.Proofs.YtigapglmipmbeaaGreatDoor
open Go.RowKit Go.Shelf
open Lim
attribute [local go_sem] Oper.semAt_some
theorem res_rowsQ {w w':World} {n g:Nat} {m:Bool} {A A':Option Addr} {l c l' c':Nat} (h:Blk w g 170 #[.bool m,.slice A l c,.slice A' l' c']) (hb:Below n w w') (hg:g < n) :
  Hid (Blk w' g 170 #[.bool m,.slice A l c,.slice A' l' c'])∧w'.cell? ⟨g,0,none⟩=some (.bool m)∧w'.frozen? ⟨g,0,none⟩=false∧w'.cell? ⟨g,1,none⟩=some (.slice A l c)∧w'.frozen? ⟨g,1,none⟩=false∧w'.cell? ⟨g,2,none⟩=some (.slice A' l' c')∧w'.frozen? ⟨g,2,none⟩=false:=by
 have h':=h.below hb hg
 obtain ⟨r0,s0⟩:=cellrow h' 0 (by simp)
 obtain ⟨r1,s1⟩:=cellrow h' 1 (by simp)
 obtain ⟨r2,s2⟩:=cellrow h' 2 (by simp)
 exact ⟨Lib.hid h',r0,s0,r1,s1,r2,s2⟩
theorem boxq2_res (w:World) (m vn vd m' vn' vd':Value):Blk (((w.alloc (.cells #[m,vn,vd] 170)).alloc (.cells #[m',vn',vd'] 170)).alloc zQ) w.heap.size 170 #[m,vn,vd] ∧
  Blk (((w.alloc (.cells #[m,vn,vd] 170)).alloc (.cells #[m',vn',vd'] 170)).alloc zQ) (w.heap.size+1) 170 #[m',vn',vd'] ∧
  Blk (((w.alloc (.cells #[m,vn,vd] 170)).alloc (.cells #[m',vn',vd'] 170)).alloc zQ) (w.heap.size+1+1) 170 #[.bool false,.slice none 0 0,.slice none 0 0] ∧
  Below w.heap.size w (((w.alloc (.cells #[m,vn,vd] 170)).alloc (.cells #[m',vn',vd'] 170)).alloc zQ)∧(((w.alloc (.cells #[m,vn,vd] 170)).alloc (.cells #[m',vn',vd'] 170)).alloc zQ).heap.size=w.heap.size+3:=by
 refine ⟨((Blk.new w _ _).alloc _).alloc _,?_,?_,(((Below.refl _ _).alloc (Nat.le_refl _) _).alloc (by simp) _).alloc (by simp;omega) _,by simp⟩
 ·have:=(Blk.new (w.alloc (.cells #[m,vn,vd] 170)) 170 #[m',vn',vd']).alloc zQ
  rwa [World.size_alloc] at this
 ·have:=Blk.new ((w.alloc (.cells #[m,vn,vd] 170)).alloc (.cells #[m',vn',vd'] 170)) 170 #[.bool false,.slice none 0 0,.slice none 0 0]
  rwa [World.size_alloc,World.size_alloc] at this
theorem reduce_zero (m:Bool) (n d:Nat) (vn vd:Value) (w:World) (hn:IsNatI w vn n) (hd:IsNatI w vd d) (h0:n=0) :
  Calls Tryz.prog 222 #[.bool m,vn,vd] w fun e w'=>∃ v,e=.returned v∧IsPartsI w' v false 0 1∧Below w.heap.size w w':=by
 obtain ⟨An,cn,rfl,_,_,_⟩:=hn
 obtain ⟨Ad,cd,rfl,_,_,_⟩:=hd
 have hz:(((toL n).length:Int)==0)=true:=by rw [len_zero,decide_eq_true h0]
 have e0:toL 0=[]:=by simp [toL_zero]
 have HB0:=Lib.hid (zq_new w)
 have HBW:=Lib.hid ((Below.refl w.heap.size w).alloc (Nat.le_refl _) zQ)
 clear h0
 go_enter Tryz.func222,Tryz.ntmps222
 go_wp2_with (go_at_call 227;refine (rone_any _).mono ?_;rintro e w1 ⟨v1,rfl,hv1,hb⟩;obtain ⟨A1,c1,rfl,_,_,_⟩:=id hv1;have HV1:=Lib.hid hv1;have HX:=Lib.hid hb;obtain ⟨HB1,r0,s0,r1,s1,r2,s2⟩:=res_rowsQ HB0.out hb (by simp);clear hb hv1)
 refine ret_q rfl rfl (by simp) (set3 HB1.out) ⟨_,rfl,?_,?_⟩
 ·refine ⟨none,0,A1,c1,by rw [e0];rfl,?_,isNatI_set3 HV1.out HB1.out⟩
  rw [e0]
  exact ⟨none,0,by rw [e0],by rw [e0];exact Nat.le_refl _,by decide,fun h=>by rw [e0] at h;exact absurd h (by decide)⟩
 ·exact set3_below (HBW.out.trans (HX.out.mono (by simp))) (Nat.le_refl _)
theorem reduce_some (m:Bool) (n d:Nat) (vn vd:Value) (w:World) (hn:IsNatI w vn n) (hd:IsNatI w vd d) (h0:n≠0) (hln:(toL n).length≤30000) (hld:(toL d).length≤30000) :
  Calls Tryz.prog 222 #[.bool m,vn,vd] w fun e w'=>∃ v,e=.returned v∧IsPartsI w' v m (n / n.gcd d) (d / n.gcd d)∧Below w.heap.size w w':=by
 have HN:=Lib.hid hn
 have HD:=Lib.hid hd
 obtain ⟨An,cn,rfl,_,_,_⟩:=hn
 obtain ⟨Ad,cd,rfl,_,_,_⟩:=hd
 have hz:(((toL n).length:Int)==0)=false:=by rw [len_zero,decide_eq_false h0]
 have HGP:=Lib.hid (show 0 < n.gcd d from Nat.gcd_pos_of_pos_left _ (Nat.pos_of_ne_zero h0))
 have HLG:=Lib.hid (gcd_limbs hln hld)
 have HB0:=Lib.hid (zq_new w)
 have HBW:=Lib.hid ((Below.refl w.heap.size w).alloc (Nat.le_refl _) zQ)
 have TK2:True:=trivial
 clear h0
 go_enter Tryz.func222,Tryz.ntmps222
 go_wp2_with (first
  | (go_at_call 236;refine (rcommon_any n d _ _ _ (HN.out.below HBW.out) (HD.out.below HBW.out) hln hld).mono ?_;rintro e w1 ⟨v1,rfl,hgv,hb⟩;obtain ⟨Ag,cg,rfl,_,_,_⟩:=id hgv;have HG:=Lib.hid hgv;have HX:=Lib.hid (HBW.out.trans (hb.mono (by simp)));have HB1:=Lib.hid (HB0.out.below hb HB0.out.lt);clear hb hgv)
  | (clear TK2;go_at_call 268;refine (rdivide_any n (n.gcd d) _ _ _ (HN.out.below HX.out) HG.out hln HLG.out HGP.out).mono ?_;rintro e w3 ⟨vq3,vr3,rfl,hq3,hr3,hb3⟩;obtain ⟨Aq3,cq3,rfl,_,_,_⟩:=id hq3;have HQ3:=Lib.hid hq3;have HX3:=Lib.hid hb3;have HB3:=Lib.hid (HB1.out.below hb3 HB1.out.lt);clear hb3 hq3 hr3)
  | (go_at_call 268;refine (rdivide_any d (n.gcd d) _ _ _ ((HD.out.below HX.out).below HX3.out) (HG.out.below HX3.out) hld HLG.out HGP.out).mono ?_;rintro e w4 ⟨vq4,vr4,rfl,hq4,hr4,hb4⟩;obtain ⟨Aq4,cq4,rfl,_,_,_⟩:=id hq4;have HQ4:=Lib.hid hq4;have HX4:=Lib.hid hb4;obtain ⟨HB4,r0,s0,r1,s1,r2,s2⟩:=res_rowsQ HB3.out hb4 HB3.out.lt;clear hb4 hq4 hr4))
 have hB:=HX.out.trans ((HX3.out.mono HX.out.size).trans (HX4.out.mono (Nat.le_trans HX.out.size HX3.out.size)))
 refine ret_q rfl rfl (by simp) (set3 HB4.out) ⟨_,rfl,?_,?_⟩
 ·exact isPartsI_mk (isNatI_set3 (HQ3.out.below HX4.out) HB4.out) (isNatI_set3 HQ4.out HB4.out)
 ·exact set3_below hB (Nat.le_refl _)
theorem rreduce_any (m:Bool) (n d:Nat) (vn vd:Value) (w:World) (hn:IsNatI w vn n) (hd:IsNatI w vd d) (hd0:d≠0) (hln:(toL n).length≤30000) (hld:(toL d).length≤30000) :
  Calls Tryz.prog 222 #[.bool m,vn,vd] w fun e w'=>∃ v,e=.returned v∧IsQ w' v (mkQ m n d)∧Below w.heap.size w w':=by
 by_cases h0:n=0
 ·refine (reduce_zero m n d vn vd w hn hd h0).mono ?_
  rintro e w' ⟨v,rfl,h,hb⟩
  subst h0
  exact ⟨v,rfl,by rw [mkQ_zero];exact h,hb⟩
 ·refine (reduce_some m n d vn vd w hn hd h0 hln hld).mono ?_
  rintro e w' ⟨v,rfl,h,hb⟩
  refine ⟨v,rfl,?_,hb⟩
  unfold IsQ
  rw [mkQ_ng hd0,mkQ_nm hd0,mkQ_den hd0,decide_eq_true h0,Bool.and_true]
  exact h
theorem rover_any (a:Rat) (v:Value) (w:World) (h:IsQ w v a) (h0:a≠0) :
  Calls Tryz.prog 156 #[v] w fun e w'=>∃ v2,e=.returned v2∧IsQ w' v2 a⁻¹∧Below w.heap.size w w':=by
 obtain ⟨b,N,D,A,c,A',c',rfl,hn,hd,HP⟩:=isQ_open h
 have HI:=Lib.hid (inv_parts h0)
 have HN:=Lib.hid hn
 have HD:=Lib.hid hd
 have HB:=Lib.hid (fun o o'=>below_alloc (below_alloc (Below.refl w.heap.size w) o) o')
 clear hn hd h h0
 go_enter Tryz.func156,Tryz.ntmps156
 go_wp2
 refine ret_q rfl rfl (by simp) (Blk.new _ _ _) ⟨_,rfl,?_,?_⟩
 ·obtain ⟨h1,h2,h3⟩:=HI.out
  obtain ⟨e1,e2,e3⟩:=HP.out
  unfold IsQ
  rw [h1,h2,h3,e1,e2,e3]
  exact isPartsI_mk (HD.out.below (HB.out _ _)) (HN.out.below (HB.out _ _))
 ·exact HB.out _ _
theorem rtimesP_any (m m':Bool) (n d n' d':Nat) (v v':Value) (w:World) (h:IsPartsI w v m n d) (h':IsPartsI w v' m' n' d') (hd0:d*d'≠0) (l1:(toL n).length≤10000) (l2:(toL d).length≤10000) (l3:(toL n').length≤10000) (l4:(toL d').length≤10000) :
  Calls Tryz.prog 229 #[v,v'] w fun e w'=>∃ v2,e=.returned v2∧IsQ w' v2 (mkQ (m != m') (n*n') (d*d'))∧Below w.heap.size w w':=by
 obtain ⟨An,cn,Ad,cd,rfl,hn,hd⟩:=h
 obtain ⟨An',cn',Ad',cd',rfl,hn',hd'⟩:=h'
 have HN:=Lib.hid hn
 have HD:=Lib.hid hd
 have HN':=Lib.hid hn'
 have HD':=Lib.hid hd'
 have ln:=Nat.le_trans (toL_mul_len n n') (show _≤30000 by omega)
 have ld:=Nat.le_trans (toL_mul_len d d') (show _≤30000 by omega)
 clear hn hd hn' hd'
 refine (callsIn_wide (n:=3)).1 ?_
 have h1:1≤3:=by omega
 have hmx:Tryz.prog.follows .mixedOrders=true:=by kernel_rfl
 refine callsIn_of_wp Tryz.func229 rfl trivial ?_ rfl
 simp only [Tryz.ntmps229,List.size_toArray,List.length_cons,List.length_nil,Nat.reduceAdd,Nat.reduceSub,Array.replicate_succ,Array.replicate_zero,List.push_toArray,List.append_toArray,List.nil_append,List.cons_append]
 gi_upto_region 1 with fail
 obtain ⟨b0,b1,b2,hB,hs⟩:=boxq2_res w (.bool m) (.slice An (toL n).length cn) (.slice Ad (toL d).length cd) (.bool m') (.slice An' (toL n').length cn') (.slice Ad' (toL d').length cd')
 generalize ((w.alloc (.cells #[.bool m,.slice An (toL n).length cn,.slice Ad (toL d).length cd] 170)).alloc (.cells #[.bool m',.slice An' (toL n').length cn',.slice Ad' (toL d').length cd'] 170)).alloc zQ=W at *
 obtain ⟨x0,x1,x2⟩:=same_cells (S:=fun k=>k < W.heap.size∧k≠w.heap.size+1+1) b0 ⟨by omega,by omega⟩
 obtain ⟨y0,y1,y2⟩:=same_cells (S:=fun k=>k < W.heap.size∧k≠w.heap.size+1+1) b1 ⟨by omega,by omega⟩
 have HB:=Lib.hid (below_drew hB)
 have HS:=Lib.hid hs
 have HB1:=Lib.hid b2
 clear b0 b1 b2 hB hs
 refine wpIn_stage (IsSame W (fun k=>k < W.heap.size∧k≠w.heap.size+1+1)) [0,1,2,3,4,5,6,7,8,10,11,12,13] [] hmx (by kernel_rfl) (isSame_of fun _ _=>rfl) ?_
 change wpStage _ _ _ _ _ _ _ _ (4+13) _ _ _
 refine stage_reads [0,1,2,3,4,5,6,7,8,10,11,12,13] 4 _ _ (by kernel_rfl) ?_
 change wpQuietIn _ _ _ _ (fun W'=>∃ x:SameAt W (fun k=>k < W.heap.size∧k≠w.heap.size+1+1),W'=x.W) _ _ _
 simp only [pick_cons,pick_nil,List.getElem?_cons_zero,List.getElem?_cons_succ,Option.elim_some]
 repeat (gi_big_quiet_step (fail))
 refine wpQuietIn_nil ?_
 refine stage_one 9 (by kernel_rfl) rfl ?_
 gi_wp2
 refine ⟨trivial,?_⟩
 refine (callsIn_wide.2 (rtimes_any n n' _ _ W.drew (HN.out.below HB.out) (HN'.out.below HB.out) (by omega) (by omega))).mono ?_
 rintro e w3 ⟨v3,rfl,hv3,hb3⟩
 have HV3:=Lib.hid hv3
 have HB3:=Lib.hid (below_undrew hb3)
 clear hv3 hb3
 gi_wp2
 refine stage_post (isSame_below HB3.out (fun k hk=>hk.1)) ?_
 refine stage_one 14 (by kernel_rfl) rfl ?_
 gi_wp2
 refine ⟨trivial,?_⟩
 refine (callsIn_wide.2 (rtimes_any d d' _ _ w3 (HD.out.below (HB.out.trans ((below_drew3 HB3.out).mono HB.out.size))) (HD'.out.below (HB.out.trans ((below_drew3 HB3.out).mono HB.out.size))) (by omega) (by omega))).mono ?_
 rintro e w4 ⟨v4,rfl,hv4,hb4⟩
 have HV4:=Lib.hid hv4
 have HB4:=Lib.hid hb4
 clear hv4 hb4
 gi_wp2
 refine stage_post (isSame_below (HB3.out.trans (HB4.out.mono HB3.out.size)) (fun k hk=>hk.1)) ?_
 refine stage_one 15 (by kernel_rfl) rfl ?_
 gi_wp2
 refine ⟨trivial,?_⟩
 refine (callsIn_wide.2 (rreduce_any (!(m==m')) (n*n') (d*d') _ _ w4 (HV3.out.below HB4.out) HV4.out hd0 ln ld)).mono ?_
 rintro e w5 ⟨v5,rfl,hv5,hb5⟩
 obtain ⟨b5,N5,D5,A5,c5,A5',c5',rfl,hn5,hd5,HP5⟩:=isQ_open hv5
 clear hv5
 have hb45:Below W.heap.size W w5:=HB3.out.trans ((HB4.out.mono HB3.out.size).trans (hb5.mono (Nat.le_trans HB3.out.size HB4.out.size)))
 have hsz:=HS.out
 obtain ⟨HB5,r0,s0,r1,s1,r2,s2⟩:=res_rowsQ HB1.out hb45 (by omega)
 have HN5:=Lib.hid hn5
 have HD5:=Lib.hid hd5
 have HB45:=Lib.hid hb45
 clear hn5 hd5 hb5 hb45 hsz
 gi_wp2
 refine stage_post (isSame_below HB45.out (fun k hk=>hk.1)) ?_
 refine stage_one 16 (by kernel_rfl) rfl ?_
 gi_wp2
 refine stage_post (isSame_of fun k hk=>(set3_heap k hk.2).trans (HB45.out.block k hk.1)) ?_
 refine stage_done (by kernel_rfl) ?_
 gi_wp2
 have hsz:=HS.out
 refine ret_q rfl rfl (by simp) (set3 HB5.out) ⟨_,rfl,?_,?_⟩
 ·exact isQ_close HP5 (isPartsI_mk (isNatI_set3 HN5.out HB5.out) (isNatI_set3 HD5.out HB5.out))
 ·exact set3_below (g:=w.heap.size+1+1) (HB.out.trans ((below_drew3 HB45.out).mono HB.out.size)) (by omega)
theorem rtimesQ_any (a b:Rat) (v v':Value) (w:World) (h:IsQ w v a) (h':IsQ w v' b) (l1:(toL (nm a)).length≤10000) (l2:(toL a.den).length≤10000) (l3:(toL (nm b)).length≤10000) (l4:(toL b.den).length≤10000) :
  Calls Tryz.prog 229 #[v,v'] w fun e w'=>∃ v2,e=.returned v2∧IsQ w' v2 (a*b)∧Below w.heap.size w w':=by
 have hd0:a.den*b.den≠0:=Nat.ne_of_gt (Nat.mul_pos (den_pos a) (den_pos b))
 rw [mul_parts]
 exact rtimesP_any _ _ _ _ _ _ _ _ _ h h' hd0 l1 l2 l3 l4
theorem plus_same (m m':Bool) (n d n' d':Nat) (v v':Value) (w:World) (h:IsPartsI w v m n d) (h':IsPartsI w v' m' n' d') (hd0:d*d'≠0) (hm:m=m') (l1:(toL n).length≤10000) (l2:(toL d).length≤10000) (l3:(toL n').length≤10000) (l4:(toL d').length≤10000) :
  Calls Tryz.prog 154 #[v,v'] w fun e w'=>∃ v2,e=.returned v2∧IsQ w' v2 (mkQ m (n*d'+n'*d) (d*d'))∧Below w.heap.size w w':=by
 obtain ⟨An,cn,Ad,cd,rfl,hn,hd⟩:=h
 obtain ⟨An',cn',Ad',cd',rfl,hn',hd'⟩:=h'
 have HN:=Lib.hid hn
 have HD:=Lib.hid hd
 have HN':=Lib.hid hn'
 have HD':=Lib.hid hd'
 have lx:=Nat.le_trans (toL_mul_len n d') (show _≤20000 by omega)
 have ly:=Nat.le_trans (toL_mul_len n' d) (show _≤20000 by omega)
 have ld:=Nat.le_trans (toL_mul_len d d') (show _≤20000 by omega)
 have HD0:=Lib.hid hd0
 clear hn hd hn' hd' hd0
 have hmm:(m==m')=true:=by rw [beq_iff_eq];exact hm
 clear hm
 refine (callsIn_wide (n:=3)).1 ?_
 have h1:1≤3:=by omega
 have hmx:Tryz.prog.follows .mixedOrders=true:=by kernel_rfl
 refine callsIn_of_wp Tryz.func154 rfl trivial ?_ rfl
 simp only [Tryz.ntmps154,List.size_toArray,List.length_cons,List.length_nil,Nat.reduceAdd,Nat.reduceSub,Array.replicate_succ,Array.replicate_zero,List.push_toArray,List.append_toArray,List.nil_append,List.cons_append]
 gi_upto_region 1 with fail
 obtain ⟨b0,b1,b2,hB,hs⟩:=boxq2_res w (.bool m) (.slice An (toL n).length cn) (.slice Ad (toL d).length cd) (.bool m') (.slice An' (toL n').length cn') (.slice Ad' (toL d').length cd')
 generalize ((w.alloc (.cells #[.bool m,.slice An (toL n).length cn,.slice Ad (toL d).length cd] 170)).alloc (.cells #[.bool m',.slice An' (toL n').length cn',.slice Ad' (toL d').length cd'] 170)).alloc zQ=W at *
 obtain ⟨x0,x1,x2⟩:=same_cells (S:=fun k=>k < W.heap.size∧k≠w.heap.size+1+1) b0 ⟨by omega,by omega⟩
 obtain ⟨y0,y1,y2⟩:=same_cells (S:=fun k=>k < W.heap.size∧k≠w.heap.size+1+1) b1 ⟨by omega,by omega⟩
 have HB:=Lib.hid (below_drew hB)
 have HS:=Lib.hid hs
 have P0:=Lib.hid b0
 have P1:=Lib.hid b1
 have P2:=Lib.hid b2
 clear b0 b1 b2 hB hs
 refine wpIn_stage (IsSame W (fun k=>k < W.heap.size∧k≠w.heap.size+1+1)) [0,1,2,3,5,6,7,8,10,11] [] hmx (by kernel_rfl) (isSame_of fun _ _=>rfl) ?_
 change wpStage _ _ _ _ _ _ _ _ (4+8) _ _ _
 refine stage_reads [0,1,2,3,5,6,7,8] 4 _ _ (by kernel_rfl) ?_
 change wpQuietIn _ _ _ _ (fun W'=>∃ x:SameAt W (fun k=>k < W.heap.size∧k≠w.heap.size+1+1),W'=x.W) _ _ _
 simp only [pick_cons,pick_nil,List.getElem?_cons_zero,List.getElem?_cons_succ,Option.elim_some]
 repeat (gi_big_quiet_step (fail))
 refine wpQuietIn_nil ?_
 refine stage_one 4 (by kernel_rfl) rfl ?_
 gi_wp2
 refine ⟨trivial,?_⟩
 refine (callsIn_wide.2 (rtimes_any n d' _ _ W.drew (HN.out.below HB.out) (HD'.out.below HB.out) (by omega) (by omega))).mono ?_
 rintro e w3 ⟨v3,rfl,hv3,hb3⟩
 obtain ⟨A3,c3,rfl,_,_,_⟩:=id hv3
 have HV3:=Lib.hid hv3
 have HB3:=Lib.hid (below_undrew hb3)
 clear hv3 hb3
 gi_wp2
 refine stage_post (isSame_below HB3.out (fun k hk=>hk.1)) ?_
 refine stage_one 9 (by kernel_rfl) rfl ?_
 gi_wp2
 refine ⟨trivial,?_⟩
 refine (callsIn_wide.2 (rtimes_any n' d _ _ w3 (HN'.out.below (HB.out.trans ((below_drew3 HB3.out).mono HB.out.size))) (HD.out.below (HB.out.trans ((below_drew3 HB3.out).mono HB.out.size))) (by omega) (by omega))).mono ?_
 rintro e w4 ⟨v4,rfl,hv4,hb4⟩
 obtain ⟨A4,c4,rfl,_,_,_⟩:=id hv4
 have HV4:=Lib.hid hv4
 have HV3:=Lib.hid (HV3.out.below hb4)
 have hB4:Below W.heap.size W w4:=HB3.out.trans (hb4.mono HB3.out.size)
 have HB4:=Lib.hid hB4
 clear hv4 hb4 hB4
 gi_wp2
 refine stage_post (isSame_below HB4.out (fun k hk=>hk.1)) ?_
 change wpStage _ _ _ _ _ _ _ _ (0+2) _ _ _
 refine stage_reads [10,11] 0 _ _ (by kernel_rfl) ?_
 change wpQuietIn _ _ _ _ (fun W'=>∃ x:SameAt W (fun k=>k < W.heap.size∧k≠w.heap.size+1+1),W'=x.W) _ _ _
 simp only [pick_cons,pick_nil,List.getElem?_cons_zero,List.getElem?_cons_succ,Option.elim_some]
 repeat (gi_big_quiet_step (fail))
 refine wpQuietIn_nil ?_
 refine stage_done (by kernel_rfl) ?_
 clear x0 x1 x2 y0 y1 y2
 have hsz:=HS.out
 obtain ⟨x0,x1,x2⟩:=rows3 (P0.out.below HB4.out (by omega))
 obtain ⟨y0,y1,y2⟩:=rows3 (P1.out.below HB4.out (by omega))
 clear hsz
 gi_upto_region 3 with fail
 have HB40:=Lib.hid (HB.out.trans ((below_drew3 HB4.out).mono HB.out.size))
 refine ⟨trivial,?_⟩
 refine (callsIn_wide.2 (rtimes_any d d' _ _ w4 (HD.out.below HB40.out) (HD'.out.below HB40.out) (by omega) (by omega))).mono ?_
 rintro e w6 ⟨v5,rfl,hv5,hb5⟩
 obtain ⟨A5,c5,rfl,_,_,_⟩:=id hv5
 have HV5:=Lib.hid hv5
 have HV3:=Lib.hid (HV3.out.below hb5)
 have HV4:=Lib.hid (HV4.out.below hb5)
 have hB5:Below W.heap.size W w6:=HB4.out.trans (hb5.mono HB4.out.size)
 have HB5:=Lib.hid hB5
 clear hv5 hb5 hB5 x0 x1 x2 y0 y1 y2
 have hsz:=HS.out
 have R0:=Lib.hid (P0.out.below HB5.out (by omega))
 have R1:=Lib.hid (P1.out.below HB5.out (by omega))
 have R2:=Lib.hid (P2.out.below HB5.out (by omega))
 obtain ⟨x0,x1,x2⟩:=rows3 R0.out
 obtain ⟨y0,y1,y2⟩:=rows3 R1.out
 clear hsz
 have Q0:=R0
 have Q1:=R1
 have Q2:=R2
 have HB6:=HB5
 have h62:=HB6.out.size
 gi_upto_region 4 with fail
 clear x0 x1 x2 y0 y1 y2
 have hsz:=HS.out
 obtain ⟨x0,x1,x2⟩:=same_cells (S:=fun k=>k < w6.heap.size∧k≠w.heap.size+1+1) Q0.out ⟨by omega,by omega⟩
 obtain ⟨y0,y1,y2⟩:=same_cells (S:=fun k=>k < w6.heap.size∧k≠w.heap.size+1+1) Q1.out ⟨by omega,by omega⟩
 clear hsz
 refine wpIn_stage (IsSame w6 (fun k=>k < w6.heap.size∧k≠w.heap.size+1+1)) [0,1,2,3,5] [] hmx (by kernel_rfl) (isSame_of fun _ _=>rfl) ?_
 change wpStage _ _ _ _ _ _ _ _ (3+5) _ _ _
 refine stage_reads [0,1,2,3,5] 3 _ _ (by kernel_rfl) ?_
 change wpQuietIn _ _ _ _ (fun W'=>∃ x:SameAt w6 (fun k=>k < w6.heap.size∧k≠w.heap.size+1+1),W'=x.W) _ _ _
 simp only [pick_cons,pick_nil,List.getElem?_cons_zero,List.getElem?_cons_succ,Option.elim_some]
 repeat (gi_big_quiet_step (fail))
 refine wpQuietIn_nil ?_
 refine stage_one 4 (by kernel_rfl) rfl ?_
 gi_wp2
 refine ⟨trivial,?_⟩
 refine (callsIn_wide.2 (rplus_any (n*d') (n'*d) _ _ w6.drew HV3.out HV4.out (by omega) (by omega))).mono ?_
 rintro e w7 ⟨v7,rfl,hv7,hb7⟩
 have HV7:=Lib.hid hv7
 have HB7:=Lib.hid (below_undrew hb7)
 clear hv7 hb7
 gi_wp2
 refine stage_post (isSame_below HB7.out (fun k hk=>hk.1)) ?_
 refine stage_one 6 (by kernel_rfl) rfl ?_
 gi_wp2
 refine ⟨trivial,?_⟩
 refine (callsIn_wide.2 (rreduce_any m _ (d*d') _ _ w7 HV7.out (HV5.out.below HB7.out) HD0.out (Nat.le_trans (toL_add_le lx ly) (by omega)) (by omega))).mono ?_
 rintro e w8 ⟨v8,rfl,hv8,hb8⟩
 obtain ⟨b8,N8,D8,A8,c8,A8',c8',rfl,hn8,hd8,HP8⟩:=isQ_open hv8
 clear hv8
 have hb78:Below w6.heap.size w6 w8:=HB7.out.trans (hb8.mono HB7.out.size)
 have hsz:=HS.out
 obtain ⟨HR8,r0,s0,r1,s1,r2,s2⟩:=res_rowsQ Q2.out hb78 (by omega)
 have HN8:=Lib.hid hn8
 have HD8:=Lib.hid hd8
 have HB78:=Lib.hid hb78
 clear hn8 hd8 hb8 hb78 hsz
 gi_wp2
 refine stage_post (isSame_below HB78.out (fun k hk=>hk.1)) ?_
 refine stage_one 7 (by kernel_rfl) rfl ?_
 gi_wp2
 refine stage_post (isSame_of fun k hk=>(set3_heap k hk.2).trans (HB78.out.block k hk.1)) ?_
 refine stage_done (by kernel_rfl) ?_
 gi_wp2
 have hsz:=HS.out
 refine ret_q rfl rfl (by simp) (set3 HR8.out) ⟨_,rfl,?_,?_⟩
 ·exact isQ_close HP8 (isPartsI_mk (isNatI_set3 HN8.out HR8.out) (isNatI_set3 HD8.out HR8.out))
 ·refine set3_below (g:=w.heap.size+1+1) (HB.out.trans ((below_drew3 (HB6.out.trans (HB78.out.mono ?_))).mono ?_)) (by omega)
  ·exact HB6.out.size
  ·exact HB.out.size
theorem plus_less (m m':Bool) (n d n' d':Nat) (v v':Value) (w:World) (h:IsPartsI w v m n d) (h':IsPartsI w v' m' n' d') (hd0:d*d'≠0) (hm:m≠m') (hlt:n*d' < n'*d) (l1:(toL n).length≤10000) (l2:(toL d).length≤10000) (l3:(toL n').length≤10000) (l4:(toL d').length≤10000) :
  Calls Tryz.prog 154 #[v,v'] w fun e w'=>∃ v2,e=.returned v2∧IsQ w' v2 (mkQ m' (n'*d - n*d') (d*d'))∧Below w.heap.size w w':=by
 obtain ⟨An,cn,Ad,cd,rfl,hn,hd⟩:=h
 obtain ⟨An',cn',Ad',cd',rfl,hn',hd'⟩:=h'
 have HN:=Lib.hid hn
 have HD:=Lib.hid hd
 have HN':=Lib.hid hn'
 have HD':=Lib.hid hd'
 have lx:=Nat.le_trans (toL_mul_len n d') (show _≤20000 by omega)
 have ly:=Nat.le_trans (toL_mul_len n' d) (show _≤20000 by omega)
 have ld:=Nat.le_trans (toL_mul_len d d') (show _≤20000 by omega)
 have HD0:=Lib.hid hd0
 clear hn hd hn' hd' hd0
 have hmm:(m==m')=false:=by rw [beq_eq_false_iff_ne];exact hm
 have hsg:decide (sgn (n*d') (n'*d) < 0)=true:=decide_eq_true (sgn_neg_iff.2 hlt)
 have HLT:=Lib.hid hlt
 clear hm hlt
 refine (callsIn_wide (n:=3)).1 ?_
 have h1:1≤3:=by omega
 have hmx:Tryz.prog.follows .mixedOrders=true:=by kernel_rfl
 refine callsIn_of_wp Tryz.func154 rfl trivial ?_ rfl
 simp only [Tryz.ntmps154,List.size_toArray,List.length_cons,List.length_nil,Nat.reduceAdd,Nat.reduceSub,Array.replicate_succ,Array.replicate_zero,List.push_toArray,List.append_toArray,List.nil_append,List.cons_append]
 gi_upto_region 1 with fail
 obtain ⟨b0,b1,b2,hB,hs⟩:=boxq2_res w (.bool m) (.slice An (toL n).length cn) (.slice Ad (toL d).length cd) (.bool m') (.slice An' (toL n').length cn') (.slice Ad' (toL d').length cd')
 generalize ((w.alloc (.cells #[.bool m,.slice An (toL n).length cn,.slice Ad (toL d).length cd] 170)).alloc (.cells #[.bool m',.slice An' (toL n').length cn',.slice Ad' (toL d').length cd'] 170)).alloc zQ=W at *
 obtain ⟨x0,x1,x2⟩:=same_cells (S:=fun k=>k < W.heap.size∧k≠w.heap.size+1+1) b0 ⟨by omega,by omega⟩
 obtain ⟨y0,y1,y2⟩:=same_cells (S:=fun k=>k < W.heap.size∧k≠w.heap.size+1+1) b1 ⟨by omega,by omega⟩
 have HB:=Lib.hid (below_drew hB)
 have HS:=Lib.hid hs
 have P0:=Lib.hid b0
 have P1:=Lib.hid b1
 have P2:=Lib.hid b2
 clear b0 b1 b2 hB hs
 refine wpIn_stage (IsSame W (fun k=>k < W.heap.size∧k≠w.heap.size+1+1)) [0,1,2,3,5,6,7,8,10,11] [] hmx (by kernel_rfl) (isSame_of fun _ _=>rfl) ?_
 change wpStage _ _ _ _ _ _ _ _ (4+8) _ _ _
 refine stage_reads [0,1,2,3,5,6,7,8] 4 _ _ (by kernel_rfl) ?_
 change wpQuietIn _ _ _ _ (fun W'=>∃ x:SameAt W (fun k=>k < W.heap.size∧k≠w.heap.size+1+1),W'=x.W) _ _ _
 simp only [pick_cons,pick_nil,List.getElem?_cons_zero,List.getElem?_cons_succ,Option.elim_some]
 repeat (gi_big_quiet_step (fail))
 refine wpQuietIn_nil ?_
 refine stage_one 4 (by kernel_rfl) rfl ?_
 gi_wp2
 refine ⟨trivial,?_⟩
 refine (callsIn_wide.2 (rtimes_any n d' _ _ W.drew (HN.out.below HB.out) (HD'.out.below HB.out) (by omega) (by omega))).mono ?_
 rintro e w3 ⟨v3,rfl,hv3,hb3⟩
 obtain ⟨A3,c3,rfl,_,_,_⟩:=id hv3
 have HV3:=Lib.hid hv3
 have HB3:=Lib.hid (below_undrew hb3)
 clear hv3 hb3
 gi_wp2
 refine stage_post (isSame_below HB3.out (fun k hk=>hk.1)) ?_
 refine stage_one 9 (by kernel_rfl) rfl ?_
 gi_wp2
 refine ⟨trivial,?_⟩
 refine (callsIn_wide.2 (rtimes_any n' d _ _ w3 (HN'.out.below (HB.out.trans ((below_drew3 HB3.out).mono HB.out.size))) (HD.out.below (HB.out.trans ((below_drew3 HB3.out).mono HB.out.size))) (by omega) (by omega))).mono ?_
 rintro e w4 ⟨v4,rfl,hv4,hb4⟩
 obtain ⟨A4,c4,rfl,_,_,_⟩:=id hv4
 have HV4:=Lib.hid hv4
 have HV3:=Lib.hid (HV3.out.below hb4)
 have hB4:Below W.heap.size W w4:=HB3.out.trans (hb4.mono HB3.out.size)
 have HB4:=Lib.hid hB4
 clear hv4 hb4 hB4
 gi_wp2
 refine stage_post (isSame_below HB4.out (fun k hk=>hk.1)) ?_
 change wpStage _ _ _ _ _ _ _ _ (0+2) _ _ _
 refine stage_reads [10,11] 0 _ _ (by kernel_rfl) ?_
 change wpQuietIn _ _ _ _ (fun W'=>∃ x:SameAt W (fun k=>k < W.heap.size∧k≠w.heap.size+1+1),W'=x.W) _ _ _
 simp only [pick_cons,pick_nil,List.getElem?_cons_zero,List.getElem?_cons_succ,Option.elim_some]
 repeat (gi_big_quiet_step (fail))
 refine wpQuietIn_nil ?_
 refine stage_done (by kernel_rfl) ?_
 clear x0 x1 x2 y0 y1 y2
 have hsz:=HS.out
 obtain ⟨x0,x1,x2⟩:=rows3 (P0.out.below HB4.out (by omega))
 obtain ⟨y0,y1,y2⟩:=rows3 (P1.out.below HB4.out (by omega))
 clear hsz
 gi_upto_region 3 with fail
 have HB40:=Lib.hid (HB.out.trans ((below_drew3 HB4.out).mono HB.out.size))
 refine ⟨trivial,?_⟩
 refine (callsIn_wide.2 (rtimes_any d d' _ _ w4 (HD.out.below HB40.out) (HD'.out.below HB40.out) (by omega) (by omega))).mono ?_
 rintro e w5 ⟨v5,rfl,hv5,hb5⟩
 obtain ⟨A5,c5,rfl,_,_,_⟩:=id hv5
 have HV5:=Lib.hid hv5
 have HV3:=Lib.hid (HV3.out.below hb5)
 have HV4:=Lib.hid (HV4.out.below hb5)
 have hB5:Below W.heap.size W w5:=HB4.out.trans (hb5.mono HB4.out.size)
 have HB5:=Lib.hid hB5
 clear hv5 hb5 hB5 x0 x1 x2 y0 y1 y2
 have hsz:=HS.out
 have R0:=Lib.hid (P0.out.below HB5.out (by omega))
 have R1:=Lib.hid (P1.out.below HB5.out (by omega))
 have R2:=Lib.hid (P2.out.below HB5.out (by omega))
 obtain ⟨x0,x1,x2⟩:=rows3 R0.out
 obtain ⟨y0,y1,y2⟩:=rows3 R1.out
 clear hsz
 gi_upto_region 6 with fail
 refine ⟨trivial,?_⟩
 refine (callsIn_wide.2 (rorder_any (n*d') (n'*d) _ _ w5 HV3.out HV4.out (by omega) (by omega))).mono ?_
 rintro e w6 ⟨rfl,hb6⟩
 have HV3:=Lib.hid (HV3.out.below hb6)
 have HV4:=Lib.hid (HV4.out.below hb6)
 have HV5:=Lib.hid (HV5.out.below hb6)
 have hB6:Below W.heap.size W w6:=HB5.out.trans (hb6.mono HB5.out.size)
 have HB6:=Lib.hid hB6
 clear hb6 hB6 x0 x1 x2 y0 y1 y2
 have hsz:=HS.out
 have Q0:=Lib.hid (P0.out.below HB6.out (by omega))
 have Q1:=Lib.hid (P1.out.below HB6.out (by omega))
 have Q2:=Lib.hid (P2.out.below HB6.out (by omega))
 have h62:=HB6.out.size
 clear hsz
 gi_upto_region 6 with fail
 have hsz:=HS.out
 obtain ⟨x0,x1,x2⟩:=same_cells (S:=fun k=>k < w6.heap.size∧k≠w.heap.size+1+1) Q0.out ⟨by omega,by omega⟩
 obtain ⟨y0,y1,y2⟩:=same_cells (S:=fun k=>k < w6.heap.size∧k≠w.heap.size+1+1) Q1.out ⟨by omega,by omega⟩
 clear hsz
 refine wpIn_stage (IsSame w6 (fun k=>k < w6.heap.size∧k≠w.heap.size+1+1)) [0,1,2,3,5] [] hmx (by kernel_rfl) (isSame_of fun _ _=>rfl) ?_
 change wpStage _ _ _ _ _ _ _ _ (3+5) _ _ _
 refine stage_reads [0,1,2,3,5] 3 _ _ (by kernel_rfl) ?_
 change wpQuietIn _ _ _ _ (fun W'=>∃ x:SameAt w6 (fun k=>k < w6.heap.size∧k≠w.heap.size+1+1),W'=x.W) _ _ _
 simp only [pick_cons,pick_nil,List.getElem?_cons_zero,List.getElem?_cons_succ,Option.elim_some]
 repeat (gi_big_quiet_step (fail))
 refine wpQuietIn_nil ?_
 refine stage_one 4 (by kernel_rfl) rfl ?_
 gi_wp2
 refine ⟨trivial,?_⟩
 refine (callsIn_wide.2 (rminus_any (n'*d) (n*d') _ _ w6.drew HV4.out HV3.out (Nat.le_of_lt HLT.out) (by omega))).mono ?_
 rintro e w7 ⟨v7,rfl,hv7,hb7⟩
 have HV7:=Lib.hid hv7
 have HB7:=Lib.hid (below_undrew hb7)
 clear hv7 hb7
 gi_wp2
 refine stage_post (isSame_below HB7.out (fun k hk=>hk.1)) ?_
 refine stage_one 6 (by kernel_rfl) rfl ?_
 gi_wp2
 refine ⟨trivial,?_⟩
 refine (callsIn_wide.2 (rreduce_any m' _ (d*d') _ _ w7 HV7.out (HV5.out.below HB7.out) HD0.out (Nat.le_trans (toL_len_mono (Nat.sub_le _ _)) (by omega)) (by omega))).mono ?_
 rintro e w8 ⟨v8,rfl,hv8,hb8⟩
 obtain ⟨b8,N8,D8,A8,c8,A8',c8',rfl,hn8,hd8,HP8⟩:=isQ_open hv8
 clear hv8
 have hb78:Below w6.heap.size w6 w8:=HB7.out.trans (hb8.mono HB7.out.size)
 have hsz:=HS.out
 obtain ⟨HR8,r0,s0,r1,s1,r2,s2⟩:=res_rowsQ Q2.out hb78 (by omega)
 have HN8:=Lib.hid hn8
 have HD8:=Lib.hid hd8
 have HB78:=Lib.hid hb78
 clear hn8 hd8 hb8 hb78 hsz
 gi_wp2
 refine stage_post (isSame_below HB78.out (fun k hk=>hk.1)) ?_
 refine stage_one 7 (by kernel_rfl) rfl ?_
 gi_wp2
 refine stage_post (isSame_of fun k hk=>(set3_heap k hk.2).trans (HB78.out.block k hk.1)) ?_
 refine stage_done (by kernel_rfl) ?_
 gi_wp2
 have hsz:=HS.out
 refine ret_q rfl rfl (by simp) (set3 HR8.out) ⟨_,rfl,?_,?_⟩
 ·exact isQ_close HP8 (isPartsI_mk (isNatI_set3 HN8.out HR8.out) (isNatI_set3 HD8.out HR8.out))
 ·refine set3_below (g:=w.heap.size+1+1) (HB.out.trans ((below_drew3 (HB6.out.trans (HB78.out.mono ?_))).mono ?_)) (by omega)
  ·exact HB6.out.size
  ·exact HB.out.size
theorem plus_more (m m':Bool) (n d n' d':Nat) (v v':Value) (w:World) (h:IsPartsI w v m n d) (h':IsPartsI w v' m' n' d') (hd0:d*d'≠0) (hm:m≠m') (hlt:¬ n*d' < n'*d) (l1:(toL n).length≤10000) (l2:(toL d).length≤10000) (l3:(toL n').length≤10000) (l4:(toL d').length≤10000) :
  Calls Tryz.prog 154 #[v,v'] w fun e w'=>∃ v2,e=.returned v2∧IsQ w' v2 (mkQ m (n*d' - n'*d) (d*d'))∧Below w.heap.size w w':=by
 obtain ⟨An,cn,Ad,cd,rfl,hn,hd⟩:=h
 obtain ⟨An',cn',Ad',cd',rfl,hn',hd'⟩:=h'
 have HN:=Lib.hid hn
 have HD:=Lib.hid hd
 have HN':=Lib.hid hn'
 have HD':=Lib.hid hd'
 have lx:=Nat.le_trans (toL_mul_len n d') (show _≤20000 by omega)
 have ly:=Nat.le_trans (toL_mul_len n' d) (show _≤20000 by omega)
 have ld:=Nat.le_trans (toL_mul_len d d') (show _≤20000 by omega)
 have HD0:=Lib.hid hd0
 clear hn hd hn' hd' hd0
 have hmm:(m==m')=false:=by rw [beq_eq_false_iff_ne];exact hm
 have hsg:decide (sgn (n*d') (n'*d) < 0)=false:=decide_eq_false (fun h=>hlt (sgn_neg_iff.1 h))
 have HLT:=Lib.hid hlt
 clear hm hlt
 refine (callsIn_wide (n:=3)).1 ?_
 have h1:1≤3:=by omega
 have hmx:Tryz.prog.follows .mixedOrders=true:=by kernel_rfl
 refine callsIn_of_wp Tryz.func154 rfl trivial ?_ rfl
 simp only [Tryz.ntmps154,List.size_toArray,List.length_cons,List.length_nil,Nat.reduceAdd,Nat.reduceSub,Array.replicate_succ,Array.replicate_zero,List.push_toArray,List.append_toArray,List.nil_append,List.cons_append]
 gi_upto_region 1 with fail
 obtain ⟨b0,b1,b2,hB,hs⟩:=boxq2_res w (.bool m) (.slice An (toL n).length cn) (.slice Ad (toL d).length cd) (.bool m') (.slice An' (toL n').length cn') (.slice Ad' (toL d').length cd')
 generalize ((w.alloc (.cells #[.bool m,.slice An (toL n).length cn,.slice Ad (toL d).length cd] 170)).alloc (.cells #[.bool m',.slice An' (toL n').length cn',.slice Ad' (toL d').length cd'] 170)).alloc zQ=W at *
 obtain ⟨x0,x1,x2⟩:=same_cells (S:=fun k=>k < W.heap.size∧k≠w.heap.size+1+1) b0 ⟨by omega,by omega⟩
 obtain ⟨y0,y1,y2⟩:=same_cells (S:=fun k=>k < W.heap.size∧k≠w.heap.size+1+1) b1 ⟨by omega,by omega⟩
 have HB:=Lib.hid (below_drew hB)
 have HS:=Lib.hid hs
 have P0:=Lib.hid b0
 have P1:=Lib.hid b1
 have P2:=Lib.hid b2
 clear b0 b1 b2 hB hs
 refine wpIn_stage (IsSame W (fun k=>k < W.heap.size∧k≠w.heap.size+1+1)) [0,1,2,3,5,6,7,8,10,11] [] hmx (by kernel_rfl) (isSame_of fun _ _=>rfl) ?_
 change wpStage _ _ _ _ _ _ _ _ (4+8) _ _ _
 refine stage_reads [0,1,2,3,5,6,7,8] 4 _ _ (by kernel_rfl) ?_
 change wpQuietIn _ _ _ _ (fun W'=>∃ x:SameAt W (fun k=>k < W.heap.size∧k≠w.heap.size+1+1),W'=x.W) _ _ _
 simp only [pick_cons,pick_nil,List.getElem?_cons_zero,List.getElem?_cons_succ,Option.elim_some]
 repeat (gi_big_quiet_step (fail))
 refine wpQuietIn_nil ?_
 refine stage_one 4 (by kernel_rfl) rfl ?_
 gi_wp2
 refine ⟨trivial,?_⟩
 refine (callsIn_wide.2 (rtimes_any n d' _ _ W.drew (HN.out.below HB.out) (HD'.out.below HB.out) (by omega) (by omega))).mono ?_
 rintro e w3 ⟨v3,rfl,hv3,hb3⟩
 obtain ⟨A3,c3,rfl,_,_,_⟩:=id hv3
 have HV3:=Lib.hid hv3
 have HB3:=Lib.hid (below_undrew hb3)
 clear hv3 hb3
 gi_wp2
 refine stage_post (isSame_below HB3.out (fun k hk=>hk.1)) ?_
 refine stage_one 9 (by kernel_rfl) rfl ?_
 gi_wp2
 refine ⟨trivial,?_⟩
 refine (callsIn_wide.2 (rtimes_any n' d _ _ w3 (HN'.out.below (HB.out.trans ((below_drew3 HB3.out).mono HB.out.size))) (HD.out.below (HB.out.trans ((below_drew3 HB3.out).mono HB.out.size))) (by omega) (by omega))).mono ?_
 rintro e w4 ⟨v4,rfl,hv4,hb4⟩
 obtain ⟨A4,c4,rfl,_,_,_⟩:=id hv4
 have HV4:=Lib.hid hv4
 have HV3:=Lib.hid (HV3.out.below hb4)
 have hB4:Below W.heap.size W w4:=HB3.out.trans (hb4.mono HB3.out.size)
 have HB4:=Lib.hid hB4
 clear hv4 hb4 hB4
 gi_wp2
 refine stage_post (isSame_below HB4.out (fun k hk=>hk.1)) ?_
 change wpStage _ _ _ _ _ _ _ _ (0+2) _ _ _
 refine stage_reads [10,11] 0 _ _ (by kernel_rfl) ?_
 change wpQuietIn _ _ _ _ (fun W'=>∃ x:SameAt W (fun k=>k < W.heap.size∧k≠w.heap.size+1+1),W'=x.W) _ _ _
 simp only [pick_cons,pick_nil,List.getElem?_cons_zero,List.getElem?_cons_succ,Option.elim_some]
 repeat (gi_big_quiet_step (fail))
 refine wpQuietIn_nil ?_
 refine stage_done (by kernel_rfl) ?_
 clear x0 x1 x2 y0 y1 y2
 have hsz:=HS.out
 obtain ⟨x0,x1,x2⟩:=rows3 (P0.out.below HB4.out (by omega))
 obtain ⟨y0,y1,y2⟩:=rows3 (P1.out.below HB4.out (by omega))
 clear hsz
 gi_upto_region 3 with fail
 have HB40:=Lib.hid (HB.out.trans ((below_drew3 HB4.out).mono HB.out.size))
 refine ⟨trivial,?_⟩
 refine (callsIn_wide.2 (rtimes_any d d' _ _ w4 (HD.out.below HB40.out) (HD'.out.below HB40.out) (by omega) (by omega))).mono ?_
 rintro e w5 ⟨v5,rfl,hv5,hb5⟩
 obtain ⟨A5,c5,rfl,_,_,_⟩:=id hv5
 have HV5:=Lib.hid hv5
 have HV3:=Lib.hid (HV3.out.below hb5)
 have HV4:=Lib.hid (HV4.out.below hb5)
 have hB5:Below W.heap.size W w5:=HB4.out.trans (hb5.mono HB4.out.size)
 have HB5:=Lib.hid hB5
 clear hv5 hb5 hB5 x0 x1 x2 y0 y1 y2
 have hsz:=HS.out
 have R0:=Lib.hid (P0.out.below HB5.out (by omega))
 have R1:=Lib.hid (P1.out.below HB5.out (by omega))
 have R2:=Lib.hid (P2.out.below HB5.out (by omega))
 obtain ⟨x0,x1,x2⟩:=rows3 R0.out
 obtain ⟨y0,y1,y2⟩:=rows3 R1.out
 clear hsz
 gi_upto_region 7 with fail
 refine ⟨trivial,?_⟩
 refine (callsIn_wide.2 (rorder_any (n*d') (n'*d) _ _ w5 HV3.out HV4.out (by omega) (by omega))).mono ?_
 rintro e w6 ⟨rfl,hb6⟩
 have HV3:=Lib.hid (HV3.out.below hb6)
 have HV4:=Lib.hid (HV4.out.below hb6)
 have HV5:=Lib.hid (HV5.out.below hb6)
 have hB6:Below W.heap.size W w6:=HB5.out.trans (hb6.mono HB5.out.size)
 have HB6:=Lib.hid hB6
 clear hb6 hB6 x0 x1 x2 y0 y1 y2
 have hsz:=HS.out
 have Q0:=Lib.hid (P0.out.below HB6.out (by omega))
 have Q1:=Lib.hid (P1.out.below HB6.out (by omega))
 have Q2:=Lib.hid (P2.out.below HB6.out (by omega))
 have h62:=HB6.out.size
 clear hsz
 gi_upto_region 7 with fail
 have hsz:=HS.out
 obtain ⟨x0,x1,x2⟩:=same_cells (S:=fun k=>k < w6.heap.size∧k≠w.heap.size+1+1) Q0.out ⟨by omega,by omega⟩
 obtain ⟨y0,y1,y2⟩:=same_cells (S:=fun k=>k < w6.heap.size∧k≠w.heap.size+1+1) Q1.out ⟨by omega,by omega⟩
 clear hsz
 refine wpIn_stage (IsSame w6 (fun k=>k < w6.heap.size∧k≠w.heap.size+1+1)) [0,1,2,3,5] [] hmx (by kernel_rfl) (isSame_of fun _ _=>rfl) ?_
 change wpStage _ _ _ _ _ _ _ _ (3+5) _ _ _
 refine stage_reads [0,1,2,3,5] 3 _ _ (by kernel_rfl) ?_
 change wpQuietIn _ _ _ _ (fun W'=>∃ x:SameAt w6 (fun k=>k < w6.heap.size∧k≠w.heap.size+1+1),W'=x.W) _ _ _
 simp only [pick_cons,pick_nil,List.getElem?_cons_zero,List.getElem?_cons_succ,Option.elim_some]
 repeat (gi_big_quiet_step (fail))
 refine wpQuietIn_nil ?_
 refine stage_one 4 (by kernel_rfl) rfl ?_
 gi_wp2
 refine ⟨trivial,?_⟩
 refine (callsIn_wide.2 (rminus_any (n*d') (n'*d) _ _ w6.drew HV3.out HV4.out (Nat.le_of_not_lt HLT.out) (by omega))).mono ?_
 rintro e w7 ⟨v7,rfl,hv7,hb7⟩
 have HV7:=Lib.hid hv7
 have HB7:=Lib.hid (below_undrew hb7)
 clear hv7 hb7
 gi_wp2
 refine stage_post (isSame_below HB7.out (fun k hk=>hk.1)) ?_
 refine stage_one 6 (by kernel_rfl) rfl ?_
 gi_wp2
 refine ⟨trivial,?_⟩
 refine (callsIn_wide.2 (rreduce_any m _ (d*d') _ _ w7 HV7.out (HV5.out.below HB7.out) HD0.out (Nat.le_trans (toL_len_mono (Nat.sub_le _ _)) (by omega)) (by omega))).mono ?_
 rintro e w8 ⟨v8,rfl,hv8,hb8⟩
 obtain ⟨b8,N8,D8,A8,c8,A8',c8',rfl,hn8,hd8,HP8⟩:=isQ_open hv8
 clear hv8
 have hb78:Below w6.heap.size w6 w8:=HB7.out.trans (hb8.mono HB7.out.size)
 have hsz:=HS.out
 obtain ⟨HR8,r0,s0,r1,s1,r2,s2⟩:=res_rowsQ Q2.out hb78 (by omega)
 have HN8:=Lib.hid hn8
 have HD8:=Lib.hid hd8
 have HB78:=Lib.hid hb78
 clear hn8 hd8 hb8 hb78 hsz
 gi_wp2
 refine stage_post (isSame_below HB78.out (fun k hk=>hk.1)) ?_
 refine stage_one 7 (by kernel_rfl) rfl ?_
 gi_wp2
 refine stage_post (isSame_of fun k hk=>(set3_heap k hk.2).trans (HB78.out.block k hk.1)) ?_
 refine stage_done (by kernel_rfl) ?_
 gi_wp2
 have hsz:=HS.out
 refine ret_q rfl rfl (by simp) (set3 HR8.out) ⟨_,rfl,?_,?_⟩
 ·exact isQ_close HP8 (isPartsI_mk (isNatI_set3 HN8.out HR8.out) (isNatI_set3 HD8.out HR8.out))
 ·refine set3_below (g:=w.heap.size+1+1) (HB.out.trans ((below_drew3 (HB6.out.trans (HB78.out.mono ?_))).mono ?_)) (by omega)
  ·exact HB6.out.size
  ·exact HB.out.size
theorem rplusQ_any (a b:Rat) (v v':Value) (w:World) (h:IsQ w v a) (h':IsQ w v' b) (l1:(toL (nm a)).length≤10000) (l2:(toL a.den).length≤10000) (l3:(toL (nm b)).length≤10000) (l4:(toL b.den).length≤10000) :
  Calls Tryz.prog 154 #[v,v'] w fun e w'=>∃ v2,e=.returned v2∧IsQ w' v2 (a+b)∧Below w.heap.size w w':=by
 have hd0:a.den*b.den≠0:=Nat.ne_of_gt (Nat.mul_pos (den_pos a) (den_pos b))
 by_cases hm:ng a=ng b
 ·rw [add_same hm]
  exact plus_same _ _ _ _ _ _ _ _ _ h h' hd0 hm l1 l2 l3 l4
 ·by_cases hlt:nm a*b.den < nm b*a.den
  ·rw [add_less hm hlt]
   exact plus_less _ _ _ _ _ _ _ _ _ h h' hd0 hm hlt l1 l2 l3 l4
  ·rw [add_more hm hlt]
   exact plus_more _ _ _ _ _ _ _ _ _ h h' hd0 hm hlt l1 l2 l3 l4
end Go.Proofs.YtigapglmipmbeaaGreatDoor
namespace Go.Proofs.YtigapglmipmbeaaGreatDoor
open Go.RowKit Go.Shelf
open Lim
theorem neg_true (N D:Nat) (A A':Option Addr) (c c':Nat) (w:World) (hn:IsNatI w (.slice A (toL N).length c) N) (hd:IsNatI w (.slice A' (toL D).length c') D) :
  Calls Tryz.prog 157 #[.agg #[.bool true,.slice A (toL N).length c,.slice A' (toL D).length c']] w fun e w'=>∃ v2,e=.returned v2∧IsPartsI w' v2 (!true&&decide (N≠0)) N D∧Below w.heap.size w w':=by
 have HN:=Lib.hid hn
 have HD:=Lib.hid hd
 have HB:=Lib.hid (fun o o'=>below_alloc (below_alloc (Below.refl w.heap.size w) o) o')
 have hlen:decide (((toL N).length:Int) > 0)=decide (N≠0):=by
  by_cases h:N=0
  ·subst h;simp [toL_zero]
  ·have:=toL_len_pos.2 h
   rw [decide_eq_true h,decide_eq_true (by omega)]
 clear hn hd
 by_cases h0:N=0
 ·have hl:decide (((toL N).length:Int) > 0)=false:=by rw [hlen,decide_eq_false (fun h=>h h0)]
  have HL:=Lib.hid (show decide (0 < (toL N).length)=false by rw [← hl];exact decide_eq_decide.2 (by omega))
  have HF:=Lib.hid (show decide (N≠0)=false from decide_eq_false (fun h=>h h0))
  clear hlen h0
  go_enter Tryz.func157,Tryz.ntmps157
  go_wp2
  refine ret_q rfl rfl (by simp) (Blk.new _ _ _) ⟨_,rfl,?_,HB.out _ _⟩
  rw [HF.out,Bool.and_false]
  try rw [HL.out]
  exact isPartsI_mk (HN.out.below (HB.out _ _)) (HD.out.below (HB.out _ _))
 ·have hl:decide (((toL N).length:Int) > 0)=true:=by rw [hlen,decide_eq_true h0]
  have HL:=Lib.hid (show decide (0 < (toL N).length)=true by rw [← hl];exact decide_eq_decide.2 (by omega))
  have HF:=Lib.hid (show decide (N≠0)=true from decide_eq_true h0)
  clear hlen h0
  go_enter Tryz.func157,Tryz.ntmps157
  go_wp2
  refine ret_q rfl rfl (by simp) (Blk.new _ _ _) ⟨_,rfl,?_,HB.out _ _⟩
  rw [HF.out,Bool.and_true]
  try rw [HL.out]
  exact isPartsI_mk (HN.out.below (HB.out _ _)) (HD.out.below (HB.out _ _))
theorem neg_false (N D:Nat) (A A':Option Addr) (c c':Nat) (w:World) (hn:IsNatI w (.slice A (toL N).length c) N) (hd:IsNatI w (.slice A' (toL D).length c') D) :
  Calls Tryz.prog 157 #[.agg #[.bool false,.slice A (toL N).length c,.slice A' (toL D).length c']] w fun e w'=>∃ v2,e=.returned v2∧IsPartsI w' v2 (!false&&decide (N≠0)) N D∧Below w.heap.size w w':=by
 have HN:=Lib.hid hn
 have HD:=Lib.hid hd
 have HB:=Lib.hid (fun o o'=>below_alloc (below_alloc (Below.refl w.heap.size w) o) o')
 have hlen:decide (((toL N).length:Int) > 0)=decide (N≠0):=by
  by_cases h:N=0
  ·subst h;simp [toL_zero]
  ·have:=toL_len_pos.2 h
   rw [decide_eq_true h,decide_eq_true (by omega)]
 clear hn hd
 by_cases h0:N=0
 ·have hl:decide (((toL N).length:Int) > 0)=false:=by rw [hlen,decide_eq_false (fun h=>h h0)]
  have HL:=Lib.hid (show decide (0 < (toL N).length)=false by rw [← hl];exact decide_eq_decide.2 (by omega))
  have HF:=Lib.hid (show decide (N≠0)=false from decide_eq_false (fun h=>h h0))
  clear hlen h0
  go_enter Tryz.func157,Tryz.ntmps157
  go_wp2
  refine ret_q rfl rfl (by simp) (Blk.new _ _ _) ⟨_,rfl,?_,HB.out _ _⟩
  rw [HF.out,Bool.and_false]
  try rw [HL.out]
  exact isPartsI_mk (HN.out.below (HB.out _ _)) (HD.out.below (HB.out _ _))
 ·have hl:decide (((toL N).length:Int) > 0)=true:=by rw [hlen,decide_eq_true h0]
  have HL:=Lib.hid (show decide (0 < (toL N).length)=true by rw [← hl];exact decide_eq_decide.2 (by omega))
  have HF:=Lib.hid (show decide (N≠0)=true from decide_eq_true h0)
  clear hlen h0
  go_enter Tryz.func157,Tryz.ntmps157
  go_wp2
  refine ret_q rfl rfl (by simp) (Blk.new _ _ _) ⟨_,rfl,?_,HB.out _ _⟩
  rw [HF.out,Bool.and_true]
  try rw [HL.out]
  exact isPartsI_mk (HN.out.below (HB.out _ _)) (HD.out.below (HB.out _ _))
theorem rnegQ_any (a:Rat) (v:Value) (w:World) (h:IsQ w v a) :
  Calls Tryz.prog 157 #[v] w fun e w'=>∃ v',e=.returned v'∧IsQ w' v' (-a)∧Below w.heap.size w w':=by
 obtain ⟨h1,h2,h3⟩:=neg_parts a
 obtain ⟨b,N,D,A,c,A',c',rfl,hn,hd,HP⟩:=isQ_open h
 obtain ⟨e1,e2,e3⟩:=HP.out
 unfold IsQ
 rw [h1,h2,h3,e1,e2,e3]
 cases b with
 | true=>exact neg_true N D A A' c c' w hn hd
 | false=>exact neg_false N D A A' c c' w hn hd
end Go.Proofs.YtigapglmipmbeaaGreatDoor
