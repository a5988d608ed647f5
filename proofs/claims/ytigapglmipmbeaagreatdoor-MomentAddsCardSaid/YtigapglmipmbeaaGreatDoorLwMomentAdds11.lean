/- Curves of moments in plain rationals: what Check, Of, Add, Fits, To and Best compute. -/
import Derived.Test.YtigapglmipmbeaaGreatDoorLwMomentAdds10
import Derived.Test.YtigapglmipmbeaaGreatDoorLwMomentAdds08
import Derived.ArgAppend
import Derived.Deep.AppendLies
set_option maxRecDepth 100000
set_option maxHeartbeats 16000000
open Go.Proofs.Tryz
namespace Go.Proofs.YtigapglmipmbeaaGreatDoor
open Go.RowKit Go.Shelf
open Lim
abbrev CQ:=List Rat × Rat
def a4t:List ByteArray→Nat
 | []=>0
 | a::l=>if errQ a.data.toList≠0 then errQ a.data.toList else a4t l
def errU(l:ByteArray):Nat:=if cmpQ (valQ l.data.toList) 0 < 0∨cmpQ (valQ l.data.toList) 1 > 0 then 2 else 0
def lowQ(ms:List ByteArray):Bool:=ms.any fun m=>decide (cmpQ (valQ m.data.toList) 1 < 0)
def errC(ms:List ByteArray)(l:ByteArray):Nat :=
 if a4t (ms++[l])≠0 then a4t (ms++[l]) else if lowQ ms then 2 else errU l
theorem a5R{L:List ByteArray}:a4t L=0↔∀ a∈L,errQ a.data.toList=0:=by
 induction L with
 | nil=>simp[a4t]
 | cons a L ih =>
  unfold a4t
  by_cases h:errQ a.data.toList=0
  ·rw[if_neg (by omega),ih];simp[h]
  ·rw[if_pos h];simp[h]
theorem a8d{l:ByteArray}:errU l=0↔0≤valQ l.data.toList∧valQ l.data.toList≤1:=by
 have a1:=a23 (valQ l.data.toList) 0;have a2:=a79 (valQ l.data.toList) 1;unfold errU
 split
 ·rename_i h
  constructor
  ·intro h2;cases h2
  ·intro h2
   rcases h with h|h
   ·have:=a1.1 h;grind
   ·have:=a2.1 h;grind
 ·rename_i h
  constructor
  ·intro _
   exact⟨Rat.not_lt.1 (fun h2=>h (.inl (a1.2 h2))),Rat.not_lt.1 (fun h2=>h (.inr (a2.2 h2)))⟩
  ·intro _;rfl
theorem a9l{ms:List ByteArray}:lowQ ms=false↔∀ m∈ms,1≤valQ m.data.toList:=by
 unfold lowQ;rw[List.any_eq_false]
 constructor
 ·intro h m hm
  have:=h m hm;rw[decide_eq_true_iff,a23]at this;exact Rat.not_lt.1 this
 ·intro h m hm
  rw[decide_eq_true_iff,a23];exact Rat.not_lt.2 (h m hm)
structure a5j (ms:List ByteArray) (l:ByteArray) (c:CQ):Prop where
 len:ms.length=7
 same:c.1.length=7
 m:∀ (i:Nat) a q,ms[i]?=some a→c.1[i]?=some q→IsT a q∧1≤q
 l:IsT l c.2
 zero:0≤c.2
 top:c.2≤1
structure OkC (c:CQ):Prop where
 len:c.1.length=7
 m:∀ q∈c.1,fits q=true∧1≤q
 l:fits c.2=true
 zero:0≤c.2
 top:c.2≤1
def valC(ms:List ByteArray)(l:ByteArray):CQ:=(ms.map fun m=>valQ m.data.toList,valQ l.data.toList)
theorem b4O{ms:List ByteArray}{l:ByteArray}(hl:ms.length=7)(h:errC ms l=0):a5j ms l (valC ms l):=by
 unfold errC at h
 by_cases h1:a4t (ms++[l])=0
 ·rw[if_neg (by omega)]at h
  have h1':=a5R.1 h1
  by_cases h2:lowQ ms=true
  ·rw[if_pos h2]at h;cases h
  ·rw[if_neg h2]at h
   have h2':=a9l.1 (by simpa using h2);have h3:=a8d.1 h;refine⟨hl,by simpa[valC]using hl,?_,IsT.of (h1' l (by simp)),h3.1,h3.2⟩;intro i a q ha hq;unfold valC at hq;rw[List.getElem?_map,ha]at hq
   cases hq
   have hm:=List.mem_of_getElem? ha;exact⟨IsT.of (h1' a (by simp[hm])),h2' a hm⟩
 ·rw[if_pos h1]at h;exact absurd h h1
theorem a5j.ok{ms:List ByteArray}{l:ByteArray}{c:CQ}(h:a5j ms l c):OkC c:=by
 refine⟨h.same,fun q hq=>?_,h.l.fits,h.zero,h.top⟩;obtain⟨i,hi⟩:=List.getElem?_of_mem hq;have hlt:i < ms.length:=by
  have:=(List.getElem?_eq_some_iff.1 hi).1;have:=h.len;have:=h.same
  omega
 have:=h.m i _ q (List.getElem?_eq_getElem hlt) hi;exact⟨this.1.fits,this.2⟩
theorem a5j.texts{ms:List ByteArray}{l:ByteArray}{c:CQ}(h:a5j ms l c):ms=c.1.map rT∧l=rT c.2:=by
 refine⟨?_,h.l.text⟩
 apply List.ext_getElem?
 intro i;rw[List.getElem?_map]
 by_cases hi:i < 7
 ·have h1:i < ms.length:=by rw[h.len];exact hi
  have h2:i < c.1.length:=by rw[h.same];exact hi
  rw[List.getElem?_eq_getElem h1,List.getElem?_eq_getElem h2];have:=h.m i _ _ (List.getElem?_eq_getElem h1) (List.getElem?_eq_getElem h2);rw[this.1.text]
  rfl
 ·rw[List.getElem?_eq_none (by rw[h.len];omega),List.getElem?_eq_none (by rw[h.same];omega)]
  rfl
theorem a5j.err{ms:List ByteArray}{l:ByteArray}{c:CQ}(h:a5j ms l c):errC ms l=0:=by
 have hm:∀ a∈ms,errQ a.data.toList=0∧1≤valQ a.data.toList:=by
  intro a ha;obtain⟨i,hi⟩:=List.getElem?_of_mem ha;have hlt:i < c.1.length:=by
   have:=(List.getElem?_eq_some_iff.1 hi).1;have:=h.len;have:=h.same
   omega
  have:=h.m i a _ hi (List.getElem?_eq_getElem hlt);exact⟨this.1.err,by rw[this.1.val];exact this.2⟩
 have h1:a4t (ms++[l])=0:=by
  rw[a5R];intro a ha
  rcases List.mem_append.1 ha with h2|h2
  ·exact(hm a h2).1
  ·rw[List.mem_singleton.1 h2];exact h.l.err
 unfold errC;rw[if_neg (by omega),a9l.2 (fun a ha=>(hm a ha).2),if_neg (by decide)];exact a8d.2 (by rw[h.l.val];exact⟨h.zero,h.top⟩)
theorem b3k{w:World}{g:Nat}{t:TypeId}{v:Value}(h:Blk w g t #[v]):w.setCell ⟨g,0,none⟩ v=w:=by
 have h2:(w.setCell ⟨g,0,none⟩ v).heap=w.heap:=by
  apply Array.ext_getElem?
  intro i
  by_cases e:i=g
  ·subst e
   have h1:Blk (w.setCell ⟨i,0,none⟩ v) i t #[v]:=h.set_ 0 v;exact Eq.trans h1 (Eq.symm h)
  ·exact Below.heap_setCell w ⟨g,0,none⟩ v i e
 obtain⟨heap,tape,drawn,os,output⟩:=w;unfold World.setCell at h2 ⊢
 dsimp only at h2 ⊢
 rw[h2]
theorem a5H{a:ByteArray}{p:Rat}(w:World)(ha:IsT a p)(hr:Res w) :
  Calls prog 139 #[.string a] w fun e w'=>e=.returned (.bool (decide (0≤cmpQ p 1)))∧Below w.heap.size w w':=by
 have HC:=b9W (cmpT w ha IsT.one rfl hr);generalize cmpQ p 1=k at HC ⊢;clear ha hr
 go_enter func139,ntmps139
 go_wp2_with (go_at_call 116;refine HC.out.mono ?_;rintro e w1 ⟨rfl,hb1⟩;have HB:=b9W hb1;clear hb1)
 go_ret
 exact⟨rfl,HB.out⟩
theorem b8_(p:Rat):sgQ p < 0↔cmpQ p 0 < 0:=by
 have e1:cmpQ p 0 < 0↔p.num < 0:=by
  rw[a5v,show (0:Rat).num=0 from rfl,show (0:Rat).den=1 from rfl]
  simp only[Int.zero_mul,Int.natCast_one,Int.mul_one]
  split
  ·rename_i h;exact⟨fun _=>h,fun _=>by omega⟩
  ·rename_i h
   constructor
   ·intro h2;split at h2<;>omega
   ·intro h2;exact absurd h2 h
 rw[e1];unfold sgQ nm ng
 by_cases h0:p.num=0
 ·rw[h0];simp
 ·rw[if_neg (by omega)]
  by_cases h:p.num < 0
  ·rw[decide_eq_true h];simp[h]
  ·rw[decide_eq_false h];simp[h]
theorem a8j{a:ByteArray}{p:Rat}(w:World)(ha:IsT a p)(hr:Res w) :
  Calls prog 158 #[.string a] w fun e w'=>e=.returned (.int .i64 (errU a:Int))∧Below w.heap.size w w':=by
 have HS:=b9W (b2v a w ha.size hr);have HC:=b9W (fun w hr=>cmpT w ha IsT.one rfl hr);have HR:=b9W hr;unfold oneI at HS;rw[if_neg (by rw[ha.err];decide)]at HS;have e0:errU a=if sgQ p < 0∨cmpQ p 1 > 0 then 2 else 0:=by
  unfold errU;rw[ha.val]
  simp only[b8_]
 rw[ha.val]at HS;rw[e0];unfold resI at HS
 dsimp only at HS
 rw[show (((0:Nat):Int))=0 from rfl]at HS;generalize cmpQ p 1=k at *;generalize sgQ p=s at *;clear ha hr e0
 by_cases h1:s < 0
 ·rw[if_pos (.inl h1)]
  have d1:decide (s < 0)=true:=decide_eq_true h1;clear h1
  go_enter func158,ntmps158
  go_wp2_with (first
   | (go_at_call 187;refine HS.out.mono ?_;rintro e w1 ⟨rfl,hb⟩;have HB1:=b9W hb;have HR1:=b9W (HR.out.below hb);clear hb)
   | (go_at_call 116;refine(HC.out _ HR1.out).mono ?_;rintro e w2 ⟨rfl,hb⟩;have HB2:=b9W (HB1.out.trans (hb.mono HB1.out.size));clear hb))
  go_ret
  exact⟨rfl,HB2.out⟩
 ·have d1:decide (s < 0)=false:=decide_eq_false h1
  by_cases h2:0 < k
  ·rw[if_pos (.inr h2)]
   have d2:decide (0 < k)=true:=decide_eq_true h2;clear h1 h2
   go_enter func158,ntmps158
   go_wp2_with (first
    | (go_at_call 187;refine HS.out.mono ?_;rintro e w1 ⟨rfl,hb⟩;have HB1:=b9W hb;have HR1:=b9W (HR.out.below hb);clear hb)
    | (go_at_call 116;refine(HC.out _ HR1.out).mono ?_;rintro e w2 ⟨rfl,hb⟩;have HB2:=b9W (HB1.out.trans (hb.mono HB1.out.size));clear hb))
   go_ret
   exact⟨rfl,HB2.out⟩
  ·rw[if_neg (by rintro (h|h);exact h1 h;exact h2 h)]
   have d2:decide (0 < k)=false:=decide_eq_false h2;clear h1 h2
   go_enter func158,ntmps158
   go_wp2_with (first
    | (go_at_call 187;refine HS.out.mono ?_;rintro e w1 ⟨rfl,hb⟩;have HB1:=b9W hb;have HR1:=b9W (HR.out.below hb);clear hb)
    | (go_at_call 116;refine(HC.out _ HR1.out).mono ?_;rintro e w2 ⟨rfl,hb⟩;have HB2:=b9W (HB1.out.trans (hb.mono HB1.out.size));clear hb))
   go_ret
   exact⟨rfl,HB2.out⟩
def Step(F:FuncId)(a b r:ByteArray):Prop:=∀ w,Res w→Calls prog F #[.string a,.string b] w fun e w'=>e=.returned (.tuple #[.string r,.int .i64 0])∧Below w.heap.size w w'
theorem do_ok(F:FuncId)(hrun:Runs F){a b r:ByteArray}(h:Nat)(w:World)(hk:Blk w h 157 #[.int .i64 0])(hr:Res w)(hF:Step F a b r) :
  Calls prog 140 #[.pointer (some ⟨h,0,none⟩),.func (.func F) #[] #[],.string a,.string b] w fun e w'=>e=.returned (.string r)∧Below w.heap.size w w':=by
 have c0:=cell0 hk;have HK:=b9W hk;have HF:=b9W (hF w hr);have hrn:=hrun;unfold Runs at hrn;clear hk hr hF hrun
 go_enter func140,ntmps140
 go_wp2;refine HF.out.mono ?_;rintro e w1 ⟨rfl,hb⟩;have HK1:=b9W (HK.out.below hb HK.out.lt);have HB:=b9W hb;have c1:=cell0 HK1.out;have z1:=HK1.out.frozen 0;clear hb c0;go_wp2
 go_ret
 rw[b3k HK1.out];exact⟨rfl,HB.out⟩
theorem pow_ok{a r:ByteArray}{p:Rat}{n:Int}(h:Nat)(w:World)(hk:Blk w h 157 #[.int .i64 0])(ha:IsT a p)(h0:¬ (n < 0∧p=0))(hc:IsT r (p ^ n))(h1:-9223372036854775808≤n)(h2:n≤9223372036854775807)(hr:Res w) :
  Calls prog 141 #[.pointer (some ⟨h,0,none⟩),.string a,.int .i64 n] w fun e w'=>e=.returned (.string r)∧Below w.heap.size w w':=by
 have c0:=cell0 hk;have HK:=b9W hk;have HF:=b9W (powT w ha h0 hc h1 h2 hr);clear hk hr ha h0 hc h1 h2
 go_enter func141,ntmps141
 go_wp2_with (go_at_call 135;refine HF.out.mono ?_;rintro e w1 ⟨rfl,hb⟩;have HK1:=b9W (HK.out.below hb HK.out.lt);have HB:=b9W hb;have c1:=cell0 HK1.out;have z1:=HK1.out.frozen 0;clear hb c0)
 go_ret
 rw[b3k HK1.out];exact⟨rfl,HB.out⟩
theorem a5i{F:Fence}{n:Nat}{P:Program}(w:World){ops:Array Oper}{rest:List Oper}{o:Oper}{a:Act}{Q:Exit→Act→World→Prop}
  (hg:o.guard=none) (s x:Operand) (t:TypeId) (hop:o.op=Op.call { callee:=Callee.builtin Builtin.append,args:=#[s,x],argTypes:=#[t,t] })
  (e:TypeId) (i:TypeInfo) (z:Value) (size bytes:Nat) (h1:P.underlying t=some (.slice e)) (h2:P.info? e=some i) (h3:i.zero=some z) (h4:i.size=size) (h5:i.bytes=bytes) (h6:z.cells.size=size) (h7:0 < size)
  (b:Addr) (k cap:Nat) (olds:List Value) (hs:a.eval s=.slice (some b) k cap) (hlo:olds.length=k*size) (holds:∀ j u,olds[j]?=some u→w.cell? (b.add j)=some u)
  (ad:Addr) (m c:Nat) (news:List Value) (hx:a.eval x=.slice (some ad) m c) (hn:news.length=m*size) (hc:∀ j u,news[j]?=some u→w.cell? (ad.add j)=some u)
  (hfull:cap < k+m) (b1:k+m≤maxLen) (b2:(k+m)*bytes≤140737488355328)
  (hK:∀ v' w',w'.ownsRow w.heap.size e size v' (k+m) (olds++news)→w.grownBy w' none→wpListIn F n P ops Q rest (a.put o.dst v') w') :
  wpListIn F n P ops Q (o::rest) a w:=by
 refine wpListIn_plain hg fun K hK'=>?_;obtain⟨v',w',hrun,r1,r2⟩:=run_append_arg_grows (P:=P) w t o.type e i z size bytes h1 h2 h3 h4 h5 h6 h7 b k cap olds hlo holds ad m c news hn hc hfull b1 b2;unfold Oper.wpIn;refine⟨?_,?_⟩
 ·simp[Oper.about,hop,resolve,Target.leads,Sem.run_pure]
 ·rw[Oper.semAt_plain F _ _ (by rw[hop];intro c hc';cases hc')]
  simp[execOp,hop,resolve,invoke,builtin,hs,hx,hrun,Result.andThen]
  exact hK' _ _ (hK v' w' r1 r2)
end Go.Proofs.YtigapglmipmbeaaGreatDoor
namespace Go.Proofs.YtigapglmipmbeaaGreatDoor
open Go.RowKit Go.Shelf
open Lim
attribute [local go_sem] Oper.semAt_some
theorem Tryz.infoN:(prog.info? 23).map (fun i=>(i.zero,i.size,i.bytes))=some (some (.string ⟨#[]⟩),1,16):=by kernel_rfl
structure MAt (w:World) (c:CT) (W:World):Prop where
 c:CBlk W w.heap.size c
 e:Blk W (w.heap.size+1) 32 #[.int .i64 0]
 below:Below w.heap.size w W
theorem MAt.later{w W W':World}{c:CT}(h:MAt w c W)(hb:Below W.heap.size W W'):MAt w c W' :=
 ⟨h.c.later hb,h.e.below hb h.e.lt,h.below.trans (hb.mono h.below.size)⟩
theorem MAt.new(w:World)(c:CT):MAt w c ((w.alloc (.cells #[.string (c 0),.string (c 1),.string (c 2),.string (c 3),.string (c 4),.string (c 5),.string (c 6),.string (c 7)] 59)).alloc (.cells #[.int .i64 0] 32)):=by
 have k1:=CBlk.new w c;have k2:=Blk.new (w.alloc (.cells #[.string (c 0),.string (c 1),.string (c 2),.string (c 3),.string (c 4),.string (c 5),.string (c 6),.string (c 7)] 59)) 32 #[.int .i64 0];rw[World.size_alloc]at k2;exact⟨k1.alloc _,k2,a0d (a0d (Below.refl _ _) _) _⟩
def b9s(c:CT):List Value:=[.string (c 0),.string (c 1),.string (c 2),.string (c 3),.string (c 4),.string (c 5),.string (c 6)]
theorem b36{W:World}{g:Nat}{c:CT}(h:CBlk W g c):∀ j u,(b9s c)[j]?=some u→W.cell? ((⟨g,0,none⟩:Addr).add j)=some u:=by
 intro j u hj;have hlt:j < 7:=(List.getElem?_eq_some_iff.1 hj).1;have e:(⟨g,0,none⟩:Addr).add j=⟨g,j,none⟩:=by unfold Addr.add;split<;>simp_all
 rw[e,h.cell (by omega)]
 match j,hlt,hj with
 | 0,_,hj=>exact hj
 | 1,_,hj=>exact hj
 | 2,_,hj=>exact hj
 | 3,_,hj=>exact hj
 | 4,_,hj=>exact hj
 | 5,_,hj=>exact hj
 | 6,_,hj=>exact hj
theorem b47{W:World}{g:Nat}{t:TypeId}{v:Value}(h:Blk W g t #[v]):∀ j u,[v][j]?=some u→W.cell? ((⟨g,0,none⟩:Addr).add j)=some u:=by
 intro j u hj;have e:(⟨g,0,none⟩:Addr).add j=⟨g,j,none⟩:=by unfold Addr.add;split<;>simp_all
 rw[e,h.cell]
 match j,hj with
 | 0,hj=>exact hj
def RowT(W:World)(g:Nat)(c:CT):Prop:=∀ k,k < 8→W.cell? ⟨g,k,none⟩=some (.string (c k))
theorem b9c{W:World}{base e g cap:Nat}{c:CT}(h:W.ownsRow base e 1 (.slice (some ⟨g,0,none⟩) (7+1) cap) (7+1) (b9s c++[.string (c 7)])):RowT W g c:=by
 intro k hk;have h2:=h.cells (g:=g) rfl k (.string (c k)) (by
  match k,hk with
  | 0,_=>rfl
  | 1,_=>rfl
  | 2,_=>rfl
  | 3,_=>rfl
  | 4,_=>rfl
  | 5,_=>rfl
  | 6,_=>rfl
  | 7,_=>rfl)
 rwa [show (⟨g,0,none⟩:Addr).add k=⟨g,k,none⟩ by unfold Addr.add;split<;>simp_all]at h2
theorem RowT.later{W W':World}{g:Nat}{c:CT}(h:RowT W g c)(hg:g < W.heap.size)(hb:Below W.heap.size W W'):RowT W' g c:=fun k hk=>(hb.cell (p:=⟨g,k,none⟩) hg).trans (h k hk)
def a4C(c:CT):Nat:=errC [c 0,c 1,c 2,c 3,c 4,c 5,c 6] (c 7)
theorem b1H:∀ {L:List ByteArray} {k:Nat} {x:ByteArray},(∀ j y,j < k→L[j]?=some y→errQ y.data.toList=0)→L[k]?=some x→errQ x.data.toList≠0→a4t L=errQ x.data.toList
 | [],_,_,_,h,_=>by simp at h
 | a::l,0,x,_,h,hn=>by
  cases h
  unfold a4t;rw[if_pos hn]
 | a::l,k+1,x,h0,h,hn=>by
  unfold a4t;rw[if_neg (by have:=h0 0 a (by omega) rfl;omega)];exact b1H (fun j y hj hy=>h0 (j+1) y (by omega) hy) h hn
theorem eight(c:CT){k:Nat}(hk:k < 8):[c 0,c 1,c 2,c 3,c 4,c 5,c 6,c 7][k]?=some (c k):=by
 match k,hk with
 | 0,_=>rfl
 | 1,_=>rfl
 | 2,_=>rfl
 | 3,_=>rfl
 | 4,_=>rfl
 | 5,_=>rfl
 | 6,_=>rfl
 | 7,_=>rfl
theorem b1c{c:CT}{x:ByteArray}(h:x∈[c 0,c 1,c 2,c 3,c 4,c 5,c 6]):∃ i,i < 7∧x=c i:=by
 simp only[List.mem_cons,List.not_mem_nil,or_false]at h
 rcases h with h|h|h|h|h|h|h
 ·exact⟨0,by omega,h⟩
 ·exact⟨1,by omega,h⟩
 ·exact⟨2,by omega,h⟩
 ·exact⟨3,by omega,h⟩
 ·exact⟨4,by omega,h⟩
 ·exact⟨5,by omega,h⟩
 ·exact⟨6,by omega,h⟩
theorem b55(c:CT){i:Nat}(hi:i < 7):c i∈[c 0,c 1,c 2,c 3,c 4,c 5,c 6]:=by
 match i,hi with
 | 0,_=>simp
 | 1,_=>simp
 | 2,_=>simp
 | 3,_=>simp
 | 4,_=>simp
 | 5,_=>simp
 | 6,_=>simp
theorem b2M{c:CT}{k:Nat}(hk:k < 8)(h:∀ j,j < k→errQ (c j).data.toList=0)(hn:errQ (c k).data.toList≠0):a4C c=errQ (c k).data.toList:=by
 unfold a4C errC;have e:a4t ([c 0,c 1,c 2,c 3,c 4,c 5,c 6]++[c 7])=errQ (c k).data.toList:=b1H (fun j y hj hy=>by
  have h2:=eight c (k:=j) (by omega);have h3:y=c j:=Option.some.inj (hy.symm.trans h2);rw[h3];exact h j hj) (eight c hk) hn
 rw[e,if_pos hn]
theorem a9Q{c:CT}(h:∀ j,j < 8→errQ (c j).data.toList=0):a4t ([c 0,c 1,c 2,c 3,c 4,c 5,c 6]++[c 7])=0:=by
 rw[a5R];intro a ha
 rcases List.mem_append.1 ha with h1|h1
 ·obtain⟨i,hi,rfl⟩:=b1c h1
  exact h i (by omega)
 ·rw[List.mem_singleton.1 h1]
  exact h 7 (by omega)
theorem b4R{c:CT}(h:∀ j,j < 8→errQ (c j).data.toList=0)(hl:∃ i,i < 7∧cmpQ (valQ (c i).data.toList) 1 < 0):a4C c=2:=by
 unfold a4C errC;obtain⟨i,hi,hn⟩:=hl;rw[if_neg (by rw[a9Q h];decide),if_pos];unfold lowQ;rw[List.any_eq_true];exact⟨c i,b55 c hi,decide_eq_true hn⟩
theorem b5L{c:CT}(h:∀ j,j < 8→errQ (c j).data.toList=0)(hl:∀ i,i < 7→0≤cmpQ (valQ (c i).data.toList) 1):a4C c=errU (c 7):=by
 unfold a4C errC;rw[if_neg (by rw[a9Q h];decide),if_neg];unfold lowQ;rw[List.any_eq_true];rintro⟨x,hx,hd⟩;obtain⟨i,hi,rfl⟩:=b1c hx;have h1:=of_decide_eq_true hd;have h2:=hl i hi
 omega
theorem a4D{F:Fence}{n:Nat}{P:Program}{fn:Func}{tmps:Array Value}{R:Ending→World→Prop}{w:World}(h:∃ v,(results fn tmps).run P w=.ok v w∧R (.returned v) w):bodyPostM F n P fn R .ret { tmps:=tmps,defers:=[] } w:=by
 obtain⟨v,hr,hR⟩:=h;exact⟨v,hr,hR⟩
theorem a3J(c:CT)(w:World)(hs:∀ k,k < 8→(c k).size≤270000)(hr:Res w) :
  Calls prog 137 #[.agg #[.string (c 0),.string (c 1),.string (c 2),.string (c 3),.string (c 4),.string (c 5),.string (c 6),.string (c 7)]] w fun e w'=>e=.returned (.int .i64 (a4C c:Int))∧Below w.heap.size w w':=by
 have H:=MAt.new w c;have HR:=b9W hr;have HS:=b9W hs;obtain⟨i0,hi,hz0,hz1,hz2⟩:=info_parts Tryz.infoN;clear hr hs;refine(callsIn_wide (n:=3)).1 ?_;have h1:1≤3:=by omega
 have hmx:prog.follows .mixedOrders=true:=by kernel_rfl
 refine callsIn_of_wp_marks func137 rfl trivial ?_ rfl
 simp only[ntmps137,List.size_toArray,List.length_cons,List.length_nil,Nat.reduceAdd,Nat.reduceSub,Array.replicate_succ,Array.replicate_zero,List.push_toArray,List.append_toArray,List.nil_append,List.cons_append]
 gi_upto_region 1 with fail
 generalize (w.alloc (.cells #[.string (c 0),.string (c 1),.string (c 2),.string (c 3),.string (c 4),.string (c 5),.string (c 6),.string (c 7)] 59)).alloc (.cells #[.int .i64 0] 32)=W at *;have hlc:=H.c.lt;have x7:∀ x:a0n W (fun k=>k < W.heap.size),x.W.cell? ⟨w.heap.size,7,none⟩=some (.string (c 7)):=fun x=>x.cell hlc (H.c.cell (by omega));have HH:=b9W H;clear H hlc;refine a0o (a0R W (fun k=>k < W.heap.size)) [0,1,2,3,7] [] hmx (by kernel_rfl) (a0g fun _ _=>rfl) ?_;change a0l _ _ _ _ _ _ _ _ (3+5) _ _ _;refine a0e [0,1,2,3,7] 3 _ _ (by kernel_rfl) ?_;change wpQuietIn _ _ _ _ (fun W'=>∃ x:a0n W (fun k=>k < W.heap.size),W'=x.W) _ _ _
 simp only[a0h,a0m,List.getElem?_cons_zero,List.getElem?_cons_succ,Option.elim_some]
 repeat (gi_big_quiet_step (fail))
 refine wpQuietIn_nil ?_;refine a0c 4 (by kernel_rfl) rfl ?_;gi_wp2;have HA:=b9W (a0x (a0d (Below.refl W.heap.size W) (.cells #[.string (c 7)] 23)));have KA:=b9W (Blk.new W 23 #[.string (c 7)]).drew;generalize (W.alloc (.cells #[.string (c 7)] 23)).drew=W1 at *;refine a0b (a0a HA.out (fun k hk=>hk)) ?_;refine a0c 5 (by kernel_rfl) rfl ?_;refine a5i _ rfl _ _ 178 rfl 23 i0 _ 1 16 underlying178 hi hz0 hz1 hz2 rfl (by decide) ⟨w.heap.size,0,none⟩ 7 7 (b9s c) rfl rfl (b36 (HH.out.c.below HA.out HH.out.c.lt)) ⟨W.heap.size,0,none⟩ 1 1 [.string (c 7)] rfl rfl (b47 KA.out) (by omega) (by unfold maxLen;omega) (by omega) ?_;intro v2 W2 hown hgrow;obtain⟨g2,cap,rfl,-,hlt2⟩:=hown.form (by omega);have HB2:=b9W (HA.out.grown hgrow HA.out.size (fun k e=>by cases e));have HROW:=b9W (b9c hown);clear hown hgrow;gi_wp2;refine a0b (a0a HB2.out (fun k hk=>hk)) ?_;refine a0c 6 (by kernel_rfl) rfl ?_;gi_wp2;refine a0b (a0a HB2.out (fun k hk=>hk)) ?_;refine a0i (by kernel_rfl) ?_;have HM:=b9W (HH.out.later HB2.out);gi_wp2
 gi_loopw [15] (fun v15 wr=>∃ k:Nat,k≤8∧v15=.int .i64 (k:Int)∧Hid (∀ j,j < k→errQ (c j).data.toList=0)∧Hid (MAt w c wr)∧Hid (RowT wr g2 c∧g2 < wr.heap.size)) (fun v15 _=>8 - (intOf v15).toNat)
 case atStart=>exact⟨0,by omega,rfl,b9W (fun j h=>absurd h (by omega)),HM,b9W ⟨HROW.out,hlt2⟩⟩
 case round =>
  obtain⟨k,hk,rfl,HE,HMr,HRr⟩:=hrel;clear HM HROW hlt2;have HM:=HMr;have HRW:=HRr;clear HMr HRr
  rcases Nat.lt_or_ge k 8 with hlt|hge
  ·have hck:=HRW.out.1 k hlt
   have hlt':(k:Int) < 8:=by omega
   have hF:=a3j (c k) wr (HS.out k hlt) (HR.out.below HM.out.below)
   by_cases he:errQ (c k).data.toList=0
   ·rw[he]at hF
    have HF:=b9W hF;have HE1:=b9W he;clear hF he
    gi_wp2_with (refine⟨trivial,?_⟩;gi_at_call 138;refine(callsIn_wide.2 HF.out).mono ?_;rintro e w1 ⟨rfl,hb⟩;have HM1:=b9W (HM.out.later hb);have HRW1:=b9W (And.intro (HRW.out.1.later HRW.out.2 hb) (Nat.lt_of_lt_of_le HRW.out.2 hb.size));clear hb)
    go_roundw
    case rel=>exact⟨k+1,hlt,by go_num,b9W (fun j hj=>by
     rcases Nat.lt_or_ge j k with h|h
     ·exact HE.out j h
     ·obtain rfl:j=k:=by omega
      exact HE1.out),HM1,HRW1⟩
    case measure=>simp[intOf];omega
   ·have HN:=b9W he
    obtain⟨z,hz⟩:∃ z:Int,(errQ (c k).data.toList:Int)=z:=⟨_,rfl⟩;rw[hz]at hF;have hne:(z==0)=false:=by rw[beq_eq_false_iff_ne];omega
    have HZ:=b9W hz;have HF:=b9W hF;clear hF he hz
    gi_wp2_with (refine⟨trivial,?_⟩;gi_at_call 138;refine(callsIn_wide.2 HF.out).mono ?_;rintro e w1 ⟨rfl,hb⟩;have HM1:=b9W (HM.out.later hb);have ce:=cell0 HM1.out.e;have ze:=HM1.out.e.frozen 0;clear hb)
    refine a4D ?_;exact⟨_,a6I rfl rfl (a8k (HM1.out.e.set_ 0 (.int .i64 z))),by rw[b2M hlt HE.out HN.out,HZ.out],HM1.out.below.setCell (Nat.le_succ _) _⟩
  ·obtain rfl:k=8:=by omega
   obtain⟨c0,c1,c2,c3,c4,c5,c6,c7⟩:=HM.out.c.cells
   gi_wp2_with (refine⟨trivial,?_⟩;gi_at_call 151;refine(a8N Fence.wide 2 trivial rfl c _).mono ?_;rintro e w' ⟨rfl,rfl⟩;clear c0 c1 c2 c3 c4 c5 c6 c7)
   have hbx:=CBlk.new wr c;have hm:=HM.out.later (a0d (Below.refl _ _) (.cells #[.string (c 0),.string (c 1),.string (c 2),.string (c 3),.string (c 4),.string (c 5),.string (c 6),.string (c 7)] 59));have hwr:=HM.out.below.size;have hlc:=HM.out.c.lt;have hle:=HM.out.e.lt;generalize wr.alloc (.cells #[.string (c 0),.string (c 1),.string (c 2),.string (c 3),.string (c 4),.string (c 5),.string (c 6),.string (c 7)] 59)=WR at *;generalize wr.heap.size=gb at *;have hgb:=hbx.lt;clear HRW hk;refine a1x rfl h1 (gf:=230) (lb:=#[.pointer (some ⟨gb,0,none⟩)]) rfl trivial a7Z
    (a7n Fence.wide 2 trivial rfl (by omega) gb c) (fun _=>rfl)
    (fun pre W=>(∀ i∈pre,i < 7→0≤cmpQ (valQ (c i).data.toList) 1)∧CBlk W gb c∧MAt w c W)
    (fun cd pre W=>cd=.ret∧(∃ i,i < 7∧cmpQ (valQ (c i).data.toList) 1 < 0)∧Blk W (w.heap.size+1) 32 #[.int .i64 2]∧Below w.heap.size w W)
    ?hG ?hI ?hIx ⟨(fun _ h=>(by cases h)),hbx,hm⟩ ?round ?done ?stop
   case hG=>rintro pre W ⟨_,h,_⟩;exact h
   case hI =>
    rintro s W W' row ⟨q1,q2,q3⟩ hg hr;exact⟨q1,Blk.own_ q2 hg hr,Blk.own_ q3.c hg hr,Blk.own_ q3.e hg hr,a2V q3.below (Nat.le_refl _) (by have:=hm.below.size;omega) hg hr⟩
   case hIx =>
    rintro cd s W W' row ⟨q1,q2,q3,q4⟩ hg hr;exact⟨q1,q2,Blk.own_ q3 hg hr,a2V q4 (Nat.le_refl _) (by have:=hm.below.size;omega) hg hr⟩
   case round =>
    rintro l pre i W K hi hnx hK;have HNX:=b9W hnx;clear hnx hbx hm;gi_wp2;refine hK _ _ (KeepsOthers.refl _) hi ?_;clear hK hi;rintro Wb _ ⟨hp,hbx,hm⟩;have HT:=IsT.of (HE.out i (by have:=HNX.out.2;omega));have HL:=b9W (a5H Wb HT (HR.out.below hm.below));have HP:=b9W hp;have HBX:=b9W hbx;have HMM:=b9W hm;clear hp hbx hm HT;generalize hk:cmpQ (valQ (c i).data.toList) 1=k at HL;have HKK:=b9W hk;clear hk
    by_cases hge:0≤k
    ·have d1:decide (0≤k)=true:=decide_eq_true hge
     have HGE:=b9W hge;clear hge
     gi_wp2_with (refine⟨trivial,?_⟩;gi_at_call 139;refine(CallsIn.inRound l (callsIn_wide.2 HL.out)).mono ?_;rintro e w1 ⟨rfl,hb⟩;have HB1:=b9W hb;clear hb)
     exact⟨a2p HB1.out,fun j hj hj7=>by
      rcases List.mem_append.1 hj with h|h
      ·exact HP.out j h hj7
      ·obtain rfl:=List.mem_singleton.1 h
       rw[HKK.out];exact HGE.out,HBX.out.later HB1.out,HMM.out.later HB1.out⟩
    ·have d1:decide (0≤k)=false:=decide_eq_false hge
     have HGE:=b9W hge;clear hge
     gi_wp2_with (refine⟨trivial,?_⟩;gi_at_call 139;refine(CallsIn.inRound l (callsIn_wide.2 HL.out)).mono ?_;rintro e w1 ⟨rfl,hb⟩;have HB1:=b9W hb;have hm1:=HMM.out.later hb;have ce:=cell0 hm1.e;have ze:=hm1.e.frozen 0;clear hb)
     exact⟨(a2p HB1.out).trans (KeepsOthers.setCell _ _ _),rfl,⟨i,HNX.out.2,by rw[HKK.out];have:=HGE.out;omega⟩,hm1.e.set_ 0 (.int .i64 2),hm1.below.setCell (Nat.le_succ _) _⟩
   case done =>
    rintro D ys W hD hS ⟨hp,_,hm⟩ hK;have c7:=hm.c.cell (k:=7) (by omega);have HBW:=b9W (a8j W (IsT.of (HE.out 7 (by omega))) (HR.out.below hm.below));have HMM:=b9W hm;have HKD:=b9W hK;have HHP:=b9W (show ∀ i,i < 7→0≤cmpQ (valQ (c i).data.toList) 1 from fun i hi=>hp i (by rw[hS];exact List.mem_range.2 hi) hi);have hDl:D < W.heap.size:=by
     rcases Nat.lt_or_ge D W.heap.size with h|h
     ·exact h
     ·rw[Array.getElem?_eq_none h]at hK;cases hK
    clear hm hK hp hS
    gi_wp2_with (refine⟨trivial,?_⟩;gi_at_call 158;refine(callsIn_wide.2 HBW.out).mono ?_;rintro e w1 ⟨rfl,hb⟩;have hm1:=HMM.out.later hb;have ce:=cell0 hm1.e;have ze:=hm1.e.frozen 0;have hK1:=(hb.block D hDl).trans HKD.out;clear hb)
    have hK':=(KeepsOthers.setCell w1 ⟨w.heap.size+1,0,none⟩ (.int .i64 (errU (c 7):Int))).same D _ hK1 rfl;refine⟨by simp,.inl ⟨_,_,rfl,run_takeDeferred hK',?_⟩⟩;have hb3:Blk _ (w.heap.size+1) 32 #[.int .i64 (errU (c 7):Int)]:=(hm1.e.set_ 0 (.int .i64 (errU (c 7):Int))).grown (grownBy_putObj' _ D (.deferred none)) (fun e=>by injection e with e;omega);exact⟨_,a6I rfl rfl (a8k hb3),by rw[b5L HE.out HHP.out],(hm1.below.setCell (Nat.le_succ _) _).trans (belowK_b (w:=w) (Nat.le_refl _) _ D _ _ (by omega) hK' rfl rfl)⟩
   case stop =>
    rintro D cd pre x' W hD _ ⟨rfl,hex,hb2,hB⟩ hK;gi_wp2;refine⟨by simp,.inl ⟨_,_,rfl,run_takeDeferred hK,?_⟩⟩;have hb3:Blk _ (w.heap.size+1) 32 #[.int .i64 2]:=hb2.grown (grownBy_putObj' _ D (.deferred none)) (fun e=>by injection e with e;omega);exact⟨_,a6I rfl rfl (a8k hb3),by rw[b4R HE.out hex];rfl,hB.trans (belowK_b (w:=w) (Nat.le_refl _) W D _ _ (by omega) hK rfl rfl)⟩
abbrev cv(c:CT):Value:=.agg #[.string (c 0),.string (c 1),.string (c 2),.string (c 3),.string (c 4),.string (c 5),.string (c 6),.string (c 7)]
abbrev cvO(c:CT):Obj:=.cells #[.string (c 0),.string (c 1),.string (c 2),.string (c 3),.string (c 4),.string (c 5),.string (c 6),.string (c 7)] 59
def SmC(c:CT):Prop:=∀ k,k < 8→(c k).size≤270000
def b0P(a b:CT):Nat:=if a4C a≠0 then a4C a else a4C b
theorem b6U(a b:CT)(w:World)(ha:SmC a)(hb:SmC b)(hr:Res w) :
  Calls prog 150 #[cv a,cv b] w fun e w'=>e=.returned (.int .i64 (b0P a b:Int))∧Below w.heap.size w w':=by
 have k1:=(CBlk.new w a).alloc (cvO b);have k2:=CBlk.new (w.alloc (cvO a)) b;rw[World.size_alloc]at k2;have HB:=b9W (a0d (a0d (Below.refl w.heap.size w) (cvO a)) (cvO b));have HR:=b9W (hr.below HB.out);have HA:=b9W (fun (w:World) hr=>a3J a w ha hr);have HC:=b9W (fun (w:World) hr=>a3J b w hb hr);have HK:=b9W (And.intro k1 k2);obtain⟨c0,c1,c2,c3,c4,c5,c6,c7⟩:=k1.cells;clear k1 k2 hr
 by_cases h0:a4C a=0
 ·have e1:b0P a b=a4C b:=by unfold b0P;rw[if_neg (by omega)]
  rw[e1];rw[h0]at HA;have TK1:True:=trivial;clear h0 e1 ha hb
  go_enter func150,ntmps150
  go_wp2_with (first
   | (clear TK1;go_at_call 137;refine(HA.out _ HR.out).mono ?_;rintro e w1 ⟨rfl,hb⟩;have HB1:=b9W (HB.out.trans (hb.mono HB.out.size));have HR1:=b9W (HR.out.below hb);obtain⟨d0,d1,d2,d3,d4,d5,d6,d7⟩:=(HK.out.2.later hb).cells;clear hb c0 c1 c2 c3 c4 c5 c6 c7)
   | (go_at_call 137;refine(HC.out _ HR1.out).mono ?_;rintro e w2 ⟨rfl,hb⟩;have HB2:=b9W (HB1.out.trans (hb.mono HB1.out.size));clear hb))
  go_ret
  exact⟨rfl,HB2.out⟩
 ·have e1:b0P a b=a4C a:=by unfold b0P;rw[if_pos h0]
  rw[e1];obtain⟨z,hz⟩:∃ z:Int,(a4C a:Int)=z:=⟨_,rfl⟩;rw[hz]at HA ⊢;have hne:(z==0)=false:=by rw[beq_eq_false_iff_ne];omega
  clear h0 e1 hz ha hb
  go_enter func150,ntmps150
  go_wp2_with (go_at_call 137;refine(HA.out _ HR.out).mono ?_;rintro e w1 ⟨rfl,hb⟩;have HB1:=b9W (HB.out.trans (hb.mono HB.out.size));clear hb)
  go_ret
  exact⟨rfl,HB1.out⟩
def DoIs(n:Int)(F:FuncId)(a b r:ByteArray):Prop:=∀ (h:Nat) (w:World),Res w→Blk w h 157 #[.int .i64 n]→Calls prog 140 #[.pointer (some ⟨h,0,none⟩),.func (.func F) #[] #[],.string a,.string b] w fun e w'=>e=.returned (.string r)∧Below w.heap.size w w'
theorem a5Y{F:FuncId}(hrun:Runs F){a b r:ByteArray}(hF:Step F a b r):DoIs 0 F a b r:=fun h w hr hk=>do_ok F hrun h w hk hr hF
def zC:CT:=fun _=>⟨#[]⟩
def mixC(a r:CT)(m:Nat):CT:=fun k=>if k < m then r k else a k
theorem b0T(a r:CT):mixC a r 0=a:=by funext k;unfold mixC;rw[if_neg (by omega)]
theorem b2Z(a r:CT)(m:Nat):upd (mixC a r m) m (r m)=mixC a r (m+1):=by
 funext k
 unfold upd mixC
 by_cases h:k=m
 ·rw[if_pos h,if_pos (by omega),h]
 ·rw[if_neg h]
  by_cases h2:k < m
  ·rw[if_pos h2,if_pos (by omega)]
  ·rw[if_neg h2,if_neg (by omega)]
theorem b9r(a r:CT)(m:Nat):mixC a r m m=a m:=if_neg (by omega)
theorem store8{W:World}{g:Nat}{z:CT}(c:CT)(h:CBlk W g z):CBlk ((((((((W.setCell ⟨g,0,none⟩ (.string (c 0))).setCell ⟨g,1,none⟩ (.string (c 1))).setCell ⟨g,2,none⟩ (.string (c 2))).setCell ⟨g,3,none⟩ (.string (c 3))).setCell ⟨g,4,none⟩ (.string (c 4))).setCell ⟨g,5,none⟩ (.string (c 5))).setCell ⟨g,6,none⟩ (.string (c 6))).setCell ⟨g,7,none⟩ (.string (c 7))) g c:=by
 have h2:=(((((((h.set_ (k:=0) (by omega) (c 0)).set_ (k:=1) (by omega) (c 1)).set_ (k:=2) (by omega) (c 2)).set_ (k:=3) (by omega) (c 3)).set_ (k:=4) (by omega) (c 4)).set_ (k:=5) (by omega) (c 5)).set_ (k:=6) (by omega) (c 6)).set_ (k:=7) (by omega) (c 7);unfold CBlk at h2 ⊢;exact h2
structure b0X (w:World) (gh go:Nat) (n:Int) (a b r:CT) (m:Nat) (W:World):Prop where
 ka:CBlk W w.heap.size (mixC a r m)
 kb:CBlk W (w.heap.size+1) b
 kz:CBlk W (w.heap.size+1+1) zC
 kh:Blk W gh 157 #[.int .i64 n]
 ko:CBlk W go a
 below:Below w.heap.size w W
theorem b0X.later{w W W':World}{gh go:Nat}{n:Int}{a b r:CT}{m:Nat}(h:b0X w gh go n a b r m W)(hb:Below W.heap.size W W'):b0X w gh go n a b r m W' :=
 ⟨h.ka.later hb,h.kb.later hb,h.kz.later hb,h.kh.below hb h.kh.lt,h.ko.later hb,h.below.trans (hb.mono h.below.size)⟩
theorem b0X.cells7{w W:World}{gh go:Nat}{n:Int}{a b r:CT}(h:b0X w gh go n a b r 7 W):W.cell? ⟨w.heap.size,0,none⟩=some (.string (r 0))∧W.cell? ⟨w.heap.size,1,none⟩=some (.string (r 1))∧W.cell? ⟨w.heap.size,2,none⟩=some (.string (r 2))∧W.cell? ⟨w.heap.size,3,none⟩=some (.string (r 3)) ∧
  W.cell? ⟨w.heap.size,4,none⟩=some (.string (r 4))∧W.cell? ⟨w.heap.size,5,none⟩=some (.string (r 5))∧W.cell? ⟨w.heap.size,6,none⟩=some (.string (r 6))∧W.cell? ⟨w.heap.size,7,none⟩=some (.string (a 7)):=h.ka.cells
theorem CBlk.frozens{W:World}{g:Nat}{c:CT}(h:CBlk W g c):W.frozen? ⟨g,0,none⟩=false∧W.frozen? ⟨g,1,none⟩=false∧W.frozen? ⟨g,2,none⟩=false∧W.frozen? ⟨g,3,none⟩=false∧W.frozen? ⟨g,4,none⟩=false∧W.frozen? ⟨g,5,none⟩=false∧W.frozen? ⟨g,6,none⟩=false∧W.frozen? ⟨g,7,none⟩=false :=
 ⟨h.frozen 0,h.frozen 1,h.frozen 2,h.frozen 3,h.frozen 4,h.frozen 5,h.frozen 6,h.frozen 7⟩
theorem b9o{W:World}{D:Nat}{o:Obj}(h:W.heap[D]?=some o):D < W.heap.size:=by
 rcases Nat.lt_or_ge D W.heap.size with h2|h2
 ·exact h2
 ·rw[Array.getElem?_eq_none h2]at h;cases h
def fin8(W:World)(g:Nat)(c:CT):World:=(((((((W.setCell ⟨g,0,none⟩ (.string (c 0))).setCell ⟨g,1,none⟩ (.string (c 1))).setCell ⟨g,2,none⟩ (.string (c 2))).setCell ⟨g,3,none⟩ (.string (c 3))).setCell ⟨g,4,none⟩ (.string (c 4))).setCell ⟨g,5,none⟩ (.string (c 5))).setCell ⟨g,6,none⟩ (.string (c 6))).setCell ⟨g,7,none⟩ (.string (c 7))
theorem a3w{W:World}{g:Nat}{z:CT}(c:CT)(h:CBlk W g z):CBlk (fin8 W g c) g c:=store8 c h
theorem b3V(W:World)(g:Nat)(c:CT):KeepsOthers W (fin8 W g c) :=
 (((((((KeepsOthers.setCell _ _ _).trans (KeepsOthers.setCell _ _ _)).trans (KeepsOthers.setCell _ _ _)).trans (KeepsOthers.setCell _ _ _)).trans (KeepsOthers.setCell _ _ _)).trans (KeepsOthers.setCell _ _ _)).trans (KeepsOthers.setCell _ _ _)).trans (KeepsOthers.setCell _ _ _)
theorem a2h{B:Nat}{w W:World}{g:Nat}(h:Below B w W)(hg:B≤g)(c:CT):Below B w (fin8 W g c) :=
 (((((((h.setCell (p:=⟨g,0,none⟩) hg _).setCell (p:=⟨g,1,none⟩) hg _).setCell (p:=⟨g,2,none⟩) hg _).setCell (p:=⟨g,3,none⟩) hg _).setCell (p:=⟨g,4,none⟩) hg _).setCell (p:=⟨g,5,none⟩) hg _).setCell (p:=⟨g,6,none⟩) hg _).setCell (p:=⟨g,7,none⟩) hg _
theorem b3T{F:Fence}{n:Nat}{fn:Func}{tmps:Array Value}{R:Ending→World→Prop}{p u:Tmp}{W w:World}{g D:Nat}{c:CT}(hres:fn.results=#[.cell p 59,.tmp u])(hp:tmps.getD p undef=.pointer (some ⟨g,0,none⟩))(hz:CBlk W g c)
  (hD:w.heap.size≤D) (hK:W.heap[D]?=some (.deferred (some []))) (hB:Below w.heap.size w W) (hR:∀ W',Below w.heap.size w W'→R (.returned (.tuple #[cv c,tmps.getD u undef])) W') :
  bodyPostM F n prog fn R .ret { tmps:=tmps,defers:=[{ target:=.collected D,args:=#[] }] } W:=by
 refine⟨by simp,.inl ⟨_,_,rfl,run_takeDeferred hK,?_⟩⟩;have hb3:CBlk _ g c:=Blk.grown hz (grownBy_putObj' _ D (.deferred none)) (fun e=>by
  injection e with e
  subst e;unfold CBlk Blk at hz;rw[hz]at hK
  cases hK)
 exact⟨_,a2c hres hp (a4v hb3),hR _ (hB.trans (belowK_b (w:=w) (Nat.le_refl _) _ D _ _ hD hK rfl rfl))⟩
theorem b1s{F:Fence}{n:Nat}{fn:Func}{tmps:Array Value}{R:Ending→World→Prop}{p u:Tmp}{W w:World}{g D:Nat}{z c:CT}(hres:fn.results=#[.cell p 59,.tmp u])(hp:tmps.getD p undef=.pointer (some ⟨g,0,none⟩))(hz:CBlk W g z)
  (hD:w.heap.size≤D) (hK:W.heap[D]?=some (.deferred (some []))) (hg:w.heap.size≤g) (hB:Below w.heap.size w W) (hR:∀ W',Below w.heap.size w W'→R (.returned (.tuple #[cv c,tmps.getD u undef])) W') :
  bodyPostM F n prog fn R .ret { tmps:=tmps,defers:=[{ target:=.collected D,args:=#[] }] } (fin8 W g c) :=
 b3T hres hp (a3w c hz) hD ((b3V W g c).same D _ hK rfl) (a2h hB hg c) hR
theorem b9G(W:World){p:Addr}{k:Nat}(h:k≠p.block)(v:Value):(W.setCell p v).heap[k]?=W.heap[k]?:=Below.heap_setCell W p v k h
theorem b9Q(a b r:CT)(s:ByteArray)(w:World)(ha:SmC a)(hb:SmC b)(hr:Res w)(hn:(b0P a b:Int)=0)
  (H7:Hid (∀ i,i < 7→DoIs 0 130 (a i) (b i) (r i))) (HA:Hid (DoIs 0 107 (a 7) (b 7) s)) (HM:Hid (DoIs 0 143 s ⟨#[49]⟩ (r 7))) :
  Calls prog 58 #[cv a,cv b] w fun e w'=>e=.returned (.tuple #[cv r,.int .i64 0])∧Below w.heap.size w w':=by
 have k1:=((CBlk.new w a).alloc (cvO b)).alloc (.cells #[.string ⟨#[]⟩,.string ⟨#[]⟩,.string ⟨#[]⟩,.string ⟨#[]⟩,.string ⟨#[]⟩,.string ⟨#[]⟩,.string ⟨#[]⟩,.string ⟨#[]⟩] 59);have k2:=(CBlk.new (w.alloc (cvO a)) b).alloc (.cells #[.string ⟨#[]⟩,.string ⟨#[]⟩,.string ⟨#[]⟩,.string ⟨#[]⟩,.string ⟨#[]⟩,.string ⟨#[]⟩,.string ⟨#[]⟩,.string ⟨#[]⟩] 59);have k3:CBlk (((w.alloc (cvO a)).alloc (cvO b)).alloc (.cells #[.string ⟨#[]⟩,.string ⟨#[]⟩,.string ⟨#[]⟩,.string ⟨#[]⟩,.string ⟨#[]⟩,.string ⟨#[]⟩,.string ⟨#[]⟩,.string ⟨#[]⟩] 59)) ((w.alloc (cvO a)).alloc (cvO b)).heap.size zC:=CBlk.new ((w.alloc (cvO a)).alloc (cvO b)) zC;rw[World.size_alloc]at k2;rw[World.size_alloc,World.size_alloc]at k3;have HB:=b9W (a0d (a0d (a0d (Below.refl w.heap.size w) (cvO a)) (cvO b)) (.cells #[.string ⟨#[]⟩,.string ⟨#[]⟩,.string ⟨#[]⟩,.string ⟨#[]⟩,.string ⟨#[]⟩,.string ⟨#[]⟩,.string ⟨#[]⟩,.string ⟨#[]⟩] 59));have HR:=b9W hr;have HBO:=b9W (fun (w:World) hr=>b6U a b w ha hb hr);have HK:=b9W (And.intro k1 (And.intro k2 k3));obtain⟨c0,c1,c2,c3,c4,c5,c6,c7⟩:=k1.cells;obtain⟨d0,d1,d2,d3,d4,d5,d6,d7⟩:=k2.cells;rw[hn]at HBO;clear k1 k2 k3 hr ha hb hn;refine(callsIn_wide (n:=3)).1 ?_;have h1:1≤3:=by omega
 have hmx:prog.follows .mixedOrders=true:=by kernel_rfl
 refine callsIn_of_wp_marks func58 rfl trivial ?_ rfl
 simp only[ntmps58,List.size_toArray,List.length_cons,List.length_nil,Nat.reduceAdd,Nat.reduceSub,Array.replicate_succ,Array.replicate_zero,List.push_toArray,List.append_toArray,List.nil_append,List.cons_append]
 gi_wp2_with (first
  | (refine⟨trivial,?_⟩;gi_at_call 150;refine(callsIn_wide.2 (HBO.out _ (HR.out.below HB.out))).mono ?_;rintro e w1 ⟨rfl,hb⟩;have HB1:=b9W (HB.out.trans (hb.mono HB.out.size));have HK1:=b9W (And.intro (HK.out.1.later hb) (And.intro (HK.out.2.1.later hb) (HK.out.2.2.later hb)));obtain⟨f0,f1,f2,f3,f4,f5,f6,f7⟩:=HK1.out.1.cells;have hl1:=HK1.out.1.lt;clear hb c0 c1 c2 c3 c4 c5 c6 c7 d0 d1 d2 d3 d4 d5 d6 d7)
  | (refine⟨trivial,?_⟩;gi_at_call 151;refine(a8N Fence.wide 2 trivial rfl a _).mono ?_;rintro e w' ⟨rfl,rfl⟩;clear f0 f1 f2 f3 f4 f5 f6 f7))
 have hh:=(Blk.new w1 157 #[.int .i64 0]).alloc (cvO a);have ho:=CBlk.new (w1.alloc (.cells #[.int .i64 0] 157)) a;rw[World.size_alloc]at ho;have hbb:=a0d (a0d (Below.refl w1.heap.size w1) (.cells #[.int .i64 0] 157)) (cvO a);have hI0:b0X w w1.heap.size (w1.heap.size+1) 0 a b r 0 ((w1.alloc (.cells #[.int .i64 0] 157)).alloc (cvO a)) :=
  ⟨by rw[b0T];exact HK1.out.1.later hbb,HK1.out.2.1.later hbb,HK1.out.2.2.later hbb,hh,ho,HB1.out.trans (hbb.mono HB1.out.size)⟩
 have hw1:=HK1.out.2.2.lt;clear hh ho hbb HK1 HK;generalize (w1.alloc (.cells #[.int .i64 0] 157)).alloc (cvO a)=WR at *;generalize w1.heap.size=gh at *;have HW1:=b9W hw1;have hgo:=hI0.ko.lt;refine a1x rfl h1 (gf:=230) (lb:=#[.pointer (some ⟨gh+1,0,none⟩)]) rfl trivial a7Z
  (a7n Fence.wide 2 trivial rfl (by omega) (gh+1) a) (fun _=>rfl)
  (fun pre W=>b0X w gh (gh+1) 0 a b r pre.length W) (fun _ _ _=>False)
  ?hG ?hI (fun _ _ _ _ _ hs _ _=>hs) hI0 ?round ?done ?stop
 case hG=>rintro pre W h;exact h.ko
 case hI =>
  rintro s W W' row h hg hr;exact⟨Blk.own_ h.ka hg hr,Blk.own_ h.kb hg hr,Blk.own_ h.kz hg hr,Blk.own_ h.kh hg hr,Blk.own_ h.ko hg hr,a2V h.below (Nat.le_refl _) (by have:=hI0.below.size;omega) hg hr⟩
 case round =>
  rintro l pre i W K hi hnx hK;have HNX:=b9W hnx;clear hnx hI0;gi_wp2;refine hK _ _ (KeepsOthers.refl _) hi ?_;clear hK hi;rintro Wb _ hm;obtain⟨hpre,hi7⟩:=HNX.out;have hlen:pre.length=i:=by rw[hpre,List.length_range]
  rw[hlen]at hm;have HLEN:=b9W hlen;have HI7:=b9W hi7;have hcb:=hm.kb.cell (k:=i) (by omega);have HM0:=b9W hm;have hi0:(0:Int)≤(i:Int):=by omega
  have hi1:(i:Int) < 7:=by omega
  clear hm hpre hi7 hlen
  gi_wp2_with (refine⟨trivial,?_⟩;gi_at_call 140;refine(CallsIn.inRound l (callsIn_wide.2 (H7.out i HI7.out gh Wb (HR.out.below HM0.out.below) HM0.out.kh))).mono ?_;rintro e w2 ⟨rfl,hb⟩;have HM1:=b9W (HM0.out.later hb);have HB2:=b9W hb;have hca:=HM1.out.ka.cell (k:=i) (by omega);have hza:=HM1.out.ka.frozen i;clear hb)
  have hg1:=HW1.out;refine⟨(a2p HB2.out).trans (KeepsOthers.setCell _ _ _),?_⟩;have el:(pre++[i]).length=i+1:=by rw[List.length_append,HLEN.out];rfl
  show b0X w gh (gh+1) 0 a b r (pre++[i]).length _
  rw[el];exact⟨by rw[← b2Z];exact HM1.out.ka.set_ (by omega) (r i),Blk.far HM1.out.kb (p:=⟨w.heap.size,i,none⟩) (by show w.heap.size+1≠w.heap.size;omega) _,Blk.far HM1.out.kz (p:=⟨w.heap.size,i,none⟩) (by show w.heap.size+1+1≠w.heap.size;omega) _,
   Blk.far HM1.out.kh (p:=⟨w.heap.size,i,none⟩) (by show gh≠w.heap.size;omega) _,Blk.far HM1.out.ko (p:=⟨w.heap.size,i,none⟩) (by show gh+1≠w.heap.size;omega) _,HM1.out.below.setCell (Nat.le_refl _) _⟩
 case done =>
  rintro D ys W hD hS hm hK;rw[hS,List.length_range]at hm;have HM0:=b9W hm;have HKD:=b9W hK;have hDl:=b9o hK;have c7:=hm.ka.cell (k:=7) (by omega);rw[b9r]at c7;have d7:=hm.kb.cell (k:=7) (by omega);have HDD:=b9W (And.intro hD hDl);have TK1:True:=trivial;clear hS hm hK hI0
  gi_wp2_with ((clear TK1;refine⟨trivial,?_⟩;gi_at_call 140;refine(callsIn_wide.2 (HA.out gh W (HR.out.below HM0.out.below) HM0.out.kh)).mono ?_;rintro e w2 ⟨rfl,hb⟩;have HM1:=b9W (HM0.out.later hb);have HB2:=b9W hb;clear hb c7 d7))
  gi_wp2_with ((refine⟨trivial,?_⟩;gi_at_call 140;refine(callsIn_wide.2 (HM.out gh w2 (HR.out.below HM1.out.below) HM1.out.kh)).mono ?_;rintro e w3 ⟨rfl,hb⟩;have HM2:=b9W (HM1.out.later hb);have HB3:=b9W (HB2.out.trans (hb.mono HB2.out.size));obtain⟨q0,q1,q2,q3,q4,q5,q6,q7⟩:=HM2.out.cells7;have qz:=HM2.out.ka.frozen 7;obtain⟨z0,z1,z2,z3,z4,z5,z6,z7⟩:=HM2.out.kz.cells;obtain⟨y0,y1,y2,y3,y4,y5,y6,y7⟩:=HM2.out.kz.frozens;have ch:=cell0 HM2.out.kh;have hg1:=HW1.out;have hne1:gh≠w.heap.size:=(by omega);clear hb))
  have hK3:=(KeepsOthers.setCell w3 ⟨w.heap.size,7,none⟩ (.string (r 7))).same D _ ((HB3.out.block D HDD.out.2).trans HKD.out) rfl;have hsz:w.heap.size≤WR.heap.size:=by omega
  exact b1s (W:=w3.setCell ⟨w.heap.size,7,none⟩ (.string (r 7))) (g:=w.heap.size+1+1) (c:=r) rfl rfl (Blk.far HM2.out.kz (p:=⟨w.heap.size,7,none⟩) (by show w.heap.size+1+1≠w.heap.size;omega) _)
   (Nat.le_trans hsz HDD.out.1) hK3 (by omega) (HM2.out.below.setCell (Nat.le_refl _) _) (fun W' h=>⟨rfl,h⟩)
 case stop =>
  rintro D cd pre x' W hD _ h hK;exact h.elim
end Go.Proofs.YtigapglmipmbeaaGreatDoor
namespace Go.Proofs.YtigapglmipmbeaaGreatDoor
open Go.RowKit Go.Shelf
open Lim
end Go.Proofs.YtigapglmipmbeaaGreatDoor
