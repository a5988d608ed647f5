/- What the statements of chapter 10 share: light, factor, least, lives; a law's world. -/
import Derived.Test.YtigapglmipmbeaaGreatDoorLwMomentAdds18
import Derived.Test.YtigapglmipmbeaaGreatDoorLwMomentAdds14
import Derived.Test.YtigapglmipmbeaaGreatDoorLwMomentAdds16
import Derived.Test.YtigapglmipmbeaaGreatDoorLwMomentAdds17
import Derived.OwnWalkIn
import Derived.Sort.BigQuietIn
import Derived.Sort.QuietIn
import Derived.Test.YtigapglmipmbeaaGreatDoorLwMomentAdds15
import Derived.Test.YtigapglmipmbeaaGreatDoorLwMomentAdds10
set_option maxRecDepth 100000
set_option maxHeartbeats 16000000
open Go.Proofs.Tryz
namespace Go.Proofs.YtigapglmipmbeaaGreatDoor
open Go.RowKit Go.Shelf
open Lim
structure LW (w:World) (L:List (Nat × TypeId × Array Value)) (W:World):Prop where
 held:∀ x∈L,Blk W x.1 x.2.1 x.2.2
 below:Below w.heap.size w W
 res:Res W
theorem LW.nil{w:World}(hr:Res w):LW w [] w:=⟨fun _ hx=>absurd hx (by simp),Below.refl _ _,hr⟩
theorem LW.later{w W W':World}{L:List (Nat × TypeId × Array Value)}(h:LW w L W)(hb:Below W.heap.size W W'):LW w L W' :=
 ⟨fun x hx=>(h.held x hx).below hb (h.held x hx).lt,h.below.trans (hb.mono h.below.size),h.res.below hb⟩
theorem LW.push{w W:World}{L:List (Nat × TypeId × Array Value)}(h:LW w L W)(g:Nat)(t:TypeId)(cs:Array Value)(hg:W.heap.size=g):LW w ((g,t,cs)::L) (W.alloc (.cells cs t)):=by
 subst hg;refine⟨fun x hx=>?_,a0d h.below _,h.res.below (a0d (Below.refl _ _) _)⟩
 rcases List.mem_cons.1 hx with rfl|hx
 ·exact Blk.new W _ _
 ·exact(h.held x hx).alloc _
theorem LW.two{w W:World}{L:List (Nat × TypeId × Array Value)}(h:LW w L W){x y:Nat × TypeId × Array Value}(hx:x∈L)(hy:y∈L):LW w [x,y] W:=by
 refine⟨fun z hz=>?_,h.below,h.res⟩
 simp only[List.mem_cons,List.not_mem_nil,or_false]at hz
 rcases hz with rfl|rfl
 ·exact h.held _ hx
 ·exact h.held _ hy
def a4A(f:ByteArray):Bool:=decide (f.size≤12)&&(errQ f.data.toList==0)&&decide (cmpQ 1 (valQ f.data.toList)≤0)
theorem b45:errQ (⟨#[49]⟩:ByteArray).data.toList=0:=IsT.one.err
theorem a7t(f:ByteArray)(c k:Int)(b:Bool)(w:World)(HC:Hid (∀ w,Calls prog 119 #[.string ⟨#[49]⟩,.string f] w fun e w'=>e=.returned (.tuple #[.int .i64 c,.int .i64 k])∧Below w.heap.size w w'))
  (hb:b=(decide (f.size≤12)&&((k==0)&&decide (c≤0)))) :
  Calls prog 51 #[.string f] w fun e w'=>e=.returned (.bool b)∧Below w.heap.size w w':=by
 by_cases h1:f.size≤12
 ·have d1:decide ((f.size:Int)≤12)=true:=decide_eq_true (by omega)
  rw[decide_eq_true h1,Bool.true_and]at hb;clear h1
  by_cases h2:(k==0)=true
  ·rw[h2,Bool.true_and]at hb
   subst hb
   go_enter func51,ntmps51
   go_wp2_with (go_at_call 119;refine(HC.out _).mono ?_;rintro e w1 ⟨rfl,hb⟩;have HB:=b9W hb;clear hb)
   go_ret
   exact⟨rfl,HB.out⟩
  ·have h2:(k==0)=false:=by simpa using h2
   rw[h2,Bool.false_and]at hb;subst hb
   go_enter func51,ntmps51
   go_wp2_with (go_at_call 119;refine(HC.out _).mono ?_;rintro e w1 ⟨rfl,hb⟩;have HB:=b9W hb;clear hb)
   go_ret
   exact⟨rfl,HB.out⟩
 ·have d1:decide ((f.size:Int)≤12)=false:=decide_eq_false (by omega)
  rw[decide_eq_false h1,Bool.false_and]at hb;clear h1;subst hb
  go_enter func51,ntmps51
  go_wp2_with (go_at_call 119;refine(HC.out _).mono ?_;rintro e w1 ⟨rfl,hb⟩;have HB:=b9W hb;clear hb)
  go_ret
  exact⟨rfl,HB.out⟩
theorem b2k(f:ByteArray)(w:World)(hf:f.size≤9223372036854775807) :
  Calls prog 51 #[.string f] w fun e w'=>e=.returned (.bool (a4A f))∧Below w.heap.size w w':=by
 by_cases he:errQ f.data.toList=0
 ·refine a7t f _ 0 _ w (b9W (fun w=>rcmpT w IsT.one (IsT.of he))) ?_
  unfold a4A;rw[he]
  simp
 ·refine a7t f 0 (errQ f.data.toList:Int) _ w (b9W (fun w=>a7p ⟨#[49]⟩ f w (by decide) hf b45 he)) ?_
  unfold a4A;have h1:((errQ f.data.toList)==0)=false:=beq_eq_false_iff_ne.2 he;have h2:((errQ f.data.toList:Int)==0)=false:=by rw[beq_eq_false_iff_ne];omega
  rw[h1,h2]
  simp
theorem b3N{f:ByteArray}(h:a4A f=true):f.size≤12∧errQ f.data.toList=0∧1≤valQ f.data.toList:=by
 unfold a4A at h
 simp only[Bool.and_eq_true,decide_eq_true_eq,beq_iff_eq]at h
 exact⟨h.1.1,h.1.2,(b2c _ _).1 h.2⟩
end Go.Proofs.YtigapglmipmbeaaGreatDoor
namespace Go.Proofs.YtigapglmipmbeaaGreatDoor
theorem b6n{y x:L2}{l:List L2}(h:ltK y.1 x.1=true):insX (y::l) x=(match insX l x with|.error n=>.error n|.ok m=>.ok (y::m)):=by
 conv=>lhs;unfold insX
 rw[if_pos h]
 rfl
theorem b0w:∀ {a:List L2} {x:L2} {k:Nat},k≤a.length→(∀ (j:Nat) y,j < k→a[j]?=some y→ltK y.1 x.1=true)→(∀ y,a[k]?=some y→ltK y.1 x.1=false∧y.1≠x.1)→insX a x=.ok (a.take k++x::a.drop k)
 | [],x,k,hk,_,_=>by
  obtain rfl:k=0:=by simpa using hk
  rfl
 | y::l,x,0,_,_,h=>by
  obtain⟨h1,h2⟩:=h y rfl;unfold insX;rw[if_neg (by rw[h1];decide),if_neg h2]
  rfl
 | y::l,x,k+1,hk,h,h2=>by
  rw[b6n (h 0 y (by omega) rfl),b0w (a:=l) (k:=k) (by simpa using hk) (fun j z hj hz=>h (j+1) z (by omega) (by simpa using hz)) (fun z hz=>h2 z (by simpa using hz))]
  rfl
theorem b3t:∀ {a:List L2} {x y:L2} {k:Nat},(∀ (j:Nat) z,j < k→a[j]?=some z→ltK z.1 x.1=true)→a[k]?=some y→ltK y.1 x.1=false→y.1=x.1 →
  insX a x=(match plX y.2 x.2 with|.error n=>.error n|.ok s=>.ok (a.set k (y.1,s)))
 | [],x,y,k,_,h,_,_=>by simp at h
 | z::l,x,y,0,_,h,h1,h2=>by
  simp only[List.getElem?_cons_zero,Option.some.injEq]at h
  subst h;unfold insX;rw[if_neg (by rw[h1];decide),if_pos h2]
  cases plX z.2 x.2<;>rfl
 | z::l,x,y,k+1,h,hk,h1,h2=>by
  rw[b6n (h 0 z (by omega) rfl),b3t (a:=l) (k:=k) (fun j u hj hu=>h (j+1) u (by omega) (by simpa using hu)) (by simpa using hk) h1 h2]
  cases plX y.2 x.2<;>rfl
theorem a9N(a:List L2)(x:L2)(l:List L2){b:List L2}(h:insX a x=.ok b):a2X a (x::l)=a2X b l:=by
 simp only[a2X,h]
theorem b4B(a:List L2)(x:L2)(l:List L2){n:Nat}(h:insX a x=.error n):a2X a (x::l)=.error n:=by
 simp only[a2X,h]
end Go.Proofs.YtigapglmipmbeaaGreatDoor
namespace Go.Proofs.YtigapglmipmbeaaGreatDoor
open Go.RowKit Go.Shelf
open Lim
def Src(w:World)(size:Nat)(sv:Value)(m:Nat)(news:List Value):Prop :=
 news.length=m*size∧((∃ c,sv=.slice none 0 c∧m=0)∨∃ ad c,sv=.slice (some ad) m c∧∀ j u,news[j]?=some u→w.cell? (ad.add j)=some u)
theorem a7C{P:Program}(w:World)(base:Nat)(t ty e:TypeId)(i:TypeInfo)(size:Nat)(ht:P.underlying t=some (.slice e))(hi:P.info? e=some i)(hsize:i.size=size)
  (v:Value) (n:Nat) (xs:List Value) (hown:w.ownsRow base e size v n xs) (c:Nat):(Builtin.append_ #[t,t] ty #[v,.slice none 0 c]).run P w=.ok v w:=by
 subst hsize
 rcases hown.2 with⟨rfl,rfl⟩|⟨g,cap,cur,rfl,hbg,hg,hnc,hcm,hcs,htake⟩
 ·simp[Builtin.append_,run_underlying ht,sizeOf,typeInfo,hi,Builtin.lenOf,Builtin.firstCells]
 ·simp[Builtin.append_,run_underlying ht,sizeOf,typeInfo,hi,Builtin.lenOf,Builtin.firstCells,loadCells,hnc,storeCells]
theorem a0s{F:Fence}{n:Nat}{P:Program}(w:World){ops:Array Oper}{rest:List Oper}{o:Oper}{a:Act}{Q:Exit→Act→World→Prop}
  (hg:o.guard=none) (s x:Operand) (t:TypeId) (hop:o.op=Op.call { callee:=Callee.builtin Builtin.append,args:=#[s,x],argTypes:=#[t,t] })
  (base:Nat) (e:TypeId) (i:TypeInfo) (z:Value) (size bytes:Nat) (h1:P.underlying t=some (.slice e)) (h2:P.info? e=some i) (h3:i.zero=some z) (h4:i.size=size) (h5:i.bytes=bytes) (h6:z.cells.size=size) (h7:0 < size)
  (v:Value) (k:Nat) (xs:List Value) (hs:a.eval s=v) (hown:w.ownsRow base e size v k xs) (sv:Value) (m:Nat) (news:List Value) (hx:a.eval x=sv) (hsrc:Src w size sv m news)
  (h1c:∀ u∈news,u.oneCell'=true) (b1:k+m≤maxLen) (b2:(k+m)*bytes≤140737488355328) (b3:base≤w.heap.size)
  (hK:∀ v' w',w'.ownsRow base e size v' (k+m) (xs++news)→w.grownBy w' v.ownBlock→wpListIn F n P ops Q rest (a.put o.dst v') w') :
  wpListIn F n P ops Q (o::rest) a w:=by
 rcases hsrc with⟨hl,⟨c,rfl,rfl⟩|⟨ad,c,rfl,hc⟩⟩
 ·have hn:news=[]:=List.eq_nil_of_length_eq_zero (by simpa using hl)
  subst hn;refine wpListIn_plain hg fun K hK'=>?_;have hrun:=a7C (P:=P) w base t o.type e i size h1 h2 h4 v k xs hown c;unfold Oper.wpIn;refine⟨?_,?_⟩
  ·simp[Oper.about,hop,resolve,Target.leads,Sem.run_pure]
  ·rw[Oper.semAt_plain F _ _ (by rw[hop];intro c hc';cases hc')]
   simp[execOp,hop,resolve,invoke,builtin,hs,hx,hrun,Result.andThen]
   exact hK' _ _ (hK v w (by simpa using hown) ⟨rfl,rfl,rfl,Nat.le_refl _,fun _ _ _=>rfl⟩)
 ·exact wpListIn_append_own w hg s x t hop base e i z size bytes h1 h2 h3 h4 h5 h6 h7 v k xs hs hown ad m c news hx hl hc h1c b1 b2 b3 fun v' w' r1 r2 _=>hK v' w' r1 r2
theorem a4i{F:Fence}{n:Nat}{P:Program}{id:Nat}{Q:Exit→Act→World→Prop}{a:Act}{w:World}{l:List Oper}(hro:F.round=none)(hm:P.follows .mixedOrders=true)(hB:Region.lexB .any l.toArray=true)
  (h:wpQuietIn F n P l.toArray (fun W=>∃ x:a0v w,W=x.W) (fun a'=>∀ W,(∃ x:a0v w,W=x.W)→Q .normal a' W) l a):(Code.region id l.toArray true).wpIn F n P Q a w :=
 wpIn_region_quiet (C:=fun W=>∃ x:a0v w,W=x.W) hro hm hB ⟨⟨{ w with drawn:=w.drawn+1 },⟨rfl,rfl,rfl,Nat.le_refl _,fun _ _=>rfl⟩⟩,rfl⟩ (by simpa using h)
theorem a8H(f:FuncId):Fence.wide.fn f↔True:=iff_of_true trivial trivial
theorem a0v.at{w:World}{b o:Nat}{u:Value}(hb:b < w.heap.size)(h:w.cell? ⟨b,o,none⟩=some u):∀ z:a0v w,z.W.cell? ⟨b,o,none⟩=some u:=fun z=>(z.h.cell (p:=⟨b,o,none⟩) hb).trans h
theorem a3E(g j i:Nat):((⟨g,j,none⟩:Addr).add i)=⟨g,j+i,none⟩:=by unfold Addr.add;split<;>simp_all
theorem a8h:∀ (l:List L2) (k:Nat),a0_ (l.take k)=(a0_ l).take (k*2)
 | _,0=>by simp[a0_]
 | [],k+1=>by simp[a0_]
 | x::l,k+1=>by
  rw[List.take_succ_cons,a1K,a1K,show (k+1)*2=k*2+1+1 by omega,List.take_succ_cons,List.take_succ_cons,a8h l k]
theorem a8S:∀ (l:List L2) (k:Nat),a0_ (l.drop k)=(a0_ l).drop (k*2)
 | _,0=>by simp
 | [],k+1=>by simp[a0_]
 | x::l,k+1=>by
  rw[List.drop_succ_cons,a1K,show (k+1)*2=k*2+1+1 by omega,List.drop_succ_cons,List.drop_succ_cons,a8S l k]
theorem a9O:∀ {l:List L2} {k:Nat} {y:L2} (s:ByteArray),l[k]?=some y→a0_ (l.set k (y.1,s))=(a0_ l).set (k*2+1) (.string s)
 | [],k,y,s,h=>by simp at h
 | x::l,0,y,s,h=>by
  simp only[List.getElem?_cons_zero,Option.some.injEq]at h
  subst h
  rfl
 | x::l,k+1,y,s,h=>by
  rw[List.set_cons_succ,a1K,a1K,a9O s (by simpa using h),show (k+1)*2+1=k*2+1+1+1 by omega,List.set_cons_succ,List.set_cons_succ]
theorem a1B(l:List L2):∀ u∈a0_ l,u.oneCell'=true:=fun u hu=>by
 unfold a0_ at hu;obtain⟨x,_,hx⟩:=List.mem_flatMap.1 hu
 simp only[List.mem_cons,List.not_mem_nil,or_false]at hx
 rcases hx with rfl|rfl<;>rfl
theorem a3f(x:L2):∀ u∈([.string x.1,.string x.2]:List Value),u.oneCell'=true:=fun u hu=>by
 simp only[List.mem_cons,List.not_mem_nil,or_false]at hu
 rcases hu with rfl|rfl<;>rfl
theorem a8c{w W:World}{g j:Nat}{u:Value}(hB:Below w.heap.size w W)(h:w.cell? ⟨g,j,none⟩=some u)(hg:g < w.heap.size):W.cell? ⟨g,j,none⟩=some u:=(hB.cell (p:=⟨g,j,none⟩) hg).trans h
theorem b4S{base n cap g:Nat}{w:World}{l:List Value}{E:TypeId}{size:Nat}(h:w.ownsRow base E size (.slice (some ⟨g,0,none⟩) n cap) n l):g < w.heap.size:=(h.lt g rfl).2
theorem b0S{base g cap:Nat}{w W:World}{a:List L2}(h:OwnM base w (.slice (some ⟨g,0,none⟩) a.length cap) a)(hB:Below w.heap.size w W){k c:Nat}(hk:k≤a.length) :
  Src W 2 (.slice (some ⟨g,0,none⟩) k c) k (a0_ (a.take k)):=by
 refine⟨by rw[a2L,List.length_take,Nat.min_eq_left hk],.inr ⟨_,_,rfl,fun j u hu=>?_⟩⟩;rw[a8h,List.getElem?_take]at hu
 split at hu
 ·have:=World.ownsRow.cells h (g:=g) rfl j u hu
  rw[a3E]at this ⊢;exact a8c hB this (b4S h)
 ·cases hu
theorem b5n{base g cap:Nat}{w W:World}{a:List L2}(h:OwnM base w (.slice (some ⟨g,0,none⟩) a.length cap) a)(hB:Below w.heap.size w W){k c:Nat} :
  Src W 2 (.slice (some ⟨g,k*2,none⟩) (a.length - k) c) (a.length - k) (a0_ (a.drop k)):=by
 refine⟨by rw[a2L,List.length_drop],.inr ⟨_,_,rfl,fun j u hu=>?_⟩⟩;rw[a8S,List.getElem?_drop]at hu;have:=World.ownsRow.cells h (g:=g) rfl _ u hu;rw[a3E]at this ⊢;have:=a8c hB this (b4S h)
 rwa [Nat.zero_add]at this
theorem a6w{W:World}{A:Option Addr}{c:Nat}:Src W 2 (.slice A 0 c) 0 []:=by
 refine⟨rfl,?_⟩
 cases A with
 | none=>exact .inl ⟨c,rfl,rfl⟩
 | some a=>exact .inr ⟨a,c,rfl,fun j u h=>by simp at h⟩
theorem a4H{W:World}{B:Nat}{x:L2}(h:W.heap[B]?=some (.cells #[.string x.1,.string x.2] 30 (0,0))):Src W 2 (.slice (some ⟨B,0,none⟩) 1 1) 1 [.string x.1,.string x.2] :=
 ⟨rfl,.inr ⟨_,_,rfl,fun j u hu=>by
  match j with
  | 0=>rw[a3E];simp at hu;subst hu;simp[World.cell?,h]
  | 1=>rw[a3E];simp at hu;subst hu;simp[World.cell?,h]
  | j+2=>simp at hu⟩⟩
theorem b0m(w:World)(o1 o2:Obj):((w.alloc o1).alloc o2).heap[w.heap.size]?=some o1:=(heap_alloc_old (w.alloc o1) o2 (by simp)).trans (heap_alloc_new w o1)
theorem b0s(w:World)(o1 o2:Obj):((w.alloc o1).alloc o2).heap[w.heap.size+1]?=some o2:=by
 have:=heap_alloc_new (w.alloc o1) o2
 simpa using this
theorem a7j{W:World}{base b:Nat}(hb:base≤b)(h:W.heap[b]?=some (.cells #[] 30 (0,0))):W.ownsRow base 30 2 (.slice (some ⟨b,0,none⟩) 0 0) 0 [] :=
 ⟨rfl,.inr ⟨b,0,#[],rfl,hb,h,Nat.le_refl _,Nat.zero_le _,rfl,rfl⟩⟩
theorem a0Y{n size m:Nat}{w W W':World}{e:TypeId}{v:Value}{xs:List Value}(h:Below n w W)(hn:n≤W.heap.size)(ho:W.ownsRow n e size v m xs)(hg:W.grownBy W' v.ownBlock):Below n w W' :=
 ⟨hg.os.trans h.os,hg.tape.trans h.tape,hg.output.trans h.output,Nat.le_trans h.size hg.size,fun k hk=>(hg.block k (by omega) fun e=>by have:=(ho.lt k e.symm).1;omega).trans (h.block k hk)⟩
theorem a0P(w:World):Below w.heap.size w w.drew:=⟨rfl,rfl,rfl,Nat.le_refl _,fun _ _=>rfl⟩
structure a40 (w:World) (ls:List L2) (i:Nat) (W:World) (v:Value) (a:List L2):Prop where
 nw:NW w W
 own:OwnM w.heap.size W v a
 coll:a2X [] ls=a2X a (ls.drop i)
 len:a.length≤i
 short:a1h a
theorem a40.nil{w:World}{ls:List L2}(hr:Res w):a40 w ls 0 w (.slice none 0 0) []:=⟨NW.refl hr,OwnM.nil _ _,by simp,Nat.le_refl _,fun x h=>by cases h⟩
section
variable {w W W':World} {ls a:List L2} {i:Nat} {v:Value}
theorem a40.later(h:a40 w ls i W v a)(hb:Below W.heap.size W W'):a40 w ls i W' v a:=⟨h.nw.later hb,h.own.later hb,h.coll,h.len,h.short⟩
theorem a40.cap{A:Option Addr}{c:Nat}(h:a40 w ls i W (.slice A a.length c) a):(A=none∧c=0∧a=[])∨∃ g,A=some ⟨g,0,none⟩∧a.length≤c∧c≤9223372036854775807:=by
 rcases h.own.2 with⟨e,h0⟩|⟨g,c',cur,e,_,_,h1,h2,_⟩
 ·simp only[Value.slice.injEq]at e;exact .inl ⟨e.1,e.2.2,List.eq_nil_of_length_eq_zero h0⟩
 ·simp only[Value.slice.injEq]at e;unfold maxLen at h2;exact .inr ⟨g,e.1,by omega,by omega⟩
theorem a40.at{A:Option Addr}{c k:Nat}{y:L2}(h:a40 w ls i W (.slice A a.length c) a)(hy:a[k]?=some y):∃ g,A=some ⟨g,0,none⟩∧g < W.heap.size∧W.cell? ⟨g,k*2,none⟩=some (.string y.1)∧W.cell? ⟨g,k*2+1,none⟩=some (.string y.2):=by
 have hk:=(List.getElem?_eq_some_iff.1 hy).1
 rcases h.cap with⟨_,_,rfl⟩|⟨g,rfl,_⟩
 ·simp at hk
 ·obtain⟨c0,c1⟩:=a5b hy
  have r0:=World.ownsRow.cells h.own (g:=g) rfl _ _ c0;have r1:=World.ownsRow.cells h.own (g:=g) rfl _ _ c1;rw[a3E,Nat.zero_add]at r0 r1;exact⟨g,rfl,b4S h.own,r0,r1⟩
theorem a40.new{W5:World}{v3:Value}{x:L2}{k:Nat}(h:a40 w ls i W v a)(hx:ls[i]?=some x)(hins:insX a x=.ok (a.take k++x::a.drop k))(hk:k≤a.length)(hsx:x.1.size≤270000∧x.2.size≤270000)
  (hB:Below W.heap.size W W5) (hown:W5.ownsRow W.heap.size 30 2 v3 (k+1+(a.length - k)) (a0_ (a.take k)++[.string x.1,.string x.2]++a0_ (a.drop k))) :
  a40 w ls (i+1) W5 v3 (a.take k++x::a.drop k):=by
 have e:(a.take k++x::a.drop k).length=k+1+(a.length - k):=by simp;omega
 refine⟨h.nw.later hB,?_,?_,?_,?_⟩
 ·refine a4e (base:=W.heap.size) ?_ h.nw.below.size
  rw[e,a2K,a1K]
  simpa using hown
 ·rw[h.coll,a2U hx,a9N _ _ _ hins]
 ·rw[e];have:=h.len;omega
 ·exact a1h.ins hins h.short hsx
theorem a40.set{g c k:Nat}{x y:L2}{s:ByteArray}(hr:Res w)(h:a40 w ls i W (.slice (some ⟨g,0,none⟩) a.length c) a)(hx:ls[i]?=some x)(hy:a[k]?=some y)(hins:insX a x=.ok (a.set k (y.1,s)))(hsx:x.1.size≤270000∧x.2.size≤270000) :
  a40 w ls (i+1) (W.setCell ⟨g,k*2+1,none⟩ (.string s)) (.slice (some ⟨g,0,none⟩) a.length c) (a.set k (y.1,s)):=by
 obtain⟨r1,r2⟩:=World.ownsRow.stored h.own (k*2+1) (.string s);have hg:=(h.own.lt g rfl).1;refine⟨a7V h.nw hr r2 (fun r e=>by cases e;exact hg),?_,?_,?_,?_⟩
 ·unfold OwnM
  rw[List.length_set,a9O s hy];exact r1
 ·rw[h.coll,a2U hx,a9N _ _ _ hins]
 ·rw[List.length_set];have:=h.len;omega
 ·exact a1h.ins hins h.short hsx
end
end Go.Proofs.YtigapglmipmbeaaGreatDoor
namespace Go.Proofs.YtigapglmipmbeaaGreatDoor
open Go.RowKit Go.Shelf
open Lim
attribute [local go_sem] Oper.semAt_some a8H
def b3R(ls:List L2):Except Nat (List L2):=match a2X [] ls with
 | .error n=>.error n
 | .ok a=>.ok (a1O a)
theorem b1y{ls:List L2}{n:Nat}(h:a2X [] ls=.error n):b3R ls=.error n:=by unfold b3R;rw[h]
theorem b20{ls a:List L2}(h:a2X [] ls=.ok a):b3R ls=.ok (a1O a):=by unfold b3R;rw[h]
theorem b3W{a:List L2}{k:Nat}{y:L2}(hy:a[k]?=some y):a1O (a.take (k+1))=if y.2=zT then a1O (a.take k) else a1O (a.take k)++[y]:=by
 unfold a1O;rw[List.take_add_one,hy,Option.toList_some,List.filter_append]
 split
 ·rename_i h;rw[List.filter_cons_of_neg (by simpa using h)];simp
 ·rename_i h;rw[List.filter_cons_of_pos (by simpa using h)];simp
namespace S2
theorem rdcollect_any(ls:List L2)(v:Value)(w:World)(hv:LRow w v ls)(hs:a1h ls)(hr:Res w) :
  Calls prog 111 #[v] w fun e w'=>ResM w.heap.size (b3R ls) e w'∧Below w.heap.size w w':=by
 have HV:=b9W hv;have HS:=b9W hs;obtain⟨A,c,rfl,HLEN,hcells⟩:=hv;have H0:=b9W (a40.nil (ls:=ls) hr);have HRS:=b9W hr;obtain⟨i0,hi,hz0,hz1,hz2⟩:=info_parts b8v;clear hr hcells hs;generalize hm:b3R ls=mk;have HMK:=b9W hm;clear hm;refine(callsIn_wide (n:=6)).1 ?_;have h1:1≤6:=by omega
 have hmx:prog.follows .mixedOrders=true:=by kernel_rfl
 refine callsIn_of_wp func111 rfl trivial ?_ rfl
 simp only[ntmps111,List.size_toArray,List.length_cons,List.length_nil,Nat.reduceAdd,Nat.reduceSub,Array.replicate_succ,Array.replicate_zero,List.push_toArray,List.append_toArray,List.nil_append,List.cons_append]
 gi_wp2
 gi_loopw [4,5] (fun v4 v5 wr=>∃ (i:Nat) (A0:Option Addr) (cc:Nat) (a:List L2),i≤ls.length∧v4=.slice A0 a.length cc∧v5=.int .i64 (i:Int)∧Hid (a40 w ls i wr (.slice A0 a.length cc) a)) (fun _ v5 _=>ls.length - (intOf v5).toNat)
 case atStart=>exact⟨0,none,0,[],Nat.zero_le _,rfl,rfl,H0⟩
 case round =>
  clear H0;obtain⟨i,A0,cc,a,hi0,rfl,rfl,HI⟩:=hrel;obtain⟨wo,rfl⟩:∃ wo,wo=wr:=⟨_,rfl⟩;have hal:=HI.out.len
  by_cases hlt:i < ls.length
  ·obtain⟨x,hx⟩:∃ x,ls[i]?=some x:=⟨_,List.getElem?_eq_getElem hlt⟩
   obtain⟨b,o,c',e',_,_,_⟩:=HV.out.at HI.out.nw.below hx
   simp only[Value.slice.injEq,true_and]at e'
   obtain⟨rfl,rfl⟩:=e';have hlt':(i:Int) < (ls.length:Int):=by omega
   have HSX:=b9W (HS.out x (List.mem_of_getElem? hx));have HXI:=b9W hx;have HLT:=b9W (And.intro hlt hlt');obtain⟨f,d⟩:=x
   dsimp only at HSX HXI
   clear hx hlt;gi_wp2
   gi_loopw [6] (fun v6 wq=>∃ k:Nat,k≤a.length∧v6=.int .i64 (k:Int)∧Hid (∀ (j:Nat) y,j < k→a[j]?=some y→ltK y.1 f=true)∧Hid (a40 w ls i wq (.slice A0 a.length cc) a)) (fun v6 _=>a.length - (intOf v6).toNat)
   case atStart=>exact⟨0,Nat.zero_le _,rfl,b9W (fun j y h=>by omega),HI⟩
   case round =>
    clear HI;obtain⟨k,hk,rfl,HLO,HQ0⟩:=hrel;have HXC0:=b9W (HV.out.cell2 HQ0.out.nw.below HXI.out)
    by_cases hka:k < a.length
    ·obtain⟨y,hy⟩:∃ y,a[k]?=some y:=⟨_,List.getElem?_eq_getElem hka⟩
     have hka':(k:Int) < (a.length:Int):=by omega
     have hkne:((k:Int)==(a.length:Int))=false:=by rw[beq_eq_false_iff_ne];omega
     obtain⟨g,rfl,hgb,p0,p1⟩:=HQ0.out.at hy;have HYK:=b9W hy;obtain⟨yf,yd⟩:=y
     dsimp only at p0 p1 HYK
     obtain⟨hbq,q0,q1⟩:=HXC0.out
     dsimp only at q0 q1
     have TL:=a9W yf f
     cases h3:ltK yf f with
     | true =>
      rw[h3]at TL;have HLO2:=b9W (show ∀ (j:Nat) z,j < k+1→a[j]?=some z→ltK z.1 f=true from fun j z hj hz=>by
       rcases Nat.lt_or_ge j k with h|h
       ·exact HLO.out j z h hz
       ·obtain rfl:j=k:=by omega
        rw[HYK.out]at hz;cases hz;exact h3)
      have HKA:=b9W hka;clear h3 hy hka;gi_wp2
      gi_quiet (fail)
      have HQ:=b9W (HQ0.out.later (a04 (Below.refl _ _) nq));gi_wp2
      go_roundw
      case rel=>exact⟨k+1,HKA.out,by go_num,HLO2,HQ⟩
      case measure=>have:=HKA.out;simp[intOf];omega
     | false =>
      rw[h3]at TL;have HLF:=b9W h3;clear h3 hy;gi_wp2
      gi_quiet (fail)
      have HQ1:=b9W (HQ0.out.later (a04 (Below.refl _ _) nq));generalize wr.drewN nq=w1 at *;clear p0 p1 q0 q1 hbq hgb TL HXC0 HQ0 nq;obtain⟨g',e',hgb,p0,p1⟩:=HQ1.out.at HYK.out
      cases e'
      have HXC1:=b9W (HV.out.cell2 HQ1.out.nw.below HXI.out);obtain⟨hbq,q0,q1⟩:=HXC1.out
      dsimp only at p0 p1 q0 q1
      have TE:=a7J yf f
      by_cases he:yf=f
      ·rw[decide_eq_true he]at TE
       have HA:=b9W (a7U (HQ1.out.short _ (List.mem_of_getElem? HYK.out)).2 HSX.out.2);have HIN:=b9W (b3t (x:=(f,d)) HLO.out HYK.out HLF.out he)
       dsimp only at HA HIN HSX
       clear he;gi_wp2
       gi_quiet (fail)
       have HQ:=b9W (HQ1.out.later (a04 (Below.refl _ _) nq));generalize w1.drewN nq=wq at *;clear p0 p1 q0 q1 hbq hgb TE HXC1 HQ1 nq;obtain⟨g',e',hgb,p0,p1⟩:=HQ.out.at HYK.out
       cases e'
       have HXC:=b9W (HV.out.cell2 HQ.out.nw.below HXI.out);obtain⟨hbq,q0,q1⟩:=HXC.out
       dsimp only at p0 p1 q0 q1
       have xi:=a0v.at hgb p1;have xj:=a0v.at hbq q1;have HKK:=b9W (And.intro hgb p1);clear p0 p1 q0 q1 hbq hgb HXC
       cases hpl:plX yd d with
       | error n =>
        rw[hpl]at HA HIN;change Hid (Ret _ _ (.tuple #[.string ⟨#[]⟩,.int .i64 (n:Int)])) at HA;have hz:=a1E (a18 hpl);have hz2:=a2P (a18 hpl);have HR:=b9W (show mk=.error n by rw[← HMK.out];exact b1y (by rw[HQ.out.coll,a2U HXI.out];exact b4B _ _ _ HIN.out));clear hpl;gi_wp2;refine a4i rfl hmx (by kernel_rfl) ?_
        repeat (gi_big_quiet_step ((gi_at_call 59;refine(callsIn_wide.2 (HA.out _ (HQ.out.nw.res.below (a0v.h _)))).mono ?_;rintro e w99 ⟨rfl,hb9⟩;exact⟨rfl,⟨⟨w99,(a0v.h _).trans (hb9.mono (a0v.h _).size)⟩,rfl⟩⟩)))
        refine wpQuietIn_nil ?_;rintro _ ⟨z,rfl⟩;gi_wp2;refine bodyPost_ret (results_tmp2 rfl _ _ _) rfl ?_;rw[HR.out];exact⟨rfl,(HQ.out.nw.later z.h).below⟩
       | ok s =>
        rw[hpl]at HA HIN;change Hid (Ret _ _ (.tuple #[.string s,.int .i64 0])) at HA;clear hpl;gi_wp2;refine a4i rfl hmx (by kernel_rfl) ?_
        repeat (gi_big_quiet_step ((gi_at_call 59;refine(callsIn_wide.2 (HA.out _ (HQ.out.nw.res.below (a0v.h _)))).mono ?_;rintro e w99 ⟨rfl,hb9⟩;exact⟨rfl,⟨⟨w99,(a0v.h _).trans (hb9.mono (a0v.h _).size)⟩,rfl⟩⟩)))
        refine wpQuietIn_nil ?_;rintro _ ⟨z,rfl⟩;have HZ:=b9W (HQ.out.later z.h);generalize z.W=wz at *;clear xi xj;obtain⟨g',e',hgb,p0,p1⟩:=HZ.out.at HYK.out
        cases e'
        dsimp only at p0 p1
        have fz:=World.ownsRow.frozenAt HZ.out.own (k*2+1);gi_wp2
        go_roundw
        case rel=>exact⟨i+1,some ⟨g,0,none⟩,cc,a.set k (yf,s),HLT.out.1,by rw[List.length_set],by go_num,b9W (by rw[List.length_set];exact HZ.out.set HRS.out HXI.out HYK.out HIN.out HSX.out)⟩
        case measure=>have:=HLT.out.1;simp[intOf];omega
      ·rw[decide_eq_false he]at TE
       have HINS:=b9W (show insX a (f,d)=.ok (a.take k++(f,d)::a.drop k) from b0w hk HLO.out (fun z hz=>by rw[HYK.out]at hz;cases hz;exact⟨HLF.out,he⟩));clear he;gi_wp2
       gi_quiet (fail)
       have HQ:=b9W (HQ1.out.later (a04 (Below.refl _ _) nq));generalize w1.drewN nq=wq at *;clear p0 p1 q0 q1 hbq hgb TE HXC1 HQ1 nq;have HXC:=b9W (HV.out.cell2 HQ.out.nw.below HXI.out)
       dsimp only at HXC
       have HEL:=b9W (show ∀ (A:Option Addr) c,(Value.slice A (k+1+(a.length - k)) c)=.slice A (a.take k++(f,d)::a.drop k).length c from fun A c=>by congr 1;simp;omega);obtain⟨hcl1,hcl2⟩:a.length≤cc∧cc≤9223372036854775807:=by
        rcases HQ.out.cap with⟨e,_⟩|⟨_,_,h1,h2⟩
        ·cases e
        ·exact⟨h1,h2⟩
       have hi3':(k:Int)≤(a.length:Int):=by omega
       have hi2:(k:Int)≤(cc:Int):=by omega
       have hck:cc≠k:=by omega
       have hc0:cc≠0:=by omega
       have HSA:=b9W (show ∀ W,Below wq.heap.size wq W→Src W 2 (.slice (some ⟨g,0,none⟩) k cc) k (a0_ (a.take k)) from fun W hB=>b0S HQ.out.own hB hk);have HSB:=b9W (show ∀ W,Below wq.heap.size wq W→Src W 2 (.slice (some ⟨g,k*2,none⟩) (a.length - k) (cc - k)) (a.length - k) (a0_ (a.drop k)) from fun W hB=>b5n HQ.out.own hB);obtain⟨hbq,q0,q1⟩:=HXC.out;have xi0:∀ x:a0n wq (fun k=>k < wq.heap.size),x.W.cell? ⟨b,o+i*2,none⟩=some (.string f):=fun x=>x.cell hbq q0;have xi1:∀ x:a0n wq (fun k=>k < wq.heap.size),x.W.cell? ⟨b,o+i*2+1,none⟩=some (.string d):=fun x=>x.cell hbq q1;gi_wp2;refine a0o (a0R wq (fun k=>k < wq.heap.size)) [1,2,3,5,6,7,8,11,12,13] [15] hmx (by kernel_rfl) (a0g fun _ _=>rfl) ?_;change a0l _ _ _ _ _ _ _ _ (6+10) _ _ _;refine a0e [1,2,3,5,6,7,8,11,12,13] 6 _ _ (by kernel_rfl) ?_;change wpQuietIn _ _ _ _ (fun W'=>∃ x:a0n wq (fun k=>k < wq.heap.size),W'=x.W) _ _ _
       simp only[a0h,a0m,List.getElem?_cons_zero,List.getElem?_cons_succ,Option.elim_some]
       repeat (gi_big_quiet_step (fail))
       refine wpQuietIn_nil ?_;clear xi0 xi1 q0 q1 hbq;refine a1p 0 9 (by kernel_rfl) rfl rfl ?_ ?_
       ·gi_wp2
        refine a0b (a0a (Below.alloc (a0P wq) (Nat.le_refl _) _) (fun k hk=>hk)) ?_;refine a1p 4 9 (by kernel_rfl) rfl rfl ?_ ?_
        ·have ho0:(wq.drew.alloc (.cells #[] 30)).ownsRow wq.heap.size 30 2 (.slice (some ⟨wq.heap.size,0,none⟩) 0 0) 0 []:=a7j (Nat.le_refl _) (heap_alloc_new wq.drew _)
         have hB0:Below wq.heap.size wq (wq.drew.alloc (.cells #[] 30)):=Below.alloc (a0P wq) (Nat.le_refl _) _;have HS1:=b9W (HSA.out _ hB0)
         gi_wp2_with (gi_at_builtin;go_loud (refine a0s _ rfl _ _ 22 rfl wq.heap.size 30 i0 (.agg #[.string ByteArray.empty,.string ByteArray.empty]) 2 32 underlying22 hi hz0 hz1 hz2 rfl (by decide) (.slice (some ⟨wq.heap.size,0,none⟩) 0 0) 0 [] rfl ho0 _ k (a0_ (a.take k)) rfl HS1.out (a1B _) (by unfold maxLen;omega) (by omega) hB0.size ?_;intro v1 w3 hown2 hgrow3))
         rw[Nat.zero_add,List.nil_append]at hown2;have hB2:=a0Y hB0 hB0.size ho0 hgrow3;refine a0b (a0a hB2 (fun k hk=>hk)) ?_;refine a0c 9 (by kernel_rfl) rfl ?_;gi_wp2;have hB3:Below wq.heap.size wq (w3.alloc (.cells #[.string f,.string d] 30)):=hB2.alloc hB2.size _;have hown3:=World.ownsRow.alloc hown2 (.cells #[.string f,.string d] 30);have h57:(w3.alloc (.cells #[.string f,.string d] 30)).heap[w3.heap.size]?=some (.cells #[.string f,.string d] 30 (0,0)):=heap_alloc_new w3 _;clear hown2 hgrow3 hB2 ho0 hB0;generalize w3.alloc (.cells #[.string f,.string d] 30)=W3 at *;have hN3:wq.heap.size≤W3.heap.size:=hB3.size;have HN1:=b9W (a4H (x:=(f,d)) h57);have HB3:=b9W hB3;clear h57;refine a0b (a0a HB3.out (fun k hk=>hk)) ?_;refine a0c 10 (by kernel_rfl) rfl ?_
         gi_wp2_with (gi_at_builtin;go_loud (refine a0s _ rfl _ _ 22 rfl wq.heap.size 30 i0 (.agg #[.string ByteArray.empty,.string ByteArray.empty]) 2 32 underlying22 hi hz0 hz1 hz2 rfl (by decide) v1 k _ rfl hown3 _ 1 [.string f,.string d] rfl HN1.out (a3f (f,d)) (by unfold maxLen;omega) (by omega) hN3 ?_;intro v2 w4 hown4 hgrow4))
         have hB4:=a0Y HB3.out hN3 hown3 hgrow4;have hN4:=hB4.size;have HB4:=b9W hB4;have HS2:=b9W (HSB.out w4 hB4);clear hgrow4 hB4;refine a0b (a0a HB4.out (fun k hk=>hk)) ?_;refine a0c 14 (by kernel_rfl) rfl ?_
         gi_wp2_with (gi_at_builtin;go_loud (refine a0s _ rfl _ _ 22 rfl wq.heap.size 30 i0 (.agg #[.string ByteArray.empty,.string ByteArray.empty]) 2 32 underlying22 hi hz0 hz1 hz2 rfl (by decide) v2 (k+1) _ rfl hown4 _ _ _ rfl HS2.out (a1B _) (by unfold maxLen;omega) (by omega) hN4 ?_;intro v3 w5 hown5 hgrow5))
         have HB5:=b9W (a0Y HB4.out hN4 hown4 hgrow5);obtain⟨A6,c6,rfl⟩:=a1H hown5;have HF5:=b9W (HQ.out.new (x:=(f,d)) HXI.out HINS.out hk HSX.out HB5.out (by first|exact hown5|(rw[HZ.out,HD2.out];exact hown5)));clear hown5 hgrow5 hown4 hown3;refine a0b (a0a HB5.out (fun k hk=>hk)) ?_;refine a0c 15 (by kernel_rfl) rfl ?_;gi_wp2;refine a2B rfl ?_;refine a0i (by kernel_rfl) ?_;gi_wp2
         go_roundw
         case rel=>exact⟨i+1,A6,c6,_,HLT.out.1,(by first|exact HEL.out _ _|rw[← HEL.out,HZ.out]),by go_num,b9W (by first|(rw[← HEL.out];exact HF5.out)|(rw[← HEL.out,HZ.out];exact HF5.out))⟩
         case measure=>have:=HLT.out.1;simp[intOf];omega
        ·gi_wp2
         refine a0b (a0a (Below.alloc (Below.alloc (a0P wq) (Nat.le_refl _) (.cells #[] 30)) (by simp) _) (fun k hk=>hk)) ?_;refine a0c 4 (by kernel_rfl) rfl ?_;have ho0:((wq.drew.alloc (.cells #[] 30)).alloc (.cells #[.string f,.string d] 30)).ownsRow wq.heap.size 30 2 (.slice (some ⟨wq.heap.size,0,none⟩) 0 0) 0 []:=a7j (Nat.le_refl _) (b0m wq.drew _ _);have hB0:Below wq.heap.size wq ((wq.drew.alloc (.cells #[] 30)).alloc (.cells #[.string f,.string d] 30)):=Below.alloc (Below.alloc (a0P wq) (Nat.le_refl _) _) (by simp) _;have HS1:=b9W (HSA.out _ hB0)
         gi_wp2_with (gi_at_builtin;go_loud (refine a0s _ rfl _ _ 22 rfl wq.heap.size 30 i0 (.agg #[.string ByteArray.empty,.string ByteArray.empty]) 2 32 underlying22 hi hz0 hz1 hz2 rfl (by decide) (.slice (some ⟨wq.heap.size,0,none⟩) 0 0) 0 [] rfl ho0 _ k (a0_ (a.take k)) rfl HS1.out (a1B _) (by unfold maxLen;omega) (by omega) hB0.size ?_;intro v1 w3 hown2 hgrow3))
         rw[Nat.zero_add,List.nil_append]at hown2;have hB3:=a0Y hB0 hB0.size ho0 hgrow3;have h57:=(hgrow3.block (wq.heap.size+1) (by simp) (by simp[Value.ownBlock])).trans (b0s wq.drew (.cells #[] 30) (.cells #[.string f,.string d] 30));have hown3:=hown2;clear hgrow3 hown2 ho0 hB0;have hN3:wq.heap.size≤w3.heap.size:=hB3.size;have HN1:=b9W (a4H (x:=(f,d)) h57);have HB3:=b9W hB3;clear h57;refine a0b (a0a HB3.out (fun k hk=>hk)) ?_;refine a0c 10 (by kernel_rfl) rfl ?_
         gi_wp2_with (gi_at_builtin;go_loud (refine a0s _ rfl _ _ 22 rfl wq.heap.size 30 i0 (.agg #[.string ByteArray.empty,.string ByteArray.empty]) 2 32 underlying22 hi hz0 hz1 hz2 rfl (by decide) v1 k _ rfl hown3 _ 1 [.string f,.string d] rfl HN1.out (a3f (f,d)) (by unfold maxLen;omega) (by omega) hN3 ?_;intro v2 w4 hown4 hgrow4))
         have hB4:=a0Y HB3.out hN3 hown3 hgrow4;have hN4:=hB4.size;have HB4:=b9W hB4;have HS2:=b9W (HSB.out w4 hB4);clear hgrow4 hB4;refine a0b (a0a HB4.out (fun k hk=>hk)) ?_;refine a0c 14 (by kernel_rfl) rfl ?_
         gi_wp2_with (gi_at_builtin;go_loud (refine a0s _ rfl _ _ 22 rfl wq.heap.size 30 i0 (.agg #[.string ByteArray.empty,.string ByteArray.empty]) 2 32 underlying22 hi hz0 hz1 hz2 rfl (by decide) v2 (k+1) _ rfl hown4 _ _ _ rfl HS2.out (a1B _) (by unfold maxLen;omega) (by omega) hN4 ?_;intro v3 w5 hown5 hgrow5))
         have HB5:=b9W (a0Y HB4.out hN4 hown4 hgrow5);obtain⟨A6,c6,rfl⟩:=a1H hown5;have HF5:=b9W (HQ.out.new (x:=(f,d)) HXI.out HINS.out hk HSX.out HB5.out (by first|exact hown5|(rw[HZ.out,HD2.out];exact hown5)));clear hown5 hgrow5 hown4 hown3;refine a0b (a0a HB5.out (fun k hk=>hk)) ?_;refine a0c 15 (by kernel_rfl) rfl ?_;gi_wp2;refine a2B rfl ?_;refine a0i (by kernel_rfl) ?_;gi_wp2
         go_roundw
         case rel=>exact⟨i+1,A6,c6,_,HLT.out.1,(by first|exact HEL.out _ _|rw[← HEL.out,HZ.out]),by go_num,b9W (by first|(rw[← HEL.out];exact HF5.out)|(rw[← HEL.out,HZ.out];exact HF5.out))⟩
         case measure=>have:=HLT.out.1;simp[intOf];omega
       ·gi_wp2
        refine a0b (a0a (Below.alloc (a0P wq) (Nat.le_refl _) _) (fun k hk=>hk)) ?_;refine a0c 0 (by kernel_rfl) rfl ?_;gi_wp2;refine a0b (a0a (Below.alloc (Below.alloc (a0P wq) (Nat.le_refl _) (.cells #[.string f,.string d] 30)) (by simp) _) (fun k hk=>hk)) ?_;refine a0c 4 (by kernel_rfl) rfl ?_;have ho0:((wq.drew.alloc (.cells #[.string f,.string d] 30)).alloc (.cells #[] 30)).ownsRow wq.heap.size 30 2 (.slice (some ⟨wq.heap.size+1,0,none⟩) 0 0) 0 []:=a7j (Nat.le_succ _) (b0s wq.drew _ _);have hB0:Below wq.heap.size wq ((wq.drew.alloc (.cells #[.string f,.string d] 30)).alloc (.cells #[] 30)):=Below.alloc (Below.alloc (a0P wq) (Nat.le_refl _) _) (by simp) _;have HS1:=b9W (HSA.out _ hB0)
        gi_wp2_with (gi_at_builtin;go_loud (refine a0s _ rfl _ _ 22 rfl wq.heap.size 30 i0 (.agg #[.string ByteArray.empty,.string ByteArray.empty]) 2 32 underlying22 hi hz0 hz1 hz2 rfl (by decide) (.slice (some ⟨wq.heap.size+1,0,none⟩) 0 0) 0 [] rfl ho0 _ k (a0_ (a.take k)) rfl HS1.out (a1B _) (by unfold maxLen;omega) (by omega) hB0.size ?_;intro v1 w3 hown2 hgrow3))
        rw[Nat.zero_add,List.nil_append]at hown2;have hB3:=a0Y hB0 hB0.size ho0 hgrow3;have h57:=(hgrow3.block wq.heap.size (by simp;omega) (by simp[Value.ownBlock])).trans (b0m wq.drew (.cells #[.string f,.string d] 30) (.cells #[] 30));have hown3:=hown2;clear hgrow3 hown2 ho0 hB0;have hN3:wq.heap.size≤w3.heap.size:=hB3.size;have HN1:=b9W (a4H (x:=(f,d)) h57);have HB3:=b9W hB3;clear h57;refine a0b (a0a HB3.out (fun k hk=>hk)) ?_;refine a0c 10 (by kernel_rfl) rfl ?_
        gi_wp2_with (gi_at_builtin;go_loud (refine a0s _ rfl _ _ 22 rfl wq.heap.size 30 i0 (.agg #[.string ByteArray.empty,.string ByteArray.empty]) 2 32 underlying22 hi hz0 hz1 hz2 rfl (by decide) v1 k _ rfl hown3 _ 1 [.string f,.string d] rfl HN1.out (a3f (f,d)) (by unfold maxLen;omega) (by omega) hN3 ?_;intro v2 w4 hown4 hgrow4))
        have hB4:=a0Y HB3.out hN3 hown3 hgrow4;have hN4:=hB4.size;have HB4:=b9W hB4;have HS2:=b9W (HSB.out w4 hB4);clear hgrow4 hB4;refine a0b (a0a HB4.out (fun k hk=>hk)) ?_;refine a0c 14 (by kernel_rfl) rfl ?_
        gi_wp2_with (gi_at_builtin;go_loud (refine a0s _ rfl _ _ 22 rfl wq.heap.size 30 i0 (.agg #[.string ByteArray.empty,.string ByteArray.empty]) 2 32 underlying22 hi hz0 hz1 hz2 rfl (by decide) v2 (k+1) _ rfl hown4 _ _ _ rfl HS2.out (a1B _) (by unfold maxLen;omega) (by omega) hN4 ?_;intro v3 w5 hown5 hgrow5))
        have HB5:=b9W (a0Y HB4.out hN4 hown4 hgrow5);obtain⟨A6,c6,rfl⟩:=a1H hown5;have HF5:=b9W (HQ.out.new (x:=(f,d)) HXI.out HINS.out hk HSX.out HB5.out (by first|exact hown5|(rw[HZ.out,HD2.out];exact hown5)));clear hown5 hgrow5 hown4 hown3;refine a0b (a0a HB5.out (fun k hk=>hk)) ?_;refine a0c 15 (by kernel_rfl) rfl ?_;gi_wp2;refine a2B rfl ?_;refine a0i (by kernel_rfl) ?_;gi_wp2
        go_roundw
        case rel=>exact⟨i+1,A6,c6,_,HLT.out.1,(by first|exact HEL.out _ _|rw[← HEL.out,HZ.out]),by go_num,b9W (by first|(rw[← HEL.out];exact HF5.out)|(rw[← HEL.out,HZ.out];exact HF5.out))⟩
        case measure=>have:=HLT.out.1;simp[intOf];omega
    ·have hka':¬ (k:Int) < (a.length:Int):=by omega
     have hkeq:((k:Int)==(a.length:Int))=true:=by rw[beq_iff_eq];omega
     have HINS:=b9W (show insX a (f,d)=.ok (a.take k++(f,d)::a.drop k) from b0w hk HLO.out (fun z hz=>by rw[List.getElem?_eq_none (by omega)]at hz;cases hz));gi_wp2
     gi_quiet (fail)
     have HQ1:=b9W (HQ0.out.later (a04 (Below.refl _ _) nq));generalize wr.drewN nq=w1 at *;clear HQ0 HXC0 nq;gi_wp2
     gi_quiet (fail)
     have HQ:=b9W (HQ1.out.later (a04 (Below.refl _ _) nq));generalize w1.drewN nq=wq at *;clear HQ1 nq;have HXC:=b9W (HV.out.cell2 HQ.out.nw.below HXI.out)
     dsimp only at HXC
     have HEL:=b9W (show ∀ (A:Option Addr) c,(Value.slice A (k+1+(a.length - k)) c)=.slice A (a.take k++(f,d)::a.drop k).length c from fun A c=>by congr 1;simp;omega);have HD2:=b9W (show a0_ (a.drop k)=[] by rw[List.drop_of_length_le (by omega)];rfl);have HZ:=b9W (show a.length - k=0 by omega);have hi3':(k:Int)≤(a.length:Int):=by omega
     rcases HQ.out.cap with⟨rfl,rfl,e0⟩|⟨g,rfl,hcl1,hcl2⟩
     have e1:a.length=0:=by rw[e0];rfl
     have HKZ:=b9W (show k=0 by omega);have HSA:=b9W (show ∀ W,Below wq.heap.size wq W→Src W 2 (.slice none k 0) k (a0_ (a.take k)) from fun W hB=>by rw[HKZ.out];exact a6w);have HSB:=b9W (show ∀ W,Below wq.heap.size wq W→Src W 2 (.slice none (a.length - k) 0) (a.length - k) (a0_ (a.drop k)) from fun W hB=>by rw[HD2.out,HZ.out];exact a6w);have hi2:(k:Int)≤((0:Nat):Int):=by have:=HKZ.out;omega
     clear e0 e1
     rotate_left
     have HSA:=b9W (show ∀ W,Below wq.heap.size wq W→Src W 2 (.slice (some ⟨g,0,none⟩) k cc) k (a0_ (a.take k)) from fun W hB=>b0S HQ.out.own hB hk);have hi2:(k:Int)≤(cc:Int):=by omega
     by_cases hck:cc=k
     have HSB:=b9W (show ∀ W,Below wq.heap.size wq W→Src W 2 (.slice (some ⟨g,0,none⟩) 0 0) 0 (a0_ []) from fun W hB=>a6w);have hck2:=hck.symm;clear hck;subst hck2
     rotate_left
     have HSB:=b9W (show ∀ W,Below wq.heap.size wq W→Src W 2 (.slice (some ⟨g,k*2,none⟩) (a.length - k) (cc - k)) (a.length - k) (a0_ (a.drop k)) from fun W hB=>by rw[HD2.out,HZ.out];exact a6w);have hc0:cc≠0:=by omega
     rotate_left
     all_goals
      obtain⟨hbq,q0,q1⟩:=HXC.out;have xi0:∀ x:a0n wq (fun k=>k < wq.heap.size),x.W.cell? ⟨b,o+i*2,none⟩=some (.string f):=fun x=>x.cell hbq q0;have xi1:∀ x:a0n wq (fun k=>k < wq.heap.size),x.W.cell? ⟨b,o+i*2+1,none⟩=some (.string d):=fun x=>x.cell hbq q1;gi_wp2;refine a0o (a0R wq (fun k=>k < wq.heap.size)) [1,2,3,5,6,7,8,11,12,13] [15] hmx (by kernel_rfl) (a0g fun _ _=>rfl) ?_;change a0l _ _ _ _ _ _ _ _ (6+10) _ _ _;refine a0e [1,2,3,5,6,7,8,11,12,13] 6 _ _ (by kernel_rfl) ?_;change wpQuietIn _ _ _ _ (fun W'=>∃ x:a0n wq (fun k=>k < wq.heap.size),W'=x.W) _ _ _
      simp only[a0h,a0m,List.getElem?_cons_zero,List.getElem?_cons_succ,Option.elim_some]
      repeat (gi_big_quiet_step (fail))
      refine wpQuietIn_nil ?_;clear xi0 xi1 q0 q1 hbq;refine a1p 0 9 (by kernel_rfl) rfl rfl ?_ ?_
      ·gi_wp2
       refine a0b (a0a (Below.alloc (a0P wq) (Nat.le_refl _) _) (fun k hk=>hk)) ?_;refine a1p 4 9 (by kernel_rfl) rfl rfl ?_ ?_
       ·have ho0:(wq.drew.alloc (.cells #[] 30)).ownsRow wq.heap.size 30 2 (.slice (some ⟨wq.heap.size,0,none⟩) 0 0) 0 []:=a7j (Nat.le_refl _) (heap_alloc_new wq.drew _)
        have hB0:Below wq.heap.size wq (wq.drew.alloc (.cells #[] 30)):=Below.alloc (a0P wq) (Nat.le_refl _) _;have HS1:=b9W (HSA.out _ hB0)
        gi_wp2_with (gi_at_builtin;go_loud (refine a0s _ rfl _ _ 22 rfl wq.heap.size 30 i0 (.agg #[.string ByteArray.empty,.string ByteArray.empty]) 2 32 underlying22 hi hz0 hz1 hz2 rfl (by decide) (.slice (some ⟨wq.heap.size,0,none⟩) 0 0) 0 [] rfl ho0 _ k (a0_ (a.take k)) rfl HS1.out (a1B _) (by unfold maxLen;omega) (by omega) hB0.size ?_;intro v1 w3 hown2 hgrow3))
        rw[Nat.zero_add,List.nil_append]at hown2;have hB2:=a0Y hB0 hB0.size ho0 hgrow3;refine a0b (a0a hB2 (fun k hk=>hk)) ?_;refine a0c 9 (by kernel_rfl) rfl ?_;gi_wp2;have hB3:Below wq.heap.size wq (w3.alloc (.cells #[.string f,.string d] 30)):=hB2.alloc hB2.size _;have hown3:=World.ownsRow.alloc hown2 (.cells #[.string f,.string d] 30);have h57:(w3.alloc (.cells #[.string f,.string d] 30)).heap[w3.heap.size]?=some (.cells #[.string f,.string d] 30 (0,0)):=heap_alloc_new w3 _;clear hown2 hgrow3 hB2 ho0 hB0;generalize w3.alloc (.cells #[.string f,.string d] 30)=W3 at *;have hN3:wq.heap.size≤W3.heap.size:=hB3.size;have HN1:=b9W (a4H (x:=(f,d)) h57);have HB3:=b9W hB3;clear h57;refine a0b (a0a HB3.out (fun k hk=>hk)) ?_;refine a0c 10 (by kernel_rfl) rfl ?_
        gi_wp2_with (gi_at_builtin;go_loud (refine a0s _ rfl _ _ 22 rfl wq.heap.size 30 i0 (.agg #[.string ByteArray.empty,.string ByteArray.empty]) 2 32 underlying22 hi hz0 hz1 hz2 rfl (by decide) v1 k _ rfl hown3 _ 1 [.string f,.string d] rfl HN1.out (a3f (f,d)) (by unfold maxLen;omega) (by omega) hN3 ?_;intro v2 w4 hown4 hgrow4))
        have hB4:=a0Y HB3.out hN3 hown3 hgrow4;have hN4:=hB4.size;have HB4:=b9W hB4;have HS2:=b9W (HSB.out w4 hB4);clear hgrow4 hB4;refine a0b (a0a HB4.out (fun k hk=>hk)) ?_;refine a0c 14 (by kernel_rfl) rfl ?_
        gi_wp2_with (gi_at_builtin;go_loud (refine a0s _ rfl _ _ 22 rfl wq.heap.size 30 i0 (.agg #[.string ByteArray.empty,.string ByteArray.empty]) 2 32 underlying22 hi hz0 hz1 hz2 rfl (by decide) v2 (k+1) _ rfl hown4 _ _ _ rfl HS2.out (a1B _) (by unfold maxLen;omega) (by omega) hN4 ?_;intro v3 w5 hown5 hgrow5))
        have HB5:=b9W (a0Y HB4.out hN4 hown4 hgrow5);obtain⟨A6,c6,rfl⟩:=a1H hown5;have HF5:=b9W (HQ.out.new (x:=(f,d)) HXI.out HINS.out hk HSX.out HB5.out (by first|exact hown5|(rw[HZ.out,HD2.out];exact hown5)));clear hown5 hgrow5 hown4 hown3;refine a0b (a0a HB5.out (fun k hk=>hk)) ?_;refine a0c 15 (by kernel_rfl) rfl ?_;gi_wp2;refine a2B rfl ?_;refine a0i (by kernel_rfl) ?_;gi_wp2
        go_roundw
        case rel=>exact⟨i+1,A6,c6,_,HLT.out.1,(by first|exact HEL.out _ _|rw[← HEL.out,HZ.out]),by go_num,b9W (by first|(rw[← HEL.out];exact HF5.out)|(rw[← HEL.out,HZ.out];exact HF5.out))⟩
        case measure=>have:=HLT.out.1;simp[intOf];omega
       ·gi_wp2
        refine a0b (a0a (Below.alloc (Below.alloc (a0P wq) (Nat.le_refl _) (.cells #[] 30)) (by simp) _) (fun k hk=>hk)) ?_;refine a0c 4 (by kernel_rfl) rfl ?_;have ho0:((wq.drew.alloc (.cells #[] 30)).alloc (.cells #[.string f,.string d] 30)).ownsRow wq.heap.size 30 2 (.slice (some ⟨wq.heap.size,0,none⟩) 0 0) 0 []:=a7j (Nat.le_refl _) (b0m wq.drew _ _);have hB0:Below wq.heap.size wq ((wq.drew.alloc (.cells #[] 30)).alloc (.cells #[.string f,.string d] 30)):=Below.alloc (Below.alloc (a0P wq) (Nat.le_refl _) _) (by simp) _;have HS1:=b9W (HSA.out _ hB0)
        gi_wp2_with (gi_at_builtin;go_loud (refine a0s _ rfl _ _ 22 rfl wq.heap.size 30 i0 (.agg #[.string ByteArray.empty,.string ByteArray.empty]) 2 32 underlying22 hi hz0 hz1 hz2 rfl (by decide) (.slice (some ⟨wq.heap.size,0,none⟩) 0 0) 0 [] rfl ho0 _ k (a0_ (a.take k)) rfl HS1.out (a1B _) (by unfold maxLen;omega) (by omega) hB0.size ?_;intro v1 w3 hown2 hgrow3))
        rw[Nat.zero_add,List.nil_append]at hown2;have hB3:=a0Y hB0 hB0.size ho0 hgrow3;have h57:=(hgrow3.block (wq.heap.size+1) (by simp) (by simp[Value.ownBlock])).trans (b0s wq.drew (.cells #[] 30) (.cells #[.string f,.string d] 30));have hown3:=hown2;clear hgrow3 hown2 ho0 hB0;have hN3:wq.heap.size≤w3.heap.size:=hB3.size;have HN1:=b9W (a4H (x:=(f,d)) h57);have HB3:=b9W hB3;clear h57;refine a0b (a0a HB3.out (fun k hk=>hk)) ?_;refine a0c 10 (by kernel_rfl) rfl ?_
        gi_wp2_with (gi_at_builtin;go_loud (refine a0s _ rfl _ _ 22 rfl wq.heap.size 30 i0 (.agg #[.string ByteArray.empty,.string ByteArray.empty]) 2 32 underlying22 hi hz0 hz1 hz2 rfl (by decide) v1 k _ rfl hown3 _ 1 [.string f,.string d] rfl HN1.out (a3f (f,d)) (by unfold maxLen;omega) (by omega) hN3 ?_;intro v2 w4 hown4 hgrow4))
        have hB4:=a0Y HB3.out hN3 hown3 hgrow4;have hN4:=hB4.size;have HB4:=b9W hB4;have HS2:=b9W (HSB.out w4 hB4);clear hgrow4 hB4;refine a0b (a0a HB4.out (fun k hk=>hk)) ?_;refine a0c 14 (by kernel_rfl) rfl ?_
        gi_wp2_with (gi_at_builtin;go_loud (refine a0s _ rfl _ _ 22 rfl wq.heap.size 30 i0 (.agg #[.string ByteArray.empty,.string ByteArray.empty]) 2 32 underlying22 hi hz0 hz1 hz2 rfl (by decide) v2 (k+1) _ rfl hown4 _ _ _ rfl HS2.out (a1B _) (by unfold maxLen;omega) (by omega) hN4 ?_;intro v3 w5 hown5 hgrow5))
        have HB5:=b9W (a0Y HB4.out hN4 hown4 hgrow5);obtain⟨A6,c6,rfl⟩:=a1H hown5;have HF5:=b9W (HQ.out.new (x:=(f,d)) HXI.out HINS.out hk HSX.out HB5.out (by first|exact hown5|(rw[HZ.out,HD2.out];exact hown5)));clear hown5 hgrow5 hown4 hown3;refine a0b (a0a HB5.out (fun k hk=>hk)) ?_;refine a0c 15 (by kernel_rfl) rfl ?_;gi_wp2;refine a2B rfl ?_;refine a0i (by kernel_rfl) ?_;gi_wp2
        go_roundw
        case rel=>exact⟨i+1,A6,c6,_,HLT.out.1,(by first|exact HEL.out _ _|rw[← HEL.out,HZ.out]),by go_num,b9W (by first|(rw[← HEL.out];exact HF5.out)|(rw[← HEL.out,HZ.out];exact HF5.out))⟩
        case measure=>have:=HLT.out.1;simp[intOf];omega
      ·gi_wp2
       refine a0b (a0a (Below.alloc (a0P wq) (Nat.le_refl _) _) (fun k hk=>hk)) ?_;refine a0c 0 (by kernel_rfl) rfl ?_;gi_wp2;refine a0b (a0a (Below.alloc (Below.alloc (a0P wq) (Nat.le_refl _) (.cells #[.string f,.string d] 30)) (by simp) _) (fun k hk=>hk)) ?_;refine a0c 4 (by kernel_rfl) rfl ?_;have ho0:((wq.drew.alloc (.cells #[.string f,.string d] 30)).alloc (.cells #[] 30)).ownsRow wq.heap.size 30 2 (.slice (some ⟨wq.heap.size+1,0,none⟩) 0 0) 0 []:=a7j (Nat.le_succ _) (b0s wq.drew _ _);have hB0:Below wq.heap.size wq ((wq.drew.alloc (.cells #[.string f,.string d] 30)).alloc (.cells #[] 30)):=Below.alloc (Below.alloc (a0P wq) (Nat.le_refl _) _) (by simp) _;have HS1:=b9W (HSA.out _ hB0)
       gi_wp2_with (gi_at_builtin;go_loud (refine a0s _ rfl _ _ 22 rfl wq.heap.size 30 i0 (.agg #[.string ByteArray.empty,.string ByteArray.empty]) 2 32 underlying22 hi hz0 hz1 hz2 rfl (by decide) (.slice (some ⟨wq.heap.size+1,0,none⟩) 0 0) 0 [] rfl ho0 _ k (a0_ (a.take k)) rfl HS1.out (a1B _) (by unfold maxLen;omega) (by omega) hB0.size ?_;intro v1 w3 hown2 hgrow3))
       rw[Nat.zero_add,List.nil_append]at hown2;have hB3:=a0Y hB0 hB0.size ho0 hgrow3;have h57:=(hgrow3.block wq.heap.size (by simp;omega) (by simp[Value.ownBlock])).trans (b0m wq.drew (.cells #[.string f,.string d] 30) (.cells #[] 30));have hown3:=hown2;clear hgrow3 hown2 ho0 hB0;have hN3:wq.heap.size≤w3.heap.size:=hB3.size;have HN1:=b9W (a4H (x:=(f,d)) h57);have HB3:=b9W hB3;clear h57;refine a0b (a0a HB3.out (fun k hk=>hk)) ?_;refine a0c 10 (by kernel_rfl) rfl ?_
       gi_wp2_with (gi_at_builtin;go_loud (refine a0s _ rfl _ _ 22 rfl wq.heap.size 30 i0 (.agg #[.string ByteArray.empty,.string ByteArray.empty]) 2 32 underlying22 hi hz0 hz1 hz2 rfl (by decide) v1 k _ rfl hown3 _ 1 [.string f,.string d] rfl HN1.out (a3f (f,d)) (by unfold maxLen;omega) (by omega) hN3 ?_;intro v2 w4 hown4 hgrow4))
       have hB4:=a0Y HB3.out hN3 hown3 hgrow4;have hN4:=hB4.size;have HB4:=b9W hB4;have HS2:=b9W (HSB.out w4 hB4);clear hgrow4 hB4;refine a0b (a0a HB4.out (fun k hk=>hk)) ?_;refine a0c 14 (by kernel_rfl) rfl ?_
       gi_wp2_with (gi_at_builtin;go_loud (refine a0s _ rfl _ _ 22 rfl wq.heap.size 30 i0 (.agg #[.string ByteArray.empty,.string ByteArray.empty]) 2 32 underlying22 hi hz0 hz1 hz2 rfl (by decide) v2 (k+1) _ rfl hown4 _ _ _ rfl HS2.out (a1B _) (by unfold maxLen;omega) (by omega) hN4 ?_;intro v3 w5 hown5 hgrow5))
       have HB5:=b9W (a0Y HB4.out hN4 hown4 hgrow5);obtain⟨A6,c6,rfl⟩:=a1H hown5;have HF5:=b9W (HQ.out.new (x:=(f,d)) HXI.out HINS.out hk HSX.out HB5.out (by first|exact hown5|(rw[HZ.out,HD2.out];exact hown5)));clear hown5 hgrow5 hown4 hown3;refine a0b (a0a HB5.out (fun k hk=>hk)) ?_;refine a0c 15 (by kernel_rfl) rfl ?_;gi_wp2;refine a2B rfl ?_;refine a0i (by kernel_rfl) ?_;gi_wp2
       go_roundw
       case rel=>exact⟨i+1,A6,c6,_,HLT.out.1,(by first|exact HEL.out _ _|rw[← HEL.out,HZ.out]),by go_num,b9W (by first|(rw[← HEL.out];exact HF5.out)|(rw[← HEL.out,HZ.out];exact HF5.out))⟩
       case measure=>have:=HLT.out.1;simp[intOf];omega
  ·have hlt':¬ (i:Int) < (ls.length:Int):=by omega
   have HR:=b9W (show mk=.ok (a1O a) by
    have:=HI.out.coll;rw[List.drop_of_length_le (by omega)]at this;rw[← HMK.out];exact b20 this)
   have HWS:=b9W HI.out.nw.below.size;clear hlt;gi_wp2
   gi_loopw [9,10] (fun v9 v10 wq=>∃ (k:Nat) (A1:Option Addr) (c1:Nat),k≤a.length∧v9=.slice A1 (a1O (a.take k)).length c1∧v10=.int .i64 (k:Int)∧Hid (OwnM wo.heap.size wq (.slice A1 (a1O (a.take k)).length c1) (a1O (a.take k)))∧Hid (Below wo.heap.size wo wq)) (fun _ v10 _=>a.length - (intOf v10).toNat)
   case atStart=>exact⟨0,none,0,Nat.zero_le _,rfl,rfl,b9W (OwnM.nil _ _),b9W (Below.refl _ _)⟩
   case round =>
    obtain⟨k,A1,c1,hk,rfl,rfl,HO,HB⟩:=hrel
    by_cases hka:k < a.length
    ·obtain⟨y,hy⟩:∃ y,a[k]?=some y:=⟨_,List.getElem?_eq_getElem hka⟩
     have hka2:(k:Int) < (a.length:Int):=by omega
     obtain⟨g,rfl,hgb,p0,p1⟩:=(HI.out.later HB.out).at hy;have HKS:=b9W (b3W hy);have HKA:=b9W hka;have HLK:=b9W (show (a1O (a.take k)).length≤1000 by unfold a1O;have:=List.length_filter_le (fun x:L2=>decide (x.2≠zT)) (a.take k);rw[List.length_take]at this;omega);obtain⟨yf,yd⟩:=y
     dsimp only at p0 p1 HKS
     have TE:=a7J yd zT;rw[b83]at TE;clear hy hka
     by_cases he:yd=zT
     ·rw[decide_eq_true he]at TE
      rw[if_pos he]at HKS;clear he;gi_wp2
      go_roundw
      case rel=>exact⟨k+1,A1,c1,HKA.out,by rw[HKS.out],by go_num,by rw[HKS.out];exact HO,HB⟩
      case measure=>have:=HKA.out;simp[intOf];omega
     ·rw[decide_eq_false he]at TE
      rw[if_neg he]at HKS;have HN:=b9W (show ∀ (A:Option Addr) c,(Value.slice A ((a1O (a.take k)).length+1) c)=.slice A (a1O (a.take (k+1))).length c from fun A c=>by rw[HKS.out];simp);clear he;have HO1:=b9W (OwnM.later HO.out (a0d (Below.refl _ _) (.cells #[.string yf,.string yd] 30)));have HB1:=b9W (b1D HB.out HB.out.size (.cells #[.string yf,.string yd] 30));have HS1:=b9W (a4H (x:=(yf,yd)) (heap_alloc_new wr (.cells #[.string yf,.string yd] 30)));have hsz:=HB1.out.size
      gi_wp2_with (gi_at_builtin;go_loud (refine a0s _ rfl _ _ 22 rfl wo.heap.size 30 i0 (.agg #[.string ByteArray.empty,.string ByteArray.empty]) 2 32 underlying22 hi hz0 hz1 hz2 rfl (by decide) _ _ _ rfl HO1.out _ 1 [.string yf,.string yd] rfl HS1.out (a3f (yf,yd)) (by have:=HLK.out;unfold maxLen;omega) (by have:=HLK.out;omega) hsz ?_;intro v1 w4 hown4 hgrow4;obtain⟨A6,c6,rfl⟩:=a1H hown4;have HB4:=b9W (a0Y HB1.out HB1.out.size HO1.out hgrow4);have HO4:=b9W hown4;clear hown4 hgrow4))
      go_roundw
      case rel=>exact⟨k+1,A6,c6,HKA.out,HN.out _ _,by go_num,b9W (by rw[← HN.out,HKS.out];unfold OwnM;rw[List.length_append,a2K];exact HO4.out),HB4⟩
      case measure=>have:=HKA.out;simp[intOf];omega
    ·have hka2:¬ (k:Int) < (a.length:Int):=by omega
     obtain rfl:k=a.length:=by omega
     clear hka;rw[List.take_length]at HO ⊢;gi_wp2;refine bodyPost_ret (results_tmp2 rfl _ _ _) rfl ?_;rw[HR.out];exact⟨⟨_,rfl,a4e HO.out HWS.out⟩,(HI.out.nw.later HB.out).below⟩
end S2
end Go.Proofs.YtigapglmipmbeaaGreatDoor
namespace Go.Proofs.YtigapglmipmbeaaGreatDoor
open Go.RowKit Go.Shelf
open Lim
attribute [local go_sem] Oper.semAt_some
theorem a1h.coll:∀ {l a b:List L2},a2X a l=.ok b→a1h a→a1h l→a1h b
 | [],a,b,h,ha,_=>by cases h;exact ha
 | x::l,a,b,h,ha,hl=>by
  unfold a2X at h
  split at h
  ·cases h
  ·rename_i m hm
   exact a1h.coll h (a1h.ins hm ha (hl x (by simp))) fun y hy=>hl y (by simp[hy])
theorem a1h.keep{a:List L2}(h:a1h a):a1h (a1O a):=fun x hx=>h x ((List.mem_filter.1 hx).1)
theorem a1h.make{l d:List L2}(h:a2F l=.ok d)(hl:a1h l):a1h d:=by
 unfold a2F at h
 split at h
 ·cases h
 ·split at h
  ·cases h
  ·rename_i a ha
   unfold a89 at h
   split at h
   ·cases h
   ·cases h
    exact(a1h.coll ha (fun x h=>by cases h) hl).keep
theorem a63(ls:List L2)(v:Value)(w:World)(hv:LRow w v ls)(hs:a1h ls)(hr:Res w) :
  Calls prog 26 #[v] w fun e w'=>ResM w.heap.size (a2F ls) e w'∧Below w.heap.size w w':=by
 have HV:=b9W hv;have HS:=b9W hs;have HC:=b9W (fun (W:World) (hW:NW w W)=>S2.rdcollect_any ls _ W (hv.below hW.below) hs hW.res);obtain⟨A,c,rfl,HLEN,hcells⟩:=hv;have H0:=b9W (NW.refl hr);clear hr hcells hs;generalize hm:a2F ls=mk;have HMK:=b9W hm;clear hm
 go_enter func26,ntmps26
 go_wp2
 go_loopw [4] (fun v4 wr=>∃ k:Nat,k≤ls.length∧v4=.int .i64 (k:Int)∧Hid (posL ls=posL (ls.drop k))∧Hid (NW w wr)) (fun v4 _=>ls.length - (intOf v4).toNat)
 case atStart=>exact⟨0,Nat.zero_le _,rfl,b9W (by simp),H0⟩
 case round =>
  clear H0;obtain⟨k,hk,rfl,HE,HN⟩:=hrel
  by_cases hlt:k < ls.length
  ·obtain⟨x,hx⟩:∃ x,ls[k]?=some x:=⟨_,List.getElem?_eq_getElem hlt⟩
   obtain⟨b,o,c',e',hb2,c0,c1⟩:=HV.out.at HN.out.below hx
   simp only[Value.slice.injEq,true_and]at e'
   obtain⟨rfl,rfl⟩:=e';have hlt':(k:Int) < (ls.length:Int):=by omega
   have hsx:=(HS.out x (List.mem_of_getElem? hx)).2;have HD:=b9W (a2U hx);have HLT:=b9W (And.intro hlt hlt');obtain⟨f,d⟩:=x
   dsimp only at c0 c1 HD hsx
   clear hx hlt
   by_cases h0:errQ d.data.toList=0
   ·have HSG:=b9W (a4K hsx h0)
    by_cases h2:valQ d.data.toList < 0
    ·have d1:decide (sgQ (valQ d.data.toList) < 0)=true:=decide_eq_true ((b8r _).2 h2)
     have HR:=b9W (show mk=.error 2 by
      have h1:posE d=2:=by unfold posE;rw[if_neg (by simpa using h0),if_pos h2]
      have h3:posL ls=2:=by rw[HE.out,HD.out,b25 (x:=(f,d)) (by rw[h1];decide),h1]
      rw[← HMK.out];unfold a2F;rw[if_pos (by rw[h3];decide),h3])
     generalize sgQ (valQ d.data.toList)=sg at *;clear h0 h2 hsx
     go_wp2_with (go_at_call 110;refine(HSG.out _ HN.out.res).mono ?_;rintro e w3 ⟨rfl,hb⟩;have H3:=b9W (HN.out.later hb);clear hb)
     go_ret2
     rw[HR.out];exact⟨rfl,H3.out.below⟩
    ·have d1:decide (sgQ (valQ d.data.toList) < 0)=false:=decide_eq_false (fun h=>h2 ((b8r _).1 h))
     have HR:=b9W (show posL ls=posL (ls.drop (k+1)) by
      rw[HE.out,HD.out];exact b9y (x:=(f,d)) (by show posE d=0;unfold posE;rw[if_neg (by simpa using h0),if_neg h2]))
     generalize sgQ (valQ d.data.toList)=sg at *;clear h0 h2 hsx
     go_wp2_with (go_at_call 110;refine(HSG.out _ HN.out.res).mono ?_;rintro e w3 ⟨rfl,hb⟩;have H3:=b9W (HN.out.later hb);clear hb)
     go_roundw
     case rel=>exact⟨k+1,HLT.out.1,by go_num,HR,H3⟩
     case measure=>have:=HLT.out.1;simp[intOf];omega
   ·have HSG:=b9W (a5n hsx h0)
    have HR:=b9W (show mk=.error (errQ d.data.toList) by
     have h3:posL ls=errQ d.data.toList:=by rw[HE.out,HD.out,b25 (x:=(f,d)) (by show posE d≠0;rw[a6y h0];exact h0)];exact a6y h0
     rw[← HMK.out];unfold a2F;rw[if_pos (by rw[h3];exact h0),h3])
    have hm:=a1E h0;have hm2:=a2P h0;clear h0 hsx
    go_wp2_with (go_at_call 110;refine(HSG.out _ HN.out.res).mono ?_;rintro e w3 ⟨rfl,hb⟩;have H3:=b9W (HN.out.later hb);clear hb)
    go_ret2
    rw[HR.out];exact⟨rfl,H3.out.below⟩
  ·have hlt':¬ (k:Int) < (ls.length:Int):=by omega
   have h0:posL ls=0:=by
    have:=HE.out;rw[List.drop_of_length_le (by omega)]at this;exact this
   have HMK2:mk=(match a2X [] ls with|.error n=>.error n|.ok a=>a89 a):=by
    rw[← HMK.out];unfold a2F;rw[if_neg (by simpa using h0)]
    rfl
   clear hlt HMK HE h0
   cases hc:a2X [] ls with
   | error n =>
    rw[hc]at HMK2;have HCC:=b9W (HC.out wr HN.out);rw[b1y hc]at HCC;change Hid (Calls _ _ _ _ fun e w'=>e=.returned (.tuple #[.slice none 0 0,.int .i64 (n:Int)])∧_) at HCC;have hm:=a1E (a7I hc);have hm2:=a2P (a7I hc);have HR:=b9W (show mk=.error n from HMK2);clear hc HMK2
    go_wp2_with (go_at_call 111;refine HCC.out.mono ?_;rintro e w3 ⟨rfl,hb⟩;have H3:=b9W (HN.out.later hb);clear hb)
    go_ret2
    rw[HR.out];exact⟨rfl,H3.out.below⟩
   | ok a =>
    rw[hc]at HMK2;have HCC:=b9W (HC.out wr HN.out);rw[b20 hc]at HCC;change Hid (Calls _ _ _ _ fun e w'=>(∃ u,e=.returned (.tuple #[u,.int .i64 0])∧OwnM wr.heap.size w' u (a1O a))∧_) at HCC;have hl:(a1O a).length≤1000:=by
     have h1:=a6J hc;have h2:=List.length_filter_le (fun x:L2=>decide (x.2≠zT)) a;unfold a1O
     simp at h1
     omega
    have HCK:=b9W (fun (W:World) (u:Value) (ho:OwnM wr.heap.size W u (a1O a)) (hr:Res W)=>a6b (a1O a) u W (ho.row hl) (a1h.coll hc (fun x h=>by cases h) HS.out).keep hr);have HWR:=b9W HN.out.below.size;change mk=a89 a at HMK2;unfold a89 at HMK2;have TK0:True:=trivial;have TK1:True:=trivial;clear hc hl
    by_cases hz:chkD (a1O a)=0
    ·have HR:=b9W (show mk=.ok (a1O a) by rw[HMK2,if_neg (by simpa using hz)])
     rw[hz]at HCK;clear hz HMK2
     go_wp2_with (first
      | (clear TK0;go_at_call 111;refine HCC.out.mono ?_;rintro e w3 ⟨⟨u,rfl,ho⟩,hb⟩;have H3:=b9W (HN.out.later hb);have HO3:=b9W ho;clear hb ho)
      | (clear TK1;go_at_call 37;refine(HCK.out _ _ HO3.out H3.out.res).mono ?_;rintro e w4 ⟨rfl,hb⟩;have H4:=b9W (H3.out.later hb);have HO4:=b9W (HO3.out.later hb);clear hb))
     go_ret2
     rw[HR.out];exact⟨⟨_,rfl,a4e HO4.out HWR.out⟩,H4.out.below⟩
    ·have HR:=b9W (show mk=.error (chkD (a1O a)) by rw[HMK2,if_pos hz])
     have hm:=a1E hz;have hm2:=a2P hz;generalize chkD (a1O a)=n at *;clear hz HMK2
     go_wp2_with (first
      | (clear TK0;go_at_call 111;refine HCC.out.mono ?_;rintro e w3 ⟨⟨u,rfl,ho⟩,hb⟩;have H3:=b9W (HN.out.later hb);have HO3:=b9W ho;clear hb ho)
      | (clear TK1;go_at_call 37;refine(HCK.out _ _ HO3.out H3.out.res).mono ?_;rintro e w4 ⟨rfl,hb⟩;have H4:=b9W (H3.out.later hb);clear hb))
     go_ret2
     rw[HR.out];exact⟨rfl,H4.out.below⟩
end Go.Proofs.YtigapglmipmbeaaGreatDoor
namespace Go.Proofs.YtigapglmipmbeaaGreatDoor
open Go.RowKit Go.Shelf
open Lim
section
variable {P:Program} {id:Nat} {Q:Exit→Act→World→Prop} {a:Act} {w0:World} {l:List Oper}
end
theorem a0v.step{w0:World}(z:a0v w0){W:World}(hb:Below z.W.heap.size z.W W):∃ x:a0v w0,W=x.W:=⟨⟨W,z.h.trans (hb.mono z.h.size)⟩,rfl⟩
theorem a5I.nth{w:World}{bb j:Nat}{outs:List (List L2)}{l:List L2}(hbb:bb < w.heap.size)(h:∀ (j:Nat) (ls:List L2),outs[j]?=some ls→∃ u,w.cell? ⟨bb,j,none⟩=some u∧a38 w u ls)(hj:outs[j]?=some l) :
  ∃ A c,(∀ z:a0v w,z.W.cell? ⟨bb,j,none⟩=some (.slice A l.length c))∧∀ z:a0v w,a38 z.W (.slice A l.length c) l:=by
 obtain⟨u,h1,h2⟩:=h j l hj;obtain⟨A,c,rfl,_,_⟩:=id h2;exact⟨A,c,fun z=>(z.h.cell (p:=⟨bb,j,none⟩) hbb).trans h1,fun z=>h2.below z.h⟩
end Go.Proofs.YtigapglmipmbeaaGreatDoor
namespace Go.Proofs.YtigapglmipmbeaaGreatDoor
open Go.RowKit Go.Shelf
end Go.Proofs.YtigapglmipmbeaaGreatDoor
namespace Go.Proofs.YtigapglmipmbeaaGreatDoor
open Go.RowKit Go.Shelf
open Lim
section
variable {c:CT} {m:Nat→Rat} {k:Nat}
end
structure a2C (l:List L2):Prop where
 len:l.length≤6
 key:∀ x∈l,x.1.size≤12
 txt:∀ x∈l,x.2.size≤12
 dst:Dst 73 l
theorem a2C.short{l:List L2}(h:a2C l):a1h l:=fun x hx=>⟨Nat.le_trans (h.key x hx) (by omega),Nat.le_trans (h.txt x hx) (by omega)⟩
theorem a2C.t60{l:List L2}(h:a2C l):∀ x∈l,x.2.size≤60:=fun x hx=>Nat.le_trans (h.txt x hx) (by omega)
theorem a2C.sz{l:List L2}(h:a2C l):∀ x∈l,Sz 12 (valX x):=fun x hx=>a4u (h.dst.okV x hx) (k:=12) (by rw[← a0F];exact h.txt x hx)
theorem a2C.of{lss outs:List (List L2)}(h:a7e 6 12 12 lss=some outs):outs.length=lss.length∧∀ d∈outs,a2C d:=by
 obtain⟨h1,h2⟩:=a9I h;refine⟨h1,fun d hd=>?_⟩;obtain⟨h3,h4⟩:=h2 d hd;obtain⟨l1,l2⟩:=a2D.1 h3;exact⟨l1,fun x hx=>(l2 x hx).1,fun x hx=>(l2 x hx).2,h4⟩
theorem b1x{f:ByteArray}(h:a4A f=true):∃ F:Rat,f=rT F∧1≤F∧Sz 12 F∧fits F=true:=by
 obtain⟨h1,h2,h3⟩:=b3N h;have hs:=a4u h2 (k:=12) (by rw[← a0F];exact h1);exact⟨_,(IsT.of h2).1,h3,hs,a0V.2 (hs.mono (by unfold maxD;omega))⟩
def momX(p q:List L2)(i:Nat):Rat:=momD (a0A p) (a0A q) (i+1)
theorem a5L{p q:List L2}(hp:a2C p)(hq:a2C q)(hin:inX p q=true)(i:Nat)(hi:i < 7):momV p q ((i:Int)+2)=.tuple #[.string (rT (momX p q i)),.bool true,.int .i64 0]∧Sz 1200 (momX p q i)∧1≤momX p q i:=by
 obtain⟨r1,r2⟩:=mom10 (n:=i+1) (K:=1200) (by omega) hp.dst hq.dst hp.len hq.len hp.sz hq.sz (by omega) hin;have e:((i+1+1:Nat):Int)=(i:Int)+2:=by omega
 rw[e]at r1;refine⟨r1,r2,b86 hp.dst.isD hq.dst.isD (fun e he=>?_) (i+1)⟩;rw[a4n];obtain⟨z,hz,rfl⟩:=List.mem_map.1 he;exact a5c.1 hin z hz
end Go.Proofs.YtigapglmipmbeaaGreatDoor
namespace Go.Proofs.YtigapglmipmbeaaGreatDoor
open Lim
section
variable {l m:List L2} (hl:Dst 385 l) (hm:Dst 385 m)
include hl hm
end
end Go.Proofs.YtigapglmipmbeaaGreatDoor
namespace Go.Proofs.YtigapglmipmbeaaGreatDoor
open Go.RowKit Go.Shelf
open Lim
attribute [local go_sem] Oper.semAt_some
theorem LRow.src{w:World}{b o n c:Nat}{ls:List L2}(h:LRow w (.slice (some ⟨b,o,none⟩) n c) ls)(h0:0 < ls.length):∀ j u,(a0_ ls)[j]?=some u→w.cell? ((⟨b,o,none⟩:Addr).add j)=some u:=by
 obtain⟨A,c',e,_,hc⟩:=h
 simp only[Value.slice.injEq]at e
 obtain⟨b',o',e2,_,hcell⟩:=hc h0;rw[← e.1]at e2
 simp only[Option.some.injEq,Addr.mk.injEq]at e2
 obtain⟨rfl,rfl,_⟩:=e2;intro j u hu;have hj:j < ls.length*2:=by rw[← a2L];exact(List.getElem?_eq_some_iff.1 hu).1
 obtain⟨x,hx⟩:∃ x,ls[j / 2]?=some x:=⟨_,List.getElem?_eq_getElem (by omega)⟩;obtain⟨c0,c1⟩:=hcell _ _ hx;obtain⟨m0,m1⟩:=a5b hx;rw[a3E]
 rcases Nat.mod_two_eq_zero_or_one j with h|h
 ·rw[show j / 2*2=j by omega]at c0 m0
  rw[m0]at hu;cases hu;exact c0
 ·rw[show o+j / 2*2+1=o+j by omega]at c1
  rw[show j / 2*2+1=j by omega]at m1;rw[m1]at hu;cases hu;exact c1
theorem OwnM.ofPos{base:Nat}{w:World}{v:Value}{ls:List L2}(h:OwnM base w v ls)(h0:0 < ls.length):∃ g c,v=.slice (some ⟨g,0,none⟩) ls.length c∧base≤g:=by
 rcases h.2 with⟨_,e⟩|⟨g,cap,cur,e,hb,_⟩
 ·omega
 ·exact⟨g,cap,e,hb⟩
theorem OwnM.cell{base g n c k:Nat}{w:World}{ls:List L2}{x:L2}(h:OwnM base w (.slice (some ⟨g,0,none⟩) n c) ls)(hx:ls[k]?=some x):w.cell? ⟨g,k*2,none⟩=some (.string x.1)∧w.cell? ⟨g,k*2+1,none⟩=some (.string x.2)∧g < w.heap.size:=by
 obtain⟨c0,c1⟩:=a5b hx;have r0:=World.ownsRow.cells h (g:=g) rfl _ _ c0;have r1:=World.ownsRow.cells h (g:=g) rfl _ _ c1;rw[a3E,Nat.zero_add]at r0 r1;exact⟨r0,r1,(World.ownsRow.lt h g rfl).2⟩
theorem OwnM.frozen{base g n c:Nat}{w:World}{ls:List L2}(h:OwnM base w (.slice (some ⟨g,0,none⟩) n c) ls)(j:Nat):w.frozen? ⟨g,j,none⟩=false:=by
 rcases h.2 with⟨h',_⟩|⟨g',cap',cur,h',_,hg,_⟩
 ·simp at h'
 ·simp only[Value.slice.injEq,Option.some.injEq,Addr.mk.injEq,and_true]at h'
  obtain⟨rfl,_⟩:=h';exact frozen_of_row w g j cur _ hg
theorem OwnM.len{base g n c:Nat}{w:World}{ls:List L2}(h:OwnM base w (.slice (some ⟨g,0,none⟩) n c) ls):n=ls.length:=by
 rcases h.2 with⟨h',_⟩|⟨g',cap',cur,h',_⟩
 ·simp at h'
 ·simp only[Value.slice.injEq]at h';exact h'.2.1
theorem a8C:∀ {l:List L2} {k:Nat} {y:L2} (s:ByteArray),l[k]?=some y→a0_ (l.set k (s,y.2))=(a0_ l).set (k*2) (.string s)
 | [],k,y,s,h=>by simp at h
 | x::l,0,y,s,h=>by
  simp only[List.getElem?_cons_zero,Option.some.injEq]at h
  subst h
  rfl
 | x::l,k+1,y,s,h=>by
  rw[List.set_cons_succ,a1K,a1K,a8C s (by simpa using h),show (k+1)*2=k*2+1+1 by omega,List.set_cons_succ,List.set_cons_succ]
theorem OwnM.set1{base g n c k:Nat}{w:World}{ls:List L2}{y:L2}(s:ByteArray)(h:OwnM base w (.slice (some ⟨g,0,none⟩) n c) ls)(hy:ls[k]?=some y) :
  OwnM base (w.setCell ⟨g,k*2,none⟩ (.string s)) (.slice (some ⟨g,0,none⟩) n c) (ls.set k (s,y.2))∧w.grownBy (w.setCell ⟨g,k*2,none⟩ (.string s)) (some g):=by
 obtain rfl:=h.len;obtain⟨r1,r2⟩:=World.ownsRow.stored h (k*2) (.string s);refine⟨?_,r2⟩;unfold OwnM;rw[List.length_set,a8C s hy];exact r1
def a41(done:List L2)(r:Except Nat (List L2)):Except Nat (List L2):=match r with
 | .error n=>.error n
 | .ok m=>.ok (done++m)
theorem a9t(r:Except Nat (List L2)):a41 [] r=r:=by cases r<;>rfl
theorem b4o{x:L2}{l:List L2}{b:ByteArray}{n:Nat}(h:mulX x.2 b=.error n):a1D (x::l) b=.error n:=by simp only[a1D,h]
theorem b6A{x:L2}{l done:List L2}{b p:ByteArray}(h:mulX x.2 b=.ok p):a41 done (a1D (x::l) b)=a41 (done++[(x.1,p)]) (a1D l b):=by
 simp only[a1D,h]
 cases a1D l b with
 | error n=>rfl
 | ok m=>simp[a41]
theorem a8b{b:ByteArray}:∀ {l:List L2} {n:Nat},a1D l b=.error n→n≠0
 | [],n,h=>by cases h
 | x::l,n,h=>by
  unfold a1D at h
  split at h
  ·rename_i m hm;cases h;exact a18 hm
  ·split at h
   ·rename_i m hm;cases h;exact a8b hm
   ·cases h
theorem a5o{b:ByteArray}:∀ {l m:List L2},a1D l b=.ok m→m.length=l.length
 | [],m,h=>by cases h;rfl
 | x::l,m,h=>by
  unfold a1D at h
  split at h
  ·cases h
  ·split at h
   ·cases h
   ·rename_i r hr
    cases h
    rw[List.length_cons,List.length_cons,a5o hr]
end Go.Proofs.YtigapglmipmbeaaGreatDoor
namespace Go.Proofs.YtigapglmipmbeaaGreatDoor
open Go.RowKit Go.Shelf
end Go.Proofs.YtigapglmipmbeaaGreatDoor
namespace Go.Proofs.YtigapglmipmbeaaGreatDoor
open Go.RowKit Go.Shelf
open Lim
attribute [local go_sem] Oper.semAt_some
def a0v.lift{w0:World}(z:a0v w0)(z':a0v z.W):a0v w0:=⟨z'.W,z.h.trans (z'.h.mono z.h.size)⟩
theorem a9A{d l:List L2}(h:a2F l=.ok d)(hl:a1h l)(h2:l.length≤1000):a1h d∧d.length≤1000:=⟨a1h.make h hl,a9S h h2⟩
end Go.Proofs.YtigapglmipmbeaaGreatDoor
namespace Go.Proofs.YtigapglmipmbeaaGreatDoor
open Go.RowKit Go.Shelf
open Lim
end Go.Proofs.YtigapglmipmbeaaGreatDoor
