/- (printed by mkrangep.py) A range over a function whose yields come in a known order; what holds in memory may speak of what has come. -/
import Derived.Test.YtigapglmipmbeaaGreatDoorLwMomentAdds02
import Derived.Test.YtigapglmipmbeaaGreatDoorLwMomentAdds19
import Derived.Test.YtigapglmipmbeaaGreatDoorLwMomentAdds10
import Derived.Test.YtigapglmipmbeaaGreatDoorLwMomentAdds17
import Derived.Test.YtigapglmipmbeaaGreatDoorLwMomentAdds11
import Derived.Maps.OwnIn
import Derived.Test.YtigapglmipmbeaaGreatDoorLwMomentAdds01
import Derived.Lib.ConvBytes
import Derived.Test.YtigapglmipmbeaaGreatDoorLwMomentAdds13
import Derived.Test.YtigapglmipmbeaaGreatDoorLwMomentAdds08
import Derived.Test.YtigapglmipmbeaaGreatDoorLwMomentAdds16
import Derived.Test.YtigapglmipmbeaaGreatDoorLwMomentAdds14
set_option maxRecDepth 100000
set_option maxHeartbeats 16000000
open Go.Proofs.Tryz
namespace Go.Proofs.YtigapglmipmbeaaGreatDoor.RP
open Go.RowKit Go.Shelf Go.Proofs.YtigapglmipmbeaaGreatDoor
def b1Z{α:Type}(I:List α→World→Prop)(Ix:Code→List α→World→Prop)(xs:List α)(W:World):Exit→Act→World→Prop
 | .normal,_,W'=>KeepsOthers W W'∧I xs W'
 | .ret,_,W'=>KeepsOthers W W'∧Ix .ret xs W'
 | .exit id,_,W'=>KeepsOthers W W'∧Ix (.exit id) xs W'
 | .goto t,_,W'=>KeepsOthers W W'∧Ix (.goto t) xs W'
 | .panic _,_,_=>False
 | .outgrown,_,_=>False
def b1m{α:Type}(F:Fence)(n:Nat)(P:Program)(g:Nat)(lb:Array Value)(encs:α→Array Value)(Nx:List α→α→World→Prop)(S:List α→Prop)(G:List α→World→Prop):Prop :=
 ∀ (l:Nat) (J Jx:List α→World→Prop) (W:World),(∀ pre W1,J pre W1→G pre W1)→AbidesFrom W.heap.size J→AbidesFrom W.heap.size Jx →
  (∀ pre x W1,J pre W1→Nx pre x W1→YieldAt F (n - 1) P l (encs x) W1 fun e W'=>(e=.returned (.bool true)∧J (pre++[x]) W')∨(e=.returned (.bool false)∧Jx (pre++[x]) W')) →
  J [] W →
  CallsIn F n P g (#[.func (.yield l) #[] #[]]++lb) W fun e W'=>(∃ v,e=.returned v)∧((∃ xs,S xs∧J xs W')∨(∃ pre x,Jx (pre++[x]) W'))
section
variable {F:Fence} {n:Nat} {P:Program}
def a3F(rec:LoopState→Option Code→Loop)(D:Nat)(st:LoopState)(pe:Option Code)(W:World):Prop :=
 W.heap[D+1]?=some (.loop (rec st pe))∧W.heap[D]?=some (.deferred (some []))
theorem a3F.abides{rec:LoopState→Option Code→Loop}{D B:Nat}{st:LoopState}{pe:Option Code}{W W':World}{row:Option Nat}(h:a3F rec D st pe W)(hg:W.grownBy W' row)
  (hr:∀ r,row=some r→B≤r∧∃ o:Obj,W.heap[r]?=some o∧o.isWalk=true):a3F rec D st pe W' :=
 ⟨(grownBy_keeps hg (fun r e=>(hr r e).2) h.1 rfl).trans h.1,(grownBy_keeps hg (fun r e=>(hr r e).2) h.2 rfl).trans h.2⟩
theorem a3F.turned{rec:LoopState→Option Code→Loop}{D:Nat}{st:LoopState}{pe:Option Code}{W:World}(h:a3F rec D st pe W)(o:Loop) :
  (W.putObj (D+1) (.loop o)).heap[D+1]?=some (.loop o)∧(W.putObj (D+1) (.loop o)).heap[D]?=some (.deferred (some []))∧Turn D W (W.putObj (D+1) (.loop o)) :=
 ⟨World.putObj_heap_same (Array.getElem?_eq_some_iff.1 h.1).1,(World.putObj_heap_other (by omega)).trans h.2,D+1,_,_,by omega,h.1,rfl,rfl⟩
theorem a1x{α:Type}{g:Operand}{ps:Array Tmp}{assign body:Code}{Q:Exit→Act→World→Prop}{a:Act}{w:World}
  (hro:F.round=none) (h1:1≤n) {gf:Nat} {lb:Array Value} (hg:a.eval g=.func (.func gf) #[] lb) (hFg:F.fn gf) (eg:∀ args w,(callFunc gf args).run P w=.ok (.enter gf args) w)
  {encs:α→Array Value} {Nx:List α→α→World→Prop} {S:List α→Prop} {G:List α→World→Prop} (hseq:b1m F (n - 1) P gf lb encs Nx S G) (hps:∀ x,(encs x).size=ps.size)
  (I:List α→World→Prop) (Ix:Code→List α→World→Prop) (hG:∀ pre W,I pre W→G pre W) (hI:OwnFrom w.heap.size I) (hIx:∀ c,OwnFrom w.heap.size (Ix c)) (h0:I [] w)
  (hround:∀ (l:Nat) (pre:List α) (x:α) (W:World) (K:Act→World→Prop),I pre W→Nx pre x W →
   (∀ a' Wa,KeepsOthers W Wa→I pre Wa→(∀ Wb,Turn w.heap.size Wa Wb→I pre Wb→body.wpIn (F.inRound l) (n - 1 - 1) P (b1Z I Ix (pre++[x]) Wb) a' Wb)→K a' Wa) →
   assign.wpIn (F.inRound l) (n - 1 - 1) P (Exit.then K (fun _ _ _=>False)) { tmps:=(ps.zip (encs x)).foldl (fun t (p,v)=>t.setIfInBounds p v) a.tmps,defers:=[] } W)
  (hdone:∀ (D:Nat) (xs:List α) (W:World),w.heap.size≤D→S xs→I xs W→W.heap[D]?=some (.deferred (some []))→Q .normal { a with defers:={ target:=.collected D,args:=#[] }::a.defers } W)
  (hstop:∀ (D:Nat) (c:Code) (pre:List α) (x:α) (W:World),w.heap.size≤D→Ix c (pre++[x]) W→W.heap[D]?=some (.deferred (some []))→c.wpIn F n P Q { a with defers:={ target:=.collected D,args:=#[] }::a.defers } W) :
  (Code.rangeFunc g ps assign body).wpIn F n P Q a w:=by
 refine wpIn_rangeFunc ?_;intro fn hfn;rw[hro];obtain⟨rec,hrec⟩:∃ rec:LoopState→Option Code→Loop,rec=fun st pe=>{ state:=st,pending:=pe,fn,tmps:=a.tmps,params:=ps,assign,body,defers:=w.heap.size }:=⟨_,rfl⟩;obtain⟨W1,hW1⟩:∃ W1,(w.alloc (.deferred (some []))).alloc (.loop (rec .ready none))=W1:=⟨_,rfl⟩;have hb1:a3F rec w.heap.size .ready none W1:=by
  subst hW1;refine⟨?_,(Below.heap_alloc _ _ _ (by simp)).trans (World.alloc_heap_new w _)⟩;have:=World.alloc_heap_new (w.alloc (.deferred (some []))) (.loop (rec .ready none))
  rwa [World.size_alloc]at this
 have hI1:I [] W1:=by subst hW1;exact hI.alloc _ (hI.alloc _ h0)
 have hsz:w.heap.size≤W1.heap.size:=by subst hW1;simp;omega
 have b1n:(Instr.enterLoop fn a.tmps ps assign body none).run P w=.ok (w.heap.size+1,[{ target:=.collected w.heap.size,args:=#[] }]) W1:=by
  rw[← hW1,hrec];exact run_enterLoop_outer _ _ _ _ _
 clear hW1;have hnw:∀ {A:World} {row:Option Nat},(∀ r,row=some r→W1.heap.size≤r∧∃ o:Obj,A.heap[r]?=some o∧o.isWalk=true)→∀ r,row=some r→w.heap.size≤r∧∃ o:Obj,A.heap[r]?=some o∧o.isCells=false :=
  fun hr r e=>by obtain⟨hB,o,ho,hw⟩:=hr r e;exact⟨by omega,o,ho,Obj.not_cells_of_walk hw⟩
 refine⟨w.heap.size+1,_,W1,{ target:=.fn (.func gf) lb,args:=#[.func (.yield (w.heap.size+1)) #[] #[]] },W1,gf,#[.func (.yield (w.heap.size+1)) #[] #[]]++lb,W1,b1n,?_,?_,?_,fun _=>h1,?_⟩
 ·simp only[resolve,hg]
  simp[go_sem]
 ·intro f' hf';simp[Target.leads]at hf';subst hf';exact hFg
 ·simp[invoke,go_sem,eg]
 refine(hseq (w.heap.size+1) (fun pre W=>I pre W∧a3F rec w.heap.size .ready none W) (fun pre W=>∃ c,Ix c pre W∧a3F rec w.heap.size .done (some c) W) W1
  (fun pre W h=>hG pre W h.1)
  (fun s A A' row hs hg' hr=>⟨hI s A A' row hs.1 hg' (hnw hr),hs.2.abides hg' hr⟩)
  (fun s A A' row hs hg' hr=>by obtain⟨c,hc,hk⟩:=hs;exact⟨c,hIx c s A A' row hc hg' (hnw hr),hk.abides hg' hr⟩)
  ?_ ⟨hI1,hb1⟩).mono ?_
 ·rintro pre x W ⟨hi,hk⟩ hnx
  have hy:=run_yield (P:=P) (args:=encs x) hk.1 (by rw[hrec];exact hps x);rw[hrec]at hy;refine⟨fn,_,assign,body,hy,roundIn_of_wpIn hfn (hround _ pre x W _ hi hnx ?_)⟩;clear hy;intro a' Wa hka hia hbody;have hka':a3F rec w.heap.size .ready none Wa:=⟨hka.same _ _ hk.1 rfl,hka.same _ _ hk.2 rfl⟩;refine⟨_,run_beginRound hka'.1 (by rw[hrec]),?_⟩;obtain⟨t1,t2,t3⟩:=hka'.turned { rec .ready none with state:=.busy };refine wpIn_mono (hbody _ t3 (OwnFrom.turn hI hia t3)) ?_;have fin:∀ (jump:Option Code) (W3:World),KeepsOthers (Wa.putObj (w.heap.size+1) (.loop { rec .ready none with state:=.busy })) W3 →
    ∃ W4,(Instr.endRound (w.heap.size+1) jump).run P W3=.ok (.bool jump.isNone) W4∧a3F rec w.heap.size (if jump.isNone then .ready else .done) jump W4∧Turn w.heap.size W3 W4:=by
   intro jump W3 hk3;have b3:a3F (fun _ _=>{ rec .ready none with state:=.busy }) w.heap.size .ready none W3:=⟨hk3.same _ _ t1 rfl,hk3.same _ _ t2 rfl⟩;obtain⟨u1,u2,u3⟩:=b3.turned (rec (if jump.isNone then .ready else .done) jump);refine⟨_,?_,⟨u1,u2⟩,u3⟩;have:=run_endRound (P:=P) jump b3.1;rw[hrec]at this ⊢;exact this
  intro e a3 W3 hp
  cases e with
  | normal=>obtain⟨W4,r1,r2,r3⟩:=fin none W3 hp.1;exact⟨_,_,r1,.inl ⟨rfl,OwnFrom.turn hI hp.2 r3,r2⟩⟩
  | ret=>obtain⟨W4,r1,r2,r3⟩:=fin (some .ret) W3 hp.1;exact⟨_,_,r1,.inr ⟨rfl,.ret,OwnFrom.turn (hIx _) hp.2 r3,r2⟩⟩
  | exit id=>obtain⟨W4,r1,r2,r3⟩:=fin (some (.exit id)) W3 hp.1;exact⟨_,_,r1,.inr ⟨rfl,.exit id,OwnFrom.turn (hIx _) hp.2 r3,r2⟩⟩
  | goto t=>obtain⟨W4,r1,r2,r3⟩:=fin (some (.goto t)) W3 hp.1;exact⟨_,_,r1,.inr ⟨rfl,.goto t,OwnFrom.turn (hIx _) hp.2 r3,r2⟩⟩
  | panic ch=>exact hp.elim
  | outgrown=>exact hp.elim
 ·rintro e W2 ⟨⟨v,rfl⟩,(⟨xs,hS,hi,hk⟩|⟨pre,x,c,hi,hk⟩)⟩
  ·have hend:=run_endLoop (P:=P) hk.1 (by rw[hrec];simp)
   obtain⟨t1,t2,t3⟩:=hk.turned { rec .ready none with state:=.exhausted };rw[hrec]at hend t2 t3;exact⟨none,_,hend,hdone _ xs _ (Nat.le_refl _) hS (OwnFrom.turn hI hi t3) t2⟩
  ·have hend:=run_endLoop (P:=P) hk.1 (by rw[hrec];simp)
   obtain⟨t1,t2,t3⟩:=hk.turned { rec .done (some c) with state:=.exhausted };rw[hrec]at hend t2 t3;exact⟨some c,_,hend,hstop _ c pre x _ (Nat.le_refl _) (OwnFrom.turn (hIx c) hi t3) t2⟩
end
end Go.Proofs.YtigapglmipmbeaaGreatDoor.RP
namespace Go.Proofs.YtigapglmipmbeaaGreatDoor
open Go.RowKit Go.Shelf
open Lim
attribute [local go_sem] Oper.semAt_some
def seqX:List (ByteArray × XE)→Except Nat (List L2)
 | []=>.ok []
 | x::l=>match x.2 with
  | .error n=>.error n
  | .ok p=>match seqX l with
   | .error n=>.error n
   | .ok m=>.ok ((x.1,p)::m)
theorem a83:∀ (l r:List (ByteArray × XE)),seqX (l++r)=(match seqX l with|.error n=>.error n|.ok m=>match seqX r with|.error n=>.error n|.ok s=>.ok (m++s))
 | [],r=>by
  show seqX r=(match seqX r with|.error n=>.error n|.ok s=>.ok ([]++s))
  cases seqX r<;>rfl
 | x::l,r=>by
  have h:=a83 l r
  simp only[List.cons_append,seqX,h]
  cases x.2 with
  | error n=>rfl
  | ok p =>
   cases seqX l with
   | error n=>rfl
   | ok m=>cases seqX r<;>rfl
theorem b1e(k:ByteArray)(c:ByteArray):∀ b:List L2,(match a1D b c with|.error n=>.error n|.ok m=>.ok (m.map fun y=>(a3Q k y.1,y.2)))=seqX (b.map fun y=>(a3Q k y.1,mulX y.2 c))
 | []=>rfl
 | y::b=>by
  have h:=b1e k c b
  simp only[List.map_cons,seqX,a1D,← h]
  cases mulX y.2 c with
  | error n=>rfl
  | ok p=>cases a1D b c<;>rfl
def a9w(a b:List L2):List (ByteArray × XE):=a.flatMap fun x=>b.map fun y=>(a3Q x.1 y.1,mulX y.2 x.2)
theorem a8E(b:List L2):∀ a:List L2,a3p a b=seqX (a9w a b)
 | []=>rfl
 | x::a=>by
  have h:=a8E b a;have h2:=b1e x.1 x.2 b
  show a3p (x::a) b=seqX ((b.map fun y=>(a3Q x.1 y.1,mulX y.2 x.2))++a9w a b)
  rw[a83,← h2,← h]
  simp only[a3p]
  cases a1D b x.2 with
  | error n=>rfl
  | ok m=>cases a3p a b<;>rfl
theorem a6N(b:List L2):∀ a:List L2,(a9w a b).length=a.length*b.length
 | []=>by simp[a9w]
 | x::a=>by
  have h:=a6N b a
  show ((b.map _)++a9w a b).length=_
  rw[List.length_append,List.length_map,h,List.length_cons,Nat.succ_mul,Nat.add_comm]
theorem b3E:∀ {l:List (ByteArray × XE)} {m:List L2},seqX l=.ok m→∀ x∈m,∃ y∈l,x.1=y.1∧y.2=.ok x.2
 | [],m,h,x,hx=>by cases h;cases hx
 | a::l,m,h,x,hx=>by
  unfold seqX at h
  split at h
  ·cases h
  ·rename_i p hp
   split at h
   ·cases h
   ·rename_i r hr
    cases h
    rcases List.mem_cons.1 hx with rfl|hx
    ·exact⟨a,by simp,rfl,hp⟩
    ·obtain⟨y,hy,e⟩:=b3E hr x hx
     exact⟨y,by simp[hy],e⟩
theorem a8U{a b l:List L2}(h:a3p a b=.ok l)(ka:∀ x∈a,x.1.size≤100000)(kb:∀ x∈b,x.1.size≤100000):a1h l:=fun x hx=>by
 rw[a8E]at h;obtain⟨y,hy,e1,e2⟩:=b3E h x hx;unfold a9w at hy;obtain⟨u,hu,hy⟩:=List.mem_flatMap.1 hy;obtain⟨v,hv,rfl⟩:=List.mem_map.1 hy;have h1:=ka u hu;have h2:=kb v hv;refine⟨?_,a14 (b6a e2)⟩;rw[e1]
 show (a3Q u.1 v.1).size≤_
 unfold a3Q;rw[ByteArray.size_append,ByteArray.size_append];have:(⟨#[124]⟩:ByteArray).size=1:=rfl
 omega
end Go.Proofs.YtigapglmipmbeaaGreatDoor
namespace Go.Proofs.YtigapglmipmbeaaGreatDoor
open Go.RowKit
theorem b22(x n:Int)(w:World)(hn:0 < n)(_hx:-9223372036854775808≤x)(_hx2:x≤9223372036854775807)(hn2:n≤1000000) :
  Calls prog 54 #[.int .i64 x,.int .i64 n] w fun e w'=>∃ k:Int,e=.returned (.int .i64 k)∧0≤k∧k < n∧w'=w:=by
 have h1:=Int.tmod_lt_of_pos x hn;have h2:=Int.lt_tmod_of_pos x hn
 go_enter func54,ntmps54
 by_cases h:x.tmod n < 0
 ·go_wp2
  go_ret
  exact⟨_,rfl,by omega,by omega,rfl⟩
 ·go_wp2
  go_ret
  exact⟨_,rfl,by omega,by omega,rfl⟩
end Go.Proofs.YtigapglmipmbeaaGreatDoor
namespace Go.Proofs.YtigapglmipmbeaaGreatDoor
open Go.RowKit Go.Shelf
open Lim
attribute [local go_sem] Oper.semAt_some
theorem b3c:∀ {l:List (ByteArray × XE)} {m:List L2},seqX l=.ok m→m.length=l.length
 | [],m,h=>by cases h;rfl
 | a::l,m,h=>by
  unfold seqX at h
  split at h
  ·cases h
  ·split at h
   ·cases h
   ·rename_i r hr
    cases h
    rw[List.length_cons,List.length_cons,b3c hr]
theorem a9f{a b d:List L2}(h:a7a a b=.ok d)(ka:∀ x∈a,x.1.size≤100000)(kb:∀ x∈b,x.1.size≤100000)(hl:a.length*b.length≤1000):a1h d∧d.length≤1000:=by
 unfold a7a at h
 split at h
 ·cases h
 ·split at h
  ·cases h
  ·split at h
   ·cases h
   ·rename_i l hl2
    refine a9A h (a8U hl2 ka kb) ?_;rw[a8E]at hl2;rw[b3c hl2,a6N];exact hl
end Go.Proofs.YtigapglmipmbeaaGreatDoor
namespace Go.Proofs.YtigapglmipmbeaaGreatDoor
open Go.RowKit Go.Shelf
open Lim
section
variable {c:CT} {m:Nat→Rat} {k:Nat}
theorem toL_x{f:Rat}(sm:∀ i,i < 7→Sz k (m i))(sf:Sz 12 f){i:Nat}(hi:i < 7):Sz (k+101) (xM m f i) :=
 (((sm i hi).mul (b0W hi)).mul (b3H sf hi).inv).mono (by omega)
theorem toL_d{f:Rat}{j:Nat}(sm:∀ i,i < 7→Sz k (m i))(s7:Sz j (m 7))(sf:Sz 12 f){i:Nat}(hi:i < 7):Sz (k+101+(14+j)+1) (dM m f i) :=
 ((toL_x sm sf hi).add ((a5X sf).mul s7)).mono (by omega)
theorem b5A{f:Rat}{j:Nat}(sm:∀ i,i < 7→Sz k (m i))(s7:Sz j (m 7))(hk:k≤2500)(hj:j≤1000)(sf:Sz 12 f){i:Nat}(hi:i < 7):fits (toM m f i)=true :=
 a0V.2 ((b8F (toL_d sm s7 sf hi) (Sz.one.mono (by omega))).mono (by unfold maxD;omega))
theorem mtoL{j:Nat}(hc:CIs c m)(sm:∀ i,i < 7→Sz k (m i))(s7:Sz j (m 7))(hk:k≤2500)(hj:j≤1000){F:ByteArray}{f:Rat}(hF:IsT F f)(sf:Sz 12 f)(h1:1≤f){i:Nat}(hi:i < 7):Ret 53 #[cv c,.int .i64 ((i:Int)+2),.string F] (.tuple #[.agg #[.string F,.string (rT (toM m f i))],.int .i64 0]):=fun w hr=>by
 have mx:∀ {j:Nat} {q:Rat},Sz j q→j≤4000→IsT (rT q) q:=fun h hj=>a16 (a0V.2 (h.mono hj));have f0:=a6m h1;have z1:((((i+1:Nat):Int)):Rat)≠0:=fun h=>by have:=Rat.intCast_inj.1 (h.trans (show (0:Rat)=((0:Int):Rat) from rfl));omega
 have z2:((((i+2:Nat):Int)):Rat)≠0:=fun h=>by have:=Rat.intCast_inj.1 (h.trans (show (0:Rat)=((0:Int):Rat) from rfl));omega
 have iA:IsT (rT (shA i)) (shA i):=mx (b4Z hi) (by omega);have iB:IsT (rT (shB i)) (shB i):=mx (b5Y hi) (by omega);have iS:IsT (rT (shM i)) (shM i):=mx (b0W hi) (by omega);have iP:IsT (rT (pwM f i)) (pwM f i):=mx (b3H sf hi) (by omega);have iU:IsT (rT (m i*shM i)) (m i*shM i):=mx ((sm i hi).mul (b0W hi)) (by omega);have iX:IsT (rT (xM m f i)) (xM m f i):=mx (toL_x sm sf hi) (by omega);have iN:IsT (rT (f+1)) (f+1):=mx (a5X sf) (by omega);have iL:IsT (rT (b0z m f)) (b0z m f):=mx ((a5X sf).mul s7) (by omega);have iD:IsT (rT (dM m f i)) (dM m f i):=mx (toL_d sm s7 sf hi) (by omega);exact b8I c i hi F hF.size hc.err hF.err (by rw[hF.val,a23];exact Rat.not_lt.2 h1) _ _ _ _ _ _ _ _ _ _ _ _
  (b9W (b27 (i+1) (by omega))) (b9W (b27 (i+2) (by omega)))
  (b9W (b1f (a74 (by omega)) z1 iA (by omega) (by omega))) (b9W (b1f (a74 (by omega)) z2 iB (by omega) (by omega)))
  (b9W (b5a iA iB iS (b8P hi))) (b9W (b1f hF f0 iP (by omega) (by omega))) (b9W (b7S (hc.t i (by omega)) iS iU)) (b9W (b5a iU iP iX (by have:=a69 h1 i;grind)))
  (b9W (b4u hF IsT.one iN)) (b9W (b7S iN (hc.t 7 (by omega)) iL)) (b9W (b4u iX iL iD)) (b9W (b8J iD)) w hc.sm hr
end
theorem b9t{l d:List L2}(h:a2F l=.ok d):d.length≤l.length:=by
 unfold a2F at h
 split at h
 ·cases h
 ·split at h
  ·cases h
  ·rename_i a ha
   have h1:=a6J ha;unfold a89 at h
   split at h
   ·cases h
   ·cases h
    have h2:=List.length_filter_le (fun x:L2=>decide (x.2≠zT)) a;unfold a1O
    simp at h1
    omega
structure a2E (l o:List L2) (z:ZL):Prop where
 made:a2C l
 zs:z.map (·.1)=l
 out:a2F (a3e z)=.ok o
section
variable {l o:List L2} {z:ZL} (h:a2E l o z)
include h
theorem a2E.dst:Dst 74 o∧∀ j,a0k (a0A o) j=a0k (a0A l) j - a0k (cutD z) j+(if a2v=j then a02 z else 0):=by
 obtain⟨out,e,d,m⟩:=b3d (a:=73) h.made.dst h.zs (by unfold maxD;omega);rw[h.out]at e
 cases e
 exact⟨d,m⟩
theorem a2E.sum:0≤a02 z∧a02 z≤1∧Sz 74 (a02 z):=b0D (i:=l.length) h.made.dst (by rw[List.take_length];exact h.zs)
theorem a2E.len:o.length≤12:=by
 have h1:=b9t h.out;rw[a3N]at h1;have h2:z.length=l.length:=by rw[← h.zs,List.length_map]
 have:=h.made.len
 omega
theorem a2E.key:∀ x∈o,x.1.size≤12:=fun x hx=>by
 have hm:=(b0x h.out).2.2 x.1;have e1:a0k (a0A o) x.1=valX x:=a7N h.dst.1.isD.once (e:=(x.1,valX x)) (List.mem_map.2 ⟨x,hx,rfl⟩);have hp:=h.dst.1.pos hx;have hk:x.1∈a00 (a0A (a3e z)):=by
  refine Classical.byContradiction fun hn=>?_;rw[a2x hn,e1]at hm;rw[hm]at hp;exact Rat.lt_irrefl hp
 rw[a4n]at hk;obtain⟨y,hy,e2⟩:=List.mem_map.1 hk;rw[← e2];obtain⟨w,hw,hy⟩:=List.mem_flatMap.1 hy
 simp only[List.mem_cons,List.not_mem_nil,or_false]at hy
 rcases hy with rfl|rfl
 ·exact h.made.key w.1 (a5u h.zs hw)
 ·show a2v.size≤12
  decide
theorem a2E.moves:a1I (a0A o) (a0A l) 1≤a02 z∧a1I (a0A l) (a0A o) 1≤a02 z:=by
 obtain⟨d,m⟩:=h.dst;obtain⟨D,_,_,hc⟩:=a8l h.made.dst;refine b4m h.made.dst.isD d.isD h.sum.1 (fun k=>a1w fun e he=>?_) (fun k hk=>?_) (b3r z) m
 ·obtain⟨w,hm,rfl⟩:=List.mem_map.1 he
  have:=(hc w.1 (a5u h.zs hm) w.2).1;change 0≤cutV w at this
  dsimp only
  split
  ·exact this
  ·exact Rat.le_refl
 ·unfold a00 cutD at hk
  rw[List.map_map]at hk;obtain⟨w,hm,rfl⟩:=List.mem_map.1 hk;rw[a4n,← h.zs,List.map_map];exact List.mem_map.2 ⟨w,hm,rfl⟩
end
theorem a86{p p' q q':DL}(hp:IsD p)(hp':IsD p')(hq:IsD q)(hq':IsD q'){F:Rat}(F0:0≤F):a1I p q F≤a1I p p' 1+(a1I p' q' F+F*a1I q' q 1):=by
 have h1:=a75 hp hp' hq (f:=1) (g:=F) (by decide) F0;have h2:=a75 hp' hq' hq (f:=F) (g:=1) F0 (by decide);rw[Rat.one_mul]at h1;rw[Rat.mul_one]at h2
 grind
def curL(x y:Nat→Rat)(u:Rat):Nat→Rat:=fun i=>if i=7 then u else maxQ (x i) (y i)
theorem a8p(x y:Nat→Rat)(u:Rat):curL x y u 7=u:=if_pos rfl
theorem b3w(x y:Nat→Rat)(u:Rat){i:Nat}(h:i < 7):curL x y u i=maxQ (x i) (y i):=if_neg (by omega)
section
variable {p q:List L2} {u:Rat}
theorem b1X(hp:a2C p)(hq:a2C q)(h1:inX p q=true)(h2:inX q p=true)(su:Sz 74 u):SzC 1200 (curL (momX p q) (momX q p) u):=fun i hi=>by
 by_cases h:i=7
 ·subst h;rw[a8p];exact su.mono (by omega)
 ·rw[b3w _ _ _ (by omega)];exact a17 (a5L hp hq h1 i (by omega)).2.1 (a5L hq hp h2 i (by omega)).2.1
theorem b6V(hp:a2C p)(hq:a2C q)(h1:inX p q=true)(h2:inX q p=true)(su:Sz 74 u)(u0:0≤u)(u1:u≤1):CIs (txt (curL (momX p q) (momX q p) u)) (curL (momX p q) (momX q p) u) :=
 CIs.mk' (b1X hp hq h1 h2 su) (by decide) (fun i hi=>by rw[b3w _ _ _ hi];exact Rat.le_trans (a5L hp hq h1 i hi).2.2 (a8D _ _).1) (by rw[a8p];exact u0) (by rw[a8p];exact u1)
theorem a8A(hp:a2C p)(hq:a2C q)(h1:inX p q=true)(i:Nat)(hi:i < 7):0≤momX p q i:=Rat.le_trans (by decide) (a5L hp hq h1 i hi).2.2
end
theorem a8n{F:Rat}(F1:1≤F){i:Nat}(hi:i < 7):0≤shM i*(pwM F i)⁻¹:=Rat.mul_nonneg (Rat.le_of_lt (b5i hi)) (Rat.le_of_lt (Rat.inv_pos.2 (a69 F1 i)))
theorem a9g{a b U V F x:Rat}(F1:1≤F)(ha:a≤U)(hb:b≤U)(h:x≤V):a+(x+F*b)≤V+(F+1)*U:=by
 have:=Rat.mul_le_mul_of_nonneg_left hb (show 0≤F by grind)
 grind
section
variable {l0 l1 o0 o1:List L2} {z0 z1:ZL} {F U:Rat}
theorem b3o(A:a2E l0 o0 z0)(B:a2E l1 o1 z1)(h1:inX l0 l1=true)(F1:1≤F)(hu:a02 z0≤U)(hv:a02 z1≤U){M:Rat}{i:Nat}(hi:i < 7)(hM:momX l0 l1 i≤M) :
  a1I (a0A o0) (a0A o1) F≤M*shM i*(pwM F i)⁻¹+(F+1)*U:=by
 have F0:0≤F:=Rat.le_trans (by decide) F1;have c:=a86 A.dst.1.isD A.made.dst.isD B.dst.1.isD B.made.dst.isD F0;have d:=b4M A.made.dst B.made.dst h1 F1 i;have e:=Rat.mul_le_mul_of_nonneg_right hM (a8n F1 hi);refine Rat.le_trans c (a9g F1 (Rat.le_trans A.moves.1 hu) (Rat.le_trans B.moves.2 hv) (Rat.le_trans d ?_));change momX l0 l1 i*shM i*(pwM F i)⁻¹≤_
 grind
end
section
variable {l0 l1 l2 l3 o0 o1 o2 o3 P Q:List L2} {z0 z1 z2 z3:ZL} {F U V:Rat}
theorem b6E(A:a2E l0 o0 z0)(B:a2E l1 o1 z1)(C:a2E l2 o2 z2)(E:a2E l3 o3 z3)(h1:inX l0 l1=true)(h2:inX l2 l3=true)(F1:1≤F)
  (hP:IsD (a0A P)) (hQ:IsD (a0A Q)) (mP:∀ k,a0k (a0A P) k=a0k (a3g a3Q (a0A o0) (a0A o2)) k) (mQ:∀ k,a0k (a0A Q) k=a0k (a3g a3Q (a0A o1) (a0A o3)) k)
  (u0:a02 z0≤U) (u1:a02 z1≤U) (u2:a02 z2≤V) (u3:a02 z3≤V) {M N:Rat} {i:Nat} (hi:i < 7) (hM:momX l0 l1 i≤M) (hN:momX l2 l3 i≤N) :
  a1I (a0A P) (a0A Q) F≤M*N*shM i*(pwM F i)⁻¹+(F+1)*(U+V):=by
 have F0:0≤F:=Rat.le_trans (by decide) F1;have a0:=A.made.dst;have a1:=B.made.dst;have a2:=C.made.dst;have a3:=E.made.dst;have l0':=A.made.len;have l1':=B.made.len;have l2':=C.made.len;have l3':=E.made.len;obtain⟨Y,_,dY,mY⟩:=a7R a0 a2 (Nat.le_trans (Nat.mul_le_mul l0' l2') (by omega)) (by unfold maxD;omega);obtain⟨Z,_,dZ,mZ⟩:=a7R a1 a3 (Nat.le_trans (Nat.mul_le_mul l1' l3') (by omega)) (by unfold maxD;omega);have c:=a86 hP dY.isD hQ dZ.isD F0;have g1:=a9E A.dst.1.isD a0.isD C.dst.1.isD a2.isD hP dY.isD mP mY (f:=1) (g:=1) (by decide) (by decide);have g2:=a9E a1.isD B.dst.1.isD a3.isD E.dst.1.isD dZ.isD hQ mZ mQ (f:=1) (g:=1) (by decide) (by decide);rw[Rat.one_mul]at g1 g2;have keys:∀ {p q:List L2},inX p q=true→∀ e∈a0A p,e.1∈a00 (a0A q):=fun hin e he=>by
  obtain⟨x,hx,rfl⟩:=List.mem_map.1 he;rw[a4n];exact a5c.1 hin x hx
 have d:=b4n a0.isD a1.isD a2.isD a3.isD dY.isD dZ.isD mY mZ (keys h1) (keys h2) F1 i;change _≤momX l0 l1 i*momX l2 l3 i*shM i*(pwM F i)⁻¹ at d;have n2:0≤momX l2 l3 i:=a8A C.made E.made h2 i hi;have n1:0≤momX l0 l1 i:=a8A A.made B.made h1 i hi;have e1:=Rat.mul_le_mul_of_nonneg_right hM n2;have e2:=Rat.mul_le_mul_of_nonneg_left hN (Rat.le_trans n1 hM);have e3:=Rat.mul_le_mul_of_nonneg_right (Rat.le_trans e1 e2) (a8n F1 hi);have m0:=A.moves.1;have m1:=B.moves.2;have m2:=C.moves.1;have m3:=E.moves.2;refine Rat.le_trans c (a9g F1 (by grind) (by grind) (Rat.le_trans d (by grind)))
theorem b7w(A:a2E l0 o0 z0)(B:a2E l1 o1 z1)(C:a2E l2 o2 z2)(E:a2E l3 o3 z3)(h01:inX l0 l1=true)(h10:inX l1 l0=true)(h23:inX l2 l3=true)(h32:inX l3 l2=true)(F1:1≤F)(sF:Sz 12 F)
  {X Y:Nat→Rat} (eX:X=curL (momX l0 l1) (momX l1 l0) (maxQ (a02 z0) (a02 z1))) (eY:Y=curL (momX l2 l3) (momX l3 l2) (maxQ (a02 z2) (a02 z3))) :
  CIs (txt X) X∧CIs (txt Y) Y∧SzC 1200 X∧SzC 1200 Y∧CIs (txt (sumM X Y)) (sumM X Y)∧(∀ i,i < 7→Sz 2401 (sumM X Y i))∧Sz 149 (sumM X Y 7)∧Sz 74 (X 7) ∧
   ∃ P Q,a7a o0 o2=.ok P∧a7a o1 o3=.ok Q∧(a1h P∧P.length≤1000)∧(a1h Q∧Q.length≤1000) ∧
    ∀ i,i < 7→a9n (rT F) (rT (toM (sumM X Y) F i)) P Q=.ok true∧a9n (rT F) (rT (toM X F i)) o0 o1=.ok true∧fits (toM (sumM X Y) F i)=true∧fits (toM X F i)=true:=by
 have F0:0≤F:=Rat.le_trans (by decide) F1;have gU:=a8D (a02 z0) (a02 z1);have gV:=a8D (a02 z2) (a02 z3);have sU:Sz 74 (maxQ (a02 z0) (a02 z1)):=a17 A.sum.2.2 B.sum.2.2;have sV:Sz 74 (maxQ (a02 z2) (a02 z3)):=a17 C.sum.2.2 E.sum.2.2;have U0:=Rat.le_trans A.sum.1 gU.1;have V0:=Rat.le_trans C.sum.1 gV.1;have U1:maxQ (a02 z0) (a02 z1)≤1:=b5v.2 ⟨A.sum.2.1,B.sum.2.1⟩;have V1:maxQ (a02 z2) (a02 z3)≤1:=b5v.2 ⟨C.sum.2.1,E.sum.2.1⟩;have cX:=b6V A.made B.made h01 h10 sU U0 U1;have cY:=b6V C.made E.made h23 h32 sV V0 V1;have zX:=b1X A.made B.made h01 h10 sU;have zY:=b1X C.made E.made h23 h32 sV;have X7:X 7=maxQ (a02 z0) (a02 z1):=by rw[eX,a8p]
 have Y7:Y 7=maxQ (a02 z2) (a02 z3):=by rw[eY,a8p]
 have Xi:∀ i,i < 7→momX l0 l1 i≤X i∧momX l1 l0 i≤X i:=fun i hi=>by rw[eX,b3w _ _ _ hi];exact a8D _ _
 have Yi:∀ i,i < 7→momX l2 l3 i≤Y i∧momX l3 l2 i≤Y i:=fun i hi=>by rw[eY,b3w _ _ _ hi];exact a8D _ _
 rw[← eX]at cX zX;rw[← eY]at cY zY;clear eX eY;generalize maxQ (a02 z0) (a02 z1)=U at *;generalize maxQ (a02 z2) (a02 z3)=V at *;have cS:=b5C cX cY zX zY (by unfold maxD;omega);have zS:∀ i,i < 7→Sz 2401 (sumM X Y i):=fun i hi=>(b4W zX zY) i (by omega);have z7:Sz 149 (sumM X Y 7):=by
  rw[a9h,X7,Y7];exact b8F (sU.add sV) (Sz.one.mono (by omega))
 have sX7:Sz 74 (X 7):=by rw[X7];exact sU
 refine⟨cX,cY,zX,zY,cS,zS,z7,sX7,?_⟩;have hl:o0.length*o2.length≤144∧o1.length*o3.length≤144:=⟨Nat.mul_le_mul A.len C.len,Nat.mul_le_mul B.len E.len⟩;obtain⟨P,eP,dP,mP⟩:=a7R A.dst.1 C.dst.1 (Nat.le_trans hl.1 (by omega)) (by unfold maxD;omega);obtain⟨Q,eQ,dQ,mQ⟩:=a7R B.dst.1 E.dst.1 (Nat.le_trans hl.2 (by omega)) (by unfold maxD;omega);have ky:∀ {o:List L2},(∀ x∈o,x.1.size≤12)→∀ x∈o,x.1.size≤100000:=fun h x hx=>Nat.le_trans (h x hx) (by omega);refine⟨P,Q,eP,eQ,a9f eP (ky A.key) (ky C.key) (Nat.le_trans hl.1 (by omega)),a9f eQ (ky B.key) (ky E.key) (Nat.le_trans hl.2 (by omega)),fun i hi=>?_⟩;have fS:=b5A zS z7 (by omega) (by omega) sF hi;have fX:=b5A (k:=1200) (fun i hi=>zX i (by omega)) sX7 (by omega) (by omega) sF hi;have b1:=b6E A B C E h01 h23 F1 dP.isD dQ.isD mP mQ gU.1 gU.2 gV.1 gV.2 hi (Xi i hi).1 (Yi i hi).1;have b2:=b6E B A E C h10 h32 F1 dQ.isD dP.isD mQ mP gU.2 gU.1 gV.2 gV.1 hi (Xi i hi).2 (Yi i hi).2;have f1:=b3o A B h01 F1 gU.1 gU.2 hi (Xi i hi).1;have f2:=b3o B A h10 F1 gU.2 gU.1 hi (Xi i hi).2;have tP:=a5f dP.isD dQ.isD F0;have tQ:=a5f dQ.isD dP.isD F0;have eD:dM X F i=X i*shM i*(pwM F i)⁻¹+(F+1)*U:=by unfold dM xM b0z;rw[X7]
 have eS:∀ d,d≤1→d≤X i*Y i*shM i*(pwM F i)⁻¹+(F+1)*(U+V)→d≤dM (sumM X Y) F i:=fun d d1 d2=>by
  unfold dM xM b0z;rw[b3b _ _ hi,a9h,X7,Y7];have hx:0≤X i*Y i*shM i*(pwM F i)⁻¹:=by
   have a:=Rat.mul_nonneg (Rat.mul_nonneg (Rat.le_trans (by decide) (cX.one i hi)) (Rat.le_trans (by decide) (cY.one i hi))) (a8n F1 hi);rw[← Rat.mul_assoc]at a;exact a
  unfold minQ
  split
  ·grind
  ·exact d2
 exact⟨b0Y (j:=12) dP dQ F1 sF (by unfold maxD;omega) (b23 cS F1 hi) (b5b _ _ _) fS (by unfold maxD;omega) (by omega) (a6V (eS _ tP b1) tP) (a6V (eS _ tQ b2) tQ),
  b0Y (j:=12) A.dst.1 B.dst.1 F1 sF (by unfold maxD;omega) (b23 cX F1 hi) (b5b _ _ _) fX (by unfold maxD;omega) (by omega) (a6V (by rw[eD];exact f1) (a5f A.dst.1.isD B.dst.1.isD F0)) (a6V (by rw[eD];exact f2) (a5f B.dst.1.isD A.dst.1.isD F0)),fS,fX⟩
end
theorem a9z{p q:List L2}(hp:a2C p)(hq:a2C q):∃ (cq:CT) (b:Bool),(∀ u v (W:World) (_:LRow W u p) (_:LRow W v q) (_:Res W),
  Calls prog 52 #[u,v] W fun e w'=>e=.returned (.tuple #[cv cq,.bool b])∧Below W.heap.size W w')∧(b=true→inX p q=true∧inX q p=true∧cq=txt (curM (momX p q) (momX q p))):=by
 by_cases h1:inX p q=true∧inX q p=true
 ·obtain⟨h1,h2⟩:=h1
  exact⟨_,true,fun u v W hu hv hr=>b1Q p q u v (momX p q) (momX q p) W hu hv hp.short hq.short hp.t60 hq.t60 hr
   (fun i hi=>⟨(a5L hp hq h1 i hi).1,a0V.2 ((a5L hp hq h1 i hi).2.1.mono (by unfold maxD;omega))⟩)
   (fun i hi=>⟨(a5L hq hp h2 i hi).1,a0V.2 ((a5L hq hp h2 i hi).2.1.mono (by unfold maxD;omega))⟩),fun _=>⟨h1,h2,rfl⟩⟩
 ·refine⟨a4o,false,fun u v W hu hv hr=>?_,fun h=>by cases h⟩
  cases h2:inX p q with
  | false =>
   have e1:=a95 (n:=2) hp.dst.ok hq.dst.ok (by omega) (by omega) h2
   cases h3:inX q p with
   | false=>exact a85 p q u v _ _ _ e1 (a95 (n:=2) hq.dst.ok hp.dst.ok (by omega) (by omega) h3) W hu hv hp.short hq.short hp.t60 hq.t60 hr
   | true=>exact a85 p q u v _ _ _ e1 (a5L hq hp h3 0 (by omega)).1 W hu hv hp.short hq.short hp.t60 hq.t60 hr
  | true =>
   have h3:inX q p=false:=by
    cases h3:inX q p with
    | false=>rfl
    | true=>exact absurd ⟨h2,h3⟩ h1
   exact b2I p q u v _ (a5L hp hq h2 0 (by omega)).1 (a95 (n:=2) hq.dst.ok hp.dst.ok (by omega) (by omega) h3) W hu hv hp.short hq.short hp.t60 hq.t60 hr
def a4X(B:Nat)(W:World)(v:Value)(ls:List L2):Prop:=LRow W v ls∧∀ b o n c,v=.slice (some ⟨b,o,none⟩) n c→0 < ls.length→B≤b
section
variable {B:Nat} {W W':World} {v:Value} {ls:List L2}
theorem a4X.of{base:Nat}(h:OwnM base W v ls)(hl:ls.length≤1000)(hB:B≤base):a4X B W v ls:=⟨h.row hl,fun b o n c e h0=>by
 obtain⟨g,c',e',hg⟩:=h.ofPos h0;rw[e]at e'
 cases e'
 exact Nat.le_trans hB hg⟩
theorem a4X.later(h:a4X B W v ls)(hb:Below W.heap.size W W'):a4X B W' v ls:=⟨h.1.below hb,h.2⟩
theorem a4X.set(h:a4X B W v ls){g:Nat}(hg:g < B)(k:Nat)(x:Value):a4X B (W.setCell ⟨g,k,none⟩ x) v ls:=by
 refine⟨?_,h.2⟩;obtain⟨A,c,rfl,hl,hp⟩:=h.1;refine⟨A,c,rfl,hl,fun h0=>?_⟩;obtain⟨b,o,rfl,hb,hc⟩:=hp h0;have hne:b≠g:=by have:=h.2 b o _ _ rfl h0;omega
 refine⟨b,o,rfl,by rw[World.size_setCell];exact hb,fun j y hy=>?_⟩;have e:(W.setCell ⟨g,k,none⟩ x).heap[b]?=W.heap[b]?:=Below.heap_setCell _ _ _ _ hne;have h2:=hc j y hy;exact⟨(World.cell?_of_block (w:=W) (a:=⟨b,o+j*2,none⟩) e).trans h2.1,(World.cell?_of_block (w:=W) (a:=⟨b,o+j*2+1,none⟩) e).trans h2.2⟩
end
theorem CBlk.congr{W:World}{g:Nat}{c d:CT}(h:CBlk W g c)(e:∀ k,k < 8→c k=d k):CBlk W g d:=by
 unfold CBlk at *;rw[← b6e e];exact h
theorem CBlk.far{W:World}{g:Nat}{c:CT}(h:CBlk W g c){b:Nat}(hb:g≠b)(k:Nat)(x:Value):CBlk (W.setCell ⟨b,k,none⟩ x) g c:=Blk.far h (p:=⟨b,k,none⟩) hb x
theorem a94{x y X:Nat→Rat}{U:Rat}{cq:CT}(hq:cq=txt (curM x y))(eX:X=curL x y U):∀ k,k < 8→upd cq 7 (txt X 7) k=txt X k:=fun k _=>by
 by_cases h:k=7
 ·subst h;exact b3n _ _ _
 ·rw[a8o cq (txt X 7) h,hq,eX]
  show rT (curM x y k)=rT (curL x y U k)
  rw[show curM x y k=maxQ (x k) (y k) from if_neg h,show curL x y U k=maxQ (x k) (y k) from if_neg h]
theorem CBlk.late{W:World}{g:Nat}{x y X:Nat→Rat}{U:Rat}{cq:CT}(h:CBlk W g cq)(hq:cq=txt (curM x y))(eX:X=curL x y U):CBlk (W.setCell ⟨g,7,none⟩ (.string (txt X 7))) g (txt X) :=
 (h.set_ (k:=7) (by omega) (txt X 7)).congr (a94 hq eX)
theorem rmake1(a b n2:ByteArray)(m ok:Bool)(w:World)(ha:a.size≤270000)(_hb:b.size≤270000)(_hn:n2.size≤270000)(hi:intP a.data.toList=(m,n2.data.toList))(hok:a1k a.data.toList=ok)(h0:ok=false) :
  Calls prog 147 #[.string a,.string b] w fun e w'=>e=.returned (resN ([],3))∧Below w.heap.size w w':=by
 have HI:=b9W (And.intro hi hok);subst h0;clear hi hok
 go_enter func147,ntmps147
 go_wp2_with (first
  | (go_at_call 220;refine(a0X a _ (by omega)).mono ?_;rintro e w2 ⟨rfl,hw2⟩;subst hw2;rw[HI.out.1,HI.out.2];dsimp only;rw[a0G];have HB2:=b9W (Below.refl w2.heap.size w2)))
 refine bodyPost_ret (results_tmp2 rfl _ _ _) rfl ?_;exact⟨rfl,HB2.out⟩
theorem rmake2(a b n2:ByteArray)(m ok:Bool)(w:World)(ha:a.size≤270000)(_hb:b.size≤270000)(hn:n2.size≤270000)(hi:intP a.data.toList=(m,n2.data.toList))(hok:a1k a.data.toList=ok)(h0:ok=true)(h1:4000 < n2.size) :
  Calls prog 147 #[.string a,.string b] w fun e w'=>e=.returned (resN ([],5))∧Below w.heap.size w w':=by
 have HI:=b9W (And.intro hi hok);have hl1:decide ((4000:Int) < (n2.size:Int))=true:=decide_eq_true (by omega);clear h1;subst h0;clear hi hok
 go_enter func147,ntmps147
 go_wp2_with (first
  | (go_at_call 220;refine(a0X a _ (by omega)).mono ?_;rintro e w2 ⟨rfl,hw2⟩;subst hw2;rw[HI.out.1,HI.out.2];dsimp only;rw[a0G];have HB2:=b9W (Below.refl w2.heap.size w2)))
 refine bodyPost_ret (results_tmp2 rfl _ _ _) rfl ?_;exact⟨rfl,HB2.out⟩
theorem rmake3(a b n2:ByteArray)(m ok:Bool)(w:World)(ha:a.size≤270000)(hb:b.size≤270000)(hn:n2.size≤270000)(hi:intP a.data.toList=(m,n2.data.toList))(hok:a1k a.data.toList=ok)(h0:ok=true)(h1:n2.size≤4000)(h2:errN b.data.toList≠0) :
  Calls prog 147 #[.string a,.string b] w fun e w'=>e=.returned (resN ([],errN b.data.toList))∧Below w.heap.size w w':=by
 have HI:=b9W (And.intro hi hok);have hl1:decide ((4000:Int) < (n2.size:Int))=false:=decide_eq_false (by omega);have hne:((errN b.data.toList:Int)==0)=false:=by rw[beq_eq_false_iff_ne];omega
 clear h1 h2;subst h0;clear hi hok
 go_enter func147,ntmps147
 go_wp2_with (first
  | (go_at_call 220;refine(a0X a _ (by omega)).mono ?_;rintro e w2 ⟨rfl,hw2⟩;subst hw2;rw[HI.out.1,HI.out.2];dsimp only;rw[a0G];have HB2:=b9W (Below.refl w2.heap.size w2))
  | (go_at_call 221;refine(a5r b _ (by omega)).mono ?_;rintro e w3 ⟨rfl,hw3⟩;subst hw3;have HB3:=HB2))
 refine bodyPost_ret (results_tmp2 rfl _ _ _) rfl ?_;exact⟨rfl,HB3.out⟩
theorem rmake4(a b n2:ByteArray)(m ok:Bool)(w:World)(ha:a.size≤270000)(hb:b.size≤270000)(hn:n2.size≤270000)(hi:intP a.data.toList=(m,n2.data.toList))(hok:a1k a.data.toList=ok)(h0:ok=true)(h1:n2.size≤4000)(h2:errN b.data.toList=0)(h3:(b.toList==[48])=true) :
  Calls prog 147 #[.string a,.string b] w fun e w'=>e=.returned (resN ([],6))∧Below w.heap.size w w':=by
 have HI:=b9W (And.intro hi hok);have hl1:decide ((4000:Int) < (n2.size:Int))=false:=decide_eq_false (by omega);have hne:((errN b.data.toList:Int)==0)=true:=by rw[h2];rfl
 clear h1 h2;subst h0;clear hi hok
 go_enter func147,ntmps147
 go_wp2_with (first
  | (go_at_call 220;refine(a0X a _ (by omega)).mono ?_;rintro e w2 ⟨rfl,hw2⟩;subst hw2;rw[HI.out.1,HI.out.2];dsimp only;rw[a0G];have HB2:=b9W (Below.refl w2.heap.size w2))
  | (go_at_call 221;refine(a5r b _ (by omega)).mono ?_;rintro e w3 ⟨rfl,hw3⟩;subst hw3;have HB3:=HB2))
 refine bodyPost_ret (results_tmp2 rfl _ _ _) rfl ?_;exact⟨rfl,HB3.out⟩
theorem rmake5(a b n2:ByteArray)(m ok:Bool)(w:World)(ha:a.size≤270000)(hb:b.size≤270000)(hn:n2.size≤270000)(hi:intP a.data.toList=(m,n2.data.toList))(hok:a1k a.data.toList=ok)(h0:ok=true)(h1:n2.size≤4000)(h2:errN b.data.toList=0)(h3:(b.toList==[48])=false)(hd:Dg n2.data.toList)(hd':Dg b.data.toList)(hd0:dv b.data.toList≠0)(ln:(toL (dv n2.data.toList)).length≤500)(ld:(toL (dv b.data.toList)).length≤500)(lr:(toL (nm (mkQ m (dv n2.data.toList) (dv b.data.toList)))).length≤500)(lr':(toL (mkQ m (dv n2.data.toList) (dv b.data.toList)).den).length≤500) :
  Calls prog 147 #[.string a,.string b] w fun e w'=>e=.returned (resN (outQ (mkQ m (dv n2.data.toList) (dv b.data.toList))))∧Below w.heap.size w w':=by
 have HI:=b9W (And.intro hi hok);have hl1:decide ((4000:Int) < (n2.size:Int))=false:=decide_eq_false (by omega);have hne:((errN b.data.toList:Int)==0)=true:=by rw[h2];rfl
 have HG:=b9W (And.intro hd hd');have TK1:True:=trivial;have HM:=b9W (fun vn vd w hn hd=>a3O m (dv n2.data.toList) (dv b.data.toList) vn vd w hn hd hd0 (by omega) (by omega));have HN:=b9W (fun v w hv=>a2Y (mkQ m (dv n2.data.toList) (dv b.data.toList)) v w hv (by omega) (by omega));generalize outQ (mkQ m (dv n2.data.toList) (dv b.data.toList))=r at HN ⊢;unfold resN at HN;clear h1 h2 hd hd' hd0 ln ld lr lr';subst h0;clear hi hok
 go_enter func147,ntmps147
 go_wp2_with (first
  | (go_at_call 220;refine(a0X a _ (by omega)).mono ?_;rintro e w2 ⟨rfl,hw2⟩;subst hw2;rw[HI.out.1,HI.out.2];dsimp only;rw[a0G];have HB2:=b9W (Below.refl w2.heap.size w2))
  | (go_at_call 221;refine(a5r b _ (by omega)).mono ?_;rintro e w3 ⟨rfl,hw3⟩;subst hw3;have HB3:=HB2)
  | (clear TK1;go_at_call 223;refine(a2N n2 _ HG.out.1 (by omega)).mono ?_;rintro e w4 ⟨v4,rfl,hv4,hb4⟩;obtain⟨A4,c4,rfl,_,_,_⟩:=id hv4;have HV4:=b9W hv4;have HB4:=b9W (HB3.out.trans (hb4.mono HB3.out.size));clear hv4 hb4)
  | (go_at_call 223;refine(a2N b _ HG.out.2 (by omega)).mono ?_;rintro e w5 ⟨v5,rfl,hv5,hb5⟩;obtain⟨A5,c5,rfl,_,_,_⟩:=id hv5;have HV5:=b9W hv5;have HV4':=b9W (HV4.out.below hb5);have HB5:=b9W (HB4.out.trans (hb5.mono HB4.out.size));clear hv5 hb5)
  | (go_at_call 222;refine(HM.out _ _ _ HV4'.out HV5.out).mono ?_;rintro e w6 ⟨v6,rfl,hv6,hb6⟩;have HV6:=b9W hv6;have HB6:=b9W (HB5.out.trans (hb6.mono HB5.out.size));clear hv6 hb6)
  | (go_at_call 153;refine(HN.out _ _ HV6.out).mono ?_;rintro e w7 ⟨rfl,hb7⟩;have HB7:=b9W (HB6.out.trans (hb7.mono HB6.out.size));clear hb7))
 refine bodyPost_ret (results_tmp2 rfl _ _ _) rfl ?_;exact⟨rfl,HB7.out⟩
theorem b2j(a b:ByteArray)(w:World)(ha:a.size≤270000)(hb:b.size≤270000) :
  Calls prog 147 #[.string a,.string b] w fun e w'=>e=.returned (resN (b7I a.data.toList b.data.toList))∧Below w.heap.size w w':=by
 have hle:=a99 a.data.toList;rw[← a0F]at hle;have hn:(⟨(intP a.data.toList).2.toArray⟩:ByteArray).size≤270000:=by show (intP a.data.toList).2.toArray.size≤_;rw[List.size_toArray];omega
 have hs:(⟨(intP a.data.toList).2.toArray⟩:ByteArray).size=(intP a.data.toList).2.length:=List.size_toArray;unfold b7I
 by_cases hok:a1k a.data.toList=false
 ·rw[if_pos hok]
  exact rmake1 a b ⟨(intP a.data.toList).2.toArray⟩ _ _ w ha hb hn rfl hok rfl
 ·rw[if_neg hok]
  have hok:a1k a.data.toList=true:=by simpa using hok
  have hnf:a1b (intP a.data.toList).2=true:=by
   unfold a1k at hok
   simp only[Bool.and_eq_true]at hok
   exact hok.1
  by_cases hl:4000 < (intP a.data.toList).2.length
  ·rw[if_pos hl]
   exact rmake2 a b ⟨(intP a.data.toList).2.toArray⟩ _ _ w ha hb hn rfl hok rfl (by rw[hs];exact hl)
  ·rw[if_neg hl]
   by_cases he:errN b.data.toList≠0
   ·rw[if_pos he]
    exact rmake3 a b ⟨(intP a.data.toList).2.toArray⟩ _ _ w ha hb hn rfl hok rfl (by rw[hs];omega) he
   ·rw[if_neg he]
    have he:errN b.data.toList=0:=by omega
    by_cases h0:b.data.toList=[48]
    ·rw[if_pos h0]
     exact rmake4 a b ⟨(intP a.data.toList).2.toArray⟩ _ _ w ha hb hn rfl hok rfl (by rw[hs];omega) he (by rw[Lib.toList_data,h0];rfl)
    ·rw[if_neg h0]
     have hbf:a1b b.data.toList=true∧b.data.toList.length≤4000:=by
      unfold errN at he
      split at he
      ·split at he
       ·cases he
       ·exact⟨by assumption,by omega⟩
      ·cases he
     have hd0:dv b.data.toList≠0:=fun e=>h0 (by rw[← a1b.eq hbf.1,e,a6K]);have ln:=a1U hnf (k:=500) (by omega);have ld:=a1U hbf.1 (k:=500) (by omega);obtain⟨lr,lr'⟩:=b5D (intP a.data.toList).1 hd0 ln ld;exact rmake5 a b ⟨(intP a.data.toList).2.toArray⟩ _ _ w ha hb hn rfl hok rfl (by rw[hs];omega) he (by rw[Lib.toList_data,beq_eq_false_iff_ne];exact h0) (a1A hnf) (a1A hbf.1) hd0 ln ld lr lr'
end Go.Proofs.YtigapglmipmbeaaGreatDoor
namespace Go.Proofs.YtigapglmipmbeaaGreatDoor
open Go.RowKit Go.Shelf
open Lim
attribute [local go_sem] Oper.semAt_some
theorem shr_lo{n:Int}(h:-9223372036854775808≤n)(k:Nat):-9223372036854775808≤n / 2 ^ k:=by
 have hp:(0:Int) < 2 ^ k:=Int.pow_pos (by decide);generalize (2:Int) ^ k=c at *;exact Int.le_ediv_of_mul_le hp (by omega)
theorem shr_hi{n:Int}(h:n≤9223372036854775807)(k:Nat):n / 2 ^ k≤9223372036854775807:=by
 have hp:(0:Int) < 2 ^ k:=Int.pow_pos (by decide);generalize (2:Int) ^ k=c at *;exact Int.ediv_le_of_le_mul hp (by omega)
theorem b64{k:Int}(h0:0≤k)(h4:k < 4):∃ j:Nat,resN (b7I (Lib.itoa k) [56])=.tuple #[.string (rT (a90 j)),.int .i64 0]∧(Lib.itoa k).length≤100:=by
 have h:k=0∨k=1∨k=2∨k=3:=by omega
 rcases h with rfl|rfl|rfl|rfl
 ·exact⟨0,by kernel_rfl,by decide +kernel⟩
 ·exact⟨1,by kernel_rfl,by decide +kernel⟩
 ·exact⟨2,by kernel_rfl,by decide +kernel⟩
 ·exact⟨3,by kernel_rfl,by decide +kernel⟩
theorem b0r(w:World)(x y z t:Value)(T:TypeId):∀ j u,[x,y,z,t][j]?=some u→(w.alloc (.cells #[x,y,z,t] T)).cell? ((⟨w.heap.size,0,none⟩:Addr).add j)=some u:=by
 intro j u hj
 match j,hj with
 | 0,hj =>
  simp at hj
  subst hj
  simp[Addr.add]
 | 1,hj =>
  simp at hj
  subst hj
  simp[Addr.add]
 | 2,hj =>
  simp at hj
  subst hj
  simp[Addr.add]
 | 3,hj =>
  simp at hj
  subst hj
  simp[Addr.add]
theorem b2p{ls:List L2}{zs:ZL}(h:Dst 289 ls)(hs:a1h ls)(hz:zs.map (·.1)=ls):a1h (a3e zs):=fun x hx=>by
 obtain⟨z,hm,hx⟩:=List.mem_flatMap.1 hx;obtain⟨D,d1,d2,hc⟩:=a8l h;obtain⟨_,_,_,_,s1,s2⟩:=hc z.1 (a5u hz hm) z.2;have f1:fits (cutV z)=true:=a0V.2 (s1.mono (by unfold maxD;omega));have f2:fits (valX z.1 - cutV z)=true:=a0V.2 (s2.mono (by unfold maxD;omega))
 simp only[List.mem_cons,List.not_mem_nil,or_false]at hx
 rcases hx with rfl|rfl
 ·exact⟨(hs z.1 (a5u hz hm)).1,a14 (a1Z f2)⟩
 ·exact⟨by show a2v.size≤_;decide,a14 (a1Z f1)⟩
theorem a4Q(ls:List L2)(v:Value)(n:Int)(w:World)(hv:LRow w v ls)(hs:a1h ls)(hd:Dst 289 ls)(hl:ls.length≤12)(h0:-9223372036854775808≤n)(h1:n≤9223372036854775807)(hr:Res w) :
  Calls prog 56 #[v,.int .i64 n] w fun e w'=>(∃ u zs out,zs.map (·.1)=ls∧a2F (a3e zs)=.ok out∧e=.returned (.tuple #[u,.string (rT (a02 zs))])∧OwnM w.heap.size w' u out∧a1h out∧out.length≤1000)∧Below w.heap.size w w':=by
 have HV:=b9W hv;have HS:=b9W hs;have HD:=b9W hd;have HRS:=b9W hr;have N0:=b9W (NW.refl hr);have HNB:=b9W (And.intro h0 h1);have HLL:=b9W hl;obtain⟨A0,c0,rfl,HLEN,_⟩:=hv;obtain⟨i0,hi,hz0,hz1,hz2⟩:=info_parts b8v;clear hs hd hr h0 h1 hl
 go_enter func56,ntmps56
 go_wp2
 go_loopw [6,7,8] (fun v6 v7 v8 wr=>∃ (zs:ZL) (A1:Option Addr) (c1:Nat),zs.length≤ls.length∧v6=.slice A1 (zs.length*2) c1∧v7=.string (rT (a02 zs))∧v8=.int .i64 (zs.length:Int)∧Hid (zs.map (·.1)=ls.take zs.length)∧Hid (OwnM w.heap.size wr (.slice A1 (zs.length*2) c1) (a3e zs))∧Hid (NW w wr)) (fun _ _ v8 _=>ls.length - (intOf v8).toNat)
 case atStart=>exact⟨[],none,0,Nat.zero_le _,rfl,congrArg Value.string IsT.zero.text,rfl,b9W rfl,b9W (OwnM.nil _ _),N0⟩
 case round =>
  clear N0;obtain⟨zs,A1,c1,hk,rfl,rfl,rfl,HZ,HO,HN⟩:=hrel
  by_cases hlt:zs.length < ls.length
  ·obtain⟨x,hx⟩:∃ x,ls[zs.length]?=some x:=⟨_,List.getElem?_eq_getElem hlt⟩
   obtain⟨b2,o,c',e',hb2,q0,q1⟩:=HV.out.at HN.out.below hx
   simp only[Value.slice.injEq,true_and]at e'
   obtain⟨rfl,rfl⟩:=e';have hlt':(zs.length:Int) < (ls.length:Int):=by omega
   have hl12:(zs.length:Int) < 12:=by have:=HLL.out;omega
   have HLT:=b9W (And.intro hlt hlt');have HXC:=b9W hx;have HXM:=b9W (List.mem_of_getElem? hx);clear q0 q1 hx hlt;have TK1:True:=trivial;have TK2:True:=trivial
   go_wp2_with ((clear TK1;go_at_call 54;refine(b22 _ 4 _ (by omega) (shr_lo HNB.out.1 _) (shr_hi HNB.out.2 _) (by omega)).mono ?_;rintro e w2 ⟨k,rfl,k0,k4,rfl⟩))
   obtain⟨j,hj,hjl⟩:=b64 k0 k4;have HIN:=b9W (fun W=>b32 k W (by omega) (by omega));have HMK:=b9W (fun W=>b2j ⟨(Lib.itoa k).toArray⟩ ⟨#[56]⟩ W (by show (Lib.itoa k).toArray.size≤_;rw[List.size_toArray];omega) (by decide));change Hid (∀ W,Calls _ _ _ _ fun e w'=>e=.returned (resN (b7I (Lib.itoa k) [56]))∧_) at HMK;rw[hj]at HMK;generalize (⟨(Lib.itoa k).toArray⟩:ByteArray)=tk at *;clear hj hjl k0 k4;obtain⟨D,d1,d2,hc⟩:=a8l HD.out;obtain⟨_,_,_,_,s1,s2⟩:=hc x HXM.out j;have f1:fits (cutV (x,j))=true:=a0V.2 (s1.mono (by unfold maxD;omega));have f2:fits (valX x - cutV (x,j))=true:=a0V.2 (s2.mono (by unfold maxD;omega));have f0:=(a78 j).2.2.2;have ed:=HD.out.okV x HXM.out;have hz':(zs++[(x,j)]).map (·.1)=ls.take (zs.length+1):=by
    rw[List.map_append,HZ.out,List.take_add_one,HXC.out];rfl
   have g1:=a0V.2 ((b0D HD.out HZ.out).2.2.mono (show 289+1≤maxD by unfold maxD;omega));have g2:=a0V.2 ((b0D HD.out hz').2.2.mono (show 289+1≤maxD by unfold maxD;omega));have HZ':=b9W hz';have HPP:=b9W (b4z zs (x,j));have HSN:=b9W (b4e zs (x,j))
   dsimp only at HPP
   have e1:mulX x.2 (rT (a90 j))=.ok (rT (cutV (x,j))):=by rw[a7G ed (a1Z f0),a1y f0];exact a2O f1
   have e2:subX x.2 (rT (cutV (x,j)))=.ok (rT (valX x - cutV (x,j))):=by rw[b3h ed (a1Z f1),a1y f1];exact a2O f2
   have e3:plX (rT (a02 zs)) (rT (cutV (x,j)))=.ok (rT (a02 (zs++[(x,j)]))):=by rw[a7m (a1Z g1) (a1Z f1),a1y g1,a1y f1,HSN.out];rw[HSN.out]at g2;exact a2O g2
   have HMU:=b0b (a:=x.2) (b:=rT (a90 j)) (HS.out x HXM.out).2 (a14 (a1Z f0));have HSB:=b3G (a:=x.2) (b:=rT (cutV (x,j))) (HS.out x HXM.out).2 (a14 (a1Z f1));have HPL:=a7U (a:=rT (a02 zs)) (b:=rT (cutV (x,j))) (a14 (a1Z g1)) (a14 (a1Z f1));rw[e1]at HMU;rw[e2]at HSB;rw[e3]at HPL;change Ret _ _ (.tuple #[.string (rT (cutV (x,j))),.int .i64 0]) at HMU;change Ret _ _ (.tuple #[.string (rT (valX x - cutV (x,j))),.int .i64 0]) at HSB;change Ret _ _ (.tuple #[.string (rT (a02 (zs++[(x,j)]))),.int .i64 0]) at HPL;have HMU:=b9W HMU;have HSB:=b9W HSB;have HPL:=b9W HPL;clear d1 d2 hc s1 s2 f1 f2 f0 ed g1 g2 hz' e1 e2 e3 HSN;obtain⟨f,d⟩:=x
   dsimp only at HPP HMU HSB HPL HZ'
   generalize rT (a90 j)=tp at *;generalize rT (cutV ((f,d),j))=tc at *;generalize rT (valX (f,d) - cutV ((f,d),j))=tr at *;have HTS:=b9W (show ∃ t,t=rT (a02 (zs++[((f,d),j)])) from⟨_,rfl⟩);obtain⟨ts,hts⟩:=HTS.out;rw[← hts]at HPL;have HTS:=b9W hts;clear hts;generalize rT (a02 zs)=t0 at *;have TK3:True:=trivial;have TK4:True:=trivial;have TK5:True:=trivial;have TK6:True:=trivial
   go_wp2_with ((clear TK2;go_at_call 148;refine(HIN.out _).mono ?_;rintro e w3 ⟨rfl,hb⟩;have N3:=b9W (HN.out.later hb);have HB3:=b9W hb;clear hb))
   go_wp2_with ((clear TK3;go_at_call 147;refine(HMK.out _).mono ?_;rintro e w4 ⟨rfl,hb⟩;have N4:=b9W (N3.out.later hb);have HB4:=b9W (HB3.out.trans (hb.mono HB3.out.size));obtain⟨_,q0,q1⟩:=HV.out.cell2 N4.out.below HXC.out;dsimp only at q0 q1;clear hb))
   go_wp2_with ((clear TK4;go_at_call 149;refine(HMU.out _ N4.out.res).mono ?_;clear q0 q1;rintro e w5 ⟨rfl,hb⟩;have N5:=b9W (N4.out.later hb);have HB5:=b9W (HB4.out.trans (hb.mono HB4.out.size));obtain⟨_,q0,q1⟩:=HV.out.cell2 N5.out.below HXC.out;dsimp only at q0 q1;clear hb))
   go_wp2_with ((clear TK5;go_at_call 61;refine(HSB.out _ N5.out.res).mono ?_;clear q0 q1;rintro e w6 ⟨rfl,hb⟩;have N6:=b9W (N5.out.later hb);have HB6:=b9W (HB5.out.trans (hb.mono HB5.out.size));clear hb))
   go_wp2_with (first
    | (clear TK6;go_at_call 59;refine(HPL.out _ N6.out.res).mono ?_;rintro e w7 ⟨rfl,hb⟩;have N7:=b9W (N6.out.later hb);have HB7:=b9W (HB6.out.trans (hb.mono HB6.out.size));obtain⟨_,q0,q1⟩:=HV.out.cell2 N7.out.below HXC.out;dsimp only at q0 q1;have HA7:=b9W (OwnM.later (OwnM.later HO.out HB7.out) (a0d (Below.refl _ _) (.cells #[.string f,.string tr,.string a2v,.string tc] 30)));have HN7:=b9W (N7.out.alloc (.cells #[.string f,.string tr,.string a2v,.string tc] 30));clear hb)
    | (at_builtin;refine wpList_append_own _ rfl _ _ 22 rfl w.heap.size 30 i0 (.agg #[.string ByteArray.empty,.string ByteArray.empty]) 2 32 underlying22 hi hz0 hz1 hz2 rfl (by decide) _ _ _ rfl HA7.out ⟨w7.heap.size,0,none⟩ 2 2 [.string f,.string tr,.string a2v,.string tc] rfl rfl (b0r _ _ _ _ _ _) (by intro u hu;simp only[List.mem_cons,List.not_mem_nil,or_false]at hu;rcases hu with rfl|rfl|rfl|rfl<;>rfl) (by rw[a3N];have:=HLT.out.1;have:=HLL.out;unfold maxLen;omega) (by rw[a3N];have:=HLT.out.1;have:=HLL.out;omega) HN7.out.below.size ?_;intro v' w8 hown8 hgrow8 _;rw[a3N]at hown8;obtain⟨A5,c5,rfl⟩:=a1H hown8;have HO8:=b9W (show OwnM w.heap.size w8 (.slice A5 (zs.length*2+2) c5) (a3e (zs++[((f,d),j)])) by unfold OwnM;rw[HPP.out,List.length_append,a2K,a3N];exact hown8);have HN8:=b9W (a7V HN7.out HRS.out hgrow8 (fun r e=>HA7.out.base e));clear hown8 hgrow8))
   go_roundw
   case rel =>
    have e1:(zs++[((f,d),j)]).length=zs.length+1:=by simp
    exact⟨zs++[((f,d),j)],A5,c5,by rw[e1];exact HLT.out.1,congrArg (fun n=>Value.slice A5 n c5) (by omega),congrArg Value.string HTS.out,by rw[e1];go_num,b9W (by rw[e1];exact HZ'.out),b9W (by have h:=HO8.out;rwa [show zs.length*2+2=(zs++[((f,d),j)]).length*2 by omega]at h),HN8⟩
   case measure=>have:=HLT.out.1;simp[intOf];omega
  ·have hlt':¬ (zs.length:Int) < (ls.length:Int):=by omega
   have hz:zs.map (·.1)=ls:=by rw[HZ.out];exact List.take_of_length_le (by omega)
   obtain⟨out,ek,_,_⟩:=b3d HD.out hz (by unfold maxD;omega);have hs2:=b2p HD.out HS.out hz;have hl2:(a3e zs).length≤1000:=by rw[a3N];have:=HLL.out;omega
   have HMC:=b9W (a63 (a3e zs) _ wr (OwnM.row (ls:=a3e zs) (by have h:=HO.out;exact h) hl2) hs2 HN.out.res);have HE:=b9W (And.intro hz (And.intro ek (a9A ek hs2 hl2)));rw[ek]at HMC;change Hid (Calls _ _ _ _ fun e w'=>(∃ u,e=.returned (.tuple #[u,.int .i64 0])∧OwnM _ w' u out)∧_) at HMC;clear hlt hz ek hs2 hl2
   go_wp2_with ((go_at_call 26;refine(HMC.out).mono ?_;rintro e w8 ⟨⟨u8,rfl,ho⟩,hb⟩;have HO8:=b9W ho;have H3:=b9W (HN.out.later hb);clear hb ho))
   go_wp2
   go_ret2
   exact⟨⟨_,zs,out,HE.out.1,HE.out.2.1,rfl,a4e HO8.out HN.out.below.size,HE.out.2.2.1,HE.out.2.2.2⟩,H3.out.below⟩
end Go.Proofs.YtigapglmipmbeaaGreatDoor
namespace Go.Proofs.YtigapglmipmbeaaGreatDoor
open Go.RowKit Go.Shelf
open Lim
structure At1 (w:World) (t1:TypeId) (c1:Array Value) (W:World):Prop where
 a:Blk W w.heap.size t1 c1
 res:Res W
 below:Below w.heap.size w W
theorem At1.later{w W W':World}{t1:TypeId}{c1:Array Value}(h:At1 w t1 c1 W)(hb:Below W.heap.size W W'):At1 w t1 c1 W' :=
 ⟨h.a.below hb h.a.lt,h.res.below hb,h.below.trans (hb.mono h.below.size)⟩
theorem At1.new(w:World)(t1:TypeId)(c1:Array Value)(hr:Res w):At1 w t1 c1 (w.alloc (.cells c1 t1)) :=
 ⟨Blk.new w t1 c1,hr.below (a0d (Below.refl _ _) _),a0d (Below.refl _ _) _⟩
theorem a3C{a b:ByteArray}{p q:Rat}(w:World)(ha:IsT a p)(hb:IsT b q) :
  Calls prog 146 #[.string a,.string b] w fun e w'=>e=.returned (.bool (decide (cmpQ p q≤0)))∧Below w.heap.size w w':=by
 have HC:=b9W (rcmpT w ha hb);generalize cmpQ p q=x at *;clear ha hb
 go_enter func146,ntmps146
 go_wp2_with (go_at_call 119;refine HC.out.mono ?_;rintro e w1 ⟨rfl,hb⟩;have HB:=b9W hb;clear hb)
 go_ret
 exact⟨rfl,HB.out⟩
theorem b7U(f d:ByteArray)(w:World)(h1:f.size≤270000)(_h2:d.size≤270000)(hr:Res w)(he:errQ f.data.toList≠0) :
  Calls prog 145 #[.agg #[.string f,.string d]] w fun e w'=>e=.returned (.int .i64 (errQ f.data.toList:Int))∧Below w.heap.size w w':=by
 have H:=b9W (At1.new w 63 #[.string f,.string d] hr);have HF:=b9W (fun w=>a1o f w h1);obtain⟨z,hz⟩:∃ z:Int,(errQ f.data.toList:Int)=z:=⟨_,rfl⟩;rw[hz]at HF ⊢;have hne:(z==0)=false:=by rw[beq_eq_false_iff_ne];omega
 clear h1 hr he hz
 go_enter func145,ntmps145
 go_wp2_with (go_at_call 219;refine(HF.out _).mono ?_;rintro e w1 ⟨rfl,hb⟩;have H1:=b9W (H.out.later hb);obtain⟨p0,p1⟩:=a06 H1.out.a;clear hb)
 go_ret
 exact⟨rfl,H1.out.below⟩
theorem b78(f d:ByteArray)(w:World)(h1:f.size≤270000)(h2:d.size≤270000)(hr:Res w)(he1:errQ f.data.toList=0)(he:errQ d.data.toList≠0) :
  Calls prog 145 #[.agg #[.string f,.string d]] w fun e w'=>e=.returned (.int .i64 (errQ d.data.toList:Int))∧Below w.heap.size w w':=by
 have H:=b9W (At1.new w 63 #[.string f,.string d] hr);have HF:=b9W (fun w=>a1o f w h1);have HD:=b9W (fun w=>a1o d w h2);rw[he1]at HF;obtain⟨z,hz⟩:∃ z:Int,(errQ d.data.toList:Int)=z:=⟨_,rfl⟩;rw[hz]at HD ⊢;have hne:(z==0)=false:=by rw[beq_eq_false_iff_ne];omega
 have TK1:True:=trivial;clear h1 h2 hr he he1 hz
 go_enter func145,ntmps145
 go_wp2_with (first
  | (clear TK1;go_at_call 219;refine(HF.out _).mono ?_;rintro e w1 ⟨rfl,hb⟩;have H1:=b9W (H.out.later hb);obtain⟨p0,p1⟩:=a06 H1.out.a;clear hb)
  | (go_at_call 219;refine(HD.out _).mono ?_;rintro e w2 ⟨rfl,hb⟩;have H2:=b9W (H1.out.later hb);obtain⟨q0,q1⟩:=a06 H2.out.a;clear hb))
 go_ret
 exact⟨rfl,H2.out.below⟩
theorem b7e(f d:ByteArray)(w:World)(h1:f.size≤270000)(h2:d.size≤270000)(hr:Res w)(F D:Rat)(hf:IsT f F)(hd:IsT d D)(b1:decide (cmpQ 1 F≤0)=false) :
  Calls prog 145 #[.agg #[.string f,.string d]] w fun e w'=>e=.returned (.int .i64 2)∧Below w.heap.size w w':=by
 have H:=b9W (At1.new w 63 #[.string f,.string d] hr);have HF:=b9W (fun w=>a1o f w h1);have HD:=b9W (fun w=>a1o d w h2);rw[hf.err]at HF;rw[hd.err]at HD;have HA1:=b9W (fun w=>a3C w IsT.one hf);rw[b1]at HA1;have TK1:True:=trivial;have TK2:True:=trivial;have TK3:True:=trivial;clear h1 h2 hr hf hd b1
 go_enter func145,ntmps145
 go_wp2_with (first
  | (clear TK1;go_at_call 219;refine(HF.out _).mono ?_;rintro e w1 ⟨rfl,hb⟩;have H1:=b9W (H.out.later hb);obtain⟨p0,p1⟩:=a06 H1.out.a;clear hb)
  | (go_at_call 219;refine(HD.out _).mono ?_;rintro e w2 ⟨rfl,hb⟩;have H2:=b9W (H1.out.later hb);obtain⟨q0,q1⟩:=a06 H2.out.a;clear hb)
  | (clear TK2;go_at_call 146;refine(HA1.out _).mono ?_;rintro e w3 ⟨rfl,hb⟩;have H3:=b9W (H2.out.later hb);obtain⟨r0,r1⟩:=a06 H3.out.a;clear hb))
 go_ret
 exact⟨rfl,H3.out.below⟩
theorem b7P(f d:ByteArray)(w:World)(h1:f.size≤270000)(h2:d.size≤270000)(hr:Res w)(F D:Rat)(hf:IsT f F)(hd:IsT d D)(b1:decide (cmpQ 1 F≤0)=true)(b2:decide (cmpQ 0 D≤0)=false) :
  Calls prog 145 #[.agg #[.string f,.string d]] w fun e w'=>e=.returned (.int .i64 2)∧Below w.heap.size w w':=by
 have H:=b9W (At1.new w 63 #[.string f,.string d] hr);have HF:=b9W (fun w=>a1o f w h1);have HD:=b9W (fun w=>a1o d w h2);rw[hf.err]at HF;rw[hd.err]at HD;have HA1:=b9W (fun w=>a3C w IsT.one hf);rw[b1]at HA1;have HA2:=b9W (fun w=>a3C w IsT.zero hd);rw[b2]at HA2;have TK1:True:=trivial;have TK2:True:=trivial;have TK3:True:=trivial;clear h1 h2 hr hf hd b1 b2
 go_enter func145,ntmps145
 go_wp2_with (first
  | (clear TK1;go_at_call 219;refine(HF.out _).mono ?_;rintro e w1 ⟨rfl,hb⟩;have H1:=b9W (H.out.later hb);obtain⟨p0,p1⟩:=a06 H1.out.a;clear hb)
  | (go_at_call 219;refine(HD.out _).mono ?_;rintro e w2 ⟨rfl,hb⟩;have H2:=b9W (H1.out.later hb);obtain⟨q0,q1⟩:=a06 H2.out.a;clear hb)
  | (clear TK2;go_at_call 146;refine(HA1.out _).mono ?_;rintro e w3 ⟨rfl,hb⟩;have H3:=b9W (H2.out.later hb);obtain⟨r0,r1⟩:=a06 H3.out.a;clear hb)
  | (clear TK3;go_at_call 146;refine(HA2.out _).mono ?_;rintro e w4 ⟨rfl,hb⟩;have H4:=b9W (H3.out.later hb);obtain⟨s0,s1⟩:=a06 H4.out.a;clear hb))
 go_ret
 exact⟨rfl,H4.out.below⟩
theorem b69(f d:ByteArray)(w:World)(h1:f.size≤270000)(h2:d.size≤270000)(hr:Res w)(F D:Rat)(hf:IsT f F)(hd:IsT d D)(b1:decide (cmpQ 1 F≤0)=true)(b2:decide (cmpQ 0 D≤0)=true)(b3:decide (cmpQ D 1≤0)=false) :
  Calls prog 145 #[.agg #[.string f,.string d]] w fun e w'=>e=.returned (.int .i64 2)∧Below w.heap.size w w':=by
 have H:=b9W (At1.new w 63 #[.string f,.string d] hr);have HF:=b9W (fun w=>a1o f w h1);have HD:=b9W (fun w=>a1o d w h2);rw[hf.err]at HF;rw[hd.err]at HD;have HA1:=b9W (fun w=>a3C w IsT.one hf);rw[b1]at HA1;have HA2:=b9W (fun w=>a3C w IsT.zero hd);rw[b2]at HA2;have HA3:=b9W (fun w=>a3C w hd IsT.one);rw[b3]at HA3;have TK1:True:=trivial;have TK2:True:=trivial;have TK3:True:=trivial;clear h1 h2 hr hf hd b1 b2 b3
 go_enter func145,ntmps145
 go_wp2_with (first
  | (clear TK1;go_at_call 219;refine(HF.out _).mono ?_;rintro e w1 ⟨rfl,hb⟩;have H1:=b9W (H.out.later hb);obtain⟨p0,p1⟩:=a06 H1.out.a;clear hb)
  | (go_at_call 219;refine(HD.out _).mono ?_;rintro e w2 ⟨rfl,hb⟩;have H2:=b9W (H1.out.later hb);obtain⟨q0,q1⟩:=a06 H2.out.a;clear hb)
  | (clear TK2;go_at_call 146;refine(HA1.out _).mono ?_;rintro e w3 ⟨rfl,hb⟩;have H3:=b9W (H2.out.later hb);obtain⟨r0,r1⟩:=a06 H3.out.a;clear hb)
  | (clear TK3;go_at_call 146;refine(HA2.out _).mono ?_;rintro e w4 ⟨rfl,hb⟩;have H4:=b9W (H3.out.later hb);obtain⟨s0,s1⟩:=a06 H4.out.a;clear hb)
  | (go_at_call 146;refine(HA3.out _).mono ?_;rintro e w5 ⟨rfl,hb⟩;have H5:=b9W (H4.out.later hb);clear hb))
 go_ret
 exact⟨rfl,H5.out.below⟩
theorem b5m(f d:ByteArray)(w:World)(h1:f.size≤270000)(h2:d.size≤270000)(hr:Res w)(F D:Rat)(hf:IsT f F)(hd:IsT d D)(b1:decide (cmpQ 1 F≤0)=true)(b2:decide (cmpQ 0 D≤0)=true)(b3:decide (cmpQ D 1≤0)=true) :
  Calls prog 145 #[.agg #[.string f,.string d]] w fun e w'=>e=.returned (.int .i64 0)∧Below w.heap.size w w':=by
 have H:=b9W (At1.new w 63 #[.string f,.string d] hr);have HF:=b9W (fun w=>a1o f w h1);have HD:=b9W (fun w=>a1o d w h2);rw[hf.err]at HF;rw[hd.err]at HD;have HA1:=b9W (fun w=>a3C w IsT.one hf);rw[b1]at HA1;have HA2:=b9W (fun w=>a3C w IsT.zero hd);rw[b2]at HA2;have HA3:=b9W (fun w=>a3C w hd IsT.one);rw[b3]at HA3;have TK1:True:=trivial;have TK2:True:=trivial;have TK3:True:=trivial;clear h1 h2 hr hf hd b1 b2 b3
 go_enter func145,ntmps145
 go_wp2_with (first
  | (clear TK1;go_at_call 219;refine(HF.out _).mono ?_;rintro e w1 ⟨rfl,hb⟩;have H1:=b9W (H.out.later hb);obtain⟨p0,p1⟩:=a06 H1.out.a;clear hb)
  | (go_at_call 219;refine(HD.out _).mono ?_;rintro e w2 ⟨rfl,hb⟩;have H2:=b9W (H1.out.later hb);obtain⟨q0,q1⟩:=a06 H2.out.a;clear hb)
  | (clear TK2;go_at_call 146;refine(HA1.out _).mono ?_;rintro e w3 ⟨rfl,hb⟩;have H3:=b9W (H2.out.later hb);obtain⟨r0,r1⟩:=a06 H3.out.a;clear hb)
  | (clear TK3;go_at_call 146;refine(HA2.out _).mono ?_;rintro e w4 ⟨rfl,hb⟩;have H4:=b9W (H3.out.later hb);obtain⟨s0,s1⟩:=a06 H4.out.a;clear hb)
  | (go_at_call 146;refine(HA3.out _).mono ?_;rintro e w5 ⟨rfl,hb⟩;have H5:=b9W (H4.out.later hb);clear hb))
 go_ret
 exact⟨rfl,H5.out.below⟩
theorem a5U(p q:Rat):decide (cmpQ p q≤0)=!decide (cmpQ q p < 0):=by
 have:=b0O p q
 by_cases h:cmpQ q p < 0
 ·rw[decide_eq_true h,decide_eq_false (by omega)];rfl
 ·rw[decide_eq_false h,decide_eq_true (by omega)];rfl
theorem le_gt(p q:Rat):decide (cmpQ p q≤0)=!decide (cmpQ p q > 0):=by
 by_cases h:cmpQ p q > 0
 ·rw[decide_eq_true h,decide_eq_false (by omega)];rfl
 ·rw[decide_eq_false h,decide_eq_true (by omega)];rfl
theorem b2U(f d:ByteArray)(w:World)(h1:f.size≤270000)(h2:d.size≤270000)(hr:Res w) :
  Calls prog 145 #[.agg #[.string f,.string d]] w fun e w'=>e=.returned (.int .i64 (errL f d:Int))∧Below w.heap.size w w':=by
 unfold errL
 by_cases e1:errQ f.data.toList=0
 ·rw[if_neg (by omega)]
  by_cases e2:errQ d.data.toList=0
  ·rw[if_neg (by omega)]
   have hf:=IsT.of e1;have hd:=IsT.of e2
   by_cases c1:cmpQ (valQ f.data.toList) 1 < 0
   ·rw[if_pos (.inl c1)]
    exact b7e f d w h1 h2 hr _ _ hf hd (by rw[a5U,decide_eq_true c1];rfl)
   by_cases c2:cmpQ (valQ d.data.toList) 0 < 0
   ·rw[if_pos (.inr (.inl c2))]
    exact b7P f d w h1 h2 hr _ _ hf hd (by rw[a5U,decide_eq_false c1];rfl) (by rw[a5U,decide_eq_true c2];rfl)
   by_cases c3:cmpQ (valQ d.data.toList) 1 > 0
   ·rw[if_pos (.inr (.inr c3))]
    exact b69 f d w h1 h2 hr _ _ hf hd (by rw[a5U,decide_eq_false c1];rfl) (by rw[a5U,decide_eq_false c2];rfl) (by rw[le_gt,decide_eq_true c3];rfl)
   rw[if_neg (by omega)];exact b5m f d w h1 h2 hr _ _ hf hd (by rw[a5U,decide_eq_false c1];rfl) (by rw[a5U,decide_eq_false c2];rfl) (by rw[le_gt,decide_eq_false c3];rfl)
  ·rw[if_pos e2];exact b78 f d w h1 h2 hr e1 e2
 ·rw[if_pos e1];exact b7U f d w h1 h2 hr e1
def litB(m:Bool)(ln ld l:List UInt8)(q:Rat):Bool :=
 a1b ln&&a1b ld&&decide (dv ld≠0)&&decide ((dv ln).gcd (dv ld)=1)&&(!m || decide (dv ln≠0))&&decide (ln.length≤100)&&decide (ld.length≤100) &&
  decide (mkQ m (dv ln) (dv ld)=q)&&decide ((if m then [45] else [])++ln++(if dv ld=1 then [] else 47::ld)=l)
theorem a8P(m:Bool)(ln ld:List UInt8){l:List UInt8}{q:Rat}(h:litB m ln ld l q=true):IsT ⟨l.toArray⟩ q∧Sz 100 q:=by
 unfold litB at h
 simp only[Bool.and_eq_true,decide_eq_true_eq,Bool.or_eq_true,Bool.not_eq_true']at h
 obtain⟨⟨⟨⟨⟨⟨⟨⟨h1,h2⟩,h3⟩,h4⟩,h5⟩,h6⟩,h7⟩,h8⟩,h9⟩:=h;have e1:=a1b.eq h1;have e2:=a1b.eq h2;have hm:m=true→dv ln≠0:=fun hm=>by
  rcases h5 with h5|h5
  ·rw[hm]at h5;cases h5
  ·exact h5
 obtain⟨p1,p2,p3⟩:=a7c (m:=m) h3 h4;have hs:Sz 100 q:=by
  rw[← h8,a5M (by decide),p1,p2,← Lib.decDigits_length,← Lib.decDigits_length,e1,e2];exact⟨h6,h7⟩
 refine⟨⟨?_,hs.mono (by decide)⟩,hs⟩;rw[← h8,b8M h3 h4 hm,e1,e2,h9]
theorem t_3_2:IsT ⟨#[51,47,50]⟩ (3/2):=(a8P false [51] [50] (by decide +kernel)).1
end Go.Proofs.YtigapglmipmbeaaGreatDoor
namespace Go.Proofs.YtigapglmipmbeaaGreatDoor
open Go.RowKit Go.Shelf
open Lim
attribute [local go_sem] Oper.semAt_some a8H
end Go.Proofs.YtigapglmipmbeaaGreatDoor
namespace Go.Proofs.YtigapglmipmbeaaGreatDoor
open Lim
end Go.Proofs.YtigapglmipmbeaaGreatDoor
namespace Go.Proofs.YtigapglmipmbeaaGreatDoor
open Go.RowKit Go.Shelf
open Lim
attribute [local go_sem] Oper.semAt_some
theorem b1q(ls:List L2)(v:Value)(b:ByteArray)(w:World)(hv:LRow w v ls)(hs:a1h ls)(hb:b.size≤270000)(hr:Res w) :
  Calls prog 115 #[v,.string b] w fun e w'=>ResM w.heap.size (a1D ls b) e w'∧Below w.heap.size w w':=by
 have HV:=b9W hv;have HS:=b9W hs;have HRS:=b9W hr;have N0:=b9W (NW.refl hr);have HBS:=b9W hb;obtain⟨A0,c0,rfl,HLEN,_⟩:=hv;obtain⟨i0,hi,hz0,hz1,hz2⟩:=info_parts b8v;clear hs hr hb;generalize hm:a1D ls b=mk;have HMK:=b9W hm;clear hm
 go_enter func115,ntmps115
 go_wp2
 go_loopw [6,7] (fun v6 v7 wr=>∃ (done:List L2) (A1:Option Addr) (c1:Nat),done.length≤ls.length∧v6=.slice A1 done.length c1∧v7=.int .i64 (done.length:Int)∧Hid (mk=a41 done (a1D (ls.drop done.length) b))∧Hid (OwnM w.heap.size wr (.slice A1 done.length c1) done)∧Hid (NW w wr)) (fun _ v7 _=>ls.length - (intOf v7).toNat)
 case atStart=>exact⟨[],none,0,Nat.zero_le _,rfl,rfl,b9W (by rw[a9t];exact HMK.out.symm),b9W (OwnM.nil _ _),N0⟩
 case round =>
  clear N0;obtain⟨done,A1,c1,hk,rfl,rfl,HE,HO,HN⟩:=hrel
  by_cases hlt:done.length < ls.length
  ·obtain⟨x,hx⟩:∃ x,ls[done.length]?=some x:=⟨_,List.getElem?_eq_getElem hlt⟩
   obtain⟨b2,o,c',e',hb2,q0,q1⟩:=HV.out.at HN.out.below hx
   simp only[Value.slice.injEq,true_and]at e'
   obtain⟨rfl,rfl⟩:=e';have hlt':(done.length:Int) < (ls.length:Int):=by omega
   have HD:=a2U hx;have HSX:=b9W (HS.out x (List.mem_of_getElem? hx));have HLT:=b9W (And.intro hlt hlt');have HXC:=b9W hx;rw[HD]at HE;have HMU:=b9W (b0b HSX.out.2 HBS.out);obtain⟨f,d⟩:=x
   dsimp only at q0 q1 HMU
   clear hx hlt HD
   cases hmu:mulX d b with
   | error n =>
    rw[hmu]at HMU;change Hid (Ret _ _ (.tuple #[.string ⟨#[]⟩,.int .i64 (n:Int)])) at HMU;have hz:=a1E (a18 hmu);have hz9:=a2P (a18 hmu);have HR:=b9W (show mk=.error n by rw[HE.out,b4o (x:=(f,d)) hmu];rfl);clear hmu
    go_wp2_with (go_at_call 149;refine(HMU.out _ HN.out.res).mono ?_;rintro e w3 ⟨rfl,hb⟩;have H3:=b9W (HN.out.later hb);clear hb)
    go_ret2
    rw[HR.out];exact⟨rfl,H3.out.below⟩
   | ok p =>
    rw[hmu]at HMU;change Hid (Ret _ _ (.tuple #[.string p,.int .i64 0])) at HMU;have HR:=b9W (show mk=a41 (done++[(f,p)]) (a1D (ls.drop (done.length+1)) b) by rw[HE.out,b6A (x:=(f,d)) hmu]);have TK0:True:=trivial;clear hmu
    go_wp2_with (first
     | (clear TK0;go_at_call 149;refine(HMU.out _ HN.out.res).mono ?_;rintro e w3 ⟨rfl,hb⟩;have H3:=b9W (HN.out.later hb);have HO3:=b9W (OwnM.later HO.out hb);obtain⟨hb4,q2,q3⟩:=HV.out.cell2 H3.out.below HXC.out;dsimp only at q2 q3;have HA3:=b9W (OwnM.later HO3.out (a0d (Below.refl _ _) (.cells #[.string f,.string p] 30)));have HN3:=b9W (H3.out.alloc (.cells #[.string f,.string p] 30));clear hb)
     | (at_builtin;refine wpList_append_own _ rfl _ _ 22 rfl w.heap.size 30 i0 (.agg #[.string ByteArray.empty,.string ByteArray.empty]) 2 32 underlying22 hi hz0 hz1 hz2 rfl (by decide) _ _ _ rfl HA3.out ⟨w3.heap.size,0,none⟩ 1 1 [.string f,.string p] rfl rfl (b1A _ _ _ _) (a3f (f,p)) (by have:=HLT.out.1;unfold maxLen;omega) (by have:=HLT.out.1;omega) HN3.out.below.size ?_;intro v' w7 hown7 hgrow7 _;obtain⟨A5,c5,rfl⟩:=a1H hown7;have HO7:=b9W (show OwnM w.heap.size w7 (.slice A5 (done.length+1) c5) (done++[(f,p)]) by unfold OwnM;rw[List.length_append,a2K];exact hown7);have HN7:=b9W (a7V HN3.out HRS.out hgrow7 (fun r e=>HA3.out.base e));clear hown7 hgrow7))
    go_roundw
    case rel =>
     have e1:(done++[(f,p)]).length=done.length+1:=by simp
     exact⟨done++[(f,p)],A5,c5,by rw[e1];exact HLT.out.1,by rw[e1],by rw[e1];go_num,b9W (by rw[e1];exact HR.out),b9W (by rw[e1];exact HO7.out),HN7⟩
    case measure=>have:=HLT.out.1;simp[intOf];omega
  ·have hlt':¬ (done.length:Int) < (ls.length:Int):=by omega
   have hd:ls.drop done.length=[]:=List.drop_of_length_le (by omega);have HR:=b9W (show mk=.ok done by rw[HE.out,hd];show Except.ok (done++[])=_;rw[List.append_nil]);clear hlt hd;go_wp2
   go_ret2
   rw[HR.out];exact⟨⟨_,rfl,HO.out⟩,HN.out.below⟩
end Go.Proofs.YtigapglmipmbeaaGreatDoor
