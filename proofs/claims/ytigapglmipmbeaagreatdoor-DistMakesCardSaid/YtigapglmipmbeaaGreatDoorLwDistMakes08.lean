/- dist: the pairs of outcomes, and their iterator (printed by mkdprod.py). Curves of moments in memory, and the iterator over the orders of a curve. Curves of moments in plain rationals: what Check, Of, Add, Fits, To and Best compute. moment.least, between and the chain's steps, where nothing fails. moment.Check. moment.Check: the walk. dist.Product (printed by mkdprod.py). Products: keys, moments; no program in sight (printed by mkdlaw5.py). The statements' Pick. kit.Has on the bytes of a string; what Product gives (printed by mkdlaw5.py). The reference 08: Product (printed by mkdref6.py). -/
import Derived.Test.YtigapglmipmbeaaGreatDoorLwDistMakes03
import Derived.Test.YtigapglmipmbeaaGreatDoorLwDistMakes07
import Derived.Test.YtigapglmipmbeaaGreatDoorRb03
import Derived.Test.YtigapglmipmbeaaGreatDoorRb10
import Derived.Test.YtigapglmipmbeaaGreatDoorLwDistMakes06
import Derived.Test.YtigapglmipmbeaaGreatDoorRb08
import Derived.ArgAppend
import Derived.Deep.AppendLies
import Derived.Test.YtigapglmipmbeaaGreatDoorLwDistMakes02
import Derived.Maps.OwnIn
import Derived.Test.YtigapglmipmbeaaGreatDoorLwDistMakes01
import Derived.Test.YtigapglmipmbeaaGreatDoorRb01
import Derived.Lib.ConvBytes
set_option maxRecDepth 100000
set_option maxHeartbeats 16000000
namespace Go.Proofs.YtigapglmipmbeaaGreatDoor
open Go.RowKit Go.Shelf
open Lim
attribute [local go_sem] Oper.semAt_some
def txtX:XE→ByteArray
 | .ok s=>s
 | .error _=>⟨#[]⟩
def errX:XE→Nat
 | .ok _=>0
 | .error n=>n
theorem resX_te (r:XE):resX r=.tuple #[.string (txtX r),.int .i64 (errX r:Int)]:=by cases r<;>rfl
def seqX:List (ByteArray × XE)→Except Nat (List L2)
 | []=>.ok []
 | x::l=>match x.2 with
  | .error n=>.error n
  | .ok p=>match seqX l with
   | .error n=>.error n
   | .ok m=>.ok ((x.1,p)::m)
theorem seqX_append:∀ (l r:List (ByteArray × XE)),seqX (l++r)=(match seqX l with|.error n=>.error n|.ok m=>match seqX r with|.error n=>.error n|.ok s=>.ok (m++s))
 | [],r=>by
  show seqX r=(match seqX r with|.error n=>.error n|.ok s=>.ok ([]++s))
  cases seqX r<;>rfl
 | x::l,r=>by
  have h:=seqX_append l r
  simp only [List.cons_append,seqX,h]
  cases x.2 with
  | error n=>rfl
  | ok p =>
   cases seqX l with
   | error n=>rfl
   | ok m=>cases seqX r<;>rfl
theorem seqX_ok:∀ {l:List (ByteArray × XE)},(∀ x∈l,errX x.2=0∧∃ s,x.2=.ok s)→seqX l=.ok (l.map fun x=>(x.1,txtX x.2))
 | [],_=>rfl
 | x::l,h=>by
  obtain ⟨_,s,hs⟩:=h x (by simp)
  have h2:=seqX_ok (l:=l) fun y hy=>h y (by simp [hy])
  simp only [seqX,hs,h2,List.map_cons,txtX]
theorem seqX_err:∀ {l:List (ByteArray × XE)} {t n:Nat} {x:ByteArray × XE},l[t]?=some x→(∀ (j:Nat) y,j < t→l[j]?=some y→∃ s,y.2=.ok s)→x.2=.error n→seqX l=.error n
 | [],t,n,x,h,_,_=>by simp at h
 | a::l,0,n,x,h,_,hx=>by
  simp only [List.getElem?_cons_zero,Option.some.injEq] at h
  subst h
  simp only [seqX,hx]
 | a::l,t+1,n,x,h,h0,hx=>by
  obtain ⟨s,hs⟩:=h0 0 a (by omega) rfl
  have h2:=seqX_err (l:=l) (t:=t) (by simpa using h) (fun j y hj hy=>h0 (j+1) y (by omega) (by simpa using hy)) hx
  simp only [seqX,hs,h2]
theorem scale_seq (k:ByteArray) (c:ByteArray):∀ b:List L2,(match scaleX b c with|.error n=>.error n|.ok m=>.ok (m.map fun y=>(joinT k y.1,y.2)))=seqX (b.map fun y=>(joinT k y.1,mulX y.2 c))
 | []=>rfl
 | y::b=>by
  have h:=scale_seq k c b
  simp only [List.map_cons,seqX,scaleX,← h]
  cases mulX y.2 c with
  | error n=>rfl
  | ok p=>cases scaleX b c<;>rfl
def pairsY (a b:List L2):List (ByteArray × XE):=a.flatMap fun x=>b.map fun y=>(joinT x.1 y.1,mulX y.2 x.2)
theorem pairX_seq (b:List L2):∀ a:List L2,pairX a b=seqX (pairsY a b)
 | []=>rfl
 | x::a=>by
  have h:=pairX_seq b a
  have h2:=scale_seq x.1 x.2 b
  show pairX (x::a) b=seqX ((b.map fun y=>(joinT x.1 y.1,mulX y.2 x.2))++pairsY a b)
  rw [seqX_append,← h2,← h]
  simp only [pairX]
  cases scaleX b x.2 with
  | error n=>rfl
  | ok m=>cases pairX a b<;>rfl
def aOf (a:List L2) (i:Nat):L2:=(a[i]?).getD (⟨#[]⟩,⟨#[]⟩)
theorem aOf_eq {a:List L2} {i:Nat} {x:L2} (h:a[i]?=some x):aOf a i=x:=by unfold aOf;rw [h];rfl
def pairT (a b:List L2) (t:Nat):ByteArray × XE:=(joinT (aOf a (t / b.length)).1 (aOf b (t % b.length)).1,mulX (aOf b (t % b.length)).2 (aOf a (t / b.length)).2)
theorem pairsY_length (b:List L2):∀ a:List L2,(pairsY a b).length=a.length*b.length
 | []=>by simp [pairsY]
 | x::a=>by
  have h:=pairsY_length b a
  show ((b.map _)++pairsY a b).length=_
  rw [List.length_append,List.length_map,h,List.length_cons,Nat.succ_mul,Nat.add_comm]
theorem pairsY_at {b:List L2}:∀ {a:List L2} {t:Nat},t < a.length*b.length→(pairsY a b)[t]?=some (pairT a b t)
 | [],t,h=>by simp at h
 | x::a,t,h=>by
  have hb:0 < b.length:=by
   rcases Nat.eq_zero_or_pos b.length with h0|h0
   ·rw [h0,Nat.mul_zero] at h;omega
   ·exact h0
  show ((b.map fun y=>(joinT x.1 y.1,mulX y.2 x.2))++pairsY a b)[t]?=_
  rcases Nat.lt_or_ge t b.length with h1|h1
  ·rw [List.getElem?_append_left (by rw [List.length_map];exact h1),List.getElem?_map,List.getElem?_eq_getElem h1]
   unfold pairT
   rw [Nat.div_eq_of_lt h1,Nat.mod_eq_of_lt h1,aOf_eq (x:=x) rfl,aOf_eq (List.getElem?_eq_getElem h1)]
   rfl
  ·rw [List.getElem?_append_right (by rw [List.length_map];exact h1),List.length_map]
   have h2:t - b.length < a.length*b.length:=by
    rw [List.length_cons,Nat.succ_mul] at h;omega
   rw [pairsY_at h2]
   unfold pairT
   have e1:t / b.length=(t - b.length) / b.length+1:=by
    rw [← Nat.sub_add_cancel h1,Nat.add_div_right _ hb,Nat.sub_add_cancel h1]
   have e2:t % b.length=(t - b.length) % b.length:=(Nat.mod_eq_sub_mod h1)
   rw [e1,← e2]
   rfl
theorem div_row {i j m:Nat} (h:j < m):(i*m+j) / m=i∧(i*m+j) % m=j:=by
 have hm:0 < m:=by omega
 constructor
 ·rw [Nat.mul_comm,Nat.mul_add_div hm,Nat.div_eq_of_lt h,Nat.add_zero]
 ·rw [Nat.mul_comm,Nat.mul_add_mod,Nat.mod_eq_of_lt h]
abbrev PZ:=Nat × Nat
def encP (a b:List L2) (z:PZ):Array Value:=#[.agg #[.string (pairT a b z.1).1,.string (txtX (pairT a b z.1).2)],.int .i64 (errX (pairT a b z.1).2:Int)]
def NotRow (bA g:Nat) (W:World):Prop:=∀ v,W.cell? ⟨bA,0,none⟩=some v→v.ownBlock≠some g
structure BoxX (a b:List L2) (bA:Nat) (z:PZ) (W:World):Prop where
 blk:Blk W z.2 30 #[.string (aOf a (z.1 / b.length)).1,.string (aOf a (z.1 / b.length)).2]
 nr:NotRow bA z.2 W
structure GP (a b:List L2) (va vb:Value) (ga gb bA:Nat) (pre:List PZ) (W:World):Prop where
 ba:Blk W ga 31 #[va]
 bb:Blk W gb 31 #[vb]
 ra:LRow W va a
 rb:LRow W vb b
 res:Res W
 box:∃ v,Blk W bA 22 #[v]∧∀ r,v.ownBlock=some r→r < W.heap.size
 last:∀ z,pre.getLast?=some z→BoxX a b bA z W
def NextP (a b:List L2) (bA:Nat) (pre:List PZ) (z:PZ) (W:World):Prop:=pre.map (·.1)=List.range z.1∧z.1 < a.length*b.length∧BoxX a b bA z W
theorem NotRow.later {bA g:Nat} {W W':World} (h:NotRow bA g W) (hb:Below W.heap.size W W') (hlt:bA < W.heap.size):NotRow bA g W':=fun v hv=>h v (by rw [← hb.cell (p:=⟨bA,0,none⟩) hlt];exact hv)
theorem pairs_seq (a b:List L2) (va vb:Value) (ga gb bA:Nat) (hsa:Short a) (hsb:Short b) :
  RP.SeqOrd Fence.wide 5 Tryz.prog 195 #[.pointer (some ⟨ga,0,none⟩),.pointer (some ⟨gb,0,none⟩)] (encP a b) (NextP a b bA) (fun xs=>xs.map (·.1)=List.range (a.length*b.length)) (GP a b va vb ga gb bA):=by
 intro l J Jx W hG hA _ hY h0
 have g0:=hG _ _ h0
 obtain ⟨Aa,ca,rfl,hla,_⟩:=id g0.ra
 obtain ⟨Ab,cb,rfl,hlb,_⟩:=id g0.rb
 refine callsIn_of_wp Tryz.func195 rfl trivial ?_ rfl
 simp only [Tryz.ntmps195,List.size_toArray,List.length_cons,List.length_nil,Nat.reduceAdd,Nat.reduceSub,Array.replicate_succ,Array.replicate_zero,List.push_toArray,List.append_toArray,List.nil_append,List.cons_append]
 have b0:=cell0 g0.ba
 have HG:=Lib.hid hG
 have HY:=Lib.hid hY
 have HA:=Lib.hid (show ∀ pre W1 W2,J pre W1→Below W1.heap.size W1 W2→J pre W2 from fun pre W1 W2 hj hb=>hA pre W1 W2 none hj (grown_none' hb none) (fun r e=>by cases e))
 have HSA:=Lib.hid hsa
 have HSB:=Lib.hid hsb
 clear hG hY hA g0 hsa hsb
 gi_wp2
 gi_loopw [12] (fun v12 wr=>∃ (i:Nat) (pre:List PZ),i≤a.length∧v12=.int .i64 (i:Int)∧Hid (pre.map (·.1)=List.range (i*b.length))∧Hid (J pre wr)) (fun v12 _=>a.length - (intOf v12).toNat)
 case atStart=>exact ⟨0,[],Nat.zero_le _,rfl,Lib.hid (by rw [Nat.zero_mul];rfl),Lib.hid h0⟩
 case round =>
  clear b0 h0
  obtain ⟨i,pre,hi,rfl,HP,HJ⟩:=hrel
  obtain ⟨wo,rfl⟩:∃ wo,wo=wr:=⟨_,rfl⟩
  by_cases hlt:i < a.length
  ·obtain ⟨x,hx⟩:∃ x,a[i]?=some x:=⟨_,List.getElem?_eq_getElem hlt⟩
   have hlt':(i:Int) < (a.length:Int):=by omega
   have G0:=HG.out _ _ HJ.out
   obtain ⟨b1,o1,c1,e1,hb1,q0,q1⟩:=G0.ra.at (Below.refl _ _) hx
   simp only [Value.slice.injEq,true_and] at e1
   obtain ⟨rfl,rfl⟩:=e1
   have HXI:=Lib.hid hx
   have HSX:=Lib.hid (HSA.out x (List.mem_of_getElem? hx))
   have HLT:=Lib.hid (And.intro hlt hlt')
   obtain ⟨f,d⟩:=x
   dsimp only at q0 q1 HSX
   have BX:=Lib.hid (Blk.new wo 30 #[.string f,.string d])
   have HJ1:=Lib.hid (HA.out _ _ _ HJ.out (below_alloc (Below.refl wo.heap.size wo) (.cells #[.string f,.string d] 30)))
   have NR:=Lib.hid (show NotRow bA wo.heap.size (wo.alloc (.cells #[.string f,.string d] 30)) by
    obtain ⟨v,hv,hr⟩:=G0.box
    refine NotRow.later (W:=wo) (fun u hu e=>?_) (below_alloc (Below.refl _ _) _) hv.lt
    rw [cell0 hv] at hu
    cases hu
    have:=hr _ e
    omega)
   have bb1:=cell0 (G0.bb.alloc (.cells #[.string f,.string d] 30))
   have ROW:=Lib.hid (show List.range ((i+1)*b.length)=List.range (i*b.length+b.length) by rw [Nat.succ_mul])
   clear hx hlt G0
   gi_wp2
   gi_loopw [18] (fun v18 wq=>∃ (j:Nat) (pre:List PZ),j≤b.length∧v18=.int .i64 (j:Int)∧Hid (pre.map (·.1)=List.range (i*b.length+j))∧Hid (J pre wq)∧Hid (Blk wq wo.heap.size 30 #[.string f,.string d])∧Hid (NotRow bA wo.heap.size wq)) (fun v18 _=>b.length - (intOf v18).toNat)
   case atStart=>exact ⟨0,pre,Nat.zero_le _,rfl,HP,HJ1,BX,NR⟩
   case round =>
    clear q0 q1 hb1 bb1 BX NR HJ1 HJ HP
    obtain ⟨j,pre,hj,rfl,HP,HJ,BX,NR⟩:=hrel
    by_cases hj2:j < b.length
    ·obtain ⟨y,hy⟩:∃ y,b[j]?=some y:=⟨_,List.getElem?_eq_getElem hj2⟩
     have hj3:(j:Int) < (b.length:Int):=by omega
     have G0:=HG.out _ _ HJ.out
     obtain ⟨b2,o2,c2,e2,hb2,p0,p1⟩:=G0.rb.at (Below.refl _ _) hy
     simp only [Value.slice.injEq,true_and] at e2
     obtain ⟨rfl,rfl⟩:=e2
     have HYI:=Lib.hid hy
     have HSY:=Lib.hid (HSB.out y (List.mem_of_getElem? hy))
     have HJL:=Lib.hid (And.intro hj2 hj3)
     obtain ⟨f2,d2⟩:=y
     dsimp only at p0 p1 HSY
     have hal:=below_alloc (Below.refl wr.heap.size wr) (.cells #[.string f2,.string d2] 30)
     obtain ⟨bx0,bx1⟩:=cells2 (BX.out.alloc (.cells #[.string f2,.string d2] 30))
     have bxl:=(BX.out.alloc (.cells #[.string f2,.string d2] 30)).lt
     have HJ1:=Lib.hid (HA.out _ _ _ HJ.out hal)
     have BX1:=Lib.hid (BX.out.alloc (.cells #[.string f2,.string d2] 30))
     have BY1:=Lib.hid (Blk.new wr 30 #[.string f2,.string d2])
     have NR1:=Lib.hid (NR.out.later hal (by obtain ⟨v,hv,_⟩:=G0.box;exact hv.lt))
     have HBA:=Lib.hid (show bA < (wr.alloc (.cells #[.string f2,.string d2] 30)).heap.size by obtain ⟨v,hv,_⟩:=G0.box;exact (hv.alloc _).lt)
     have HR1:=Lib.hid (G0.res.below hal)
     have HMU:=Lib.hid (retMulX HSY.out.2 HSX.out.2)
     rw [resX_te] at HMU
     obtain ⟨ed,em⟩:=div_row (i:=i) hj2
     have EP:=Lib.hid (show encP a b (i*b.length+j,wo.heap.size)=#[.agg #[.string (joinT f f2),.string (txtX (mulX d2 d))],.int .i64 (errX (mulX d2 d):Int)] by
      unfold encP pairT
      dsimp only
      rw [ed,em,aOf_eq HXI.out,aOf_eq HYI.out])
     have NX:=Lib.hid (show ∀ W:World,Blk W wo.heap.size 30 #[.string f,.string d]→NotRow bA wo.heap.size W→NextP a b bA pre (i*b.length+j,wo.heap.size) W from fun W h1 h2=>by
      refine ⟨HP.out,?_,?_,h2⟩
      ·show i*b.length+j < a.length*b.length
       have h3:=Nat.mul_le_mul_right b.length (show i+1≤a.length from HLT.out.1)
       rw [Nat.succ_mul] at h3
       have:=HJL.out.1
       omega
      ·show Blk W wo.heap.size _ #[.string (aOf a ((i*b.length+j) / b.length)).1,.string (aOf a ((i*b.length+j) / b.length)).2]
       rw [ed,aOf_eq HXI.out]
       exact h1)
     have LB:=Lib.hid (show ∀ W,J (pre++[(i*b.length+j,wo.heap.size)]) W→Blk W wo.heap.size 30 #[.string f,.string d]∧NotRow bA wo.heap.size W from fun W hj=>by
      have h2:=(HG.out _ _ hj).last (i*b.length+j,wo.heap.size) (by simp)
      have h3:=h2.blk
      dsimp only at h3
      rw [ed,aOf_eq HXI.out] at h3
      exact ⟨h3,h2.nr⟩)
     have HP1:=Lib.hid (show (pre++[(i*b.length+j,wo.heap.size)]).map (·.1)=List.range (i*b.length+(j+1)) by rw [List.map_append,HP.out,← Nat.add_assoc,List.range_succ];rfl)
     have EK:(f++⟨#[124]⟩++f2)=joinT f f2:=rfl
     have s1:¬ 9223372036854775807 < f.size+1:=by have:=HSX.out.1;omega
     have s2:¬ 9223372036854775807 < f.size+1+f2.size:=by have:=HSX.out.1;have:=HSY.out.1;omega
     generalize txtX (mulX d2 d)=tp at *
     generalize errX (mulX d2 d)=te at *
     clear ed em hy hj2 G0 hal
     have TK0:True:=trivial
     gi_wp2_with (clear TK0;refine ⟨trivial,?_⟩;gi_at_call 130;refine (callsIn_wide.2 (HMU.out _ HR1.out)).mono ?_;rintro e w3 ⟨rfl,hb⟩;obtain ⟨bx2,bx3⟩:=cells2 (BX1.out.below hb BX1.out.lt);have bxl2:=(BX1.out.below hb BX1.out.lt).lt;obtain ⟨by2,by3⟩:=cells2 (BY1.out.below hb BY1.out.lt);have byl2:=(BY1.out.below hb BY1.out.lt).lt;have HYY:=HY.out pre (i*b.length+j,wo.heap.size) w3 (HA.out _ _ _ HJ1.out hb) (NX.out w3 (BX1.out.below hb BX1.out.lt) (NR1.out.later hb HBA.out));rw [EP.out] at HYY;obtain ⟨fn,tmps,assign,body,hy,hR⟩:=HYY;clear hb)
     refine hR.mono ?_
     rintro e W3 (⟨rfl,hJ3⟩|⟨rfl,hJx3⟩)
     ·have LB3:=Lib.hid (LB.out _ hJ3)
      have HJ3:=Lib.hid hJ3
      clear hJ3
      gi_wp2
      go_roundw
      case rel=>exact ⟨j+1,_,HJL.out.1,by go_num,HP1,HJ3,Lib.hid LB3.out.1,Lib.hid LB3.out.2⟩
      case measure=>have:=HJL.out.1;simp [intOf];omega
     ·gi_wp2
      refine bodyPost_ret (results_none rfl _ _ _) rfl ?_
      exact ⟨⟨_,rfl⟩,.inr ⟨_,_,hJx3⟩⟩
    ·have hj3:¬ (j:Int) < (b.length:Int):=by omega
     obtain rfl:j=b.length:=by omega
     clear hj2
     gi_wp2
     go_roundw
     case rel=>exact ⟨i+1,pre,HLT.out.1,by go_num,Lib.hid (by rw [ROW.out];exact HP.out),HJ⟩
     case measure=>have:=HLT.out.1;simp [intOf];omega
  ·have hlt':¬ (i:Int) < (a.length:Int):=by omega
   obtain rfl:i=a.length:=by omega
   clear hlt
   gi_wp2
   go_end0
   exact ⟨⟨_,rfl⟩,.inl ⟨_,HP.out,HJ.out⟩⟩
theorem pairs_in (va vb:Value) (w:World) (hva:∃ A n c,va=.slice A n c) (hvb:∃ A n c,vb=.slice A n c) :
  CallsIn Fence.wide 5 Tryz.prog 113 #[va,vb] w fun e w'=>e=.returned (.func (.func 195) #[] #[.pointer (some ⟨w.heap.size,0,none⟩),.pointer (some ⟨w.heap.size+1,0,none⟩)]) ∧
   w'=(w.alloc (.cells #[va] 31)).alloc (.cells #[vb] 31):=by
 obtain ⟨A,n,c,rfl⟩:=hva
 obtain ⟨A',n',c',rfl⟩:=hvb
 refine callsIn_of_wp Tryz.func113 rfl trivial ?_ rfl
 simp only [Tryz.ntmps113,List.size_toArray,List.length_cons,List.length_nil,Nat.reduceAdd,Nat.reduceSub,Array.replicate_succ,Array.replicate_zero,List.push_toArray,List.append_toArray,List.nil_append,List.cons_append]
 gi_wp2
 go_ret
 exact ⟨rfl,rfl⟩
theorem eg_pairs:∀ args w,(callFunc 195 args).run Tryz.prog w=.ok (.enter 195 args) w:=enters_of Tryz.func195 (by kernel_rfl) rfl
end Go.Proofs.YtigapglmipmbeaaGreatDoor
namespace Go.Proofs.YtigapglmipmbeaaGreatDoor
open Go.RowKit Go.Shelf
open Lim
abbrev CT:=Nat→ByteArray
def cvA (c:CT):Array Value:=#[.string (c 0),.string (c 1),.string (c 2),.string (c 3),.string (c 4),.string (c 5),.string (c 6),.string (c 7)]
def upd (c:CT) (k:Nat) (x:ByteArray):CT:=fun j=>if j=k then x else c j
theorem cvA_set (c:CT) {k:Nat} (hk:k < 8) (x:ByteArray):(cvA c).setIfInBounds k (.string x)=cvA (upd c k x):=by
 match k,hk with
 | 0,_=>rfl
 | 1,_=>rfl
 | 2,_=>rfl
 | 3,_=>rfl
 | 4,_=>rfl
 | 5,_=>rfl
 | 6,_=>rfl
 | 7,_=>rfl
theorem cvA_get (c:CT) {k:Nat} (hk:k < 8):(cvA c)[k]?=some (.string (c k)):=by
 match k,hk with
 | 0,_=>rfl
 | 1,_=>rfl
 | 2,_=>rfl
 | 3,_=>rfl
 | 4,_=>rfl
 | 5,_=>rfl
 | 6,_=>rfl
 | 7,_=>rfl
theorem cvA_ext {c c':CT} (h:∀ k,k < 8→c k=c' k):cvA c=cvA c':=by
 unfold cvA
 rw [h 0 (by omega),h 1 (by omega),h 2 (by omega),h 3 (by omega),h 4 (by omega),h 5 (by omega),h 6 (by omega),h 7 (by omega)]
def CBlk (W:World) (g:Nat) (c:CT):Prop:=Blk W g 59 (cvA c)
section
variable {W W':World} {g:Nat} {c:CT}
theorem CBlk.lt (h:CBlk W g c):g < W.heap.size:=Blk.lt h
theorem CBlk.cell (h:CBlk W g c) {k:Nat} (hk:k < 8):W.cell? ⟨g,k,none⟩=some (.string (c k)):=by
 rw [Blk.cell h,cvA_get c hk]
theorem CBlk.frozen (h:CBlk W g c) (i:Nat):W.frozen? ⟨g,i,none⟩=false:=Blk.frozen h i
end
end Go.Proofs.YtigapglmipmbeaaGreatDoor
namespace Go.Proofs.YtigapglmipmbeaaGreatDoor
open Go.RowKit Go.Shelf
open Lim
attribute [local go_sem] Oper.semAt_some
def olds7 (c:CT):List Value:=[.string (c 0),.string (c 1),.string (c 2),.string (c 3),.string (c 4),.string (c 5),.string (c 6)]
theorem cells_olds {W:World} {g:Nat} {c:CT} (h:CBlk W g c):∀ j u,(olds7 c)[j]?=some u→W.cell? ((⟨g,0,none⟩:Addr).add j)=some u:=by
 intro j u hj
 have hlt:j < 7:=(List.getElem?_eq_some_iff.1 hj).1
 have e:(⟨g,0,none⟩:Addr).add j=⟨g,j,none⟩:=by unfold Addr.add;split<;>simp_all
 rw [e,h.cell (by omega)]
 match j,hlt,hj with
 | 0,_,hj=>exact hj
 | 1,_,hj=>exact hj
 | 2,_,hj=>exact hj
 | 3,_,hj=>exact hj
 | 4,_,hj=>exact hj
 | 5,_,hj=>exact hj
 | 6,_,hj=>exact hj
def RowT (W:World) (g:Nat) (c:CT):Prop:=∀ k,k < 8→W.cell? ⟨g,k,none⟩=some (.string (c k))
theorem rowT_of {W:World} {base e g cap:Nat} {c:CT} (h:W.ownsRow base e 1 (.slice (some ⟨g,0,none⟩) (7+1) cap) (7+1) (olds7 c++[.string (c 7)])):RowT W g c:=by
 intro k hk
 have h2:=h.cells (g:=g) rfl k (.string (c k)) (by
  match k,hk with
  | 0,_=>rfl
  | 1,_=>rfl
  | 2,_=>rfl
  | 3,_=>rfl
  | 4,_=>rfl
  | 5,_=>rfl
  | 6,_=>rfl
  | 7,_=>rfl)
 rwa [show (⟨g,0,none⟩:Addr).add k=⟨g,k,none⟩ by unfold Addr.add;split<;>simp_all] at h2
theorem eight (c:CT) {k:Nat} (hk:k < 8):[c 0,c 1,c 2,c 3,c 4,c 5,c 6,c 7][k]?=some (c k):=by
 match k,hk with
 | 0,_=>rfl
 | 1,_=>rfl
 | 2,_=>rfl
 | 3,_=>rfl
 | 4,_=>rfl
 | 5,_=>rfl
 | 6,_=>rfl
 | 7,_=>rfl
theorem leavesM_nil {F:Fence} {n:Nat} {P:Program} {fn:Func} {tmps:Array Value} {R:Ending→World→Prop} {w:World} (h:∃ v,(results fn tmps).run P w=.ok v w∧R (.returned v) w):bodyPostM F n P fn R .ret { tmps:=tmps,defers:=[] } w:=by
 obtain ⟨v,hr,hR⟩:=h
 exact ⟨v,hr,hR⟩
def listP (a b:List L2) (pre:List PZ):List L2:=pre.map fun z=>((pairT a b z.1).1,txtX (pairT a b z.1).2)
theorem Blk.turn {B g:Nat} {W W':World} {t:TypeId} {cs:Array Value} (h:Blk W g t cs) (ht:Turn B W W'):Blk W' g t cs:=by
 obtain ⟨r,o,o',hr,ho,hc,rfl⟩:=ht
 exact Blk.grown h (grownBy_putObj' W r o') (fun e=>by
  cases e
  rw [show W.heap[g]?=_ from h] at ho
  cases ho
  cases hc)
theorem NotRow.turn {B bA g:Nat} {W W':World} {t:TypeId} {v:Value} (h:NotRow bA g W) (hb:Blk W bA t #[v]) (ht:Turn B W W'):NotRow bA g W':=fun u hu=>by
 have h2:=cell0 (hb.turn ht)
 rw [h2] at hu
 cases hu
 exact h _ (cell0 hb)
theorem BoxX.turn {a b:List L2} {B bA:Nat} {z:PZ} {W W':World} {t:TypeId} {v:Value} (h:BoxX a b bA z W) (hb:Blk W bA t #[v]) (ht:Turn B W W'):BoxX a b bA z W':=⟨h.blk.turn ht,h.nr.turn hb ht⟩
theorem BoxX.later {a b:List L2} {bA:Nat} {z:PZ} {W W':World} (h:BoxX a b bA z W) (hlt:bA < W.heap.size) (hb:Below W.heap.size W W'):BoxX a b bA z W':=⟨h.blk.below hb h.blk.lt,h.nr.later hb hlt⟩
theorem blk_ty {W:World} {g:Nat} {T T':TypeId} {cs cs':Array Value} (h:Blk W g T cs) (h':Blk W g T' cs'):T=T':=by
 have e:some (Obj.cells cs T (0,0))=some (Obj.cells cs' T' (0,0)):=(show W.heap[g]?=_ from h).symm.trans h'
 simp only [Option.some.injEq,Obj.cells.injEq] at e
 exact e.2.1
theorem blk_ne {W:World} {g D:Nat} {T:TypeId} {cs:Array Value} {o:Obj} (h:Blk W g T cs) (hD:W.heap[D]?=some o) (hc:o.isCells=false):g≠D:=fun e=>by
 subst e
 rw [show W.heap[g]?=_ from h] at hD
 cases hD
 cases hc
theorem load_dist {W:World} {g:Nat} {v:Value} {A:Option Addr} {n c:Nat} (hv:v=.slice A n c) (h:Blk W g 31 #[v]):(loadVar 31 ⟨g,0,none⟩).run Tryz.prog W=.ok v W:=by
 subst hv
 have hc:=cell0 h
 simp [go_sem,hc]
structure PAt (w:World) (W:World):Prop where
 r4:Blk W w.heap.size 31 #[.slice none 0 0]
 r5:Blk W (w.heap.size+1) 32 #[.int .i64 0]
 nw:NW w W
theorem PAt.new {w:World} (hr:Res w):PAt w ((w.alloc (.cells #[.slice none 0 0] 31)).alloc (.cells #[.int .i64 0] 32)):=by
 have k1:=Blk.new w 31 #[.slice none 0 0]
 have k2:=Blk.new (w.alloc (.cells #[.slice none 0 0] 31)) 32 #[.int .i64 0]
 rw [World.size_alloc] at k2
 exact ⟨k1.alloc _,k2,((NW.refl hr).alloc _).alloc _⟩
theorem PAt.later {w W W':World} (h:PAt w W) (hb:Below W.heap.size W W'):PAt w W':=⟨h.r4.below hb h.r4.lt,h.r5.below hb h.r5.lt,h.nw.later hb⟩
theorem PAt.turn {w W W':World} {B:Nat} (h:PAt w W) (hB:w.heap.size≤B) (hr:Res w) (ht:Turn B W W'):PAt w W':=by
 refine ⟨h.r4.turn ht,h.r5.turn ht,?_⟩
 obtain ⟨r,o,o',hr',ho,hc,rfl⟩:=ht
 exact grow_nw h.nw hr (grownBy_putObj' W r o') (fun k e=>by cases e;omega)
theorem PAt.set {w W:World} (h:PAt w W) (v:Value) (n:Int):Blk ((W.setCell ⟨w.heap.size,0,none⟩ v).setCell ⟨w.heap.size+1,0,none⟩ (.int .i64 n)) w.heap.size 31 #[v] ∧
  Blk ((W.setCell ⟨w.heap.size,0,none⟩ v).setCell ⟨w.heap.size+1,0,none⟩ (.int .i64 n)) (w.heap.size+1) 32 #[.int .i64 n]∧Below w.heap.size w ((W.setCell ⟨w.heap.size,0,none⟩ v).setCell ⟨w.heap.size+1,0,none⟩ (.int .i64 n)) :=
 ⟨(h.r4.set_ 0 v).far (by simp) _,(h.r5.far (by simp) _).set_ 0 _,(h.nw.below.setCell (p:=⟨w.heap.size,0,none⟩) (Nat.le_refl _) _).setCell (p:=⟨w.heap.size+1,0,none⟩) (Nat.le_succ _) _⟩
theorem slice_fact (A:Option Addr) (n c:Nat):∃ A' n' c',Value.slice A n c=.slice A' n' c':=⟨A,n,c,rfl⟩
theorem own_ne {base n size:Nat} {W:World} {E T:TypeId} {v:Value} {us:List Value} {g r:Nat} {cs:Array Value} (h:W.ownsRow base E size v n us) (hr:v.ownBlock=some r) (hg:Blk W g T cs) (hT:T≠E):g≠r:=fun e=>by
 subst e
 obtain ⟨c1,h1⟩:=own_cells (n:=n) h hr
 rw [show W.heap[g]?=_ from hg] at h1
 simp only [Option.some.injEq,Obj.cells.injEq] at h1
 exact hT h1.2.1
structure IP (w:World) (a b:List L2) (va vb:Value) (bA:Nat) (pre:List PZ) (W:World):Prop where
 ok:∀ z∈pre,∃ s,(pairT a b z.1).2=.ok s
 at_:PAt w W
 ba:Blk W (bA+1) 31 #[va]
 bb:Blk W (bA+1+1) 31 #[vb]
 box:∃ A c,Blk W bA 22 #[.slice A pre.length c]∧W.ownsRow w.heap.size 30 2 (.slice A pre.length c) pre.length (cellsM (listP a b pre))
 last:∀ z,pre.getLast?=some z→BoxX a b bA z W
 lo:w.heap.size+1 < bA
theorem IP.gp {w W:World} {a b:List L2} {va vb:Value} {bA:Nat} {pre:List PZ} (h:IP w a b va vb bA pre W) (ha:LRow w va a) (hb:LRow w vb b):GP a b va vb (bA+1) (bA+1+1) bA pre W:=by
 obtain ⟨A,c,h1,h2⟩:=h.box
 exact ⟨h.ba,h.bb,ha.below h.at_.nw.below,hb.below h.at_.nw.below,h.at_.nw.res,⟨_,h1,fun r e=>(h2.lt r e).2⟩,h.last⟩
theorem IP.later {w W W':World} {a b:List L2} {va vb:Value} {bA:Nat} {pre:List PZ} (h:IP w a b va vb bA pre W) (hb:Below W.heap.size W W'):IP w a b va vb bA pre W':=by
 obtain ⟨A,c,h1,h2⟩:=h.box
 exact ⟨h.ok,h.at_.later hb,h.ba.below hb h.ba.lt,h.bb.below hb h.bb.lt,⟨A,c,h1.below hb h1.lt,owns_later h2 hb⟩,fun z hz=>(h.last z hz).later h1.lt hb,h.lo⟩
theorem NotRow.own {bA g B:Nat} {W W':World} {t:TypeId} {v:Value} {row:Option Nat} (h:NotRow bA g W) (hb:Blk W bA t #[v]) (hg:W.grownBy W' row) (hr:∀ r,row=some r→B≤r∧∃ o:Obj,W.heap[r]?=some o∧o.isCells=false):NotRow bA g W':=fun u hu=>by
 have h2:=cell0 (Blk.own_ hb hg hr)
 rw [h2] at hu
 cases hu
 exact h _ (cell0 hb)
theorem IP.own {w:World} {a b:List L2} {va vb:Value} {bA B:Nat} (hB:w.heap.size≤B) (hr0:Res w):OwnFrom B (IP w a b va vb bA):=by
 rintro pre W W' row h hg hr
 obtain ⟨A,c,h1,h2⟩:=h.box
 refine ⟨h.ok,⟨Blk.own_ h.at_.r4 hg hr,Blk.own_ h.at_.r5 hg hr,grow_nw h.at_.nw hr0 hg (fun r e=>Nat.le_trans hB (hr r e).1)⟩,Blk.own_ h.ba hg hr,Blk.own_ h.bb hg hr,⟨A,c,Blk.own_ h1 hg hr,World.ownsRow.kept h2 hg ?_⟩,fun z hz=>⟨Blk.own_ (h.last z hz).blk hg hr,(h.last z hz).nr.own h1 hg hr⟩,h.lo⟩
 cases hv:(Value.slice A pre.length c).ownBlock with
 | none=>exact .inl rfl
 | some g =>
  refine .inr fun e=>?_
  obtain ⟨_,o,ho,hc⟩:=hr g e.symm
  obtain ⟨cu,hcu⟩:=own_cells (n:=pre.length) h2 hv
  rw [hcu] at ho
  cases ho
  cases hc
theorem IP.step {w Wb W1:World} {a b:List L2} {va vb v':Value} {bA:Nat} {pre:List PZ} {z:PZ} {A:Option Addr} {c:Nat} {s:ByteArray} (h:IP w a b va vb bA pre Wb) (hr:Res w) (hz:(pairT a b z.1).2=.ok s) (hx:BoxX a b bA z Wb)
  (h1:Blk Wb bA 22 #[.slice A pre.length c]) (h2:Wb.ownsRow w.heap.size 30 2 (.slice A pre.length c) pre.length (cellsM (listP a b pre)))
  (hown:W1.ownsRow w.heap.size 30 2 v' (pre.length+1) (cellsM (listP a b pre)++[.string (pairT a b z.1).1,.string s])) (hg:(Wb.alloc (.cells #[.string (pairT a b z.1).1,.string s] 30)).grownBy W1 (Value.slice A pre.length c).ownBlock)
  (hat:v'.ownBlock=(Value.slice A pre.length c).ownBlock∨v'.ownBlock=some (Wb.alloc (.cells #[.string (pairT a b z.1).1,.string s] 30)).heap.size) :
  IP w a b va vb bA (pre++[z]) (W1.setCell ⟨bA,0,none⟩ v'):=by
 have hal:=below_alloc (Below.refl Wb.heap.size Wb) (.cells #[.string (pairT a b z.1).1,.string s] 30)
 have I2:=h.later hal
 have h1a:=h1.below hal h1.lt
 have h2a:=owns_later h2 hal
 have hxa:=hx.later h1.lt hal
 have keep:∀ {g:Nat} {T:TypeId} {cs:Array Value},Blk (Wb.alloc (.cells #[.string (pairT a b z.1).1,.string s] 30)) g T cs→(T≠30∨(Value.slice A pre.length c).ownBlock≠some g)→Blk W1 g T cs:=fun hb ho=>Blk.grown hb hg (fun e=>by
  rcases ho with ho|ho
  ·exact own_ne h2a e.symm hb ho rfl
  ·exact ho e.symm)
 have hnr:(Value.slice A pre.length c).ownBlock≠some z.2:=hx.nr _ (cell0 h1)
 have hbx:=keep hxa.blk (.inr hnr)
 have hzA:z.2≠bA:=fun e=>by
  have h3:=hx.blk
  rw [e] at h3
  exact absurd (blk_ty h3 h1) (by decide)
 have hboxA:=keep h1a (.inl (by decide))
 have hnw:NW w W1:=grow_nw I2.at_.nw hr hg (fun r e=>(h2a.lt r e).1)
 have hv'A:v'.ownBlock=none∨v'.ownBlock≠some bA:=by
  cases hv:v'.ownBlock with
  | none=>exact .inl rfl
  | some r =>
   refine .inr fun e=>?_
   cases e
   exact own_ne hown hv hboxA (by decide) rfl
 have hset:=grownBy_setCell' W1 bA v'
 have hlen:(pre++[z]).length=pre.length+1:=by simp
 have hlist:cellsM (listP a b (pre++[z]))=cellsM (listP a b pre)++[.string (pairT a b z.1).1,.string s]:=by
  unfold listP
  rw [List.map_append,cellsM_append]
  show _++cellsM [((pairT a b z.1).1,txtX (pairT a b z.1).2)]=_
  rw [hz]
  rfl
 obtain ⟨A',c',rfl⟩:=slice_shape hown
 have lo:=h.lo
 refine ⟨fun y hy=>?_,⟨(keep I2.at_.r4 (.inl (by decide))).far (by simp;omega) _,(keep I2.at_.r5 (.inl (by decide))).far (by simp;omega) _,grow_nw hnw hr hset (fun r e=>by cases e;omega)⟩,(keep I2.ba (.inl (by decide))).far (by simp) _,(keep I2.bb (.inl (by decide))).far (by simp;omega) _,⟨A',c',?_,?_⟩,fun y hy=>?_,lo⟩
 ·rcases List.mem_append.1 hy with hy|hy
  ·exact h.ok y hy
  ·rw [List.mem_singleton.1 hy];exact ⟨s,hz⟩
 ·rw [hlen];exact hboxA.set_ 0 _
 ·rw [hlen,hlist]
  exact World.ownsRow.kept hown hset (by
   cases hv:(Value.slice A' (pre.length+1) c').ownBlock with
   | none=>exact .inl rfl
   | some r=>rw [hv] at hv'A;exact .inr (fun e=>hv'A.resolve_left (by simp) e))
 ·obtain rfl:z=y:=by simpa using hy
  refine ⟨hbx.far (by simpa using hzA) _,fun u hu=>?_⟩
  rw [cell0 (hboxA.set_ 0 (.slice A' (pre.length+1) c'))] at hu
  cases hu
  intro e
  rcases hat with h3|h3
  ·rw [h3] at e;exact hnr e
  ·rw [h3] at e
   have e2:=Option.some.inj e
   have:=hxa.blk.lt
   omega
def IxP (w:World) (a b:List L2) (cd:Code) (_:List PZ) (W:World):Prop:=cd=.ret∧∃ n:Nat,pairX a b=.error n∧Blk W w.heap.size 31 #[.slice none 0 0]∧Blk W (w.heap.size+1) 32 #[.int .i64 (n:Int)]∧Below w.heap.size w W
theorem pair_err {a b:List L2} {pre:List PZ} {z:PZ} {n:Nat} (h:pre.map (·.1)=List.range z.1) (hlt:z.1 < a.length*b.length) (hok:∀ y∈pre,∃ s,(pairT a b y.1).2=.ok s) (hz:(pairT a b z.1).2=.error n):pairX a b=.error n:=by
 rw [pairX_seq]
 refine seqX_err (t:=z.1) (pairsY_at hlt) (fun j y hj hy=>?_) hz
 have hm:j∈pre.map (·.1):=by rw [h];exact List.mem_range.2 hj
 obtain ⟨u,hu,e⟩:=List.mem_map.1 hm
 rw [pairsY_at (by omega)] at hy
 cases hy
 obtain ⟨s,hs⟩:=hok u hu
 exact ⟨s,by rw [← e];exact hs⟩
theorem pair_done {a b:List L2} {xs:List PZ} (h:xs.map (·.1)=List.range (a.length*b.length)) (hok:∀ y∈xs,∃ s,(pairT a b y.1).2=.ok s):pairX a b=.ok (listP a b xs):=by
 have hall:∀ t,t < a.length*b.length→∃ s,(pairT a b t).2=.ok s:=fun t ht=>by
  have hm:t∈xs.map (·.1):=by rw [h];exact List.mem_range.2 ht
  obtain ⟨u,hu,e⟩:=List.mem_map.1 hm
  rw [← e]
  exact hok u hu
 have e1:pairsY a b=(List.range (a.length*b.length)).map (pairT a b):=by
  refine List.ext_getElem? fun t=>?_
  rw [List.getElem?_map]
  rcases Nat.lt_or_ge t (a.length*b.length) with ht|ht
  ·rw [pairsY_at ht,List.getElem?_range ht];rfl
  ·rw [List.getElem?_eq_none (by rw [pairsY_length];exact ht),List.getElem?_eq_none (by rw [List.length_range];exact ht)];rfl
 rw [pairX_seq,seqX_ok (fun x hx=>by
  rw [e1] at hx
  obtain ⟨t,ht,rfl⟩:=List.mem_map.1 hx
  obtain ⟨s,hs⟩:=hall t (List.mem_range.1 ht)
  exact ⟨by rw [hs];rfl,s,hs⟩),e1,← h,List.map_map,List.map_map]
 rfl
theorem seqX_mem:∀ {l:List (ByteArray × XE)} {m:List L2},seqX l=.ok m→∀ x∈m,∃ y∈l,x.1=y.1∧y.2=.ok x.2
 | [],m,h,x,hx=>by cases h;cases hx
 | a::l,m,h,x,hx=>by
  unfold seqX at h
  split at h
  ·cases h
  ·rename_i p hp
   split at h
   ·cases h
   ·rename_i r hr
    cases h
    rcases List.mem_cons.1 hx with rfl|hx
    ·exact ⟨a,by simp,rfl,hp⟩
    ·obtain ⟨y,hy,e⟩:=seqX_mem hr x hx
     exact ⟨y,by simp [hy],e⟩
theorem pairX_short {a b l:List L2} (h:pairX a b=.ok l) (ka:∀ x∈a,x.1.size≤100000) (kb:∀ x∈b,x.1.size≤100000):Short l:=fun x hx=>by
 rw [pairX_seq] at h
 obtain ⟨y,hy,e1,e2⟩:=seqX_mem h x hx
 unfold pairsY at hy
 obtain ⟨u,hu,hy⟩:=List.mem_flatMap.1 hy
 obtain ⟨v,hv,rfl⟩:=List.mem_map.1 hy
 have h1:=ka u hu
 have h2:=kb v hv
 refine ⟨?_,size_ok (mulX_ok e2)⟩
 rw [e1]
 show (joinT u.1 v.1).size≤_
 unfold joinT
 rw [ByteArray.size_append,ByteArray.size_append]
 have:(⟨#[124]⟩:ByteArray).size=1:=rfl
 omega
theorem dprod_any (a b:List L2) (va vb:Value) (w:World) (ha:LRow w va a) (hb:LRow w vb b) (sa:Short a) (sb:Short b) (ka:∀ x∈a,x.1.size≤100000) (kb:∀ x∈b,x.1.size≤100000) (hl:a.length*b.length≤1000) (hr:Res w) :
  Calls Tryz.prog 27 #[va,vb] w fun e w'=>ResM w.heap.size (prodX a b) e w'∧Below w.heap.size w w':=by
 have P0:=Lib.hid (PAt.new hr)
 have HCK:=Lib.hid (fun (W:World) (hW:NW w W)=>dchecked_any a b va vb W.heap.size (W.alloc (.cells #[va,vb] 31)) (Blk.new W 31 #[va,vb]) (ha.below (below_alloc hW.below _)) (hb.below (below_alloc hW.below _)) sa sb (hW.alloc _).res)
 obtain ⟨A0,c0,rfl,hla,_⟩:=id ha
 obtain ⟨A1,c1,rfl,hlb,_⟩:=id hb
 have HA:=Lib.hid ha
 have HB:=Lib.hid hb
 have SA:=Lib.hid sa
 have SB:=Lib.hid sb
 have KA:=Lib.hid ka
 have KB:=Lib.hid kb
 have HR:=Lib.hid hr
 obtain ⟨i0,hif,hz0,hz1,hz2⟩:=info_parts infoM
 clear ha hb sa sb ka kb hr
 by_cases hc:chk2 a b=0
 ·have HM:=Lib.hid (show prodX a b=(match pairX a b with|.error n=>.error n|.ok l=>makeX l) by unfold prodX;rw [if_neg (by simpa using hc),if_neg (by omega)];rfl)
  rw [hc] at HCK
  change Hid (∀ W (_:NW w W),Calls _ _ _ _ fun e w'=>e=.returned (.int .i64 0)∧_) at HCK
  have hml:(a.length:Int)*(b.length:Int)≤1000:=by exact_mod_cast hl
  have hm0:(0:Int)≤(a.length:Int)*(b.length:Int):=by exact_mod_cast Nat.zero_le _
  have hd0:decide (4096 < (a.length:Int)*(b.length:Int))=false:=decide_eq_false (by omega)
  have HL:=Lib.hid hl
  clear hc hl
  refine (callsIn_wide (n:=6)).1 ?_
  have h1:1≤6:=by omega
  refine callsIn_of_wp_marks Tryz.func27 rfl trivial ?_ rfl
  simp only [Tryz.ntmps27,List.size_toArray,List.length_cons,List.length_nil,Nat.reduceAdd,Nat.reduceSub,Array.replicate_succ,Array.replicate_zero,List.push_toArray,List.append_toArray,List.nil_append,List.cons_append]
  have TK0:True:=trivial
  gi_upto_region 1 with fail
  generalize (w.alloc (.cells #[.slice none 0 0] 31)).alloc (.cells #[.int .i64 0] 32)=W0 at *
  have P2:=Lib.hid (P0.out.later (below_alloc (Below.refl _ _) (.cells #[.slice A0 a.length c0,.slice A1 b.length c1] 31)))
  gi_wp2_with (first
   | (clear TK0;refine ⟨trivial,?_⟩;gi_at_call 112;refine (callsIn_wide.2 (HCK.out _ P0.out.nw)).mono ?_;rintro e w1 ⟨rfl,hb⟩;have P1:=Lib.hid (P2.out.later hb);clear hb)
   | (refine ⟨trivial,?_⟩;gi_at_call 113;refine (pairs_in _ _ _ (slice_fact _ _ _) (slice_fact _ _ _)).mono ?_;rintro e w' ⟨rfl,rfl⟩))
  have I0:IP w a b (.slice A0 a.length c0) (.slice A1 b.length c1) w1.heap.size [] (((w1.alloc (.cells #[.slice none 0 0] 22)).alloc (.cells #[.slice A0 a.length c0] 31)).alloc (.cells #[.slice A1 b.length c1] 31)):=by
   have k1:=Blk.new w1 22 #[.slice none 0 0]
   have k2:=Blk.new (w1.alloc (.cells #[.slice none 0 0] 22)) 31 #[.slice A0 a.length c0]
   have k3:=Blk.new ((w1.alloc (.cells #[.slice none 0 0] 22)).alloc (.cells #[.slice A0 a.length c0] 31)) 31 #[.slice A1 b.length c1]
   simp only [World.size_alloc] at k2 k3
   exact ⟨fun z h=>by (cases h),P1.out.later (below_alloc (below_alloc (below_alloc (Below.refl _ _) _) _) _),k2.alloc _,k3,⟨none,0,(k1.alloc _).alloc _,World.ownsRow_nil _ _ _ _⟩,fun z h=>by (cases h),P1.out.r5.lt⟩
  have hwB:w.heap.size≤(((w1.alloc (.cells #[.slice none 0 0] 22)).alloc (.cells #[.slice A0 a.length c0] 31)).alloc (.cells #[.slice A1 b.length c1] 31)).heap.size:=I0.at_.nw.below.size
  generalize ((w1.alloc (.cells #[.slice none 0 0] 22)).alloc (.cells #[.slice A0 a.length c0] 31)).alloc (.cells #[.slice A1 b.length c1] 31)=WR at *
  generalize w1.heap.size=bA at *
  refine RP.wpIn_range_ord rfl h1 (gf:=195) (lb:=#[.pointer (some ⟨bA+1,0,none⟩),.pointer (some ⟨bA+1+1,0,none⟩)]) rfl trivial eg_pairs
   (pairs_seq a b (.slice A0 a.length c0) (.slice A1 b.length c1) (bA+1) (bA+1+1) bA SA.out SB.out) (fun _=>rfl)
   (IP w a b (.slice A0 a.length c0) (.slice A1 b.length c1) bA) (IxP w a b) ?hG ?hI ?hIx I0 ?round ?done ?stop
  case hG=>exact fun pre W h=>h.gp HA.out HB.out
  case hI=>exact IP.own hwB HR.out
  case hIx =>
   rintro cd s W W' row ⟨q1,n,q2,q3,q4,q5⟩ hg hr
   exact ⟨q1,n,q2,Blk.own_ q3 hg hr,Blk.own_ q4 hg hr,below_own_ q5 (Nat.le_refl _) hwB hg hr⟩
  case round =>
   rintro l pre z W K hi hnx hK
   have he:encP a b z=#[.agg #[.string (pairT a b z.1).1,.string (txtX (pairT a b z.1).2)],.int .i64 (errX (pairT a b z.1).2:Int)]:=rfl
   rw [he]
   have HNX:=Lib.hid hnx
   have HI:=Lib.hid hi
   have hpl:pre.length≤1000:=by
    have h2:=congrArg List.length hnx.1
    rw [List.length_map,List.length_range] at h2
    have:=hnx.2.1
    have:=HL.out
    omega
   have HPL:=Lib.hid hpl
   have HBL:=Lib.hid (show bA < W.heap.size by obtain ⟨A,c,h2,_⟩:=hi.box;exact h2.lt)
   clear hnx hi he hpl
   cases hp:(pairT a b z.1).2 with
   | ok s =>
    have HP:=Lib.hid hp
    have e0:((errX (.ok s):Nat):Int)=0:=rfl
    rw [e0]
    simp only [txtX]
    obtain ⟨key,hkey⟩:∃ k,(pairT a b z.1).1=k:=⟨_,rfl⟩
    rw [hkey]
    have HKEY:=Lib.hid hkey
    clear hp hkey e0
    gi_wp2
    refine hK _ _ (KeepsOthers.alloc _ _) (HI.out.later (below_alloc (Below.refl _ _) _)) ?_
    clear hK
    intro Wb ht hib
    have BM:=(Blk.new W 30 #[.string key,.string s]).turn ht
    obtain ⟨Aw,cw,bw,_⟩:=(HI.out.later (below_alloc (Below.refl W.heap.size W) (.cells #[.string key,.string s] 30))).box
    have BXZ:=Lib.hid ((HNX.out.2.2.later HBL.out (below_alloc (Below.refl W.heap.size W) (.cells #[.string key,.string s] 30))).turn bw ht)
    obtain ⟨A9,c9,hb1,hb2⟩:=hib.box
    have HB1:=Lib.hid hb1
    have HB2:=Lib.hid hb2
    have HIB:=Lib.hid hib
    have x0:=cell0 hb1
    obtain ⟨m0,m1⟩:=cells2 BM
    have ml:=BM.lt
    have bl:=hb1.lt
    have HO6:=Lib.hid (owns_later hb2 (below_alloc (Below.refl Wb.heap.size Wb) (.cells #[.string key,.string s] 30)))
    have HBA:=Lib.hid (hb1.alloc (.cells #[.string key,.string s] 30))
    have hbs:w.heap.size≤(Wb.alloc (.cells #[.string key,.string s] 30)).heap.size:=by have:=hib.at_.nw.below.size;simp;omega
    clear hib hb1 hb2 BM bw ht
    gi_wp2_with (gi_at_builtin;go_loud (refine wpListIn_append_own_at _ rfl _ _ 22 rfl w.heap.size 30 i0 (.agg #[.string ByteArray.empty,.string ByteArray.empty]) 2 32 Tryz.underlying22 hif hz0 hz1 hz2 rfl (by decide) _ _ _ rfl HO6.out ⟨Wb.heap.size,0,none⟩ 1 1 [.string key,.string s] rfl rfl (cell_two_new _ _ _ _) (one_pairM (key,s)) (by have:=HPL.out;unfold maxLen;omega) (by have:=HPL.out;omega) hbs ?_;intro v' w7 hown7 hgrow7 _ hat7;have hb7:=Blk.grown HBA.out hgrow7 (fun e=>own_ne HO6.out e.symm HBA.out (by decide) rfl);have c7:=cell0 hb7;have f7:=hb7.frozen 0;have l7:=hb7.lt;obtain ⟨A5,c5,rfl⟩:=slice_shape hown7;have H7:=Lib.hid (And.intro hown7 (And.intro hgrow7 hat7));clear hown7 hgrow7 hat7 hb7))
    refine ⟨((KeepsOthers.alloc Wb _).trans (KeepsOthers.of_grownBy H7.out.2.1 (fun j o e ho=>?_))).trans (KeepsOthers.setCell _ _ _),IP.step (z:=z) HIB.out HR.out HP.out BXZ.out HB1.out HB2.out (by rw [HKEY.out];exact H7.out.1) (by rw [HKEY.out];exact H7.out.2.1) (by rw [HKEY.out];exact H7.out.2.2)⟩
    obtain ⟨cu,hcu⟩:=own_cells (n:=pre.length) HO6.out e
    rw [hcu] at ho
    cases ho
    rfl
   | error n =>
    have hn:n≠0:=exQ_err (show mulX (aOf b (z.1 % b.length)).2 (aOf a (z.1 / b.length)).2=.error n from hp)
    have HP:=Lib.hid hp
    have hz:=ne_zero hn
    have hz9:=ne_zero2 hn
    simp only [txtX,errX]
    generalize (pairT a b z.1).1=key
    clear hp hn
    gi_wp2
    refine hK _ _ (KeepsOthers.alloc _ _) (HI.out.later (below_alloc (Below.refl _ _) _)) ?_
    clear hK
    intro Wb ht hib
    have HIB:=Lib.hid hib
    have y0:=cell0 hib.at_.r4
    have y1:=cell0 hib.at_.r5
    have z0:=hib.at_.r4.frozen 0
    have z1:=hib.at_.r5.frozen 0
    clear hib ht
    gi_wp2
    obtain ⟨s1,s2,s3⟩:=HIB.out.at_.set (.slice none 0 0) (n:Int)
    exact ⟨(KeepsOthers.setCell _ _ _).trans (KeepsOthers.setCell _ _ _),rfl,n,pair_err HNX.out.1 HNX.out.2.1 HI.out.ok HP.out,s1,s2,s3⟩
  case done =>
   rintro D xs W hD hS hib hK
   have hpx:=pair_done hS hib.ok
   have hxl:xs.length≤1000:=by
    have h2:=congrArg List.length hS
    rw [List.length_map,List.length_range] at h2
    have:=HL.out
    omega
   obtain ⟨A9,c9,hb1,hb2⟩:=hib.box
   have hll:(listP a b xs).length=xs.length:=by unfold listP;rw [List.length_map]
   have hrow:LRow W (.slice A9 xs.length c9) (listP a b xs):=OwnM.row (base:=w.heap.size) (by unfold OwnM;rw [hll];exact hb2) (by rw [hll];exact hxl)
   have HMC:=Lib.hid (dmake_any (listP a b xs) _ W hrow (pairX_short hpx KA.out KB.out) hib.at_.nw.res)
   have HMR:=Lib.hid (show prodX a b=makeX (listP a b xs) by rw [HM.out,hpx])
   have HIB:=Lib.hid hib
   have HKD:=Lib.hid hK
   have x0:=cell0 hb1
   have hDl:D < W.heap.size:=by
    rcases Nat.lt_or_ge D W.heap.size with h|h
    ·exact h
    ·rw [Array.getElem?_eq_none h] at hK;cases hK
   have HWB:=Lib.hid hwB
   clear hib hK hb1 hb2 hrow hll hpx hS
   generalize makeX (listP a b xs)=mk at *
   cases mk with
   | error n =>
    change Hid (Calls _ _ _ _ fun e w'=>e=.returned (.tuple #[.slice none 0 0,.int .i64 (n:Int)])∧_) at HMC
    gi_wp2_with (refine ⟨trivial,?_⟩;gi_at_call 25;refine (callsIn_wide.2 HMC.out).mono ?_;rintro e w8 ⟨rfl,hb⟩;have P8:=Lib.hid (HIB.out.at_.later hb);have y0:=cell0 P8.out.r4;have y1:=cell0 P8.out.r5;have z0:=P8.out.r4.frozen 0;have z1:=P8.out.r5.frozen 0;have HK8:=Lib.hid ((hb.block D hDl).trans HKD.out);clear hb)
    obtain ⟨s1,s2,s3⟩:=P8.out.set (.slice none 0 0) (n:Int)
    have hK':=((KeepsOthers.setCell w8 ⟨w.heap.size,0,none⟩ (.slice none 0 0)).trans (KeepsOthers.setCell _ ⟨w.heap.size+1,0,none⟩ (.int .i64 (n:Int)))).same D _ HK8.out rfl
    refine ⟨by simp,.inl ⟨_,_,rfl,run_takeDeferred hK',?_⟩⟩
    have gD:∀ {g:Nat} {t:TypeId} {cs:Array Value},Blk ((w8.setCell ⟨w.heap.size,0,none⟩ (.slice none 0 0)).setCell ⟨w.heap.size+1,0,none⟩ (.int .i64 (n:Int))) g t cs→Blk _ g t cs:=fun hb=>hb.grown (grownBy_putObj' _ D (.deferred none)) (fun e=>blk_ne hb hK' rfl (Option.some.inj e))
    exact ⟨_,run_cell_errno rfl rfl (load_dist rfl (gD s1)) rfl (gD s2),by rw [HMR.out];exact rfl,s3.trans (belowK_b (w:=w) (Nat.le_refl _) _ D _ _ (Nat.le_trans HWB.out hD) hK' rfl rfl)⟩
   | ok d =>
    change Hid (Calls _ _ _ _ fun e w'=>(∃ u,e=.returned (.tuple #[u,.int .i64 0])∧OwnM _ w' u d)∧_) at HMC
    gi_wp2_with (refine ⟨trivial,?_⟩;gi_at_call 25;refine (callsIn_wide.2 HMC.out).mono ?_;rintro e w8 ⟨⟨u8,rfl,ho⟩,hb⟩;obtain ⟨A8,c8,rfl⟩:=ho.slice;have HO8:=Lib.hid ho;have P8:=Lib.hid (HIB.out.at_.later hb);have y0:=cell0 P8.out.r4;have y1:=cell0 P8.out.r5;have z0:=P8.out.r4.frozen 0;have z1:=P8.out.r5.frozen 0;have HK8:=Lib.hid ((hb.block D hDl).trans HKD.out);clear hb ho)
    obtain ⟨s1,s2,s3⟩:=P8.out.set (.slice A8 d.length c8) 0
    have hK':=((KeepsOthers.setCell w8 ⟨w.heap.size,0,none⟩ (.slice A8 d.length c8)).trans (KeepsOthers.setCell _ ⟨w.heap.size+1,0,none⟩ (.int .i64 0))).same D _ HK8.out rfl
    refine ⟨by simp,.inl ⟨_,_,rfl,run_takeDeferred hK',?_⟩⟩
    have gD:∀ {g:Nat} {t:TypeId} {cs:Array Value},Blk ((w8.setCell ⟨w.heap.size,0,none⟩ (.slice A8 d.length c8)).setCell ⟨w.heap.size+1,0,none⟩ (.int .i64 0)) g t cs→Blk _ g t cs:=fun hb=>hb.grown (grownBy_putObj' _ D (.deferred none)) (fun e=>blk_ne hb hK' rfl (Option.some.inj e))
    refine ⟨_,run_cell_errno rfl rfl (load_dist rfl (gD s1)) rfl (gD s2),?_,s3.trans (belowK_b (w:=w) (Nat.le_refl _) _ D _ _ (Nat.le_trans HWB.out hD) hK' rfl rfl)⟩
    rw [HMR.out]
    refine ⟨_,rfl,owns_base (base:=W.heap.size) ?_ HIB.out.at_.nw.below.size⟩
    have step:∀ {A B:World} {r:Nat},A.ownsRow W.heap.size 30 2 (.slice A8 d.length c8) d.length (cellsM d)→A.grownBy B (some r)→(∀ cu,A.heap[r]?≠some (.cells cu 30 (0,0)))→B.ownsRow W.heap.size 30 2 (.slice A8 d.length c8) d.length (cellsM d):=fun h hg hne=>World.ownsRow.kept h hg (by
     cases hv:(Value.slice A8 d.length c8).ownBlock with
     | none=>exact .inl rfl
     | some g =>
      refine .inr fun e=>?_
      cases e
      obtain ⟨cu,hcu⟩:=own_cells (n:=d.length) h hv
      exact hne cu hcu)
    refine step (step (step HO8.out (grownBy_setCell' w8 w.heap.size (.slice A8 d.length c8)) (fun cu e=>?_)) (grownBy_setCell' _ (w.heap.size+1) (.int .i64 0)) (fun cu e=>?_)) (grownBy_putObj' _ D (.deferred none)) (fun cu e=>?_)
    ·exact absurd (blk_ty (show Blk w8 w.heap.size 30 cu from e) P8.out.r4) (by decide)
    ·have h5:Blk (w8.setCell ⟨w.heap.size,0,none⟩ (.slice A8 d.length c8)) (w.heap.size+1) 32 #[.int .i64 0]:=P8.out.r5.far (by simp) _
     exact absurd (blk_ty (show Blk _ (w.heap.size+1) 30 cu from e) h5) (by decide)
    ·rw [hK'] at e
     cases e
  case stop =>
   rintro D cd pre z W hD ⟨rfl,n,e1,b4,b5,hB⟩ hK
   gi_wp2
   refine ⟨by simp,.inl ⟨_,_,rfl,run_takeDeferred hK,?_⟩⟩
   have gD:∀ {g:Nat} {t:TypeId} {cs:Array Value},Blk W g t cs→Blk _ g t cs:=fun hb=>hb.grown (grownBy_putObj' _ D (.deferred none)) (fun e=>by
    cases e
    rw [show W.heap[D]?=_ from hb] at hK
    cases hK)
   exact ⟨_,run_cell_errno rfl rfl (load_dist rfl (gD b4)) rfl (gD b5),by rw [HM.out,e1];exact rfl,hB.trans (belowK_b (w:=w) (Nat.le_refl _) W D _ _ (Nat.le_trans hwB hD) hK rfl rfl)⟩
 ·have hz:=ne_zero hc
  have hz2:=ne_zero2 hc
  have HM:=Lib.hid (show prodX a b=.error (chk2 a b) by unfold prodX;rw [if_pos hc])
  generalize chk2 a b=n at *
  clear hc
  refine (callsIn_wide (n:=6)).1 ?_
  have h1:1≤6:=by omega
  refine callsIn_of_wp_marks Tryz.func27 rfl trivial ?_ rfl
  simp only [Tryz.ntmps27,List.size_toArray,List.length_cons,List.length_nil,Nat.reduceAdd,Nat.reduceSub,Array.replicate_succ,Array.replicate_zero,List.push_toArray,List.append_toArray,List.nil_append,List.cons_append]
  gi_upto_region 1 with fail
  generalize (w.alloc (.cells #[.slice none 0 0] 31)).alloc (.cells #[.int .i64 0] 32)=W0 at *
  have P2:=Lib.hid (P0.out.later (below_alloc (Below.refl _ _) (.cells #[.slice A0 a.length c0,.slice A1 b.length c1] 31)))
  gi_wp2_with (refine ⟨trivial,?_⟩;gi_at_call 112;refine (callsIn_wide.2 (HCK.out _ P0.out.nw)).mono ?_;rintro e w1 ⟨rfl,hb⟩;have P1:=Lib.hid (P2.out.later hb);have y0:=cell0 P1.out.r4;have y1:=cell0 P1.out.r5;have z0:=P1.out.r4.frozen 0;have z1:=P1.out.r5.frozen 0;clear hb)
  refine leavesM_nil ?_
  obtain ⟨s1,s2,s3⟩:=P1.out.set (.slice none 0 0) (n:Int)
  exact ⟨_,run_cell_errno rfl rfl (load_dist rfl s1) rfl s2,by rw [HM.out];exact rfl,s3⟩
end Go.Proofs.YtigapglmipmbeaaGreatDoor
namespace Go.Proofs.YtigapglmipmbeaaGreatDoor
open Lim
section
variable {p q r s x y:List L2}
end
end Go.Proofs.YtigapglmipmbeaaGreatDoor
namespace Go.Proofs.YtigapglmipmbeaaGreatDoor
open Go.RowKit
end Go.Proofs.YtigapglmipmbeaaGreatDoor
namespace Go.Proofs.YtigapglmipmbeaaGreatDoor
open Go.RowKit Go.Shelf
open Lim
attribute [local go_sem] Oper.semAt_some
theorem seqX_len:∀ {l:List (ByteArray × XE)} {m:List L2},seqX l=.ok m→m.length=l.length
 | [],m,h=>by cases h;rfl
 | a::l,m,h=>by
  unfold seqX at h
  split at h
  ·cases h
  ·split at h
   ·cases h
   ·rename_i r hr
    cases h
    rw [List.length_cons,List.length_cons,seqX_len hr]
theorem prod_short {a b d:List L2} (h:prodX a b=.ok d) (ka:∀ x∈a,x.1.size≤100000) (kb:∀ x∈b,x.1.size≤100000) (hl:a.length*b.length≤1000):Short d∧d.length≤1000:=by
 unfold prodX at h
 split at h
 ·cases h
 ·split at h
  ·cases h
  ·split at h
   ·cases h
   ·rename_i l hl2
    refine make_short h (pairX_short hl2 ka kb) ?_
    rw [pairX_seq] at hl2
    rw [seqX_len hl2,pairsY_length]
    exact hl
end Go.Proofs.YtigapglmipmbeaaGreatDoor
namespace Go.Proofs.YtigapglmipmbeaaGreatDoor
open Go.RowKit Go.Shelf
open Lim
attribute [local go_sem] Oper.semAt_some wide_fn
def joinAt (f:ByteArray) (ys:List L2) (k:Nat):List L2:=(ys.take k).map (fun y=>(joinT f y.1,y.2))++ys.drop k
theorem joinAt_zero (f:ByteArray) (ys:List L2):joinAt f ys 0=ys:=by simp [joinAt]
theorem joinAt_all (f:ByteArray) (ys:List L2):joinAt f ys ys.length=ys.map fun y=>(joinT f y.1,y.2):=by simp [joinAt]
theorem joinAt_len {f:ByteArray} {ys:List L2} {k:Nat}:(joinAt f ys k).length=ys.length:=by
 unfold joinAt
 rw [List.length_append,List.length_map,List.length_take,List.length_drop]
 omega
theorem joinAt_split {f:ByteArray} {ys:List L2} {k:Nat} {y:L2} (h:ys[k]?=some y):joinAt f ys k=(ys.take k).map (fun y=>(joinT f y.1,y.2))++y::ys.drop (k+1)∧((ys.take k).map fun y:L2=>(joinT f y.1,y.2)).length=k:=by
 obtain ⟨hk,rfl⟩:=List.getElem?_eq_some_iff.1 h
 refine ⟨?_,by rw [List.length_map,List.length_take];omega⟩
 unfold joinAt
 rw [drop_at hk]
theorem joinAt_get {f:ByteArray} {ys:List L2} {k:Nat} {y:L2} (h:ys[k]?=some y):(joinAt f ys k)[k]?=some y:=by
 obtain ⟨e,l⟩:=joinAt_split (f:=f) h
 rw [e,List.getElem?_append_right (by rw [l];exact Nat.le_refl _),l,Nat.sub_self]
 rfl
theorem joinAt_set {f:ByteArray} {ys:List L2} {k:Nat} {y:L2} (h:ys[k]?=some y):(joinAt f ys k).set k (joinT f y.1,y.2)=joinAt f ys (k+1):=by
 obtain ⟨e,l⟩:=joinAt_split (f:=f) h
 rw [e,List.set_append_right _ _ (by rw [l];exact Nat.le_refl _),l,Nat.sub_self,List.set_cons_zero]
 unfold joinAt
 rw [List.take_add_one,h,Option.toList_some,List.map_append,List.append_assoc]
 rfl
theorem pairX_err {x:L2} {a b done:List L2} {n:Nat} (h:scaleX b x.2=.error n):scaleR done (pairX (x::a) b)=.error n:=by
 have e:pairX (x::a) b=.error n:=by
  unfold pairX
  rw [h]
 rw [e]
 rfl
theorem pairX_go {x:L2} {a b ys done:List L2} (h:scaleX b x.2=.ok ys):scaleR done (pairX (x::a) b)=scaleR (done++joinAt x.1 ys ys.length) (pairX a b):=by
 have e:pairX (x::a) b=(match pairX a b with|.error n=>.error n|.ok r=>.ok (ys.map (fun y=>(joinT x.1 y.1,y.2))++r)):=by
  simp only [pairX,h]
  rfl
 rw [e,joinAt_all]
 cases pairX a b with
 | error n=>rfl
 | ok m=>simp [scaleR]
theorem scaleX_keyB {b:ByteArray}:∀ {l m:List L2},scaleX l b=.ok m→(∀ x∈l,x.1.size≤100000)→∀ y∈m,y.1.size≤100000
 | [],m,h,_,y,hy=>by cases h;cases hy
 | x::l,m,h,hs,y,hy=>by
  unfold scaleX at h
  split at h
  ·cases h
  ·split at h
   ·cases h
   ·rename_i r hr
    cases h
    rcases List.mem_cons.1 hy with rfl|hy
    ·exact hs x (by simp)
    ·exact scaleX_keyB hr (fun z hz=>hs z (by simp [hz])) y hy
theorem rdprod_any (a b:List L2) (va vb:Value) (w:World) (ha:LRow w va a) (hb:LRow w vb b) (sa:Short a) (sb:Short b) (ka:∀ x∈a,x.1.size≤100000) (kb:∀ x∈b,x.1.size≤100000) (hl:a.length*b.length≤1000) (hr:Res w) :
  Calls Tryz.prog 28 #[va,vb] w fun e w'=>ResM w.heap.size (prodX a b) e w'∧Below w.heap.size w w':=by
 have HCK:=Lib.hid (rdboth_any a b va vb w ha hb sa sb hr)
 have N0:=Lib.hid (NW.refl hr)
 have HA:=Lib.hid ha
 have HB:=Lib.hid hb
 have SA:=Lib.hid sa
 have SB:=Lib.hid sb
 have KA:=Lib.hid ka
 have KB:=Lib.hid kb
 have HRS:=Lib.hid hr
 obtain ⟨A0,c0,rfl,hla,_⟩:=id ha
 obtain ⟨A1,c1,rfl,hlb,_⟩:=id hb
 obtain ⟨i0,hif,hz0,hz1,hz2⟩:=info_parts infoM
 clear ha hb sa sb ka kb hr
 have TK0:True:=trivial
 by_cases hc:chk2 a b=0
 ·have hb0:0 < b.length:=by
   cases b with
   | nil =>
    have h2:chkD []=0:=by
     unfold chk2 at hc
     by_cases h:chkD a=0
     ·rw [if_neg (by omega)] at hc;exact hc
     ·rw [if_pos h] at hc;exact absurd hc h
    exact absurd h2 (by decide +kernel)
   | cons x l=>simp
  have HB0:=Lib.hid hb0
  have HM:=Lib.hid (show prodX a b=(match pairX a b with|.error n=>.error n|.ok l=>makeX l) by unfold prodX;rw [if_neg (by simpa using hc),if_neg (by omega)];rfl)
  generalize prodX a b=mk at *
  rw [hc] at HCK
  change Hid (Calls _ _ _ _ fun e w'=>e=.returned (.int .i64 0)∧_) at HCK
  have hml:(a.length:Int)*(b.length:Int)≤1000:=by exact_mod_cast hl
  have hm0:(0:Int)≤(a.length:Int)*(b.length:Int):=by exact_mod_cast Nat.zero_le _
  have hd0:decide (4096 < (a.length:Int)*(b.length:Int))=false:=decide_eq_false (by omega)
  have HL:=Lib.hid hl
  clear hc hl hb0
  refine (callsIn_wide (n:=6)).1 ?_
  have h1:1≤6:=by omega
  have hmx:Tryz.prog.follows .mixedOrders=true:=by kernel_rfl
  refine callsIn_of_wp Tryz.func28 rfl trivial ?_ rfl
  simp only [Tryz.ntmps28,List.size_toArray,List.length_cons,List.length_nil,Nat.reduceAdd,Nat.reduceSub,Array.replicate_succ,Array.replicate_zero,List.push_toArray,List.append_toArray,List.nil_append,List.cons_append]
  gi_wp2_with (clear TK0;gi_at_call 114;refine (callsIn_wide.2 HCK.out).mono ?_;rintro e w1 ⟨rfl,hb⟩;have N1:=Lib.hid (N0.out.later hb);clear hb)
  gi_loopw [7,8] (fun v7 v8 wr=>∃ (i:Nat) (done:List L2) (A5:Option Addr) (c5:Nat),i≤a.length∧v7=.slice A5 done.length c5∧v8=.int .i64 (i:Int)∧Hid (pairX a b=scaleR done (pairX (a.drop i) b))∧Hid (done.length=i*b.length)∧Hid (OwnM w.heap.size wr (.slice A5 done.length c5) done)∧Hid (NW w wr)) (fun _ v8 _=>a.length - (intOf v8).toNat)
  case atStart=>exact ⟨0,[],none,0,Nat.zero_le _,rfl,rfl,Lib.hid (by rw [scaleR_nil];rfl),Lib.hid (by simp),Lib.hid (OwnM.nil _ _),N1⟩
  case round =>
   clear N1
   obtain ⟨i,done,A5,c5,hi,rfl,rfl,HE,HDL,HO,HN⟩:=hrel
   obtain ⟨wo,rfl⟩:∃ wo,wo=wr:=⟨_,rfl⟩
   by_cases hlt:i < a.length
   ·obtain ⟨x,hx⟩:∃ x,a[i]?=some x:=⟨_,List.getElem?_eq_getElem hlt⟩
    obtain ⟨b2,o2,c',e',hb2,q0,q1⟩:=HA.out.at HN.out.below hx
    simp only [Value.slice.injEq,true_and] at e'
    obtain ⟨rfl,rfl⟩:=e'
    have hlt':(i:Int) < (a.length:Int):=by omega
    rw [drop_of hx] at HE
    have HSX:=Lib.hid (SA.out x (List.mem_of_getElem? hx))
    have HKX:=Lib.hid (KA.out x (List.mem_of_getElem? hx))
    have HLT:=Lib.hid (And.intro hlt hlt')
    have HSC:=Lib.hid (rdscaled_any b _ x.2 wo (HB.out.below HN.out.below) SB.out HSX.out.2 HN.out.res)
    obtain ⟨f,d⟩:=x
    dsimp only at q0 q1 HSX HSC HKX
    clear hx hlt
    cases hsc:scaleX b d with
    | error n =>
     rw [hsc] at HSC
     change Hid (Calls _ _ _ _ fun e w'=>e=.returned (.tuple #[.slice none 0 0,.int .i64 (n:Int)])∧_) at HSC
     have hz:=ne_zero (scaleX_ne hsc)
     have hz9:=ne_zero2 (scaleX_ne hsc)
     have HR:=Lib.hid (show mk=.error n by rw [HM.out,HE.out,pairX_err (x:=(f,d)) hsc]<;>rfl)
     clear hsc
     gi_wp2_with (gi_at_call 115;refine (callsIn_wide.2 HSC.out).mono ?_;rintro e w3 ⟨rfl,hb⟩;have H3:=Lib.hid (HN.out.later hb);clear hb)
     go_ret2
     rw [HR.out]
     exact ⟨rfl,H3.out.below⟩
    | ok ys =>
     rw [hsc] at HSC
     change Hid (Calls _ _ _ _ fun e w'=>(∃ u,e=.returned (.tuple #[u,.int .i64 0])∧OwnM _ w' u ys)∧_) at HSC
     have HYL:=Lib.hid (scaleX_len hsc)
     have hyl:ys.length≤1000:=by rw [scaleX_len hsc];exact hlb
     have HEN:=Lib.hid (HE.out.trans (pairX_go (x:=(f,d)) (a:=a.drop (i+1)) (done:=done) hsc))
     dsimp only at HEN
     have HY0:=Lib.hid (show 0 < ys.length by rw [scaleX_len hsc];exact HB0.out)
     have HYB:=Lib.hid (show ∀ y∈ys,y.1.size≤100000 from fun y hy=>scaleX_keyB hsc KB.out y hy)
     clear hsc HE
     gi_wp2_with (gi_at_call 115;refine (callsIn_wide.2 HSC.out).mono ?_;rintro e w3 ⟨⟨u3,rfl,ho3⟩,hb⟩;obtain ⟨g3,c3,rfl,hg3⟩:=ho3.ofPos HY0.out;have HO3:=Lib.hid ho3;have HB3:=Lib.hid hb;have HG3:=Lib.hid hg3;clear hb ho3 hg3)
     have HCF:∀ W,Below wo.heap.size wo W→W.cell? _=some (.string f):=fun W h=>(h.cell (p:=_) hb2).trans q0
     have HCF:=Lib.hid HCF
     clear q0 q1
     gi_loopw [11] (fun v11 wq=>∃ k:Nat,k≤ys.length∧v11=.int .i64 (k:Int)∧Hid (OwnM wo.heap.size wq (.slice (some ⟨g3,0,none⟩) ys.length c3) (joinAt f ys k))∧Hid (Below wo.heap.size wo wq)) (fun v11 _=>ys.length - (intOf v11).toNat)
     case atStart=>exact ⟨0,Nat.zero_le _,rfl,Lib.hid (by rw [joinAt_zero];exact HO3.out),HB3⟩
     case round =>
      clear HO3 HB3
      obtain ⟨k,hk,rfl,HO4,HB4⟩:=hrel
      by_cases hk2:k < ys.length
      ·obtain ⟨y,hy⟩:∃ y,ys[k]?=some y:=⟨_,List.getElem?_eq_getElem hk2⟩
       have hk3:(k:Int) < (ys.length:Int):=by omega
       obtain ⟨x0,x1,xl⟩:=HO4.out.cell (joinAt_get (f:=f) hy)
       have fz:=HO4.out.frozen (k*2)
       have p0:=HCF.out _ HB4.out
       have pl:=Nat.lt_of_lt_of_le hb2 HB4.out.size
       have HST:=Lib.hid (OwnM.set1 (joinT f y.1) HO4.out (joinAt_get (f:=f) hy))
       rw [joinAt_set hy] at HST
       have HKY:=Lib.hid (HYB.out y (List.mem_of_getElem? hy))
       have HKT:=Lib.hid (And.intro hk2 hk3)
       obtain ⟨f2,d2⟩:=y
       dsimp only at x0 x1 HST HKY
       have EK:(f++⟨#[124]⟩++f2)=joinT f f2:=rfl
       have s1:¬ 9223372036854775807 < f.size+1:=by have:=HKX.out;omega
       have s2:¬ 9223372036854775807 < f.size+1+f2.size:=by have:=HKX.out;have:=HKY.out;omega
       have V0:∀ z:SameAt wr (fun k=>k < wr.heap.size),z.W.cell? _=some (.string f):=fun z=>z.cell pl p0
       have V1:∀ z:SameAt wr (fun k=>k < wr.heap.size),z.W.cell? ⟨g3,k*2,none⟩=some (.string f2):=fun z=>z.cell xl x0
       have HYG:=Lib.hid hy
       clear hk2 hy x1
       gi_wp2
       refine wpIn_stage (IsSame wr (fun k=>k < wr.heap.size)) [0,1,2,3,4,5,6,7,8,9,10,11,12,13] [16] hmx (by kernel_rfl) (isSame_of fun _ _=>rfl) ?_
       change wpStage _ _ _ _ _ _ _ _ (3+14) _ _ _
       refine stage_reads [0,1,2,3,4,5,6,7,8,9,10,11,12,13] 3 _ _ (by kernel_rfl) ?_
       change wpQuietIn _ _ _ _ (fun W'=>∃ x:SameAt wr (fun k=>k < wr.heap.size),W'=x.W) _ _ _
       simp only [pick_cons,pick_nil,List.getElem?_cons_zero,List.getElem?_cons_succ,Option.elim_some]
       repeat (gi_big_quiet_step (fail))
       refine wpQuietIn_nil ?_
       clear V0 V1
       have HDR:=Lib.hid (below_drewM wr)
       have HO6:=Lib.hid (OwnM.later HO4.out HDR.out)
       obtain ⟨x0,x1,xl⟩:=HO6.out.cell (joinAt_get (f:=f) HYG.out)
       refine stage_one 14 (by kernel_rfl) rfl ?_
       gi_wp2
       refine stage_post (isSame_below HDR.out (fun k hk=>hk)) ?_
       refine stage_one 15 (by kernel_rfl) rfl ?_
       gi_wp2
       refine stage_post (isSame_below HDR.out (fun k hk=>hk)) ?_
       refine stage_one 16 (by kernel_rfl) rfl ?_
       gi_wp2
       refine stage_last rfl ?_
       refine stage_done (by kernel_rfl) ?_
       gi_wp2
       go_roundw
       case rel=>exact ⟨k+1,HKT.out.1,by go_num,Lib.hid HST.out.1,Lib.hid ((HB4.out.trans (HDR.out.mono HB4.out.size)).setCell (p:=⟨g3,k*2,none⟩) HG3.out _)⟩
       case measure=>have:=HKT.out.1;simp [intOf];omega
      ·have hk3:¬ (k:Int) < (ys.length:Int):=by omega
       obtain rfl:k=ys.length:=by omega
       have HSR:=Lib.hid (World.ownsRow.cells HO4.out (g:=g3) rfl)
       have HO7:=Lib.hid (OwnM.later HO.out HB4.out)
       have HN7:=Lib.hid (HN.out.later HB4.out)
       have HLB:=Lib.hid (show done.length+ys.length=(i+1)*b.length by rw [HDL.out,HYL.out,Nat.succ_mul])
       have HLM:=Lib.hid (show done.length+ys.length≤1000 by rw [HLB.out];exact Nat.le_trans (Nat.mul_le_mul_right _ HLT.out.1) HL.out)
       clear hk2 hk
       gi_wp2_with (gi_at_builtin;go_loud (refine wpListIn_append_own_at _ rfl _ _ 22 rfl w.heap.size 30 i0 (.agg #[.string ByteArray.empty,.string ByteArray.empty]) 2 32 Tryz.underlying22 hif hz0 hz1 hz2 rfl (by decide) _ _ _ rfl HO7.out ⟨g3,0,none⟩ ys.length c3 (cellsM (joinAt f ys ys.length)) rfl (by rw [cellsM_length,joinAt_len]) HSR.out (one_cellsM _) (by have:=HLM.out;unfold maxLen;omega) (by have:=HLM.out;omega) HN7.out.below.size ?_;intro v' w8 hown8 hgrow8 _ _;obtain ⟨A8,c8,rfl⟩:=slice_shape hown8;have HO8:=Lib.hid (show OwnM w.heap.size w8 (.slice A8 (done.length+ys.length) c8) (done++joinAt f ys ys.length) by unfold OwnM;rw [List.length_append,joinAt_len,cellsM_append];exact hown8);have HN8:=Lib.hid (grow_nw HN7.out HRS.out hgrow8 (fun r e=>HO7.out.base e));clear hown8 hgrow8))
       go_roundw
       case rel =>
        have e1:(done++joinAt f ys ys.length).length=done.length+ys.length:=by rw [List.length_append,joinAt_len]
        exact ⟨i+1,done++joinAt f ys ys.length,A8,c8,HLT.out.1,by rw [e1],by go_num,HEN,Lib.hid (by rw [e1];exact HLB.out),Lib.hid (by rw [e1];exact HO8.out),HN8⟩
       case measure=>have:=HLT.out.1;simp [intOf];omega
   ·have hlt':¬ (i:Int) < (a.length:Int):=by omega
    obtain rfl:i=a.length:=by omega
    have hpx:pairX a b=.ok done:=by
     rw [HE.out,List.drop_length]
     show Except.ok (done++[])=_
     rw [List.append_nil]
    have hdl:done.length≤1000:=by rw [HDL.out];exact HL.out
    have HMC:=Lib.hid (rdmake_any done _ wo (HO.out.row hdl) (pairX_short hpx KA.out KB.out) HN.out.res)
    have HMR:=Lib.hid (show mk=makeX done by rw [HM.out,hpx]<;>rfl)
    clear hlt hpx hdl
    generalize makeX done=mm at *
    cases mm with
    | error n =>
     change Hid (Calls _ _ _ _ fun e w'=>e=.returned (.tuple #[.slice none 0 0,.int .i64 (n:Int)])∧_) at HMC
     gi_wp2_with (gi_at_call 26;refine (callsIn_wide.2 HMC.out).mono ?_;rintro e w8 ⟨rfl,hb⟩;have H3:=Lib.hid (HN.out.later hb);clear hb)
     go_ret2
     rw [HMR.out]
     exact ⟨rfl,H3.out.below⟩
    | ok out =>
     change Hid (Calls _ _ _ _ fun e w'=>(∃ u,e=.returned (.tuple #[u,.int .i64 0])∧OwnM _ w' u out)∧_) at HMC
     gi_wp2_with (gi_at_call 26;refine (callsIn_wide.2 HMC.out).mono ?_;rintro e w8 ⟨⟨u8,rfl,ho⟩,hb⟩;have HO8:=Lib.hid ho;have H3:=Lib.hid (HN.out.later hb);clear hb ho)
     go_ret2
     rw [HMR.out]
     exact ⟨⟨_,rfl,owns_base HO8.out HN.out.below.size⟩,H3.out.below⟩
 ·have hz:=ne_zero hc
  have hz9:=ne_zero2 hc
  have HR:=Lib.hid (show prodX a b=.error (chk2 a b) by unfold prodX;rw [if_pos hc])
  generalize prodX a b=mk at *
  generalize chk2 a b=n at *
  clear hc hl
  go_enter Tryz.func28,Tryz.ntmps28
  go_wp2_with ((clear TK0;go_at_call 114;refine (HCK.out).mono ?_;rintro e w1 ⟨rfl,hb⟩;have N1:=Lib.hid (N0.out.later hb);clear hb))
  go_wp2
  go_ret2
  rw [HR.out]
  exact ⟨rfl,N1.out.below⟩
end Go.Proofs.YtigapglmipmbeaaGreatDoor
