/- (printed by mkstage2.py) Regions that draw their order, in stages; a slot may be read by a read and written by one of the others that waits for it: reads (guarded or not) may come as soon as their edges allow, also behind some of the others; the others come in any order that their edges allow. The reference of chapter 10: share and To (printed by mkmref.py). The reference of chapter 10: Of (printed by mkmref.py). The reference of chapter 10: Add (printed by mkmref.py). The reference of chapter 10: Fits (printed by mkmref.py). slices.MinFunc over candidates, and the comparison of two candidates. moment.Best: the walk. moment.Best where To has an error. The reference of chapter 10: Best. What Of, To and Best come to: the numbers and their sizes. rat: Parts, Int; the natural numbers' reference: both, number, Mul, Gcd. The reference's FromInt, small, Int. The reference's Pow of a positive number where the result fits. What the functions of chapter 10 and their references return, in plain rationals. The functions of chapter 8 on texts: what the program and the reference compute. No program in sight. Distributions in plain rationals: sums over keys, and what Delta, Factor, Moment, Push, Product and Mix obey. No program in sight. Distributions in plain rationals: Push, Product, moments, and what Make collects. No program in sight. Common denominators: how long sums of many numbers are. No program in sight. Losses and moments of distributions in plain rationals: groups, late outcomes, the conversion of moments. No program in sight. -/
import Derived.Test.YtigapglmipmbeaaGreatDoorLwMomentPure02
import Derived.Test.YtigapglmipmbeaaGreatDoorLwMomentPure14
import Derived.OwnWalkIn
import Derived.Test.YtigapglmipmbeaaGreatDoorLwMomentPure10
import Derived.Test.YtigapglmipmbeaaGreatDoorLwMomentPure12
import Derived.Test.YtigapglmipmbeaaGreatDoorLwMomentPure06
import Derived.Laws.Runes
import Derived.Test.YtigapglmipmbeaaGreatDoorLwMomentPure08
set_option maxRecDepth 100000
set_option maxHeartbeats 16000000
namespace Go.Proofs.YtigapglmipmbeaaGreatDoor.S2
open Go.RowKit Go.Proofs.YtigapglmipmbeaaGreatDoor
def bareRead (o:Oper):Bool:=pureRead { o with guard:=none }
def stageOk (ops:List Oper) (H:List Nat):Bool :=
 (List.range ops.length).all fun j=>match ops[j]? with
  | none=>true
  | some o=>ownEdges j o&&noDefer o&&noSel o&&(match o.guard with|none=>true|some (k,_)=>waitsOn o k) &&
   (if H.contains j then bareRead o&&farOf o o.dst else true) &&
   (List.range ops.length).all fun i=>i==j || (match ops[i]? with|none=>true|some h=>(waitsOn o i || (farOf o h.dst || (waitsOn h j&&!H.contains i)))&&(h.dst.isNone || h.dst != o.dst))
structure StOk (ops:List Oper) (H:List Nat) (j:Nat) (o:Oper):Prop where
 edges:ownEdges j o=true
 nd:noDefer o=true
 ns:noSel o=true
 gd:∀ k b,o.guard=some (k,b)→waitsOn o k=true
 rd:j∈H→bareRead o=true∧farOf o o.dst=true
 far:∀ i h,i≠j→ops[i]?=some h→(waitsOn o i=true∨farOf o h.dst=true∨(waitsOn h j=true∧i ∉ H))∧(h.dst=none∨h.dst≠o.dst)
theorem stage_at {ops:List Oper} {H:List Nat} (hok:stageOk ops H=true) {j:Nat} {o:Oper} (hj:ops[j]?=some o):StOk ops H j o:=by
 have hlt:j < ops.length:=(List.getElem?_eq_some_iff.1 hj).1
 have h2:=List.all_eq_true.1 hok j (List.mem_range.2 hlt)
 rw [hj] at h2
 simp only [Bool.and_eq_true] at h2
 obtain ⟨⟨⟨⟨⟨h3,h4⟩,h5⟩,h6⟩,h7⟩,h8⟩:=h2
 refine ⟨h3,h4,h5,fun k b hg=>?_,fun hm=>?_,fun i h hne hi=>?_⟩
 ·rw [hg] at h6;exact h6
 ·rw [if_pos (by simpa using hm)] at h7;simpa using h7
 ·have:=List.all_eq_true.1 h8 i (List.mem_range.2 (List.getElem?_eq_some_iff.1 hi).1)
  rw [hi] at this
  simp only [Bool.or_eq_true,beq_iff_eq,Bool.and_eq_true,Option.isNone_iff_eq_none,bne_iff_ne] at this
  rcases this with h|h
  ·exact absurd h hne
  ·refine ⟨?_,h.2⟩
   rcases h.1 with h1|h1|h1
   ·exact .inl h1
   ·exact .inr (.inl h1)
   ·exact .inr (.inr ⟨h1.1,by have h2:=h1.2;simpa using h2⟩)
section
variable {F:Fence} {n:Nat} {P:Program} {C:World→Prop} {ops:List Oper} {H:List Nat}
theorem bare_runs {o:Oper} {a:Act} {K':Act→World→Prop} {Q:Exit→Act→World→Prop} {w:World} {v:Value} (hp:bareRead o=true) (hrun:o.quietAtIn F n P a C w v) (hK:K' (a.put o.dst v) w)
  (ha:∀ f,o.about P w a.eval=some f→F.fn f):o.wpIn F n P a w K' Q:=pure_runs (o:={ o with guard:=none }) hp hrun hK ha
theorem wanted_of {o:Oper} {a b:Act} (h:∀ k bb,o.guard=some (k,bb)→∀ s,(ops[k]?).bind (·.dst)=some s→a.tmps[s]?=b.tmps[s]?) :
  Region.wanted o (yielded ops.toArray a.tmps)=Region.wanted o (yielded ops.toArray b.tmps):=by
 unfold Region.wanted
 cases hg:o.guard with
 | none=>rfl
 | some kb =>
  obtain ⟨k,bb⟩:=kb
  have:yielded ops.toArray a.tmps k=yielded ops.toArray b.tmps k:=by
   unfold yielded
   rw [List.getElem?_toArray]
   cases hd:(ops[k]?).bind (·.dst) with
   | none=>rfl
   | some s =>
    simp only [Option.bind_some]
    rw [h k bb hg s hd]
  simp only [this]
def HeadVal (F:Fence) (n:Nat) (P:Program) (C:World→Prop) (ops:List Oper) (o:Oper) (b:Act) (v:Value):Prop :=
 o.askedIn F P b C∧((Region.wanted o (yielded ops.toArray b.tmps)=true∧∀ w,C w→o.quietAtIn F n P b C w v)∨(Region.wanted o (yielded ops.toArray b.tmps)=false∧v=undef))
theorem slot_other {b:Act} {d:Option Tmp} {u:Value} {s:Tmp} (h:d≠some s):(b.put d u).tmps[s]?=b.tmps[s]?:=by
 cases d with
 | none=>rfl
 | some e=>rw [put_get,if_neg (fun h'=>h (by rw [h'.1]))]
theorem HeadVal.of {o:Oper} {a b:Act} {v:Value} (h:HeadVal F n P C ops o b v) (hns:noSel o=true) (hev:∀ x∈o.op.operands,a.eval x=b.eval x)
  (hg:∀ k bb,o.guard=some (k,bb)→∀ s,(ops[k]?).bind (·.dst)=some s→a.tmps[s]?=b.tmps[s]?):HeadVal F n P C ops o a v:=by
 obtain ⟨h1,h2⟩:=h
 obtain ⟨e1,e2⟩:=quietAt_of (P:=P) (sel_of hns) hev
 refine ⟨fun w hw f hf=>h1 w hw f (by rw [← e2];exact hf),?_⟩
 rw [wanted_of hg]
 rcases h2 with ⟨hw,hq⟩|h2
 ·refine .inl ⟨hw,fun w hw=>?_⟩
  have:=hq w hw
  unfold Oper.quietAtIn at this ⊢
  rw [e1]
  exact this
 ·exact .inr h2
def wpStage (F:Fence) (n:Nat) (P:Program) (ops:List Oper) (H:List Nat) (C:World→Prop) (waits:Nat→Bool) (Q':Act→World→Prop):Nat→Array Bool→Act→World→Prop
 | 0,LT,b,w=>Region.ready .any ops.toArray LT=[]∧Q' b w
 | f+1,LT,b,w =>
  (∃ i o,i∈H∧i∈Region.ready .any ops.toArray LT∧ops[i]?=some o∧∃ v,HeadVal F n P C ops o b v∧wpStage F n P ops H C waits Q' f (LT.setIfInBounds i true) (b.put o.dst v) w) ∨
  ((Region.ready .any ops.toArray LT=[]→Q' b w) ∧
   ∀ j∈Region.ready .any ops.toArray LT,∀ o,ops[j]?=some o→wpListIn F n P ops.toArray (fun e a' w'=>e=.normal∧(waits j=false→C w')∧wpStage F n P ops H C waits Q' f (LT.setIfInBounds j true) a' w') [o] b w)
def Owed (H:List Nat) (L LT:Array Bool) (i:Nat):Prop:=i∈H∧LT[i]?=some true∧L[i]?=some false
def Known (F:Fence) (n:Nat) (P:Program) (C:World→Prop) (ops:List Oper) (H:List Nat) (L LT:Array Bool) (b:Act):Prop :=
 ∀ i o,Owed H L LT i→ops[i]?=some o→∃ v,b.put o.dst v=b∧HeadVal F n P C ops o b v
theorem set_get {L:Array Bool} {j i:Nat} (hj:j < L.size):(L.setIfInBounds j true)[i]?=if j=i then some true else L[i]?:=by
 by_cases h:j=i
 ·subst h;rw [if_pos rfl,Array.getElem?_setIfInBounds_self_of_lt hj]
 ·rw [if_neg h,Array.getElem?_setIfInBounds_ne h]
theorem get_or {L:Array Bool} {i:Nat} (h:i < L.size):L[i]?=some true∨L[i]?=some false:=by
 rw [Array.getElem?_eq_getElem h]
 cases L[i]<;>simp
theorem owed_agree (hok:stageOk ops H=true) {L LT:Array Bool} (_hs1:L.size=ops.length) {a b:Act} (hl:Lack ops (Owed H L LT) a b) {j:Nat} {o:Oper} (hoj:ops[j]?=some o) (hself:Owed H L LT j→farOf o o.dst=true)
  (hall:∀ k,waitsOn o k=true→L[k]?=some true):(∀ x∈o.op.operands,a.eval x=b.eval x)∧∀ k bb,o.guard=some (k,bb)→∀ s,(ops[k]?).bind (·.dst)=some s→a.tmps[s]?=b.tmps[s]?:=by
 have hS:=stage_at hok hoj
 refine ⟨hl.eval fun i h' hi hh d hd=>?_,fun k bb hg s hs=>hl.same s fun i h' hi hh e=>?_⟩
 ·by_cases hij:i=j
  ·subst hij
   rw [hoj] at hh;cases hh
   exact farOf_spec (hself hi) d hd
  ·rcases (hS.far i h' hij hh).1 with hw|hf|hf
   ·have:=hall i hw
    rw [hi.2.2] at this;cases this
   ·exact farOf_spec hf d hd
   ·exact absurd hi.1 hf.2
 ·have hk:=hall k (hS.gd k bb hg)
  have hik:i≠k:=fun e'=>by subst e';rw [hi.2.2] at hk;cases hk
  obtain ⟨ok,hok',hd⟩:=Option.bind_eq_some_iff.1 hs
  rcases ((stage_at hok hok').far i h' hik hh).2 with h0|h0
  ·rw [h0] at e;cases e
  ·exact h0 (by rw [e,hd])
theorem known_put (hok:stageOk ops H=true) {L LT:Array Bool} {b:Act} (hk:Known F n P C ops H L LT b) {j:Nat} {o:Oper} (hoj:ops[j]?=some o) (hj:LT[j]?=some false)
  (hcl:∀ i o,i∈H→LT[i]?=some true→ops[i]?=some o→∀ k,waitsOn o k=true→LT[k]?=some true) (u:Value) {i:Nat} {oi:Oper} (hi:Owed H L LT i) (hoi:ops[i]?=some oi) (hno:waitsOn o i=true→j∈H) :
  ∃ v,(b.put o.dst u).put oi.dst v=b.put o.dst u∧HeadVal F n P C ops oi (b.put o.dst u) v:=by
 obtain ⟨v,h1,h2⟩:=hk i oi hi hoi
 have hij:i≠j:=fun e=>by subst e;rw [hi.2.1] at hj;cases hj
 have hSi:=stage_at hok hoi
 have hSj:=stage_at hok hoj
 have hw:∀ k,waitsOn oi k=true→k≠j:=fun k hk e=>by
  subst e
  have:=hcl i oi hi.1 hi.2.1 hoi k hk
  rw [hj] at this;cases this
 have hfar:=(hSi.far j o (fun e=>hij e.symm) hoj)
 refine ⟨v,?_,h2.of hSi.ns (operands_far (farOf_spec ?_)) fun k bb hg s hs=>slot_other fun e=>?_⟩
 ·rcases hfar.2 with h|h
  ·rw [h];exact h1
  ·have hc:=Act.put_comm b (x:=oi.dst) (y:=o.dst) v u (fun d h1 h2=>h (h2.trans h1.symm))
   rw [← hc,h1]
 ·rcases hfar.1 with h|h|h
  ·exact absurd rfl (hw j h)
  ·exact h
  ·exact absurd (hno h.1) h.2
 ·have hkj:=hw k (hSi.gd k bb hg)
  obtain ⟨ok,hok',hd⟩:=Option.bind_eq_some_iff.1 hs
  rcases (hSj.far k ok hkj hok').2 with h0|h0
  ·rw [h0] at hd;cases hd
  ·exact h0 (by rw [e,hd])
structure StInv (F:Fence) (n:Nat) (P:Program) (C:World→Prop) (ops:List Oper) (H:List Nat) (L LT:Array Bool) (a b:Act) (w:World):Prop where
 s1:L.size=ops.length
 s2:LT.size=ops.length
 same:∀ i:Nat,i < ops.length→i ∉ H→L[i]?=LT[i]?
 le:∀ i:Nat,L[i]?=some true→LT[i]?=some true
 closed:∀ (i:Nat) (o:Oper),i∈H→LT[i]?=some true→ops[i]?=some o→∀ k,waitsOn o k=true→LT[k]?=some true
 known:(∀ i∈H,i < ops.length→L[i]?=some true)∨(C w∧Known F n P C ops H L LT b)
 lack:Lack ops (Owed H L LT) a b
theorem StInv.hoist (hok:stageOk ops H=true) {L LT:Array Bool} {a b:Act} {w:World} (h:StInv F n P C ops H L LT a b w) {i:Nat} {o:Oper} (hi:i∈H) (hoi:ops[i]?=some o) (hLT:LT[i]?=some false)
  (hall:∀ k,waitsOn o k=true→LT[k]?=some true) {v:Value} (hv:HeadVal F n P C ops o b v):StInv F n P C ops H L (LT.setIfInBounds i true) a (b.put o.dst v) w:=by
 have hil:=(List.getElem?_eq_some_iff.1 hoi).1
 have hlt:i < LT.size:=by rw [h.s2];exact hil
 have hLi:L[i]?=some false:=by
  rcases get_or (L:=L) (i:=i) (by rw [h.s1];exact hil) with e|e
  ·have:=h.le i e;rw [hLT] at this;cases this
  ·exact e
 have hS:=stage_at hok hoi
 have hwi:waitsOn o i=true→False:=fun e=>by have:=hall i e;rw [hLT] at this;cases this
 refine ⟨h.s1,by simpa using h.s2,fun k hk hkH=>?_,fun k hk=>?_,fun k ok hk hkT hok' j hj=>?_,?_,?_⟩
 ·rw [set_get hlt,if_neg (fun e=>hkH (by rw [← e];exact hi))];exact h.same k hk hkH
 ·rw [set_get hlt];split
  ·rfl
  ·exact h.le k hk
 ·rw [set_get hlt]
  by_cases e:i=j
  ·rw [if_pos e]
  ·rw [if_neg e]
   by_cases e2:i=k
   ·subst e2;rw [hoi] at hok';cases hok';exact hall j hj
   ·rw [set_get hlt,if_neg e2] at hkT;exact h.closed k ok hk hkT hok' j hj
 ·rcases h.known with hk|⟨hC,hk⟩
  ·have:=hk i hi hil;rw [hLi] at this;cases this
  ·refine .inr ⟨hC,fun k ok hkO hok'=>?_⟩
   by_cases e:i=k
   ·subst e
    rw [hoi] at hok';cases hok'
    refine ⟨v,put_put_same _ _ _,hv.of hS.ns (operands_far (farOf_spec (hS.rd hi).2)) fun k bb hg s hs=>slot_other fun e=>?_⟩
    have hki:k≠i:=fun e'=>by subst e';exact hwi (hS.gd k bb hg)
    obtain ⟨ok,hok',hd⟩:=Option.bind_eq_some_iff.1 hs
    rcases (hS.far k ok hki hok').2 with h0|h0
    ·rw [h0] at hd;cases hd
    ·exact h0 (by rw [e,hd])
   ·refine known_put hok hk hoi hLT h.closed v ⟨hkO.1,?_,hkO.2.2⟩ hok' (fun _=>hi)
    have:=hkO.2.1
    rwa [set_get hlt,if_neg e] at this
 ·refine ⟨h.lack.defers.trans (put_defers _ _ _).symm,h.lack.size.trans (put_size _ _ _).symm,fun s hs=>?_⟩
  have h1:=h.lack.same s fun k ok hk hok'=>hs k ok ⟨hk.1,by rw [set_get hlt];split;rfl;exact hk.2.1,hk.2.2⟩ hok'
  rw [h1,slot_other (hs i o ⟨hi,by rw [set_get hlt,if_pos rfl],hLi⟩ hoi)]
theorem StInv.paid (_hok:stageOk ops H=true) {L LT:Array Bool} {a b:Act} {w:World} (h:StInv F n P C ops H L LT a b w) {j:Nat} {o:Oper} (hoj:ops[j]?=some o) (hO:Owed H L LT j) {v:Value} (hb:b.put o.dst v=b) :
  StInv F n P C ops H (L.setIfInBounds j true) LT (a.put o.dst v) b w:=by
 have hjl:j < L.size:=by rw [h.s1];exact (List.getElem?_eq_some_iff.1 hoj).1
 have sub:∀ k,Owed H (L.setIfInBounds j true) LT k→Owed H L LT k:=fun k hk=>by
  refine ⟨hk.1,hk.2.1,?_⟩
  have:=hk.2.2
  rw [set_get hjl] at this
  split at this
  ·cases this
  ·exact this
 refine ⟨by simpa using h.s1,h.s2,fun k hk hkH=>?_,fun k hk=>?_,h.closed,?_,?_⟩
 ·rw [set_get hjl,if_neg (fun e=>hkH (by rw [← e];exact hO.1))];exact h.same k hk hkH
 ·rw [set_get hjl] at hk
  split at hk
  ·rename_i e;rw [← e];exact hO.2.1
  ·exact h.le k hk
 ·rcases h.known with hk|⟨hC,hk⟩
  ·exact .inl fun k hkH hkl=>by rw [set_get hjl];split;rfl;exact hk k hkH hkl
  ·exact .inr ⟨hC,fun k ok hkO=>hk k ok (sub k hkO)⟩
 ·refine h.lack.head hoj hb fun k hk=>?_
  by_cases e:j=k
  ·exact .inl e.symm
  ·exact .inr ⟨hk.1,hk.2.1,by rw [set_get hjl,if_neg e];exact hk.2.2⟩
theorem StInv.step (hok:stageOk ops H=true) {L LT:Array Bool} {a b a' b':Act} {w w':World} (h:StInv F n P C ops H L LT a b w) {j:Nat} {o:Oper} (hoj:ops[j]?=some o) (_hL:L[j]?=some false) (hLT:LT[j]?=some false)
  (hall:∀ k,waitsOn o k=true→L[k]?=some true) {u:Value} {b0:Act} (hkn:Known F n P C ops H L LT b→Known F n P C ops H L LT b0) (hb':b'=b0.put o.dst u) (hl':Lack ops (Owed H L LT) a' b') (hC':C w'∨∀ i∈H,i < ops.length→waitsOn o i=true) :
  StInv F n P C ops H (L.setIfInBounds j true) (LT.setIfInBounds j true) a' b' w':=by
 have hjl:j < L.size:=by rw [h.s1];exact (List.getElem?_eq_some_iff.1 hoj).1
 have hjt:j < LT.size:=by rw [h.s2];exact (List.getElem?_eq_some_iff.1 hoj).1
 have sub:∀ k,Owed H (L.setIfInBounds j true) (LT.setIfInBounds j true) k→Owed H L LT k:=fun k hk=>by
  have h1:=hk.2.1
  have h2:=hk.2.2
  rw [set_get hjl] at h2
  rw [set_get hjt] at h1
  split at h2
  ·cases h2
  ·rename_i e;rw [if_neg e] at h1;exact ⟨hk.1,h1,h2⟩
 refine ⟨by simpa using h.s1,by simpa using h.s2,fun k hk hkH=>?_,fun k hk=>?_,fun k ok hk hkT hok' m hm=>?_,?_,?_⟩
 ·rw [set_get hjl,set_get hjt];split
  ·rfl
  ·exact h.same k hk hkH
 ·rw [set_get hjl] at hk;rw [set_get hjt]
  split
  ·rfl
  ·rename_i e;rw [if_neg e] at hk;exact h.le k hk
 ·rw [set_get hjt]
  split
  ·rfl
  ·by_cases e2:j=k
   ·subst e2;rw [hoj] at hok';cases hok';exact h.le m (hall m hm)
   ·rw [set_get hjt,if_neg e2] at hkT;exact h.closed k ok hk hkT hok' m hm
 ·rcases h.known with hk|⟨hC,hk⟩
  ·exact .inl fun k hkH hkl=>by rw [set_get hjl];split;rfl;exact hk k hkH hkl
  ·rcases hC' with hC'|hC'
   ·refine .inr ⟨hC',fun k ok hkO hok'=>?_⟩
    rw [hb']
    exact known_put hok (hkn hk) hoj hLT h.closed u (sub k hkO) hok' (fun hw=>by
     have h1:=hall k hw
     have h2:=(sub k hkO).2.2
     rw [h1] at h2;cases h2)
   ·exact .inl fun k hkH hkl=>by rw [set_get hjl];split;rfl;exact hall k (hC' k hkH hkl)
 ·exact hl'.mono fun k hkl hk=>by
   refine ⟨hk.1,?_,?_⟩
   ·rw [set_get hjt];split;rfl;exact hk.2.1
   ·rw [set_get hjl]
    split
    ·rename_i e;subst e;have:=hk.2.1;rw [hLT] at this;cases this
    ·exact hk.2.2
theorem getD_false {L:Array Bool} {i:Nat} (hi:i < L.size) (h:L.getD i true=false):L[i]?=some false:=by
 rcases get_or hi with e|e
 ·rw [getD_of e] at h;cases h
 ·exact e
theorem ready_exists (hok:stageOk ops H=true) {L:Array Bool} (hsz:L.size=ops.length) (hu:unlisted ops.length L≠0):∃ i,i∈Region.ready .any ops.toArray L:=by
 have hne:∃ i,i < ops.length∧L.getD i true=false:=by
  have hpos:0 < ((List.range ops.length).filter fun i=>!L.getD i true).length:=by unfold unlisted at hu;omega
  obtain ⟨i,hi⟩:=List.exists_mem_of_length_pos hpos
  obtain ⟨g1,g2⟩:=List.mem_filter.1 hi
  exact ⟨i,List.mem_range.1 g1,by simpa using g2⟩
 obtain ⟨i0,⟨hi0,hu0⟩,hmin⟩:=exists_least (p:=fun i=>i < ops.length∧L.getD i true=false) hne
 have ho:ops[i0]?=some ops[i0]:=by simp [hi0]
 refine ⟨i0,mem_ready.2 ⟨hu0,ops[i0],by simp [hi0],fun e he hb=>?_⟩⟩
 have hlt:=ownEdges_spec (stage_at hok ho).edges e he hb
 have hnot:¬ L.getD e.on true=false:=fun hh=>by have:=hmin e.on ⟨by omega,hh⟩;omega
 exact getD_of (listed_of (k:=ops.length) (by omega) (by omega) (.inl (by simpa using hnot)))
theorem ready_none {L:Array Bool} (hsz:L.size=ops.length) (hu:unlisted ops.length L=0):Region.ready .any ops.toArray L=[]:=by
 rw [List.eq_nil_iff_forall_not_mem]
 intro j hj
 obtain ⟨hj1,o,ho,_⟩:=mem_ready.1 hj
 have hlt:j < ops.length:=by have:=(Array.getElem?_eq_some_iff.1 ho).1;simpa using this
 have:=listed_of (k:=ops.length) (by omega) hlt (.inr (unlisted_zero hu (by omega) j hlt))
 rw [getD_of this] at hj1;cases hj1
theorem ready_facts (hok:stageOk ops H=true) {L:Array Bool} (hsz:L.size=ops.length) {j:Nat} (hj:j∈Region.ready .any ops.toArray L):∃ o,ops[j]?=some o∧ops.toArray[j]?=some o∧L[j]?=some false∧∀ k,waitsOn o k=true→L[k]?=some true:=by
 obtain ⟨hj1,o,ho,hall⟩:=mem_ready.1 hj
 have hjl:j < ops.length:=by have:=(Array.getElem?_eq_some_iff.1 ho).1;simpa using this
 have hoj:ops[j]?=some o:=by rw [← ho];simp
 refine ⟨o,hoj,ho,getD_false (by omega) hj1,fun k hk=>?_⟩
 obtain ⟨e,he,hb,hon⟩:=waitsOn_spec hk
 have h1:=hall e he hb
 have hel:=ownEdges_spec (stage_at hok hoj).edges e he hb
 rw [hon] at h1 hel
 exact listed_of (k:=ops.length) (by omega) (by omega) (.inr h1)
theorem ready_mono (hok:stageOk ops H=true) {L LT:Array Bool} (hs1:L.size=ops.length) (_hs2:LT.size=ops.length) (hle:∀ i:Nat,L[i]?=some true→LT[i]?=some true) {j:Nat} (hj:j∈Region.ready .any ops.toArray L) (hLT:LT[j]?=some false):j∈Region.ready .any ops.toArray LT:=by
 obtain ⟨o,hoj,ho,hL,hall⟩:=ready_facts hok hs1 hj
 refine mem_ready.2 ⟨getD_of hLT,o,ho,fun e he hb=>?_⟩
 have hw:waitsOn o e.on=true:=by
  unfold waitsOn
  rw [Array.any_eq_true']
  exact ⟨e,he,by simp [hb]⟩
 exact getD_of (hle _ (hall _ hw))
theorem Known.defers {L LT:Array Bool} {b:Act} (h:Known F n P C ops H L LT b) (ds:List Deferred):Known F n P C ops H L LT { b with defers:=ds }:=by
 intro i o hi ho
 obtain ⟨u,h2,h3⟩:=h i o hi ho
 refine ⟨u,?_,h3⟩
 cases hd:o.dst with
 | none=>rfl
 | some d =>
  rw [hd] at h2
  have:=congrArg Act.tmps h2
  simp only [Act.put] at this ⊢
  rw [this]
theorem stage_paid (hok:stageOk ops H=true) {L LT:Array Bool} {a b:Act} {w:World} (hI:StInv F n P C ops H L LT a b w) {j:Nat} {o:Oper} (hO:Owed H L LT j) (hoj:ops[j]?=some o) (ho:ops.toArray[j]?=some o)
  (hall:∀ k,waitsOn o k=true→L[k]?=some true) {Q:Exit→Act→World→Prop} {K:Act→World→Prop} (hK:∀ v,b.put o.dst v=b→K (a.put o.dst v) w):wpOpIn F n P ops.toArray Q j K a w:=by
 have hS:=stage_at hok hoj
 rcases hI.known with hk|⟨hC,hk⟩
 ·have:=hk j hO.1 (List.getElem?_eq_some_iff.1 hoj).1;rw [hO.2.2] at this;cases this
 ·obtain ⟨v,hb,hv⟩:=hk j o hO hoj
  obtain ⟨hev,hgd⟩:=owed_agree hok hI.s1 hI.lack hoj (fun h=>(hS.rd h.1).2) hall
  obtain ⟨hask,hcase⟩:=hv.of hS.ns hev hgd
  unfold wpOpIn
  rw [ho]
  dsimp only
  rcases hcase with ⟨hw,hq⟩|⟨hw,rfl⟩
  ·rw [if_pos hw]
   exact bare_runs (hS.rd hO.1).1 (hq w hC) (hK v hb) (fun f hf=>hask w hC f hf)
  ·rw [if_neg (by rw [hw];simp)]
   exact ⟨fun f hf=>hask w hC f hf,hK _ hb⟩
theorem stage_run (hok:stageOk ops H=true) (waits:Nat→Bool) (hw:∀ j o,ops[j]?=some o→waits j=true→∀ i∈H,i < ops.length→waitsOn o i=true) (Q:Exit→Act→World→Prop):∀ (g f:Nat) (L LT:Array Bool) (a b:Act) (w:World),
  unlisted ops.length L=g→unlisted ops.length LT=f→StInv F n P C ops H L LT a b w→wpStage F n P ops H C waits (fun a w=>Q .normal a w) f LT b w→wpAnyIn F n P .any ops.toArray Q g L a w:=by
 intro g
 induction g with
 | zero =>
  intro f L LT a b w hg hf hI h
  have hall:∀ i,i < ops.length→L[i]?=some true:=fun i hi=>listed_of (k:=ops.length) (by rw [hI.s1];omega) hi (.inr (unlisted_zero hg (by rw [hI.s1];omega) i hi))
  have hut:unlisted ops.length LT=0:=by
   unfold unlisted
   rw [List.length_eq_zero_iff,List.filter_eq_nil_iff]
   intro i hi
   have:=hI.le i (hall i (List.mem_range.1 hi))
   simp [Array.getD_eq_getD_getElem?,this]
  rw [hut] at hf
  subst hf
  refine ⟨ready_none hI.s1 hg,?_⟩
  rw [hI.lack.full fun i hi hn=>by have:=hall i hi;rw [hn.2.2] at this;cases this]
  exact h.2
 | succ g ih =>
  intro f
  have less:∀ {L:Array Bool} {j k:Nat},L.size=ops.length→j < ops.length→L[j]?=some false→unlisted ops.length L=k+1→unlisted ops.length (L.setIfInBounds j true)=k:=fun hsz hj hf hu=>by
   have:=unlisted_set hj (by omega) (getD_of (d:=true) hf)
   omega
  induction f with
  | zero =>
   intro L LT a b w hg hf hI h
   obtain ⟨r0,hr0⟩:=ready_exists hok hI.s1 (by omega)
   refine ⟨fun e=>(by rw [e] at hr0;cases hr0),fun j hj=>?_⟩
   obtain ⟨o,hoj,ho,hL,hall⟩:=ready_facts hok hI.s1 hj
   have hjl:=(List.getElem?_eq_some_iff.1 hoj).1
   have hLT:LT[j]?=some true:=listed_of (k:=ops.length) (by rw [hI.s2];omega) hjl (.inr (unlisted_zero hf (by rw [hI.s2];omega) j hjl))
   have hjH:j∈H:=by
    by_cases hm:j∈H
    ·exact hm
    ·have:=hI.same j hjl hm;rw [hL,hLT] at this;cases this
   have hO:Owed H L LT j:=⟨hjH,hLT,hL⟩
   exact stage_paid hok hI hO hoj ho hall fun v hb=>ih 0 _ LT _ b w (less hI.s1 hjl hL hg) hf (hI.paid hok hoj hO hb) h
  | succ f ihf =>
   intro L LT a b w hg hf hI h
   rcases h with ⟨i,o,hiH,hir,hoi,v,hv,hst⟩|⟨h1,h2⟩
   ·obtain ⟨o',hoi',_,hLTi,halli⟩:=ready_facts hok hI.s2 hir
    rw [hoi] at hoi';cases hoi'
    have hil:=(List.getElem?_eq_some_iff.1 hoi).1
    exact ihf L _ a _ w hg (less hI.s2 hil hLTi hf) (hI.hoist hok hiH hoi hLTi halli hv) hst
   ·obtain ⟨r0,hr0⟩:=ready_exists hok hI.s1 (by omega)
    refine ⟨fun e=>(by rw [e] at hr0;cases hr0),fun j hj=>?_⟩
    obtain ⟨o,hoj,ho,hL,hall⟩:=ready_facts hok hI.s1 hj
    have hjl:=(List.getElem?_eq_some_iff.1 hoj).1
    rcases get_or (L:=LT) (i:=j) (by rw [hI.s2];exact hjl) with hLT|hLT
    ·have hjH:j∈H:=by
      by_cases hm:j∈H
      ·exact hm
      ·have:=hI.same j hjl hm;rw [hL,hLT] at this;cases this
     have hO:Owed H L LT j:=⟨hjH,hLT,hL⟩
     exact stage_paid hok hI hO hoj ho hall fun v hb=>ih (f+1) _ LT _ b w (less hI.s1 hjl hL hg) hf (hI.paid hok hoj hO hb) (.inr ⟨h1,h2⟩)
    ·have hrT:=ready_mono hok hI.s1 hI.s2 hI.le hj hLT
     have h3:=h2 j hrT o hoj
     have hS:=stage_at hok hoj
     obtain ⟨hev,hgd⟩:=owed_agree hok hI.s1 hI.lack hoj (fun h=>by have:=h.2.1;rw [hLT] at this;cases this) hall
     obtain ⟨e1,e2⟩:=quietAt_of (P:=P) (sel_of hS.ns) hev
     have hC':∀ w',(waits j=false→C w')→(C w'∨∀ i∈H,i < ops.length→waitsOn o i=true):=fun w' h=>by
      cases hwj:waits j with
      | true=>exact .inr (hw j o hoj hwj)
      | false=>exact .inl (h hwj)
     simp only [wpListIn] at h3
     unfold wpOpIn
     rw [ho]
     dsimp only
     rw [wanted_of hgd]
     by_cases hwt:Region.wanted o (yielded ops.toArray b.tmps)=true
     ·rw [if_pos hwt] at h3 ⊢
      refine wpIn_move hS.nd e1 (e2 w) (fun v w' h'=>?_) (fun d w' h'=>?_) (fun e a w h=>h.1) h3
      ·exact ih f _ _ _ _ w' (less hI.s1 hjl hL hg) (less hI.s2 hjl hLT hf) (hI.step hok hoj hL hLT hall id rfl (hI.lack.tail _ _) (hC' w' h'.2.1)) h'.2.2
      ·exact ih f _ _ _ _ w' (less hI.s1 hjl hL hg) (less hI.s2 hjl hLT hf) (hI.step hok hoj hL hLT hall (fun hk=>hk.defers _) rfl ((hI.lack.defer d).tail _ _) (hC' w' h'.2.1)) h'.2.2
     ·rw [if_neg hwt] at h3 ⊢
      obtain ⟨h4,h5⟩:=h3
      exact ⟨fun f hf=>h4 f (by rw [← e2 w];exact hf),ih f _ _ _ _ w (less hI.s1 hjl hL hg) (less hI.s2 hjl hLT hf) (hI.step hok hoj hL hLT hall id rfl (hI.lack.tail _ _) (hC' w h5.2.1)) h5.2.2⟩
def hoistOk (ops:List Oper) (H:List Nat):List Nat→Array Bool→Bool
 | [],_=>true
 | i::l,LT=>H.contains i&&!(LT.getD i true)&&(match ops[i]? with|none=>false|some o=>o.after.all fun e=>!Region.binds .any e || LT.getD e.on false)&&hoistOk ops H l (LT.setIfInBounds i true)
def listAll (hs:List Nat) (LT:Array Bool):Array Bool:=hs.foldl (fun LT i=>LT.setIfInBounds i true) LT
theorem stage_reads {waits:Nat→Bool} {Q':Act→World→Prop} {w:World}:∀ (hs:List Nat) (f:Nat) (LT:Array Bool) (b:Act),hoistOk ops H hs LT=true →
  wpQuietIn F n P ops.toArray C (fun b'=>wpStage F n P ops H C waits Q' f (listAll hs LT) b' w) (pickOps ops hs) b→wpStage F n P ops H C waits Q' (f+hs.length) LT b w
 | [],f,LT,b,_,h=>h
 | i::l,f,LT,b,hh,h=>by
  simp only [hoistOk,Bool.and_eq_true,Bool.not_eq_true'] at hh
  obtain ⟨⟨⟨h1,h2⟩,h3⟩,h4⟩:=hh
  cases ho:ops[i]? with
  | none=>rw [ho] at h3;cases h3
  | some o =>
   rw [ho] at h3
   rw [pick_cons,ho] at h
   obtain ⟨hask,h⟩:=h
   have hr:i∈Region.ready .any ops.toArray LT:=mem_ready.2 ⟨h2,o,by simpa using ho,fun e he hb=>by
    have:=Array.all_eq_true_iff_forall_mem.1 h3 e he
    rw [hb] at this
    simpa using this⟩
   have hH:i∈H:=by simpa using h1
   by_cases hwt:Region.wanted o (yielded ops.toArray b.tmps)=true
   ·rw [if_pos hwt] at h
    obtain ⟨v,hv,h⟩:=h
    exact .inl ⟨i,o,hH,hr,ho,v,⟨hask,.inl ⟨hwt,hv⟩⟩,stage_reads l f _ _ h4 h⟩
   ·rw [if_neg hwt] at h
    exact .inl ⟨i,o,hH,hr,ho,undef,⟨hask,.inr ⟨by simpa using hwt,rfl⟩⟩,stage_reads l f _ _ h4 h⟩
def StagePost (F:Fence) (n:Nat) (P:Program) (ops:List Oper) (H:List Nat) (C:World→Prop) (waits:Nat→Bool) (Q':Act→World→Prop) (f:Nat) (LT:Array Bool) (i:Nat):Exit→Act→World→Prop :=
 fun e a' w'=>e=.normal∧(waits i=false→C w')∧wpStage F n P ops H C waits Q' f (LT.setIfInBounds i true) a' w'
theorem stage_post {waits:Nat→Bool} {Q':Act→World→Prop} {f:Nat} {LT:Array Bool} {i:Nat} {a:Act} {w:World} (hC:C w) (h:wpStage F n P ops H C waits Q' f (LT.setIfInBounds i true) a w):StagePost F n P ops H C waits Q' f LT i .normal a w:=⟨rfl,fun _=>hC,h⟩
theorem stage_last {waits:Nat→Bool} {Q':Act→World→Prop} {f:Nat} {LT:Array Bool} {i:Nat} {a:Act} {w:World} (hw:waits i=true) (h:wpStage F n P ops H C waits Q' f (LT.setIfInBounds i true) a w):StagePost F n P ops H C waits Q' f LT i .normal a w:=⟨rfl,fun e=>(by rw [hw] at e;cases e),h⟩
theorem stage_one {waits:Nat→Bool} {Q':Act→World→Prop} {f:Nat} {LT:Array Bool} {a:Act} {w:World} (i:Nat) {o:Oper} (hr:Region.ready .any ops.toArray LT=[i]) (ho:ops[i]?=some o)
  (h:wpListIn F n P ops.toArray (StagePost F n P ops H C waits Q' f LT i) [o] a w):wpStage F n P ops H C waits Q' (f+1) LT a w :=
 .inr ⟨fun e=>(by rw [hr] at e;cases e),fun j hj o' ho'=>by
  rw [hr] at hj
  obtain rfl:j=i:=by simpa using hj
  rw [ho] at ho'
  cases ho'
  exact h⟩
theorem stage_two {waits:Nat→Bool} {Q':Act→World→Prop} {f:Nat} {LT:Array Bool} {a:Act} {w:World} (i j:Nat) {o o2:Oper} (hr:Region.ready .any ops.toArray LT=[i,j]) (ho:ops[i]?=some o) (ho2:ops[j]?=some o2)
  (h:wpListIn F n P ops.toArray (StagePost F n P ops H C waits Q' f LT i) [o] a w) (h2:wpListIn F n P ops.toArray (StagePost F n P ops H C waits Q' f LT j) [o2] a w):wpStage F n P ops H C waits Q' (f+1) LT a w :=
 .inr ⟨fun e=>(by rw [hr] at e;cases e),fun k hk o' ho'=>by
  rw [hr] at hk
  simp only [List.mem_cons,List.not_mem_nil,or_false] at hk
  rcases hk with rfl|rfl
  ·rw [ho] at ho';cases ho';exact h
  ·rw [ho2] at ho';cases ho';exact h2⟩
theorem stage_done {waits:Nat→Bool} {Q':Act→World→Prop} {LT:Array Bool} {a:Act} {w:World} (hr:Region.ready .any ops.toArray LT=[]) (h:Q' a w):wpStage F n P ops H C waits Q' 0 LT a w:=⟨hr,h⟩
def stageAll (ops:List Oper) (H ws:List Nat):Bool :=
 stageOk ops H&&ws.all fun j=>match ops[j]? with|none=>true|some o=>H.all fun i=>waitsOn o i
theorem wpIn_stage {id:Nat} {Q:Exit→Act→World→Prop} {a:Act} {w:World} (C:World→Prop) (H ws:List Nat) (hm:P.follows .mixedOrders=true) (hB:stageAll ops H ws=true) (hC:C w.drew)
  (h:wpStage F n P ops H C (fun i=>ws.contains i) (fun a w=>Q .normal a w) ops.length (Array.replicate ops.length false) a w.drew):(Code.region id ops.toArray true).wpIn F n P Q a w:=by
 simp only [stageAll,Bool.and_eq_true] at hB
 obtain ⟨hok,hws⟩:=hB
 refine wpIn_region_any hm ?_
 have hun:unlisted ops.length (Array.replicate ops.length false)=ops.length:=by
  unfold unlisted
  rw [List.filter_eq_self.2 (fun i hi=>?_),List.length_range]
  have:=List.mem_range.1 hi
  simp only [Array.getD_eq_getD_getElem?]
  rw [Array.getElem?_replicate,if_pos (by omega)];rfl
 have hno:∀ i:Nat,(Array.replicate ops.length false)[i]?≠some true:=fun i=>by
  rw [Array.getElem?_replicate];split<;>simp
 have hrun:=stage_run (F:=F) (n:=n) (P:=P) (C:=C) hok (fun i=>ws.contains i) (fun j o ho hj i hi _=>by
   have:=List.all_eq_true.1 hws j (by simpa using hj)
   rw [ho] at this
   exact List.all_eq_true.1 this i hi) Q ops.length ops.length (Array.replicate ops.length false) (Array.replicate ops.length false) a a w.drew hun hun
  ⟨by simp,by simp,fun _ _ _=>rfl,fun _ h=>h,fun i o _ h=>absurd h (hno i),.inr ⟨hC,fun i o hO=>absurd hO.2.1 (hno i)⟩,⟨rfl,rfl,fun _ _=>rfl⟩⟩ h
 simpa using hrun
end
end Go.Proofs.YtigapglmipmbeaaGreatDoor.S2
namespace Go.Proofs.YtigapglmipmbeaaGreatDoor
open Go.RowKit Go.Shelf
open Lim
attribute [local go_sem] Oper.semAt_some
namespace S2
end S2
end Go.Proofs.YtigapglmipmbeaaGreatDoor
namespace Go.Proofs.YtigapglmipmbeaaGreatDoor
open Go.RowKit Go.Shelf
open Lim
attribute [local go_sem] Oper.semAt_some
namespace S2
end S2
end Go.Proofs.YtigapglmipmbeaaGreatDoor
namespace Go.Proofs.YtigapglmipmbeaaGreatDoor
open Go.RowKit Go.Shelf
open Lim
attribute [local go_sem] Oper.semAt_some
end Go.Proofs.YtigapglmipmbeaaGreatDoor
namespace Go.Proofs.YtigapglmipmbeaaGreatDoor
open Go.RowKit Go.Shelf
open Lim
def ofX (F:Rat) (i:Nat):Rat:=F ^ ((i:Int)+2)
def ofY (F:Rat) (i:Nat):Rat:=F ^ (-1 - (i:Int))
def ofM (F l:Rat):Nat→Rat:=fun i=>if i=7 then l else (ofX F i+ofY F i)*(F+1)⁻¹
theorem ofM_i (F l:Rat) {i:Nat} (h:i < 7):ofM F l i=(ofX F i+ofY F i)*(F+1)⁻¹:=if_neg (by omega)
theorem sz_ofX {F:Rat} {k i:Nat} (h:Sz k F) (hi:i < 7):Sz (k*8+1) (ofX F i) :=
 (Sz.zpow h ((i:Int)+2)).mono (by have:=Nat.mul_le_mul_left k (show ((i:Int)+2).natAbs≤8 by omega);omega)
theorem sz_ofY {F:Rat} {k i:Nat} (h:Sz k F) (hi:i < 7):Sz (k*7+1) (ofY F i) :=
 (Sz.zpow h (-1 - (i:Int))).mono (by have:=Nat.mul_le_mul_left k (show (-1 - (i:Int)).natAbs≤7 by omega);omega)
theorem sz_ofS {F:Rat} {k i:Nat} (h:Sz k F) (hi:i < 7):Sz (k*15+3) (ofX F i+ofY F i) :=
 ((sz_ofX h hi).add (sz_ofY h hi)).mono (by omega)
theorem sz_next {F:Rat} {k:Nat} (h:Sz k F):Sz (k+2) (F+1):=(h.add Sz.one).mono (by omega)
theorem sz_ofM {F l:Rat} {k j:Nat} (h:Sz k F) (hl:Sz j l) (hj:j≤k*16+5):SzC (k*16+5) (ofM F l):=by
 intro i hi
 by_cases h7:i=7
 ·subst h7;exact hl.mono hj
 ·rw [ofM_i F l (by omega)]
  exact ((sz_ofS h (by omega)).mul (sz_next h).inv).mono (by omega)
theorem next_ne {F:Rat} (h:1≤F):F+1≠0:=by grind
theorem ne_of_one {F:Rat} (h:1≤F):F≠0:=by grind
def shA (i:Nat):Rat:=(((i+1:Nat):Int):Rat) ^ (((i+1:Nat):Int))
def shB (i:Nat):Rat:=(((i+2:Nat):Int):Rat) ^ (((i+2:Nat):Int))
def shM (i:Nat):Rat:=shA i*(shB i)⁻¹
def pwM (F:Rat) (i:Nat):Rat:=F ^ (((i+1:Nat):Int))
def xM (m:Nat→Rat) (F:Rat) (i:Nat):Rat:=m i*shM i*(pwM F i)⁻¹
def lateM (m:Nat→Rat) (F:Rat):Rat:=(F+1)*m 7
def dM (m:Nat→Rat) (F:Rat) (i:Nat):Rat:=xM m F i+lateM m F
def toM (m:Nat→Rat) (F:Rat) (i:Nat):Rat:=minQ (dM m F i) 1
theorem sz_shA {i:Nat} (hi:i < 7):Sz 8 (shA i):=by
 have h:((List.range 7).all fun i=>decide (nm (shA i) < 10 ^ 8∧(shA i).den < 10 ^ 8))=true:=by decide +kernel
 exact of_decide_eq_true (p:=nm _ < _∧_) (List.all_eq_true.1 h i (List.mem_range.2 hi))
theorem sz_shB {i:Nat} (hi:i < 7):Sz 8 (shB i):=by
 have h:((List.range 7).all fun i=>decide (nm (shB i) < 10 ^ 8∧(shB i).den < 10 ^ 8))=true:=by decide +kernel
 exact of_decide_eq_true (p:=nm _ < _∧_) (List.all_eq_true.1 h i (List.mem_range.2 hi))
theorem sz_shM {i:Nat} (hi:i < 7):Sz 16 (shM i):=(sz_shA hi).mul (sz_shB hi).inv
theorem sz_int {i:Nat} (hi:i < 10):Sz 1 ((i:Int):Rat):=by
 have h:((List.range 10).all fun i=>decide (nm (((i:Nat):Int):Rat) < 10 ^ 1∧(((i:Nat):Int):Rat).den < 10 ^ 1))=true:=by decide +kernel
 exact of_decide_eq_true (p:=nm _ < _∧_) (List.all_eq_true.1 h i (List.mem_range.2 hi))
theorem shB_ne {i:Nat} (hi:i < 7):shB i≠0:=by
 have h:((List.range 7).all fun i=>decide (shB i≠0))=true:=by decide +kernel
 exact of_decide_eq_true (List.all_eq_true.1 h i (List.mem_range.2 hi))
theorem shM_pos {i:Nat} (hi:i < 7):0 < shM i:=by
 have h:((List.range 7).all fun i=>decide (0 < shM i))=true:=by decide +kernel
 exact of_decide_eq_true (List.all_eq_true.1 h i (List.mem_range.2 hi))
theorem pos_zpow {F:Rat} (h:1≤F) (n:Nat):0 < F ^ ((n:Nat):Int):=by
 rw [Rat.zpow_natCast]
 exact Rat.pow_pos (by grind)
theorem pwM_pos {F:Rat} (h:1≤F) (i:Nat):0 < pwM F i:=pos_zpow h (i+1)
theorem sz_pwM {F:Rat} {k i:Nat} (h:Sz k F) (hi:i < 7):Sz (k*7+1) (pwM F i) :=
 (Sz.zpow h _).mono (by have:=Nat.mul_le_mul_left k (show (((i+1:Nat):Int)).natAbs≤7 by omega);omega)
theorem sz_mM {m:Nat→Rat} {k i:Nat} (hm:SzC k m) (hi:i < 7):Sz (k+16) (m i*shM i):=(hm i (by omega)).mul (sz_shM hi)
theorem sz_xM {m:Nat→Rat} {F:Rat} {j k i:Nat} (hm:SzC k m) (h:Sz j F) (hi:i < 7):Sz (k+16+(j*7+1)) (xM m F i) :=
 (sz_mM hm hi).mul (sz_pwM h hi).inv
theorem sz_lateM {m:Nat→Rat} {F:Rat} {j k:Nat} (hm:SzC k m) (h:Sz j F):Sz (j+2+k) (lateM m F):=(sz_next h).mul (hm 7 (by omega))
theorem sz_dM {m:Nat→Rat} {F:Rat} {j k i:Nat} (hm:SzC k m) (h:Sz j F) (hi:i < 7):Sz (k*2+j*8+20) (dM m F i) :=
 ((sz_xM hm h hi).add (sz_lateM hm h)).mono (by omega)
theorem sz_toM {m:Nat→Rat} {F:Rat} {j k i:Nat} (hm:SzC k m) (h:Sz j F) (hi:i < 7):Sz (k*2+j*8+20) (toM m F i):=by
 unfold toM minQ
 split
 ·exact Sz.one.mono (by omega)
 ·exact sz_dM hm h hi
theorem inv_pos' {x:Rat} (h:0 < x):0 < x⁻¹:=Rat.inv_pos.2 h
theorem toM_zero {c:CT} {m:Nat→Rat} {F:Rat} (hc:CIs c m) (h:1≤F) {i:Nat} (hi:i < 7):0≤toM m F i:=by
 have h1:=hc.one i hi
 have h2:0≤m i*shM i:=Rat.mul_nonneg (by grind) (by have:=shM_pos hi;grind)
 have h3:0≤xM m F i:=Rat.mul_nonneg h2 (by have:=inv_pos' (pwM_pos h i);grind)
 have h4:0≤lateM m F:=Rat.mul_nonneg (by grind) hc.zero
 exact le_minQ (by unfold dM;grind) (by decide +kernel)
theorem toM_top (m:Nat→Rat) (F:Rat) (i:Nat):toM m F i≤1:=(minQ_le _ _).2
theorem ratInt_any (n:Int) (w:World) (hr:Res w) (h0:-9223372036854775808≤n) (h1:n≤9223372036854775807) :
  Calls Tryz.prog 142 #[.int .i64 n] w fun e w'=>e=.returned (.string ⟨(Lib.itoa n).toArray⟩)∧Below w.heap.size w w':=by
 have HC:=Lib.hid (Tryz.strconv_Itoa n h0 h1 w hr.tab)
 generalize Lib.itoa n=l at *
 clear hr
 go_enter Tryz.func142,Tryz.ntmps142
 go_wp2_with (go_at_call 218;refine HC.out.mono ?_;rintro e w1 ⟨rfl,k,os,rfl⟩)
 go_ret
 exact ⟨rfl,Lib.below_grow _ _ (Nat.le_refl _) _ _⟩
theorem itoa_text (n:Int):Lib.itoa n=ratText (n:Rat):=by
 unfold Lib.itoa ratText ng nm
 rw [Rat.num_intCast,Rat.den_intCast]
 by_cases h:n < 0
 ·simp [h]
 ·have:n.toNat=n.natAbs:=by omega
  simp [h,this]
theorem intT {c:ByteArray} (n:Int) (w:World) (hc:IsT c (n:Rat)) (hr:Res w) (h0:-9223372036854775808≤n) (h1:n≤9223372036854775807) :
  Calls Tryz.prog 142 #[.int .i64 n] w fun e w'=>e=.returned (.string c)∧Below w.heap.size w w':=by
 refine (ratInt_any n w hr h0 h1).mono ?_
 rintro e w' ⟨rfl,h⟩
 refine ⟨?_,h⟩
 rw [itoa_text,← hc.1]
theorem refPow_key {c:ByteArray} (q:Rat) (M:Nat) (hc:IsT c (q ^ M)):decide (Lib.nDigits (nm q ^ M)≤4000)=true∧decide (Lib.nDigits (q.den ^ M)≤4000)=true ∧
  ∀ b:Bool,b=ng (q ^ M)→∀ v w,IsPartsI w v b (nm q ^ M) (q.den ^ M)→Calls Tryz.prog 153 #[v] w fun e w'=>e=.returned (.tuple #[.string ⟨(outQ (q ^ M)).1.toArray⟩,.int .i64 ((outQ (q ^ M)).2:Int)])∧Below w.heap.size w w':=by
 obtain ⟨p1,p2,_⟩:=pow_parts q M
 have hs:=(sz_iff (by decide)).1 hc.2
 rw [← p1,← p2]
 refine ⟨decide_eq_true hs.1,decide_eq_true hs.2,fun b hb v w hv=>?_⟩
 subst hb
 have e1:=limbs_of_nd hs.1 (show 4000≤9*445 by omega)
 have e2:=limbs_of_nd hs.2 (show 4000≤9*445 by omega)
 exact rwriteQ_any (q ^ M) v w hv (by omega) (by omega)
theorem ng_pos {p:Rat} (h:0 < p):ng p=false:=by
 unfold ng
 have:=Rat.num_nonneg.2 (show 0≤p by grind)
 exact decide_eq_false (by omega)
theorem retPowS {a c:ByteArray} {p:Rat} {n:Int} (ha:IsT a p) (hp:0 < p) (hc:IsT c (p ^ n)) (h1:-1000≤n) (h2:n≤1000):Ret 240 #[.string a,.int .i64 n] (.tuple #[.string c,.int .i64 0]):=fun w _=>by
 have sq:=sz_max ha.err
 rw [ha.val] at sq
 have hb:=ng_pos hp
 have h0:p≠0:=by grind
 have ho:=out_T hc
 unfold resN at ho
 by_cases hneg:n < 0
 ·obtain ⟨M,rfl⟩:∃ M:Nat,n=-(M:Int):=⟨n.natAbs,by omega⟩
  have e:p ^ (-(M:Int))=p⁻¹ ^ M:=by rw [Rat.zpow_neg,Rat.zpow_natCast,inv_pow]
  rw [e] at hc ho
  obtain ⟨k1,k2,k3⟩:=refPow_key p⁻¹ M hc
  obtain ⟨_,_,p3⟩:=pow_parts p⁻¹ M
  obtain ⟨i1,_,_⟩:=inv_parts h0
  rw [i1,hb] at p3
  rw [← ho]
  exact refpow_neg_f_yes a p M w ha.size ha.err ha.val hb h0 (by omega) (by omega) k1 k2 _ (k3 _ (by rw [p3];rfl)) sq
 ·obtain ⟨M,rfl⟩:∃ M:Nat,n=(M:Int):=⟨n.toNat,by omega⟩
  rw [Rat.zpow_natCast] at hc ho
  obtain ⟨k1,k2,k3⟩:=refPow_key p M hc
  obtain ⟨_,_,p3⟩:=pow_parts p M
  rw [hb] at p3
  rw [← ho]
  exact refpow_pos_f_yes a p M w ha.size ha.err ha.val hb (by omega) k1 k2 _ (k3 _ (by rw [p3];rfl)) sq
theorem runs_rAdd:Runs 107:=runs_of Tryz.func107 (by kernel_rfl) (by kernel_rfl)
theorem runs_rMul:Runs 130:=runs_of Tryz.func130 (by kernel_rfl) (by kernel_rfl)
theorem runs_rDiv:Runs 133:=runs_of Tryz.func133 (by kernel_rfl) (by kernel_rfl)
theorem runs_rMin:Runs 143:=runs_of Tryz.func143 (by kernel_rfl) (by kernel_rfl)
section
variable {a b c:ByteArray} {p q:Rat}
theorem isAdd (ha:IsT a p) (hb:IsT b q) (hc:IsT c (p+q)):DoIs 0 107 a b c:=doIs_ok runs_rAdd fun w hr=>addT w ha hb hc hr
theorem isMul (ha:IsT a p) (hb:IsT b q) (hc:IsT c (p*q)):DoIs 0 130 a b c:=doIs_ok runs_rMul fun w hr=>mulT w ha hb hc hr
theorem isDiv (ha:IsT a p) (hb:IsT b q) (hc:IsT c (p*q⁻¹)) (h0:q≠0):DoIs 0 133 a b c:=doIs_ok runs_rDiv fun w hr=>divT w ha hb hc h0 hr
theorem isMin1 (ha:IsT a p):DoIs 0 143 a ⟨#[49]⟩ (rT (minQ p 1)):=doIs_ok runs_rMin fun w hr=>minT w ha IsT.one (rT_min ha IsT.one).symm hr
theorem isPow {n:Int} (ha:IsT a p) (h0:p≠0) (hc:IsT c (p ^ n)) (h1:-1000≤n) (h2:n≤1000):PowIs 0 a n c:=fun h w hr hk=>pow_ok h w hk ha (fun h=>h0 h.2) hc (by omega) (by omega) hr
theorem retAdd (ha:IsT a p) (hb:IsT b q) (hc:IsT c (p+q)):Ret 59 #[.string a,.string b] (.tuple #[.string c,.int .i64 0]):=fun w _=>raddT w ha hb hc
end
theorem isT_int {n:Nat} (h:n < 10):IsT (rT (((n:Nat):Int):Rat)) (((n:Nat):Int):Rat):=isT_rT (fits_sz.2 ((sz_int h).mono (by decide)))
theorem retInt (n:Nat) (h:n < 10):Ret 142 #[.int .i64 (n:Int)] (.string (rT (((n:Nat):Int):Rat))):=fun w hr=>intT (n:Int) w (isT_int h) hr (by omega) (by omega)
theorem same_text {a b:ByteArray} {p q:Rat} (ha:IsT a p) (hb:IsT b q):((if cmpQ p q < 0 then b else a).toList==b.toList)=decide (p≤q):=by
 split
 ·rename_i h
  rw [cmpQ_lt] at h
  rw [decide_eq_true (by grind)]
  simp
 ·rename_i h
  rw [cmpQ_lt] at h
  by_cases e:p=q
  ·subst e
   rw [ha.eq hb,decide_eq_true Rat.le_refl]
   simp
  ·rw [ne_toList ha hb e,decide_eq_false (by grind)]
theorem leM_and (m n:Nat→Rat):leM m n=(decide (m 0≤n 0)&&(decide (m 1≤n 1)&&(decide (m 2≤n 2)&&(decide (m 3≤n 3)&&(decide (m 4≤n 4)&&(decide (m 5≤n 5)&&(decide (m 6≤n 6)&&decide (m 7≤n 7)))))))):=by
 have e:List.range 8=[0,1,2,3,4,5,6,7]:=by decide
 unfold leM
 rw [e]
 simp only [List.all_cons,List.all_nil,Bool.and_true]
section
variable {a b c:CT} {m n:Nat→Rat} {j k:Nat}
theorem mfitsV (ha:CIs a m) (hb:CIs b n):Ret 64 #[cv a,cv b] (.tuple #[.bool (leM m n),.int .i64 0]):=fun w hr=>by
 have h:=mfits_ok a b (fun i=>if cmpQ (m i) (n i) < 0 then b i else a i) w ha.sm hb.sm hr (by rw [ha.errs hb];rfl) (Lib.hid fun i hi w hr=>maxT w (ha.t i hi) (hb.t i hi) rfl hr)
 have e:eqCT (fun i=>if cmpQ (m i) (n i) < 0 then b i else a i) b=leM m n:=by
  have s:∀ i,i < 8→((if cmpQ (m i) (n i) < 0 then b i else a i).toList==(b i).toList)=decide (m i≤n i):=fun i hi=>same_text (ha.t i hi) (hb.t i hi)
  unfold eqCT
  rw [leM_and,s 0 (by omega),s 1 (by omega),s 2 (by omega),s 3 (by omega),s 4 (by omega),s 5 (by omega),s 6 (by omega),s 7 (by omega)]
  simp only [Bool.and_assoc]
 rwa [e] at h
theorem mtoV (hc:CIs c m) (sm:SzC k m) (hk:k≤500) {F:ByteArray} {f:Rat} (hF:IsT F f) (sf:Sz 120 f) (h1:1≤f) {i:Nat} (hi:i < 7):Ret 53 #[cv c,.int .i64 ((i:Int)+2),.string F] (.tuple #[.agg #[.string F,.string (rT (toM m f i))],.int .i64 0]):=fun w hr=>by
 have mx:∀ {j:Nat} {q:Rat},Sz j q→j≤4000→IsT (rT q) q:=fun h hj=>isT_rT (fits_sz.2 (h.mono hj))
 have f0:=ne_of_one h1
 have z1:((((i+1:Nat):Int)):Rat)≠0:=fun h=>by have:=Rat.intCast_inj.1 (h.trans (show (0:Rat)=((0:Int):Rat) from rfl));omega
 have z2:((((i+2:Nat):Int)):Rat)≠0:=fun h=>by have:=Rat.intCast_inj.1 (h.trans (show (0:Rat)=((0:Int):Rat) from rfl));omega
 have iA:IsT (rT (shA i)) (shA i):=mx (sz_shA hi) (by omega)
 have iB:IsT (rT (shB i)) (shB i):=mx (sz_shB hi) (by omega)
 have iS:IsT (rT (shM i)) (shM i):=mx (sz_shM hi) (by omega)
 have iP:IsT (rT (pwM f i)) (pwM f i):=mx (sz_pwM sf hi) (by omega)
 have iU:IsT (rT (m i*shM i)) (m i*shM i):=mx (sz_mM sm hi) (by omega)
 have iX:IsT (rT (xM m f i)) (xM m f i):=mx (sz_xM sm sf hi) (by omega)
 have iN:IsT (rT (f+1)) (f+1):=mx (sz_next sf) (by omega)
 have iL:IsT (rT (lateM m f)) (lateM m f):=mx (sz_lateM sm sf) (by omega)
 have iD:IsT (rT (dM m f i)) (dM m f i):=mx (sz_dM sm sf hi) (by omega)
 exact mto_ok c i hi F hF.size hc.err hF.err (by rw [hF.val,cmpQ_lt];exact Rat.not_lt.2 h1) _ _ _ _ _ _ _ _ _ _ _ _
  (Lib.hid (retInt (i+1) (by omega))) (Lib.hid (retInt (i+2) (by omega)))
  (Lib.hid (isPow (isT_int (by omega)) z1 iA (by omega) (by omega))) (Lib.hid (isPow (isT_int (by omega)) z2 iB (by omega) (by omega)))
  (Lib.hid (isDiv iA iB iS (shB_ne hi))) (Lib.hid (isPow hF f0 iP (by omega) (by omega))) (Lib.hid (isMul (hc.t i (by omega)) iS iU)) (Lib.hid (isDiv iU iP iX (by have:=pwM_pos h1 i;grind)))
  (Lib.hid (isAdd hF IsT.one iN)) (Lib.hid (isMul iN (hc.t 7 (by omega)) iL)) (Lib.hid (isAdd iX iL iD)) (Lib.hid (isMin1 iD)) w hc.sm hr
end
end Go.Proofs.YtigapglmipmbeaaGreatDoor
namespace Go.Proofs.YtigapglmipmbeaaGreatDoor
open Go.RowKit
open Lim
abbrev XE:=Except Nat ByteArray
def exQ (r:List UInt8 × Nat):XE:=if r.2=0 then .ok ⟨r.1.toArray⟩ else .error r.2
def resX:XE→Value
 | .ok s=>.tuple #[.string s,.int .i64 0]
 | .error n=>.tuple #[.string ⟨#[]⟩,.int .i64 (n:Int)]
def NoT (r:List UInt8 × Nat):Prop:=(r.2≠0→r.1=[])∧(r.2=0→errQ r.1=0)
theorem resX_ex {r:List UInt8 × Nat} (h:NoT r):resN r=resX (exQ r):=by
 unfold resN exQ
 split
 ·rename_i h0;rw [h0];rfl
 ·rename_i h0;rw [h.1 h0];rfl
theorem noT_out (q:Rat):NoT (outQ q):=by
 unfold outQ
 split
 ·exact ⟨fun _=>rfl,fun h=>by cases h⟩
 ·rename_i h
  refine ⟨fun h2=>absurd rfl h2,fun _=>?_⟩
  have h1:Lib.nDigits (nm q)≤maxD∧Lib.nDigits q.den≤maxD:=by omega
  exact errQ_rat h1.1 h1.2
theorem noT_err (n:Nat) (h:n≠0):NoT ([],n):=⟨fun _=>rfl,fun h2=>absurd h2 h⟩
theorem noT_div (p q:Rat):NoT (divQ p q):=by
 unfold divQ
 split
 ·exact noT_err 6 (by decide)
 ·exact noT_out _
theorem noT_two {f:Rat→Rat→List UInt8 × Nat} (h:∀ p q,NoT (f p q)) (a b:List UInt8):NoT (twoQ f a b):=by
 unfold twoQ
 split
 ·rename_i h0;exact noT_err _ h0
 ·split
  ·rename_i h0;exact noT_err _ h0
  ·exact h _ _
theorem exQ_err {r:List UInt8 × Nat} {n:Nat} (h:exQ r=.error n):n≠0:=by
 unfold exQ at h
 split at h
 ·cases h
 ·rename_i h0;cases h;exact h0
theorem exQ_ok {r:List UInt8 × Nat} {s:ByteArray} (hr:NoT r) (h:exQ r=.ok s):errQ s.data.toList=0:=by
 unfold exQ at h
 split at h
 ·rename_i h0;cases h;exact hr.2 h0
 ·cases h
theorem size_ok {s:ByteArray} (h:errQ s.data.toList=0):s.size≤270000:=(IsT.of h).size
def plX (a b:ByteArray):XE:=exQ (twoQ (fun p q=>outQ (p+q)) a.data.toList b.data.toList)
def subX (a b:ByteArray):XE:=exQ (twoQ (fun p q=>outQ (p+-q)) a.data.toList b.data.toList)
def mulX (a b:ByteArray):XE:=exQ (twoQ (fun p q=>outQ (p*q)) a.data.toList b.data.toList)
def divX (a b:ByteArray):XE:=exQ (twoQ divQ a.data.toList b.data.toList)
def powX (a:ByteArray) (n:Int):XE:=exQ (oneQ (fun q=>powQ q n) a.data.toList)
theorem plX_t (a b:ByteArray):NoT (twoQ (fun p q=>outQ (p+q)) a.data.toList b.data.toList):=noT_two (fun _ _=>noT_out _) _ _
theorem subX_t (a b:ByteArray):NoT (twoQ (fun p q=>outQ (p+-q)) a.data.toList b.data.toList):=noT_two (fun _ _=>noT_out _) _ _
theorem mulX_t (a b:ByteArray):NoT (twoQ (fun p q=>outQ (p*q)) a.data.toList b.data.toList):=noT_two (fun _ _=>noT_out _) _ _
theorem divX_t (a b:ByteArray):NoT (twoQ divQ a.data.toList b.data.toList):=noT_two noT_div _ _
theorem plX_ok {a b s:ByteArray} (h:plX a b=.ok s):errQ s.data.toList=0:=exQ_ok (plX_t a b) h
theorem subX_ok {a b s:ByteArray} (h:subX a b=.ok s):errQ s.data.toList=0:=exQ_ok (subX_t a b) h
theorem mulX_ok {a b s:ByteArray} (h:mulX a b=.ok s):errQ s.data.toList=0:=exQ_ok (mulX_t a b) h
theorem divX_ok {a b s:ByteArray} (h:divX a b=.ok s):errQ s.data.toList=0:=exQ_ok (divX_t a b) h
def zT:ByteArray:=⟨#[48]⟩
def oT:ByteArray:=⟨#[49]⟩
def maxX (a b:ByteArray):XE :=
 if errQ a.data.toList≠0 then .error (errQ a.data.toList) else if errQ b.data.toList≠0 then .error (errQ b.data.toList) else .ok (if cmpQ (valQ a.data.toList) (valQ b.data.toList) < 0 then b else a)
theorem maxX_res (a b:ByteArray):resS (chooseQ (twoI (fun p q=>(cmpQ p q,0)) a.data.toList b.data.toList) (-1) a b)=resX (maxX a b):=by
 unfold twoI maxX
 split
 ·rename_i h;unfold chooseQ;rw [if_pos h];rfl
 ·split
  ·rename_i h;unfold chooseQ;rw [if_pos h];rfl
  ·unfold chooseQ
   rw [if_neg (by simp)]
   dsimp only
   by_cases h:cmpQ (valQ a.data.toList) (valQ b.data.toList) < 0
   ·rw [if_pos h,if_pos (by omega)];rfl
   ·rw [if_neg h,if_neg (by omega)];rfl
def ltK (a b:ByteArray):Bool:=decide (a.data.toList < b.data.toList)
def posE (p:ByteArray):Nat:=if errQ p.data.toList≠0 then errQ p.data.toList else if valQ p.data.toList < 0 then 2 else 0
def badK:Option ByteArray→ByteArray→Bool
 | none,_=>false
 | some k,x=>!ltK k x
def chkL:Option ByteArray→List L2→Nat
 | _,[]=>0
 | k,x::l=>if posE x.2≠0 then posE x.2 else if ¬ 0 < valQ x.2.data.toList then 2 else if badK k x.1 then 9 else chkL (some x.1) l
def foldX {α:Type} (g:α→XE):ByteArray→List α→XE
 | s,[]=>.ok s
 | s,x::l=>match g x with
  | .error n=>.error n
  | .ok p=>match plX s p with
   | .error n=>.error n
   | .ok t=>foldX g t l
def sumX (s:ByteArray) (l:List L2):XE:=foldX (fun x:L2=>.ok x.2) s l
def chkS:XE→Nat
 | .error n=>n
 | .ok s=>if s=oT then 0 else 15
def chkD (ls:List L2):Nat:=if chkL none ls≠0 then chkL none ls else chkS (sumX zT ls)
def chk2 (a b:List L2):Nat:=if chkD a≠0 then chkD a else chkD b
def atT:List L2→ByteArray→ByteArray
 | [],_=>zT
 | x::l,k=>if x.1=k then x.2 else atT l k
def hasT:List L2→ByteArray→Bool
 | [],_=>false
 | x::l,k=>if x.1=k then true else hasT l k
def insX:List L2→L2→Except Nat (List L2)
 | [],x=>.ok [x]
 | y::l,x=>if ltK y.1 x.1 then
   (match insX l x with
    | .error n=>.error n
    | .ok m=>.ok (y::m))
  else if y.1=x.1 then
   (match plX y.2 x.2 with
    | .error n=>.error n
    | .ok s=>.ok ((y.1,s)::l))
  else .ok (x::y::l)
def collX:List L2→List L2→Except Nat (List L2)
 | a,[]=>.ok a
 | a,x::l=>match insX a x with
  | .error n=>.error n
  | .ok b=>collX b l
def posL:List L2→Nat
 | []=>0
 | x::l=>if posE x.2≠0 then posE x.2 else posL l
def keepX (l:List L2):List L2:=l.filter fun x=>decide (x.2≠zT)
def doneX (l:List L2):Except Nat (List L2):=if chkD (keepX l)≠0 then .error (chkD (keepX l)) else .ok (keepX l)
def makeX (ls:List L2):Except Nat (List L2):=if posL ls≠0 then .error (posL ls) else match collX [] ls with
 | .error n=>.error n
 | .ok a=>doneX a
def partX (f:ByteArray) (q:List L2) (m:L2):XE:=match mulX f (atT q m.1) with
 | .error n=>.error n
 | .ok x=>match subX m.2 x with
  | .error n=>.error n
  | .ok y=>maxX zT y
def deltaX (p q:List L2) (f:ByteArray):XE:=if chk2 p q≠0 then .error (chk2 p q) else if posE f≠0 then .error (posE f) else foldX (partX f q) zT p
def inX:List L2→List L2→Bool
 | [],_=>true
 | x::l,q=>if hasT q x.1 then inX l q else false
def mostX (q:List L2):ByteArray→List L2→XE
 | s,[]=>.ok s
 | s,m::l=>match divX m.2 (atT q m.1) with
  | .error n=>.error n
  | .ok x=>mostX q (if cmpQ (valQ s.data.toList) (valQ x.data.toList) < 0 then x else s) l
def resF:XE→Value
 | .ok s=>.tuple #[.string s,.bool true,.int .i64 0]
 | .error n=>.tuple #[.string ⟨#[]⟩,.bool false,.int .i64 (n:Int)]
def facV (p q:List L2):Value:=if chk2 p q≠0 then .tuple #[.string ⟨#[]⟩,.bool false,.int .i64 (chk2 p q:Int)] else if inX p q=false then .tuple #[.string ⟨#[]⟩,.bool false,.int .i64 0] else resF (mostX q zT p)
def powsX (n:Int) (q:List L2) (m:L2):XE:=match powX m.2 n with
 | .error e=>.error e
 | .ok x=>match powX (atT q m.1) (n - 1) with
  | .error e=>.error e
  | .ok y=>divX x y
def momV (p q:List L2) (n:Int):Value:=if chk2 p q≠0 then .tuple #[.string ⟨#[]⟩,.bool false,.int .i64 (chk2 p q:Int)] else if n < 1∨8 < n then .tuple #[.string ⟨#[]⟩,.bool false,.int .i64 2]
 else if inX p q=false then .tuple #[.string ⟨#[]⟩,.bool false,.int .i64 0] else resF (foldX (powsX n q) zT p)
theorem foldX_err {α:Type} {g:α→XE} {s:ByteArray} {x:α} {l:List α} {n:Nat} (h:g x=.error n):foldX g s (x::l)=.error n:=by simp only [foldX,h]
theorem foldX_err2 {α:Type} {g:α→XE} {s p:ByteArray} {x:α} {l:List α} {n:Nat} (h:g x=.ok p) (h2:plX s p=.error n):foldX g s (x::l)=.error n:=by simp only [foldX,h,h2]
theorem foldX_ok {α:Type} {g:α→XE} {s p t:ByteArray} {x:α} {l:List α} (h:g x=.ok p) (h2:plX s p=.ok t):foldX g s (x::l)=foldX g t l:=by simp only [foldX,h,h2]
theorem err_zT:errQ zT.data.toList=0:=IsT.zero.err
theorem val_zT:valQ zT.data.toList=0:=IsT.zero.val
theorem val_oT:valQ oT.data.toList=1:=IsT.one.val
end Go.Proofs.YtigapglmipmbeaaGreatDoor
namespace Go.Proofs.YtigapglmipmbeaaGreatDoor
open Lim
abbrev DL:=List (ByteArray × Rat)
def sumBy {α:Type} (f:α→Rat):List α→Rat
 | []=>0
 | a::l=>f a+sumBy f l
def pos (x:Rat):Rat:=if 0 < x then x else 0
theorem pos_nonneg (x:Rat):0≤pos x:=by unfold pos;split<;>grind
theorem le_pos (x:Rat):x≤pos x:=by unfold pos;split<;>grind
theorem pos_le {x y:Rat} (h:x≤y) (h0:0≤y):pos x≤y:=by unfold pos;split<;>grind
theorem pos_of {x:Rat} (h:x≤0):pos x=0:=by unfold pos;rw [if_neg (by grind)]
section
variable {α β:Type} {f g:α→Rat} {l m:List α}
theorem sumBy_congr (h:∀ a∈l,f a=g a):sumBy f l=sumBy g l:=by
 induction l with
 | nil=>rfl
 | cons a l ih =>
  simp only [sumBy]
  rw [h a (by simp),ih fun b hb=>h b (by simp [hb])]
theorem sumBy_le (h:∀ a∈l,f a≤g a):sumBy f l≤sumBy g l:=by
 induction l with
 | nil=>exact Rat.le_refl
 | cons a l ih =>
  simp only [sumBy]
  have h1:=h a (by simp)
  have h2:=ih fun b hb=>h b (by simp [hb])
  grind
theorem sumBy_nonneg (h:∀ a∈l,0≤f a):0≤sumBy f l:=by
 induction l with
 | nil=>exact Rat.le_refl
 | cons a l ih =>
  simp only [sumBy]
  have h1:=h a (by simp)
  have h2:=ih fun b hb=>h b (by simp [hb])
  grind
theorem le_sumBy (h:∀ a∈l,0≤f a) {a:α} (ha:a∈l):f a≤sumBy f l:=by
 induction l with
 | nil=>cases ha
 | cons b l ih =>
  simp only [sumBy]
  have h1:=h b (by simp)
  have h2:0≤sumBy f l:=sumBy_nonneg fun b hb=>h b (by simp [hb])
  rcases List.mem_cons.1 ha with rfl|ha
  ·grind
  ·have:=ih (fun b hb=>h b (by simp [hb])) ha
   grind
theorem sumBy_zero (h:∀ a∈l,f a=0):sumBy f l=0:=by
 induction l with
 | nil=>rfl
 | cons a l ih =>
  simp only [sumBy]
  rw [h a (by simp),ih fun b hb=>h b (by simp [hb])]
  grind
theorem sumBy_add (f g:α→Rat) (l:List α):sumBy (fun a=>f a+g a) l=sumBy f l+sumBy g l:=by
 induction l with
 | nil=>simp only [sumBy];grind
 | cons a l ih=>simp only [sumBy];rw [ih];grind
theorem sumBy_mul (c:Rat) (f:α→Rat) (l:List α):sumBy (fun a=>c*f a) l=c*sumBy f l:=by
 induction l with
 | nil=>simp [sumBy]
 | cons a l ih=>simp only [sumBy];rw [ih];grind
theorem sumBy_map (h:β→α) (f:α→Rat) (l:List β):sumBy f (l.map h)=sumBy (fun b=>f (h b)) l:=by
 induction l with
 | nil=>rfl
 | cons a l ih=>simp only [List.map_cons,sumBy];rw [ih]
theorem sumBy_perm (h:l.Perm m):sumBy f l=sumBy f m:=by
 induction h with
 | nil=>rfl
 | cons a _ ih=>simp only [sumBy];rw [ih]
 | swap a b l=>simp only [sumBy];grind
 | trans _ _ h1 h2=>rw [h1,h2]
theorem sumBy_sub [DecidableEq α]:∀ {l m:List α},l.Nodup→m.Nodup→(∀ a∈l,a∈m)→(∀ a∈m,a ∉ l→f a=0)→sumBy f m=sumBy f l
 | [],m,_,_,_,h0=>by
  rw [sumBy_zero fun a ha=>h0 a ha (by simp)]
  rfl
 | a::l,m,hl,hm,hs,h0=>by
  have ha:a∈m:=hs a (by simp)
  rw [sumBy_perm (List.perm_cons_erase ha)]
  simp only [sumBy]
  rw [List.nodup_cons] at hl
  rw [sumBy_sub (l:=l) hl.2 (hm.erase a) (fun b hb=>?_) (fun b hb hn=>?_)]
  ·refine (List.mem_erase_of_ne ?_).2 (hs b (by simp [hb]))
   rintro rfl
   exact hl.1 hb
  ·have h1:=(hm.mem_erase_iff).1 hb
   exact h0 b h1.2 (by simp [hn,h1.1])
end
def massD (l:DL) (k:ByteArray):Rat:=sumBy (fun e=>if e.1=k then e.2 else 0) l
def keysD (l:DL):List ByteArray:=l.map (·.1)
theorem massD_cons (e:ByteArray × Rat) (l:DL) (k:ByteArray):massD (e::l) k=(if e.1=k then e.2 else 0)+massD l k:=rfl
theorem massD_none {l:DL} {k:ByteArray} (h:k ∉ keysD l):massD l k=0:=by
 refine sumBy_zero fun e he=>if_neg ?_
 rintro rfl
 exact h (List.mem_map_of_mem he)
theorem massD_at {l:DL} (hn:(keysD l).Nodup) {e:ByteArray × Rat} (he:e∈l):massD l e.1=e.2:=by
 induction l with
 | nil=>cases he
 | cons a l ih =>
  have hn2:a.1 ∉ keysD l∧(keysD l).Nodup:=List.nodup_cons.1 hn
  rw [massD_cons]
  rcases List.mem_cons.1 he with rfl|h
  ·rw [if_pos rfl,massD_none hn2.1,Rat.add_zero]
  ·have hk:e.1∈keysD l:=List.mem_map_of_mem h
   rw [if_neg (fun h2=>hn2.1 (by rw [h2];exact hk)),ih hn2.2 h,Rat.zero_add]
theorem sum_key {K:List ByteArray} (hK:K.Nodup) {k:ByteArray} (hk:k∈K) (c:ByteArray→Rat) (x:Rat):sumBy (fun j=>c j*(if k=j then x else 0)) K=c k*x:=by
 rw [sumBy_sub (l:=[k]) (by simp) hK (by simpa using hk) (fun a _ hn=>by rw [if_neg (fun h=>hn (by simp [h])),Rat.mul_zero])]
 show c k*(if k=k then x else 0)+0=c k*x
 rw [if_pos rfl,Rat.add_zero]
theorem sum_mass {K:List ByteArray} (hK:K.Nodup) (c:ByteArray→Rat):∀ {l:DL},(∀ k∈keysD l,k∈K)→sumBy (fun k=>c k*massD l k) K=sumBy (fun e=>c e.1*e.2) l
 | [],_=>sumBy_zero fun a _=>Rat.mul_zero _
 | e::l,h=>by
  have e1:sumBy (fun k=>c k*massD (e::l) k) K=sumBy (fun k=>c k*(if e.1=k then e.2 else 0)+c k*massD l k) K :=
   sumBy_congr fun k _=>by rw [massD_cons,Rat.mul_add]
  rw [e1,sumBy_add,sum_key hK (h e.1 (by simp [keysD])) c e.2,sum_mass hK c (l:=l) fun k hk=>h k (by
   unfold keysD at hk ⊢
   simp only [List.map_cons,List.mem_cons]
   exact .inr hk)]
  rfl
theorem sum_mass1 {K:List ByteArray} (hK:K.Nodup) {l:DL} (h:∀ k∈keysD l,k∈K):sumBy (fun k=>massD l k) K=sumBy (fun e=>e.2) l:=by
 have:=sum_mass hK (fun _=>1) h
 simp only [Rat.one_mul] at this
 exact this
structure IsD (d:DL):Prop where
 once:(keysD d).Nodup
 plus:∀ e∈d,0 < e.2
 one:sumBy (fun e=>e.2) d=1
theorem IsD.zero {d:DL} (h:IsD d) (k:ByteArray):0≤massD d k :=
 sumBy_nonneg fun e he=>by have:=h.plus e he;split<;>grind
theorem IsD.pos_iff {d:DL} (h:IsD d) (k:ByteArray):0 < massD d k↔k∈keysD d:=by
 constructor
 ·intro hp
  refine Classical.byContradiction fun hn=>?_
  rw [massD_none hn] at hp
  exact Rat.lt_irrefl hp
 ·intro hk
  obtain ⟨e,he,rfl⟩:=List.mem_map.1 hk
  rw [massD_at h.once he]
  exact h.plus e he
theorem IsD.total {d:DL} (h:IsD d) {K:List ByteArray} (hK:K.Nodup) (hs:∀ k∈keysD d,k∈K):sumBy (massD d) K=1:=by
 rw [← h.one]
 exact sum_mass1 hK hs
theorem once_list:∀ l:List ByteArray,∃ K:List ByteArray,K.Nodup∧∀ k,k∈K↔k∈l
 | []=>⟨[],by simp,by simp⟩
 | a::l=>by
  obtain ⟨K,h1,h2⟩:=once_list l
  by_cases h:a∈K
  ·refine ⟨K,h1,fun k=>?_⟩
   rw [h2,List.mem_cons]
   constructor
   ·exact .inr
   ·rintro (rfl|h3)
    ·exact (h2 k).1 h
    ·exact h3
  ·refine ⟨a::K,List.nodup_cons.2 ⟨h,h1⟩,fun k=>?_⟩
   rw [List.mem_cons,List.mem_cons,h2]
def hasK (k:ByteArray) (l:List ByteArray):Bool:=l.any fun j=>decide (j=k)
theorem hasK_iff {k:ByteArray} {l:List ByteArray}:hasK k l=true↔k∈l:=by
 unfold hasK
 rw [List.any_eq_true]
 constructor
 ·rintro ⟨x,h1,h2⟩
  rw [← of_decide_eq_true h2];exact h1
 ·intro h
  exact ⟨k,h,decide_eq_true rfl⟩
def deltaD (p q:DL) (f:Rat):Rat:=sumBy (fun e=>pos (e.2 - f*massD q e.1)) p
theorem delta_nonneg (p q:DL) (f:Rat):0≤deltaD p q f:=sumBy_nonneg fun _ _=>pos_nonneg _
theorem delta_top {p q:DL} (hp:IsD p) (hq:IsD q) {f:Rat} (hf:0≤f):deltaD p q f≤1:=by
 rw [← hp.one]
 refine sumBy_le fun e he=>?_
 have h1:=Rat.mul_nonneg hf (hq.zero e.1)
 have h2:=hp.plus e he
 exact pos_le (by grind) (by grind)
def mostD (p q:DL):Rat→Rat
 | m=>p.foldl (fun m e=>maxQ m (e.2*(massD q e.1)⁻¹)) m
theorem most_le (q:DL) (b:Rat):∀ (p:DL) (m:Rat),mostD p q m≤b↔m≤b∧∀ e∈p,e.2*(massD q e.1)⁻¹≤b
 | [],m=>by simp [mostD]
 | e::p,m=>by
  show mostD p q (maxQ m (e.2*(massD q e.1)⁻¹))≤b↔_
  rw [most_le q b p,maxQ_le]
  simp only [List.mem_cons]
  constructor
  ·rintro ⟨⟨h1,h2⟩,h3⟩
   refine ⟨h1,fun x hx=>?_⟩
   rcases hx with rfl|hx
   ·exact h2
   ·exact h3 x hx
  ·rintro ⟨h1,h2⟩
   exact ⟨⟨h1,h2 e (.inl rfl)⟩,fun x hx=>h2 x (.inr hx)⟩
theorem ratio_le {x y b:Rat} (hy:0 < y):x*y⁻¹≤b↔x≤b*y:=by
 constructor
 ·intro h
  have h2:=Rat.mul_le_mul_of_nonneg_right h (show 0≤y by grind)
  rwa [Rat.mul_assoc,Rat.inv_mul_cancel y (by grind),Rat.mul_one] at h2
 ·intro h
  have hi:0 < y⁻¹:=Rat.inv_pos.2 hy
  have h2:=Rat.mul_le_mul_of_nonneg_right h (show 0≤y⁻¹ by grind)
  rwa [Rat.mul_assoc,Rat.mul_inv_cancel y (by grind),Rat.mul_one] at h2
theorem delta_zero {p q:DL} {f:Rat}:deltaD p q f=0↔∀ e∈p,e.2≤f*massD q e.1:=by
 constructor
 ·intro h e he
  have h1:=le_sumBy (f:=fun e=>pos (e.2 - f*massD q e.1)) (fun a _=>pos_nonneg _) he
  have h2:=le_pos (e.2 - f*massD q e.1)
  have h3:deltaD p q f=sumBy (fun e=>pos (e.2 - f*massD q e.1)) p:=rfl
  rw [← h3,h] at h1
  grind
 ·intro h
  exact sumBy_zero fun e he=>pos_of (by have:=h e he;grind)
theorem most_iff {p q:DL} (hq:IsD q) (hs:∀ e∈p,e.1∈keysD q) {f:Rat} (hf:0≤f):mostD p q 0≤f↔deltaD p q f=0:=by
 rw [most_le,delta_zero]
 constructor
 ·rintro ⟨_,h⟩ e he
  exact (ratio_le ((hq.pos_iff _).2 (hs e he))).1 (h e he)
 ·intro h
  exact ⟨hf,fun e he=>(ratio_le ((hq.pos_iff _).2 (hs e he))).2 (h e he)⟩
theorem most_one {p q:DL} (hp:IsD p) (hq:IsD q) (hs:∀ e∈p,e.1∈keysD q):1≤mostD p q 0:=by
 have h0:0≤mostD p q 0:=((most_le q (mostD p q 0) p 0).1 Rat.le_refl).1
 have h1:=delta_zero.1 ((most_iff hq hs h0).1 Rat.le_refl)
 have h2:sumBy (fun e=>e.2) p≤sumBy (fun e=>mostD p q 0*massD q e.1) p:=sumBy_le h1
 rw [hp.one,sumBy_mul] at h2
 have h3:sumBy (fun e=>massD q e.1) p≤1:=by
  have e1:sumBy (fun e=>massD q e.1) p=sumBy (massD q) (keysD p):=by unfold keysD;rw [sumBy_map]
  obtain ⟨K,hK,m⟩:=once_list (keysD p++keysD q)
  rw [e1,← hq.total hK (fun k hk=>(m k).2 (by simp [hk]))]
  have e2:sumBy (fun k=>if hasK k (keysD p)=true then massD q k else 0) K=sumBy (massD q) (keysD p):=by
   rw [sumBy_sub hp.once hK (fun k hk=>(m k).2 (by simp [hk])) (fun k _ hn=>if_neg (fun h=>hn (hasK_iff.1 h)))]
   exact sumBy_congr fun k hk=>if_pos (hasK_iff.2 hk)
  rw [← e2]
  refine sumBy_le fun k _=>?_
  have:=hq.zero k
  split<;>grind
 have h4:=Rat.mul_le_mul_of_nonneg_left h3 h0
 grind
def momD (p q:DL) (n:Nat):Rat:=sumBy (fun e=>e.2 ^ (n+1)*(massD q e.1 ^ n)⁻¹) p
theorem mul_pow' (x y:Rat) (n:Nat):(x*y) ^ n=x ^ n*y ^ n:=by
 induction n with
 | zero=>rw [Rat.pow_zero,Rat.pow_zero,Rat.pow_zero,Rat.one_mul]
 | succ n ih=>rw [Rat.pow_succ,Rat.pow_succ,Rat.pow_succ,ih];grind
theorem inv_mul' (x y:Rat):(x*y)⁻¹=x⁻¹*y⁻¹:=by
 by_cases hx:x=0
 ·rw [hx,Rat.zero_mul,Rat.inv_zero,Rat.zero_mul]
 by_cases hy:y=0
 ·rw [hy,Rat.mul_zero,Rat.inv_zero,Rat.mul_zero]
 have hxy:x*y≠0:=by
  intro h
  rcases Rat.mul_eq_zero.1 h with h|h
  ·exact hx h
  ·exact hy h
 have e:x⁻¹*y⁻¹*(x*y)=1:=by
  have a1:=Rat.inv_mul_cancel x hx
  have a2:=Rat.inv_mul_cancel y hy
  have:x⁻¹*y⁻¹*(x*y)=(x⁻¹*x)*(y⁻¹*y):=by grind
  rw [this,a1,a2,Rat.one_mul]
 have e2:=Rat.mul_inv_cancel (x*y) hxy
 have e3:x⁻¹*y⁻¹*(x*y)*(x*y)⁻¹=(x*y)⁻¹:=by rw [e,Rat.one_mul]
 rw [← e3,Rat.mul_assoc,e2,Rat.mul_one]
theorem bernD {x y:Rat} (hx:0 < x) (hy:0 < y) (n:Nat):(n+1:Nat)*x - (n:Nat)*y≤x ^ (n+1)*(y ^ n)⁻¹:=by
 induction n with
 | zero =>
  rw [Rat.pow_zero,Rat.pow_succ,Rat.pow_zero,Rat.one_mul,show (1:Rat)⁻¹=1 by decide +kernel,Rat.mul_one]
  have:((0:Nat):Rat)=0:=rfl
  have h1:((0+1:Nat):Rat)=1:=rfl
  rw [this,h1]
  grind
 | succ n ih =>
  have hi:0 < y⁻¹:=Rat.inv_pos.2 hy
  have hr:0≤x*y⁻¹:=Rat.mul_nonneg (by grind) (by grind)
  have e1:x ^ (n+1+1)*(y ^ (n+1))⁻¹=x ^ (n+1)*(y ^ n)⁻¹*(x*y⁻¹):=by
   rw [Rat.pow_succ x (n+1),Rat.pow_succ y n,inv_mul'];grind
  rw [e1]
  have h1:=Rat.mul_le_mul_of_nonneg_right ih hr
  refine Rat.le_trans ?_ h1
  have c1:((n+1+1:Nat):Rat)=((n+1:Nat):Rat)+1:=by rw [Rat.natCast_add];rfl
  have c2:((n+1:Nat):Rat)=((n:Nat):Rat)+1:=by rw [Rat.natCast_add];rfl
  rw [c1,c2]
  have hn:(0:Rat)≤((n:Nat):Rat):=Rat.natCast_nonneg
  generalize ((n:Nat):Rat)=N at *
  have k1:y*(x*y⁻¹)=x:=by
   have:=Rat.mul_inv_cancel y (by grind)
   have h3:y*(x*y⁻¹)=x*(y*y⁻¹):=by grind
   rw [h3,this,Rat.mul_one]
  -- x²/y ≥ 2x - y
  have k2:0≤(x - y)*(x - y)*y⁻¹:=by
   refine Rat.mul_nonneg ?_ (by grind)
   rcases Rat.le_total (a:=0) (b:=x - y) with h|h
   ·exact Rat.mul_nonneg h h
   ·have:=Rat.mul_nonneg (show 0≤-(x - y) by grind) (show 0≤-(x - y) by grind)
    grind
  have k3:(x - y)*(x - y)*y⁻¹=x*(x*y⁻¹) - 2*x+y:=by
   have:=Rat.mul_inv_cancel y (by grind)
   have h3:(x - y)*(x - y)*y⁻¹=x*(x*y⁻¹) - 2*(x*(y*y⁻¹))+y*(y*y⁻¹):=by grind
   rw [h3,this];grind
  rw [k3] at k2
  have k4:=Rat.mul_nonneg (show 0≤N+1 by grind) k2
  have e2:((N+1)*x - N*y)*(x*y⁻¹)=(N+1)*(x*(x*y⁻¹)) - N*(y*(x*y⁻¹)):=by grind
  rw [e2,k1]
  grind
theorem keys_total {p q:DL} (hp:(keysD p).Nodup) (hq:IsD q):sumBy (fun e=>massD q e.1) p≤1:=by
 obtain ⟨K,hK,m⟩:=once_list (keysD p++keysD q)
 have e1:sumBy (fun e=>massD q e.1) p=sumBy (massD q) (keysD p):=by unfold keysD;rw [sumBy_map]
 rw [e1,← hq.total hK (fun k hk=>(m k).2 (by simp [hk]))]
 have e2:sumBy (fun k=>if hasK k (keysD p)=true then massD q k else 0) K=sumBy (massD q) (keysD p):=by
  rw [sumBy_sub hp hK (fun k hk=>(m k).2 (by simp [hk])) (fun k _ hn=>if_neg (fun h=>hn (hasK_iff.1 h)))]
  exact sumBy_congr fun k hk=>if_pos (hasK_iff.2 hk)
 rw [← e2]
 refine sumBy_le fun k _=>?_
 have:=hq.zero k
 split<;>grind
theorem mom_one {p q:DL} (hp:IsD p) (hq:IsD q) (hs:∀ e∈p,e.1∈keysD q) (n:Nat):1≤momD p q n:=by
 have h1:sumBy (fun e=>((n+1:Nat):Rat)*e.2+(-((n:Nat):Rat))*massD q e.1) p≤momD p q n:=by
  refine sumBy_le fun e he=>?_
  have:=bernD (hp.plus e he) ((hq.pos_iff _).2 (hs e he)) n
  grind
 rw [sumBy_add,sumBy_mul,sumBy_mul,hp.one] at h1
 have h2:=keys_total hp.once hq
 have hn:(0:Rat)≤((n:Nat):Rat):=Rat.natCast_nonneg
 have h3:=Rat.mul_le_mul_of_nonneg_left h2 hn
 have c2:((n+1:Nat):Rat)=((n:Nat):Rat)+1:=by rw [Rat.natCast_add];rfl
 rw [c2] at h1
 grind
def HasDen (D:Nat) (q:Rat):Prop:=∃ n:Int,q*(D:Rat)=(n:Rat)
theorem mul_den_num (q:Rat):q*(q.den:Rat)=(q.num:Rat):=by
 have h0:(q.den:Rat)≠0:=fun h=>q.den_nz (Rat.natCast_inj.1 h)
 have h1:(q.num:Rat) / (q.den:Rat)=q:=by rw [← Rat.mkRat_eq_div,Rat.mkRat_self]
 have h2:(q.num:Rat) / (q.den:Rat)*(q.den:Rat)=(q.num:Rat):=Rat.div_mul_cancel h0
 rwa [h1] at h2
theorem HasDen.self (q:Rat):HasDen q.den q:=⟨q.num,mul_den_num q⟩
theorem HasDen.mul_left {D:Nat} {q:Rat} (h:HasDen D q) (E:Nat):HasDen (E*D) q:=by
 obtain ⟨n,hn⟩:=h
 refine ⟨(E:Int)*n,?_⟩
 rw [Rat.natCast_mul,Rat.intCast_mul,← hn]
 have:((E:Int):Rat)=(E:Rat):=rfl
 rw [this]
 grind
theorem HasDen.mul_right {D:Nat} {q:Rat} (h:HasDen D q) (E:Nat):HasDen (D*E) q:=by rw [Nat.mul_comm];exact h.mul_left E
theorem HasDen.add {D:Nat} {p q:Rat} (hp:HasDen D p) (hq:HasDen D q):HasDen D (p+q):=by
 obtain ⟨n,hn⟩:=hp
 obtain ⟨m,hm⟩:=hq
 exact ⟨n+m,by rw [Rat.add_mul,hn,hm,Rat.intCast_add]⟩
theorem HasDen.neg {D:Nat} {p:Rat} (hp:HasDen D p):HasDen D (-p):=by
 obtain ⟨n,hn⟩:=hp
 exact ⟨-n,by rw [Rat.neg_mul,hn,Rat.intCast_neg]⟩
theorem HasDen.sub {D:Nat} {p q:Rat} (hp:HasDen D p) (hq:HasDen D q):HasDen D (p - q):=by
 rw [Rat.sub_eq_add_neg];exact hp.add hq.neg
theorem HasDen.mul {D E:Nat} {p q:Rat} (hp:HasDen D p) (hq:HasDen E q):HasDen (D*E) (p*q):=by
 obtain ⟨n,hn⟩:=hp
 obtain ⟨m,hm⟩:=hq
 refine ⟨n*m,?_⟩
 rw [Rat.intCast_mul,← hn,← hm,Rat.natCast_mul]
 grind
theorem HasDen.zero (D:Nat):HasDen D 0:=⟨0,by rw [Rat.zero_mul];rfl⟩
theorem HasDen.one (D:Nat):HasDen D 1:=⟨D,by rw [Rat.one_mul];rfl⟩
theorem HasDen.pow {D:Nat} {q:Rat} (h:HasDen D q) (n:Nat):HasDen (D ^ n) (q ^ n):=by
 induction n with
 | zero=>rw [Rat.pow_zero];exact HasDen.one _
 | succ n ih=>rw [Rat.pow_succ,Nat.pow_succ];exact ih.mul h
theorem HasDen.pos {D:Nat} {q:Rat} (h:HasDen D q):HasDen D (pos q):=by
 unfold Go.Proofs.YtigapglmipmbeaaGreatDoor.pos
 split
 ·exact h
 ·exact HasDen.zero D
theorem HasDen.sum {α:Type} {D:Nat} {f:α→Rat}:∀ {l:List α},(∀ a∈l,HasDen D (f a))→HasDen D (sumBy f l)
 | [],_=>HasDen.zero D
 | a::l,h=>(h a (by simp)).add (HasDen.sum (l:=l) fun b hb=>h b (by simp [hb]))
theorem HasDen.dvd {D:Nat} {q:Rat} (h:HasDen D q):q.den ∣ D:=by
 obtain ⟨n,hn⟩:=h
 have h1:q.num*(D:Int)=n*(q.den:Int):=by
  have h2:q*(D:Rat)*(q.den:Rat)=(n:Rat)*(q.den:Rat):=by rw [hn]
  have h3:q*(q.den:Rat)=(q.num:Rat):=mul_den_num q
  have h4:(q.num:Rat)*(D:Rat)=(n:Rat)*(q.den:Rat):=by rw [← h2,← h3];grind
  have h5:((q.num*(D:Int):Int):Rat)=((n*(q.den:Int):Int):Rat):=by
   rw [Rat.intCast_mul,Rat.intCast_mul]
   exact h4
  exact Rat.intCast_inj.1 h5
 have hc:Nat.Coprime q.den q.num.natAbs:=Nat.Coprime.symm q.reduced
 have h2:q.den ∣ q.num.natAbs*D:=by
  have:(q.num*(D:Int)).natAbs=(n*(q.den:Int)).natAbs:=by rw [h1]
  rw [Int.natAbs_mul,Int.natAbs_mul,Int.natAbs_natCast,Int.natAbs_natCast] at this
  rw [this]
  exact Nat.dvd_mul_left _ _
 exact hc.dvd_of_dvd_mul_left h2
theorem HasDen.sz {D k:Nat} {q:Rat} {M:Nat} (h:HasDen D q) (hD:0 < D) (h0:0≤q) (hM:q≤(M:Rat)) (hk:M*D < 10 ^ k) (hM0:0 < M):Sz k q:=by
 have hd:=Nat.le_of_dvd hD h.dvd
 have h1:D≤M*D:=Nat.le_mul_of_pos_left D hM0
 refine ⟨?_,by omega⟩
 have hn:0≤q.num:=Rat.num_nonneg.2 h0
 have e:q.num=(nm q:Int):=by unfold nm;omega
 have h2:(q.num:Rat)≤((M*q.den:Nat):Rat):=by
  rw [← mul_den_num q,Rat.natCast_mul]
  exact Rat.mul_le_mul_of_nonneg_right hM Rat.natCast_nonneg
 have h3:q.num≤((M*q.den:Nat):Int):=Rat.intCast_le_intCast.1 h2
 have h4:M*q.den≤M*D:=Nat.mul_le_mul_left M hd
 omega
end Go.Proofs.YtigapglmipmbeaaGreatDoor
