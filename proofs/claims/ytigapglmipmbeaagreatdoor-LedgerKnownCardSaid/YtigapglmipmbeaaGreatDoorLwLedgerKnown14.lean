/- (printed by mkstage2.py) Regions that draw their order, in stages; a slot may be read by a read and written by one of the others that waits for it: reads (guarded or not) may come as soon as their edges allow, also behind some of the others; the others come in any order that their edges allow. The reference of chapter 10: share and To (printed by mkmref.py). The reference of chapter 10: Of (printed by mkmref.py). The reference of chapter 10: Add (printed by mkmref.py). The reference of chapter 10: Fits (printed by mkmref.py). slices.MinFunc over candidates, and the comparison of two candidates. moment.Best: the walk. moment.Best where To has an error. The reference of chapter 10: Best. What Of, To and Best come to: the numbers and their sizes. rat: Parts, Int; the natural numbers' reference: both, number, Mul, Gcd. The reference's FromInt, small, Int. The reference's Pow of a positive number where the result fits. What the functions of chapter 10 and their references return, in plain rationals. Each function of chapter 10 and its reference return the same, errors included, for texts of 120 bytes. What the statements of chapter 10 share: light, factor, least, lives; a law's world. The examples that each statement of chapter 10 asks first (printed by mkmlaws.py). What LedgerKnown asks: the accounts' steps at the examples' numbers (printed by mkledk.py). -/
import Derived.Test.YtigapglmipmbeaaGreatDoorLwLedgerKnown02
import Derived.Test.YtigapglmipmbeaaGreatDoorLwLedgerKnown13
import Derived.Test.YtigapglmipmbeaaGreatDoorLwLedgerKnown10
import Derived.OwnWalkIn
import Derived.Test.YtigapglmipmbeaaGreatDoorLwLedgerKnown08
import Derived.Test.YtigapglmipmbeaaGreatDoorLwLedgerKnown12
import Derived.Test.YtigapglmipmbeaaGreatDoorLwLedgerKnown06
import Derived.Laws.Runes
set_option maxRecDepth 100000
set_option maxHeartbeats 16000000
namespace Go.Proofs.YtigapglmipmbeaaGreatDoor.S2
open Go.RowKit Go.Proofs.YtigapglmipmbeaaGreatDoor
def bareRead (o:Oper):Bool:=pureRead { o with guard:=none }
def stageOk (ops:List Oper) (H:List Nat):Bool :=
 (List.range ops.length).all fun j=>match ops[j]? with
  | none=>true
  | some o=>ownEdges j o&&noDefer o&&noSel o&&(match o.guard with|none=>true|some (k,_)=>waitsOn o k) &&
   (if H.contains j then bareRead o&&farOf o o.dst else true) &&
   (List.range ops.length).all fun i=>i==j || (match ops[i]? with|none=>true|some h=>(waitsOn o i || (farOf o h.dst || (waitsOn h j&&!H.contains i)))&&(h.dst.isNone || h.dst != o.dst))
structure StOk (ops:List Oper) (H:List Nat) (j:Nat) (o:Oper):Prop where
 edges:ownEdges j o=true
 nd:noDefer o=true
 ns:noSel o=true
 gd:∀ k b,o.guard=some (k,b)→waitsOn o k=true
 rd:j∈H→bareRead o=true∧farOf o o.dst=true
 far:∀ i h,i≠j→ops[i]?=some h→(waitsOn o i=true∨farOf o h.dst=true∨(waitsOn h j=true∧i ∉ H))∧(h.dst=none∨h.dst≠o.dst)
theorem stage_at {ops:List Oper} {H:List Nat} (hok:stageOk ops H=true) {j:Nat} {o:Oper} (hj:ops[j]?=some o):StOk ops H j o:=by
 have hlt:j < ops.length:=(List.getElem?_eq_some_iff.1 hj).1
 have h2:=List.all_eq_true.1 hok j (List.mem_range.2 hlt)
 rw [hj] at h2
 simp only [Bool.and_eq_true] at h2
 obtain ⟨⟨⟨⟨⟨h3,h4⟩,h5⟩,h6⟩,h7⟩,h8⟩:=h2
 refine ⟨h3,h4,h5,fun k b hg=>?_,fun hm=>?_,fun i h hne hi=>?_⟩
 ·rw [hg] at h6;exact h6
 ·rw [if_pos (by simpa using hm)] at h7;simpa using h7
 ·have:=List.all_eq_true.1 h8 i (List.mem_range.2 (List.getElem?_eq_some_iff.1 hi).1)
  rw [hi] at this
  simp only [Bool.or_eq_true,beq_iff_eq,Bool.and_eq_true,Option.isNone_iff_eq_none,bne_iff_ne] at this
  rcases this with h|h
  ·exact absurd h hne
  ·refine ⟨?_,h.2⟩
   rcases h.1 with h1|h1|h1
   ·exact .inl h1
   ·exact .inr (.inl h1)
   ·exact .inr (.inr ⟨h1.1,by have h2:=h1.2;simpa using h2⟩)
section
variable {F:Fence} {n:Nat} {P:Program} {C:World→Prop} {ops:List Oper} {H:List Nat}
theorem bare_runs {o:Oper} {a:Act} {K':Act→World→Prop} {Q:Exit→Act→World→Prop} {w:World} {v:Value} (hp:bareRead o=true) (hrun:o.quietAtIn F n P a C w v) (hK:K' (a.put o.dst v) w)
  (ha:∀ f,o.about P w a.eval=some f→F.fn f):o.wpIn F n P a w K' Q:=pure_runs (o:={ o with guard:=none }) hp hrun hK ha
theorem wanted_of {o:Oper} {a b:Act} (h:∀ k bb,o.guard=some (k,bb)→∀ s,(ops[k]?).bind (·.dst)=some s→a.tmps[s]?=b.tmps[s]?) :
  Region.wanted o (yielded ops.toArray a.tmps)=Region.wanted o (yielded ops.toArray b.tmps):=by
 unfold Region.wanted
 cases hg:o.guard with
 | none=>rfl
 | some kb =>
  obtain ⟨k,bb⟩:=kb
  have:yielded ops.toArray a.tmps k=yielded ops.toArray b.tmps k:=by
   unfold yielded
   rw [List.getElem?_toArray]
   cases hd:(ops[k]?).bind (·.dst) with
   | none=>rfl
   | some s =>
    simp only [Option.bind_some]
    rw [h k bb hg s hd]
  simp only [this]
def HeadVal (F:Fence) (n:Nat) (P:Program) (C:World→Prop) (ops:List Oper) (o:Oper) (b:Act) (v:Value):Prop :=
 o.askedIn F P b C∧((Region.wanted o (yielded ops.toArray b.tmps)=true∧∀ w,C w→o.quietAtIn F n P b C w v)∨(Region.wanted o (yielded ops.toArray b.tmps)=false∧v=undef))
theorem slot_other {b:Act} {d:Option Tmp} {u:Value} {s:Tmp} (h:d≠some s):(b.put d u).tmps[s]?=b.tmps[s]?:=by
 cases d with
 | none=>rfl
 | some e=>rw [put_get,if_neg (fun h'=>h (by rw [h'.1]))]
theorem HeadVal.of {o:Oper} {a b:Act} {v:Value} (h:HeadVal F n P C ops o b v) (hns:noSel o=true) (hev:∀ x∈o.op.operands,a.eval x=b.eval x)
  (hg:∀ k bb,o.guard=some (k,bb)→∀ s,(ops[k]?).bind (·.dst)=some s→a.tmps[s]?=b.tmps[s]?):HeadVal F n P C ops o a v:=by
 obtain ⟨h1,h2⟩:=h
 obtain ⟨e1,e2⟩:=quietAt_of (P:=P) (sel_of hns) hev
 refine ⟨fun w hw f hf=>h1 w hw f (by rw [← e2];exact hf),?_⟩
 rw [wanted_of hg]
 rcases h2 with ⟨hw,hq⟩|h2
 ·refine .inl ⟨hw,fun w hw=>?_⟩
  have:=hq w hw
  unfold Oper.quietAtIn at this ⊢
  rw [e1]
  exact this
 ·exact .inr h2
def wpStage (F:Fence) (n:Nat) (P:Program) (ops:List Oper) (H:List Nat) (C:World→Prop) (waits:Nat→Bool) (Q':Act→World→Prop):Nat→Array Bool→Act→World→Prop
 | 0,LT,b,w=>Region.ready .any ops.toArray LT=[]∧Q' b w
 | f+1,LT,b,w =>
  (∃ i o,i∈H∧i∈Region.ready .any ops.toArray LT∧ops[i]?=some o∧∃ v,HeadVal F n P C ops o b v∧wpStage F n P ops H C waits Q' f (LT.setIfInBounds i true) (b.put o.dst v) w) ∨
  ((Region.ready .any ops.toArray LT=[]→Q' b w) ∧
   ∀ j∈Region.ready .any ops.toArray LT,∀ o,ops[j]?=some o→wpListIn F n P ops.toArray (fun e a' w'=>e=.normal∧(waits j=false→C w')∧wpStage F n P ops H C waits Q' f (LT.setIfInBounds j true) a' w') [o] b w)
def Owed (H:List Nat) (L LT:Array Bool) (i:Nat):Prop:=i∈H∧LT[i]?=some true∧L[i]?=some false
def Known (F:Fence) (n:Nat) (P:Program) (C:World→Prop) (ops:List Oper) (H:List Nat) (L LT:Array Bool) (b:Act):Prop :=
 ∀ i o,Owed H L LT i→ops[i]?=some o→∃ v,b.put o.dst v=b∧HeadVal F n P C ops o b v
theorem set_get {L:Array Bool} {j i:Nat} (hj:j < L.size):(L.setIfInBounds j true)[i]?=if j=i then some true else L[i]?:=by
 by_cases h:j=i
 ·subst h;rw [if_pos rfl,Array.getElem?_setIfInBounds_self_of_lt hj]
 ·rw [if_neg h,Array.getElem?_setIfInBounds_ne h]
theorem get_or {L:Array Bool} {i:Nat} (h:i < L.size):L[i]?=some true∨L[i]?=some false:=by
 rw [Array.getElem?_eq_getElem h]
 cases L[i]<;>simp
theorem owed_agree (hok:stageOk ops H=true) {L LT:Array Bool} (_hs1:L.size=ops.length) {a b:Act} (hl:Lack ops (Owed H L LT) a b) {j:Nat} {o:Oper} (hoj:ops[j]?=some o) (hself:Owed H L LT j→farOf o o.dst=true)
  (hall:∀ k,waitsOn o k=true→L[k]?=some true):(∀ x∈o.op.operands,a.eval x=b.eval x)∧∀ k bb,o.guard=some (k,bb)→∀ s,(ops[k]?).bind (·.dst)=some s→a.tmps[s]?=b.tmps[s]?:=by
 have hS:=stage_at hok hoj
 refine ⟨hl.eval fun i h' hi hh d hd=>?_,fun k bb hg s hs=>hl.same s fun i h' hi hh e=>?_⟩
 ·by_cases hij:i=j
  ·subst hij
   rw [hoj] at hh;cases hh
   exact farOf_spec (hself hi) d hd
  ·rcases (hS.far i h' hij hh).1 with hw|hf|hf
   ·have:=hall i hw
    rw [hi.2.2] at this;cases this
   ·exact farOf_spec hf d hd
   ·exact absurd hi.1 hf.2
 ·have hk:=hall k (hS.gd k bb hg)
  have hik:i≠k:=fun e'=>by subst e';rw [hi.2.2] at hk;cases hk
  obtain ⟨ok,hok',hd⟩:=Option.bind_eq_some_iff.1 hs
  rcases ((stage_at hok hok').far i h' hik hh).2 with h0|h0
  ·rw [h0] at e;cases e
  ·exact h0 (by rw [e,hd])
theorem known_put (hok:stageOk ops H=true) {L LT:Array Bool} {b:Act} (hk:Known F n P C ops H L LT b) {j:Nat} {o:Oper} (hoj:ops[j]?=some o) (hj:LT[j]?=some false)
  (hcl:∀ i o,i∈H→LT[i]?=some true→ops[i]?=some o→∀ k,waitsOn o k=true→LT[k]?=some true) (u:Value) {i:Nat} {oi:Oper} (hi:Owed H L LT i) (hoi:ops[i]?=some oi) (hno:waitsOn o i=true→j∈H) :
  ∃ v,(b.put o.dst u).put oi.dst v=b.put o.dst u∧HeadVal F n P C ops oi (b.put o.dst u) v:=by
 obtain ⟨v,h1,h2⟩:=hk i oi hi hoi
 have hij:i≠j:=fun e=>by subst e;rw [hi.2.1] at hj;cases hj
 have hSi:=stage_at hok hoi
 have hSj:=stage_at hok hoj
 have hw:∀ k,waitsOn oi k=true→k≠j:=fun k hk e=>by
  subst e
  have:=hcl i oi hi.1 hi.2.1 hoi k hk
  rw [hj] at this;cases this
 have hfar:=(hSi.far j o (fun e=>hij e.symm) hoj)
 refine ⟨v,?_,h2.of hSi.ns (operands_far (farOf_spec ?_)) fun k bb hg s hs=>slot_other fun e=>?_⟩
 ·rcases hfar.2 with h|h
  ·rw [h];exact h1
  ·have hc:=Act.put_comm b (x:=oi.dst) (y:=o.dst) v u (fun d h1 h2=>h (h2.trans h1.symm))
   rw [← hc,h1]
 ·rcases hfar.1 with h|h|h
  ·exact absurd rfl (hw j h)
  ·exact h
  ·exact absurd (hno h.1) h.2
 ·have hkj:=hw k (hSi.gd k bb hg)
  obtain ⟨ok,hok',hd⟩:=Option.bind_eq_some_iff.1 hs
  rcases (hSj.far k ok hkj hok').2 with h0|h0
  ·rw [h0] at hd;cases hd
  ·exact h0 (by rw [e,hd])
structure StInv (F:Fence) (n:Nat) (P:Program) (C:World→Prop) (ops:List Oper) (H:List Nat) (L LT:Array Bool) (a b:Act) (w:World):Prop where
 s1:L.size=ops.length
 s2:LT.size=ops.length
 same:∀ i:Nat,i < ops.length→i ∉ H→L[i]?=LT[i]?
 le:∀ i:Nat,L[i]?=some true→LT[i]?=some true
 closed:∀ (i:Nat) (o:Oper),i∈H→LT[i]?=some true→ops[i]?=some o→∀ k,waitsOn o k=true→LT[k]?=some true
 known:(∀ i∈H,i < ops.length→L[i]?=some true)∨(C w∧Known F n P C ops H L LT b)
 lack:Lack ops (Owed H L LT) a b
theorem StInv.hoist (hok:stageOk ops H=true) {L LT:Array Bool} {a b:Act} {w:World} (h:StInv F n P C ops H L LT a b w) {i:Nat} {o:Oper} (hi:i∈H) (hoi:ops[i]?=some o) (hLT:LT[i]?=some false)
  (hall:∀ k,waitsOn o k=true→LT[k]?=some true) {v:Value} (hv:HeadVal F n P C ops o b v):StInv F n P C ops H L (LT.setIfInBounds i true) a (b.put o.dst v) w:=by
 have hil:=(List.getElem?_eq_some_iff.1 hoi).1
 have hlt:i < LT.size:=by rw [h.s2];exact hil
 have hLi:L[i]?=some false:=by
  rcases get_or (L:=L) (i:=i) (by rw [h.s1];exact hil) with e|e
  ·have:=h.le i e;rw [hLT] at this;cases this
  ·exact e
 have hS:=stage_at hok hoi
 have hwi:waitsOn o i=true→False:=fun e=>by have:=hall i e;rw [hLT] at this;cases this
 refine ⟨h.s1,by simpa using h.s2,fun k hk hkH=>?_,fun k hk=>?_,fun k ok hk hkT hok' j hj=>?_,?_,?_⟩
 ·rw [set_get hlt,if_neg (fun e=>hkH (by rw [← e];exact hi))];exact h.same k hk hkH
 ·rw [set_get hlt];split
  ·rfl
  ·exact h.le k hk
 ·rw [set_get hlt]
  by_cases e:i=j
  ·rw [if_pos e]
  ·rw [if_neg e]
   by_cases e2:i=k
   ·subst e2;rw [hoi] at hok';cases hok';exact hall j hj
   ·rw [set_get hlt,if_neg e2] at hkT;exact h.closed k ok hk hkT hok' j hj
 ·rcases h.known with hk|⟨hC,hk⟩
  ·have:=hk i hi hil;rw [hLi] at this;cases this
  ·refine .inr ⟨hC,fun k ok hkO hok'=>?_⟩
   by_cases e:i=k
   ·subst e
    rw [hoi] at hok';cases hok'
    refine ⟨v,put_put_same _ _ _,hv.of hS.ns (operands_far (farOf_spec (hS.rd hi).2)) fun k bb hg s hs=>slot_other fun e=>?_⟩
    have hki:k≠i:=fun e'=>by subst e';exact hwi (hS.gd k bb hg)
    obtain ⟨ok,hok',hd⟩:=Option.bind_eq_some_iff.1 hs
    rcases (hS.far k ok hki hok').2 with h0|h0
    ·rw [h0] at hd;cases hd
    ·exact h0 (by rw [e,hd])
   ·refine known_put hok hk hoi hLT h.closed v ⟨hkO.1,?_,hkO.2.2⟩ hok' (fun _=>hi)
    have:=hkO.2.1
    rwa [set_get hlt,if_neg e] at this
 ·refine ⟨h.lack.defers.trans (put_defers _ _ _).symm,h.lack.size.trans (put_size _ _ _).symm,fun s hs=>?_⟩
  have h1:=h.lack.same s fun k ok hk hok'=>hs k ok ⟨hk.1,by rw [set_get hlt];split;rfl;exact hk.2.1,hk.2.2⟩ hok'
  rw [h1,slot_other (hs i o ⟨hi,by rw [set_get hlt,if_pos rfl],hLi⟩ hoi)]
theorem StInv.paid (_hok:stageOk ops H=true) {L LT:Array Bool} {a b:Act} {w:World} (h:StInv F n P C ops H L LT a b w) {j:Nat} {o:Oper} (hoj:ops[j]?=some o) (hO:Owed H L LT j) {v:Value} (hb:b.put o.dst v=b) :
  StInv F n P C ops H (L.setIfInBounds j true) LT (a.put o.dst v) b w:=by
 have hjl:j < L.size:=by rw [h.s1];exact (List.getElem?_eq_some_iff.1 hoj).1
 have sub:∀ k,Owed H (L.setIfInBounds j true) LT k→Owed H L LT k:=fun k hk=>by
  refine ⟨hk.1,hk.2.1,?_⟩
  have:=hk.2.2
  rw [set_get hjl] at this
  split at this
  ·cases this
  ·exact this
 refine ⟨by simpa using h.s1,h.s2,fun k hk hkH=>?_,fun k hk=>?_,h.closed,?_,?_⟩
 ·rw [set_get hjl,if_neg (fun e=>hkH (by rw [← e];exact hO.1))];exact h.same k hk hkH
 ·rw [set_get hjl] at hk
  split at hk
  ·rename_i e;rw [← e];exact hO.2.1
  ·exact h.le k hk
 ·rcases h.known with hk|⟨hC,hk⟩
  ·exact .inl fun k hkH hkl=>by rw [set_get hjl];split;rfl;exact hk k hkH hkl
  ·exact .inr ⟨hC,fun k ok hkO=>hk k ok (sub k hkO)⟩
 ·refine h.lack.head hoj hb fun k hk=>?_
  by_cases e:j=k
  ·exact .inl e.symm
  ·exact .inr ⟨hk.1,hk.2.1,by rw [set_get hjl,if_neg e];exact hk.2.2⟩
theorem StInv.step (hok:stageOk ops H=true) {L LT:Array Bool} {a b a' b':Act} {w w':World} (h:StInv F n P C ops H L LT a b w) {j:Nat} {o:Oper} (hoj:ops[j]?=some o) (_hL:L[j]?=some false) (hLT:LT[j]?=some false)
  (hall:∀ k,waitsOn o k=true→L[k]?=some true) {u:Value} {b0:Act} (hkn:Known F n P C ops H L LT b→Known F n P C ops H L LT b0) (hb':b'=b0.put o.dst u) (hl':Lack ops (Owed H L LT) a' b') (hC':C w'∨∀ i∈H,i < ops.length→waitsOn o i=true) :
  StInv F n P C ops H (L.setIfInBounds j true) (LT.setIfInBounds j true) a' b' w':=by
 have hjl:j < L.size:=by rw [h.s1];exact (List.getElem?_eq_some_iff.1 hoj).1
 have hjt:j < LT.size:=by rw [h.s2];exact (List.getElem?_eq_some_iff.1 hoj).1
 have sub:∀ k,Owed H (L.setIfInBounds j true) (LT.setIfInBounds j true) k→Owed H L LT k:=fun k hk=>by
  have h1:=hk.2.1
  have h2:=hk.2.2
  rw [set_get hjl] at h2
  rw [set_get hjt] at h1
  split at h2
  ·cases h2
  ·rename_i e;rw [if_neg e] at h1;exact ⟨hk.1,h1,h2⟩
 refine ⟨by simpa using h.s1,by simpa using h.s2,fun k hk hkH=>?_,fun k hk=>?_,fun k ok hk hkT hok' m hm=>?_,?_,?_⟩
 ·rw [set_get hjl,set_get hjt];split
  ·rfl
  ·exact h.same k hk hkH
 ·rw [set_get hjl] at hk;rw [set_get hjt]
  split
  ·rfl
  ·rename_i e;rw [if_neg e] at hk;exact h.le k hk
 ·rw [set_get hjt]
  split
  ·rfl
  ·by_cases e2:j=k
   ·subst e2;rw [hoj] at hok';cases hok';exact h.le m (hall m hm)
   ·rw [set_get hjt,if_neg e2] at hkT;exact h.closed k ok hk hkT hok' m hm
 ·rcases h.known with hk|⟨hC,hk⟩
  ·exact .inl fun k hkH hkl=>by rw [set_get hjl];split;rfl;exact hk k hkH hkl
  ·rcases hC' with hC'|hC'
   ·refine .inr ⟨hC',fun k ok hkO hok'=>?_⟩
    rw [hb']
    exact known_put hok (hkn hk) hoj hLT h.closed u (sub k hkO) hok' (fun hw=>by
     have h1:=hall k hw
     have h2:=(sub k hkO).2.2
     rw [h1] at h2;cases h2)
   ·exact .inl fun k hkH hkl=>by rw [set_get hjl];split;rfl;exact hall k (hC' k hkH hkl)
 ·exact hl'.mono fun k hkl hk=>by
   refine ⟨hk.1,?_,?_⟩
   ·rw [set_get hjt];split;rfl;exact hk.2.1
   ·rw [set_get hjl]
    split
    ·rename_i e;subst e;have:=hk.2.1;rw [hLT] at this;cases this
    ·exact hk.2.2
theorem getD_false {L:Array Bool} {i:Nat} (hi:i < L.size) (h:L.getD i true=false):L[i]?=some false:=by
 rcases get_or hi with e|e
 ·rw [getD_of e] at h;cases h
 ·exact e
theorem ready_exists (hok:stageOk ops H=true) {L:Array Bool} (hsz:L.size=ops.length) (hu:unlisted ops.length L≠0):∃ i,i∈Region.ready .any ops.toArray L:=by
 have hne:∃ i,i < ops.length∧L.getD i true=false:=by
  have hpos:0 < ((List.range ops.length).filter fun i=>!L.getD i true).length:=by unfold unlisted at hu;omega
  obtain ⟨i,hi⟩:=List.exists_mem_of_length_pos hpos
  obtain ⟨g1,g2⟩:=List.mem_filter.1 hi
  exact ⟨i,List.mem_range.1 g1,by simpa using g2⟩
 obtain ⟨i0,⟨hi0,hu0⟩,hmin⟩:=exists_least (p:=fun i=>i < ops.length∧L.getD i true=false) hne
 have ho:ops[i0]?=some ops[i0]:=by simp [hi0]
 refine ⟨i0,mem_ready.2 ⟨hu0,ops[i0],by simp [hi0],fun e he hb=>?_⟩⟩
 have hlt:=ownEdges_spec (stage_at hok ho).edges e he hb
 have hnot:¬ L.getD e.on true=false:=fun hh=>by have:=hmin e.on ⟨by omega,hh⟩;omega
 exact getD_of (listed_of (k:=ops.length) (by omega) (by omega) (.inl (by simpa using hnot)))
theorem ready_none {L:Array Bool} (hsz:L.size=ops.length) (hu:unlisted ops.length L=0):Region.ready .any ops.toArray L=[]:=by
 rw [List.eq_nil_iff_forall_not_mem]
 intro j hj
 obtain ⟨hj1,o,ho,_⟩:=mem_ready.1 hj
 have hlt:j < ops.length:=by have:=(Array.getElem?_eq_some_iff.1 ho).1;simpa using this
 have:=listed_of (k:=ops.length) (by omega) hlt (.inr (unlisted_zero hu (by omega) j hlt))
 rw [getD_of this] at hj1;cases hj1
theorem ready_facts (hok:stageOk ops H=true) {L:Array Bool} (hsz:L.size=ops.length) {j:Nat} (hj:j∈Region.ready .any ops.toArray L):∃ o,ops[j]?=some o∧ops.toArray[j]?=some o∧L[j]?=some false∧∀ k,waitsOn o k=true→L[k]?=some true:=by
 obtain ⟨hj1,o,ho,hall⟩:=mem_ready.1 hj
 have hjl:j < ops.length:=by have:=(Array.getElem?_eq_some_iff.1 ho).1;simpa using this
 have hoj:ops[j]?=some o:=by rw [← ho];simp
 refine ⟨o,hoj,ho,getD_false (by omega) hj1,fun k hk=>?_⟩
 obtain ⟨e,he,hb,hon⟩:=waitsOn_spec hk
 have h1:=hall e he hb
 have hel:=ownEdges_spec (stage_at hok hoj).edges e he hb
 rw [hon] at h1 hel
 exact listed_of (k:=ops.length) (by omega) (by omega) (.inr h1)
theorem ready_mono (hok:stageOk ops H=true) {L LT:Array Bool} (hs1:L.size=ops.length) (_hs2:LT.size=ops.length) (hle:∀ i:Nat,L[i]?=some true→LT[i]?=some true) {j:Nat} (hj:j∈Region.ready .any ops.toArray L) (hLT:LT[j]?=some false):j∈Region.ready .any ops.toArray LT:=by
 obtain ⟨o,hoj,ho,hL,hall⟩:=ready_facts hok hs1 hj
 refine mem_ready.2 ⟨getD_of hLT,o,ho,fun e he hb=>?_⟩
 have hw:waitsOn o e.on=true:=by
  unfold waitsOn
  rw [Array.any_eq_true']
  exact ⟨e,he,by simp [hb]⟩
 exact getD_of (hle _ (hall _ hw))
theorem Known.defers {L LT:Array Bool} {b:Act} (h:Known F n P C ops H L LT b) (ds:List Deferred):Known F n P C ops H L LT { b with defers:=ds }:=by
 intro i o hi ho
 obtain ⟨u,h2,h3⟩:=h i o hi ho
 refine ⟨u,?_,h3⟩
 cases hd:o.dst with
 | none=>rfl
 | some d =>
  rw [hd] at h2
  have:=congrArg Act.tmps h2
  simp only [Act.put] at this ⊢
  rw [this]
theorem stage_paid (hok:stageOk ops H=true) {L LT:Array Bool} {a b:Act} {w:World} (hI:StInv F n P C ops H L LT a b w) {j:Nat} {o:Oper} (hO:Owed H L LT j) (hoj:ops[j]?=some o) (ho:ops.toArray[j]?=some o)
  (hall:∀ k,waitsOn o k=true→L[k]?=some true) {Q:Exit→Act→World→Prop} {K:Act→World→Prop} (hK:∀ v,b.put o.dst v=b→K (a.put o.dst v) w):wpOpIn F n P ops.toArray Q j K a w:=by
 have hS:=stage_at hok hoj
 rcases hI.known with hk|⟨hC,hk⟩
 ·have:=hk j hO.1 (List.getElem?_eq_some_iff.1 hoj).1;rw [hO.2.2] at this;cases this
 ·obtain ⟨v,hb,hv⟩:=hk j o hO hoj
  obtain ⟨hev,hgd⟩:=owed_agree hok hI.s1 hI.lack hoj (fun h=>(hS.rd h.1).2) hall
  obtain ⟨hask,hcase⟩:=hv.of hS.ns hev hgd
  unfold wpOpIn
  rw [ho]
  dsimp only
  rcases hcase with ⟨hw,hq⟩|⟨hw,rfl⟩
  ·rw [if_pos hw]
   exact bare_runs (hS.rd hO.1).1 (hq w hC) (hK v hb) (fun f hf=>hask w hC f hf)
  ·rw [if_neg (by rw [hw];simp)]
   exact ⟨fun f hf=>hask w hC f hf,hK _ hb⟩
theorem stage_run (hok:stageOk ops H=true) (waits:Nat→Bool) (hw:∀ j o,ops[j]?=some o→waits j=true→∀ i∈H,i < ops.length→waitsOn o i=true) (Q:Exit→Act→World→Prop):∀ (g f:Nat) (L LT:Array Bool) (a b:Act) (w:World),
  unlisted ops.length L=g→unlisted ops.length LT=f→StInv F n P C ops H L LT a b w→wpStage F n P ops H C waits (fun a w=>Q .normal a w) f LT b w→wpAnyIn F n P .any ops.toArray Q g L a w:=by
 intro g
 induction g with
 | zero =>
  intro f L LT a b w hg hf hI h
  have hall:∀ i,i < ops.length→L[i]?=some true:=fun i hi=>listed_of (k:=ops.length) (by rw [hI.s1];omega) hi (.inr (unlisted_zero hg (by rw [hI.s1];omega) i hi))
  have hut:unlisted ops.length LT=0:=by
   unfold unlisted
   rw [List.length_eq_zero_iff,List.filter_eq_nil_iff]
   intro i hi
   have:=hI.le i (hall i (List.mem_range.1 hi))
   simp [Array.getD_eq_getD_getElem?,this]
  rw [hut] at hf
  subst hf
  refine ⟨ready_none hI.s1 hg,?_⟩
  rw [hI.lack.full fun i hi hn=>by have:=hall i hi;rw [hn.2.2] at this;cases this]
  exact h.2
 | succ g ih =>
  intro f
  have less:∀ {L:Array Bool} {j k:Nat},L.size=ops.length→j < ops.length→L[j]?=some false→unlisted ops.length L=k+1→unlisted ops.length (L.setIfInBounds j true)=k:=fun hsz hj hf hu=>by
   have:=unlisted_set hj (by omega) (getD_of (d:=true) hf)
   omega
  induction f with
  | zero =>
   intro L LT a b w hg hf hI h
   obtain ⟨r0,hr0⟩:=ready_exists hok hI.s1 (by omega)
   refine ⟨fun e=>(by rw [e] at hr0;cases hr0),fun j hj=>?_⟩
   obtain ⟨o,hoj,ho,hL,hall⟩:=ready_facts hok hI.s1 hj
   have hjl:=(List.getElem?_eq_some_iff.1 hoj).1
   have hLT:LT[j]?=some true:=listed_of (k:=ops.length) (by rw [hI.s2];omega) hjl (.inr (unlisted_zero hf (by rw [hI.s2];omega) j hjl))
   have hjH:j∈H:=by
    by_cases hm:j∈H
    ·exact hm
    ·have:=hI.same j hjl hm;rw [hL,hLT] at this;cases this
   have hO:Owed H L LT j:=⟨hjH,hLT,hL⟩
   exact stage_paid hok hI hO hoj ho hall fun v hb=>ih 0 _ LT _ b w (less hI.s1 hjl hL hg) hf (hI.paid hok hoj hO hb) h
  | succ f ihf =>
   intro L LT a b w hg hf hI h
   rcases h with ⟨i,o,hiH,hir,hoi,v,hv,hst⟩|⟨h1,h2⟩
   ·obtain ⟨o',hoi',_,hLTi,halli⟩:=ready_facts hok hI.s2 hir
    rw [hoi] at hoi';cases hoi'
    have hil:=(List.getElem?_eq_some_iff.1 hoi).1
    exact ihf L _ a _ w hg (less hI.s2 hil hLTi hf) (hI.hoist hok hiH hoi hLTi halli hv) hst
   ·obtain ⟨r0,hr0⟩:=ready_exists hok hI.s1 (by omega)
    refine ⟨fun e=>(by rw [e] at hr0;cases hr0),fun j hj=>?_⟩
    obtain ⟨o,hoj,ho,hL,hall⟩:=ready_facts hok hI.s1 hj
    have hjl:=(List.getElem?_eq_some_iff.1 hoj).1
    rcases get_or (L:=LT) (i:=j) (by rw [hI.s2];exact hjl) with hLT|hLT
    ·have hjH:j∈H:=by
      by_cases hm:j∈H
      ·exact hm
      ·have:=hI.same j hjl hm;rw [hL,hLT] at this;cases this
     have hO:Owed H L LT j:=⟨hjH,hLT,hL⟩
     exact stage_paid hok hI hO hoj ho hall fun v hb=>ih (f+1) _ LT _ b w (less hI.s1 hjl hL hg) hf (hI.paid hok hoj hO hb) (.inr ⟨h1,h2⟩)
    ·have hrT:=ready_mono hok hI.s1 hI.s2 hI.le hj hLT
     have h3:=h2 j hrT o hoj
     have hS:=stage_at hok hoj
     obtain ⟨hev,hgd⟩:=owed_agree hok hI.s1 hI.lack hoj (fun h=>by have:=h.2.1;rw [hLT] at this;cases this) hall
     obtain ⟨e1,e2⟩:=quietAt_of (P:=P) (sel_of hS.ns) hev
     have hC':∀ w',(waits j=false→C w')→(C w'∨∀ i∈H,i < ops.length→waitsOn o i=true):=fun w' h=>by
      cases hwj:waits j with
      | true=>exact .inr (hw j o hoj hwj)
      | false=>exact .inl (h hwj)
     simp only [wpListIn] at h3
     unfold wpOpIn
     rw [ho]
     dsimp only
     rw [wanted_of hgd]
     by_cases hwt:Region.wanted o (yielded ops.toArray b.tmps)=true
     ·rw [if_pos hwt] at h3 ⊢
      refine wpIn_move hS.nd e1 (e2 w) (fun v w' h'=>?_) (fun d w' h'=>?_) (fun e a w h=>h.1) h3
      ·exact ih f _ _ _ _ w' (less hI.s1 hjl hL hg) (less hI.s2 hjl hLT hf) (hI.step hok hoj hL hLT hall id rfl (hI.lack.tail _ _) (hC' w' h'.2.1)) h'.2.2
      ·exact ih f _ _ _ _ w' (less hI.s1 hjl hL hg) (less hI.s2 hjl hLT hf) (hI.step hok hoj hL hLT hall (fun hk=>hk.defers _) rfl ((hI.lack.defer d).tail _ _) (hC' w' h'.2.1)) h'.2.2
     ·rw [if_neg hwt] at h3 ⊢
      obtain ⟨h4,h5⟩:=h3
      exact ⟨fun f hf=>h4 f (by rw [← e2 w];exact hf),ih f _ _ _ _ w (less hI.s1 hjl hL hg) (less hI.s2 hjl hLT hf) (hI.step hok hoj hL hLT hall id rfl (hI.lack.tail _ _) (hC' w h5.2.1)) h5.2.2⟩
def hoistOk (ops:List Oper) (H:List Nat):List Nat→Array Bool→Bool
 | [],_=>true
 | i::l,LT=>H.contains i&&!(LT.getD i true)&&(match ops[i]? with|none=>false|some o=>o.after.all fun e=>!Region.binds .any e || LT.getD e.on false)&&hoistOk ops H l (LT.setIfInBounds i true)
def listAll (hs:List Nat) (LT:Array Bool):Array Bool:=hs.foldl (fun LT i=>LT.setIfInBounds i true) LT
theorem stage_reads {waits:Nat→Bool} {Q':Act→World→Prop} {w:World}:∀ (hs:List Nat) (f:Nat) (LT:Array Bool) (b:Act),hoistOk ops H hs LT=true →
  wpQuietIn F n P ops.toArray C (fun b'=>wpStage F n P ops H C waits Q' f (listAll hs LT) b' w) (pickOps ops hs) b→wpStage F n P ops H C waits Q' (f+hs.length) LT b w
 | [],f,LT,b,_,h=>h
 | i::l,f,LT,b,hh,h=>by
  simp only [hoistOk,Bool.and_eq_true,Bool.not_eq_true'] at hh
  obtain ⟨⟨⟨h1,h2⟩,h3⟩,h4⟩:=hh
  cases ho:ops[i]? with
  | none=>rw [ho] at h3;cases h3
  | some o =>
   rw [ho] at h3
   rw [pick_cons,ho] at h
   obtain ⟨hask,h⟩:=h
   have hr:i∈Region.ready .any ops.toArray LT:=mem_ready.2 ⟨h2,o,by simpa using ho,fun e he hb=>by
    have:=Array.all_eq_true_iff_forall_mem.1 h3 e he
    rw [hb] at this
    simpa using this⟩
   have hH:i∈H:=by simpa using h1
   by_cases hwt:Region.wanted o (yielded ops.toArray b.tmps)=true
   ·rw [if_pos hwt] at h
    obtain ⟨v,hv,h⟩:=h
    exact .inl ⟨i,o,hH,hr,ho,v,⟨hask,.inl ⟨hwt,hv⟩⟩,stage_reads l f _ _ h4 h⟩
   ·rw [if_neg hwt] at h
    exact .inl ⟨i,o,hH,hr,ho,undef,⟨hask,.inr ⟨by simpa using hwt,rfl⟩⟩,stage_reads l f _ _ h4 h⟩
def StagePost (F:Fence) (n:Nat) (P:Program) (ops:List Oper) (H:List Nat) (C:World→Prop) (waits:Nat→Bool) (Q':Act→World→Prop) (f:Nat) (LT:Array Bool) (i:Nat):Exit→Act→World→Prop :=
 fun e a' w'=>e=.normal∧(waits i=false→C w')∧wpStage F n P ops H C waits Q' f (LT.setIfInBounds i true) a' w'
theorem stage_post {waits:Nat→Bool} {Q':Act→World→Prop} {f:Nat} {LT:Array Bool} {i:Nat} {a:Act} {w:World} (hC:C w) (h:wpStage F n P ops H C waits Q' f (LT.setIfInBounds i true) a w):StagePost F n P ops H C waits Q' f LT i .normal a w:=⟨rfl,fun _=>hC,h⟩
theorem stage_last {waits:Nat→Bool} {Q':Act→World→Prop} {f:Nat} {LT:Array Bool} {i:Nat} {a:Act} {w:World} (hw:waits i=true) (h:wpStage F n P ops H C waits Q' f (LT.setIfInBounds i true) a w):StagePost F n P ops H C waits Q' f LT i .normal a w:=⟨rfl,fun e=>(by rw [hw] at e;cases e),h⟩
theorem stage_one {waits:Nat→Bool} {Q':Act→World→Prop} {f:Nat} {LT:Array Bool} {a:Act} {w:World} (i:Nat) {o:Oper} (hr:Region.ready .any ops.toArray LT=[i]) (ho:ops[i]?=some o)
  (h:wpListIn F n P ops.toArray (StagePost F n P ops H C waits Q' f LT i) [o] a w):wpStage F n P ops H C waits Q' (f+1) LT a w :=
 .inr ⟨fun e=>(by rw [hr] at e;cases e),fun j hj o' ho'=>by
  rw [hr] at hj
  obtain rfl:j=i:=by simpa using hj
  rw [ho] at ho'
  cases ho'
  exact h⟩
theorem stage_two {waits:Nat→Bool} {Q':Act→World→Prop} {f:Nat} {LT:Array Bool} {a:Act} {w:World} (i j:Nat) {o o2:Oper} (hr:Region.ready .any ops.toArray LT=[i,j]) (ho:ops[i]?=some o) (ho2:ops[j]?=some o2)
  (h:wpListIn F n P ops.toArray (StagePost F n P ops H C waits Q' f LT i) [o] a w) (h2:wpListIn F n P ops.toArray (StagePost F n P ops H C waits Q' f LT j) [o2] a w):wpStage F n P ops H C waits Q' (f+1) LT a w :=
 .inr ⟨fun e=>(by rw [hr] at e;cases e),fun k hk o' ho'=>by
  rw [hr] at hk
  simp only [List.mem_cons,List.not_mem_nil,or_false] at hk
  rcases hk with rfl|rfl
  ·rw [ho] at ho';cases ho';exact h
  ·rw [ho2] at ho';cases ho';exact h2⟩
theorem stage_done {waits:Nat→Bool} {Q':Act→World→Prop} {LT:Array Bool} {a:Act} {w:World} (hr:Region.ready .any ops.toArray LT=[]) (h:Q' a w):wpStage F n P ops H C waits Q' 0 LT a w:=⟨hr,h⟩
def stageAll (ops:List Oper) (H ws:List Nat):Bool :=
 stageOk ops H&&ws.all fun j=>match ops[j]? with|none=>true|some o=>H.all fun i=>waitsOn o i
theorem wpIn_stage {id:Nat} {Q:Exit→Act→World→Prop} {a:Act} {w:World} (C:World→Prop) (H ws:List Nat) (hm:P.follows .mixedOrders=true) (hB:stageAll ops H ws=true) (hC:C w.drew)
  (h:wpStage F n P ops H C (fun i=>ws.contains i) (fun a w=>Q .normal a w) ops.length (Array.replicate ops.length false) a w.drew):(Code.region id ops.toArray true).wpIn F n P Q a w:=by
 simp only [stageAll,Bool.and_eq_true] at hB
 obtain ⟨hok,hws⟩:=hB
 refine wpIn_region_any hm ?_
 have hun:unlisted ops.length (Array.replicate ops.length false)=ops.length:=by
  unfold unlisted
  rw [List.filter_eq_self.2 (fun i hi=>?_),List.length_range]
  have:=List.mem_range.1 hi
  simp only [Array.getD_eq_getD_getElem?]
  rw [Array.getElem?_replicate,if_pos (by omega)];rfl
 have hno:∀ i:Nat,(Array.replicate ops.length false)[i]?≠some true:=fun i=>by
  rw [Array.getElem?_replicate];split<;>simp
 have hrun:=stage_run (F:=F) (n:=n) (P:=P) (C:=C) hok (fun i=>ws.contains i) (fun j o ho hj i hi _=>by
   have:=List.all_eq_true.1 hws j (by simpa using hj)
   rw [ho] at this
   exact List.all_eq_true.1 this i hi) Q ops.length ops.length (Array.replicate ops.length false) (Array.replicate ops.length false) a a w.drew hun hun
  ⟨by simp,by simp,fun _ _ _=>rfl,fun _ h=>h,fun i o _ h=>absurd h (hno i),.inr ⟨hC,fun i o hO=>absurd hO.2.1 (hno i)⟩,⟨rfl,rfl,fun _ _=>rfl⟩⟩ h
 simpa using hrun
end
end Go.Proofs.YtigapglmipmbeaaGreatDoor.S2
namespace Go.Proofs.YtigapglmipmbeaaGreatDoor
open Go.RowKit Go.Shelf
open Lim
attribute [local go_sem] Oper.semAt_some
structure New (w:World) (W:World):Prop where
 below:Below w.heap.size w W
namespace S2
end S2
end Go.Proofs.YtigapglmipmbeaaGreatDoor
namespace Go.Proofs.YtigapglmipmbeaaGreatDoor
open Go.RowKit Go.Shelf
open Lim
attribute [local go_sem] Oper.semAt_some
namespace S2
end S2
end Go.Proofs.YtigapglmipmbeaaGreatDoor
namespace Go.Proofs.YtigapglmipmbeaaGreatDoor
open Go.RowKit Go.Shelf
open Lim
attribute [local go_sem] Oper.semAt_some
end Go.Proofs.YtigapglmipmbeaaGreatDoor
namespace Go.Proofs.YtigapglmipmbeaaGreatDoor
open Go.RowKit Go.Shelf
open Lim
def ofX (F:Rat) (i:Nat):Rat:=F ^ ((i:Int)+2)
def ofY (F:Rat) (i:Nat):Rat:=F ^ (-1 - (i:Int))
def ofM (F l:Rat):Nat→Rat:=fun i=>if i=7 then l else (ofX F i+ofY F i)*(F+1)⁻¹
theorem ofM_i (F l:Rat) {i:Nat} (h:i < 7):ofM F l i=(ofX F i+ofY F i)*(F+1)⁻¹:=if_neg (by omega)
theorem sz_ofX {F:Rat} {k i:Nat} (h:Sz k F) (hi:i < 7):Sz (k*8+1) (ofX F i) :=
 (Sz.zpow h ((i:Int)+2)).mono (by have:=Nat.mul_le_mul_left k (show ((i:Int)+2).natAbs≤8 by omega);omega)
theorem sz_ofY {F:Rat} {k i:Nat} (h:Sz k F) (hi:i < 7):Sz (k*7+1) (ofY F i) :=
 (Sz.zpow h (-1 - (i:Int))).mono (by have:=Nat.mul_le_mul_left k (show (-1 - (i:Int)).natAbs≤7 by omega);omega)
theorem sz_ofS {F:Rat} {k i:Nat} (h:Sz k F) (hi:i < 7):Sz (k*15+3) (ofX F i+ofY F i) :=
 ((sz_ofX h hi).add (sz_ofY h hi)).mono (by omega)
theorem sz_next {F:Rat} {k:Nat} (h:Sz k F):Sz (k+2) (F+1):=(h.add Sz.one).mono (by omega)
theorem sz_ofM {F l:Rat} {k j:Nat} (h:Sz k F) (hl:Sz j l) (hj:j≤k*16+5):SzC (k*16+5) (ofM F l):=by
 intro i hi
 by_cases h7:i=7
 ·subst h7;exact hl.mono hj
 ·rw [ofM_i F l (by omega)]
  exact ((sz_ofS h (by omega)).mul (sz_next h).inv).mono (by omega)
theorem next_ne {F:Rat} (h:1≤F):F+1≠0:=by grind
theorem ne_of_one {F:Rat} (h:1≤F):F≠0:=by grind
def shA (i:Nat):Rat:=(((i+1:Nat):Int):Rat) ^ (((i+1:Nat):Int))
def shB (i:Nat):Rat:=(((i+2:Nat):Int):Rat) ^ (((i+2:Nat):Int))
def shM (i:Nat):Rat:=shA i*(shB i)⁻¹
def pwM (F:Rat) (i:Nat):Rat:=F ^ (((i+1:Nat):Int))
def xM (m:Nat→Rat) (F:Rat) (i:Nat):Rat:=m i*shM i*(pwM F i)⁻¹
def lateM (m:Nat→Rat) (F:Rat):Rat:=(F+1)*m 7
def dM (m:Nat→Rat) (F:Rat) (i:Nat):Rat:=xM m F i+lateM m F
def toM (m:Nat→Rat) (F:Rat) (i:Nat):Rat:=minQ (dM m F i) 1
theorem sz_shA {i:Nat} (hi:i < 7):Sz 8 (shA i):=by
 have h:((List.range 7).all fun i=>decide (nm (shA i) < 10 ^ 8∧(shA i).den < 10 ^ 8))=true:=by decide +kernel
 exact of_decide_eq_true (p:=nm _ < _∧_) (List.all_eq_true.1 h i (List.mem_range.2 hi))
theorem sz_shB {i:Nat} (hi:i < 7):Sz 8 (shB i):=by
 have h:((List.range 7).all fun i=>decide (nm (shB i) < 10 ^ 8∧(shB i).den < 10 ^ 8))=true:=by decide +kernel
 exact of_decide_eq_true (p:=nm _ < _∧_) (List.all_eq_true.1 h i (List.mem_range.2 hi))
theorem sz_shM {i:Nat} (hi:i < 7):Sz 16 (shM i):=(sz_shA hi).mul (sz_shB hi).inv
theorem sz_int {i:Nat} (hi:i < 10):Sz 1 ((i:Int):Rat):=by
 have h:((List.range 10).all fun i=>decide (nm (((i:Nat):Int):Rat) < 10 ^ 1∧(((i:Nat):Int):Rat).den < 10 ^ 1))=true:=by decide +kernel
 exact of_decide_eq_true (p:=nm _ < _∧_) (List.all_eq_true.1 h i (List.mem_range.2 hi))
theorem shB_ne {i:Nat} (hi:i < 7):shB i≠0:=by
 have h:((List.range 7).all fun i=>decide (shB i≠0))=true:=by decide +kernel
 exact of_decide_eq_true (List.all_eq_true.1 h i (List.mem_range.2 hi))
theorem pos_zpow {F:Rat} (h:1≤F) (n:Nat):0 < F ^ ((n:Nat):Int):=by
 rw [Rat.zpow_natCast]
 exact Rat.pow_pos (by grind)
theorem pwM_pos {F:Rat} (h:1≤F) (i:Nat):0 < pwM F i:=pos_zpow h (i+1)
theorem sz_pwM {F:Rat} {k i:Nat} (h:Sz k F) (hi:i < 7):Sz (k*7+1) (pwM F i) :=
 (Sz.zpow h _).mono (by have:=Nat.mul_le_mul_left k (show (((i+1:Nat):Int)).natAbs≤7 by omega);omega)
theorem sz_mM {m:Nat→Rat} {k i:Nat} (hm:SzC k m) (hi:i < 7):Sz (k+16) (m i*shM i):=(hm i (by omega)).mul (sz_shM hi)
theorem sz_xM {m:Nat→Rat} {F:Rat} {j k i:Nat} (hm:SzC k m) (h:Sz j F) (hi:i < 7):Sz (k+16+(j*7+1)) (xM m F i) :=
 (sz_mM hm hi).mul (sz_pwM h hi).inv
theorem sz_lateM {m:Nat→Rat} {F:Rat} {j k:Nat} (hm:SzC k m) (h:Sz j F):Sz (j+2+k) (lateM m F):=(sz_next h).mul (hm 7 (by omega))
theorem sz_dM {m:Nat→Rat} {F:Rat} {j k i:Nat} (hm:SzC k m) (h:Sz j F) (hi:i < 7):Sz (k*2+j*8+20) (dM m F i) :=
 ((sz_xM hm h hi).add (sz_lateM hm h)).mono (by omega)
theorem ratInt_any (n:Int) (w:World) (hr:Res w) (h0:-9223372036854775808≤n) (h1:n≤9223372036854775807) :
  Calls Tryz.prog 142 #[.int .i64 n] w fun e w'=>e=.returned (.string ⟨(Lib.itoa n).toArray⟩)∧Below w.heap.size w w':=by
 have HC:=Lib.hid (Tryz.strconv_Itoa n h0 h1 w hr.tab)
 generalize Lib.itoa n=l at *
 clear hr
 go_enter Tryz.func142,Tryz.ntmps142
 go_wp2_with (go_at_call 218;refine HC.out.mono ?_;rintro e w1 ⟨rfl,k,os,rfl⟩)
 go_ret
 exact ⟨rfl,Lib.below_grow _ _ (Nat.le_refl _) _ _⟩
theorem itoa_text (n:Int):Lib.itoa n=ratText (n:Rat):=by
 unfold Lib.itoa ratText ng nm
 rw [Rat.num_intCast,Rat.den_intCast]
 by_cases h:n < 0
 ·simp [h]
 ·have:n.toNat=n.natAbs:=by omega
  simp [h,this]
theorem intT {c:ByteArray} (n:Int) (w:World) (hc:IsT c (n:Rat)) (hr:Res w) (h0:-9223372036854775808≤n) (h1:n≤9223372036854775807) :
  Calls Tryz.prog 142 #[.int .i64 n] w fun e w'=>e=.returned (.string c)∧Below w.heap.size w w':=by
 refine (ratInt_any n w hr h0 h1).mono ?_
 rintro e w' ⟨rfl,h⟩
 refine ⟨?_,h⟩
 rw [itoa_text,← hc.1]
theorem runs_rAdd:Runs 107:=runs_of Tryz.func107 (by kernel_rfl) (by kernel_rfl)
theorem runs_rMul:Runs 130:=runs_of Tryz.func130 (by kernel_rfl) (by kernel_rfl)
theorem runs_rDiv:Runs 133:=runs_of Tryz.func133 (by kernel_rfl) (by kernel_rfl)
theorem runs_rMin:Runs 143:=runs_of Tryz.func143 (by kernel_rfl) (by kernel_rfl)
section
variable {a b c:ByteArray} {p q:Rat}
theorem isAdd (ha:IsT a p) (hb:IsT b q) (hc:IsT c (p+q)):DoIs 0 107 a b c:=doIs_ok runs_rAdd fun w hr=>addT w ha hb hc hr
theorem isMul (ha:IsT a p) (hb:IsT b q) (hc:IsT c (p*q)):DoIs 0 130 a b c:=doIs_ok runs_rMul fun w hr=>mulT w ha hb hc hr
theorem isDiv (ha:IsT a p) (hb:IsT b q) (hc:IsT c (p*q⁻¹)) (h0:q≠0):DoIs 0 133 a b c:=doIs_ok runs_rDiv fun w hr=>divT w ha hb hc h0 hr
theorem isMin1 (ha:IsT a p):DoIs 0 143 a ⟨#[49]⟩ (rT (minQ p 1)):=doIs_ok runs_rMin fun w hr=>minT w ha IsT.one (rT_min ha IsT.one).symm hr
theorem isPow {n:Int} (ha:IsT a p) (h0:p≠0) (hc:IsT c (p ^ n)) (h1:-1000≤n) (h2:n≤1000):PowIs 0 a n c:=fun h w hr hk=>pow_ok h w hk ha (fun h=>h0 h.2) hc (by omega) (by omega) hr
end
theorem isT_int {n:Nat} (h:n < 10):IsT (rT (((n:Nat):Int):Rat)) (((n:Nat):Int):Rat):=isT_rT (fits_sz.2 ((sz_int h).mono (by decide)))
theorem retInt (n:Nat) (h:n < 10):Ret 142 #[.int .i64 (n:Int)] (.string (rT (((n:Nat):Int):Rat))):=fun w hr=>intT (n:Int) w (isT_int h) hr (by omega) (by omega)
section
variable {a b c:CT} {m n:Nat→Rat} {j k:Nat}
theorem mtoV (hc:CIs c m) (sm:SzC k m) (hk:k≤500) {F:ByteArray} {f:Rat} (hF:IsT F f) (sf:Sz 120 f) (h1:1≤f) {i:Nat} (hi:i < 7):Ret 53 #[cv c,.int .i64 ((i:Int)+2),.string F] (.tuple #[.agg #[.string F,.string (rT (toM m f i))],.int .i64 0]):=fun w hr=>by
 have mx:∀ {j:Nat} {q:Rat},Sz j q→j≤4000→IsT (rT q) q:=fun h hj=>isT_rT (fits_sz.2 (h.mono hj))
 have f0:=ne_of_one h1
 have z1:((((i+1:Nat):Int)):Rat)≠0:=fun h=>by have:=Rat.intCast_inj.1 (h.trans (show (0:Rat)=((0:Int):Rat) from rfl));omega
 have z2:((((i+2:Nat):Int)):Rat)≠0:=fun h=>by have:=Rat.intCast_inj.1 (h.trans (show (0:Rat)=((0:Int):Rat) from rfl));omega
 have iA:IsT (rT (shA i)) (shA i):=mx (sz_shA hi) (by omega)
 have iB:IsT (rT (shB i)) (shB i):=mx (sz_shB hi) (by omega)
 have iS:IsT (rT (shM i)) (shM i):=mx (sz_shM hi) (by omega)
 have iP:IsT (rT (pwM f i)) (pwM f i):=mx (sz_pwM sf hi) (by omega)
 have iU:IsT (rT (m i*shM i)) (m i*shM i):=mx (sz_mM sm hi) (by omega)
 have iX:IsT (rT (xM m f i)) (xM m f i):=mx (sz_xM sm sf hi) (by omega)
 have iN:IsT (rT (f+1)) (f+1):=mx (sz_next sf) (by omega)
 have iL:IsT (rT (lateM m f)) (lateM m f):=mx (sz_lateM sm sf) (by omega)
 have iD:IsT (rT (dM m f i)) (dM m f i):=mx (sz_dM sm sf hi) (by omega)
 exact mto_ok c i hi F hF.size hc.err hF.err (by rw [hF.val,cmpQ_lt];exact Rat.not_lt.2 h1) _ _ _ _ _ _ _ _ _ _ _ _
  (Lib.hid (retInt (i+1) (by omega))) (Lib.hid (retInt (i+2) (by omega)))
  (Lib.hid (isPow (isT_int (by omega)) z1 iA (by omega) (by omega))) (Lib.hid (isPow (isT_int (by omega)) z2 iB (by omega) (by omega)))
  (Lib.hid (isDiv iA iB iS (shB_ne hi))) (Lib.hid (isPow hF f0 iP (by omega) (by omega))) (Lib.hid (isMul (hc.t i (by omega)) iS iU)) (Lib.hid (isDiv iU iP iX (by have:=pwM_pos h1 i;grind)))
  (Lib.hid (isAdd hF IsT.one iN)) (Lib.hid (isMul iN (hc.t 7 (by omega)) iL)) (Lib.hid (isAdd iX iL iD)) (Lib.hid (isMin1 iD)) w hc.sm hr
end
section
variable {F L:ByteArray} {f l:Rat}
theorem errOf_ok (hF:IsT F f) (h1:1≤f) (hL:IsT L l) (h0:0≤l) (ht:l≤1):errOf F L=0:=by
 unfold errOf
 rw [if_neg (by rw [hF.err];decide),if_neg (by rw [hL.err];decide),if_neg]
 rintro (h|h)
 ·rw [hF.val,cmpQ_lt] at h;grind
 ·exact h (errU_zero.2 (by rw [hL.val];exact ⟨h0,ht⟩))
theorem mx4 {j:Nat} {q:Rat} (h:Sz j q) (hj:j≤4000):IsT (rT q) q:=isT_rT (fits_sz.2 (h.mono hj))
theorem ofM_is (sf:Sz 120 f) (hL:IsT L l) (sl:Sz 120 l) {i:Nat} (hi:i < 7):IsT (txt (ofM f l) i) ((ofX f i+ofY f i)*(f+1)⁻¹):=by
 have h:=sz_ofM sf sl (by omega) i (by omega)
 have e:txt (ofM f l) i=rT ((ofX f i+ofY f i)*(f+1)⁻¹):=by show rT (ofM f l i)=_;rw [ofM_i f l hi]
 rw [e]
 rw [ofM_i f l hi] at h
 exact mx4 h (by have:=hL.size;omega)
theorem ofM_last (hL:IsT L l):txt (ofM f l) 7=L:=by
 rw [hL.text]
 show rT (ofM f l 7)=_
 rw [show ofM f l 7=l from if_pos rfl]
theorem mofV (hF:IsT F f) (sf:Sz 120 f) (h1:1≤f) (hL:IsT L l) (sl:Sz 120 l) (h0:0≤l) (ht:l≤1):Ret 62 #[.string F,.string L] (.tuple #[cv (txt (ofM f l)),.int .i64 0]):=fun w hr=>by
 have he:=errOf_ok hF h1 hL h0 ht
 have iN:IsT (rT (f+1)) (f+1):=mx4 (sz_next sf) (by omega)
 have iX:∀ i:Nat,i < 7→IsT (rT (ofX f i)) (ofX f i):=fun i hi=>mx4 (sz_ofX sf hi) (by omega)
 have iY:∀ i:Nat,i < 7→IsT (rT (ofY f i)) (ofY f i):=fun i hi=>mx4 (sz_ofY sf hi) (by omega)
 have iS:∀ i:Nat,i < 7→IsT (rT (ofX f i+ofY f i)) (ofX f i+ofY f i):=fun i hi=>mx4 (sz_ofS sf hi) (by omega)
 have ey:∀ i:Nat,(1:Int) - ((i:Int)+2)=-1 - (i:Int):=fun i=>by omega
 have h:=mof_walk F L (rT (f+1)) (fun i=>rT (ofX f i)) (fun i=>rT (ofY f i)) (fun i=>rT (ofX f i+ofY f i)) (txt (ofM f l)) w hF.size hL.size hr (ofM_last hL)
  (Lib.hid fun _=>isAdd hF IsT.one iN) (Lib.hid fun _ i hi=>isPow hF (ne_of_one h1) (iX i hi) (by omega) (by omega)) (Lib.hid fun _ i hi=>by rw [ey];exact isPow hF (ne_of_one h1) (iY i hi) (by omega) (by omega))
  (Lib.hid fun _ i hi=>isAdd (iX i hi) (iY i hi) (iS i hi)) (Lib.hid fun _ i hi=>isDiv (iS i hi) iN (ofM_is sf hL sl hi) (next_ne h1))
 rw [he,ofRes_ok] at h
 exact h
end
section
variable {a b c:CT}
end
theorem m_2:IsT ⟨#[50]⟩ 2:=(isT_lit false [50] [49] (by decide +kernel)).1
theorem m_3:IsT ⟨#[51]⟩ 3:=(isT_lit false [51] [49] (by decide +kernel)).1
theorem m_114:IsT ⟨#[49,49,47,52]⟩ (11/4):=(isT_lit false [49,49] [52] (by decide +kernel)).1
theorem m_18:IsT ⟨#[49,47,56]⟩ (1/8):=(isT_lit false [49] [56] (by decide +kernel)).1
theorem sz_lit {q:Rat} (h:decide (nm q < 10 ^ 60∧q.den < 10 ^ 60)=true):Sz 120 q :=
 have h2:nm q < 10 ^ 60∧q.den < 10 ^ 60:=of_decide_eq_true h
 Sz.mono (j:=60) h2 (by decide)
theorem of_cis {F L:Rat} (sf:Sz 120 F) (sl:Sz 120 L) (h:((List.range 7).all fun i=>decide (1≤ofM F L i))=true) (h0:0≤L) (h1:L≤1):CIs (txt (ofM F L)) (ofM F L) :=
 CIs.mk' (sz_ofM sf sl (by omega)) (by decide) (fun i hi=>of_decide_eq_true (List.all_eq_true.1 h i (List.mem_range.2 hi))) h0 h1
def twoT:CT:=fun i=>if i=0 then ⟨#[51,47,50]⟩ else if i=1 then ⟨#[49,49,47,52]⟩ else if i=7 then ⟨#[48]⟩ else txt (ofM 2 0) i
theorem two_txt:∀ k,k < 8→txt (ofM 2 0) k=twoT k:=by
 intro k _
 unfold twoT
 split
 ·rename_i h;subst h
  show rT (ofM 2 0 0)=_
  rw [show ofM 2 0 0=3/2 by decide +kernel]
  exact t_3_2.text.symm
 ·split
  ·rename_i h;subst h
   show rT (ofM 2 0 1)=_
   rw [show ofM 2 0 1=11/4 by decide +kernel]
   exact m_114.text.symm
  ·split
   ·rename_i h;subst h
    show rT (ofM 2 0 7)=_
    rw [show ofM 2 0 7=0 by decide +kernel]
    exact IsT.zero.text.symm
   ·rfl
theorem two_cv:cv (txt (ofM 2 0))=.agg #[.string ⟨#[51,47,50]⟩,.string ⟨#[49,49,47,52]⟩,.string (txt (ofM 2 0) 2),.string (txt (ofM 2 0) 3),.string (txt (ofM 2 0) 4),.string (txt (ofM 2 0) 5),.string (txt (ofM 2 0) 6),.string ⟨#[48]⟩]:=by
 have e0:=two_txt 0 (by omega)
 have e1:=two_txt 1 (by omega)
 have e7:=two_txt 7 (by omega)
 unfold cv
 rw [e0,e1,e7]
 rfl
theorem two_of:Ret 62 #[.string ⟨#[50]⟩,.string ⟨#[48]⟩] (.tuple #[.agg #[.string ⟨#[51,47,50]⟩,.string ⟨#[49,49,47,52]⟩,.string (txt (ofM 2 0) 2),.string (txt (ofM 2 0) 3),.string (txt (ofM 2 0) 4),.string (txt (ofM 2 0) 5),.string (txt (ofM 2 0) 6),.string ⟨#[48]⟩],.int .i64 0]):=by
 have h:=mofV m_2 (sz_lit (by decide +kernel)) (by decide +kernel) IsT.zero (sz_lit (by decide +kernel)) (by decide +kernel) (by decide +kernel)
 rwa [two_cv] at h
theorem two_to:Ret 53 #[.agg #[.string ⟨#[51,47,50]⟩,.string ⟨#[49,49,47,52]⟩,.string (txt (ofM 2 0) 2),.string (txt (ofM 2 0) 3),.string (txt (ofM 2 0) 4),.string (txt (ofM 2 0) 5),.string (txt (ofM 2 0) 6),.string ⟨#[48]⟩],.int .i64 2,.string ⟨#[51]⟩] (.tuple #[.agg #[.string ⟨#[51]⟩,.string ⟨#[49,47,56]⟩],.int .i64 0]):=by
 have sm:SzC 100 (ofM 2 0):=fun i hi=>by
  have h:((List.range 8).all fun i=>decide (nm (ofM 2 0 i) < 10 ^ 60∧(ofM 2 0 i).den < 10 ^ 60))=true:=by decide +kernel
  have h2:nm (ofM 2 0 i) < 10 ^ 60∧(ofM 2 0 i).den < 10 ^ 60:=of_decide_eq_true (List.all_eq_true.1 h i (List.mem_range.2 hi))
  exact Sz.mono (j:=60) h2 (by decide)
 have h:=mtoV (of_cis (F:=2) (L:=0) (sz_lit (by decide +kernel)) (sz_lit (by decide +kernel)) (by decide +kernel) (by decide +kernel) (by decide +kernel)) sm (by omega) m_3 (sz_lit (by decide +kernel)) (by decide +kernel) (i:=0) (by omega)
 rw [two_cv,show toM (ofM 2 0) 3 0=1/8 by decide +kernel,← m_18.text] at h
 exact h
end Go.Proofs.YtigapglmipmbeaaGreatDoor
namespace Go.Proofs.YtigapglmipmbeaaGreatDoor
open Go.RowKit Go.Shelf
open Lim
attribute [local go_sem] Oper.semAt_some wide_fn
theorem kt_3:IsT ⟨#[51]⟩ 3:=(isT_lit false [51] [49] (by decide +kernel)).1
theorem kt_14:IsT ⟨#[49,47,52]⟩ (1/4):=(isT_lit false [49] [52] (by decide +kernel)).1
theorem kt_12:IsT ⟨#[49,47,50]⟩ (1/2):=(isT_lit false [49] [50] (by decide +kernel)).1
theorem kt_32:IsT ⟨#[51,47,50]⟩ (3/2):=(isT_lit false [51] [50] (by decide +kernel)).1
theorem kt_4:IsT ⟨#[52]⟩ 4:=(isT_lit false [52] [49] (by decide +kernel)).1
theorem kt_6:IsT ⟨#[54]⟩ 6:=(isT_lit false [54] [49] (by decide +kernel)).1
theorem kl_30:LossIs ⟨#[51]⟩ ⟨#[48]⟩ (3,0):=⟨kt_3,IsT.zero,by decide +kernel,by decide +kernel,by decide +kernel⟩
theorem kl_40:LossIs ⟨#[52]⟩ ⟨#[48]⟩ (4,0):=⟨kt_4,IsT.zero,by decide +kernel,by decide +kernel,by decide +kernel⟩
theorem kl_60:LossIs ⟨#[54]⟩ ⟨#[48]⟩ (6,0):=⟨kt_6,IsT.zero,by decide +kernel,by decide +kernel,by decide +kernel⟩
theorem kl_320:LossIs ⟨#[51,47,50]⟩ ⟨#[48]⟩ (3/2,0):=⟨kt_32,IsT.zero,by decide +kernel,by decide +kernel,by decide +kernel⟩
theorem latez {f:ByteArray} {p:Rat} (h:LossIs f ⟨#[48]⟩ (p,0)) (f1:fits (p+1)=true):resL (lateR f ⟨#[48]⟩ ⟨#[48]⟩)=.tuple #[.agg #[.string f,.string ⟨#[48]⟩],.int .i64 0] :=
 lateX h IsT.zero (by decide +kernel) (by decide +kernel) f1 (by rw [Rat.mul_zero];exact fits_lit (by decide +kernel)) (by show fits (0+(p+1)*0)=true;rw [Rat.mul_zero];exact fits_lit (by decide +kernel))
  (by show IsT _ (minQ (0+(p+1)*0) 1);rw [Rat.mul_zero,show minQ (0+0) 1=0 by decide +kernel];exact IsT.zero)
theorem addz {f g x:ByteArray} {p q:Rat} (ha:LossIs f ⟨#[48]⟩ (p,0)) (hb:LossIs g ⟨#[48]⟩ (q,0)) (hx:IsT x (p*q)):resL (foldR plusL [(f,⟨#[48]⟩),(g,⟨#[48]⟩)])=.tuple #[.agg #[.string x,.string ⟨#[48]⟩],.int .i64 0] :=
 addX ha hb hx (show fits ((0:Rat)+0)=true from fits_lit (by decide +kernel)) (by show IsT _ (minQ ((0:Rat)+0) 1);rw [show minQ (0+0) 1=0 by decide +kernel];exact IsT.zero)
theorem fitsz {f:ByteArray} {p:Rat} (h:LossIs f ⟨#[48]⟩ (p,0)) {b:Bool} (hb:fitsL (p,0) (4,1/10)=b):resB (fitsR [(f,⟨#[48]⟩),(⟨#[52]⟩,⟨#[49,47,49,48]⟩)] (valL (f,⟨#[48]⟩)) (valL (⟨#[52]⟩,⟨#[49,47,49,48]⟩)))=.tuple #[.bool b,.int .i64 0]:=by
 unfold fitsR
 rw [if_neg (by rw [firstL_is h lx_4];decide),valL_is h,valL_is lx_4,hb]
 rfl
theorem kstep0 (W:World) (hr:Res W):Calls Tryz.prog 378 #[.agg #[.string ⟨#[52]⟩,.string ⟨#[49,47,49,48]⟩,.string ⟨#[49]⟩,.string ⟨#[48]⟩,.int .i64 0],.agg #[.string ⟨#[50]⟩,.string ⟨#[48]⟩]] W fun e w'=>e=.returned (.tuple #[(St.dir ⟨#[52]⟩ ⟨#[49,47,49,48]⟩ ⟨#[50]⟩ ⟨#[48]⟩ 1).val,.bool true])∧Below W.heap.size W w':=by
 have h1:=Lib.hid (fun (W:World) (hr:Res W)=>lossLate_any ⟨#[50]⟩ ⟨#[48]⟩ ⟨#[48]⟩ W (by decide) (by decide) (by decide) hr (fun _ _=>by rw [valL_is exb,IsT.zero.val];exact ⟨fits_lit (by decide +kernel),fits_lit (by decide +kernel),fits_lit (by decide +kernel)⟩))
 have h2:=Lib.hid (fun (W:World) (hr:Res W)=>lossAdd_any ⟨#[49]⟩ ⟨#[48]⟩ ⟨#[50]⟩ ⟨#[48]⟩ W (by decide) (by decide) (by decide) (by decide) hr)
 have h3:=Lib.hid (fun (W:World) (hr:Res W)=>lossFits_any ⟨#[50]⟩ ⟨#[48]⟩ ⟨#[52]⟩ ⟨#[49,47,49,48]⟩ W (by decide) (by decide) (by decide) (by decide) hr)
 rw [latez exb (fits_lit (by decide +kernel))] at h1
 rw [addz lx_1 exb (x:=⟨#[50]⟩) (by rw [show (1:Rat)*2=2 by decide +kernel];exact t_2)] at h2
 rw [fitsz (f:=⟨#[50]⟩) exb (b:=true) (by decide +kernel)] at h3
 exact dafter_any ⟨#[52]⟩ ⟨#[49,47,49,48]⟩ ⟨#[49]⟩ ⟨#[48]⟩ ⟨#[50]⟩ ⟨#[48]⟩ ⟨#[50]⟩ ⟨#[48]⟩ ⟨#[50]⟩ ⟨#[48]⟩ 0 true W hr (by omega) (by omega) h1 h2 h3
theorem kstep1 (W:World) (hr:Res W):Calls Tryz.prog 378 #[.agg #[.string ⟨#[52]⟩,.string ⟨#[49,47,49,48]⟩,.string ⟨#[50]⟩,.string ⟨#[48]⟩,.int .i64 1],.agg #[.string ⟨#[50]⟩,.string ⟨#[48]⟩]] W fun e w'=>e=.returned (.tuple #[(St.dir ⟨#[52]⟩ ⟨#[49,47,49,48]⟩ ⟨#[52]⟩ ⟨#[48]⟩ 2).val,.bool true])∧Below W.heap.size W w':=by
 have h1:=Lib.hid (fun (W:World) (hr:Res W)=>lossLate_any ⟨#[50]⟩ ⟨#[48]⟩ ⟨#[48]⟩ W (by decide) (by decide) (by decide) hr (fun _ _=>by rw [valL_is exb,IsT.zero.val];exact ⟨fits_lit (by decide +kernel),fits_lit (by decide +kernel),fits_lit (by decide +kernel)⟩))
 have h2:=Lib.hid (fun (W:World) (hr:Res W)=>lossAdd_any ⟨#[50]⟩ ⟨#[48]⟩ ⟨#[50]⟩ ⟨#[48]⟩ W (by decide) (by decide) (by decide) (by decide) hr)
 have h3:=Lib.hid (fun (W:World) (hr:Res W)=>lossFits_any ⟨#[52]⟩ ⟨#[48]⟩ ⟨#[52]⟩ ⟨#[49,47,49,48]⟩ W (by decide) (by decide) (by decide) (by decide) hr)
 rw [latez exb (fits_lit (by decide +kernel))] at h1
 rw [addz exb exb (x:=⟨#[52]⟩) (by rw [show (2:Rat)*2=4 by decide +kernel];exact kt_4)] at h2
 rw [fitsz (f:=⟨#[52]⟩) kl_40 (b:=true) (by decide +kernel)] at h3
 exact dafter_any ⟨#[52]⟩ ⟨#[49,47,49,48]⟩ ⟨#[50]⟩ ⟨#[48]⟩ ⟨#[50]⟩ ⟨#[48]⟩ ⟨#[50]⟩ ⟨#[48]⟩ ⟨#[52]⟩ ⟨#[48]⟩ 1 true W hr (by omega) (by omega) h1 h2 h3
theorem kstep2 (W:World) (hr:Res W):Calls Tryz.prog 378 #[.agg #[.string ⟨#[52]⟩,.string ⟨#[49,47,49,48]⟩,.string ⟨#[52]⟩,.string ⟨#[48]⟩,.int .i64 2],.agg #[.string ⟨#[49]⟩,.string ⟨#[48]⟩]] W fun e w'=>e=.returned (.tuple #[(St.dir ⟨#[52]⟩ ⟨#[49,47,49,48]⟩ ⟨#[52]⟩ ⟨#[48]⟩ 3).val,.bool true])∧Below W.heap.size W w':=by
 have h1:=Lib.hid (fun (W:World) (hr:Res W)=>lossLate_any ⟨#[49]⟩ ⟨#[48]⟩ ⟨#[48]⟩ W (by decide) (by decide) (by decide) hr (fun _ _=>by rw [valL_is lx_1,IsT.zero.val];exact ⟨fits_lit (by decide +kernel),fits_lit (by decide +kernel),fits_lit (by decide +kernel)⟩))
 have h2:=Lib.hid (fun (W:World) (hr:Res W)=>lossAdd_any ⟨#[52]⟩ ⟨#[48]⟩ ⟨#[49]⟩ ⟨#[48]⟩ W (by decide) (by decide) (by decide) (by decide) hr)
 have h3:=Lib.hid (fun (W:World) (hr:Res W)=>lossFits_any ⟨#[52]⟩ ⟨#[48]⟩ ⟨#[52]⟩ ⟨#[49,47,49,48]⟩ W (by decide) (by decide) (by decide) (by decide) hr)
 rw [latez lx_1 (fits_lit (by decide +kernel))] at h1
 rw [addz kl_40 lx_1 (x:=⟨#[52]⟩) (by rw [show (4:Rat)*1=4 by decide +kernel];exact kt_4)] at h2
 rw [fitsz (f:=⟨#[52]⟩) kl_40 (b:=true) (by decide +kernel)] at h3
 exact dafter_any ⟨#[52]⟩ ⟨#[49,47,49,48]⟩ ⟨#[52]⟩ ⟨#[48]⟩ ⟨#[49]⟩ ⟨#[48]⟩ ⟨#[49]⟩ ⟨#[48]⟩ ⟨#[52]⟩ ⟨#[48]⟩ 2 true W hr (by omega) (by omega) h1 h2 h3
theorem kstep3 (W:World) (hr:Res W):Calls Tryz.prog 378 #[.agg #[.string ⟨#[52]⟩,.string ⟨#[49,47,49,48]⟩,.string ⟨#[52]⟩,.string ⟨#[48]⟩,.int .i64 3],.agg #[.string ⟨#[51,47,50]⟩,.string ⟨#[48]⟩]] W fun e w'=>e=.returned (.tuple #[(St.dir ⟨#[52]⟩ ⟨#[49,47,49,48]⟩ ⟨#[54]⟩ ⟨#[48]⟩ 4).val,.bool false])∧Below W.heap.size W w':=by
 have h1:=Lib.hid (fun (W:World) (hr:Res W)=>lossLate_any ⟨#[51,47,50]⟩ ⟨#[48]⟩ ⟨#[48]⟩ W (by decide) (by decide) (by decide) hr (fun _ _=>by rw [valL_is kl_320,IsT.zero.val];exact ⟨fits_lit (by decide +kernel),fits_lit (by decide +kernel),fits_lit (by decide +kernel)⟩))
 have h2:=Lib.hid (fun (W:World) (hr:Res W)=>lossAdd_any ⟨#[52]⟩ ⟨#[48]⟩ ⟨#[51,47,50]⟩ ⟨#[48]⟩ W (by decide) (by decide) (by decide) (by decide) hr)
 have h3:=Lib.hid (fun (W:World) (hr:Res W)=>lossFits_any ⟨#[54]⟩ ⟨#[48]⟩ ⟨#[52]⟩ ⟨#[49,47,49,48]⟩ W (by decide) (by decide) (by decide) (by decide) hr)
 rw [latez kl_320 (fits_lit (by decide +kernel))] at h1
 rw [addz kl_40 kl_320 (x:=⟨#[54]⟩) (by rw [show (4:Rat)*(3/2)=6 by decide +kernel];exact kt_6)] at h2
 rw [fitsz (f:=⟨#[54]⟩) kl_60 (b:=false) (by decide +kernel)] at h3
 exact dafter_any ⟨#[52]⟩ ⟨#[49,47,49,48]⟩ ⟨#[52]⟩ ⟨#[48]⟩ ⟨#[51,47,50]⟩ ⟨#[48]⟩ ⟨#[51,47,50]⟩ ⟨#[48]⟩ ⟨#[54]⟩ ⟨#[48]⟩ 3 false W hr (by omega) (by omega) h1 h2 h3
theorem kv_2:Hid (∀ W,Res W→Calls Tryz.prog 238 #[.agg #[.string ⟨#[50]⟩,.string ⟨#[48]⟩]] W fun e w'=>e=.returned (.int .i64 0)∧Below W.heap.size W w'):=Lib.hid fun W hr=>gvalid_ok ⟨#[50]⟩ ⟨#[48]⟩ W (by decide) (by decide) t_2.err IsT.zero.err exb.err hr
theorem kv_1:Hid (∀ W,Res W→Calls Tryz.prog 238 #[.agg #[.string ⟨#[49]⟩,.string ⟨#[48]⟩]] W fun e w'=>e=.returned (.int .i64 0)∧Below W.heap.size W w'):=Lib.hid fun W hr=>gvalid_ok ⟨#[49]⟩ ⟨#[48]⟩ W (by decide) (by decide) IsT.one.err IsT.zero.err lx_1.err hr
theorem kv_32:Hid (∀ W,Res W→Calls Tryz.prog 238 #[.agg #[.string ⟨#[51,47,50]⟩,.string ⟨#[48]⟩]] W fun e w'=>e=.returned (.int .i64 0)∧Below W.heap.size W w'):=Lib.hid fun W hr=>gvalid_ok ⟨#[51,47,50]⟩ ⟨#[48]⟩ W (by decide) (by decide) kt_32.err IsT.zero.err kl_320.err hr
theorem kv_low:Hid (∀ W,Res W→Calls Tryz.prog 238 #[.agg #[.string ⟨#[49,47,50]⟩,.string ⟨#[48]⟩]] W fun e w'=>e=.returned (.int .i64 2)∧Below W.heap.size W w'):=Lib.hid fun W hr=>gvalid_range ⟨#[49,47,50]⟩ ⟨#[48]⟩ W (by decide) (by decide) kt_12.err IsT.zero.err (by decide +kernel) hr
theorem kv_late:Hid (∀ W,Res W→Calls Tryz.prog 238 #[.agg #[.string ⟨#[50]⟩,.string ⟨#[50]⟩]] W fun e w'=>e=.returned (.int .i64 2)∧Below W.heap.size W w'):=Lib.hid fun W hr=>gvalid_range ⟨#[50]⟩ ⟨#[50]⟩ W (by decide) (by decide) t_2.err t_2.err (by decide +kernel) hr
theorem kv_form:Hid (∀ W,Res W→Calls Tryz.prog 238 #[.agg #[.string ⟨#[48,50]⟩,.string ⟨#[48]⟩]] W fun e w'=>e=.returned (.int .i64 3)∧Below W.heap.size W w'):=Lib.hid fun W hr=>gvalid_form ⟨#[48,50]⟩ ⟨#[48]⟩ W (by decide) (by decide) (by decide +kernel) hr
def kT:CT:=twoT
theorem k_of:Ret 62 #[.string ⟨#[50]⟩,.string ⟨#[48]⟩] (.tuple #[.agg #[.string (kT 0),.string (kT 1),.string (kT 2),.string (kT 3),.string (kT 4),.string (kT 5),.string (kT 6),.string (kT 7)],.int .i64 0]):=two_of
theorem k_to:Ret 53 #[.agg #[.string (kT 0),.string (kT 1),.string (kT 2),.string (kT 3),.string (kT 4),.string (kT 5),.string (kT 6),.string ⟨#[48]⟩],.int .i64 2,.string ⟨#[51]⟩] (.tuple #[.agg #[.string ⟨#[51]⟩,.string ⟨#[49,47,56]⟩],.int .i64 0]):=two_to
theorem k_add:Ret 58 #[.agg #[.string (noneT 0),.string (noneT 1),.string (noneT 2),.string (noneT 3),.string (noneT 4),.string (noneT 5),.string (noneT 6),.string (noneT 7)],.agg #[.string (kT 0),.string (kT 1),.string (kT 2),.string (kT 3),.string (kT 4),.string (kT 5),.string (kT 6),.string (kT 7)]] (.tuple #[.agg #[.string (kT 0),.string (kT 1),.string (kT 2),.string (kT 3),.string (kT 4),.string (kT 5),.string (kT 6),.string ⟨#[48]⟩],.int .i64 0]):=fun w hr=>by
 have sm:SzC 100 (ofM 2 0):=fun i hi=>by
  have h:((List.range 8).all fun i=>decide (nm (ofM 2 0 i) < 10 ^ 60∧(ofM 2 0 i).den < 10 ^ 60))=true:=by decide +kernel
  have h2:nm (ofM 2 0 i) < 10 ^ 60∧(ofM 2 0 i).den < 10 ^ 60:=of_decide_eq_true (List.all_eq_true.1 h i (List.mem_range.2 hi))
  exact Sz.mono (j:=60) h2 (by decide)
 have hc:=of_cis (F:=2) (L:=0) (sz_lit (by decide +kernel)) (sz_lit (by decide +kernel)) (by decide +kernel) (by decide +kernel) (by decide +kernel)
 have h:=maddV none_cis hc none_szC sm (by decide) w hr
 have e:cv (txt (sumM noneM (ofM 2 0)))=cv (txt (ofM 2 0)):=cv_ext fun k hk=>by
  have e2:((List.range 8).all fun i=>decide (sumM noneM (ofM 2 0) i=ofM 2 0 i))=true:=by decide +kernel
  have e3:sumM noneM (ofM 2 0) k=ofM 2 0 k:=of_decide_eq_true (List.all_eq_true.1 e2 k (List.mem_range.2 hk))
  show rT (sumM noneM (ofM 2 0) k)=rT (ofM 2 0 k)
  rw [e3]
 rw [e,two_cv] at h
 exact h
theorem k_half1 (W:World) (hr:Res W):Calls Tryz.prog 386 #[.agg #[.string ⟨#[51]⟩,.string ⟨#[49,47,50]⟩,.string (kT 0),.string (kT 1),.string (kT 2),.string (kT 3),.string (kT 4),.string (kT 5),.string (kT 6),.string ⟨#[48]⟩,.int .i64 2,.int .i64 1],.string ⟨#[49,47,56]⟩] W fun e w'=>e=.returned (.bool true)∧Below W.heap.size W w' :=
 ghalf_any ⟨#[51]⟩ ⟨#[49,47,50]⟩ kT 1 ⟨#[49,47,56]⟩ ⟨#[49,47,52]⟩ W hr (Lib.hid fun W hr=>addT W m_18 m_18 (by rw [show (1/8:Rat)+1/8=1/4 by decide +kernel];exact kt_14) hr) (Lib.hid fun W hr=>cmpT W kt_14 kt_12 (by decide +kernel) hr)
theorem k_half2 (W:World) (hr:Res W):Calls Tryz.prog 386 #[.agg #[.string ⟨#[51]⟩,.string ⟨#[49,47,50]⟩,.string (kT 0),.string (kT 1),.string (kT 2),.string (kT 3),.string (kT 4),.string (kT 5),.string (kT 6),.string ⟨#[48]⟩,.int .i64 2,.int .i64 1],.string ⟨#[48]⟩] W fun e w'=>e=.returned (.bool true)∧Below W.heap.size W w' :=
 ghalf_any ⟨#[51]⟩ ⟨#[49,47,50]⟩ kT 1 ⟨#[48]⟩ ⟨#[48]⟩ W hr (Lib.hid fun W hr=>addT W IsT.zero IsT.zero (by rw [show (0:Rat)+0=0 by decide +kernel];exact IsT.zero) hr) (Lib.hid fun W hr=>cmpT W IsT.zero kt_12 (by decide +kernel) hr)
theorem k_least (W:World) (hr:Res W):Calls Tryz.prog 385 #[.string ⟨#[48]⟩] W fun e w'=>e=.returned (.string ⟨#[48]⟩)∧Below W.heap.size W w' :=
 gleast_any ⟨#[48]⟩ ⟨#[48]⟩ W hr (Lib.hid fun W hr=>minT W IsT.zero IsT.one (by rw [if_neg (by decide +kernel)]) hr)
theorem k_late (W:World) (hr:Res W):Calls Tryz.prog 74 #[.agg #[.string ⟨#[51]⟩,.string ⟨#[48]⟩],.string ⟨#[48]⟩] W fun e w'=>e=.returned (.tuple #[.agg #[.string ⟨#[51]⟩,.string ⟨#[48]⟩],.int .i64 0])∧Below W.heap.size W w':=by
 have h:=lossLate_any ⟨#[51]⟩ ⟨#[48]⟩ ⟨#[48]⟩ W (by decide) (by decide) (by decide) hr (fun _ _=>by rw [valL_is kl_30,IsT.zero.val];exact ⟨fits_lit (by decide +kernel),fits_lit (by decide +kernel),fits_lit (by decide +kernel)⟩)
 rwa [latez kl_30 (fits_lit (by decide +kernel))] at h
theorem kstepb (W:World) (hr:Res W):Calls Tryz.prog 382 #[.agg #[.string ⟨#[51]⟩,.string ⟨#[49,47,50]⟩,.string (noneT 0),.string (noneT 1),.string (noneT 2),.string (noneT 3),.string (noneT 4),.string (noneT 5),.string (noneT 6),.string (noneT 7),.int .i64 2,.int .i64 0],.agg #[.string ⟨#[50]⟩,.string ⟨#[48]⟩]] W fun e w'=>e=.returned (.tuple #[(St.cur ⟨#[51]⟩ ⟨#[49,47,50]⟩ kT 2 1).val,.bool true])∧Below W.heap.size W w' :=
 gcafter ⟨#[51]⟩ ⟨#[49,47,50]⟩ ⟨#[50]⟩ ⟨#[48]⟩ ⟨#[49,47,56]⟩ ⟨#[48]⟩ ⟨#[48]⟩ ⟨#[51]⟩ ⟨#[51]⟩ noneT kT kT W hr (Lib.hid k_of) (Lib.hid k_add) (Lib.hid k_to) (Lib.hid k_least) (Lib.hid k_late) (Lib.hid k_half1) (Lib.hid k_half2)
theorem cspent_one (lf ld y1 dl:ByteArray) (c:CT) (w:World) (hr:Res w) (HTO:Hid (∀ W,Res W→Calls Tryz.prog 53 #[.agg #[.string (c 0),.string (c 1),.string (c 2),.string (c 3),.string (c 4),.string (c 5),.string (c 6),.string (c 7)],.int .i64 2,.string lf] W fun e w'=>e=.returned (.tuple #[.agg #[.string y1,.string dl],.int .i64 0])∧Below W.heap.size W w')) :
  Calls Tryz.prog 384 #[.agg #[.string lf,.string ld,.string (c 0),.string (c 1),.string (c 2),.string (c 3),.string (c 4),.string (c 5),.string (c 6),.string (c 7),.int .i64 2,.int .i64 1]] w fun e w'=>e=.returned (.agg #[.string y1,.string dl])∧Below w.heap.size w w':=by
 have B0:=Blk.new w 209 #[.string lf,.string ld,.string (c 0),.string (c 1),.string (c 2),.string (c 3),.string (c 4),.string (c 5),.string (c 6),.string (c 7),.int .i64 2,.int .i64 1]
 have B1:=B0.alloc (.cells #[.string ⟨#[]⟩,.string ⟨#[]⟩] 63)
 have B2:=Blk.new (w.alloc (.cells #[.string lf,.string ld,.string (c 0),.string (c 1),.string (c 2),.string (c 3),.string (c 4),.string (c 5),.string (c 6),.string (c 7),.int .i64 2,.int .i64 1] 209)) 63 #[.string ⟨#[]⟩,.string ⟨#[]⟩]
 rw [World.size_alloc] at B2
 have b0:((w.alloc (.cells #[.string lf,.string ld,.string (c 0),.string (c 1),.string (c 2),.string (c 3),.string (c 4),.string (c 5),.string (c 6),.string (c 7),.int .i64 2,.int .i64 1] 209)).alloc (.cells #[.string ⟨#[]⟩,.string ⟨#[]⟩] 63)).cell? ⟨w.heap.size,0,none⟩=some (.string lf):=B1.cell 0
 have b1:((w.alloc (.cells #[.string lf,.string ld,.string (c 0),.string (c 1),.string (c 2),.string (c 3),.string (c 4),.string (c 5),.string (c 6),.string (c 7),.int .i64 2,.int .i64 1] 209)).alloc (.cells #[.string ⟨#[]⟩,.string ⟨#[]⟩] 63)).cell? ⟨w.heap.size,1,none⟩=some (.string ld):=B1.cell 1
 have b2:((w.alloc (.cells #[.string lf,.string ld,.string (c 0),.string (c 1),.string (c 2),.string (c 3),.string (c 4),.string (c 5),.string (c 6),.string (c 7),.int .i64 2,.int .i64 1] 209)).alloc (.cells #[.string ⟨#[]⟩,.string ⟨#[]⟩] 63)).cell? ⟨w.heap.size,2,none⟩=some (.string (c 0)):=B1.cell 2
 have b3:((w.alloc (.cells #[.string lf,.string ld,.string (c 0),.string (c 1),.string (c 2),.string (c 3),.string (c 4),.string (c 5),.string (c 6),.string (c 7),.int .i64 2,.int .i64 1] 209)).alloc (.cells #[.string ⟨#[]⟩,.string ⟨#[]⟩] 63)).cell? ⟨w.heap.size,3,none⟩=some (.string (c 1)):=B1.cell 3
 have b4:((w.alloc (.cells #[.string lf,.string ld,.string (c 0),.string (c 1),.string (c 2),.string (c 3),.string (c 4),.string (c 5),.string (c 6),.string (c 7),.int .i64 2,.int .i64 1] 209)).alloc (.cells #[.string ⟨#[]⟩,.string ⟨#[]⟩] 63)).cell? ⟨w.heap.size,4,none⟩=some (.string (c 2)):=B1.cell 4
 have b5:((w.alloc (.cells #[.string lf,.string ld,.string (c 0),.string (c 1),.string (c 2),.string (c 3),.string (c 4),.string (c 5),.string (c 6),.string (c 7),.int .i64 2,.int .i64 1] 209)).alloc (.cells #[.string ⟨#[]⟩,.string ⟨#[]⟩] 63)).cell? ⟨w.heap.size,5,none⟩=some (.string (c 3)):=B1.cell 5
 have b6:((w.alloc (.cells #[.string lf,.string ld,.string (c 0),.string (c 1),.string (c 2),.string (c 3),.string (c 4),.string (c 5),.string (c 6),.string (c 7),.int .i64 2,.int .i64 1] 209)).alloc (.cells #[.string ⟨#[]⟩,.string ⟨#[]⟩] 63)).cell? ⟨w.heap.size,6,none⟩=some (.string (c 4)):=B1.cell 6
 have b7:((w.alloc (.cells #[.string lf,.string ld,.string (c 0),.string (c 1),.string (c 2),.string (c 3),.string (c 4),.string (c 5),.string (c 6),.string (c 7),.int .i64 2,.int .i64 1] 209)).alloc (.cells #[.string ⟨#[]⟩,.string ⟨#[]⟩] 63)).cell? ⟨w.heap.size,7,none⟩=some (.string (c 5)):=B1.cell 7
 have b8:((w.alloc (.cells #[.string lf,.string ld,.string (c 0),.string (c 1),.string (c 2),.string (c 3),.string (c 4),.string (c 5),.string (c 6),.string (c 7),.int .i64 2,.int .i64 1] 209)).alloc (.cells #[.string ⟨#[]⟩,.string ⟨#[]⟩] 63)).cell? ⟨w.heap.size,8,none⟩=some (.string (c 6)):=B1.cell 8
 have b9:((w.alloc (.cells #[.string lf,.string ld,.string (c 0),.string (c 1),.string (c 2),.string (c 3),.string (c 4),.string (c 5),.string (c 6),.string (c 7),.int .i64 2,.int .i64 1] 209)).alloc (.cells #[.string ⟨#[]⟩,.string ⟨#[]⟩] 63)).cell? ⟨w.heap.size,9,none⟩=some (.string (c 7)):=B1.cell 9
 have b10:((w.alloc (.cells #[.string lf,.string ld,.string (c 0),.string (c 1),.string (c 2),.string (c 3),.string (c 4),.string (c 5),.string (c 6),.string (c 7),.int .i64 2,.int .i64 1] 209)).alloc (.cells #[.string ⟨#[]⟩,.string ⟨#[]⟩] 63)).cell? ⟨w.heap.size,10,none⟩=some (.int .i64 2):=B1.cell 10
 have b11:((w.alloc (.cells #[.string lf,.string ld,.string (c 0),.string (c 1),.string (c 2),.string (c 3),.string (c 4),.string (c 5),.string (c 6),.string (c 7),.int .i64 2,.int .i64 1] 209)).alloc (.cells #[.string ⟨#[]⟩,.string ⟨#[]⟩] 63)).cell? ⟨w.heap.size,11,none⟩=some (.int .i64 1):=B1.cell 11
 have bl:=B1.lt
 obtain ⟨c0,c1⟩:=cells2 B2
 have f0:=B2.frozen 0
 have f1:=B2.frozen 1
 have cl:=B2.lt
 have HB:=Lib.hid (below_alloc (below_alloc (Below.refl w.heap.size w) (.cells #[.string lf,.string ld,.string (c 0),.string (c 1),.string (c 2),.string (c 3),.string (c 4),.string (c 5),.string (c 6),.string (c 7),.int .i64 2,.int .i64 1] 209)) (.cells #[.string ⟨#[]⟩,.string ⟨#[]⟩] 63))
 have HB2:=Lib.hid B2
 have HR:=Lib.hid (hr.below HB.out)
 clear B0 B1 B2 hr
 go_enter Tryz.func384,Tryz.ntmps384
 go_wp2_with (go_at_call 53;refine (HTO.out _ HR.out).mono ?_;rintro e w1 ⟨rfl,hb⟩;have K:=Lib.hid ((HB2.out.below hb HB2.out.lt).alloc (.cells #[.string y1,.string dl] 63));have KN:=Blk.new w1 63 #[.string y1,.string dl];obtain ⟨k0,k1⟩:=cells2 K.out;obtain ⟨n0,n1⟩:=cells2 KN;have nl:=KN.lt;have g0:=K.out.frozen 0;have g1:=K.out.frozen 1;have kl:=K.out.lt;have HC:=Lib.hid (below_alloc (HB.out.trans (hb.mono HB.out.size)) (.cells #[.string y1,.string dl] 63));clear hb KN)
 refine bodyPost_ret (run_cell rfl rfl (load_loss K.out.two_set)) rfl ⟨rfl,(HC.out.setCell (p:=⟨w.heap.size+1,0,none⟩) (by simp) _).setCell (p:=⟨w.heap.size+1,1,none⟩) (by simp) _⟩
theorem gspent_b1 (g:Nat) (s0:St) (lf ld y1 dl:ByteArray) (c:CT) (w:World) (hr:Res w) (h:Led w g s0 (.cur lf ld c 2 1)) (HTO:Hid (∀ W,Res W→Calls Tryz.prog 53 #[.agg #[.string (c 0),.string (c 1),.string (c 2),.string (c 3),.string (c 4),.string (c 5),.string (c 6),.string (c 7)],.int .i64 2,.string lf] W fun e w'=>e=.returned (.tuple #[.agg #[.string y1,.string dl],.int .i64 0])∧Below W.heap.size W w')) :
  Calls Tryz.prog 94 #[.pointer (some ⟨g,0,none⟩),.string ⟨#[98]⟩] w fun e w'=>e=.returned (.tuple #[.agg #[.string y1,.string dl],.bool true])∧Below w.heap.size w w':=by
 have HB:=Lib.hid (below_alloc (Below.refl w.heap.size w) (.cells #[.string ⟨#[]⟩,.string ⟨#[]⟩] 63))
 have HF:=Lib.hid (gfind_b g _ _ _ (h.later HB.out))
 have HB2:=Lib.hid (Blk.new w 63 #[.string ⟨#[]⟩,.string ⟨#[]⟩])
 have HR:=Lib.hid (hr.below HB.out)
 clear h hr
 unfold St.val at HF
 have NA:=nil_cs
 have ME:=meth_cs
 go_enter Tryz.func94,Tryz.ntmps94
 go_wp2_with (first
  | (go_at_call 180;refine HF.out.mono ?_;rintro e w1 ⟨rfl,rfl⟩)
  | (go_at_call 384;refine (cspent_one _ _ _ _ _ _ HR.out HTO).mono ?_;rintro e w1 ⟨rfl,hb⟩;have K:=HB2.out.below hb HB2.out.lt;obtain ⟨k0,k1⟩:=cells2 K;have g0:=K.frozen 0;have g1:=K.frozen 1;have kl:=K.lt;have HK:=Lib.hid K;have HC:=Lib.hid (HB.out.trans (hb.mono HB.out.size));clear hb K))
 refine bodyPost_ret (run_cell_tmp rfl rfl (load_loss HK.out.two_set)) rfl ⟨rfl,(HC.out.setCell (p:=⟨w.heap.size,0,none⟩) (Nat.le_refl _) _).setCell (p:=⟨w.heap.size,1,none⟩) (Nat.le_refl _) _⟩
theorem gcharges_b (g:Nat) (s0:St) (lf ld:ByteArray) (c:CT) (o n:Int) (w:World) (h:Led w g s0 (.cur lf ld c o n)):Calls Tryz.prog 90 #[.pointer (some ⟨g,0,none⟩),.string ⟨#[98]⟩] w fun e w'=>e=.returned (.int .i64 n)∧Below w.heap.size w w':=by
 have HF:=Lib.hid (gfind_b g _ _ _ h)
 clear h
 unfold St.val at HF
 have NA:=nil_cc
 have ME:=meth_cc
 go_enter Tryz.func90,Tryz.ntmps90
 go_wp2_with (first
  | (go_at_call 180;refine HF.out.mono ?_;rintro e w1 ⟨rfl,rfl⟩)
  | (go_at_call 383;refine (ccharges_any _ _ _ _ _ _).mono ?_;rintro e w1 ⟨rfl,hb⟩;have HC:=Lib.hid hb;clear hb))
 go_ret
 exact ⟨rfl,HC.out⟩
end Go.Proofs.YtigapglmipmbeaaGreatDoor
