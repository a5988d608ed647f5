/- (printed by mkstage2.py) Regions that draw their order, in stages; a slot may be read by a read and written by one of the others that waits for it: reads (guarded or not) may come as soon as their edges allow, also behind some of the others; the others come in any order that their edges allow. The reference of chapter 10: share and To (printed by mkmref.py). The reference's Pow of a positive number where the result fits. The reference 08: Delta, Distance, Factor, part, Moment (printed by mkdref.py). Own and light of losses; the reference's Sum and Holds (printed by mkrests2.py). law 09: few (printed by mkdlight.py). The door of a function that defers ends, inside the wide fence. -/
import Derived.Test.YtigapglmipmbeaaGreatDoorRb03
import Derived.Test.YtigapglmipmbeaaGreatDoorLwLossRests06
import Derived.Test.YtigapglmipmbeaaGreatDoorRb10
import Derived.Test.YtigapglmipmbeaaGreatDoorLwLossRests04
import Derived.Test.YtigapglmipmbeaaGreatDoorLwLossRests05
import Derived.RecoverIn
import Derived.TacticsInMore
set_option maxRecDepth 100000
set_option maxHeartbeats 16000000
namespace Go.Proofs.YtigapglmipmbeaaGreatDoor.S2
open Go.RowKit Go.Proofs.YtigapglmipmbeaaGreatDoor
def bareRead (o:Oper):Bool:=pureRead { o with guard:=none }
def stageOk (ops:List Oper) (H:List Nat):Bool :=
 (List.range ops.length).all fun j=>match ops[j]? with
  | none=>true
  | some o=>ownEdges j o&&noDefer o&&noSel o&&(match o.guard with|none=>true|some (k,_)=>waitsOn o k) &&
   (if H.contains j then bareRead o&&farOf o o.dst else true) &&
   (List.range ops.length).all fun i=>i==j || (match ops[i]? with|none=>true|some h=>(waitsOn o i || (farOf o h.dst || (waitsOn h j&&!H.contains i)))&&(h.dst.isNone || h.dst != o.dst))
structure StOk (ops:List Oper) (H:List Nat) (j:Nat) (o:Oper):Prop where
 edges:ownEdges j o=true
 nd:noDefer o=true
 ns:noSel o=true
 gd:∀ k b,o.guard=some (k,b)→waitsOn o k=true
 rd:j∈H→bareRead o=true∧farOf o o.dst=true
 far:∀ i h,i≠j→ops[i]?=some h→(waitsOn o i=true∨farOf o h.dst=true∨(waitsOn h j=true∧i ∉ H))∧(h.dst=none∨h.dst≠o.dst)
theorem stage_at {ops:List Oper} {H:List Nat} (hok:stageOk ops H=true) {j:Nat} {o:Oper} (hj:ops[j]?=some o):StOk ops H j o:=by
 have hlt:j < ops.length:=(List.getElem?_eq_some_iff.1 hj).1
 have h2:=List.all_eq_true.1 hok j (List.mem_range.2 hlt)
 rw [hj] at h2
 simp only [Bool.and_eq_true] at h2
 obtain ⟨⟨⟨⟨⟨h3,h4⟩,h5⟩,h6⟩,h7⟩,h8⟩:=h2
 refine ⟨h3,h4,h5,fun k b hg=>?_,fun hm=>?_,fun i h hne hi=>?_⟩
 ·rw [hg] at h6;exact h6
 ·rw [if_pos (by simpa using hm)] at h7;simpa using h7
 ·have:=List.all_eq_true.1 h8 i (List.mem_range.2 (List.getElem?_eq_some_iff.1 hi).1)
  rw [hi] at this
  simp only [Bool.or_eq_true,beq_iff_eq,Bool.and_eq_true,Option.isNone_iff_eq_none,bne_iff_ne] at this
  rcases this with h|h
  ·exact absurd h hne
  ·refine ⟨?_,h.2⟩
   rcases h.1 with h1|h1|h1
   ·exact .inl h1
   ·exact .inr (.inl h1)
   ·exact .inr (.inr ⟨h1.1,by have h2:=h1.2;simpa using h2⟩)
section
variable {F:Fence} {n:Nat} {P:Program} {C:World→Prop} {ops:List Oper} {H:List Nat}
theorem bare_runs {o:Oper} {a:Act} {K':Act→World→Prop} {Q:Exit→Act→World→Prop} {w:World} {v:Value} (hp:bareRead o=true) (hrun:o.quietAtIn F n P a C w v) (hK:K' (a.put o.dst v) w)
  (ha:∀ f,o.about P w a.eval=some f→F.fn f):o.wpIn F n P a w K' Q:=pure_runs (o:={ o with guard:=none }) hp hrun hK ha
theorem wanted_of {o:Oper} {a b:Act} (h:∀ k bb,o.guard=some (k,bb)→∀ s,(ops[k]?).bind (·.dst)=some s→a.tmps[s]?=b.tmps[s]?) :
  Region.wanted o (yielded ops.toArray a.tmps)=Region.wanted o (yielded ops.toArray b.tmps):=by
 unfold Region.wanted
 cases hg:o.guard with
 | none=>rfl
 | some kb =>
  obtain ⟨k,bb⟩:=kb
  have:yielded ops.toArray a.tmps k=yielded ops.toArray b.tmps k:=by
   unfold yielded
   rw [List.getElem?_toArray]
   cases hd:(ops[k]?).bind (·.dst) with
   | none=>rfl
   | some s =>
    simp only [Option.bind_some]
    rw [h k bb hg s hd]
  simp only [this]
def HeadVal (F:Fence) (n:Nat) (P:Program) (C:World→Prop) (ops:List Oper) (o:Oper) (b:Act) (v:Value):Prop :=
 o.askedIn F P b C∧((Region.wanted o (yielded ops.toArray b.tmps)=true∧∀ w,C w→o.quietAtIn F n P b C w v)∨(Region.wanted o (yielded ops.toArray b.tmps)=false∧v=undef))
theorem slot_other {b:Act} {d:Option Tmp} {u:Value} {s:Tmp} (h:d≠some s):(b.put d u).tmps[s]?=b.tmps[s]?:=by
 cases d with
 | none=>rfl
 | some e=>rw [put_get,if_neg (fun h'=>h (by rw [h'.1]))]
theorem HeadVal.of {o:Oper} {a b:Act} {v:Value} (h:HeadVal F n P C ops o b v) (hns:noSel o=true) (hev:∀ x∈o.op.operands,a.eval x=b.eval x)
  (hg:∀ k bb,o.guard=some (k,bb)→∀ s,(ops[k]?).bind (·.dst)=some s→a.tmps[s]?=b.tmps[s]?):HeadVal F n P C ops o a v:=by
 obtain ⟨h1,h2⟩:=h
 obtain ⟨e1,e2⟩:=quietAt_of (P:=P) (sel_of hns) hev
 refine ⟨fun w hw f hf=>h1 w hw f (by rw [← e2];exact hf),?_⟩
 rw [wanted_of hg]
 rcases h2 with ⟨hw,hq⟩|h2
 ·refine .inl ⟨hw,fun w hw=>?_⟩
  have:=hq w hw
  unfold Oper.quietAtIn at this ⊢
  rw [e1]
  exact this
 ·exact .inr h2
def wpStage (F:Fence) (n:Nat) (P:Program) (ops:List Oper) (H:List Nat) (C:World→Prop) (waits:Nat→Bool) (Q':Act→World→Prop):Nat→Array Bool→Act→World→Prop
 | 0,LT,b,w=>Region.ready .any ops.toArray LT=[]∧Q' b w
 | f+1,LT,b,w =>
  (∃ i o,i∈H∧i∈Region.ready .any ops.toArray LT∧ops[i]?=some o∧∃ v,HeadVal F n P C ops o b v∧wpStage F n P ops H C waits Q' f (LT.setIfInBounds i true) (b.put o.dst v) w) ∨
  ((Region.ready .any ops.toArray LT=[]→Q' b w) ∧
   ∀ j∈Region.ready .any ops.toArray LT,∀ o,ops[j]?=some o→wpListIn F n P ops.toArray (fun e a' w'=>e=.normal∧(waits j=false→C w')∧wpStage F n P ops H C waits Q' f (LT.setIfInBounds j true) a' w') [o] b w)
def Owed (H:List Nat) (L LT:Array Bool) (i:Nat):Prop:=i∈H∧LT[i]?=some true∧L[i]?=some false
def Known (F:Fence) (n:Nat) (P:Program) (C:World→Prop) (ops:List Oper) (H:List Nat) (L LT:Array Bool) (b:Act):Prop :=
 ∀ i o,Owed H L LT i→ops[i]?=some o→∃ v,b.put o.dst v=b∧HeadVal F n P C ops o b v
theorem set_get {L:Array Bool} {j i:Nat} (hj:j < L.size):(L.setIfInBounds j true)[i]?=if j=i then some true else L[i]?:=by
 by_cases h:j=i
 ·subst h;rw [if_pos rfl,Array.getElem?_setIfInBounds_self_of_lt hj]
 ·rw [if_neg h,Array.getElem?_setIfInBounds_ne h]
theorem get_or {L:Array Bool} {i:Nat} (h:i < L.size):L[i]?=some true∨L[i]?=some false:=by
 rw [Array.getElem?_eq_getElem h]
 cases L[i]<;>simp
theorem owed_agree (hok:stageOk ops H=true) {L LT:Array Bool} (_hs1:L.size=ops.length) {a b:Act} (hl:Lack ops (Owed H L LT) a b) {j:Nat} {o:Oper} (hoj:ops[j]?=some o) (hself:Owed H L LT j→farOf o o.dst=true)
  (hall:∀ k,waitsOn o k=true→L[k]?=some true):(∀ x∈o.op.operands,a.eval x=b.eval x)∧∀ k bb,o.guard=some (k,bb)→∀ s,(ops[k]?).bind (·.dst)=some s→a.tmps[s]?=b.tmps[s]?:=by
 have hS:=stage_at hok hoj
 refine ⟨hl.eval fun i h' hi hh d hd=>?_,fun k bb hg s hs=>hl.same s fun i h' hi hh e=>?_⟩
 ·by_cases hij:i=j
  ·subst hij
   rw [hoj] at hh;cases hh
   exact farOf_spec (hself hi) d hd
  ·rcases (hS.far i h' hij hh).1 with hw|hf|hf
   ·have:=hall i hw
    rw [hi.2.2] at this;cases this
   ·exact farOf_spec hf d hd
   ·exact absurd hi.1 hf.2
 ·have hk:=hall k (hS.gd k bb hg)
  have hik:i≠k:=fun e'=>by subst e';rw [hi.2.2] at hk;cases hk
  obtain ⟨ok,hok',hd⟩:=Option.bind_eq_some_iff.1 hs
  rcases ((stage_at hok hok').far i h' hik hh).2 with h0|h0
  ·rw [h0] at e;cases e
  ·exact h0 (by rw [e,hd])
theorem known_put (hok:stageOk ops H=true) {L LT:Array Bool} {b:Act} (hk:Known F n P C ops H L LT b) {j:Nat} {o:Oper} (hoj:ops[j]?=some o) (hj:LT[j]?=some false)
  (hcl:∀ i o,i∈H→LT[i]?=some true→ops[i]?=some o→∀ k,waitsOn o k=true→LT[k]?=some true) (u:Value) {i:Nat} {oi:Oper} (hi:Owed H L LT i) (hoi:ops[i]?=some oi) (hno:waitsOn o i=true→j∈H) :
  ∃ v,(b.put o.dst u).put oi.dst v=b.put o.dst u∧HeadVal F n P C ops oi (b.put o.dst u) v:=by
 obtain ⟨v,h1,h2⟩:=hk i oi hi hoi
 have hij:i≠j:=fun e=>by subst e;rw [hi.2.1] at hj;cases hj
 have hSi:=stage_at hok hoi
 have hSj:=stage_at hok hoj
 have hw:∀ k,waitsOn oi k=true→k≠j:=fun k hk e=>by
  subst e
  have:=hcl i oi hi.1 hi.2.1 hoi k hk
  rw [hj] at this;cases this
 have hfar:=(hSi.far j o (fun e=>hij e.symm) hoj)
 refine ⟨v,?_,h2.of hSi.ns (operands_far (farOf_spec ?_)) fun k bb hg s hs=>slot_other fun e=>?_⟩
 ·rcases hfar.2 with h|h
  ·rw [h];exact h1
  ·have hc:=Act.put_comm b (x:=oi.dst) (y:=o.dst) v u (fun d h1 h2=>h (h2.trans h1.symm))
   rw [← hc,h1]
 ·rcases hfar.1 with h|h|h
  ·exact absurd rfl (hw j h)
  ·exact h
  ·exact absurd (hno h.1) h.2
 ·have hkj:=hw k (hSi.gd k bb hg)
  obtain ⟨ok,hok',hd⟩:=Option.bind_eq_some_iff.1 hs
  rcases (hSj.far k ok hkj hok').2 with h0|h0
  ·rw [h0] at hd;cases hd
  ·exact h0 (by rw [e,hd])
structure StInv (F:Fence) (n:Nat) (P:Program) (C:World→Prop) (ops:List Oper) (H:List Nat) (L LT:Array Bool) (a b:Act) (w:World):Prop where
 s1:L.size=ops.length
 s2:LT.size=ops.length
 same:∀ i:Nat,i < ops.length→i ∉ H→L[i]?=LT[i]?
 le:∀ i:Nat,L[i]?=some true→LT[i]?=some true
 closed:∀ (i:Nat) (o:Oper),i∈H→LT[i]?=some true→ops[i]?=some o→∀ k,waitsOn o k=true→LT[k]?=some true
 known:(∀ i∈H,i < ops.length→L[i]?=some true)∨(C w∧Known F n P C ops H L LT b)
 lack:Lack ops (Owed H L LT) a b
theorem StInv.hoist (hok:stageOk ops H=true) {L LT:Array Bool} {a b:Act} {w:World} (h:StInv F n P C ops H L LT a b w) {i:Nat} {o:Oper} (hi:i∈H) (hoi:ops[i]?=some o) (hLT:LT[i]?=some false)
  (hall:∀ k,waitsOn o k=true→LT[k]?=some true) {v:Value} (hv:HeadVal F n P C ops o b v):StInv F n P C ops H L (LT.setIfInBounds i true) a (b.put o.dst v) w:=by
 have hil:=(List.getElem?_eq_some_iff.1 hoi).1
 have hlt:i < LT.size:=by rw [h.s2];exact hil
 have hLi:L[i]?=some false:=by
  rcases get_or (L:=L) (i:=i) (by rw [h.s1];exact hil) with e|e
  ·have:=h.le i e;rw [hLT] at this;cases this
  ·exact e
 have hS:=stage_at hok hoi
 have hwi:waitsOn o i=true→False:=fun e=>by have:=hall i e;rw [hLT] at this;cases this
 refine ⟨h.s1,by simpa using h.s2,fun k hk hkH=>?_,fun k hk=>?_,fun k ok hk hkT hok' j hj=>?_,?_,?_⟩
 ·rw [set_get hlt,if_neg (fun e=>hkH (by rw [← e];exact hi))];exact h.same k hk hkH
 ·rw [set_get hlt];split
  ·rfl
  ·exact h.le k hk
 ·rw [set_get hlt]
  by_cases e:i=j
  ·rw [if_pos e]
  ·rw [if_neg e]
   by_cases e2:i=k
   ·subst e2;rw [hoi] at hok';cases hok';exact hall j hj
   ·rw [set_get hlt,if_neg e2] at hkT;exact h.closed k ok hk hkT hok' j hj
 ·rcases h.known with hk|⟨hC,hk⟩
  ·have:=hk i hi hil;rw [hLi] at this;cases this
  ·refine .inr ⟨hC,fun k ok hkO hok'=>?_⟩
   by_cases e:i=k
   ·subst e
    rw [hoi] at hok';cases hok'
    refine ⟨v,put_put_same _ _ _,hv.of hS.ns (operands_far (farOf_spec (hS.rd hi).2)) fun k bb hg s hs=>slot_other fun e=>?_⟩
    have hki:k≠i:=fun e'=>by subst e';exact hwi (hS.gd k bb hg)
    obtain ⟨ok,hok',hd⟩:=Option.bind_eq_some_iff.1 hs
    rcases (hS.far k ok hki hok').2 with h0|h0
    ·rw [h0] at hd;cases hd
    ·exact h0 (by rw [e,hd])
   ·refine known_put hok hk hoi hLT h.closed v ⟨hkO.1,?_,hkO.2.2⟩ hok' (fun _=>hi)
    have:=hkO.2.1
    rwa [set_get hlt,if_neg e] at this
 ·refine ⟨h.lack.defers.trans (put_defers _ _ _).symm,h.lack.size.trans (put_size _ _ _).symm,fun s hs=>?_⟩
  have h1:=h.lack.same s fun k ok hk hok'=>hs k ok ⟨hk.1,by rw [set_get hlt];split;rfl;exact hk.2.1,hk.2.2⟩ hok'
  rw [h1,slot_other (hs i o ⟨hi,by rw [set_get hlt,if_pos rfl],hLi⟩ hoi)]
theorem StInv.paid (_hok:stageOk ops H=true) {L LT:Array Bool} {a b:Act} {w:World} (h:StInv F n P C ops H L LT a b w) {j:Nat} {o:Oper} (hoj:ops[j]?=some o) (hO:Owed H L LT j) {v:Value} (hb:b.put o.dst v=b) :
  StInv F n P C ops H (L.setIfInBounds j true) LT (a.put o.dst v) b w:=by
 have hjl:j < L.size:=by rw [h.s1];exact (List.getElem?_eq_some_iff.1 hoj).1
 have sub:∀ k,Owed H (L.setIfInBounds j true) LT k→Owed H L LT k:=fun k hk=>by
  refine ⟨hk.1,hk.2.1,?_⟩
  have:=hk.2.2
  rw [set_get hjl] at this
  split at this
  ·cases this
  ·exact this
 refine ⟨by simpa using h.s1,h.s2,fun k hk hkH=>?_,fun k hk=>?_,h.closed,?_,?_⟩
 ·rw [set_get hjl,if_neg (fun e=>hkH (by rw [← e];exact hO.1))];exact h.same k hk hkH
 ·rw [set_get hjl] at hk
  split at hk
  ·rename_i e;rw [← e];exact hO.2.1
  ·exact h.le k hk
 ·rcases h.known with hk|⟨hC,hk⟩
  ·exact .inl fun k hkH hkl=>by rw [set_get hjl];split;rfl;exact hk k hkH hkl
  ·exact .inr ⟨hC,fun k ok hkO=>hk k ok (sub k hkO)⟩
 ·refine h.lack.head hoj hb fun k hk=>?_
  by_cases e:j=k
  ·exact .inl e.symm
  ·exact .inr ⟨hk.1,hk.2.1,by rw [set_get hjl,if_neg e];exact hk.2.2⟩
theorem StInv.step (hok:stageOk ops H=true) {L LT:Array Bool} {a b a' b':Act} {w w':World} (h:StInv F n P C ops H L LT a b w) {j:Nat} {o:Oper} (hoj:ops[j]?=some o) (_hL:L[j]?=some false) (hLT:LT[j]?=some false)
  (hall:∀ k,waitsOn o k=true→L[k]?=some true) {u:Value} {b0:Act} (hkn:Known F n P C ops H L LT b→Known F n P C ops H L LT b0) (hb':b'=b0.put o.dst u) (hl':Lack ops (Owed H L LT) a' b') (hC':C w'∨∀ i∈H,i < ops.length→waitsOn o i=true) :
  StInv F n P C ops H (L.setIfInBounds j true) (LT.setIfInBounds j true) a' b' w':=by
 have hjl:j < L.size:=by rw [h.s1];exact (List.getElem?_eq_some_iff.1 hoj).1
 have hjt:j < LT.size:=by rw [h.s2];exact (List.getElem?_eq_some_iff.1 hoj).1
 have sub:∀ k,Owed H (L.setIfInBounds j true) (LT.setIfInBounds j true) k→Owed H L LT k:=fun k hk=>by
  have h1:=hk.2.1
  have h2:=hk.2.2
  rw [set_get hjl] at h2
  rw [set_get hjt] at h1
  split at h2
  ·cases h2
  ·rename_i e;rw [if_neg e] at h1;exact ⟨hk.1,h1,h2⟩
 refine ⟨by simpa using h.s1,by simpa using h.s2,fun k hk hkH=>?_,fun k hk=>?_,fun k ok hk hkT hok' m hm=>?_,?_,?_⟩
 ·rw [set_get hjl,set_get hjt];split
  ·rfl
  ·exact h.same k hk hkH
 ·rw [set_get hjl] at hk;rw [set_get hjt]
  split
  ·rfl
  ·rename_i e;rw [if_neg e] at hk;exact h.le k hk
 ·rw [set_get hjt]
  split
  ·rfl
  ·by_cases e2:j=k
   ·subst e2;rw [hoj] at hok';cases hok';exact h.le m (hall m hm)
   ·rw [set_get hjt,if_neg e2] at hkT;exact h.closed k ok hk hkT hok' m hm
 ·rcases h.known with hk|⟨hC,hk⟩
  ·exact .inl fun k hkH hkl=>by rw [set_get hjl];split;rfl;exact hk k hkH hkl
  ·rcases hC' with hC'|hC'
   ·refine .inr ⟨hC',fun k ok hkO hok'=>?_⟩
    rw [hb']
    exact known_put hok (hkn hk) hoj hLT h.closed u (sub k hkO) hok' (fun hw=>by
     have h1:=hall k hw
     have h2:=(sub k hkO).2.2
     rw [h1] at h2;cases h2)
   ·exact .inl fun k hkH hkl=>by rw [set_get hjl];split;rfl;exact hall k (hC' k hkH hkl)
 ·exact hl'.mono fun k hkl hk=>by
   refine ⟨hk.1,?_,?_⟩
   ·rw [set_get hjt];split;rfl;exact hk.2.1
   ·rw [set_get hjl]
    split
    ·rename_i e;subst e;have:=hk.2.1;rw [hLT] at this;cases this
    ·exact hk.2.2
theorem getD_false {L:Array Bool} {i:Nat} (hi:i < L.size) (h:L.getD i true=false):L[i]?=some false:=by
 rcases get_or hi with e|e
 ·rw [getD_of e] at h;cases h
 ·exact e
theorem ready_exists (hok:stageOk ops H=true) {L:Array Bool} (hsz:L.size=ops.length) (hu:unlisted ops.length L≠0):∃ i,i∈Region.ready .any ops.toArray L:=by
 have hne:∃ i,i < ops.length∧L.getD i true=false:=by
  have hpos:0 < ((List.range ops.length).filter fun i=>!L.getD i true).length:=by unfold unlisted at hu;omega
  obtain ⟨i,hi⟩:=List.exists_mem_of_length_pos hpos
  obtain ⟨g1,g2⟩:=List.mem_filter.1 hi
  exact ⟨i,List.mem_range.1 g1,by simpa using g2⟩
 obtain ⟨i0,⟨hi0,hu0⟩,hmin⟩:=exists_least (p:=fun i=>i < ops.length∧L.getD i true=false) hne
 have ho:ops[i0]?=some ops[i0]:=by simp [hi0]
 refine ⟨i0,mem_ready.2 ⟨hu0,ops[i0],by simp [hi0],fun e he hb=>?_⟩⟩
 have hlt:=ownEdges_spec (stage_at hok ho).edges e he hb
 have hnot:¬ L.getD e.on true=false:=fun hh=>by have:=hmin e.on ⟨by omega,hh⟩;omega
 exact getD_of (listed_of (k:=ops.length) (by omega) (by omega) (.inl (by simpa using hnot)))
theorem ready_none {L:Array Bool} (hsz:L.size=ops.length) (hu:unlisted ops.length L=0):Region.ready .any ops.toArray L=[]:=by
 rw [List.eq_nil_iff_forall_not_mem]
 intro j hj
 obtain ⟨hj1,o,ho,_⟩:=mem_ready.1 hj
 have hlt:j < ops.length:=by have:=(Array.getElem?_eq_some_iff.1 ho).1;simpa using this
 have:=listed_of (k:=ops.length) (by omega) hlt (.inr (unlisted_zero hu (by omega) j hlt))
 rw [getD_of this] at hj1;cases hj1
theorem ready_facts (hok:stageOk ops H=true) {L:Array Bool} (hsz:L.size=ops.length) {j:Nat} (hj:j∈Region.ready .any ops.toArray L):∃ o,ops[j]?=some o∧ops.toArray[j]?=some o∧L[j]?=some false∧∀ k,waitsOn o k=true→L[k]?=some true:=by
 obtain ⟨hj1,o,ho,hall⟩:=mem_ready.1 hj
 have hjl:j < ops.length:=by have:=(Array.getElem?_eq_some_iff.1 ho).1;simpa using this
 have hoj:ops[j]?=some o:=by rw [← ho];simp
 refine ⟨o,hoj,ho,getD_false (by omega) hj1,fun k hk=>?_⟩
 obtain ⟨e,he,hb,hon⟩:=waitsOn_spec hk
 have h1:=hall e he hb
 have hel:=ownEdges_spec (stage_at hok hoj).edges e he hb
 rw [hon] at h1 hel
 exact listed_of (k:=ops.length) (by omega) (by omega) (.inr h1)
theorem ready_mono (hok:stageOk ops H=true) {L LT:Array Bool} (hs1:L.size=ops.length) (_hs2:LT.size=ops.length) (hle:∀ i:Nat,L[i]?=some true→LT[i]?=some true) {j:Nat} (hj:j∈Region.ready .any ops.toArray L) (hLT:LT[j]?=some false):j∈Region.ready .any ops.toArray LT:=by
 obtain ⟨o,hoj,ho,hL,hall⟩:=ready_facts hok hs1 hj
 refine mem_ready.2 ⟨getD_of hLT,o,ho,fun e he hb=>?_⟩
 have hw:waitsOn o e.on=true:=by
  unfold waitsOn
  rw [Array.any_eq_true']
  exact ⟨e,he,by simp [hb]⟩
 exact getD_of (hle _ (hall _ hw))
theorem Known.defers {L LT:Array Bool} {b:Act} (h:Known F n P C ops H L LT b) (ds:List Deferred):Known F n P C ops H L LT { b with defers:=ds }:=by
 intro i o hi ho
 obtain ⟨u,h2,h3⟩:=h i o hi ho
 refine ⟨u,?_,h3⟩
 cases hd:o.dst with
 | none=>rfl
 | some d =>
  rw [hd] at h2
  have:=congrArg Act.tmps h2
  simp only [Act.put] at this ⊢
  rw [this]
theorem stage_paid (hok:stageOk ops H=true) {L LT:Array Bool} {a b:Act} {w:World} (hI:StInv F n P C ops H L LT a b w) {j:Nat} {o:Oper} (hO:Owed H L LT j) (hoj:ops[j]?=some o) (ho:ops.toArray[j]?=some o)
  (hall:∀ k,waitsOn o k=true→L[k]?=some true) {Q:Exit→Act→World→Prop} {K:Act→World→Prop} (hK:∀ v,b.put o.dst v=b→K (a.put o.dst v) w):wpOpIn F n P ops.toArray Q j K a w:=by
 have hS:=stage_at hok hoj
 rcases hI.known with hk|⟨hC,hk⟩
 ·have:=hk j hO.1 (List.getElem?_eq_some_iff.1 hoj).1;rw [hO.2.2] at this;cases this
 ·obtain ⟨v,hb,hv⟩:=hk j o hO hoj
  obtain ⟨hev,hgd⟩:=owed_agree hok hI.s1 hI.lack hoj (fun h=>(hS.rd h.1).2) hall
  obtain ⟨hask,hcase⟩:=hv.of hS.ns hev hgd
  unfold wpOpIn
  rw [ho]
  dsimp only
  rcases hcase with ⟨hw,hq⟩|⟨hw,rfl⟩
  ·rw [if_pos hw]
   exact bare_runs (hS.rd hO.1).1 (hq w hC) (hK v hb) (fun f hf=>hask w hC f hf)
  ·rw [if_neg (by rw [hw];simp)]
   exact ⟨fun f hf=>hask w hC f hf,hK _ hb⟩
theorem stage_run (hok:stageOk ops H=true) (waits:Nat→Bool) (hw:∀ j o,ops[j]?=some o→waits j=true→∀ i∈H,i < ops.length→waitsOn o i=true) (Q:Exit→Act→World→Prop):∀ (g f:Nat) (L LT:Array Bool) (a b:Act) (w:World),
  unlisted ops.length L=g→unlisted ops.length LT=f→StInv F n P C ops H L LT a b w→wpStage F n P ops H C waits (fun a w=>Q .normal a w) f LT b w→wpAnyIn F n P .any ops.toArray Q g L a w:=by
 intro g
 induction g with
 | zero =>
  intro f L LT a b w hg hf hI h
  have hall:∀ i,i < ops.length→L[i]?=some true:=fun i hi=>listed_of (k:=ops.length) (by rw [hI.s1];omega) hi (.inr (unlisted_zero hg (by rw [hI.s1];omega) i hi))
  have hut:unlisted ops.length LT=0:=by
   unfold unlisted
   rw [List.length_eq_zero_iff,List.filter_eq_nil_iff]
   intro i hi
   have:=hI.le i (hall i (List.mem_range.1 hi))
   simp [Array.getD_eq_getD_getElem?,this]
  rw [hut] at hf
  subst hf
  refine ⟨ready_none hI.s1 hg,?_⟩
  rw [hI.lack.full fun i hi hn=>by have:=hall i hi;rw [hn.2.2] at this;cases this]
  exact h.2
 | succ g ih =>
  intro f
  have less:∀ {L:Array Bool} {j k:Nat},L.size=ops.length→j < ops.length→L[j]?=some false→unlisted ops.length L=k+1→unlisted ops.length (L.setIfInBounds j true)=k:=fun hsz hj hf hu=>by
   have:=unlisted_set hj (by omega) (getD_of (d:=true) hf)
   omega
  induction f with
  | zero =>
   intro L LT a b w hg hf hI h
   obtain ⟨r0,hr0⟩:=ready_exists hok hI.s1 (by omega)
   refine ⟨fun e=>(by rw [e] at hr0;cases hr0),fun j hj=>?_⟩
   obtain ⟨o,hoj,ho,hL,hall⟩:=ready_facts hok hI.s1 hj
   have hjl:=(List.getElem?_eq_some_iff.1 hoj).1
   have hLT:LT[j]?=some true:=listed_of (k:=ops.length) (by rw [hI.s2];omega) hjl (.inr (unlisted_zero hf (by rw [hI.s2];omega) j hjl))
   have hjH:j∈H:=by
    by_cases hm:j∈H
    ·exact hm
    ·have:=hI.same j hjl hm;rw [hL,hLT] at this;cases this
   have hO:Owed H L LT j:=⟨hjH,hLT,hL⟩
   exact stage_paid hok hI hO hoj ho hall fun v hb=>ih 0 _ LT _ b w (less hI.s1 hjl hL hg) hf (hI.paid hok hoj hO hb) h
  | succ f ihf =>
   intro L LT a b w hg hf hI h
   rcases h with ⟨i,o,hiH,hir,hoi,v,hv,hst⟩|⟨h1,h2⟩
   ·obtain ⟨o',hoi',_,hLTi,halli⟩:=ready_facts hok hI.s2 hir
    rw [hoi] at hoi';cases hoi'
    have hil:=(List.getElem?_eq_some_iff.1 hoi).1
    exact ihf L _ a _ w hg (less hI.s2 hil hLTi hf) (hI.hoist hok hiH hoi hLTi halli hv) hst
   ·obtain ⟨r0,hr0⟩:=ready_exists hok hI.s1 (by omega)
    refine ⟨fun e=>(by rw [e] at hr0;cases hr0),fun j hj=>?_⟩
    obtain ⟨o,hoj,ho,hL,hall⟩:=ready_facts hok hI.s1 hj
    have hjl:=(List.getElem?_eq_some_iff.1 hoj).1
    rcases get_or (L:=LT) (i:=j) (by rw [hI.s2];exact hjl) with hLT|hLT
    ·have hjH:j∈H:=by
      by_cases hm:j∈H
      ·exact hm
      ·have:=hI.same j hjl hm;rw [hL,hLT] at this;cases this
     have hO:Owed H L LT j:=⟨hjH,hLT,hL⟩
     exact stage_paid hok hI hO hoj ho hall fun v hb=>ih (f+1) _ LT _ b w (less hI.s1 hjl hL hg) hf (hI.paid hok hoj hO hb) (.inr ⟨h1,h2⟩)
    ·have hrT:=ready_mono hok hI.s1 hI.s2 hI.le hj hLT
     have h3:=h2 j hrT o hoj
     have hS:=stage_at hok hoj
     obtain ⟨hev,hgd⟩:=owed_agree hok hI.s1 hI.lack hoj (fun h=>by have:=h.2.1;rw [hLT] at this;cases this) hall
     obtain ⟨e1,e2⟩:=quietAt_of (P:=P) (sel_of hS.ns) hev
     have hC':∀ w',(waits j=false→C w')→(C w'∨∀ i∈H,i < ops.length→waitsOn o i=true):=fun w' h=>by
      cases hwj:waits j with
      | true=>exact .inr (hw j o hoj hwj)
      | false=>exact .inl (h hwj)
     simp only [wpListIn] at h3
     unfold wpOpIn
     rw [ho]
     dsimp only
     rw [wanted_of hgd]
     by_cases hwt:Region.wanted o (yielded ops.toArray b.tmps)=true
     ·rw [if_pos hwt] at h3 ⊢
      refine wpIn_move hS.nd e1 (e2 w) (fun v w' h'=>?_) (fun d w' h'=>?_) (fun e a w h=>h.1) h3
      ·exact ih f _ _ _ _ w' (less hI.s1 hjl hL hg) (less hI.s2 hjl hLT hf) (hI.step hok hoj hL hLT hall id rfl (hI.lack.tail _ _) (hC' w' h'.2.1)) h'.2.2
      ·exact ih f _ _ _ _ w' (less hI.s1 hjl hL hg) (less hI.s2 hjl hLT hf) (hI.step hok hoj hL hLT hall (fun hk=>hk.defers _) rfl ((hI.lack.defer d).tail _ _) (hC' w' h'.2.1)) h'.2.2
     ·rw [if_neg hwt] at h3 ⊢
      obtain ⟨h4,h5⟩:=h3
      exact ⟨fun f hf=>h4 f (by rw [← e2 w];exact hf),ih f _ _ _ _ w (less hI.s1 hjl hL hg) (less hI.s2 hjl hLT hf) (hI.step hok hoj hL hLT hall id rfl (hI.lack.tail _ _) (hC' w h5.2.1)) h5.2.2⟩
def hoistOk (ops:List Oper) (H:List Nat):List Nat→Array Bool→Bool
 | [],_=>true
 | i::l,LT=>H.contains i&&!(LT.getD i true)&&(match ops[i]? with|none=>false|some o=>o.after.all fun e=>!Region.binds .any e || LT.getD e.on false)&&hoistOk ops H l (LT.setIfInBounds i true)
def listAll (hs:List Nat) (LT:Array Bool):Array Bool:=hs.foldl (fun LT i=>LT.setIfInBounds i true) LT
theorem stage_reads {waits:Nat→Bool} {Q':Act→World→Prop} {w:World}:∀ (hs:List Nat) (f:Nat) (LT:Array Bool) (b:Act),hoistOk ops H hs LT=true →
  wpQuietIn F n P ops.toArray C (fun b'=>wpStage F n P ops H C waits Q' f (listAll hs LT) b' w) (pickOps ops hs) b→wpStage F n P ops H C waits Q' (f+hs.length) LT b w
 | [],f,LT,b,_,h=>h
 | i::l,f,LT,b,hh,h=>by
  simp only [hoistOk,Bool.and_eq_true,Bool.not_eq_true'] at hh
  obtain ⟨⟨⟨h1,h2⟩,h3⟩,h4⟩:=hh
  cases ho:ops[i]? with
  | none=>rw [ho] at h3;cases h3
  | some o =>
   rw [ho] at h3
   rw [pick_cons,ho] at h
   obtain ⟨hask,h⟩:=h
   have hr:i∈Region.ready .any ops.toArray LT:=mem_ready.2 ⟨h2,o,by simpa using ho,fun e he hb=>by
    have:=Array.all_eq_true_iff_forall_mem.1 h3 e he
    rw [hb] at this
    simpa using this⟩
   have hH:i∈H:=by simpa using h1
   by_cases hwt:Region.wanted o (yielded ops.toArray b.tmps)=true
   ·rw [if_pos hwt] at h
    obtain ⟨v,hv,h⟩:=h
    exact .inl ⟨i,o,hH,hr,ho,v,⟨hask,.inl ⟨hwt,hv⟩⟩,stage_reads l f _ _ h4 h⟩
   ·rw [if_neg hwt] at h
    exact .inl ⟨i,o,hH,hr,ho,undef,⟨hask,.inr ⟨by simpa using hwt,rfl⟩⟩,stage_reads l f _ _ h4 h⟩
def StagePost (F:Fence) (n:Nat) (P:Program) (ops:List Oper) (H:List Nat) (C:World→Prop) (waits:Nat→Bool) (Q':Act→World→Prop) (f:Nat) (LT:Array Bool) (i:Nat):Exit→Act→World→Prop :=
 fun e a' w'=>e=.normal∧(waits i=false→C w')∧wpStage F n P ops H C waits Q' f (LT.setIfInBounds i true) a' w'
theorem stage_post {waits:Nat→Bool} {Q':Act→World→Prop} {f:Nat} {LT:Array Bool} {i:Nat} {a:Act} {w:World} (hC:C w) (h:wpStage F n P ops H C waits Q' f (LT.setIfInBounds i true) a w):StagePost F n P ops H C waits Q' f LT i .normal a w:=⟨rfl,fun _=>hC,h⟩
theorem stage_one {waits:Nat→Bool} {Q':Act→World→Prop} {f:Nat} {LT:Array Bool} {a:Act} {w:World} (i:Nat) {o:Oper} (hr:Region.ready .any ops.toArray LT=[i]) (ho:ops[i]?=some o)
  (h:wpListIn F n P ops.toArray (StagePost F n P ops H C waits Q' f LT i) [o] a w):wpStage F n P ops H C waits Q' (f+1) LT a w :=
 .inr ⟨fun e=>(by rw [hr] at e;cases e),fun j hj o' ho'=>by
  rw [hr] at hj
  obtain rfl:j=i:=by simpa using hj
  rw [ho] at ho'
  cases ho'
  exact h⟩
theorem stage_two {waits:Nat→Bool} {Q':Act→World→Prop} {f:Nat} {LT:Array Bool} {a:Act} {w:World} (i j:Nat) {o o2:Oper} (hr:Region.ready .any ops.toArray LT=[i,j]) (ho:ops[i]?=some o) (ho2:ops[j]?=some o2)
  (h:wpListIn F n P ops.toArray (StagePost F n P ops H C waits Q' f LT i) [o] a w) (h2:wpListIn F n P ops.toArray (StagePost F n P ops H C waits Q' f LT j) [o2] a w):wpStage F n P ops H C waits Q' (f+1) LT a w :=
 .inr ⟨fun e=>(by rw [hr] at e;cases e),fun k hk o' ho'=>by
  rw [hr] at hk
  simp only [List.mem_cons,List.not_mem_nil,or_false] at hk
  rcases hk with rfl|rfl
  ·rw [ho] at ho';cases ho';exact h
  ·rw [ho2] at ho';cases ho';exact h2⟩
theorem stage_done {waits:Nat→Bool} {Q':Act→World→Prop} {LT:Array Bool} {a:Act} {w:World} (hr:Region.ready .any ops.toArray LT=[]) (h:Q' a w):wpStage F n P ops H C waits Q' 0 LT a w:=⟨hr,h⟩
def stageAll (ops:List Oper) (H ws:List Nat):Bool :=
 stageOk ops H&&ws.all fun j=>match ops[j]? with|none=>true|some o=>H.all fun i=>waitsOn o i
theorem wpIn_stage {id:Nat} {Q:Exit→Act→World→Prop} {a:Act} {w:World} (C:World→Prop) (H ws:List Nat) (hm:P.follows .mixedOrders=true) (hB:stageAll ops H ws=true) (hC:C w.drew)
  (h:wpStage F n P ops H C (fun i=>ws.contains i) (fun a w=>Q .normal a w) ops.length (Array.replicate ops.length false) a w.drew):(Code.region id ops.toArray true).wpIn F n P Q a w:=by
 simp only [stageAll,Bool.and_eq_true] at hB
 obtain ⟨hok,hws⟩:=hB
 refine wpIn_region_any hm ?_
 have hun:unlisted ops.length (Array.replicate ops.length false)=ops.length:=by
  unfold unlisted
  rw [List.filter_eq_self.2 (fun i hi=>?_),List.length_range]
  have:=List.mem_range.1 hi
  simp only [Array.getD_eq_getD_getElem?]
  rw [Array.getElem?_replicate,if_pos (by omega)];rfl
 have hno:∀ i:Nat,(Array.replicate ops.length false)[i]?≠some true:=fun i=>by
  rw [Array.getElem?_replicate];split<;>simp
 have hrun:=stage_run (F:=F) (n:=n) (P:=P) (C:=C) hok (fun i=>ws.contains i) (fun j o ho hj i hi _=>by
   have:=List.all_eq_true.1 hws j (by simpa using hj)
   rw [ho] at this
   exact List.all_eq_true.1 this i hi) Q ops.length ops.length (Array.replicate ops.length false) (Array.replicate ops.length false) a a w.drew hun hun
  ⟨by simp,by simp,fun _ _ _=>rfl,fun _ h=>h,fun i o _ h=>absurd h (hno i),.inr ⟨hC,fun i o hO=>absurd hO.2.1 (hno i)⟩,⟨rfl,rfl,fun _ _=>rfl⟩⟩ h
 simpa using hrun
end
end Go.Proofs.YtigapglmipmbeaaGreatDoor.S2
namespace Go.Proofs.YtigapglmipmbeaaGreatDoor
open Go.RowKit Go.Shelf
open Lim
attribute [local go_sem] Oper.semAt_some
namespace S2
end S2
end Go.Proofs.YtigapglmipmbeaaGreatDoor
namespace Go.Proofs.YtigapglmipmbeaaGreatDoor
open Go.RowKit Go.Shelf
open Lim
end Go.Proofs.YtigapglmipmbeaaGreatDoor
namespace Go.Proofs.YtigapglmipmbeaaGreatDoor
open Go.RowKit Go.Shelf
open Lim
attribute [local go_sem] Oper.semAt_some
theorem plX_zero {s:ByteArray} (h:errQ s.data.toList=0):plX s zT=.ok s:=by
 rw [plX_val h err_zT,val_zT,Rat.add_zero,ovT_fit (IsT.of h).fits,← ok_rT h]
theorem maxX_pos {s:ByteArray} (h:errQ s.data.toList=0) (h0:0 < valQ s.data.toList):maxX zT s=.ok s:=by
 rw [maxX_val err_zT h,val_zT,if_pos]
 unfold cmpQ;rw [if_pos h0];decide
theorem maxX_neg {s:ByteArray} (h:errQ s.data.toList=0) (h0:¬ 0 < valQ s.data.toList):maxX zT s=.ok zT:=by
 rw [maxX_val err_zT h,val_zT,if_neg]
 unfold cmpQ;rw [if_neg h0];split<;>decide
theorem rddelta_any (p q:List L2) (vp vq:Value) (f:ByteArray) (w:World) (hp:LRow w vp p) (hq:LRow w vq q) (sp:Short p) (sq:Short q) (hf:f.size≤270000) (hr:Res w) :
  Calls Tryz.prog 102 #[vp,vq,.string f] w fun e w'=>e=.returned (resX (deltaX p q f))∧Below w.heap.size w w':=by
 have N0:=Lib.hid (NW.refl hr)
 have HC:=Lib.hid (rdboth_any p q vp vq w hp hq sp sq hr)
 have HVP:=Lib.hid hp
 have HVQ:=Lib.hid hq
 have HSH:=Lib.hid (And.intro sp sq)
 have HFS:=Lib.hid hf
 obtain ⟨A,c,rfl,hlen,hcells⟩:=hp
 obtain ⟨A',c',rfl,hlen',hcells'⟩:=hq
 clear hcells hcells' sp sq hr
 by_cases h0:chk2 p q=0
 ·have HR0:=Lib.hid (show deltaX p q f=if posE f≠0 then .error (posE f) else foldX (partX f q) zT p by unfold deltaX;rw [if_neg (by simpa using h0)])
  rw [h0] at HC
  change Hid (Calls _ _ _ _ fun e w'=>e=.returned (.int .i64 0)∧_) at HC
  clear h0
  by_cases h1:errQ f.data.toList=0
  ·have HSG:=Lib.hid (retRSign_ok hf h1)
   by_cases h2:valQ f.data.toList < 0
   ·have d1:decide (sgQ (valQ f.data.toList) < 0)=true:=decide_eq_true ((sg_lt _).2 h2)
    have HR:=Lib.hid (show deltaX p q f=.error 2 by
     have:posE f=2:=by unfold posE;rw [if_neg (by simpa using h1),if_pos h2]
     rw [HR0.out,this];rfl)
    clear h1 h2 hf
    generalize sgQ (valQ f.data.toList)=sg at *
    go_enter Tryz.func102,Tryz.ntmps102
    go_wp2_with (first
     | (go_at_call 114;refine (HC.out).mono ?_;rintro e w1 ⟨rfl,hb⟩;have N1:=Lib.hid (N0.out.later hb);clear hb)
     | (go_at_call 110;refine (HSG.out _ N1.out.res).mono ?_;rintro e w2 ⟨rfl,hb⟩;have N2:=Lib.hid (N1.out.later hb);clear hb))
    go_ret2
    rw [HR.out]
    exact ⟨rfl,N2.out.below⟩
   ·have d1:decide (sgQ (valQ f.data.toList) < 0)=false:=decide_eq_false (fun h=>h2 ((sg_lt _).1 h))
    have HR:=Lib.hid (show deltaX p q f=foldX (partX f q) zT p by
     have:posE f=0:=by unfold posE;rw [if_neg (by simpa using h1),if_neg h2]
     rw [HR0.out,this];rfl)
    clear h1 h2 hf
    generalize sgQ (valQ f.data.toList)=sg at *
    go_enter Tryz.func102,Tryz.ntmps102
    go_wp2_with (first
     | (go_at_call 114;refine HC.out.mono ?_;rintro e w1 ⟨rfl,hb⟩;have N1:=Lib.hid (N0.out.later hb);clear hb)
     | (go_at_call 110;refine (HSG.out _ N1.out.res).mono ?_;rintro e w2 ⟨rfl,hb⟩;have N2:=Lib.hid (N1.out.later hb);clear hb))
    go_loopw [11,12] (fun v11 v12 wr=>∃ (k:Nat) (s:ByteArray),k≤p.length∧v12=.int .i64 (k:Int)∧v11=.string s∧Hid (errQ s.data.toList=0∧foldX (partX f q) zT p=foldX (partX f q) s (p.drop k))∧Hid (NW w wr)) (fun _ v12 _=>p.length - (intOf v12).toNat)
    case atStart=>exact ⟨0,zT,Nat.zero_le _,rfl,rfl,Lib.hid ⟨err_zT,by simp⟩,N2⟩
    case round =>
     clear N0 N1 N2 HC HSG HR0
     obtain ⟨k,s,hk,rfl,rfl,HE,HN⟩:=hrel
     by_cases hlt:k < p.length
     ·obtain ⟨x,hx⟩:∃ x,p[k]?=some x:=⟨_,List.getElem?_eq_getElem hlt⟩
      obtain ⟨b,o,c2,e',hb2,c0,c1⟩:=HVP.out.at HN.out.below hx
      simp only [Value.slice.injEq,true_and] at e'
      obtain ⟨rfl,rfl⟩:=e'
      have hlt':(k:Int) < (p.length:Int):=by omega
      have HM:=Lib.hid (fun W (hW:NW w W)=>HVP.out.cell2 hW.below hx)
      have HAT:=Lib.hid (rdAt_any q _ x.1 wr (HVQ.out.below HN.out.below))
      have HML:=Lib.hid (retRMulX HFS.out (HSH.out.2.atT (k:=x.1)))
      have HXS:=Lib.hid (HSH.out.1 x (List.mem_of_getElem? hx)).2
      have HD:=Lib.hid (drop_of hx)
      have HLT:=Lib.hid (And.intro hlt hlt')
      have HP0:=Lib.hid (show foldX (partX f q) zT p=foldX (partX f q) s (x::p.drop (k+1)) by rw [HE.out.2,drop_of hx])
      obtain ⟨y,d⟩:=x
      dsimp only at c0 c1 HM HAT HML HXS HD HP0
      clear hx hlt
      cases hm:mulX f (atT q y) with
      | error n =>
       have HR2:=Lib.hid (show foldX (partX f q) zT p=.error n by rw [HP0.out];exact foldX_err (x:=(y,d)) (by unfold partX;dsimp only;rw [hm]))
       have hz:=ne_zero (exQ_err hm)
       rw [hm] at HML
       change Hid (Ret _ _ (.tuple #[.string ⟨#[]⟩,.int .i64 (n:Int)])) at HML
       clear hm
       go_wp2_with (first
        | (go_at_call 39;refine HAT.out.mono ?_;rintro e w3 ⟨rfl,rfl⟩)
        | (go_at_call 149;refine (HML.out _ HN.out.res).mono ?_;rintro e w4 ⟨rfl,hb⟩;have N4:=Lib.hid (HN.out.later hb);clear hb;obtain ⟨hb4,q0,q1⟩:=HM.out _ N4.out))
       go_ret2
       rw [HR.out,HR2.out]
       exact ⟨rfl,N4.out.below⟩
      | ok m =>
       rw [hm] at HML
       change Hid (Ret _ _ (.tuple #[.string m,.int .i64 0])) at HML
       have HSB:=Lib.hid (retRSubX HXS.out (size_ok (mulX_ok hm)))
       cases hs:subX d m with
       | error n =>
        have HR2:=Lib.hid (show foldX (partX f q) zT p=.error n by rw [HP0.out];exact foldX_err (x:=(y,d)) (by unfold partX;dsimp only;rw [hm];dsimp only;rw [hs]))
        have hz:=ne_zero (exQ_err hs)
        rw [hs] at HSB
        change Hid (Ret _ _ (.tuple #[.string ⟨#[]⟩,.int .i64 (n:Int)])) at HSB
        clear hm hs
        go_wp2_with (first
        | (go_at_call 39;refine HAT.out.mono ?_;rintro e w3 ⟨rfl,rfl⟩)
        | (go_at_call 149;refine (HML.out _ HN.out.res).mono ?_;rintro e w4 ⟨rfl,hb⟩;have N4:=Lib.hid (HN.out.later hb);clear hb;obtain ⟨hb4,q0,q1⟩:=HM.out _ N4.out)
        | (go_at_call 61;refine (HSB.out _ N4.out.res).mono ?_;rintro e w5 ⟨rfl,hb⟩;have N5:=Lib.hid (N4.out.later hb);clear hb))
        go_ret2
        rw [HR.out,HR2.out]
        exact ⟨rfl,N5.out.below⟩
       | ok t =>
        rw [hs] at HSB
        change Hid (Ret _ _ (.tuple #[.string t,.int .i64 0])) at HSB
        have HSG:=Lib.hid (retRSign_ok (size_ok (subX_ok hs)) (subX_ok hs))
        by_cases h0:0 < valQ t.data.toList
        ·have d1:decide (0 < sgQ (valQ t.data.toList))=true:=decide_eq_true ((sg_gt _).2 h0)
         have HPE:=Lib.hid (show partX f q (y,d)=.ok t by unfold partX;dsimp only;rw [hm];dsimp only;rw [hs];exact maxX_pos (subX_ok hs) h0)
         have HAD:=Lib.hid (retRPlX (size_ok HE.out.1) (size_ok (subX_ok hs)))
         clear hm hs h0
         generalize sgQ (valQ t.data.toList)=sg at *
         cases ha:plX s t with
         | error n =>
          rw [ha] at HAD
          have HR2:=Lib.hid (show foldX (partX f q) zT p=.error n by rw [HP0.out];exact foldX_err2 HPE.out ha)
          have hz:=ne_zero (exQ_err ha)
          change Hid (Ret _ _ (.tuple #[.string ⟨#[]⟩,.int .i64 (n:Int)])) at HAD
          clear ha
          go_wp2_with (first
        | (go_at_call 39;refine HAT.out.mono ?_;rintro e w3 ⟨rfl,rfl⟩)
        | (go_at_call 149;refine (HML.out _ HN.out.res).mono ?_;rintro e w4 ⟨rfl,hb⟩;have N4:=Lib.hid (HN.out.later hb);clear hb;obtain ⟨hb4,q0,q1⟩:=HM.out _ N4.out)
        | (go_at_call 61;refine (HSB.out _ N4.out.res).mono ?_;rintro e w5 ⟨rfl,hb⟩;have N5:=Lib.hid (N4.out.later hb);clear hb)
        | (go_at_call 110;refine (HSG.out _ N5.out.res).mono ?_;rintro e w6 ⟨rfl,hb⟩;have N6:=Lib.hid (N5.out.later hb);clear hb)
        | (go_at_call 59;refine (HAD.out _ N6.out.res).mono ?_;rintro e w7 ⟨rfl,hb⟩;have N7:=Lib.hid (N6.out.later hb);clear hb))
          go_ret2
          rw [HR.out,HR2.out]
          exact ⟨rfl,N7.out.below⟩
         | ok u =>
          rw [ha] at HAD
          have HR2:=Lib.hid (show foldX (partX f q) zT p=foldX (partX f q) u (p.drop (k+1)) by rw [HP0.out];exact foldX_ok HPE.out ha)
          change Hid (Ret _ _ (.tuple #[.string u,.int .i64 0])) at HAD
          have HER:=Lib.hid (plX_ok ha)
          clear ha
          go_wp2_with (first
        | (go_at_call 39;refine HAT.out.mono ?_;rintro e w3 ⟨rfl,rfl⟩)
        | (go_at_call 149;refine (HML.out _ HN.out.res).mono ?_;rintro e w4 ⟨rfl,hb⟩;have N4:=Lib.hid (HN.out.later hb);clear hb;obtain ⟨hb4,q0,q1⟩:=HM.out _ N4.out)
        | (go_at_call 61;refine (HSB.out _ N4.out.res).mono ?_;rintro e w5 ⟨rfl,hb⟩;have N5:=Lib.hid (N4.out.later hb);clear hb)
        | (go_at_call 110;refine (HSG.out _ N5.out.res).mono ?_;rintro e w6 ⟨rfl,hb⟩;have N6:=Lib.hid (N5.out.later hb);clear hb)
        | (go_at_call 59;refine (HAD.out _ N6.out.res).mono ?_;rintro e w7 ⟨rfl,hb⟩;have N7:=Lib.hid (N6.out.later hb);clear hb))
          go_roundw
          case rel=>exact ⟨k+1,u,HLT.out.1,by go_num,rfl,Lib.hid ⟨HER.out,HR2.out⟩,N7⟩
          case measure=>have:=HLT.out.1;simp [intOf];omega
        ·have d1:decide (0 < sgQ (valQ t.data.toList))=false:=decide_eq_false (fun h=>h0 ((sg_gt _).1 h))
         have HR2:=Lib.hid (show foldX (partX f q) zT p=foldX (partX f q) s (p.drop (k+1)) by
          rw [HP0.out]
          exact foldX_ok (x:=(y,d)) (p:=zT) (by unfold partX;dsimp only;rw [hm];dsimp only;rw [hs];exact maxX_neg (subX_ok hs) h0) (plX_zero HE.out.1))
         clear hm hs h0
         generalize sgQ (valQ t.data.toList)=sg at *
         go_wp2_with (first
        | (go_at_call 39;refine HAT.out.mono ?_;rintro e w3 ⟨rfl,rfl⟩)
        | (go_at_call 149;refine (HML.out _ HN.out.res).mono ?_;rintro e w4 ⟨rfl,hb⟩;have N4:=Lib.hid (HN.out.later hb);clear hb;obtain ⟨hb4,q0,q1⟩:=HM.out _ N4.out)
        | (go_at_call 61;refine (HSB.out _ N4.out.res).mono ?_;rintro e w5 ⟨rfl,hb⟩;have N5:=Lib.hid (N4.out.later hb);clear hb)
        | (go_at_call 110;refine (HSG.out _ N5.out.res).mono ?_;rintro e w6 ⟨rfl,hb⟩;have N6:=Lib.hid (N5.out.later hb);clear hb))
         go_roundw
         case rel=>exact ⟨k+1,s,HLT.out.1,by go_num,rfl,Lib.hid ⟨HE.out.1,HR2.out⟩,N6⟩
         case measure=>have:=HLT.out.1;simp [intOf];omega
     ·have hlt':¬ (k:Int) < (p.length:Int):=by omega
      obtain rfl:k=p.length:=by omega
      have HR2:=Lib.hid (show foldX (partX f q) zT p=.ok s by
       have:=HE.out.2
       rwa [List.drop_length] at this)
      clear hlt
      go_wp2
      go_ret2
      rw [HR.out,HR2.out]
      exact ⟨rfl,HN.out.below⟩
  ·have HSG:=Lib.hid (retRSign_err hf h1)
   have hm:=ne_zero h1
   have HR:=Lib.hid (show deltaX p q f=.error (errQ f.data.toList) by
    rw [HR0.out,posE_err h1,if_pos h1])
   clear h1 hf
   go_enter Tryz.func102,Tryz.ntmps102
   go_wp2_with (first
    | (go_at_call 114;refine (HC.out).mono ?_;rintro e w1 ⟨rfl,hb⟩;have N1:=Lib.hid (N0.out.later hb);clear hb)
    | (go_at_call 110;refine (HSG.out _ N1.out.res).mono ?_;rintro e w2 ⟨rfl,hb⟩;have N2:=Lib.hid (N1.out.later hb);clear hb))
   go_ret2
   rw [HR.out]
   exact ⟨rfl,N2.out.below⟩
 ·have HR:=Lib.hid (show deltaX p q f=.error (chk2 p q) by unfold deltaX;rw [if_pos h0])
  have hm:=ne_zero h0
  clear h0 hf
  go_enter Tryz.func102,Tryz.ntmps102
  go_wp2_with (go_at_call 114;refine (HC.out).mono ?_;rintro e w1 ⟨rfl,hb⟩;have N1:=Lib.hid (N0.out.later hb);clear hb)
  go_ret2
  rw [HR.out]
  exact ⟨rfl,N1.out.below⟩
end Go.Proofs.YtigapglmipmbeaaGreatDoor
namespace Go.Proofs.YtigapglmipmbeaaGreatDoor
open Go.RowKit Go.Shelf
open Lim
attribute [local go_sem] Oper.semAt_some wide_fn
theorem infoL:(Tryz.prog.info? 63).map (fun i=>(i.zero,i.size,i.bytes))=some (some (.agg #[.string ByteArray.empty,.string ByteArray.empty]),2,32):=by kernel_rfl
theorem own_atL {W:World} {base b:Nat} (hb:base≤b) (h:W.heap[b]?=some (.cells #[] 63 (0,0))):W.ownsRow base 63 2 (.slice (some ⟨b,0,none⟩) 0 0) 0 [] :=
 ⟨rfl,.inr ⟨b,0,#[],rfl,hb,h,Nat.le_refl _,Nat.zero_le _,rfl,rfl⟩⟩
theorem ownL_row {T:TypeId} {base:Nat} {w:World} {v:Value} {ls:List L2} (h:w.ownsRow base T 2 v ls.length (cellsM ls)) (hl:ls.length≤1000):LRow w v ls:=by
 rcases h.2 with ⟨e,h0⟩|⟨g,cap,cur,e,hb,hh,h1,h2,_⟩
 ·subst e
  have:ls=[]:=List.eq_nil_of_length_eq_zero h0
  subst this
  exact LRow.nil _ _ _
 ·subst e
  refine ⟨_,_,rfl,hl,fun _=>⟨g,0,rfl,(Array.getElem?_eq_some_iff.1 hh).1,fun j x hj=>?_⟩⟩
  obtain ⟨c0,c1⟩:=cellsM_at hj
  have r0:=World.ownsRow.cells h (g:=g) rfl _ _ c0
  have r1:=World.ownsRow.cells h (g:=g) rfl _ _ c1
  rw [addr_add0] at r0 r1
  exact ⟨r0,r1⟩
theorem ownL_any (ls:List L2) (v:Value) (w:World) (hv:LRow w v ls) (hr:Res w) :
  Calls Tryz.prog 78 #[v] w fun e w'=>(∃ u,e=.returned u∧LRow w' u ls)∧Below w.heap.size w w':=by
 have hal:=below_alloc (Below.refl w.heap.size w) (.cells #[] 63)
 have HS:=Lib.hid (srcM_row (hv.below hal))
 have HN:=Lib.hid ((NW.refl hr).alloc (.cells #[] 63))
 have HRS:=Lib.hid hr
 obtain ⟨i0,hi,hz0,hz1,hz2⟩:=info_parts infoL
 have ho0:(w.alloc (.cells #[] 63)).ownsRow w.heap.size 63 2 (.slice (some ⟨w.heap.size,0,none⟩) 0 0) 0 []:=own_atL (Nat.le_refl _) (heap_alloc_new w _)
 have hsz:w.heap.size≤(w.alloc (.cells #[] 63)).heap.size:=hal.size
 obtain ⟨A,c,rfl,hlen,_⟩:=hv
 clear hr hal
 refine (callsIn_wide (n:=6)).1 ?_
 have h1:1≤6:=by omega
 have hmx:Tryz.prog.follows .mixedOrders=true:=by kernel_rfl
 refine callsIn_of_wp Tryz.func78 rfl trivial ?_ rfl
 simp only [Tryz.ntmps78,List.size_toArray,List.length_cons,List.length_nil,Nat.reduceAdd,Nat.reduceSub,Array.replicate_succ,Array.replicate_zero,List.push_toArray,List.append_toArray,List.nil_append,List.cons_append]
 gi_wp2_with (gi_at_builtin;go_loud (refine wpListIn_append_src _ rfl _ _ 88 rfl w.heap.size 63 i0 (.agg #[.string ByteArray.empty,.string ByteArray.empty]) 2 32 Tryz.underlying88 hi hz0 hz1 hz2 rfl (by decide) (.slice (some ⟨w.heap.size,0,none⟩) 0 0) 0 [] rfl ho0 _ ls.length (cellsM ls) rfl HS.out (one_cellsM _) (by unfold maxLen;omega) (by omega) hsz ?_;intro v1 w3 hown3 hgrow3;rw [Nat.zero_add,List.nil_append] at hown3;obtain ⟨A5,c5,rfl⟩:=slice_shape hown3;have H3:=Lib.hid (And.intro hown3 hgrow3);clear hown3 hgrow3))
 go_ret
 exact ⟨⟨_,rfl,ownL_row H3.out.1 hlen⟩,(grow_nw HN.out HRS.out H3.out.2 (fun r e=>by cases e;exact Nat.le_refl _)).below⟩
def lightS (ls:List L2):Bool:=ls.all fun x=>decide (x.1.size≤100)&&decide (x.2.size≤100)
theorem lightS_iff {ls:List L2}:lightS ls=true↔∀ x∈ls,x.1.size≤100∧x.2.size≤100:=by
 unfold lightS
 rw [List.all_eq_true]
 simp only [Bool.and_eq_true,decide_eq_true_eq]
theorem lightS_no {ls:List L2} {j:Nat} {x:L2} (hx:ls[j]?=some x) (h:¬ (x.1.size≤100∧x.2.size≤100)):lightS ls=false:=by
 cases e:lightS ls with
 | false=>rfl
 | true=>exact absurd (lightS_iff.1 e x (List.mem_of_getElem? hx)) h
theorem lightS_of {ls:List L2} (h:∀ (j:Nat) x,ls[j]?=some x→x.1.size≤100∧x.2.size≤100):lightS ls=true:=lightS_iff.2 fun x hx=>by
 obtain ⟨j,hj⟩:=List.getElem?_of_mem hx
 exact h j x hj
theorem lightL9_any (ls:List L2) (v:Value) (w:World) (hv:LRow w v ls) :
  Calls Tryz.prog 75 #[v] w fun e w'=>e=.returned (.bool (lightS ls))∧w'=w:=by
 have HV:=Lib.hid hv
 obtain ⟨A0,c0,rfl,hlen,_⟩:=hv
 go_enter Tryz.func75,Tryz.ntmps75
 go_wp2
 go_loopw [3] (fun v3 wr=>∃ k:Nat,k≤ls.length∧v3=.int .i64 (k:Int)∧Hid (∀ (j:Nat) x,j < k→ls[j]?=some x→x.1.size≤100∧x.2.size≤100)∧wr=w) (fun v3 _=>ls.length - (intOf v3).toNat)
 case atStart=>exact ⟨0,Nat.zero_le _,rfl,Lib.hid (fun j x h=>absurd h (by omega)),rfl⟩
 case round =>
  obtain ⟨k,hk,rfl,HE,rfl⟩:=hrel
  by_cases hlt:k < ls.length
  ·obtain ⟨x,hx⟩:∃ x,ls[k]?=some x:=⟨_,List.getElem?_eq_getElem hlt⟩
   obtain ⟨b1,o1,c1',e1,hb1,q0,q1⟩:=HV.out.at (Below.refl _ _) hx
   simp only [Value.slice.injEq,true_and] at e1
   obtain ⟨rfl,rfl⟩:=e1
   have hlt':(k:Int) < (ls.length:Int):=by omega
   have HX:=Lib.hid (And.intro hx hlt)
   obtain ⟨f,d⟩:=x
   dsimp only at q0 q1
   clear hx hlt
   by_cases g1:f.size≤100
   ·have t1:decide (100 < (f.size:Int))=false:=decide_eq_false (by omega)
    have t1n:decide (100 < f.size)=false:=decide_eq_false (by omega)
    by_cases g2:d.size≤100
    ·have t2:decide (100 < (d.size:Int))=false:=decide_eq_false (by omega)
     have t2n:decide (100 < d.size)=false:=decide_eq_false (by omega)
     have HS:=Lib.hid (And.intro g1 g2)
     clear g1 g2
     go_wp2
     go_roundw
     case rel=>exact ⟨k+1,HX.out.2,by go_num,Lib.hid (fun j y hj hxj=>by
      rcases Nat.lt_or_ge j k with h|h
      ·exact HE.out j y h hxj
      ·obtain rfl:j=k:=by omega
       rw [HX.out.1] at hxj
       cases hxj
       exact HS.out),trivial⟩
     case measure=>have:=HX.out.2;simp [intOf];omega
    ·have t2:decide (100 < (d.size:Int))=true:=decide_eq_true (by omega)
     have t2n:decide (100 < d.size)=true:=decide_eq_true (by omega)
     have HR:=Lib.hid (lightS_no HX.out.1 (fun h=>g2 h.2))
     clear g1 g2
     go_wp2
     go_ret
     rw [HR.out]
     exact ⟨rfl,rfl⟩
   ·have t1:decide (100 < (f.size:Int))=true:=decide_eq_true (by omega)
    have t1n:decide (100 < f.size)=true:=decide_eq_true (by omega)
    have HR:=Lib.hid (lightS_no HX.out.1 (fun h=>g1 h.1))
    clear g1
    go_wp2
    go_ret
    rw [HR.out]
    exact ⟨rfl,rfl⟩
  ·have hlt':¬ (k:Int) < (ls.length:Int):=by omega
   have HR:=Lib.hid (lightS_of fun j x hx=>HE.out j x (by have:=(List.getElem?_eq_some_iff.1 hx).1;omega) hx)
   clear hlt
   go_wp2
   go_ret
   rw [HR.out]
   exact ⟨rfl,rfl⟩
theorem refLossHolds_any (f d:ByteArray) (p q:List L2) (vp vq:Value) (w:World) (hp:LRow w vp p) (hq:LRow w vq q) (sp:Short p) (sq:Short q) (h1:f.size≤270000) (h2:d.size≤270000) (hr:Res w) :
  Calls Tryz.prog 55 #[.agg #[.string f,.string d],vp,vq] w fun e w'=>e=.returned (resB (holdsR f d p q))∧Below w.heap.size w w':=by
 have N0:=Lib.hid ((NW.refl hr).alloc (.cells #[.string f,.string d] 63))
 have K0:=Lib.hid (Blk.new w 63 #[.string f,.string d])
 have HC:=Lib.hid (refLoss_any f d _ h1 h2 N0.out.res)
 have HP:=Lib.hid (fun W (hW:NW w W)=>rddelta_any p q _ _ f W (hp.below hW.below) (hq.below hW.below) sp sq h1 hW.res)
 have HQ:=Lib.hid (fun W (hW:NW w W)=>rddelta_any q p _ _ f W (hq.below hW.below) (hp.below hW.below) sq sp h1 hW.res)
 obtain ⟨A,ca,rfl,_,_⟩:=id hp
 obtain ⟨B,cb,rfl,_,_⟩:=id hq
 have TK0:True:=trivial
 have TK1:True:=trivial
 have TK2:True:=trivial
 have TK3:True:=trivial
 have TK4:True:=trivial
 clear hp hq sp sq hr
 unfold holdsR
 by_cases hL:errL f d=0
 ·rw [hL] at HC
  rw [if_neg (by omega)]
  cases hx:deltaX p q f with
  | error n =>
   rw [hx] at HP
   change Hid (∀ W (_:NW w W),Calls _ _ _ _ fun e w'=>e=.returned (.tuple #[.string ⟨#[]⟩,.int .i64 (n:Int)])∧_) at HP
   have hz:=ne_zero (deltaX_ne hx)
   have hz2:=ne_zero2 (deltaX_ne hx)
   clear hL hx h1 h2
   go_enter Tryz.func55,Tryz.ntmps55
   go_wp2_with ((clear TK0;go_at_call 145;refine (HC.out).mono ?_;rintro e w1 ⟨rfl,hb⟩;have N1:=Lib.hid (N0.out.later hb);have K1:=Lib.hid (K0.out.below hb K0.out.lt);obtain ⟨p0,p1⟩:=cells2 K1.out;clear hb))
   go_wp2_with ((clear TK1;go_at_call 102;refine (HP.out _ N1.out).mono ?_;clear p0 p1;rintro e w2 ⟨rfl,hb⟩;have N2:=Lib.hid (N1.out.later hb);have K2:=Lib.hid (K1.out.below hb K1.out.lt);obtain ⟨p0,p1⟩:=cells2 K2.out;clear hb))
   go_wp2
   go_ret2
   exact ⟨rfl,N2.out.below⟩
  | ok x =>
   rw [hx] at HP
   change Hid (∀ W (_:NW w W),Calls _ _ _ _ fun e w'=>e=.returned (.tuple #[.string x,.int .i64 0])∧_) at HP
   dsimp only
   cases hy:deltaX q p f with
   | error n =>
    rw [hy] at HQ
    change Hid (∀ W (_:NW w W),Calls _ _ _ _ fun e w'=>e=.returned (.tuple #[.string ⟨#[]⟩,.int .i64 (n:Int)])∧_) at HQ
    have hz:=ne_zero (deltaX_ne hy)
    have hz2:=ne_zero2 (deltaX_ne hy)
    clear hL hx hy h1 h2
    go_enter Tryz.func55,Tryz.ntmps55
    go_wp2_with ((clear TK0;go_at_call 145;refine (HC.out).mono ?_;rintro e w1 ⟨rfl,hb⟩;have N1:=Lib.hid (N0.out.later hb);have K1:=Lib.hid (K0.out.below hb K0.out.lt);obtain ⟨p0,p1⟩:=cells2 K1.out;clear hb))
    go_wp2_with ((clear TK1;go_at_call 102;refine (HP.out _ N1.out).mono ?_;clear p0 p1;rintro e w2 ⟨rfl,hb⟩;have N2:=Lib.hid (N1.out.later hb);have K2:=Lib.hid (K1.out.below hb K1.out.lt);obtain ⟨p0,p1⟩:=cells2 K2.out;clear hb))
    go_wp2_with ((clear TK2;go_at_call 102;refine (HQ.out _ N2.out).mono ?_;clear p0 p1;rintro e w3 ⟨rfl,hb⟩;have N3:=Lib.hid (N2.out.later hb);have K3:=Lib.hid (K2.out.below hb K2.out.lt);obtain ⟨p0,p1⟩:=cells2 K3.out;clear hb))
    go_wp2
    go_ret2
    exact ⟨rfl,N3.out.below⟩
   | ok y =>
    rw [hy] at HQ
    change Hid (∀ W (_:NW w W),Calls _ _ _ _ fun e w'=>e=.returned (.tuple #[.string y,.int .i64 0])∧_) at HQ
    have HX:=Lib.hid (fun W=>rat_any W (IsT.of (deltaX_okE hx)) (errL_zero hL).d)
    have HY:=Lib.hid (fun W=>rat_any W (IsT.of (deltaX_okE hy)) (errL_zero hL).d)
    dsimp only at HX HY ⊢
    generalize decide (cmpQ (valQ x.data.toList) (valQ d.data.toList)≤0)=bx at *
    generalize decide (cmpQ (valQ y.data.toList) (valQ d.data.toList)≤0)=by_ at *
    clear hL hx hy h1 h2
    cases bx
    ·skip
     go_enter Tryz.func55,Tryz.ntmps55
     go_wp2_with ((clear TK0;go_at_call 145;refine (HC.out).mono ?_;rintro e w1 ⟨rfl,hb⟩;have N1:=Lib.hid (N0.out.later hb);have K1:=Lib.hid (K0.out.below hb K0.out.lt);obtain ⟨p0,p1⟩:=cells2 K1.out;clear hb))
     go_wp2_with ((clear TK1;go_at_call 102;refine (HP.out _ N1.out).mono ?_;clear p0 p1;rintro e w2 ⟨rfl,hb⟩;have N2:=Lib.hid (N1.out.later hb);have K2:=Lib.hid (K1.out.below hb K1.out.lt);obtain ⟨p0,p1⟩:=cells2 K2.out;clear hb))
     go_wp2_with ((clear TK2;go_at_call 102;refine (HQ.out _ N2.out).mono ?_;clear p0 p1;rintro e w3 ⟨rfl,hb⟩;have N3:=Lib.hid (N2.out.later hb);have K3:=Lib.hid (K2.out.below hb K2.out.lt);obtain ⟨p0,p1⟩:=cells2 K3.out;clear hb))
     go_wp2_with ((clear TK3;go_at_call 146;refine (HX.out _).mono ?_;clear p0 p1;rintro e w4 ⟨rfl,hb⟩;have N4:=Lib.hid (N3.out.later hb);have K4:=Lib.hid (K3.out.below hb K3.out.lt);obtain ⟨p0,p1⟩:=cells2 K4.out;clear hb))
     go_wp2
     go_ret2
     exact ⟨rfl,N4.out.below⟩
    ·skip
     go_enter Tryz.func55,Tryz.ntmps55
     go_wp2_with ((clear TK0;go_at_call 145;refine (HC.out).mono ?_;rintro e w1 ⟨rfl,hb⟩;have N1:=Lib.hid (N0.out.later hb);have K1:=Lib.hid (K0.out.below hb K0.out.lt);obtain ⟨p0,p1⟩:=cells2 K1.out;clear hb))
     go_wp2_with ((clear TK1;go_at_call 102;refine (HP.out _ N1.out).mono ?_;clear p0 p1;rintro e w2 ⟨rfl,hb⟩;have N2:=Lib.hid (N1.out.later hb);have K2:=Lib.hid (K1.out.below hb K1.out.lt);obtain ⟨p0,p1⟩:=cells2 K2.out;clear hb))
     go_wp2_with ((clear TK2;go_at_call 102;refine (HQ.out _ N2.out).mono ?_;clear p0 p1;rintro e w3 ⟨rfl,hb⟩;have N3:=Lib.hid (N2.out.later hb);have K3:=Lib.hid (K2.out.below hb K2.out.lt);obtain ⟨p0,p1⟩:=cells2 K3.out;clear hb))
     go_wp2_with ((clear TK3;go_at_call 146;refine (HX.out _).mono ?_;clear p0 p1;rintro e w4 ⟨rfl,hb⟩;have N4:=Lib.hid (N3.out.later hb);have K4:=Lib.hid (K3.out.below hb K3.out.lt);obtain ⟨p0,p1⟩:=cells2 K4.out;clear hb))
     go_wp2_with ((clear TK4;go_at_call 146;refine (HY.out _).mono ?_;clear p0 p1;rintro e w5 ⟨rfl,hb⟩;have N5:=Lib.hid (N4.out.later hb);clear hb))
     go_wp2
     go_ret2
     exact ⟨rfl,N5.out.below⟩
 ·rw [if_pos hL]
  have hz:=ne_zero hL
  have hz2:=ne_zero2 hL
  generalize errL f d=n at *
  clear hL h1 h2
  go_enter Tryz.func55,Tryz.ntmps55
  go_wp2_with ((clear TK0;go_at_call 145;refine (HC.out).mono ?_;rintro e w1 ⟨rfl,hb⟩;have N1:=Lib.hid (N0.out.later hb);have K1:=Lib.hid (K0.out.below hb K0.out.lt);obtain ⟨p0,p1⟩:=cells2 K1.out;clear hb))
  go_wp2
  go_ret2
  exact ⟨rfl,N1.out.below⟩
theorem rnone_any (w:World):Calls Tryz.prog 170 #[] w fun e w'=>e=.returned (.agg #[.string ⟨#[49]⟩,.string ⟨#[48]⟩])∧Below w.heap.size w w':=by
 have K:=Lib.hid (Blk.new w 63 #[.string ⟨#[49]⟩,.string ⟨#[48]⟩])
 go_enter Tryz.func170,Tryz.ntmps170
 go_wp2
 refine bodyPost_ret (run_cell rfl rfl (load_loss K.out)) rfl ⟨rfl,below_alloc (Below.refl _ _) _⟩
theorem firstL_take {ls:List L2} {k:Nat} {x:L2} (h:∀ (j:Nat) y,j < k→ls[j]?=some y→errL y.1 y.2=0) (hx:ls[k]?=some x) (hn:errL x.1 x.2≠0):firstL ls=errL x.1 x.2:=by
 induction ls generalizing k with
 | nil=>simp at hx
 | cons a l ih =>
  cases k with
  | zero =>
   simp only [List.getElem?_cons_zero,Option.some.injEq] at hx
   subst hx
   unfold firstL
   rw [if_pos hn]
  | succ k =>
   unfold firstL
   rw [if_neg (by have:=h 0 a (by omega) rfl;omega)]
   exact ih (k:=k) (fun j y hj hy=>h (j+1) y (by omega) (by simpa using hy)) (by simpa using hx)
theorem firstL_none {ls:List L2} (h:∀ (j:Nat) y,ls[j]?=some y→errL y.1 y.2=0):firstL ls=0:=firstL_zero.2 fun x hx=>by
 obtain ⟨j,hj⟩:=List.getElem?_of_mem hx
 exact h j x hj
theorem LRow.blk_lt {w:World} {b o n c:Nat} {ls:List L2} (h:LRow w (.slice (some ⟨b,o,none⟩) n c) ls) (h0:0 < ls.length):b < w.heap.size:=by
 obtain ⟨A,c',e,_,hc⟩:=h
 simp only [Value.slice.injEq] at e
 obtain ⟨b',o',e2,hlt,_⟩:=hc h0
 rw [← e.1] at e2
 simp only [Option.some.injEq,Addr.mk.injEq] at e2
 obtain ⟨rfl,_,_⟩:=e2
 exact hlt
structure SumAt (w:World) (g:Nat) (acc:LQ) (W:World):Prop where
 r:Blk W w.heap.size 63 #[.string ⟨#[]⟩,.string ⟨#[]⟩]
 a:Blk W g 63 #[.string (rT acc.1),.string (rT acc.2)]
 ne:g≠w.heap.size
 lo:w.heap.size≤g
 nw:NW w W
theorem SumAt.later {w W W':World} {g:Nat} {acc:LQ} (h:SumAt w g acc W) (hb:Below W.heap.size W W'):SumAt w g acc W':=⟨h.r.below hb h.r.lt,h.a.below hb h.a.lt,h.ne,h.lo,h.nw.later hb⟩
theorem SumAt.set {w W:World} {g:Nat} {acc:LQ} (h:SumAt w g acc W) (hr:Res w) (b:LQ):SumAt w g b ((W.setCell ⟨g,0,none⟩ (.string (rT b.1))).setCell ⟨g,1,none⟩ (.string (rT b.2))) :=
 ⟨(h.r.far h.ne.symm _).far h.ne.symm _,(h.a.set_ 0 _).set_ 1 _,h.ne,h.lo,by
  have hb:=(h.nw.below.setCell (p:=⟨g,0,none⟩) h.lo (.string (rT b.1))).setCell (p:=⟨g,1,none⟩) h.lo (.string (rT b.2))
  exact ⟨hb,hr.below hb⟩⟩
theorem refLossSum_any (ls:List L2) (v:Value) (w:World) (hv:LRow w v ls) (hs:Short ls) (hr:Res w) :
  Calls Tryz.prog 79 #[v] w fun e w'=>e=.returned (resL (foldR plusL ls))∧Below w.heap.size w w':=by
 have HV:=Lib.hid hv
 have HSH:=Lib.hid hs
 have HR:=Lib.hid hr
 have N0:=Lib.hid ((NW.refl hr).alloc (.cells #[.string ⟨#[]⟩,.string ⟨#[]⟩] 63))
 have K0:=Lib.hid (Blk.new w 63 #[.string ⟨#[]⟩,.string ⟨#[]⟩])
 have HZ:=build_zero
 obtain ⟨A0,c0,rfl,hlen,_⟩:=hv
 obtain ⟨rv,hrv⟩:∃ r,r=foldR plusL ls:=⟨_,rfl⟩
 rw [← hrv]
 have HRV:=Lib.hid hrv
 have hsz:(w.alloc (.cells #[.string ⟨#[]⟩,.string ⟨#[]⟩] 63)).heap.size=w.heap.size+1:=by simp
 clear hs hr hrv
 refine (callsIn_wide (n:=6)).1 ?_
 have h1:1≤6:=by omega
 have hmx:Tryz.prog.follows .mixedOrders=true:=by kernel_rfl
 refine callsIn_of_wp Tryz.func79 rfl trivial ?_ rfl
 simp only [Tryz.ntmps79,List.size_toArray,List.length_cons,List.length_nil,Nat.reduceAdd,Nat.reduceSub,Array.replicate_succ,Array.replicate_zero,List.push_toArray,List.append_toArray,List.nil_append,List.cons_append]
 gi_wp2
 gi_loopw [4] (fun v4 wr=>∃ k:Nat,k≤ls.length∧v4=.int .i64 (k:Int)∧Hid (∀ (j:Nat) y,j < k→ls[j]?=some y→errL y.1 y.2=0)∧Hid (Blk wr w.heap.size 63 #[.string ⟨#[]⟩,.string ⟨#[]⟩])∧Hid (NW w wr)) (fun v4 _=>ls.length - (intOf v4).toNat)
 case atStart=>exact ⟨0,Nat.zero_le _,rfl,Lib.hid (fun j y h=>absurd h (by omega)),K0,N0⟩
 case round =>
  clear N0 K0
  obtain ⟨k,hk,rfl,HE,HK,HN⟩:=hrel
  by_cases hlt:k < ls.length
  ·obtain ⟨x,hx⟩:∃ x,ls[k]?=some x:=⟨_,List.getElem?_eq_getElem hlt⟩
   obtain ⟨b1,o1,c1',e1,hb1,q0,q1⟩:=HV.out.at HN.out.below hx
   simp only [Value.slice.injEq,true_and] at e1
   obtain ⟨rfl,rfl⟩:=e1
   have hlt':(k:Int) < (ls.length:Int):=by omega
   have HX:=Lib.hid (And.intro hx hlt)
   have hsx:=HSH.out x (List.mem_of_getElem? hx)
   have HC:=Lib.hid (refLoss_any x.1 x.2 wr hsx.1 hsx.2 HN.out.res)
   clear hsx
   by_cases he:errL x.1 x.2=0
   ·rw [he] at HC
    have HX0:=Lib.hid he
    obtain ⟨f,d⟩:=x
    dsimp only at q0 q1 HC
    clear hx hlt he
    gi_wp2_with (gi_at_call 145;refine (callsIn_wide.2 HC.out).mono ?_;rintro e w3 ⟨rfl,hb⟩;have N3:=Lib.hid (HN.out.later hb);have K3:=Lib.hid (HK.out.below hb HK.out.lt);clear hb)
    go_roundw
    case rel=>exact ⟨k+1,HX.out.2,by go_num,Lib.hid (fun j y hj hy=>by
     rcases Nat.lt_or_ge j k with h|h
     ·exact HE.out j y h hy
     ·obtain rfl:j=k:=by omega
      rw [HX.out.1] at hy
      cases hy
      exact HX0.out),K3,N3⟩
    case measure=>have:=HX.out.2;simp [intOf];omega
   ·have hz:=ne_zero he
    have hz2:=ne_zero2 he
    have HF:=Lib.hid (show rv=.error (errL x.1 x.2) by rw [HRV.out];unfold foldR;rw [firstL_take HE.out hx he,if_pos he])
    obtain ⟨f,d⟩:=x
    dsimp only at q0 q1 HC HF hz hz2
    generalize errL f d=n at *
    clear hx hlt he
    gi_wp2_with (gi_at_call 145;refine (callsIn_wide.2 HC.out).mono ?_;rintro e w3 ⟨rfl,hb⟩;have N3:=Lib.hid (HN.out.later hb);have K3:=Lib.hid (HK.out.below hb HK.out.lt);obtain ⟨p0,p1⟩:=cells2 K3.out;have f0:=K3.out.frozen 0;have f1:=K3.out.frozen 1;clear hb)
    refine bodyPost_ret (run_cell_tmp rfl rfl (load_loss ((K3.out.set_ 0 (.string ⟨#[]⟩)).set_ 1 (.string ⟨#[]⟩)))) rfl ?_
    rw [HF.out]
    exact ⟨rfl,(N3.out.below.setCell (p:=⟨w.heap.size,0,none⟩) (Nat.le_refl _) _).setCell (p:=⟨w.heap.size,1,none⟩) (Nat.le_refl _) _⟩
  ·have hlt':¬ (k:Int) < (ls.length:Int):=by omega
   have HF0:=Lib.hid (firstL_none fun j y hy=>HE.out j y (by have:=(List.getElem?_eq_some_iff.1 hy).1;omega) hy)
   clear hlt HE
   gi_wp2_with (gi_at_call 170;refine (callsIn_wide.2 (rnone_any _)).mono ?_;rintro e w3 ⟨rfl,hb⟩;have N3:=Lib.hid (HN.out.later hb);have K3:=Lib.hid (HK.out.below hb HK.out.lt);clear hb)
   have I0:SumAt w w3.heap.size noneL (w3.alloc (.cells #[.string ⟨#[49]⟩,.string ⟨#[48]⟩] 63)):=by
    refine ⟨K3.out.alloc _,?_,?_,?_,N3.out.alloc _⟩
    ·have h:=Blk.new w3 63 #[.string ⟨#[49]⟩,.string ⟨#[48]⟩]
     have e1:(⟨#[49]⟩:ByteArray)=rT 1:=IsT.one.text
     have e2:(⟨#[48]⟩:ByteArray)=rT 0:=IsT.zero.text
     show Blk _ _ _ #[.string (rT 1),.string (rT 0)]
     rw [← e1,← e2]
     exact h
    ·have:=K3.out.lt;omega
    ·have:=K3.out.lt;omega
   generalize w3.heap.size=g at *
   generalize w3.alloc (.cells #[.string ⟨#[49]⟩,.string ⟨#[48]⟩] 63)=w4 at *
   have I0:=Lib.hid I0
   clear K3 N3 HK HN
   gi_loopw [7,8] (fun v7 v8 wq=>∃ (i:Nat) (acc:LQ),i≤ls.length∧v7=.int .i64 0∧v8=.int .i64 (i:Int)∧Hid (foldE plusL noneL ((ls.map valL).take i)=.ok acc)∧Hid (OkL acc)∧Hid (SumAt w g acc wq)) (fun _ v8 _=>ls.length - (intOf v8).toNat)
   case atStart=>exact ⟨0,noneL,Nat.zero_le _,rfl,rfl,Lib.hid rfl,Lib.hid okL_none,I0⟩
   case round =>
    clear I0
    obtain ⟨i,acc,hi,rfl,rfl,HE,HO,HS⟩:=hrel
    obtain ⟨wo,rfl⟩:∃ wo,wo=wr:=⟨_,rfl⟩
    by_cases hlt:i < ls.length
    ·obtain ⟨x,hx⟩:∃ x,ls[i]?=some x:=⟨_,List.getElem?_eq_getElem hlt⟩
     obtain ⟨b1,o1,c1',e1,hb1,q0,q1⟩:=HV.out.at HS.out.nw.below hx
     simp only [Value.slice.injEq,true_and] at e1
     obtain ⟨rfl,rfl⟩:=e1
     have hlt':(i:Int) < (ls.length:Int):=by omega
     have HX:=Lib.hid (And.intro hx hlt)
     have hsx:=HSH.out x (List.mem_of_getElem? hx)
     have hok:=HO.out.is
     have hex:errL x.1 x.2=0:=firstL_zero.1 HF0.out x (List.mem_of_getElem? hx)
     have HXV:(ls.map valL)[i]?=some (valL x):=by rw [List.getElem?_map,hx];rfl
     have HFE:=foldE_at HE.out HXV
     have HAD:=Lib.hid (fun (W:World) (hr:Res W)=>refLossAdd_any (rT acc.1) (rT acc.2) x.1 x.2 W hok.f.size hok.d.size hsx.1 hsx.2 hr)
     have hz:firstL [(rT acc.1,rT acc.2),x]=0:=by rw [firstL_two];dsimp only;rw [hok.err,hex];rfl
     rw [foldR_two (fun a ha=>plusL_none ha) hz,show valL (rT acc.1,rT acc.2)=acc from Prod.ext hok.f.val hok.d.val] at HAD
     have HOX:=(errL_zero hex).ok
     have hb2:b1 < w.heap.size:=LRow.blk_lt HV.out (by omega)
     have V0:∀ z:SameAt wo (fun k=>k < wo.heap.size∧k≠g),z.W.cell? _=some (.string x.1):=fun z=>z.cell ⟨hb1,by have:=HS.out.lo;omega⟩ q0
     have V1:∀ z:SameAt wo (fun k=>k < wo.heap.size∧k≠g),z.W.cell? _=some (.string x.2):=fun z=>z.cell ⟨hb1,by have:=HS.out.lo;omega⟩ q1
     obtain ⟨f,d⟩:=x
     dsimp only at V0 V1 HAD HOX
     cases hpl:plusL acc (valL (f,d)) with
     | error n =>
      rw [hpl] at HAD HFE
      change Hid (∀ (W:World) (_:Res W),Calls _ _ _ _ fun e w'=>e=.returned (.tuple #[.agg #[.string ⟨#[]⟩,.string ⟨#[]⟩],.int .i64 (n:Int)])∧_) at HAD
      have hz:=ne_zero (plusL_err hpl)
      have hz2:=ne_zero2 (plusL_err hpl)
      have HF:=Lib.hid (show rv=.error n by rw [HRV.out];unfold foldR;rw [if_neg (by rw [HF0.out];decide)];exact foldE_error HFE)
      clear hx hlt hsx hok hex HXV HFE hb2 hpl q0 q1 HOX
      gi_wp2
      refine wpIn_stage (IsSame wo (fun k=>k < wo.heap.size∧k≠g)) [1,2,3,4,6,7,8] [] hmx (by kernel_rfl) (isSame_of fun _ _=>rfl) ?_
      change wpStage _ _ _ _ _ _ _ _ (7+4) _ _ _
      refine stage_reads [1,2,3,4] 7 _ _ (by kernel_rfl) ?_
      change wpQuietIn _ _ _ _ (fun W'=>∃ x:SameAt wo (fun k=>k < wo.heap.size∧k≠g),W'=x.W) _ _ _
      simp only [pick_cons,pick_nil,List.getElem?_cons_zero,List.getElem?_cons_succ,Option.elim_some]
      repeat (gi_big_quiet_step (fail))
      refine wpQuietIn_nil ?_
      clear V0 V1
      have HDR:=Lib.hid (below_drewM wo)
      have HD:=Lib.hid (HS.out.later HDR.out)
      obtain ⟨p0,p1⟩:=cells2 HD.out.a
      refine stage_one 0 (by kernel_rfl) rfl ?_
      gi_wp2
      refine stage_post (isSame_below HDR.out (fun k hk=>hk.1)) ?_
      clear p0 p1
      refine stage_one 5 (by kernel_rfl) rfl ?_
      gi_wp2_with (gi_at_call 171;refine (callsIn_wide.2 (HAD.out _ HD.out.nw.res)).mono ?_;rintro e w9 ⟨rfl,hb9⟩;have HSS:=Lib.hid (HDR.out.trans (hb9.mono HDR.out.size));have H9:=Lib.hid (HD.out.later hb9);clear hb9)
      refine stage_post (isSame_below HSS.out (fun k hk=>hk.1)) ?_
      change wpStage _ _ _ _ _ _ _ _ (2+3) _ _ _
      refine stage_reads [6,7,8] 2 _ _ (by kernel_rfl) ?_
      change wpQuietIn _ _ _ _ (fun W'=>∃ x:SameAt wo (fun k=>k < wo.heap.size∧k≠g),W'=x.W) _ _ _
      simp only [pick_cons,pick_nil,List.getElem?_cons_zero,List.getElem?_cons_succ,Option.elim_some]
      repeat (gi_big_quiet_step (fail))
      refine wpQuietIn_nil ?_
      obtain ⟨p0,p1⟩:=cells2 H9.out.a
      have f0:=H9.out.a.frozen 0
      have f1:=H9.out.a.frozen 1
      have HSI:=Lib.hid (show IsSame wo (fun k=>k < wo.heap.size∧k≠g) ((w9.setCell ⟨g,0,none⟩ (.string ⟨#[]⟩)).setCell ⟨g,1,none⟩ (.string ⟨#[]⟩)) from isSame_of fun j hj=>by rw [Below.heap_setCell _ _ _ _ hj.2,Below.heap_setCell _ _ _ _ hj.2];exact HSS.out.block j hj.1)
      refine stage_one 9 (by kernel_rfl) rfl ?_
      gi_wp2
      refine stage_post HSI.out ?_
      refine stage_one 10 (by kernel_rfl) rfl ?_
      gi_wp2
      refine stage_post HSI.out ?_
      refine stage_done (by kernel_rfl) ?_
      clear p0 p1 f0 f1 HSI
      have HW:=Lib.hid (H9.out.r.far (p:=⟨g,0,none⟩) H9.out.ne.symm (.string ⟨#[]⟩))
      have HW:=Lib.hid (HW.out.far (p:=⟨g,1,none⟩) H9.out.ne.symm (.string ⟨#[]⟩))
      have HBW:=Lib.hid ((H9.out.nw.below.setCell (p:=⟨g,0,none⟩) H9.out.lo (.string ⟨#[]⟩)).setCell (p:=⟨g,1,none⟩) H9.out.lo (.string ⟨#[]⟩))
      generalize (w9.setCell ⟨g,0,none⟩ (.string ⟨#[]⟩)).setCell ⟨g,1,none⟩ (.string ⟨#[]⟩)=wF at *
      obtain ⟨p0,p1⟩:=cells2 HW.out
      have f0:=HW.out.frozen 0
      have f1:=HW.out.frozen 1
      gi_wp2
      refine bodyPost_ret (run_cell_tmp rfl rfl (load_loss ((HW.out.set_ 0 (.string ⟨#[]⟩)).set_ 1 (.string ⟨#[]⟩)))) rfl ?_
      rw [HF.out]
      exact ⟨rfl,(HBW.out.setCell (p:=⟨w.heap.size,0,none⟩) (Nat.le_refl _) _).setCell (p:=⟨w.heap.size,1,none⟩) (Nat.le_refl _) _⟩
     | ok b =>
      rw [hpl] at HAD HFE
      change Hid (∀ (W:World) (_:Res W),Calls _ _ _ _ fun e w'=>e=.returned (.tuple #[.agg #[.string (rT b.1),.string (rT b.2)],.int .i64 0])∧_) at HAD
      have HFE:=Lib.hid HFE
      have HOB:=Lib.hid (plusL_okL HO.out HOX hpl)
      clear hx hlt hsx hok hex HXV hb2 hpl q0 q1 HOX
      gi_wp2
      refine wpIn_stage (IsSame wo (fun k=>k < wo.heap.size∧k≠g)) [1,2,3,4,6,7,8] [] hmx (by kernel_rfl) (isSame_of fun _ _=>rfl) ?_
      change wpStage _ _ _ _ _ _ _ _ (7+4) _ _ _
      refine stage_reads [1,2,3,4] 7 _ _ (by kernel_rfl) ?_
      change wpQuietIn _ _ _ _ (fun W'=>∃ x:SameAt wo (fun k=>k < wo.heap.size∧k≠g),W'=x.W) _ _ _
      simp only [pick_cons,pick_nil,List.getElem?_cons_zero,List.getElem?_cons_succ,Option.elim_some]
      repeat (gi_big_quiet_step (fail))
      refine wpQuietIn_nil ?_
      clear V0 V1
      have HDR:=Lib.hid (below_drewM wo)
      have HD:=Lib.hid (HS.out.later HDR.out)
      obtain ⟨p0,p1⟩:=cells2 HD.out.a
      refine stage_one 0 (by kernel_rfl) rfl ?_
      gi_wp2
      refine stage_post (isSame_below HDR.out (fun k hk=>hk.1)) ?_
      clear p0 p1
      refine stage_one 5 (by kernel_rfl) rfl ?_
      gi_wp2_with (gi_at_call 171;refine (callsIn_wide.2 (HAD.out _ HD.out.nw.res)).mono ?_;rintro e w9 ⟨rfl,hb9⟩;have HSS:=Lib.hid (HDR.out.trans (hb9.mono HDR.out.size));have H9:=Lib.hid (HD.out.later hb9);clear hb9)
      refine stage_post (isSame_below HSS.out (fun k hk=>hk.1)) ?_
      change wpStage _ _ _ _ _ _ _ _ (2+3) _ _ _
      refine stage_reads [6,7,8] 2 _ _ (by kernel_rfl) ?_
      change wpQuietIn _ _ _ _ (fun W'=>∃ x:SameAt wo (fun k=>k < wo.heap.size∧k≠g),W'=x.W) _ _ _
      simp only [pick_cons,pick_nil,List.getElem?_cons_zero,List.getElem?_cons_succ,Option.elim_some]
      repeat (gi_big_quiet_step (fail))
      refine wpQuietIn_nil ?_
      obtain ⟨p0,p1⟩:=cells2 H9.out.a
      have f0:=H9.out.a.frozen 0
      have f1:=H9.out.a.frozen 1
      have HSI:=Lib.hid (show IsSame wo (fun k=>k < wo.heap.size∧k≠g) ((w9.setCell ⟨g,0,none⟩ (.string (rT b.1))).setCell ⟨g,1,none⟩ (.string (rT b.2))) from isSame_of fun j hj=>by rw [Below.heap_setCell _ _ _ _ hj.2,Below.heap_setCell _ _ _ _ hj.2];exact HSS.out.block j hj.1)
      refine stage_one 9 (by kernel_rfl) rfl ?_
      gi_wp2
      refine stage_post HSI.out ?_
      refine stage_one 10 (by kernel_rfl) rfl ?_
      gi_wp2
      refine stage_post HSI.out ?_
      refine stage_done (by kernel_rfl) ?_
      clear p0 p1 f0 f1 HSI
      have HN:=Lib.hid (H9.out.set HR.out b)
      gi_wp2
      go_roundw
      case rel=>exact ⟨i+1,b,HX.out.2,rfl,by go_num,HFE,HOB,HN⟩
      case measure=>have:=HX.out.2;simp [intOf];omega
    ·have hlt':¬ (i:Int) < (ls.length:Int):=by omega
     have HF:=Lib.hid (show rv=.ok acc by rw [HRV.out];unfold foldR;rw [if_neg (by rw [HF0.out];decide),← HE.out,List.take_of_length_le (by rw [List.length_map];omega)])
     obtain ⟨p0,p1⟩:=cells2 HS.out.a
     obtain ⟨r0,r1⟩:=cells2 HS.out.r
     have f0:=HS.out.r.frozen 0
     have f1:=HS.out.r.frozen 1
     clear hlt
     gi_wp2
     refine bodyPost_ret (run_cell_tmp rfl rfl (load_loss ((HS.out.r.set_ 0 (.string (rT acc.1))).set_ 1 (.string (rT acc.2))))) rfl ?_
     rw [HF.out]
     exact ⟨rfl,(HS.out.nw.below.setCell (p:=⟨w.heap.size,0,none⟩) (Nat.le_refl _) _).setCell (p:=⟨w.heap.size,1,none⟩) (Nat.le_refl _) _⟩
end Go.Proofs.YtigapglmipmbeaaGreatDoor
namespace Go.Proofs.YtigapglmipmbeaaGreatDoor
open Go.RowKit Go.Shelf
theorem few9_any (lss:List (List L2)) (v:Value) (w:World) (hv:LLRow w v lss) :
  Calls Tryz.prog 76 #[v] w fun e w'=>e=.returned (.bool (lightsD 12 12 24 lss))∧w'=w:=by
 obtain ⟨b,c,rfl,hb,hlen,hcell⟩:=hv
 have HC:=Lib.hid hcell
 clear hcell
 go_enter Tryz.func76,Tryz.ntmps76
 go_wp2
 go_loopw [3] (fun v3 wr=>∃ i:Nat,i≤lss.length∧v3=.int .i64 (i:Int)∧Hid (∀ (j:Nat) ls,j < i→lss[j]?=some ls→lightD 12 12 24 ls=true)∧wr=w) (fun v3 _=>lss.length - (intOf v3).toNat)
 case atStart=>exact ⟨0,Nat.zero_le _,rfl,Lib.hid (fun j ls h=>absurd h (by omega)),rfl⟩
 case round =>
  obtain ⟨i,hi,rfl,HE,rfl⟩:=hrel
  by_cases hlt:i < lss.length
  ·obtain ⟨ls,hls⟩:∃ ls,lss[i]?=some ls:=⟨_,List.getElem?_eq_getElem hlt⟩
   obtain ⟨u,cu,hu⟩:=HC.out i ls hls
   have HU:=Lib.hid hu
   obtain ⟨A,cc,rfl,hl,_⟩:=hu
   unfold maxLen at hl
   have hlt':(i:Int) < (lss.length:Int):=by omega
   have HLS:=Lib.hid (And.intro hls hlt)
   clear hls hlt
   by_cases h1:ls.length≤12
   ·have d1:decide (12 < (ls.length:Int))=false:=decide_eq_false (by omega)
    have d1n:decide (12 < ls.length)=false:=decide_eq_false (by omega)
    obtain ⟨wo,rfl⟩:∃ wo,wo=wr:=⟨_,rfl⟩
    go_wp2
    go_loopw [4] (fun v4 wr=>∃ k:Nat,k≤ls.length∧v4=.int .i64 (k:Int)∧Hid (∀ (j:Nat) x,j < k→ls[j]?=some x→x.1.size≤12∧x.2.size≤24)∧wr=wo) (fun v4 _=>ls.length - (intOf v4).toNat)
    case atStart=>exact ⟨0,Nat.zero_le _,rfl,Lib.hid (fun j x h=>absurd h (by omega)),rfl⟩
    case round =>
     obtain ⟨k,hk,rfl,HF,rfl⟩:=hrel
     by_cases hk2:k < ls.length
     ·obtain ⟨x,hx⟩:∃ x,ls[k]?=some x:=⟨_,List.getElem?_eq_getElem hk2⟩
      obtain ⟨b1,o1,c1',e1,hb1,c0,c1⟩:=HU.out.at (Below.refl _ _) hx
      simp only [Value.slice.injEq,true_and] at e1
      obtain ⟨rfl,rfl⟩:=e1
      have hk2':(k:Int) < (ls.length:Int):=by omega
      have HX:=Lib.hid (And.intro hx hk2)
      obtain ⟨f,d⟩:=x
      dsimp only at c0 c1
      clear hx hk2
      by_cases g1:f.size≤12
      ·have t1:decide (12 < (f.size:Int))=false:=decide_eq_false (by omega)
       have t1n:decide (12 < f.size)=false:=decide_eq_false (by omega)
       by_cases g2:d.size≤24
       ·have t2:decide (24 < (d.size:Int))=false:=decide_eq_false (by omega)
        have t2n:decide (24 < d.size)=false:=decide_eq_false (by omega)
        have HS:=Lib.hid (And.intro g1 g2)
        clear g1 g2
        go_wp2
        go_roundw
        case rel=>exact ⟨k+1,HX.out.2,by go_num,Lib.hid (fun j x hj hxj=>by
         rcases Nat.lt_or_ge j k with h|h
         ·exact HF.out j x h hxj
         ·obtain rfl:j=k:=by omega
          rw [HX.out.1] at hxj
          cases hxj
          exact HS.out),trivial⟩
        case measure=>have:=HX.out.2;simp [intOf];omega
       ·have t2:decide (24 < (d.size:Int))=true:=decide_eq_true (by omega)
        have t2n:decide (24 < d.size)=true:=decide_eq_true (by omega)
        have HR:=Lib.hid (lightsD_at (n:=12) (k:=12) (p:=24) HLS.out.1 (lightD_at HX.out.1 (fun h=>g2 h.2)))
        clear g1 g2
        go_wp2
        go_ret
        rw [HR.out]
        exact ⟨rfl,rfl⟩
      ·have t1:decide (12 < (f.size:Int))=true:=decide_eq_true (by omega)
       have t1n:decide (12 < f.size)=true:=decide_eq_true (by omega)
       have HR:=Lib.hid (lightsD_at (n:=12) (k:=12) (p:=24) HLS.out.1 (lightD_at HX.out.1 (fun h=>g1 h.1)))
       clear g1
       go_wp2
       go_ret
       rw [HR.out]
       exact ⟨rfl,rfl⟩
     ·have hk2':¬ (k:Int) < (ls.length:Int):=by omega
      have HR:=Lib.hid (lightD_of (n:=12) (k:=12) (p:=24) h1 fun j x hx=>HF.out j x (by have:=(List.getElem?_eq_some_iff.1 hx).1;omega) hx)
      clear hk2
      go_wp2
      go_roundw
      case rel=>exact ⟨i+1,HLS.out.2,by go_num,Lib.hid (fun j l hj hlj=>by
       rcases Nat.lt_or_ge j i with h|h
       ·exact HE.out j l h hlj
       ·obtain rfl:j=i:=by omega
        rw [HLS.out.1] at hlj
        cases hlj
        exact HR.out),trivial⟩
      case measure=>have:=HLS.out.2;simp [intOf];omega
   ·have d1:decide (12 < (ls.length:Int))=true:=decide_eq_true (by omega)
    have d1n:decide (12 < ls.length)=true:=decide_eq_true (by omega)
    have HR:=Lib.hid (lightsD_at (n:=12) (k:=12) (p:=24) HLS.out.1 (lightD_len h1))
    clear h1
    go_wp2
    go_ret
    rw [HR.out]
    exact ⟨rfl,rfl⟩
  ·have hlt':¬ (i:Int) < (lss.length:Int):=by omega
   have HR:=Lib.hid (lightsD_of (n:=12) (k:=12) (p:=24) fun j ls hj=>HE.out j ls (by have:=(List.getElem?_eq_some_iff.1 hj).1;omega) hj)
   clear hlt
   go_wp2
   go_ret
   rw [HR.out]
   exact ⟨rfl,rfl⟩
end Go.Proofs.YtigapglmipmbeaaGreatDoor
namespace Go.Proofs.YtigapglmipmbeaaGreatDoor
open Go.RowKit Go.Shelf
open Lim
theorem ends_idleI (n:Nat) (p:Addr) (w:World) :
  CallsDIn Fence.wide n Tryz.prog 163 #[.pointer (some p)] .returning w fun e u' w'=>e=.returned (.tuple #[])∧u'=.returning∧w'=w:=by
 refine callsDIn_of_wpSIn Tryz.func163 rfl trivial fun c₀ cs hu=>?_
 apply wpSIn_seq
 apply wpSIn_region
 simp [wpOpsSIn,go_sem,recoverD,hu,Tryz.ntmps163,Exit.thenS,Array.replicate_succ,Array.replicate_zero]
 refine wpSIn_of_wpIn rfl ?_
 gi_wp2
 cases c₀
 simp_all [bodyPostS,results,Tryz.results163]
section
variable {fn:Func} {tmps:Array Value} {R:Ending→World→Prop} {b n:Nat} {w:World}
theorem door_retI {v:Value} (hr:(results fn tmps).run Tryz.prog w=.ok v w) (hR:R (.returned v) w) :
  LeavesIn Fence.wide n Tryz.prog fn tmps R [{ target:=Target.fn (Fn.func 163) #[],args:=#[.pointer (some ⟨b,0,none⟩)] }] .returning w:=by
 refine leavesIn_cons (f:=163) (args:=#[.pointer (some ⟨b,0,none⟩)]) (by simp) (fun h=>by cases h) (by simp [go_sem]) (fun _ _=>trivial) ?_
 refine (ends_idleI _ _ _).mono ?_
 rintro e u' w'' ⟨rfl,rfl,rfl⟩
 exact ⟨v,hr,hR⟩
end
end Go.Proofs.YtigapglmipmbeaaGreatDoor
