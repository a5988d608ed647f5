/- Regions that draw their order, in stages: reads (guarded or not) may come as soon as their edges allow, also behind some of the others; the others come in any order that their edges allow. A range over a function whose yields come in a known order: the body is asked only at what comes next. strconv.FormatUint at base 10; the laid tables that it reads. What the library reads of the package variables, out of a row's premise; the wrap that keeps the world's shape. slices.Backward at limbs: what it yields. cmp.Compare at uint64 and int; limbs.Nat.Cmp limbs.trim limbs.Nat.small: a quotient by one limb. -/
import Derived.Test.YtigapglmipmbeaaGreatDoorRb02
import Derived.RangeFuncNested
import Derived.RangeFuncBound
import Derived.RangeFuncCalls
import Derived.RangeFuncLeaves
import Derived.Shelf.Abstract
import Derived.Shelf.RegionOpen
import Derived.OwnWalkIn
import Derived.TacticsInMore
import Derived.LoopNIn
import Derived.LoopIn
import Derived.Sort.BigQuietIn
import Derived.WalkHide
import Derived.Deep.LoopGhost
import Derived.Test.YtigapglmipmbeaaGreatDoorRb01
import Derived.Lib.AppendIntMem
import Derived.Test.YtigapglmipmbeaaGreatDoorRows
import Derived.Lib.LaidTab
import Derived.Stop.LaidErr
import Derived.Shelf.Vars
import Derived.Handed
import Derived.ChangeAgain
set_option maxRecDepth 100000
set_option maxHeartbeats 16000000
namespace Go.Proofs.YtigapglmipmbeaaGreatDoor
open Go.RowKit
def bareRead (o:Oper):Bool:=pureRead { o with guard:=none }
def stageOk (ops:List Oper) (H:List Nat):Bool :=
 (List.range ops.length).all fun j=>match ops[j]? with
  | none=>true
  | some o=>ownEdges j o && noDefer o && noSel o && (match o.guard with | none=>true | some (k,_)=>waitsOn o k) &&
   (if H.contains j then bareRead o && farOf o o.dst else true) &&
   (List.range ops.length).all fun i=>i == j || (match ops[i]? with | none=>true | some h=>(waitsOn o i || farOf o h.dst) && (h.dst.isNone || h.dst != o.dst))
structure StOk (ops:List Oper) (H:List Nat) (j:Nat) (o:Oper):Prop where
 edges:ownEdges j o = true
 nd:noDefer o = true
 ns:noSel o = true
 gd:∀ k b,o.guard = some (k,b)→waitsOn o k = true
 rd:j∈H→bareRead o = true∧farOf o o.dst = true
 far:∀ i h,i≠j→ops[i]? = some h→(waitsOn o i = true ∨ farOf o h.dst = true)∧(h.dst = none ∨ h.dst≠o.dst)
theorem stage_at {ops:List Oper} {H:List Nat} (hok:stageOk ops H = true) {j:Nat} {o:Oper} (hj:ops[j]? = some o):StOk ops H j o:=by
 have hlt:j < ops.length:=(List.getElem?_eq_some_iff.1 hj).1
 have h2:=List.all_eq_true.1 hok j (List.mem_range.2 hlt)
 rw [hj] at h2
 simp only [Bool.and_eq_true] at h2
 obtain ⟨⟨⟨⟨⟨h3,h4⟩,h5⟩,h6⟩,h7⟩,h8⟩:=h2
 refine ⟨h3,h4,h5,fun k b hg=>?_,fun hm=>?_,fun i h hne hi=>?_⟩
 ·rw [hg] at h6;exact h6
 ·rw [if_pos (by simpa using hm)] at h7;simpa using h7
 ·have:=List.all_eq_true.1 h8 i (List.mem_range.2 (List.getElem?_eq_some_iff.1 hi).1)
  rw [hi] at this
  simp only [Bool.or_eq_true,beq_iff_eq,Bool.and_eq_true,Option.isNone_iff_eq_none,bne_iff_ne] at this
  rcases this with h | h
  ·exact absurd h hne
  ·exact h
section
variable {F:Fence} {n:Nat} {P:Program} {C:World→Prop} {ops:List Oper} {H:List Nat}
theorem bare_runs {o:Oper} {a:Act} {K':Act→World→Prop} {Q:Exit→Act→World→Prop} {w:World} {v:Value} (hp:bareRead o = true) (hrun:o.quietAtIn F n P a C w v) (hK:K' (a.put o.dst v) w)
  (ha:∀ f,o.about P w a.eval = some f→F.fn f):o.wpIn F n P a w K' Q:=pure_runs (o:={ o with guard:=none }) hp hrun hK ha
theorem wanted_of {o:Oper} {a b:Act} (h:∀ k bb,o.guard = some (k,bb)→∀ s,(ops[k]?).bind (·.dst) = some s→a.tmps[s]? = b.tmps[s]?) :
  Region.wanted o (yielded ops.toArray a.tmps) = Region.wanted o (yielded ops.toArray b.tmps):=by
 unfold Region.wanted
 cases hg:o.guard with
 | none=>rfl
 | some kb =>
  obtain ⟨k,bb⟩:=kb
  have:yielded ops.toArray a.tmps k = yielded ops.toArray b.tmps k:=by
   unfold yielded
   rw [List.getElem?_toArray]
   cases hd:(ops[k]?).bind (·.dst) with
   | none=>rfl
   | some s =>
    simp only [Option.bind_some]
    rw [h k bb hg s hd]
  simp only [this]
def HeadVal (F:Fence) (n:Nat) (P:Program) (C:World→Prop) (ops:List Oper) (o:Oper) (b:Act) (v:Value):Prop :=
 o.askedIn F P b C∧((Region.wanted o (yielded ops.toArray b.tmps) = true∧∀ w,C w→o.quietAtIn F n P b C w v) ∨ (Region.wanted o (yielded ops.toArray b.tmps) = false∧v = undef))
theorem slot_other {b:Act} {d:Option Tmp} {u:Value} {s:Tmp} (h:d≠some s):(b.put d u).tmps[s]? = b.tmps[s]?:=by
 cases d with
 | none=>rfl
 | some e=>rw [put_get,if_neg (fun h'=>h (by rw [h'.1]))]
theorem HeadVal.of {o:Oper} {a b:Act} {v:Value} (h:HeadVal F n P C ops o b v) (hns:noSel o = true) (hev:∀ x∈o.op.operands,a.eval x = b.eval x)
  (hg:∀ k bb,o.guard = some (k,bb)→∀ s,(ops[k]?).bind (·.dst) = some s→a.tmps[s]? = b.tmps[s]?):HeadVal F n P C ops o a v:=by
 obtain ⟨h1,h2⟩:=h
 obtain ⟨e1,e2⟩:=quietAt_of (P:=P) (sel_of hns) hev
 refine ⟨fun w hw f hf=>h1 w hw f (by rw [← e2];exact hf),?_⟩
 rw [wanted_of hg]
 rcases h2 with ⟨hw,hq⟩ | h2
 ·refine .inl ⟨hw,fun w hw=>?_⟩
  have:=hq w hw
  unfold Oper.quietAtIn at this ⊢
  rw [e1]
  exact this
 ·exact .inr h2
def wpStage (F:Fence) (n:Nat) (P:Program) (ops:List Oper) (H:List Nat) (C:World→Prop) (waits:Nat→Bool) (Q':Act→World→Prop):Nat→Array Bool→Act→World→Prop
 | 0,LT,b,w=>Region.ready .any ops.toArray LT = []∧Q' b w
 | f + 1,LT,b,w =>
  (∃ i o,i∈H∧i∈Region.ready .any ops.toArray LT∧ops[i]? = some o∧∃ v,HeadVal F n P C ops o b v∧wpStage F n P ops H C waits Q' f (LT.setIfInBounds i true) (b.put o.dst v) w) ∨
  ((Region.ready .any ops.toArray LT = []→Q' b w) ∧
   ∀ j∈Region.ready .any ops.toArray LT,∀ o,ops[j]? = some o→wpListIn F n P ops.toArray (fun e a' w'=>e = .normal∧(waits j = false→C w')∧wpStage F n P ops H C waits Q' f (LT.setIfInBounds j true) a' w') [o] b w)
def Owed (H:List Nat) (L LT:Array Bool) (i:Nat):Prop:=i∈H∧LT[i]? = some true∧L[i]? = some false
def Known (F:Fence) (n:Nat) (P:Program) (C:World→Prop) (ops:List Oper) (H:List Nat) (L LT:Array Bool) (b:Act):Prop :=
 ∀ i o,Owed H L LT i→ops[i]? = some o→∃ v,b.put o.dst v = b∧HeadVal F n P C ops o b v
theorem set_get {L:Array Bool} {j i:Nat} (hj:j < L.size):(L.setIfInBounds j true)[i]? = if j = i then some true else L[i]?:=by
 by_cases h:j = i
 ·subst h;rw [if_pos rfl,Array.getElem?_setIfInBounds_self_of_lt hj]
 ·rw [if_neg h,Array.getElem?_setIfInBounds_ne h]
theorem get_or {L:Array Bool} {i:Nat} (h:i < L.size):L[i]? = some true ∨ L[i]? = some false:=by
 rw [Array.getElem?_eq_getElem h]
 cases L[i] <;> simp
theorem owed_agree (hok:stageOk ops H = true) {L LT:Array Bool} (_hs1:L.size = ops.length) {a b:Act} (hl:Lack ops (Owed H L LT) a b) {j:Nat} {o:Oper} (hoj:ops[j]? = some o) (hself:Owed H L LT j→farOf o o.dst = true)
  (hall:∀ k,waitsOn o k = true→L[k]? = some true):(∀ x∈o.op.operands,a.eval x = b.eval x)∧∀ k bb,o.guard = some (k,bb)→∀ s,(ops[k]?).bind (·.dst) = some s→a.tmps[s]? = b.tmps[s]?:=by
 have hS:=stage_at hok hoj
 refine ⟨hl.eval fun i h' hi hh d hd=>?_,fun k bb hg s hs=>hl.same s fun i h' hi hh e=>?_⟩
 ·by_cases hij:i = j
  ·subst hij
   rw [hoj] at hh;cases hh
   exact farOf_spec (hself hi) d hd
  ·rcases (hS.far i h' hij hh).1 with hw | hf
   ·have:=hall i hw
    rw [hi.2.2] at this;cases this
   ·exact farOf_spec hf d hd
 ·have hk:=hall k (hS.gd k bb hg)
  have hik:i≠k:=fun e'=>by subst e';rw [hi.2.2] at hk;cases hk
  obtain ⟨ok,hok',hd⟩:=Option.bind_eq_some_iff.1 hs
  rcases ((stage_at hok hok').far i h' hik hh).2 with h0 | h0
  ·rw [h0] at e;cases e
  ·exact h0 (by rw [e,hd])
theorem known_put (hok:stageOk ops H = true) {L LT:Array Bool} {b:Act} (hk:Known F n P C ops H L LT b) {j:Nat} {o:Oper} (hoj:ops[j]? = some o) (hj:LT[j]? = some false)
  (hcl:∀ i o,i∈H→LT[i]? = some true→ops[i]? = some o→∀ k,waitsOn o k = true→LT[k]? = some true) (u:Value) {i:Nat} {oi:Oper} (hi:Owed H L LT i) (hoi:ops[i]? = some oi) :
  ∃ v,(b.put o.dst u).put oi.dst v = b.put o.dst u∧HeadVal F n P C ops oi (b.put o.dst u) v:=by
 obtain ⟨v,h1,h2⟩:=hk i oi hi hoi
 have hij:i≠j:=fun e=>by subst e;rw [hi.2.1] at hj;cases hj
 have hSi:=stage_at hok hoi
 have hSj:=stage_at hok hoj
 have hw:∀ k,waitsOn oi k = true→k≠j:=fun k hk e=>by
  subst e
  have:=hcl i oi hi.1 hi.2.1 hoi k hk
  rw [hj] at this;cases this
 have hfar:=(hSi.far j o (fun e=>hij e.symm) hoj)
 refine ⟨v,?_,h2.of hSi.ns (operands_far (farOf_spec ?_)) fun k bb hg s hs=>slot_other fun e=>?_⟩
 ·rcases hfar.2 with h | h
  ·rw [h];exact h1
  ·have hc:=Act.put_comm b (x:=oi.dst) (y:=o.dst) v u (fun d h1 h2=>h (h2.trans h1.symm))
   rw [← hc,h1]
 ·rcases hfar.1 with h | h
  ·exact absurd rfl (hw j h)
  ·exact h
 ·have hkj:=hw k (hSi.gd k bb hg)
  obtain ⟨ok,hok',hd⟩:=Option.bind_eq_some_iff.1 hs
  rcases (hSj.far k ok hkj hok').2 with h0 | h0
  ·rw [h0] at hd;cases hd
  ·exact h0 (by rw [e,hd])
structure StInv (F:Fence) (n:Nat) (P:Program) (C:World→Prop) (ops:List Oper) (H:List Nat) (L LT:Array Bool) (a b:Act) (w:World):Prop where
 s1:L.size = ops.length
 s2:LT.size = ops.length
 same:∀ i:Nat,i < ops.length→i ∉ H→L[i]? = LT[i]?
 le:∀ i:Nat,L[i]? = some true→LT[i]? = some true
 closed:∀ (i:Nat) (o:Oper),i∈H→LT[i]? = some true→ops[i]? = some o→∀ k,waitsOn o k = true→LT[k]? = some true
 known:(∀ i∈H,i < ops.length→L[i]? = some true) ∨ (C w∧Known F n P C ops H L LT b)
 lack:Lack ops (Owed H L LT) a b
theorem StInv.hoist (hok:stageOk ops H = true) {L LT:Array Bool} {a b:Act} {w:World} (h:StInv F n P C ops H L LT a b w) {i:Nat} {o:Oper} (hi:i∈H) (hoi:ops[i]? = some o) (hLT:LT[i]? = some false)
  (hall:∀ k,waitsOn o k = true→LT[k]? = some true) {v:Value} (hv:HeadVal F n P C ops o b v):StInv F n P C ops H L (LT.setIfInBounds i true) a (b.put o.dst v) w:=by
 have hil:=(List.getElem?_eq_some_iff.1 hoi).1
 have hlt:i < LT.size:=by rw [h.s2];exact hil
 have hLi:L[i]? = some false:=by
  rcases get_or (L:=L) (i:=i) (by rw [h.s1];exact hil) with e | e
  ·have:=h.le i e;rw [hLT] at this;cases this
  ·exact e
 have hS:=stage_at hok hoi
 have hwi:waitsOn o i = true→False:=fun e=>by have:=hall i e;rw [hLT] at this;cases this
 refine ⟨h.s1,by simpa using h.s2,fun k hk hkH=>?_,fun k hk=>?_,fun k ok hk hkT hok' j hj=>?_,?_,?_⟩
 ·rw [set_get hlt,if_neg (fun e=>hkH (by rw [← e];exact hi))];exact h.same k hk hkH
 ·rw [set_get hlt];split
  ·rfl
  ·exact h.le k hk
 ·rw [set_get hlt]
  by_cases e:i = j
  ·rw [if_pos e]
  ·rw [if_neg e]
   by_cases e2:i = k
   ·subst e2;rw [hoi] at hok';cases hok';exact hall j hj
   ·rw [set_get hlt,if_neg e2] at hkT;exact h.closed k ok hk hkT hok' j hj
 ·rcases h.known with hk | ⟨hC,hk⟩
  ·have:=hk i hi hil;rw [hLi] at this;cases this
  ·refine .inr ⟨hC,fun k ok hkO hok'=>?_⟩
   by_cases e:i = k
   ·subst e
    rw [hoi] at hok';cases hok'
    refine ⟨v,put_put_same _ _ _,hv.of hS.ns (operands_far (farOf_spec (hS.rd hi).2)) fun k bb hg s hs=>slot_other fun e=>?_⟩
    have hki:k≠i:=fun e'=>by subst e';exact hwi (hS.gd k bb hg)
    obtain ⟨ok,hok',hd⟩:=Option.bind_eq_some_iff.1 hs
    rcases (hS.far k ok hki hok').2 with h0 | h0
    ·rw [h0] at hd;cases hd
    ·exact h0 (by rw [e,hd])
   ·refine known_put hok hk hoi hLT h.closed v ⟨hkO.1,?_,hkO.2.2⟩ hok'
    have:=hkO.2.1
    rwa [set_get hlt,if_neg e] at this
 ·refine ⟨h.lack.defers.trans (put_defers _ _ _).symm,h.lack.size.trans (put_size _ _ _).symm,fun s hs=>?_⟩
  have h1:=h.lack.same s fun k ok hk hok'=>hs k ok ⟨hk.1,by rw [set_get hlt];split;rfl;exact hk.2.1,hk.2.2⟩ hok'
  rw [h1,slot_other (hs i o ⟨hi,by rw [set_get hlt,if_pos rfl],hLi⟩ hoi)]
theorem StInv.paid (_hok:stageOk ops H = true) {L LT:Array Bool} {a b:Act} {w:World} (h:StInv F n P C ops H L LT a b w) {j:Nat} {o:Oper} (hoj:ops[j]? = some o) (hO:Owed H L LT j) {v:Value} (hb:b.put o.dst v = b) :
  StInv F n P C ops H (L.setIfInBounds j true) LT (a.put o.dst v) b w:=by
 have hjl:j < L.size:=by rw [h.s1];exact (List.getElem?_eq_some_iff.1 hoj).1
 have sub:∀ k,Owed H (L.setIfInBounds j true) LT k→Owed H L LT k:=fun k hk=>by
  refine ⟨hk.1,hk.2.1,?_⟩
  have:=hk.2.2
  rw [set_get hjl] at this
  split at this
  ·cases this
  ·exact this
 refine ⟨by simpa using h.s1,h.s2,fun k hk hkH=>?_,fun k hk=>?_,h.closed,?_,?_⟩
 ·rw [set_get hjl,if_neg (fun e=>hkH (by rw [← e];exact hO.1))];exact h.same k hk hkH
 ·rw [set_get hjl] at hk
  split at hk
  ·rename_i e;rw [← e];exact hO.2.1
  ·exact h.le k hk
 ·rcases h.known with hk | ⟨hC,hk⟩
  ·exact .inl fun k hkH hkl=>by rw [set_get hjl];split;rfl;exact hk k hkH hkl
  ·exact .inr ⟨hC,fun k ok hkO=>hk k ok (sub k hkO)⟩
 ·refine h.lack.head hoj hb fun k hk=>?_
  by_cases e:j = k
  ·exact .inl e.symm
  ·exact .inr ⟨hk.1,hk.2.1,by rw [set_get hjl,if_neg e];exact hk.2.2⟩
theorem StInv.step (hok:stageOk ops H = true) {L LT:Array Bool} {a b a' b':Act} {w w':World} (h:StInv F n P C ops H L LT a b w) {j:Nat} {o:Oper} (hoj:ops[j]? = some o) (_hL:L[j]? = some false) (hLT:LT[j]? = some false)
  (hall:∀ k,waitsOn o k = true→L[k]? = some true) {u:Value} {b0:Act} (hkn:Known F n P C ops H L LT b→Known F n P C ops H L LT b0) (hb':b' = b0.put o.dst u) (hl':Lack ops (Owed H L LT) a' b') (hC':C w' ∨ ∀ i∈H,i < ops.length→waitsOn o i = true) :
  StInv F n P C ops H (L.setIfInBounds j true) (LT.setIfInBounds j true) a' b' w':=by
 have hjl:j < L.size:=by rw [h.s1];exact (List.getElem?_eq_some_iff.1 hoj).1
 have hjt:j < LT.size:=by rw [h.s2];exact (List.getElem?_eq_some_iff.1 hoj).1
 have sub:∀ k,Owed H (L.setIfInBounds j true) (LT.setIfInBounds j true) k→Owed H L LT k:=fun k hk=>by
  have h1:=hk.2.1
  have h2:=hk.2.2
  rw [set_get hjl] at h2
  rw [set_get hjt] at h1
  split at h2
  ·cases h2
  ·rename_i e;rw [if_neg e] at h1;exact ⟨hk.1,h1,h2⟩
 refine ⟨by simpa using h.s1,by simpa using h.s2,fun k hk hkH=>?_,fun k hk=>?_,fun k ok hk hkT hok' m hm=>?_,?_,?_⟩
 ·rw [set_get hjl,set_get hjt];split
  ·rfl
  ·exact h.same k hk hkH
 ·rw [set_get hjl] at hk;rw [set_get hjt]
  split
  ·rfl
  ·rename_i e;rw [if_neg e] at hk;exact h.le k hk
 ·rw [set_get hjt]
  split
  ·rfl
  ·by_cases e2:j = k
   ·subst e2;rw [hoj] at hok';cases hok';exact h.le m (hall m hm)
   ·rw [set_get hjt,if_neg e2] at hkT;exact h.closed k ok hk hkT hok' m hm
 ·rcases h.known with hk | ⟨hC,hk⟩
  ·exact .inl fun k hkH hkl=>by rw [set_get hjl];split;rfl;exact hk k hkH hkl
  ·rcases hC' with hC' | hC'
   ·refine .inr ⟨hC',fun k ok hkO hok'=>?_⟩
    rw [hb']
    exact known_put hok (hkn hk) hoj hLT h.closed u (sub k hkO) hok'
   ·exact .inl fun k hkH hkl=>by rw [set_get hjl];split;rfl;exact hall k (hC' k hkH hkl)
 ·exact hl'.mono fun k hkl hk=>by
   refine ⟨hk.1,?_,?_⟩
   ·rw [set_get hjt];split;rfl;exact hk.2.1
   ·rw [set_get hjl]
    split
    ·rename_i e;subst e;have:=hk.2.1;rw [hLT] at this;cases this
    ·exact hk.2.2
theorem getD_false {L:Array Bool} {i:Nat} (hi:i < L.size) (h:L.getD i true = false):L[i]? = some false:=by
 rcases get_or hi with e | e
 ·rw [getD_of e] at h;cases h
 ·exact e
theorem ready_exists (hok:stageOk ops H = true) {L:Array Bool} (hsz:L.size = ops.length) (hu:unlisted ops.length L≠0):∃ i,i∈Region.ready .any ops.toArray L:=by
 have hne:∃ i,i < ops.length∧L.getD i true = false:=by
  have hpos:0 < ((List.range ops.length).filter fun i=>!L.getD i true).length:=by unfold unlisted at hu;omega
  obtain ⟨i,hi⟩:=List.exists_mem_of_length_pos hpos
  obtain ⟨g1,g2⟩:=List.mem_filter.1 hi
  exact ⟨i,List.mem_range.1 g1,by simpa using g2⟩
 obtain ⟨i0,⟨hi0,hu0⟩,hmin⟩:=exists_least (p:=fun i=>i < ops.length∧L.getD i true = false) hne
 have ho:ops[i0]? = some ops[i0]:=by simp [hi0]
 refine ⟨i0,mem_ready.2 ⟨hu0,ops[i0],by simp [hi0],fun e he hb=>?_⟩⟩
 have hlt:=ownEdges_spec (stage_at hok ho).edges e he hb
 have hnot:¬ L.getD e.on true = false:=fun hh=>by have:=hmin e.on ⟨by omega,hh⟩;omega
 exact getD_of (listed_of (k:=ops.length) (by omega) (by omega) (.inl (by simpa using hnot)))
theorem ready_none {L:Array Bool} (hsz:L.size = ops.length) (hu:unlisted ops.length L = 0):Region.ready .any ops.toArray L = []:=by
 rw [List.eq_nil_iff_forall_not_mem]
 intro j hj
 obtain ⟨hj1,o,ho,_⟩:=mem_ready.1 hj
 have hlt:j < ops.length:=by have:=(Array.getElem?_eq_some_iff.1 ho).1;simpa using this
 have:=listed_of (k:=ops.length) (by omega) hlt (.inr (unlisted_zero hu (by omega) j hlt))
 rw [getD_of this] at hj1;cases hj1
theorem ready_facts (hok:stageOk ops H = true) {L:Array Bool} (hsz:L.size = ops.length) {j:Nat} (hj:j∈Region.ready .any ops.toArray L):∃ o,ops[j]? = some o∧ops.toArray[j]? = some o∧L[j]? = some false∧∀ k,waitsOn o k = true→L[k]? = some true:=by
 obtain ⟨hj1,o,ho,hall⟩:=mem_ready.1 hj
 have hjl:j < ops.length:=by have:=(Array.getElem?_eq_some_iff.1 ho).1;simpa using this
 have hoj:ops[j]? = some o:=by rw [← ho];simp
 refine ⟨o,hoj,ho,getD_false (by omega) hj1,fun k hk=>?_⟩
 obtain ⟨e,he,hb,hon⟩:=waitsOn_spec hk
 have h1:=hall e he hb
 have hel:=ownEdges_spec (stage_at hok hoj).edges e he hb
 rw [hon] at h1 hel
 exact listed_of (k:=ops.length) (by omega) (by omega) (.inr h1)
theorem ready_mono (hok:stageOk ops H = true) {L LT:Array Bool} (hs1:L.size = ops.length) (_hs2:LT.size = ops.length) (hle:∀ i:Nat,L[i]? = some true→LT[i]? = some true) {j:Nat} (hj:j∈Region.ready .any ops.toArray L) (hLT:LT[j]? = some false):j∈Region.ready .any ops.toArray LT:=by
 obtain ⟨o,hoj,ho,hL,hall⟩:=ready_facts hok hs1 hj
 refine mem_ready.2 ⟨getD_of hLT,o,ho,fun e he hb=>?_⟩
 have hw:waitsOn o e.on = true:=by
  unfold waitsOn
  rw [Array.any_eq_true']
  exact ⟨e,he,by simp [hb]⟩
 exact getD_of (hle _ (hall _ hw))
theorem Known.defers {L LT:Array Bool} {b:Act} (h:Known F n P C ops H L LT b) (ds:List Deferred):Known F n P C ops H L LT { b with defers:=ds }:=by
 intro i o hi ho
 obtain ⟨u,h2,h3⟩:=h i o hi ho
 refine ⟨u,?_,h3⟩
 cases hd:o.dst with
 | none=>rfl
 | some d =>
  rw [hd] at h2
  have:=congrArg Act.tmps h2
  simp only [Act.put] at this ⊢
  rw [this]
theorem stage_paid (hok:stageOk ops H = true) {L LT:Array Bool} {a b:Act} {w:World} (hI:StInv F n P C ops H L LT a b w) {j:Nat} {o:Oper} (hO:Owed H L LT j) (hoj:ops[j]? = some o) (ho:ops.toArray[j]? = some o)
  (hall:∀ k,waitsOn o k = true→L[k]? = some true) {Q:Exit→Act→World→Prop} {K:Act→World→Prop} (hK:∀ v,b.put o.dst v = b→K (a.put o.dst v) w):wpOpIn F n P ops.toArray Q j K a w:=by
 have hS:=stage_at hok hoj
 rcases hI.known with hk | ⟨hC,hk⟩
 ·have:=hk j hO.1 (List.getElem?_eq_some_iff.1 hoj).1;rw [hO.2.2] at this;cases this
 ·obtain ⟨v,hb,hv⟩:=hk j o hO hoj
  obtain ⟨hev,hgd⟩:=owed_agree hok hI.s1 hI.lack hoj (fun h=>(hS.rd h.1).2) hall
  obtain ⟨hask,hcase⟩:=hv.of hS.ns hev hgd
  unfold wpOpIn
  rw [ho]
  dsimp only
  rcases hcase with ⟨hw,hq⟩ | ⟨hw,rfl⟩
  ·rw [if_pos hw]
   exact bare_runs (hS.rd hO.1).1 (hq w hC) (hK v hb) (fun f hf=>hask w hC f hf)
  ·rw [if_neg (by rw [hw];simp)]
   exact ⟨fun f hf=>hask w hC f hf,hK _ hb⟩
theorem stage_run (hok:stageOk ops H = true) (waits:Nat→Bool) (hw:∀ j o,ops[j]? = some o→waits j = true→∀ i∈H,i < ops.length→waitsOn o i = true) (Q:Exit→Act→World→Prop):∀ (g f:Nat) (L LT:Array Bool) (a b:Act) (w:World),
  unlisted ops.length L = g→unlisted ops.length LT = f→StInv F n P C ops H L LT a b w→wpStage F n P ops H C waits (fun a w=>Q .normal a w) f LT b w→wpAnyIn F n P .any ops.toArray Q g L a w:=by
 intro g
 induction g with
 | zero =>
  intro f L LT a b w hg hf hI h
  have hall:∀ i,i < ops.length→L[i]? = some true:=fun i hi=>listed_of (k:=ops.length) (by rw [hI.s1];omega) hi (.inr (unlisted_zero hg (by rw [hI.s1];omega) i hi))
  have hut:unlisted ops.length LT = 0:=by
   unfold unlisted
   rw [List.length_eq_zero_iff,List.filter_eq_nil_iff]
   intro i hi
   have:=hI.le i (hall i (List.mem_range.1 hi))
   simp [Array.getD_eq_getD_getElem?,this]
  rw [hut] at hf
  subst hf
  refine ⟨ready_none hI.s1 hg,?_⟩
  rw [hI.lack.full fun i hi hn=>by have:=hall i hi;rw [hn.2.2] at this;cases this]
  exact h.2
 | succ g ih =>
  intro f
  have less:∀ {L:Array Bool} {j k:Nat},L.size = ops.length→j < ops.length→L[j]? = some false→unlisted ops.length L = k + 1→unlisted ops.length (L.setIfInBounds j true) = k:=fun hsz hj hf hu=>by
   have:=unlisted_set hj (by omega) (getD_of (d:=true) hf)
   omega
  induction f with
  | zero =>
   intro L LT a b w hg hf hI h
   obtain ⟨r0,hr0⟩:=ready_exists hok hI.s1 (by omega)
   refine ⟨fun e=>(by rw [e] at hr0;cases hr0),fun j hj=>?_⟩
   obtain ⟨o,hoj,ho,hL,hall⟩:=ready_facts hok hI.s1 hj
   have hjl:=(List.getElem?_eq_some_iff.1 hoj).1
   have hLT:LT[j]? = some true:=listed_of (k:=ops.length) (by rw [hI.s2];omega) hjl (.inr (unlisted_zero hf (by rw [hI.s2];omega) j hjl))
   have hjH:j∈H:=by
    by_cases hm:j∈H
    ·exact hm
    ·have:=hI.same j hjl hm;rw [hL,hLT] at this;cases this
   have hO:Owed H L LT j:=⟨hjH,hLT,hL⟩
   exact stage_paid hok hI hO hoj ho hall fun v hb=>ih 0 _ LT _ b w (less hI.s1 hjl hL hg) hf (hI.paid hok hoj hO hb) h
  | succ f ihf =>
   intro L LT a b w hg hf hI h
   rcases h with ⟨i,o,hiH,hir,hoi,v,hv,hst⟩ | ⟨h1,h2⟩
   ·obtain ⟨o',hoi',_,hLTi,halli⟩:=ready_facts hok hI.s2 hir
    rw [hoi] at hoi';cases hoi'
    have hil:=(List.getElem?_eq_some_iff.1 hoi).1
    exact ihf L _ a _ w hg (less hI.s2 hil hLTi hf) (hI.hoist hok hiH hoi hLTi halli hv) hst
   ·obtain ⟨r0,hr0⟩:=ready_exists hok hI.s1 (by omega)
    refine ⟨fun e=>(by rw [e] at hr0;cases hr0),fun j hj=>?_⟩
    obtain ⟨o,hoj,ho,hL,hall⟩:=ready_facts hok hI.s1 hj
    have hjl:=(List.getElem?_eq_some_iff.1 hoj).1
    rcases get_or (L:=LT) (i:=j) (by rw [hI.s2];exact hjl) with hLT | hLT
    ·have hjH:j∈H:=by
      by_cases hm:j∈H
      ·exact hm
      ·have:=hI.same j hjl hm;rw [hL,hLT] at this;cases this
     have hO:Owed H L LT j:=⟨hjH,hLT,hL⟩
     exact stage_paid hok hI hO hoj ho hall fun v hb=>ih (f + 1) _ LT _ b w (less hI.s1 hjl hL hg) hf (hI.paid hok hoj hO hb) (.inr ⟨h1,h2⟩)
    ·have hrT:=ready_mono hok hI.s1 hI.s2 hI.le hj hLT
     have h3:=h2 j hrT o hoj
     have hS:=stage_at hok hoj
     obtain ⟨hev,hgd⟩:=owed_agree hok hI.s1 hI.lack hoj (fun h=>by have:=h.2.1;rw [hLT] at this;cases this) hall
     obtain ⟨e1,e2⟩:=quietAt_of (P:=P) (sel_of hS.ns) hev
     have hC':∀ w',(waits j = false→C w')→(C w' ∨ ∀ i∈H,i < ops.length→waitsOn o i = true):=fun w' h=>by
      cases hwj:waits j with
      | true=>exact .inr (hw j o hoj hwj)
      | false=>exact .inl (h hwj)
     simp only [wpListIn] at h3
     unfold wpOpIn
     rw [ho]
     dsimp only
     rw [wanted_of hgd]
     by_cases hwt:Region.wanted o (yielded ops.toArray b.tmps) = true
     ·rw [if_pos hwt] at h3 ⊢
      refine wpIn_move hS.nd e1 (e2 w) (fun v w' h'=>?_) (fun d w' h'=>?_) (fun e a w h=>h.1) h3
      ·exact ih f _ _ _ _ w' (less hI.s1 hjl hL hg) (less hI.s2 hjl hLT hf) (hI.step hok hoj hL hLT hall id rfl (hI.lack.tail _ _) (hC' w' h'.2.1)) h'.2.2
      ·exact ih f _ _ _ _ w' (less hI.s1 hjl hL hg) (less hI.s2 hjl hLT hf) (hI.step hok hoj hL hLT hall (fun hk=>hk.defers _) rfl ((hI.lack.defer d).tail _ _) (hC' w' h'.2.1)) h'.2.2
     ·rw [if_neg hwt] at h3 ⊢
      obtain ⟨h4,h5⟩:=h3
      exact ⟨fun f hf=>h4 f (by rw [← e2 w];exact hf),ih f _ _ _ _ w (less hI.s1 hjl hL hg) (less hI.s2 hjl hLT hf) (hI.step hok hoj hL hLT hall id rfl (hI.lack.tail _ _) (hC' w h5.2.1)) h5.2.2⟩
def hoistOk (ops:List Oper) (H:List Nat):List Nat→Array Bool→Bool
 | [],_=>true
 | i :: l,LT=>H.contains i && !(LT.getD i true) && (match ops[i]? with | none=>false | some o=>o.after.all fun e=>!Region.binds .any e || LT.getD e.on false) && hoistOk ops H l (LT.setIfInBounds i true)
def listAll (hs:List Nat) (LT:Array Bool):Array Bool:=hs.foldl (fun LT i=>LT.setIfInBounds i true) LT
theorem stage_reads {waits:Nat→Bool} {Q':Act→World→Prop} {w:World}:∀ (hs:List Nat) (f:Nat) (LT:Array Bool) (b:Act),hoistOk ops H hs LT = true →
  wpQuietIn F n P ops.toArray C (fun b'=>wpStage F n P ops H C waits Q' f (listAll hs LT) b' w) (pickOps ops hs) b→wpStage F n P ops H C waits Q' (f + hs.length) LT b w
 | [],f,LT,b,_,h=>h
 | i :: l,f,LT,b,hh,h=>by
  simp only [hoistOk,Bool.and_eq_true,Bool.not_eq_true'] at hh
  obtain ⟨⟨⟨h1,h2⟩,h3⟩,h4⟩:=hh
  cases ho:ops[i]? with
  | none=>rw [ho] at h3;cases h3
  | some o =>
   rw [ho] at h3
   rw [pick_cons,ho] at h
   obtain ⟨hask,h⟩:=h
   have hr:i∈Region.ready .any ops.toArray LT:=mem_ready.2 ⟨h2,o,by simpa using ho,fun e he hb=>by
    have:=Array.all_eq_true_iff_forall_mem.1 h3 e he
    rw [hb] at this
    simpa using this⟩
   have hH:i∈H:=by simpa using h1
   by_cases hwt:Region.wanted o (yielded ops.toArray b.tmps) = true
   ·rw [if_pos hwt] at h
    obtain ⟨v,hv,h⟩:=h
    exact .inl ⟨i,o,hH,hr,ho,v,⟨hask,.inl ⟨hwt,hv⟩⟩,stage_reads l f _ _ h4 h⟩
   ·rw [if_neg hwt] at h
    exact .inl ⟨i,o,hH,hr,ho,undef,⟨hask,.inr ⟨by simpa using hwt,rfl⟩⟩,stage_reads l f _ _ h4 h⟩
def StagePost (F:Fence) (n:Nat) (P:Program) (ops:List Oper) (H:List Nat) (C:World→Prop) (waits:Nat→Bool) (Q':Act→World→Prop) (f:Nat) (LT:Array Bool) (i:Nat):Exit→Act→World→Prop :=
 fun e a' w'=>e = .normal∧(waits i = false→C w')∧wpStage F n P ops H C waits Q' f (LT.setIfInBounds i true) a' w'
theorem stage_post {waits:Nat→Bool} {Q':Act→World→Prop} {f:Nat} {LT:Array Bool} {i:Nat} {a:Act} {w:World} (hC:C w) (h:wpStage F n P ops H C waits Q' f (LT.setIfInBounds i true) a w):StagePost F n P ops H C waits Q' f LT i .normal a w:=⟨rfl,fun _=>hC,h⟩
theorem stage_last {waits:Nat→Bool} {Q':Act→World→Prop} {f:Nat} {LT:Array Bool} {i:Nat} {a:Act} {w:World} (hw:waits i = true) (h:wpStage F n P ops H C waits Q' f (LT.setIfInBounds i true) a w):StagePost F n P ops H C waits Q' f LT i .normal a w:=⟨rfl,fun e=>(by rw [hw] at e;cases e),h⟩
theorem stage_one {waits:Nat→Bool} {Q':Act→World→Prop} {f:Nat} {LT:Array Bool} {a:Act} {w:World} (i:Nat) {o:Oper} (hr:Region.ready .any ops.toArray LT = [i]) (ho:ops[i]? = some o)
  (h:wpListIn F n P ops.toArray (StagePost F n P ops H C waits Q' f LT i) [o] a w):wpStage F n P ops H C waits Q' (f + 1) LT a w :=
 .inr ⟨fun e=>(by rw [hr] at e;cases e),fun j hj o' ho'=>by
  rw [hr] at hj
  obtain rfl:j = i:=by simpa using hj
  rw [ho] at ho'
  cases ho'
  exact h⟩
theorem stage_two {waits:Nat→Bool} {Q':Act→World→Prop} {f:Nat} {LT:Array Bool} {a:Act} {w:World} (i j:Nat) {o o2:Oper} (hr:Region.ready .any ops.toArray LT = [i,j]) (ho:ops[i]? = some o) (ho2:ops[j]? = some o2)
  (h:wpListIn F n P ops.toArray (StagePost F n P ops H C waits Q' f LT i) [o] a w) (h2:wpListIn F n P ops.toArray (StagePost F n P ops H C waits Q' f LT j) [o2] a w):wpStage F n P ops H C waits Q' (f + 1) LT a w :=
 .inr ⟨fun e=>(by rw [hr] at e;cases e),fun k hk o' ho'=>by
  rw [hr] at hk
  simp only [List.mem_cons,List.not_mem_nil,or_false] at hk
  rcases hk with rfl | rfl
  ·rw [ho] at ho';cases ho';exact h
  ·rw [ho2] at ho';cases ho';exact h2⟩
theorem stage_done {waits:Nat→Bool} {Q':Act→World→Prop} {LT:Array Bool} {a:Act} {w:World} (hr:Region.ready .any ops.toArray LT = []) (h:Q' a w):wpStage F n P ops H C waits Q' 0 LT a w:=⟨hr,h⟩
def stageAll (ops:List Oper) (H ws:List Nat):Bool :=
 stageOk ops H && ws.all fun j=>match ops[j]? with | none=>true | some o=>H.all fun i=>waitsOn o i
theorem wpIn_stage {id:Nat} {Q:Exit→Act→World→Prop} {a:Act} {w:World} (C:World→Prop) (H ws:List Nat) (hm:P.follows .mixedOrders = true) (hB:stageAll ops H ws = true) (hC:C w.drew)
  (h:wpStage F n P ops H C (fun i=>ws.contains i) (fun a w=>Q .normal a w) ops.length (Array.replicate ops.length false) a w.drew):(Code.region id ops.toArray true).wpIn F n P Q a w:=by
 simp only [stageAll,Bool.and_eq_true] at hB
 obtain ⟨hok,hws⟩:=hB
 refine wpIn_region_any hm ?_
 have hun:unlisted ops.length (Array.replicate ops.length false) = ops.length:=by
  unfold unlisted
  rw [List.filter_eq_self.2 (fun i hi=>?_),List.length_range]
  have:=List.mem_range.1 hi
  simp only [Array.getD_eq_getD_getElem?]
  rw [Array.getElem?_replicate,if_pos (by omega)];rfl
 have hno:∀ i:Nat,(Array.replicate ops.length false)[i]?≠some true:=fun i=>by
  rw [Array.getElem?_replicate];split <;> simp
 have hrun:=stage_run (F:=F) (n:=n) (P:=P) (C:=C) hok (fun i=>ws.contains i) (fun j o ho hj i hi _=>by
   have:=List.all_eq_true.1 hws j (by simpa using hj)
   rw [ho] at this
   exact List.all_eq_true.1 this i hi) Q ops.length ops.length (Array.replicate ops.length false) (Array.replicate ops.length false) a a w.drew hun hun
  ⟨by simp,by simp,fun _ _ _=>rfl,fun _ h=>h,fun i o _ h=>absurd h (hno i),.inr ⟨hC,fun i o hO=>absurd hO.2.1 (hno i)⟩,⟨rfl,rfl,fun _ _=>rfl⟩⟩ h
 simpa using hrun
end
end Go.Proofs.YtigapglmipmbeaaGreatDoor
namespace Go.Proofs.YtigapglmipmbeaaGreatDoor
open Go.RowKit Go.Shelf
def Turn (B:Nat) (W W':World):Prop:=∃ r o o',B≤r∧W.heap[r]? = some o∧o.isCells = false∧W' = W.putObj r o'
theorem OwnFrom.turn {β:Type} {B:Nat} {I:β→World→Prop} (h:OwnFrom B I) {s:β} {W W':World} (hs:I s W) (ht:Turn B W W'):I s W':=by
 obtain ⟨r,o,o',hr,ho,hc,rfl⟩:=ht
 exact h.putObj o' hs hr ho hc
theorem below_drewN' {B:Nat} {a w:World} (h:Below B a w) (k:Nat):Below B a (w.drewN k):=⟨h.os,h.tape,h.output,h.size,h.block⟩
theorem keeps_drewN (w:World) (k:Nat):KeepsOthers w (w.drewN k):=⟨Nat.le_refl _,fun _ _ h _=>h⟩
theorem keeps_of_below {w w':World} (h:Below w.heap.size w w'):KeepsOthers w w':=⟨h.size,fun k _ hk _=>(h.block k (Array.getElem?_eq_some_iff.1 hk).1).trans hk⟩
theorem Blk.own_ {W W':World} {row:Option Nat} {B g:Nat} {t:TypeId} {cs:Array Value} (h:Blk W g t cs) (hg:W.grownBy W' row) (hr:∀ r,row = some r→B≤r∧∃ o:Obj,W.heap[r]? = some o∧o.isCells = false):Blk W' g t cs :=
 h.grown hg (fun e=>by obtain ⟨_,o,ho,hc⟩:=hr g e.symm;rw [show W.heap[g]? = _ from h] at ho;cases ho;cases hc)
theorem bx_own {W W':World} {row:Option Nat} {B g:Nat} {t:TypeId} {v:Value} (h:Boxed W g t v) (hg:W.grownBy W' row) (hr:∀ r,row = some r→B≤r∧∃ o:Obj,W.heap[r]? = some o∧o.isCells = false):Boxed W' g t v :=
 Blk.own_ (cs:=#[v]) h hg hr
theorem below_own_ {w W W':World} {row:Option Nat} {B n₀:Nat} (h:Below n₀ w W) (hn:n₀≤w.heap.size) (hB:n₀≤B) (hg:W.grownBy W' row) (hr:∀ r,row = some r→B≤r∧∃ o:Obj,W.heap[r]? = some o∧o.isCells = false):Below n₀ w W' :=
 h.grown hg (Nat.le_trans hn h.size) (fun k e=>by have:=(hr k e).1;omega)
theorem bx_below {w w':World} {B g:Nat} {t:TypeId} {v:Value} (h:Boxed w g t v) (hb:Below B w w') (hg:g < B):Boxed w' g t v:=(hb.block g hg).trans h
theorem bx_far {W:World} {g:Nat} {t:TypeId} {v:Value} (h:Boxed W g t v) {p:Addr} (hp:g≠p.block) (u:Value):Boxed (W.setCell p u) g t v:=Blk.far (cs:=#[v]) h hp u
theorem inAt_zero {F:Fence} {n:Nat} {P:Program} {o:Oper} {l:List Oper} {h:0 < (o :: l).toArray.size} {a:Act} {w:World} {K:Act→World→Prop} {Q:Exit→Act→World→Prop}:Oper.wpIn F n P ((o :: l).toArray[0]'h) a w K Q = Oper.wpIn F n P o a w K Q:=rfl
theorem inAt_succ {F:Fence} {n:Nat} {P:Program} {o:Oper} {l:List Oper} {k:Nat} {h:k + 1 < (o :: l).toArray.size} {a:Act} {w:World} {K:Act→World→Prop} {Q:Exit→Act→World→Prop}:Oper.wpIn F n P ((o :: l).toArray[k + 1]'h) a w K Q = Oper.wpIn F n P (l.toArray[k]'(by simpa using h)) a w K Q:=rfl
theorem quiet_of_same2 {F:Fence} {r:Nat} {P:Program} {f:FuncId} {args:Array Value} {w:World} {k n:Nat} {v:Value}
  (h:CallsIn F r P f args (w.drewN (k + n)) fun e w'=>e = .returned v∧w' = w.drewN (k + n)):CallsIn F r P f args (w.drewN (k + n)) fun e w''=>e = .returned v∧∃ m,w'' = w.drewN (k + m) :=
 h.mono fun _ _ ⟨he,hm⟩=>⟨he,n,hm⟩
def ordPost {α:Type} (I:List α→World→Prop) (Ix:Code→List α→World→Prop) (xs:List α) (W:World):Exit→Act→World→Prop
 | .normal,_,W'=>KeepsOthers W W'∧I xs W'
 | .ret,_,W'=>KeepsOthers W W'∧Ix .ret xs W'
 | .exit id,_,W'=>KeepsOthers W W'∧Ix (.exit id) xs W'
 | .goto t,_,W'=>KeepsOthers W W'∧Ix (.goto t) xs W'
 | .panic _,_,_=>False
 | .outgrown,_,_=>False
def SeqOrd {α:Type} (F:Fence) (n:Nat) (P:Program) (g:Nat) (lb:Array Value) (encs:α→Array Value) (Nx:List α→α→Prop) (S:List α→Prop) (G:World→Prop):Prop :=
 ∀ (l:Nat) (J Jx:List α→World→Prop) (W:World),(∀ pre W1,J pre W1→G W1)→AbidesFrom W.heap.size J→AbidesFrom W.heap.size Jx →
  (∀ pre x W1,J pre W1→Nx pre x→YieldAt F (n - 1) P l (encs x) W1 fun e W'=>(e = .returned (.bool true)∧J (pre ++ [x]) W') ∨ (e = .returned (.bool false)∧Jx (pre ++ [x]) W')) →
  J [] W →
  CallsIn F n P g (#[.func (.yield l) #[] #[]] ++ lb) W fun e W'=>(∃ v,e = .returned v)∧((∃ xs,S xs∧J xs W') ∨ (∃ pre x,Nx pre x∧Jx (pre ++ [x]) W'))
section
variable {F:Fence} {n:Nat} {P:Program}
def Books (rec:LoopState→Option Code→Loop) (D:Nat) (st:LoopState) (pe:Option Code) (W:World):Prop :=
 W.heap[D + 1]? = some (.loop (rec st pe))∧W.heap[D]? = some (.deferred (some []))
theorem Books.abides {rec:LoopState→Option Code→Loop} {D B:Nat} {st:LoopState} {pe:Option Code} {W W':World} {row:Option Nat} (h:Books rec D st pe W) (hg:W.grownBy W' row)
  (hr:∀ r,row = some r→B≤r∧∃ o:Obj,W.heap[r]? = some o∧o.isWalk = true):Books rec D st pe W' :=
 ⟨(grownBy_keeps hg (fun r e=>(hr r e).2) h.1 rfl).trans h.1,(grownBy_keeps hg (fun r e=>(hr r e).2) h.2 rfl).trans h.2⟩
theorem Books.turned {rec:LoopState→Option Code→Loop} {D:Nat} {st:LoopState} {pe:Option Code} {W:World} (h:Books rec D st pe W) (o:Loop) :
  (W.putObj (D + 1) (.loop o)).heap[D + 1]? = some (.loop o)∧(W.putObj (D + 1) (.loop o)).heap[D]? = some (.deferred (some []))∧Turn D W (W.putObj (D + 1) (.loop o)) :=
 ⟨World.putObj_heap_same (Array.getElem?_eq_some_iff.1 h.1).1,(World.putObj_heap_other (by omega)).trans h.2,D + 1,_,_,by omega,h.1,rfl,rfl⟩
theorem wpIn_range_ord {α:Type} {g:Operand} {ps:Array Tmp} {assign body:Code} {Q:Exit→Act→World→Prop} {a:Act} {w:World}
  (hro:F.round = none) (h1:1≤n) {gf:Nat} {lb:Array Value} (hg:a.eval g = .func (.func gf) #[] lb) (hFg:F.fn gf) (eg:∀ args w,(callFunc gf args).run P w = .ok (.enter gf args) w)
  {encs:α→Array Value} {Nx:List α→α→Prop} {S:List α→Prop} {G:World→Prop} (hseq:SeqOrd F (n - 1) P gf lb encs Nx S G) (hps:∀ x,(encs x).size = ps.size)
  (I:List α→World→Prop) (Ix:Code→List α→World→Prop) (hG:∀ pre W,I pre W→G W) (hI:OwnFrom w.heap.size I) (hIx:∀ c,OwnFrom w.heap.size (Ix c)) (h0:I [] w)
  (hround:∀ (l:Nat) (pre:List α) (x:α) (W:World) (K:Act→World→Prop),I pre W→Nx pre x →
   (∀ a' Wa,KeepsOthers W Wa→I pre Wa→(∀ Wb,Turn w.heap.size Wa Wb→I pre Wb→body.wpIn (F.inRound l) (n - 1 - 1) P (ordPost I Ix (pre ++ [x]) Wb) a' Wb)→K a' Wa) →
   assign.wpIn (F.inRound l) (n - 1 - 1) P (Exit.then K (fun _ _ _=>False)) { tmps:=(ps.zip (encs x)).foldl (fun t (p,v)=>t.setIfInBounds p v) a.tmps,defers:=[] } W)
  (hdone:∀ (D:Nat) (xs:List α) (W:World),w.heap.size≤D→S xs→I xs W→W.heap[D]? = some (.deferred (some []))→Q .normal { a with defers:={ target:=.collected D,args:=#[] } :: a.defers } W)
  (hstop:∀ (D:Nat) (c:Code) (pre:List α) (x:α) (W:World),w.heap.size≤D→Nx pre x→Ix c (pre ++ [x]) W→W.heap[D]? = some (.deferred (some []))→c.wpIn F n P Q { a with defers:={ target:=.collected D,args:=#[] } :: a.defers } W) :
  (Code.rangeFunc g ps assign body).wpIn F n P Q a w:=by
 refine wpIn_rangeFunc ?_
 intro fn hfn
 rw [hro]
 obtain ⟨rec,hrec⟩:∃ rec:LoopState→Option Code→Loop,rec = fun st pe=>{ state:=st,pending:=pe,fn,tmps:=a.tmps,params:=ps,assign,body,defers:=w.heap.size }:=⟨_,rfl⟩
 obtain ⟨W1,hW1⟩:∃ W1,(w.alloc (.deferred (some []))).alloc (.loop (rec .ready none)) = W1:=⟨_,rfl⟩
 have hb1:Books rec w.heap.size .ready none W1:=by
  subst hW1
  refine ⟨?_,(Below.heap_alloc _ _ _ (by simp)).trans (World.alloc_heap_new w _)⟩
  have:=World.alloc_heap_new (w.alloc (.deferred (some []))) (.loop (rec .ready none))
  rwa [World.size_alloc] at this
 have hI1:I [] W1:=by subst hW1;exact hI.alloc _ (hI.alloc _ h0)
 have hsz:w.heap.size≤W1.heap.size:=by subst hW1;simp;omega
 have enters:(Instr.enterLoop fn a.tmps ps assign body none).run P w = .ok (w.heap.size + 1,[{ target:=.collected w.heap.size,args:=#[] }]) W1:=by
  rw [← hW1,hrec];exact run_enterLoop_outer _ _ _ _ _
 clear hW1
 have hnw:∀ {A:World} {row:Option Nat},(∀ r,row = some r→W1.heap.size≤r∧∃ o:Obj,A.heap[r]? = some o∧o.isWalk = true)→∀ r,row = some r→w.heap.size≤r∧∃ o:Obj,A.heap[r]? = some o∧o.isCells = false :=
  fun hr r e=>by obtain ⟨hB,o,ho,hw⟩:=hr r e;exact ⟨by omega,o,ho,Obj.not_cells_of_walk hw⟩
 refine ⟨w.heap.size + 1,_,W1,{ target:=.fn (.func gf) lb,args:=#[.func (.yield (w.heap.size + 1)) #[] #[]] },W1,gf,#[.func (.yield (w.heap.size + 1)) #[] #[]] ++ lb,W1,enters,?_,?_,?_,fun _=>h1,?_⟩
 ·simp only [resolve,hg]
  simp [go_sem]
 ·intro f' hf';simp [Target.leads] at hf';subst hf';exact hFg
 ·simp [invoke,go_sem,eg]
 refine (hseq (w.heap.size + 1) (fun pre W=>I pre W∧Books rec w.heap.size .ready none W) (fun pre W=>∃ c,Ix c pre W∧Books rec w.heap.size .done (some c) W) W1
  (fun pre W h=>hG pre W h.1)
  (fun s A A' row hs hg' hr=>⟨hI s A A' row hs.1 hg' (hnw hr),hs.2.abides hg' hr⟩)
  (fun s A A' row hs hg' hr=>by obtain ⟨c,hc,hk⟩:=hs;exact ⟨c,hIx c s A A' row hc hg' (hnw hr),hk.abides hg' hr⟩)
  ?_ ⟨hI1,hb1⟩).mono ?_
 ·rintro pre x W ⟨hi,hk⟩ hnx
  have hy:=run_yield (P:=P) (args:=encs x) hk.1 (by rw [hrec];exact hps x)
  rw [hrec] at hy
  refine ⟨fn,_,assign,body,hy,roundIn_of_wpIn hfn (hround _ pre x W _ hi hnx ?_)⟩
  clear hy
  intro a' Wa hka hia hbody
  have hka':Books rec w.heap.size .ready none Wa:=⟨hka.same _ _ hk.1 rfl,hka.same _ _ hk.2 rfl⟩
  refine ⟨_,run_beginRound hka'.1 (by rw [hrec]),?_⟩
  obtain ⟨t1,t2,t3⟩:=hka'.turned { rec .ready none with state:=.busy }
  refine wpIn_mono (hbody _ t3 (OwnFrom.turn hI hia t3)) ?_
  -- the round's end, by whatever jump
  have fin:∀ (jump:Option Code) (W3:World),KeepsOthers (Wa.putObj (w.heap.size + 1) (.loop { rec .ready none with state:=.busy })) W3 →
    ∃ W4,(Instr.endRound (w.heap.size + 1) jump).run P W3 = .ok (.bool jump.isNone) W4∧Books rec w.heap.size (if jump.isNone then .ready else .done) jump W4∧Turn w.heap.size W3 W4:=by
   intro jump W3 hk3
   have b3:Books (fun _ _=>{ rec .ready none with state:=.busy }) w.heap.size .ready none W3:=⟨hk3.same _ _ t1 rfl,hk3.same _ _ t2 rfl⟩
   obtain ⟨u1,u2,u3⟩:=b3.turned (rec (if jump.isNone then .ready else .done) jump)
   refine ⟨_,?_,⟨u1,u2⟩,u3⟩
   have:=run_endRound (P:=P) jump b3.1
   rw [hrec] at this ⊢
   exact this
  intro e a3 W3 hp
  cases e with
  | normal=>obtain ⟨W4,r1,r2,r3⟩:=fin none W3 hp.1;exact ⟨_,_,r1,.inl ⟨rfl,OwnFrom.turn hI hp.2 r3,r2⟩⟩
  | ret=>obtain ⟨W4,r1,r2,r3⟩:=fin (some .ret) W3 hp.1;exact ⟨_,_,r1,.inr ⟨rfl,.ret,OwnFrom.turn (hIx _) hp.2 r3,r2⟩⟩
  | exit id=>obtain ⟨W4,r1,r2,r3⟩:=fin (some (.exit id)) W3 hp.1;exact ⟨_,_,r1,.inr ⟨rfl,.exit id,OwnFrom.turn (hIx _) hp.2 r3,r2⟩⟩
  | goto t=>obtain ⟨W4,r1,r2,r3⟩:=fin (some (.goto t)) W3 hp.1;exact ⟨_,_,r1,.inr ⟨rfl,.goto t,OwnFrom.turn (hIx _) hp.2 r3,r2⟩⟩
  | panic ch=>exact hp.elim
  | outgrown=>exact hp.elim
 ·rintro e W2 ⟨⟨v,rfl⟩,(⟨xs,hS,hi,hk⟩ | ⟨pre,x,hnx,c,hi,hk⟩)⟩
  ·have hend:=run_endLoop (P:=P) hk.1 (by rw [hrec];simp)
   obtain ⟨t1,t2,t3⟩:=hk.turned { rec .ready none with state:=.exhausted }
   rw [hrec] at hend t2 t3
   exact ⟨none,_,hend,hdone _ xs _ (Nat.le_refl _) hS (OwnFrom.turn hI hi t3) t2⟩
  ·have hend:=run_endLoop (P:=P) hk.1 (by rw [hrec];simp)
   obtain ⟨t1,t2,t3⟩:=hk.turned { rec .done (some c) with state:=.exhausted }
   rw [hrec] at hend t2 t3
   exact ⟨some c,_,hend,hstop _ c pre x _ (Nat.le_refl _) hnx (OwnFrom.turn (hIx c) hi t3) t2⟩
end
end Go.Proofs.YtigapglmipmbeaaGreatDoor
namespace Go.Proofs.YtigapglmipmbeaaGreatDoor
open Go.Shelf Go.RowKit Go.Sort Go.Lib
structure Res (w:World):Prop where
 tab : Lib.TabIs Tryz.prog w "internal/strconv.uint64pow10" .u64 Lib.pow10Tab
 max:∃ m:Int,w.cell? ⟨0,0,none⟩ = some (.int .i64 m)
theorem tabIs_below {P:Program} {w w':World} {name:String} {k:IntKind} {zs:List Int} (h:TabIs P w name k zs) (hb:Below w.heap.size w w'):TabIs P w' name k zs:=by
 unfold TabIs World.var? at *
 cases hg:P.globalNamed name with
 | none=>simp [hg] at h
 | some g =>
  simp only [hg,Option.bind_some] at h ⊢
  have hlt:g < w.heap.size:=by
   rcases Nat.lt_or_ge g w.heap.size with h' | h'
   ·exact h'
   ·rw [Array.getElem?_eq_none h'] at h;simp at h
  rw [hb.block g hlt]
  exact h
theorem Res.below {w w':World} (h:Res w) (hb:Below w.heap.size w w'):Res w':=by
 obtain ⟨m,hm⟩:=h.max
 exact ⟨tabIs_below h.tab hb,m,(hb.cell (p:=⟨0,0,none⟩) (Lib.lt_of_cell hm)).trans hm⟩
theorem fmtInner_any (u:Nat) (hu64:u < 18446744073709551616) (w:World) (hr:Res w) :
  Calls Tryz.prog 307 #[.int .u64 (u:Int),.int .i64 10] w fun e w'=>e = .returned (.string ⟨(Lib.decDigits u).toArray⟩)∧Below w.heap.size w w':=by
 by_cases hs:u < 100
 ·go_enter Tryz.func307,Tryz.ntmps307
  go_wp2_with (go_at_call 325;refine (Tryz.internal_strconv_small u hs _).mono ?_;rintro e w' ⟨rfl,rfl⟩)
  go_ret
  exact ⟨rfl,Below.refl _ _⟩
 ·have hu1:1≤u:=by omega
  have hnd20:Lib.nDigits u≤20:=by have:=Lib.numDigits_eq u hu1 hu64;split at this <;> omega
  have htab:=hr.tab
  have hal:Tryz.prog.arrayLen 331 = 24:=by simp [Program.arrayLen,Tryz.underlying331]
  have hsl:∀ W,(Instr.sliceAt 331 (.pointer (some ⟨w.heap.size,0,none⟩)) none (some (.int .i64 (Lib.nDigits u:Int))) none).run Tryz.prog W = .ok (.slice (some ⟨w.heap.size,0,none⟩) (Lib.nDigits u) 24) W:=fun W=>by
   rw [run_sliceAt_array_h W 331 ⟨w.heap.size,0,none⟩ (by simp [Program.arrayLen,Program.elem,Tryz.underlying331]) .i64 (Lib.nDigits u:Int) (by omega) (by rw [hal];omega)]
   go_simp
  have hH0:=Lib.holds_zero0 w 331 (Lib.nDigits u) (by omega)
  have hfmt:=Tryz.internal_strconv_formatBase10 w.heap.size 0 24 u (Array.replicate (Lib.nDigits u) 0) (w.alloc (.cells Lib.zeros24 331)) hH0 (by rw [Array.size_replicate];exact Lib.lt_pow_nDigits u) hu64 (by rw [Array.size_replicate];omega)
  rw [Array.size_replicate] at hfmt
  have HH0:=Lib.hid hH0
  clear hH0 hal
  go_enter Tryz.func307,Tryz.ntmps307
  go_wp2_with (first
   | (go_at_call 326;refine (Tryz.internal_strconv_numDigits u hu1 hu64 _ (Lib.tabIs_alloc htab _)).mono ?_;rintro e w' ⟨rfl,rfl⟩))
  refine hfmt.mono ?_
  rintro e w' ⟨rfl,k,v',dk,rfl,hF⟩
  have hcv:(convert 123 9 (.slice (some ⟨w.heap.size,0,none⟩) (Lib.nDigits u) 24)).run Tryz.prog ((putRow (fun (b:UInt8)=>Value.int .u8 (b.toNat:Int)) (w.alloc (.cells Lib.zeros24 331)) w.heap.size 0 dk).drewN k) = .ok (.string ⟨(Lib.decDigits u).toArray⟩) ((putRow (fun (b:UInt8)=>Value.int .u8 (b.toNat:Int)) (w.alloc (.cells Lib.zeros24 331)) w.heap.size 0 dk).drewN k):=by
   have h:=run_convert_bytes_back (P:=Tryz.prog) ((putRow (fun (b:UInt8)=>Value.int .u8 (b.toNat:Int)) (w.alloc (.cells Lib.zeros24 331)) w.heap.size 0 dk).drewN k) 123 9 5 ⟨w.heap.size,0,none⟩ 24 (Lib.decDigits u) Tryz.underlying123 Tryz.underlying5 Tryz.underlying9 (fun j hj=>by
    rw [Lib.row_is_numeral hF j hj,Lib.add_plain,World.cell?_drewN]
    exact cell?_putRow (fun (b:UInt8)=>Value.int .u8 (b.toNat:Int)) _ w.heap.size 0 _ dk HH0.out (by rw [hF.size,Array.size_replicate]) j (by rw [hF.size];rw [Lib.decDigits_length] at hj;exact hj))
   rw [Lib.decDigits_length] at h
   exact h
  obtain ⟨os,eo⟩:=Lib.fin_at w (.cells Lib.zeros24 331) dk k 0
  have HEO:=Lib.hid eo
  clear eo hfmt
  go_wp2
  go_ret
  exact ⟨rfl,by rw [HEO.out];exact Lib.below_grow _ _ (Nat.le_refl _) _ _⟩
theorem fmt_any (u:Nat) (hu64:u < 18446744073709551616) (w:World) (hr:Res w) :
  Calls Tryz.prog 279 #[.int .u64 (u:Int),.int .i64 10] w fun e w'=>e = .returned (.string ⟨(Lib.decDigits u).toArray⟩)∧Below w.heap.size w w':=by
 go_enter Tryz.func279,Tryz.ntmps279
 go_wp2_with (go_at_call 307;refine (fmtInner_any u hu64 _ hr).mono ?_;rintro e w' ⟨rfl,hb⟩)
 go_ret
 exact ⟨rfl,hb⟩
end Go.Proofs.YtigapglmipmbeaaGreatDoor
namespace Go.Proofs.YtigapglmipmbeaaGreatDoor
open Go.RowKit
def laidL : List (String × DataW Unit) := [("math/bits.deBruijn32tab", Rows.laid_math_bits_deBruijn32tab), ("math/bits.deBruijn64tab", Rows.laid_math_bits_deBruijn64tab), ("internal/strconv.uint64pow10", Rows.laid_internal_strconv_uint64pow10), ("unicode/utf8.acceptRanges", Rows.laid_unicode_utf8_acceptRanges), ("strconv.ErrRange", Rows.laid_strconv_ErrRange), ("strconv.ErrSyntax", Rows.laid_strconv_ErrSyntax), ("unicode/utf8.first", Rows.laid_unicode_utf8_first)]
theorem pow_is:Rows.laid_internal_strconv_uint64pow10 = Lib.tabData (H:=Unit) .u64 Lib.pow10Tab:=by kernel_rfl
theorem res_of_laid {W:World} (h:laidMet Tryz.prog laidL W) (hs:W.ShapedOpen Tryz.prog):Res W:=by
 refine ⟨?_,?_⟩
 ·have h2:=laidMet.tail (laidMet.tail h)
  rw [pow_is] at h2
  exact Lib.tabIs_of_head (g:=1) (t:=(Tryz.prog.globals[1]?.map (·.type)).getD 0) (e:=117) (n:=20) (by kernel_rfl) (by kernel_rfl) (by kernel_rfl) (by kernel_rfl) (by kernel_rfl) (by kernel_rfl) h2
 ·exact cell_of_shapedOpen_int (P:=Tryz.prog) (g:=0) (t:=3) (zero:=#[.int .i64 0]) hs (of_decide_eq_true (by kernel_rfl)) (by kernel_rfl) rfl (by kernel_rfl) (by kernel_rfl) Tryz.underlying3
theorem int_bounds {x:Int} (h:Lit.wf (.int .i64 x) = true):-9223372036854775808≤x∧x≤9223372036854775807:=by
 simpa [Lit.wf,IntKind.min,IntKind.max,IntKind.signed,IntKind.bits] using h
theorem returns_shaped {H:Type} {enc:TypeId × Value→H} {a:Assume} {C:Checked} {os:Os} {f:FuncId} {fn:Func} {s:ChangeSpec} {conds:List PathCond} {apart fresh handsOn again:Bool} {X:World→Array Value→Prop}
  (hX:∀ (w w':World) (args:Array Value),w.heap = w'.heap→X w args→X w' args)
  (own:ownKnob C.prog.godebug = none) (started:os.Started) (noInit:C.prog.inits.idxOf? f = none) (hfn:C.prog.funcs[f]? = some fn)
  (witness:∃ (w:World) (tape:Tape) (i:Input),w.os = os∧(w.forCall tape i).Shaped C.prog∧i.vars = []∧Input.okWide C.prog (w.forCall tape i) .any w.heap.size f i ∧
   ((s.pre enc C.prog fn conds apart (w.forCall tape i).memory i.args∧X (w.forCall tape i).memory i.args)∧sizedMet enc C.prog fn (OpenSpec.ofChange s) apart (w.forCall tape i).memory i.args)∧a.holds C.prog (lone (Frame.enter C.prog f i.args .normal) [] (w.forCall tape i)))
  (contract:∀ (W:World) (base:Nat) (args:Array Value) (ds gs:List (DataW H)) (before:List MemPlace),
   (∀ (j:Nat) t v,fn.params[j]? = some t→args[j]? = some v→Value.okWide C.prog W .any base t v) →
   DataW.Whole enc C.prog fn.params.toList s.vars apart W args.toList ds gs before →
   X W args→W.ShapedOpen C.prog →
   Calls C.prog f args W fun e W'=>∃ v,e = .returned v∧s.post enc C.prog fn apart fresh handsOn again W args v W') :
  ReturnsInHanded a C os f .any (fun w args=>(s.pre enc C.prog fn conds apart w args∧X w args)∧sizedMet enc C.prog fn (OpenSpec.ofChange s) apart w args) (s.post enc C.prog fn apart fresh handsOn again):=by
 refine returnsInHanded_of_calls own started noInit witness ?_
 intro w tape i _ hsh _ hok hpre _
 obtain ⟨_,_,_,fn',hfn',_,_,_,_,hval⟩:=hok
 have e:fn' = fn:=Option.some.inj (hfn'.symm.trans hfn)
 subst e
 obtain ⟨⟨⟨ds,gs,before,hw,_⟩,hx⟩,_⟩:=hpre
 have hw':=DataW.Whole.of_heap (w':=w.forCall tape i) (by rfl) hw
 refine (contract (w.forCall tape i) w.heap.size i.args ds gs before hval hw' (hX _ _ _ (by rfl) hx) hsh).mono fun e W' ⟨v,he,hp⟩=>?_
 subst he
 exact ChangeSpec.post_blind hp
end Go.Proofs.YtigapglmipmbeaaGreatDoor
namespace Go.Proofs.YtigapglmipmbeaaGreatDoor
open Go.RowKit Go.Shelf
open Lim
attribute [local go_sem] Oper.semAt_some
def down (len m:Nat):List Nat:=(List.range m).map fun j=>len - 1 - j
theorem down_succ (len m:Nat):down len (m + 1) = down len m ++ [len - 1 - m]:=by simp [down,List.range_succ]
theorem down_length (len m:Nat):(down len m).length = m:=by simp [down]
def Came (V:Nat→Int→Prop) (len m:Nat) (ys:List (Nat × Int)):Prop:=ys.map (·.1) = down len m∧∀ p∈ys,V p.1 p.2
theorem Came.nil (V:Nat→Int→Prop) (len:Nat):Came V len 0 []:=⟨rfl,fun _ h=>by cases h⟩
theorem Came.snoc {V:Nat→Int→Prop} {len m:Nat} {ys:List (Nat × Int)} (h:Came V len m ys) {i:Nat} {z:Int} (hi:i = len - 1 - m) (hz:V i z):Came V len (m + 1) (ys ++ [(i,z)]):=by
 refine ⟨by rw [List.map_append,h.1,down_succ,hi];rfl,fun p hp=>?_⟩
 rcases List.mem_append.1 hp with hp | hp
 ·exact h.2 p hp
 ·simp at hp;subst hp;exact hz
theorem Came.length {V:Nat→Int→Prop} {len m:Nat} {ys:List (Nat × Int)} (h:Came V len m ys):ys.length = m:=by
 have:=congrArg List.length h.1;simpa [down_length] using this
def NextB (V:Nat→Int→Prop) (len:Nat) (pre:List (Nat × Int)) (x:Nat × Int):Prop:=∃ m,m < len∧Came V len m pre∧x.1 = len - 1 - m∧V x.1 x.2
def BackRead (V:Nat→Int→Prop) (Bs:Nat) (A:Option Addr) (len cap:Nat) (W:World):Prop :=
 W.cell? ⟨Bs,0,none⟩ = some (.slice A len cap)∧(0 < len→∃ b off,A = some ⟨b,off,none⟩∧∀ i,i < len→∃ z:Int,W.cell? ⟨b,off + i,none⟩ = some (.int .u64 z)∧V i z)
theorem back_seq (F:Fence) (n:Nat) (h7:F.fn 302) (hro:F.round = none) (hn:1≤n) (V:Nat→Int→Prop) (Bs:Nat) (A:Option Addr) (len cap:Nat) (hlen:len≤100000) :
  SeqOrd F n Tryz.prog 302 #[.pointer (some ⟨Bs,0,none⟩)] (fun x:Nat × Int=>#[Value.int .i64 (x.1:Int),Value.int .u64 x.2]) (NextB V len) (Came V len len) (BackRead V Bs A len cap):=by
 intro l J Jx W hG _ _ hY h0
 refine callsIn_of_wp Tryz.func302 rfl h7 ?_ hro
 simp only [Tryz.ntmps302,List.size_toArray,List.length_cons,List.length_nil,Nat.reduceAdd,Nat.reduceSub,Array.replicate_succ,Array.replicate_zero,List.push_toArray,List.append_toArray,List.nil_append,List.cons_append]
 have hbox:=(hG _ _ h0).1
 have HG:=Lib.hid hG
 have HY:=Lib.hid hY
 clear hG hY
 gi_wp2
 gi_loopw [3] (fun i wr=>∃ (k:Nat) (pre:List (Nat × Int)),k≤len∧i = .int .i64 ((k:Int) - 1)∧Came V len (len - k) pre∧J pre wr)
  (fun i _=>(intOf i + 1).toNat)
 case atStart=>exact ⟨len,[],Nat.le_refl _,rfl,by rw [Nat.sub_self];exact Came.nil _ _,h0⟩
 case round =>
  obtain ⟨k,pre,hk,rfl,hpre,hJs⟩:=hrel
  clear hbox h0
  by_cases hk0:k = 0
  ·subst hk0
   gi_wp2
   go_end0
   exact ⟨⟨_,rfl⟩,.inl ⟨pre,hpre,hJs⟩⟩
  ·have hkp:0 < k:=by omega
   clear hk0
   have hGr:=HG.out _ _ hJs
   have hbox:=hGr.1
   obtain ⟨b,off,rfl,hcs⟩:=hGr.2 (by omega)
   obtain ⟨z,hz,hv⟩:=hcs (k - 1) (by omega)
   clear hGr hcs
   have hnx:NextB V len pre (k - 1,z):=⟨len - k,by omega,hpre,by show k - 1 = _;omega,hv⟩
   obtain ⟨fn,tmps,assign,body,hy,hR⟩:=HY.out pre (k - 1,z) wr hJs hnx
   dsimp only at hy
   have hidx:((k - 1:Nat):Int) = (k:Int) - 1:=by omega
   rw [hidx] at hy
   clear hidx
   gi_wp2
   refine hR.mono ?_
   rintro e W3 (⟨rfl,hJ3⟩ | ⟨rfl,hJx3⟩)
   ·gi_wp2
    go_roundw
    case rel=>exact ⟨k - 1,_,by omega,int_eq (by omega),by rw [show len - (k - 1) = (len - k) + 1 by omega];exact hpre.snoc (by omega) hv,hJ3⟩
    case measure=>simp [intOf];omega
   ·gi_wp2
    refine bodyPost_ret (results_none rfl _ _ _) rfl ?_
    exact ⟨⟨_,rfl⟩,.inr ⟨_,_,hnx,hJx3⟩⟩
theorem backward_in (F:Fence) (n:Nat) (h5:F.fn 275) (hro:F.round = none) (a:Option Addr) (len cap:Nat) (w:World) :
  CallsIn F n Tryz.prog 275 #[.slice a len cap] w fun e w'=>e = .returned (.func (.func 302) #[] #[.pointer (some ⟨w.heap.size,0,none⟩)])∧w' = w.alloc (.cells #[.slice a len cap] 214):=by
 refine callsIn_of_wp Tryz.func275 rfl h5 ?_ hro
 simp only [Tryz.ntmps275,List.size_toArray,List.length_cons,List.length_nil,Nat.reduceAdd,Nat.reduceSub,Array.replicate_succ,Array.replicate_zero,List.push_toArray,List.append_toArray,List.nil_append,List.cons_append]
 gi_wp2
 go_ret
 exact ⟨rfl,rfl⟩
theorem eg_back:∀ args w,(callFunc 302 args).run Tryz.prog w = .ok (.enter 302 args) w:=enters_of Tryz.func302 (by kernel_rfl) rfl
end Go.Proofs.YtigapglmipmbeaaGreatDoor
namespace Go.Proofs.YtigapglmipmbeaaGreatDoor
open Go.RowKit Go.Shelf
open Lim
attribute [local go_sem] Oper.semAt_some
def sgn (a b:Nat):Int:=if a < b then -1 else if b < a then 1 else 0
theorem compareU_any (a b:Nat) (w:World) :
  Calls Tryz.prog 276 #[.int .u64 (a:Int),.int .u64 (b:Int)] w fun e w'=>e = .returned (.int .i64 (sgn a b))∧w' = w:=by
 by_cases h1:a < b
 ·go_enter Tryz.func276,Tryz.ntmps276
  go_wp2
  go_ret
  exact ⟨by rw [sgn,if_pos h1];rfl,rfl⟩
 ·by_cases h2:b < a
  ·go_enter Tryz.func276,Tryz.ntmps276
   go_wp2
   go_ret
   exact ⟨by rw [sgn,if_neg h1,if_pos h2];rfl,rfl⟩
  ·obtain rfl:a = b:=by omega
   go_enter Tryz.func276,Tryz.ntmps276
   go_wp2
   go_ret
   exact ⟨by rw [sgn,if_neg h1,if_neg h2];rfl,rfl⟩
theorem compareI_any (a b:Nat) (w:World) :
  Calls Tryz.prog 274 #[.int .i64 (a:Int),.int .i64 (b:Int)] w fun e w'=>e = .returned (.int .i64 (sgn a b))∧w' = w:=by
 by_cases h1:a < b
 ·go_enter Tryz.func274,Tryz.ntmps274
  go_wp2
  go_ret
  exact ⟨by rw [sgn,if_pos h1];rfl,rfl⟩
 ·by_cases h2:b < a
  ·go_enter Tryz.func274,Tryz.ntmps274
   go_wp2
   go_ret
   exact ⟨by rw [sgn,if_neg h1,if_pos h2];rfl,rfl⟩
  ·obtain rfl:a = b:=by omega
   go_enter Tryz.func274,Tryz.ntmps274
   go_wp2
   go_ret
   exact ⟨by rw [sgn,if_neg h1,if_neg h2];rfl,rfl⟩
theorem lt_of_len {x y:Nat} (h:(toL x).length < (toL y).length):x < y:=by
 rcases Nat.lt_or_ge x y with hl | hge
 ·exact hl
 ·have:=toL_len_mono hge;omega
theorem lt_of_top {xs ys:List Nat} {i:Nat} (hl:xs.length = ys.length) (hi:i < xs.length) (sx:Sm xs) (hd:∀ j,i < j→xs[j]?.getD 0 = ys[j]?.getD 0) (h:xs[i]?.getD 0 < ys[i]?.getD 0):val xs < val ys:=by
 have e1:=val_take_drop xs (i + 1) (by omega)
 have e2:=val_take_drop ys (i + 1) (by omega)
 have e3:=val_take_succ' xs i
 have e4:=val_take_succ' ys i
 have hlx:=val_lt (sx.take i)
 rw [List.length_take,Nat.min_eq_left (by omega)] at hlx
 have hdd:xs.drop (i + 1) = ys.drop (i + 1):=by
  apply List.ext_getElem (by simp [hl])
  intro j h1 h2
  simp at h1 h2 ⊢
  have:=hd (i + 1 + j) (by omega)
  rw [List.getElem?_eq_getElem (by omega),List.getElem?_eq_getElem (by omega)] at this
  simpa using this
 rw [hdd] at e1
 have h2:B ^ i * (xs[i]?.getD 0 + 1)≤B ^ i * ys[i]?.getD 0:=Nat.mul_le_mul_left _ h
 rw [Nat.mul_add] at h2
 omega
theorem sgn_lt {a b:Nat} (h:a < b):sgn a b = -1:=by rw [sgn,if_pos h]
theorem sgn_gt {a b:Nat} (h:b < a):sgn a b = 1:=by rw [sgn,if_neg (by omega),if_pos h]
theorem sgn_self (a:Nat):sgn a a = 0:=by rw [sgn,if_neg (by omega),if_neg (by omega)]
theorem sgn_top {x y i:Nat} (hl:(toL x).length = (toL y).length) (hi:i < (toL x).length) (hd:∀ j,i < j→(toL x)[j]?.getD 0 = (toL y)[j]?.getD 0) (hne:(toL x)[i]?.getD 0≠(toL y)[i]?.getD 0) :
  sgn ((toL x)[i]?.getD 0) ((toL y)[i]?.getD 0) = sgn x y:=by
 rcases Nat.lt_or_gt_of_ne hne with h | h
 ·have:=lt_of_top hl hi (sm_toL x) hd h
  rw [val_toL,val_toL] at this
  rw [sgn_lt h,sgn_lt this]
 ·have:=lt_of_top hl.symm (by omega) (sm_toL y) (fun j hj=>(hd j hj).symm) h
  rw [val_toL,val_toL] at this
  rw [sgn_gt h,sgn_gt this]
theorem toL_ext {x y:Nat} (hl:(toL x).length = (toL y).length) (hd:∀ j,j < (toL x).length→(toL x)[j]?.getD 0 = (toL y)[j]?.getD 0):x = y:=by
 have:toL x = toL y:=by
  apply List.ext_getElem hl
  intro i h1 h2
  have:=hd i h1
  rw [List.getElem?_eq_getElem h1,List.getElem?_eq_getElem h2] at this
  simpa using this
 rw [← val_toL x,this,val_toL]
theorem sgn_len {x y:Nat} (h:(toL x).length≠(toL y).length):sgn (toL x).length (toL y).length = sgn x y:=by
 rcases Nat.lt_or_gt_of_ne h with h | h
 ·rw [sgn_lt h,sgn_lt (lt_of_len h)]
 ·rw [sgn_gt h,sgn_gt (lt_of_len h)]
theorem cmp_len (x y:Nat) (vx vy:Value) (w:World) (hx:IsNat w vx x) (hy:IsNat w vy y) (hne:(toL x).length≠(toL y).length) :
  Calls Tryz.prog 246 #[vx,vy] w fun e w'=>e = .returned (.int .i64 (sgn x y))∧Below w.heap.size w w':=by
 obtain ⟨A,c,rfl,hc,hcm,hra⟩:=hx
 obtain ⟨A',c',rfl,hc',hcm',hrb⟩:=hy
 have HS:=Lib.hid (sgn_len hne)
 have hne':((((toL x).length:Int)) != ((toL y).length:Int)) = true:=by rw [bne_iff_ne];omega
 clear hne hra hrb
 go_enter Tryz.func246,Tryz.ntmps246
 go_wp2_with (go_at_call 274;refine (compareI_any _ _ _).mono ?_;rintro e w' ⟨rfl,rfl⟩)
 refine bodyPost_ret (v:=.int .i64 (sgn (toL x).length (toL y).length)) (by simp [results,Tryz.f246,go_sem]) rfl ⟨by rw [HS.out],?_⟩
 go_grown
theorem Came.mem {V:Nat→Int→Prop} {len m:Nat} {ys:List (Nat × Int)} (h:Came V len m ys) {j:Nat} (h1:len - 1 - m < j) (h2:j < len) (hm:m < len):∃ z,(j,z)∈ys:=by
 have:j∈ys.map (·.1):=by
  rw [h.1,down,List.mem_map]
  exact ⟨len - 1 - j,by rw [List.mem_range];omega,by omega⟩
 obtain ⟨p,hp,rfl⟩:=List.mem_map.1 this
 exact ⟨p.2,hp⟩
theorem Came.all {V:Nat→Int→Prop} {len:Nat} {ys:List (Nat × Int)} (h:Came V len len ys) {j:Nat} (h2:j < len):∃ z,(j,z)∈ys:=by
 have:j∈ys.map (·.1):=by
  rw [h.1,down,List.mem_map]
  exact ⟨len - 1 - j,by rw [List.mem_range];omega,by omega⟩
 obtain ⟨p,hp,rfl⟩:=List.mem_map.1 this
 exact ⟨p.2,hp⟩
theorem Row.later {w W:World} {A:Option Addr} {xs:List Value} (h:Row w A xs) (hB:Below w.heap.size w W) (hne:0 < xs.length) :
  ∃ b o,A = some ⟨b,o,none⟩∧b < w.heap.size∧∀ (j:Nat) (x:Value),xs[j]? = some x→W.cell? ⟨b,o + j,none⟩ = some x:=by
 obtain ⟨b,o,e,hb,hc⟩:=h hne
 exact ⟨b,o,e,hb,fun j x hx=>(hB.cell (p:=⟨b,o + j,none⟩) hb).trans (hc j x hx)⟩
theorem cmp_eq (x y:Nat) (vx vy:Value) (w:World) (hx:IsNat w vx x) (hy:IsNat w vy y) (hl:(toL x).length = (toL y).length) (hlx:(toL x).length≤40000) :
  Calls Tryz.prog 246 #[vx,vy] w fun e w'=>e = .returned (.int .i64 (sgn x y))∧Below w.heap.size w w':=by
 obtain ⟨A,c,rfl,hc,hcm,hra⟩:=hx
 obtain ⟨A',c',rfl,hc',hcm',hrb⟩:=hy
 have hl':((((toL x).length:Int)) != ((toL y).length:Int)) = false:=by rw [bne_eq_false_iff_eq];omega
 refine (callsIn_wide (n:=3)).1 ?_
 have h1:1≤3:=by omega
 refine callsIn_of_wp_marks Tryz.func246 rfl trivial ?_ rfl
 simp only [Tryz.ntmps246,List.size_toArray,List.length_cons,List.length_nil,Nat.reduceAdd,Nat.reduceSub,Array.replicate_succ,Array.replicate_zero,List.push_toArray,List.append_toArray,List.nil_append,List.cons_append]
 have HL:=Lib.hid hl
 clear hl
 gi_wp2_with (refine ⟨trivial,?_⟩;gi_at_call 275;refine (backward_in Fence.wide 2 trivial rfl _ _ _ _).mono ?_;rintro e w' ⟨rfl,rfl⟩)
 have b0:=((((Boxed.new w 214 (.slice A (toL x).length c)).alloc (.cells #[.slice A' (toL y).length c'] 214)).alloc (.cells #[.int .i64 0] 3)).alloc (.cells #[.slice A (toL x).length c] 214))
 have b1:=(((Boxed.new (w.alloc (.cells #[.slice A (toL x).length c] 214)) 214 (.slice A' (toL y).length c')).alloc (.cells #[.int .i64 0] 3)).alloc (.cells #[.slice A (toL x).length c] 214))
 have b2:=((Boxed.new ((w.alloc (.cells #[.slice A (toL x).length c] 214)).alloc (.cells #[.slice A' (toL y).length c'] 214)) 3 (.int .i64 0)).alloc (.cells #[.slice A (toL x).length c] 214))
 have b3:=Boxed.new (((w.alloc (.cells #[.slice A (toL x).length c] 214)).alloc (.cells #[.slice A' (toL y).length c'] 214)).alloc (.cells #[.int .i64 0] 3)) 214 (.slice A (toL x).length c)
 simp only [World.size_alloc] at b1 b2 b3
 have hB0:Below w.heap.size w ((((w.alloc (.cells #[.slice A (toL x).length c] 214)).alloc (.cells #[.slice A' (toL y).length c'] 214)).alloc (.cells #[.int .i64 0] 3)).alloc (.cells #[.slice A (toL x).length c] 214)):=by go_grown
 refine wpIn_range_ord rfl h1 (gf:=302) (lb:=#[.pointer (some ⟨w.heap.size + 1 + 1 + 1,0,none⟩)]) rfl trivial eg_back
  (back_seq Fence.wide 2 trivial rfl (by omega) (fun i z=>z = (((toL x)[i]?.getD 0:Nat):Int)) (w.heap.size + 1 + 1 + 1) A (toL x).length c (by omega)) (fun _=>rfl)
  (fun pre W=>(∀ p∈pre,(toL x)[p.1]?.getD 0 = (toL y)[p.1]?.getD 0)∧Boxed W w.heap.size 214 (.slice A (toL x).length c)∧Boxed W (w.heap.size + 1) 214 (.slice A' (toL y).length c')∧Boxed W (w.heap.size + 1 + 1) 3 (.int .i64 0)∧Boxed W (w.heap.size + 1 + 1 + 1) 214 (.slice A (toL x).length c)∧Below w.heap.size w W)
  (fun c pre W=>c = .ret∧Boxed W (w.heap.size + 1 + 1) 3 (.int .i64 (sgn x y))∧Below w.heap.size w W)
  ?hG ?hI ?hIx ⟨(fun _ h=>(by cases h)),b0,b1,b2,b3,hB0⟩ ?round ?done ?stop
 case hG =>
  rintro pre W ⟨_,_,_,_,b3,hB⟩
  refine ⟨b3.cell,fun h0=>?_⟩
  obtain ⟨b,o,rfl,hb,hcell⟩:=hra.later hB (by rw [U64_length];exact h0)
  exact ⟨b,o,rfl,fun i hi=>⟨_,hcell i _ (U64_get hi),rfl⟩⟩
 case hI =>
  exact (ownFrom_pure _ _).and (((boxed_own _ _ _).from _).and (((boxed_own _ _ _).from _).and (((boxed_own _ _ _).from _).and (((boxed_own _ _ _).from _).and (ownFrom_below (Nat.le_refl _) (by simp;omega))))))
 case hIx =>
  intro c
  exact (ownFrom_pure _ _).and (((boxed_own _ _ _).from _).and (ownFrom_below (Nat.le_refl _) (by simp;omega)))
 case round =>
  rintro l pre ⟨i,z⟩ W K hi hnx hK
  have HNX:=Lib.hid hnx
  clear hnx
  clear b0 b1 b2 b3 hB0
  gi_wp2
  refine hK _ _ (KeepsOthers.refl _) hi ?_
  clear hK hi
  rintro Wb _ ⟨hp,b0,b1,b2,b3,hB⟩
  obtain ⟨m,hm,hcame,hieq,hz⟩:=HNX.out
  dsimp only at hieq hz
  have hil:i < (toL x).length:=by omega
  obtain ⟨b,o,rfl,hb,hcell⟩:=hra.later hB (by rw [U64_length];omega)
  obtain ⟨b',o',rfl,hb',hcell'⟩:=hrb.later hB (by rw [U64_length,← HL.out];omega)
  have hcx:=hcell i _ (U64_get hil)
  have hcy:=hcell' i _ (U64_get (by rw [← HL.out];exact hil))
  have c0:=b0.cell
  have c1:=b1.cell
  have c2:=b2.cell
  have f2:=b2.frozen
  have hi0:(0:Int)≤(i:Int):=by omega
  have hi1:(i:Int) < ((toL x).length:Int):=by omega
  have hi2:(i:Int) < ((toL y).length:Int):=by have:=HL.out;omega
  have HP:=Lib.hid hp
  have HI:=Lib.hid hieq
  have HC:=Lib.hid hcame
  have hmx:Tryz.prog.follows .mixedOrders = true:=by kernel_rfl
  clear hieq hz hcame hp hcell hcell' hra hrb
  generalize hx0:(toL x)[i]?.getD 0 = x0 at hcx
  generalize hy0:(toL y)[i]?.getD 0 = y0 at hcy
  have HX:=Lib.hid hx0
  have HY:=Lib.hid hy0
  clear hx0 hy0
  by_cases heq:x0 = y0
  ·subst heq
   have hne:(((x0:Nat):Int) != ((x0:Nat):Int)) = false:=by simp
   gi_wp2
   refine wpIn_quiet_round hmx (by kernel_rfl) (by kernel_rfl) ?_
   repeat (gi_big_quiet_step (fail))
   refine wpQuietIn_nil ?_
   intro _ hw'
   obtain ⟨nq,hw''⟩:=hw'
   subst hw''
   gi_wp2
   refine ⟨keeps_drewN _ _,fun p hp=>?_,b0,b1,b2,b3,below_drewN' hB nq⟩
   rcases List.mem_append.1 hp with hp | hp
   ·exact HP.out p hp
   ·simp at hp;subst hp;exact HX.out.trans HY.out.symm
  ·have hne:(((x0:Nat):Int) != ((y0:Nat):Int)) = true:=by rw [bne_iff_ne];omega
   have hfn:Fence.wide.fn 276:=trivial
   gi_wp2
   refine wpIn_quiet_round hmx (by kernel_rfl) (by kernel_rfl) ?_
   repeat (gi_big_quiet_step (fail))
   refine wpQuietIn_nil ?_
   intro _ hw'
   obtain ⟨nq,hw''⟩:=hw'
   subst hw''
   gi_wp2
   refine wpIn_head_tail 9 hmx (by kernel_rfl) (by kernel_rfl) (by kernel_rfl) ?_
   simp only [List.take_succ_cons,List.take_zero,List.drop_succ_cons,List.drop_zero]
   repeat (gi_big_quiet_step ((gi_at_call 276;exact quiet_of_same2 (CallsIn.inRound l (callsIn_wide.2 (compareU_any _ _ _))))))
   refine wpQuietIn_nil ?_
   intro _ hw'
   obtain ⟨nq2,hw''⟩:=hw'
   subst hw''
   gi_wp2
   have hs:sgn x0 y0 = sgn x y:=by
    rw [← HX.out,← HY.out]
    refine sgn_top HL.out hil (fun j hj=>?_) (by rw [HX.out,HY.out];exact heq)
    by_cases hjl:j < (toL x).length
    ·obtain ⟨z',hz'⟩:=HC.out.mem (j:=j) (by have:=HI.out;omega) hjl hm
     exact HP.out _ hz'
    ·rw [List.getElem?_eq_none (by omega),List.getElem?_eq_none (by have:=HL.out;omega)]
   rw [hs]
   refine ⟨?_,rfl,?_,?_⟩
   ·exact (keeps_drewN _ (nq + nq2)).trans (KeepsOthers.setCell _ _ _)
   ·exact Boxed.set _ b2
   ·exact (below_drewN' hB (nq + nq2)).setCell (p:=⟨w.heap.size + 1 + 1,0,none⟩) (by simp;omega) _
 case done =>
  rintro D ys W hD hS ⟨hp,_,_,b2,_,hB⟩ hK
  have c2:=b2.cell
  have f2:=b2.frozen
  have hxy:x = y:=toL_ext HL.out (fun j hj=>by obtain ⟨z,hz⟩:=hS.all hj;exact hp _ hz)
  have HXY:=Lib.hid hxy
  clear hxy hp hS
  gi_wp2
  have hK':=(KeepsOthers.setCell W ⟨w.heap.size + 1 + 1,0,none⟩ (.int .i64 0)).same D _ hK rfl
  refine ⟨by simp,.inl ⟨_,_,rfl,run_takeDeferred hK',?_⟩⟩
  have hc5:=cell_kept (World.cell?_setCell_same' W ⟨w.heap.size + 1 + 1,0,none⟩ (.int .i64 0) (by rw [c2];rfl)) (grownBy_putObj' _ D (.deferred none)) (fun r e=>by cases e;exact ⟨_,hK',rfl⟩)
  refine ⟨.int .i64 0,?_,by rw [HXY.out,sgn_self],(hB.setCell (p:=⟨w.heap.size + 1 + 1,0,none⟩) (by simp;omega) _).trans (belowK_b (w:=w) (Nat.le_refl _) _ D _ _ (by simp at hD;omega) hK' rfl rfl)⟩
  simp [results,Tryz.f246,go_sem,hc5]
 case stop =>
  rintro D c pre x' W hD _ ⟨rfl,b2,hB⟩ hK
  gi_wp2
  refine ⟨by simp,.inl ⟨_,_,rfl,run_takeDeferred hK,?_⟩⟩
  have hc5:=cell_kept b2.cell (grownBy_putObj' _ D (.deferred none)) (fun r e=>by cases e;exact ⟨_,hK,rfl⟩)
  refine ⟨.int .i64 (sgn x y),?_,rfl,hB.trans (belowK_b (w:=w) (Nat.le_refl _) W D _ _ (by simp at hD;omega) hK rfl rfl)⟩
  simp [results,Tryz.f246,go_sem,hc5]
theorem cmp_any (x y:Nat) (vx vy:Value) (w:World) (hx:IsNat w vx x) (hy:IsNat w vy y) (hlx:(toL x).length≤40000) :
  Calls Tryz.prog 246 #[vx,vy] w fun e w'=>e = .returned (.int .i64 (sgn x y))∧Below w.heap.size w w':=by
 by_cases hl:(toL x).length = (toL y).length
 ·exact cmp_eq x y vx vy w hx hy hl hlx
 ·exact cmp_len x y vx vy w hx hy hl
end Go.Proofs.YtigapglmipmbeaaGreatDoor
namespace Go.Proofs.YtigapglmipmbeaaGreatDoor
open Go.RowKit
open Lim
theorem trim_end {l:List Nat} {k:Nat} (hs:Sm l) (hk:k≤l.length) (hz:∀ i,k≤i→l[i]?.getD 0 = 0) (hlast:k = 0 ∨ l[k - 1]?.getD 0≠0):k = (toL (val l)).length:=by
 rw [← toL_take hs hk hz hlast,List.length_take];omega
theorem trim_any (l:List Nat) (A:Option Addr) (n c:Nat) (w:World) (hn:n = l.length) (hl:Sm l) (hc:l.length≤c) (hm:c≤maxLen) (hr:Row w A (U64 l)) :
  Calls Tryz.prog 273 #[.slice A n c] w fun e w'=>e = .returned (.slice A (toL (val l)).length c)∧w' = w:=by
 unfold maxLen at hm
 subst hn
 go_enter Tryz.func273,Tryz.ntmps273
 go_wp2
 go_loop [0] (fun s=>∃ k:Nat,k≤l.length∧s = .slice A k c∧(∀ i,k≤i→l[i]?.getD 0 = 0)) (fun s=>match s with | .slice _ n _=>n | _=>0)
 case atStart=>exact ⟨l.length,Nat.le_refl _,rfl,fun i hi=>by simp [hi]⟩
 case round =>
  obtain ⟨k,hk,rfl,hz⟩:=hrel
  have HZ:=Lib.hid hz
  clear hz
  by_cases h0:k = 0
  ·subst h0
   go_wp2
   go_ret
   exact ⟨by rw [← trim_end hl hk HZ.out (.inl rfl)];rfl,rfl⟩
  ·have hpos:0 < k:=by omega
   have hlt:k - 1 < l.length:=by omega
   clear h0
   obtain ⟨b,o,rfl,hb,hcell⟩:=hr (by rw [U64_length];omega)
   have hcx:=hcell (k - 1) _ (U64_get hlt)
   have hx:=hl.get (k - 1)
   have HC:=Lib.hid hcell
   clear hcell
   generalize hv:l[k - 1]?.getD 0 = x at hcx hx
   have HV:=Lib.hid hv
   clear hv
   by_cases hx0:x = 0
   ·subst hx0
    go_wp2
    go_round
    case rel =>
     refine ⟨k - 1,by omega,?_,fun i hi=>?_⟩
     ·rfl
     ·by_cases e:i = k - 1
      ·subst e;exact HV.out
      ·exact HZ.out i (by omega)
    case measure=>simp;omega
   ·go_wp2
    go_ret
    exact ⟨by rw [← trim_end hl hk HZ.out (.inr (by rw [HV.out];exact hx0))];rfl,rfl⟩
end Go.Proofs.YtigapglmipmbeaaGreatDoor
namespace Go.Proofs.YtigapglmipmbeaaGreatDoor
open Go.RowKit Go.Shelf
open Lim
attribute [local go_sem] Oper.semAt_some
attribute [local go_sem ↓] inAt_zero inAt_succ
theorem quo_cast (r x d:Nat):((r:Int) * 1000000000 + (x:Int)) / (d:Int) = (((r * B + x) / d:Nat):Int):=by rw [B_val,Int.natCast_ediv,Int.natCast_add,Int.natCast_mul];rfl
theorem rem_cast (r x d:Nat):((r:Int) * 1000000000 + (x:Int)) % (d:Int) = (((r * B + x) % d:Nat):Int):=by rw [B_val,Int.natCast_emod,Int.natCast_add,Int.natCast_mul];rfl
theorem small_any (x d : Nat) (vx : Value) (w : World) (hx : IsNat w vx x) (hlx : (toL x).length ≤ 40000) (hd0 : 0 < d) (hd : d < 1000000000) :
    Calls Tryz.prog 305 #[vx, .int .u64 (d : Int)] w fun e w' => ∃ v, e = .returned (.tuple #[v, .int .u64 ((x % d : Nat) : Int)]) ∧ IsNat w' v (x / d) ∧ Below w.heap.size w w' := by
  obtain ⟨A, c, rfl, hc, hcm, hra⟩ := hx
  obtain ⟨i0, hi, hz0, hz1, hz2⟩ := info_parts Tryz.infoU
  have hmk := fun W => run_makeN (P := Tryz.prog) Tryz.underlying214 hi hz0 hz1 hz2 (n := (toL x).length) (by omega) rfl W
  refine (callsIn_wide (n := 3)).1 ?_
  have h1 : 1 ≤ 3 := by omega
  refine callsIn_of_wp_marks Tryz.func305 rfl trivial ?_ rfl
  simp only [Tryz.ntmps305, List.size_toArray, List.length_cons, List.length_nil, Nat.reduceAdd, Nat.reduceSub, Array.replicate_succ, Array.replicate_zero, List.push_toArray, List.append_toArray, List.nil_append, List.cons_append]
  gi_wp2_with (refine ⟨trivial, ?_⟩; gi_at_call 275; refine (backward_in Fence.wide 2 trivial rfl _ _ _ _).mono ?_; rintro e w' ⟨rfl, rfl⟩)
  clear hmk
  have hB0 : Below w.heap.size w ((((((w.alloc (.cells #[.slice A (toL x).length c] 214)).alloc (.cells #[.int .u64 (d : Int)] 117)).alloc (.cells (madeCells #[.int .u64 0] (toL x).length) 117)).alloc (.cells #[.slice (some ⟨w.heap.size + 1 + 1, 0, none⟩) (toL x).length (toL x).length] 214)).alloc (.cells #[.int .u64 0] 117)).alloc (.cells #[.slice A (toL x).length c] 214)) := by go_grown
  have b0 : Boxed ((((((w.alloc (.cells #[.slice A (toL x).length c] 214)).alloc (.cells #[.int .u64 (d : Int)] 117)).alloc (.cells (madeCells #[.int .u64 0] (toL x).length) 117)).alloc (.cells #[.slice (some ⟨w.heap.size + 1 + 1, 0, none⟩) (toL x).length (toL x).length] 214)).alloc (.cells #[.int .u64 0] 117)).alloc (.cells #[.slice A (toL x).length c] 214)) w.heap.size 214 (.slice A (toL x).length c) := (((((Boxed.new w _ _).alloc _).alloc _).alloc _).alloc _).alloc _
  have b1 : Boxed ((((((w.alloc (.cells #[.slice A (toL x).length c] 214)).alloc (.cells #[.int .u64 (d : Int)] 117)).alloc (.cells (madeCells #[.int .u64 0] (toL x).length) 117)).alloc (.cells #[.slice (some ⟨w.heap.size + 1 + 1, 0, none⟩) (toL x).length (toL x).length] 214)).alloc (.cells #[.int .u64 0] 117)).alloc (.cells #[.slice A (toL x).length c] 214)) (w.heap.size + 1) 117 (.int .u64 (d : Int)) := by
    have := ((((Boxed.new (w.alloc (.cells #[.slice A (toL x).length c] 214)) 117 (.int .u64 (d : Int))).alloc (.cells (madeCells #[.int .u64 0] (toL x).length) 117)).alloc (.cells #[.slice (some ⟨w.heap.size + 1 + 1, 0, none⟩) (toL x).length (toL x).length] 214)).alloc (.cells #[.int .u64 0] 117)).alloc (.cells #[.slice A (toL x).length c] 214)
    simpa only [World.size_alloc] using this
  have b2 : Blk ((((((w.alloc (.cells #[.slice A (toL x).length c] 214)).alloc (.cells #[.int .u64 (d : Int)] 117)).alloc (.cells (madeCells #[.int .u64 0] (toL x).length) 117)).alloc (.cells #[.slice (some ⟨w.heap.size + 1 + 1, 0, none⟩) (toL x).length (toL x).length] 214)).alloc (.cells #[.int .u64 0] 117)).alloc (.cells #[.slice A (toL x).length c] 214)) (w.heap.size + 1 + 1) 117 (U64 (List.replicate (toL x).length 0)).toArray := by
    rw [← U64_zeros]
    have := (((Blk.new ((w.alloc (.cells #[.slice A (toL x).length c] 214)).alloc (.cells #[.int .u64 (d : Int)] 117)) 117 (madeCells #[.int .u64 0] (toL x).length)).alloc (.cells #[.slice (some ⟨w.heap.size + 1 + 1, 0, none⟩) (toL x).length (toL x).length] 214)).alloc (.cells #[.int .u64 0] 117)).alloc (.cells #[.slice A (toL x).length c] 214)
    simpa only [World.size_alloc] using this
  have b3 : Boxed ((((((w.alloc (.cells #[.slice A (toL x).length c] 214)).alloc (.cells #[.int .u64 (d : Int)] 117)).alloc (.cells (madeCells #[.int .u64 0] (toL x).length) 117)).alloc (.cells #[.slice (some ⟨w.heap.size + 1 + 1, 0, none⟩) (toL x).length (toL x).length] 214)).alloc (.cells #[.int .u64 0] 117)).alloc (.cells #[.slice A (toL x).length c] 214)) (w.heap.size + 1 + 1 + 1) 214 (.slice (some ⟨w.heap.size + 1 + 1, 0, none⟩) (toL x).length (toL x).length) := by
    have := ((Boxed.new (((w.alloc (.cells #[.slice A (toL x).length c] 214)).alloc (.cells #[.int .u64 (d : Int)] 117)).alloc (.cells (madeCells #[.int .u64 0] (toL x).length) 117)) 214 (.slice (some ⟨w.heap.size + 1 + 1, 0, none⟩) (toL x).length (toL x).length)).alloc (.cells #[.int .u64 0] 117)).alloc (.cells #[.slice A (toL x).length c] 214)
    simpa only [World.size_alloc] using this
  have b4 : Boxed ((((((w.alloc (.cells #[.slice A (toL x).length c] 214)).alloc (.cells #[.int .u64 (d : Int)] 117)).alloc (.cells (madeCells #[.int .u64 0] (toL x).length) 117)).alloc (.cells #[.slice (some ⟨w.heap.size + 1 + 1, 0, none⟩) (toL x).length (toL x).length] 214)).alloc (.cells #[.int .u64 0] 117)).alloc (.cells #[.slice A (toL x).length c] 214)) (w.heap.size + 1 + 1 + 1 + 1) 117 (.int .u64 0) := by
    have := (Boxed.new ((((w.alloc (.cells #[.slice A (toL x).length c] 214)).alloc (.cells #[.int .u64 (d : Int)] 117)).alloc (.cells (madeCells #[.int .u64 0] (toL x).length) 117)).alloc (.cells #[.slice (some ⟨w.heap.size + 1 + 1, 0, none⟩) (toL x).length (toL x).length] 214)) 117 (.int .u64 0)).alloc (.cells #[.slice A (toL x).length c] 214)
    simpa only [World.size_alloc] using this
  have b5 : Boxed ((((((w.alloc (.cells #[.slice A (toL x).length c] 214)).alloc (.cells #[.int .u64 (d : Int)] 117)).alloc (.cells (madeCells #[.int .u64 0] (toL x).length) 117)).alloc (.cells #[.slice (some ⟨w.heap.size + 1 + 1, 0, none⟩) (toL x).length (toL x).length] 214)).alloc (.cells #[.int .u64 0] 117)).alloc (.cells #[.slice A (toL x).length c] 214)) (w.heap.size + 1 + 1 + 1 + 1 + 1) 214 (.slice A (toL x).length c) := by
    have := Boxed.new (((((w.alloc (.cells #[.slice A (toL x).length c] 214)).alloc (.cells #[.int .u64 (d : Int)] 117)).alloc (.cells (madeCells #[.int .u64 0] (toL x).length) 117)).alloc (.cells #[.slice (some ⟨w.heap.size + 1 + 1, 0, none⟩) (toL x).length (toL x).length] 214)).alloc (.cells #[.int .u64 0] 117)) 214 (.slice A (toL x).length c)
    simpa only [World.size_alloc] using this
  generalize hW0 : ((((((w.alloc (.cells #[.slice A (toL x).length c] 214)).alloc (.cells #[.int .u64 (d : Int)] 117)).alloc (.cells (madeCells #[.int .u64 0] (toL x).length) 117)).alloc (.cells #[.slice (some ⟨w.heap.size + 1 + 1, 0, none⟩) (toL x).length (toL x).length] 214)).alloc (.cells #[.int .u64 0] 117)).alloc (.cells #[.slice A (toL x).length c] 214)) = W0 at *
  have hsz : W0.heap.size = w.heap.size + 1 + 1 + 1 + 1 + 1 + 1 := by rw [← hW0]; simp
  clear hW0
  refine wpIn_range_ord rfl h1 (gf := 302) (lb := #[.pointer (some ⟨w.heap.size + 1 + 1 + 1 + 1 + 1, 0, none⟩)]) rfl trivial eg_back
    (back_seq Fence.wide 2 trivial rfl (by omega) (fun i z => z = (((toL x)[i]?.getD 0 : Nat) : Int)) (w.heap.size + 1 + 1 + 1 + 1 + 1) A (toL x).length c (by omega)) (fun _ => rfl)
    (fun pre W => ∃ (O : List Nat) (r : Nat), DivInv (toL x) d ((toL x).length - pre.length) O r ∧ pre.length ≤ (toL x).length ∧ Boxed W w.heap.size 214 (.slice A (toL x).length c) ∧ Boxed W (w.heap.size + 1) 117 (.int .u64 (d : Int)) ∧ Blk W (w.heap.size + 1 + 1) 117 (U64 O).toArray ∧
      Boxed W (w.heap.size + 1 + 1 + 1) 214 (.slice (some ⟨w.heap.size + 1 + 1, 0, none⟩) (toL x).length (toL x).length) ∧ Boxed W (w.heap.size + 1 + 1 + 1 + 1) 117 (.int .u64 (r : Int)) ∧ Boxed W (w.heap.size + 1 + 1 + 1 + 1 + 1) 214 (.slice A (toL x).length c) ∧ Below w.heap.size w W)
    (fun _ _ _ => False)
    ?hG ?hI (fun c s W W' row hs _ _ => hs) ⟨_, 0, by rw [List.length_nil, Nat.sub_zero]; exact DivInv.start (toL x) hd0, by simp, b0, b1, b2, b3, b4, b5, hB0⟩ ?round ?done ?stop
  case hG =>
    rintro pre W ⟨O, r, _, _, _, _, _, _, _, b5, hB⟩
    refine ⟨b5.cell, fun h0 => ?_⟩
    obtain ⟨b, o, rfl, hb, hcell⟩ := hra.later hB (by rw [U64_length]; exact h0)
    exact ⟨b, o, rfl, fun i hi => ⟨_, hcell i _ (U64_get hi), rfl⟩⟩
  case hI =>
    rintro s W W' row ⟨O, r, g1, g2, g3, g4, g5, g6, g7, g8, g9⟩ hg hr
    exact ⟨O, r, g1, g2, bx_own g3 hg hr, bx_own g4 hg hr, g5.own_ hg hr, bx_own g6 hg hr, bx_own g7 hg hr, bx_own g8 hg hr, below_own_ g9 (Nat.le_refl _) (by omega) hg hr⟩
  case round =>
    rintro l pre ⟨i, z⟩ W K hi hnx hK
    have HNX := Lib.hid hnx
    clear hnx b0 b1 b2 b3 b4 b5 hB0
    gi_wp2
    refine hK _ _ (KeepsOthers.refl _) hi ?_
    clear hK hi
    rintro Wb _ ⟨O, r, hdiv, hpl, b0, b1, b2, b3, b4, b5, hB⟩
    obtain ⟨m, hm, hcame, hieq, hz⟩ := HNX.out
    dsimp only at hieq hz
    have hml := hcame.length
    have hil : i < (toL x).length := by omega
    have hrd := hdiv.2.2.2
    have hOl := hdiv.2.1
    have HDV := Lib.hid (show DivInv (toL x) d (i + 1) O r by have e : (toL x).length - pre.length = i + 1 := by omega
                                                              rw [e] at hdiv; exact hdiv)
    have HLN := Lib.hid (show pre.length = (toL x).length - 1 - i by omega)
    clear hdiv hcame hml
    obtain ⟨b, o, rfl, hb, hcell⟩ := hra.later hB (by rw [U64_length]; omega)
    have hcx := hcell i _ (U64_get hil)
    have hxB := (sm_toL x).get i
    rw [B_val] at hxB
    have HST := Lib.hid (fun n (hn : n = r * B + (toL x)[i]?.getD 0) => HDV.out.step (sm_toL x) hil hn)
    generalize (toL x)[i]?.getD 0 = x0 at *
    have hst1 := b2.getU (i := i) (by omega)
    have hst2 := b2.frozen i
    have c0 := b0.cell
    have c1 := b1.cell
    have c3 := b3.cell
    have c4 := b4.cell
    have f4 := b4.frozen
    have hi0 : (0 : Int) ≤ (i : Int) := by omega
    have hi1 : (i : Int) < ((toL x).length : Int) := by omega
    have hmx : Tryz.prog.follows .mixedOrders = true := by kernel_rfl
    have HEQ := Lib.hid hieq
    have HHM := Lib.hid (And.intro hm hOl)
    have HB5 := Lib.hid (And.intro b5 hB)
    clear hieq hz hcell hra hm hOl hB
    gi_wp2
    refine wpIn_quiet_round hmx (by kernel_rfl) (by kernel_rfl) ?_
    repeat (gi_big_quiet_step (fail))
    refine wpQuietIn_nil ?_
    intro _ hw'
    obtain ⟨nq, hw''⟩ := hw'
    subst hw''
    gi_wp2
    obtain ⟨O', hO'⟩ : ∃ O', O' = O.set i ((r * B + x0) / d) := ⟨_, rfl⟩
    have hbw := b0.lt
    have x0' : ∀ X : SameAt Wb (fun k => k ≠ w.heap.size + 1 + 1 ∧ k ≠ w.heap.size + 1 + 1 + 1 + 1), X.W.cell? ⟨w.heap.size + 1, 0, none⟩ = _ := fun X => X.cell (by constructor <;> omega) c1
    have x3' : ∀ X : SameAt Wb (fun k => k ≠ w.heap.size + 1 + 1 ∧ k ≠ w.heap.size + 1 + 1 + 1 + 1), X.W.cell? ⟨w.heap.size + 1 + 1 + 1, 0, none⟩ = _ := fun X => X.cell (by constructor <;> omega) c3
    refine wpIn_stage (IsSame Wb (fun k => k ≠ w.heap.size + 1 + 1 ∧ k ≠ w.heap.size + 1 + 1 + 1 + 1)) [0, 1, 2, 3, 4, 5, 6, 7, 8] [] hmx (by kernel_rfl) (isSame_of fun _ _ => rfl) ?_
    change wpStage _ _ _ _ _ _ _ _ (2 + 9) _ _ _
    refine stage_reads [0, 1, 2, 3, 4, 5, 6, 7, 8] 2 _ _ (by kernel_rfl) ?_
    change wpQuietIn _ _ _ _ (fun W => ∃ x : SameAt Wb (fun k => k ≠ w.heap.size + 1 + 1 ∧ k ≠ w.heap.size + 1 + 1 + 1 + 1), W = x.W) _ _ _
    simp only [pick_cons, pick_nil, List.getElem?_cons_zero, List.getElem?_cons_succ, Option.elim_some]
    repeat (gi_big_quiet_step (fail))
    refine wpQuietIn_nil ?_
    refine stage_one 9 (by kernel_rfl) rfl ?_
    gi_wp2
    refine stage_post (isSame_of fun k hk => Below.heap_setCell _ _ _ k hk.1) ?_
    have e1 : ((r : Int) * 1000000000 + (x0 : Int)) / (d : Int) = (((r * B + x0) / d : Nat) : Int) := quo_cast r x0 d
    have e2 : ((r : Int) * 1000000000 + (x0 : Int)) % (d : Int) = (((r * B + x0) % d : Nat) : Int) := rem_cast r x0 d
    rw [e1, e2]
    generalize hn : r * B + x0 = n at *
    have HST2 := Lib.hid (HST.out n rfl)
    generalize hqd : n / d = qd at *
    generalize hrm : n % d = rm at *
    have q0 : Boxed ((Wb.drewN (nq + 1)).setCell ⟨w.heap.size + 1 + 1, i, none⟩ (.int .u64 (qd : Int))) w.heap.size 214 _ := bx_far b0 (by intro e; dsimp only at e; omega) _
    have q1 : Boxed ((Wb.drewN (nq + 1)).setCell ⟨w.heap.size + 1 + 1, i, none⟩ (.int .u64 (qd : Int))) (w.heap.size + 1) 117 _ := bx_far b1 (by intro e; dsimp only at e; omega) _
    have q2 : Blk ((Wb.drewN (nq + 1)).setCell ⟨w.heap.size + 1 + 1, i, none⟩ (.int .u64 (qd : Int))) (w.heap.size + 1 + 1) 117 (U64 (O.set i qd)).toArray := Blk.setU (w := Wb.drewN (nq + 1)) b2 i qd
    have q3 : Boxed ((Wb.drewN (nq + 1)).setCell ⟨w.heap.size + 1 + 1, i, none⟩ (.int .u64 (qd : Int))) (w.heap.size + 1 + 1 + 1) 214 _ := bx_far b3 (by intro e; dsimp only at e; omega) _
    have q4 : Boxed ((Wb.drewN (nq + 1)).setCell ⟨w.heap.size + 1 + 1, i, none⟩ (.int .u64 (qd : Int))) (w.heap.size + 1 + 1 + 1 + 1) 117 _ := bx_far b4 (by intro e; dsimp only at e; omega) _
    have q5 : Boxed ((Wb.drewN (nq + 1)).setCell ⟨w.heap.size + 1 + 1, i, none⟩ (.int .u64 (qd : Int))) (w.heap.size + 1 + 1 + 1 + 1 + 1) 214 _ := bx_far HB5.out.1 (by intro e; dsimp only at e; omega) _
    have qB : Below w.heap.size w ((Wb.drewN (nq + 1)).setCell ⟨w.heap.size + 1 + 1, i, none⟩ (.int .u64 (qd : Int))) := (below_drewN' HB5.out.2 (nq + 1)).setCell (p := ⟨w.heap.size + 1 + 1, i, none⟩) (by simp; omega) _
    have qK : KeepsOthers Wb ((Wb.drewN (nq + 1)).setCell ⟨w.heap.size + 1 + 1, i, none⟩ (.int .u64 (qd : Int))) := (keeps_drewN _ (nq + 1)).trans (KeepsOthers.setCell _ _ _)
    have qS : ∀ k, k ≠ w.heap.size + 1 + 1 → ((Wb.drewN (nq + 1)).setCell ⟨w.heap.size + 1 + 1, i, none⟩ (.int .u64 (qd : Int))).heap[k]? = Wb.heap[k]? := fun k hk => Below.heap_setCell _ _ _ k hk
    generalize (Wb.drewN (nq + 1)).setCell ⟨w.heap.size + 1 + 1, i, none⟩ (.int .u64 (qd : Int)) = W1 at *
    clear c0 c1 c3 c4 f4 hst1 hst2 x0' x3'
    have c4 := q4.cell
    have f4 := q4.frozen
    refine stage_one 10 (by kernel_rfl) rfl ?_
    gi_wp2
    refine stage_post (isSame_of fun k hk => (Below.heap_setCell _ _ _ k hk.2).trans (qS k hk.1)) ?_
    refine stage_done (by kernel_rfl) ?_
    gi_wp2
    refine ⟨qK.trans (KeepsOthers.setCell _ _ _), O.set i qd, rm, ?_, ?_, bx_far q0 (by intro e; dsimp only at e; omega) _, bx_far q1 (by intro e; dsimp only at e; omega) _, q2.far (by intro e; dsimp only at e; omega) _, bx_far q3 (by intro e; dsimp only at e; omega) _, Boxed.set _ q4, bx_far q5 (by intro e; dsimp only at e; omega) _, qB.setCell (p := ⟨w.heap.size + 1 + 1 + 1 + 1, 0, none⟩) (by dsimp only; omega) _⟩
    · rw [List.length_append, List.length_singleton, show (toL x).length - (pre.length + 1) = i by have := HLN.out; omega]; exact HST2.out
    · rw [List.length_append, List.length_singleton]; have := HLN.out; have := HHM.out.1; omega
  case done =>
    rintro D ys W hD hS ⟨O, r, hdiv, hpl, b0, b1, b2, b3, b4, b5, hB⟩ hK
    have hlen := hS.length
    rw [hlen, Nat.sub_self] at hdiv
    obtain ⟨d1, d2⟩ := hdiv.done
    rw [val_toL] at d1 d2
    have hO := hdiv.1
    have hOl := hdiv.2.1
    subst d2
    have HD1 := Lib.hid d1
    have hrow := b2.row
    clear hdiv hS d1
    have c3 := b3.cell
    have c4 := b4.cell
    have hmx : Tryz.prog.follows .mixedOrders = true := by kernel_rfl
    gi_wp2
    have x3' : ∀ X : SameAt W (fun _ => True), X.W.cell? ⟨w.heap.size + 1 + 1 + 1, 0, none⟩ = _ := fun X => X.cell trivial c3
    have x4' : ∀ X : SameAt W (fun _ => True), X.W.cell? ⟨w.heap.size + 1 + 1 + 1 + 1, 0, none⟩ = _ := fun X => X.cell trivial c4
    refine wpIn_stage (IsSame W (fun _ => True)) [0, 2, 3, 4] [] hmx (by kernel_rfl) (isSame_of fun _ _ => rfl) ?_
    change wpStage _ _ _ _ _ _ _ _ (3 + 2) _ _ _
    refine stage_reads [0, 2] 3 _ _ (by kernel_rfl) ?_
    change wpQuietIn _ _ _ _ (fun W' => ∃ x : SameAt W (fun _ => True), W' = x.W) _ _ _
    simp only [pick_cons, pick_nil, List.getElem?_cons_zero, List.getElem?_cons_succ, Option.elim_some]
    repeat (gi_big_quiet_step (fail))
    refine wpQuietIn_nil ?_
    refine stage_one 1 (by kernel_rfl) rfl ?_
    gi_wp2
    refine ⟨trivial, ?_⟩
    refine (callsIn_wide.2 (trim_any O _ _ _ W.drew hOl.symm hO (Nat.le_of_eq hOl) (by unfold maxLen; omega) hrow)).mono ?_
    rintro e w' ⟨rfl, rfl⟩
    gi_wp2
    refine stage_post (isSame_of fun _ _ => rfl) ?_
    change wpStage _ _ _ _ _ _ _ _ (0 + 2) _ _ _
    refine stage_reads [3, 4] 0 _ _ (by kernel_rfl) ?_
    change wpQuietIn _ _ _ _ (fun W' => ∃ x : SameAt W (fun _ => True), W' = x.W) _ _ _
    simp only [pick_cons, pick_nil, List.getElem?_cons_zero, List.getElem?_cons_succ, Option.elim_some]
    repeat (gi_big_quiet_step (fail))
    refine wpQuietIn_nil ?_
    refine stage_done (by kernel_rfl) ?_
    gi_wp2
    refine ⟨by simp, .inl ⟨_, _, rfl, run_takeDeferred (show W.drew.heap[D]? = _ from hK), ?_⟩⟩
    refine ⟨_, results_tmp2 rfl _ _ _, ⟨_, rfl, ?_, ?_⟩⟩
    · have hb2 := b2.own_ (B := 0) (grownBy_putObj' W D (.deferred none)) (fun r e => by cases e; exact ⟨Nat.zero_le _, _, hK, rfl⟩)
      have hfin := isNat_trim hO hb2.row (c := (toL x).length) (Nat.le_of_eq hOl) (by unfold maxLen; omega) HD1.out
      rw [← HD1.out] at hfin ⊢
      exact hfin
    · have hBd : Below w.heap.size w W.drew := ⟨hB.os, hB.tape, hB.output, hB.size, hB.block⟩
      exact hBd.trans (belowK_b (w := w) (Nat.le_refl _) W.drew D _ _ (by omega) hK rfl rfl)
  case stop =>
    rintro D c pre x' W hD _ h _
    exact h.elim
end Go.Proofs.YtigapglmipmbeaaGreatDoor
