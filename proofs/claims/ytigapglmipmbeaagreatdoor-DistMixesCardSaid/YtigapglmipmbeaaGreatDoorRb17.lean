/- (printed by mkstage2.py) Regions that draw their order, in stages; a slot may be read by a read and written by one of the others that waits for it: reads (guarded or not) may come as soon as their edges allow, also behind some of the others; the others come in any order that their edges allow. What Make, Mix, Push and Product give, as rationals. No program in sight. Distributions with a common denominator of few digits: Make, Mix, Push and Product keep them. No program in sight. What Delta, Factor and Moment give, as rationals. No program in sight. Opening and shutting an argument that is a loss. Slices of structs with slices in them, in memory: how they read, how they are built, what keeps them. Plain words, no program. Opening arguments: lists of masses, of losses, of strings. Facts of the program that each card asks. -/
import Derived.Test.YtigapglmipmbeaaGreatDoorRb03
import Derived.Test.YtigapglmipmbeaaGreatDoorRb11
import Derived.Test.YtigapglmipmbeaaGreatDoorRb10
import Derived.ProofKit
import Derived.OpenShut
import Derived.ShutString
import Derived.ChangeOld
import Derived.ChangeSame
import Derived.Test.YtigapglmipmbeaaGreatDoorProg
import Derived.WalkKit
import Derived.Handy
import Derived.Lib.Hide
import Derived.BigQuiet
import Derived.Maps.OwnSet
import Derived.Maps.StringElems
import Derived.Maps.AppendAt
import Derived.WalkLawsBesides
import Derived.WalkSpells
import Derived.ChangeSlices
import Derived.Deep.Slices
import Derived.Lib.SmallJoins
import Derived.Test.YtigapglmipmbeaaGreatDoorCards
import Derived.Test.YtigapglmipmbeaaGreatDoorTie
import Derived.KernelRfl
import Derived.SevenTiedAt
set_option maxRecDepth 100000
set_option maxHeartbeats 16000000
namespace Go.Proofs.YtigapglmipmbeaaGreatDoor.S2
open Go.RowKit Go.Proofs.YtigapglmipmbeaaGreatDoor
def bareRead (o:Oper):Bool:=pureRead { o with guard:=none }
def stageOk (ops:List Oper) (H:List Nat):Bool :=
 (List.range ops.length).all fun j=>match ops[j]? with
  | none=>true
  | some o=>ownEdges j o && noDefer o && noSel o && (match o.guard with | none=>true | some (k,_)=>waitsOn o k) &&
   (if H.contains j then bareRead o && farOf o o.dst else true) &&
   (List.range ops.length).all fun i=>i == j || (match ops[i]? with | none=>true | some h=>(waitsOn o i || (farOf o h.dst || (waitsOn h j && !H.contains i))) && (h.dst.isNone || h.dst != o.dst))
structure StOk (ops:List Oper) (H:List Nat) (j:Nat) (o:Oper):Prop where
 edges:ownEdges j o = true
 nd:noDefer o = true
 ns:noSel o = true
 gd:∀ k b,o.guard = some (k,b)→waitsOn o k = true
 rd:j∈H→bareRead o = true∧farOf o o.dst = true
 far:∀ i h,i≠j→ops[i]? = some h→(waitsOn o i = true ∨ farOf o h.dst = true ∨ (waitsOn h j = true∧i ∉ H))∧(h.dst = none ∨ h.dst≠o.dst)
theorem stage_at {ops:List Oper} {H:List Nat} (hok:stageOk ops H = true) {j:Nat} {o:Oper} (hj:ops[j]? = some o):StOk ops H j o:=by
 have hlt:j < ops.length:=(List.getElem?_eq_some_iff.1 hj).1
 have h2:=List.all_eq_true.1 hok j (List.mem_range.2 hlt)
 rw [hj] at h2
 simp only [Bool.and_eq_true] at h2
 obtain ⟨⟨⟨⟨⟨h3,h4⟩,h5⟩,h6⟩,h7⟩,h8⟩:=h2
 refine ⟨h3,h4,h5,fun k b hg=>?_,fun hm=>?_,fun i h hne hi=>?_⟩
 ·rw [hg] at h6;exact h6
 ·rw [if_pos (by simpa using hm)] at h7;simpa using h7
 ·have:=List.all_eq_true.1 h8 i (List.mem_range.2 (List.getElem?_eq_some_iff.1 hi).1)
  rw [hi] at this
  simp only [Bool.or_eq_true,beq_iff_eq,Bool.and_eq_true,Option.isNone_iff_eq_none,bne_iff_ne] at this
  rcases this with h | h
  ·exact absurd h hne
  ·refine ⟨?_,h.2⟩
   rcases h.1 with h1 | h1 | h1
   ·exact .inl h1
   ·exact .inr (.inl h1)
   ·exact .inr (.inr ⟨h1.1,by have h2:=h1.2;simpa using h2⟩)
section
variable {F:Fence} {n:Nat} {P:Program} {C:World→Prop} {ops:List Oper} {H:List Nat}
theorem bare_runs {o:Oper} {a:Act} {K':Act→World→Prop} {Q:Exit→Act→World→Prop} {w:World} {v:Value} (hp:bareRead o = true) (hrun:o.quietAtIn F n P a C w v) (hK:K' (a.put o.dst v) w)
  (ha:∀ f,o.about P w a.eval = some f→F.fn f):o.wpIn F n P a w K' Q:=pure_runs (o:={ o with guard:=none }) hp hrun hK ha
theorem wanted_of {o:Oper} {a b:Act} (h:∀ k bb,o.guard = some (k,bb)→∀ s,(ops[k]?).bind (·.dst) = some s→a.tmps[s]? = b.tmps[s]?) :
  Region.wanted o (yielded ops.toArray a.tmps) = Region.wanted o (yielded ops.toArray b.tmps):=by
 unfold Region.wanted
 cases hg:o.guard with
 | none=>rfl
 | some kb =>
  obtain ⟨k,bb⟩:=kb
  have:yielded ops.toArray a.tmps k = yielded ops.toArray b.tmps k:=by
   unfold yielded
   rw [List.getElem?_toArray]
   cases hd:(ops[k]?).bind (·.dst) with
   | none=>rfl
   | some s =>
    simp only [Option.bind_some]
    rw [h k bb hg s hd]
  simp only [this]
def HeadVal (F:Fence) (n:Nat) (P:Program) (C:World→Prop) (ops:List Oper) (o:Oper) (b:Act) (v:Value):Prop :=
 o.askedIn F P b C∧((Region.wanted o (yielded ops.toArray b.tmps) = true∧∀ w,C w→o.quietAtIn F n P b C w v) ∨ (Region.wanted o (yielded ops.toArray b.tmps) = false∧v = undef))
theorem slot_other {b:Act} {d:Option Tmp} {u:Value} {s:Tmp} (h:d≠some s):(b.put d u).tmps[s]? = b.tmps[s]?:=by
 cases d with
 | none=>rfl
 | some e=>rw [put_get,if_neg (fun h'=>h (by rw [h'.1]))]
theorem HeadVal.of {o:Oper} {a b:Act} {v:Value} (h:HeadVal F n P C ops o b v) (hns:noSel o = true) (hev:∀ x∈o.op.operands,a.eval x = b.eval x)
  (hg:∀ k bb,o.guard = some (k,bb)→∀ s,(ops[k]?).bind (·.dst) = some s→a.tmps[s]? = b.tmps[s]?):HeadVal F n P C ops o a v:=by
 obtain ⟨h1,h2⟩:=h
 obtain ⟨e1,e2⟩:=quietAt_of (P:=P) (sel_of hns) hev
 refine ⟨fun w hw f hf=>h1 w hw f (by rw [← e2];exact hf),?_⟩
 rw [wanted_of hg]
 rcases h2 with ⟨hw,hq⟩ | h2
 ·refine .inl ⟨hw,fun w hw=>?_⟩
  have:=hq w hw
  unfold Oper.quietAtIn at this ⊢
  rw [e1]
  exact this
 ·exact .inr h2
def wpStage (F:Fence) (n:Nat) (P:Program) (ops:List Oper) (H:List Nat) (C:World→Prop) (waits:Nat→Bool) (Q':Act→World→Prop):Nat→Array Bool→Act→World→Prop
 | 0,LT,b,w=>Region.ready .any ops.toArray LT = []∧Q' b w
 | f + 1,LT,b,w =>
  (∃ i o,i∈H∧i∈Region.ready .any ops.toArray LT∧ops[i]? = some o∧∃ v,HeadVal F n P C ops o b v∧wpStage F n P ops H C waits Q' f (LT.setIfInBounds i true) (b.put o.dst v) w) ∨
  ((Region.ready .any ops.toArray LT = []→Q' b w) ∧
   ∀ j∈Region.ready .any ops.toArray LT,∀ o,ops[j]? = some o→wpListIn F n P ops.toArray (fun e a' w'=>e = .normal∧(waits j = false→C w')∧wpStage F n P ops H C waits Q' f (LT.setIfInBounds j true) a' w') [o] b w)
def Owed (H:List Nat) (L LT:Array Bool) (i:Nat):Prop:=i∈H∧LT[i]? = some true∧L[i]? = some false
def Known (F:Fence) (n:Nat) (P:Program) (C:World→Prop) (ops:List Oper) (H:List Nat) (L LT:Array Bool) (b:Act):Prop :=
 ∀ i o,Owed H L LT i→ops[i]? = some o→∃ v,b.put o.dst v = b∧HeadVal F n P C ops o b v
theorem set_get {L:Array Bool} {j i:Nat} (hj:j < L.size):(L.setIfInBounds j true)[i]? = if j = i then some true else L[i]?:=by
 by_cases h:j = i
 ·subst h;rw [if_pos rfl,Array.getElem?_setIfInBounds_self_of_lt hj]
 ·rw [if_neg h,Array.getElem?_setIfInBounds_ne h]
theorem get_or {L:Array Bool} {i:Nat} (h:i < L.size):L[i]? = some true ∨ L[i]? = some false:=by
 rw [Array.getElem?_eq_getElem h]
 cases L[i] <;> simp
theorem owed_agree (hok:stageOk ops H = true) {L LT:Array Bool} (_hs1:L.size = ops.length) {a b:Act} (hl:Lack ops (Owed H L LT) a b) {j:Nat} {o:Oper} (hoj:ops[j]? = some o) (hself:Owed H L LT j→farOf o o.dst = true)
  (hall:∀ k,waitsOn o k = true→L[k]? = some true):(∀ x∈o.op.operands,a.eval x = b.eval x)∧∀ k bb,o.guard = some (k,bb)→∀ s,(ops[k]?).bind (·.dst) = some s→a.tmps[s]? = b.tmps[s]?:=by
 have hS:=stage_at hok hoj
 refine ⟨hl.eval fun i h' hi hh d hd=>?_,fun k bb hg s hs=>hl.same s fun i h' hi hh e=>?_⟩
 ·by_cases hij:i = j
  ·subst hij
   rw [hoj] at hh;cases hh
   exact farOf_spec (hself hi) d hd
  ·rcases (hS.far i h' hij hh).1 with hw | hf | hf
   ·have:=hall i hw
    rw [hi.2.2] at this;cases this
   ·exact farOf_spec hf d hd
   ·exact absurd hi.1 hf.2
 ·have hk:=hall k (hS.gd k bb hg)
  have hik:i≠k:=fun e'=>by subst e';rw [hi.2.2] at hk;cases hk
  obtain ⟨ok,hok',hd⟩:=Option.bind_eq_some_iff.1 hs
  rcases ((stage_at hok hok').far i h' hik hh).2 with h0 | h0
  ·rw [h0] at e;cases e
  ·exact h0 (by rw [e,hd])
theorem known_put (hok:stageOk ops H = true) {L LT:Array Bool} {b:Act} (hk:Known F n P C ops H L LT b) {j:Nat} {o:Oper} (hoj:ops[j]? = some o) (hj:LT[j]? = some false)
  (hcl:∀ i o,i∈H→LT[i]? = some true→ops[i]? = some o→∀ k,waitsOn o k = true→LT[k]? = some true) (u:Value) {i:Nat} {oi:Oper} (hi:Owed H L LT i) (hoi:ops[i]? = some oi) (hno:waitsOn o i = true→j∈H) :
  ∃ v,(b.put o.dst u).put oi.dst v = b.put o.dst u∧HeadVal F n P C ops oi (b.put o.dst u) v:=by
 obtain ⟨v,h1,h2⟩:=hk i oi hi hoi
 have hij:i≠j:=fun e=>by subst e;rw [hi.2.1] at hj;cases hj
 have hSi:=stage_at hok hoi
 have hSj:=stage_at hok hoj
 have hw:∀ k,waitsOn oi k = true→k≠j:=fun k hk e=>by
  subst e
  have:=hcl i oi hi.1 hi.2.1 hoi k hk
  rw [hj] at this;cases this
 have hfar:=(hSi.far j o (fun e=>hij e.symm) hoj)
 refine ⟨v,?_,h2.of hSi.ns (operands_far (farOf_spec ?_)) fun k bb hg s hs=>slot_other fun e=>?_⟩
 ·rcases hfar.2 with h | h
  ·rw [h];exact h1
  ·have hc:=Act.put_comm b (x:=oi.dst) (y:=o.dst) v u (fun d h1 h2=>h (h2.trans h1.symm))
   rw [← hc,h1]
 ·rcases hfar.1 with h | h | h
  ·exact absurd rfl (hw j h)
  ·exact h
  ·exact absurd (hno h.1) h.2
 ·have hkj:=hw k (hSi.gd k bb hg)
  obtain ⟨ok,hok',hd⟩:=Option.bind_eq_some_iff.1 hs
  rcases (hSj.far k ok hkj hok').2 with h0 | h0
  ·rw [h0] at hd;cases hd
  ·exact h0 (by rw [e,hd])
structure StInv (F:Fence) (n:Nat) (P:Program) (C:World→Prop) (ops:List Oper) (H:List Nat) (L LT:Array Bool) (a b:Act) (w:World):Prop where
 s1:L.size = ops.length
 s2:LT.size = ops.length
 same:∀ i:Nat,i < ops.length→i ∉ H→L[i]? = LT[i]?
 le:∀ i:Nat,L[i]? = some true→LT[i]? = some true
 closed:∀ (i:Nat) (o:Oper),i∈H→LT[i]? = some true→ops[i]? = some o→∀ k,waitsOn o k = true→LT[k]? = some true
 known:(∀ i∈H,i < ops.length→L[i]? = some true) ∨ (C w∧Known F n P C ops H L LT b)
 lack:Lack ops (Owed H L LT) a b
theorem StInv.hoist (hok:stageOk ops H = true) {L LT:Array Bool} {a b:Act} {w:World} (h:StInv F n P C ops H L LT a b w) {i:Nat} {o:Oper} (hi:i∈H) (hoi:ops[i]? = some o) (hLT:LT[i]? = some false)
  (hall:∀ k,waitsOn o k = true→LT[k]? = some true) {v:Value} (hv:HeadVal F n P C ops o b v):StInv F n P C ops H L (LT.setIfInBounds i true) a (b.put o.dst v) w:=by
 have hil:=(List.getElem?_eq_some_iff.1 hoi).1
 have hlt:i < LT.size:=by rw [h.s2];exact hil
 have hLi:L[i]? = some false:=by
  rcases get_or (L:=L) (i:=i) (by rw [h.s1];exact hil) with e | e
  ·have:=h.le i e;rw [hLT] at this;cases this
  ·exact e
 have hS:=stage_at hok hoi
 have hwi:waitsOn o i = true→False:=fun e=>by have:=hall i e;rw [hLT] at this;cases this
 refine ⟨h.s1,by simpa using h.s2,fun k hk hkH=>?_,fun k hk=>?_,fun k ok hk hkT hok' j hj=>?_,?_,?_⟩
 ·rw [set_get hlt,if_neg (fun e=>hkH (by rw [← e];exact hi))];exact h.same k hk hkH
 ·rw [set_get hlt];split
  ·rfl
  ·exact h.le k hk
 ·rw [set_get hlt]
  by_cases e:i = j
  ·rw [if_pos e]
  ·rw [if_neg e]
   by_cases e2:i = k
   ·subst e2;rw [hoi] at hok';cases hok';exact hall j hj
   ·rw [set_get hlt,if_neg e2] at hkT;exact h.closed k ok hk hkT hok' j hj
 ·rcases h.known with hk | ⟨hC,hk⟩
  ·have:=hk i hi hil;rw [hLi] at this;cases this
  ·refine .inr ⟨hC,fun k ok hkO hok'=>?_⟩
   by_cases e:i = k
   ·subst e
    rw [hoi] at hok';cases hok'
    refine ⟨v,put_put_same _ _ _,hv.of hS.ns (operands_far (farOf_spec (hS.rd hi).2)) fun k bb hg s hs=>slot_other fun e=>?_⟩
    have hki:k≠i:=fun e'=>by subst e';exact hwi (hS.gd k bb hg)
    obtain ⟨ok,hok',hd⟩:=Option.bind_eq_some_iff.1 hs
    rcases (hS.far k ok hki hok').2 with h0 | h0
    ·rw [h0] at hd;cases hd
    ·exact h0 (by rw [e,hd])
   ·refine known_put hok hk hoi hLT h.closed v ⟨hkO.1,?_,hkO.2.2⟩ hok' (fun _=>hi)
    have:=hkO.2.1
    rwa [set_get hlt,if_neg e] at this
 ·refine ⟨h.lack.defers.trans (put_defers _ _ _).symm,h.lack.size.trans (put_size _ _ _).symm,fun s hs=>?_⟩
  have h1:=h.lack.same s fun k ok hk hok'=>hs k ok ⟨hk.1,by rw [set_get hlt];split;rfl;exact hk.2.1,hk.2.2⟩ hok'
  rw [h1,slot_other (hs i o ⟨hi,by rw [set_get hlt,if_pos rfl],hLi⟩ hoi)]
theorem StInv.paid (_hok:stageOk ops H = true) {L LT:Array Bool} {a b:Act} {w:World} (h:StInv F n P C ops H L LT a b w) {j:Nat} {o:Oper} (hoj:ops[j]? = some o) (hO:Owed H L LT j) {v:Value} (hb:b.put o.dst v = b) :
  StInv F n P C ops H (L.setIfInBounds j true) LT (a.put o.dst v) b w:=by
 have hjl:j < L.size:=by rw [h.s1];exact (List.getElem?_eq_some_iff.1 hoj).1
 have sub:∀ k,Owed H (L.setIfInBounds j true) LT k→Owed H L LT k:=fun k hk=>by
  refine ⟨hk.1,hk.2.1,?_⟩
  have:=hk.2.2
  rw [set_get hjl] at this
  split at this
  ·cases this
  ·exact this
 refine ⟨by simpa using h.s1,h.s2,fun k hk hkH=>?_,fun k hk=>?_,h.closed,?_,?_⟩
 ·rw [set_get hjl,if_neg (fun e=>hkH (by rw [← e];exact hO.1))];exact h.same k hk hkH
 ·rw [set_get hjl] at hk
  split at hk
  ·rename_i e;rw [← e];exact hO.2.1
  ·exact h.le k hk
 ·rcases h.known with hk | ⟨hC,hk⟩
  ·exact .inl fun k hkH hkl=>by rw [set_get hjl];split;rfl;exact hk k hkH hkl
  ·exact .inr ⟨hC,fun k ok hkO=>hk k ok (sub k hkO)⟩
 ·refine h.lack.head hoj hb fun k hk=>?_
  by_cases e:j = k
  ·exact .inl e.symm
  ·exact .inr ⟨hk.1,hk.2.1,by rw [set_get hjl,if_neg e];exact hk.2.2⟩
theorem StInv.step (hok:stageOk ops H = true) {L LT:Array Bool} {a b a' b':Act} {w w':World} (h:StInv F n P C ops H L LT a b w) {j:Nat} {o:Oper} (hoj:ops[j]? = some o) (_hL:L[j]? = some false) (hLT:LT[j]? = some false)
  (hall:∀ k,waitsOn o k = true→L[k]? = some true) {u:Value} {b0:Act} (hkn:Known F n P C ops H L LT b→Known F n P C ops H L LT b0) (hb':b' = b0.put o.dst u) (hl':Lack ops (Owed H L LT) a' b') (hC':C w' ∨ ∀ i∈H,i < ops.length→waitsOn o i = true) :
  StInv F n P C ops H (L.setIfInBounds j true) (LT.setIfInBounds j true) a' b' w':=by
 have hjl:j < L.size:=by rw [h.s1];exact (List.getElem?_eq_some_iff.1 hoj).1
 have hjt:j < LT.size:=by rw [h.s2];exact (List.getElem?_eq_some_iff.1 hoj).1
 have sub:∀ k,Owed H (L.setIfInBounds j true) (LT.setIfInBounds j true) k→Owed H L LT k:=fun k hk=>by
  have h1:=hk.2.1
  have h2:=hk.2.2
  rw [set_get hjl] at h2
  rw [set_get hjt] at h1
  split at h2
  ·cases h2
  ·rename_i e;rw [if_neg e] at h1;exact ⟨hk.1,h1,h2⟩
 refine ⟨by simpa using h.s1,by simpa using h.s2,fun k hk hkH=>?_,fun k hk=>?_,fun k ok hk hkT hok' m hm=>?_,?_,?_⟩
 ·rw [set_get hjl,set_get hjt];split
  ·rfl
  ·exact h.same k hk hkH
 ·rw [set_get hjl] at hk;rw [set_get hjt]
  split
  ·rfl
  ·rename_i e;rw [if_neg e] at hk;exact h.le k hk
 ·rw [set_get hjt]
  split
  ·rfl
  ·by_cases e2:j = k
   ·subst e2;rw [hoj] at hok';cases hok';exact h.le m (hall m hm)
   ·rw [set_get hjt,if_neg e2] at hkT;exact h.closed k ok hk hkT hok' m hm
 ·rcases h.known with hk | ⟨hC,hk⟩
  ·exact .inl fun k hkH hkl=>by rw [set_get hjl];split;rfl;exact hk k hkH hkl
  ·rcases hC' with hC' | hC'
   ·refine .inr ⟨hC',fun k ok hkO hok'=>?_⟩
    rw [hb']
    exact known_put hok (hkn hk) hoj hLT h.closed u (sub k hkO) hok' (fun hw=>by
     have h1:=hall k hw
     have h2:=(sub k hkO).2.2
     rw [h1] at h2;cases h2)
   ·exact .inl fun k hkH hkl=>by rw [set_get hjl];split;rfl;exact hall k (hC' k hkH hkl)
 ·exact hl'.mono fun k hkl hk=>by
   refine ⟨hk.1,?_,?_⟩
   ·rw [set_get hjt];split;rfl;exact hk.2.1
   ·rw [set_get hjl]
    split
    ·rename_i e;subst e;have:=hk.2.1;rw [hLT] at this;cases this
    ·exact hk.2.2
theorem getD_false {L:Array Bool} {i:Nat} (hi:i < L.size) (h:L.getD i true = false):L[i]? = some false:=by
 rcases get_or hi with e | e
 ·rw [getD_of e] at h;cases h
 ·exact e
theorem ready_exists (hok:stageOk ops H = true) {L:Array Bool} (hsz:L.size = ops.length) (hu:unlisted ops.length L≠0):∃ i,i∈Region.ready .any ops.toArray L:=by
 have hne:∃ i,i < ops.length∧L.getD i true = false:=by
  have hpos:0 < ((List.range ops.length).filter fun i=>!L.getD i true).length:=by unfold unlisted at hu;omega
  obtain ⟨i,hi⟩:=List.exists_mem_of_length_pos hpos
  obtain ⟨g1,g2⟩:=List.mem_filter.1 hi
  exact ⟨i,List.mem_range.1 g1,by simpa using g2⟩
 obtain ⟨i0,⟨hi0,hu0⟩,hmin⟩:=exists_least (p:=fun i=>i < ops.length∧L.getD i true = false) hne
 have ho:ops[i0]? = some ops[i0]:=by simp [hi0]
 refine ⟨i0,mem_ready.2 ⟨hu0,ops[i0],by simp [hi0],fun e he hb=>?_⟩⟩
 have hlt:=ownEdges_spec (stage_at hok ho).edges e he hb
 have hnot:¬ L.getD e.on true = false:=fun hh=>by have:=hmin e.on ⟨by omega,hh⟩;omega
 exact getD_of (listed_of (k:=ops.length) (by omega) (by omega) (.inl (by simpa using hnot)))
theorem ready_none {L:Array Bool} (hsz:L.size = ops.length) (hu:unlisted ops.length L = 0):Region.ready .any ops.toArray L = []:=by
 rw [List.eq_nil_iff_forall_not_mem]
 intro j hj
 obtain ⟨hj1,o,ho,_⟩:=mem_ready.1 hj
 have hlt:j < ops.length:=by have:=(Array.getElem?_eq_some_iff.1 ho).1;simpa using this
 have:=listed_of (k:=ops.length) (by omega) hlt (.inr (unlisted_zero hu (by omega) j hlt))
 rw [getD_of this] at hj1;cases hj1
theorem ready_facts (hok:stageOk ops H = true) {L:Array Bool} (hsz:L.size = ops.length) {j:Nat} (hj:j∈Region.ready .any ops.toArray L):∃ o,ops[j]? = some o∧ops.toArray[j]? = some o∧L[j]? = some false∧∀ k,waitsOn o k = true→L[k]? = some true:=by
 obtain ⟨hj1,o,ho,hall⟩:=mem_ready.1 hj
 have hjl:j < ops.length:=by have:=(Array.getElem?_eq_some_iff.1 ho).1;simpa using this
 have hoj:ops[j]? = some o:=by rw [← ho];simp
 refine ⟨o,hoj,ho,getD_false (by omega) hj1,fun k hk=>?_⟩
 obtain ⟨e,he,hb,hon⟩:=waitsOn_spec hk
 have h1:=hall e he hb
 have hel:=ownEdges_spec (stage_at hok hoj).edges e he hb
 rw [hon] at h1 hel
 exact listed_of (k:=ops.length) (by omega) (by omega) (.inr h1)
theorem ready_mono (hok:stageOk ops H = true) {L LT:Array Bool} (hs1:L.size = ops.length) (_hs2:LT.size = ops.length) (hle:∀ i:Nat,L[i]? = some true→LT[i]? = some true) {j:Nat} (hj:j∈Region.ready .any ops.toArray L) (hLT:LT[j]? = some false):j∈Region.ready .any ops.toArray LT:=by
 obtain ⟨o,hoj,ho,hL,hall⟩:=ready_facts hok hs1 hj
 refine mem_ready.2 ⟨getD_of hLT,o,ho,fun e he hb=>?_⟩
 have hw:waitsOn o e.on = true:=by
  unfold waitsOn
  rw [Array.any_eq_true']
  exact ⟨e,he,by simp [hb]⟩
 exact getD_of (hle _ (hall _ hw))
theorem Known.defers {L LT:Array Bool} {b:Act} (h:Known F n P C ops H L LT b) (ds:List Deferred):Known F n P C ops H L LT { b with defers:=ds }:=by
 intro i o hi ho
 obtain ⟨u,h2,h3⟩:=h i o hi ho
 refine ⟨u,?_,h3⟩
 cases hd:o.dst with
 | none=>rfl
 | some d =>
  rw [hd] at h2
  have:=congrArg Act.tmps h2
  simp only [Act.put] at this ⊢
  rw [this]
theorem stage_paid (hok:stageOk ops H = true) {L LT:Array Bool} {a b:Act} {w:World} (hI:StInv F n P C ops H L LT a b w) {j:Nat} {o:Oper} (hO:Owed H L LT j) (hoj:ops[j]? = some o) (ho:ops.toArray[j]? = some o)
  (hall:∀ k,waitsOn o k = true→L[k]? = some true) {Q:Exit→Act→World→Prop} {K:Act→World→Prop} (hK:∀ v,b.put o.dst v = b→K (a.put o.dst v) w):wpOpIn F n P ops.toArray Q j K a w:=by
 have hS:=stage_at hok hoj
 rcases hI.known with hk | ⟨hC,hk⟩
 ·have:=hk j hO.1 (List.getElem?_eq_some_iff.1 hoj).1;rw [hO.2.2] at this;cases this
 ·obtain ⟨v,hb,hv⟩:=hk j o hO hoj
  obtain ⟨hev,hgd⟩:=owed_agree hok hI.s1 hI.lack hoj (fun h=>(hS.rd h.1).2) hall
  obtain ⟨hask,hcase⟩:=hv.of hS.ns hev hgd
  unfold wpOpIn
  rw [ho]
  dsimp only
  rcases hcase with ⟨hw,hq⟩ | ⟨hw,rfl⟩
  ·rw [if_pos hw]
   exact bare_runs (hS.rd hO.1).1 (hq w hC) (hK v hb) (fun f hf=>hask w hC f hf)
  ·rw [if_neg (by rw [hw];simp)]
   exact ⟨fun f hf=>hask w hC f hf,hK _ hb⟩
theorem stage_run (hok:stageOk ops H = true) (waits:Nat→Bool) (hw:∀ j o,ops[j]? = some o→waits j = true→∀ i∈H,i < ops.length→waitsOn o i = true) (Q:Exit→Act→World→Prop):∀ (g f:Nat) (L LT:Array Bool) (a b:Act) (w:World),
  unlisted ops.length L = g→unlisted ops.length LT = f→StInv F n P C ops H L LT a b w→wpStage F n P ops H C waits (fun a w=>Q .normal a w) f LT b w→wpAnyIn F n P .any ops.toArray Q g L a w:=by
 intro g
 induction g with
 | zero =>
  intro f L LT a b w hg hf hI h
  have hall:∀ i,i < ops.length→L[i]? = some true:=fun i hi=>listed_of (k:=ops.length) (by rw [hI.s1];omega) hi (.inr (unlisted_zero hg (by rw [hI.s1];omega) i hi))
  have hut:unlisted ops.length LT = 0:=by
   unfold unlisted
   rw [List.length_eq_zero_iff,List.filter_eq_nil_iff]
   intro i hi
   have:=hI.le i (hall i (List.mem_range.1 hi))
   simp [Array.getD_eq_getD_getElem?,this]
  rw [hut] at hf
  subst hf
  refine ⟨ready_none hI.s1 hg,?_⟩
  rw [hI.lack.full fun i hi hn=>by have:=hall i hi;rw [hn.2.2] at this;cases this]
  exact h.2
 | succ g ih =>
  intro f
  have less:∀ {L:Array Bool} {j k:Nat},L.size = ops.length→j < ops.length→L[j]? = some false→unlisted ops.length L = k + 1→unlisted ops.length (L.setIfInBounds j true) = k:=fun hsz hj hf hu=>by
   have:=unlisted_set hj (by omega) (getD_of (d:=true) hf)
   omega
  induction f with
  | zero =>
   intro L LT a b w hg hf hI h
   obtain ⟨r0,hr0⟩:=ready_exists hok hI.s1 (by omega)
   refine ⟨fun e=>(by rw [e] at hr0;cases hr0),fun j hj=>?_⟩
   obtain ⟨o,hoj,ho,hL,hall⟩:=ready_facts hok hI.s1 hj
   have hjl:=(List.getElem?_eq_some_iff.1 hoj).1
   have hLT:LT[j]? = some true:=listed_of (k:=ops.length) (by rw [hI.s2];omega) hjl (.inr (unlisted_zero hf (by rw [hI.s2];omega) j hjl))
   have hjH:j∈H:=by
    by_cases hm:j∈H
    ·exact hm
    ·have:=hI.same j hjl hm;rw [hL,hLT] at this;cases this
   have hO:Owed H L LT j:=⟨hjH,hLT,hL⟩
   exact stage_paid hok hI hO hoj ho hall fun v hb=>ih 0 _ LT _ b w (less hI.s1 hjl hL hg) hf (hI.paid hok hoj hO hb) h
  | succ f ihf =>
   intro L LT a b w hg hf hI h
   rcases h with ⟨i,o,hiH,hir,hoi,v,hv,hst⟩ | ⟨h1,h2⟩
   ·obtain ⟨o',hoi',_,hLTi,halli⟩:=ready_facts hok hI.s2 hir
    rw [hoi] at hoi';cases hoi'
    have hil:=(List.getElem?_eq_some_iff.1 hoi).1
    exact ihf L _ a _ w hg (less hI.s2 hil hLTi hf) (hI.hoist hok hiH hoi hLTi halli hv) hst
   ·obtain ⟨r0,hr0⟩:=ready_exists hok hI.s1 (by omega)
    refine ⟨fun e=>(by rw [e] at hr0;cases hr0),fun j hj=>?_⟩
    obtain ⟨o,hoj,ho,hL,hall⟩:=ready_facts hok hI.s1 hj
    have hjl:=(List.getElem?_eq_some_iff.1 hoj).1
    rcases get_or (L:=LT) (i:=j) (by rw [hI.s2];exact hjl) with hLT | hLT
    ·have hjH:j∈H:=by
      by_cases hm:j∈H
      ·exact hm
      ·have:=hI.same j hjl hm;rw [hL,hLT] at this;cases this
     have hO:Owed H L LT j:=⟨hjH,hLT,hL⟩
     exact stage_paid hok hI hO hoj ho hall fun v hb=>ih (f + 1) _ LT _ b w (less hI.s1 hjl hL hg) hf (hI.paid hok hoj hO hb) (.inr ⟨h1,h2⟩)
    ·have hrT:=ready_mono hok hI.s1 hI.s2 hI.le hj hLT
     have h3:=h2 j hrT o hoj
     have hS:=stage_at hok hoj
     obtain ⟨hev,hgd⟩:=owed_agree hok hI.s1 hI.lack hoj (fun h=>by have:=h.2.1;rw [hLT] at this;cases this) hall
     obtain ⟨e1,e2⟩:=quietAt_of (P:=P) (sel_of hS.ns) hev
     have hC':∀ w',(waits j = false→C w')→(C w' ∨ ∀ i∈H,i < ops.length→waitsOn o i = true):=fun w' h=>by
      cases hwj:waits j with
      | true=>exact .inr (hw j o hoj hwj)
      | false=>exact .inl (h hwj)
     simp only [wpListIn] at h3
     unfold wpOpIn
     rw [ho]
     dsimp only
     rw [wanted_of hgd]
     by_cases hwt:Region.wanted o (yielded ops.toArray b.tmps) = true
     ·rw [if_pos hwt] at h3 ⊢
      refine wpIn_move hS.nd e1 (e2 w) (fun v w' h'=>?_) (fun d w' h'=>?_) (fun e a w h=>h.1) h3
      ·exact ih f _ _ _ _ w' (less hI.s1 hjl hL hg) (less hI.s2 hjl hLT hf) (hI.step hok hoj hL hLT hall id rfl (hI.lack.tail _ _) (hC' w' h'.2.1)) h'.2.2
      ·exact ih f _ _ _ _ w' (less hI.s1 hjl hL hg) (less hI.s2 hjl hLT hf) (hI.step hok hoj hL hLT hall (fun hk=>hk.defers _) rfl ((hI.lack.defer d).tail _ _) (hC' w' h'.2.1)) h'.2.2
     ·rw [if_neg hwt] at h3 ⊢
      obtain ⟨h4,h5⟩:=h3
      exact ⟨fun f hf=>h4 f (by rw [← e2 w];exact hf),ih f _ _ _ _ w (less hI.s1 hjl hL hg) (less hI.s2 hjl hLT hf) (hI.step hok hoj hL hLT hall id rfl (hI.lack.tail _ _) (hC' w h5.2.1)) h5.2.2⟩
def hoistOk (ops:List Oper) (H:List Nat):List Nat→Array Bool→Bool
 | [],_=>true
 | i :: l,LT=>H.contains i && !(LT.getD i true) && (match ops[i]? with | none=>false | some o=>o.after.all fun e=>!Region.binds .any e || LT.getD e.on false) && hoistOk ops H l (LT.setIfInBounds i true)
def listAll (hs:List Nat) (LT:Array Bool):Array Bool:=hs.foldl (fun LT i=>LT.setIfInBounds i true) LT
theorem stage_reads {waits:Nat→Bool} {Q':Act→World→Prop} {w:World}:∀ (hs:List Nat) (f:Nat) (LT:Array Bool) (b:Act),hoistOk ops H hs LT = true →
  wpQuietIn F n P ops.toArray C (fun b'=>wpStage F n P ops H C waits Q' f (listAll hs LT) b' w) (pickOps ops hs) b→wpStage F n P ops H C waits Q' (f + hs.length) LT b w
 | [],f,LT,b,_,h=>h
 | i :: l,f,LT,b,hh,h=>by
  simp only [hoistOk,Bool.and_eq_true,Bool.not_eq_true'] at hh
  obtain ⟨⟨⟨h1,h2⟩,h3⟩,h4⟩:=hh
  cases ho:ops[i]? with
  | none=>rw [ho] at h3;cases h3
  | some o =>
   rw [ho] at h3
   rw [pick_cons,ho] at h
   obtain ⟨hask,h⟩:=h
   have hr:i∈Region.ready .any ops.toArray LT:=mem_ready.2 ⟨h2,o,by simpa using ho,fun e he hb=>by
    have:=Array.all_eq_true_iff_forall_mem.1 h3 e he
    rw [hb] at this
    simpa using this⟩
   have hH:i∈H:=by simpa using h1
   by_cases hwt:Region.wanted o (yielded ops.toArray b.tmps) = true
   ·rw [if_pos hwt] at h
    obtain ⟨v,hv,h⟩:=h
    exact .inl ⟨i,o,hH,hr,ho,v,⟨hask,.inl ⟨hwt,hv⟩⟩,stage_reads l f _ _ h4 h⟩
   ·rw [if_neg hwt] at h
    exact .inl ⟨i,o,hH,hr,ho,undef,⟨hask,.inr ⟨by simpa using hwt,rfl⟩⟩,stage_reads l f _ _ h4 h⟩
def StagePost (F:Fence) (n:Nat) (P:Program) (ops:List Oper) (H:List Nat) (C:World→Prop) (waits:Nat→Bool) (Q':Act→World→Prop) (f:Nat) (LT:Array Bool) (i:Nat):Exit→Act→World→Prop :=
 fun e a' w'=>e = .normal∧(waits i = false→C w')∧wpStage F n P ops H C waits Q' f (LT.setIfInBounds i true) a' w'
theorem stage_post {waits:Nat→Bool} {Q':Act→World→Prop} {f:Nat} {LT:Array Bool} {i:Nat} {a:Act} {w:World} (hC:C w) (h:wpStage F n P ops H C waits Q' f (LT.setIfInBounds i true) a w):StagePost F n P ops H C waits Q' f LT i .normal a w:=⟨rfl,fun _=>hC,h⟩
theorem stage_last {waits:Nat→Bool} {Q':Act→World→Prop} {f:Nat} {LT:Array Bool} {i:Nat} {a:Act} {w:World} (hw:waits i = true) (h:wpStage F n P ops H C waits Q' f (LT.setIfInBounds i true) a w):StagePost F n P ops H C waits Q' f LT i .normal a w:=⟨rfl,fun e=>(by rw [hw] at e;cases e),h⟩
theorem stage_one {waits:Nat→Bool} {Q':Act→World→Prop} {f:Nat} {LT:Array Bool} {a:Act} {w:World} (i:Nat) {o:Oper} (hr:Region.ready .any ops.toArray LT = [i]) (ho:ops[i]? = some o)
  (h:wpListIn F n P ops.toArray (StagePost F n P ops H C waits Q' f LT i) [o] a w):wpStage F n P ops H C waits Q' (f + 1) LT a w :=
 .inr ⟨fun e=>(by rw [hr] at e;cases e),fun j hj o' ho'=>by
  rw [hr] at hj
  obtain rfl:j = i:=by simpa using hj
  rw [ho] at ho'
  cases ho'
  exact h⟩
theorem stage_two {waits:Nat→Bool} {Q':Act→World→Prop} {f:Nat} {LT:Array Bool} {a:Act} {w:World} (i j:Nat) {o o2:Oper} (hr:Region.ready .any ops.toArray LT = [i,j]) (ho:ops[i]? = some o) (ho2:ops[j]? = some o2)
  (h:wpListIn F n P ops.toArray (StagePost F n P ops H C waits Q' f LT i) [o] a w) (h2:wpListIn F n P ops.toArray (StagePost F n P ops H C waits Q' f LT j) [o2] a w):wpStage F n P ops H C waits Q' (f + 1) LT a w :=
 .inr ⟨fun e=>(by rw [hr] at e;cases e),fun k hk o' ho'=>by
  rw [hr] at hk
  simp only [List.mem_cons,List.not_mem_nil,or_false] at hk
  rcases hk with rfl | rfl
  ·rw [ho] at ho';cases ho';exact h
  ·rw [ho2] at ho';cases ho';exact h2⟩
theorem stage_done {waits:Nat→Bool} {Q':Act→World→Prop} {LT:Array Bool} {a:Act} {w:World} (hr:Region.ready .any ops.toArray LT = []) (h:Q' a w):wpStage F n P ops H C waits Q' 0 LT a w:=⟨hr,h⟩
def stageAll (ops:List Oper) (H ws:List Nat):Bool :=
 stageOk ops H && ws.all fun j=>match ops[j]? with | none=>true | some o=>H.all fun i=>waitsOn o i
theorem wpIn_stage {id:Nat} {Q:Exit→Act→World→Prop} {a:Act} {w:World} (C:World→Prop) (H ws:List Nat) (hm:P.follows .mixedOrders = true) (hB:stageAll ops H ws = true) (hC:C w.drew)
  (h:wpStage F n P ops H C (fun i=>ws.contains i) (fun a w=>Q .normal a w) ops.length (Array.replicate ops.length false) a w.drew):(Code.region id ops.toArray true).wpIn F n P Q a w:=by
 simp only [stageAll,Bool.and_eq_true] at hB
 obtain ⟨hok,hws⟩:=hB
 refine wpIn_region_any hm ?_
 have hun:unlisted ops.length (Array.replicate ops.length false) = ops.length:=by
  unfold unlisted
  rw [List.filter_eq_self.2 (fun i hi=>?_),List.length_range]
  have:=List.mem_range.1 hi
  simp only [Array.getD_eq_getD_getElem?]
  rw [Array.getElem?_replicate,if_pos (by omega)];rfl
 have hno:∀ i:Nat,(Array.replicate ops.length false)[i]?≠some true:=fun i=>by
  rw [Array.getElem?_replicate];split <;> simp
 have hrun:=stage_run (F:=F) (n:=n) (P:=P) (C:=C) hok (fun i=>ws.contains i) (fun j o ho hj i hi _=>by
   have:=List.all_eq_true.1 hws j (by simpa using hj)
   rw [ho] at this
   exact List.all_eq_true.1 this i hi) Q ops.length ops.length (Array.replicate ops.length false) (Array.replicate ops.length false) a a w.drew hun hun
  ⟨by simp,by simp,fun _ _ _=>rfl,fun _ h=>h,fun i o _ h=>absurd h (hno i),.inr ⟨hC,fun i o hO=>absurd hO.2.1 (hno i)⟩,⟨rfl,rfl,fun _ _=>rfl⟩⟩ h
 simpa using hrun
end
end Go.Proofs.YtigapglmipmbeaaGreatDoor.S2
namespace Go.Proofs.YtigapglmipmbeaaGreatDoor
open Lim
theorem mass_two (x:L2) (l:List L2) (k:ByteArray):massD (valsD (x :: l)) k = (if x.1 = k then valQ x.2.data.toList else 0) + massD (valsD l) k:=rfl
theorem sum_two (x:L2) (l:List L2):sumBy (fun e=>e.2) (valsD (x :: l)) = valQ x.2.data.toList + sumBy (fun e=>e.2) (valsD l):=rfl
theorem insX_spec:∀ {a b:List L2} {x:L2},insX a x = .ok b→Asc (a.map (·.1))→OkV a→errQ x.2.data.toList = 0 →
  Asc (b.map (·.1))∧OkV b∧(∀ k,k∈b.map (·.1)↔k∈a.map (·.1) ∨ k = x.1)∧(∀ k,massD (valsD b) k = massD (valsD a) k + (if x.1 = k then valQ x.2.data.toList else 0)) ∧
  sumBy (fun e=>e.2) (valsD b) = sumBy (fun e=>e.2) (valsD a) + valQ x.2.data.toList
 | [],b,x,h,_,_,hx=>by
  cases h
  refine ⟨List.pairwise_singleton _ _,fun y hy=>by rw [List.mem_singleton.1 hy];exact hx,fun k=>by simp,fun k=>?_,?_⟩
  ·rw [mass_two];exact Rat.add_comm _ _
  ·rw [sum_two];exact Rat.add_comm _ _
 | y :: l,b,x,h,ha,ho,hx=>by
  have ha2:=List.pairwise_cons.1 ha
  unfold insX at h
  split at h
  ·rename_i hlt
   cases hm:insX l x with
   | error n=>rw [hm] at h;cases h
   | ok m =>
    rw [hm] at h
    cases h
    obtain ⟨r1,r2,r3,r4,r5⟩:=insX_spec hm ha2.2 (fun z hz=>ho z (by simp [hz])) hx
    refine ⟨List.pairwise_cons.2 ⟨fun k hk=>?_,r1⟩,fun z hz=>?_,fun k=>?_,fun k=>?_,?_⟩
    ·rcases (r3 k).1 hk with h1 | rfl
     ·exact ha2.1 k h1
     ·exact hlt
    ·rcases List.mem_cons.1 hz with rfl | hz
     ·exact ho z (by simp)
     ·exact r2 z hz
    ·rw [List.map_cons,List.mem_cons,r3,List.map_cons,List.mem_cons,or_assoc]
    ·rw [mass_two,mass_two,r4,Rat.add_assoc]
    ·rw [sum_two,sum_two,r5,Rat.add_assoc]
  ·rename_i hlt
   split at h
   ·rename_i he
    cases hs:plX y.2 x.2 with
    | error n=>rw [hs] at h;cases h
    | ok s =>
     rw [hs] at h
     cases h
     rw [plX_val (ho y (by simp)) hx] at hs
     obtain ⟨e1,e2,_⟩:=ovT_ok hs
     refine ⟨ha,fun z hz=>?_,fun k=>?_,fun k=>?_,?_⟩
     ·rcases List.mem_cons.1 hz with rfl | hz
      ·exact e1
      ·exact ho z (by simp [hz])
     ·rw [List.map_cons,List.mem_cons,List.map_cons,List.mem_cons]
      constructor
      ·exact .inl
      ·rintro (h1 | rfl)
       ·exact h1
       ·exact .inl he.symm
     ·rw [mass_two,mass_two]
      dsimp only
      rw [e2,he]
      split <;> grind
     ·rw [sum_two,sum_two]
      dsimp only
      rw [e2]
      grind
   ·rename_i he
    cases h
    have hlt2:ltK x.1 y.1 = true:=ltK_total (by simpa using hlt) he
    refine ⟨List.pairwise_cons.2 ⟨fun k hk=>?_,ha⟩,fun z hz=>?_,fun k=>?_,fun k=>?_,?_⟩
    ·rcases List.mem_cons.1 hk with rfl | hk
     ·exact hlt2
     ·exact ltK_trans hlt2 (ha2.1 k hk)
    ·rcases List.mem_cons.1 hz with rfl | hz
     ·exact hx
     ·exact ho z hz
    ·rw [List.map_cons,List.mem_cons];exact or_comm
    ·rw [mass_two];exact Rat.add_comm _ _
    ·rw [sum_two];exact Rat.add_comm _ _
theorem collX_spec:∀ {l a b:List L2},collX a l = .ok b→Asc (a.map (·.1))→OkV a→OkV l →
  Asc (b.map (·.1))∧OkV b∧(∀ k,k∈b.map (·.1)↔k∈a.map (·.1) ∨ k∈l.map (·.1))∧(∀ k,massD (valsD b) k = massD (valsD a) k + massD (valsD l) k) ∧
  sumBy (fun e=>e.2) (valsD b) = sumBy (fun e=>e.2) (valsD a) + sumBy (fun e=>e.2) (valsD l)
 | [],a,b,h,ha,ho,_=>by
  cases h
  exact ⟨ha,ho,fun k=>by simp,fun k=>(Rat.add_zero _).symm,(Rat.add_zero _).symm⟩
 | x :: l,a,b,h,ha,ho,hl=>by
  unfold collX at h
  cases hi:insX a x with
  | error n=>rw [hi] at h;cases h
  | ok c =>
   rw [hi] at h
   obtain ⟨r1,r2,r3,r4,r5⟩:=insX_spec hi ha ho (hl x (by simp))
   obtain ⟨q1,q2,q3,q4,q5⟩:=collX_spec h r1 r2 fun y hy=>hl y (by simp [hy])
   refine ⟨q1,q2,fun k=>?_,fun k=>?_,?_⟩
   ·rw [q3,r3,List.map_cons,List.mem_cons,or_assoc]
   ·rw [q4,r4,mass_two,Rat.add_assoc]
   ·rw [q5,r5,sum_two,Rat.add_assoc]
def Den (D:Nat) (l:List L2):Prop:=∀ x∈l,errQ x.2.data.toList = 0∧HasDen D (valQ x.2.data.toList)∧0≤valQ x.2.data.toList
theorem Den.sum {D:Nat} {l:List L2} (h:Den D l):0≤sumBy (fun e=>e.2) (valsD l):=by
 rw [sum_vals]
 exact sumBy_nonneg fun x hx=>(h x hx).2.2
theorem insX_fit {D M:Nat} (hD:0 < D) (hM:0 < M) (hk:M * D < 10 ^ maxD):∀ {a:List L2} {x:L2},Den D a→errQ x.2.data.toList = 0→HasDen D (valQ x.2.data.toList)→0≤valQ x.2.data.toList →
  sumBy (fun e=>e.2) (valsD a) + valQ x.2.data.toList≤(M:Rat)→∃ b,insX a x = .ok b∧Den D b
 | [],x,_,h1,h2,h3,_=>⟨[x],rfl,fun y hy=>by rw [List.mem_singleton.1 hy];exact ⟨h1,h2,h3⟩⟩
 | y :: l,x,ha,h1,h2,h3,hs=>by
  have hl:Den D l:=fun z hz=>ha z (by simp [hz])
  have hy:=ha y (by simp)
  rw [sum_two] at hs
  have hn:=hl.sum
  unfold insX
  split
  ·obtain ⟨b,e,hb⟩:=insX_fit hD hM hk hl h1 h2 h3 (by have:=hy.2.2;grind)
   rw [e]
   exact ⟨_,rfl,fun z hz=>by
    rcases List.mem_cons.1 hz with rfl | hz
    ·exact hy
    ·exact hb z hz⟩
  ·split
   ·have hf:fits (valQ y.2.data.toList + valQ x.2.data.toList) = true:=fits_sz.2 ((hy.2.1.add h2).sz hD (by have:=hy.2.2;grind) (M:=M) (by grind) hk hM)
    rw [plX_val hy.1 h1,ovT_fit hf]
    refine ⟨_,rfl,fun z hz=>?_⟩
    rcases List.mem_cons.1 hz with rfl | hz
    ·dsimp only
     rw [val_rT hf]
     exact ⟨err_rT hf,hy.2.1.add h2,by have:=hy.2.2;grind⟩
    ·exact hl z hz
   ·refine ⟨_,rfl,fun z hz=>?_⟩
    rcases List.mem_cons.1 hz with rfl | hz
    ·exact ⟨h1,h2,h3⟩
    ·exact ha z hz
theorem collX_fit {D M:Nat} (hD:0 < D) (hM:0 < M) (hk:M * D < 10 ^ maxD):∀ {l a:List L2},Asc (a.map (·.1))→Den D a→Den D l→sumBy (fun e=>e.2) (valsD a) + sumBy (fun e=>e.2) (valsD l)≤(M:Rat)→∃ b,collX a l = .ok b∧Den D b
 | [],a,_,ha,_,_=>⟨a,rfl,ha⟩
 | x :: l,a,hp,ha,hl,hs=>by
  have hl2:Den D l:=fun z hz=>hl z (by simp [hz])
  have hx:=hl x (by simp)
  rw [sum_two] at hs
  have hn:=hl2.sum
  obtain ⟨c,e,hc⟩:=insX_fit hD hM hk ha hx.1 hx.2.1 hx.2.2 (by grind)
  obtain ⟨r1,_,_,_,r5⟩:=insX_spec e hp (fun z hz=>(ha z hz).1) hx.1
  obtain ⟨b,e2,hb⟩:=collX_fit hD hM hk r1 hc hl2 (by rw [r5];grind)
  exact ⟨b,by unfold collX;rw [e];exact e2,hb⟩
theorem zero_text {s:ByteArray} (h:errQ s.data.toList = 0):s = zT↔valQ s.data.toList = 0:=by
 constructor
 ·intro e;rw [e,val_zT]
 ·intro e
  rw [ok_rT h,e]
  exact IsT.zero.text.symm
theorem keep_mass:∀ {l:List L2},OkV l→(∀ k,massD (valsD (keepX l)) k = massD (valsD l) k)∧sumBy (fun e=>e.2) (valsD (keepX l)) = sumBy (fun e=>e.2) (valsD l)
 | [],_=>⟨fun _=>rfl,rfl⟩
 | x :: l,h=>by
  obtain ⟨r1,r2⟩:=keep_mass (l:=l) fun y hy=>h y (by simp [hy])
  by_cases hz:x.2 = zT
  ·have e:keepX (x :: l) = keepX l:=by unfold keepX;rw [List.filter_cons_of_neg (by simpa using hz)]
   have hv:=(zero_text (h x (by simp))).1 hz
   rw [e]
   refine ⟨fun k=>?_,?_⟩
   ·rw [mass_two,hv,r1];split <;> grind
   ·rw [sum_two,hv,r2];grind
  ·have e:keepX (x :: l) = x :: keepX l:=by unfold keepX;rw [List.filter_cons_of_pos (by simpa using hz)]
   rw [e]
   refine ⟨fun k=>?_,?_⟩
   ·rw [mass_two,mass_two,r1]
   ·rw [sum_two,sum_two,r2]
theorem posL_zero:∀ {l:List L2},posL l = 0↔∀ x∈l,posE x.2 = 0
 | []=>by simp [posL]
 | x :: l=>by
  unfold posL
  simp only [List.mem_cons,forall_eq_or_imp]
  split
  ·rename_i h;exact ⟨fun h2=>absurd h2 h,fun h2=>absurd h2.1 h⟩
  ·rename_i h
   rw [posL_zero]
   exact ⟨fun h2=>⟨Classical.byContradiction h,h2⟩,fun h2=>h2.2⟩
theorem makeX_ok {l out:List L2} (h:makeX l = .ok out):chkD out = 0∧(∀ x∈l,posE x.2 = 0)∧∀ k,massD (valsD out) k = massD (valsD l) k:=by
 unfold makeX at h
 split at h
 ·cases h
 ·rename_i h1
  have h1:=posL_zero.1 (Classical.byContradiction h1)
  cases hc:collX [] l with
  | error n=>rw [hc] at h;cases h
  | ok a =>
   rw [hc] at h
   unfold doneX at h
   dsimp only at h
   split at h
   ·cases h
   ·rename_i h2
    cases h
    have hl:OkV l:=fun x hx=>(posE_zero.1 (h1 x hx)).1
    obtain ⟨r1,r2,r3,r4,r5⟩:=collX_spec hc List.Pairwise.nil (fun x hx=>by cases hx) hl
    refine ⟨Classical.byContradiction h2,h1,fun k=>?_⟩
    rw [(keep_mass r2).1,r4]
    exact Rat.zero_add _
theorem makeX_fit {l:List L2} {D:Nat} (hD:0 < D) (hk:D < 10 ^ maxD) (hl:Den D l) (hs:sumBy (fun e=>e.2) (valsD l) = 1):∃ out,makeX l = .ok out:=by
 obtain ⟨a,e,ha⟩:=collX_fit hD Nat.one_pos (by omega) (a:=[]) List.Pairwise.nil (fun x hx=>absurd hx (by simp)) hl (M:=1) (by
  rw [hs,show sumBy (fun e:ByteArray × Rat=>e.2) (valsD []) = 0 from rfl,Rat.zero_add]
  exact Rat.le_refl)
 obtain ⟨r1,r2,r3,r4,r5⟩:=collX_spec e List.Pairwise.nil (fun x hx=>by cases hx) fun x hx=>(hl x hx).1
 have hsub:∀ x∈keepX a,x∈a∧x.2≠zT:=fun x hx=>by simpa [keepX] using hx
 have hc:chkD (keepX a) = 0:=by
  refine chkD_of (fun x hx=>?_) (List.Pairwise.sublist (List.Sublist.map _ List.filter_sublist) r1) ?_ hD hk fun x hx=>(ha x (hsub x hx).1).2.1
  ·obtain ⟨h1,h2⟩:=hsub x hx
   obtain ⟨e1,e2,e3⟩:=ha x h1
   refine ⟨e1,?_⟩
   have hne:valQ x.2.data.toList≠0:=fun h=>h2 ((zero_text e1).2 h)
   grind
  ·rw [(keep_mass r2).2,r5,hs]
   exact Rat.zero_add (1:Rat)
 refine ⟨keepX a,?_⟩
 unfold makeX
 rw [if_neg (by simp only [ne_eq,Decidable.not_not];exact posL_zero.2 fun x hx=>posE_zero.2 ⟨(hl x hx).1,(hl x hx).2.2⟩),e]
 unfold doneX
 dsimp only
 rw [if_neg (by simpa using hc)]
def timesD (l:DL) (b:Rat):DL:=l.map fun e=>(e.1,e.2 * b)
theorem scaleX_ok {b:ByteArray} (hb:errQ b.data.toList = 0):∀ {l m:List L2},scaleX l b = .ok m→OkV l→OkV m∧valsD m = timesD (valsD l) (valQ b.data.toList)
 | [],m,h,_=>by cases h;exact ⟨fun x hx=>absurd hx (by simp),rfl⟩
 | x :: l,m,h,hl=>by
  unfold scaleX at h
  cases hm:mulX x.2 b with
  | error n=>rw [hm] at h;cases h
  | ok p =>
   rw [hm] at h
   dsimp only at h
   rw [mulX_val (hl x (by simp)) hb] at hm
   obtain ⟨e1,e2,_⟩:=ovT_ok hm
   cases hs:scaleX l b with
   | error n=>rw [hs] at h;cases h
   | ok r =>
    rw [hs] at h
    cases h
    obtain ⟨r1,r2⟩:=scaleX_ok hb hs fun y hy=>hl y (by simp [hy])
    refine ⟨fun y hy=>?_,?_⟩
    ·rcases List.mem_cons.1 hy with rfl | hy
     ·exact e1
     ·exact r1 y hy
    ·show (x.1,valQ p.data.toList) :: valsD r = (x.1,valQ x.2.data.toList * valQ b.data.toList) :: timesD (valsD l) (valQ b.data.toList)
     rw [r2,e2]
theorem scaleX_fit {b:ByteArray} {j k:Nat} (hb:errQ b.data.toList = 0) (sb:Sz j (valQ b.data.toList)) (hjk:k + j≤maxD):∀ {l:List L2},OkV l→(∀ x∈l,Sz k (valQ x.2.data.toList))→∃ m,scaleX l b = .ok m
 | [],_,_=>⟨[],rfl⟩
 | x :: l,h,hs=>by
  obtain ⟨m,e⟩:=scaleX_fit hb sb hjk (l:=l) (fun y hy=>h y (by simp [hy])) fun y hy=>hs y (by simp [hy])
  have hf:fits (valQ x.2.data.toList * valQ b.data.toList) = true:=fits_sz.2 (((hs x (by simp)).mul sb).mono hjk)
  refine ⟨(x.1,rT (valQ x.2.data.toList * valQ b.data.toList)) :: m,?_⟩
  unfold scaleX
  rw [mulX_val (h x (by simp)) hb,ovT_fit hf,e]
end Go.Proofs.YtigapglmipmbeaaGreatDoor
namespace Go.Proofs.YtigapglmipmbeaaGreatDoor
open Lim
theorem chk2_ok {a b:List L2} (ha:chkD a = 0) (hb:chkD b = 0):chk2 a b = 0:=by
 unfold chk2
 rw [ha,hb]
 rfl
structure Dst (a:Nat) (ls:List L2):Prop where
 ok:chkD ls = 0
 den:∃ D,0 < D∧D < 10 ^ a∧∀ x∈ls,HasDen D (valX x)
section
variable {a b:Nat} {ls la lb:List L2}
theorem Dst.isD (h:Dst a ls):IsD (valsD ls):=(chkD_zero h.ok).1
theorem Dst.okV (h:Dst a ls):OkV ls:=(chkD_zero h.ok).2.1
theorem Dst.asc (h:Dst a ls):Asc (ls.map (·.1)):=(chkD_zero h.ok).2.2
theorem Dst.once (h:Dst a ls):(ls.map (·.1)).Nodup:=h.asc.nodup
theorem Dst.pos (h:Dst a ls) {x:L2} (hx:x∈ls):0 < valX x:=h.isD.plus (x.1,valX x) (List.mem_map.2 ⟨x,hx,rfl⟩)
theorem Dst.one (h:Dst a ls) {x:L2} (hx:x∈ls):valX x≤1:=by
 have h1:=h.isD.one
 rw [sum_vals] at h1
 have h2:=le_sumBy (f:=fun x:L2=>valX x) (fun y hy=>Rat.le_of_lt (h.pos hy)) hx
 rw [← h1]
 exact h2
theorem Dst.sz (h:Dst a ls) {x:L2} (hx:x∈ls):Sz a (valX x):=by
 obtain ⟨D,h1,h2,h3⟩:=h.den
 exact (h3 x hx).sz h1 (Rat.le_of_lt (h.pos hx)) (M:=1) (h.one hx) (by omega) Nat.one_pos
theorem Dst.light {n k:Nat} (h:chkD ls = 0) (hl:ls.length≤n) (hs:∀ x∈ls,x.2.size≤k):Dst (k * n + 1) ls:=by
 obtain ⟨_,ho,_⟩:=chkD_zero h
 have hz:∀ x∈ls,Sz k (valX x):=fun x hx=>sz_of_text (ho x hx) (by rw [← size_list];exact hs x hx)
 refine ⟨h,denB valX ls,denB_pos ls,Nat.lt_of_lt_of_le (denB_lt hz) (pow_le ?_),fun x hx=>denB_has hx⟩
 have:=Nat.mul_le_mul_left k hl
 omega
theorem mass_has {D:Nat} (h:∀ x∈ls,HasDen D (valX x)) (k:ByteArray):HasDen D (massD (valsD ls) k):=by
 refine HasDen.sum fun e he=>?_
 obtain ⟨x,hx,rfl⟩:=List.mem_map.1 he
 dsimp only
 split
 ·exact h x hx
 ·exact HasDen.zero D
theorem make_dst (hl:∃ D,0 < D∧D < 10 ^ a∧Den D ls) (ha:a≤maxD) (hs:sumBy (fun e=>e.2) (valsD ls) = 1):∃ out,makeX ls = .ok out∧Dst a out∧∀ k,massD (valsD out) k = massD (valsD ls) k:=by
 obtain ⟨D,h1,h2,h3⟩:=hl
 obtain ⟨out,e⟩:=makeX_fit h1 (Nat.lt_of_lt_of_le h2 (pow_le ha)) h3 hs
 obtain ⟨r1,_,r3⟩:=makeX_ok e
 refine ⟨out,e,⟨r1,D,h1,h2,fun x hx=>?_⟩,r3⟩
 have e1:valX x = massD (valsD out) x.1:=(massD_at (chkD_zero r1).1.once (e:=(x.1,valX x)) (List.mem_map.2 ⟨x,hx,rfl⟩)).symm
 rw [e1,r3]
 exact mass_has (fun y hy=>(h3 y hy).2.1) x.1
theorem mass_times (l:DL) (c:Rat) (k:ByteArray):massD (timesD l c) k = c * massD l k:=by
 unfold massD timesD
 rw [sumBy_map,← sumBy_mul]
 exact sumBy_congr fun e _=>by dsimp only;split <;> grind
theorem sum_times (l:DL) (c:Rat):sumBy (fun e=>e.2) (timesD l c) = c * sumBy (fun e=>e.2) l:=by
 unfold timesD
 rw [sumBy_map,← sumBy_mul]
 exact sumBy_congr fun e _=>Rat.mul_comm _ _
theorem vals_append (x y:List L2):valsD (x ++ y) = valsD x ++ valsD y:=List.map_append
theorem vals_mem {l:List L2} {x:L2} (hx:x∈l):(x.1,valX x)∈valsD l:=List.mem_map.2 ⟨x,hx,rfl⟩
theorem mix_dst {p:ByteArray} {j:Nat} (ha:Dst a la) (hb:Dst b lb) (hp:errQ p.data.toList = 0) (sp:Sz j (valQ p.data.toList)) (h0:0≤valQ p.data.toList) (h1:valQ p.data.toList≤1) (hm:j + (a + b) + 2≤maxD) :
  ∃ out,mixX p la lb = .ok out∧Dst (j + (a + b)) out∧∀ k,massD (valsD out) k = valQ p.data.toList * massD (valsD la) k + (1 - valQ p.data.toList) * massD (valsD lb) k:=by
 have s1:Sz (1 + j + 1) (1 - valQ p.data.toList):=Sz.one.sub sp
 have f1:fits (1 - valQ p.data.toList) = true:=fits_sz.2 (s1.mono (by omega))
 obtain ⟨x,ex⟩:=scaleX_fit hp sp (by omega) ha.okV fun x hx=>ha.sz hx
 obtain ⟨y,ey⟩:=scaleX_fit (b:=rT (1 - valQ p.data.toList)) (err_rT f1) (by rw [val_rT f1];exact s1) (by omega) hb.okV fun x hx=>hb.sz hx
 obtain ⟨x1,x2⟩:=scaleX_ok hp ex ha.okV
 obtain ⟨y1,y2⟩:=scaleX_ok (err_rT f1) ey hb.okV
 rw [val_rT f1] at y2
 obtain ⟨D,d1,d2,d3⟩:=ha.den
 obtain ⟨E,e1,e2,e3⟩:=hb.den
 have hden:Den ((valQ p.data.toList).den * (D * E)) (x ++ y):=by
  intro z hz
  rcases List.mem_append.1 hz with hz | hz
  ·have hm2:=vals_mem hz
   rw [x2] at hm2
   obtain ⟨e,he,e5⟩:=List.mem_map.1 hm2
   obtain ⟨u,hu,rfl⟩:=List.mem_map.1 he
   have e6:valX z = valX u * valQ p.data.toList:=(Prod.mk.inj e5).2.symm
   refine ⟨x1 z hz,?_,?_⟩
   ·show HasDen _ (valX z)
    rw [e6,Rat.mul_comm]
    exact (HasDen.self _).mul ((d3 u hu).mul_right E)
   ·show 0≤valX z
    rw [e6]
    exact Rat.mul_nonneg (Rat.le_of_lt (ha.pos hu)) h0
  ·have hm2:=vals_mem hz
   rw [y2] at hm2
   obtain ⟨e,he,e5⟩:=List.mem_map.1 hm2
   obtain ⟨u,hu,rfl⟩:=List.mem_map.1 he
   have e6:valX z = valX u * (1 - valQ p.data.toList):=(Prod.mk.inj e5).2.symm
   refine ⟨y1 z hz,?_,?_⟩
   ·show HasDen _ (valX z)
    rw [e6,Rat.mul_comm]
    exact ((HasDen.one _).sub (HasDen.self _)).mul ((e3 u hu).mul_left D)
   ·show 0≤valX z
    rw [e6]
    exact Rat.mul_nonneg (Rat.le_of_lt (hb.pos hu)) (by grind)
 have hsum:sumBy (fun e=>e.2) (valsD (x ++ y)) = 1:=by
  rw [vals_append,sumBy_append,x2,y2,sum_times,sum_times,ha.isD.one,hb.isD.one]
  grind
 obtain ⟨out,eo,ho,hmass⟩:=make_dst ⟨_,Nat.mul_pos (valQ p.data.toList).den_pos (Nat.mul_pos d1 e1),mul_lt_pow sp.2 (mul_lt_pow d2 e2),hden⟩ (by omega) hsum
 refine ⟨out,?_,ho,fun k=>?_⟩
 ·unfold mixX
  rw [chk2_ok ha.ok hb.ok,if_neg (by decide),if_neg (by simp only [ne_eq,Decidable.not_not];exact posE_zero.2 ⟨hp,h0⟩),if_neg (by grind),subX_val err_oT hp,val_oT,ovT_fit f1]
  dsimp only
  rw [ex]
  dsimp only
  rw [ey]
  exact eo
 ·rw [hmass,vals_append,massD_append,x2,y2,mass_times,mass_times]
end
end Go.Proofs.YtigapglmipmbeaaGreatDoor
namespace Go.Proofs.YtigapglmipmbeaaGreatDoor
open Lim
theorem atT_sz {k:Nat} (hk:0 < k) {key:ByteArray}:∀ {ls:List L2},(∀ x∈ls,Sz k (valX x))→Sz k (valQ (atT ls key).data.toList)
 | [],_=>by
  show Sz k (valQ zT.data.toList)
  rw [val_zT]
  exact Sz.zero.mono hk
 | x :: l,h=>by
  unfold atT
  split
  ·exact h x (by simp)
  ·exact atT_sz hk fun y hy=>h y (by simp [hy])
theorem atT_has {D:Nat} {key:ByteArray}:∀ {ls:List L2},(∀ x∈ls,HasDen D (valX x))→HasDen D (valQ (atT ls key).data.toList)
 | [],_=>by
  show HasDen D (valQ zT.data.toList)
  rw [val_zT]
  exact HasDen.zero D
 | x :: l,h=>by
  unfold atT
  split
  ·exact h x (by simp)
  ·exact atT_has fun y hy=>h y (by simp [hy])
theorem partX_val {f:ByteArray} {q:List L2} {m:L2} (hf:errQ f.data.toList = 0) (hq:OkV q) (hm:errQ m.2.data.toList = 0)
  (h1:fits (valQ f.data.toList * valQ (atT q m.1).data.toList) = true) (h2:fits (valX m - valQ f.data.toList * valQ (atT q m.1).data.toList) = true) :
  partX f q m = .ok (rT (pos (valX m - valQ f.data.toList * valQ (atT q m.1).data.toList)))∧fits (pos (valX m - valQ f.data.toList * valQ (atT q m.1).data.toList)) = true:=by
 unfold partX
 rw [mulX_val hf (atT_ok hq),ovT_fit h1]
 dsimp only
 rw [subX_val hm (err_rT h1),val_rT h1,ovT_fit h2]
 dsimp only
 rw [maxX_val err_zT (err_rT h2),val_rT h2,val_zT]
 unfold pos
 by_cases h:0 < valX m - valQ f.data.toList * valQ (atT q m.1).data.toList
 ·have hc:cmpQ 0 (valX m - valQ f.data.toList * valQ (atT q m.1).data.toList) < 0:=by
   unfold cmpQ;rw [if_pos h];decide
  rw [if_pos h,if_pos hc]
  exact ⟨rfl,h2⟩
 ·have hc:¬ cmpQ 0 (valX m - valQ f.data.toList * valQ (atT q m.1).data.toList) < 0:=by
   unfold cmpQ;rw [if_neg h];split <;> decide
  rw [if_neg h,if_neg hc]
  exact ⟨by rw [← IsT.zero.text];rfl,fits_zero⟩
theorem deltaD_vals {p q:List L2} (hq:(q.map (·.1)).Nodup) (f:Rat):deltaD (valsD p) (valsD q) f = sumBy (fun m=>pos (valX m - f * valQ (atT q m.1).data.toList)) p:=by
 unfold deltaD
 show sumBy _ (p.map _) = _
 rw [sumBy_map]
 exact sumBy_congr fun m _=>by rw [atT_val hq]
theorem deltaX_fit {p q:List L2} {f:ByteArray} {a b j:Nat} (hp:Dst a p) (hq:Dst b q) (hf:errQ f.data.toList = 0) (h0:0≤valQ f.data.toList) (sf:Sz j (valQ f.data.toList)) (hm:a + (j + b) + 1≤maxD) (hb:0 < b) :
  deltaX p q f = .ok (rT (deltaD (valsD p) (valsD q) (valQ f.data.toList)))∧fits (deltaD (valsD p) (valsD q) (valQ f.data.toList)) = true:=by
 obtain ⟨D,d1,d2,d3⟩:=hp.den
 obtain ⟨E,e1,e2,e3⟩:=hq.den
 have hD:0 < D * ((valQ f.data.toList).den * E):=Nat.mul_pos d1 (Nat.mul_pos (valQ f.data.toList).den_pos e1)
 have hlt:D * ((valQ f.data.toList).den * E) < 10 ^ maxD:=Nat.lt_of_lt_of_le (mul_lt_pow d2 (mul_lt_pow sf.2 e2)) (pow_le (by omega))
 have step:∀ m∈p,partX f q m = .ok (rT (pos (valX m - valQ f.data.toList * valQ (atT q m.1).data.toList)))∧fits (pos (valX m - valQ f.data.toList * valQ (atT q m.1).data.toList)) = true ∧
   HasDen (D * ((valQ f.data.toList).den * E)) (pos (valX m - valQ f.data.toList * valQ (atT q m.1).data.toList))∧0≤pos (valX m - valQ f.data.toList * valQ (atT q m.1).data.toList):=by
  intro m hm2
  have s1:=sf.mul (atT_sz hb (fun x hx=>hq.sz hx) (key:=m.1))
  obtain ⟨e4,e5⟩:=partX_val hf hq.okV (hp.okV m hm2) (fits_sz.2 (s1.mono (by omega))) (fits_sz.2 (((hp.sz hm2).sub s1).mono (by omega)))
  exact ⟨e4,e5,HasDen.pos (((d3 m hm2).mul_right _).sub (((HasDen.self _).mul (atT_has e3)).mul_left _)),pos_nonneg _⟩
 have ht:=delta_top hp.isD hq.isD h0
 have hn:=delta_nonneg (valsD p) (valsD q) (valQ f.data.toList)
 rw [deltaD_vals hq.once] at ht hn ⊢
 have r:=foldX_fit hD Nat.one_pos (by omega) err_zT (by rw [val_zT];exact HasDen.zero _) (by rw [val_zT];exact Rat.le_refl) step (by rw [val_zT,Rat.zero_add];exact ht)
 rw [val_zT,Rat.zero_add] at r
 refine ⟨?_,fits_sz.2 ((HasDen.sum fun m hm2=>(step m hm2).2.2.1).sz hD hn (M:=1) ht (by omega) Nat.one_pos)⟩
 unfold deltaX
 rw [chk2_ok hp.ok hq.ok,if_neg (by decide),if_neg (by simp only [ne_eq,Decidable.not_not];exact posE_zero.2 ⟨hf,h0⟩)]
 exact r
end Go.Proofs.YtigapglmipmbeaaGreatDoor
namespace Go.Proofs.YtigapglmipmbeaaGreatDoor
open Go.ChangeShapes Go.WideShapes Go.ChangeAt Go.RowKit
section
variable {H:Type} {enc:TypeId × Value→H}
end
end Go.Proofs.YtigapglmipmbeaaGreatDoor
namespace Go.Proofs.YtigapglmipmbeaaGreatDoor
open Go.RowKit
structure Kind (α:Type) where
 ty:TypeId
 k:Nat
 is:(C:TypeId→Nat→Prop)→World→List Value→α→Prop
 inner:List TypeId
 len:∀ {C w l x},is C w l x→l.length = k
 keep:∀ {C C':TypeId→Nat→Prop} {w w':World} {l x},is C w l x→(∀ E b,E∈inner→b < w.heap.size→C E b→C' E b∧w'.heap[b]? = w.heap[b]?)→is C' w' l x
def SRow {α:Type} (K:Kind α) (C:TypeId→Nat→Prop) (w:World) (v:Value) (xs:List α):Prop :=
 ∃ A c,v = .slice A xs.length c∧xs.length≤c∧c≤maxLen∧(0 < xs.length→∃ b o,A = some ⟨b,o,none⟩∧C K.ty b∧b < w.heap.size ∧
  ∀ (j:Nat) (x:α),xs[j]? = some x→∃ l,K.is C w l x∧∀ (i:Nat) (u:Value),l[i]? = some u→w.cell? ⟨b,o + j * K.k + i,none⟩ = some u)
section
variable {α:Type} {K:Kind α} {C C':TypeId→Nat→Prop} {w w':World} {v:Value} {xs:List α}
theorem SRow.keep (h:SRow K C w v xs) (hk:∀ E b,E∈K.ty :: K.inner→b < w.heap.size→C E b→C' E b∧w'.heap[b]? = w.heap[b]?):SRow K C' w' v xs:=by
 obtain ⟨A,c,e,h1,h2,h3⟩:=h
 refine ⟨A,c,e,h1,h2,fun h0=>?_⟩
 obtain ⟨b,o,eA,hC,hb,hx⟩:=h3 h0
 obtain ⟨hC',hs⟩:=hk K.ty b (by simp) hb hC
 have hb':b < w'.heap.size:=by
  have:w'.heap[b]? = some w.heap[b]:=hs.trans (Array.getElem?_eq_getElem hb)
  exact (Array.getElem?_eq_some_iff.1 this).1
 refine ⟨b,o,eA,hC',hb',fun j x hj=>?_⟩
 obtain ⟨l,hl,hc⟩:=hx j x hj
 exact ⟨l,K.keep hl fun E b hE=>hk E b (List.mem_cons_of_mem _ hE),fun i u hi=>(World.cell?_of_block hs).trans (hc i u hi)⟩
theorem SRow.nil (K:Kind α) (C:TypeId→Nat→Prop) (w:World):SRow K C w (.slice none 0 0) []:=⟨none,0,rfl,Nat.le_refl _,Nat.zero_le _,fun h=>absurd h (by simp)⟩
theorem SRow.take {A:Option Addr} {c:Nat} (h:SRow K C w (.slice A xs.length c) xs) {n:Nat} (hn:n≤xs.length):SRow K C w (.slice A n c) (xs.take n):=by
 obtain ⟨A',c',e,h1,h2,h3⟩:=h
 simp only [Value.slice.injEq,true_and] at e
 obtain ⟨rfl,rfl⟩:=e
 have hl:(xs.take n).length = n:=by simp;omega
 refine ⟨A,c,by rw [hl],by omega,h2,fun h0=>?_⟩
 obtain ⟨b,o,eA,hC,hb,hx⟩:=h3 (by omega)
 refine ⟨b,o,eA,hC,hb,fun j x hj=>hx j x ?_⟩
 rw [List.getElem?_take] at hj
 split at hj
 ·exact hj
 ·cases hj
end
def Own (base:Nat) (w:World) (E:TypeId) (b:Nat):Prop:=base≤b∧∃ cur,w.heap[b]? = some (.cells cur E (0,0))
def Any (_:TypeId) (_:Nat):Prop:=True
section
variable {α:Type} {K:Kind α} {base:Nat} {w w':World} {v v':Value} {xs:List α}
theorem own_keep {base:Nat} {w w':World} {row:Option Nat} (hg:w.grownBy w' row) {E:TypeId} {b:Nat} (hE:∀ r,row = some r→∀ cur,w.heap[r]?≠some (.cells cur E (0,0))) (h:Own base w E b):Own base w' E b∧w'.heap[b]? = w.heap[b]?:=by
 obtain ⟨hb,cur,hc⟩:=h
 have hs:w'.heap[b]? = w.heap[b]?:=hg.block b (Array.getElem?_eq_some_iff.1 hc).1 fun e=>hE b e.symm cur hc
 exact ⟨⟨hb,cur,hs.trans hc⟩,hs⟩
end
open Go.ChangeShapes
section
variable {H:Type} {enc:TypeId × Value→H} {w:World} {base:Nat} {sp:Nat→Bool} {held:Bool} {fuel:Nat}
theorem open_kind {α:Type} {K:Kind α} {T:TypeId} (hu:Tryz.prog.underlying T = some (.slice K.ty)) (hk:Tryz.prog.cellsOf K.ty = K.k) (hk0:0 < K.k)
  (hel:∀ n cs y,DataW.trod enc Tryz.prog w base sp held n K.ty cs = some y→∃ x,K.is Any w cs x) {cs:List Value} {y:DataW H × List MemPlace} (h:DataW.trod enc Tryz.prog w base sp held fuel T cs = some y) :
  ∃ v xs,cs = [v]∧SRow K Any w v xs:=by
 rcases Go.Deep.open_slice hu h with ⟨hcs,_⟩ | ⟨a,len,cap,m,n,D,Pl,hcs,_,hl,hm,hmm,_,hx⟩
 ·exact ⟨_,[],hcs,SRow.nil K Any w⟩
 ·have hlm:len≤m:=by rw [hmm];split <;> omega
  have each:∀ i,i < len→∃ z:Option α × List Value,∃ x,z.1 = some x∧K.is Any w z.2 x∧∀ j,j < K.k→w.cell? (a.add (i * K.k + j)) = z.2[j]?:=by
   intro i hi
   obtain ⟨cs',h1,h2⟩:=hx i (by omega)
   rw [hk] at h1
   obtain ⟨_,hlen,hcell⟩:=World.cells?_some h1
   obtain ⟨x,hi'⟩:=hel _ _ _ h2
   exact ⟨(some x,cs'),x,rfl,hi',fun j hj=>by rw [← Go.Deep.add_add];exact hcell j hj⟩
  obtain ⟨f,hf⟩:=Go.Deep.choose_lt each
  by_cases h0:0 < len
  case neg =>
   obtain rfl:len = 0:=by omega
   exact ⟨_,[],hcs,some a,cap,rfl,Nat.zero_le _,hm,fun h=>absurd h (by simp)⟩
  have hne:∃ g:Nat→α,∀ i,i < len→(f i).1 = some (g i):=by
   obtain ⟨x0,e0,_⟩:=hf 0 h0
   refine ⟨fun i=>(f i).1.getD x0,fun i hi=>?_⟩
   obtain ⟨x,e,_⟩:=hf i hi
   simp [e]
  obtain ⟨g,hg⟩:=hne
  refine ⟨_,(List.range len).map g,hcs,some a,cap,by simp,by simpa using hl,hm,fun _=>?_⟩
  have hcl:∀ i,i < len→∀ j u,(f i).2[j]? = some u→w.cell? (a.add (i * K.k + j)) = some u:=fun i hi j u hu=>by
   obtain ⟨x,e,hi',hc⟩:=hf i hi
   have:=K.len hi'
   have hj:j < K.k:=by have:=(List.getElem?_eq_some_iff.1 hu).1;omega
   rw [hc j hj,hu]
  obtain ⟨b,o,spot⟩:=a
  have h00:∃ u,(f 0).2[0]? = some u:=by
   obtain ⟨x,e,hi',hc⟩:=hf 0 h0
   have:=K.len hi'
   exact ⟨_,List.getElem?_eq_getElem (by omega)⟩
  obtain ⟨u0,hu0⟩:=h00
  have hc0:=hcl 0 h0 0 u0 hu0
  have hspot:spot = none:=by simpa [Addr.add] using World.cell?_spot hc0
  subst hspot
  have hlt:=World.block_lt_of_cell? w _ hc0
  refine ⟨b,o,rfl,trivial,by simpa [Addr.add] using hlt,fun j x hj=>?_⟩
  have hjl:j < len:=by have:=(List.getElem?_eq_some_iff.1 hj).1;simpa using this
  obtain ⟨x',e,hi',_⟩:=hf j hjl
  have ex:x = x':=by
   rw [List.getElem?_map,List.getElem?_range hjl] at hj
   simp only [Option.map_some,Option.some.injEq] at hj
   have:=hg j hjl
   rw [e] at this
   simp only [Option.some.injEq] at this
   rw [← hj,← this]
  subst ex
  refine ⟨(f j).2,hi',fun i u hu=>?_⟩
  have:=hcl j hjl i u hu
  unfold Addr.add at this
  split at this
  ·simp_all
  ·rw [show o + j * K.k + i = o + (j * K.k + i) by omega]
   exact this
end
end Go.Proofs.YtigapglmipmbeaaGreatDoor
namespace Go.Proofs.YtigapglmipmbeaaGreatDoor
open Go.RowKit Go.ChangeShapes Go.WideShapes Go.ChangeAt
def pairK (t:TypeId):Kind L2 where
 ty:=t
 k:=2
 is:=fun _ _ l x=>l = [.string x.1,.string x.2]∧x.1.size≤maxLen∧x.2.size≤maxLen
 inner:=[]
 len:=fun h=>by rw [h.1];rfl
 keep:=fun h _=>h
theorem cellsMass:Tryz.prog.cellsOf 30 = 2:=by kernel_rfl
theorem cellsNumD:Tryz.prog.cellsOf 23 = 1:=by kernel_rfl
theorem cellsStrD:Tryz.prog.cellsOf 9 = 1:=by kernel_rfl
theorem laidOutD:laidOutB Tryz.prog = true:=by kernel_rfl
section
variable {H:Type} {enc:TypeId × Value→H} {w:World} {base:Nat} {sp:Nat→Bool} {held:Bool} {fuel:Nat}
theorem open_mass1 (n:Nat) (cs:List Value) (y:DataW H × List MemPlace) (h:DataW.trod enc Tryz.prog w base sp held n 30 cs = some y):∃ x,(pairK 30).is Any w cs x:=by
 obtain ⟨y0,y1,n',_,hl,g0,g1⟩:=trod_struct2 Tryz.underlying30 h
 rw [cellsMass] at hl
 match cs,hl with
 | [c0,c1],_ =>
  simp [cellsStrD,cellsNumD] at g0 g1
  obtain ⟨a,e0,_,z0⟩:=DataW.trod_string Tryz.underlying9 g0
  obtain ⟨b,e1,_,z1⟩:=DataW.trod_string Tryz.underlying23 g1
  simp only [List.cons.injEq,and_true] at e0 e1
  subst e0 e1
  exact ⟨(a,b),rfl,z0,z1⟩
theorem row_of_kind {t:TypeId} {v:Value} {ls:List L2} (h:SRow (pairK t) Any w v ls):LRowW w v ls∧∀ x∈ls,x.1.size≤maxLen∧x.2.size≤maxLen:=by
 obtain ⟨A,c,e,h1,h2,h3⟩:=h
 refine ⟨⟨A,c,e,by omega,fun h0=>?_⟩,fun x hx=>?_⟩
 ·obtain ⟨b,o,eA,_,hb,hx⟩:=h3 h0
  refine ⟨b,o,eA,hb,fun j x hj=>?_⟩
  obtain ⟨l,⟨hl,_⟩,hc⟩:=hx j x hj
  subst hl
  exact ⟨hc 0 _ rfl,hc 1 _ rfl⟩
 ·obtain ⟨j,hj⟩:=List.getElem?_of_mem hx
  obtain ⟨b,o,_,_,_,hx⟩:=h3 (by have:=(List.getElem?_eq_some_iff.1 hj).1;omega)
  obtain ⟨l,⟨_,hs⟩,_⟩:=hx j x hj
  exact hs
theorem open_masses {a0:Option Addr} {len0 cap0:Nat} {d:DataW H} {p:List MemPlace} (h:DataW.Trod enc Tryz.prog w base sp held 22 (.slice a0 len0 cap0) d p) :
  ∃ ls,LRowW w (.slice a0 len0 cap0) ls∧∀ x∈ls,x.1.size≤maxLen∧x.2.size≤maxLen:=by
 obtain ⟨f,hf⟩:=h
 obtain ⟨v',ls,e,hr⟩:=open_kind (K:=pairK 30) Tryz.underlying22 cellsMass (by decide) open_mass1 hf
 simp [Value.cells] at e
 subst e
 exact ⟨ls,row_of_kind hr⟩
theorem trod_below {v:Value} {t:TypeId} {d:DataW H} {p:List MemPlace} (h:DataW.Trod enc Tryz.prog w base sp held t v d p):∀ x∈p,x.block < w.heap.size:=by
 obtain ⟨m,hm⟩:=h
 exact DataW.trod_lt m _ _ _ hm
end
end Go.Proofs.YtigapglmipmbeaaGreatDoor
namespace Go.Proofs.YtigapglmipmbeaaGreatDoor
open Go
theorem enters {P : Program} {rest : List (List Char)} (h : behindMainWord (wordsSigns P.initOrder.toList) = "cut".toList :: rest) (h1 : P.laysLater = false) (h2 : P.bearsReflect = false) (h3 : P.doorFits [] = true) : P.mayEnter = true := by
 have e : stripLifts liftWords ("cut".toList :: rest) = ([], "cut".toList :: rest) := by kernel_rfl
 unfold Program.mayEnter
 rw [h]
 dsimp only
 rw [e]
 simp [h1,h2,h3]
theorem cons_of_head {α:Type} {l:List α} {x:α} (h:l.head? = some x):l = x :: l.tail:=by
 cases l with
 | nil=>cases h
 | cons y t=>cases h;rfl
theorem doorFitsF:Tryz.prog.doorFits [] = true:=by kernel_rfl
theorem headWordF : (behindMainWord (wordsSigns Tryz.prog.initOrder.toList)).head? = some "cut".toList := by kernel_rfl
theorem laysLaterF:Tryz.prog.laysLater = false:=by kernel_rfl
theorem bearsReflectF:Tryz.prog.bearsReflect = false:=by kernel_rfl
theorem mayEnterF:Tryz.prog.mayEnter = true:=enters (cons_of_head headWordF) laysLaterF bearsReflectF doorFitsF
theorem mainIsF : Tryz.prog.mainIs = some (true, "5395951699d0e7c088c16c506ed30de6925104505e2026abbc93d9abbfe2aced".toList) := by kernel_rfl
theorem looksF:true = Tryz.prog.looks []:=by kernel_rfl
end Go.Proofs.YtigapglmipmbeaaGreatDoor
