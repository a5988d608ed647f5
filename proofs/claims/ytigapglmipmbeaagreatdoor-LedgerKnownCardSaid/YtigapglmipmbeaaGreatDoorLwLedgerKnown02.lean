/- Regions that draw their order within a round of a range over a function: those that only read; those whose last operations wait for all others; those whose reads may come among the others. Regions that draw their order: any of the operations may be reads, which come whenever they may; the others come in any order that their edges allow. Regions that draw their order, in stages: reads (guarded or not) may come as soon as their edges allow, also behind some of the others; the others come in any order that their edges allow. A range over a function whose yields come in a known order: the body is asked only at what comes next. strconv.FormatUint at base 10; the laid tables that it reads. -/
import Derived.Sort.BigQuietIn
import Derived.OrdersIn
import Derived.TacticsIn
import Derived.AtR
import Derived.CallsIn
import Derived.Deep.LoopGhost
import Derived.Below
import Derived.Test.YtigapglmipmbeaaGreatDoorProg
import Derived.RangeFuncNested
import Derived.RangeFuncBound
import Derived.RangeFuncCalls
import Derived.RangeFuncLeaves
import Derived.Shelf.Abstract
import Derived.Shelf.RegionOpen
import Derived.OwnWalkIn
import Derived.TacticsInMore
import Derived.LoopNIn
import Derived.LoopIn
import Derived.WalkHide
import Derived.Test.YtigapglmipmbeaaGreatDoorLwLedgerKnown01
import Derived.Lib.AppendIntMem
set_option maxRecDepth 100000
set_option maxHeartbeats 16000000
namespace Go.Proofs.YtigapglmipmbeaaGreatDoor
open Go.RowKit
section
variable {F:Fence} {n:Nat} {P:Program} {ops:Array Oper} {md:Region.Mode} {C:World→Prop}
def noDefer (o:Oper):Bool:=match o.op with|.defer _=>false|_=>true
theorem noDefer_spec {o:Oper} (h:noDefer o=true):∀ c,o.op≠.defer c:=fun c e=>by simp [noDefer,e] at h
theorem quiet_runs {o:Oper} {a:Act} {K:Act→Prop} {K':Act→World→Prop} {Q':Exit→Act→World→Prop} {w:World} (hd:noDefer o=true) (hw:C w) (hK:∀ a w',C w'→K a→K' a w')
  (hh:o.quietIn F n P a C K) (ha:o.askedIn F P a C):o.wpIn F n P a w K' Q':=by
 obtain ⟨v,hv,hn⟩:=hh
 have hrun:=hv w hw
 rw [Oper.quietAtIn] at hrun
 rw [Oper.wpIn,Oper.semAt_eq _ _ _ (noDefer_spec hd)]
 refine ⟨ha w hw,?_⟩
 revert hrun
 cases (execOp a.eval o).run P w with
 | halt x w'=>exact fun h=>h.elim
 | ok x w' =>
  cases x with
  | value u=>rintro ⟨rfl,rfl⟩;exact hK _ _ hw hn
  | skip=>rintro ⟨rfl,rfl⟩;exact hK _ _ hw hn
  | enter f args=>rintro ⟨rfl,hdp,hc⟩;exact ⟨hdp,hc.mono fun e w'' h=>by obtain ⟨rfl,h2⟩:=h;exact hK _ _ h2 hn⟩
  | _=>exact fun h=>h.elim
theorem quiet_op_runs {i:Nat} {a:Act} {K:Act→Prop} {K':Act→World→Prop} {Q':Exit→Act→World→Prop} {w:World} (hd:∀ o∈ops,noDefer o=true) (hw:C w) (hK:∀ a w',C w'→K a→K' a w')
  (hh:qOpIn F n P ops C i K a):wpOpIn F n P ops Q' i K' a w:=by
 cases ho:ops[i]? with
 | none =>
  simp only [qOpIn,ho] at hh
  simp only [wpOpIn,ho]
  exact hK _ _ hw hh
 | some o =>
  simp only [qOpIn,ho] at hh
  simp only [wpOpIn,ho]
  by_cases hwant:Region.wanted o (yielded ops a.tmps)=true
  ·rw [if_pos hwant] at hh ⊢
   exact quiet_runs (hd o (Array.mem_of_getElem? ho)) hw hK hh.2 hh.1
  ·rw [if_neg hwant] at hh ⊢
   exact ⟨hh.1 w hw,hK _ _ hw hh.2⟩
theorem quiet_any_runs {Q:Act→Prop} {Q':Exit→Act→World→Prop} (hd:∀ o∈ops,noDefer o=true) (hQ:∀ a w,C w→Q a→Q' .normal a w) (k:Nat) :
  ∀ (listed:Array Bool) (a:Act) (w:World),C w→wpAnyQIn F n P md ops C Q k listed a→wpAnyIn F n P md ops Q' k listed a w:=by
 induction k with
 | zero=>exact fun _ _ _ hw h=>⟨h.1,hQ _ _ hw h.2⟩
 | succ k ih=>exact fun _ _ _ hw h=>⟨fun e=>hQ _ _ hw (h.1 e),fun i hi=>quiet_op_runs hd hw (fun a' w' hw' h'=>ih _ a' w' hw' h') (h.2 i hi)⟩
theorem wpIn_quiet_round {id:Nat} {Q:Exit→Act→World→Prop} {a:Act} {w:World} {l:List Oper} (hm:P.follows .mixedOrders=true) (hB:Region.lexB .any l.toArray=true) (hd:l.all noDefer=true)
  (h:wpQuietIn F n P l.toArray (fun w'=>∃ n,w'=w.drewN n) (fun a'=>∀ w',(∃ n,w'=w.drewN n)→Q .normal a' w') l a):(Code.region id l.toArray true).wpIn F n P Q a w:=by
 simp only [Region.lexB,Bool.and_eq_true] at hB
 refine wpIn_region_any hm (quiet_any_runs (C:=fun w'=>∃ n,w'=w.drewN n) (Q:=fun a'=>∀ w',(∃ n,w'=w.drewN n)→Q .normal a' w')
  (fun o ho=>List.all_eq_true.1 hd o (by simpa using ho)) (fun _ w' hw' h=>h w' hw') _ _ _ _ ⟨1,rfl⟩ ?_)
 have:=wpAnyQIn_lex (F:=F) (n:=n) (C:=fun w'=>∃ n,w'=w.drewN n) (md:=.any) hB.1 l 0 (Array.replicate l.toArray.size false) a (by simp) (by simpa using hB.2) h
 simpa using this
def ownEdges (k:Nat) (o:Oper):Bool:=o.after.all fun e=>!Region.binds .any e || decide (e.on < k)
def waitsAll (k:Nat) (o:Oper):Bool:=(List.range k).all fun i=>o.after.any fun e=>Region.binds .any e&&e.on==i
def guardBelow (k:Nat) (o:Oper):Bool:=match o.guard with|none=>true|some (j,_)=>decide (j < k)
def tailOk (H T:List Oper):Bool :=
 (List.range H.length).all (fun j=>match H[j]? with|none=>true|some o=>ownEdges j o&&guardBelow H.length o) &&
 (List.range T.length).all (fun t=>match T[t]? with|none=>true|some o=>ownEdges (H.length+t) o&&waitsAll (H.length+t) o)
theorem ownEdges_spec {k:Nat} {o:Oper} (h:ownEdges k o=true):∀ e∈o.after,Region.binds .any e=true→e.on < k:=by
 intro e he hb
 have:=Array.all_eq_true_iff_forall_mem.1 h e he
 rw [hb] at this
 simpa using this
theorem waitsAll_spec {k:Nat} {o:Oper} (h:waitsAll k o=true) {i:Nat} (hi:i < k):∃ e∈o.after,Region.binds .any e=true∧e.on=i:=by
 have:=List.all_eq_true.1 h i (List.mem_range.2 hi)
 obtain ⟨e,he,h2⟩:=Array.any_eq_true'.1 this
 simp only [Bool.and_eq_true,beq_iff_eq] at h2
 exact ⟨e,he,h2⟩
section
variable {H T:List Oper}
theorem tailOk_head (h:tailOk H T=true) {j:Nat} {o:Oper} (hj:H[j]?=some o):ownEdges j o=true∧guardBelow H.length o=true:=by
 simp only [tailOk,Bool.and_eq_true] at h
 have hlt:j < H.length:=(List.getElem?_eq_some_iff.1 hj).1
 have:=List.all_eq_true.1 h.1 j (List.mem_range.2 hlt)
 simpa [hj] using this
theorem tailOk_tail (h:tailOk H T=true) {t:Nat} {o:Oper} (hj:T[t]?=some o):ownEdges (H.length+t) o=true∧waitsAll (H.length+t) o=true:=by
 simp only [tailOk,Bool.and_eq_true] at h
 have hlt:t < T.length:=(List.getElem?_eq_some_iff.1 hj).1
 have:=List.all_eq_true.1 h.2 t (List.mem_range.2 hlt)
 simpa [hj] using this
theorem tail_runs (hok:tailOk H T=true) (Q:Exit→Act→World→Prop):∀ (g t:Nat) (L:Array Bool) (a:Act) (w:World),t+g=T.length→(∀ i,i < H.length+t→L.getD i false=true)→(∀ i,H.length+t≤i→i < (H++T).length→L.getD i true=false)→L.size=(H++T).length →
  wpListIn F n P (H++T).toArray Q (T.drop t) a w→wpAnyIn F n P .any (H++T).toArray Q g L a w:=by
 intro g
 induction g with
 | zero =>
  intro t L a w ht h1 h2 hs h
  refine ⟨?_,?_⟩
  ·rw [List.eq_nil_iff_forall_not_mem]
   intro j hj
   obtain ⟨hj1,o,ho,_⟩:=mem_ready.1 hj
   have hlt:j < (H++T).length:=by have:=(Array.getElem?_eq_some_iff.1 ho).1;simpa using this
   have:=h1 j (by simp at hlt;omega)
   simp only [Array.getD_eq_getD_getElem?] at this hj1
   cases hx:L[j]? with
   | none=>rw [hx] at hj1;cases hj1
   | some b=>rw [hx] at hj1 this;simp at hj1 this;rw [this] at hj1;cases hj1
  ·rw [List.drop_of_length_le (by omega)] at h;exact h
 | succ g ih =>
  intro t L a w ht h1 h2 hs h
  have hlt:t < T.length:=by omega
  have hop:((H++T).toArray)[H.length+t]?=some T[t]:=by simp [hlt]
  obtain ⟨q1,q2⟩:=tailOk_tail hok (t:=t) (o:=T[t]) (by simp [hlt])
  have hrd:H.length+t∈Region.ready .any (H++T).toArray L :=
   mem_ready.2 ⟨h2 _ (Nat.le_refl _) (by simp;omega),_,hop,fun e he hb=>h1 _ (ownEdges_spec q1 e he hb)⟩
  refine ⟨fun e=>(by rw [e] at hrd;cases hrd),fun j hj=>?_⟩
  obtain ⟨hj1,o,ho,hall⟩:=mem_ready.1 hj
  have hjlt:j < (H++T).length:=by have:=(Array.getElem?_eq_some_iff.1 ho).1;simpa using this
  have hje:j=H.length+t:=by
   rcases Nat.lt_trichotomy j (H.length+t) with hl|he|hg
   ·exfalso
    have:=h1 j hl
    simp only [Array.getD_eq_getD_getElem?] at this hj1
    cases hx:L[j]? with
    | none=>rw [hx] at hj1;cases hj1
    | some b=>rw [hx] at hj1 this;simp at hj1 this;rw [this] at hj1;cases hj1
   ·exact he
   ·exfalso
    have ho':T[j - H.length]?=some o:=by
     rw [List.getElem?_toArray,List.getElem?_append_right (by omega)] at ho;exact ho
    obtain ⟨_,r2⟩:=tailOk_tail hok ho'
    obtain ⟨e,he,hb,hon⟩:=waitsAll_spec r2 (i:=H.length+t) (by omega)
    have:=hall e he hb
    rw [hon] at this
    have h3:=h2 (H.length+t) (Nat.le_refl _) (by simp;omega)
    simp only [Array.getD_eq_getD_getElem?] at this h3
    cases hx:L[H.length+t]? with
    | none=>rw [hx] at h3;cases h3
    | some b=>rw [hx] at h3 this;simp at h3 this;rw [this] at h3;cases h3
  subst hje
  have ho2:o=T[t]:=by rw [hop] at ho;exact (Option.some.inj ho).symm
  subst ho2
  rw [List.drop_eq_getElem_cons hlt] at h
  have next:∀ a' w',wpListIn F n P (H++T).toArray Q (T.drop (t+1)) a' w'→wpAnyIn F n P .any (H++T).toArray Q g (L.setIfInBounds (H.length+t) true) a' w':=fun a' w' h'=>by
   refine ih (t+1) _ a' w' (by omega) (fun i hi=>?_) (fun i hi hi2=>?_) (by simp [hs]) h'
   ·by_cases e:i=H.length+t
    ·subst e
     simp only [Array.getD_eq_getD_getElem?]
     rw [Array.getElem?_setIfInBounds_self_of_lt (by rw [hs];exact hjlt)];rfl
    ·exact getD_set_true (h1 i (by omega))
   ·rw [getD_set_ne true (by omega)];exact h2 i (by omega) hi2
  simp only [wpOpIn,hop]
  simp only [wpListIn] at h
  split
  ·rename_i hw
   rw [if_pos hw] at h
   exact Oper.wpIn_mono (fun a' w' h'=>next a' w' h') h
  ·rename_i hw
   rw [if_neg hw] at h
   exact ⟨h.1,next _ _ h.2⟩
theorem wanted_head {H T:List Oper} {o:Oper} (hg:guardBelow H.length o=true) (tmps:Array Value):Region.wanted o (yielded (H++T).toArray tmps)=Region.wanted o (yielded H.toArray tmps):=by
 unfold Region.wanted guardBelow at *
 cases hgd:o.guard with
 | none=>rfl
 | some p =>
  obtain ⟨j,b⟩:=p
  rw [hgd] at hg
  simp only [decide_eq_true_eq] at hg
  have:((H++T).toArray)[j]?=(H.toArray)[j]?:=by simp [List.getElem?_append_left hg]
  simp [yielded,this]
def unlisted (k:Nat) (L:Array Bool):Nat:=((List.range k).filter fun i=>!L.getD i true).length
theorem unlisted_zero {k:Nat} {L:Array Bool} (h:unlisted k L=0) (hs:k≤L.size):∀ i,i < k→L.getD i false=true:=by
 intro i hi
 have h0:(List.range k).filter (fun i=>!L.getD i true)=[]:=List.length_eq_zero_iff.1 h
 have:=List.filter_eq_nil_iff.1 h0 i (List.mem_range.2 hi)
 simp only [Array.getD_eq_getD_getElem?] at this ⊢
 rw [Array.getElem?_eq_getElem (by omega)] at this ⊢
 simpa using this
theorem unlisted_set {k:Nat} {L:Array Bool} {i:Nat} (hi:i < k) (hs:k≤L.size) (hu:L.getD i true=false):unlisted k (L.setIfInBounds i true)+1=unlisted k L:=by
 have key:∀ (l:List Nat),l.Nodup→i∈l→(l.filter fun j=>!(L.setIfInBounds i true).getD j true).length+1=(l.filter fun j=>!L.getD j true).length:=by
  intro l
  induction l with
  | nil=>intro _ h;cases h
  | cons x r ih =>
   intro hn hm
   rw [List.nodup_cons] at hn
   by_cases hx:x=i
   ·subst hx
    have e1:(L.setIfInBounds x true).getD x true=true:=by
     simp only [Array.getD_eq_getD_getElem?]
     rw [Array.getElem?_setIfInBounds_self_of_lt (by omega)];rfl
    have e2:r.filter (fun j=>!(L.setIfInBounds x true).getD j true)=r.filter (fun j=>!L.getD j true):=by
     refine List.filter_congr fun j hj=>?_
     rw [getD_set_ne true (fun e=>hn.1 (by rw [e];exact hj))]
    rw [List.filter_cons,List.filter_cons,e1,hu,e2]
    simp
   ·have hm':i∈r:=by
     rcases List.mem_cons.1 hm with h|h
     ·exact absurd h.symm hx
     ·exact h
    have e1:(L.setIfInBounds i true).getD x true=L.getD x true:=getD_set_ne true (Ne.symm hx)
    have:=ih hn.2 hm'
    rw [List.filter_cons,List.filter_cons,e1]
    split
    ·simp only [List.length_cons];omega
    ·exact this
 exact key _ List.nodup_range (List.mem_range.2 hi)
section
variable {H T:List Oper}
theorem heads_run (hok:tailOk H T=true) (hd:∀ o∈H,noDefer o=true) (Q:Exit→Act→World→Prop):∀ (k:Nat) (LH L:Array Bool) (a:Act) (w:World),C w→unlisted H.length LH=k →
  LH.size=H.length→L.size=(H++T).length→(∀ i,i < H.length→L[i]?=LH[i]?)→(∀ i,H.length≤i→i < (H++T).length→L.getD i true=false) →
  wpAnyQIn F n P .any H.toArray C (fun a'=>∀ w',C w'→wpListIn F n P (H++T).toArray Q T a' w') k LH a →
  wpAnyIn F n P .any (H++T).toArray Q (k+T.length) L a w:=by
 intro k
 have sync:∀ {LH L:Array Bool} (d:Bool),(∀ i,i < H.length→L[i]?=LH[i]?)→∀ i,i < H.length→L.getD i d=LH.getD i d:=fun d h i hi=>by
  simp only [Array.getD_eq_getD_getElem?,h i hi]
 induction k with
 | zero =>
  intro LH L a w hC hu hs1 hs2 hsy htl h
  rw [Nat.zero_add]
  refine tail_runs hok Q T.length 0 L a w (by omega) (fun i hi=>?_) (fun i hi hi2=>htl i (by omega) hi2) hs2 ?_
  ·rw [sync false hsy i (by omega)];exact unlisted_zero hu (by omega) i (by omega)
  ·rw [List.drop_zero];exact h.2 w hC
 | succ k ih =>
  intro LH L a w hC hu hs1 hs2 hsy htl h
  -- some head is not listed: the least one is ready
  have hne:∃ i,i < H.length∧LH.getD i true=false:=by
   have hpos:0 < ((List.range H.length).filter fun i=>!LH.getD i true).length:=by have:=hu;unfold unlisted at this;omega
   obtain ⟨i,hi⟩:=List.exists_mem_of_length_pos hpos
   obtain ⟨h1,h2⟩:=List.mem_filter.1 hi
   exact ⟨i,List.mem_range.1 h1,by simpa using h2⟩
  obtain ⟨i0,⟨hi0,hu0⟩,hmin⟩:=exists_least (p:=fun i=>i < H.length∧LH.getD i true=false) hne
  have hready0:i0∈Region.ready .any (H++T).toArray L:=by
   have hop:((H++T).toArray)[i0]?=some H[i0]:=by simp [List.getElem?_append_left hi0,hi0]
   refine mem_ready.2 ⟨by rw [sync true hsy i0 hi0];exact hu0,_,hop,fun e he hb=>?_⟩
   have hlt:=ownEdges_spec (tailOk_head hok (j:=i0) (o:=H[i0]) (by simp [hi0])).1 e he hb
   rw [sync false hsy _ (by omega)]
   have hnot:¬ LH.getD e.on true=false:=fun hh=>by have:=hmin e.on ⟨by omega,hh⟩;omega
   simp only [Array.getD_eq_getD_getElem?] at hnot ⊢
   rw [Array.getElem?_eq_getElem (by omega)] at hnot ⊢
   simpa using hnot
  rw [show k+1+T.length=(k+T.length)+1 by omega]
  refine ⟨fun e=>(by rw [e] at hready0;cases hready0),fun j hj=>?_⟩
  obtain ⟨hj1,o,ho,hall⟩:=mem_ready.1 hj
  have hjh:j < H.length:=by
   rcases Nat.lt_or_ge j H.length with hl|hge
   ·exact hl
   ·exfalso
    have ho':T[j - H.length]?=some o:=by
     rw [List.getElem?_toArray,List.getElem?_append_right hge] at ho;exact ho
    obtain ⟨e,he,hb,hon⟩:=waitsAll_spec (tailOk_tail hok ho').2 (i:=i0) (by omega)
    have:=hall e he hb
    rw [hon,sync false hsy _ hi0] at this
    simp only [Array.getD_eq_getD_getElem?] at this hu0
    rw [Array.getElem?_eq_getElem (by omega)] at this hu0
    simp at this hu0
    rw [this] at hu0;cases hu0
  have hoH:H[j]?=some o:=by rw [List.getElem?_toArray,List.getElem?_append_left hjh] at ho;exact ho
  have hjr:j∈Region.ready .any H.toArray LH:=by
   refine mem_ready.2 ⟨by rw [← sync true hsy j hjh];exact hj1,o,by simpa using hoH,fun e he hb=>?_⟩
   have hlt:=ownEdges_spec (tailOk_head hok hoH).1 e he hb
   rw [← sync false hsy _ (by omega)];exact hall e he hb
  have hq:=h.2 j hjr
  have hujt:LH.getD j true=false:=by rw [← sync true hsy j hjh];exact hj1
  have hnext:∀ a' w',C w'→wpAnyQIn F n P .any H.toArray C (fun a'=>∀ w',C w'→wpListIn F n P (H++T).toArray Q T a' w') k (LH.setIfInBounds j true) a' →
    wpAnyIn F n P .any (H++T).toArray Q (k+T.length) (L.setIfInBounds j true) a' w':=fun a' w' hC' h'=>by
   refine ih _ _ a' w' hC' (by have:=unlisted_set hjh (by omega) hujt;omega) (by simpa using hs1) (by simpa using hs2) (fun i hi=>?_) (fun i hi hi2=>?_) h'
   ·by_cases e:j=i
    ·subst e
     rw [Array.getElem?_setIfInBounds_self_of_lt (by rw [hs2];simp;omega),Array.getElem?_setIfInBounds_self_of_lt (by omega)]
    ·rw [Array.getElem?_setIfInBounds_ne e,Array.getElem?_setIfInBounds_ne e];exact hsy i hi
   ·rw [getD_set_ne true (by omega)];exact htl i hi hi2
  have hq':qOpIn F n P (H++T).toArray C j (wpAnyQIn F n P .any H.toArray C (fun a'=>∀ w',C w'→wpListIn F n P (H++T).toArray Q T a' w') k (LH.setIfInBounds j true)) a:=by
   unfold qOpIn at hq ⊢
   rw [List.getElem?_toArray,hoH] at hq
   rw [ho]
   dsimp only at hq ⊢
   rw [wanted_head (tailOk_head hok hoH).2]
   exact hq
  unfold qOpIn at hq'
  unfold wpOpIn
  rw [ho] at hq' ⊢
  dsimp only at hq' ⊢
  by_cases hw:Region.wanted o (yielded (H++T).toArray a.tmps)=true
  ·rw [if_pos hw] at hq' ⊢
   exact quiet_runs (hd o (List.mem_of_getElem? hoH)) hC (fun a' w' hC' h'=>hnext a' w' hC' h') hq'.2 hq'.1
  ·rw [if_neg hw] at hq' ⊢
   exact ⟨hq'.1 w hC,hnext _ _ hC hq'.2⟩
theorem wpIn_head_tail {id:Nat} {Q:Exit→Act→World→Prop} {a:Act} {w:World} {ops:List Oper} (k:Nat) (hm:P.follows .mixedOrders=true)
  (hB:Region.lexB .any (ops.take k).toArray=true) (hd:(ops.take k).all noDefer=true) (hok:tailOk (ops.take k) (ops.drop k)=true)
  (h:wpQuietIn F n P (ops.take k).toArray (fun w'=>∃ m,w'=w.drewN m) (fun a'=>∀ w',(∃ m,w'=w.drewN m)→wpListIn F n P ops.toArray Q (ops.drop k) a' w') (ops.take k) a) :
  (Code.region id ops.toArray true).wpIn F n P Q a w:=by
 simp only [Region.lexB,Bool.and_eq_true] at hB
 have e:ops.take k++ops.drop k=ops:=List.take_append_drop k ops
 refine wpIn_region_any hm ?_
 have hq:=wpAnyQIn_lex (F:=F) (n:=n) (C:=fun w'=>∃ m,w'=w.drewN m) (md:=.any) hB.1 (ops.take k) 0 (Array.replicate (ops.take k).toArray.size false) a (by simp) (by simpa using hB.2) h
 have hrun:=heads_run (F:=F) (n:=n) (P:=P) (C:=fun w'=>∃ m,w'=w.drewN m) (H:=ops.take k) (T:=ops.drop k) hok (fun o ho=>List.all_eq_true.1 hd o ho) Q (ops.take k).length
  (Array.replicate (ops.take k).length false) (Array.replicate ops.length false) a { w with drawn:=w.drawn+1 } ⟨1,rfl⟩ ?_ (by simp) (by simp) ?_ ?_ ?_
 ·have e2:(ops.take k).length+(ops.drop k).length=ops.length:=by rw [← List.length_append,e]
  rw [e,e2] at hrun
  simpa using hrun
 ·unfold unlisted
  rw [List.filter_eq_self.2 (fun i hi=>?_),List.length_range]
  have:=List.mem_range.1 hi
  simp only [Array.getD_eq_getD_getElem?]
  rw [Array.getElem?_replicate,if_pos this];rfl
 ·intro i hi
  have:i < ops.length:=by rw [List.length_take] at hi;omega
  rw [Array.getElem?_replicate,Array.getElem?_replicate,if_pos hi,if_pos this]
 ·intro i hi hi2
  rw [e] at hi2
  simp only [Array.getD_eq_getD_getElem?]
  rw [Array.getElem?_replicate,if_pos hi2];rfl
 ·rw [e];simpa using hq
end
end
end
section
variable {F:Fence} {n:Nat} {P:Program} {C:World→Prop}
theorem value_of_bind {s:Sem Value} {w w':World} {x:Next} (h:(do pure (.value (← s)):Sem Next).run P w=.ok x w'):∃ u,x=.value u:=by
 simp only [Sem.run_bind] at h
 cases hs:s.run P w with
 | ok u w1=>rw [hs] at h;simp [Result.andThen,Sem.run_pure] at h;exact ⟨u,h.1.symm⟩
 | halt e w1=>rw [hs] at h;simp [Result.andThen] at h
def readsNot (H:List Oper) (o:Oper):Bool:=(List.range H.length).all fun i=>match H[i]? with
 | none=>true
 | some h=>o.after.any (fun e=>Region.binds .any e&&e.on==i) || (match h.dst with|none=>true|some d=>!(o.op.operands.toList.filterMap fun|.tmp t=>some t|_=>none).contains d)
section
variable {x:Oper} {H T:List Oper}
def noSel (o:Oper):Bool:=match o.op with|.select _ _=>false|_=>true
structure Lacks (H:List Oper) (S:Nat→Prop) (a b:Act):Prop where
 defers:a.defers=b.defers
 size:a.tmps.size=b.tmps.size
 same:∀ s:Nat,(∀ i o,S i→H[i]?=some o→o.dst≠some s)→a.tmps[s]?=b.tmps[s]?
theorem Lacks.eval {S:Nat→Prop} {a b:Act} {o:Oper} (h:Lacks H S a b) (ho:∀ i h',S i→H[i]?=some h'→∀ d,h'.dst=some d→(o.op.operands.toList.filterMap fun|.tmp t=>some t|_=>none).contains d=false) :
  ∀ x∈o.op.operands,a.eval x=b.eval x:=by
 intro x hx
 cases x with
 | tmp t =>
  have:=h.same t fun i h' hi hh hd=>by
   have:=ho i h' hi hh t hd
   rw [List.contains_eq_mem] at this
   simp only [decide_eq_false_iff_not] at this
   exact this (List.mem_filterMap.2 ⟨.tmp t,by simpa using hx,rfl⟩)
  simp only [Act.eval,Array.getD_eq_getD_getElem?,this]
 | const v=>rfl
 | global g=>rfl
 | func f=>rfl
theorem put_get (a:Act) (d:Tmp) (v:Value) (s:Nat):(a.put (some d) v).tmps[s]?=if d=s∧d < a.tmps.size then some v else a.tmps[s]?:=by
 simp only [Act.put]
 rw [Array.getElem?_setIfInBounds]
 by_cases h1:d=s
 ·subst h1
  by_cases h2:d < a.tmps.size
  ·simp [h2]
  ·simp only [h2,if_true,if_false,and_false]
   rw [Array.getElem?_eq_none (Nat.le_of_not_lt h2)]
 ·simp [h1]
theorem put_size (a:Act) (d:Option Tmp) (v:Value):(a.put d v).tmps.size=a.tmps.size:=by cases d<;>simp [Act.put]
theorem put_defers (a:Act) (d:Option Tmp) (v:Value):(a.put d v).defers=a.defers:=by cases d<;>rfl
theorem sel_of {o:Oper} (h:noSel o=true):∀ cs b,o.op≠.select cs b:=fun cs b e=>by simp [noSel,e] at h
theorem quietAt_of {o:Oper} {a b:Act} (hs:∀ cs b,o.op≠.select cs b) (h:∀ x∈o.op.operands,a.eval x=b.eval x):execOp a.eval o=execOp b.eval o∧∀ w,o.about P w a.eval=o.about P w b.eval :=
 ⟨execOp_congr o hs h,fun w=>about_congr o w h⟩
theorem operands_far {o:Oper} {a:Act} {d:Option Tmp} {v:Value} (h:∀ e,d=some e→(o.op.operands.toList.filterMap fun|.tmp t=>some t|_=>none).contains e=false):∀ x∈o.op.operands,(a.put d v).eval x=a.eval x:=fun x hx=>Act.eval_put fun e he hxe=>by
 subst hxe
 have:=h e he
 rw [List.contains_eq_mem] at this
 simp only [decide_eq_false_iff_not] at this
 exact this (List.mem_filterMap.2 ⟨.tmp e,by simpa using hx,rfl⟩)
theorem put_put_same (a:Act) (d:Option Tmp) (v:Value):(a.put d v).put d v=a.put d v:=by
 cases d with
 | none=>rfl
 | some d=>simp [Act.put]
structure LaterD (w:World) where
 W:World
 h:Below w.heap.size w W
instance (w:World):Nonempty (LaterD w):=⟨⟨w,Below.refl _ _⟩⟩
structure SameAt (w:World) (S:Nat→Prop) where
 W:World
 h:∀ k,S k→W.heap[k]?=w.heap[k]?
instance (w:World) (S:Nat→Prop):Nonempty (SameAt w S):=⟨⟨w,fun _ _=>rfl⟩⟩
theorem SameAt.cell {w:World} {S:Nat→Prop} (x:SameAt w S) {b o:Nat} (hb:S b) {v:Value} (h:w.cell? ⟨b,o,none⟩=some v):x.W.cell? ⟨b,o,none⟩=some v:=by
 simpa only [World.cell?,x.h b hb] using h
def IsSame (w:World) (S:Nat→Prop) (W:World):Prop:=∃ x:SameAt w S,W=x.W
theorem isSame_of {w W:World} {S:Nat→Prop} (h:∀ k,S k→W.heap[k]?=w.heap[k]?):IsSame w S W:=⟨⟨W,h⟩,rfl⟩
theorem isSame_below {w W:World} {S:Nat→Prop} {n:Nat} (h:Below n w W) (hS:∀ k,S k→k < n):IsSame w S W:=isSame_of fun k hk=>h.block k (hS k hk)
theorem wpIn_move {o:Oper} {a b:Act} {w:World} {K K':Act→World→Prop} {Q Q':Exit→Act→World→Prop} (hd:noDefer o=true) (he:execOp a.eval o=execOp b.eval o) (ha:o.about P w a.eval=o.about P w b.eval)
  (hK:∀ v w',K (b.put o.dst v) w'→K' (a.put o.dst v) w') (hKd:∀ d w',K ({ b with defers:=d::b.defers }.put o.dst undef) w'→K' ({ a with defers:=d::a.defers }.put o.dst undef) w') (hQ:∀ e a w,Q e a w→e=.normal) (h:o.wpIn F n P b w K Q):o.wpIn F n P a w K' Q':=by
 unfold Oper.wpIn at *
 rw [Oper.semAt_eq _ _ _ (noDefer_spec hd)] at *
 rw [ha,he]
 refine ⟨h.1,?_⟩
 have h:=h.2
 have nope:∀ {X:Prop} {e:Exit} {a:Act} {w:World},e≠.normal→Q e a w→X:=fun hne hq=>absurd (hQ _ _ _ hq) hne
 have hout:∀ {X:Prop},LetsOut Q→X:=fun ⟨a,w,hq⟩=>nope (by simp) hq
 generalize (execOp b.eval o).run P w=r at *
 cases r with
 | ok x w' =>
  cases x<;>simp only [Oper.uponIn] at h ⊢ <;>
   first
    | exact hK _ _ h
    | exact ⟨h.1,CallsIn.mono h.2 (fun e w'' he=>by cases e<;>first|exact hK _ _ he|exact nope (by simp) he|exact hout he)⟩
    | exact ⟨h.1,RowsIn.mono h.2 (fun _ _ he=>hK _ _ he)⟩
    | exact ⟨h.1,RoundIn.mono h.2 (fun e w'' he=>by cases e<;>first|exact hK _ _ he|exact nope (by simp) he|exact hout he)⟩
    | exact hKd _ _ h
 | halt x w'=>cases x<;>simp only [Oper.uponIn] at h ⊢<;>first|exact nope (by simp) h|exact h
end
end
section
variable {F:Fence} {n:Nat} {P:Program} {C:World→Prop}
def pureRead (o:Oper):Bool:=o.guard.isNone&&match o.op with
 | .move _=>true|.assign _=>true|.pick _ _ _=>true|.load _ _=>true|.binOp _ _ _ _ _=>true|.unOp _ _ _=>true|.indexAddr _ _ _=>true|.fieldAddr _ _ _=>true|.field _ _ _=>true
 | .index _ _ _=>true|.extract _ _=>true|.slice _ _ _ _ _=>true|.build _ _=>true|.nilCheck _=>true|_=>false
theorem pureRead_noDefer {o:Oper} (h:pureRead o=true):noDefer o=true:=by
 simp only [pureRead,Bool.and_eq_true] at h
 obtain ⟨_,h⟩:=h
 unfold noDefer
 split<;>simp_all
theorem panic_run {w w':World} {x:Next} (h:(runtimePanic .nilDeref:Sem Next).run P w=.ok x w'):False:=by
 unfold runtimePanic at h
 simp [goPanic,go_sem] at h
theorem bind_value {α:Type} {s:Sem α} {f:α→Sem Next} {w w':World} {x:Next} (hf:∀ a w1,(f a).run P w1=.ok x w'→∃ u,x=.value u) (h:(s >>= f).run P w=.ok x w'):∃ u,x=.value u:=by
 simp only [Sem.run_bind] at h
 cases hs:s.run P w with
 | ok a w1=>rw [hs] at h;exact hf a w1 h
 | halt e w1=>rw [hs] at h;simp [Result.andThen] at h
theorem pure_value {v:Value} {w w':World} {x:Next} (h:(Pure.pure (Next.value v):Sem Next).run P w=.ok x w'):∃ u,x=.value u:=by
 simp [Sem.run_pure] at h;exact ⟨_,h.1.symm⟩
theorem pureRead_value {o : Oper} (h : pureRead o = true) {ρ : Operand → Value} {w w' : World} {x : Next} (hr : (execOp ρ o).run P w = .ok x w') : ∃ u, x = .value u := by
  simp only [pureRead, Bool.and_eq_true] at h
  obtain ⟨_, h⟩ := h
  unfold execOp at hr
  split at h
  · rename_i e; rw [e] at hr; simp [Sem.run_pure] at hr; exact ⟨_, hr.1.symm⟩
  · rename_i e; rw [e] at hr; simp [Sem.run_pure] at hr; exact ⟨_, hr.1.symm⟩
  · rename_i e; rw [e] at hr
    simp only [Sem.run_bind] at hr
    revert hr
    cases (asBool _).run P w with
    | ok u w1 => intro hr; simp [Result.andThen, Sem.run_pure] at hr; exact ⟨_, hr.1.symm⟩
    | halt e w1 => intro hr; simp [Result.andThen] at hr
  · rename_i e; rw [e] at hr; exact value_of_bind hr
  · rename_i e; rw [e] at hr; exact value_of_bind hr
  · rename_i e; rw [e] at hr; exact value_of_bind hr
  · rename_i e; rw [e] at hr; exact value_of_bind hr
  · rename_i e; rw [e] at hr; exact value_of_bind hr
  · rename_i e; rw [e] at hr; exact value_of_bind hr
  · rename_i e; rw [e] at hr; exact value_of_bind hr
  · rename_i e; rw [e] at hr; exact value_of_bind hr
  · rename_i e; rw [e] at hr; exact value_of_bind hr
  · rename_i e; rw [e] at hr; exact value_of_bind hr
  · rename_i e
    rw [e] at hr
    dsimp only at hr
    split at hr
    · exact (panic_run hr).elim
    · exact (panic_run hr).elim
    · exact (panic_run hr).elim
    · split at hr
      · exact (panic_run hr).elim
      · refine bind_value (fun a w1 h1 => ?_) hr
        refine bind_value (fun b w2 h2 => ?_) h1
        first
          | exact pure_value h2
          | (split at h2
             · first | exact pure_value h2 | exact bind_value (fun _ _ h3 => pure_value h3) h2
             · first | exact pure_value h2 | exact bind_value (fun _ _ h3 => pure_value h3) h2)
      · simp [Sem.run_pure] at hr; exact ⟨_, hr.1.symm⟩
    · simp [Sem.run_pure] at hr; exact ⟨_, hr.1.symm⟩
  · cases h
theorem pure_runs {o:Oper} {a:Act} {K':Act→World→Prop} {Q:Exit→Act→World→Prop} {w:World} {v:Value} (hp:pureRead o=true) (hrun:o.quietAtIn F n P a C w v) (hK:K' (a.put o.dst v) w)
  (ha:∀ f,o.about P w a.eval=some f→F.fn f):o.wpIn F n P a w K' Q:=by
 rw [Oper.quietAtIn] at hrun
 rw [Oper.wpIn,Oper.semAt_eq _ _ _ (noDefer_spec (pureRead_noDefer hp))]
 refine ⟨ha,?_⟩
 have hval:=fun x w'=>pureRead_value (P:=P) (ρ:=a.eval) (w:=w) (w':=w') (x:=x) hp
 revert hrun hval
 cases (execOp a.eval o).run P w with
 | halt x w'=>exact fun h _=>h.elim
 | ok x w' =>
  intro hrun hval
  obtain ⟨u,rfl⟩:=hval x w' rfl
  obtain ⟨rfl,rfl⟩:=hrun
  exact hK
def farOf (o:Oper) (d:Option Tmp):Bool:=match d with
 | none=>true
 | some d=>!(o.op.operands.toList.filterMap fun|.tmp t=>some t|_=>none).contains d
theorem farOf_spec {o:Oper} {d:Option Tmp} (h:farOf o d=true):∀ e,d=some e→(o.op.operands.toList.filterMap fun|.tmp t=>some t|_=>none).contains e=false:=by
 rintro e rfl
 simpa [farOf] using h
def waitsOn (o:Oper) (i:Nat):Bool:=o.after.any fun e=>Region.binds .any e&&e.on==i
theorem waitsOn_spec {o:Oper} {i:Nat} (h:waitsOn o i=true):∃ e∈o.after,Region.binds .any e=true∧e.on=i:=by
 obtain ⟨e,he,h2⟩:=Array.any_eq_true'.1 h
 simp only [Bool.and_eq_true,beq_iff_eq] at h2
 exact ⟨e,he,h2⟩
def pickOps (ops:List Oper) (hs:List Nat):List Oper:=hs.filterMap fun i=>ops[i]?
theorem pick_nil (ops:List Oper):pickOps ops []=[]:=rfl
theorem pick_cons (ops:List Oper) (i:Nat) (hs:List Nat):pickOps ops (i::hs)=(ops[i]?).elim (pickOps ops hs) (fun o=>o::pickOps ops hs):=by
 unfold pickOps
 rw [List.filterMap_cons]
 cases ops[i]?<;>rfl
structure Lack (ops:List Oper) (S:Nat→Prop) (a b:Act):Prop where
 defers:a.defers=b.defers
 size:a.tmps.size=b.tmps.size
 same:∀ s:Nat,(∀ i o,S i→ops[i]?=some o→o.dst≠some s)→a.tmps[s]?=b.tmps[s]?
section
variable {ops:List Oper} {hs:List Nat}
theorem Lack.full {S:Nat→Prop} {a b:Act} (h:Lack ops S a b) (hS:∀ i,i < ops.length→¬ S i):a=b:=by
 have ht:a.tmps=b.tmps:=Array.ext_getElem? fun s=>h.same s fun i o hi ho _=>hS i (List.getElem?_eq_some_iff.1 ho).1 hi
 obtain ⟨t,d⟩:=a
 obtain ⟨t',d'⟩:=b
 cases ht
 cases h.defers
 rfl
theorem Lack.eval {S:Nat→Prop} {a b:Act} {o:Oper} (h:Lack ops S a b) (ho:∀ i h',S i→ops[i]?=some h'→∀ d,h'.dst=some d→(o.op.operands.toList.filterMap fun|.tmp t=>some t|_=>none).contains d=false) :
  ∀ x∈o.op.operands,a.eval x=b.eval x:=by
 intro x hx
 cases x with
 | tmp t =>
  have:=h.same t fun i h' hi hh hd=>by
   have:=ho i h' hi hh t hd
   rw [List.contains_eq_mem] at this
   simp only [decide_eq_false_iff_not] at this
   exact this (List.mem_filterMap.2 ⟨.tmp t,by simpa using hx,rfl⟩)
  simp only [Act.eval,Array.getD_eq_getD_getElem?,this]
 | const v=>rfl
 | global g=>rfl
 | func f=>rfl
theorem Lack.head {S S':Nat→Prop} {a b:Act} {i:Nat} {o:Oper} {v:Value} (h:Lack ops S a b) (hi:ops[i]?=some o) (hb:b.put o.dst v=b) (hS:∀ j,S j→j=i∨S' j):Lack ops S' (a.put o.dst v) b:=by
 refine ⟨(put_defers _ _ _).trans h.defers,(put_size _ _ _).trans h.size,fun s hs=>?_⟩
 cases hd:o.dst with
 | none =>
  refine h.same s fun j o' hj ho' e=>?_
  rcases hS j hj with rfl|hj'
  ·rw [hi] at ho';cases ho';rw [hd] at e;cases e
  ·exact hs j o' hj' ho' e
 | some d =>
  rw [put_get]
  rw [hd] at hb
  by_cases hds:d=s
  ·subst hds
   by_cases hlt:d < a.tmps.size
   ·have:(b.put (some d) v).tmps[d]?=some v:=by rw [put_get,if_pos ⟨rfl,by rw [← h.size];exact hlt⟩]
    rw [if_pos ⟨rfl,hlt⟩,← this,hb]
   ·rw [if_neg (fun h=>hlt h.2),Array.getElem?_eq_none (Nat.le_of_not_lt hlt),Array.getElem?_eq_none (by rw [← h.size];exact Nat.le_of_not_lt hlt)]
  ·rw [if_neg (fun h=>hds h.1)]
   refine h.same s fun j o' hj ho' e=>?_
   rcases hS j hj with rfl|hj'
   ·rw [hi] at ho';cases ho';rw [hd] at e;cases e;exact hds rfl
   ·exact hs j o' hj' ho' e
theorem Lack.tail {S:Nat→Prop} {a b:Act} (h:Lack ops S a b) (d:Option Tmp) (v:Value):Lack ops S (a.put d v) (b.put d v):=by
 refine ⟨by rw [put_defers,put_defers];exact h.defers,by rw [put_size,put_size];exact h.size,fun s hs=>?_⟩
 cases d with
 | none=>exact h.same s hs
 | some d=>rw [put_get,put_get,h.size,h.same s hs]
theorem Lack.mono {S S':Nat→Prop} {a b:Act} (h:Lack ops S a b) (hS:∀ i,i < ops.length→S i→S' i):Lack ops S' a b :=
 ⟨h.defers,h.size,fun s hs=>h.same s fun i o hi ho=>hs i o (hS i (List.getElem?_eq_some_iff.1 ho).1 hi) ho⟩
theorem Lack.defer {S:Nat→Prop} {a b:Act} (h:Lack ops S a b) (d:Deferred):Lack ops S { a with defers:=d::a.defers } { b with defers:=d::b.defers } :=
 ⟨by simp only [h.defers],h.size,h.same⟩
theorem listed_of {k:Nat} {L:Array Bool} (hs:k≤L.size) {i:Nat} (hi:i < k) (h:L.getD i true=true∨L.getD i false=true):L[i]?=some true:=by
 rw [Array.getElem?_eq_getElem (by omega)]
 simp only [Array.getD_eq_getD_getElem?] at h
 rw [Array.getElem?_eq_getElem (by omega)] at h
 simpa using h
theorem getD_of {L:Array Bool} {i:Nat} {b d:Bool} (h:L[i]?=some b):L.getD i d=b:=by simp [Array.getD_eq_getD_getElem?,h]
end
end
def bareRead (o:Oper):Bool:=pureRead { o with guard:=none }
def stageOk (ops:List Oper) (H:List Nat):Bool :=
 (List.range ops.length).all fun j=>match ops[j]? with
  | none=>true
  | some o=>ownEdges j o&&noDefer o&&noSel o&&(match o.guard with|none=>true|some (k,_)=>waitsOn o k) &&
   (if H.contains j then bareRead o&&farOf o o.dst else true) &&
   (List.range ops.length).all fun i=>i==j || (match ops[i]? with|none=>true|some h=>(waitsOn o i || farOf o h.dst)&&(h.dst.isNone || h.dst != o.dst))
structure StOk (ops:List Oper) (H:List Nat) (j:Nat) (o:Oper):Prop where
 edges:ownEdges j o=true
 nd:noDefer o=true
 ns:noSel o=true
 gd:∀ k b,o.guard=some (k,b)→waitsOn o k=true
 rd:j∈H→bareRead o=true∧farOf o o.dst=true
 far:∀ i h,i≠j→ops[i]?=some h→(waitsOn o i=true∨farOf o h.dst=true)∧(h.dst=none∨h.dst≠o.dst)
theorem stage_at {ops:List Oper} {H:List Nat} (hok:stageOk ops H=true) {j:Nat} {o:Oper} (hj:ops[j]?=some o):StOk ops H j o:=by
 have hlt:j < ops.length:=(List.getElem?_eq_some_iff.1 hj).1
 have h2:=List.all_eq_true.1 hok j (List.mem_range.2 hlt)
 rw [hj] at h2
 simp only [Bool.and_eq_true] at h2
 obtain ⟨⟨⟨⟨⟨h3,h4⟩,h5⟩,h6⟩,h7⟩,h8⟩:=h2
 refine ⟨h3,h4,h5,fun k b hg=>?_,fun hm=>?_,fun i h hne hi=>?_⟩
 ·rw [hg] at h6;exact h6
 ·rw [if_pos (by simpa using hm)] at h7;simpa using h7
 ·have:=List.all_eq_true.1 h8 i (List.mem_range.2 (List.getElem?_eq_some_iff.1 hi).1)
  rw [hi] at this
  simp only [Bool.or_eq_true,beq_iff_eq,Bool.and_eq_true,Option.isNone_iff_eq_none,bne_iff_ne] at this
  rcases this with h|h
  ·exact absurd h hne
  ·exact h
section
variable {F:Fence} {n:Nat} {P:Program} {C:World→Prop} {ops:List Oper} {H:List Nat}
theorem bare_runs {o:Oper} {a:Act} {K':Act→World→Prop} {Q:Exit→Act→World→Prop} {w:World} {v:Value} (hp:bareRead o=true) (hrun:o.quietAtIn F n P a C w v) (hK:K' (a.put o.dst v) w)
  (ha:∀ f,o.about P w a.eval=some f→F.fn f):o.wpIn F n P a w K' Q:=pure_runs (o:={ o with guard:=none }) hp hrun hK ha
theorem wanted_of {o:Oper} {a b:Act} (h:∀ k bb,o.guard=some (k,bb)→∀ s,(ops[k]?).bind (·.dst)=some s→a.tmps[s]?=b.tmps[s]?) :
  Region.wanted o (yielded ops.toArray a.tmps)=Region.wanted o (yielded ops.toArray b.tmps):=by
 unfold Region.wanted
 cases hg:o.guard with
 | none=>rfl
 | some kb =>
  obtain ⟨k,bb⟩:=kb
  have:yielded ops.toArray a.tmps k=yielded ops.toArray b.tmps k:=by
   unfold yielded
   rw [List.getElem?_toArray]
   cases hd:(ops[k]?).bind (·.dst) with
   | none=>rfl
   | some s =>
    simp only [Option.bind_some]
    rw [h k bb hg s hd]
  simp only [this]
def HeadVal (F:Fence) (n:Nat) (P:Program) (C:World→Prop) (ops:List Oper) (o:Oper) (b:Act) (v:Value):Prop :=
 o.askedIn F P b C∧((Region.wanted o (yielded ops.toArray b.tmps)=true∧∀ w,C w→o.quietAtIn F n P b C w v)∨(Region.wanted o (yielded ops.toArray b.tmps)=false∧v=undef))
theorem slot_other {b:Act} {d:Option Tmp} {u:Value} {s:Tmp} (h:d≠some s):(b.put d u).tmps[s]?=b.tmps[s]?:=by
 cases d with
 | none=>rfl
 | some e=>rw [put_get,if_neg (fun h'=>h (by rw [h'.1]))]
theorem HeadVal.of {o:Oper} {a b:Act} {v:Value} (h:HeadVal F n P C ops o b v) (hns:noSel o=true) (hev:∀ x∈o.op.operands,a.eval x=b.eval x)
  (hg:∀ k bb,o.guard=some (k,bb)→∀ s,(ops[k]?).bind (·.dst)=some s→a.tmps[s]?=b.tmps[s]?):HeadVal F n P C ops o a v:=by
 obtain ⟨h1,h2⟩:=h
 obtain ⟨e1,e2⟩:=quietAt_of (P:=P) (sel_of hns) hev
 refine ⟨fun w hw f hf=>h1 w hw f (by rw [← e2];exact hf),?_⟩
 rw [wanted_of hg]
 rcases h2 with ⟨hw,hq⟩|h2
 ·refine .inl ⟨hw,fun w hw=>?_⟩
  have:=hq w hw
  unfold Oper.quietAtIn at this ⊢
  rw [e1]
  exact this
 ·exact .inr h2
def wpStage (F:Fence) (n:Nat) (P:Program) (ops:List Oper) (H:List Nat) (C:World→Prop) (waits:Nat→Bool) (Q':Act→World→Prop):Nat→Array Bool→Act→World→Prop
 | 0,LT,b,w=>Region.ready .any ops.toArray LT=[]∧Q' b w
 | f+1,LT,b,w =>
  (∃ i o,i∈H∧i∈Region.ready .any ops.toArray LT∧ops[i]?=some o∧∃ v,HeadVal F n P C ops o b v∧wpStage F n P ops H C waits Q' f (LT.setIfInBounds i true) (b.put o.dst v) w) ∨
  ((Region.ready .any ops.toArray LT=[]→Q' b w) ∧
   ∀ j∈Region.ready .any ops.toArray LT,∀ o,ops[j]?=some o→wpListIn F n P ops.toArray (fun e a' w'=>e=.normal∧(waits j=false→C w')∧wpStage F n P ops H C waits Q' f (LT.setIfInBounds j true) a' w') [o] b w)
def Owed (H:List Nat) (L LT:Array Bool) (i:Nat):Prop:=i∈H∧LT[i]?=some true∧L[i]?=some false
def Known (F:Fence) (n:Nat) (P:Program) (C:World→Prop) (ops:List Oper) (H:List Nat) (L LT:Array Bool) (b:Act):Prop :=
 ∀ i o,Owed H L LT i→ops[i]?=some o→∃ v,b.put o.dst v=b∧HeadVal F n P C ops o b v
theorem set_get {L:Array Bool} {j i:Nat} (hj:j < L.size):(L.setIfInBounds j true)[i]?=if j=i then some true else L[i]?:=by
 by_cases h:j=i
 ·subst h;rw [if_pos rfl,Array.getElem?_setIfInBounds_self_of_lt hj]
 ·rw [if_neg h,Array.getElem?_setIfInBounds_ne h]
theorem get_or {L:Array Bool} {i:Nat} (h:i < L.size):L[i]?=some true∨L[i]?=some false:=by
 rw [Array.getElem?_eq_getElem h]
 cases L[i]<;>simp
theorem owed_agree (hok:stageOk ops H=true) {L LT:Array Bool} (_hs1:L.size=ops.length) {a b:Act} (hl:Lack ops (Owed H L LT) a b) {j:Nat} {o:Oper} (hoj:ops[j]?=some o) (hself:Owed H L LT j→farOf o o.dst=true)
  (hall:∀ k,waitsOn o k=true→L[k]?=some true):(∀ x∈o.op.operands,a.eval x=b.eval x)∧∀ k bb,o.guard=some (k,bb)→∀ s,(ops[k]?).bind (·.dst)=some s→a.tmps[s]?=b.tmps[s]?:=by
 have hS:=stage_at hok hoj
 refine ⟨hl.eval fun i h' hi hh d hd=>?_,fun k bb hg s hs=>hl.same s fun i h' hi hh e=>?_⟩
 ·by_cases hij:i=j
  ·subst hij
   rw [hoj] at hh;cases hh
   exact farOf_spec (hself hi) d hd
  ·rcases (hS.far i h' hij hh).1 with hw|hf
   ·have:=hall i hw
    rw [hi.2.2] at this;cases this
   ·exact farOf_spec hf d hd
 ·have hk:=hall k (hS.gd k bb hg)
  have hik:i≠k:=fun e'=>by subst e';rw [hi.2.2] at hk;cases hk
  obtain ⟨ok,hok',hd⟩:=Option.bind_eq_some_iff.1 hs
  rcases ((stage_at hok hok').far i h' hik hh).2 with h0|h0
  ·rw [h0] at e;cases e
  ·exact h0 (by rw [e,hd])
theorem known_put (hok:stageOk ops H=true) {L LT:Array Bool} {b:Act} (hk:Known F n P C ops H L LT b) {j:Nat} {o:Oper} (hoj:ops[j]?=some o) (hj:LT[j]?=some false)
  (hcl:∀ i o,i∈H→LT[i]?=some true→ops[i]?=some o→∀ k,waitsOn o k=true→LT[k]?=some true) (u:Value) {i:Nat} {oi:Oper} (hi:Owed H L LT i) (hoi:ops[i]?=some oi) :
  ∃ v,(b.put o.dst u).put oi.dst v=b.put o.dst u∧HeadVal F n P C ops oi (b.put o.dst u) v:=by
 obtain ⟨v,h1,h2⟩:=hk i oi hi hoi
 have hij:i≠j:=fun e=>by subst e;rw [hi.2.1] at hj;cases hj
 have hSi:=stage_at hok hoi
 have hSj:=stage_at hok hoj
 have hw:∀ k,waitsOn oi k=true→k≠j:=fun k hk e=>by
  subst e
  have:=hcl i oi hi.1 hi.2.1 hoi k hk
  rw [hj] at this;cases this
 have hfar:=(hSi.far j o (fun e=>hij e.symm) hoj)
 refine ⟨v,?_,h2.of hSi.ns (operands_far (farOf_spec ?_)) fun k bb hg s hs=>slot_other fun e=>?_⟩
 ·rcases hfar.2 with h|h
  ·rw [h];exact h1
  ·have hc:=Act.put_comm b (x:=oi.dst) (y:=o.dst) v u (fun d h1 h2=>h (h2.trans h1.symm))
   rw [← hc,h1]
 ·rcases hfar.1 with h|h
  ·exact absurd rfl (hw j h)
  ·exact h
 ·have hkj:=hw k (hSi.gd k bb hg)
  obtain ⟨ok,hok',hd⟩:=Option.bind_eq_some_iff.1 hs
  rcases (hSj.far k ok hkj hok').2 with h0|h0
  ·rw [h0] at hd;cases hd
  ·exact h0 (by rw [e,hd])
structure StInv (F:Fence) (n:Nat) (P:Program) (C:World→Prop) (ops:List Oper) (H:List Nat) (L LT:Array Bool) (a b:Act) (w:World):Prop where
 s1:L.size=ops.length
 s2:LT.size=ops.length
 same:∀ i:Nat,i < ops.length→i ∉ H→L[i]?=LT[i]?
 le:∀ i:Nat,L[i]?=some true→LT[i]?=some true
 closed:∀ (i:Nat) (o:Oper),i∈H→LT[i]?=some true→ops[i]?=some o→∀ k,waitsOn o k=true→LT[k]?=some true
 known:(∀ i∈H,i < ops.length→L[i]?=some true)∨(C w∧Known F n P C ops H L LT b)
 lack:Lack ops (Owed H L LT) a b
theorem StInv.hoist (hok:stageOk ops H=true) {L LT:Array Bool} {a b:Act} {w:World} (h:StInv F n P C ops H L LT a b w) {i:Nat} {o:Oper} (hi:i∈H) (hoi:ops[i]?=some o) (hLT:LT[i]?=some false)
  (hall:∀ k,waitsOn o k=true→LT[k]?=some true) {v:Value} (hv:HeadVal F n P C ops o b v):StInv F n P C ops H L (LT.setIfInBounds i true) a (b.put o.dst v) w:=by
 have hil:=(List.getElem?_eq_some_iff.1 hoi).1
 have hlt:i < LT.size:=by rw [h.s2];exact hil
 have hLi:L[i]?=some false:=by
  rcases get_or (L:=L) (i:=i) (by rw [h.s1];exact hil) with e|e
  ·have:=h.le i e;rw [hLT] at this;cases this
  ·exact e
 have hS:=stage_at hok hoi
 have hwi:waitsOn o i=true→False:=fun e=>by have:=hall i e;rw [hLT] at this;cases this
 refine ⟨h.s1,by simpa using h.s2,fun k hk hkH=>?_,fun k hk=>?_,fun k ok hk hkT hok' j hj=>?_,?_,?_⟩
 ·rw [set_get hlt,if_neg (fun e=>hkH (by rw [← e];exact hi))];exact h.same k hk hkH
 ·rw [set_get hlt];split
  ·rfl
  ·exact h.le k hk
 ·rw [set_get hlt]
  by_cases e:i=j
  ·rw [if_pos e]
  ·rw [if_neg e]
   by_cases e2:i=k
   ·subst e2;rw [hoi] at hok';cases hok';exact hall j hj
   ·rw [set_get hlt,if_neg e2] at hkT;exact h.closed k ok hk hkT hok' j hj
 ·rcases h.known with hk|⟨hC,hk⟩
  ·have:=hk i hi hil;rw [hLi] at this;cases this
  ·refine .inr ⟨hC,fun k ok hkO hok'=>?_⟩
   by_cases e:i=k
   ·subst e
    rw [hoi] at hok';cases hok'
    refine ⟨v,put_put_same _ _ _,hv.of hS.ns (operands_far (farOf_spec (hS.rd hi).2)) fun k bb hg s hs=>slot_other fun e=>?_⟩
    have hki:k≠i:=fun e'=>by subst e';exact hwi (hS.gd k bb hg)
    obtain ⟨ok,hok',hd⟩:=Option.bind_eq_some_iff.1 hs
    rcases (hS.far k ok hki hok').2 with h0|h0
    ·rw [h0] at hd;cases hd
    ·exact h0 (by rw [e,hd])
   ·refine known_put hok hk hoi hLT h.closed v ⟨hkO.1,?_,hkO.2.2⟩ hok'
    have:=hkO.2.1
    rwa [set_get hlt,if_neg e] at this
 ·refine ⟨h.lack.defers.trans (put_defers _ _ _).symm,h.lack.size.trans (put_size _ _ _).symm,fun s hs=>?_⟩
  have h1:=h.lack.same s fun k ok hk hok'=>hs k ok ⟨hk.1,by rw [set_get hlt];split;rfl;exact hk.2.1,hk.2.2⟩ hok'
  rw [h1,slot_other (hs i o ⟨hi,by rw [set_get hlt,if_pos rfl],hLi⟩ hoi)]
theorem StInv.paid (_hok:stageOk ops H=true) {L LT:Array Bool} {a b:Act} {w:World} (h:StInv F n P C ops H L LT a b w) {j:Nat} {o:Oper} (hoj:ops[j]?=some o) (hO:Owed H L LT j) {v:Value} (hb:b.put o.dst v=b) :
  StInv F n P C ops H (L.setIfInBounds j true) LT (a.put o.dst v) b w:=by
 have hjl:j < L.size:=by rw [h.s1];exact (List.getElem?_eq_some_iff.1 hoj).1
 have sub:∀ k,Owed H (L.setIfInBounds j true) LT k→Owed H L LT k:=fun k hk=>by
  refine ⟨hk.1,hk.2.1,?_⟩
  have:=hk.2.2
  rw [set_get hjl] at this
  split at this
  ·cases this
  ·exact this
 refine ⟨by simpa using h.s1,h.s2,fun k hk hkH=>?_,fun k hk=>?_,h.closed,?_,?_⟩
 ·rw [set_get hjl,if_neg (fun e=>hkH (by rw [← e];exact hO.1))];exact h.same k hk hkH
 ·rw [set_get hjl] at hk
  split at hk
  ·rename_i e;rw [← e];exact hO.2.1
  ·exact h.le k hk
 ·rcases h.known with hk|⟨hC,hk⟩
  ·exact .inl fun k hkH hkl=>by rw [set_get hjl];split;rfl;exact hk k hkH hkl
  ·exact .inr ⟨hC,fun k ok hkO=>hk k ok (sub k hkO)⟩
 ·refine h.lack.head hoj hb fun k hk=>?_
  by_cases e:j=k
  ·exact .inl e.symm
  ·exact .inr ⟨hk.1,hk.2.1,by rw [set_get hjl,if_neg e];exact hk.2.2⟩
theorem StInv.step (hok:stageOk ops H=true) {L LT:Array Bool} {a b a' b':Act} {w w':World} (h:StInv F n P C ops H L LT a b w) {j:Nat} {o:Oper} (hoj:ops[j]?=some o) (_hL:L[j]?=some false) (hLT:LT[j]?=some false)
  (hall:∀ k,waitsOn o k=true→L[k]?=some true) {u:Value} {b0:Act} (hkn:Known F n P C ops H L LT b→Known F n P C ops H L LT b0) (hb':b'=b0.put o.dst u) (hl':Lack ops (Owed H L LT) a' b') (hC':C w'∨∀ i∈H,i < ops.length→waitsOn o i=true) :
  StInv F n P C ops H (L.setIfInBounds j true) (LT.setIfInBounds j true) a' b' w':=by
 have hjl:j < L.size:=by rw [h.s1];exact (List.getElem?_eq_some_iff.1 hoj).1
 have hjt:j < LT.size:=by rw [h.s2];exact (List.getElem?_eq_some_iff.1 hoj).1
 have sub:∀ k,Owed H (L.setIfInBounds j true) (LT.setIfInBounds j true) k→Owed H L LT k:=fun k hk=>by
  have h1:=hk.2.1
  have h2:=hk.2.2
  rw [set_get hjl] at h2
  rw [set_get hjt] at h1
  split at h2
  ·cases h2
  ·rename_i e;rw [if_neg e] at h1;exact ⟨hk.1,h1,h2⟩
 refine ⟨by simpa using h.s1,by simpa using h.s2,fun k hk hkH=>?_,fun k hk=>?_,fun k ok hk hkT hok' m hm=>?_,?_,?_⟩
 ·rw [set_get hjl,set_get hjt];split
  ·rfl
  ·exact h.same k hk hkH
 ·rw [set_get hjl] at hk;rw [set_get hjt]
  split
  ·rfl
  ·rename_i e;rw [if_neg e] at hk;exact h.le k hk
 ·rw [set_get hjt]
  split
  ·rfl
  ·by_cases e2:j=k
   ·subst e2;rw [hoj] at hok';cases hok';exact h.le m (hall m hm)
   ·rw [set_get hjt,if_neg e2] at hkT;exact h.closed k ok hk hkT hok' m hm
 ·rcases h.known with hk|⟨hC,hk⟩
  ·exact .inl fun k hkH hkl=>by rw [set_get hjl];split;rfl;exact hk k hkH hkl
  ·rcases hC' with hC'|hC'
   ·refine .inr ⟨hC',fun k ok hkO hok'=>?_⟩
    rw [hb']
    exact known_put hok (hkn hk) hoj hLT h.closed u (sub k hkO) hok'
   ·exact .inl fun k hkH hkl=>by rw [set_get hjl];split;rfl;exact hall k (hC' k hkH hkl)
 ·exact hl'.mono fun k hkl hk=>by
   refine ⟨hk.1,?_,?_⟩
   ·rw [set_get hjt];split;rfl;exact hk.2.1
   ·rw [set_get hjl]
    split
    ·rename_i e;subst e;have:=hk.2.1;rw [hLT] at this;cases this
    ·exact hk.2.2
theorem getD_false {L:Array Bool} {i:Nat} (hi:i < L.size) (h:L.getD i true=false):L[i]?=some false:=by
 rcases get_or hi with e|e
 ·rw [getD_of e] at h;cases h
 ·exact e
theorem ready_exists (hok:stageOk ops H=true) {L:Array Bool} (hsz:L.size=ops.length) (hu:unlisted ops.length L≠0):∃ i,i∈Region.ready .any ops.toArray L:=by
 have hne:∃ i,i < ops.length∧L.getD i true=false:=by
  have hpos:0 < ((List.range ops.length).filter fun i=>!L.getD i true).length:=by unfold unlisted at hu;omega
  obtain ⟨i,hi⟩:=List.exists_mem_of_length_pos hpos
  obtain ⟨g1,g2⟩:=List.mem_filter.1 hi
  exact ⟨i,List.mem_range.1 g1,by simpa using g2⟩
 obtain ⟨i0,⟨hi0,hu0⟩,hmin⟩:=exists_least (p:=fun i=>i < ops.length∧L.getD i true=false) hne
 have ho:ops[i0]?=some ops[i0]:=by simp [hi0]
 refine ⟨i0,mem_ready.2 ⟨hu0,ops[i0],by simp [hi0],fun e he hb=>?_⟩⟩
 have hlt:=ownEdges_spec (stage_at hok ho).edges e he hb
 have hnot:¬ L.getD e.on true=false:=fun hh=>by have:=hmin e.on ⟨by omega,hh⟩;omega
 exact getD_of (listed_of (k:=ops.length) (by omega) (by omega) (.inl (by simpa using hnot)))
theorem ready_none {L:Array Bool} (hsz:L.size=ops.length) (hu:unlisted ops.length L=0):Region.ready .any ops.toArray L=[]:=by
 rw [List.eq_nil_iff_forall_not_mem]
 intro j hj
 obtain ⟨hj1,o,ho,_⟩:=mem_ready.1 hj
 have hlt:j < ops.length:=by have:=(Array.getElem?_eq_some_iff.1 ho).1;simpa using this
 have:=listed_of (k:=ops.length) (by omega) hlt (.inr (unlisted_zero hu (by omega) j hlt))
 rw [getD_of this] at hj1;cases hj1
theorem ready_facts (hok:stageOk ops H=true) {L:Array Bool} (hsz:L.size=ops.length) {j:Nat} (hj:j∈Region.ready .any ops.toArray L):∃ o,ops[j]?=some o∧ops.toArray[j]?=some o∧L[j]?=some false∧∀ k,waitsOn o k=true→L[k]?=some true:=by
 obtain ⟨hj1,o,ho,hall⟩:=mem_ready.1 hj
 have hjl:j < ops.length:=by have:=(Array.getElem?_eq_some_iff.1 ho).1;simpa using this
 have hoj:ops[j]?=some o:=by rw [← ho];simp
 refine ⟨o,hoj,ho,getD_false (by omega) hj1,fun k hk=>?_⟩
 obtain ⟨e,he,hb,hon⟩:=waitsOn_spec hk
 have h1:=hall e he hb
 have hel:=ownEdges_spec (stage_at hok hoj).edges e he hb
 rw [hon] at h1 hel
 exact listed_of (k:=ops.length) (by omega) (by omega) (.inr h1)
theorem ready_mono (hok:stageOk ops H=true) {L LT:Array Bool} (hs1:L.size=ops.length) (_hs2:LT.size=ops.length) (hle:∀ i:Nat,L[i]?=some true→LT[i]?=some true) {j:Nat} (hj:j∈Region.ready .any ops.toArray L) (hLT:LT[j]?=some false):j∈Region.ready .any ops.toArray LT:=by
 obtain ⟨o,hoj,ho,hL,hall⟩:=ready_facts hok hs1 hj
 refine mem_ready.2 ⟨getD_of hLT,o,ho,fun e he hb=>?_⟩
 have hw:waitsOn o e.on=true:=by
  unfold waitsOn
  rw [Array.any_eq_true']
  exact ⟨e,he,by simp [hb]⟩
 exact getD_of (hle _ (hall _ hw))
theorem Known.defers {L LT:Array Bool} {b:Act} (h:Known F n P C ops H L LT b) (ds:List Deferred):Known F n P C ops H L LT { b with defers:=ds }:=by
 intro i o hi ho
 obtain ⟨u,h2,h3⟩:=h i o hi ho
 refine ⟨u,?_,h3⟩
 cases hd:o.dst with
 | none=>rfl
 | some d =>
  rw [hd] at h2
  have:=congrArg Act.tmps h2
  simp only [Act.put] at this ⊢
  rw [this]
theorem stage_paid (hok:stageOk ops H=true) {L LT:Array Bool} {a b:Act} {w:World} (hI:StInv F n P C ops H L LT a b w) {j:Nat} {o:Oper} (hO:Owed H L LT j) (hoj:ops[j]?=some o) (ho:ops.toArray[j]?=some o)
  (hall:∀ k,waitsOn o k=true→L[k]?=some true) {Q:Exit→Act→World→Prop} {K:Act→World→Prop} (hK:∀ v,b.put o.dst v=b→K (a.put o.dst v) w):wpOpIn F n P ops.toArray Q j K a w:=by
 have hS:=stage_at hok hoj
 rcases hI.known with hk|⟨hC,hk⟩
 ·have:=hk j hO.1 (List.getElem?_eq_some_iff.1 hoj).1;rw [hO.2.2] at this;cases this
 ·obtain ⟨v,hb,hv⟩:=hk j o hO hoj
  obtain ⟨hev,hgd⟩:=owed_agree hok hI.s1 hI.lack hoj (fun h=>(hS.rd h.1).2) hall
  obtain ⟨hask,hcase⟩:=hv.of hS.ns hev hgd
  unfold wpOpIn
  rw [ho]
  dsimp only
  rcases hcase with ⟨hw,hq⟩|⟨hw,rfl⟩
  ·rw [if_pos hw]
   exact bare_runs (hS.rd hO.1).1 (hq w hC) (hK v hb) (fun f hf=>hask w hC f hf)
  ·rw [if_neg (by rw [hw];simp)]
   exact ⟨fun f hf=>hask w hC f hf,hK _ hb⟩
theorem stage_run (hok:stageOk ops H=true) (waits:Nat→Bool) (hw:∀ j o,ops[j]?=some o→waits j=true→∀ i∈H,i < ops.length→waitsOn o i=true) (Q:Exit→Act→World→Prop):∀ (g f:Nat) (L LT:Array Bool) (a b:Act) (w:World),
  unlisted ops.length L=g→unlisted ops.length LT=f→StInv F n P C ops H L LT a b w→wpStage F n P ops H C waits (fun a w=>Q .normal a w) f LT b w→wpAnyIn F n P .any ops.toArray Q g L a w:=by
 intro g
 induction g with
 | zero =>
  intro f L LT a b w hg hf hI h
  have hall:∀ i,i < ops.length→L[i]?=some true:=fun i hi=>listed_of (k:=ops.length) (by rw [hI.s1];omega) hi (.inr (unlisted_zero hg (by rw [hI.s1];omega) i hi))
  have hut:unlisted ops.length LT=0:=by
   unfold unlisted
   rw [List.length_eq_zero_iff,List.filter_eq_nil_iff]
   intro i hi
   have:=hI.le i (hall i (List.mem_range.1 hi))
   simp [Array.getD_eq_getD_getElem?,this]
  rw [hut] at hf
  subst hf
  refine ⟨ready_none hI.s1 hg,?_⟩
  rw [hI.lack.full fun i hi hn=>by have:=hall i hi;rw [hn.2.2] at this;cases this]
  exact h.2
 | succ g ih =>
  intro f
  have less:∀ {L:Array Bool} {j k:Nat},L.size=ops.length→j < ops.length→L[j]?=some false→unlisted ops.length L=k+1→unlisted ops.length (L.setIfInBounds j true)=k:=fun hsz hj hf hu=>by
   have:=unlisted_set hj (by omega) (getD_of (d:=true) hf)
   omega
  induction f with
  | zero =>
   intro L LT a b w hg hf hI h
   obtain ⟨r0,hr0⟩:=ready_exists hok hI.s1 (by omega)
   refine ⟨fun e=>(by rw [e] at hr0;cases hr0),fun j hj=>?_⟩
   obtain ⟨o,hoj,ho,hL,hall⟩:=ready_facts hok hI.s1 hj
   have hjl:=(List.getElem?_eq_some_iff.1 hoj).1
   have hLT:LT[j]?=some true:=listed_of (k:=ops.length) (by rw [hI.s2];omega) hjl (.inr (unlisted_zero hf (by rw [hI.s2];omega) j hjl))
   have hjH:j∈H:=by
    by_cases hm:j∈H
    ·exact hm
    ·have:=hI.same j hjl hm;rw [hL,hLT] at this;cases this
   have hO:Owed H L LT j:=⟨hjH,hLT,hL⟩
   exact stage_paid hok hI hO hoj ho hall fun v hb=>ih 0 _ LT _ b w (less hI.s1 hjl hL hg) hf (hI.paid hok hoj hO hb) h
  | succ f ihf =>
   intro L LT a b w hg hf hI h
   rcases h with ⟨i,o,hiH,hir,hoi,v,hv,hst⟩|⟨h1,h2⟩
   ·obtain ⟨o',hoi',_,hLTi,halli⟩:=ready_facts hok hI.s2 hir
    rw [hoi] at hoi';cases hoi'
    have hil:=(List.getElem?_eq_some_iff.1 hoi).1
    exact ihf L _ a _ w hg (less hI.s2 hil hLTi hf) (hI.hoist hok hiH hoi hLTi halli hv) hst
   ·obtain ⟨r0,hr0⟩:=ready_exists hok hI.s1 (by omega)
    refine ⟨fun e=>(by rw [e] at hr0;cases hr0),fun j hj=>?_⟩
    obtain ⟨o,hoj,ho,hL,hall⟩:=ready_facts hok hI.s1 hj
    have hjl:=(List.getElem?_eq_some_iff.1 hoj).1
    rcases get_or (L:=LT) (i:=j) (by rw [hI.s2];exact hjl) with hLT|hLT
    ·have hjH:j∈H:=by
      by_cases hm:j∈H
      ·exact hm
      ·have:=hI.same j hjl hm;rw [hL,hLT] at this;cases this
     have hO:Owed H L LT j:=⟨hjH,hLT,hL⟩
     exact stage_paid hok hI hO hoj ho hall fun v hb=>ih (f+1) _ LT _ b w (less hI.s1 hjl hL hg) hf (hI.paid hok hoj hO hb) (.inr ⟨h1,h2⟩)
    ·have hrT:=ready_mono hok hI.s1 hI.s2 hI.le hj hLT
     have h3:=h2 j hrT o hoj
     have hS:=stage_at hok hoj
     obtain ⟨hev,hgd⟩:=owed_agree hok hI.s1 hI.lack hoj (fun h=>by have:=h.2.1;rw [hLT] at this;cases this) hall
     obtain ⟨e1,e2⟩:=quietAt_of (P:=P) (sel_of hS.ns) hev
     have hC':∀ w',(waits j=false→C w')→(C w'∨∀ i∈H,i < ops.length→waitsOn o i=true):=fun w' h=>by
      cases hwj:waits j with
      | true=>exact .inr (hw j o hoj hwj)
      | false=>exact .inl (h hwj)
     simp only [wpListIn] at h3
     unfold wpOpIn
     rw [ho]
     dsimp only
     rw [wanted_of hgd]
     by_cases hwt:Region.wanted o (yielded ops.toArray b.tmps)=true
     ·rw [if_pos hwt] at h3 ⊢
      refine wpIn_move hS.nd e1 (e2 w) (fun v w' h'=>?_) (fun d w' h'=>?_) (fun e a w h=>h.1) h3
      ·exact ih f _ _ _ _ w' (less hI.s1 hjl hL hg) (less hI.s2 hjl hLT hf) (hI.step hok hoj hL hLT hall id rfl (hI.lack.tail _ _) (hC' w' h'.2.1)) h'.2.2
      ·exact ih f _ _ _ _ w' (less hI.s1 hjl hL hg) (less hI.s2 hjl hLT hf) (hI.step hok hoj hL hLT hall (fun hk=>hk.defers _) rfl ((hI.lack.defer d).tail _ _) (hC' w' h'.2.1)) h'.2.2
     ·rw [if_neg hwt] at h3 ⊢
      obtain ⟨h4,h5⟩:=h3
      exact ⟨fun f hf=>h4 f (by rw [← e2 w];exact hf),ih f _ _ _ _ w (less hI.s1 hjl hL hg) (less hI.s2 hjl hLT hf) (hI.step hok hoj hL hLT hall id rfl (hI.lack.tail _ _) (hC' w h5.2.1)) h5.2.2⟩
def hoistOk (ops:List Oper) (H:List Nat):List Nat→Array Bool→Bool
 | [],_=>true
 | i::l,LT=>H.contains i&&!(LT.getD i true)&&(match ops[i]? with|none=>false|some o=>o.after.all fun e=>!Region.binds .any e || LT.getD e.on false)&&hoistOk ops H l (LT.setIfInBounds i true)
def listAll (hs:List Nat) (LT:Array Bool):Array Bool:=hs.foldl (fun LT i=>LT.setIfInBounds i true) LT
theorem stage_reads {waits:Nat→Bool} {Q':Act→World→Prop} {w:World}:∀ (hs:List Nat) (f:Nat) (LT:Array Bool) (b:Act),hoistOk ops H hs LT=true →
  wpQuietIn F n P ops.toArray C (fun b'=>wpStage F n P ops H C waits Q' f (listAll hs LT) b' w) (pickOps ops hs) b→wpStage F n P ops H C waits Q' (f+hs.length) LT b w
 | [],f,LT,b,_,h=>h
 | i::l,f,LT,b,hh,h=>by
  simp only [hoistOk,Bool.and_eq_true,Bool.not_eq_true'] at hh
  obtain ⟨⟨⟨h1,h2⟩,h3⟩,h4⟩:=hh
  cases ho:ops[i]? with
  | none=>rw [ho] at h3;cases h3
  | some o =>
   rw [ho] at h3
   rw [pick_cons,ho] at h
   obtain ⟨hask,h⟩:=h
   have hr:i∈Region.ready .any ops.toArray LT:=mem_ready.2 ⟨h2,o,by simpa using ho,fun e he hb=>by
    have:=Array.all_eq_true_iff_forall_mem.1 h3 e he
    rw [hb] at this
    simpa using this⟩
   have hH:i∈H:=by simpa using h1
   by_cases hwt:Region.wanted o (yielded ops.toArray b.tmps)=true
   ·rw [if_pos hwt] at h
    obtain ⟨v,hv,h⟩:=h
    exact .inl ⟨i,o,hH,hr,ho,v,⟨hask,.inl ⟨hwt,hv⟩⟩,stage_reads l f _ _ h4 h⟩
   ·rw [if_neg hwt] at h
    exact .inl ⟨i,o,hH,hr,ho,undef,⟨hask,.inr ⟨by simpa using hwt,rfl⟩⟩,stage_reads l f _ _ h4 h⟩
def StagePost (F:Fence) (n:Nat) (P:Program) (ops:List Oper) (H:List Nat) (C:World→Prop) (waits:Nat→Bool) (Q':Act→World→Prop) (f:Nat) (LT:Array Bool) (i:Nat):Exit→Act→World→Prop :=
 fun e a' w'=>e=.normal∧(waits i=false→C w')∧wpStage F n P ops H C waits Q' f (LT.setIfInBounds i true) a' w'
theorem stage_post {waits:Nat→Bool} {Q':Act→World→Prop} {f:Nat} {LT:Array Bool} {i:Nat} {a:Act} {w:World} (hC:C w) (h:wpStage F n P ops H C waits Q' f (LT.setIfInBounds i true) a w):StagePost F n P ops H C waits Q' f LT i .normal a w:=⟨rfl,fun _=>hC,h⟩
theorem stage_last {waits:Nat→Bool} {Q':Act→World→Prop} {f:Nat} {LT:Array Bool} {i:Nat} {a:Act} {w:World} (hw:waits i=true) (h:wpStage F n P ops H C waits Q' f (LT.setIfInBounds i true) a w):StagePost F n P ops H C waits Q' f LT i .normal a w:=⟨rfl,fun e=>(by rw [hw] at e;cases e),h⟩
theorem stage_one {waits:Nat→Bool} {Q':Act→World→Prop} {f:Nat} {LT:Array Bool} {a:Act} {w:World} (i:Nat) {o:Oper} (hr:Region.ready .any ops.toArray LT=[i]) (ho:ops[i]?=some o)
  (h:wpListIn F n P ops.toArray (StagePost F n P ops H C waits Q' f LT i) [o] a w):wpStage F n P ops H C waits Q' (f+1) LT a w :=
 .inr ⟨fun e=>(by rw [hr] at e;cases e),fun j hj o' ho'=>by
  rw [hr] at hj
  obtain rfl:j=i:=by simpa using hj
  rw [ho] at ho'
  cases ho'
  exact h⟩
theorem stage_two {waits:Nat→Bool} {Q':Act→World→Prop} {f:Nat} {LT:Array Bool} {a:Act} {w:World} (i j:Nat) {o o2:Oper} (hr:Region.ready .any ops.toArray LT=[i,j]) (ho:ops[i]?=some o) (ho2:ops[j]?=some o2)
  (h:wpListIn F n P ops.toArray (StagePost F n P ops H C waits Q' f LT i) [o] a w) (h2:wpListIn F n P ops.toArray (StagePost F n P ops H C waits Q' f LT j) [o2] a w):wpStage F n P ops H C waits Q' (f+1) LT a w :=
 .inr ⟨fun e=>(by rw [hr] at e;cases e),fun k hk o' ho'=>by
  rw [hr] at hk
  simp only [List.mem_cons,List.not_mem_nil,or_false] at hk
  rcases hk with rfl|rfl
  ·rw [ho] at ho';cases ho';exact h
  ·rw [ho2] at ho';cases ho';exact h2⟩
theorem stage_done {waits:Nat→Bool} {Q':Act→World→Prop} {LT:Array Bool} {a:Act} {w:World} (hr:Region.ready .any ops.toArray LT=[]) (h:Q' a w):wpStage F n P ops H C waits Q' 0 LT a w:=⟨hr,h⟩
def stageAll (ops:List Oper) (H ws:List Nat):Bool :=
 stageOk ops H&&ws.all fun j=>match ops[j]? with|none=>true|some o=>H.all fun i=>waitsOn o i
theorem wpIn_stage {id:Nat} {Q:Exit→Act→World→Prop} {a:Act} {w:World} (C:World→Prop) (H ws:List Nat) (hm:P.follows .mixedOrders=true) (hB:stageAll ops H ws=true) (hC:C w.drew)
  (h:wpStage F n P ops H C (fun i=>ws.contains i) (fun a w=>Q .normal a w) ops.length (Array.replicate ops.length false) a w.drew):(Code.region id ops.toArray true).wpIn F n P Q a w:=by
 simp only [stageAll,Bool.and_eq_true] at hB
 obtain ⟨hok,hws⟩:=hB
 refine wpIn_region_any hm ?_
 have hun:unlisted ops.length (Array.replicate ops.length false)=ops.length:=by
  unfold unlisted
  rw [List.filter_eq_self.2 (fun i hi=>?_),List.length_range]
  have:=List.mem_range.1 hi
  simp only [Array.getD_eq_getD_getElem?]
  rw [Array.getElem?_replicate,if_pos (by omega)];rfl
 have hno:∀ i:Nat,(Array.replicate ops.length false)[i]?≠some true:=fun i=>by
  rw [Array.getElem?_replicate];split<;>simp
 have hrun:=stage_run (F:=F) (n:=n) (P:=P) (C:=C) hok (fun i=>ws.contains i) (fun j o ho hj i hi _=>by
   have:=List.all_eq_true.1 hws j (by simpa using hj)
   rw [ho] at this
   exact List.all_eq_true.1 this i hi) Q ops.length ops.length (Array.replicate ops.length false) (Array.replicate ops.length false) a a w.drew hun hun
  ⟨by simp,by simp,fun _ _ _=>rfl,fun _ h=>h,fun i o _ h=>absurd h (hno i),.inr ⟨hC,fun i o hO=>absurd hO.2.1 (hno i)⟩,⟨rfl,rfl,fun _ _=>rfl⟩⟩ h
 simpa using hrun
end
end Go.Proofs.YtigapglmipmbeaaGreatDoor
namespace Go.Proofs.YtigapglmipmbeaaGreatDoor
open Go.RowKit Go.Shelf
def Turn (B:Nat) (W W':World):Prop:=∃ r o o',B≤r∧W.heap[r]?=some o∧o.isCells=false∧W'=W.putObj r o'
theorem OwnFrom.turn {β:Type} {B:Nat} {I:β→World→Prop} (h:OwnFrom B I) {s:β} {W W':World} (hs:I s W) (ht:Turn B W W'):I s W':=by
 obtain ⟨r,o,o',hr,ho,hc,rfl⟩:=ht
 exact h.putObj o' hs hr ho hc
theorem below_drewN' {B:Nat} {a w:World} (h:Below B a w) (k:Nat):Below B a (w.drewN k):=⟨h.os,h.tape,h.output,h.size,h.block⟩
theorem keeps_drewN (w:World) (k:Nat):KeepsOthers w (w.drewN k):=⟨Nat.le_refl _,fun _ _ h _=>h⟩
theorem keeps_of_below {w w':World} (h:Below w.heap.size w w'):KeepsOthers w w':=⟨h.size,fun k _ hk _=>(h.block k (Array.getElem?_eq_some_iff.1 hk).1).trans hk⟩
theorem Blk.own_ {W W':World} {row:Option Nat} {B g:Nat} {t:TypeId} {cs:Array Value} (h:Blk W g t cs) (hg:W.grownBy W' row) (hr:∀ r,row=some r→B≤r∧∃ o:Obj,W.heap[r]?=some o∧o.isCells=false):Blk W' g t cs :=
 h.grown hg (fun e=>by obtain ⟨_,o,ho,hc⟩:=hr g e.symm;rw [show W.heap[g]?=_ from h] at ho;cases ho;cases hc)
theorem bx_own {W W':World} {row:Option Nat} {B g:Nat} {t:TypeId} {v:Value} (h:Boxed W g t v) (hg:W.grownBy W' row) (hr:∀ r,row=some r→B≤r∧∃ o:Obj,W.heap[r]?=some o∧o.isCells=false):Boxed W' g t v :=
 Blk.own_ (cs:=#[v]) h hg hr
theorem below_own_ {w W W':World} {row:Option Nat} {B n₀:Nat} (h:Below n₀ w W) (hn:n₀≤w.heap.size) (hB:n₀≤B) (hg:W.grownBy W' row) (hr:∀ r,row=some r→B≤r∧∃ o:Obj,W.heap[r]?=some o∧o.isCells=false):Below n₀ w W' :=
 h.grown hg (Nat.le_trans hn h.size) (fun k e=>by have:=(hr k e).1;omega)
theorem bx_below {w w':World} {B g:Nat} {t:TypeId} {v:Value} (h:Boxed w g t v) (hb:Below B w w') (hg:g < B):Boxed w' g t v:=(hb.block g hg).trans h
theorem bx_far {W:World} {g:Nat} {t:TypeId} {v:Value} (h:Boxed W g t v) {p:Addr} (hp:g≠p.block) (u:Value):Boxed (W.setCell p u) g t v:=Blk.far (cs:=#[v]) h hp u
theorem inAt_zero {F:Fence} {n:Nat} {P:Program} {o:Oper} {l:List Oper} {h:0 < (o::l).toArray.size} {a:Act} {w:World} {K:Act→World→Prop} {Q:Exit→Act→World→Prop}:Oper.wpIn F n P ((o::l).toArray[0]'h) a w K Q=Oper.wpIn F n P o a w K Q:=rfl
theorem inAt_succ {F:Fence} {n:Nat} {P:Program} {o:Oper} {l:List Oper} {k:Nat} {h:k+1 < (o::l).toArray.size} {a:Act} {w:World} {K:Act→World→Prop} {Q:Exit→Act→World→Prop}:Oper.wpIn F n P ((o::l).toArray[k+1]'h) a w K Q=Oper.wpIn F n P (l.toArray[k]'(by simpa using h)) a w K Q:=rfl
theorem quiet_of_same2 {F:Fence} {r:Nat} {P:Program} {f:FuncId} {args:Array Value} {w:World} {k n:Nat} {v:Value}
  (h:CallsIn F r P f args (w.drewN (k+n)) fun e w'=>e=.returned v∧w'=w.drewN (k+n)):CallsIn F r P f args (w.drewN (k+n)) fun e w''=>e=.returned v∧∃ m,w''=w.drewN (k+m) :=
 h.mono fun _ _ ⟨he,hm⟩=>⟨he,n,hm⟩
def ordPost {α:Type} (I:List α→World→Prop) (Ix:Code→List α→World→Prop) (xs:List α) (W:World):Exit→Act→World→Prop
 | .normal,_,W'=>KeepsOthers W W'∧I xs W'
 | .ret,_,W'=>KeepsOthers W W'∧Ix .ret xs W'
 | .exit id,_,W'=>KeepsOthers W W'∧Ix (.exit id) xs W'
 | .goto t,_,W'=>KeepsOthers W W'∧Ix (.goto t) xs W'
 | .panic _,_,_=>False
 | .outgrown,_,_=>False
def SeqOrd {α:Type} (F:Fence) (n:Nat) (P:Program) (g:Nat) (lb:Array Value) (encs:α→Array Value) (Nx:List α→α→Prop) (S:List α→Prop) (G:World→Prop):Prop :=
 ∀ (l:Nat) (J Jx:List α→World→Prop) (W:World),(∀ pre W1,J pre W1→G W1)→AbidesFrom W.heap.size J→AbidesFrom W.heap.size Jx →
  (∀ pre x W1,J pre W1→Nx pre x→YieldAt F (n - 1) P l (encs x) W1 fun e W'=>(e=.returned (.bool true)∧J (pre++[x]) W')∨(e=.returned (.bool false)∧Jx (pre++[x]) W')) →
  J [] W →
  CallsIn F n P g (#[.func (.yield l) #[] #[]]++lb) W fun e W'=>(∃ v,e=.returned v)∧((∃ xs,S xs∧J xs W')∨(∃ pre x,Nx pre x∧Jx (pre++[x]) W'))
section
variable {F:Fence} {n:Nat} {P:Program}
def Books (rec:LoopState→Option Code→Loop) (D:Nat) (st:LoopState) (pe:Option Code) (W:World):Prop :=
 W.heap[D+1]?=some (.loop (rec st pe))∧W.heap[D]?=some (.deferred (some []))
theorem Books.abides {rec:LoopState→Option Code→Loop} {D B:Nat} {st:LoopState} {pe:Option Code} {W W':World} {row:Option Nat} (h:Books rec D st pe W) (hg:W.grownBy W' row)
  (hr:∀ r,row=some r→B≤r∧∃ o:Obj,W.heap[r]?=some o∧o.isWalk=true):Books rec D st pe W' :=
 ⟨(grownBy_keeps hg (fun r e=>(hr r e).2) h.1 rfl).trans h.1,(grownBy_keeps hg (fun r e=>(hr r e).2) h.2 rfl).trans h.2⟩
theorem Books.turned {rec:LoopState→Option Code→Loop} {D:Nat} {st:LoopState} {pe:Option Code} {W:World} (h:Books rec D st pe W) (o:Loop) :
  (W.putObj (D+1) (.loop o)).heap[D+1]?=some (.loop o)∧(W.putObj (D+1) (.loop o)).heap[D]?=some (.deferred (some []))∧Turn D W (W.putObj (D+1) (.loop o)) :=
 ⟨World.putObj_heap_same (Array.getElem?_eq_some_iff.1 h.1).1,(World.putObj_heap_other (by omega)).trans h.2,D+1,_,_,by omega,h.1,rfl,rfl⟩
theorem wpIn_range_ord {α:Type} {g:Operand} {ps:Array Tmp} {assign body:Code} {Q:Exit→Act→World→Prop} {a:Act} {w:World}
  (hro:F.round=none) (h1:1≤n) {gf:Nat} {lb:Array Value} (hg:a.eval g=.func (.func gf) #[] lb) (hFg:F.fn gf) (eg:∀ args w,(callFunc gf args).run P w=.ok (.enter gf args) w)
  {encs:α→Array Value} {Nx:List α→α→Prop} {S:List α→Prop} {G:World→Prop} (hseq:SeqOrd F (n - 1) P gf lb encs Nx S G) (hps:∀ x,(encs x).size=ps.size)
  (I:List α→World→Prop) (Ix:Code→List α→World→Prop) (hG:∀ pre W,I pre W→G W) (hI:OwnFrom w.heap.size I) (hIx:∀ c,OwnFrom w.heap.size (Ix c)) (h0:I [] w)
  (hround:∀ (l:Nat) (pre:List α) (x:α) (W:World) (K:Act→World→Prop),I pre W→Nx pre x →
   (∀ a' Wa,KeepsOthers W Wa→I pre Wa→(∀ Wb,Turn w.heap.size Wa Wb→I pre Wb→body.wpIn (F.inRound l) (n - 1 - 1) P (ordPost I Ix (pre++[x]) Wb) a' Wb)→K a' Wa) →
   assign.wpIn (F.inRound l) (n - 1 - 1) P (Exit.then K (fun _ _ _=>False)) { tmps:=(ps.zip (encs x)).foldl (fun t (p,v)=>t.setIfInBounds p v) a.tmps,defers:=[] } W)
  (hdone:∀ (D:Nat) (xs:List α) (W:World),w.heap.size≤D→S xs→I xs W→W.heap[D]?=some (.deferred (some []))→Q .normal { a with defers:={ target:=.collected D,args:=#[] }::a.defers } W)
  (hstop:∀ (D:Nat) (c:Code) (pre:List α) (x:α) (W:World),w.heap.size≤D→Nx pre x→Ix c (pre++[x]) W→W.heap[D]?=some (.deferred (some []))→c.wpIn F n P Q { a with defers:={ target:=.collected D,args:=#[] }::a.defers } W) :
  (Code.rangeFunc g ps assign body).wpIn F n P Q a w:=by
 refine wpIn_rangeFunc ?_
 intro fn hfn
 rw [hro]
 obtain ⟨rec,hrec⟩:∃ rec:LoopState→Option Code→Loop,rec=fun st pe=>{ state:=st,pending:=pe,fn,tmps:=a.tmps,params:=ps,assign,body,defers:=w.heap.size }:=⟨_,rfl⟩
 obtain ⟨W1,hW1⟩:∃ W1,(w.alloc (.deferred (some []))).alloc (.loop (rec .ready none))=W1:=⟨_,rfl⟩
 have hb1:Books rec w.heap.size .ready none W1:=by
  subst hW1
  refine ⟨?_,(Below.heap_alloc _ _ _ (by simp)).trans (World.alloc_heap_new w _)⟩
  have:=World.alloc_heap_new (w.alloc (.deferred (some []))) (.loop (rec .ready none))
  rwa [World.size_alloc] at this
 have hI1:I [] W1:=by subst hW1;exact hI.alloc _ (hI.alloc _ h0)
 have hsz:w.heap.size≤W1.heap.size:=by subst hW1;simp;omega
 have enters:(Instr.enterLoop fn a.tmps ps assign body none).run P w=.ok (w.heap.size+1,[{ target:=.collected w.heap.size,args:=#[] }]) W1:=by
  rw [← hW1,hrec];exact run_enterLoop_outer _ _ _ _ _
 clear hW1
 have hnw:∀ {A:World} {row:Option Nat},(∀ r,row=some r→W1.heap.size≤r∧∃ o:Obj,A.heap[r]?=some o∧o.isWalk=true)→∀ r,row=some r→w.heap.size≤r∧∃ o:Obj,A.heap[r]?=some o∧o.isCells=false :=
  fun hr r e=>by obtain ⟨hB,o,ho,hw⟩:=hr r e;exact ⟨by omega,o,ho,Obj.not_cells_of_walk hw⟩
 refine ⟨w.heap.size+1,_,W1,{ target:=.fn (.func gf) lb,args:=#[.func (.yield (w.heap.size+1)) #[] #[]] },W1,gf,#[.func (.yield (w.heap.size+1)) #[] #[]]++lb,W1,enters,?_,?_,?_,fun _=>h1,?_⟩
 ·simp only [resolve,hg]
  simp [go_sem]
 ·intro f' hf';simp [Target.leads] at hf';subst hf';exact hFg
 ·simp [invoke,go_sem,eg]
 refine (hseq (w.heap.size+1) (fun pre W=>I pre W∧Books rec w.heap.size .ready none W) (fun pre W=>∃ c,Ix c pre W∧Books rec w.heap.size .done (some c) W) W1
  (fun pre W h=>hG pre W h.1)
  (fun s A A' row hs hg' hr=>⟨hI s A A' row hs.1 hg' (hnw hr),hs.2.abides hg' hr⟩)
  (fun s A A' row hs hg' hr=>by obtain ⟨c,hc,hk⟩:=hs;exact ⟨c,hIx c s A A' row hc hg' (hnw hr),hk.abides hg' hr⟩)
  ?_ ⟨hI1,hb1⟩).mono ?_
 ·rintro pre x W ⟨hi,hk⟩ hnx
  have hy:=run_yield (P:=P) (args:=encs x) hk.1 (by rw [hrec];exact hps x)
  rw [hrec] at hy
  refine ⟨fn,_,assign,body,hy,roundIn_of_wpIn hfn (hround _ pre x W _ hi hnx ?_)⟩
  clear hy
  intro a' Wa hka hia hbody
  have hka':Books rec w.heap.size .ready none Wa:=⟨hka.same _ _ hk.1 rfl,hka.same _ _ hk.2 rfl⟩
  refine ⟨_,run_beginRound hka'.1 (by rw [hrec]),?_⟩
  obtain ⟨t1,t2,t3⟩:=hka'.turned { rec .ready none with state:=.busy }
  refine wpIn_mono (hbody _ t3 (OwnFrom.turn hI hia t3)) ?_
  -- the round's end, by whatever jump
  have fin:∀ (jump:Option Code) (W3:World),KeepsOthers (Wa.putObj (w.heap.size+1) (.loop { rec .ready none with state:=.busy })) W3 →
    ∃ W4,(Instr.endRound (w.heap.size+1) jump).run P W3=.ok (.bool jump.isNone) W4∧Books rec w.heap.size (if jump.isNone then .ready else .done) jump W4∧Turn w.heap.size W3 W4:=by
   intro jump W3 hk3
   have b3:Books (fun _ _=>{ rec .ready none with state:=.busy }) w.heap.size .ready none W3:=⟨hk3.same _ _ t1 rfl,hk3.same _ _ t2 rfl⟩
   obtain ⟨u1,u2,u3⟩:=b3.turned (rec (if jump.isNone then .ready else .done) jump)
   refine ⟨_,?_,⟨u1,u2⟩,u3⟩
   have:=run_endRound (P:=P) jump b3.1
   rw [hrec] at this ⊢
   exact this
  intro e a3 W3 hp
  cases e with
  | normal=>obtain ⟨W4,r1,r2,r3⟩:=fin none W3 hp.1;exact ⟨_,_,r1,.inl ⟨rfl,OwnFrom.turn hI hp.2 r3,r2⟩⟩
  | ret=>obtain ⟨W4,r1,r2,r3⟩:=fin (some .ret) W3 hp.1;exact ⟨_,_,r1,.inr ⟨rfl,.ret,OwnFrom.turn (hIx _) hp.2 r3,r2⟩⟩
  | exit id=>obtain ⟨W4,r1,r2,r3⟩:=fin (some (.exit id)) W3 hp.1;exact ⟨_,_,r1,.inr ⟨rfl,.exit id,OwnFrom.turn (hIx _) hp.2 r3,r2⟩⟩
  | goto t=>obtain ⟨W4,r1,r2,r3⟩:=fin (some (.goto t)) W3 hp.1;exact ⟨_,_,r1,.inr ⟨rfl,.goto t,OwnFrom.turn (hIx _) hp.2 r3,r2⟩⟩
  | panic ch=>exact hp.elim
  | outgrown=>exact hp.elim
 ·rintro e W2 ⟨⟨v,rfl⟩,(⟨xs,hS,hi,hk⟩|⟨pre,x,hnx,c,hi,hk⟩)⟩
  ·have hend:=run_endLoop (P:=P) hk.1 (by rw [hrec];simp)
   obtain ⟨t1,t2,t3⟩:=hk.turned { rec .ready none with state:=.exhausted }
   rw [hrec] at hend t2 t3
   exact ⟨none,_,hend,hdone _ xs _ (Nat.le_refl _) hS (OwnFrom.turn hI hi t3) t2⟩
  ·have hend:=run_endLoop (P:=P) hk.1 (by rw [hrec];simp)
   obtain ⟨t1,t2,t3⟩:=hk.turned { rec .done (some c) with state:=.exhausted }
   rw [hrec] at hend t2 t3
   exact ⟨some c,_,hend,hstop _ c pre x _ (Nat.le_refl _) hnx (OwnFrom.turn (hIx c) hi t3) t2⟩
end
end Go.Proofs.YtigapglmipmbeaaGreatDoor
namespace Go.Proofs.YtigapglmipmbeaaGreatDoor
open Go.Shelf Go.RowKit Go.Sort Go.Lib
structure Res (w:World):Prop where
 tab : Lib.TabIs Tryz.prog w "internal/strconv.uint64pow10" .u64 Lib.pow10Tab
 max:∃ m:Int,w.cell? ⟨0,0,none⟩=some (.int .i64 m)
theorem tabIs_below {P:Program} {w w':World} {name:String} {k:IntKind} {zs:List Int} (h:TabIs P w name k zs) (hb:Below w.heap.size w w'):TabIs P w' name k zs:=by
 unfold TabIs World.var? at *
 cases hg:P.globalNamed name with
 | none=>simp [hg] at h
 | some g =>
  simp only [hg,Option.bind_some] at h ⊢
  have hlt:g < w.heap.size:=by
   rcases Nat.lt_or_ge g w.heap.size with h'|h'
   ·exact h'
   ·rw [Array.getElem?_eq_none h'] at h;simp at h
  rw [hb.block g hlt]
  exact h
theorem Res.below {w w':World} (h:Res w) (hb:Below w.heap.size w w'):Res w':=by
 obtain ⟨m,hm⟩:=h.max
 exact ⟨tabIs_below h.tab hb,m,(hb.cell (p:=⟨0,0,none⟩) (Lib.lt_of_cell hm)).trans hm⟩
theorem fmtInner_any (u:Nat) (hu64:u < 18446744073709551616) (w:World) (hr:Res w) :
  Calls Tryz.prog 307 #[.int .u64 (u:Int),.int .i64 10] w fun e w'=>e=.returned (.string ⟨(Lib.decDigits u).toArray⟩)∧Below w.heap.size w w':=by
 by_cases hs:u < 100
 ·go_enter Tryz.func307,Tryz.ntmps307
  go_wp2_with (go_at_call 325;refine (Tryz.internal_strconv_small u hs _).mono ?_;rintro e w' ⟨rfl,rfl⟩)
  go_ret
  exact ⟨rfl,Below.refl _ _⟩
 ·have hu1:1≤u:=by omega
  have hnd20:Lib.nDigits u≤20:=by have:=Lib.numDigits_eq u hu1 hu64;split at this<;>omega
  have htab:=hr.tab
  have hal:Tryz.prog.arrayLen 331=24:=by simp [Program.arrayLen,Tryz.underlying331]
  have hsl:∀ W,(Instr.sliceAt 331 (.pointer (some ⟨w.heap.size,0,none⟩)) none (some (.int .i64 (Lib.nDigits u:Int))) none).run Tryz.prog W=.ok (.slice (some ⟨w.heap.size,0,none⟩) (Lib.nDigits u) 24) W:=fun W=>by
   rw [run_sliceAt_array_h W 331 ⟨w.heap.size,0,none⟩ (by simp [Program.arrayLen,Program.elem,Tryz.underlying331]) .i64 (Lib.nDigits u:Int) (by omega) (by rw [hal];omega)]
   go_simp
  have hH0:=Lib.holds_zero0 w 331 (Lib.nDigits u) (by omega)
  have hfmt:=Tryz.internal_strconv_formatBase10 w.heap.size 0 24 u (Array.replicate (Lib.nDigits u) 0) (w.alloc (.cells Lib.zeros24 331)) hH0 (by rw [Array.size_replicate];exact Lib.lt_pow_nDigits u) hu64 (by rw [Array.size_replicate];omega)
  rw [Array.size_replicate] at hfmt
  have HH0:=Lib.hid hH0
  clear hH0 hal
  go_enter Tryz.func307,Tryz.ntmps307
  go_wp2_with (first
   | (go_at_call 326;refine (Tryz.internal_strconv_numDigits u hu1 hu64 _ (Lib.tabIs_alloc htab _)).mono ?_;rintro e w' ⟨rfl,rfl⟩))
  refine hfmt.mono ?_
  rintro e w' ⟨rfl,k,v',dk,rfl,hF⟩
  have hcv:(convert 123 9 (.slice (some ⟨w.heap.size,0,none⟩) (Lib.nDigits u) 24)).run Tryz.prog ((putRow (fun (b:UInt8)=>Value.int .u8 (b.toNat:Int)) (w.alloc (.cells Lib.zeros24 331)) w.heap.size 0 dk).drewN k)=.ok (.string ⟨(Lib.decDigits u).toArray⟩) ((putRow (fun (b:UInt8)=>Value.int .u8 (b.toNat:Int)) (w.alloc (.cells Lib.zeros24 331)) w.heap.size 0 dk).drewN k):=by
   have h:=run_convert_bytes_back (P:=Tryz.prog) ((putRow (fun (b:UInt8)=>Value.int .u8 (b.toNat:Int)) (w.alloc (.cells Lib.zeros24 331)) w.heap.size 0 dk).drewN k) 123 9 5 ⟨w.heap.size,0,none⟩ 24 (Lib.decDigits u) Tryz.underlying123 Tryz.underlying5 Tryz.underlying9 (fun j hj=>by
    rw [Lib.row_is_numeral hF j hj,Lib.add_plain,World.cell?_drewN]
    exact cell?_putRow (fun (b:UInt8)=>Value.int .u8 (b.toNat:Int)) _ w.heap.size 0 _ dk HH0.out (by rw [hF.size,Array.size_replicate]) j (by rw [hF.size];rw [Lib.decDigits_length] at hj;exact hj))
   rw [Lib.decDigits_length] at h
   exact h
  obtain ⟨os,eo⟩:=Lib.fin_at w (.cells Lib.zeros24 331) dk k 0
  have HEO:=Lib.hid eo
  clear eo hfmt
  go_wp2
  go_ret
  exact ⟨rfl,by rw [HEO.out];exact Lib.below_grow _ _ (Nat.le_refl _) _ _⟩
theorem fmt_any (u:Nat) (hu64:u < 18446744073709551616) (w:World) (hr:Res w) :
  Calls Tryz.prog 279 #[.int .u64 (u:Int),.int .i64 10] w fun e w'=>e=.returned (.string ⟨(Lib.decDigits u).toArray⟩)∧Below w.heap.size w w':=by
 go_enter Tryz.func279,Tryz.ntmps279
 go_wp2_with (go_at_call 307;refine (fmtInner_any u hu64 _ hr).mono ?_;rintro e w' ⟨rfl,hb⟩)
 go_ret
 exact ⟨rfl,hb⟩
end Go.Proofs.YtigapglmipmbeaaGreatDoor
