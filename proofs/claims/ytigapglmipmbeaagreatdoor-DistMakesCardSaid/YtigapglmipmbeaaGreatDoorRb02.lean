/- Regions that draw their order within a round of a range over a function: those that only read; those whose last operations wait for all others; those whose reads may come among the others. Regions that draw their order: any of the operations may be reads, which come whenever they may; the others come in any order that their edges allow. -/
import Derived.Sort.BigQuietIn
import Derived.OrdersIn
import Derived.TacticsIn
import Derived.AtR
import Derived.CallsIn
import Derived.Deep.LoopGhost
import Derived.Below
import Derived.Test.YtigapglmipmbeaaGreatDoorProg
set_option maxRecDepth 100000
set_option maxHeartbeats 16000000
namespace Go.Proofs.YtigapglmipmbeaaGreatDoor
open Go.RowKit
section
variable {F:Fence} {n:Nat} {P:Program} {ops:Array Oper} {md:Region.Mode} {C:World→Prop}
def noDefer (o:Oper):Bool:=match o.op with | .defer _=>false | _=>true
theorem noDefer_spec {o:Oper} (h:noDefer o = true):∀ c,o.op≠.defer c:=fun c e=>by simp [noDefer,e] at h
theorem quiet_runs {o:Oper} {a:Act} {K:Act→Prop} {K':Act→World→Prop} {Q':Exit→Act→World→Prop} {w:World} (hd:noDefer o = true) (hw:C w) (hK:∀ a w',C w'→K a→K' a w')
  (hh:o.quietIn F n P a C K) (ha:o.askedIn F P a C):o.wpIn F n P a w K' Q':=by
 obtain ⟨v,hv,hn⟩:=hh
 have hrun:=hv w hw
 rw [Oper.quietAtIn] at hrun
 rw [Oper.wpIn,Oper.semAt_eq _ _ _ (noDefer_spec hd)]
 refine ⟨ha w hw,?_⟩
 revert hrun
 cases (execOp a.eval o).run P w with
 | halt x w'=>exact fun h=>h.elim
 | ok x w' =>
  cases x with
  | value u=>rintro ⟨rfl,rfl⟩;exact hK _ _ hw hn
  | skip=>rintro ⟨rfl,rfl⟩;exact hK _ _ hw hn
  | enter f args=>rintro ⟨rfl,hdp,hc⟩;exact ⟨hdp,hc.mono fun e w'' h=>by obtain ⟨rfl,h2⟩:=h;exact hK _ _ h2 hn⟩
  | _=>exact fun h=>h.elim
theorem quiet_op_runs {i:Nat} {a:Act} {K:Act→Prop} {K':Act→World→Prop} {Q':Exit→Act→World→Prop} {w:World} (hd:∀ o∈ops,noDefer o = true) (hw:C w) (hK:∀ a w',C w'→K a→K' a w')
  (hh:qOpIn F n P ops C i K a):wpOpIn F n P ops Q' i K' a w:=by
 cases ho:ops[i]? with
 | none =>
  simp only [qOpIn,ho] at hh
  simp only [wpOpIn,ho]
  exact hK _ _ hw hh
 | some o =>
  simp only [qOpIn,ho] at hh
  simp only [wpOpIn,ho]
  by_cases hwant:Region.wanted o (yielded ops a.tmps) = true
  ·rw [if_pos hwant] at hh ⊢
   exact quiet_runs (hd o (Array.mem_of_getElem? ho)) hw hK hh.2 hh.1
  ·rw [if_neg hwant] at hh ⊢
   exact ⟨hh.1 w hw,hK _ _ hw hh.2⟩
theorem quiet_any_runs {Q:Act→Prop} {Q':Exit→Act→World→Prop} (hd:∀ o∈ops,noDefer o = true) (hQ:∀ a w,C w→Q a→Q' .normal a w) (k:Nat) :
  ∀ (listed:Array Bool) (a:Act) (w:World),C w→wpAnyQIn F n P md ops C Q k listed a→wpAnyIn F n P md ops Q' k listed a w:=by
 induction k with
 | zero=>exact fun _ _ _ hw h=>⟨h.1,hQ _ _ hw h.2⟩
 | succ k ih=>exact fun _ _ _ hw h=>⟨fun e=>hQ _ _ hw (h.1 e),fun i hi=>quiet_op_runs hd hw (fun a' w' hw' h'=>ih _ a' w' hw' h') (h.2 i hi)⟩
theorem wpIn_quiet_round {id:Nat} {Q:Exit→Act→World→Prop} {a:Act} {w:World} {l:List Oper} (hm:P.follows .mixedOrders = true) (hB:Region.lexB .any l.toArray = true) (hd:l.all noDefer = true)
  (h:wpQuietIn F n P l.toArray (fun w'=>∃ n,w' = w.drewN n) (fun a'=>∀ w',(∃ n,w' = w.drewN n)→Q .normal a' w') l a):(Code.region id l.toArray true).wpIn F n P Q a w:=by
 simp only [Region.lexB,Bool.and_eq_true] at hB
 refine wpIn_region_any hm (quiet_any_runs (C:=fun w'=>∃ n,w' = w.drewN n) (Q:=fun a'=>∀ w',(∃ n,w' = w.drewN n)→Q .normal a' w')
  (fun o ho=>List.all_eq_true.1 hd o (by simpa using ho)) (fun _ w' hw' h=>h w' hw') _ _ _ _ ⟨1,rfl⟩ ?_)
 have:=wpAnyQIn_lex (F:=F) (n:=n) (C:=fun w'=>∃ n,w' = w.drewN n) (md:=.any) hB.1 l 0 (Array.replicate l.toArray.size false) a (by simp) (by simpa using hB.2) h
 simpa using this
def ownEdges (k:Nat) (o:Oper):Bool:=o.after.all fun e=>!Region.binds .any e || decide (e.on < k)
def waitsAll (k:Nat) (o:Oper):Bool:=(List.range k).all fun i=>o.after.any fun e=>Region.binds .any e && e.on == i
def guardBelow (k:Nat) (o:Oper):Bool:=match o.guard with | none=>true | some (j,_)=>decide (j < k)
def tailOk (H T:List Oper):Bool :=
 (List.range H.length).all (fun j=>match H[j]? with | none=>true | some o=>ownEdges j o && guardBelow H.length o) &&
 (List.range T.length).all (fun t=>match T[t]? with | none=>true | some o=>ownEdges (H.length + t) o && waitsAll (H.length + t) o)
theorem ownEdges_spec {k:Nat} {o:Oper} (h:ownEdges k o = true):∀ e∈o.after,Region.binds .any e = true→e.on < k:=by
 intro e he hb
 have:=Array.all_eq_true_iff_forall_mem.1 h e he
 rw [hb] at this
 simpa using this
theorem waitsAll_spec {k:Nat} {o:Oper} (h:waitsAll k o = true) {i:Nat} (hi:i < k):∃ e∈o.after,Region.binds .any e = true∧e.on = i:=by
 have:=List.all_eq_true.1 h i (List.mem_range.2 hi)
 obtain ⟨e,he,h2⟩:=Array.any_eq_true'.1 this
 simp only [Bool.and_eq_true,beq_iff_eq] at h2
 exact ⟨e,he,h2⟩
section
variable {H T:List Oper}
theorem tailOk_head (h:tailOk H T = true) {j:Nat} {o:Oper} (hj:H[j]? = some o):ownEdges j o = true∧guardBelow H.length o = true:=by
 simp only [tailOk,Bool.and_eq_true] at h
 have hlt:j < H.length:=(List.getElem?_eq_some_iff.1 hj).1
 have:=List.all_eq_true.1 h.1 j (List.mem_range.2 hlt)
 simpa [hj] using this
theorem tailOk_tail (h:tailOk H T = true) {t:Nat} {o:Oper} (hj:T[t]? = some o):ownEdges (H.length + t) o = true∧waitsAll (H.length + t) o = true:=by
 simp only [tailOk,Bool.and_eq_true] at h
 have hlt:t < T.length:=(List.getElem?_eq_some_iff.1 hj).1
 have:=List.all_eq_true.1 h.2 t (List.mem_range.2 hlt)
 simpa [hj] using this
theorem tail_runs (hok:tailOk H T = true) (Q:Exit→Act→World→Prop):∀ (g t:Nat) (L:Array Bool) (a:Act) (w:World),t + g = T.length→(∀ i,i < H.length + t→L.getD i false = true)→(∀ i,H.length + t≤i→i < (H ++ T).length→L.getD i true = false)→L.size = (H ++ T).length →
  wpListIn F n P (H ++ T).toArray Q (T.drop t) a w→wpAnyIn F n P .any (H ++ T).toArray Q g L a w:=by
 intro g
 induction g with
 | zero =>
  intro t L a w ht h1 h2 hs h
  refine ⟨?_,?_⟩
  ·rw [List.eq_nil_iff_forall_not_mem]
   intro j hj
   obtain ⟨hj1,o,ho,_⟩:=mem_ready.1 hj
   have hlt:j < (H ++ T).length:=by have:=(Array.getElem?_eq_some_iff.1 ho).1;simpa using this
   have:=h1 j (by simp at hlt;omega)
   simp only [Array.getD_eq_getD_getElem?] at this hj1
   cases hx:L[j]? with
   | none=>rw [hx] at hj1;cases hj1
   | some b=>rw [hx] at hj1 this;simp at hj1 this;rw [this] at hj1;cases hj1
  ·rw [List.drop_of_length_le (by omega)] at h;exact h
 | succ g ih =>
  intro t L a w ht h1 h2 hs h
  have hlt:t < T.length:=by omega
  have hop:((H ++ T).toArray)[H.length + t]? = some T[t]:=by simp [hlt]
  obtain ⟨q1,q2⟩:=tailOk_tail hok (t:=t) (o:=T[t]) (by simp [hlt])
  have hrd:H.length + t∈Region.ready .any (H ++ T).toArray L :=
   mem_ready.2 ⟨h2 _ (Nat.le_refl _) (by simp;omega),_,hop,fun e he hb=>h1 _ (ownEdges_spec q1 e he hb)⟩
  refine ⟨fun e=>(by rw [e] at hrd;cases hrd),fun j hj=>?_⟩
  obtain ⟨hj1,o,ho,hall⟩:=mem_ready.1 hj
  have hjlt:j < (H ++ T).length:=by have:=(Array.getElem?_eq_some_iff.1 ho).1;simpa using this
  have hje:j = H.length + t:=by
   rcases Nat.lt_trichotomy j (H.length + t) with hl | he | hg
   ·exfalso
    have:=h1 j hl
    simp only [Array.getD_eq_getD_getElem?] at this hj1
    cases hx:L[j]? with
    | none=>rw [hx] at hj1;cases hj1
    | some b=>rw [hx] at hj1 this;simp at hj1 this;rw [this] at hj1;cases hj1
   ·exact he
   ·exfalso
    have ho':T[j - H.length]? = some o:=by
     rw [List.getElem?_toArray,List.getElem?_append_right (by omega)] at ho;exact ho
    obtain ⟨_,r2⟩:=tailOk_tail hok ho'
    obtain ⟨e,he,hb,hon⟩:=waitsAll_spec r2 (i:=H.length + t) (by omega)
    have:=hall e he hb
    rw [hon] at this
    have h3:=h2 (H.length + t) (Nat.le_refl _) (by simp;omega)
    simp only [Array.getD_eq_getD_getElem?] at this h3
    cases hx:L[H.length + t]? with
    | none=>rw [hx] at h3;cases h3
    | some b=>rw [hx] at h3 this;simp at h3 this;rw [this] at h3;cases h3
  subst hje
  have ho2:o = T[t]:=by rw [hop] at ho;exact (Option.some.inj ho).symm
  subst ho2
  rw [List.drop_eq_getElem_cons hlt] at h
  have next:∀ a' w',wpListIn F n P (H ++ T).toArray Q (T.drop (t + 1)) a' w'→wpAnyIn F n P .any (H ++ T).toArray Q g (L.setIfInBounds (H.length + t) true) a' w':=fun a' w' h'=>by
   refine ih (t + 1) _ a' w' (by omega) (fun i hi=>?_) (fun i hi hi2=>?_) (by simp [hs]) h'
   ·by_cases e:i = H.length + t
    ·subst e
     simp only [Array.getD_eq_getD_getElem?]
     rw [Array.getElem?_setIfInBounds_self_of_lt (by rw [hs];exact hjlt)];rfl
    ·exact getD_set_true (h1 i (by omega))
   ·rw [getD_set_ne true (by omega)];exact h2 i (by omega) hi2
  simp only [wpOpIn,hop]
  simp only [wpListIn] at h
  split
  ·rename_i hw
   rw [if_pos hw] at h
   exact Oper.wpIn_mono (fun a' w' h'=>next a' w' h') h
  ·rename_i hw
   rw [if_neg hw] at h
   exact ⟨h.1,next _ _ h.2⟩
theorem wanted_head {H T:List Oper} {o:Oper} (hg:guardBelow H.length o = true) (tmps:Array Value):Region.wanted o (yielded (H ++ T).toArray tmps) = Region.wanted o (yielded H.toArray tmps):=by
 unfold Region.wanted guardBelow at *
 cases hgd:o.guard with
 | none=>rfl
 | some p =>
  obtain ⟨j,b⟩:=p
  rw [hgd] at hg
  simp only [decide_eq_true_eq] at hg
  have:((H ++ T).toArray)[j]? = (H.toArray)[j]?:=by simp [List.getElem?_append_left hg]
  simp [yielded,this]
def unlisted (k:Nat) (L:Array Bool):Nat:=((List.range k).filter fun i=>!L.getD i true).length
theorem unlisted_zero {k:Nat} {L:Array Bool} (h:unlisted k L = 0) (hs:k≤L.size):∀ i,i < k→L.getD i false = true:=by
 intro i hi
 have h0:(List.range k).filter (fun i=>!L.getD i true) = []:=List.length_eq_zero_iff.1 h
 have:=List.filter_eq_nil_iff.1 h0 i (List.mem_range.2 hi)
 simp only [Array.getD_eq_getD_getElem?] at this ⊢
 rw [Array.getElem?_eq_getElem (by omega)] at this ⊢
 simpa using this
theorem unlisted_set {k:Nat} {L:Array Bool} {i:Nat} (hi:i < k) (hs:k≤L.size) (hu:L.getD i true = false):unlisted k (L.setIfInBounds i true) + 1 = unlisted k L:=by
 have key:∀ (l:List Nat),l.Nodup→i∈l→(l.filter fun j=>!(L.setIfInBounds i true).getD j true).length + 1 = (l.filter fun j=>!L.getD j true).length:=by
  intro l
  induction l with
  | nil=>intro _ h;cases h
  | cons x r ih =>
   intro hn hm
   rw [List.nodup_cons] at hn
   by_cases hx:x = i
   ·subst hx
    have e1:(L.setIfInBounds x true).getD x true = true:=by
     simp only [Array.getD_eq_getD_getElem?]
     rw [Array.getElem?_setIfInBounds_self_of_lt (by omega)];rfl
    have e2:r.filter (fun j=>!(L.setIfInBounds x true).getD j true) = r.filter (fun j=>!L.getD j true):=by
     refine List.filter_congr fun j hj=>?_
     rw [getD_set_ne true (fun e=>hn.1 (by rw [e];exact hj))]
    rw [List.filter_cons,List.filter_cons,e1,hu,e2]
    simp
   ·have hm':i∈r:=by
     rcases List.mem_cons.1 hm with h | h
     ·exact absurd h.symm hx
     ·exact h
    have e1:(L.setIfInBounds i true).getD x true = L.getD x true:=getD_set_ne true (Ne.symm hx)
    have:=ih hn.2 hm'
    rw [List.filter_cons,List.filter_cons,e1]
    split
    ·simp only [List.length_cons];omega
    ·exact this
 exact key _ List.nodup_range (List.mem_range.2 hi)
section
variable {H T:List Oper}
theorem heads_run (hok:tailOk H T = true) (hd:∀ o∈H,noDefer o = true) (Q:Exit→Act→World→Prop):∀ (k:Nat) (LH L:Array Bool) (a:Act) (w:World),C w→unlisted H.length LH = k →
  LH.size = H.length→L.size = (H ++ T).length→(∀ i,i < H.length→L[i]? = LH[i]?)→(∀ i,H.length≤i→i < (H ++ T).length→L.getD i true = false) →
  wpAnyQIn F n P .any H.toArray C (fun a'=>∀ w',C w'→wpListIn F n P (H ++ T).toArray Q T a' w') k LH a →
  wpAnyIn F n P .any (H ++ T).toArray Q (k + T.length) L a w:=by
 intro k
 have sync:∀ {LH L:Array Bool} (d:Bool),(∀ i,i < H.length→L[i]? = LH[i]?)→∀ i,i < H.length→L.getD i d = LH.getD i d:=fun d h i hi=>by
  simp only [Array.getD_eq_getD_getElem?,h i hi]
 induction k with
 | zero =>
  intro LH L a w hC hu hs1 hs2 hsy htl h
  rw [Nat.zero_add]
  refine tail_runs hok Q T.length 0 L a w (by omega) (fun i hi=>?_) (fun i hi hi2=>htl i (by omega) hi2) hs2 ?_
  ·rw [sync false hsy i (by omega)];exact unlisted_zero hu (by omega) i (by omega)
  ·rw [List.drop_zero];exact h.2 w hC
 | succ k ih =>
  intro LH L a w hC hu hs1 hs2 hsy htl h
  -- some head is not listed: the least one is ready
  have hne:∃ i,i < H.length∧LH.getD i true = false:=by
   have hpos:0 < ((List.range H.length).filter fun i=>!LH.getD i true).length:=by have:=hu;unfold unlisted at this;omega
   obtain ⟨i,hi⟩:=List.exists_mem_of_length_pos hpos
   obtain ⟨h1,h2⟩:=List.mem_filter.1 hi
   exact ⟨i,List.mem_range.1 h1,by simpa using h2⟩
  obtain ⟨i0,⟨hi0,hu0⟩,hmin⟩:=exists_least (p:=fun i=>i < H.length∧LH.getD i true = false) hne
  have hready0:i0∈Region.ready .any (H ++ T).toArray L:=by
   have hop:((H ++ T).toArray)[i0]? = some H[i0]:=by simp [List.getElem?_append_left hi0,hi0]
   refine mem_ready.2 ⟨by rw [sync true hsy i0 hi0];exact hu0,_,hop,fun e he hb=>?_⟩
   have hlt:=ownEdges_spec (tailOk_head hok (j:=i0) (o:=H[i0]) (by simp [hi0])).1 e he hb
   rw [sync false hsy _ (by omega)]
   have hnot:¬ LH.getD e.on true = false:=fun hh=>by have:=hmin e.on ⟨by omega,hh⟩;omega
   simp only [Array.getD_eq_getD_getElem?] at hnot ⊢
   rw [Array.getElem?_eq_getElem (by omega)] at hnot ⊢
   simpa using hnot
  rw [show k + 1 + T.length = (k + T.length) + 1 by omega]
  refine ⟨fun e=>(by rw [e] at hready0;cases hready0),fun j hj=>?_⟩
  obtain ⟨hj1,o,ho,hall⟩:=mem_ready.1 hj
  have hjh:j < H.length:=by
   rcases Nat.lt_or_ge j H.length with hl | hge
   ·exact hl
   ·exfalso
    have ho':T[j - H.length]? = some o:=by
     rw [List.getElem?_toArray,List.getElem?_append_right hge] at ho;exact ho
    obtain ⟨e,he,hb,hon⟩:=waitsAll_spec (tailOk_tail hok ho').2 (i:=i0) (by omega)
    have:=hall e he hb
    rw [hon,sync false hsy _ hi0] at this
    simp only [Array.getD_eq_getD_getElem?] at this hu0
    rw [Array.getElem?_eq_getElem (by omega)] at this hu0
    simp at this hu0
    rw [this] at hu0;cases hu0
  have hoH:H[j]? = some o:=by rw [List.getElem?_toArray,List.getElem?_append_left hjh] at ho;exact ho
  have hjr:j∈Region.ready .any H.toArray LH:=by
   refine mem_ready.2 ⟨by rw [← sync true hsy j hjh];exact hj1,o,by simpa using hoH,fun e he hb=>?_⟩
   have hlt:=ownEdges_spec (tailOk_head hok hoH).1 e he hb
   rw [← sync false hsy _ (by omega)];exact hall e he hb
  have hq:=h.2 j hjr
  have hujt:LH.getD j true = false:=by rw [← sync true hsy j hjh];exact hj1
  have hnext:∀ a' w',C w'→wpAnyQIn F n P .any H.toArray C (fun a'=>∀ w',C w'→wpListIn F n P (H ++ T).toArray Q T a' w') k (LH.setIfInBounds j true) a' →
    wpAnyIn F n P .any (H ++ T).toArray Q (k + T.length) (L.setIfInBounds j true) a' w':=fun a' w' hC' h'=>by
   refine ih _ _ a' w' hC' (by have:=unlisted_set hjh (by omega) hujt;omega) (by simpa using hs1) (by simpa using hs2) (fun i hi=>?_) (fun i hi hi2=>?_) h'
   ·by_cases e:j = i
    ·subst e
     rw [Array.getElem?_setIfInBounds_self_of_lt (by rw [hs2];simp;omega),Array.getElem?_setIfInBounds_self_of_lt (by omega)]
    ·rw [Array.getElem?_setIfInBounds_ne e,Array.getElem?_setIfInBounds_ne e];exact hsy i hi
   ·rw [getD_set_ne true (by omega)];exact htl i hi hi2
  have hq':qOpIn F n P (H ++ T).toArray C j (wpAnyQIn F n P .any H.toArray C (fun a'=>∀ w',C w'→wpListIn F n P (H ++ T).toArray Q T a' w') k (LH.setIfInBounds j true)) a:=by
   unfold qOpIn at hq ⊢
   rw [List.getElem?_toArray,hoH] at hq
   rw [ho]
   dsimp only at hq ⊢
   rw [wanted_head (tailOk_head hok hoH).2]
   exact hq
  unfold qOpIn at hq'
  unfold wpOpIn
  rw [ho] at hq' ⊢
  dsimp only at hq' ⊢
  by_cases hw:Region.wanted o (yielded (H ++ T).toArray a.tmps) = true
  ·rw [if_pos hw] at hq' ⊢
   exact quiet_runs (hd o (List.mem_of_getElem? hoH)) hC (fun a' w' hC' h'=>hnext a' w' hC' h') hq'.2 hq'.1
  ·rw [if_neg hw] at hq' ⊢
   exact ⟨hq'.1 w hC,hnext _ _ hC hq'.2⟩
theorem wpIn_head_tail {id:Nat} {Q:Exit→Act→World→Prop} {a:Act} {w:World} {ops:List Oper} (k:Nat) (hm:P.follows .mixedOrders = true)
  (hB:Region.lexB .any (ops.take k).toArray = true) (hd:(ops.take k).all noDefer = true) (hok:tailOk (ops.take k) (ops.drop k) = true)
  (h:wpQuietIn F n P (ops.take k).toArray (fun w'=>∃ m,w' = w.drewN m) (fun a'=>∀ w',(∃ m,w' = w.drewN m)→wpListIn F n P ops.toArray Q (ops.drop k) a' w') (ops.take k) a) :
  (Code.region id ops.toArray true).wpIn F n P Q a w:=by
 simp only [Region.lexB,Bool.and_eq_true] at hB
 have e:ops.take k ++ ops.drop k = ops:=List.take_append_drop k ops
 refine wpIn_region_any hm ?_
 have hq:=wpAnyQIn_lex (F:=F) (n:=n) (C:=fun w'=>∃ m,w' = w.drewN m) (md:=.any) hB.1 (ops.take k) 0 (Array.replicate (ops.take k).toArray.size false) a (by simp) (by simpa using hB.2) h
 have hrun:=heads_run (F:=F) (n:=n) (P:=P) (C:=fun w'=>∃ m,w' = w.drewN m) (H:=ops.take k) (T:=ops.drop k) hok (fun o ho=>List.all_eq_true.1 hd o ho) Q (ops.take k).length
  (Array.replicate (ops.take k).length false) (Array.replicate ops.length false) a { w with drawn:=w.drawn + 1 } ⟨1,rfl⟩ ?_ (by simp) (by simp) ?_ ?_ ?_
 ·have e2:(ops.take k).length + (ops.drop k).length = ops.length:=by rw [← List.length_append,e]
  rw [e,e2] at hrun
  simpa using hrun
 ·unfold unlisted
  rw [List.filter_eq_self.2 (fun i hi=>?_),List.length_range]
  have:=List.mem_range.1 hi
  simp only [Array.getD_eq_getD_getElem?]
  rw [Array.getElem?_replicate,if_pos this];rfl
 ·intro i hi
  have:i < ops.length:=by rw [List.length_take] at hi;omega
  rw [Array.getElem?_replicate,Array.getElem?_replicate,if_pos hi,if_pos this]
 ·intro i hi hi2
  rw [e] at hi2
  simp only [Array.getD_eq_getD_getElem?]
  rw [Array.getElem?_replicate,if_pos hi2];rfl
 ·rw [e];simpa using hq
end
end
end
section
variable {F:Fence} {n:Nat} {P:Program} {C:World→Prop}
theorem value_of_bind {s:Sem Value} {w w':World} {x:Next} (h:(do pure (.value (← s)):Sem Next).run P w = .ok x w'):∃ u,x = .value u:=by
 simp only [Sem.run_bind] at h
 cases hs:s.run P w with
 | ok u w1=>rw [hs] at h;simp [Result.andThen,Sem.run_pure] at h;exact ⟨u,h.1.symm⟩
 | halt e w1=>rw [hs] at h;simp [Result.andThen] at h
def readsNot (H:List Oper) (o:Oper):Bool:=(List.range H.length).all fun i=>match H[i]? with
 | none=>true
 | some h=>o.after.any (fun e=>Region.binds .any e && e.on == i) || (match h.dst with | none=>true | some d=>!(o.op.operands.toList.filterMap fun | .tmp t=>some t | _=>none).contains d)
section
variable {x:Oper} {H T:List Oper}
def noSel (o:Oper):Bool:=match o.op with | .select _ _=>false | _=>true
structure Lacks (H:List Oper) (S:Nat→Prop) (a b:Act):Prop where
 defers:a.defers = b.defers
 size:a.tmps.size = b.tmps.size
 same:∀ s:Nat,(∀ i o,S i→H[i]? = some o→o.dst≠some s)→a.tmps[s]? = b.tmps[s]?
theorem Lacks.eval {S:Nat→Prop} {a b:Act} {o:Oper} (h:Lacks H S a b) (ho:∀ i h',S i→H[i]? = some h'→∀ d,h'.dst = some d→(o.op.operands.toList.filterMap fun | .tmp t=>some t | _=>none).contains d = false) :
  ∀ x∈o.op.operands,a.eval x = b.eval x:=by
 intro x hx
 cases x with
 | tmp t =>
  have:=h.same t fun i h' hi hh hd=>by
   have:=ho i h' hi hh t hd
   rw [List.contains_eq_mem] at this
   simp only [decide_eq_false_iff_not] at this
   exact this (List.mem_filterMap.2 ⟨.tmp t,by simpa using hx,rfl⟩)
  simp only [Act.eval,Array.getD_eq_getD_getElem?,this]
 | const v=>rfl
 | global g=>rfl
 | func f=>rfl
theorem put_get (a:Act) (d:Tmp) (v:Value) (s:Nat):(a.put (some d) v).tmps[s]? = if d = s∧d < a.tmps.size then some v else a.tmps[s]?:=by
 simp only [Act.put]
 rw [Array.getElem?_setIfInBounds]
 by_cases h1:d = s
 ·subst h1
  by_cases h2:d < a.tmps.size
  ·simp [h2]
  ·simp only [h2,if_true,if_false,and_false]
   rw [Array.getElem?_eq_none (Nat.le_of_not_lt h2)]
 ·simp [h1]
theorem put_size (a:Act) (d:Option Tmp) (v:Value):(a.put d v).tmps.size = a.tmps.size:=by cases d <;> simp [Act.put]
theorem put_defers (a:Act) (d:Option Tmp) (v:Value):(a.put d v).defers = a.defers:=by cases d <;> rfl
theorem sel_of {o:Oper} (h:noSel o = true):∀ cs b,o.op≠.select cs b:=fun cs b e=>by simp [noSel,e] at h
theorem quietAt_of {o:Oper} {a b:Act} (hs:∀ cs b,o.op≠.select cs b) (h:∀ x∈o.op.operands,a.eval x = b.eval x):execOp a.eval o = execOp b.eval o∧∀ w,o.about P w a.eval = o.about P w b.eval :=
 ⟨execOp_congr o hs h,fun w=>about_congr o w h⟩
theorem operands_far {o:Oper} {a:Act} {d:Option Tmp} {v:Value} (h:∀ e,d = some e→(o.op.operands.toList.filterMap fun | .tmp t=>some t | _=>none).contains e = false):∀ x∈o.op.operands,(a.put d v).eval x = a.eval x:=fun x hx=>Act.eval_put fun e he hxe=>by
 subst hxe
 have:=h e he
 rw [List.contains_eq_mem] at this
 simp only [decide_eq_false_iff_not] at this
 exact this (List.mem_filterMap.2 ⟨.tmp e,by simpa using hx,rfl⟩)
theorem put_put_same (a:Act) (d:Option Tmp) (v:Value):(a.put d v).put d v = a.put d v:=by
 cases d with
 | none=>rfl
 | some d=>simp [Act.put]
structure LaterD (w:World) where
 W:World
 h:Below w.heap.size w W
instance (w:World):Nonempty (LaterD w):=⟨⟨w,Below.refl _ _⟩⟩
structure SameAt (w:World) (S:Nat→Prop) where
 W:World
 h:∀ k,S k→W.heap[k]? = w.heap[k]?
instance (w:World) (S:Nat→Prop):Nonempty (SameAt w S):=⟨⟨w,fun _ _=>rfl⟩⟩
theorem SameAt.cell {w:World} {S:Nat→Prop} (x:SameAt w S) {b o:Nat} (hb:S b) {v:Value} (h:w.cell? ⟨b,o,none⟩ = some v):x.W.cell? ⟨b,o,none⟩ = some v:=by
 simpa only [World.cell?,x.h b hb] using h
def IsSame (w:World) (S:Nat→Prop) (W:World):Prop:=∃ x:SameAt w S,W = x.W
theorem isSame_of {w W:World} {S:Nat→Prop} (h:∀ k,S k→W.heap[k]? = w.heap[k]?):IsSame w S W:=⟨⟨W,h⟩,rfl⟩
theorem isSame_below {w W:World} {S:Nat→Prop} {n:Nat} (h:Below n w W) (hS:∀ k,S k→k < n):IsSame w S W:=isSame_of fun k hk=>h.block k (hS k hk)
theorem wpIn_move {o:Oper} {a b:Act} {w:World} {K K':Act→World→Prop} {Q Q':Exit→Act→World→Prop} (hd:noDefer o = true) (he:execOp a.eval o = execOp b.eval o) (ha:o.about P w a.eval = o.about P w b.eval)
  (hK:∀ v w',K (b.put o.dst v) w'→K' (a.put o.dst v) w') (hKd:∀ d w',K ({ b with defers:=d :: b.defers }.put o.dst undef) w'→K' ({ a with defers:=d :: a.defers }.put o.dst undef) w') (hQ:∀ e a w,Q e a w→e = .normal) (h:o.wpIn F n P b w K Q):o.wpIn F n P a w K' Q':=by
 unfold Oper.wpIn at *
 rw [Oper.semAt_eq _ _ _ (noDefer_spec hd)] at *
 rw [ha,he]
 refine ⟨h.1,?_⟩
 have h:=h.2
 have nope:∀ {X:Prop} {e:Exit} {a:Act} {w:World},e≠.normal→Q e a w→X:=fun hne hq=>absurd (hQ _ _ _ hq) hne
 have hout:∀ {X:Prop},LetsOut Q→X:=fun ⟨a,w,hq⟩=>nope (by simp) hq
 generalize (execOp b.eval o).run P w = r at *
 cases r with
 | ok x w' =>
  cases x <;> simp only [Oper.uponIn] at h ⊢ <;>
   first
    | exact hK _ _ h
    | exact ⟨h.1,CallsIn.mono h.2 (fun e w'' he=>by cases e <;> first | exact hK _ _ he | exact nope (by simp) he | exact hout he)⟩
    | exact ⟨h.1,RowsIn.mono h.2 (fun _ _ he=>hK _ _ he)⟩
    | exact ⟨h.1,RoundIn.mono h.2 (fun e w'' he=>by cases e <;> first | exact hK _ _ he | exact nope (by simp) he | exact hout he)⟩
    | exact hKd _ _ h
 | halt x w'=>cases x <;> simp only [Oper.uponIn] at h ⊢ <;> first | exact nope (by simp) h | exact h
end
end
end Go.Proofs.YtigapglmipmbeaaGreatDoor
namespace Go.Proofs.YtigapglmipmbeaaGreatDoor
open Go.RowKit
section
variable {F:Fence} {n:Nat} {P:Program} {C:World→Prop}
def pureRead (o:Oper):Bool:=o.guard.isNone && match o.op with
 | .move _=>true | .assign _=>true | .pick _ _ _=>true | .load _ _=>true | .binOp _ _ _ _ _=>true | .unOp _ _ _=>true | .indexAddr _ _ _=>true | .fieldAddr _ _ _=>true | .field _ _ _=>true
 | .index _ _ _=>true | .extract _ _=>true | .slice _ _ _ _ _=>true | .build _ _=>true | .nilCheck _=>true | _=>false
theorem pureRead_noDefer {o:Oper} (h:pureRead o = true):noDefer o = true:=by
 simp only [pureRead,Bool.and_eq_true] at h
 obtain ⟨_,h⟩:=h
 unfold noDefer
 split <;> simp_all
theorem panic_run {w w':World} {x:Next} (h:(runtimePanic .nilDeref:Sem Next).run P w = .ok x w'):False:=by
 unfold runtimePanic at h
 simp [goPanic,go_sem] at h
theorem bind_value {α:Type} {s:Sem α} {f:α→Sem Next} {w w':World} {x:Next} (hf:∀ a w1,(f a).run P w1 = .ok x w'→∃ u,x = .value u) (h:(s >>= f).run P w = .ok x w'):∃ u,x = .value u:=by
 simp only [Sem.run_bind] at h
 cases hs:s.run P w with
 | ok a w1=>rw [hs] at h;exact hf a w1 h
 | halt e w1=>rw [hs] at h;simp [Result.andThen] at h
theorem pure_value {v:Value} {w w':World} {x:Next} (h:(Pure.pure (Next.value v):Sem Next).run P w = .ok x w'):∃ u,x = .value u:=by
 simp [Sem.run_pure] at h;exact ⟨_,h.1.symm⟩
theorem pureRead_value {o : Oper} (h : pureRead o = true) {ρ : Operand → Value} {w w' : World} {x : Next} (hr : (execOp ρ o).run P w = .ok x w') : ∃ u, x = .value u := by
  simp only [pureRead, Bool.and_eq_true] at h
  obtain ⟨_, h⟩ := h
  unfold execOp at hr
  split at h
  · rename_i e; rw [e] at hr; simp [Sem.run_pure] at hr; exact ⟨_, hr.1.symm⟩
  · rename_i e; rw [e] at hr; simp [Sem.run_pure] at hr; exact ⟨_, hr.1.symm⟩
  · rename_i e; rw [e] at hr
    simp only [Sem.run_bind] at hr
    revert hr
    cases (asBool _).run P w with
    | ok u w1 => intro hr; simp [Result.andThen, Sem.run_pure] at hr; exact ⟨_, hr.1.symm⟩
    | halt e w1 => intro hr; simp [Result.andThen] at hr
  · rename_i e; rw [e] at hr; exact value_of_bind hr
  · rename_i e; rw [e] at hr; exact value_of_bind hr
  · rename_i e; rw [e] at hr; exact value_of_bind hr
  · rename_i e; rw [e] at hr; exact value_of_bind hr
  · rename_i e; rw [e] at hr; exact value_of_bind hr
  · rename_i e; rw [e] at hr; exact value_of_bind hr
  · rename_i e; rw [e] at hr; exact value_of_bind hr
  · rename_i e; rw [e] at hr; exact value_of_bind hr
  · rename_i e; rw [e] at hr; exact value_of_bind hr
  · rename_i e; rw [e] at hr; exact value_of_bind hr
  · rename_i e
    rw [e] at hr
    dsimp only at hr
    split at hr
    · exact (panic_run hr).elim
    · exact (panic_run hr).elim
    · exact (panic_run hr).elim
    · split at hr
      · exact (panic_run hr).elim
      · refine bind_value (fun a w1 h1 => ?_) hr
        refine bind_value (fun b w2 h2 => ?_) h1
        first
          | exact pure_value h2
          | (split at h2
             · first | exact pure_value h2 | exact bind_value (fun _ _ h3 => pure_value h3) h2
             · first | exact pure_value h2 | exact bind_value (fun _ _ h3 => pure_value h3) h2)
      · simp [Sem.run_pure] at hr; exact ⟨_, hr.1.symm⟩
    · simp [Sem.run_pure] at hr; exact ⟨_, hr.1.symm⟩
  · cases h
theorem pure_runs {o:Oper} {a:Act} {K':Act→World→Prop} {Q:Exit→Act→World→Prop} {w:World} {v:Value} (hp:pureRead o = true) (hrun:o.quietAtIn F n P a C w v) (hK:K' (a.put o.dst v) w)
  (ha:∀ f,o.about P w a.eval = some f→F.fn f):o.wpIn F n P a w K' Q:=by
 rw [Oper.quietAtIn] at hrun
 rw [Oper.wpIn,Oper.semAt_eq _ _ _ (noDefer_spec (pureRead_noDefer hp))]
 refine ⟨ha,?_⟩
 have hval:=fun x w'=>pureRead_value (P:=P) (ρ:=a.eval) (w:=w) (w':=w') (x:=x) hp
 revert hrun hval
 cases (execOp a.eval o).run P w with
 | halt x w'=>exact fun h _=>h.elim
 | ok x w' =>
  intro hrun hval
  obtain ⟨u,rfl⟩:=hval x w' rfl
  obtain ⟨rfl,rfl⟩:=hrun
  exact hK
def farOf (o:Oper) (d:Option Tmp):Bool:=match d with
 | none=>true
 | some d=>!(o.op.operands.toList.filterMap fun | .tmp t=>some t | _=>none).contains d
theorem farOf_spec {o:Oper} {d:Option Tmp} (h:farOf o d = true):∀ e,d = some e→(o.op.operands.toList.filterMap fun | .tmp t=>some t | _=>none).contains e = false:=by
 rintro e rfl
 simpa [farOf] using h
def waitsOn (o:Oper) (i:Nat):Bool:=o.after.any fun e=>Region.binds .any e && e.on == i
theorem waitsOn_spec {o:Oper} {i:Nat} (h:waitsOn o i = true):∃ e∈o.after,Region.binds .any e = true∧e.on = i:=by
 obtain ⟨e,he,h2⟩:=Array.any_eq_true'.1 h
 simp only [Bool.and_eq_true,beq_iff_eq] at h2
 exact ⟨e,he,h2⟩
def pickOps (ops:List Oper) (hs:List Nat):List Oper:=hs.filterMap fun i=>ops[i]?
theorem pick_nil (ops:List Oper):pickOps ops [] = []:=rfl
theorem pick_cons (ops:List Oper) (i:Nat) (hs:List Nat):pickOps ops (i :: hs) = (ops[i]?).elim (pickOps ops hs) (fun o=>o :: pickOps ops hs):=by
 unfold pickOps
 rw [List.filterMap_cons]
 cases ops[i]? <;> rfl
structure Lack (ops:List Oper) (S:Nat→Prop) (a b:Act):Prop where
 defers:a.defers = b.defers
 size:a.tmps.size = b.tmps.size
 same:∀ s:Nat,(∀ i o,S i→ops[i]? = some o→o.dst≠some s)→a.tmps[s]? = b.tmps[s]?
section
variable {ops:List Oper} {hs:List Nat}
theorem Lack.full {S:Nat→Prop} {a b:Act} (h:Lack ops S a b) (hS:∀ i,i < ops.length→¬ S i):a = b:=by
 have ht:a.tmps = b.tmps:=Array.ext_getElem? fun s=>h.same s fun i o hi ho _=>hS i (List.getElem?_eq_some_iff.1 ho).1 hi
 obtain ⟨t,d⟩:=a
 obtain ⟨t',d'⟩:=b
 cases ht
 cases h.defers
 rfl
theorem Lack.eval {S:Nat→Prop} {a b:Act} {o:Oper} (h:Lack ops S a b) (ho:∀ i h',S i→ops[i]? = some h'→∀ d,h'.dst = some d→(o.op.operands.toList.filterMap fun | .tmp t=>some t | _=>none).contains d = false) :
  ∀ x∈o.op.operands,a.eval x = b.eval x:=by
 intro x hx
 cases x with
 | tmp t =>
  have:=h.same t fun i h' hi hh hd=>by
   have:=ho i h' hi hh t hd
   rw [List.contains_eq_mem] at this
   simp only [decide_eq_false_iff_not] at this
   exact this (List.mem_filterMap.2 ⟨.tmp t,by simpa using hx,rfl⟩)
  simp only [Act.eval,Array.getD_eq_getD_getElem?,this]
 | const v=>rfl
 | global g=>rfl
 | func f=>rfl
theorem Lack.head {S S':Nat→Prop} {a b:Act} {i:Nat} {o:Oper} {v:Value} (h:Lack ops S a b) (hi:ops[i]? = some o) (hb:b.put o.dst v = b) (hS:∀ j,S j→j = i ∨ S' j):Lack ops S' (a.put o.dst v) b:=by
 refine ⟨(put_defers _ _ _).trans h.defers,(put_size _ _ _).trans h.size,fun s hs=>?_⟩
 cases hd:o.dst with
 | none =>
  refine h.same s fun j o' hj ho' e=>?_
  rcases hS j hj with rfl | hj'
  ·rw [hi] at ho';cases ho';rw [hd] at e;cases e
  ·exact hs j o' hj' ho' e
 | some d =>
  rw [put_get]
  rw [hd] at hb
  by_cases hds:d = s
  ·subst hds
   by_cases hlt:d < a.tmps.size
   ·have:(b.put (some d) v).tmps[d]? = some v:=by rw [put_get,if_pos ⟨rfl,by rw [← h.size];exact hlt⟩]
    rw [if_pos ⟨rfl,hlt⟩,← this,hb]
   ·rw [if_neg (fun h=>hlt h.2),Array.getElem?_eq_none (Nat.le_of_not_lt hlt),Array.getElem?_eq_none (by rw [← h.size];exact Nat.le_of_not_lt hlt)]
  ·rw [if_neg (fun h=>hds h.1)]
   refine h.same s fun j o' hj ho' e=>?_
   rcases hS j hj with rfl | hj'
   ·rw [hi] at ho';cases ho';rw [hd] at e;cases e;exact hds rfl
   ·exact hs j o' hj' ho' e
theorem Lack.tail {S:Nat→Prop} {a b:Act} (h:Lack ops S a b) (d:Option Tmp) (v:Value):Lack ops S (a.put d v) (b.put d v):=by
 refine ⟨by rw [put_defers,put_defers];exact h.defers,by rw [put_size,put_size];exact h.size,fun s hs=>?_⟩
 cases d with
 | none=>exact h.same s hs
 | some d=>rw [put_get,put_get,h.size,h.same s hs]
theorem Lack.mono {S S':Nat→Prop} {a b:Act} (h:Lack ops S a b) (hS:∀ i,i < ops.length→S i→S' i):Lack ops S' a b :=
 ⟨h.defers,h.size,fun s hs=>h.same s fun i o hi ho=>hs i o (hS i (List.getElem?_eq_some_iff.1 ho).1 hi) ho⟩
theorem Lack.defer {S:Nat→Prop} {a b:Act} (h:Lack ops S a b) (d:Deferred):Lack ops S { a with defers:=d :: a.defers } { b with defers:=d :: b.defers } :=
 ⟨by simp only [h.defers],h.size,h.same⟩
theorem listed_of {k:Nat} {L:Array Bool} (hs:k≤L.size) {i:Nat} (hi:i < k) (h:L.getD i true = true ∨ L.getD i false = true):L[i]? = some true:=by
 rw [Array.getElem?_eq_getElem (by omega)]
 simp only [Array.getD_eq_getD_getElem?] at h
 rw [Array.getElem?_eq_getElem (by omega)] at h
 simpa using h
theorem getD_of {L:Array Bool} {i:Nat} {b d:Bool} (h:L[i]? = some b):L.getD i d = b:=by simp [Array.getD_eq_getD_getElem?,h]
end
end
end Go.Proofs.YtigapglmipmbeaaGreatDoor
