/- Distributions in plain rationals: Push, Product, moments, and what Make collects. No program in sight. Common denominators: how long sums of many numbers are. No program in sight. Losses and moments of distributions in plain rationals: groups, late outcomes, the conversion of moments. No program in sight. What the functions of chapter 8 compute on texts, as rationals. No program in sight. dist: Check, checked. Masses in a slice of the call's own. Owned slices beside each other: what an append to one leaves of the other. Inserting at a place: what the reference's collect does. No program in sight. What Make, Mix, Push and Product give, as rationals. No program in sight. Distributions with a common denominator of few digits: Make, Mix, Push and Product keep them. No program in sight. Lists of masses in memory: literal blocks, lists of lists; how large lists are. What a law makes of its lists. No program in sight. law 08: light (printed by mkdlight.py). The map that Make fills, and the list that it stands for. The library's contracts of maps.Keys, slices.Sorted and slices.Sort laid at this program, by the kit's tool lay-plain. slices.Sorted(maps.Keys(m)) at this program, as plain calls. -/
import Derived.Test.YtigapglmipmbeaaGreatDoorRb10
import Derived.Maps.AppendAt
import Derived.ProofKit
import Derived.Maps.OwnSet
import Derived.Maps.StringElems
import Derived.Sort.KeysCollected
import Derived.Shelf.SlIter.Nil
import Derived.Shelf.SortM.Plain
import Derived.Shelf.SortM.SortNone
import Derived.Ground.GgzProg
import Derived.Ground.SlgmProg
import Derived.Test.YtigapglmipmbeaaGreatDoorProg
set_option maxRecDepth 100000
set_option maxHeartbeats 16000000
namespace Go.Proofs.YtigapglmipmbeaaGreatDoor
open Lim
theorem sumBy_swap {α β:Type} (F:α→β→Rat) (K:List α):∀ J:List β,sumBy (fun j=>sumBy (fun k=>F k j) K) J=sumBy (fun k=>sumBy (fun j=>F k j) J) K
 | []=>(sumBy_zero fun _ _=>rfl).symm
 | b::J=>by
  show sumBy (fun k=>F k b) K+sumBy (fun j=>sumBy (fun k=>F k j) K) J=sumBy (fun k=>F k b+sumBy (fun j=>F k j) J) K
  rw [sumBy_swap F K J,sumBy_add]
theorem pos_sum {α:Type} (f:α→Rat):∀ l:List α,pos (sumBy f l)≤sumBy (fun a=>pos (f a)) l
 | []=>by rw [show sumBy f ([]:List α)=0 from rfl,pos_of Rat.le_refl];exact Rat.le_refl
 | a::l=>Rat.le_trans (pos_add (f a) (sumBy f l)) (by
  show pos (f a)+pos (sumBy f l)≤pos (f a)+sumBy (fun a=>pos (f a)) l
  have:=pos_sum f l
  grind)
theorem sumBy_flat {α β:Type} (f:β→Rat) (h:α→List β):∀ l:List α,sumBy f (l.flatMap h)=sumBy (fun a=>sumBy f (h a)) l
 | []=>rfl
 | a::l=>by
  rw [List.flatMap_cons,sumBy_append,sumBy_flat f h l]
  rfl
def pushD (g:ByteArray→ByteArray) (p:DL):DL:=p.map fun e=>(g e.1,e.2)
theorem mass_push {p:DL} (g:ByteArray→ByteArray) {K:List ByteArray} (hK:K.Nodup) (hs:∀ k∈keysD p,k∈K) (j:ByteArray) :
  massD (pushD g p) j=sumBy (fun k=>(if g k=j then 1 else 0)*massD p k) K:=by
 rw [sum_mass hK (fun k=>if g k=j then 1 else 0) hs]
 unfold massD pushD
 rw [sumBy_map]
 refine sumBy_congr fun e _=>?_
 dsimp only
 split
 ·rw [Rat.one_mul]
 ·rw [Rat.zero_mul]
theorem delta_push {p q x y:DL} (hp:IsD p) (hq:IsD q) (hx:IsD x) (hy:IsD y) (g:ByteArray→ByteArray) {f:Rat} (hf:0≤f)
  (ex:∀ j,massD x j=massD (pushD g p) j) (ey:∀ j,massD y j=massD (pushD g q) j):deltaD x y f≤deltaD p q f:=by
 obtain ⟨K,hK,m⟩:=once_list (keysD p++keysD q)
 obtain ⟨J,hJ,m2⟩:=once_list (keysD x++K.map g)
 rw [delta_over hx hy hf hJ (fun k hk=>(m2 k).2 (by simp [hk])),delta_over hp hq hf hK (fun k hk=>(m k).2 (by simp [hk]))]
 have e1:∀ j,massD x j - f*massD y j=sumBy (fun k=>(if g k=j then 1 else 0)*(massD p k - f*massD q k)) K:=by
  intro j
  rw [ex,ey,mass_push g hK (fun k hk=>(m k).2 (by simp [hk])),mass_push g hK (fun k hk=>(m k).2 (by simp [hk])),Rat.sub_eq_add_neg,← Rat.neg_mul,← sumBy_mul,← sumBy_add]
  exact sumBy_congr fun k _=>by grind
 have e2:sumBy (fun j=>pos (massD x j - f*massD y j)) J≤sumBy (fun j=>sumBy (fun k=>(if g k=j then 1 else 0)*pos (massD p k - f*massD q k)) K) J:=by
  refine sumBy_le fun j _=>?_
  rw [e1]
  refine Rat.le_trans (pos_sum _ _) (sumBy_le fun k _=>?_)
  split
  ·rw [Rat.one_mul,Rat.one_mul];exact Rat.le_refl
  ·rw [Rat.zero_mul,Rat.zero_mul,pos_of Rat.le_refl];exact Rat.le_refl
 refine Rat.le_trans e2 ?_
 rw [sumBy_swap]
 refine sumBy_le fun k hk=>?_
 have e3:sumBy (fun j=>(if g k=j then 1 else 0)*pos (massD p k - f*massD q k)) J=sumBy (fun j=>pos (massD p k - f*massD q k)*(if g k=j then 1 else 0)) J :=
  sumBy_congr fun j _=>Rat.mul_comm _ _
 rw [e3,sum_key hJ ((m2 (g k)).2 (by simp only [List.mem_append,List.mem_map];exact .inr ⟨k,hk,rfl⟩)) (fun _=>pos (massD p k - f*massD q k)) 1,Rat.mul_one]
 exact Rat.le_refl
def pairsD (jn:ByteArray→ByteArray→ByteArray) (p q:DL):DL:=p.flatMap fun e=>q.map fun e'=>(jn e.1 e'.1,e'.2*e.2)
theorem sum_pairs (jn:ByteArray→ByteArray→ByteArray) (p q:DL):sumBy (fun e=>e.2) (pairsD jn p q)=sumBy (fun e=>e.2) p*sumBy (fun e=>e.2) q:=by
 unfold pairsD
 rw [sumBy_flat,Rat.mul_comm,← sumBy_mul]
 refine sumBy_congr fun e _=>?_
 rw [sumBy_map,Rat.mul_comm,← sumBy_mul]
 exact sumBy_congr fun e' _=>Rat.mul_comm _ _
theorem keys_pairs {jn:ByteArray→ByteArray→ByteArray} {p q:DL} {k:ByteArray}:k∈keysD (pairsD jn p q)↔∃ a∈keysD p,∃ b∈keysD q,k=jn a b:=by
 unfold keysD pairsD
 simp only [List.mem_map,List.mem_flatMap]
 constructor
 ·rintro ⟨e,⟨x,hx,y,hy,rfl⟩,rfl⟩
  exact ⟨x.1,⟨x,hx,rfl⟩,y.1,⟨y,hy,rfl⟩,rfl⟩
 ·rintro ⟨a,⟨x,hx,rfl⟩,b,⟨y,hy,rfl⟩,rfl⟩
  exact ⟨_,⟨x,hx,y,hy,rfl⟩,rfl⟩
def joinK (jn:ByteArray→ByteArray→ByteArray) (A B:List ByteArray):List ByteArray:=A.flatMap fun a=>B.map (jn a)
theorem joinK_mem {jn:ByteArray→ByteArray→ByteArray} {A B:List ByteArray} {k:ByteArray}:k∈joinK jn A B↔∃ a∈A,∃ b∈B,k=jn a b:=by
 unfold joinK
 simp only [List.mem_map,List.mem_flatMap]
 constructor
 ·rintro ⟨a,ha,b,hb,rfl⟩
  exact ⟨a,ha,b,hb,rfl⟩
 ·rintro ⟨a,ha,b,hb,rfl⟩
  exact ⟨a,ha,b,hb,rfl⟩
theorem pos_prod {x y u v f g:Rat} (hx:0≤x) (hy:0≤y) (hu:0≤u) (hv:0≤v) (hf:0≤f) (hg:0≤g) :
  pos (x*y - f*g*(u*v))≤pos (x - f*u)*y+x*pos (y - g*v):=by
 have hfu:=Rat.mul_nonneg hf hu
 have hgv:=Rat.mul_nonneg hg hv
 refine pos_le ?_ ?_
 ·by_cases h:x≤f*u
  ·have h1:x*(g*v)≤f*u*(g*v):=Rat.mul_le_mul_of_nonneg_right h hgv
   have h2:x*(y - g*v)≤x*pos (y - g*v):=Rat.mul_le_mul_of_nonneg_left (le_pos _) hx
   have h3:=Rat.mul_nonneg (pos_nonneg (x - f*u)) hy
   grind
  ·have e:pos (x - f*u)=x - f*u:=by unfold pos;rw [if_pos (by grind)]
   rw [e]
   have h1:f*u*(y - g*v)≤f*u*pos (y - g*v):=Rat.mul_le_mul_of_nonneg_left (le_pos _) hfu
   have h2:f*u*pos (y - g*v)≤x*pos (y - g*v):=Rat.mul_le_mul_of_nonneg_right (by grind) (pos_nonneg _)
   grind
 ·have h1:=Rat.mul_nonneg (pos_nonneg (x - f*u)) hy
  have h2:=Rat.mul_nonneg hx (pos_nonneg (y - g*v))
  grind
theorem mass_pairs2 {jn:ByteArray→ByteArray→ByteArray} {A B:List ByteArray} (hA:A.Nodup) (hB:B.Nodup) {p q:DL} (hp:∀ k∈keysD p,k∈A) (hq:∀ k∈keysD q,k∈B) (j:ByteArray) :
  massD (pairsD jn p q) j=sumBy (fun a=>sumBy (fun b=>(if jn a b=j then 1 else 0)*(massD p a*massD q b)) B) A:=by
 have e1:∀ a,sumBy (fun b=>(if jn a b=j then 1 else 0)*(massD p a*massD q b)) B=sumBy (fun e'=>(if jn a e'.1=j then 1 else 0)*e'.2) q*massD p a:=by
  intro a
  rw [← sum_mass hB (fun b=>if jn a b=j then 1 else 0) hq,Rat.mul_comm,← sumBy_mul]
  exact sumBy_congr fun b _=>by grind
 have e2:massD (pairsD jn p q) j=sumBy (fun e=>sumBy (fun x:ByteArray × Rat=>if x.1=j then x.2 else 0) (q.map fun e'=>(jn e.1 e'.1,e'.2*e.2))) p:=sumBy_flat _ _ _
 rw [e2,sumBy_congr fun a _=>e1 a,sum_mass hA (fun a=>sumBy (fun e'=>(if jn a e'.1=j then 1 else 0)*e'.2) q) hp]
 refine sumBy_congr fun e _=>?_
 rw [sumBy_map,Rat.mul_comm,← sumBy_mul]
 refine sumBy_congr fun e' _=>?_
 dsimp only
 split
 ·rw [Rat.one_mul,Rat.mul_comm]
 ·rw [Rat.zero_mul,Rat.mul_zero]
theorem pos_ind {c x:Rat} (h:c=1∨c=0):pos (c*x)=c*pos x:=by
 rcases h with rfl|rfl
 ·rw [Rat.one_mul,Rat.one_mul]
 ·rw [Rat.zero_mul,Rat.zero_mul,pos_of Rat.le_refl]
theorem delta_prod {jn:ByteArray→ByteArray→ByteArray} {p q r s x y:DL} (hp:IsD p) (hq:IsD q) (hr:IsD r) (hs:IsD s) (hx:IsD x) (hy:IsD y)
  (ex:∀ j,massD x j=massD (pairsD jn p r) j) (ey:∀ j,massD y j=massD (pairsD jn q s) j) {f g:Rat} (hf:0≤f) (hg:0≤g) :
  deltaD x y (f*g)≤deltaD p q f+deltaD r s g:=by
 obtain ⟨A,hA,mA⟩:=once_list (keysD p++keysD q)
 obtain ⟨B,hB,mB⟩:=once_list (keysD r++keysD s)
 have kp:∀ k∈keysD p,k∈A:=fun k hk=>(mA k).2 (by simp [hk])
 have kq:∀ k∈keysD q,k∈A:=fun k hk=>(mA k).2 (by simp [hk])
 have kr:∀ k∈keysD r,k∈B:=fun k hk=>(mB k).2 (by simp [hk])
 have ks:∀ k∈keysD s,k∈B:=fun k hk=>(mB k).2 (by simp [hk])
 obtain ⟨J,hJ,mJ⟩:=once_list (keysD x++joinK jn A B)
 rw [delta_over hx hy (Rat.mul_nonneg hf hg) hJ (fun k hk=>(mJ k).2 (by simp [hk])),delta_over hp hq hf hA kp,delta_over hr hs hg hB kr]
 have e1:∀ j,massD x j - f*g*massD y j=sumBy (fun a=>sumBy (fun b=>(if jn a b=j then 1 else 0)*(massD p a*massD r b - f*g*(massD q a*massD s b))) B) A:=by
  intro j
  rw [ex,ey,mass_pairs2 hA hB kp kr,mass_pairs2 hA hB kq ks,Rat.sub_eq_add_neg,← Rat.neg_mul,← sumBy_mul,← sumBy_add]
  refine sumBy_congr fun a _=>?_
  rw [← sumBy_mul,← sumBy_add]
  exact sumBy_congr fun b _=>by grind
 have h0:sumBy (fun j=>pos (massD x j - f*g*massD y j)) J≤sumBy (fun a=>sumBy (fun b=>pos (massD p a*massD r b - f*g*(massD q a*massD s b))) B) A:=by
  have h1:sumBy (fun j=>pos (massD x j - f*g*massD y j)) J≤sumBy (fun j=>sumBy (fun a=>sumBy (fun b=>(if jn a b=j then 1 else 0)*pos (massD p a*massD r b - f*g*(massD q a*massD s b))) B) A) J:=by
   refine sumBy_le fun j _=>?_
   rw [e1]
   refine Rat.le_trans (pos_sum _ _) (sumBy_le fun a _=>Rat.le_trans (pos_sum _ _) (sumBy_le fun b _=>?_))
   rw [pos_ind (by split<;>simp)]
   exact Rat.le_refl
  refine Rat.le_trans h1 ?_
  rw [sumBy_swap]
  refine sumBy_le fun a ha=>?_
  rw [sumBy_swap]
  refine sumBy_le fun b hb=>?_
  have e3:sumBy (fun j=>(if jn a b=j then 1 else 0)*pos (massD p a*massD r b - f*g*(massD q a*massD s b))) J=sumBy (fun j=>pos (massD p a*massD r b - f*g*(massD q a*massD s b))*(if jn a b=j then 1 else 0)) J :=
   sumBy_congr fun j _=>Rat.mul_comm _ _
  rw [e3,sum_key hJ ((mJ (jn a b)).2 (List.mem_append.2 (.inr (joinK_mem.2 ⟨a,ha,b,hb,rfl⟩)))) (fun _=>pos (massD p a*massD r b - f*g*(massD q a*massD s b))) 1,Rat.mul_one]
  exact Rat.le_refl
 refine Rat.le_trans h0 ?_
 have h1:sumBy (fun a=>sumBy (fun b=>pos (massD p a*massD r b - f*g*(massD q a*massD s b))) B) A≤sumBy (fun a=>sumBy (fun b=>pos (massD p a - f*massD q a)*massD r b+massD p a*pos (massD r b - g*massD s b)) B) A :=
  sumBy_le fun a _=>sumBy_le fun b _=>pos_prod (hp.zero a) (hr.zero b) (hq.zero a) (hs.zero b) hf hg
 refine Rat.le_trans h1 ?_
 have h2:∀ a∈A,sumBy (fun b=>pos (massD p a - f*massD q a)*massD r b+massD p a*pos (massD r b - g*massD s b)) B=pos (massD p a - f*massD q a)+sumBy (fun k=>pos (massD r k - g*massD s k)) B*massD p a:=by
  intro a _
  have t:sumBy (fun b=>massD r b) B=1:=hr.total hB kr
  rw [sumBy_add,sumBy_mul,sumBy_mul,t,Rat.mul_one]
  grind
 rw [sumBy_congr h2,sumBy_add,sumBy_mul]
 have t:sumBy (fun a=>massD p a) A=1:=hp.total hA kp
 rw [t,Rat.mul_one]
 exact Rat.le_refl
def HasDen (D:Nat) (q:Rat):Prop:=∃ n:Int,q*(D:Rat)=(n:Rat)
theorem mul_den_num (q:Rat):q*(q.den:Rat)=(q.num:Rat):=by
 have h0:(q.den:Rat)≠0:=fun h=>q.den_nz (Rat.natCast_inj.1 h)
 have h1:(q.num:Rat) / (q.den:Rat)=q:=by rw [← Rat.mkRat_eq_div,Rat.mkRat_self]
 have h2:(q.num:Rat) / (q.den:Rat)*(q.den:Rat)=(q.num:Rat):=Rat.div_mul_cancel h0
 rwa [h1] at h2
theorem HasDen.self (q:Rat):HasDen q.den q:=⟨q.num,mul_den_num q⟩
theorem HasDen.mul_left {D:Nat} {q:Rat} (h:HasDen D q) (E:Nat):HasDen (E*D) q:=by
 obtain ⟨n,hn⟩:=h
 refine ⟨(E:Int)*n,?_⟩
 rw [Rat.natCast_mul,Rat.intCast_mul,← hn]
 have:((E:Int):Rat)=(E:Rat):=rfl
 rw [this]
 grind
theorem HasDen.mul_right {D:Nat} {q:Rat} (h:HasDen D q) (E:Nat):HasDen (D*E) q:=by rw [Nat.mul_comm];exact h.mul_left E
theorem HasDen.add {D:Nat} {p q:Rat} (hp:HasDen D p) (hq:HasDen D q):HasDen D (p+q):=by
 obtain ⟨n,hn⟩:=hp
 obtain ⟨m,hm⟩:=hq
 exact ⟨n+m,by rw [Rat.add_mul,hn,hm,Rat.intCast_add]⟩
theorem HasDen.neg {D:Nat} {p:Rat} (hp:HasDen D p):HasDen D (-p):=by
 obtain ⟨n,hn⟩:=hp
 exact ⟨-n,by rw [Rat.neg_mul,hn,Rat.intCast_neg]⟩
theorem HasDen.sub {D:Nat} {p q:Rat} (hp:HasDen D p) (hq:HasDen D q):HasDen D (p - q):=by
 rw [Rat.sub_eq_add_neg];exact hp.add hq.neg
theorem HasDen.mul {D E:Nat} {p q:Rat} (hp:HasDen D p) (hq:HasDen E q):HasDen (D*E) (p*q):=by
 obtain ⟨n,hn⟩:=hp
 obtain ⟨m,hm⟩:=hq
 refine ⟨n*m,?_⟩
 rw [Rat.intCast_mul,← hn,← hm,Rat.natCast_mul]
 grind
theorem HasDen.zero (D:Nat):HasDen D 0:=⟨0,by rw [Rat.zero_mul];rfl⟩
theorem HasDen.one (D:Nat):HasDen D 1:=⟨D,by rw [Rat.one_mul];rfl⟩
theorem HasDen.pos {D:Nat} {q:Rat} (h:HasDen D q):HasDen D (pos q):=by
 unfold Go.Proofs.YtigapglmipmbeaaGreatDoor.pos
 split
 ·exact h
 ·exact HasDen.zero D
theorem HasDen.sum {α:Type} {D:Nat} {f:α→Rat}:∀ {l:List α},(∀ a∈l,HasDen D (f a))→HasDen D (sumBy f l)
 | [],_=>HasDen.zero D
 | a::l,h=>(h a (by simp)).add (HasDen.sum (l:=l) fun b hb=>h b (by simp [hb]))
theorem HasDen.dvd {D:Nat} {q:Rat} (h:HasDen D q):q.den ∣ D:=by
 obtain ⟨n,hn⟩:=h
 have h1:q.num*(D:Int)=n*(q.den:Int):=by
  have h2:q*(D:Rat)*(q.den:Rat)=(n:Rat)*(q.den:Rat):=by rw [hn]
  have h3:q*(q.den:Rat)=(q.num:Rat):=mul_den_num q
  have h4:(q.num:Rat)*(D:Rat)=(n:Rat)*(q.den:Rat):=by rw [← h2,← h3];grind
  have h5:((q.num*(D:Int):Int):Rat)=((n*(q.den:Int):Int):Rat):=by
   rw [Rat.intCast_mul,Rat.intCast_mul]
   exact h4
  exact Rat.intCast_inj.1 h5
 have hc:Nat.Coprime q.den q.num.natAbs:=Nat.Coprime.symm q.reduced
 have h2:q.den ∣ q.num.natAbs*D:=by
  have:(q.num*(D:Int)).natAbs=(n*(q.den:Int)).natAbs:=by rw [h1]
  rw [Int.natAbs_mul,Int.natAbs_mul,Int.natAbs_natCast,Int.natAbs_natCast] at this
  rw [this]
  exact Nat.dvd_mul_left _ _
 exact hc.dvd_of_dvd_mul_left h2
theorem HasDen.sz {D k:Nat} {q:Rat} {M:Nat} (h:HasDen D q) (hD:0 < D) (h0:0≤q) (hM:q≤(M:Rat)) (hk:M*D < 10 ^ k) (hM0:0 < M):Sz k q:=by
 have hd:=Nat.le_of_dvd hD h.dvd
 have h1:D≤M*D:=Nat.le_mul_of_pos_left D hM0
 refine ⟨?_,by omega⟩
 have hn:0≤q.num:=Rat.num_nonneg.2 h0
 have e:q.num=(nm q:Int):=by unfold nm;omega
 have h2:(q.num:Rat)≤((M*q.den:Nat):Rat):=by
  rw [← mul_den_num q,Rat.natCast_mul]
  exact Rat.mul_le_mul_of_nonneg_right hM Rat.natCast_nonneg
 have h3:q.num≤((M*q.den:Nat):Int):=Rat.intCast_le_intCast.1 h2
 have h4:M*q.den≤M*D:=Nat.mul_le_mul_left M hd
 omega
def ovT (q:Rat):XE:=if fits q then .ok (rT q) else .error 5
theorem exQ_out (q:Rat):exQ (outQ q)=ovT q:=by
 unfold ovT
 by_cases h:fits q=true
 ·rw [if_pos h]
  unfold exQ
  rw [outQ_ok (fits_sz.1 h) (Nat.le_refl _)]
  rfl
 ·rw [if_neg h]
  have h2:maxD < Lib.nDigits (nm q)∨maxD < Lib.nDigits q.den:=by
   unfold fits at h
   simp only [Bool.not_eq_true',decide_eq_false_iff_not,Decidable.not_not] at h
   exact h
  unfold exQ outQ
  rw [if_pos h2]
  rfl
theorem ok_rT {s:ByteArray} (h:errQ s.data.toList=0):s=rT (valQ s.data.toList):=(IsT.of h).text
theorem err_rT {q:Rat} (h:fits q=true):errQ (rT q).data.toList=0:=(isT_rT h).err
theorem val_rT {q:Rat} (h:fits q=true):valQ (rT q).data.toList=q:=(isT_rT h).val
theorem ovT_ok {q:Rat} {s:ByteArray} (h:ovT q=.ok s):errQ s.data.toList=0∧valQ s.data.toList=q∧fits q=true:=by
 unfold ovT at h
 split at h
 ·rename_i hf;cases h;exact ⟨err_rT hf,val_rT hf,hf⟩
 ·cases h
theorem ovT_fit {q:Rat} (h:fits q=true):ovT q=.ok (rT q):=if_pos h
section
variable {a b:ByteArray} (ha:errQ a.data.toList=0) (hb:errQ b.data.toList=0)
include ha hb
theorem plX_val:plX a b=ovT (valQ a.data.toList+valQ b.data.toList):=by unfold plX;rw [two_T (IsT.of ha) (IsT.of hb),exQ_out]
theorem subX_val:subX a b=ovT (valQ a.data.toList - valQ b.data.toList):=by unfold subX;rw [two_T (IsT.of ha) (IsT.of hb),exQ_out,Rat.sub_eq_add_neg]
theorem mulX_val:mulX a b=ovT (valQ a.data.toList*valQ b.data.toList):=by unfold mulX;rw [two_T (IsT.of ha) (IsT.of hb),exQ_out]
theorem maxX_val:maxX a b=.ok (if cmpQ (valQ a.data.toList) (valQ b.data.toList) < 0 then b else a):=by
 unfold maxX
 rw [if_neg (by simpa using ha),if_neg (by simpa using hb)]
end
def valsD (ls:List L2):DL:=ls.map fun x=>(x.1,valQ x.2.data.toList)
def OkV (ls:List L2):Prop:=∀ x∈ls,errQ x.2.data.toList=0
theorem keys_vals (ls:List L2):keysD (valsD ls)=ls.map (·.1):=by unfold keysD valsD;rw [List.map_map];rfl
theorem posE_zero {p:ByteArray}:posE p=0↔errQ p.data.toList=0∧0≤valQ p.data.toList:=by
 unfold posE
 split
 ·rename_i h;exact ⟨fun h2=>absurd h2 h,fun h2=>absurd h2.1 h⟩
 ·rename_i h
  have h:errQ p.data.toList=0:=Classical.byContradiction h
  split
  ·rename_i h2;exact ⟨fun h3=>by omega,fun h3=>absurd h3.2 (by grind)⟩
  ·rename_i h2;exact ⟨fun _=>⟨h,by grind⟩,fun _=>rfl⟩
theorem ltK_iff {a b:ByteArray}:ltK a b=true↔a.data.toList < b.data.toList:=by unfold ltK;exact decide_eq_true_iff
theorem ltK_trans {a b c:ByteArray} (h1:ltK a b=true) (h2:ltK b c=true):ltK a c=true:=ltK_iff.2 (List.lt_trans (ltK_iff.1 h1) (ltK_iff.1 h2))
theorem ltK_irrefl (a:ByteArray):ltK a a=false:=by
 cases h:ltK a a
 ·rfl
 ·exact absurd (ltK_iff.1 h) (List.lt_irrefl _)
theorem bytes_ext {a b:ByteArray} (h:a.data.toList=b.data.toList):a=b:=by
 cases a;cases b
 simp only [ByteArray.mk.injEq]
 exact Array.ext' h
theorem ltK_total {a b:ByteArray} (h:ltK a b=false) (hn:a≠b):ltK b a=true:=by
 refine ltK_iff.2 ?_
 have h1:¬ a.data.toList < b.data.toList:=fun h2=>by rw [ltK_iff.2 h2] at h;cases h
 refine Classical.byContradiction fun h2=>?_
 exact hn (bytes_ext (List.le_antisymm (List.not_lt.1 h2) (List.not_lt.1 h1)))
def Asc (ks:List ByteArray):Prop:=ks.Pairwise fun a b=>ltK a b=true
theorem Asc.nodup {ks:List ByteArray} (h:Asc ks):ks.Nodup:=by
 refine List.Pairwise.imp ?_ h
 intro a b hab e
 subst e
 rw [ltK_irrefl] at hab
 cases hab
theorem chkL_zero:∀ {ls:List L2} {k:Option ByteArray},chkL k ls=0→(∀ x∈ls,errQ x.2.data.toList=0∧0 < valQ x.2.data.toList)∧Asc (ls.map (·.1))∧∀ x∈ls,badK k x.1=false
 | [],_,_=>⟨fun x hx=>(by cases hx),List.Pairwise.nil,fun x hx=>(by cases hx)⟩
 | x::l,k,h=>by
  unfold chkL at h
  split at h
  ·rename_i h1;exact absurd h h1
  ·rename_i h1
   have h1:posE x.2=0:=Classical.byContradiction h1
   split at h
   ·cases h
   ·rename_i h2
    have h2:0 < valQ x.2.data.toList:=Classical.byContradiction h2
    split at h
    ·cases h
    ·rename_i h3
     have h3:badK k x.1=false:=by simpa using h3
     obtain ⟨r1,r2,r3⟩:=chkL_zero h
     have r4:∀ y∈l,ltK x.1 y.1=true:=fun y hy=>by simpa [badK] using r3 y hy
     refine ⟨fun y hy=>?_,?_,fun y hy=>?_⟩
     ·rcases List.mem_cons.1 hy with rfl|hy
      ·exact ⟨(posE_zero.1 h1).1,h2⟩
      ·exact r1 y hy
     ·refine List.pairwise_cons.2 ⟨fun b hb=>?_,r2⟩
      obtain ⟨y,hy,rfl⟩:=List.mem_map.1 hb
      exact r4 y hy
     ·rcases List.mem_cons.1 hy with rfl|hy
      ·exact h3
      ·cases k with
       | none=>rfl
       | some k =>
        have h4:ltK k x.1=true:=by simpa [badK] using h3
        simp only [badK,ltK_trans h4 (r4 y hy),Bool.not_true]
theorem chkL_of:∀ {ls:List L2} {k:Option ByteArray},(∀ x∈ls,errQ x.2.data.toList=0∧0 < valQ x.2.data.toList)→Asc (ls.map (·.1))→(∀ x∈ls,badK k x.1=false)→chkL k ls=0
 | [],_,_,_,_=>rfl
 | x::l,k,h1,h2,h3=>by
  obtain ⟨e1,e2⟩:=h1 x (by simp)
  unfold chkL
  rw [if_neg (by simp only [ne_eq,Decidable.not_not];exact posE_zero.2 ⟨e1,by grind⟩),if_neg (by simpa using e2),if_neg (by rw [h3 x (by simp)];decide)]
  have h4:=List.pairwise_cons.1 h2
  refine chkL_of (fun y hy=>h1 y (by simp [hy])) h4.2 fun y hy=>?_
  simp only [badK,h4.1 y.1 (List.mem_map_of_mem hy),Bool.not_true]
theorem foldX_val {α:Type} {g:α→XE} {v:α→Rat}:∀ {l:List α} {s t:ByteArray},foldX g s l=.ok t→errQ s.data.toList=0→(∀ x∈l,∀ p,g x=.ok p→errQ p.data.toList=0∧valQ p.data.toList=v x) →
  errQ t.data.toList=0∧valQ t.data.toList=valQ s.data.toList+sumBy v l
 | [],s,t,h,hs,_=>by
  cases h
  exact ⟨hs,by simp only [sumBy];grind⟩
 | x::l,s,t,h,hs,hg=>by
  unfold foldX at h
  cases hx:g x with
  | error n=>rw [hx] at h;cases h
  | ok p =>
   rw [hx] at h
   obtain ⟨e1,e2⟩:=hg x (by simp) p hx
   dsimp only at h
   rw [plX_val hs e1] at h
   cases ha:ovT (valQ s.data.toList+valQ p.data.toList) with
   | error n=>rw [ha] at h;cases h
   | ok u =>
    rw [ha] at h
    obtain ⟨e3,e4,_⟩:=ovT_ok ha
    obtain ⟨r1,r2⟩:=foldX_val h e3 fun y hy=>hg y (by simp [hy])
    refine ⟨r1,?_⟩
    rw [r2,e4,e2]
    simp only [sumBy]
    grind
theorem foldX_fit {α:Type} {g:α→XE} {v:α→Rat} {D M:Nat} (hD:0 < D) (hM:0 < M) (hk:M*D < 10 ^ maxD):∀ {l:List α} {s:ByteArray},errQ s.data.toList=0→HasDen D (valQ s.data.toList)→0≤valQ s.data.toList →
  (∀ x∈l,g x=.ok (rT (v x))∧fits (v x)=true∧HasDen D (v x)∧0≤v x)→valQ s.data.toList+sumBy v l≤(M:Rat)→foldX g s l=.ok (rT (valQ s.data.toList+sumBy v l))
 | [],s,hs,_,_,_,_=>by
  simp only [foldX,sumBy,Rat.add_zero]
  rw [← ok_rT hs]
 | x::l,s,hs,hd,h0,hg,hm=>by
  obtain ⟨e1,e2,e3,e4⟩:=hg x (by simp)
  have hn:0≤sumBy v l:=sumBy_nonneg fun y hy=>(hg y (by simp [hy])).2.2.2
  simp only [sumBy] at hm
  have hf:fits (valQ s.data.toList+v x)=true:=fits_sz.2 ((hd.add e3).sz hD (by grind) (M:=M) (by grind) hk hM)
  have ha:plX s (rT (v x))=.ok (rT (valQ s.data.toList+v x)):=by
   rw [plX_val hs (err_rT e2),val_rT e2,ovT_fit hf]
  rw [foldX_ok e1 ha,foldX_fit hD hM hk (err_rT hf) (by rw [val_rT hf];exact hd.add e3) (by rw [val_rT hf];grind) (fun y hy=>hg y (by simp [hy])) (by rw [val_rT hf];grind),val_rT hf]
  simp only [sumBy]
  rw [Rat.add_assoc]
theorem sum_vals (ls:List L2):sumBy (fun e=>e.2) (valsD ls)=sumBy (fun x:L2=>valQ x.2.data.toList) ls:=by unfold valsD;rw [sumBy_map]
theorem foldX_ne {α:Type} {g:α→XE} (hg:∀ x m,g x=.error m→m≠0):∀ {l:List α} {s:ByteArray} {n:Nat},foldX g s l=.error n→n≠0
 | [],_,_,h=>by cases h
 | x::l,s,n,h=>by
  unfold foldX at h
  cases hx:g x with
  | error m=>rw [hx] at h;cases h;exact hg x _ hx
  | ok p =>
   rw [hx] at h
   dsimp only at h
   cases ha:plX s p with
   | error m=>rw [ha] at h;cases h;exact exQ_err ha
   | ok u=>rw [ha] at h;exact foldX_ne hg h
theorem chkD_zero {ls:List L2} (h:chkD ls=0):IsD (valsD ls)∧OkV ls∧Asc (ls.map (·.1)):=by
 unfold chkD at h
 split at h
 ·rename_i h1;exact absurd h h1
 ·rename_i h1
  have h1:chkL none ls=0:=Classical.byContradiction h1
  obtain ⟨r1,r2,_⟩:=chkL_zero h1
  cases hs:sumX zT ls with
  | error n =>
   rw [hs] at h
   exact absurd h (foldX_ne (fun x m hm=>by cases hm) hs)
  | ok s =>
   rw [hs] at h
   unfold chkS at h
   dsimp only at h
   split at h
   ·rename_i h2
    obtain ⟨e1,e2⟩:=foldX_val (v:=fun x:L2=>valQ x.2.data.toList) hs err_zT (fun x hx p hp=>by cases hp;exact ⟨(r1 x hx).1,rfl⟩)
    rw [h2,val_oT,val_zT,Rat.zero_add] at e2
    refine ⟨⟨by rw [keys_vals];exact r2.nodup,fun e he=>?_,by rw [sum_vals,e2]⟩,fun x hx=>(r1 x hx).1,r2⟩
    obtain ⟨x,hx,rfl⟩:=List.mem_map.1 he
    exact (r1 x hx).2
   ·cases h
def denB {α:Type} (f:α→Rat):List α→Nat
 | []=>1
 | x::l=>(f x).den*denB f l
section
variable {α:Type} {f:α→Rat}
theorem denB_pos:∀ ls:List α,0 < denB f ls
 | []=>Nat.one_pos
 | x::l=>Nat.mul_pos (f x).den_pos (denB_pos l)
theorem denB_has:∀ {ls:List α} {x:α},x∈ls→HasDen (denB f ls) (f x)
 | y::l,x,h=>by
  unfold denB
  rcases List.mem_cons.1 h with rfl|h
  ·exact (HasDen.self _).mul_right _
  ·exact (denB_has h).mul_left _
theorem denB_lt {k:Nat}:∀ {ls:List α},(∀ x∈ls,Sz k (f x))→denB f ls < 10 ^ (k*ls.length+1)
 | [],_=>by show 1 < 10 ^ 1;omega
 | x::l,h=>by
  have h1:=(h x (by simp)).2
  have h2:=denB_lt (ls:=l) fun y hy=>h y (by simp [hy])
  have h3:=mul_lt_pow h1 h2
  show (f x).den*denB f l < _
  rw [List.length_cons,show k*(l.length+1)+1=k+(k*l.length+1) by rw [Nat.mul_add];omega]
  exact h3
end
abbrev valX (x:L2):Rat:=valQ x.2.data.toList
theorem chkD_of {ls:List L2} (h1:∀ x∈ls,errQ x.2.data.toList=0∧0 < valQ x.2.data.toList) (h2:Asc (ls.map (·.1))) (h3:sumBy (fun e=>e.2) (valsD ls)=1) {D:Nat} (hD:0 < D) (hk:D < 10 ^ maxD) (hd:∀ x∈ls,HasDen D (valQ x.2.data.toList)):chkD ls=0:=by
 unfold chkD
 rw [chkL_of h1 h2 fun x _=>rfl,if_neg (by decide)]
 rw [sum_vals] at h3
 have:=foldX_fit (g:=fun x:L2=>.ok x.2) (v:=fun x:L2=>valQ x.2.data.toList) (M:=1) hD (by omega) (by omega) err_zT (by rw [val_zT];exact HasDen.zero D) (by rw [val_zT];exact Rat.le_refl)
  (fun x hx=>by
   have hf:=(IsT.of (h1 x hx).1).fits
   refine ⟨?_,hf,hd x hx,by have:=(h1 x hx).2;grind⟩
   rw [← ok_rT (h1 x hx).1]) (l:=ls) (by rw [h3,val_zT,Rat.zero_add];exact Rat.le_refl)
 unfold sumX
 rw [this,h3,val_zT,Rat.zero_add]
 have e1:rT 1=oT:=IsT.one.text.symm
 rw [e1]
 rfl
theorem hasT_iff {k:ByteArray}:∀ {ls:List L2},hasT ls k=true↔k∈ls.map (·.1)
 | []=>by simp [hasT]
 | x::l=>by
  unfold hasT
  rw [List.map_cons,List.mem_cons]
  split
  ·rename_i h;exact ⟨fun _=>.inl h.symm,fun _=>rfl⟩
  ·rename_i h
   rw [hasT_iff]
   exact ⟨.inr,fun h2=>h2.resolve_left fun e=>h e.symm⟩
theorem atT_ok {k:ByteArray}:∀ {ls:List L2},OkV ls→errQ (atT ls k).data.toList=0
 | [],_=>err_zT
 | x::l,h=>by
  unfold atT
  split
  ·exact h x (by simp)
  ·exact atT_ok fun y hy=>h y (by simp [hy])
theorem atT_none {k:ByteArray}:∀ {ls:List L2},k ∉ ls.map (·.1)→atT ls k=zT
 | [],_=>rfl
 | x::l,h=>by
  rw [List.map_cons,List.mem_cons,not_or] at h
  unfold atT
  rw [if_neg fun e=>h.1 e.symm]
  exact atT_none h.2
theorem atT_val {k:ByteArray}:∀ {ls:List L2},(ls.map (·.1)).Nodup→valQ (atT ls k).data.toList=massD (valsD ls) k
 | [],_=>val_zT
 | x::l,h=>by
  rw [List.map_cons,List.nodup_cons] at h
  show valQ (atT (x::l) k).data.toList=(if x.1=k then valQ x.2.data.toList else 0)+massD (valsD l) k
  unfold atT
  split
  ·rename_i e
   subst e
   rw [massD_none (by rw [keys_vals];exact h.1),Rat.add_zero]
  ·rw [Rat.zero_add]
   exact atT_val h.2
end Go.Proofs.YtigapglmipmbeaaGreatDoor
namespace Go.Proofs.YtigapglmipmbeaaGreatDoor
open Go.RowKit Go.Shelf
open Lim
attribute [local go_sem] Oper.semAt_some
def keyAt (ls:List L2):Nat→Option ByteArray
 | 0=>none
 | k+1=>(ls[k]?).map (·.1)
theorem chkL_err {k:Option ByteArray} {x:L2} {l:List L2} (h:posE x.2≠0):chkL k (x::l)=posE x.2:=by unfold chkL;rw [if_pos h]
theorem chkL_low {k:Option ByteArray} {x:L2} {l:List L2} (h:posE x.2=0) (h2:¬ 0 < valQ x.2.data.toList):chkL k (x::l)=2:=by unfold chkL;rw [if_neg (by simpa using h),if_pos h2]
theorem chkL_ord {k:Option ByteArray} {x:L2} {l:List L2} (h:posE x.2=0) (h2:0 < valQ x.2.data.toList) (h3:badK k x.1=true):chkL k (x::l)=9:=by unfold chkL;rw [if_neg (by simpa using h),if_neg (by simpa using h2),if_pos h3]
theorem chkL_go {k:Option ByteArray} {x:L2} {l:List L2} (h:posE x.2=0) (h2:0 < valQ x.2.data.toList) (h3:badK k x.1=false):chkL k (x::l)=chkL (some x.1) l:=by
 conv=>lhs;unfold chkL
 rw [if_neg (by simpa using h),if_neg (by simpa using h2),if_neg (by rw [h3];decide)]
theorem posB_ok {p:ByteArray} (h:posE p=0):posB p=decide (0 < valQ p.data.toList):=by
 unfold posB
 have:errQ p.data.toList=0:=by
  unfold posE at h
  split at h
  ·rename_i h2;exact absurd h h2
  ·rename_i h2;exact Classical.byContradiction h2
 rw [decide_eq_true this,Bool.true_and]
theorem errs_of {ls:List L2} (h:chkL none ls=0):∀ x∈ls,errQ x.2.data.toList=0:=by
 revert h
 generalize (none:Option ByteArray)=k
 induction ls generalizing k with
 | nil=>intro _ x hx;cases hx
 | cons y l ih =>
  intro h x hx
  by_cases h1:posE y.2=0
  ·by_cases h2:0 < valQ y.2.data.toList
   ·cases h3:badK k y.1 with
    | true=>rw [chkL_ord h1 h2 h3] at h;cases h
    | false =>
     rw [chkL_go h1 h2 h3] at h
     rcases List.mem_cons.1 hx with rfl|hx
     ·unfold posE at h1
      split at h1
      ·rename_i h4;exact absurd h1 h4
      ·rename_i h4;exact Classical.byContradiction h4
     ·exact ih _ h x hx
   ·rw [chkL_low h1 h2] at h;cases h
  ·rw [chkL_err h1] at h;exact absurd h h1
theorem keyAt_succ {ls:List L2} {k:Nat} {x:L2} (h:ls[k]?=some x):keyAt ls (k+1)=some x.1:=by
 show (ls[k]?).map (·.1)=_
 rw [h];rfl
theorem drop_of {ls:List L2} {k:Nat} {x:L2} (h:ls[k]?=some x):ls.drop k=x::ls.drop (k+1):=by
 obtain ⟨hlt,e⟩:=List.getElem?_eq_some_iff.1 h
 rw [List.drop_eq_getElem_cons hlt,e]
theorem chkS_ok {s:ByteArray}:chkS (.ok s)=if s=oT then 0 else 15:=rfl
theorem LRow.at {w W:World} {v:Value} {ls:List L2} (h:LRow w v ls) (hb:Below w.heap.size w W) {k:Nat} {x:L2} (hx:ls[k]?=some x) :
  ∃ b o c,v=.slice (some ⟨b,o,none⟩) ls.length c∧b < W.heap.size∧W.cell? ⟨b,o+k*2,none⟩=some (.string x.1)∧W.cell? ⟨b,o+k*2+1,none⟩=some (.string x.2):=by
 obtain ⟨A,c,rfl,_,hc⟩:=h
 obtain ⟨b,o,rfl,hlt,hcell⟩:=hc (by have:=(List.getElem?_eq_some_iff.1 hx).1;omega)
 obtain ⟨c0,c1⟩:=hcell k x hx
 exact ⟨b,o,c,rfl,Nat.lt_of_lt_of_le hlt hb.size,by rw [hb.cell (p:=⟨b,o+k*2,none⟩) hlt];exact c0,by rw [hb.cell (p:=⟨b,o+k*2+1,none⟩) hlt];exact c1⟩
theorem LRow.cell2 {w W:World} {b o n c:Nat} {ls:List L2} (h:LRow w (.slice (some ⟨b,o,none⟩) n c) ls) (hb:Below w.heap.size w W) {k:Nat} {x:L2} (hx:ls[k]?=some x) :
  b < W.heap.size∧W.cell? ⟨b,o+k*2,none⟩=some (.string x.1)∧W.cell? ⟨b,o+k*2+1,none⟩=some (.string x.2):=by
 obtain ⟨b',o',c',e,h1,h2,h3⟩:=h.at hb hx
 simp only [Value.slice.injEq,Option.some.injEq,Addr.mk.injEq,and_true] at e
 obtain ⟨⟨rfl,rfl⟩,_,_⟩:=e
 exact ⟨h1,h2,h3⟩
theorem dcheck_any (ls:List L2) (v:Value) (w:World) (hv:LRow w v ls) (hs:Short ls) (hr:Res w) :
  Calls Tryz.prog 36 #[v] w fun e w'=>e=.returned (.int .i64 (chkD ls:Int))∧Below w.heap.size w w':=by
 have HV:=Lib.hid hv
 obtain ⟨A,c,rfl,hlen,hcells⟩:=hv
 have HS:=Lib.hid hs
 have H0:=Lib.hid (NW.refl hr)
 have HLEN:=Lib.hid hlen
 have hrn:=runs_check1
 unfold Runs at hrn
 clear hr hcells hs
 go_enter Tryz.func36,Tryz.ntmps36
 go_wp2
 go_loopw [11] (fun v11 wr=>∃ k:Nat,k≤ls.length∧v11=.int .i64 (k:Int)∧Hid (chkL none ls=chkL (keyAt ls k) (ls.drop k))∧Hid (NW w wr)) (fun v11 _=>ls.length - (intOf v11).toNat)
 case atStart=>exact ⟨0,Nat.zero_le _,rfl,Lib.hid (by simp [keyAt]),H0⟩
 case round =>
  clear H0
  obtain ⟨k,hk,rfl,HE,HN⟩:=hrel
  by_cases hlt:k < ls.length
  ·obtain ⟨x,hx⟩:∃ x,ls[k]?=some x:=⟨_,List.getElem?_eq_getElem hlt⟩
   obtain ⟨b,o,c',e',hb2,c0,c1⟩:=HV.out.at HN.out.below hx
   simp only [Value.slice.injEq,true_and] at e'
   obtain ⟨rfl,rfl⟩:=e'
   have hlt':(k:Int) < (ls.length:Int):=by omega
   have HX:=Lib.hid (HN.out.alloc (.cells #[.string x.1,.string x.2] 30))
   have HP:=Lib.hid (positive_any (HS.out x (List.mem_of_getElem? hx)).2)
   have HD:=Lib.hid (drop_of hx)
   have HLT:=Lib.hid (And.intro hlt hlt')
   have HXK:=Lib.hid hx
   have HBL:=Lib.hid (Blk.new wr 30 #[.string x.1,.string x.2])
   obtain ⟨f,d⟩:=x
   dsimp only at c0 c1 HX HP HBL HD HXK
   clear hx hlt
   by_cases h1:posE d=0
   ·rw [h1,posB_ok h1] at HP
    by_cases h2:0 < valQ d.data.toList
    ·rw [decide_eq_true h2] at HP
     change Hid (Ret _ _ (.tuple #[.bool true,.int .i64 0])) at HP
     rcases Nat.eq_zero_or_pos k with hk0|hk0
     ·have HR:=Lib.hid (show chkL none ls=chkL (keyAt ls (k+1)) (ls.drop (k+1)) by
       rw [HE.out,HD.out,keyAt_succ HXK.out,hk0]
       exact chkL_go (x:=(f,d)) h1 h2 rfl)
      have d0:decide (0 < (k:Int))=false:=decide_eq_false (by omega)
      have d0n:decide (0 < k)=false:=decide_eq_false (by omega)
      clear h1 h2 hk0
      go_wp2_with (go_at_call 106;refine (HP.out _ HX.out.res).mono ?_;rintro e w3 ⟨rfl,hb⟩;have H3:=Lib.hid (HX.out.later hb);obtain ⟨q0,q1⟩:=cells2 (HBL.out.below hb HBL.out.lt);clear hb)
      go_quiet (fail)
      have H4:=Lib.hid (fun n=>H3.out.drewN n)
      go_wp2
      go_roundw
      case rel=>exact ⟨k+1,HLT.out.1,by go_num,HR,H4.out _⟩
      case measure=>have:=HLT.out.1;simp [intOf];omega
     ·obtain ⟨j,hj⟩:∃ j,k=j+1:=⟨k - 1,by omega⟩
      have hjl:(j:Int) < (ls.length:Int):=by have:=HLT.out.1;omega
      obtain ⟨y,hy⟩:∃ y,ls[j]?=some y:=⟨_,List.getElem?_eq_getElem (by omega)⟩
      have HCE:=Lib.hid (fun W (hW:NW w W)=>HV.out.cell2 hW.below hy)
      have e1:(k:Int) - 1=(j:Int):=by omega
      have d0:decide (0 < (k:Int))=true:=decide_eq_true (by omega)
      have d0n:decide (0 < k)=true:=decide_eq_true (by omega)
      have HKJ:=Lib.hid hj
      clear hk0 hj
      cases h3:ltK y.1 f with
      | true =>
       have HR:=Lib.hid (show chkL none ls=chkL (keyAt ls (k+1)) (ls.drop (k+1)) by
        rw [HE.out,HD.out,keyAt_succ HXK.out,HKJ.out,keyAt_succ hy]
        exact chkL_go (x:=(f,d)) h1 h2 (by show (!ltK y.1 f)=false;rw [h3];rfl))
       have TL:=lt_bytes y.1 f
       rw [h3] at TL
       clear h1 h2 h3 hy
       go_wp2_with (go_at_call 106;refine (HP.out _ HX.out.res).mono ?_;rintro e w3 ⟨rfl,hb⟩;have H3:=Lib.hid (HX.out.later hb);obtain ⟨q0,q1⟩:=cells2 (HBL.out.below hb HBL.out.lt);obtain ⟨hb3,p0,p1⟩:=HCE.out _ H3.out;clear hb)
       go_quiet (fail)
       have H4:=Lib.hid (fun n=>H3.out.drewN n)
       go_wp2
       go_roundw
       case rel=>exact ⟨k+1,HLT.out.1,by go_num,HR,H4.out _⟩
       case measure=>have:=HLT.out.1;simp [intOf];omega
      | false =>
       have HR:=Lib.hid (show chkL none ls=9 by
        rw [HE.out,HD.out,HKJ.out,keyAt_succ hy]
        exact chkL_ord (x:=(f,d)) h1 h2 (by show (!ltK y.1 f)=true;rw [h3];rfl))
       have TL:=lt_bytes y.1 f
       rw [h3] at TL
       clear h1 h2 h3 hy
       go_wp2_with (go_at_call 106;refine (HP.out _ HX.out.res).mono ?_;rintro e w3 ⟨rfl,hb⟩;have H3:=Lib.hid (HX.out.later hb);obtain ⟨q0,q1⟩:=cells2 (HBL.out.below hb HBL.out.lt);obtain ⟨hb3,p0,p1⟩:=HCE.out _ H3.out;clear hb)
       go_quiet (fail)
       have H4:=Lib.hid (fun n=>H3.out.drewN n)
       go_wp2
       go_ret
       refine ⟨?_,(H4.out _).below⟩
       unfold chkD
       rw [HR.out]
       rfl
    ·rw [decide_eq_false h2] at HP
     change Hid (Ret _ _ (.tuple #[.bool false,.int .i64 0])) at HP
     have HR:=Lib.hid (show chkL none ls=2 by rw [HE.out,HD.out];exact chkL_low (x:=(f,d)) h1 h2)
     clear h1 h2
     go_wp2_with (go_at_call 106;refine (HP.out _ HX.out.res).mono ?_;rintro e w3 ⟨rfl,hb⟩;have H3:=Lib.hid (HX.out.later hb);clear hb)
     go_ret
     refine ⟨?_,H3.out.below⟩
     unfold chkD
     rw [HR.out]
     rfl
   ·have HR:=Lib.hid (show chkL none ls=posE d∧chkL none ls≠0 by rw [HE.out,HD.out,chkL_err (x:=(f,d)) h1];exact ⟨rfl,h1⟩)
    have hm:=ne_zero h1
    clear h1
    go_wp2_with (go_at_call 106;refine (HP.out _ HX.out.res).mono ?_;rintro e w3 ⟨rfl,hb⟩;have H3:=Lib.hid (HX.out.later hb);clear hb)
    go_ret
    refine ⟨?_,H3.out.below⟩
    unfold chkD
    rw [if_pos HR.out.2,HR.out.1]
    rfl
  ·have hlt':¬ (k:Int) < (ls.length:Int):=by omega
   obtain rfl:k=ls.length:=by omega
   have h0:chkL none ls=0:=by
    have:=HE.out
    rw [List.drop_length] at this
    exact this
   have HQ:=Lib.hid (show chkD ls=chkS (foldX (fun x:L2=>.ok x.2) zT ls) by unfold chkD;rw [h0];rfl)
   have HF:=Lib.hid (dfold_any 123 #[] runs_check1 (fun x:L2=>.ok x.2) ls _ wr (HV.out.below HN.out.below) HN.out.res (fun x n h=>by cases h) (fun x hx s h=>by cases h;exact errs_of h0 x hx) (fun k x _ W _ _=>check1_any x k W))
   clear h0 hlt hk
   cases hf:foldX (fun x:L2=>(.ok x.2:XE)) zT ls with
   | error n =>
    rw [hf] at HF HQ
    have hm:=ne_zero (foldX_ne (g:=fun x:L2=>(.ok x.2:XE)) (fun x m h=>by cases h) hf)
    change Hid (Calls _ _ _ _ fun e w'=>e=.returned (.tuple #[.string ⟨#[]⟩,.int .i64 (n:Int)])∧_) at HF
    clear hf
    go_wp2_with (go_at_call 122;refine HF.out.mono ?_;rintro e w3 ⟨rfl,hb⟩;have H3:=Lib.hid (HN.out.later hb);clear hb)
    go_ret
    rw [HQ.out]
    exact ⟨rfl,H3.out.below⟩
   | ok s =>
    rw [hf] at HF HQ
    change Hid (Calls _ _ _ _ fun e w'=>e=.returned (.tuple #[.string s,.int .i64 0])∧_) at HF
    have TE:=eq_bytes s oT
    rw [oT_list] at TE
    clear hf
    rw [chkS_ok] at HQ
    by_cases h1:s=oT
    ·rw [decide_eq_true h1] at TE
     rw [if_pos h1] at HQ
     clear h1
     go_wp2_with (go_at_call 122;refine HF.out.mono ?_;rintro e w3 ⟨rfl,hb⟩;have H3:=Lib.hid (HN.out.later hb);clear hb)
     go_ret
     rw [HQ.out]
     exact ⟨rfl,H3.out.below⟩
    ·rw [decide_eq_false h1] at TE
     rw [if_neg h1] at HQ
     clear h1
     go_wp2_with (go_at_call 122;refine HF.out.mono ?_;rintro e w3 ⟨rfl,hb⟩;have H3:=Lib.hid (HN.out.later hb);clear hb)
     go_ret
     rw [HQ.out]
     exact ⟨rfl,H3.out.below⟩
theorem dchecked_any (p q:List L2) (vp vq:Value) (b:Nat) (w:World) (hb:Blk w b 31 #[vp,vq]) (hp:LRow w vp p) (hq:LRow w vq q) (sp:Short p) (sq:Short q) (hr:Res w) :
  Calls Tryz.prog 112 #[.slice (some ⟨b,0,none⟩) 2 2] w fun e w'=>e=.returned (.int .i64 (chk2 p q:Int))∧Below w.heap.size w w':=by
 have HP:=Lib.hid (dcheck_any p vp w hp sp hr)
 have HQ:=Lib.hid (fun W (hW:Below w.heap.size w W)=>dcheck_any q vq W (hq.below hW) sq (hr.below hW))
 have HB:=Lib.hid (fun W (hW:Below w.heap.size w W)=>cells2 (hb.below hW hb.lt))
 have HL:=Lib.hid (fun W (hW:Below w.heap.size w W)=>(hb.below hW hb.lt).lt)
 clear hp hq sp sq hr
 obtain ⟨x0,x1⟩:=HB.out w (Below.refl _ _)
 have xl:=HL.out w (Below.refl _ _)
 go_enter Tryz.func112,Tryz.ntmps112
 go_wp2
 go_loopw [8] (fun v8 wr=>∃ k:Nat,k≤2∧v8=.int .i64 (k:Int)∧Hid (0 < k→chkD p=0)∧Hid (1 < k→chkD q=0)∧Hid (Below w.heap.size w wr)∧Hid (k=0→wr=w)) (fun v8 _=>2 - (intOf v8).toNat)
 case atStart=>exact ⟨0,by omega,rfl,Lib.hid (fun h=>by omega),Lib.hid (fun h=>by omega),Lib.hid (Below.refl _ _),Lib.hid (fun _=>rfl)⟩
 case round =>
  clear x0 x1 xl
  obtain ⟨k,hk,rfl,H1,H2,HN,HW⟩:=hrel
  obtain ⟨x0,x1⟩:=HB.out wr HN.out
  have xl:=HL.out wr HN.out
  rcases (by omega:k=0∨k=1∨k=2) with rfl|rfl|rfl
  ·obtain rfl:=HW.out rfl
   by_cases h0:chkD p=0
   ·have HR:=Lib.hid h0
    rw [h0] at HP
    change Hid (Calls _ _ _ _ fun e w'=>e=.returned (.int .i64 0)∧_) at HP
    clear h0
    go_wp2_with (go_at_call 36;refine HP.out.mono ?_;rintro e w3 ⟨rfl,hb⟩;have H3:=Lib.hid hb;clear hb)
    go_roundw
    case rel=>exact ⟨1,by omega,by go_num,Lib.hid (fun _=>HR.out),Lib.hid (fun h=>by omega),H3,Lib.hid (fun h=>by omega)⟩
    case measure=>simp [intOf]
   ·have hm:=ne_zero h0
    have HR:=Lib.hid (show chk2 p q=chkD p from if_pos h0)
    clear h0
    go_wp2_with (go_at_call 36;refine HP.out.mono ?_;rintro e w3 ⟨rfl,hb⟩;have H3:=Lib.hid hb;clear hb)
    go_ret
    rw [HR.out]
    exact ⟨rfl,H3.out⟩
  ·have h0:=H1.out (by omega)
   by_cases h1:chkD q=0
   ·have HR:=Lib.hid h1
    have HC:=Lib.hid h0
    rw [h1] at HQ
    change Hid (∀ W,_→Calls _ _ _ _ fun e w'=>e=.returned (.int .i64 0)∧_) at HQ
    clear h0 h1
    go_wp2_with (go_at_call 36;refine (HQ.out _ HN.out).mono ?_;rintro e w3 ⟨rfl,hb⟩;have H3:=Lib.hid (HN.out.trans (hb.mono HN.out.size));clear hb)
    go_roundw
    case rel=>exact ⟨2,by omega,by go_num,Lib.hid (fun _=>HC.out),Lib.hid (fun _=>HR.out),H3,Lib.hid (fun h=>by omega)⟩
    case measure=>simp [intOf]
   ·have hm:=ne_zero h1
    have HR:=Lib.hid (show chk2 p q=chkD q from if_neg (by simpa using h0))
    clear h0 h1
    go_wp2_with (go_at_call 36;refine (HQ.out _ HN.out).mono ?_;rintro e w3 ⟨rfl,hb⟩;have H3:=Lib.hid (HN.out.trans (hb.mono HN.out.size));clear hb)
    go_ret
    rw [HR.out]
    exact ⟨rfl,H3.out⟩
  ·have HR:=Lib.hid (show chk2 p q=0 by unfold chk2;rw [if_neg (by simpa using H1.out (by omega))];exact H2.out (by omega))
   go_wp2
   go_ret
   rw [HR.out]
   exact ⟨rfl,HN.out⟩
end Go.Proofs.YtigapglmipmbeaaGreatDoor
namespace Go.Proofs.YtigapglmipmbeaaGreatDoor
open Go.RowKit Go.Shelf
def cellsM (ls:List L2):List Value:=ls.flatMap fun x=>[.string x.1,.string x.2]
theorem cellsM_cons (x:L2) (l:List L2):cellsM (x::l)=.string x.1::.string x.2::cellsM l:=rfl
theorem cellsM_append (l m:List L2):cellsM (l++m)=cellsM l++cellsM m:=by unfold cellsM;rw [List.flatMap_append]
theorem cellsM_length:∀ ls:List L2,(cellsM ls).length=ls.length*2
 | []=>rfl
 | x::l=>by rw [cellsM_cons,List.length_cons,List.length_cons,cellsM_length l,List.length_cons];omega
theorem cellsM_at:∀ {ls:List L2} {k:Nat} {x:L2},ls[k]?=some x→(cellsM ls)[k*2]?=some (.string x.1)∧(cellsM ls)[k*2+1]?=some (.string x.2)
 | [],k,x,h=>by simp at h
 | y::l,0,x,h=>by
  simp only [List.getElem?_cons_zero,Option.some.injEq] at h
  subst h
  exact ⟨rfl,rfl⟩
 | y::l,k+1,x,h=>by
  have h2:l[k]?=some x:=by simpa using h
  rw [cellsM_cons,show (k+1)*2=k*2+1+1 by omega]
  exact cellsM_at h2
theorem infoM:(Tryz.prog.info? 30).map (fun i=>(i.zero,i.size,i.bytes))=some (some (.agg #[.string ByteArray.empty,.string ByteArray.empty]),2,32):=by kernel_rfl
theorem slice_shape {w:World} {base e size n:Nat} {v:Value} {us:List Value} (h:w.ownsRow base e size v n us):∃ A c,v=.slice A n c:=by
 rcases h.2 with ⟨e1,h0⟩|⟨g,cap,cur,e1,_⟩
 ·exact ⟨none,0,by rw [e1,h0]⟩
 ·exact ⟨_,_,e1⟩
theorem owns_base {w:World} {base base' e size n:Nat} {v:Value} {us:List Value} (h:w.ownsRow base e size v n us) (hb:base'≤base):w.ownsRow base' e size v n us:=by
 refine ⟨h.1,?_⟩
 rcases h.2 with h2|⟨g,cap,cur,e1,h3,h4⟩
 ·exact .inl h2
 ·exact .inr ⟨g,cap,cur,e1,Nat.le_trans hb h3,h4⟩
def OwnM (base:Nat) (w:World) (v:Value) (ls:List L2):Prop:=w.ownsRow base 30 2 v ls.length (cellsM ls)
theorem OwnM.nil (base:Nat) (w:World):OwnM base w (.slice none 0 0) []:=World.ownsRow_nil _ _ _ _
theorem OwnM.row {base:Nat} {w:World} {v:Value} {ls:List L2} (h:OwnM base w v ls) (hl:ls.length≤1000):LRow w v ls:=by
 rcases h.2 with ⟨e,h0⟩|⟨g,cap,cur,e,hb,hh,h1,h2,_⟩
 ·subst e
  have:ls=[]:=List.eq_nil_of_length_eq_zero h0
  subst this
  exact LRow.nil _ _ _
 ·subst e
  refine ⟨_,_,rfl,hl,fun _=>⟨g,0,rfl,(Array.getElem?_eq_some_iff.1 hh).1,fun j x hj=>?_⟩⟩
  obtain ⟨c0,c1⟩:=cellsM_at hj
  have r0:=World.ownsRow.cells h (g:=g) rfl _ _ c0
  have r1:=World.ownsRow.cells h (g:=g) rfl _ _ c1
  rw [show (⟨g,0,none⟩:Addr).add (j*2)=⟨g,0+j*2,none⟩ by unfold Addr.add;split<;>simp_all] at r0
  rw [show (⟨g,0,none⟩:Addr).add (j*2+1)=⟨g,0+(j*2+1),none⟩ by unfold Addr.add;split<;>simp_all] at r1
  exact ⟨r0,r1⟩
theorem OwnM.slice {base:Nat} {w:World} {v:Value} {ls:List L2} (h:OwnM base w v ls):∃ A c,v=.slice A ls.length c:=by
 rcases h.2 with ⟨e,h0⟩|⟨g,cap,cur,e,_⟩
 ·exact ⟨none,0,by rw [e,h0]⟩
 ·exact ⟨_,_,e⟩
theorem OwnM.later {base:Nat} {w w':World} {v:Value} {ls:List L2} (h:OwnM base w v ls) (hb:Below w.heap.size w w'):OwnM base w' v ls:=by
 have hg:w.grownBy w' none:=⟨hb.os,hb.tape,hb.output,hb.size,fun k hk _=>hb.block k hk⟩
 refine World.ownsRow.kept h hg ?_
 cases v.ownBlock with
 | none=>exact .inl rfl
 | some g=>exact .inr (by simp)
theorem OwnM.base {base:Nat} {w:World} {v:Value} {ls:List L2} (h:OwnM base w v ls) {g:Nat} (hg:v.ownBlock=some g):base≤g:=(World.ownsRow.lt h g hg).1
theorem cell_two_new (w:World) (x y:Value) (t:TypeId):∀ j u,[x,y][j]?=some u→(w.alloc (.cells #[x,y] t)).cell? ((⟨w.heap.size,0,none⟩:Addr).add j)=some u:=by
 intro j u hj
 match j,hj with
 | 0,hj =>
  simp at hj
  subst hj
  simp [Addr.add]
 | 1,hj =>
  simp at hj
  subst hj
  simp [Addr.add]
theorem grow_nw {w W W':World} (h:NW w W) (hr:Res w) {row:Option Nat} (hg:W.grownBy W' row) (hrow:∀ r,row=some r→w.heap.size≤r):NW w W':=by
 have hb:Below w.heap.size w W':=h.below.grown hg h.below.size hrow
 exact ⟨hb,hr.below hb⟩
theorem grown_none' {w w':World} (h:Below w.heap.size w w') (row:Option Nat):w.grownBy w' row:=⟨h.os,h.tape,h.output,h.size,fun k hk _=>h.block k hk⟩
theorem own_cells {base n size:Nat} {w:World} {E:TypeId} {v:Value} {us:List Value} (h:w.ownsRow base E size v n us) {r:Nat} (hr:v.ownBlock=some r):∃ cur,w.heap[r]?=some (.cells cur E (0,0)):=by
 rcases h.2 with ⟨e,_⟩|⟨g,cap,cur,e,_,hh,_⟩
 ·subst e;cases hr
 ·subst e
  simp only [Value.ownBlock,Option.some.injEq] at hr
  subst hr
  exact ⟨cur,hh⟩
theorem owns_later {base n size:Nat} {w w':World} {E:TypeId} {v:Value} {us:List Value} (h:w.ownsRow base E size v n us) (hb:Below w.heap.size w w'):w'.ownsRow base E size v n us:=by
 refine World.ownsRow.kept h (grown_none' hb none) ?_
 cases v.ownBlock with
 | none=>exact .inl rfl
 | some g=>exact .inr (by simp)
theorem OwnM.beside {base base' n size:Nat} {w w':World} {E:TypeId} {v u:Value} {us:List Value} {ls:List L2} (h:OwnM base w v ls) (hu:w.ownsRow base' E size u n us) (hE:E≠30) (hg:w.grownBy w' u.ownBlock):OwnM base w' v ls:=by
 refine World.ownsRow.kept h hg ?_
 cases hv:v.ownBlock with
 | none=>exact .inl rfl
 | some g =>
  refine .inr fun e=>?_
  obtain ⟨c1,h1⟩:=own_cells h hv
  obtain ⟨c2,h2⟩:=own_cells hu e.symm
  rw [h1] at h2
  simp only [Option.some.injEq,Obj.cells.injEq] at h2
  exact hE h2.2.1.symm
end Go.Proofs.YtigapglmipmbeaaGreatDoor
namespace Go.Proofs.YtigapglmipmbeaaGreatDoor
theorem insX_go {y x:L2} {l:List L2} (h:ltK y.1 x.1=true):insX (y::l) x=(match insX l x with|.error n=>.error n|.ok m=>.ok (y::m)):=by
 conv=>lhs;unfold insX
 rw [if_pos h]
 rfl
theorem insX_new:∀ {a:List L2} {x:L2} {k:Nat},k≤a.length→(∀ (j:Nat) y,j < k→a[j]?=some y→ltK y.1 x.1=true)→(∀ y,a[k]?=some y→ltK y.1 x.1=false∧y.1≠x.1)→insX a x=.ok (a.take k++x::a.drop k)
 | [],x,k,hk,_,_=>by
  obtain rfl:k=0:=by simpa using hk
  rfl
 | y::l,x,0,_,_,h=>by
  obtain ⟨h1,h2⟩:=h y rfl
  unfold insX
  rw [if_neg (by rw [h1];decide),if_neg h2]
  rfl
 | y::l,x,k+1,hk,h,h2=>by
  rw [insX_go (h 0 y (by omega) rfl),insX_new (a:=l) (k:=k) (by simpa using hk) (fun j z hj hz=>h (j+1) z (by omega) (by simpa using hz)) (fun z hz=>h2 z (by simpa using hz))]
  rfl
theorem insX_old:∀ {a:List L2} {x y:L2} {k:Nat},(∀ (j:Nat) z,j < k→a[j]?=some z→ltK z.1 x.1=true)→a[k]?=some y→ltK y.1 x.1=false→y.1=x.1 →
  insX a x=(match plX y.2 x.2 with|.error n=>.error n|.ok s=>.ok (a.set k (y.1,s)))
 | [],x,y,k,_,h,_,_=>by simp at h
 | z::l,x,y,0,_,h,h1,h2=>by
  simp only [List.getElem?_cons_zero,Option.some.injEq] at h
  subst h
  unfold insX
  rw [if_neg (by rw [h1];decide),if_pos h2]
  cases plX z.2 x.2<;>rfl
 | z::l,x,y,k+1,h,hk,h1,h2=>by
  rw [insX_go (h 0 z (by omega) rfl),insX_old (a:=l) (k:=k) (fun j u hj hu=>h (j+1) u (by omega) (by simpa using hu)) (by simpa using hk) h1 h2]
  cases plX y.2 x.2<;>rfl
theorem collX_step (a:List L2) (x:L2) (l:List L2) {b:List L2} (h:insX a x=.ok b):collX a (x::l)=collX b l:=by
 simp only [collX,h]
theorem collX_fail (a:List L2) (x:L2) (l:List L2) {n:Nat} (h:insX a x=.error n):collX a (x::l)=.error n:=by
 simp only [collX,h]
end Go.Proofs.YtigapglmipmbeaaGreatDoor
namespace Go.Proofs.YtigapglmipmbeaaGreatDoor
open Lim
theorem mass_two (x:L2) (l:List L2) (k:ByteArray):massD (valsD (x::l)) k=(if x.1=k then valQ x.2.data.toList else 0)+massD (valsD l) k:=rfl
theorem sum_two (x:L2) (l:List L2):sumBy (fun e=>e.2) (valsD (x::l))=valQ x.2.data.toList+sumBy (fun e=>e.2) (valsD l):=rfl
theorem insX_spec:∀ {a b:List L2} {x:L2},insX a x=.ok b→Asc (a.map (·.1))→OkV a→errQ x.2.data.toList=0 →
  Asc (b.map (·.1))∧OkV b∧(∀ k,k∈b.map (·.1)↔k∈a.map (·.1)∨k=x.1)∧(∀ k,massD (valsD b) k=massD (valsD a) k+(if x.1=k then valQ x.2.data.toList else 0)) ∧
  sumBy (fun e=>e.2) (valsD b)=sumBy (fun e=>e.2) (valsD a)+valQ x.2.data.toList
 | [],b,x,h,_,_,hx=>by
  cases h
  refine ⟨List.pairwise_singleton _ _,fun y hy=>by rw [List.mem_singleton.1 hy];exact hx,fun k=>by simp,fun k=>?_,?_⟩
  ·rw [mass_two];exact Rat.add_comm _ _
  ·rw [sum_two];exact Rat.add_comm _ _
 | y::l,b,x,h,ha,ho,hx=>by
  have ha2:=List.pairwise_cons.1 ha
  unfold insX at h
  split at h
  ·rename_i hlt
   cases hm:insX l x with
   | error n=>rw [hm] at h;cases h
   | ok m =>
    rw [hm] at h
    cases h
    obtain ⟨r1,r2,r3,r4,r5⟩:=insX_spec hm ha2.2 (fun z hz=>ho z (by simp [hz])) hx
    refine ⟨List.pairwise_cons.2 ⟨fun k hk=>?_,r1⟩,fun z hz=>?_,fun k=>?_,fun k=>?_,?_⟩
    ·rcases (r3 k).1 hk with h1|rfl
     ·exact ha2.1 k h1
     ·exact hlt
    ·rcases List.mem_cons.1 hz with rfl|hz
     ·exact ho z (by simp)
     ·exact r2 z hz
    ·rw [List.map_cons,List.mem_cons,r3,List.map_cons,List.mem_cons,or_assoc]
    ·rw [mass_two,mass_two,r4,Rat.add_assoc]
    ·rw [sum_two,sum_two,r5,Rat.add_assoc]
  ·rename_i hlt
   split at h
   ·rename_i he
    cases hs:plX y.2 x.2 with
    | error n=>rw [hs] at h;cases h
    | ok s =>
     rw [hs] at h
     cases h
     rw [plX_val (ho y (by simp)) hx] at hs
     obtain ⟨e1,e2,_⟩:=ovT_ok hs
     refine ⟨ha,fun z hz=>?_,fun k=>?_,fun k=>?_,?_⟩
     ·rcases List.mem_cons.1 hz with rfl|hz
      ·exact e1
      ·exact ho z (by simp [hz])
     ·rw [List.map_cons,List.mem_cons,List.map_cons,List.mem_cons]
      constructor
      ·exact .inl
      ·rintro (h1|rfl)
       ·exact h1
       ·exact .inl he.symm
     ·rw [mass_two,mass_two]
      dsimp only
      rw [e2,he]
      split<;>grind
     ·rw [sum_two,sum_two]
      dsimp only
      rw [e2]
      grind
   ·rename_i he
    cases h
    have hlt2:ltK x.1 y.1=true:=ltK_total (by simpa using hlt) he
    refine ⟨List.pairwise_cons.2 ⟨fun k hk=>?_,ha⟩,fun z hz=>?_,fun k=>?_,fun k=>?_,?_⟩
    ·rcases List.mem_cons.1 hk with rfl|hk
     ·exact hlt2
     ·exact ltK_trans hlt2 (ha2.1 k hk)
    ·rcases List.mem_cons.1 hz with rfl|hz
     ·exact hx
     ·exact ho z hz
    ·rw [List.map_cons,List.mem_cons];exact or_comm
    ·rw [mass_two];exact Rat.add_comm _ _
    ·rw [sum_two];exact Rat.add_comm _ _
theorem collX_spec:∀ {l a b:List L2},collX a l=.ok b→Asc (a.map (·.1))→OkV a→OkV l →
  Asc (b.map (·.1))∧OkV b∧(∀ k,k∈b.map (·.1)↔k∈a.map (·.1)∨k∈l.map (·.1))∧(∀ k,massD (valsD b) k=massD (valsD a) k+massD (valsD l) k) ∧
  sumBy (fun e=>e.2) (valsD b)=sumBy (fun e=>e.2) (valsD a)+sumBy (fun e=>e.2) (valsD l)
 | [],a,b,h,ha,ho,_=>by
  cases h
  exact ⟨ha,ho,fun k=>by simp,fun k=>(Rat.add_zero _).symm,(Rat.add_zero _).symm⟩
 | x::l,a,b,h,ha,ho,hl=>by
  unfold collX at h
  cases hi:insX a x with
  | error n=>rw [hi] at h;cases h
  | ok c =>
   rw [hi] at h
   obtain ⟨r1,r2,r3,r4,r5⟩:=insX_spec hi ha ho (hl x (by simp))
   obtain ⟨q1,q2,q3,q4,q5⟩:=collX_spec h r1 r2 fun y hy=>hl y (by simp [hy])
   refine ⟨q1,q2,fun k=>?_,fun k=>?_,?_⟩
   ·rw [q3,r3,List.map_cons,List.mem_cons,or_assoc]
   ·rw [q4,r4,mass_two,Rat.add_assoc]
   ·rw [q5,r5,sum_two,Rat.add_assoc]
def Den (D:Nat) (l:List L2):Prop:=∀ x∈l,errQ x.2.data.toList=0∧HasDen D (valQ x.2.data.toList)∧0≤valQ x.2.data.toList
theorem Den.sum {D:Nat} {l:List L2} (h:Den D l):0≤sumBy (fun e=>e.2) (valsD l):=by
 rw [sum_vals]
 exact sumBy_nonneg fun x hx=>(h x hx).2.2
theorem insX_fit {D M:Nat} (hD:0 < D) (hM:0 < M) (hk:M*D < 10 ^ maxD):∀ {a:List L2} {x:L2},Den D a→errQ x.2.data.toList=0→HasDen D (valQ x.2.data.toList)→0≤valQ x.2.data.toList →
  sumBy (fun e=>e.2) (valsD a)+valQ x.2.data.toList≤(M:Rat)→∃ b,insX a x=.ok b∧Den D b
 | [],x,_,h1,h2,h3,_=>⟨[x],rfl,fun y hy=>by rw [List.mem_singleton.1 hy];exact ⟨h1,h2,h3⟩⟩
 | y::l,x,ha,h1,h2,h3,hs=>by
  have hl:Den D l:=fun z hz=>ha z (by simp [hz])
  have hy:=ha y (by simp)
  rw [sum_two] at hs
  have hn:=hl.sum
  unfold insX
  split
  ·obtain ⟨b,e,hb⟩:=insX_fit hD hM hk hl h1 h2 h3 (by have:=hy.2.2;grind)
   rw [e]
   exact ⟨_,rfl,fun z hz=>by
    rcases List.mem_cons.1 hz with rfl|hz
    ·exact hy
    ·exact hb z hz⟩
  ·split
   ·have hf:fits (valQ y.2.data.toList+valQ x.2.data.toList)=true:=fits_sz.2 ((hy.2.1.add h2).sz hD (by have:=hy.2.2;grind) (M:=M) (by grind) hk hM)
    rw [plX_val hy.1 h1,ovT_fit hf]
    refine ⟨_,rfl,fun z hz=>?_⟩
    rcases List.mem_cons.1 hz with rfl|hz
    ·dsimp only
     rw [val_rT hf]
     exact ⟨err_rT hf,hy.2.1.add h2,by have:=hy.2.2;grind⟩
    ·exact hl z hz
   ·refine ⟨_,rfl,fun z hz=>?_⟩
    rcases List.mem_cons.1 hz with rfl|hz
    ·exact ⟨h1,h2,h3⟩
    ·exact ha z hz
theorem collX_fit {D M:Nat} (hD:0 < D) (hM:0 < M) (hk:M*D < 10 ^ maxD):∀ {l a:List L2},Asc (a.map (·.1))→Den D a→Den D l→sumBy (fun e=>e.2) (valsD a)+sumBy (fun e=>e.2) (valsD l)≤(M:Rat)→∃ b,collX a l=.ok b∧Den D b
 | [],a,_,ha,_,_=>⟨a,rfl,ha⟩
 | x::l,a,hp,ha,hl,hs=>by
  have hl2:Den D l:=fun z hz=>hl z (by simp [hz])
  have hx:=hl x (by simp)
  rw [sum_two] at hs
  have hn:=hl2.sum
  obtain ⟨c,e,hc⟩:=insX_fit hD hM hk ha hx.1 hx.2.1 hx.2.2 (by grind)
  obtain ⟨r1,_,_,_,r5⟩:=insX_spec e hp (fun z hz=>(ha z hz).1) hx.1
  obtain ⟨b,e2,hb⟩:=collX_fit hD hM hk r1 hc hl2 (by rw [r5];grind)
  exact ⟨b,by unfold collX;rw [e];exact e2,hb⟩
theorem zero_text {s:ByteArray} (h:errQ s.data.toList=0):s=zT↔valQ s.data.toList=0:=by
 constructor
 ·intro e;rw [e,val_zT]
 ·intro e
  rw [ok_rT h,e]
  exact IsT.zero.text.symm
theorem keep_mass:∀ {l:List L2},OkV l→(∀ k,massD (valsD (keepX l)) k=massD (valsD l) k)∧sumBy (fun e=>e.2) (valsD (keepX l))=sumBy (fun e=>e.2) (valsD l)
 | [],_=>⟨fun _=>rfl,rfl⟩
 | x::l,h=>by
  obtain ⟨r1,r2⟩:=keep_mass (l:=l) fun y hy=>h y (by simp [hy])
  by_cases hz:x.2=zT
  ·have e:keepX (x::l)=keepX l:=by unfold keepX;rw [List.filter_cons_of_neg (by simpa using hz)]
   have hv:=(zero_text (h x (by simp))).1 hz
   rw [e]
   refine ⟨fun k=>?_,?_⟩
   ·rw [mass_two,hv,r1];split<;>grind
   ·rw [sum_two,hv,r2];grind
  ·have e:keepX (x::l)=x::keepX l:=by unfold keepX;rw [List.filter_cons_of_pos (by simpa using hz)]
   rw [e]
   refine ⟨fun k=>?_,?_⟩
   ·rw [mass_two,mass_two,r1]
   ·rw [sum_two,sum_two,r2]
theorem posL_zero:∀ {l:List L2},posL l=0↔∀ x∈l,posE x.2=0
 | []=>by simp [posL]
 | x::l=>by
  unfold posL
  simp only [List.mem_cons,forall_eq_or_imp]
  split
  ·rename_i h;exact ⟨fun h2=>absurd h2 h,fun h2=>absurd h2.1 h⟩
  ·rename_i h
   rw [posL_zero]
   exact ⟨fun h2=>⟨Classical.byContradiction h,h2⟩,fun h2=>h2.2⟩
theorem makeX_ok {l out:List L2} (h:makeX l=.ok out):chkD out=0∧(∀ x∈l,posE x.2=0)∧∀ k,massD (valsD out) k=massD (valsD l) k:=by
 unfold makeX at h
 split at h
 ·cases h
 ·rename_i h1
  have h1:=posL_zero.1 (Classical.byContradiction h1)
  cases hc:collX [] l with
  | error n=>rw [hc] at h;cases h
  | ok a =>
   rw [hc] at h
   unfold doneX at h
   dsimp only at h
   split at h
   ·cases h
   ·rename_i h2
    cases h
    have hl:OkV l:=fun x hx=>(posE_zero.1 (h1 x hx)).1
    obtain ⟨r1,r2,r3,r4,r5⟩:=collX_spec hc List.Pairwise.nil (fun x hx=>by cases hx) hl
    refine ⟨Classical.byContradiction h2,h1,fun k=>?_⟩
    rw [(keep_mass r2).1,r4]
    exact Rat.zero_add _
theorem makeX_fit {l:List L2} {D:Nat} (hD:0 < D) (hk:D < 10 ^ maxD) (hl:Den D l) (hs:sumBy (fun e=>e.2) (valsD l)=1):∃ out,makeX l=.ok out:=by
 obtain ⟨a,e,ha⟩:=collX_fit hD Nat.one_pos (by omega) (a:=[]) List.Pairwise.nil (fun x hx=>absurd hx (by simp)) hl (M:=1) (by
  rw [hs,show sumBy (fun e:ByteArray × Rat=>e.2) (valsD [])=0 from rfl,Rat.zero_add]
  exact Rat.le_refl)
 obtain ⟨r1,r2,r3,r4,r5⟩:=collX_spec e List.Pairwise.nil (fun x hx=>by cases hx) fun x hx=>(hl x hx).1
 have hsub:∀ x∈keepX a,x∈a∧x.2≠zT:=fun x hx=>by simpa [keepX] using hx
 have hc:chkD (keepX a)=0:=by
  refine chkD_of (fun x hx=>?_) (List.Pairwise.sublist (List.Sublist.map _ List.filter_sublist) r1) ?_ hD hk fun x hx=>(ha x (hsub x hx).1).2.1
  ·obtain ⟨h1,h2⟩:=hsub x hx
   obtain ⟨e1,e2,e3⟩:=ha x h1
   refine ⟨e1,?_⟩
   have hne:valQ x.2.data.toList≠0:=fun h=>h2 ((zero_text e1).2 h)
   grind
  ·rw [(keep_mass r2).2,r5,hs]
   exact Rat.zero_add (1:Rat)
 refine ⟨keepX a,?_⟩
 unfold makeX
 rw [if_neg (by simp only [ne_eq,Decidable.not_not];exact posL_zero.2 fun x hx=>posE_zero.2 ⟨(hl x hx).1,(hl x hx).2.2⟩),e]
 unfold doneX
 dsimp only
 rw [if_neg (by simpa using hc)]
def timesD (l:DL) (b:Rat):DL:=l.map fun e=>(e.1,e.2*b)
theorem scaleX_ok {b:ByteArray} (hb:errQ b.data.toList=0):∀ {l m:List L2},scaleX l b=.ok m→OkV l→OkV m∧valsD m=timesD (valsD l) (valQ b.data.toList)
 | [],m,h,_=>by cases h;exact ⟨fun x hx=>absurd hx (by simp),rfl⟩
 | x::l,m,h,hl=>by
  unfold scaleX at h
  cases hm:mulX x.2 b with
  | error n=>rw [hm] at h;cases h
  | ok p =>
   rw [hm] at h
   dsimp only at h
   rw [mulX_val (hl x (by simp)) hb] at hm
   obtain ⟨e1,e2,_⟩:=ovT_ok hm
   cases hs:scaleX l b with
   | error n=>rw [hs] at h;cases h
   | ok r =>
    rw [hs] at h
    cases h
    obtain ⟨r1,r2⟩:=scaleX_ok hb hs fun y hy=>hl y (by simp [hy])
    refine ⟨fun y hy=>?_,?_⟩
    ·rcases List.mem_cons.1 hy with rfl|hy
     ·exact e1
     ·exact r1 y hy
    ·show (x.1,valQ p.data.toList)::valsD r=(x.1,valQ x.2.data.toList*valQ b.data.toList)::timesD (valsD l) (valQ b.data.toList)
     rw [r2,e2]
theorem scaleX_fit {b:ByteArray} {j k:Nat} (hb:errQ b.data.toList=0) (sb:Sz j (valQ b.data.toList)) (hjk:k+j≤maxD):∀ {l:List L2},OkV l→(∀ x∈l,Sz k (valQ x.2.data.toList))→∃ m,scaleX l b=.ok m
 | [],_,_=>⟨[],rfl⟩
 | x::l,h,hs=>by
  obtain ⟨m,e⟩:=scaleX_fit hb sb hjk (l:=l) (fun y hy=>h y (by simp [hy])) fun y hy=>hs y (by simp [hy])
  have hf:fits (valQ x.2.data.toList*valQ b.data.toList)=true:=fits_sz.2 (((hs x (by simp)).mul sb).mono hjk)
  refine ⟨(x.1,rT (valQ x.2.data.toList*valQ b.data.toList))::m,?_⟩
  unfold scaleX
  rw [mulX_val (h x (by simp)) hb,ovT_fit hf,e]
theorem pairX_ok {b:List L2} (hb:OkV b):∀ {a m:List L2},pairX a b=.ok m→OkV a→OkV m∧valsD m=pairsD joinT (valsD a) (valsD b)
 | [],m,h,_=>by cases h;exact ⟨fun x hx=>absurd hx (by simp),rfl⟩
 | x::l,m,h,hl=>by
  unfold pairX at h
  cases hm:scaleX b x.2 with
  | error n=>rw [hm] at h;cases h
  | ok p =>
   rw [hm] at h
   dsimp only at h
   obtain ⟨s1,s2⟩:=scaleX_ok (hl x (by simp)) hm hb
   cases hs:pairX l b with
   | error n=>rw [hs] at h;cases h
   | ok r =>
    rw [hs] at h
    cases h
    obtain ⟨r1,r2⟩:=pairX_ok hb hs fun y hy=>hl y (by simp [hy])
    refine ⟨fun y hy=>?_,?_⟩
    ·rcases List.mem_append.1 hy with hy|hy
     ·obtain ⟨z,hz,rfl⟩:=List.mem_map.1 hy
      exact s1 z hz
     ·exact r1 y hy
    ·have e1:valsD (p.map (fun y=>(joinT x.1 y.1,y.2))++r)=(valsD p).map (fun e=>(joinT x.1 e.1,e.2))++valsD r:=by
      unfold valsD
      rw [List.map_append,List.map_map,List.map_map]
      rfl
     rw [e1,r2,s2]
     unfold timesD pairsD
     rw [List.map_map]
     show _=(List.flatMap _ ((x.1,valQ x.2.data.toList)::valsD l))
     rw [List.flatMap_cons]
     rfl
theorem pairX_fit {b:List L2} {j k:Nat} (hb:OkV b) (sb:∀ x∈b,Sz k (valQ x.2.data.toList)) (hjk:k+j≤maxD):∀ {a:List L2},OkV a→(∀ x∈a,Sz j (valQ x.2.data.toList))→∃ m,pairX a b=.ok m
 | [],_,_=>⟨[],rfl⟩
 | x::l,h,hs=>by
  obtain ⟨m,e⟩:=pairX_fit hb sb hjk (a:=l) (fun y hy=>h y (by simp [hy])) fun y hy=>hs y (by simp [hy])
  obtain ⟨r,e2⟩:=scaleX_fit (h x (by simp)) (hs x (by simp)) hjk hb sb
  refine ⟨r.map (fun y=>(joinT x.1 y.1,y.2))++m,?_⟩
  unfold pairX
  rw [e2,e]
theorem chk2_ok {a b:List L2} (ha:chkD a=0) (hb:chkD b=0):chk2 a b=0:=by
 unfold chk2
 rw [ha,hb]
 rfl
structure Dst (a:Nat) (ls:List L2):Prop where
 ok:chkD ls=0
 den:∃ D,0 < D∧D < 10 ^ a∧∀ x∈ls,HasDen D (valX x)
section
variable {a b:Nat} {ls la lb:List L2}
theorem Dst.isD (h:Dst a ls):IsD (valsD ls):=(chkD_zero h.ok).1
theorem Dst.okV (h:Dst a ls):OkV ls:=(chkD_zero h.ok).2.1
theorem Dst.asc (h:Dst a ls):Asc (ls.map (·.1)):=(chkD_zero h.ok).2.2
theorem Dst.once (h:Dst a ls):(ls.map (·.1)).Nodup:=h.asc.nodup
theorem Dst.pos (h:Dst a ls) {x:L2} (hx:x∈ls):0 < valX x:=h.isD.plus (x.1,valX x) (List.mem_map.2 ⟨x,hx,rfl⟩)
theorem Dst.one (h:Dst a ls) {x:L2} (hx:x∈ls):valX x≤1:=by
 have h1:=h.isD.one
 rw [sum_vals] at h1
 have h2:=le_sumBy (f:=fun x:L2=>valX x) (fun y hy=>Rat.le_of_lt (h.pos hy)) hx
 rw [← h1]
 exact h2
theorem Dst.sz (h:Dst a ls) {x:L2} (hx:x∈ls):Sz a (valX x):=by
 obtain ⟨D,h1,h2,h3⟩:=h.den
 exact (h3 x hx).sz h1 (Rat.le_of_lt (h.pos hx)) (M:=1) (h.one hx) (by omega) Nat.one_pos
theorem Dst.light {n k:Nat} (h:chkD ls=0) (hl:ls.length≤n) (hs:∀ x∈ls,x.2.size≤k):Dst (k*n+1) ls:=by
 obtain ⟨_,ho,_⟩:=chkD_zero h
 have hz:∀ x∈ls,Sz k (valX x):=fun x hx=>sz_of_text (ho x hx) (by rw [← size_list];exact hs x hx)
 refine ⟨h,denB valX ls,denB_pos ls,Nat.lt_of_lt_of_le (denB_lt hz) (pow_le ?_),fun x hx=>denB_has hx⟩
 have:=Nat.mul_le_mul_left k hl
 omega
theorem mass_has {D:Nat} (h:∀ x∈ls,HasDen D (valX x)) (k:ByteArray):HasDen D (massD (valsD ls) k):=by
 refine HasDen.sum fun e he=>?_
 obtain ⟨x,hx,rfl⟩:=List.mem_map.1 he
 dsimp only
 split
 ·exact h x hx
 ·exact HasDen.zero D
theorem make_dst (hl:∃ D,0 < D∧D < 10 ^ a∧Den D ls) (ha:a≤maxD) (hs:sumBy (fun e=>e.2) (valsD ls)=1):∃ out,makeX ls=.ok out∧Dst a out∧∀ k,massD (valsD out) k=massD (valsD ls) k:=by
 obtain ⟨D,h1,h2,h3⟩:=hl
 obtain ⟨out,e⟩:=makeX_fit h1 (Nat.lt_of_lt_of_le h2 (pow_le ha)) h3 hs
 obtain ⟨r1,_,r3⟩:=makeX_ok e
 refine ⟨out,e,⟨r1,D,h1,h2,fun x hx=>?_⟩,r3⟩
 have e1:valX x=massD (valsD out) x.1:=(massD_at (chkD_zero r1).1.once (e:=(x.1,valX x)) (List.mem_map.2 ⟨x,hx,rfl⟩)).symm
 rw [e1,r3]
 exact mass_has (fun y hy=>(h3 y hy).2.1) x.1
theorem vals_mem {l:List L2} {x:L2} (hx:x∈l):(x.1,valX x)∈valsD l:=List.mem_map.2 ⟨x,hx,rfl⟩
theorem prod_dst (ha:Dst a la) (hb:Dst b lb) (hl:la.length*lb.length≤4096) (hm:a+b≤maxD) :
  ∃ out,prodX la lb=.ok out∧Dst (a+b) out∧∀ k,massD (valsD out) k=massD (pairsD joinT (valsD la) (valsD lb)) k:=by
 obtain ⟨x,ex⟩:=pairX_fit hb.okV (fun x hx=>hb.sz hx) (j:=a) (by omega) ha.okV fun x hx=>ha.sz hx
 obtain ⟨x1,x2⟩:=pairX_ok hb.okV ex ha.okV
 obtain ⟨D,d1,d2,d3⟩:=ha.den
 obtain ⟨E,e1,e2,e3⟩:=hb.den
 have hden:Den (D*E) x:=by
  intro z hz
  have hm2:=vals_mem hz
  rw [x2] at hm2
  obtain ⟨e,he,h2⟩:=List.mem_flatMap.1 hm2
  obtain ⟨e',he',e5⟩:=List.mem_map.1 h2
  obtain ⟨u,hu,rfl⟩:=List.mem_map.1 he
  obtain ⟨v,hv,rfl⟩:=List.mem_map.1 he'
  have e6:valX z=valX v*valX u:=(Prod.mk.inj e5).2.symm
  refine ⟨x1 z hz,?_,?_⟩
  ·show HasDen _ (valX z)
   rw [e6,Rat.mul_comm]
   exact (d3 u hu).mul (e3 v hv)
  ·show 0≤valX z
   rw [e6]
   exact Rat.mul_nonneg (Rat.le_of_lt (hb.pos hv)) (Rat.le_of_lt (ha.pos hu))
 have hsum:sumBy (fun e=>e.2) (valsD x)=1:=by
  rw [x2,sum_pairs,ha.isD.one,hb.isD.one]
  grind
 obtain ⟨out,eo,ho,hmass⟩:=make_dst ⟨D*E,Nat.mul_pos d1 e1,mul_lt_pow d2 e2,hden⟩ hm hsum
 refine ⟨out,?_,ho,fun k=>by rw [hmass,x2]⟩
 unfold prodX
 rw [chk2_ok ha.ok hb.ok,if_neg (by decide),if_neg (by omega),ex]
 exact eo
end
end Go.Proofs.YtigapglmipmbeaaGreatDoor
namespace Go.Proofs.YtigapglmipmbeaaGreatDoor
open Go.RowKit Go.Shelf
def LRowW (w:World) (v:Value) (ls:List L2):Prop :=
 ∃ A c,v=.slice A ls.length c∧ls.length≤maxLen∧(0 < ls.length→∃ b o,A=some ⟨b,o,none⟩∧b < w.heap.size ∧
  ∀ (j:Nat) (x:L2),ls[j]?=some x→w.cell? ⟨b,o+j*2,none⟩=some (.string x.1)∧w.cell? ⟨b,o+j*2+1,none⟩=some (.string x.2))
theorem LRowW.below {w w':World} {v:Value} {ls:List L2} (h:LRowW w v ls) (hb:Below w.heap.size w w'):LRowW w' v ls:=by
 obtain ⟨A,c,e,h1,h2⟩:=h
 refine ⟨A,c,e,h1,fun h0=>?_⟩
 obtain ⟨b,o,e2,hlt,hc⟩:=h2 h0
 refine ⟨b,o,e2,Nat.lt_of_lt_of_le hlt hb.size,fun j x hj=>?_⟩
 obtain ⟨c0,c1⟩:=hc j x hj
 exact ⟨by rw [hb.cell (p:=⟨b,o+j*2,none⟩) hlt];exact c0,by rw [hb.cell (p:=⟨b,o+j*2+1,none⟩) hlt];exact c1⟩
theorem LRow.wide {w:World} {v:Value} {ls:List L2} (h:LRow w v ls):LRowW w v ls:=by
 obtain ⟨A,c,e,h1,h2⟩:=h
 exact ⟨A,c,e,by unfold maxLen;omega,h2⟩
theorem LRowW.row {w:World} {v:Value} {ls:List L2} (h:LRowW w v ls) (hl:ls.length≤1000):LRow w v ls:=by
 obtain ⟨A,c,e,_,h2⟩:=h
 exact ⟨A,c,e,hl,h2⟩
theorem LRowW.at {w W:World} {v:Value} {ls:List L2} (h:LRowW w v ls) (hb:Below w.heap.size w W) {k:Nat} {x:L2} (hx:ls[k]?=some x) :
  ∃ b o c,v=.slice (some ⟨b,o,none⟩) ls.length c∧b < W.heap.size∧W.cell? ⟨b,o+k*2,none⟩=some (.string x.1)∧W.cell? ⟨b,o+k*2+1,none⟩=some (.string x.2):=by
 obtain ⟨A,c,rfl,_,hc⟩:=h
 obtain ⟨b,o,rfl,hlt,hcell⟩:=hc (by have:=(List.getElem?_eq_some_iff.1 hx).1;omega)
 obtain ⟨c0,c1⟩:=hcell k x hx
 exact ⟨b,o,c,rfl,Nat.lt_of_lt_of_le hlt hb.size,by rw [hb.cell (p:=⟨b,o+k*2,none⟩) hlt];exact c0,by rw [hb.cell (p:=⟨b,o+k*2+1,none⟩) hlt];exact c1⟩
def LLRow (w:World) (v:Value) (lss:List (List L2)):Prop:=∃ b c,v=.slice (some ⟨b,0,none⟩) lss.length c∧b < w.heap.size∧lss.length≤8 ∧
 ∀ (j:Nat) (ls:List L2),lss[j]?=some ls→∃ u,w.cell? ⟨b,j,none⟩=some u∧LRowW w u ls
theorem LLRow.ofBlk {w:World} {b:Nat} {t:TypeId} {vs:List (Value × List L2)} {n c:Nat} (h:Blk w b t (vs.map (·.1)).toArray) (hn:n=vs.length) (hl:vs.length≤8) (hv:∀ x∈vs,LRowW w x.1 x.2):LLRow w (.slice (some ⟨b,0,none⟩) n c) (vs.map (·.2)):=by
 subst hn
 refine ⟨b,c,by rw [List.length_map],h.lt,by rw [List.length_map];exact hl,fun j ls hj=>?_⟩
 rw [List.getElem?_map] at hj
 cases hx:vs[j]? with
 | none=>rw [hx] at hj;cases hj
 | some x =>
  rw [hx] at hj
  cases hj
  exact ⟨x.1,by rw [h.cell];simp [hx],hv x (List.mem_of_getElem? hx)⟩
def lightD (n k p:Nat) (ls:List L2):Bool:=decide (ls.length≤n)&&ls.all fun x=>decide (x.1.size≤k)&&decide (x.2.size≤p)
theorem lightD_len {n k p:Nat} {ls:List L2} (h:¬ ls.length≤n):lightD n k p ls=false:=by unfold lightD;rw [decide_eq_false h];rfl
theorem lightD_at {n k p j:Nat} {x:L2} {ls:List L2} (hx:ls[j]?=some x) (h:¬ (x.1.size≤k∧x.2.size≤p)):lightD n k p ls=false:=by
 unfold lightD
 have:ls.all (fun x=>decide (x.1.size≤k)&&decide (x.2.size≤p))=false:=by
  rw [List.all_eq_false]
  refine ⟨x,List.mem_of_getElem? hx,?_⟩
  simp only [Bool.and_eq_true,decide_eq_true_eq]
  exact h
 rw [this,Bool.and_false]
theorem lightD_of {n k p:Nat} {ls:List L2} (h:ls.length≤n) (h2:∀ (j:Nat) x,ls[j]?=some x→x.1.size≤k∧x.2.size≤p):lightD n k p ls=true:=by
 unfold lightD
 rw [decide_eq_true h,Bool.true_and,List.all_eq_true]
 intro x hx
 obtain ⟨j,hj⟩:=List.getElem?_of_mem hx
 have:=h2 j x hj
 simp [this.1,this.2]
theorem lightD_iff {n k p:Nat} {ls:List L2}:lightD n k p ls=true↔ls.length≤n∧∀ x∈ls,x.1.size≤k∧x.2.size≤p:=by
 unfold lightD
 rw [Bool.and_eq_true,decide_eq_true_eq,List.all_eq_true]
 simp only [Bool.and_eq_true,decide_eq_true_eq]
def lightsD (n k p:Nat) (lss:List (List L2)):Bool:=lss.all (lightD n k p)
theorem lightsD_at {n k p j:Nat} {ls:List L2} {lss:List (List L2)} (hx:lss[j]?=some ls) (h:lightD n k p ls=false):lightsD n k p lss=false:=by
 unfold lightsD
 rw [List.all_eq_false]
 exact ⟨ls,List.mem_of_getElem? hx,by rw [h];decide⟩
theorem lightsD_of {n k p:Nat} {lss:List (List L2)} (h:∀ (j:Nat) ls,lss[j]?=some ls→lightD n k p ls=true):lightsD n k p lss=true:=by
 unfold lightsD
 rw [List.all_eq_true]
 intro ls hl
 obtain ⟨j,hj⟩:=List.getElem?_of_mem hl
 exact h j ls hj
end Go.Proofs.YtigapglmipmbeaaGreatDoor
namespace Go.Proofs.YtigapglmipmbeaaGreatDoor
open Lim
def oneM (n k p:Nat) (l:List L2):Option (List L2) :=
 if lightD n k p l=true then (match makeX l with
  | .error _=>none
  | .ok d=>if lightD n k p d=true then some d else none) else none
def madeD (n k p:Nat):List (List L2)→Option (List (List L2))
 | []=>some []
 | l::t=>match oneM n k p l with
  | none=>none
  | some d=>match madeD n k p t with
   | none=>none
   | some r=>some (d::r)
theorem oneM_some {n k p:Nat} {l d:List L2}:oneM n k p l=some d↔lightD n k p l=true∧makeX l=.ok d∧lightD n k p d=true:=by
 unfold oneM
 constructor
 ·intro h
  split at h
  ·rename_i h1
   split at h
   ·cases h
   ·rename_i e he
    split at h
    ·rename_i h2;cases h;exact ⟨h1,he,h2⟩
    ·cases h
  ·cases h
 ·rintro ⟨h1,h2,h3⟩
  rw [if_pos h1,h2]
  dsimp only
  rw [if_pos h3]
theorem madeD_none {n k p:Nat}:∀ {lss:List (List L2)} {j:Nat} {l:List L2},lss[j]?=some l→oneM n k p l=none→madeD n k p lss=none
 | [],j,l,h,_=>by simp at h
 | a::t,0,l,h,h2=>by
  simp only [List.getElem?_cons_zero,Option.some.injEq] at h
  subst h
  simp only [madeD,h2]
 | a::t,j+1,l,h,h2=>by
  have:=madeD_none (lss:=t) (j:=j) (by simpa using h) h2
  simp only [madeD,this]
  cases oneM n k p a<;>rfl
theorem madeD_some {n k p:Nat}:∀ {lss outs:List (List L2)},lss.length=outs.length→(∀ (j:Nat) l d,lss[j]?=some l→outs[j]?=some d→oneM n k p l=some d)→madeD n k p lss=some outs
 | [],[],_,_=>rfl
 | [],_::_,h,_=>by simp at h
 | _::_,[],h,_=>by simp at h
 | a::t,d::r,hl,h=>by
  have h1:=h 0 a d rfl rfl
  have h2:=madeD_some (lss:=t) (outs:=r) (by simpa using hl) fun j l e hl he=>h (j+1) l e (by simpa using hl) (by simpa using he)
  simp only [madeD,h1,h2]
theorem madeD_spec {n k p:Nat}:∀ {lss outs:List (List L2)},madeD n k p lss=some outs→outs.length=lss.length∧∀ d∈outs,lightD n k p d=true∧Dst (p*n+1) d
 | [],outs,h=>by
  cases h
  exact ⟨rfl,fun d hd=>by cases hd⟩
 | a::t,outs,h=>by
  simp only [madeD] at h
  cases h1:oneM n k p a with
  | none=>rw [h1] at h;cases h
  | some d =>
   rw [h1] at h
   cases h2:madeD n k p t with
   | none=>rw [h2] at h;cases h
   | some r =>
    rw [h2] at h
    cases h
    obtain ⟨r1,r2⟩:=madeD_spec h2
    obtain ⟨o1,o2,o3⟩:=oneM_some.1 h1
    refine ⟨by simp [r1],fun e he=>?_⟩
    rcases List.mem_cons.1 he with rfl|he
    ·obtain ⟨l1,l2⟩:=lightD_iff.1 o3
     exact ⟨o3,Dst.light (makeX_ok o2).1 l1 fun x hx=>(l2 x hx).2⟩
    ·exact r2 e he
end Go.Proofs.YtigapglmipmbeaaGreatDoor
namespace Go.Proofs.YtigapglmipmbeaaGreatDoor
open Go.RowKit Go.Shelf
end Go.Proofs.YtigapglmipmbeaaGreatDoor
namespace Go.Proofs.YtigapglmipmbeaaGreatDoor
open Go.RowKit Go.Maps Go.Sort Go.Shelf
open Lim
def mKey (k:ByteArray):Lit:=.string k.data.toList
section
variable {w:World} {b n:Nat} {D:DataW Unit} {key s:ByteArray} (hown:w.ownsMap Tryz.prog 9 (plainElem Tryz.prog 23) b n D) (hk:key.size≤maxLen) (hs:D.atKey (mKey key) (.lit (.string []))=.lit (.string s.data.toList))
include hown hk hs
end
end Go.Proofs.YtigapglmipmbeaaGreatDoor
namespace Go.Proofs.YtigapglmipmbeaaGreatDoor
open Go.Shelf
end Go.Proofs.YtigapglmipmbeaaGreatDoor
namespace Go.Proofs.YtigapglmipmbeaaGreatDoor
open Go.RowKit Go.Maps Go.Sort Go.Shelf
end Go.Proofs.YtigapglmipmbeaaGreatDoor
