/- What Make, Mix, Push and Product give, as rationals. No program in sight. Distributions with a common denominator of few digits: Make, Mix, Push and Product keep them. No program in sight. What Delta, Factor and Moment give, as rationals. No program in sight. Products: keys, moments; no program in sight (printed by mkdlaw5.py). loss.Add, Sum and Max. loss.Fits. loss.Group. The program's functions of numbers, as the plain model of chapter 8 speaks of them. dist: positive, fold, Check, checked. dist: Check, checked. dist: find and At, by the library's searches. dist: find, At, within. dist: Delta, Distance, Factor, Moment (printed by mkmeas.py). loss.Holds (printed by mkholds.py). Same of the program's dist and of the reference 08; kit.Same of masses. The plain law of DistTriangle: distances as texts. No program in sight. LossGroups and the like: what Holds and Group give of distributions; no program in sight. Moments of short lists, and the losses that To computes of them: plain law; no program in sight. The reference's round, Floor, Ceil, Sign (printed by mkrround.py). The reference's functions of numbers, as the plain model of chapter 8 speaks of them (printed by mkdref.py). The reference 08: Check, both, find, At, within, Same (printed by mkdref.py). A region that draws its order and only reads and calls what lays blocks of its own: one walk. A long region's order check, reckoned without an array of what has come: quick for the kernel. -/
import Derived.Test.YtigapglmipmbeaaGreatDoorLwMomentDeltas15
import Derived.Test.YtigapglmipmbeaaGreatDoorLwMomentDeltas14
import Derived.Sort.Walk0
import Derived.BigQuiet
import Derived.Test.YtigapglmipmbeaaGreatDoorLwMomentDeltas13
import Derived.Test.YtigapglmipmbeaaGreatDoorLwMomentDeltas10
import Derived.Test.YtigapglmipmbeaaGreatDoorLwMomentDeltas09
import Derived.Test.YtigapglmipmbeaaGreatDoorLwMomentDeltas01
import Derived.Below
set_option maxRecDepth 100000
set_option maxHeartbeats 16000000
namespace Go.Proofs.YtigapglmipmbeaaGreatDoor
open Lim
theorem mass_two (x:L2) (l:List L2) (k:ByteArray):massD (valsD (x::l)) k=(if x.1=k then valQ x.2.data.toList else 0)+massD (valsD l) k:=rfl
theorem sum_two (x:L2) (l:List L2):sumBy (fun e=>e.2) (valsD (x::l))=valQ x.2.data.toList+sumBy (fun e=>e.2) (valsD l):=rfl
theorem insX_spec:∀ {a b:List L2} {x:L2},insX a x=.ok b→Asc (a.map (·.1))→OkV a→errQ x.2.data.toList=0 →
  Asc (b.map (·.1))∧OkV b∧(∀ k,k∈b.map (·.1)↔k∈a.map (·.1)∨k=x.1)∧(∀ k,massD (valsD b) k=massD (valsD a) k+(if x.1=k then valQ x.2.data.toList else 0)) ∧
  sumBy (fun e=>e.2) (valsD b)=sumBy (fun e=>e.2) (valsD a)+valQ x.2.data.toList
 | [],b,x,h,_,_,hx=>by
  cases h
  refine ⟨List.pairwise_singleton _ _,fun y hy=>by rw [List.mem_singleton.1 hy];exact hx,fun k=>by simp,fun k=>?_,?_⟩
  ·rw [mass_two];exact Rat.add_comm _ _
  ·rw [sum_two];exact Rat.add_comm _ _
 | y::l,b,x,h,ha,ho,hx=>by
  have ha2:=List.pairwise_cons.1 ha
  unfold insX at h
  split at h
  ·rename_i hlt
   cases hm:insX l x with
   | error n=>rw [hm] at h;cases h
   | ok m =>
    rw [hm] at h
    cases h
    obtain ⟨r1,r2,r3,r4,r5⟩:=insX_spec hm ha2.2 (fun z hz=>ho z (by simp [hz])) hx
    refine ⟨List.pairwise_cons.2 ⟨fun k hk=>?_,r1⟩,fun z hz=>?_,fun k=>?_,fun k=>?_,?_⟩
    ·rcases (r3 k).1 hk with h1|rfl
     ·exact ha2.1 k h1
     ·exact hlt
    ·rcases List.mem_cons.1 hz with rfl|hz
     ·exact ho z (by simp)
     ·exact r2 z hz
    ·rw [List.map_cons,List.mem_cons,r3,List.map_cons,List.mem_cons,or_assoc]
    ·rw [mass_two,mass_two,r4,Rat.add_assoc]
    ·rw [sum_two,sum_two,r5,Rat.add_assoc]
  ·rename_i hlt
   split at h
   ·rename_i he
    cases hs:plX y.2 x.2 with
    | error n=>rw [hs] at h;cases h
    | ok s =>
     rw [hs] at h
     cases h
     rw [plX_val (ho y (by simp)) hx] at hs
     obtain ⟨e1,e2,_⟩:=ovT_ok hs
     refine ⟨ha,fun z hz=>?_,fun k=>?_,fun k=>?_,?_⟩
     ·rcases List.mem_cons.1 hz with rfl|hz
      ·exact e1
      ·exact ho z (by simp [hz])
     ·rw [List.map_cons,List.mem_cons,List.map_cons,List.mem_cons]
      constructor
      ·exact .inl
      ·rintro (h1|rfl)
       ·exact h1
       ·exact .inl he.symm
     ·rw [mass_two,mass_two]
      dsimp only
      rw [e2,he]
      split<;>grind
     ·rw [sum_two,sum_two]
      dsimp only
      rw [e2]
      grind
   ·rename_i he
    cases h
    have hlt2:ltK x.1 y.1=true:=ltK_total (by simpa using hlt) he
    refine ⟨List.pairwise_cons.2 ⟨fun k hk=>?_,ha⟩,fun z hz=>?_,fun k=>?_,fun k=>?_,?_⟩
    ·rcases List.mem_cons.1 hk with rfl|hk
     ·exact hlt2
     ·exact ltK_trans hlt2 (ha2.1 k hk)
    ·rcases List.mem_cons.1 hz with rfl|hz
     ·exact hx
     ·exact ho z hz
    ·rw [List.map_cons,List.mem_cons];exact or_comm
    ·rw [mass_two];exact Rat.add_comm _ _
    ·rw [sum_two];exact Rat.add_comm _ _
theorem collX_spec:∀ {l a b:List L2},collX a l=.ok b→Asc (a.map (·.1))→OkV a→OkV l →
  Asc (b.map (·.1))∧OkV b∧(∀ k,k∈b.map (·.1)↔k∈a.map (·.1)∨k∈l.map (·.1))∧(∀ k,massD (valsD b) k=massD (valsD a) k+massD (valsD l) k) ∧
  sumBy (fun e=>e.2) (valsD b)=sumBy (fun e=>e.2) (valsD a)+sumBy (fun e=>e.2) (valsD l)
 | [],a,b,h,ha,ho,_=>by
  cases h
  exact ⟨ha,ho,fun k=>by simp,fun k=>(Rat.add_zero _).symm,(Rat.add_zero _).symm⟩
 | x::l,a,b,h,ha,ho,hl=>by
  unfold collX at h
  cases hi:insX a x with
  | error n=>rw [hi] at h;cases h
  | ok c =>
   rw [hi] at h
   obtain ⟨r1,r2,r3,r4,r5⟩:=insX_spec hi ha ho (hl x (by simp))
   obtain ⟨q1,q2,q3,q4,q5⟩:=collX_spec h r1 r2 fun y hy=>hl y (by simp [hy])
   refine ⟨q1,q2,fun k=>?_,fun k=>?_,?_⟩
   ·rw [q3,r3,List.map_cons,List.mem_cons,or_assoc]
   ·rw [q4,r4,mass_two,Rat.add_assoc]
   ·rw [q5,r5,sum_two,Rat.add_assoc]
theorem zero_text {s:ByteArray} (h:errQ s.data.toList=0):s=zT↔valQ s.data.toList=0:=by
 constructor
 ·intro e;rw [e,val_zT]
 ·intro e
  rw [ok_rT h,e]
  exact IsT.zero.text.symm
theorem keep_mass:∀ {l:List L2},OkV l→(∀ k,massD (valsD (keepX l)) k=massD (valsD l) k)∧sumBy (fun e=>e.2) (valsD (keepX l))=sumBy (fun e=>e.2) (valsD l)
 | [],_=>⟨fun _=>rfl,rfl⟩
 | x::l,h=>by
  obtain ⟨r1,r2⟩:=keep_mass (l:=l) fun y hy=>h y (by simp [hy])
  by_cases hz:x.2=zT
  ·have e:keepX (x::l)=keepX l:=by unfold keepX;rw [List.filter_cons_of_neg (by simpa using hz)]
   have hv:=(zero_text (h x (by simp))).1 hz
   rw [e]
   refine ⟨fun k=>?_,?_⟩
   ·rw [mass_two,hv,r1];split<;>grind
   ·rw [sum_two,hv,r2];grind
  ·have e:keepX (x::l)=x::keepX l:=by unfold keepX;rw [List.filter_cons_of_pos (by simpa using hz)]
   rw [e]
   refine ⟨fun k=>?_,?_⟩
   ·rw [mass_two,mass_two,r1]
   ·rw [sum_two,sum_two,r2]
theorem posL_zero:∀ {l:List L2},posL l=0↔∀ x∈l,posE x.2=0
 | []=>by simp [posL]
 | x::l=>by
  unfold posL
  simp only [List.mem_cons,forall_eq_or_imp]
  split
  ·rename_i h;exact ⟨fun h2=>absurd h2 h,fun h2=>absurd h2.1 h⟩
  ·rename_i h
   rw [posL_zero]
   exact ⟨fun h2=>⟨Classical.byContradiction h,h2⟩,fun h2=>h2.2⟩
theorem makeX_ok {l out:List L2} (h:makeX l=.ok out):chkD out=0∧(∀ x∈l,posE x.2=0)∧∀ k,massD (valsD out) k=massD (valsD l) k:=by
 unfold makeX at h
 split at h
 ·cases h
 ·rename_i h1
  have h1:=posL_zero.1 (Classical.byContradiction h1)
  cases hc:collX [] l with
  | error n=>rw [hc] at h;cases h
  | ok a =>
   rw [hc] at h
   unfold doneX at h
   dsimp only at h
   split at h
   ·cases h
   ·rename_i h2
    cases h
    have hl:OkV l:=fun x hx=>(posE_zero.1 (h1 x hx)).1
    obtain ⟨r1,r2,r3,r4,r5⟩:=collX_spec hc List.Pairwise.nil (fun x hx=>by cases hx) hl
    refine ⟨Classical.byContradiction h2,h1,fun k=>?_⟩
    rw [(keep_mass r2).1,r4]
    exact Rat.zero_add _
theorem chk2_ok {a b:List L2} (ha:chkD a=0) (hb:chkD b=0):chk2 a b=0:=by
 unfold chk2
 rw [ha,hb]
 rfl
structure Dst (a:Nat) (ls:List L2):Prop where
 ok:chkD ls=0
 den:∃ D,0 < D∧D < 10 ^ a∧∀ x∈ls,HasDen D (valX x)
section
variable {a b:Nat} {ls la lb:List L2}
theorem Dst.isD (h:Dst a ls):IsD (valsD ls):=(chkD_zero h.ok).1
theorem Dst.okV (h:Dst a ls):OkV ls:=(chkD_zero h.ok).2.1
theorem Dst.asc (h:Dst a ls):Asc (ls.map (·.1)):=(chkD_zero h.ok).2.2
theorem Dst.once (h:Dst a ls):(ls.map (·.1)).Nodup:=h.asc.nodup
theorem Dst.pos (h:Dst a ls) {x:L2} (hx:x∈ls):0 < valX x:=h.isD.plus (x.1,valX x) (List.mem_map.2 ⟨x,hx,rfl⟩)
theorem Dst.one (h:Dst a ls) {x:L2} (hx:x∈ls):valX x≤1:=by
 have h1:=h.isD.one
 rw [sum_vals] at h1
 have h2:=le_sumBy (f:=fun x:L2=>valX x) (fun y hy=>Rat.le_of_lt (h.pos hy)) hx
 rw [← h1]
 exact h2
theorem Dst.sz (h:Dst a ls) {x:L2} (hx:x∈ls):Sz a (valX x):=by
 obtain ⟨D,h1,h2,h3⟩:=h.den
 exact (h3 x hx).sz h1 (Rat.le_of_lt (h.pos hx)) (M:=1) (h.one hx) (by omega) Nat.one_pos
theorem Dst.light {n k:Nat} (h:chkD ls=0) (hl:ls.length≤n) (hs:∀ x∈ls,x.2.size≤k):Dst (k*n+1) ls:=by
 obtain ⟨_,ho,_⟩:=chkD_zero h
 have hz:∀ x∈ls,Sz k (valX x):=fun x hx=>sz_of_text (ho x hx) (by rw [← size_list];exact hs x hx)
 refine ⟨h,denB valX ls,denB_pos ls,Nat.lt_of_lt_of_le (denB_lt hz) (pow_le ?_),fun x hx=>denB_has hx⟩
 have:=Nat.mul_le_mul_left k hl
 omega
end
theorem atT_sz {k:Nat} (hk:0 < k) {key:ByteArray}:∀ {ls:List L2},(∀ x∈ls,Sz k (valX x))→Sz k (valQ (atT ls key).data.toList)
 | [],_=>by
  show Sz k (valQ zT.data.toList)
  rw [val_zT]
  exact Sz.zero.mono hk
 | x::l,h=>by
  unfold atT
  split
  ·exact h x (by simp)
  ·exact atT_sz hk fun y hy=>h y (by simp [hy])
theorem atT_has {D:Nat} {key:ByteArray}:∀ {ls:List L2},(∀ x∈ls,HasDen D (valX x))→HasDen D (valQ (atT ls key).data.toList)
 | [],_=>by
  show HasDen D (valQ zT.data.toList)
  rw [val_zT]
  exact HasDen.zero D
 | x::l,h=>by
  unfold atT
  split
  ·exact h x (by simp)
  ·exact atT_has fun y hy=>h y (by simp [hy])
theorem atT_mem {key:ByteArray}:∀ {ls:List L2},key∈ls.map (·.1)→∃ x∈ls,x.1=key∧atT ls key=x.2
 | [],h=>by cases h
 | x::l,h=>by
  unfold atT
  split
  ·rename_i e;exact ⟨x,by simp,e,rfl⟩
  ·rename_i e
   rcases List.mem_cons.1 h with h|h
   ·exact absurd h.symm e
   ·obtain ⟨y,hy,e1,e2⟩:=atT_mem h
    exact ⟨y,by simp [hy],e1,e2⟩
theorem partX_val {f:ByteArray} {q:List L2} {m:L2} (hf:errQ f.data.toList=0) (hq:OkV q) (hm:errQ m.2.data.toList=0)
  (h1:fits (valQ f.data.toList*valQ (atT q m.1).data.toList)=true) (h2:fits (valX m - valQ f.data.toList*valQ (atT q m.1).data.toList)=true) :
  partX f q m=.ok (rT (pos (valX m - valQ f.data.toList*valQ (atT q m.1).data.toList)))∧fits (pos (valX m - valQ f.data.toList*valQ (atT q m.1).data.toList))=true:=by
 unfold partX
 rw [mulX_val hf (atT_ok hq),ovT_fit h1]
 dsimp only
 rw [subX_val hm (err_rT h1),val_rT h1,ovT_fit h2]
 dsimp only
 rw [maxX_val err_zT (err_rT h2),val_rT h2,val_zT]
 unfold pos
 by_cases h:0 < valX m - valQ f.data.toList*valQ (atT q m.1).data.toList
 ·have hc:cmpQ 0 (valX m - valQ f.data.toList*valQ (atT q m.1).data.toList) < 0:=by
   unfold cmpQ;rw [if_pos h];decide
  rw [if_pos h,if_pos hc]
  exact ⟨rfl,h2⟩
 ·have hc:¬ cmpQ 0 (valX m - valQ f.data.toList*valQ (atT q m.1).data.toList) < 0:=by
   unfold cmpQ;rw [if_neg h];split<;>decide
  rw [if_neg h,if_neg hc]
  exact ⟨by rw [← IsT.zero.text];rfl,fits_zero⟩
theorem deltaD_vals {p q:List L2} (hq:(q.map (·.1)).Nodup) (f:Rat):deltaD (valsD p) (valsD q) f=sumBy (fun m=>pos (valX m - f*valQ (atT q m.1).data.toList)) p:=by
 unfold deltaD
 show sumBy _ (p.map _)=_
 rw [sumBy_map]
 exact sumBy_congr fun m _=>by rw [atT_val hq]
theorem deltaX_fit {p q:List L2} {f:ByteArray} {a b j:Nat} (hp:Dst a p) (hq:Dst b q) (hf:errQ f.data.toList=0) (h0:0≤valQ f.data.toList) (sf:Sz j (valQ f.data.toList)) (hm:a+(j+b)+1≤maxD) (hb:0 < b) :
  deltaX p q f=.ok (rT (deltaD (valsD p) (valsD q) (valQ f.data.toList)))∧fits (deltaD (valsD p) (valsD q) (valQ f.data.toList))=true:=by
 obtain ⟨D,d1,d2,d3⟩:=hp.den
 obtain ⟨E,e1,e2,e3⟩:=hq.den
 have hD:0 < D*((valQ f.data.toList).den*E):=Nat.mul_pos d1 (Nat.mul_pos (valQ f.data.toList).den_pos e1)
 have hlt:D*((valQ f.data.toList).den*E) < 10 ^ maxD:=Nat.lt_of_lt_of_le (mul_lt_pow d2 (mul_lt_pow sf.2 e2)) (pow_le (by omega))
 have step:∀ m∈p,partX f q m=.ok (rT (pos (valX m - valQ f.data.toList*valQ (atT q m.1).data.toList)))∧fits (pos (valX m - valQ f.data.toList*valQ (atT q m.1).data.toList))=true ∧
   HasDen (D*((valQ f.data.toList).den*E)) (pos (valX m - valQ f.data.toList*valQ (atT q m.1).data.toList))∧0≤pos (valX m - valQ f.data.toList*valQ (atT q m.1).data.toList):=by
  intro m hm2
  have s1:=sf.mul (atT_sz hb (fun x hx=>hq.sz hx) (key:=m.1))
  obtain ⟨e4,e5⟩:=partX_val hf hq.okV (hp.okV m hm2) (fits_sz.2 (s1.mono (by omega))) (fits_sz.2 (((hp.sz hm2).sub s1).mono (by omega)))
  exact ⟨e4,e5,HasDen.pos (((d3 m hm2).mul_right _).sub (((HasDen.self _).mul (atT_has e3)).mul_left _)),pos_nonneg _⟩
 have ht:=delta_top hp.isD hq.isD h0
 have hn:=delta_nonneg (valsD p) (valsD q) (valQ f.data.toList)
 rw [deltaD_vals hq.once] at ht hn ⊢
 have r:=foldX_fit hD Nat.one_pos (by omega) err_zT (by rw [val_zT];exact HasDen.zero _) (by rw [val_zT];exact Rat.le_refl) step (by rw [val_zT,Rat.zero_add];exact ht)
 rw [val_zT,Rat.zero_add] at r
 refine ⟨?_,fits_sz.2 ((HasDen.sum fun m hm2=>(step m hm2).2.2.1).sz hD hn (M:=1) ht (by omega) Nat.one_pos)⟩
 unfold deltaX
 rw [chk2_ok hp.ok hq.ok,if_neg (by decide),if_neg (by simp only [ne_eq,Decidable.not_not];exact posE_zero.2 ⟨hf,h0⟩)]
 exact r
theorem pow_ne {x:Rat} (h:x≠0) (n:Nat):x ^ n≠0:=by
 induction n with
 | zero=>rw [Rat.pow_zero];decide
 | succ n ih =>
  rw [Rat.pow_succ]
  intro h2
  rcases Rat.mul_eq_zero.1 h2 with h2|h2
  ·exact ih h2
  ·exact h h2
theorem powsX_val {q:List L2} {m:L2} {k n:Nat} (hm:errQ m.2.data.toList=0) (hq:errQ (atT q m.1).data.toList=0) (h0:valQ (atT q m.1).data.toList≠0) (sm:Sz k (valX m)) (sa:Sz k (valQ (atT q m.1).data.toList)) (hk:k*(n+1)+1+(k*n+1)≤maxD) :
  powsX ((n+1:Nat):Int) q m=.ok (rT (valX m ^ (n+1)*(valQ (atT q m.1).data.toList ^ n)⁻¹))∧fits (valX m ^ (n+1)*(valQ (atT q m.1).data.toList ^ n)⁻¹)=true:=by
 have s1:=sm.pow (n+1)
 have s2:=sa.pow n
 have f1:fits (valX m ^ (n+1))=true:=fits_sz.2 (s1.mono (by omega))
 have f2:fits (valQ (atT q m.1).data.toList ^ n)=true:=fits_sz.2 (s2.mono (by omega))
 have f3:fits (valX m ^ (n+1)*(valQ (atT q m.1).data.toList ^ n)⁻¹)=true:=fits_sz.2 ((s1.mul s2.inv).mono hk)
 refine ⟨?_,f3⟩
 unfold powsX
 rw [powX_val hm,ovT_fit f1,show ((n+1:Nat):Int) - 1=(n:Int) by omega,powX_val hq,ovT_fit f2]
 dsimp only
 rw [divX_val (err_rT f1) (err_rT f2) (by rw [val_rT f2];exact pow_ne h0 n),val_rT f1,val_rT f2,ovT_fit f3]
theorem momD_vals {p q:List L2} (hq:(q.map (·.1)).Nodup) (n:Nat):momD (valsD p) (valsD q) n=sumBy (fun m=>valX m ^ (n+1)*(valQ (atT q m.1).data.toList ^ n)⁻¹) p:=by
 unfold momD
 show sumBy _ (p.map _)=_
 rw [sumBy_map]
 exact sumBy_congr fun m _=>by rw [atT_val hq]
theorem momV_fit {p q:List L2} {k n D1 D2 M:Nat} (hp:chkD p=0) (hq:chkD q=0) (hin:inX p q=true) (hn:n < 8) (sp:∀ x∈p,Sz k (valX x)) (sq:∀ x∈q,Sz k (valX x)) (hk:k*(n+1)+1+(k*n+1)≤maxD)
  (h1:0 < D1) (h2:0 < D2) (d1:∀ x∈p,HasDen D1 (valX x)) (d2:∀ x∈q,HasDen D2 (valX x)⁻¹) (hM:0 < M) (hMk:M*(D1 ^ (n+1)*D2 ^ n) < 10 ^ maxD) (hm:momD (valsD p) (valsD q) n≤(M:Rat)) :
  momV p q ((n+1:Nat):Int)=.tuple #[.string (rT (momD (valsD p) (valsD q) n)),.bool true,.int .i64 0]∧fits (momD (valsD p) (valsD q) n)=true:=by
 obtain ⟨ip,op,_⟩:=chkD_zero hp
 obtain ⟨iq,oq,aq⟩:=chkD_zero hq
 have hD:0 < D1 ^ (n+1)*D2 ^ n:=Nat.mul_pos (Nat.pow_pos h1) (Nat.pow_pos h2)
 have step:∀ m∈p,powsX ((n+1:Nat):Int) q m=.ok (rT (valX m ^ (n+1)*(valQ (atT q m.1).data.toList ^ n)⁻¹))∧fits (valX m ^ (n+1)*(valQ (atT q m.1).data.toList ^ n)⁻¹)=true ∧
   HasDen (D1 ^ (n+1)*D2 ^ n) (valX m ^ (n+1)*(valQ (atT q m.1).data.toList ^ n)⁻¹)∧0≤valX m ^ (n+1)*(valQ (atT q m.1).data.toList ^ n)⁻¹:=by
  intro m hm
  obtain ⟨x,hx,_,e2⟩:=atT_mem (inX_iff.1 hin m hm)
  have hv:0 < valQ (atT q m.1).data.toList:=by rw [e2];exact iq.plus _ (List.mem_map_of_mem hx)
  have hv2:0 < valX m:=ip.plus _ (List.mem_map_of_mem hm)
  have sa:Sz k (valQ (atT q m.1).data.toList):=by rw [e2];exact sq x hx
  obtain ⟨e3,e4⟩:=powsX_val (op m hm) (atT_ok oq) (by grind) (sp m hm) sa hk
  refine ⟨e3,e4,((d1 m hm).pow _).mul ?_,?_⟩
  ·have e5:(valQ (atT q m.1).data.toList ^ n)⁻¹=(valX x)⁻¹ ^ n:=by rw [e2,inv_pow]
   rw [e5]
   exact (d2 x hx).pow _
  ·exact Rat.mul_nonneg (Rat.pow_nonneg (by grind)) (Rat.le_of_lt (Rat.inv_pos.2 (Rat.pow_pos hv)))
 rw [momD_vals aq.nodup] at hm ⊢
 have hnn:0≤sumBy (fun m=>valX m ^ (n+1)*(valQ (atT q m.1).data.toList ^ n)⁻¹) p:=sumBy_nonneg fun m hm=>(step m hm).2.2.2
 have r:=foldX_fit hD hM hMk err_zT (by rw [val_zT];exact HasDen.zero _) (by rw [val_zT];exact Rat.le_refl) step (by rw [val_zT,Rat.zero_add];exact hm)
 rw [val_zT,Rat.zero_add] at r
 refine ⟨?_,fits_sz.2 ((HasDen.sum fun m hm=>(step m hm).2.2.1).sz hD hnn (M:=M) hm hMk hM)⟩
 unfold momV
 rw [chk2_ok hp hq,if_neg (by decide),if_neg (by omega),hin,if_neg (by decide),r]
 rfl
theorem le_of_sz {k:Nat} {q:Rat} (h:Sz k q):q≤((10 ^ k:Nat):Rat):=by
 have h1:=mul_den_num q
 have h2:((q.num:Int):Rat)≤((10 ^ k:Nat):Rat):=by
  have h3:q.num≤((10 ^ k:Nat):Int):=by
   have:=h.1
   unfold nm at this
   omega
  have h4:(((10 ^ k:Nat):Int):Rat)=((10 ^ k:Nat):Rat):=rfl
  rw [← h4]
  exact Rat.intCast_le_intCast.2 h3
 have h5:(1:Rat)≤(q.den:Rat):=by
  have:=q.den_pos
  have h6:((1:Nat):Rat)≤(q.den:Rat):=Rat.natCast_le_natCast.2 (by omega)
  exact h6
 rcases Rat.le_total (a:=0) (b:=q) with h0|h0
 ·have h7:=Rat.mul_le_mul_of_nonneg_left h5 h0
  rw [Rat.mul_one] at h7
  exact Rat.le_trans h7 (by rw [h1];exact h2)
 ·exact Rat.le_trans h0 Rat.natCast_nonneg
theorem sum_bound {α:Type} {f:α→Rat} {c:Nat}:∀ {l:List α},(∀ a∈l,f a≤(c:Rat))→sumBy f l≤((l.length*c:Nat):Rat)
 | [],_=>by simp [sumBy]
 | a::l,h=>by
  have h1:=sum_bound (f:=f) (c:=c) (l:=l) fun x hx=>h x (by simp [hx])
  have h2:=h a (by simp)
  have e:(((a::l).length*c:Nat):Rat)=(c:Rat)+((l.length*c:Nat):Rat):=by
   rw [List.length_cons,Nat.succ_mul,Nat.add_comm,Rat.natCast_add]
  rw [e]
  show f a+sumBy f l≤_
  exact Rat.le_trans (Rat.add_le_add_right.2 h2) (Rat.add_le_add_left.2 h1)
theorem pow_le_one' {x:Rat} (h0:0≤x) (h1:x≤1) (n:Nat):x ^ n≤1:=by
 induction n with
 | zero=>rw [Rat.pow_zero];exact Rat.le_refl
 | succ n ih =>
  rw [Rat.pow_succ]
  have:=Rat.mul_le_mul_of_nonneg_right ih h0
  rw [Rat.one_mul] at this
  exact Rat.le_trans this h1
theorem pow_le_pow' {x y:Rat} (h0:0≤x) (h1:x≤y) (n:Nat):x ^ n≤y ^ n:=by
 induction n with
 | zero=>rw [Rat.pow_zero,Rat.pow_zero];exact Rat.le_refl
 | succ n ih =>
  rw [Rat.pow_succ,Rat.pow_succ]
  exact Rat.le_trans (Rat.mul_le_mul_of_nonneg_right ih h0) (Rat.mul_le_mul_of_nonneg_left h1 (Rat.pow_nonneg (Rat.le_trans h0 h1)))
theorem cast_pow' (a n:Nat):((a:Rat)) ^ n=((a ^ n:Nat):Rat):=by
 induction n with
 | zero=>rw [Rat.pow_zero];rfl
 | succ n ih=>rw [Rat.pow_succ,Nat.pow_succ,Rat.natCast_mul,ih]
theorem mom_le {p q:List L2} {a k n:Nat} (hp:Dst a p) (hq:Dst a q) (hin:inX p q=true) (sq:∀ x∈q,Sz k (valX x)):momD (valsD p) (valsD q) n≤((p.length*(10 ^ k) ^ n:Nat):Rat):=by
 rw [momD_vals hq.once]
 refine sum_bound fun m hm=>?_
 obtain ⟨x,hx,_,e2⟩:=atT_mem (inX_iff.1 hin m hm)
 have hv:0 < valX x:=hq.pos hx
 have e3:valQ (atT q m.1).data.toList=valX x:=by rw [e2]
 rw [e3,← inv_pow]
 have hi:0≤(valX x)⁻¹:=Rat.le_of_lt (Rat.inv_pos.2 hv)
 have h1:=pow_le_one' (Rat.le_of_lt (hp.pos hm)) (hp.one hm) (n+1)
 have h2:=pow_le_pow' hi (le_of_sz (sq x hx).inv) n
 rw [cast_pow'] at h2
 have h3:=Rat.mul_le_mul_of_nonneg_right h1 (Rat.pow_nonneg (n:=n) hi)
 rw [Rat.one_mul] at h3
 exact Rat.le_trans h3 h2
theorem inv_den {q:List L2} {k:Nat} (sq:∀ x∈q,Sz k (valX x)):∃ D,0 < D∧D < 10 ^ (k*q.length+1)∧∀ x∈q,HasDen D (valX x)⁻¹ :=
 ⟨denB (fun x=>(valX x)⁻¹) q,denB_pos q,denB_lt fun x hx=>(sq x hx).inv,fun _ hx=>denB_has (f:=fun x:L2=>(valX x)⁻¹) hx⟩
theorem momV_out {p q:List L2} {n:Int} (hp:chkD p=0) (hq:chkD q=0) (h1:1≤n) (h8:n≤8) (hin:inX p q=false):momV p q n=.tuple #[.string ⟨#[]⟩,.bool false,.int .i64 0]:=by
 unfold momV
 rw [chk2_ok hp hq,if_neg (by decide),if_neg (by omega),if_pos hin]
theorem lt_pow_mono {x a b:Nat} (h:x < 10 ^ a) (hab:a≤b):x < 10 ^ b:=Nat.lt_of_lt_of_le h (pow_le hab)
section
variable {p q r s x y:List L2}
end
end Go.Proofs.YtigapglmipmbeaaGreatDoor
namespace Go.Proofs.YtigapglmipmbeaaGreatDoor
open Go.RowKit Go.Shelf
open Lim
def resB:Except Nat Bool→Value
 | .ok b=>.tuple #[.bool b,.int .i64 0]
 | .error n=>.tuple #[.bool false,.int .i64 (n:Int)]
section
variable {a b:ByteArray} (ha:a.size≤270000) (hb:b.size≤270000)
include ha hb
end
theorem lt_bytes (a b:ByteArray):Op.bytesLess a.toList b.toList=ltK a b:=by
 unfold ltK
 rw [bytesLess_eq,Lib.toList_data,Lib.toList_data]
theorem eq_bytes (a b:ByteArray):(a.toList==b.toList)=decide (a=b):=by
 rw [Lib.toList_data,Lib.toList_data]
 by_cases h:a=b
 ·subst h;simp
 ·have h2:a.data.toList≠b.data.toList:=fun e=>h (by
   cases a;cases b
   simp only [ByteArray.mk.injEq]
   exact Array.ext' e)
  rw [decide_eq_false h]
  exact beq_eq_false_iff_ne.2 h2
theorem oT_list:oT.toList=[49]:=by rw [Lib.toList_data];rfl
theorem zT_list:zT.toList=[48]:=by rw [Lib.toList_data];rfl
theorem ne_zero {n:Nat} (h:n≠0):((n:Int)==0)=false:=by rw [beq_eq_false_iff_ne];omega
theorem ne_zero2 {n:Nat} (h:n≠0):((n:Int) != 0)=true:=by unfold bne;rw [ne_zero h];rfl
theorem num_neg_iff (q:Rat):q.num < 0↔q < 0:=by
 have h:=Rat.num_nonneg (q:=q)
 constructor
 ·intro h2
  exact Classical.byContradiction fun h3=>absurd (h.2 (by grind)) (by omega)
 ·intro h2
  exact Classical.byContradiction fun h3=>by
   have:=h.1 (by omega)
   grind
theorem sg_lt (q:Rat):sgQ q < 0↔q < 0:=by
 rw [sgQ_num,← num_neg_iff]
 split
 ·rename_i h;exact ⟨fun _=>h,fun _=>by omega⟩
 ·rename_i h
  split<;>exact ⟨fun h2=>absurd h2 (by omega),fun h2=>absurd h2 h⟩
theorem sg_gt (q:Rat):0 < sgQ q↔0 < q:=by
 rw [sgQ_num]
 have h1:=num_neg_iff q
 have h0:q.num=0↔q=0:=Rat.num_eq_zero
 split
 ·rename_i h
  have:=h1.1 h
  exact ⟨fun h2=>absurd h2 (by omega),fun h2=>by grind⟩
 ·rename_i h
  have h4:¬ q < 0:=fun h5=>h (h1.2 h5)
  split
  ·rename_i h3
   have:=h0.1 h3
   exact ⟨fun h2=>absurd h2 (by omega),fun h2=>by grind⟩
  ·rename_i h3
   have:q≠0:=fun h5=>h3 (h0.2 h5)
   exact ⟨fun _=>by grind,fun _=>by omega⟩
end Go.Proofs.YtigapglmipmbeaaGreatDoor
namespace Go.Proofs.YtigapglmipmbeaaGreatDoor
open Go.RowKit Go.Shelf
open Lim
attribute [local go_sem] Oper.semAt_some
structure NW (w:World) (W:World):Prop where
 below:Below w.heap.size w W
 res:Res W
theorem NW.refl {w:World} (hr:Res w):NW w w:=⟨Below.refl _ _,hr⟩
theorem NW.later {w W W':World} (h:NW w W) (hb:Below W.heap.size W W'):NW w W':=⟨h.below.trans (hb.mono h.below.size),h.res.below hb⟩
theorem NW.alloc {w W:World} (h:NW w W) (o:Obj):NW w (W.alloc o):=h.later (below_alloc (Below.refl _ _) _)
theorem NW.drewN {w W:World} (h:NW w W) (n:Nat):NW w (W.drewN n):=h.later (below_drewN' (Below.refl _ _) n)
def keyAt (ls:List L2):Nat→Option ByteArray
 | 0=>none
 | k+1=>(ls[k]?).map (·.1)
theorem chkL_err {k:Option ByteArray} {x:L2} {l:List L2} (h:posE x.2≠0):chkL k (x::l)=posE x.2:=by unfold chkL;rw [if_pos h]
theorem chkL_low {k:Option ByteArray} {x:L2} {l:List L2} (h:posE x.2=0) (h2:¬ 0 < valQ x.2.data.toList):chkL k (x::l)=2:=by unfold chkL;rw [if_neg (by simpa using h),if_pos h2]
theorem chkL_ord {k:Option ByteArray} {x:L2} {l:List L2} (h:posE x.2=0) (h2:0 < valQ x.2.data.toList) (h3:badK k x.1=true):chkL k (x::l)=9:=by unfold chkL;rw [if_neg (by simpa using h),if_neg (by simpa using h2),if_pos h3]
theorem chkL_go {k:Option ByteArray} {x:L2} {l:List L2} (h:posE x.2=0) (h2:0 < valQ x.2.data.toList) (h3:badK k x.1=false):chkL k (x::l)=chkL (some x.1) l:=by
 conv=>lhs;unfold chkL
 rw [if_neg (by simpa using h),if_neg (by simpa using h2),if_neg (by rw [h3];decide)]
theorem errs_of {ls:List L2} (h:chkL none ls=0):∀ x∈ls,errQ x.2.data.toList=0:=by
 revert h
 generalize (none:Option ByteArray)=k
 induction ls generalizing k with
 | nil=>intro _ x hx;cases hx
 | cons y l ih =>
  intro h x hx
  by_cases h1:posE y.2=0
  ·by_cases h2:0 < valQ y.2.data.toList
   ·cases h3:badK k y.1 with
    | true=>rw [chkL_ord h1 h2 h3] at h;cases h
    | false =>
     rw [chkL_go h1 h2 h3] at h
     rcases List.mem_cons.1 hx with rfl|hx
     ·unfold posE at h1
      split at h1
      ·rename_i h4;exact absurd h1 h4
      ·rename_i h4;exact Classical.byContradiction h4
     ·exact ih _ h x hx
   ·rw [chkL_low h1 h2] at h;cases h
  ·rw [chkL_err h1] at h;exact absurd h h1
theorem keyAt_succ {ls:List L2} {k:Nat} {x:L2} (h:ls[k]?=some x):keyAt ls (k+1)=some x.1:=by
 show (ls[k]?).map (·.1)=_
 rw [h];rfl
theorem drop_of {ls:List L2} {k:Nat} {x:L2} (h:ls[k]?=some x):ls.drop k=x::ls.drop (k+1):=by
 obtain ⟨hlt,e⟩:=List.getElem?_eq_some_iff.1 h
 rw [List.drop_eq_getElem_cons hlt,e]
theorem chkS_ok {s:ByteArray}:chkS (.ok s)=if s=oT then 0 else 15:=rfl
theorem LRow.at {w W:World} {v:Value} {ls:List L2} (h:LRow w v ls) (hb:Below w.heap.size w W) {k:Nat} {x:L2} (hx:ls[k]?=some x) :
  ∃ b o c,v=.slice (some ⟨b,o,none⟩) ls.length c∧b < W.heap.size∧W.cell? ⟨b,o+k*2,none⟩=some (.string x.1)∧W.cell? ⟨b,o+k*2+1,none⟩=some (.string x.2):=by
 obtain ⟨A,c,rfl,_,hc⟩:=h
 obtain ⟨b,o,rfl,hlt,hcell⟩:=hc (by have:=(List.getElem?_eq_some_iff.1 hx).1;omega)
 obtain ⟨c0,c1⟩:=hcell k x hx
 exact ⟨b,o,c,rfl,Nat.lt_of_lt_of_le hlt hb.size,by rw [hb.cell (p:=⟨b,o+k*2,none⟩) hlt];exact c0,by rw [hb.cell (p:=⟨b,o+k*2+1,none⟩) hlt];exact c1⟩
theorem LRow.cell2 {w W:World} {b o n c:Nat} {ls:List L2} (h:LRow w (.slice (some ⟨b,o,none⟩) n c) ls) (hb:Below w.heap.size w W) {k:Nat} {x:L2} (hx:ls[k]?=some x) :
  b < W.heap.size∧W.cell? ⟨b,o+k*2,none⟩=some (.string x.1)∧W.cell? ⟨b,o+k*2+1,none⟩=some (.string x.2):=by
 obtain ⟨b',o',c',e,h1,h2,h3⟩:=h.at hb hx
 simp only [Value.slice.injEq,Option.some.injEq,Addr.mk.injEq,and_true] at e
 obtain ⟨⟨rfl,rfl⟩,_,_⟩:=e
 exact ⟨h1,h2,h3⟩
theorem zT_small:zT.size≤270000:=by decide
theorem Short.atT {k:ByteArray}:∀ {ls:List L2},Short ls→(atT ls k).size≤270000
 | [],_=>zT_small
 | x::l,h=>by
  unfold Go.Proofs.YtigapglmipmbeaaGreatDoor.atT
  split
  ·exact (h x (by simp)).2
  ·exact Short.atT fun y hy=>h y (by simp [hy])
theorem chk2_both {a b:List L2} (h:chk2 a b=0):chkD a=0∧chkD b=0:=by
 unfold chk2 at h
 split at h
 ·rename_i h1;exact absurd h h1
 ·rename_i h1;exact ⟨Classical.byContradiction h1,h⟩
theorem resX_tup (r:XE):∃ c0 c1,resX r=.tuple #[.string c0,.int .i64 c1]:=by
 cases r
 ·exact ⟨_,_,rfl⟩
 ·exact ⟨_,_,rfl⟩
theorem partX_ne {f:ByteArray} {q:List L2} {x:L2} {n:Nat} (h:partX f q x=.error n):n≠0:=by
 unfold partX at h
 split at h
 ·rename_i h1;cases h;exact exQ_err h1
 ·split at h
  ·rename_i h1;cases h;exact exQ_err h1
  ·unfold maxX at h
   split at h
   ·rename_i h1;cases h;exact h1
   ·split at h
    ·rename_i h1;cases h;exact h1
    ·cases h
theorem powsX_ne {n:Int} {q:List L2} {x:L2} {z:Nat} (h:powsX n q x=.error z):z≠0:=by
 unfold powsX at h
 split at h
 ·rename_i h1;cases h;exact exQ_err h1
 ·split at h
  ·rename_i h1;cases h;exact exQ_err h1
  ·exact exQ_err h
theorem powsX_fine {n:Int} {q:List L2} {x:L2} {s:ByteArray} (h:powsX n q x=.ok s):errQ s.data.toList=0:=by
 unfold powsX at h
 split at h
 ·cases h
 ·split at h
  ·cases h
  ·exact divX_ok h
end Go.Proofs.YtigapglmipmbeaaGreatDoor
namespace Go.Proofs.YtigapglmipmbeaaGreatDoor
open Go.RowKit Go.Shelf
open Lim
theorem deltaX_ne {p q:List L2} {f:ByteArray} {n:Nat} (h:deltaX p q f=.error n):n≠0:=by
 unfold deltaX at h
 split at h
 ·cases h;assumption
 ·split at h
  ·cases h;assumption
  ·exact foldX_ne (fun _ _ h=>partX_ne h) h
theorem foldX_okE {α:Type} {g:α→XE}:∀ {l:List α} {s t:ByteArray},errQ s.data.toList=0→foldX g s l=.ok t→errQ t.data.toList=0
 | [],s,t,hs,h=>by cases h;exact hs
 | x::l,s,t,hs,h=>by
  unfold foldX at h
  split at h
  ·cases h
  ·split at h
   ·cases h
   ·rename_i u hu
    exact foldX_okE (plX_ok hu) h
theorem deltaX_okE {p q:List L2} {f t:ByteArray} (h:deltaX p q f=.ok t):errQ t.data.toList=0:=by
 unfold deltaX at h
 split at h
 ·cases h
 ·split at h
  ·cases h
  ·exact foldX_okE err_zT h
def holdsR (f d:ByteArray) (p q:List L2):Except Nat Bool:=if errL f d≠0 then .error (errL f d) else match deltaX p q f with
 | .error n=>.error n
 | .ok x=>match deltaX q p f with
  | .error n=>.error n
  | .ok y=>.ok (decide (cmpQ (valQ x.data.toList) (valQ d.data.toList)≤0)&&decide (cmpQ (valQ y.data.toList) (valQ d.data.toList)≤0))
end Go.Proofs.YtigapglmipmbeaaGreatDoor
namespace Go.Proofs.YtigapglmipmbeaaGreatDoor
open Go.RowKit Go.Shelf
open Lim
attribute [local go_sem] Oper.semAt_some
end Go.Proofs.YtigapglmipmbeaaGreatDoor
namespace Go.Proofs.YtigapglmipmbeaaGreatDoor
open Lim
section
variable {l m n:List L2} (hl:Dst 385 l) (hm:Dst 385 m) (hn:Dst 385 n)
include hl hm
include hn
end
theorem holdsR_ok {a j:Nat} {p q:List L2} {F d:Rat} (hp:Dst a p) (hq:Dst a q) (h1:1≤F) (sF:Sz j F) (hj:j≤maxD) (d0:0≤d) (d1:d≤1) (fd:fits d=true) (hm:a+(j+a)+1≤maxD) (ha:0 < a)
  (k1:deltaD (valsD p) (valsD q) F≤d) (k2:deltaD (valsD q) (valsD p) F≤d):holdsR (rT F) (rT d) p q=.ok true:=by
 have fF:fits F=true:=fits_sz.2 (sF.mono hj)
 have hL:LossIs (rT F) (rT d) (F,d):=⟨isT_rT fF,isT_rT fd,h1,d0,d1⟩
 have hF0:0≤F:=Rat.le_trans (by decide) h1
 obtain ⟨x1,x2⟩:=deltaX_fit hp hq (f:=rT F) (err_rT fF) (by rw [val_rT fF];exact hF0) (by rw [val_rT fF];exact sF) hm ha
 obtain ⟨y1,y2⟩:=deltaX_fit hq hp (f:=rT F) (err_rT fF) (by rw [val_rT fF];exact hF0) (by rw [val_rT fF];exact sF) hm ha
 rw [val_rT fF] at x1 x2 y1 y2
 unfold holdsR
 rw [if_neg (fun h=>h hL.err),x1]
 dsimp only
 rw [y1]
 dsimp only
 rw [val_rT x2,val_rT y2,val_rT fd,decide_eq_true ((cmpQ_le _ _).2 k1),decide_eq_true ((cmpQ_le _ _).2 k2)]
 rfl
section
variable (L:Nat→List L2) (F:Rat)
theorem sz_max {k:Nat} {a b:Rat} (ha:Sz k a) (hb:Sz k b):Sz k (maxQ a b):=by
 rw [maxQ_eq]
 split
 ·assumption
 ·assumption
variable {L F}
end
section
variable {p q:List L2}
theorem room10 {a b c D1 D2 M n:Nat} (hn:n≤7) (h1:D1 < 10 ^ a) (h2:D2 < 10 ^ b) (hM:M < 10 ^ c) (p1:0 < D1) (p2:0 < D2):M*(D1 ^ (n+1)*D2 ^ n) < 10 ^ (c+(a*8+b*7)):=by
 have e1:D1 ^ (n+1)≤D1 ^ 8:=Nat.pow_le_pow_right p1 (by omega)
 have e2:D2 ^ n≤D2 ^ 7:=Nat.pow_le_pow_right p2 hn
 have e3:D1 ^ 8≤10 ^ (a*8):=by rw [Nat.pow_mul];exact Nat.pow_le_pow_left (Nat.le_of_lt h1) 8
 have e4:D2 ^ 7≤10 ^ (b*7):=by rw [Nat.pow_mul];exact Nat.pow_le_pow_left (Nat.le_of_lt h2) 7
 have e5:=Nat.mul_le_mul (Nat.le_trans e1 e3) (Nat.le_trans e2 e4)
 rw [← Nat.pow_add] at e5
 have e6:M*(D1 ^ (n+1)*D2 ^ n)≤M*10 ^ (a*8+b*7):=Nat.mul_le_mul_left _ e5
 have e7:M*10 ^ (a*8+b*7) < 10 ^ c*10 ^ (a*8+b*7):=Nat.mul_lt_mul_of_pos_right hM (Nat.pow_pos (by decide))
 rw [← Nat.pow_add] at e7
 exact Nat.lt_of_le_of_lt e6 e7
theorem mom_den {D1 D2 n:Nat} (hp:Dst 73 p) (hq:Dst 73 q) (hin:inX p q=true) (d1:∀ x∈p,HasDen D1 (valX x)) (d2:∀ x∈q,HasDen D2 (valX x)⁻¹) :
  HasDen (D1 ^ (n+1)*D2 ^ n) (momD (valsD p) (valsD q) n)∧0≤momD (valsD p) (valsD q) n:=by
 rw [momD_vals hq.once]
 have step:∀ m∈p,HasDen (D1 ^ (n+1)*D2 ^ n) (valX m ^ (n+1)*(valQ (atT q m.1).data.toList ^ n)⁻¹)∧0≤valX m ^ (n+1)*(valQ (atT q m.1).data.toList ^ n)⁻¹:=by
  intro m hm
  obtain ⟨x,hx,_,e2⟩:=atT_mem (inX_iff.1 hin m hm)
  have hv:0 < valX x:=hq.pos hx
  have hv2:=hp.pos hm
  have e3:valQ (atT q m.1).data.toList=valX x:=by rw [e2]
  rw [e3]
  refine ⟨((d1 m hm).pow _).mul ?_,?_⟩
  ·rw [← inv_pow]
   exact (d2 x hx).pow _
  ·exact Rat.mul_nonneg (Rat.pow_nonneg (Rat.le_of_lt hv2)) (Rat.le_of_lt (Rat.inv_pos.2 (Rat.pow_pos hv)))
 exact ⟨HasDen.sum fun m hm=>(step m hm).1,sumBy_nonneg fun m hm=>(step m hm).2⟩
theorem mom10 {n K:Nat} (hK:87+(73*8+73*7)≤K) (hp:Dst 73 p) (hq:Dst 73 q) (lp:p.length≤6) (lq:q.length≤6) (tp:∀ x∈p,Sz 12 (valX x)) (tq:∀ x∈q,Sz 12 (valX x)) (hn:n≤7) (hin:inX p q=true) :
  momV p q ((n+1:Nat):Int)=.tuple #[.string (rT (momD (valsD p) (valsD q) n)),.bool true,.int .i64 0]∧Sz K (momD (valsD p) (valsD q) n):=by
 obtain ⟨D1,d1,d2,d3⟩:=hp.den
 obtain ⟨D2,e1,e2,e3⟩:=inv_den tq
 have hb:momD (valsD p) (valsD q) n≤((10 ^ 86:Nat):Rat):=by
  refine Rat.le_trans (mom_le hp hq hin tq) (Rat.natCast_le_natCast.2 ?_)
  have h2:(10 ^ 12) ^ n≤(10 ^ 12) ^ 7:=Nat.pow_le_pow_right (by decide) hn
  have h3:=Nat.mul_le_mul lp h2
  exact Nat.le_trans h3 (by decide)
 have e4:D2 < 10 ^ 73:=lt_pow_mono e2 (by omega)
 have hroom:=room10 (a:=73) (b:=73) (c:=87) hn d2 e4 (show 10 ^ 86 < 10 ^ 87 from Nat.pow_lt_pow_right (by decide) (by decide)) d1 e1
 have hk:12*(n+1)+1+(12*n+1)≤maxD:=by unfold maxD;omega
 have hM:0 < 10 ^ 86:=Nat.pow_pos (by decide)
 obtain ⟨r1,_⟩:=momV_fit (k:=12) (M:=10 ^ 86) hp.ok hq.ok hin (by omega) tp tq hk d1 e1 d3 e3 hM (lt_pow_mono hroom (by decide)) hb
 obtain ⟨g1,g2⟩:=mom_den (n:=n) hp hq hin d3 e3
 exact ⟨r1,g1.sz (Nat.mul_pos (Nat.pow_pos d1) (Nat.pow_pos e1)) g2 hb (lt_pow_mono hroom hK) hM⟩
theorem below_mom {x y F:Rat} (hx:0 < x) (hy:0 < y) (hF:1≤F) (i:Nat):x - F*y≤x ^ (i+1+1)*(y ^ (i+1))⁻¹*shM i*(pwM F i)⁻¹:=by
 have hF0:0 < F:=by grind
 have ha:(0:Rat) < ((i+1:Nat):Rat):=Rat.natCast_pos.2 (by omega)
 have hb:(0:Rat) < ((i+2:Nat):Rat):=Rat.natCast_pos.2 (by omega)
 have ia:((i+1:Nat):Rat)*((i+1:Nat):Rat)⁻¹=1:=Rat.mul_inv_cancel _ (by grind)
 have ib:((i+2:Nat):Rat)*((i+2:Nat):Rat)⁻¹=1:=Rat.mul_inv_cancel _ (by grind)
 have h:=bernD (x:=x*((i+2:Nat):Rat)⁻¹) (y:=F*y*((i+1:Nat):Rat)⁻¹) (Rat.mul_pos hx (Rat.inv_pos.2 hb)) (Rat.mul_pos (Rat.mul_pos hF0 hy) (Rat.inv_pos.2 ha)) (i+1)
 have e1:((i+1+1:Nat):Rat)*(x*((i+2:Nat):Rat)⁻¹) - ((i+1:Nat):Rat)*(F*y*((i+1:Nat):Rat)⁻¹)=x - F*y:=by
  have e9:((i+1+1:Nat):Rat)=((i+2:Nat):Rat):=rfl
  rw [e9]
  generalize ((i+1:Nat):Rat)=a at *
  generalize ((i+2:Nat):Rat)=b at *
  grind
 rw [e1] at h
 have e2:(x*((i+2:Nat):Rat)⁻¹) ^ (i+1+1)*((F*y*((i+1:Nat):Rat)⁻¹) ^ (i+1))⁻¹=x ^ (i+1+1)*(y ^ (i+1))⁻¹*shM i*(pwM F i)⁻¹:=by
  unfold shM shA shB pwM
  rw [Rat.zpow_natCast,Rat.zpow_natCast,Rat.zpow_natCast]
  have c1:(((i+1:Nat):Int):Rat)=((i+1:Nat):Rat):=rfl
  have c2:(((i+2:Nat):Int):Rat)=((i+2:Nat):Rat):=rfl
  rw [c1,c2,show i+1+1=i+2 from rfl,mul_pow' x,mul_pow' (F*y),mul_pow' F,inv_mul',inv_mul',← inv_pow (((i+2:Nat):Rat))]
  have d1:(((i+1:Nat):Rat)⁻¹ ^ (i+1))⁻¹=((i+1:Nat):Rat) ^ (i+1):=by rw [inv_pow,Rat.inv_inv]
  rw [d1]
  generalize ((i+1:Nat):Rat) ^ (i+1)=A
  generalize ((i+2:Nat):Rat)⁻¹ ^ (i+2)=B
  generalize (F ^ (i+1))⁻¹=C
  generalize (y ^ (i+1))⁻¹=E
  grind
 rw [← e2]
 exact h
theorem mom_delta {F:Rat} (hp:Dst 73 p) (hq:Dst 73 q) (hin:inX p q=true) (hF:1≤F) (i:Nat):deltaD (valsD p) (valsD q) F≤momD (valsD p) (valsD q) (i+1)*shM i*(pwM F i)⁻¹:=by
 rw [deltaD_vals hq.once,momD_vals hq.once]
 have e:sumBy (fun m:L2=>valX m ^ (i+1+1)*(valQ (atT q m.1).data.toList ^ (i+1))⁻¹) p*shM i*(pwM F i)⁻¹=sumBy (fun m:L2=>(shM i*(pwM F i)⁻¹)*(valX m ^ (i+1+1)*(valQ (atT q m.1).data.toList ^ (i+1))⁻¹)) p:=by
  rw [sumBy_mul];grind
 rw [e]
 refine sumBy_le fun m hm=>?_
 obtain ⟨x,hx,_,e2⟩:=atT_mem (inX_iff.1 hin m hm)
 have hv:0 < valX x:=hq.pos hx
 have hv2:=hp.pos hm
 have e3:valQ (atT q m.1).data.toList=valX x:=by rw [e2]
 rw [e3]
 have h:=below_mom hv2 hv hF i
 have h0:0≤valX m ^ (i+1+1)*(valX x ^ (i+1))⁻¹:=Rat.mul_nonneg (Rat.pow_nonneg (Rat.le_of_lt hv2)) (Rat.le_of_lt (Rat.inv_pos.2 (Rat.pow_pos hv)))
 have h1:0≤shM i*(pwM F i)⁻¹:=by
  refine Rat.mul_nonneg ?_ (Rat.le_of_lt (Rat.inv_pos.2 (pwM_pos hF i)))
  unfold shM shA shB
  rw [Rat.zpow_natCast,Rat.zpow_natCast]
  exact Rat.mul_nonneg (Rat.pow_nonneg Rat.natCast_nonneg) (Rat.le_of_lt (Rat.inv_pos.2 (Rat.pow_pos (Rat.natCast_pos.2 (by omega)))))
 have h2:=Rat.mul_nonneg h1 h0
 refine pos_le (by grind) h2
end
end Go.Proofs.YtigapglmipmbeaaGreatDoor
namespace Go.Proofs.YtigapglmipmbeaaGreatDoor
open Go.RowKit Go.Shelf
open Lim
theorem refsign_zero (a:ByteArray) (q:Rat) (w:World) (ha:a.size≤270000) (he:errQ a.data.toList=0) (hq:valQ a.data.toList=q) (h0:nm q=0) :
  Calls Tryz.prog 110 #[.string a] w fun e w'=>e=.returned (.tuple #[.int .i64 0,.int .i64 0])∧Below w.heap.size w w':=by
 have HP:=Lib.hid (rq_any a w ha)
 have hne:((errQ a.data.toList:Int)==0)=true:=by rw [he];rfl
 have HE:=Lib.hid he
 rw [hq] at HP
 have HF:=Lib.hid (fun (b:Bool) (N:Nat) (h:ng q=b∧nm q=N)=>show (((toL N).length:Int)==0)=true∧b=b from ⟨by rw [len_zero,← h.2,decide_eq_true h0],rfl⟩)
 clear h0
 clear he hq
 go_enter Tryz.func110,Tryz.ntmps110
 go_wp2_with (go_at_call 155;refine HP.out.mono ?_;rintro e w1 ⟨v,rfl,hv,-,hb⟩;obtain ⟨bq,N,D,A,c,A',c',rfl,hn,hd,HQ⟩:=isQ_open (hv HE.out);have HB:=Lib.hid hb;have HX:=Lib.hid (below_alloc (Below.refl w1.heap.size w1) (.cells #[.bool bq,.slice A (toL N).length c,.slice A' (toL D).length c'] 170));have HBX:=Lib.hid (HB.out.trans (HX.out.mono HB.out.size));have HN:=Lib.hid (hn.below HX.out);have HD:=Lib.hid (hd.below HX.out);clear hb hv hn hd;obtain ⟨f1,f2⟩:=HF.out _ _ ⟨HQ.out.1,HQ.out.2.1⟩)
 all_goals first
  | (refine bodyPost_ret (results_tmp2 rfl _ _ _) rfl ?_;refine ⟨?_,HBX.out⟩;show Ending.returned (.tuple #[.int .i64 0,.int .i64 (errQ a.data.toList:Int)])=_;rw [HE.out];rfl)
  | (exfalso;have:=HE.out;omega)
  | (exfalso;simp_all)
theorem refsign_neg (a:ByteArray) (q:Rat) (w:World) (ha:a.size≤270000) (he:errQ a.data.toList=0) (hq:valQ a.data.toList=q) (h0:nm q≠0) (hb:ng q=true) :
  Calls Tryz.prog 110 #[.string a] w fun e w'=>e=.returned (.tuple #[.int .i64 (-1),.int .i64 0])∧Below w.heap.size w w':=by
 have HP:=Lib.hid (rq_any a w ha)
 have hne:((errQ a.data.toList:Int)==0)=true:=by rw [he];rfl
 have HE:=Lib.hid he
 rw [hq] at HP
 have HF:=Lib.hid (fun (b:Bool) (N:Nat) (h:ng q=b∧nm q=N)=>show (((toL N).length:Int)==0)=false∧b=true from ⟨by rw [len_zero,← h.2,decide_eq_false h0],h.1.symm.trans hb⟩)
 clear h0 hb
 clear he hq
 go_enter Tryz.func110,Tryz.ntmps110
 go_wp2_with (go_at_call 155;refine HP.out.mono ?_;rintro e w1 ⟨v,rfl,hv,-,hb⟩;obtain ⟨bq,N,D,A,c,A',c',rfl,hn,hd,HQ⟩:=isQ_open (hv HE.out);have HB:=Lib.hid hb;have HX:=Lib.hid (below_alloc (Below.refl w1.heap.size w1) (.cells #[.bool bq,.slice A (toL N).length c,.slice A' (toL D).length c'] 170));have HBX:=Lib.hid (HB.out.trans (HX.out.mono HB.out.size));have HN:=Lib.hid (hn.below HX.out);have HD:=Lib.hid (hd.below HX.out);clear hb hv hn hd;obtain ⟨f1,f2⟩:=HF.out _ _ ⟨HQ.out.1,HQ.out.2.1⟩;subst f2)
 all_goals first
  | (refine bodyPost_ret (results_tmp2 rfl _ _ _) rfl ?_;exact ⟨rfl,HBX.out⟩)
  | (exfalso;have:=beq_eq_false_iff_ne.1 f1;omega)
  | (exfalso;simp_all)
theorem refsign_pos (a:ByteArray) (q:Rat) (w:World) (ha:a.size≤270000) (he:errQ a.data.toList=0) (hq:valQ a.data.toList=q) (h0:nm q≠0) (hb:ng q=false) :
  Calls Tryz.prog 110 #[.string a] w fun e w'=>e=.returned (.tuple #[.int .i64 1,.int .i64 0])∧Below w.heap.size w w':=by
 have HP:=Lib.hid (rq_any a w ha)
 have hne:((errQ a.data.toList:Int)==0)=true:=by rw [he];rfl
 have HE:=Lib.hid he
 rw [hq] at HP
 have HF:=Lib.hid (fun (b:Bool) (N:Nat) (h:ng q=b∧nm q=N)=>show (((toL N).length:Int)==0)=false∧b=false from ⟨by rw [len_zero,← h.2,decide_eq_false h0],h.1.symm.trans hb⟩)
 clear h0 hb
 clear he hq
 go_enter Tryz.func110,Tryz.ntmps110
 go_wp2_with (go_at_call 155;refine HP.out.mono ?_;rintro e w1 ⟨v,rfl,hv,-,hb⟩;obtain ⟨bq,N,D,A,c,A',c',rfl,hn,hd,HQ⟩:=isQ_open (hv HE.out);have HB:=Lib.hid hb;have HX:=Lib.hid (below_alloc (Below.refl w1.heap.size w1) (.cells #[.bool bq,.slice A (toL N).length c,.slice A' (toL D).length c'] 170));have HBX:=Lib.hid (HB.out.trans (HX.out.mono HB.out.size));have HN:=Lib.hid (hn.below HX.out);have HD:=Lib.hid (hd.below HX.out);clear hb hv hn hd;obtain ⟨f1,f2⟩:=HF.out _ _ ⟨HQ.out.1,HQ.out.2.1⟩;subst f2)
 all_goals first
  | (refine bodyPost_ret (results_tmp2 rfl _ _ _) rfl ?_;exact ⟨rfl,HBX.out⟩)
  | (exfalso;have:=beq_eq_false_iff_ne.1 f1;omega)
  | (exfalso;simp_all)
theorem refSign_err (a:ByteArray) (w:World) (ha:a.size≤270000) (he:errQ a.data.toList≠0) :
  Calls Tryz.prog 110 #[.string a] w fun e w'=>e=.returned (.tuple #[.int .i64 0,.int .i64 (errQ a.data.toList:Int)])∧Below w.heap.size w w':=by
 have HP:=Lib.hid (rq_any a w ha)
 have hne:((errQ a.data.toList:Int)==0)=false:=by rw [beq_eq_false_iff_ne];omega
 have HE:=Lib.hid he
 clear he
 go_enter Tryz.func110,Tryz.ntmps110
 go_wp2_with ((go_at_call 155;refine HP.out.mono ?_;rintro e w1 ⟨v,rfl,-,hz,hb⟩;obtain rfl:=hz HE.out;have HB:=Lib.hid hb;clear hb hz))
 all_goals first
  | (refine bodyPost_ret (results_tmp2 rfl _ _ _) rfl ?_;exact ⟨rfl,below_alloc HB.out _⟩)
  | (exfalso;have:=HE.out;omega)
  | (exfalso;simp_all)
theorem refSign_any (a:ByteArray) (w:World) (ha:a.size≤270000) :
  Calls Tryz.prog 110 #[.string a] w fun e w'=>e=.returned (resI (oneI (fun p=>(sgQ p,0)) a.data.toList))∧Below w.heap.size w w':=by
 unfold oneI
 by_cases he:errQ a.data.toList=0
 ·rw [if_neg (by omega)]
  unfold resI sgQ
  dsimp only
  by_cases h0:nm (valQ a.data.toList)=0
  ·rw [if_pos h0]
   exact refsign_zero a _ w ha he rfl h0
  ·rw [if_neg h0]
   cases hb:ng (valQ a.data.toList) with
   | true=>exact refsign_neg a _ w ha he rfl h0 hb
   | false=>exact refsign_pos a _ w ha he rfl h0 hb
 ·rw [if_pos he]
  exact refSign_err a w ha he
section
variable {a b:ByteArray} (ha:a.size≤270000) (hb:b.size≤270000)
include ha hb
theorem retRPlX:Ret 59 #[.string a,.string b] (resX (plX a b)):=fun w _=>by
 unfold plX
 rw [← resX_ex (plX_t a b)]
 exact refAdd_any a b w ha hb
theorem retRSubX:Ret 61 #[.string a,.string b] (resX (subX a b)):=fun w _=>by
 unfold subX
 rw [← resX_ex (subX_t a b)]
 exact refSub_any a b w ha hb
theorem retRMulX:Ret 149 #[.string a,.string b] (resX (mulX a b)):=fun w _=>by
 unfold mulX
 rw [← resX_ex (mulX_t a b)]
 exact refMul_any a b w ha hb
theorem retRDivX:Ret 160 #[.string a,.string b] (resX (divX a b)):=fun w _=>by
 unfold divX
 rw [← resX_ex (divX_t a b)]
 exact refDiv_any a b w ha hb
end
theorem retRSign {a:ByteArray} (ha:a.size≤270000):Ret 110 #[.string a] (.tuple #[.int .i64 (if errQ a.data.toList≠0 then 0 else sgQ (valQ a.data.toList)),.int .i64 (errQ a.data.toList:Int)]):=fun w _=>by
 refine (refSign_any a w ha).mono ?_
 rintro e w' ⟨rfl,h⟩
 refine ⟨?_,h⟩
 unfold oneI resI
 split
 ·rfl
 ·rename_i h0
  rw [show errQ a.data.toList=0 from Classical.byContradiction h0]
theorem retRSign_err {a:ByteArray} (ha:a.size≤270000) (h:errQ a.data.toList≠0):Ret 110 #[.string a] (.tuple #[.int .i64 0,.int .i64 (errQ a.data.toList:Int)]):=by
 have:=retRSign ha
 rwa [if_pos h] at this
theorem retRSign_ok {a:ByteArray} (ha:a.size≤270000) (h:errQ a.data.toList=0):Ret 110 #[.string a] (.tuple #[.int .i64 (sgQ (valQ a.data.toList)),.int .i64 0]):=by
 have:=retRSign ha
 rw [if_neg (by simpa using h),h] at this
 exact this
theorem posE_err {p:ByteArray} (h:errQ p.data.toList≠0):posE p=errQ p.data.toList:=if_pos h
end Go.Proofs.YtigapglmipmbeaaGreatDoor
namespace Go.Proofs.YtigapglmipmbeaaGreatDoor
open Go.RowKit Go.Shelf
open Lim
attribute [local go_sem] Oper.semAt_some
theorem rdcheck_any (ls:List L2) (v:Value) (w:World) (hv:LRow w v ls) (hs:Short ls) (hr:Res w) :
  Calls Tryz.prog 37 #[v] w fun e w'=>e=.returned (.int .i64 (chkD ls:Int))∧Below w.heap.size w w':=by
 have HV:=Lib.hid hv
 obtain ⟨A,c,rfl,hlen,hcells⟩:=hv
 have HS:=Lib.hid hs
 have H0:=Lib.hid (NW.refl hr)
 clear hr hcells hs
 go_enter Tryz.func37,Tryz.ntmps37
 go_wp2
 go_loopw [3] (fun v3 wr=>∃ k:Nat,k≤ls.length∧v3=.int .i64 (k:Int)∧Hid (chkL none ls=chkL (keyAt ls k) (ls.drop k))∧Hid (NW w wr)) (fun v3 _=>ls.length - (intOf v3).toNat)
 case atStart=>exact ⟨0,Nat.zero_le _,rfl,Lib.hid (by simp [keyAt]),H0⟩
 case round =>
  clear H0
  obtain ⟨k,hk,rfl,HE,HN⟩:=hrel
  by_cases hlt:k < ls.length
  ·obtain ⟨x,hx⟩:∃ x,ls[k]?=some x:=⟨_,List.getElem?_eq_getElem hlt⟩
   obtain ⟨b,o,c',e',hb2,c0,c1⟩:=HV.out.at HN.out.below hx
   simp only [Value.slice.injEq,true_and] at e'
   obtain ⟨rfl,rfl⟩:=e'
   have hlt':(k:Int) < (ls.length:Int):=by omega
   have hsx:=(HS.out x (List.mem_of_getElem? hx)).2
   have HD:=Lib.hid (drop_of hx)
   have HLT:=Lib.hid (And.intro hlt hlt')
   have HXK:=Lib.hid hx
   obtain ⟨f,d⟩:=x
   dsimp only at c0 c1 HD HXK hsx
   clear hx hlt
   by_cases h0:errQ d.data.toList=0
   ·have HSG:=Lib.hid (retRSign_ok hsx h0)
    by_cases h2:0 < valQ d.data.toList
    ·have d1:decide (sgQ (valQ d.data.toList)≤0)=false:=decide_eq_false (fun h=>by have:=(sg_gt _).2 h2;omega)
     have h1:posE d=0:=posE_zero.2 ⟨h0,by grind⟩
     have HH:=Lib.hid (And.intro h1 h2)
     clear h0 h1 h2 hsx
     generalize sgQ (valQ d.data.toList)=sg at *
     rcases Nat.eq_zero_or_pos k with hk0|hk0
     ·have HR:=Lib.hid (show chkL none ls=chkL (keyAt ls (k+1)) (ls.drop (k+1)) by
       rw [HE.out,HD.out,keyAt_succ HXK.out,hk0]
       exact chkL_go (x:=(f,d)) HH.out.1 HH.out.2 rfl)
      have d0:decide (0 < (k:Int))=false:=decide_eq_false (by omega)
      have d0n:decide (0 < k)=false:=decide_eq_false (by omega)
      clear hk0
      go_wp2_with (go_at_call 110;refine (HSG.out _ HN.out.res).mono ?_;rintro e w3 ⟨rfl,hb⟩;have H3:=Lib.hid (HN.out.later hb);have hb3:=Nat.lt_of_lt_of_le hb2 hb.size;clear hb)
      go_quiet (fail)
      have H4:=Lib.hid (fun n=>H3.out.drewN n)
      go_wp2
      go_roundw
      case rel=>exact ⟨k+1,HLT.out.1,by go_num,HR,H4.out _⟩
      case measure=>have:=HLT.out.1;simp [intOf];omega
     ·obtain ⟨j,hj⟩:∃ j,k=j+1:=⟨k - 1,by omega⟩
      have hjl:(j:Int) < (ls.length:Int):=by have:=HLT.out.1;omega
      obtain ⟨y,hy⟩:∃ y,ls[j]?=some y:=⟨_,List.getElem?_eq_getElem (by omega)⟩
      have e1:(k:Int) - 1=(j:Int):=by omega
      have d0:decide (0 < (k:Int))=true:=decide_eq_true (by omega)
      have d0n:decide (0 < k)=true:=decide_eq_true (by omega)
      have HKJ:=Lib.hid hj
      clear hk0 hj
      have HYK:=Lib.hid hy
      cases h3:ltK y.1 f with
      | true =>
       have HR:=Lib.hid (show chkL none ls=chkL (keyAt ls (k+1)) (ls.drop (k+1)) by
        rw [HE.out,HD.out,keyAt_succ HXK.out,HKJ.out,keyAt_succ hy]
        exact chkL_go (x:=(f,d)) HH.out.1 HH.out.2 (by show (!ltK y.1 f)=false;rw [h3];rfl))
       have TL:=lt_bytes y.1 f
       rw [h3] at TL
       clear h3 hy
       go_wp2_with (go_at_call 110;refine (HSG.out _ HN.out.res).mono ?_;rintro e w3 ⟨rfl,hb⟩;have H3:=Lib.hid (HN.out.later hb);have hb3:=Nat.lt_of_lt_of_le hb2 hb.size;obtain ⟨hb4,q0,q1⟩:=HV.out.cell2 H3.out.below HXK.out;obtain ⟨hb5,p0,p1⟩:=HV.out.cell2 H3.out.below HYK.out;clear hb)
       go_quiet (fail)
       have H4:=Lib.hid (fun n=>H3.out.drewN n)
       go_wp2
       go_roundw
       case rel=>exact ⟨k+1,HLT.out.1,by go_num,HR,H4.out _⟩
       case measure=>have:=HLT.out.1;simp [intOf];omega
      | false =>
       have HR:=Lib.hid (show chkL none ls=9 by
        rw [HE.out,HD.out,HKJ.out,keyAt_succ hy]
        exact chkL_ord (x:=(f,d)) HH.out.1 HH.out.2 (by show (!ltK y.1 f)=true;rw [h3];rfl))
       have TL:=lt_bytes y.1 f
       rw [h3] at TL
       clear h3 hy
       go_wp2_with (go_at_call 110;refine (HSG.out _ HN.out.res).mono ?_;rintro e w3 ⟨rfl,hb⟩;have H3:=Lib.hid (HN.out.later hb);have hb3:=Nat.lt_of_lt_of_le hb2 hb.size;obtain ⟨hb4,q0,q1⟩:=HV.out.cell2 H3.out.below HXK.out;obtain ⟨hb5,p0,p1⟩:=HV.out.cell2 H3.out.below HYK.out;clear hb)
       go_quiet (fail)
       have H4:=Lib.hid (fun n=>H3.out.drewN n)
       go_wp2
       go_ret
       refine ⟨?_,(H4.out _).below⟩
       unfold chkD
       rw [HR.out]
       rfl
    ·have d1:decide (sgQ (valQ d.data.toList)≤0)=true:=decide_eq_true (Classical.byContradiction fun h=>h2 ((sg_gt _).1 (by omega)))
     have HR:=Lib.hid (show chkL none ls=2 by
      rw [HE.out,HD.out]
      by_cases h1:posE d=0
      ·exact chkL_low (x:=(f,d)) h1 h2
      ·rw [chkL_err (x:=(f,d)) h1]
       show posE d=2
       unfold posE at h1 ⊢
       rw [if_neg (by simpa using h0)] at h1 ⊢
       split
       ·rfl
       ·rename_i h4;rw [if_neg h4] at h1;exact absurd rfl h1)
     generalize sgQ (valQ d.data.toList)=sg at *
     clear h0 h2 hsx
     go_wp2_with (go_at_call 110;refine (HSG.out _ HN.out.res).mono ?_;rintro e w3 ⟨rfl,hb⟩;have H3:=Lib.hid (HN.out.later hb);have hb3:=Nat.lt_of_lt_of_le hb2 hb.size;clear hb)
     go_ret
     refine ⟨?_,H3.out.below⟩
     unfold chkD
     rw [HR.out]
     rfl
   ·have HSG:=Lib.hid (retRSign_err hsx h0)
    have HR:=Lib.hid (show chkL none ls=errQ d.data.toList∧chkL none ls≠0 by
     rw [HE.out,HD.out,chkL_err (x:=(f,d)) (by show posE d≠0;rw [posE_err h0];exact h0)]
     show posE d=_∧posE d≠0
     rw [posE_err h0]
     exact ⟨rfl,h0⟩)
    have hm:=ne_zero h0
    clear h0 hsx
    go_wp2_with (go_at_call 110;refine (HSG.out _ HN.out.res).mono ?_;rintro e w3 ⟨rfl,hb⟩;have H3:=Lib.hid (HN.out.later hb);have hb3:=Nat.lt_of_lt_of_le hb2 hb.size;clear hb)
    go_ret
    refine ⟨?_,H3.out.below⟩
    unfold chkD
    rw [if_pos HR.out.2,HR.out.1]
    rfl
  ·have hlt':¬ (k:Int) < (ls.length:Int):=by omega
   obtain rfl:k=ls.length:=by omega
   have h0:chkL none ls=0:=by
    have:=HE.out
    rw [List.drop_length] at this
    exact this
   have HQ:=Lib.hid (show chkD ls=chkS (foldX (fun x:L2=>.ok x.2) zT ls) by unfold chkD;rw [h0];rfl)
   have HER:=Lib.hid (errs_of h0)
   clear h0 hlt hk HE
   go_wp2
   go_loopw [6,8] (fun v6 v8 wq=>∃ (k:Nat) (s:ByteArray),k≤ls.length∧v8=.int .i64 (k:Int)∧v6=.string s∧Hid (errQ s.data.toList=0∧foldX (fun x:L2=>(.ok x.2:XE)) zT ls=foldX (fun x:L2=>.ok x.2) s (ls.drop k))∧Hid (NW w wq)) (fun _ v8 _=>ls.length - (intOf v8).toNat)
   case atStart=>exact ⟨0,zT,Nat.zero_le _,rfl,rfl,Lib.hid ⟨err_zT,by simp⟩,HN⟩
   case round =>
    clear HN hlt'
    obtain ⟨k,s,hk,rfl,rfl,HE,HN⟩:=hrel
    by_cases hlt:k < ls.length
    ·obtain ⟨x,hx⟩:∃ x,ls[k]?=some x:=⟨_,List.getElem?_eq_getElem hlt⟩
     obtain ⟨b,o,c',e',hb2,c0,c1⟩:=HV.out.at HN.out.below hx
     simp only [Value.slice.injEq,true_and] at e'
     obtain ⟨rfl,rfl⟩:=e'
     have hlt':(k:Int) < (ls.length:Int):=by omega
     have HD:=Lib.hid (drop_of hx)
     have HLT:=Lib.hid (And.intro hlt hlt')
     have HA:=Lib.hid (retRPlX (size_ok HE.out.1) (HS.out x (List.mem_of_getElem? hx)).2)
     obtain ⟨f,d⟩:=x
     dsimp only at c0 c1 HD HA
     clear hx hlt
     cases ha:plX s d with
     | error n =>
      have HR:=Lib.hid (show foldX (fun x:L2=>(.ok x.2:XE)) zT ls=.error n by rw [HE.out.2,HD.out];exact foldX_err2 rfl ha)
      have hm:=ne_zero (exQ_err ha)
      rw [ha] at HA
      change Hid (Ret _ _ (.tuple #[.string ⟨#[]⟩,.int .i64 (n:Int)])) at HA
      clear ha
      go_wp2_with (go_at_call 59;refine (HA.out _ HN.out.res).mono ?_;rintro e w3 ⟨rfl,hb⟩;have H3:=Lib.hid (HN.out.later hb);clear hb)
      go_ret
      rw [HQ.out,HR.out]
      exact ⟨rfl,H3.out.below⟩
     | ok t =>
      have HR:=Lib.hid (show errQ t.data.toList=0∧foldX (fun x:L2=>(.ok x.2:XE)) zT ls=foldX (fun x:L2=>.ok x.2) t (ls.drop (k+1)) from ⟨plX_ok ha,by rw [HE.out.2,HD.out];exact foldX_ok rfl ha⟩)
      rw [ha] at HA
      change Hid (Ret _ _ (.tuple #[.string t,.int .i64 0])) at HA
      clear ha
      go_wp2_with (go_at_call 59;refine (HA.out _ HN.out.res).mono ?_;rintro e w3 ⟨rfl,hb⟩;have H3:=Lib.hid (HN.out.later hb);clear hb)
      go_roundw
      case rel=>exact ⟨k+1,t,HLT.out.1,by go_num,rfl,HR,H3⟩
      case measure=>have:=HLT.out.1;simp [intOf];omega
    ·have hlt':¬ (k:Int) < (ls.length:Int):=by omega
     obtain rfl:k=ls.length:=by omega
     have HR:=Lib.hid (show foldX (fun x:L2=>(.ok x.2:XE)) zT ls=.ok s by
      have:=HE.out.2
      rwa [List.drop_length] at this)
     have TE:=eq_bytes s oT
     rw [oT_list] at TE
     rw [HR.out,chkS_ok] at HQ
     clear hlt
     by_cases h1:s=oT
     ·rw [decide_eq_true h1] at TE
      rw [if_pos h1] at HQ
      clear h1
      go_wp2
      go_ret
      rw [HQ.out]
      exact ⟨rfl,HN.out.below⟩
     ·rw [decide_eq_false h1] at TE
      rw [if_neg h1] at HQ
      clear h1
      go_wp2
      go_ret
      rw [HQ.out]
      exact ⟨rfl,HN.out.below⟩
theorem rdboth_any (p q:List L2) (vp vq:Value) (w:World) (hp:LRow w vp p) (hq:LRow w vq q) (sp:Short p) (sq:Short q) (hr:Res w) :
  Calls Tryz.prog 114 #[vp,vq] w fun e w'=>e=.returned (.int .i64 (chk2 p q:Int))∧Below w.heap.size w w':=by
 have N0:=Lib.hid (NW.refl hr)
 have TKA:True:=trivial
 have HP:=Lib.hid (rdcheck_any p vp w hp sp hr)
 have HQ:=Lib.hid (fun W (hW:NW w W)=>rdcheck_any q vq W (hq.below hW.below) sq hW.res)
 clear hp hq sp sq hr
 by_cases h0:chkD p=0
 ·have HR:=Lib.hid (show chk2 p q=chkD q from if_neg (by simpa using h0))
  rw [h0] at HP
  change Hid (Calls _ _ _ _ fun e w'=>e=.returned (.int .i64 0)∧_) at HP
  clear h0
  go_enter Tryz.func114,Tryz.ntmps114
  go_wp2_with (first
   | (clear TKA;go_at_call 37;refine HP.out.mono ?_;rintro e w1 ⟨rfl,hb⟩;have N1:=Lib.hid (N0.out.later hb);clear hb)
   | (go_at_call 37;refine (HQ.out _ N1.out).mono ?_;rintro e w2 ⟨rfl,hb⟩;have N2:=Lib.hid (N1.out.later hb);clear hb))
  go_ret
  rw [HR.out]
  exact ⟨rfl,N2.out.below⟩
 ·have HR:=Lib.hid (show chk2 p q=chkD p from if_pos h0)
  have hm:=ne_zero h0
  clear h0
  go_enter Tryz.func114,Tryz.ntmps114
  go_wp2_with (clear TKA;go_at_call 37;refine HP.out.mono ?_;rintro e w1 ⟨rfl,hb⟩;have N1:=Lib.hid (N0.out.later hb);clear hb)
  go_ret
  rw [HR.out]
  exact ⟨rfl,N1.out.below⟩
theorem atT_hit {x:L2} {l:List L2} {k:ByteArray} (h:x.1=k):atT (x::l) k=x.2∧hasT (x::l) k=true:=by unfold atT hasT;rw [if_pos h,if_pos h];exact ⟨rfl,rfl⟩
theorem atT_miss {x:L2} {l:List L2} {k:ByteArray} (h:x.1≠k):atT (x::l) k=atT l k∧hasT (x::l) k=hasT l k:=by
 constructor
 ·conv=>lhs;unfold atT
  rw [if_neg h]
 ·conv=>lhs;unfold hasT
  rw [if_neg h]
theorem rdfind_any (ls:List L2) (v:Value) (key:ByteArray) (w:World) (hv:LRow w v ls) :
  Calls Tryz.prog 126 #[v,.string key] w fun e w'=>e=.returned (.tuple #[.string (atT ls key),.bool (hasT ls key)])∧w'=w:=by
 have HV:=Lib.hid hv
 obtain ⟨A,c,rfl,hlen,hcells⟩:=hv
 clear hcells
 go_enter Tryz.func126,Tryz.ntmps126
 go_wp2
 go_loopw [6] (fun v6 wr=>∃ k:Nat,k≤ls.length∧v6=.int .i64 (k:Int)∧Hid (atT ls key=atT (ls.drop k) key∧hasT ls key=hasT (ls.drop k) key)∧wr=w) (fun v6 _=>ls.length - (intOf v6).toNat)
 case atStart=>exact ⟨0,Nat.zero_le _,rfl,Lib.hid (by simp),rfl⟩
 case round =>
  obtain ⟨k,hk,rfl,HE,rfl⟩:=hrel
  by_cases hlt:k < ls.length
  ·obtain ⟨x,hx⟩:∃ x,ls[k]?=some x:=⟨_,List.getElem?_eq_getElem hlt⟩
   obtain ⟨b,o,c',e',hb2,c0,c1⟩:=HV.out.at (Below.refl _ _) hx
   simp only [Value.slice.injEq,true_and] at e'
   obtain ⟨rfl,rfl⟩:=e'
   have hlt':(k:Int) < (ls.length:Int):=by omega
   have HD:=Lib.hid (drop_of hx)
   have HLT:=Lib.hid (And.intro hlt hlt')
   obtain ⟨f,d⟩:=x
   dsimp only at c0 c1 HD
   have TE:=eq_bytes f key
   clear hx hlt
   by_cases h1:f=key
   ·rw [decide_eq_true h1] at TE
    have HR:=Lib.hid (show atT ls key=d∧hasT ls key=true by rw [HE.out.1,HE.out.2,HD.out];exact atT_hit h1)
    clear h1
    go_wp2
    go_ret2
    rw [HR.out.1,HR.out.2]
    exact ⟨rfl,rfl⟩
   ·rw [decide_eq_false h1] at TE
    have HR:=Lib.hid (show atT ls key=atT (ls.drop (k+1)) key∧hasT ls key=hasT (ls.drop (k+1)) key by rw [HE.out.1,HE.out.2,HD.out];exact atT_miss h1)
    clear h1
    go_wp2
    go_roundw
    case rel=>exact ⟨k+1,HLT.out.1,by go_num,HR,trivial⟩
    case measure=>have:=HLT.out.1;simp [intOf];omega
  ·have hlt':¬ (k:Int) < (ls.length:Int):=by omega
   obtain rfl:k=ls.length:=by omega
   have HR:=Lib.hid (show atT ls key=zT∧hasT ls key=false by
    have:=HE.out
    rw [List.drop_length] at this
    exact this)
   clear hlt
   go_wp2
   go_ret2
   rw [HR.out.1,HR.out.2]
   exact ⟨rfl,rfl⟩
theorem rdAt_any (ls:List L2) (v:Value) (key:ByteArray) (w:World) (hv:LRow w v ls) :
  Calls Tryz.prog 39 #[v,.string key] w fun e w'=>e=.returned (.string (atT ls key))∧w'=w:=by
 have HF:=Lib.hid (rdfind_any ls v key w hv)
 clear hv
 go_enter Tryz.func39,Tryz.ntmps39
 go_wp2_with (go_at_call 126;refine HF.out.mono ?_;rintro e w1 ⟨rfl,rfl⟩)
 go_ret
 exact ⟨rfl,rfl⟩
theorem inX_hit {x:L2} {l q:List L2} (h:hasT q x.1=true):inX (x::l) q=inX l q:=by
 conv=>lhs;unfold inX
 rw [if_pos h]
theorem inX_miss {x:L2} {l q:List L2} (h:hasT q x.1=false):inX (x::l) q=false:=by
 unfold inX
 rw [if_neg (by rw [h];decide)]
theorem rdwithin_any (p q:List L2) (vp vq:Value) (w:World) (hp:LRow w vp p) (hq:LRow w vq q) :
  Calls Tryz.prog 159 #[vp,vq] w fun e w'=>e=.returned (.bool (inX p q))∧w'=w:=by
 have HV:=Lib.hid hp
 have HF:=Lib.hid (fun k=>rdfind_any q vq k w hq)
 obtain ⟨A,c,rfl,hlen,hcells⟩:=hp
 clear hcells hq
 go_enter Tryz.func159,Tryz.ntmps159
 go_wp2
 go_loopw [5] (fun v5 wr=>∃ k:Nat,k≤p.length∧v5=.int .i64 (k:Int)∧Hid (inX p q=inX (p.drop k) q)∧wr=w) (fun v5 _=>p.length - (intOf v5).toNat)
 case atStart=>exact ⟨0,Nat.zero_le _,rfl,Lib.hid (by simp),rfl⟩
 case round =>
  obtain ⟨k,hk,rfl,HE,rfl⟩:=hrel
  by_cases hlt:k < p.length
  ·obtain ⟨x,hx⟩:∃ x,p[k]?=some x:=⟨_,List.getElem?_eq_getElem hlt⟩
   obtain ⟨b,o,c',e',hb2,c0,c1⟩:=HV.out.at (Below.refl _ _) hx
   simp only [Value.slice.injEq,true_and] at e'
   obtain ⟨rfl,rfl⟩:=e'
   have hlt':(k:Int) < (p.length:Int):=by omega
   have HD:=Lib.hid (drop_of hx)
   have HLT:=Lib.hid (And.intro hlt hlt')
   obtain ⟨f,d⟩:=x
   dsimp only at c0 c1 HD
   have HFK:=Lib.hid (HF.out f)
   clear hx hlt
   cases h1:hasT q f with
   | true =>
    have HR:=Lib.hid (show inX p q=inX (p.drop (k+1)) q by rw [HE.out,HD.out];exact inX_hit h1)
    rw [h1] at HFK
    clear h1
    go_wp2_with (go_at_call 126;refine HFK.out.mono ?_;rintro e w1 ⟨rfl,rfl⟩)
    go_roundw
    case rel=>exact ⟨k+1,HLT.out.1,by go_num,HR,trivial⟩
    case measure=>have:=HLT.out.1;simp [intOf];omega
   | false =>
    have HR:=Lib.hid (show inX p q=false by rw [HE.out,HD.out];exact inX_miss h1)
    rw [h1] at HFK
    clear h1
    go_wp2_with (go_at_call 126;refine HFK.out.mono ?_;rintro e w1 ⟨rfl,rfl⟩)
    go_ret
    rw [HR.out]
    exact ⟨rfl,rfl⟩
  ·have hlt':¬ (k:Int) < (p.length:Int):=by omega
   obtain rfl:k=p.length:=by omega
   have HR:=Lib.hid (show inX p q=true by
    have:=HE.out
    rw [List.drop_length] at this
    exact this)
   clear hlt
   go_wp2
   go_ret
   rw [HR.out]
   exact ⟨rfl,rfl⟩
end Go.Proofs.YtigapglmipmbeaaGreatDoor
namespace Go.Proofs.YtigapglmipmbeaaGreatDoor
open Go.RowKit
structure LaterW (w:World) where
 W:World
 h:Below w.heap.size w W
instance (w:World):Nonempty (LaterW w):=⟨⟨w,Below.refl _ _⟩⟩
theorem wp_region_later {P:Program} {id:Nat} {Q:Exit→Act→World→Prop} {a:Act} {w:World} {l:List Oper} (hm:P.follows .mixedOrders=true) (hB:Region.lexB .any l.toArray=true)
  (h:wpQuiet P l.toArray (fun W=>∃ x:LaterW w,W=x.W) (fun a'=>∀ W,(∃ x:LaterW w,W=x.W)→Q .normal a' W) l a):(Code.region id l.toArray true).wp P Q a w :=
 wp_region_quiet (C:=fun W=>∃ x:LaterW w,W=x.W) hm hB ⟨⟨{ w with drawn:=w.drawn+1 },⟨rfl,rfl,rfl,Nat.le_refl _,fun _ _=>rfl⟩⟩,rfl⟩ (by simpa using h)
def fastFree (md:Region.Mode) (ops:Array Oper) (k:Nat) (o:Oper) (l:List Oper):Bool :=
 l.all fun y=>y.after.any (fun e=>Region.binds md e&&e.on==k) || o.apart ops y
def fastLex (md:Region.Mode) (ops:Array Oper):Nat→List Oper→Bool
 | _,[]=>true
 | k,o::l=>(o.after.all fun e=>!Region.binds md e || decide (e.on < k))&&fastFree md ops k o l&&fastLex md ops (k+1) l
theorem fast_from {md:Region.Mode} {ops:Array Oper}:∀ (l:List Oper) (k:Nat) (L:Array Bool),fastLex md ops k l=true→(∀ j,l[j]?=ops[k+j]?)→ops.size=k+l.length →
  (∀ i,i < ops.size→L[i]?=some (decide (i < k)))→Region.lexFrom md ops l.length k L=true
 | [],k,L,_,_,hs,hL=>by
  have hall:∀ i∈List.range ops.size,¬ (!L.getD i true&&((ops[i]?).map (·.after.all fun e=>!Region.binds md e || L.getD e.on false)).getD false)=true:=fun i hi=>by
   have hi:=List.mem_range.1 hi
   have hk:i < k:=by simpa using (show i < k+([]:List Oper).length from hs ▸ hi)
   have h1:L.getD i true=true:=by rw [Array.getD_eq_getD_getElem?,hL i hi,decide_eq_true hk];rfl
   rw [h1];simp
  show (Region.ready md ops L).isEmpty=true
  unfold Region.ready
  rw [List.isEmpty_iff,List.filter_eq_nil_iff]
  exact hall
 | o::l,k,L,h,hl,hs,hL=>by
  unfold fastLex at h
  simp only [Bool.and_eq_true] at h
  obtain ⟨⟨h1,h2⟩,h3⟩:=h
  have h0:ops[k]?=some o:=by simpa using (hl 0).symm
  have hk:k < ops.size:=by rw [hs,List.length_cons];omega
  have get:∀ i d,i < ops.size→L.getD i d=decide (i < k):=fun i d hi=>by rw [Array.getD_eq_getD_getElem?,hL i hi];rfl
  have hLs:ops.size≤L.size:=by
   rcases Nat.lt_or_ge L.size ops.size with h|h
   ·have:=hL L.size h
    rw [Array.getElem?_eq_none (Nat.le_refl _)] at this
    cases this
   ·exact h
  show ((Region.ready md ops L).contains k&&Region.free md ops L k&&Region.lexFrom md ops l.length (k+1) (L.setIfInBounds k true))=true
  simp only [Bool.and_eq_true]
  refine ⟨⟨?_,?_⟩,fast_from l (k+1) _ h3 (fun j=>?_) (by rw [hs,List.length_cons];omega) (fun i hi=>?_)⟩
  ·rw [List.contains_iff_mem,mem_ready]
   refine ⟨by rw [get k true hk];exact decide_eq_false (by omega),o,h0,fun e he hb=>?_⟩
   have:=Array.all_eq_true'.1 h1 e he
   rw [hb] at this
   have hlt:e.on < k:=by simpa using this
   rw [get e.on false (by omega)]
   exact decide_eq_true hlt
  ·unfold Region.free
   rw [h0]
   simp only [List.all_eq_true,List.mem_range]
   intro j hj
   by_cases hjk:j=k
   ·subst hjk;simp
   ·rcases Nat.lt_or_ge j k with hlt|hge
    ·rw [get j true hj,decide_eq_true hlt];simp
    ·have hy:l[j - (k+1)]?=ops[j]?:=by
      have:=hl (j - (k+1)+1)
      rw [List.getElem?_cons_succ] at this
      rw [this]
      congr 1
      omega
     rw [← hy]
     cases hc:l[j - (k+1)]? with
     | none=>simp
     | some y =>
      have:=List.all_eq_true.1 h2 y (List.mem_of_getElem? hc)
      simp only [this,Bool.or_true]
  ·have:=hl (j+1)
   rw [List.getElem?_cons_succ] at this
   rw [this]
   congr 1
   omega
  ·by_cases e:k=i
   ·subst e
    rw [Array.getElem?_setIfInBounds_self_of_lt (by omega),decide_eq_true (by omega)]
   ·rw [Array.getElem?_setIfInBounds_ne e,hL i hi]
    congr 1
    by_cases h:i < k
    ·rw [decide_eq_true h,decide_eq_true (by omega)]
    ·rw [decide_eq_false h,decide_eq_false (by omega)]
theorem lexB_fast {md:Region.Mode} {l:List Oper} (hn:Region.noSelect l.toArray=true) (h:fastLex md l.toArray 0 l=true):Region.lexB md l.toArray=true:=by
 unfold Region.lexB
 rw [hn,Bool.true_and,List.size_toArray]
 exact fast_from l 0 _ h (fun j=>by simp) (by simp) (fun i hi=>by
  have hi':i < l.length:=by simpa using hi
  rw [Array.getElem?_replicate,if_pos hi']
  rfl)
theorem wp_region_fast {P:Program} {id:Nat} {Q:Exit→Act→World→Prop} {a:Act} {w:World} {l:List Oper} (hm:P.follows .mixedOrders=true) (hn:Region.noSelect l.toArray=true) (hB:fastLex .any l.toArray 0 l=true)
  (h:wpQuiet P l.toArray (fun W=>∃ x:LaterW w,W=x.W) (fun a'=>∀ W,(∃ x:LaterW w,W=x.W)→Q .normal a' W) l a):(Code.region id l.toArray true).wp P Q a w :=
 wp_region_later hm (lexB_fast hn hB) h
end Go.Proofs.YtigapglmipmbeaaGreatDoor
