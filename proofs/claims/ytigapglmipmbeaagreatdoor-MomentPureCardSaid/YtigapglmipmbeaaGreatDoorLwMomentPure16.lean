/- What the functions of chapter 8 compute on texts, as rationals. No program in sight. What Make, Mix, Push and Product give, as rationals. No program in sight. Distributions with a common denominator of few digits: Make, Mix, Push and Product keep them. No program in sight. What Delta, Factor and Moment give, as rationals. No program in sight. Products: keys, moments; no program in sight (printed by mkdlaw5.py). loss.Add, Sum and Max. loss.Fits. loss.Group. The program's functions of numbers, as the plain model of chapter 8 speaks of them. dist: positive, fold, Check, checked. dist: Check, checked. dist: find and At, by the library's searches. dist: find, At, within. dist: Delta, Distance, Factor, Moment (printed by mkmeas.py). loss.Holds (printed by mkholds.py). Same of the program's dist and of the reference 08; kit.Same of masses. The plain law of DistTriangle: distances as texts. No program in sight. LossGroups and the like: what Holds and Group give of distributions; no program in sight. Moments of short lists, and the losses that To computes of them: plain law; no program in sight. The plain law of DistFactors: the least factor as a text. No program in sight. Moments of distributions that differ by at most a factor: plain law; no program in sight. The reference's round, Floor, Ceil, Sign (printed by mkrround.py). The reference's functions of numbers, as the plain model of chapter 8 speaks of them (printed by mkdref.py). -/
import Derived.Test.YtigapglmipmbeaaGreatDoorLwMomentPure15
import Derived.Test.YtigapglmipmbeaaGreatDoorLwMomentPure14
import Derived.Sort.Walk0
import Derived.BigQuiet
import Derived.Test.YtigapglmipmbeaaGreatDoorLwMomentPure13
import Derived.Test.YtigapglmipmbeaaGreatDoorLwMomentPure10
import Derived.Test.YtigapglmipmbeaaGreatDoorLwMomentPure09
set_option maxRecDepth 100000
set_option maxHeartbeats 16000000
namespace Go.Proofs.YtigapglmipmbeaaGreatDoor
open Lim
def ovT (q:Rat):XE:=if fits q then .ok (rT q) else .error 5
theorem exQ_out (q:Rat):exQ (outQ q)=ovT q:=by
 unfold ovT
 by_cases h:fits q=true
 ·rw [if_pos h]
  unfold exQ
  rw [outQ_ok (fits_sz.1 h) (Nat.le_refl _)]
  rfl
 ·rw [if_neg h]
  have h2:maxD < Lib.nDigits (nm q)∨maxD < Lib.nDigits q.den:=by
   unfold fits at h
   simp only [Bool.not_eq_true',decide_eq_false_iff_not,Decidable.not_not] at h
   exact h
  unfold exQ outQ
  rw [if_pos h2]
  rfl
theorem ok_rT {s:ByteArray} (h:errQ s.data.toList=0):s=rT (valQ s.data.toList):=(IsT.of h).text
theorem err_rT {q:Rat} (h:fits q=true):errQ (rT q).data.toList=0:=(isT_rT h).err
theorem val_rT {q:Rat} (h:fits q=true):valQ (rT q).data.toList=q:=(isT_rT h).val
theorem ovT_ok {q:Rat} {s:ByteArray} (h:ovT q=.ok s):errQ s.data.toList=0∧valQ s.data.toList=q∧fits q=true:=by
 unfold ovT at h
 split at h
 ·rename_i hf;cases h;exact ⟨err_rT hf,val_rT hf,hf⟩
 ·cases h
theorem ovT_fit {q:Rat} (h:fits q=true):ovT q=.ok (rT q):=if_pos h
section
variable {a b:ByteArray} (ha:errQ a.data.toList=0) (hb:errQ b.data.toList=0)
include ha hb
theorem plX_val:plX a b=ovT (valQ a.data.toList+valQ b.data.toList):=by unfold plX;rw [two_T (IsT.of ha) (IsT.of hb),exQ_out]
theorem subX_val:subX a b=ovT (valQ a.data.toList - valQ b.data.toList):=by unfold subX;rw [two_T (IsT.of ha) (IsT.of hb),exQ_out,Rat.sub_eq_add_neg]
theorem mulX_val:mulX a b=ovT (valQ a.data.toList*valQ b.data.toList):=by unfold mulX;rw [two_T (IsT.of ha) (IsT.of hb),exQ_out]
theorem divX_val (h0:valQ b.data.toList≠0):divX a b=ovT (valQ a.data.toList*(valQ b.data.toList)⁻¹):=by
 unfold divX;rw [two_T (IsT.of ha) (IsT.of hb)];unfold divQ;rw [if_neg h0,exQ_out]
theorem maxX_val:maxX a b=.ok (if cmpQ (valQ a.data.toList) (valQ b.data.toList) < 0 then b else a):=by
 unfold maxX
 rw [if_neg (by simpa using ha),if_neg (by simpa using hb)]
end
theorem powX_val {a:ByteArray} (ha:errQ a.data.toList=0) (n:Nat):powX a (n:Int)=ovT (valQ a.data.toList ^ n):=by
 unfold powX
 rw [one_T (IsT.of ha)]
 unfold powQ
 rw [if_neg (by omega),if_neg (by omega),exQ_out,Int.natAbs_natCast]
def valsD (ls:List L2):DL:=ls.map fun x=>(x.1,valQ x.2.data.toList)
def OkV (ls:List L2):Prop:=∀ x∈ls,errQ x.2.data.toList=0
theorem keys_vals (ls:List L2):keysD (valsD ls)=ls.map (·.1):=by unfold keysD valsD;rw [List.map_map];rfl
theorem posE_zero {p:ByteArray}:posE p=0↔errQ p.data.toList=0∧0≤valQ p.data.toList:=by
 unfold posE
 split
 ·rename_i h;exact ⟨fun h2=>absurd h2 h,fun h2=>absurd h2.1 h⟩
 ·rename_i h
  have h:errQ p.data.toList=0:=Classical.byContradiction h
  split
  ·rename_i h2;exact ⟨fun h3=>by omega,fun h3=>absurd h3.2 (by grind)⟩
  ·rename_i h2;exact ⟨fun _=>⟨h,by grind⟩,fun _=>rfl⟩
theorem ltK_iff {a b:ByteArray}:ltK a b=true↔a.data.toList < b.data.toList:=by unfold ltK;exact decide_eq_true_iff
theorem ltK_trans {a b c:ByteArray} (h1:ltK a b=true) (h2:ltK b c=true):ltK a c=true:=ltK_iff.2 (List.lt_trans (ltK_iff.1 h1) (ltK_iff.1 h2))
theorem ltK_irrefl (a:ByteArray):ltK a a=false:=by
 cases h:ltK a a
 ·rfl
 ·exact absurd (ltK_iff.1 h) (List.lt_irrefl _)
theorem bytes_ext {a b:ByteArray} (h:a.data.toList=b.data.toList):a=b:=by
 cases a;cases b
 simp only [ByteArray.mk.injEq]
 exact Array.ext' h
theorem ltK_total {a b:ByteArray} (h:ltK a b=false) (hn:a≠b):ltK b a=true:=by
 refine ltK_iff.2 ?_
 have h1:¬ a.data.toList < b.data.toList:=fun h2=>by rw [ltK_iff.2 h2] at h;cases h
 refine Classical.byContradiction fun h2=>?_
 exact hn (bytes_ext (List.le_antisymm (List.not_lt.1 h2) (List.not_lt.1 h1)))
def Asc (ks:List ByteArray):Prop:=ks.Pairwise fun a b=>ltK a b=true
theorem Asc.nodup {ks:List ByteArray} (h:Asc ks):ks.Nodup:=by
 refine List.Pairwise.imp ?_ h
 intro a b hab e
 subst e
 rw [ltK_irrefl] at hab
 cases hab
theorem chkL_zero:∀ {ls:List L2} {k:Option ByteArray},chkL k ls=0→(∀ x∈ls,errQ x.2.data.toList=0∧0 < valQ x.2.data.toList)∧Asc (ls.map (·.1))∧∀ x∈ls,badK k x.1=false
 | [],_,_=>⟨fun x hx=>(by cases hx),List.Pairwise.nil,fun x hx=>(by cases hx)⟩
 | x::l,k,h=>by
  unfold chkL at h
  split at h
  ·rename_i h1;exact absurd h h1
  ·rename_i h1
   have h1:posE x.2=0:=Classical.byContradiction h1
   split at h
   ·cases h
   ·rename_i h2
    have h2:0 < valQ x.2.data.toList:=Classical.byContradiction h2
    split at h
    ·cases h
    ·rename_i h3
     have h3:badK k x.1=false:=by simpa using h3
     obtain ⟨r1,r2,r3⟩:=chkL_zero h
     have r4:∀ y∈l,ltK x.1 y.1=true:=fun y hy=>by simpa [badK] using r3 y hy
     refine ⟨fun y hy=>?_,?_,fun y hy=>?_⟩
     ·rcases List.mem_cons.1 hy with rfl|hy
      ·exact ⟨(posE_zero.1 h1).1,h2⟩
      ·exact r1 y hy
     ·refine List.pairwise_cons.2 ⟨fun b hb=>?_,r2⟩
      obtain ⟨y,hy,rfl⟩:=List.mem_map.1 hb
      exact r4 y hy
     ·rcases List.mem_cons.1 hy with rfl|hy
      ·exact h3
      ·cases k with
       | none=>rfl
       | some k =>
        have h4:ltK k x.1=true:=by simpa [badK] using h3
        simp only [badK,ltK_trans h4 (r4 y hy),Bool.not_true]
theorem chkL_of:∀ {ls:List L2} {k:Option ByteArray},(∀ x∈ls,errQ x.2.data.toList=0∧0 < valQ x.2.data.toList)→Asc (ls.map (·.1))→(∀ x∈ls,badK k x.1=false)→chkL k ls=0
 | [],_,_,_,_=>rfl
 | x::l,k,h1,h2,h3=>by
  obtain ⟨e1,e2⟩:=h1 x (by simp)
  unfold chkL
  rw [if_neg (by simp only [ne_eq,Decidable.not_not];exact posE_zero.2 ⟨e1,by grind⟩),if_neg (by simpa using e2),if_neg (by rw [h3 x (by simp)];decide)]
  have h4:=List.pairwise_cons.1 h2
  refine chkL_of (fun y hy=>h1 y (by simp [hy])) h4.2 fun y hy=>?_
  simp only [badK,h4.1 y.1 (List.mem_map_of_mem hy),Bool.not_true]
theorem foldX_val {α:Type} {g:α→XE} {v:α→Rat}:∀ {l:List α} {s t:ByteArray},foldX g s l=.ok t→errQ s.data.toList=0→(∀ x∈l,∀ p,g x=.ok p→errQ p.data.toList=0∧valQ p.data.toList=v x) →
  errQ t.data.toList=0∧valQ t.data.toList=valQ s.data.toList+sumBy v l
 | [],s,t,h,hs,_=>by
  cases h
  exact ⟨hs,by simp only [sumBy];grind⟩
 | x::l,s,t,h,hs,hg=>by
  unfold foldX at h
  cases hx:g x with
  | error n=>rw [hx] at h;cases h
  | ok p =>
   rw [hx] at h
   obtain ⟨e1,e2⟩:=hg x (by simp) p hx
   dsimp only at h
   rw [plX_val hs e1] at h
   cases ha:ovT (valQ s.data.toList+valQ p.data.toList) with
   | error n=>rw [ha] at h;cases h
   | ok u =>
    rw [ha] at h
    obtain ⟨e3,e4,_⟩:=ovT_ok ha
    obtain ⟨r1,r2⟩:=foldX_val h e3 fun y hy=>hg y (by simp [hy])
    refine ⟨r1,?_⟩
    rw [r2,e4,e2]
    simp only [sumBy]
    grind
theorem foldX_fit {α:Type} {g:α→XE} {v:α→Rat} {D M:Nat} (hD:0 < D) (hM:0 < M) (hk:M*D < 10 ^ maxD):∀ {l:List α} {s:ByteArray},errQ s.data.toList=0→HasDen D (valQ s.data.toList)→0≤valQ s.data.toList →
  (∀ x∈l,g x=.ok (rT (v x))∧fits (v x)=true∧HasDen D (v x)∧0≤v x)→valQ s.data.toList+sumBy v l≤(M:Rat)→foldX g s l=.ok (rT (valQ s.data.toList+sumBy v l))
 | [],s,hs,_,_,_,_=>by
  simp only [foldX,sumBy,Rat.add_zero]
  rw [← ok_rT hs]
 | x::l,s,hs,hd,h0,hg,hm=>by
  obtain ⟨e1,e2,e3,e4⟩:=hg x (by simp)
  have hn:0≤sumBy v l:=sumBy_nonneg fun y hy=>(hg y (by simp [hy])).2.2.2
  simp only [sumBy] at hm
  have hf:fits (valQ s.data.toList+v x)=true:=fits_sz.2 ((hd.add e3).sz hD (by grind) (M:=M) (by grind) hk hM)
  have ha:plX s (rT (v x))=.ok (rT (valQ s.data.toList+v x)):=by
   rw [plX_val hs (err_rT e2),val_rT e2,ovT_fit hf]
  rw [foldX_ok e1 ha,foldX_fit hD hM hk (err_rT hf) (by rw [val_rT hf];exact hd.add e3) (by rw [val_rT hf];grind) (fun y hy=>hg y (by simp [hy])) (by rw [val_rT hf];grind),val_rT hf]
  simp only [sumBy]
  rw [Rat.add_assoc]
theorem sum_vals (ls:List L2):sumBy (fun e=>e.2) (valsD ls)=sumBy (fun x:L2=>valQ x.2.data.toList) ls:=by unfold valsD;rw [sumBy_map]
theorem foldX_ne {α:Type} {g:α→XE} (hg:∀ x m,g x=.error m→m≠0):∀ {l:List α} {s:ByteArray} {n:Nat},foldX g s l=.error n→n≠0
 | [],_,_,h=>by cases h
 | x::l,s,n,h=>by
  unfold foldX at h
  cases hx:g x with
  | error m=>rw [hx] at h;cases h;exact hg x _ hx
  | ok p =>
   rw [hx] at h
   dsimp only at h
   cases ha:plX s p with
   | error m=>rw [ha] at h;cases h;exact exQ_err ha
   | ok u=>rw [ha] at h;exact foldX_ne hg h
theorem chkD_zero {ls:List L2} (h:chkD ls=0):IsD (valsD ls)∧OkV ls∧Asc (ls.map (·.1)):=by
 unfold chkD at h
 split at h
 ·rename_i h1;exact absurd h h1
 ·rename_i h1
  have h1:chkL none ls=0:=Classical.byContradiction h1
  obtain ⟨r1,r2,_⟩:=chkL_zero h1
  cases hs:sumX zT ls with
  | error n =>
   rw [hs] at h
   exact absurd h (foldX_ne (fun x m hm=>by cases hm) hs)
  | ok s =>
   rw [hs] at h
   unfold chkS at h
   dsimp only at h
   split at h
   ·rename_i h2
    obtain ⟨e1,e2⟩:=foldX_val (v:=fun x:L2=>valQ x.2.data.toList) hs err_zT (fun x hx p hp=>by cases hp;exact ⟨(r1 x hx).1,rfl⟩)
    rw [h2,val_oT,val_zT,Rat.zero_add] at e2
    refine ⟨⟨by rw [keys_vals];exact r2.nodup,fun e he=>?_,by rw [sum_vals,e2]⟩,fun x hx=>(r1 x hx).1,r2⟩
    obtain ⟨x,hx,rfl⟩:=List.mem_map.1 he
    exact (r1 x hx).2
   ·cases h
def denB {α:Type} (f:α→Rat):List α→Nat
 | []=>1
 | x::l=>(f x).den*denB f l
section
variable {α:Type} {f:α→Rat}
theorem denB_pos:∀ ls:List α,0 < denB f ls
 | []=>Nat.one_pos
 | x::l=>Nat.mul_pos (f x).den_pos (denB_pos l)
theorem denB_has:∀ {ls:List α} {x:α},x∈ls→HasDen (denB f ls) (f x)
 | y::l,x,h=>by
  unfold denB
  rcases List.mem_cons.1 h with rfl|h
  ·exact (HasDen.self _).mul_right _
  ·exact (denB_has h).mul_left _
theorem denB_lt {k:Nat}:∀ {ls:List α},(∀ x∈ls,Sz k (f x))→denB f ls < 10 ^ (k*ls.length+1)
 | [],_=>by show 1 < 10 ^ 1;omega
 | x::l,h=>by
  have h1:=(h x (by simp)).2
  have h2:=denB_lt (ls:=l) fun y hy=>h y (by simp [hy])
  have h3:=mul_lt_pow h1 h2
  show (f x).den*denB f l < _
  rw [List.length_cons,show k*(l.length+1)+1=k+(k*l.length+1) by rw [Nat.mul_add];omega]
  exact h3
end
abbrev valX (x:L2):Rat:=valQ x.2.data.toList
theorem chkD_of {ls:List L2} (h1:∀ x∈ls,errQ x.2.data.toList=0∧0 < valQ x.2.data.toList) (h2:Asc (ls.map (·.1))) (h3:sumBy (fun e=>e.2) (valsD ls)=1) {D:Nat} (hD:0 < D) (hk:D < 10 ^ maxD) (hd:∀ x∈ls,HasDen D (valQ x.2.data.toList)):chkD ls=0:=by
 unfold chkD
 rw [chkL_of h1 h2 fun x _=>rfl,if_neg (by decide)]
 rw [sum_vals] at h3
 have:=foldX_fit (g:=fun x:L2=>.ok x.2) (v:=fun x:L2=>valQ x.2.data.toList) (M:=1) hD (by omega) (by omega) err_zT (by rw [val_zT];exact HasDen.zero D) (by rw [val_zT];exact Rat.le_refl)
  (fun x hx=>by
   have hf:=(IsT.of (h1 x hx).1).fits
   refine ⟨?_,hf,hd x hx,by have:=(h1 x hx).2;grind⟩
   rw [← ok_rT (h1 x hx).1]) (l:=ls) (by rw [h3,val_zT,Rat.zero_add];exact Rat.le_refl)
 unfold sumX
 rw [this,h3,val_zT,Rat.zero_add]
 have e1:rT 1=oT:=IsT.one.text.symm
 rw [e1]
 rfl
theorem hasT_iff {k:ByteArray}:∀ {ls:List L2},hasT ls k=true↔k∈ls.map (·.1)
 | []=>by simp [hasT]
 | x::l=>by
  unfold hasT
  rw [List.map_cons,List.mem_cons]
  split
  ·rename_i h;exact ⟨fun _=>.inl h.symm,fun _=>rfl⟩
  ·rename_i h
   rw [hasT_iff]
   exact ⟨.inr,fun h2=>h2.resolve_left fun e=>h e.symm⟩
theorem atT_ok {k:ByteArray}:∀ {ls:List L2},OkV ls→errQ (atT ls k).data.toList=0
 | [],_=>err_zT
 | x::l,h=>by
  unfold atT
  split
  ·exact h x (by simp)
  ·exact atT_ok fun y hy=>h y (by simp [hy])
theorem atT_val {k:ByteArray}:∀ {ls:List L2},(ls.map (·.1)).Nodup→valQ (atT ls k).data.toList=massD (valsD ls) k
 | [],_=>val_zT
 | x::l,h=>by
  rw [List.map_cons,List.nodup_cons] at h
  show valQ (atT (x::l) k).data.toList=(if x.1=k then valQ x.2.data.toList else 0)+massD (valsD l) k
  unfold atT
  split
  ·rename_i e
   subst e
   rw [massD_none (by rw [keys_vals];exact h.1),Rat.add_zero]
  ·rw [Rat.zero_add]
   exact atT_val h.2
theorem inX_iff {q:List L2}:∀ {p:List L2},inX p q=true↔∀ x∈p,x.1∈q.map (·.1)
 | []=>by simp [inX]
 | x::l=>by
  unfold inX
  split
  ·rename_i h
   rw [inX_iff]
   simp only [List.mem_cons,forall_eq_or_imp]
   exact ⟨fun h2=>⟨hasT_iff.1 h,h2⟩,fun h2=>h2.2⟩
  ·rename_i h
   simp only [Bool.false_eq_true,List.mem_cons,forall_eq_or_imp,false_iff,not_and]
   exact fun h2=>absurd (hasT_iff.2 h2) h
theorem mass_two (x:L2) (l:List L2) (k:ByteArray):massD (valsD (x::l)) k=(if x.1=k then valQ x.2.data.toList else 0)+massD (valsD l) k:=rfl
theorem sum_two (x:L2) (l:List L2):sumBy (fun e=>e.2) (valsD (x::l))=valQ x.2.data.toList+sumBy (fun e=>e.2) (valsD l):=rfl
theorem insX_spec:∀ {a b:List L2} {x:L2},insX a x=.ok b→Asc (a.map (·.1))→OkV a→errQ x.2.data.toList=0 →
  Asc (b.map (·.1))∧OkV b∧(∀ k,k∈b.map (·.1)↔k∈a.map (·.1)∨k=x.1)∧(∀ k,massD (valsD b) k=massD (valsD a) k+(if x.1=k then valQ x.2.data.toList else 0)) ∧
  sumBy (fun e=>e.2) (valsD b)=sumBy (fun e=>e.2) (valsD a)+valQ x.2.data.toList
 | [],b,x,h,_,_,hx=>by
  cases h
  refine ⟨List.pairwise_singleton _ _,fun y hy=>by rw [List.mem_singleton.1 hy];exact hx,fun k=>by simp,fun k=>?_,?_⟩
  ·rw [mass_two];exact Rat.add_comm _ _
  ·rw [sum_two];exact Rat.add_comm _ _
 | y::l,b,x,h,ha,ho,hx=>by
  have ha2:=List.pairwise_cons.1 ha
  unfold insX at h
  split at h
  ·rename_i hlt
   cases hm:insX l x with
   | error n=>rw [hm] at h;cases h
   | ok m =>
    rw [hm] at h
    cases h
    obtain ⟨r1,r2,r3,r4,r5⟩:=insX_spec hm ha2.2 (fun z hz=>ho z (by simp [hz])) hx
    refine ⟨List.pairwise_cons.2 ⟨fun k hk=>?_,r1⟩,fun z hz=>?_,fun k=>?_,fun k=>?_,?_⟩
    ·rcases (r3 k).1 hk with h1|rfl
     ·exact ha2.1 k h1
     ·exact hlt
    ·rcases List.mem_cons.1 hz with rfl|hz
     ·exact ho z (by simp)
     ·exact r2 z hz
    ·rw [List.map_cons,List.mem_cons,r3,List.map_cons,List.mem_cons,or_assoc]
    ·rw [mass_two,mass_two,r4,Rat.add_assoc]
    ·rw [sum_two,sum_two,r5,Rat.add_assoc]
  ·rename_i hlt
   split at h
   ·rename_i he
    cases hs:plX y.2 x.2 with
    | error n=>rw [hs] at h;cases h
    | ok s =>
     rw [hs] at h
     cases h
     rw [plX_val (ho y (by simp)) hx] at hs
     obtain ⟨e1,e2,_⟩:=ovT_ok hs
     refine ⟨ha,fun z hz=>?_,fun k=>?_,fun k=>?_,?_⟩
     ·rcases List.mem_cons.1 hz with rfl|hz
      ·exact e1
      ·exact ho z (by simp [hz])
     ·rw [List.map_cons,List.mem_cons,List.map_cons,List.mem_cons]
      constructor
      ·exact .inl
      ·rintro (h1|rfl)
       ·exact h1
       ·exact .inl he.symm
     ·rw [mass_two,mass_two]
      dsimp only
      rw [e2,he]
      split<;>grind
     ·rw [sum_two,sum_two]
      dsimp only
      rw [e2]
      grind
   ·rename_i he
    cases h
    have hlt2:ltK x.1 y.1=true:=ltK_total (by simpa using hlt) he
    refine ⟨List.pairwise_cons.2 ⟨fun k hk=>?_,ha⟩,fun z hz=>?_,fun k=>?_,fun k=>?_,?_⟩
    ·rcases List.mem_cons.1 hk with rfl|hk
     ·exact hlt2
     ·exact ltK_trans hlt2 (ha2.1 k hk)
    ·rcases List.mem_cons.1 hz with rfl|hz
     ·exact hx
     ·exact ho z hz
    ·rw [List.map_cons,List.mem_cons];exact or_comm
    ·rw [mass_two];exact Rat.add_comm _ _
    ·rw [sum_two];exact Rat.add_comm _ _
theorem collX_spec:∀ {l a b:List L2},collX a l=.ok b→Asc (a.map (·.1))→OkV a→OkV l →
  Asc (b.map (·.1))∧OkV b∧(∀ k,k∈b.map (·.1)↔k∈a.map (·.1)∨k∈l.map (·.1))∧(∀ k,massD (valsD b) k=massD (valsD a) k+massD (valsD l) k) ∧
  sumBy (fun e=>e.2) (valsD b)=sumBy (fun e=>e.2) (valsD a)+sumBy (fun e=>e.2) (valsD l)
 | [],a,b,h,ha,ho,_=>by
  cases h
  exact ⟨ha,ho,fun k=>by simp,fun k=>(Rat.add_zero _).symm,(Rat.add_zero _).symm⟩
 | x::l,a,b,h,ha,ho,hl=>by
  unfold collX at h
  cases hi:insX a x with
  | error n=>rw [hi] at h;cases h
  | ok c =>
   rw [hi] at h
   obtain ⟨r1,r2,r3,r4,r5⟩:=insX_spec hi ha ho (hl x (by simp))
   obtain ⟨q1,q2,q3,q4,q5⟩:=collX_spec h r1 r2 fun y hy=>hl y (by simp [hy])
   refine ⟨q1,q2,fun k=>?_,fun k=>?_,?_⟩
   ·rw [q3,r3,List.map_cons,List.mem_cons,or_assoc]
   ·rw [q4,r4,mass_two,Rat.add_assoc]
   ·rw [q5,r5,sum_two,Rat.add_assoc]
theorem zero_text {s:ByteArray} (h:errQ s.data.toList=0):s=zT↔valQ s.data.toList=0:=by
 constructor
 ·intro e;rw [e,val_zT]
 ·intro e
  rw [ok_rT h,e]
  exact IsT.zero.text.symm
theorem keep_mass:∀ {l:List L2},OkV l→(∀ k,massD (valsD (keepX l)) k=massD (valsD l) k)∧sumBy (fun e=>e.2) (valsD (keepX l))=sumBy (fun e=>e.2) (valsD l)
 | [],_=>⟨fun _=>rfl,rfl⟩
 | x::l,h=>by
  obtain ⟨r1,r2⟩:=keep_mass (l:=l) fun y hy=>h y (by simp [hy])
  by_cases hz:x.2=zT
  ·have e:keepX (x::l)=keepX l:=by unfold keepX;rw [List.filter_cons_of_neg (by simpa using hz)]
   have hv:=(zero_text (h x (by simp))).1 hz
   rw [e]
   refine ⟨fun k=>?_,?_⟩
   ·rw [mass_two,hv,r1];split<;>grind
   ·rw [sum_two,hv,r2];grind
  ·have e:keepX (x::l)=x::keepX l:=by unfold keepX;rw [List.filter_cons_of_pos (by simpa using hz)]
   rw [e]
   refine ⟨fun k=>?_,?_⟩
   ·rw [mass_two,mass_two,r1]
   ·rw [sum_two,sum_two,r2]
theorem posL_zero:∀ {l:List L2},posL l=0↔∀ x∈l,posE x.2=0
 | []=>by simp [posL]
 | x::l=>by
  unfold posL
  simp only [List.mem_cons,forall_eq_or_imp]
  split
  ·rename_i h;exact ⟨fun h2=>absurd h2 h,fun h2=>absurd h2.1 h⟩
  ·rename_i h
   rw [posL_zero]
   exact ⟨fun h2=>⟨Classical.byContradiction h,h2⟩,fun h2=>h2.2⟩
theorem makeX_ok {l out:List L2} (h:makeX l=.ok out):chkD out=0∧(∀ x∈l,posE x.2=0)∧∀ k,massD (valsD out) k=massD (valsD l) k:=by
 unfold makeX at h
 split at h
 ·cases h
 ·rename_i h1
  have h1:=posL_zero.1 (Classical.byContradiction h1)
  cases hc:collX [] l with
  | error n=>rw [hc] at h;cases h
  | ok a =>
   rw [hc] at h
   unfold doneX at h
   dsimp only at h
   split at h
   ·cases h
   ·rename_i h2
    cases h
    have hl:OkV l:=fun x hx=>(posE_zero.1 (h1 x hx)).1
    obtain ⟨r1,r2,r3,r4,r5⟩:=collX_spec hc List.Pairwise.nil (fun x hx=>by cases hx) hl
    refine ⟨Classical.byContradiction h2,h1,fun k=>?_⟩
    rw [(keep_mass r2).1,r4]
    exact Rat.zero_add _
theorem chk2_ok {a b:List L2} (ha:chkD a=0) (hb:chkD b=0):chk2 a b=0:=by
 unfold chk2
 rw [ha,hb]
 rfl
structure Dst (a:Nat) (ls:List L2):Prop where
 ok:chkD ls=0
 den:∃ D,0 < D∧D < 10 ^ a∧∀ x∈ls,HasDen D (valX x)
section
variable {a b:Nat} {ls la lb:List L2}
theorem Dst.isD (h:Dst a ls):IsD (valsD ls):=(chkD_zero h.ok).1
theorem Dst.okV (h:Dst a ls):OkV ls:=(chkD_zero h.ok).2.1
theorem Dst.asc (h:Dst a ls):Asc (ls.map (·.1)):=(chkD_zero h.ok).2.2
theorem Dst.once (h:Dst a ls):(ls.map (·.1)).Nodup:=h.asc.nodup
theorem Dst.pos (h:Dst a ls) {x:L2} (hx:x∈ls):0 < valX x:=h.isD.plus (x.1,valX x) (List.mem_map.2 ⟨x,hx,rfl⟩)
theorem Dst.one (h:Dst a ls) {x:L2} (hx:x∈ls):valX x≤1:=by
 have h1:=h.isD.one
 rw [sum_vals] at h1
 have h2:=le_sumBy (f:=fun x:L2=>valX x) (fun y hy=>Rat.le_of_lt (h.pos hy)) hx
 rw [← h1]
 exact h2
theorem Dst.sz (h:Dst a ls) {x:L2} (hx:x∈ls):Sz a (valX x):=by
 obtain ⟨D,h1,h2,h3⟩:=h.den
 exact (h3 x hx).sz h1 (Rat.le_of_lt (h.pos hx)) (M:=1) (h.one hx) (by omega) Nat.one_pos
theorem Dst.light {n k:Nat} (h:chkD ls=0) (hl:ls.length≤n) (hs:∀ x∈ls,x.2.size≤k):Dst (k*n+1) ls:=by
 obtain ⟨_,ho,_⟩:=chkD_zero h
 have hz:∀ x∈ls,Sz k (valX x):=fun x hx=>sz_of_text (ho x hx) (by rw [← size_list];exact hs x hx)
 refine ⟨h,denB valX ls,denB_pos ls,Nat.lt_of_lt_of_le (denB_lt hz) (pow_le ?_),fun x hx=>denB_has hx⟩
 have:=Nat.mul_le_mul_left k hl
 omega
end
theorem atT_sz {k:Nat} (hk:0 < k) {key:ByteArray}:∀ {ls:List L2},(∀ x∈ls,Sz k (valX x))→Sz k (valQ (atT ls key).data.toList)
 | [],_=>by
  show Sz k (valQ zT.data.toList)
  rw [val_zT]
  exact Sz.zero.mono hk
 | x::l,h=>by
  unfold atT
  split
  ·exact h x (by simp)
  ·exact atT_sz hk fun y hy=>h y (by simp [hy])
theorem atT_has {D:Nat} {key:ByteArray}:∀ {ls:List L2},(∀ x∈ls,HasDen D (valX x))→HasDen D (valQ (atT ls key).data.toList)
 | [],_=>by
  show HasDen D (valQ zT.data.toList)
  rw [val_zT]
  exact HasDen.zero D
 | x::l,h=>by
  unfold atT
  split
  ·exact h x (by simp)
  ·exact atT_has fun y hy=>h y (by simp [hy])
theorem atT_mem {key:ByteArray}:∀ {ls:List L2},key∈ls.map (·.1)→∃ x∈ls,x.1=key∧atT ls key=x.2
 | [],h=>by cases h
 | x::l,h=>by
  unfold atT
  split
  ·rename_i e;exact ⟨x,by simp,e,rfl⟩
  ·rename_i e
   rcases List.mem_cons.1 h with h|h
   ·exact absurd h.symm e
   ·obtain ⟨y,hy,e1,e2⟩:=atT_mem h
    exact ⟨y,by simp [hy],e1,e2⟩
theorem partX_val {f:ByteArray} {q:List L2} {m:L2} (hf:errQ f.data.toList=0) (hq:OkV q) (hm:errQ m.2.data.toList=0)
  (h1:fits (valQ f.data.toList*valQ (atT q m.1).data.toList)=true) (h2:fits (valX m - valQ f.data.toList*valQ (atT q m.1).data.toList)=true) :
  partX f q m=.ok (rT (pos (valX m - valQ f.data.toList*valQ (atT q m.1).data.toList)))∧fits (pos (valX m - valQ f.data.toList*valQ (atT q m.1).data.toList))=true:=by
 unfold partX
 rw [mulX_val hf (atT_ok hq),ovT_fit h1]
 dsimp only
 rw [subX_val hm (err_rT h1),val_rT h1,ovT_fit h2]
 dsimp only
 rw [maxX_val err_zT (err_rT h2),val_rT h2,val_zT]
 unfold pos
 by_cases h:0 < valX m - valQ f.data.toList*valQ (atT q m.1).data.toList
 ·have hc:cmpQ 0 (valX m - valQ f.data.toList*valQ (atT q m.1).data.toList) < 0:=by
   unfold cmpQ;rw [if_pos h];decide
  rw [if_pos h,if_pos hc]
  exact ⟨rfl,h2⟩
 ·have hc:¬ cmpQ 0 (valX m - valQ f.data.toList*valQ (atT q m.1).data.toList) < 0:=by
   unfold cmpQ;rw [if_neg h];split<;>decide
  rw [if_neg h,if_neg hc]
  exact ⟨by rw [← IsT.zero.text];rfl,fits_zero⟩
theorem deltaD_vals {p q:List L2} (hq:(q.map (·.1)).Nodup) (f:Rat):deltaD (valsD p) (valsD q) f=sumBy (fun m=>pos (valX m - f*valQ (atT q m.1).data.toList)) p:=by
 unfold deltaD
 show sumBy _ (p.map _)=_
 rw [sumBy_map]
 exact sumBy_congr fun m _=>by rw [atT_val hq]
theorem deltaX_fit {p q:List L2} {f:ByteArray} {a b j:Nat} (hp:Dst a p) (hq:Dst b q) (hf:errQ f.data.toList=0) (h0:0≤valQ f.data.toList) (sf:Sz j (valQ f.data.toList)) (hm:a+(j+b)+1≤maxD) (hb:0 < b) :
  deltaX p q f=.ok (rT (deltaD (valsD p) (valsD q) (valQ f.data.toList)))∧fits (deltaD (valsD p) (valsD q) (valQ f.data.toList))=true:=by
 obtain ⟨D,d1,d2,d3⟩:=hp.den
 obtain ⟨E,e1,e2,e3⟩:=hq.den
 have hD:0 < D*((valQ f.data.toList).den*E):=Nat.mul_pos d1 (Nat.mul_pos (valQ f.data.toList).den_pos e1)
 have hlt:D*((valQ f.data.toList).den*E) < 10 ^ maxD:=Nat.lt_of_lt_of_le (mul_lt_pow d2 (mul_lt_pow sf.2 e2)) (pow_le (by omega))
 have step:∀ m∈p,partX f q m=.ok (rT (pos (valX m - valQ f.data.toList*valQ (atT q m.1).data.toList)))∧fits (pos (valX m - valQ f.data.toList*valQ (atT q m.1).data.toList))=true ∧
   HasDen (D*((valQ f.data.toList).den*E)) (pos (valX m - valQ f.data.toList*valQ (atT q m.1).data.toList))∧0≤pos (valX m - valQ f.data.toList*valQ (atT q m.1).data.toList):=by
  intro m hm2
  have s1:=sf.mul (atT_sz hb (fun x hx=>hq.sz hx) (key:=m.1))
  obtain ⟨e4,e5⟩:=partX_val hf hq.okV (hp.okV m hm2) (fits_sz.2 (s1.mono (by omega))) (fits_sz.2 (((hp.sz hm2).sub s1).mono (by omega)))
  exact ⟨e4,e5,HasDen.pos (((d3 m hm2).mul_right _).sub (((HasDen.self _).mul (atT_has e3)).mul_left _)),pos_nonneg _⟩
 have ht:=delta_top hp.isD hq.isD h0
 have hn:=delta_nonneg (valsD p) (valsD q) (valQ f.data.toList)
 rw [deltaD_vals hq.once] at ht hn ⊢
 have r:=foldX_fit hD Nat.one_pos (by omega) err_zT (by rw [val_zT];exact HasDen.zero _) (by rw [val_zT];exact Rat.le_refl) step (by rw [val_zT,Rat.zero_add];exact ht)
 rw [val_zT,Rat.zero_add] at r
 refine ⟨?_,fits_sz.2 ((HasDen.sum fun m hm2=>(step m hm2).2.2.1).sz hD hn (M:=1) ht (by omega) Nat.one_pos)⟩
 unfold deltaX
 rw [chk2_ok hp.ok hq.ok,if_neg (by decide),if_neg (by simp only [ne_eq,Decidable.not_not];exact posE_zero.2 ⟨hf,h0⟩)]
 exact r
theorem mostX_fit {q:List L2} {k:Nat} (hq:OkV q) (hk:k+k≤maxD) (sq:∀ x∈q,Sz k (valX x)) (h1:(q.map (·.1)).Nodup) (h0:∀ x∈q,0 < valX x):∀ {p:List L2} {s:ByteArray},OkV p→(∀ x∈p,Sz k (valX x))→(∀ x∈p,x.1∈q.map (·.1))→errQ s.data.toList=0 →
  mostX q s p=.ok (rT (mostD (valsD p) (valsD q) (valQ s.data.toList)))∧fits (mostD (valsD p) (valsD q) (valQ s.data.toList))=true
 | [],s,_,_,_,hs=>⟨by show Except.ok s=_;rw [show mostD (valsD []) (valsD q) (valQ s.data.toList)=valQ s.data.toList from rfl,← ok_rT hs],(IsT.of hs).fits⟩
 | m::l,s,hp,sp,hin,hs=>by
  obtain ⟨x,hx,_,e2⟩:=atT_mem (hin m (by simp))
  have hv:valQ (atT q m.1).data.toList≠0:=by rw [e2];have:=h0 x hx;show valX x≠0;grind
  have sa:Sz k (valQ (atT q m.1).data.toList):=by rw [e2];exact sq x hx
  have hf:fits (valX m*(valQ (atT q m.1).data.toList)⁻¹)=true:=fits_sz.2 (((sp m (by simp)).mul sa.inv).mono hk)
  unfold mostX
  rw [divX_val (hp m (by simp)) (atT_ok hq) hv,ovT_fit hf]
  dsimp only
  rw [val_rT hf]
  have e3:(if cmpQ (valQ s.data.toList) (valX m*(valQ (atT q m.1).data.toList)⁻¹) < 0 then rT (valX m*(valQ (atT q m.1).data.toList)⁻¹) else s)=rT (maxQ (valQ s.data.toList) (valX m*(valQ (atT q m.1).data.toList)⁻¹)) :=
   rT_max (IsT.of hs) (isT_rT hf)
  have hf2:=maxQ_fits (IsT.of hs).fits hf
  rw [e3]
  obtain ⟨r1,r2⟩:=mostX_fit hq hk sq h1 h0 (p:=l) (fun y hy=>hp y (by simp [hy])) (fun y hy=>sp y (by simp [hy])) (fun y hy=>hin y (by simp [hy])) (err_rT hf2)
  rw [val_rT hf2,atT_val h1] at r1 r2
  rw [atT_val h1]
  exact ⟨r1,r2⟩
theorem facV_fit {p q:List L2} {k:Nat} (hp:chkD p=0) (hq:chkD q=0) (sp:∀ x∈p,Sz k (valX x)) (sq:∀ x∈q,Sz k (valX x)) (hk:k+k≤maxD) (hin:inX p q=true) :
  facV p q=.tuple #[.string (rT (mostD (valsD p) (valsD q) 0)),.bool true,.int .i64 0]∧fits (mostD (valsD p) (valsD q) 0)=true:=by
 obtain ⟨ip,op,_⟩:=chkD_zero hp
 obtain ⟨iq,oq,aq⟩:=chkD_zero hq
 obtain ⟨r1,r2⟩:=mostX_fit oq hk sq aq.nodup (fun x hx=>iq.plus _ (List.mem_map_of_mem hx)) op sp (inX_iff.1 hin) err_zT
 rw [val_zT] at r1 r2
 refine ⟨?_,r2⟩
 unfold facV
 rw [chk2_ok hp hq,if_neg (by decide),hin,if_neg (by decide),r1]
 rfl
theorem pow_ne {x:Rat} (h:x≠0) (n:Nat):x ^ n≠0:=by
 induction n with
 | zero=>rw [Rat.pow_zero];decide
 | succ n ih =>
  rw [Rat.pow_succ]
  intro h2
  rcases Rat.mul_eq_zero.1 h2 with h2|h2
  ·exact ih h2
  ·exact h h2
theorem powsX_val {q:List L2} {m:L2} {k n:Nat} (hm:errQ m.2.data.toList=0) (hq:errQ (atT q m.1).data.toList=0) (h0:valQ (atT q m.1).data.toList≠0) (sm:Sz k (valX m)) (sa:Sz k (valQ (atT q m.1).data.toList)) (hk:k*(n+1)+1+(k*n+1)≤maxD) :
  powsX ((n+1:Nat):Int) q m=.ok (rT (valX m ^ (n+1)*(valQ (atT q m.1).data.toList ^ n)⁻¹))∧fits (valX m ^ (n+1)*(valQ (atT q m.1).data.toList ^ n)⁻¹)=true:=by
 have s1:=sm.pow (n+1)
 have s2:=sa.pow n
 have f1:fits (valX m ^ (n+1))=true:=fits_sz.2 (s1.mono (by omega))
 have f2:fits (valQ (atT q m.1).data.toList ^ n)=true:=fits_sz.2 (s2.mono (by omega))
 have f3:fits (valX m ^ (n+1)*(valQ (atT q m.1).data.toList ^ n)⁻¹)=true:=fits_sz.2 ((s1.mul s2.inv).mono hk)
 refine ⟨?_,f3⟩
 unfold powsX
 rw [powX_val hm,ovT_fit f1,show ((n+1:Nat):Int) - 1=(n:Int) by omega,powX_val hq,ovT_fit f2]
 dsimp only
 rw [divX_val (err_rT f1) (err_rT f2) (by rw [val_rT f2];exact pow_ne h0 n),val_rT f1,val_rT f2,ovT_fit f3]
theorem momD_vals {p q:List L2} (hq:(q.map (·.1)).Nodup) (n:Nat):momD (valsD p) (valsD q) n=sumBy (fun m=>valX m ^ (n+1)*(valQ (atT q m.1).data.toList ^ n)⁻¹) p:=by
 unfold momD
 show sumBy _ (p.map _)=_
 rw [sumBy_map]
 exact sumBy_congr fun m _=>by rw [atT_val hq]
theorem momV_fit {p q:List L2} {k n D1 D2 M:Nat} (hp:chkD p=0) (hq:chkD q=0) (hin:inX p q=true) (hn:n < 8) (sp:∀ x∈p,Sz k (valX x)) (sq:∀ x∈q,Sz k (valX x)) (hk:k*(n+1)+1+(k*n+1)≤maxD)
  (h1:0 < D1) (h2:0 < D2) (d1:∀ x∈p,HasDen D1 (valX x)) (d2:∀ x∈q,HasDen D2 (valX x)⁻¹) (hM:0 < M) (hMk:M*(D1 ^ (n+1)*D2 ^ n) < 10 ^ maxD) (hm:momD (valsD p) (valsD q) n≤(M:Rat)) :
  momV p q ((n+1:Nat):Int)=.tuple #[.string (rT (momD (valsD p) (valsD q) n)),.bool true,.int .i64 0]∧fits (momD (valsD p) (valsD q) n)=true:=by
 obtain ⟨ip,op,_⟩:=chkD_zero hp
 obtain ⟨iq,oq,aq⟩:=chkD_zero hq
 have hD:0 < D1 ^ (n+1)*D2 ^ n:=Nat.mul_pos (Nat.pow_pos h1) (Nat.pow_pos h2)
 have step:∀ m∈p,powsX ((n+1:Nat):Int) q m=.ok (rT (valX m ^ (n+1)*(valQ (atT q m.1).data.toList ^ n)⁻¹))∧fits (valX m ^ (n+1)*(valQ (atT q m.1).data.toList ^ n)⁻¹)=true ∧
   HasDen (D1 ^ (n+1)*D2 ^ n) (valX m ^ (n+1)*(valQ (atT q m.1).data.toList ^ n)⁻¹)∧0≤valX m ^ (n+1)*(valQ (atT q m.1).data.toList ^ n)⁻¹:=by
  intro m hm
  obtain ⟨x,hx,_,e2⟩:=atT_mem (inX_iff.1 hin m hm)
  have hv:0 < valQ (atT q m.1).data.toList:=by rw [e2];exact iq.plus _ (List.mem_map_of_mem hx)
  have hv2:0 < valX m:=ip.plus _ (List.mem_map_of_mem hm)
  have sa:Sz k (valQ (atT q m.1).data.toList):=by rw [e2];exact sq x hx
  obtain ⟨e3,e4⟩:=powsX_val (op m hm) (atT_ok oq) (by grind) (sp m hm) sa hk
  refine ⟨e3,e4,((d1 m hm).pow _).mul ?_,?_⟩
  ·have e5:(valQ (atT q m.1).data.toList ^ n)⁻¹=(valX x)⁻¹ ^ n:=by rw [e2,inv_pow]
   rw [e5]
   exact (d2 x hx).pow _
  ·exact Rat.mul_nonneg (Rat.pow_nonneg (by grind)) (Rat.le_of_lt (Rat.inv_pos.2 (Rat.pow_pos hv)))
 rw [momD_vals aq.nodup] at hm ⊢
 have hnn:0≤sumBy (fun m=>valX m ^ (n+1)*(valQ (atT q m.1).data.toList ^ n)⁻¹) p:=sumBy_nonneg fun m hm=>(step m hm).2.2.2
 have r:=foldX_fit hD hM hMk err_zT (by rw [val_zT];exact HasDen.zero _) (by rw [val_zT];exact Rat.le_refl) step (by rw [val_zT,Rat.zero_add];exact hm)
 rw [val_zT,Rat.zero_add] at r
 refine ⟨?_,fits_sz.2 ((HasDen.sum fun m hm=>(step m hm).2.2.1).sz hD hnn (M:=M) hm hMk hM)⟩
 unfold momV
 rw [chk2_ok hp hq,if_neg (by decide),if_neg (by omega),hin,if_neg (by decide),r]
 rfl
theorem le_of_sz {k:Nat} {q:Rat} (h:Sz k q):q≤((10 ^ k:Nat):Rat):=by
 have h1:=mul_den_num q
 have h2:((q.num:Int):Rat)≤((10 ^ k:Nat):Rat):=by
  have h3:q.num≤((10 ^ k:Nat):Int):=by
   have:=h.1
   unfold nm at this
   omega
  have h4:(((10 ^ k:Nat):Int):Rat)=((10 ^ k:Nat):Rat):=rfl
  rw [← h4]
  exact Rat.intCast_le_intCast.2 h3
 have h5:(1:Rat)≤(q.den:Rat):=by
  have:=q.den_pos
  have h6:((1:Nat):Rat)≤(q.den:Rat):=Rat.natCast_le_natCast.2 (by omega)
  exact h6
 rcases Rat.le_total (a:=0) (b:=q) with h0|h0
 ·have h7:=Rat.mul_le_mul_of_nonneg_left h5 h0
  rw [Rat.mul_one] at h7
  exact Rat.le_trans h7 (by rw [h1];exact h2)
 ·exact Rat.le_trans h0 Rat.natCast_nonneg
theorem sum_bound {α:Type} {f:α→Rat} {c:Nat}:∀ {l:List α},(∀ a∈l,f a≤(c:Rat))→sumBy f l≤((l.length*c:Nat):Rat)
 | [],_=>by simp [sumBy]
 | a::l,h=>by
  have h1:=sum_bound (f:=f) (c:=c) (l:=l) fun x hx=>h x (by simp [hx])
  have h2:=h a (by simp)
  have e:(((a::l).length*c:Nat):Rat)=(c:Rat)+((l.length*c:Nat):Rat):=by
   rw [List.length_cons,Nat.succ_mul,Nat.add_comm,Rat.natCast_add]
  rw [e]
  show f a+sumBy f l≤_
  exact Rat.le_trans (Rat.add_le_add_right.2 h2) (Rat.add_le_add_left.2 h1)
theorem pow_le_one' {x:Rat} (h0:0≤x) (h1:x≤1) (n:Nat):x ^ n≤1:=by
 induction n with
 | zero=>rw [Rat.pow_zero];exact Rat.le_refl
 | succ n ih =>
  rw [Rat.pow_succ]
  have:=Rat.mul_le_mul_of_nonneg_right ih h0
  rw [Rat.one_mul] at this
  exact Rat.le_trans this h1
theorem pow_le_pow' {x y:Rat} (h0:0≤x) (h1:x≤y) (n:Nat):x ^ n≤y ^ n:=by
 induction n with
 | zero=>rw [Rat.pow_zero,Rat.pow_zero];exact Rat.le_refl
 | succ n ih =>
  rw [Rat.pow_succ,Rat.pow_succ]
  exact Rat.le_trans (Rat.mul_le_mul_of_nonneg_right ih h0) (Rat.mul_le_mul_of_nonneg_left h1 (Rat.pow_nonneg (Rat.le_trans h0 h1)))
theorem cast_pow' (a n:Nat):((a:Rat)) ^ n=((a ^ n:Nat):Rat):=by
 induction n with
 | zero=>rw [Rat.pow_zero];rfl
 | succ n ih=>rw [Rat.pow_succ,Nat.pow_succ,Rat.natCast_mul,ih]
theorem mom_le {p q:List L2} {a k n:Nat} (hp:Dst a p) (hq:Dst a q) (hin:inX p q=true) (sq:∀ x∈q,Sz k (valX x)):momD (valsD p) (valsD q) n≤((p.length*(10 ^ k) ^ n:Nat):Rat):=by
 rw [momD_vals hq.once]
 refine sum_bound fun m hm=>?_
 obtain ⟨x,hx,_,e2⟩:=atT_mem (inX_iff.1 hin m hm)
 have hv:0 < valX x:=hq.pos hx
 have e3:valQ (atT q m.1).data.toList=valX x:=by rw [e2]
 rw [e3,← inv_pow]
 have hi:0≤(valX x)⁻¹:=Rat.le_of_lt (Rat.inv_pos.2 hv)
 have h1:=pow_le_one' (Rat.le_of_lt (hp.pos hm)) (hp.one hm) (n+1)
 have h2:=pow_le_pow' hi (le_of_sz (sq x hx).inv) n
 rw [cast_pow'] at h2
 have h3:=Rat.mul_le_mul_of_nonneg_right h1 (Rat.pow_nonneg (n:=n) hi)
 rw [Rat.one_mul] at h3
 exact Rat.le_trans h3 h2
theorem inv_den {q:List L2} {k:Nat} (sq:∀ x∈q,Sz k (valX x)):∃ D,0 < D∧D < 10 ^ (k*q.length+1)∧∀ x∈q,HasDen D (valX x)⁻¹ :=
 ⟨denB (fun x=>(valX x)⁻¹) q,denB_pos q,denB_lt fun x hx=>(sq x hx).inv,fun _ hx=>denB_has (f:=fun x:L2=>(valX x)⁻¹) hx⟩
theorem momV_out {p q:List L2} {n:Int} (hp:chkD p=0) (hq:chkD q=0) (h1:1≤n) (h8:n≤8) (hin:inX p q=false):momV p q n=.tuple #[.string ⟨#[]⟩,.bool false,.int .i64 0]:=by
 unfold momV
 rw [chk2_ok hp hq,if_neg (by decide),if_neg (by omega),if_pos hin]
theorem lt_pow_mono {x a b:Nat} (h:x < 10 ^ a) (hab:a≤b):x < 10 ^ b:=Nat.lt_of_lt_of_le h (pow_le hab)
section
variable {p q r s x y:List L2}
end
end Go.Proofs.YtigapglmipmbeaaGreatDoor
namespace Go.Proofs.YtigapglmipmbeaaGreatDoor
open Go.RowKit Go.Shelf
open Lim
section
variable {a b:ByteArray} (ha:a.size≤270000) (hb:b.size≤270000)
include ha hb
end
theorem lt_bytes (a b:ByteArray):Op.bytesLess a.toList b.toList=ltK a b:=by
 unfold ltK
 rw [bytesLess_eq,Lib.toList_data,Lib.toList_data]
theorem eq_bytes (a b:ByteArray):(a.toList==b.toList)=decide (a=b):=by
 rw [Lib.toList_data,Lib.toList_data]
 by_cases h:a=b
 ·subst h;simp
 ·have h2:a.data.toList≠b.data.toList:=fun e=>h (by
   cases a;cases b
   simp only [ByteArray.mk.injEq]
   exact Array.ext' e)
  rw [decide_eq_false h]
  exact beq_eq_false_iff_ne.2 h2
theorem oT_list:oT.toList=[49]:=by rw [Lib.toList_data];rfl
theorem zT_list:zT.toList=[48]:=by rw [Lib.toList_data];rfl
theorem ne_zero {n:Nat} (h:n≠0):((n:Int)==0)=false:=by rw [beq_eq_false_iff_ne];omega
theorem ne_zero2 {n:Nat} (h:n≠0):((n:Int) != 0)=true:=by unfold bne;rw [ne_zero h];rfl
theorem num_neg_iff (q:Rat):q.num < 0↔q < 0:=by
 have h:=Rat.num_nonneg (q:=q)
 constructor
 ·intro h2
  exact Classical.byContradiction fun h3=>absurd (h.2 (by grind)) (by omega)
 ·intro h2
  exact Classical.byContradiction fun h3=>by
   have:=h.1 (by omega)
   grind
theorem sg_lt (q:Rat):sgQ q < 0↔q < 0:=by
 rw [sgQ_num,← num_neg_iff]
 split
 ·rename_i h;exact ⟨fun _=>h,fun _=>by omega⟩
 ·rename_i h
  split<;>exact ⟨fun h2=>absurd h2 (by omega),fun h2=>absurd h2 h⟩
theorem sg_gt (q:Rat):0 < sgQ q↔0 < q:=by
 rw [sgQ_num]
 have h1:=num_neg_iff q
 have h0:q.num=0↔q=0:=Rat.num_eq_zero
 split
 ·rename_i h
  have:=h1.1 h
  exact ⟨fun h2=>absurd h2 (by omega),fun h2=>by grind⟩
 ·rename_i h
  have h4:¬ q < 0:=fun h5=>h (h1.2 h5)
  split
  ·rename_i h3
   have:=h0.1 h3
   exact ⟨fun h2=>absurd h2 (by omega),fun h2=>by grind⟩
  ·rename_i h3
   have:q≠0:=fun h5=>h3 (h0.2 h5)
   exact ⟨fun _=>by grind,fun _=>by omega⟩
end Go.Proofs.YtigapglmipmbeaaGreatDoor
namespace Go.Proofs.YtigapglmipmbeaaGreatDoor
open Go.RowKit Go.Shelf
open Lim
attribute [local go_sem] Oper.semAt_some
structure NW (w:World) (W:World):Prop where
 below:Below w.heap.size w W
 res:Res W
theorem NW.refl {w:World} (hr:Res w):NW w w:=⟨Below.refl _ _,hr⟩
theorem NW.later {w W W':World} (h:NW w W) (hb:Below W.heap.size W W'):NW w W':=⟨h.below.trans (hb.mono h.below.size),h.res.below hb⟩
theorem NW.alloc {w W:World} (h:NW w W) (o:Obj):NW w (W.alloc o):=h.later (below_alloc (Below.refl _ _) _)
theorem NW.drewN {w W:World} (h:NW w W) (n:Nat):NW w (W.drewN n):=h.later (below_drewN' (Below.refl _ _) n)
def keyAt (ls:List L2):Nat→Option ByteArray
 | 0=>none
 | k+1=>(ls[k]?).map (·.1)
theorem chkL_err {k:Option ByteArray} {x:L2} {l:List L2} (h:posE x.2≠0):chkL k (x::l)=posE x.2:=by unfold chkL;rw [if_pos h]
theorem chkL_low {k:Option ByteArray} {x:L2} {l:List L2} (h:posE x.2=0) (h2:¬ 0 < valQ x.2.data.toList):chkL k (x::l)=2:=by unfold chkL;rw [if_neg (by simpa using h),if_pos h2]
theorem chkL_ord {k:Option ByteArray} {x:L2} {l:List L2} (h:posE x.2=0) (h2:0 < valQ x.2.data.toList) (h3:badK k x.1=true):chkL k (x::l)=9:=by unfold chkL;rw [if_neg (by simpa using h),if_neg (by simpa using h2),if_pos h3]
theorem chkL_go {k:Option ByteArray} {x:L2} {l:List L2} (h:posE x.2=0) (h2:0 < valQ x.2.data.toList) (h3:badK k x.1=false):chkL k (x::l)=chkL (some x.1) l:=by
 conv=>lhs;unfold chkL
 rw [if_neg (by simpa using h),if_neg (by simpa using h2),if_neg (by rw [h3];decide)]
theorem errs_of {ls:List L2} (h:chkL none ls=0):∀ x∈ls,errQ x.2.data.toList=0:=by
 revert h
 generalize (none:Option ByteArray)=k
 induction ls generalizing k with
 | nil=>intro _ x hx;cases hx
 | cons y l ih =>
  intro h x hx
  by_cases h1:posE y.2=0
  ·by_cases h2:0 < valQ y.2.data.toList
   ·cases h3:badK k y.1 with
    | true=>rw [chkL_ord h1 h2 h3] at h;cases h
    | false =>
     rw [chkL_go h1 h2 h3] at h
     rcases List.mem_cons.1 hx with rfl|hx
     ·unfold posE at h1
      split at h1
      ·rename_i h4;exact absurd h1 h4
      ·rename_i h4;exact Classical.byContradiction h4
     ·exact ih _ h x hx
   ·rw [chkL_low h1 h2] at h;cases h
  ·rw [chkL_err h1] at h;exact absurd h h1
theorem keyAt_succ {ls:List L2} {k:Nat} {x:L2} (h:ls[k]?=some x):keyAt ls (k+1)=some x.1:=by
 show (ls[k]?).map (·.1)=_
 rw [h];rfl
theorem drop_of {ls:List L2} {k:Nat} {x:L2} (h:ls[k]?=some x):ls.drop k=x::ls.drop (k+1):=by
 obtain ⟨hlt,e⟩:=List.getElem?_eq_some_iff.1 h
 rw [List.drop_eq_getElem_cons hlt,e]
theorem chkS_ok {s:ByteArray}:chkS (.ok s)=if s=oT then 0 else 15:=rfl
theorem LRow.at {w W:World} {v:Value} {ls:List L2} (h:LRow w v ls) (hb:Below w.heap.size w W) {k:Nat} {x:L2} (hx:ls[k]?=some x) :
  ∃ b o c,v=.slice (some ⟨b,o,none⟩) ls.length c∧b < W.heap.size∧W.cell? ⟨b,o+k*2,none⟩=some (.string x.1)∧W.cell? ⟨b,o+k*2+1,none⟩=some (.string x.2):=by
 obtain ⟨A,c,rfl,_,hc⟩:=h
 obtain ⟨b,o,rfl,hlt,hcell⟩:=hc (by have:=(List.getElem?_eq_some_iff.1 hx).1;omega)
 obtain ⟨c0,c1⟩:=hcell k x hx
 exact ⟨b,o,c,rfl,Nat.lt_of_lt_of_le hlt hb.size,by rw [hb.cell (p:=⟨b,o+k*2,none⟩) hlt];exact c0,by rw [hb.cell (p:=⟨b,o+k*2+1,none⟩) hlt];exact c1⟩
theorem LRow.cell2 {w W:World} {b o n c:Nat} {ls:List L2} (h:LRow w (.slice (some ⟨b,o,none⟩) n c) ls) (hb:Below w.heap.size w W) {k:Nat} {x:L2} (hx:ls[k]?=some x) :
  b < W.heap.size∧W.cell? ⟨b,o+k*2,none⟩=some (.string x.1)∧W.cell? ⟨b,o+k*2+1,none⟩=some (.string x.2):=by
 obtain ⟨b',o',c',e,h1,h2,h3⟩:=h.at hb hx
 simp only [Value.slice.injEq,Option.some.injEq,Addr.mk.injEq,and_true] at e
 obtain ⟨⟨rfl,rfl⟩,_,_⟩:=e
 exact ⟨h1,h2,h3⟩
theorem zT_small:zT.size≤270000:=by decide
theorem Short.atT {k:ByteArray}:∀ {ls:List L2},Short ls→(atT ls k).size≤270000
 | [],_=>zT_small
 | x::l,h=>by
  unfold Go.Proofs.YtigapglmipmbeaaGreatDoor.atT
  split
  ·exact (h x (by simp)).2
  ·exact Short.atT fun y hy=>h y (by simp [hy])
theorem chk2_both {a b:List L2} (h:chk2 a b=0):chkD a=0∧chkD b=0:=by
 unfold chk2 at h
 split at h
 ·rename_i h1;exact absurd h h1
 ·rename_i h1;exact ⟨Classical.byContradiction h1,h⟩
theorem resX_tup (r:XE):∃ c0 c1,resX r=.tuple #[.string c0,.int .i64 c1]:=by
 cases r
 ·exact ⟨_,_,rfl⟩
 ·exact ⟨_,_,rfl⟩
theorem powsX_ne {n:Int} {q:List L2} {x:L2} {z:Nat} (h:powsX n q x=.error z):z≠0:=by
 unfold powsX at h
 split at h
 ·rename_i h1;cases h;exact exQ_err h1
 ·split at h
  ·rename_i h1;cases h;exact exQ_err h1
  ·exact exQ_err h
theorem powsX_fine {n:Int} {q:List L2} {x:L2} {s:ByteArray} (h:powsX n q x=.ok s):errQ s.data.toList=0:=by
 unfold powsX at h
 split at h
 ·cases h
 ·split at h
  ·cases h
  ·exact divX_ok h
end Go.Proofs.YtigapglmipmbeaaGreatDoor
namespace Go.Proofs.YtigapglmipmbeaaGreatDoor
open Go.RowKit Go.Shelf
open Lim
def holdsR (f d:ByteArray) (p q:List L2):Except Nat Bool:=if errL f d≠0 then .error (errL f d) else match deltaX p q f with
 | .error n=>.error n
 | .ok x=>match deltaX q p f with
  | .error n=>.error n
  | .ok y=>.ok (decide (cmpQ (valQ x.data.toList) (valQ d.data.toList)≤0)&&decide (cmpQ (valQ y.data.toList) (valQ d.data.toList)≤0))
end Go.Proofs.YtigapglmipmbeaaGreatDoor
namespace Go.Proofs.YtigapglmipmbeaaGreatDoor
open Go.RowKit Go.Shelf
open Lim
attribute [local go_sem] Oper.semAt_some
end Go.Proofs.YtigapglmipmbeaaGreatDoor
namespace Go.Proofs.YtigapglmipmbeaaGreatDoor
open Lim
section
variable {l m n:List L2} (hl:Dst 385 l) (hm:Dst 385 m) (hn:Dst 385 n)
include hl hm
include hn
end
theorem holdsR_ok {a j:Nat} {p q:List L2} {F d:Rat} (hp:Dst a p) (hq:Dst a q) (h1:1≤F) (sF:Sz j F) (hj:j≤maxD) (d0:0≤d) (d1:d≤1) (fd:fits d=true) (hm:a+(j+a)+1≤maxD) (ha:0 < a)
  (k1:deltaD (valsD p) (valsD q) F≤d) (k2:deltaD (valsD q) (valsD p) F≤d):holdsR (rT F) (rT d) p q=.ok true:=by
 have fF:fits F=true:=fits_sz.2 (sF.mono hj)
 have hL:LossIs (rT F) (rT d) (F,d):=⟨isT_rT fF,isT_rT fd,h1,d0,d1⟩
 have hF0:0≤F:=Rat.le_trans (by decide) h1
 obtain ⟨x1,x2⟩:=deltaX_fit hp hq (f:=rT F) (err_rT fF) (by rw [val_rT fF];exact hF0) (by rw [val_rT fF];exact sF) hm ha
 obtain ⟨y1,y2⟩:=deltaX_fit hq hp (f:=rT F) (err_rT fF) (by rw [val_rT fF];exact hF0) (by rw [val_rT fF];exact sF) hm ha
 rw [val_rT fF] at x1 x2 y1 y2
 unfold holdsR
 rw [if_neg (fun h=>h hL.err),x1]
 dsimp only
 rw [y1]
 dsimp only
 rw [val_rT x2,val_rT y2,val_rT fd,decide_eq_true ((cmpQ_le _ _).2 k1),decide_eq_true ((cmpQ_le _ _).2 k2)]
 rfl
section
variable (L:Nat→List L2) (F:Rat)
theorem sz_max {k:Nat} {a b:Rat} (ha:Sz k a) (hb:Sz k b):Sz k (maxQ a b):=by
 rw [maxQ_eq]
 split
 ·assumption
 ·assumption
variable {L F}
end
section
variable {p q:List L2}
theorem room10 {a b c D1 D2 M n:Nat} (hn:n≤7) (h1:D1 < 10 ^ a) (h2:D2 < 10 ^ b) (hM:M < 10 ^ c) (p1:0 < D1) (p2:0 < D2):M*(D1 ^ (n+1)*D2 ^ n) < 10 ^ (c+(a*8+b*7)):=by
 have e1:D1 ^ (n+1)≤D1 ^ 8:=Nat.pow_le_pow_right p1 (by omega)
 have e2:D2 ^ n≤D2 ^ 7:=Nat.pow_le_pow_right p2 hn
 have e3:D1 ^ 8≤10 ^ (a*8):=by rw [Nat.pow_mul];exact Nat.pow_le_pow_left (Nat.le_of_lt h1) 8
 have e4:D2 ^ 7≤10 ^ (b*7):=by rw [Nat.pow_mul];exact Nat.pow_le_pow_left (Nat.le_of_lt h2) 7
 have e5:=Nat.mul_le_mul (Nat.le_trans e1 e3) (Nat.le_trans e2 e4)
 rw [← Nat.pow_add] at e5
 have e6:M*(D1 ^ (n+1)*D2 ^ n)≤M*10 ^ (a*8+b*7):=Nat.mul_le_mul_left _ e5
 have e7:M*10 ^ (a*8+b*7) < 10 ^ c*10 ^ (a*8+b*7):=Nat.mul_lt_mul_of_pos_right hM (Nat.pow_pos (by decide))
 rw [← Nat.pow_add] at e7
 exact Nat.lt_of_le_of_lt e6 e7
theorem mom_den {D1 D2 n:Nat} (hp:Dst 73 p) (hq:Dst 73 q) (hin:inX p q=true) (d1:∀ x∈p,HasDen D1 (valX x)) (d2:∀ x∈q,HasDen D2 (valX x)⁻¹) :
  HasDen (D1 ^ (n+1)*D2 ^ n) (momD (valsD p) (valsD q) n)∧0≤momD (valsD p) (valsD q) n:=by
 rw [momD_vals hq.once]
 have step:∀ m∈p,HasDen (D1 ^ (n+1)*D2 ^ n) (valX m ^ (n+1)*(valQ (atT q m.1).data.toList ^ n)⁻¹)∧0≤valX m ^ (n+1)*(valQ (atT q m.1).data.toList ^ n)⁻¹:=by
  intro m hm
  obtain ⟨x,hx,_,e2⟩:=atT_mem (inX_iff.1 hin m hm)
  have hv:0 < valX x:=hq.pos hx
  have hv2:=hp.pos hm
  have e3:valQ (atT q m.1).data.toList=valX x:=by rw [e2]
  rw [e3]
  refine ⟨((d1 m hm).pow _).mul ?_,?_⟩
  ·rw [← inv_pow]
   exact (d2 x hx).pow _
  ·exact Rat.mul_nonneg (Rat.pow_nonneg (Rat.le_of_lt hv2)) (Rat.le_of_lt (Rat.inv_pos.2 (Rat.pow_pos hv)))
 exact ⟨HasDen.sum fun m hm=>(step m hm).1,sumBy_nonneg fun m hm=>(step m hm).2⟩
theorem mom10 {n K:Nat} (hK:87+(73*8+73*7)≤K) (hp:Dst 73 p) (hq:Dst 73 q) (lp:p.length≤6) (lq:q.length≤6) (tp:∀ x∈p,Sz 12 (valX x)) (tq:∀ x∈q,Sz 12 (valX x)) (hn:n≤7) (hin:inX p q=true) :
  momV p q ((n+1:Nat):Int)=.tuple #[.string (rT (momD (valsD p) (valsD q) n)),.bool true,.int .i64 0]∧Sz K (momD (valsD p) (valsD q) n):=by
 obtain ⟨D1,d1,d2,d3⟩:=hp.den
 obtain ⟨D2,e1,e2,e3⟩:=inv_den tq
 have hb:momD (valsD p) (valsD q) n≤((10 ^ 86:Nat):Rat):=by
  refine Rat.le_trans (mom_le hp hq hin tq) (Rat.natCast_le_natCast.2 ?_)
  have h2:(10 ^ 12) ^ n≤(10 ^ 12) ^ 7:=Nat.pow_le_pow_right (by decide) hn
  have h3:=Nat.mul_le_mul lp h2
  exact Nat.le_trans h3 (by decide)
 have e4:D2 < 10 ^ 73:=lt_pow_mono e2 (by omega)
 have hroom:=room10 (a:=73) (b:=73) (c:=87) hn d2 e4 (show 10 ^ 86 < 10 ^ 87 from Nat.pow_lt_pow_right (by decide) (by decide)) d1 e1
 have hk:12*(n+1)+1+(12*n+1)≤maxD:=by unfold maxD;omega
 have hM:0 < 10 ^ 86:=Nat.pow_pos (by decide)
 obtain ⟨r1,_⟩:=momV_fit (k:=12) (M:=10 ^ 86) hp.ok hq.ok hin (by omega) tp tq hk d1 e1 d3 e3 hM (lt_pow_mono hroom (by decide)) hb
 obtain ⟨g1,g2⟩:=mom_den (n:=n) hp hq hin d3 e3
 exact ⟨r1,g1.sz (Nat.mul_pos (Nat.pow_pos d1) (Nat.pow_pos e1)) g2 hb (lt_pow_mono hroom hK) hM⟩
theorem below_mom {x y F:Rat} (hx:0 < x) (hy:0 < y) (hF:1≤F) (i:Nat):x - F*y≤x ^ (i+1+1)*(y ^ (i+1))⁻¹*shM i*(pwM F i)⁻¹:=by
 have hF0:0 < F:=by grind
 have ha:(0:Rat) < ((i+1:Nat):Rat):=Rat.natCast_pos.2 (by omega)
 have hb:(0:Rat) < ((i+2:Nat):Rat):=Rat.natCast_pos.2 (by omega)
 have ia:((i+1:Nat):Rat)*((i+1:Nat):Rat)⁻¹=1:=Rat.mul_inv_cancel _ (by grind)
 have ib:((i+2:Nat):Rat)*((i+2:Nat):Rat)⁻¹=1:=Rat.mul_inv_cancel _ (by grind)
 have h:=bernD (x:=x*((i+2:Nat):Rat)⁻¹) (y:=F*y*((i+1:Nat):Rat)⁻¹) (Rat.mul_pos hx (Rat.inv_pos.2 hb)) (Rat.mul_pos (Rat.mul_pos hF0 hy) (Rat.inv_pos.2 ha)) (i+1)
 have e1:((i+1+1:Nat):Rat)*(x*((i+2:Nat):Rat)⁻¹) - ((i+1:Nat):Rat)*(F*y*((i+1:Nat):Rat)⁻¹)=x - F*y:=by
  have e9:((i+1+1:Nat):Rat)=((i+2:Nat):Rat):=rfl
  rw [e9]
  generalize ((i+1:Nat):Rat)=a at *
  generalize ((i+2:Nat):Rat)=b at *
  grind
 rw [e1] at h
 have e2:(x*((i+2:Nat):Rat)⁻¹) ^ (i+1+1)*((F*y*((i+1:Nat):Rat)⁻¹) ^ (i+1))⁻¹=x ^ (i+1+1)*(y ^ (i+1))⁻¹*shM i*(pwM F i)⁻¹:=by
  unfold shM shA shB pwM
  rw [Rat.zpow_natCast,Rat.zpow_natCast,Rat.zpow_natCast]
  have c1:(((i+1:Nat):Int):Rat)=((i+1:Nat):Rat):=rfl
  have c2:(((i+2:Nat):Int):Rat)=((i+2:Nat):Rat):=rfl
  rw [c1,c2,show i+1+1=i+2 from rfl,mul_pow' x,mul_pow' (F*y),mul_pow' F,inv_mul',inv_mul',← inv_pow (((i+2:Nat):Rat))]
  have d1:(((i+1:Nat):Rat)⁻¹ ^ (i+1))⁻¹=((i+1:Nat):Rat) ^ (i+1):=by rw [inv_pow,Rat.inv_inv]
  rw [d1]
  generalize ((i+1:Nat):Rat) ^ (i+1)=A
  generalize ((i+2:Nat):Rat)⁻¹ ^ (i+2)=B
  generalize (F ^ (i+1))⁻¹=C
  generalize (y ^ (i+1))⁻¹=E
  grind
 rw [← e2]
 exact h
theorem mom_delta {F:Rat} (hp:Dst 73 p) (hq:Dst 73 q) (hin:inX p q=true) (hF:1≤F) (i:Nat):deltaD (valsD p) (valsD q) F≤momD (valsD p) (valsD q) (i+1)*shM i*(pwM F i)⁻¹:=by
 rw [deltaD_vals hq.once,momD_vals hq.once]
 have e:sumBy (fun m:L2=>valX m ^ (i+1+1)*(valQ (atT q m.1).data.toList ^ (i+1))⁻¹) p*shM i*(pwM F i)⁻¹=sumBy (fun m:L2=>(shM i*(pwM F i)⁻¹)*(valX m ^ (i+1+1)*(valQ (atT q m.1).data.toList ^ (i+1))⁻¹)) p:=by
  rw [sumBy_mul];grind
 rw [e]
 refine sumBy_le fun m hm=>?_
 obtain ⟨x,hx,_,e2⟩:=atT_mem (inX_iff.1 hin m hm)
 have hv:0 < valX x:=hq.pos hx
 have hv2:=hp.pos hm
 have e3:valQ (atT q m.1).data.toList=valX x:=by rw [e2]
 rw [e3]
 have h:=below_mom hv2 hv hF i
 have h0:0≤valX m ^ (i+1+1)*(valX x ^ (i+1))⁻¹:=Rat.mul_nonneg (Rat.pow_nonneg (Rat.le_of_lt hv2)) (Rat.le_of_lt (Rat.inv_pos.2 (Rat.pow_pos hv)))
 have h1:0≤shM i*(pwM F i)⁻¹:=by
  refine Rat.mul_nonneg ?_ (Rat.le_of_lt (Rat.inv_pos.2 (pwM_pos hF i)))
  unfold shM shA shB
  rw [Rat.zpow_natCast,Rat.zpow_natCast]
  exact Rat.mul_nonneg (Rat.pow_nonneg Rat.natCast_nonneg) (Rat.le_of_lt (Rat.inv_pos.2 (Rat.pow_pos (Rat.natCast_pos.2 (by omega)))))
 have h2:=Rat.mul_nonneg h1 h0
 refine pos_le (by grind) h2
end
theorem most_sz {q:DL} {k:Nat}:∀ {p:DL} {m:Rat},Sz k m→(∀ e∈p,Sz k (e.2*(massD q e.1)⁻¹))→Sz k (mostD p q m)
 | [],m,h,_=>h
 | e::l,m,h,h2=>by
  refine most_sz (p:=l) (m:=maxQ m (e.2*(massD q e.1)⁻¹)) ?_ fun x hx=>h2 x (by simp [hx])
  unfold maxQ
  split
  ·exact h2 e (by simp)
  ·exact h
section
variable {l m:List L2} (hl:Dst 385 l) (hm:Dst 385 m)
include hl hm
omit hl hm in
theorem in_keys (hin:inX l m=true):∀ e∈valsD l,e.1∈keysD (valsD m):=fun e he=>by
 obtain ⟨x,hx,rfl⟩:=List.mem_map.1 he
 rw [keys_vals]
 exact inX_iff.1 hin x hx
end
def purQ (r:Rat) (n:Nat):Rat:=(r ^ (n+1)+(r ^ n)⁻¹)*(r+1)⁻¹
theorem pur_of (r:Rat) (i:Nat):(ofX r i+ofY r i)*(r+1)⁻¹=purQ r (i+1):=by
 have e1:ofX r i=r ^ (i+1+1):=by
  unfold ofX
  rw [show (i:Int)+2=((i+1+1:Nat):Int) by omega,Rat.zpow_natCast]
 have e2:ofY r i=(r ^ (i+1))⁻¹:=by
  unfold ofY
  rw [show -1 - (i:Int)=-((i+1:Nat):Int) by omega,Rat.zpow_neg,Rat.zpow_natCast]
 rw [e1,e2]
 rfl
theorem pur_zero {r:Rat} (h:1≤r):purQ r 0=1:=by
 unfold purQ
 have:=Rat.mul_inv_cancel (r+1) (by grind)
 rw [Rat.pow_succ,Rat.pow_zero,Rat.one_mul,show (1:Rat)⁻¹=1 by decide +kernel,this]
theorem pur_step {r:Rat} (h:1≤r) (n:Nat):purQ r (n+2)+purQ r n=(r+r⁻¹)*purQ r (n+1):=by
 unfold purQ
 have i1:=Rat.mul_inv_cancel r (by grind)
 rw [← inv_pow,← inv_pow,← inv_pow,Rat.pow_succ (n:=n+2),Rat.pow_succ (n:=n+1),Rat.pow_succ (n:=n),Rat.pow_succ (n:=n+1),Rat.pow_succ (n:=n)]
 generalize r ^ n=A
 generalize r⁻¹ ^ n=B
 generalize (r+1)⁻¹=C
 generalize r⁻¹=D at *
 have h1:A*r*r*D=A*r:=by rw [Rat.mul_assoc,i1,Rat.mul_one]
 have h2:B*D*r=B:=by rw [Rat.mul_assoc,Rat.mul_comm D r,i1,Rat.mul_one]
 have:(A*r*r*r+B*D*D+(A*r+B))=(r+D)*(A*r*r+B*D):=by grind
 grind
theorem pur_base {r:Rat} (h:1≤r):purQ r 1+1=r+r⁻¹:=by
 unfold purQ
 have i1:=Rat.mul_inv_cancel r (by grind)
 have i2:=Rat.mul_inv_cancel (r+1) (by grind)
 have e1:r ^ (1+1)=r*r:=by rw [Rat.pow_succ,Rat.pow_succ,Rat.pow_zero,Rat.one_mul]
 have e2:r ^ 1=r:=by rw [Rat.pow_succ,Rat.pow_zero,Rat.one_mul]
 rw [e1,e2]
 generalize r⁻¹=D at *
 generalize (r+1)⁻¹=C at *
 have:r*r+D=(r+D - 1)*(r+1):=by grind
 rw [this,Rat.mul_assoc,i2]
 grind
theorem quadQ {t r:Rat} (h0:1≤r) (h1:t≤r) (h2:r⁻¹≤t):t*t+1≤(r+r⁻¹)*t:=by
 have i1:=Rat.mul_inv_cancel r (by grind)
 have h:=Rat.mul_nonneg (show 0≤r - t by grind) (show 0≤t - r⁻¹ by grind)
 generalize r⁻¹=D at *
 grind
theorem two_le {r:Rat} (h:1≤r):2≤r+r⁻¹:=by
 have i1:=Rat.mul_inv_cancel r (by grind)
 have hi:r⁻¹≤1:=by
  have:=Rat.mul_le_mul_of_nonneg_right h (show 0≤r⁻¹ from Rat.le_of_lt (Rat.inv_pos.2 (by grind)))
  rw [i1] at this
  grind
 have:=quadQ (t:=1) h h hi
 grind
section
variable {p q:DL} {r:Rat}
theorem keys_full (hp:IsD p) (hq:IsD q) (h2:∀ e∈q,e.1∈keysD p):sumBy (fun e=>massD q e.1) p=1:=by
 have e1:sumBy (fun e=>massD q e.1) p=sumBy (massD q) (keysD p):=by unfold keysD;rw [sumBy_map]
 rw [e1]
 refine hq.total hp.once fun k hk=>?_
 obtain ⟨e,he,rfl⟩:=List.mem_map.1 hk
 exact h2 e he
theorem mom_zero (hp:IsD p):momD p q 0=1:=by
 rw [← hp.one]
 refine sumBy_congr fun e _=>?_
 rw [Rat.pow_succ,Rat.pow_zero,Rat.pow_zero,Rat.one_mul,show (1:Rat)⁻¹=1 by decide +kernel,Rat.mul_one]
def Near (p q:DL) (r:Rat):Prop:=∀ e∈p,0 < e.2∧0 < massD q e.1∧e.2≤r*massD q e.1∧massD q e.1≤r*e.2
theorem ratio_both {x y:Rat} (h0:1≤r) (_hx:0 < x) (hy:0 < y) (h1:x≤r*y) (h2:y≤r*x):x*y⁻¹*(x*y⁻¹)+1≤(r+r⁻¹)*(x*y⁻¹):=by
 refine quadQ h0 ((ratio_le hy).2 h1) ?_
 have i1:=Rat.mul_inv_cancel r (by grind)
 have i2:=Rat.mul_inv_cancel y (by grind)
 have hr:0 < r⁻¹:=Rat.inv_pos.2 (by grind)
 have hi:0 < y⁻¹:=Rat.inv_pos.2 hy
 have a:=Rat.mul_le_mul_of_nonneg_right h2 (show 0≤r⁻¹*y⁻¹ from Rat.mul_nonneg (Rat.le_of_lt hr) (Rat.le_of_lt hi))
 generalize r⁻¹=D at *
 generalize y⁻¹=Y at *
 have e1:y*(D*Y)=D*(y*Y):=by grind
 have e2:r*x*(D*Y)=r*D*(x*Y):=by grind
 rw [e1,e2,i1,i2] at a
 grind
theorem near_step (h0:1≤r) (hn:Near p q r) (n:Nat):momD p q (n+2)+momD p q n≤(r+r⁻¹)*momD p q (n+1):=by
 unfold momD
 rw [← sumBy_add,← sumBy_mul]
 refine sumBy_le fun e he=>?_
 obtain ⟨hx,hy,h1,h2⟩:=hn e he
 generalize massD q e.1=y at *
 have hc:0≤e.2 ^ (n+1)*(y ^ n)⁻¹:=Rat.mul_nonneg (Rat.pow_nonneg (Rat.le_of_lt hx)) (Rat.le_of_lt (Rat.inv_pos.2 (Rat.pow_pos hy)))
 have h:=Rat.mul_le_mul_of_nonneg_left (ratio_both h0 hx hy h1 h2) hc
 have i2:∀ k,(y ^ (k+1))⁻¹=(y ^ k)⁻¹*y⁻¹:=fun k=>by rw [Rat.pow_succ,inv_mul']
 rw [i2 (n+1),i2 n,Rat.pow_succ (n:=n+2),Rat.pow_succ (n:=n+1)]
 generalize e.2 ^ (n+1)=A at *
 generalize (y ^ n)⁻¹=B at *
 generalize y⁻¹=Y at *
 generalize r+r⁻¹=s at *
 have e1:A*e.2*e.2*(B*Y*Y)+A*B=A*B*(e.2*Y*(e.2*Y)+1):=by grind
 have e2:s*(A*e.2*(B*Y))=A*B*(s*(e.2*Y)):=by grind
 rw [e1,e2]
 exact h
theorem near_base (hp:IsD p) (hq:IsD q) (h2:∀ e∈q,e.1∈keysD p) (h0:1≤r) (hn:Near p q r):momD p q 1+1≤r+r⁻¹:=by
 have a1:=keys_full hp hq h2
 have a2:=hp.one
 have:momD p q 1+sumBy (fun e=>massD q e.1) p≤(r+r⁻¹)*sumBy (fun e=>e.2) p:=by
  unfold momD
  rw [← sumBy_add,← sumBy_mul]
  refine sumBy_le fun e he=>?_
  obtain ⟨hx,hy,h1,h2⟩:=hn e he
  generalize massD q e.1=y at *
  have h:=Rat.mul_le_mul_of_nonneg_left (ratio_both h0 hx hy h1 h2) (Rat.le_of_lt hy)
  have i2:=Rat.mul_inv_cancel y (by grind)
  have c1:e.2 ^ (1+1)=e.2*e.2:=by rw [Rat.pow_succ,Rat.pow_succ,Rat.pow_zero,Rat.one_mul]
  have c2:y ^ 1=y:=by rw [Rat.pow_succ,Rat.pow_zero,Rat.one_mul]
  rw [c1,c2]
  generalize y⁻¹=Y at *
  generalize r+r⁻¹=s at *
  have e1:y*(e.2*Y*(e.2*Y)+1)=e.2*e.2*Y*(y*Y)+y:=by grind
  have e2:y*(s*(e.2*Y))=s*e.2*(y*Y):=by grind
  rw [e1,e2,i2] at h
  grind
 rw [a1,a2] at this
 grind
theorem near_pure (hp:IsD p) (hq:IsD q) (h2:∀ e∈q,e.1∈keysD p) (h0:1≤r) (hn:Near p q r) (n:Nat):momD p q n≤purQ r n∧purQ r n - momD p q n≤purQ r (n+1) - momD p q (n+1):=by
 have hs:=two_le h0
 induction n with
 | zero =>
  have b1:=near_base hp hq h2 h0 hn
  have b2:=pur_base h0
  have b3:=pur_zero h0
  have b4:=mom_zero (q:=q) hp
  rw [b3,b4]
  exact ⟨Rat.le_refl,by grind⟩
 | succ n ih =>
  obtain ⟨i1,i2⟩:=ih
  have c1:=near_step h0 hn n
  have c2:=pur_step h0 n
  refine ⟨by grind,?_⟩
  have c3:=Rat.mul_le_mul_of_nonneg_right hs (show 0≤purQ r (n+1) - momD p q (n+1) by grind)
  generalize r+r⁻¹=s at *
  have c4:s*(purQ r (n+1) - momD p q (n+1))=s*purQ r (n+1) - s*momD p q (n+1):=by grind
  rw [c4,← c2] at c3
  show _≤purQ r (n+2) - momD p q (n+2)
  grind
theorem near_of {p q:DL} {r:Rat} (hp:IsD p) (hq:IsD q) (h1:∀ e∈p,e.1∈keysD q) (_h2:∀ e∈q,e.1∈keysD p) (m1:mostD p q 0≤r) (m2:mostD q p 0≤r):Near p q r:=fun e he=>by
 have hk:=h1 e he
 have hy:=(hq.pos_iff _).2 hk
 have hx:=hp.plus e he
 obtain ⟨x,hx2,hx3⟩:=List.mem_map.1 hk
 have e1:=massD_at hq.once hx2
 have e2:=massD_at hp.once he
 have g1:=((most_le q r p 0).1 m1).2 e he
 have g2:=((most_le p r q 0).1 m2).2 x hx2
 rw [hx3] at e1 g2
 rw [e2] at g2
 rw [e1] at g1 hy ⊢
 exact ⟨hx,hy,(ratio_le hy).1 g1,(ratio_le hx).1 g2⟩
end
end Go.Proofs.YtigapglmipmbeaaGreatDoor
namespace Go.Proofs.YtigapglmipmbeaaGreatDoor
open Go.RowKit Go.Shelf
open Lim
theorem refsign_zero (a:ByteArray) (q:Rat) (w:World) (ha:a.size≤270000) (he:errQ a.data.toList=0) (hq:valQ a.data.toList=q) (h0:nm q=0) :
  Calls Tryz.prog 110 #[.string a] w fun e w'=>e=.returned (.tuple #[.int .i64 0,.int .i64 0])∧Below w.heap.size w w':=by
 have HP:=Lib.hid (rq_any a w ha)
 have hne:((errQ a.data.toList:Int)==0)=true:=by rw [he];rfl
 have HE:=Lib.hid he
 rw [hq] at HP
 have HF:=Lib.hid (fun (b:Bool) (N:Nat) (h:ng q=b∧nm q=N)=>show (((toL N).length:Int)==0)=true∧b=b from ⟨by rw [len_zero,← h.2,decide_eq_true h0],rfl⟩)
 clear h0
 clear he hq
 go_enter Tryz.func110,Tryz.ntmps110
 go_wp2_with (go_at_call 155;refine HP.out.mono ?_;rintro e w1 ⟨v,rfl,hv,-,hb⟩;obtain ⟨bq,N,D,A,c,A',c',rfl,hn,hd,HQ⟩:=isQ_open (hv HE.out);have HB:=Lib.hid hb;have HX:=Lib.hid (below_alloc (Below.refl w1.heap.size w1) (.cells #[.bool bq,.slice A (toL N).length c,.slice A' (toL D).length c'] 170));have HBX:=Lib.hid (HB.out.trans (HX.out.mono HB.out.size));have HN:=Lib.hid (hn.below HX.out);have HD:=Lib.hid (hd.below HX.out);clear hb hv hn hd;obtain ⟨f1,f2⟩:=HF.out _ _ ⟨HQ.out.1,HQ.out.2.1⟩)
 all_goals first
  | (refine bodyPost_ret (results_tmp2 rfl _ _ _) rfl ?_;refine ⟨?_,HBX.out⟩;show Ending.returned (.tuple #[.int .i64 0,.int .i64 (errQ a.data.toList:Int)])=_;rw [HE.out];rfl)
  | (exfalso;have:=HE.out;omega)
  | (exfalso;simp_all)
theorem refsign_neg (a:ByteArray) (q:Rat) (w:World) (ha:a.size≤270000) (he:errQ a.data.toList=0) (hq:valQ a.data.toList=q) (h0:nm q≠0) (hb:ng q=true) :
  Calls Tryz.prog 110 #[.string a] w fun e w'=>e=.returned (.tuple #[.int .i64 (-1),.int .i64 0])∧Below w.heap.size w w':=by
 have HP:=Lib.hid (rq_any a w ha)
 have hne:((errQ a.data.toList:Int)==0)=true:=by rw [he];rfl
 have HE:=Lib.hid he
 rw [hq] at HP
 have HF:=Lib.hid (fun (b:Bool) (N:Nat) (h:ng q=b∧nm q=N)=>show (((toL N).length:Int)==0)=false∧b=true from ⟨by rw [len_zero,← h.2,decide_eq_false h0],h.1.symm.trans hb⟩)
 clear h0 hb
 clear he hq
 go_enter Tryz.func110,Tryz.ntmps110
 go_wp2_with (go_at_call 155;refine HP.out.mono ?_;rintro e w1 ⟨v,rfl,hv,-,hb⟩;obtain ⟨bq,N,D,A,c,A',c',rfl,hn,hd,HQ⟩:=isQ_open (hv HE.out);have HB:=Lib.hid hb;have HX:=Lib.hid (below_alloc (Below.refl w1.heap.size w1) (.cells #[.bool bq,.slice A (toL N).length c,.slice A' (toL D).length c'] 170));have HBX:=Lib.hid (HB.out.trans (HX.out.mono HB.out.size));have HN:=Lib.hid (hn.below HX.out);have HD:=Lib.hid (hd.below HX.out);clear hb hv hn hd;obtain ⟨f1,f2⟩:=HF.out _ _ ⟨HQ.out.1,HQ.out.2.1⟩;subst f2)
 all_goals first
  | (refine bodyPost_ret (results_tmp2 rfl _ _ _) rfl ?_;exact ⟨rfl,HBX.out⟩)
  | (exfalso;have:=beq_eq_false_iff_ne.1 f1;omega)
  | (exfalso;simp_all)
theorem refsign_pos (a:ByteArray) (q:Rat) (w:World) (ha:a.size≤270000) (he:errQ a.data.toList=0) (hq:valQ a.data.toList=q) (h0:nm q≠0) (hb:ng q=false) :
  Calls Tryz.prog 110 #[.string a] w fun e w'=>e=.returned (.tuple #[.int .i64 1,.int .i64 0])∧Below w.heap.size w w':=by
 have HP:=Lib.hid (rq_any a w ha)
 have hne:((errQ a.data.toList:Int)==0)=true:=by rw [he];rfl
 have HE:=Lib.hid he
 rw [hq] at HP
 have HF:=Lib.hid (fun (b:Bool) (N:Nat) (h:ng q=b∧nm q=N)=>show (((toL N).length:Int)==0)=false∧b=false from ⟨by rw [len_zero,← h.2,decide_eq_false h0],h.1.symm.trans hb⟩)
 clear h0 hb
 clear he hq
 go_enter Tryz.func110,Tryz.ntmps110
 go_wp2_with (go_at_call 155;refine HP.out.mono ?_;rintro e w1 ⟨v,rfl,hv,-,hb⟩;obtain ⟨bq,N,D,A,c,A',c',rfl,hn,hd,HQ⟩:=isQ_open (hv HE.out);have HB:=Lib.hid hb;have HX:=Lib.hid (below_alloc (Below.refl w1.heap.size w1) (.cells #[.bool bq,.slice A (toL N).length c,.slice A' (toL D).length c'] 170));have HBX:=Lib.hid (HB.out.trans (HX.out.mono HB.out.size));have HN:=Lib.hid (hn.below HX.out);have HD:=Lib.hid (hd.below HX.out);clear hb hv hn hd;obtain ⟨f1,f2⟩:=HF.out _ _ ⟨HQ.out.1,HQ.out.2.1⟩;subst f2)
 all_goals first
  | (refine bodyPost_ret (results_tmp2 rfl _ _ _) rfl ?_;exact ⟨rfl,HBX.out⟩)
  | (exfalso;have:=beq_eq_false_iff_ne.1 f1;omega)
  | (exfalso;simp_all)
theorem refSign_err (a:ByteArray) (w:World) (ha:a.size≤270000) (he:errQ a.data.toList≠0) :
  Calls Tryz.prog 110 #[.string a] w fun e w'=>e=.returned (.tuple #[.int .i64 0,.int .i64 (errQ a.data.toList:Int)])∧Below w.heap.size w w':=by
 have HP:=Lib.hid (rq_any a w ha)
 have hne:((errQ a.data.toList:Int)==0)=false:=by rw [beq_eq_false_iff_ne];omega
 have HE:=Lib.hid he
 clear he
 go_enter Tryz.func110,Tryz.ntmps110
 go_wp2_with ((go_at_call 155;refine HP.out.mono ?_;rintro e w1 ⟨v,rfl,-,hz,hb⟩;obtain rfl:=hz HE.out;have HB:=Lib.hid hb;clear hb hz))
 all_goals first
  | (refine bodyPost_ret (results_tmp2 rfl _ _ _) rfl ?_;exact ⟨rfl,below_alloc HB.out _⟩)
  | (exfalso;have:=HE.out;omega)
  | (exfalso;simp_all)
theorem refSign_any (a:ByteArray) (w:World) (ha:a.size≤270000) :
  Calls Tryz.prog 110 #[.string a] w fun e w'=>e=.returned (resI (oneI (fun p=>(sgQ p,0)) a.data.toList))∧Below w.heap.size w w':=by
 unfold oneI
 by_cases he:errQ a.data.toList=0
 ·rw [if_neg (by omega)]
  unfold resI sgQ
  dsimp only
  by_cases h0:nm (valQ a.data.toList)=0
  ·rw [if_pos h0]
   exact refsign_zero a _ w ha he rfl h0
  ·rw [if_neg h0]
   cases hb:ng (valQ a.data.toList) with
   | true=>exact refsign_neg a _ w ha he rfl h0 hb
   | false=>exact refsign_pos a _ w ha he rfl h0 hb
 ·rw [if_pos he]
  exact refSign_err a w ha he
section
variable {a b:ByteArray} (ha:a.size≤270000) (hb:b.size≤270000)
include ha hb
theorem retRPlX:Ret 59 #[.string a,.string b] (resX (plX a b)):=fun w _=>by
 unfold plX
 rw [← resX_ex (plX_t a b)]
 exact refAdd_any a b w ha hb
theorem retRSubX:Ret 61 #[.string a,.string b] (resX (subX a b)):=fun w _=>by
 unfold subX
 rw [← resX_ex (subX_t a b)]
 exact refSub_any a b w ha hb
theorem retRMulX:Ret 149 #[.string a,.string b] (resX (mulX a b)):=fun w _=>by
 unfold mulX
 rw [← resX_ex (mulX_t a b)]
 exact refMul_any a b w ha hb
theorem retRDivX:Ret 160 #[.string a,.string b] (resX (divX a b)):=fun w _=>by
 unfold divX
 rw [← resX_ex (divX_t a b)]
 exact refDiv_any a b w ha hb
theorem retRMaxX:Ret 57 #[.string a,.string b] (resX (maxX a b)):=fun w _=>by
 rw [← maxX_res]
 exact refMax_any a b w ha hb
end
theorem retRSign {a:ByteArray} (ha:a.size≤270000):Ret 110 #[.string a] (.tuple #[.int .i64 (if errQ a.data.toList≠0 then 0 else sgQ (valQ a.data.toList)),.int .i64 (errQ a.data.toList:Int)]):=fun w _=>by
 refine (refSign_any a w ha).mono ?_
 rintro e w' ⟨rfl,h⟩
 refine ⟨?_,h⟩
 unfold oneI resI
 split
 ·rfl
 ·rename_i h0
  rw [show errQ a.data.toList=0 from Classical.byContradiction h0]
theorem retRSign_err {a:ByteArray} (ha:a.size≤270000) (h:errQ a.data.toList≠0):Ret 110 #[.string a] (.tuple #[.int .i64 0,.int .i64 (errQ a.data.toList:Int)]):=by
 have:=retRSign ha
 rwa [if_pos h] at this
theorem retRSign_ok {a:ByteArray} (ha:a.size≤270000) (h:errQ a.data.toList=0):Ret 110 #[.string a] (.tuple #[.int .i64 (sgQ (valQ a.data.toList)),.int .i64 0]):=by
 have:=retRSign ha
 rw [if_neg (by simpa using h),h] at this
 exact this
theorem posE_err {p:ByteArray} (h:errQ p.data.toList≠0):posE p=errQ p.data.toList:=if_pos h
end Go.Proofs.YtigapglmipmbeaaGreatDoor
