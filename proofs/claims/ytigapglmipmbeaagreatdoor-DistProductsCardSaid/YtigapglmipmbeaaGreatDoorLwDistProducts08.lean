/- Products: keys, moments; no program in sight (printed by mkdlaw5.py). The statements' Pick. kit.Has on the bytes of a string; what Product gives (printed by mkdlaw5.py). DistMixes, as a walk (printed by mkdlaw4.py). DistProducts, as a walk (printed by mkdlaw5.py). Opening and shutting an argument that is a loss. Slices of structs with slices in them, in memory: how they read, how they are built, what keeps them. Plain words, no program. Opening arguments: lists of masses, of losses, of strings. Facts of the program that each card asks. -/
import Derived.Test.YtigapglmipmbeaaGreatDoorLwDistProducts01
import Derived.Test.YtigapglmipmbeaaGreatDoorLwDistProducts07
import Derived.Test.YtigapglmipmbeaaGreatDoorRb01
import Derived.Lib.ConvBytes
import Derived.Test.YtigapglmipmbeaaGreatDoorRb03
import Derived.Test.YtigapglmipmbeaaGreatDoorRb10
import Derived.ProofKit
import Derived.OpenShut
import Derived.ShutString
import Derived.ChangeOld
import Derived.ChangeSame
import Derived.Test.YtigapglmipmbeaaGreatDoorProg
import Derived.WalkKit
import Derived.Handy
import Derived.Lib.Hide
import Derived.BigQuiet
import Derived.Maps.OwnSet
import Derived.Maps.StringElems
import Derived.Maps.AppendAt
import Derived.WalkLawsBesides
import Derived.WalkSpells
import Derived.ChangeSlices
import Derived.Deep.Slices
import Derived.Test.YtigapglmipmbeaaGreatDoorLwDistProducts02
import Derived.Lib.SmallJoins
import Derived.Test.YtigapglmipmbeaaGreatDoorCards
import Derived.Test.YtigapglmipmbeaaGreatDoorTie
import Derived.KernelRfl
import Derived.SevenTiedAt
set_option maxRecDepth 100000
set_option maxHeartbeats 16000000
namespace Go.Proofs.YtigapglmipmbeaaGreatDoor
open Lim
theorem parted {c:UInt8}:∀ {u u' v v':List UInt8},c ∉ u→c ∉ u'→u++c::v=u'++c::v'→u=u'∧v=v'
 | [],[],_,_,_,_,h=>⟨rfl,by simpa using h⟩
 | [],x::u',v,v',_,h2,h=>by
  simp only [List.nil_append,List.cons_append,List.cons.injEq] at h
  exact absurd (by rw [h.1];simp) h2
 | x::u,[],v,v',h1,_,h=>by
  simp only [List.nil_append,List.cons_append,List.cons.injEq] at h
  exact absurd (by rw [h.1];simp) h1
 | x::u,y::u',v,v',h1,h2,h=>by
  simp only [List.cons_append,List.cons.injEq] at h
  simp only [List.mem_cons,not_or] at h1 h2
  obtain ⟨e1,e2⟩:=parted h1.2 h2.2 h.2
  exact ⟨by rw [h.1,e1],e2⟩
def barT (k:ByteArray):Bool:=k.data.toList.any (· == 124)
theorem join_inj {A B:List ByteArray} (hA:∀ k∈A,barT k=false):Inj2 joinT A B:=by
 intro a ha b _ a' ha' b' _ h
 have h1:a.data.toList++(124:UInt8)::b.data.toList=a'.data.toList++(124:UInt8)::b'.data.toList:=by
  have h2:=congrArg (fun x:ByteArray=>x.data.toList) h
  simpa [joinT] using h2
 have hn:∀ k∈A,(124:UInt8) ∉ k.data.toList:=fun k hk hm=>by
  have h3:=hA k hk
  unfold barT at h3
  rw [List.any_eq_false] at h3
  exact h3 124 hm (by decide)
 obtain ⟨e1,e2⟩:=parted (hn a ha) (hn a' ha') h1
 have ext:∀ {x y:ByteArray},x.data.toList=y.data.toList→x=y:=fun {x y} e=>by
  cases x;cases y
  simp only at e
  rw [Array.toList_inj.1 e]
 exact ⟨ext e1,ext e2⟩
theorem le_of_sz {k:Nat} {q:Rat} (h:Sz k q):q≤((10 ^ k:Nat):Rat):=by
 have h1:=mul_den_num q
 have h2:((q.num:Int):Rat)≤((10 ^ k:Nat):Rat):=by
  have h3:q.num≤((10 ^ k:Nat):Int):=by
   have:=h.1
   unfold nm at this
   omega
  have h4:(((10 ^ k:Nat):Int):Rat)=((10 ^ k:Nat):Rat):=rfl
  rw [← h4]
  exact Rat.intCast_le_intCast.2 h3
 have h5:(1:Rat)≤(q.den:Rat):=by
  have:=q.den_pos
  have h6:((1:Nat):Rat)≤(q.den:Rat):=Rat.natCast_le_natCast.2 (by omega)
  exact h6
 rcases Rat.le_total (a:=0) (b:=q) with h0 | h0
 ·have h7:=Rat.mul_le_mul_of_nonneg_left h5 h0
  rw [Rat.mul_one] at h7
  exact Rat.le_trans h7 (by rw [h1];exact h2)
 ·exact Rat.le_trans h0 Rat.natCast_nonneg
theorem sum_bound {α:Type} {f:α→Rat} {c:Nat}:∀ {l:List α},(∀ a∈l,f a≤(c:Rat))→sumBy f l≤((l.length*c:Nat):Rat)
 | [],_=>by simp [sumBy]
 | a::l,h=>by
  have h1:=sum_bound (f:=f) (c:=c) (l:=l) fun x hx=>h x (by simp [hx])
  have h2:=h a (by simp)
  have e:(((a::l).length*c:Nat):Rat)=(c:Rat)+((l.length*c:Nat):Rat):=by
   rw [List.length_cons,Nat.succ_mul,Nat.add_comm,Rat.natCast_add]
  rw [e]
  show f a+sumBy f l≤_
  exact Rat.le_trans (Rat.add_le_add_right.2 h2) (Rat.add_le_add_left.2 h1)
theorem pow_le_one' {x:Rat} (h0:0≤x) (h1:x≤1) (n:Nat):x ^ n≤1:=by
 induction n with
 | zero=>rw [Rat.pow_zero];exact Rat.le_refl
 | succ n ih =>
  rw [Rat.pow_succ]
  have:=Rat.mul_le_mul_of_nonneg_right ih h0
  rw [Rat.one_mul] at this
  exact Rat.le_trans this h1
theorem pow_le_pow' {x y:Rat} (h0:0≤x) (h1:x≤y) (n:Nat):x ^ n≤y ^ n:=by
 induction n with
 | zero=>rw [Rat.pow_zero,Rat.pow_zero];exact Rat.le_refl
 | succ n ih =>
  rw [Rat.pow_succ,Rat.pow_succ]
  exact Rat.le_trans (Rat.mul_le_mul_of_nonneg_right ih h0) (Rat.mul_le_mul_of_nonneg_left h1 (Rat.pow_nonneg (Rat.le_trans h0 h1)))
theorem cast_pow' (a n:Nat):((a:Rat)) ^ n=((a ^ n:Nat):Rat):=by
 induction n with
 | zero=>rw [Rat.pow_zero];rfl
 | succ n ih=>rw [Rat.pow_succ,Nat.pow_succ,Rat.natCast_mul,ih]
theorem mom_le {p q:List L2} {a k n:Nat} (hp:Dst a p) (hq:Dst a q) (hin:inX p q=true) (sq:∀ x∈q,Sz k (valX x)):momD (valsD p) (valsD q) n≤((p.length*(10 ^ k) ^ n:Nat):Rat):=by
 rw [momD_vals hq.once]
 refine sum_bound fun m hm=>?_
 obtain ⟨x,hx,_,e2⟩:=atT_mem (inX_iff.1 hin m hm)
 have hv:0 < valX x:=hq.pos hx
 have e3:valQ (atT q m.1).data.toList=valX x:=by rw [e2]
 rw [e3,← inv_pow]
 have hi:0≤(valX x)⁻¹:=Rat.le_of_lt (Rat.inv_pos.2 hv)
 have h1:=pow_le_one' (Rat.le_of_lt (hp.pos hm)) (hp.one hm) (n+1)
 have h2:=pow_le_pow' hi (le_of_sz (sq x hx).inv) n
 rw [cast_pow'] at h2
 have h3:=Rat.mul_le_mul_of_nonneg_right h1 (Rat.pow_nonneg (n:=n) hi)
 rw [Rat.one_mul] at h3
 exact Rat.le_trans h3 h2
theorem inv_den {q:List L2} {k:Nat} (sq:∀ x∈q,Sz k (valX x)):∃ D,0 < D∧D < 10 ^ (k*q.length+1)∧∀ x∈q,HasDen D (valX x)⁻¹ :=
 ⟨denB (fun x=>(valX x)⁻¹) q,denB_pos q,denB_lt fun x hx=>(sq x hx).inv,fun _ hx=>denB_has (f:=fun x:L2=>(valX x)⁻¹) hx⟩
theorem momV_out {p q:List L2} {n:Int} (hp:chkD p=0) (hq:chkD q=0) (h1:1≤n) (h8:n≤8) (hin:inX p q=false):momV p q n=.tuple #[.string ⟨#[]⟩,.bool false,.int .i64 0]:=by
 unfold momV
 rw [chk2_ok hp hq,if_neg (by decide),if_neg (by omega),if_pos hin]
theorem lt_pow_mono {x a b:Nat} (h:x < 10 ^ a) (hab:a≤b):x < 10 ^ b:=Nat.lt_of_lt_of_le h (pow_le hab)
theorem mom_room {a b c D1 D2 M n:Nat} (hn:n≤2) (h1:D1 < 10 ^ a) (h2:D2 < 10 ^ b) (hM:M < 10 ^ (c+1)) (p1:0 < D1) (p2:0 < D2) (hm:c+1+(a*3+b*2)≤maxD):M*(D1 ^ (n+1)*D2 ^ n) < 10 ^ maxD:=by
 have e1:D1 ^ (n+1)≤D1 ^ 3:=Nat.pow_le_pow_right p1 (by omega)
 have e2:D2 ^ n≤D2 ^ 2:=Nat.pow_le_pow_right p2 hn
 have e3:D1 ^ 3≤10 ^ (a*3):=by rw [Nat.pow_mul];exact Nat.pow_le_pow_left (Nat.le_of_lt h1) 3
 have e4:D2 ^ 2≤10 ^ (b*2):=by rw [Nat.pow_mul];exact Nat.pow_le_pow_left (Nat.le_of_lt h2) 2
 have e5:=Nat.mul_le_mul (Nat.le_trans e1 e3) (Nat.le_trans e2 e4)
 rw [← Nat.pow_add] at e5
 have e6:M*(D1 ^ (n+1)*D2 ^ n)≤M*10 ^ (a*3+b*2):=Nat.mul_le_mul_left _ e5
 have e7:M*10 ^ (a*3+b*2) < 10 ^ (c+1)*10 ^ (a*3+b*2):=Nat.mul_lt_mul_of_pos_right hM (Nat.pow_pos (by decide))
 rw [← Nat.pow_add] at e7
 exact Nat.lt_of_le_of_lt e6 (Nat.lt_of_lt_of_le e7 (pow_le hm))
section
variable {p q r s x y:List L2}
theorem bar_keys {p:List L2} (hb:∀ e∈p,barT e.1=false):∀ k∈keysD (valsD p),barT k=false:=fun k hk=>by
 rw [keys_vals] at hk
 obtain ⟨e,he,rfl⟩:=List.mem_map.1 hk
 exact hb e he
theorem prod_keys (hp:Dst 385 p) (hr:Dst 385 r) (hx:IsD (valsD x)) {A B:List ByteArray} (hj:Inj2 joinT A B) (kp:∀ k∈keysD (valsD p),k∈A) (kr:∀ k∈keysD (valsD r),k∈B)
  (ex:∀ j,massD (valsD x) j=massD (pairsD joinT (valsD p) (valsD r)) j) (k:ByteArray):k∈keysD (valsD x)↔∃ a∈keysD (valsD p),∃ b∈keysD (valsD r),k=joinT a b:=by
 rw [← hx.pos_iff,ex]
 constructor
 ·intro h1
  exact keys_pairs.1 (Classical.byContradiction fun h=>by rw [massD_none h] at h1;exact Rat.lt_irrefl h1)
 ·rintro ⟨a,ha,b,hb,rfl⟩
  rw [mass_pairs hj kp kr (kp a ha) (kr b hb)]
  exact Rat.mul_pos ((hp.isD.pos_iff a).2 ha) ((hr.isD.pos_iff b).2 hb)
theorem keys_some (hp:Dst 385 p):∃ a,a∈keysD (valsD p):=by
 rw [keys_vals]
 cases p with
 | nil =>
  have h:=hp.isD.one
  exact absurd h (by decide +kernel)
 | cons a l=>exact ⟨a.1,by simp⟩
theorem inX_prod (hp:Dst 385 p) (hq:Dst 385 q) (hr:Dst 385 r) (hs:Dst 385 s) (hx:IsD (valsD x)) (hy:IsD (valsD y)) (bp:∀ e∈p,barT e.1=false) (bq:∀ e∈q,barT e.1=false)
  (ex:∀ j,massD (valsD x) j=massD (pairsD joinT (valsD p) (valsD r)) j) (ey:∀ j,massD (valsD y) j=massD (pairsD joinT (valsD q) (valsD s)) j):inX x y=(inX p q && inX r s):=by
 have hA:∀ k∈keysD (valsD p)++keysD (valsD q),barT k=false:=fun k hk=>by
  rcases List.mem_append.1 hk with h | h
  ·exact bar_keys bp k h
  ·exact bar_keys bq k h
 have hj:Inj2 joinT (keysD (valsD p)++keysD (valsD q)) (keysD (valsD r)++keysD (valsD s)):=join_inj hA
 have kx:=prod_keys hp hr hx hj (fun k h=>by simp [h]) (fun k h=>by simp [h]) ex
 have ky:=prod_keys hq hs hy hj (fun k h=>by simp [h]) (fun k h=>by simp [h]) ey
 have iff1:∀ {u v:List L2},inX u v=true↔∀ k∈keysD (valsD u),k∈keysD (valsD v):=fun {u v}=>by
  rw [inX_iff,keys_vals,keys_vals]
  constructor
  ·intro h k hk
   obtain ⟨e,he,rfl⟩:=List.mem_map.1 hk
   exact h e he
  ·exact fun h e he=>h e.1 (List.mem_map_of_mem he)
 rw [Bool.eq_iff_iff,Bool.and_eq_true,iff1,iff1,iff1]
 constructor
 ·intro h
  refine ⟨fun a ha=>?_,fun b hb=>?_⟩
  ·obtain ⟨b,hb⟩:=keys_some hr
   obtain ⟨a',ha',b',hb',e⟩:=(ky _).1 (h _ ((kx _).2 ⟨a,ha,b,hb,rfl⟩))
   rw [(hj a (by simp [ha]) b (by simp [hb]) a' (by simp [ha']) b' (by simp [hb']) e).1]
   exact ha'
  ·obtain ⟨a,ha⟩:=keys_some hp
   obtain ⟨a',ha',b',hb',e⟩:=(ky _).1 (h _ ((kx _).2 ⟨a,ha,b,hb,rfl⟩))
   rw [(hj a (by simp [ha]) b (by simp [hb]) a' (by simp [ha']) b' (by simp [hb']) e).2]
   exact hb'
 ·rintro ⟨h1,h2⟩ k hk
  obtain ⟨a,ha,b,hb,rfl⟩:=(kx k).1 hk
  exact (ky _).2 ⟨a,h1 a ha,b,h2 b hb,rfl⟩
theorem mom_short {n:Nat} (hp:Dst 385 p) (hq:Dst 385 q) (lp:p.length≤16) (lq:q.length≤16) (tp:∀ x∈p,Sz 24 (valX x)) (tq:∀ x∈q,Sz 24 (valX x)) (hn:n < 3) (hin:inX p q=true) :
  momV p q ((n+1:Nat):Int)=.tuple #[.string (rT (momD (valsD p) (valsD q) n)),.bool true,.int .i64 0]∧fits (momD (valsD p) (valsD q) n)=true∧momD (valsD p) (valsD q) n≤((10 ^ 50:Nat):Rat):=by
 have hl4:24*q.length+1≤385:=by omega
 obtain ⟨D1,d1,d2,d3⟩:=hp.den
 obtain ⟨D2,e1,e2,e3⟩:=inv_den tq
 have hb:momD (valsD p) (valsD q) n≤((10 ^ 50:Nat):Rat):=by
  refine Rat.le_trans (mom_le hp hq hin tq) (Rat.natCast_le_natCast.2 ?_)
  have h2:(10 ^ 24) ^ n≤(10 ^ 24) ^ 2:=Nat.pow_le_pow_right (by decide) (by omega)
  have h3:=Nat.mul_le_mul lp h2
  exact Nat.le_trans h3 (by decide)
 have hn2:n≤2:=Nat.le_of_lt_succ hn
 have hk:∀ n,n≤2→24*(n+1)+1+(24*n+1)≤maxD:=fun n h=>by unfold maxD;omega
 have e4:=lt_pow_mono e2 hl4
 obtain ⟨r1,r2⟩:=momV_fit (k:=24) (M:=10 ^ 50) hp.ok hq.ok hin (Nat.lt_of_lt_of_le hn (by decide)) tp tq (hk _ hn2) d1 e1 d3 e3 (by decide) (mom_room (a:=385) (b:=385) (c:=50) hn2 d2 e4 (by decide) d1 e1 (by decide)) hb
 exact ⟨r1,r2,hb⟩
theorem mom_both {n:Nat} (hp:Dst 385 p) (hq:Dst 385 q) (hr:Dst 385 r) (hs:Dst 385 s) (hx:Dst 770 x) (hy:Dst 770 y) (lp:p.length≤16) (lq:q.length≤16) (lr:r.length≤16) (ls:s.length≤16)
  (tp:∀ x∈p,Sz 24 (valX x)) (tq:∀ x∈q,Sz 24 (valX x)) (tr:∀ x∈r,Sz 24 (valX x)) (ts:∀ x∈s,Sz 24 (valX x)) (bp:∀ e∈p,barT e.1=false) (bq:∀ e∈q,barT e.1=false)
  (ex:∀ j,massD (valsD x) j=massD (pairsD joinT (valsD p) (valsD r)) j) (ey:∀ j,massD (valsD y) j=massD (pairsD joinT (valsD q) (valsD s)) j) (hn:n < 3) (h1:inX p q=true) (h2:inX r s=true) :
  momV x y ((n+1:Nat):Int)=.tuple #[.string (rT (momD (valsD p) (valsD q) n*momD (valsD r) (valsD s) n)),.bool true,.int .i64 0]∧fits (momD (valsD p) (valsD q) n*momD (valsD r) (valsD s) n)=true:=by
 have hA:∀ k∈keysD (valsD p)++keysD (valsD q),barT k=false:=fun k hk=>by
  rcases List.mem_append.1 hk with h | h
  ·exact bar_keys bp k h
  ·exact bar_keys bq k h
 have hj:Inj2 joinT (keysD (valsD p)++keysD (valsD q)) (keysD (valsD r)++keysD (valsD s)):=join_inj hA
 have ky:=prod_keys hq hs hy.isD hj (fun k h=>by simp [h]) (fun k h=>by simp [h]) ey
 have hin:inX x y=true:=by rw [inX_prod hp hq hr hs hx.isD hy.isD bp bq ex ey,h1,h2];rfl
 have em:momD (valsD x) (valsD y) n=momD (valsD p) (valsD q) n*momD (valsD r) (valsD s) n :=
  mom_prod hp.isD hr.isD hx.isD hj (fun k h=>by simp [h]) (fun k h=>by simp [h]) (fun k h=>by simp [h]) (fun k h=>by simp [h]) ex ey n
 have hl4:24*q.length+1≤385:=by omega
 have hl5:24*s.length+1≤385:=by omega
 obtain ⟨D1,d1,d2,d3⟩:=hx.den
 obtain ⟨E,e1,e2,e3⟩:=inv_den tq
 obtain ⟨F,f1,f2,f3⟩:=inv_den ts
 have hn2:n≤2:=Nat.le_of_lt_succ hn
 have hk:∀ n,n≤2→770*(n+1)+1+(770*n+1)≤maxD:=fun n h=>by unfold maxD;omega
 have e5:=lt_pow_mono e2 hl4
 have f5:=lt_pow_mono f2 hl5
 have e4:=mul_lt_pow e5 f5
 have hd:∀ z∈y,HasDen (E*F) (valX z)⁻¹:=by
  intro z hz
  obtain ⟨a,ha,b,hb,e⟩:=(ky z.1).1 (by rw [keys_vals];exact List.mem_map_of_mem hz)
  have e5:valX z=massD (valsD y) z.1:=(massD_at hy.isD.once (e:=(z.1,valX z)) (vals_mem hz)).symm
  rw [e5,ey,e,mass_pairs hj (fun k h=>by simp [h]) (fun k h=>by simp [h]) (by simp [ha]) (by simp [hb]),inv_mul']
  have ha':=ha
  have hb':=hb
  rw [keys_vals] at ha' hb'
  obtain ⟨u,hu,rfl⟩:=List.mem_map.1 ha'
  obtain ⟨v,hv,rfl⟩:=List.mem_map.1 hb'
  rw [massD_at hq.isD.once (e:=(u.1,valX u)) (vals_mem hu),massD_at hs.isD.once (e:=(v.1,valX v)) (vals_mem hv)]
  exact (e3 u hu).mul (f3 v hv)
 obtain ⟨_,q1,q2⟩:=mom_short hp hq lp lq tp tq hn h1
 obtain ⟨_,q3,q4⟩:=mom_short hr hs lr ls tr ts hn h2
 have g1:0≤momD (valsD p) (valsD q) n:=Rat.le_trans (by decide +kernel) (mom_one hp.isD hq.isD (fun e he=>by
  rw [keys_vals]
  obtain ⟨u,hu,rfl⟩:=List.mem_map.1 he
  exact inX_iff.1 h1 u hu) n)
 have g2:momD (valsD x) (valsD y) n≤((10 ^ 100:Nat):Rat):=by
  rw [em]
  refine Rat.le_trans (Rat.mul_le_mul_of_nonneg_left q4 g1) (Rat.le_trans (Rat.mul_le_mul_of_nonneg_right q2 Rat.natCast_nonneg) ?_)
  rw [← Rat.natCast_mul,← Nat.pow_add]
  exact Rat.le_refl
 obtain ⟨r1,r2⟩:=momV_fit (k:=770) (M:=10 ^ 100) hx.ok hy.ok hin (Nat.lt_of_lt_of_le hn (by decide)) (fun _ h=>hx.sz h) (fun _ h=>hy.sz h) (hk _ hn2) d1 (Nat.mul_pos e1 f1) d3 hd (Nat.pow_pos (by decide)) (mom_room (a:=770) (b:=385+385) (c:=100) hn2 d2 e4 (Nat.pow_lt_pow_right (by decide) (by decide)) d1 (Nat.mul_pos e1 f1) (by decide)) g2
 rw [em] at r1 r2
 exact ⟨r1,r2⟩
theorem prod_moms {k:Int} (hp:Dst 385 p) (hq:Dst 385 q) (hr:Dst 385 r) (hs:Dst 385 s) (hx:Dst 770 x) (hy:Dst 770 y) (lp:p.length≤16) (lq:q.length≤16) (lr:r.length≤16) (ls:s.length≤16)
  (tp:∀ x∈p,Sz 24 (valX x)) (tq:∀ x∈q,Sz 24 (valX x)) (tr:∀ x∈r,Sz 24 (valX x)) (ts:∀ x∈s,Sz 24 (valX x)) (bp:∀ e∈p,barT e.1=false) (bq:∀ e∈q,barT e.1=false)
  (ex:∀ j,massD (valsD x) j=massD (pairsD joinT (valsD p) (valsD r)) j) (ey:∀ j,massD (valsD y) j=massD (pairsD joinT (valsD q) (valsD s)) j) (k0:0≤k) (k3:k < 3) :
  ∃ t1 t2 t3:ByteArray,momV p q (1+k)=.tuple #[.string t1,.bool (inX p q),.int .i64 0]∧momV r s (1+k)=.tuple #[.string t2,.bool (inX r s),.int .i64 0] ∧
   momV x y (1+k)=.tuple #[.string t3,.bool (inX p q && inX r s),.int .i64 0] ∧
   ((inX p q && inX r s)=true→∃ m1 m2:Rat,IsT t1 m1∧IsT t2 m2∧1≤m1∧1≤m2∧fits (m1*m2)=true∧t3=rT (m1*m2)):=by
 obtain ⟨n,rfl⟩:∃ n:Nat,k=(n:Int):=⟨k.toNat,by omega⟩
 have hn:n < 3:=by omega
 have e1:(1+(n:Int))=((n+1:Nat):Int):=by omega
 have hin:=inX_prod hp hq hr hs hx.isD hy.isD bp bq ex ey
 rw [e1]
 have sub:∀ {u v:List L2},inX u v=true→∀ e∈valsD u,e.1∈keysD (valsD v):=fun {u v} h e he=>by
  rw [keys_vals]
  obtain ⟨z,hz,rfl⟩:=List.mem_map.1 he
  exact inX_iff.1 h z hz
 cases h1:inX p q with
 | false =>
  rw [h1] at hin
  have v1:=momV_out (n:=((n+1:Nat):Int)) hp.ok hq.ok (by omega) (by omega) h1
  have v3:=momV_out (n:=((n+1:Nat):Int)) hx.ok hy.ok (by omega) (by omega) hin
  cases h2:inX r s with
  | false=>exact ⟨_,_,_,v1,momV_out hr.ok hs.ok (by omega) (by omega) h2,v3,fun h=>by cases h⟩
  | true=>exact ⟨_,_,_,v1,(mom_short hr hs lr ls tr ts hn h2).1,v3,fun h=>by cases h⟩
 | true =>
  rw [h1] at hin
  obtain ⟨v1,w1,_⟩:=mom_short hp hq lp lq tp tq hn h1
  cases h2:inX r s with
  | false =>
   rw [h2] at hin
   exact ⟨_,_,_,v1,momV_out hr.ok hs.ok (by omega) (by omega) h2,momV_out hx.ok hy.ok (by omega) (by omega) hin,fun h=>by cases h⟩
  | true =>
   obtain ⟨v2,w2,_⟩:=mom_short hr hs lr ls tr ts hn h2
   obtain ⟨v3,w3⟩:=mom_both hp hq hr hs hx hy lp lq lr ls tp tq tr ts bp bq ex ey hn h1 h2
   exact ⟨_,_,_,v1,v2,v3,fun _=>⟨_,_,isT_rT w1,isT_rT w2,mom_one hp.isD hq.isD (sub h1) n,mom_one hr.isD hs.isD (sub h2) n,w3,rfl⟩⟩
end
end Go.Proofs.YtigapglmipmbeaaGreatDoor
namespace Go.Proofs.YtigapglmipmbeaaGreatDoor
open Go.RowKit
theorem pick_any (x n:Int) (w:World) (hn:0 < n) (_hx:-9223372036854775808≤x) (_hx2:x≤9223372036854775807) (hn2:n≤1000000) :
  Calls Tryz.prog 54 #[.int .i64 x,.int .i64 n] w fun e w'=>∃ k:Int,e=.returned (.int .i64 k)∧0≤k∧k < n∧w'=w:=by
 have h1:=Int.tmod_lt_of_pos x hn
 have h2:=Int.lt_tmod_of_pos x hn
 go_enter Tryz.func54,Tryz.ntmps54
 by_cases h:x.tmod n < 0
 ·go_wp2
  go_ret
  exact ⟨_,rfl,by omega,by omega,rfl⟩
 ·go_wp2
  go_ret
  exact ⟨_,rfl,by omega,by omega,rfl⟩
end Go.Proofs.YtigapglmipmbeaaGreatDoor
namespace Go.Proofs.YtigapglmipmbeaaGreatDoor
open Go.RowKit Go.Shelf
open Lim
attribute [local go_sem] Oper.semAt_some
theorem below_bytes (w:World) (e:TypeId) (s:ByteArray):Below w.heap.size w (Lib.bytesWorld w e s) :=
 ⟨by simp [Lib.bytesWorld,World.freeze];rfl,by simp [Lib.bytesWorld,World.freeze],by simp [Lib.bytesWorld,World.freeze];rfl,by rw [Lib.bytesWorld_size];omega,fun k hk=>Lib.bytesWorld_at_old w e s k hk⟩
theorem bar_hit {s:ByteArray} {k:Nat} (hk:k < s.size) (h:s.data.toList.getD k 0=124):barT s=true:=by
 unfold barT
 rw [List.any_eq_true]
 have hk2:k < s.data.toList.length:=by simpa using hk
 rw [List.getD_eq_getElem?_getD,List.getElem?_eq_getElem hk2] at h
 exact ⟨_,List.getElem_mem hk2,by simpa using h⟩
theorem bar_none {s:ByteArray} (h:∀ k,k < s.size→s.data.toList.getD k 0≠124):barT s=false:=by
 unfold barT
 rw [List.any_eq_false]
 intro x hx
 obtain ⟨k,hk,rfl⟩:=List.getElem_of_mem hx
 have h1:=h k (by simpa using hk)
 rw [List.getD_eq_getElem?_getD,List.getElem?_eq_getElem hk] at h1
 simpa using h1
theorem hasbar_any (s:ByteArray) (b c:Nat) (w:World) (hs:s.size≤maxLen) (hc:∀ k,k < s.size→w.cell? ⟨b,k,none⟩=some (.int .u8 (s.data.toList.getD k 0).toNat)) :
  Calls Tryz.prog 105 #[.slice (some ⟨b,0,none⟩) s.size c,.int .u8 124] w fun e w'=>e=.returned (.bool (barT s))∧w'=w:=by
 unfold maxLen at hs
 have HC:=Lib.hid hc
 clear hc
 go_enter Tryz.func105,Tryz.ntmps105
 go_wp2
 go_loopw [5] (fun v5 wr=>w=wr∧∃ k:Nat,k≤s.size∧v5=.int .i64 (k:Int)∧Hid (∀ j,j < k→s.data.toList.getD j 0≠124)) (fun v5 _=>s.size - (intOf v5).toNat)
 case atStart=>exact ⟨rfl,0,Nat.zero_le _,rfl,Lib.hid (fun j h=>absurd h (by omega))⟩
 case round =>
  obtain ⟨rfl,k,hk,rfl,HE⟩:=hrel
  by_cases hlt:k < s.size
  ·have c0:=HC.out k hlt
   have hlt':(k:Int) < (s.size:Int):=by omega
   have HLT:=Lib.hid hlt
   clear hlt
   by_cases he:s.data.toList.getD k 0=124
   ·have HR:=Lib.hid (bar_hit HLT.out he)
    rw [he] at c0
    clear he
    go_wp2
    go_ret
    rw [HR.out]
    exact ⟨rfl,rfl⟩
   ·have HN:=Lib.hid he
    have hne:(((s.data.toList.getD k 0).toNat:Int) == 124)=false:=by
     rw [beq_eq_false_iff_ne]
     intro h
     exact he (UInt8.toNat_inj.1 (show (s.data.toList.getD k 0).toNat=(124:UInt8).toNat by
      have:(124:UInt8).toNat=124:=rfl
      omega))
    have hlo:(s.data.toList.getD k 0).toNat < 256:=UInt8.toNat_lt _
    generalize (s.data.toList.getD k 0).toNat=m at c0 hne hlo
    have hne':decide ((m:Int)=124)=false:=by
     rw [beq_eq_false_iff_ne] at hne
     exact decide_eq_false hne
    clear he
    go_wp2
    go_roundw
    case rel=>exact ⟨trivial,k+1,HLT.out,by go_num,Lib.hid (fun j hj=>by
     rcases Nat.lt_or_ge j k with h | h
     ·exact HE.out j h
     ·obtain rfl:j=k:=by omega
      exact HN.out)⟩
    case measure=>have:=HLT.out;simp [intOf];omega
  ·have hlt':¬ (k:Int) < (s.size:Int):=by omega
   have HR:=Lib.hid (bar_none fun j hj=>HE.out j (by omega))
   clear hlt
   go_wp2
   go_ret
   rw [HR.out]
   exact ⟨rfl,rfl⟩
theorem seqX_len:∀ {l:List (ByteArray × XE)} {m:List L2},seqX l=.ok m→m.length=l.length
 | [],m,h=>by cases h;rfl
 | a::l,m,h=>by
  unfold seqX at h
  split at h
  ·cases h
  ·split at h
   ·cases h
   ·rename_i r hr
    cases h
    rw [List.length_cons,List.length_cons,seqX_len hr]
theorem prod_short {a b d:List L2} (h:prodX a b=.ok d) (ka:∀ x∈a,x.1.size≤100000) (kb:∀ x∈b,x.1.size≤100000) (hl:a.length*b.length≤1000):Short d∧d.length≤1000:=by
 unfold prodX at h
 split at h
 ·cases h
 ·split at h
  ·cases h
  ·split at h
   ·cases h
   ·rename_i l hl2
    refine make_short h (pairX_short hl2 ka kb) ?_
    rw [pairX_seq] at hl2
    rw [seqX_len hl2,pairsY_length]
    exact hl
end Go.Proofs.YtigapglmipmbeaaGreatDoor
namespace Go.Proofs.YtigapglmipmbeaaGreatDoor
open Go.RowKit Go.Shelf
open Lim
attribute [local go_sem] Oper.semAt_some wide_fn
end Go.Proofs.YtigapglmipmbeaaGreatDoor
namespace Go.Proofs.YtigapglmipmbeaaGreatDoor
open Go.RowKit Go.Shelf
open Lim
attribute [local go_sem] Oper.semAt_some wide_fn
theorem undef_ne {b:Bool} (h:some undef=some (Value.bool b)):False:=by simp [undef] at h
def barL (ls:List L2):Prop:=∀ x∈ls,barT x.1=false
theorem barL_of {ls:List L2} (h:∀ (j:Nat) x,ls[j]?=some x→barT x.1=false):barL ls:=fun x hx=>by
 obtain ⟨j,hj⟩:=List.getElem?_of_mem hx
 exact h j x hj
theorem distProducts_any (a b c d:List L2) (va vb vc vd:Value) (f g:ByteArray) (n:Int) (w:World) (ha:LRowW w va a) (hb:LRowW w vb b) (hc:LRowW w vc c) (hd:LRowW w vd d) (hf:f.size≤maxLen) (hg:g.size≤maxLen) (hn1:-9223372036854775808≤n) (hn2:n≤9223372036854775807) (hr:Res w) :
  Calls Tryz.prog 18 #[va,vb,vc,vd,.string f,.string g,.int .i64 n] w fun e w'=>e=.returned (.bool true)∧Below w.heap.size w w':=by
 have N0:=Lib.hid (NW.refl hr)
 have HLV:=Lib.hid (fun (w:World) hr=>dlives_any w hr)
 have HMD:=Lib.hid (fun (W:World) (hW:NW w W)=>made8_any [a,b,c,d] (.slice (some ⟨W.heap.size,0,none⟩) 4 4) (W.alloc (.cells #[va,vb,vc,vd] 22))
  (LLRow.ofBlk (vs:=[(va,a),(vb,b),(vc,c),(vd,d)]) (Blk.new W 22 #[va,vb,vc,vd]) rfl (by simp) (fun x hx=>by
   have hbw:=below_alloc hW.below (.cells #[va,vb,vc,vd] 22)
   simp only [List.mem_cons,List.not_mem_nil,or_false] at hx
   rcases hx with rfl | rfl | rfl | rfl
   ·exact ha.below hbw
   ·exact hb.below hbw
   ·exact hc.below hbw
   ·exact hd.below hbw
  )) (by simp) (hW.alloc _).res rdmake_any)
 obtain ⟨A0,c0,rfl,_,_⟩:=id ha
 obtain ⟨A1,c1,rfl,_,_⟩:=id hb
 obtain ⟨A2,c2,rfl,_,_⟩:=id hc
 obtain ⟨A3,c3,rfl,_,_⟩:=id hd
 clear ha hb hc hd hr
 have TK0:True:=trivial
 have TK1:True:=trivial
 cases hm:madeD 16 12 24 [a,b,c,d] with
 | none =>
  rw [hm] at HMD
  change Hid (∀ W (_:NW w W),Calls _ _ _ _ fun e w'=>e=.returned (.tuple #[.slice none 0 0,.bool false])∧_) at HMD
  clear hm
  go_enter Tryz.func18,Tryz.ntmps18
  go_wp2_with ((clear TK0;go_at_call 21;refine (HLV.out _ N0.out.res).mono ?_;rintro e w1 ⟨rfl,hb⟩;have N1:=Lib.hid (N0.out.later hb);clear hb))
  go_wp2_with ((clear TK1;go_at_call 97;refine (HMD.out _ N1.out).mono ?_;rintro e w2 ⟨rfl,hb⟩;have N2:=Lib.hid ((N1.out.alloc _).later hb);clear hb))
  go_wp2
  go_ret
  exact ⟨rfl,N2.out.below⟩
 | some outs =>
  obtain ⟨hol,hod⟩:=Made8.of hm
  obtain ⟨l0,l1,l2,l3,rfl⟩:∃ l0 l1 l2 l3,outs=[l0,l1,l2,l3]:=by
   match outs,hol with
   | [x0,x1,x2,x3],_=>exact ⟨x0,x1,x2,x3,rfl⟩
  rw [hm] at HMD
  change Hid (∀ W (_:NW w W),Calls _ _ _ _ fun e w'=>(∃ u,e=.returned (.tuple #[u,.bool true])∧LLRow w' u [l0,l1,l2,l3])∧_) at HMD
  have M0:=hod l0 (by simp)
  have M1:=hod l1 (by simp)
  have M2:=hod l2 (by simp)
  have M3:=hod l3 (by simp)
  clear hm hol hod
  have HNF:=Lib.hid (fun (W:World) hr=>dnumber_any f W hf hr)
  have HNG:=Lib.hid (fun (W:World) hr=>dnumber_any g W hg hr)
  have HPK:=Lib.hid (fun (W:World)=>pick_any n 3 W (by omega) hn1 hn2 (by omega))
  clear hn1 hn2
  have TK2:True:=trivial
  have TK3:True:=trivial
  cases hnf:numberB f with
  | false =>
   rw [hnf] at HNF
   clear hnf M0 M1 M2 M3
   go_enter Tryz.func18,Tryz.ntmps18
   go_wp2_with ((clear TK0;go_at_call 21;refine (HLV.out _ N0.out.res).mono ?_;rintro e w1 ⟨rfl,hb⟩;have N1:=Lib.hid (N0.out.later hb);clear hb))
   go_wp2_with ((clear TK1;go_at_call 97;refine (HMD.out _ N1.out).mono ?_;rintro e w2 ⟨⟨u,rfl,hl⟩,hb⟩;obtain ⟨bb,cc,rfl,hbb,_,hcell⟩:=hl;have HCL:=Lib.hid (And.intro hbb hcell);have N2:=Lib.hid ((N1.out.alloc _).later hb);clear hb hbb hcell))
   obtain ⟨B0,k0,y0,rr⟩:=LLRow.nth (j:=0) (l:=l0) HCL.out.1 HCL.out.2 rfl
   have R0:=Lib.hid rr
   clear rr
   obtain ⟨B1,k1,y1,rr⟩:=LLRow.nth (j:=1) (l:=l1) HCL.out.1 HCL.out.2 rfl
   have R1:=Lib.hid rr
   clear rr
   obtain ⟨B2,k2,y2,rr⟩:=LLRow.nth (j:=2) (l:=l2) HCL.out.1 HCL.out.2 rfl
   have R2:=Lib.hid rr
   clear rr
   obtain ⟨B3,k3,y3,rr⟩:=LLRow.nth (j:=3) (l:=l3) HCL.out.1 HCL.out.2 rfl
   have R3:=Lib.hid rr
   clear rr
   have RS:=Lib.hid (fun z:LaterW w2=>N2.out.res.below z.h)
   clear HCL
   go_wp2_with ((clear TK2;go_at_call 98;refine (HNF.out _ (RS.out ⟨w2,Below.refl _ _⟩)).mono ?_;rintro e w9 ⟨rfl,hb9⟩;obtain ⟨z0,rfl⟩:=LaterW.step ⟨w2,Below.refl _ _⟩ hb9;clear hb9))
   go_wp2
   go_ret
   exact ⟨rfl,(N2.out.later z0.h).below⟩
  | true =>
   obtain ⟨fz,fe,fp⟩:=numberB_ok hnf
   have fs:=sz_of_text fe (k:=24) (by rw [← size_list];exact fz)
   rw [hnf] at HNF
   clear hnf
   cases hng:numberB g with
   | false =>
    rw [hng] at HNG
    clear hng M0 M1 M2 M3 fz fe fp fs
    go_enter Tryz.func18,Tryz.ntmps18
    go_wp2_with ((clear TK0;go_at_call 21;refine (HLV.out _ N0.out.res).mono ?_;rintro e w1 ⟨rfl,hb⟩;have N1:=Lib.hid (N0.out.later hb);clear hb))
    go_wp2_with ((clear TK1;go_at_call 97;refine (HMD.out _ N1.out).mono ?_;rintro e w2 ⟨⟨u,rfl,hl⟩,hb⟩;obtain ⟨bb,cc,rfl,hbb,_,hcell⟩:=hl;have HCL:=Lib.hid (And.intro hbb hcell);have N2:=Lib.hid ((N1.out.alloc _).later hb);clear hb hbb hcell))
    obtain ⟨B0,k0,y0,rr⟩:=LLRow.nth (j:=0) (l:=l0) HCL.out.1 HCL.out.2 rfl
    have R0:=Lib.hid rr
    clear rr
    obtain ⟨B1,k1,y1,rr⟩:=LLRow.nth (j:=1) (l:=l1) HCL.out.1 HCL.out.2 rfl
    have R1:=Lib.hid rr
    clear rr
    obtain ⟨B2,k2,y2,rr⟩:=LLRow.nth (j:=2) (l:=l2) HCL.out.1 HCL.out.2 rfl
    have R2:=Lib.hid rr
    clear rr
    obtain ⟨B3,k3,y3,rr⟩:=LLRow.nth (j:=3) (l:=l3) HCL.out.1 HCL.out.2 rfl
    have R3:=Lib.hid rr
    clear rr
    have RS:=Lib.hid (fun z:LaterW w2=>N2.out.res.below z.h)
    clear HCL
    go_wp2_with ((clear TK2;go_at_call 98;refine (HNF.out _ (RS.out ⟨w2,Below.refl _ _⟩)).mono ?_;rintro e w9 ⟨rfl,hb9⟩;obtain ⟨z0,rfl⟩:=LaterW.step ⟨w2,Below.refl _ _⟩ hb9;clear hb9))
    go_wp2_with ((clear TK3;go_at_call 98;refine (HNG.out _ (RS.out z0)).mono ?_;rintro e w9 ⟨rfl,hb9⟩;obtain ⟨z1,rfl⟩:=LaterW.step z0 hb9;clear hb9))
    go_wp2
    go_ret
    exact ⟨rfl,(N2.out.later z1.h).below⟩
   | true =>
    obtain ⟨gz,ge,gp⟩:=numberB_ok hng
    have gs:=sz_of_text ge (k:=24) (by rw [← size_list];exact gz)
    rw [hng] at HNG
    clear hng
    unfold maxLen at hf hg
    by_cases f12:f.size≤12
    ·have b1:decide (12 < (f.size:Int))=false:=decide_eq_false (by omega)
     have b1n:decide (12 < f.size)=false:=decide_eq_false (by omega)
     by_cases g12:g.size≤12
     ·have b2:decide (12 < (g.size:Int))=false:=decide_eq_false (by omega)
      have b2n:decide (12 < g.size)=false:=decide_eq_false (by omega)
      have HFG:=Lib.hid (And.intro (And.intro fe (And.intro fp fs)) (And.intro ge (And.intro gp gs)))
      have HFS:=Lib.hid (And.intro f12 g12)
      clear fz fe fp fs gz ge gp gs f12 g12
      have M0:=Lib.hid M0
      have M1:=Lib.hid M1
      have M2:=Lib.hid M2
      have M3:=Lib.hid M3
      refine (callsIn_wide (n:=6)).1 ?_
      have h1:1≤6:=by omega
      have hmx:Tryz.prog.follows .mixedOrders=true:=by kernel_rfl
      refine callsIn_of_wp Tryz.func18 rfl trivial ?_ rfl
      simp only [Tryz.ntmps18,List.size_toArray,List.length_cons,List.length_nil,Nat.reduceAdd,Nat.reduceSub,Array.replicate_succ,Array.replicate_zero,List.push_toArray,List.append_toArray,List.nil_append,List.cons_append]
      gi_wp2_with ((clear TK0;gi_at_call 21;refine (callsIn_wide.2 (HLV.out _ N0.out.res)).mono ?_;rintro e w1 ⟨rfl,hb⟩;have N1:=Lib.hid (N0.out.later hb);clear hb))
      gi_wp2_with ((clear TK1;gi_at_call 97;refine (callsIn_wide.2 (HMD.out _ N1.out)).mono ?_;rintro e w2 ⟨⟨u,rfl,hl⟩,hb⟩;obtain ⟨bb,cc,rfl,hbb,_,hcell⟩:=hl;have HCL:=Lib.hid (And.intro hbb hcell);have N2:=Lib.hid ((N1.out.alloc _).later hb);clear hb hbb hcell))
      obtain ⟨B0,k0,y0,rr⟩:=LLRow.nth (j:=0) (l:=l0) HCL.out.1 HCL.out.2 rfl
      have R0:=Lib.hid rr
      clear rr
      obtain ⟨B1,k1,y1,rr⟩:=LLRow.nth (j:=1) (l:=l1) HCL.out.1 HCL.out.2 rfl
      have R1:=Lib.hid rr
      clear rr
      obtain ⟨B2,k2,y2,rr⟩:=LLRow.nth (j:=2) (l:=l2) HCL.out.1 HCL.out.2 rfl
      have R2:=Lib.hid rr
      clear rr
      obtain ⟨B3,k3,y3,rr⟩:=LLRow.nth (j:=3) (l:=l3) HCL.out.1 HCL.out.2 rfl
      have R3:=Lib.hid rr
      clear rr
      have RS:=Lib.hid (fun z:LaterW w2=>N2.out.res.below z.h)
      have HBB:=Lib.hid HCL.out.1
      have HCM:=HCL
      clear HCL
      gi_wp2_with ((clear TK2;gi_at_call 98;refine (callsIn_wide.2 (HNF.out _ (RS.out ⟨w2,Below.refl _ _⟩))).mono ?_;rintro e w9 ⟨rfl,hb9⟩;obtain ⟨z0,rfl⟩:=LaterW.step ⟨w2,Below.refl _ _⟩ hb9;clear hb9))
      gi_wp2_with ((clear TK3;gi_at_call 98;refine (callsIn_wide.2 (HNG.out _ (RS.out z0))).mono ?_;rintro e w9 ⟨rfl,hb9⟩;obtain ⟨z1,rfl⟩:=LaterW.step z0 hb9;clear hb9))
      gi_wp2
      gi_loopw [17] (fun v17 wr=>∃ (i:Nat) (z:LaterW w2),i≤4∧v17=.int .i64 (i:Int)∧Hid (∀ (j:Nat) ls,j < i→[l0,l1,l2,l3][j]?=some ls→barL ls)∧wr=z.W) (fun v17 _=>4 - (intOf v17).toNat)
      case atStart=>exact ⟨0,z1,Nat.zero_le _,rfl,Lib.hid (fun j ls h=>absurd h (by omega)),rfl⟩
      case round =>
       clear z0 z1
       obtain ⟨i,z,hi,rfl,HE,rfl⟩:=hrel
       by_cases hlt:i < 4
       ·obtain ⟨ls,hls⟩:∃ ls,[l0,l1,l2,l3][i]?=some ls:=⟨_,List.getElem?_eq_getElem (by simpa using hlt)⟩
        obtain ⟨A,ck,yi,rr⟩:=LLRow.nth HCM.out.1 HCM.out.2 hls
        have HR:=Lib.hid (rr ⟨w2,Below.refl _ _⟩)
        clear rr
        have HM:Made8 ls:=by
         have:=List.mem_of_getElem? hls
         simp only [List.mem_cons,List.not_mem_nil,or_false] at this
         rcases this with rfl | rfl | rfl | rfl
         ·exact M0.out
         ·exact M1.out
         ·exact M2.out
         ·exact M3.out
        have hl16:=HM.len
        have HM:=Lib.hid HM
        have hlt':(i:Int) < 4:=by omega
        have HLS:=Lib.hid (And.intro hls hlt)
        clear hls hlt
        by_cases h6:ls.length≤6
        ·have d1:decide (6 < (ls.length:Int))=false:=decide_eq_false (by omega)
         have d1n:decide (6 < ls.length)=false:=decide_eq_false (by omega)
         gi_wp2
         gi_loopw [18] (fun v18 wq=>∃ (k:Nat) (z:LaterW w2),k≤ls.length∧v18=.int .i64 (k:Int)∧Hid (∀ (j:Nat) x,j < k→ls[j]?=some x→barT x.1=false)∧wq=z.W) (fun v18 _=>ls.length - (intOf v18).toNat)
         case atStart=>exact ⟨0,z,Nat.zero_le _,rfl,Lib.hid (fun j x h=>absurd h (by omega)),rfl⟩
         case round =>
          clear z
          obtain ⟨k,z,hk,rfl,HF,rfl⟩:=hrel
          by_cases hk2:k < ls.length
          ·obtain ⟨x,hx⟩:∃ x,ls[k]?=some x:=⟨_,List.getElem?_eq_getElem hk2⟩
           obtain ⟨b9,o9,rfl,q0,q1,_⟩:=LRowW.wide2 HR.out hx
           have hk2':(k:Int) < (ls.length:Int):=by omega
           have HXS:=Lib.hid (show x.1.size≤maxLen from Nat.le_trans (HM.out.key x (List.mem_of_getElem? hx)) (by decide))
           have htx:=HM.out.txt x (List.mem_of_getElem? hx)
           have HX:=Lib.hid (And.intro hx hk2)
           clear hx hk2
           have kc:=fun (w:World) (s:ByteArray)=>Lib.run_convert_string_bytes (P:=Tryz.prog) w 9 123 5 s Tryz.underlying9 Tryz.underlying123 Tryz.underlying5
           obtain ⟨xk,xt⟩:=x
           dsimp only at HXS htx q0 q1
           cases hb:barT xk with
           | true =>
            gi_wp2_with (gi_at_call 105;refine (callsIn_wide.2 (hasbar_any _ _ _ _ HXS.out (fun j hj=>Lib.bytesWorld_cell _ _ _ j hj))).mono ?_;rintro e w9 ⟨rfl,hw⟩;obtain ⟨z9,rfl⟩:=LaterW.step z (show Below z.W.heap.size z.W w9 by rw [hw];exact below_bytes _ _ _);clear hw;rw [hb])
            gi_wp2
            refine bodyPost_ret (results_tmp rfl _ _ _) rfl ?_
            exact ⟨rfl,(N2.out.later z9.h).below⟩
           | false =>
            have HBF:=Lib.hid hb
            by_cases t12:xt.size≤12
            ·have t1:decide (12 < (xt.size:Int))=false:=decide_eq_false (by omega)
             have t1n:decide (12 < xt.size)=false:=decide_eq_false (by omega)
             gi_wp2_with (gi_at_call 105;refine (callsIn_wide.2 (hasbar_any _ _ _ _ HXS.out (fun j hj=>Lib.bytesWorld_cell _ _ _ j hj))).mono ?_;rintro e w9 ⟨rfl,hw⟩;obtain ⟨z9,rfl⟩:=LaterW.step z (show Below z.W.heap.size z.W w9 by rw [hw];exact below_bytes _ _ _);clear hw;rw [hb])
             gi_wp2
             go_roundw
             case rel=>exact ⟨k+1,z9,HX.out.2,by go_num,Lib.hid (fun j y hj hxj=>by
              rcases Nat.lt_or_ge j k with h | h
              ·exact HF.out j y h hxj
              ·obtain rfl:j=k:=by omega
               rw [HX.out.1] at hxj
               cases hxj
               exact HBF.out),rfl⟩
             case measure=>have:=HX.out.2;simp [intOf];omega
            ·have t1:decide (12 < (xt.size:Int))=true:=decide_eq_true (by omega)
             have t1n:decide (12 < xt.size)=true:=decide_eq_true (by omega)
             gi_wp2_with (gi_at_call 105;refine (callsIn_wide.2 (hasbar_any _ _ _ _ HXS.out (fun j hj=>Lib.bytesWorld_cell _ _ _ j hj))).mono ?_;rintro e w9 ⟨rfl,hw⟩;obtain ⟨z9,rfl⟩:=LaterW.step z (show Below z.W.heap.size z.W w9 by rw [hw];exact below_bytes _ _ _);clear hw;rw [hb])
             gi_wp2
             refine bodyPost_ret (results_tmp rfl _ _ _) rfl ?_
             exact ⟨rfl,(N2.out.later z9.h).below⟩
          ·have hk2':¬ (k:Int) < (ls.length:Int):=by omega
           have HRR:=Lib.hid (barL_of fun j x hx=>HF.out j x (by have:=(List.getElem?_eq_some_iff.1 hx).1;omega) hx)
           clear hk2
           gi_wp2
           go_roundw
           case rel=>exact ⟨i+1,z,HLS.out.2,by go_num,Lib.hid (fun j l hj hlj=>by
            rcases Nat.lt_or_ge j i with h | h
            ·exact HE.out j l h hlj
            ·obtain rfl:j=i:=by omega
             rw [HLS.out.1] at hlj
             cases hlj
             exact HRR.out),rfl⟩
           case measure=>have:=HLS.out.2;simp [intOf];omega
        ·have d1:decide (6 < (ls.length:Int))=true:=decide_eq_true (by omega)
         have d1n:decide (6 < ls.length)=true:=decide_eq_true (by omega)
         gi_wp2
         refine bodyPost_ret (results_tmp rfl _ _ _) rfl ?_
         exact ⟨rfl,(N2.out.later z.h).below⟩
       ·have hlt':¬ (i:Int) < 4:=by omega
        obtain rfl:i=4:=by omega
        have HB0:=HE.out 0 l0 (by omega) rfl
        have HB1:=HE.out 1 l1 (by omega) rfl
        have HB2:=HE.out 2 l2 (by omega) rfl
        have HB3:=HE.out 3 l3 (by omega) rfl
        clear HE hlt
        obtain ⟨⟨fe,fp,fs⟩,ge,gp,gs⟩:=HFG.out
        have hsz:∀ {l:List L2},Made8 l→∀ x∈l,Sz 24 (valX x):=fun {l} h x hx=>sz_of_text (h.dst.okV x hx) (by rw [← size_list];exact h.txt x hx)
        have hkey:∀ {l:List L2},Made8 l→∀ x∈l,x.1.size≤100000:=fun {l} h x hx=>Nat.le_trans (h.key x hx) (by omega)
        have hll:∀ {l m:List L2},Made8 l→Made8 m→l.length*m.length≤256:=fun {l m} h1 h2=>Nat.mul_le_mul h1.len h2.len
        obtain ⟨x,ex,dx,mx⟩:=prod_dst M0.out.dst M2.out.dst (Nat.le_trans (hll M0.out M2.out) (by omega)) (by decide)
        obtain ⟨y,ey,dy,my⟩:=prod_dst M1.out.dst M3.out.dst (Nat.le_trans (hll M1.out M3.out) (by omega)) (by decide)
        obtain ⟨sx,lx⟩:=prod_short ex (hkey M0.out) (hkey M2.out) (Nat.le_trans (hll M0.out M2.out) (by omega))
        obtain ⟨sy,ly⟩:=prod_short ey (hkey M1.out) (hkey M3.out) (Nat.le_trans (hll M1.out M3.out) (by omega))
        have HXC:=Lib.hid (fun u v W (hu:LRow W u l0) (hv:LRow W v l2) (hr:Res W)=>dprod_any l0 l2 u v W hu hv M0.out.short M2.out.short (hkey M0.out) (hkey M2.out) (Nat.le_trans (hll M0.out M2.out) (by omega)) hr)
        have HYC:=Lib.hid (fun u v W (hu:LRow W u l1) (hv:LRow W v l3) (hr:Res W)=>dprod_any l1 l3 u v W hu hv M1.out.short M3.out.short (hkey M1.out) (hkey M3.out) (Nat.le_trans (hll M1.out M3.out) (by omega)) hr)
        rw [ex] at HXC
        rw [ey] at HYC
        change Hid (∀ u v W (_:LRow W u l0) (_:LRow W v l2) (_:Res W),Calls _ _ _ _ fun e w'=>(∃ u,e=.returned (.tuple #[u,.int .i64 0])∧OwnM _ w' u x)∧_) at HXC
        change Hid (∀ u v W (_:LRow W u l1) (_:LRow W v l3) (_:Res W),Calls _ _ _ _ fun e w'=>(∃ u,e=.returned (.tuple #[u,.int .i64 0])∧OwnM _ w' u y)∧_) at HYC
        have ffg:fits (valQ f.data.toList*valQ g.data.toList)=true:=fits_sz.2 ((fs.mul gs).mono (by decide))
        have DU:=fac_delta M0.out.dst M1.out.dst fe fp fs (by decide)
        have DV:=fac_delta M2.out.dst M3.out.dst ge gp gs (by decide)
        have DW:=deltaX_fit dx dy (f:=rT (valQ f.data.toList*valQ g.data.toList)) (err_rT ffg) (by rw [val_rT ffg];exact Rat.mul_nonneg fp gp) (by rw [val_rT ffg];exact fs.mul gs) (by decide) (by decide)
        rw [val_rT ffg] at DW
        have TW:=isT_rT DW.2
        have HDU:=Lib.hid (fun u v W (hu:LRow W u l0) (hv:LRow W v l1) (hr:Res W)=>ddelta_any l0 l1 u v f W hu hv M0.out.short M1.out.short (Nat.le_trans HFS.out.1 (by decide)) hr)
        have HDV:=Lib.hid (fun u v W (hu:LRow W u l2) (hv:LRow W v l3) (hr:Res W)=>ddelta_any l2 l3 u v g W hu hv M2.out.short M3.out.short (Nat.le_trans HFS.out.2 (by decide)) hr)
        have HDW:=Lib.hid (fun u v W (hu:LRow W u x) (hv:LRow W v y) (hr:Res W)=>ddelta_any x y u v (rT (valQ f.data.toList*valQ g.data.toList)) W hu hv sx sy (size_ok (err_rT ffg)) hr)
        rw [DU.1] at HDU
        rw [DV.1] at HDV
        rw [DW.1] at HDW
        have sU:=delta_sz M0.out.dst M1.out.dst fp fs
        have sV:=delta_sz M2.out.dst M3.out.dst gp gs
        have f3:fits (deltaD (valsD l0) (valsD l1) (valQ f.data.toList)+deltaD (valsD l2) (valsD l3) (valQ g.data.toList))=true:=fits_sz.2 ((sU.add sV).mono (by decide))
        have E1:=Lib.hid (dtimes_T (IsT.of fe) (IsT.of ge) ffg)
        have E3:=Lib.hid (dplus_T DU.2 DV.2 f3)
        have E4:=Lib.hid (dleast_T TW (isT_rT f3) (delta_prod M0.out.dst.isD M1.out.dst.isD M2.out.dst.isD M3.out.dst.isD dx.isD dy.isD mx my fp gp))
        have HMM:=Lib.hid (fun (k:Int) (k0:0≤k) (k3:k < 3)=>prod_moms M0.out.dst M1.out.dst M2.out.dst M3.out.dst dx dy M0.out.len M1.out.len M2.out.len M3.out.len (hsz M0.out) (hsz M1.out) (hsz M2.out) (hsz M3.out) HB0 HB1 mx my k0 k3)
        have HSX:=Lib.hid (And.intro sx sy)
        have HLX:=Lib.hid lx
        have HLY:=Lib.hid ly
        generalize rT (deltaD (valsD l0) (valsD l1) (valQ f.data.toList)+deltaD (valsD l2) (valsD l3) (valQ g.data.toList))=t3 at *
        generalize rT (deltaD (valsD l0) (valsD l1) (valQ f.data.toList))=du at *
        generalize rT (deltaD (valsD l2) (valsD l3) (valQ g.data.toList))=dv at *
        generalize rT (deltaD (valsD x) (valsD y) (valQ f.data.toList*valQ g.data.toList))=dw at *
        generalize rT (valQ f.data.toList*valQ g.data.toList)=fg at *
        change Hid (∀ u v W (_:LRow W u l0) (_:LRow W v l1) (_:Res W),Calls _ _ _ _ fun e w'=>e=.returned (.tuple #[.string du,.int .i64 0])∧_) at HDU
        change Hid (∀ u v W (_:LRow W u l2) (_:LRow W v l3) (_:Res W),Calls _ _ _ _ fun e w'=>e=.returned (.tuple #[.string dv,.int .i64 0])∧_) at HDV
        change Hid (∀ u v W (_:LRow W u x) (_:LRow W v y) (_:Res W),Calls _ _ _ _ fun e w'=>e=.returned (.tuple #[.string dw,.int .i64 0])∧_) at HDW
        clear DU DV DW TW fe fp fs ge gp gs ffg hsz hkey hll ex dx mx ey dy my sx lx sy ly sU sV f3 HB0 HB1 HB2 HB3 HFG HCM
        have TK5:True:=trivial
        have TK6:True:=trivial
        have TK7:True:=trivial
        have TK8:True:=trivial
        have TK9:True:=trivial
        have TK10:True:=trivial
        have TK11:True:=trivial
        have TK12:True:=trivial
        have TK13:True:=trivial
        have TK14:True:=trivial
        have TK15:True:=trivial
        gi_wp2
        have V4i:∀ x:SameAt z.W (fun k=>k < z.W.heap.size),x.W.cell? ⟨bb,0,none⟩=some (.slice B0 l0.length k0):=fun x=>x.cell (Nat.lt_of_lt_of_le HBB.out z.h.size) (y0 z)
        have V4j:∀ x:SameAt z.W (fun k=>k < z.W.heap.size),x.W.cell? ⟨bb,2,none⟩=some (.slice B2 l2.length k2):=fun x=>x.cell (Nat.lt_of_lt_of_le HBB.out z.h.size) (y2 z)
        refine wpIn_stage (IsSame z.W (fun k=>k < z.W.heap.size)) [0,1,2,3,4,5,7,8,9] [] hmx (by kernel_rfl) (isSame_of fun _ _=>rfl) ?_
        change wpStage _ _ _ _ _ _ _ _ (6+6) _ _ _
        refine stage_reads [0,1,2,3,4,5] 6 _ _ (by kernel_rfl) ?_
        change wpQuietIn _ _ _ _ (fun W'=>∃ x:SameAt z.W (fun k=>k < z.W.heap.size),W'=x.W) _ _ _
        simp only [pick_cons,pick_nil,List.getElem?_cons_zero,List.getElem?_cons_succ,Option.elim_some]
        repeat (gi_big_quiet_step (fail))
        refine wpQuietIn_nil ?_
        clear V4i V4j
        obtain ⟨zd,hzd⟩:=LaterW.step z (below_drewM z.W)
        have HDR:=Lib.hid (below_drewM z.W)
        refine stage_one 6 (by kernel_rfl) rfl ?_
        rw [hzd] at HDR ⊢
        clear hzd
        gi_wp2_with (gi_at_call 27;refine (callsIn_wide.2 (HXC.out _ _ _ ((R0.out _).row (Nat.le_trans M0.out.len (by omega))) ((R2.out _).row (Nat.le_trans M2.out.len (by omega))) (RS.out zd))).mono ?_;rintro e w9 ⟨⟨u4,rfl,ho4⟩,hb9⟩;obtain ⟨G4,g4,rfl⟩:=ho4.slice;have HO4:=Lib.hid ho4;have HS4:=Lib.hid (HDR.out.trans (hb9.mono HDR.out.size));obtain ⟨z3,rfl⟩:=LaterW.step zd hb9;clear hb9 ho4)
        refine stage_post (isSame_below HS4.out (fun k hk=>hk)) ?_
        change wpStage _ _ _ _ _ _ _ _ (2+3) _ _ _
        refine stage_reads [7,8,9] 2 _ _ (by kernel_rfl) ?_
        change wpQuietIn _ _ _ _ (fun W'=>∃ x:SameAt z.W (fun k=>k < z.W.heap.size),W'=x.W) _ _ _
        simp only [pick_cons,pick_nil,List.getElem?_cons_zero,List.getElem?_cons_succ,Option.elim_some]
        repeat (gi_big_quiet_step (fail))
        refine wpQuietIn_nil ?_
        refine stage_one 10 (by kernel_rfl) rfl ?_
        gi_wp2
        refine stage_post (isSame_below HS4.out (fun k hk=>hk)) ?_
        refine stage_one 11 (by kernel_rfl) rfl ?_
        gi_wp2
        refine stage_post (isSame_below HS4.out (fun k hk=>hk)) ?_
        refine stage_done (by kernel_rfl) ?_
        clear HS4 HDR
        gi_wp2
        have V5i:∀ x:SameAt z3.W (fun k=>k < z3.W.heap.size),x.W.cell? ⟨bb,1,none⟩=some (.slice B1 l1.length k1):=fun x=>x.cell (Nat.lt_of_lt_of_le HBB.out z3.h.size) (y1 z3)
        have V5j:∀ x:SameAt z3.W (fun k=>k < z3.W.heap.size),x.W.cell? ⟨bb,3,none⟩=some (.slice B3 l3.length k3):=fun x=>x.cell (Nat.lt_of_lt_of_le HBB.out z3.h.size) (y3 z3)
        refine wpIn_stage (IsSame z3.W (fun k=>k < z3.W.heap.size)) [0,1,2,3,4,5,7,8,9] [] hmx (by kernel_rfl) (isSame_of fun _ _=>rfl) ?_
        change wpStage _ _ _ _ _ _ _ _ (6+6) _ _ _
        refine stage_reads [0,1,2,3,4,5] 6 _ _ (by kernel_rfl) ?_
        change wpQuietIn _ _ _ _ (fun W'=>∃ x:SameAt z3.W (fun k=>k < z3.W.heap.size),W'=x.W) _ _ _
        simp only [pick_cons,pick_nil,List.getElem?_cons_zero,List.getElem?_cons_succ,Option.elim_some]
        repeat (gi_big_quiet_step (fail))
        refine wpQuietIn_nil ?_
        clear V5i V5j
        obtain ⟨zd,hzd⟩:=LaterW.step z3 (below_drewM z3.W)
        have HDR:=Lib.hid (below_drewM z3.W)
        refine stage_one 6 (by kernel_rfl) rfl ?_
        rw [hzd] at HDR ⊢
        clear hzd
        gi_wp2_with (gi_at_call 27;refine (callsIn_wide.2 (HYC.out _ _ _ ((R1.out _).row (Nat.le_trans M1.out.len (by omega))) ((R3.out _).row (Nat.le_trans M3.out.len (by omega))) (RS.out zd))).mono ?_;rintro e w9 ⟨⟨u5,rfl,ho5⟩,hb9⟩;obtain ⟨G5,g5,rfl⟩:=ho5.slice;have HO5:=Lib.hid ho5;have HS5:=Lib.hid (HDR.out.trans (hb9.mono HDR.out.size));obtain ⟨z4,rfl⟩:=LaterW.step zd hb9;clear hb9 ho5)
        refine stage_post (isSame_below HS5.out (fun k hk=>hk)) ?_
        change wpStage _ _ _ _ _ _ _ _ (2+3) _ _ _
        refine stage_reads [7,8,9] 2 _ _ (by kernel_rfl) ?_
        change wpQuietIn _ _ _ _ (fun W'=>∃ x:SameAt z3.W (fun k=>k < z3.W.heap.size),W'=x.W) _ _ _
        simp only [pick_cons,pick_nil,List.getElem?_cons_zero,List.getElem?_cons_succ,Option.elim_some]
        repeat (gi_big_quiet_step (fail))
        refine wpQuietIn_nil ?_
        refine stage_one 10 (by kernel_rfl) rfl ?_
        gi_wp2
        refine stage_post (isSame_below HS5.out (fun k hk=>hk)) ?_
        refine stage_one 11 (by kernel_rfl) rfl ?_
        gi_wp2
        refine stage_post (isSame_below HS5.out (fun k hk=>hk)) ?_
        refine stage_done (by kernel_rfl) ?_
        have HO4:=Lib.hid (OwnM.later HO4.out HS5.out)
        clear HS5 HDR
        have R0':=Lib.hid (show ∀ z:LaterW z4.W,LRowW z.W (.slice B0 l0.length k0) l0 from fun z=>R0.out (z4.lift z))
        have R1':=Lib.hid (show ∀ z:LaterW z4.W,LRowW z.W (.slice B1 l1.length k1) l1 from fun z=>R1.out (z4.lift z))
        have R2':=Lib.hid (show ∀ z:LaterW z4.W,LRowW z.W (.slice B2 l2.length k2) l2 from fun z=>R2.out (z4.lift z))
        have R3':=Lib.hid (show ∀ z:LaterW z4.W,LRowW z.W (.slice B3 l3.length k3) l3 from fun z=>R3.out (z4.lift z))
        have RS':=Lib.hid (show ∀ z:LaterW z4.W,Res z.W from fun z=>RS.out (z4.lift z))
        have X0:=Lib.hid (fun z:LaterW z4.W=>(OwnM.later HO4.out z.h).row HLX.out)
        have X1:=Lib.hid (fun z:LaterW z4.W=>(OwnM.later HO5.out z.h).row HLY.out)
        have y0':∀ z:LaterW z4.W,z.W.cell? ⟨bb,0,none⟩=some (.slice B0 l0.length k0):=fun z=>y0 (z4.lift z)
        have y1':∀ z:LaterW z4.W,z.W.cell? ⟨bb,1,none⟩=some (.slice B1 l1.length k1):=fun z=>y1 (z4.lift z)
        have y2':∀ z:LaterW z4.W,z.W.cell? ⟨bb,2,none⟩=some (.slice B2 l2.length k2):=fun z=>y2 (z4.lift z)
        have y3':∀ z:LaterW z4.W,z.W.cell? ⟨bb,3,none⟩=some (.slice B3 l3.length k3):=fun z=>y3 (z4.lift z)
        have NF:=Lib.hid (N2.out.later z4.h)
        clear y0 y1 y2 y3
        generalize z4.W=w4 at *
        gi_wp2
        refine wpIn_region_wide ⟨w4,Below.refl _ _⟩ rfl hmx (by kernel_rfl) ?_
        repeat (gi_big_quiet_step (first
         | (gi_at_call 45;refine (callsIn_wide.2 (HDU.out _ _ _ ((R0'.out _).row (Nat.le_trans M0.out.len (by omega))) ((R1'.out _).row (Nat.le_trans M1.out.len (by omega))) (RS'.out _))).mono ?_;rintro e w99 ⟨rfl,hb9⟩;exact ⟨rfl,⟨⟨w99,(LaterW.h _).trans (hb9.mono (LaterW.h _).size)⟩,rfl⟩⟩)))
        refine wpQuietIn_nil ?_
        rintro _ ⟨z5,rfl⟩
        gi_wp2
        refine wpIn_region_wide z5 rfl hmx (by kernel_rfl) ?_
        repeat (gi_big_quiet_step (first
         | (gi_at_call 45;refine (callsIn_wide.2 (HDV.out _ _ _ ((R2'.out _).row (Nat.le_trans M2.out.len (by omega))) ((R3'.out _).row (Nat.le_trans M3.out.len (by omega))) (RS'.out _))).mono ?_;rintro e w99 ⟨rfl,hb9⟩;exact ⟨rfl,⟨⟨w99,(LaterW.h _).trans (hb9.mono (LaterW.h _).size)⟩,rfl⟩⟩)))
        refine wpQuietIn_nil ?_
        rintro _ ⟨z6,rfl⟩
        gi_wp2_with ((clear TK5;gi_at_call 101;refine (callsIn_wide.2 (E1.out _ (RS'.out _))).mono ?_;rintro e w9 ⟨rfl,hb9⟩;obtain ⟨zz0,rfl⟩:=LaterW.step z6 hb9;clear hb9))
        gi_wp2_with ((clear TK6;gi_at_call 45;refine (callsIn_wide.2 (HDW.out _ _ _ (X0.out _) (X1.out _) (RS'.out _))).mono ?_;rintro e w9 ⟨rfl,hb9⟩;obtain ⟨zz1,rfl⟩:=LaterW.step zz0 hb9;clear hb9))
        gi_wp2_with ((clear TK7;gi_at_call 99;refine (callsIn_wide.2 (E3.out _ (RS'.out _))).mono ?_;rintro e w9 ⟨rfl,hb9⟩;obtain ⟨zz2,rfl⟩:=LaterW.step zz1 hb9;clear hb9))
        gi_wp2_with ((clear TK8;gi_at_call 100;refine (callsIn_wide.2 (E4.out _ (RS'.out _))).mono ?_;rintro e w9 ⟨rfl,hb9⟩;obtain ⟨zz3,rfl⟩:=LaterW.step zz2 hb9;clear hb9))
        gi_wp2_with ((clear TK9;gi_at_call 54;refine (callsIn_wide.2 (HPK.out _)).mono ?_;rintro e w9 ⟨j,rfl,ja,jb,rfl⟩))
        obtain ⟨t1,t2,t4,q1,q2,q3,q4⟩:=HMM.out j ja jb
        have HM1:=Lib.hid (fun u v W (hu:LRow W u l0) (hv:LRow W v l1) (hr:Res W)=>dmoment_any l0 l1 u v (1+j) W hu hv M0.out.short M1.out.short hr)
        have HM2:=Lib.hid (fun u v W (hu:LRow W u l2) (hv:LRow W v l3) (hr:Res W)=>dmoment_any l2 l3 u v (1+j) W hu hv M2.out.short M3.out.short hr)
        have HM3:=Lib.hid (fun u v W (hu:LRow W u x) (hv:LRow W v y) (hr:Res W)=>dmoment_any x y u v (1+j) W hu hv HSX.out.1 HSX.out.2 hr)
        rw [q1] at HM1
        rw [q2] at HM2
        rw [q3] at HM3
        have Q4:=Lib.hid q4
        clear q1 q2 q3 q4
        generalize inX l0 l1=b5 at *
        generalize inX l2 l3=b6 at *
        gi_wp2
        refine wpIn_region_wide zz3 rfl hmx (by kernel_rfl) ?_
        repeat (gi_big_quiet_step (first
         | (gi_at_call 48;refine (callsIn_wide.2 (HM1.out _ _ _ ((R0'.out _).row (Nat.le_trans M0.out.len (by omega))) ((R1'.out _).row (Nat.le_trans M1.out.len (by omega))) (RS'.out _))).mono ?_;rintro e w99 ⟨rfl,hb9⟩;exact ⟨rfl,⟨⟨w99,(LaterW.h _).trans (hb9.mono (LaterW.h _).size)⟩,rfl⟩⟩)))
        refine wpQuietIn_nil ?_
        rintro _ ⟨z7,rfl⟩
        gi_wp2
        refine wpIn_region_wide z7 rfl hmx (by kernel_rfl) ?_
        repeat (gi_big_quiet_step (first
         | (gi_at_call 48;refine (callsIn_wide.2 (HM2.out _ _ _ ((R2'.out _).row (Nat.le_trans M2.out.len (by omega))) ((R3'.out _).row (Nat.le_trans M3.out.len (by omega))) (RS'.out _))).mono ?_;rintro e w99 ⟨rfl,hb9⟩;exact ⟨rfl,⟨⟨w99,(LaterW.h _).trans (hb9.mono (LaterW.h _).size)⟩,rfl⟩⟩)))
        refine wpQuietIn_nil ?_
        rintro _ ⟨z8,rfl⟩
        by_cases hbb2:(b5 && b6)=true
        ·obtain ⟨m1,m2,i1,i2,i3,i4,i5,rfl⟩:=Q4.out hbb2
         rw [Bool.and_eq_true] at hbb2
         obtain ⟨rfl,rfl⟩:=hbb2
         have E5:=Lib.hid (dtimes_T i1 i2 i5)
         have E6:=Lib.hid (dleast_T IsT.one i1 i3)
         have E7:=Lib.hid (dleast_T IsT.one i2 i4)
         have TE:=eq_bytes (rT (m1*m2)) (rT (m1*m2))
         rw [decide_eq_true rfl] at TE
         clear i1 i2 i3 i4 i5 Q4
         change Hid (Ret _ #[.string ⟨#[49]⟩,.string t1] (.bool true)) at E6
         change Hid (Ret _ #[.string ⟨#[49]⟩,.string t2] (.bool true)) at E7
         generalize rT (m1*m2)=t5 at *
         gi_wp2_with ((clear TK10;gi_at_call 48;refine (callsIn_wide.2 (HM3.out _ _ _ (X0.out _) (X1.out _) (RS'.out _))).mono ?_;rintro e w9 ⟨rfl,hb9⟩;obtain ⟨zm0,rfl⟩:=LaterW.step z8 hb9;clear hb9))
         gi_wp2_with ((clear TK11;gi_at_call 101;refine (callsIn_wide.2 (E5.out _ (RS'.out _))).mono ?_;rintro e w9 ⟨rfl,hb9⟩;obtain ⟨zn0,rfl⟩:=LaterW.step zm0 hb9;clear hb9))
         gi_wp2_with ((clear TK12;gi_at_call 100;refine (callsIn_wide.2 (E6.out _ (RS'.out _))).mono ?_;rintro e w9 ⟨rfl,hb9⟩;obtain ⟨zn1,rfl⟩:=LaterW.step zn0 hb9;clear hb9))
         gi_wp2_with ((clear TK13;gi_at_call 100;refine (callsIn_wide.2 (E7.out _ (RS'.out _))).mono ?_;rintro e w9 ⟨rfl,hb9⟩;obtain ⟨zn2,rfl⟩:=LaterW.step zn1 hb9;clear hb9))
         gi_wp2
         refine bodyPost_ret (results_tmp rfl _ _ _) rfl ?_
         exact ⟨rfl,(NF.out.later zn2.h).below⟩
        ·have hbf:(b5 && b6)=false:=by simpa using hbb2
         rw [hbf] at HM3
         clear hbb2 Q4
         cases b5 <;> cases b6 <;> first | (cases hbf;done) | skip
         all_goals
          gi_wp2_with ((clear TK10;gi_at_call 48;refine (callsIn_wide.2 (HM3.out _ _ _ (X0.out _) (X1.out _) (RS'.out _))).mono ?_;rintro e w9 ⟨rfl,hb9⟩;obtain ⟨zm0,rfl⟩:=LaterW.step z8 hb9;clear hb9))
          all_goals try (rename_i hq9 hq8;exact (undef_ne hq9).elim)
          all_goals
           gi_wp2
           refine bodyPost_ret (results_tmp rfl _ _ _) rfl ?_
           exact ⟨rfl,(NF.out.later zm0.h).below⟩
     ·have b2:decide (12 < (g.size:Int))=true:=decide_eq_true (by omega)
      have b2n:decide (12 < g.size)=true:=decide_eq_true (by omega)
      clear fz fe fp fs gz ge gp gs f12 g12 M0 M1 M2 M3
      go_enter Tryz.func18,Tryz.ntmps18
      go_wp2_with ((clear TK0;go_at_call 21;refine (HLV.out _ N0.out.res).mono ?_;rintro e w1 ⟨rfl,hb⟩;have N1:=Lib.hid (N0.out.later hb);clear hb))
      go_wp2_with ((clear TK1;go_at_call 97;refine (HMD.out _ N1.out).mono ?_;rintro e w2 ⟨⟨u,rfl,hl⟩,hb⟩;obtain ⟨bb,cc,rfl,hbb,_,hcell⟩:=hl;have HCL:=Lib.hid (And.intro hbb hcell);have N2:=Lib.hid ((N1.out.alloc _).later hb);clear hb hbb hcell))
      obtain ⟨B0,k0,y0,rr⟩:=LLRow.nth (j:=0) (l:=l0) HCL.out.1 HCL.out.2 rfl
      have R0:=Lib.hid rr
      clear rr
      obtain ⟨B1,k1,y1,rr⟩:=LLRow.nth (j:=1) (l:=l1) HCL.out.1 HCL.out.2 rfl
      have R1:=Lib.hid rr
      clear rr
      obtain ⟨B2,k2,y2,rr⟩:=LLRow.nth (j:=2) (l:=l2) HCL.out.1 HCL.out.2 rfl
      have R2:=Lib.hid rr
      clear rr
      obtain ⟨B3,k3,y3,rr⟩:=LLRow.nth (j:=3) (l:=l3) HCL.out.1 HCL.out.2 rfl
      have R3:=Lib.hid rr
      clear rr
      have RS:=Lib.hid (fun z:LaterW w2=>N2.out.res.below z.h)
      clear HCL
      go_wp2_with ((clear TK2;go_at_call 98;refine (HNF.out _ (RS.out ⟨w2,Below.refl _ _⟩)).mono ?_;rintro e w9 ⟨rfl,hb9⟩;obtain ⟨z0,rfl⟩:=LaterW.step ⟨w2,Below.refl _ _⟩ hb9;clear hb9))
      go_wp2_with ((clear TK3;go_at_call 98;refine (HNG.out _ (RS.out z0)).mono ?_;rintro e w9 ⟨rfl,hb9⟩;obtain ⟨z1,rfl⟩:=LaterW.step z0 hb9;clear hb9))
      go_wp2
      go_ret
      exact ⟨rfl,(N2.out.later z1.h).below⟩
    ·have b1:decide (12 < (f.size:Int))=true:=decide_eq_true (by omega)
     have b1n:decide (12 < f.size)=true:=decide_eq_true (by omega)
     clear fz fe fp fs gz ge gp gs f12 M0 M1 M2 M3
     go_enter Tryz.func18,Tryz.ntmps18
     go_wp2_with ((clear TK0;go_at_call 21;refine (HLV.out _ N0.out.res).mono ?_;rintro e w1 ⟨rfl,hb⟩;have N1:=Lib.hid (N0.out.later hb);clear hb))
     go_wp2_with ((clear TK1;go_at_call 97;refine (HMD.out _ N1.out).mono ?_;rintro e w2 ⟨⟨u,rfl,hl⟩,hb⟩;obtain ⟨bb,cc,rfl,hbb,_,hcell⟩:=hl;have HCL:=Lib.hid (And.intro hbb hcell);have N2:=Lib.hid ((N1.out.alloc _).later hb);clear hb hbb hcell))
     obtain ⟨B0,k0,y0,rr⟩:=LLRow.nth (j:=0) (l:=l0) HCL.out.1 HCL.out.2 rfl
     have R0:=Lib.hid rr
     clear rr
     obtain ⟨B1,k1,y1,rr⟩:=LLRow.nth (j:=1) (l:=l1) HCL.out.1 HCL.out.2 rfl
     have R1:=Lib.hid rr
     clear rr
     obtain ⟨B2,k2,y2,rr⟩:=LLRow.nth (j:=2) (l:=l2) HCL.out.1 HCL.out.2 rfl
     have R2:=Lib.hid rr
     clear rr
     obtain ⟨B3,k3,y3,rr⟩:=LLRow.nth (j:=3) (l:=l3) HCL.out.1 HCL.out.2 rfl
     have R3:=Lib.hid rr
     clear rr
     have RS:=Lib.hid (fun z:LaterW w2=>N2.out.res.below z.h)
     clear HCL
     go_wp2_with ((clear TK2;go_at_call 98;refine (HNF.out _ (RS.out ⟨w2,Below.refl _ _⟩)).mono ?_;rintro e w9 ⟨rfl,hb9⟩;obtain ⟨z0,rfl⟩:=LaterW.step ⟨w2,Below.refl _ _⟩ hb9;clear hb9))
     go_wp2_with ((clear TK3;go_at_call 98;refine (HNG.out _ (RS.out z0)).mono ?_;rintro e w9 ⟨rfl,hb9⟩;obtain ⟨z1,rfl⟩:=LaterW.step z0 hb9;clear hb9))
     go_wp2
     go_ret
     exact ⟨rfl,(N2.out.later z1.h).below⟩
end Go.Proofs.YtigapglmipmbeaaGreatDoor
namespace Go.Proofs.YtigapglmipmbeaaGreatDoor
open Go.ChangeShapes Go.WideShapes Go.ChangeAt Go.RowKit
section
variable {H:Type} {enc:TypeId × Value→H}
end
end Go.Proofs.YtigapglmipmbeaaGreatDoor
namespace Go.Proofs.YtigapglmipmbeaaGreatDoor
open Go.RowKit
structure Kind (α:Type) where
 ty:TypeId
 k:Nat
 is:(C:TypeId→Nat→Prop)→World→List Value→α→Prop
 inner:List TypeId
 len:∀ {C w l x},is C w l x→l.length=k
 keep:∀ {C C':TypeId→Nat→Prop} {w w':World} {l x},is C w l x→(∀ E b,E∈inner→b < w.heap.size→C E b→C' E b∧w'.heap[b]?=w.heap[b]?)→is C' w' l x
def SRow {α:Type} (K:Kind α) (C:TypeId→Nat→Prop) (w:World) (v:Value) (xs:List α):Prop :=
 ∃ A c,v=.slice A xs.length c∧xs.length≤c∧c≤maxLen∧(0 < xs.length→∃ b o,A=some ⟨b,o,none⟩∧C K.ty b∧b < w.heap.size ∧
  ∀ (j:Nat) (x:α),xs[j]?=some x→∃ l,K.is C w l x∧∀ (i:Nat) (u:Value),l[i]?=some u→w.cell? ⟨b,o+j*K.k+i,none⟩=some u)
section
variable {α:Type} {K:Kind α} {C C':TypeId→Nat→Prop} {w w':World} {v:Value} {xs:List α}
theorem SRow.keep (h:SRow K C w v xs) (hk:∀ E b,E∈K.ty::K.inner→b < w.heap.size→C E b→C' E b∧w'.heap[b]?=w.heap[b]?):SRow K C' w' v xs:=by
 obtain ⟨A,c,e,h1,h2,h3⟩:=h
 refine ⟨A,c,e,h1,h2,fun h0=>?_⟩
 obtain ⟨b,o,eA,hC,hb,hx⟩:=h3 h0
 obtain ⟨hC',hs⟩:=hk K.ty b (by simp) hb hC
 have hb':b < w'.heap.size:=by
  have:w'.heap[b]?=some w.heap[b]:=hs.trans (Array.getElem?_eq_getElem hb)
  exact (Array.getElem?_eq_some_iff.1 this).1
 refine ⟨b,o,eA,hC',hb',fun j x hj=>?_⟩
 obtain ⟨l,hl,hc⟩:=hx j x hj
 exact ⟨l,K.keep hl fun E b hE=>hk E b (List.mem_cons_of_mem _ hE),fun i u hi=>(World.cell?_of_block hs).trans (hc i u hi)⟩
theorem SRow.nil (K:Kind α) (C:TypeId→Nat→Prop) (w:World):SRow K C w (.slice none 0 0) []:=⟨none,0,rfl,Nat.le_refl _,Nat.zero_le _,fun h=>absurd h (by simp)⟩
theorem SRow.take {A:Option Addr} {c:Nat} (h:SRow K C w (.slice A xs.length c) xs) {n:Nat} (hn:n≤xs.length):SRow K C w (.slice A n c) (xs.take n):=by
 obtain ⟨A',c',e,h1,h2,h3⟩:=h
 simp only [Value.slice.injEq,true_and] at e
 obtain ⟨rfl,rfl⟩:=e
 have hl:(xs.take n).length=n:=by simp;omega
 refine ⟨A,c,by rw [hl],by omega,h2,fun h0=>?_⟩
 obtain ⟨b,o,eA,hC,hb,hx⟩:=h3 (by omega)
 refine ⟨b,o,eA,hC,hb,fun j x hj=>hx j x ?_⟩
 rw [List.getElem?_take] at hj
 split at hj
 ·exact hj
 ·cases hj
end
def Own (base:Nat) (w:World) (E:TypeId) (b:Nat):Prop:=base≤b∧∃ cur,w.heap[b]?=some (.cells cur E (0,0))
def Any (_:TypeId) (_:Nat):Prop:=True
section
variable {α:Type} {K:Kind α} {base:Nat} {w w':World} {v v':Value} {xs:List α}
theorem own_keep {base:Nat} {w w':World} {row:Option Nat} (hg:w.grownBy w' row) {E:TypeId} {b:Nat} (hE:∀ r,row=some r→∀ cur,w.heap[r]?≠some (.cells cur E (0,0))) (h:Own base w E b):Own base w' E b∧w'.heap[b]?=w.heap[b]?:=by
 obtain ⟨hb,cur,hc⟩:=h
 have hs:w'.heap[b]?=w.heap[b]?:=hg.block b (Array.getElem?_eq_some_iff.1 hc).1 fun e=>hE b e.symm cur hc
 exact ⟨⟨hb,cur,hs.trans hc⟩,hs⟩
end
open Go.ChangeShapes
section
variable {H:Type} {enc:TypeId × Value→H} {w:World} {base:Nat} {sp:Nat→Bool} {held:Bool} {fuel:Nat}
theorem open_kind {α:Type} {K:Kind α} {T:TypeId} (hu:Tryz.prog.underlying T=some (.slice K.ty)) (hk:Tryz.prog.cellsOf K.ty=K.k) (hk0:0 < K.k)
  (hel:∀ n cs y,DataW.trod enc Tryz.prog w base sp held n K.ty cs=some y→∃ x,K.is Any w cs x) {cs:List Value} {y:DataW H × List MemPlace} (h:DataW.trod enc Tryz.prog w base sp held fuel T cs=some y) :
  ∃ v xs,cs=[v]∧SRow K Any w v xs:=by
 rcases Go.Deep.open_slice hu h with ⟨hcs,_⟩ | ⟨a,len,cap,m,n,D,Pl,hcs,_,hl,hm,hmm,_,hx⟩
 ·exact ⟨_,[],hcs,SRow.nil K Any w⟩
 ·have hlm:len≤m:=by rw [hmm];split <;> omega
  have each:∀ i,i < len→∃ z:Option α × List Value,∃ x,z.1=some x∧K.is Any w z.2 x∧∀ j,j < K.k→w.cell? (a.add (i*K.k+j))=z.2[j]?:=by
   intro i hi
   obtain ⟨cs',h1,h2⟩:=hx i (by omega)
   rw [hk] at h1
   obtain ⟨_,hlen,hcell⟩:=World.cells?_some h1
   obtain ⟨x,hi'⟩:=hel _ _ _ h2
   exact ⟨(some x,cs'),x,rfl,hi',fun j hj=>by rw [← Go.Deep.add_add];exact hcell j hj⟩
  obtain ⟨f,hf⟩:=Go.Deep.choose_lt each
  by_cases h0:0 < len
  case neg =>
   obtain rfl:len=0:=by omega
   exact ⟨_,[],hcs,some a,cap,rfl,Nat.zero_le _,hm,fun h=>absurd h (by simp)⟩
  have hne:∃ g:Nat→α,∀ i,i < len→(f i).1=some (g i):=by
   obtain ⟨x0,e0,_⟩:=hf 0 h0
   refine ⟨fun i=>(f i).1.getD x0,fun i hi=>?_⟩
   obtain ⟨x,e,_⟩:=hf i hi
   simp [e]
  obtain ⟨g,hg⟩:=hne
  refine ⟨_,(List.range len).map g,hcs,some a,cap,by simp,by simpa using hl,hm,fun _=>?_⟩
  have hcl:∀ i,i < len→∀ j u,(f i).2[j]?=some u→w.cell? (a.add (i*K.k+j))=some u:=fun i hi j u hu=>by
   obtain ⟨x,e,hi',hc⟩:=hf i hi
   have:=K.len hi'
   have hj:j < K.k:=by have:=(List.getElem?_eq_some_iff.1 hu).1;omega
   rw [hc j hj,hu]
  obtain ⟨b,o,spot⟩:=a
  have h00:∃ u,(f 0).2[0]?=some u:=by
   obtain ⟨x,e,hi',hc⟩:=hf 0 h0
   have:=K.len hi'
   exact ⟨_,List.getElem?_eq_getElem (by omega)⟩
  obtain ⟨u0,hu0⟩:=h00
  have hc0:=hcl 0 h0 0 u0 hu0
  have hspot:spot=none:=by simpa [Addr.add] using World.cell?_spot hc0
  subst hspot
  have hlt:=World.block_lt_of_cell? w _ hc0
  refine ⟨b,o,rfl,trivial,by simpa [Addr.add] using hlt,fun j x hj=>?_⟩
  have hjl:j < len:=by have:=(List.getElem?_eq_some_iff.1 hj).1;simpa using this
  obtain ⟨x',e,hi',_⟩:=hf j hjl
  have ex:x=x':=by
   rw [List.getElem?_map,List.getElem?_range hjl] at hj
   simp only [Option.map_some,Option.some.injEq] at hj
   have:=hg j hjl
   rw [e] at this
   simp only [Option.some.injEq] at this
   rw [← hj,← this]
  subst ex
  refine ⟨(f j).2,hi',fun i u hu=>?_⟩
  have:=hcl j hjl i u hu
  unfold Addr.add at this
  split at this
  ·simp_all
  ·rw [show o+j*K.k+i=o+(j*K.k+i) by omega]
   exact this
end
end Go.Proofs.YtigapglmipmbeaaGreatDoor
namespace Go.Proofs.YtigapglmipmbeaaGreatDoor
open Go.RowKit Go.ChangeShapes Go.WideShapes Go.ChangeAt
def pairK (t:TypeId):Kind L2 where
 ty:=t
 k:=2
 is:=fun _ _ l x=>l=[.string x.1,.string x.2]∧x.1.size≤maxLen∧x.2.size≤maxLen
 inner:=[]
 len:=fun h=>by rw [h.1];rfl
 keep:=fun h _=>h
theorem cellsMass:Tryz.prog.cellsOf 30=2:=by kernel_rfl
theorem cellsNumD:Tryz.prog.cellsOf 23=1:=by kernel_rfl
theorem cellsStrD:Tryz.prog.cellsOf 9=1:=by kernel_rfl
theorem laidOutD:laidOutB Tryz.prog=true:=by kernel_rfl
section
variable {H:Type} {enc:TypeId × Value→H} {w:World} {base:Nat} {sp:Nat→Bool} {held:Bool} {fuel:Nat}
theorem open_mass1 (n:Nat) (cs:List Value) (y:DataW H × List MemPlace) (h:DataW.trod enc Tryz.prog w base sp held n 30 cs=some y):∃ x,(pairK 30).is Any w cs x:=by
 obtain ⟨y0,y1,n',_,hl,g0,g1⟩:=trod_struct2 Tryz.underlying30 h
 rw [cellsMass] at hl
 match cs,hl with
 | [c0,c1],_ =>
  simp [cellsStrD,cellsNumD] at g0 g1
  obtain ⟨a,e0,_,z0⟩:=DataW.trod_string Tryz.underlying9 g0
  obtain ⟨b,e1,_,z1⟩:=DataW.trod_string Tryz.underlying23 g1
  simp only [List.cons.injEq,and_true] at e0 e1
  subst e0 e1
  exact ⟨(a,b),rfl,z0,z1⟩
theorem row_of_kind {t:TypeId} {v:Value} {ls:List L2} (h:SRow (pairK t) Any w v ls):LRowW w v ls∧∀ x∈ls,x.1.size≤maxLen∧x.2.size≤maxLen:=by
 obtain ⟨A,c,e,h1,h2,h3⟩:=h
 refine ⟨⟨A,c,e,by omega,fun h0=>?_⟩,fun x hx=>?_⟩
 ·obtain ⟨b,o,eA,_,hb,hx⟩:=h3 h0
  refine ⟨b,o,eA,hb,fun j x hj=>?_⟩
  obtain ⟨l,⟨hl,_⟩,hc⟩:=hx j x hj
  subst hl
  exact ⟨hc 0 _ rfl,hc 1 _ rfl⟩
 ·obtain ⟨j,hj⟩:=List.getElem?_of_mem hx
  obtain ⟨b,o,_,_,_,hx⟩:=h3 (by have:=(List.getElem?_eq_some_iff.1 hj).1;omega)
  obtain ⟨l,⟨_,hs⟩,_⟩:=hx j x hj
  exact hs
theorem open_masses {a0:Option Addr} {len0 cap0:Nat} {d:DataW H} {p:List MemPlace} (h:DataW.Trod enc Tryz.prog w base sp held 22 (.slice a0 len0 cap0) d p) :
  ∃ ls,LRowW w (.slice a0 len0 cap0) ls∧∀ x∈ls,x.1.size≤maxLen∧x.2.size≤maxLen:=by
 obtain ⟨f,hf⟩:=h
 obtain ⟨v',ls,e,hr⟩:=open_kind (K:=pairK 30) Tryz.underlying22 cellsMass (by decide) open_mass1 hf
 simp [Value.cells] at e
 subst e
 exact ⟨ls,row_of_kind hr⟩
theorem trod_below {v:Value} {t:TypeId} {d:DataW H} {p:List MemPlace} (h:DataW.Trod enc Tryz.prog w base sp held t v d p):∀ x∈p,x.block < w.heap.size:=by
 obtain ⟨m,hm⟩:=h
 exact DataW.trod_lt m _ _ _ hm
end
end Go.Proofs.YtigapglmipmbeaaGreatDoor
namespace Go.Proofs.YtigapglmipmbeaaGreatDoor
open Go
theorem enters {P : Program} {rest : List (List Char)} (h : behindMainWord (wordsSigns P.initOrder.toList) = "cut".toList :: rest) (h1 : P.laysLater = false) (h2 : P.bearsReflect = false) (h3 : P.doorFits [] = true) : P.mayEnter = true := by
 have e : stripLifts liftWords ("cut".toList :: rest) = ([], "cut".toList :: rest) := by kernel_rfl
 unfold Program.mayEnter
 rw [h]
 dsimp only
 rw [e]
 simp [h1,h2,h3]
theorem cons_of_head {α:Type} {l:List α} {x:α} (h:l.head?=some x):l=x::l.tail:=by
 cases l with
 | nil=>cases h
 | cons y t=>cases h;rfl
theorem doorFitsF:Tryz.prog.doorFits []=true:=by kernel_rfl
theorem headWordF : (behindMainWord (wordsSigns Tryz.prog.initOrder.toList)).head? = some "cut".toList := by kernel_rfl
theorem laysLaterF:Tryz.prog.laysLater=false:=by kernel_rfl
theorem bearsReflectF:Tryz.prog.bearsReflect=false:=by kernel_rfl
theorem mayEnterF:Tryz.prog.mayEnter=true:=enters (cons_of_head headWordF) laysLaterF bearsReflectF doorFitsF
theorem mainIsF : Tryz.prog.mainIs = some (true, "5395951699d0e7c088c16c506ed30de6925104505e2026abbc93d9abbfe2aced".toList) := by kernel_rfl
theorem looksF:true=Tryz.prog.looks []:=by kernel_rfl
end Go.Proofs.YtigapglmipmbeaaGreatDoor
