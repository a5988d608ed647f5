/- Distributions with a common denominator of few digits: Make, Mix, Push and Product keep them. -/
import Derived.Test.YtigapglmipmbeaaGreatDoorLwMomentAdds16
import Derived.Test.YtigapglmipmbeaaGreatDoorLwMomentAdds15
import Derived.Sort.Walk0
import Derived.BigQuiet
import Derived.Test.YtigapglmipmbeaaGreatDoorLwMomentAdds02
import Derived.RecoverIn
import Derived.TacticsInMore
import Derived.Test.YtigapglmipmbeaaGreatDoorLwMomentAdds14
import Derived.Test.YtigapglmipmbeaaGreatDoorLwMomentAdds10
import Derived.Test.YtigapglmipmbeaaGreatDoorLwMomentAdds09
import Derived.Test.YtigapglmipmbeaaGreatDoorLwMomentAdds13
import Derived.Test.YtigapglmipmbeaaGreatDoorLwMomentAdds01
import Derived.Below
set_option maxRecDepth 100000
set_option maxHeartbeats 16000000
open Go.Proofs.Tryz
namespace Go.Proofs.YtigapglmipmbeaaGreatDoor
open Lim
theorem b0E{a b:List L2}(ha:chkD a=0)(hb:chkD b=0):chk2 a b=0:=by
 unfold chk2;rw[ha,hb]
 rfl
structure Dst (a:Nat) (ls:List L2):Prop where
 ok:chkD ls=0
 den:∃ D,0 < D∧D < 10 ^ a∧∀ x∈ls,a0z D (valX x)
section
variable {a b:Nat} {ls la lb:List L2}
theorem Dst.isD(h:Dst a ls):IsD (a0A ls):=(a2b h.ok).1
theorem Dst.okV(h:Dst a ls):OkV ls:=(a2b h.ok).2.1
theorem Dst.asc(h:Dst a ls):Asc (ls.map (·.1)):=(a2b h.ok).2.2
theorem Dst.once(h:Dst a ls):(ls.map (·.1)).Nodup:=h.asc.nodup
theorem Dst.pos(h:Dst a ls){x:L2}(hx:x∈ls):0 < valX x:=h.isD.plus (x.1,valX x) (List.mem_map.2 ⟨x,hx,rfl⟩)
theorem Dst.one(h:Dst a ls){x:L2}(hx:x∈ls):valX x≤1:=by
 have h1:=h.isD.one;rw[a7M]at h1;have h2:=b67 (f:=fun x:L2=>valX x) (fun y hy=>Rat.le_of_lt (h.pos hy)) hx;rw[← h1];exact h2
theorem Dst.sz(h:Dst a ls){x:L2}(hx:x∈ls):Sz a (valX x):=by
 obtain⟨D,h1,h2,h3⟩:=h.den;exact(h3 x hx).sz h1 (Rat.le_of_lt (h.pos hx)) (M:=1) (h.one hx) (by omega) Nat.one_pos
theorem Dst.mono(h:Dst a ls)(hab:a≤b):Dst b ls:=by
 obtain⟨D,h1,h2,h3⟩:=h.den;exact⟨h.ok,D,h1,Nat.lt_of_lt_of_le h2 (a6D hab),h3⟩
theorem Dst.light{n k:Nat}(h:chkD ls=0)(hl:ls.length≤n)(hs:∀ x∈ls,x.2.size≤k):Dst (k*n+1) ls:=by
 obtain⟨_,ho,_⟩:=a2b h;have hz:∀ x∈ls,Sz k (valX x):=fun x hx=>a4u (ho x hx) (by rw[← a0F];exact hs x hx);refine⟨h,denB valX ls,a9Y ls,Nat.lt_of_lt_of_le (b2K hz) (a6D ?_),fun x hx=>a9T hx⟩;have:=Nat.mul_le_mul_left k hl
 omega
theorem b7l{D:Nat}(h:∀ x∈ls,a0z D (valX x))(k:ByteArray):a0z D (a0k (a0A ls) k):=by
 refine a0z.sum fun e he=>?_;obtain⟨x,hx,rfl⟩:=List.mem_map.1 he
 dsimp only
 split
 ·exact h x hx
 ·exact a0z.zero D
theorem b3C(hl:∃ D,0 < D∧D < 10 ^ a∧Den D ls)(ha:a≤maxD)(hs:a0p (fun e=>e.2) (a0A ls)=1):∃ out,a2F ls=.ok out∧Dst a out∧∀ k,a0k (a0A out) k=a0k (a0A ls) k:=by
 obtain⟨D,h1,h2,h3⟩:=hl;obtain⟨out,e⟩:=b6J h1 (Nat.lt_of_lt_of_le h2 (a6D ha)) h3 hs;obtain⟨r1,_,r3⟩:=b0x e;refine⟨out,e,⟨r1,D,h1,h2,fun x hx=>?_⟩,r3⟩;have e1:valX x=a0k (a0A out) x.1:=(a7N (a2b r1).1.once (e:=(x.1,valX x)) (List.mem_map.2 ⟨x,hx,rfl⟩)).symm;rw[e1,r3];exact b7l (fun y hy=>(h3 y hy).2.1) x.1
theorem b65{l:List L2}{x:L2}(hx:x∈l):(x.1,valX x)∈a0A l:=List.mem_map.2 ⟨x,hx,rfl⟩
theorem a7R(ha:Dst a la)(hb:Dst b lb)(hl:la.length*lb.length≤4096)(hm:a+b≤maxD) :
  ∃ out,a7a la lb=.ok out∧Dst (a+b) out∧∀ k,a0k (a0A out) k=a0k (a3g a3Q (a0A la) (a0A lb)) k:=by
 obtain⟨x,ex⟩:=b1j hb.okV (fun x hx=>hb.sz hx) (j:=a) (by omega) ha.okV fun x hx=>ha.sz hx;obtain⟨x1,x2⟩:=b21 hb.okV ex ha.okV;obtain⟨D,d1,d2,d3⟩:=ha.den;obtain⟨E,e1,e2,e3⟩:=hb.den;have hden:Den (D*E) x:=by
  intro z hz;have hm2:=b65 hz;rw[x2]at hm2;obtain⟨e,he,h2⟩:=List.mem_flatMap.1 hm2;obtain⟨e',he',e5⟩:=List.mem_map.1 h2;obtain⟨u,hu,rfl⟩:=List.mem_map.1 he;obtain⟨v,hv,rfl⟩:=List.mem_map.1 he';have e6:valX z=valX v*valX u:=(Prod.mk.inj e5).2.symm;refine⟨x1 z hz,?_,?_⟩
  ·show a0z _ (valX z)
   rw[e6,Rat.mul_comm];exact(d3 u hu).mul (e3 v hv)
  ·show 0≤valX z
   rw[e6];exact Rat.mul_nonneg (Rat.le_of_lt (hb.pos hv)) (Rat.le_of_lt (ha.pos hu))
 have hsum:a0p (fun e=>e.2) (a0A x)=1:=by
  rw[x2,b44,ha.isD.one,hb.isD.one]
  grind
 obtain⟨out,eo,ho,hmass⟩:=b3C ⟨D*E,Nat.mul_pos d1 e1,a2f d2 e2,hden⟩ hm hsum;refine⟨out,?_,ho,fun k=>by rw[hmass,x2]⟩;unfold a7a;rw[b0E ha.ok hb.ok,if_neg (by decide),if_neg (by omega),ex];exact eo
end
theorem b8E{k:Nat}(hk:0 < k){key:ByteArray}:∀ {ls:List L2},(∀ x∈ls,Sz k (valX x))→Sz k (valQ (atT ls key).data.toList)
 | [],_=>by
  show Sz k (valQ zT.data.toList)
  rw[a2o];exact Sz.zero.mono hk
 | x::l,h=>by
  unfold atT
  split
  ·exact h x (by simp)
  ·exact b8E hk fun y hy=>h y (by simp[hy])
theorem b5N{D:Nat}{key:ByteArray}:∀ {ls:List L2},(∀ x∈ls,a0z D (valX x))→a0z D (valQ (atT ls key).data.toList)
 | [],_=>by
  show a0z D (valQ zT.data.toList)
  rw[a2o];exact a0z.zero D
 | x::l,h=>by
  unfold atT
  split
  ·exact h x (by simp)
  ·exact b5N fun y hy=>h y (by simp[hy])
theorem a6U{key:ByteArray}:∀ {ls:List L2},key∈ls.map (·.1)→∃ x∈ls,x.1=key∧atT ls key=x.2
 | [],h=>by cases h
 | x::l,h=>by
  unfold atT
  split
  ·rename_i e;exact⟨x,by simp,e,rfl⟩
  ·rename_i e
   rcases List.mem_cons.1 h with h|h
   ·exact absurd h.symm e
   ·obtain⟨y,hy,e1,e2⟩:=a6U h
    exact⟨y,by simp[hy],e1,e2⟩
theorem b6m{f:ByteArray}{q:List L2}{m:L2}(hf:errQ f.data.toList=0)(hq:OkV q)(hm:errQ m.2.data.toList=0)
  (h1:fits (valQ f.data.toList*valQ (atT q m.1).data.toList)=true) (h2:fits (valX m - valQ f.data.toList*valQ (atT q m.1).data.toList)=true) :
  a3l f q m=.ok (rT (pos (valX m - valQ f.data.toList*valQ (atT q m.1).data.toList)))∧fits (pos (valX m - valQ f.data.toList*valQ (atT q m.1).data.toList))=true:=by
 unfold a3l;rw[a7G hf (b5p hq),a2O h1]
 dsimp only
 rw[b3h hm (a1Z h1),a1y h1,a2O h2]
 dsimp only
 rw[b0n a4m (a1Z h2),a1y h2,a2o];unfold pos
 by_cases h:0 < valX m - valQ f.data.toList*valQ (atT q m.1).data.toList
 ·have hc:cmpQ 0 (valX m - valQ f.data.toList*valQ (atT q m.1).data.toList) < 0:=by
   unfold cmpQ;rw[if_pos h];decide
  rw[if_pos h,if_pos hc];exact⟨rfl,h2⟩
 ·have hc:¬ cmpQ 0 (valX m - valQ f.data.toList*valQ (atT q m.1).data.toList) < 0:=by
   unfold cmpQ;rw[if_neg h];split<;>decide
  rw[if_neg h,if_neg hc];exact⟨by rw[← IsT.zero.text];rfl,b4P⟩
theorem a8s{p q:List L2}(hq:(q.map (·.1)).Nodup)(f:Rat):a1I (a0A p) (a0A q) f=a0p (fun m=>pos (valX m - f*valQ (atT q m.1).data.toList)) p:=by
 unfold a1I
 show a0p _ (p.map _)=_
 rw[a2n];exact a0Q fun m _=>by rw[b1S hq]
theorem a9x{p q:List L2}{f:ByteArray}{a b j:Nat}(hp:Dst a p)(hq:Dst b q)(hf:errQ f.data.toList=0)(h0:0≤valQ f.data.toList)(sf:Sz j (valQ f.data.toList))(hm:a+(j+b)+1≤maxD)(hb:0 < b) :
  a2S p q f=.ok (rT (a1I (a0A p) (a0A q) (valQ f.data.toList)))∧fits (a1I (a0A p) (a0A q) (valQ f.data.toList))=true:=by
 obtain⟨D,d1,d2,d3⟩:=hp.den;obtain⟨E,e1,e2,e3⟩:=hq.den;have hD:0 < D*((valQ f.data.toList).den*E):=Nat.mul_pos d1 (Nat.mul_pos (valQ f.data.toList).den_pos e1);have hlt:D*((valQ f.data.toList).den*E) < 10 ^ maxD:=Nat.lt_of_lt_of_le (a2f d2 (a2f sf.2 e2)) (a6D (by omega));have step:∀ m∈p,a3l f q m=.ok (rT (pos (valX m - valQ f.data.toList*valQ (atT q m.1).data.toList)))∧fits (pos (valX m - valQ f.data.toList*valQ (atT q m.1).data.toList))=true ∧
   a0z (D*((valQ f.data.toList).den*E)) (pos (valX m - valQ f.data.toList*valQ (atT q m.1).data.toList))∧0≤pos (valX m - valQ f.data.toList*valQ (atT q m.1).data.toList):=by
  intro m hm2;have s1:=sf.mul (b8E hb (fun x hx=>hq.sz hx) (key:=m.1));obtain⟨e4,e5⟩:=b6m hf hq.okV (hp.okV m hm2) (a0V.2 (s1.mono (by omega))) (a0V.2 (((hp.sz hm2).sub s1).mono (by omega)));exact⟨e4,e5,a0z.pos (((d3 m hm2).mul_right _).sub (((a0z.self _).mul (b5N e3)).mul_left _)),a26 _⟩
 have ht:=a5f hp.isD hq.isD h0;have hn:=b1d (a0A p) (a0A q) (valQ f.data.toList);rw[a8s hq.once]at ht hn ⊢;have r:=a6A hD Nat.one_pos (by omega) a4m (by rw[a2o];exact a0z.zero _) (by rw[a2o];exact Rat.le_refl) step (by rw[a2o,Rat.zero_add];exact ht);rw[a2o,Rat.zero_add]at r;refine⟨?_,a0V.2 ((a0z.sum fun m hm2=>(step m hm2).2.2.1).sz hD hn (M:=1) ht (by omega) Nat.one_pos)⟩;unfold a2S;rw[b0E hp.ok hq.ok,if_neg (by decide),if_neg (by simp only[ne_eq,Decidable.not_not];exact a4z.2 ⟨hf,h0⟩)];exact r
theorem pow_ne{x:Rat}(h:x≠0)(n:Nat):x ^ n≠0:=by
 induction n with
 | zero=>rw[Rat.pow_zero];decide
 | succ n ih =>
  rw[Rat.pow_succ];intro h2
  rcases Rat.mul_eq_zero.1 h2 with h2|h2
  ·exact ih h2
  ·exact h h2
theorem b5S{q:List L2}{m:L2}{k n:Nat}(hm:errQ m.2.data.toList=0)(hq:errQ (atT q m.1).data.toList=0)(h0:valQ (atT q m.1).data.toList≠0)(sm:Sz k (valX m))(sa:Sz k (valQ (atT q m.1).data.toList))(hk:k*(n+1)+1+(k*n+1)≤maxD) :
  a3S ((n+1:Nat):Int) q m=.ok (rT (valX m ^ (n+1)*(valQ (atT q m.1).data.toList ^ n)⁻¹))∧fits (valX m ^ (n+1)*(valQ (atT q m.1).data.toList ^ n)⁻¹)=true:=by
 have s1:=sm.pow (n+1);have s2:=sa.pow n;have f1:fits (valX m ^ (n+1))=true:=a0V.2 (s1.mono (by omega));have f2:fits (valQ (atT q m.1).data.toList ^ n)=true:=a0V.2 (s2.mono (by omega));have f3:fits (valX m ^ (n+1)*(valQ (atT q m.1).data.toList ^ n)⁻¹)=true:=a0V.2 ((s1.mul s2.inv).mono hk);refine⟨?_,f3⟩;unfold a3S;rw[a7L hm,a2O f1,show ((n+1:Nat):Int) - 1=(n:Int) by omega,a7L hq,a2O f2]
 dsimp only
 rw[b7Q (a1Z f1) (a1Z f2) (by rw[a1y f2];exact pow_ne h0 n),a1y f1,a1y f2,a2O f3]
theorem a6q{p q:List L2}(hq:(q.map (·.1)).Nodup)(n:Nat):momD (a0A p) (a0A q) n=a0p (fun m=>valX m ^ (n+1)*(valQ (atT q m.1).data.toList ^ n)⁻¹) p:=by
 unfold momD
 show a0p _ (p.map _)=_
 rw[a2n];exact a0Q fun m _=>by rw[b1S hq]
theorem b8s{p q:List L2}{k n D1 D2 M:Nat}(hp:chkD p=0)(hq:chkD q=0)(hin:inX p q=true)(hn:n < 8)(sp:∀ x∈p,Sz k (valX x))(sq:∀ x∈q,Sz k (valX x))(hk:k*(n+1)+1+(k*n+1)≤maxD)
  (h1:0 < D1) (h2:0 < D2) (d1:∀ x∈p,a0z D1 (valX x)) (d2:∀ x∈q,a0z D2 (valX x)⁻¹) (hM:0 < M) (hMk:M*(D1 ^ (n+1)*D2 ^ n) < 10 ^ maxD) (hm:momD (a0A p) (a0A q) n≤(M:Rat)) :
  momV p q ((n+1:Nat):Int)=.tuple #[.string (rT (momD (a0A p) (a0A q) n)),.bool true,.int .i64 0]∧fits (momD (a0A p) (a0A q) n)=true:=by
 obtain⟨ip,op,_⟩:=a2b hp;obtain⟨iq,oq,aq⟩:=a2b hq;have hD:0 < D1 ^ (n+1)*D2 ^ n:=Nat.mul_pos (Nat.pow_pos h1) (Nat.pow_pos h2);have step:∀ m∈p,a3S ((n+1:Nat):Int) q m=.ok (rT (valX m ^ (n+1)*(valQ (atT q m.1).data.toList ^ n)⁻¹))∧fits (valX m ^ (n+1)*(valQ (atT q m.1).data.toList ^ n)⁻¹)=true ∧
   a0z (D1 ^ (n+1)*D2 ^ n) (valX m ^ (n+1)*(valQ (atT q m.1).data.toList ^ n)⁻¹)∧0≤valX m ^ (n+1)*(valQ (atT q m.1).data.toList ^ n)⁻¹:=by
  intro m hm;obtain⟨x,hx,_,e2⟩:=a6U (a5c.1 hin m hm);have hv:0 < valQ (atT q m.1).data.toList:=by rw[e2];exact iq.plus _ (List.mem_map_of_mem hx)
  have hv2:0 < valX m:=ip.plus _ (List.mem_map_of_mem hm);have sa:Sz k (valQ (atT q m.1).data.toList):=by rw[e2];exact sq x hx
  obtain⟨e3,e4⟩:=b5S (op m hm) (b5p oq) (by grind) (sp m hm) sa hk;refine⟨e3,e4,((d1 m hm).pow _).mul ?_,?_⟩
  ·have e5:(valQ (atT q m.1).data.toList ^ n)⁻¹=(valX x)⁻¹ ^ n:=by rw[e2,a4E]
   rw[e5];exact(d2 x hx).pow _
  ·exact Rat.mul_nonneg (Rat.pow_nonneg (by grind)) (Rat.le_of_lt (Rat.inv_pos.2 (Rat.pow_pos hv)))
 rw[a6q aq.nodup]at hm ⊢;have hnn:0≤a0p (fun m=>valX m ^ (n+1)*(valQ (atT q m.1).data.toList ^ n)⁻¹) p:=a1w fun m hm=>(step m hm).2.2.2;have r:=a6A hD hM hMk a4m (by rw[a2o];exact a0z.zero _) (by rw[a2o];exact Rat.le_refl) step (by rw[a2o,Rat.zero_add];exact hm);rw[a2o,Rat.zero_add]at r;refine⟨?_,a0V.2 ((a0z.sum fun m hm=>(step m hm).2.2.1).sz hD hnn (M:=M) hm hMk hM)⟩;unfold momV;rw[b0E hp hq,if_neg (by decide),if_neg (by omega),hin,if_neg (by decide),r]
 rfl
theorem b7f{k:Nat}{q:Rat}(h:Sz k q):q≤((10 ^ k:Nat):Rat):=by
 have h1:=a4R q;have h2:((q.num:Int):Rat)≤((10 ^ k:Nat):Rat):=by
  have h3:q.num≤((10 ^ k:Nat):Int):=by
   have:=h.1;unfold nm at this
   omega
  have h4:(((10 ^ k:Nat):Int):Rat)=((10 ^ k:Nat):Rat):=rfl;rw[← h4];exact Rat.intCast_le_intCast.2 h3
 have h5:(1:Rat)≤(q.den:Rat):=by
  have:=q.den_pos;have h6:((1:Nat):Rat)≤(q.den:Rat):=Rat.natCast_le_natCast.2 (by omega);exact h6
 rcases Rat.le_total (a:=0) (b:=q) with h0|h0
 ·have h7:=Rat.mul_le_mul_of_nonneg_left h5 h0
  rw[Rat.mul_one]at h7;exact Rat.le_trans h7 (by rw[h1];exact h2)
 ·exact Rat.le_trans h0 Rat.natCast_nonneg
theorem b1E{α:Type}{f:α→Rat}{c:Nat}:∀ {l:List α},(∀ a∈l,f a≤(c:Rat))→a0p f l≤((l.length*c:Nat):Rat)
 | [],_=>by simp[a0p]
 | a::l,h=>by
  have h1:=b1E (f:=f) (c:=c) (l:=l) fun x hx=>h x (by simp[hx]);have h2:=h a (by simp);have e:(((a::l).length*c:Nat):Rat)=(c:Rat)+((l.length*c:Nat):Rat):=by
   rw[List.length_cons,Nat.succ_mul,Nat.add_comm,Rat.natCast_add]
  rw[e]
  show f a+a0p f l≤_
  exact Rat.le_trans (Rat.add_le_add_right.2 h2) (Rat.add_le_add_left.2 h1)
theorem b2E{x:Rat}(h0:0≤x)(h1:x≤1)(n:Nat):x ^ n≤1:=by
 induction n with
 | zero=>rw[Rat.pow_zero];exact Rat.le_refl
 | succ n ih =>
  rw[Rat.pow_succ];have:=Rat.mul_le_mul_of_nonneg_right ih h0;rw[Rat.one_mul]at this;exact Rat.le_trans this h1
theorem b2r{x y:Rat}(h0:0≤x)(h1:x≤y)(n:Nat):x ^ n≤y ^ n:=by
 induction n with
 | zero=>rw[Rat.pow_zero,Rat.pow_zero];exact Rat.le_refl
 | succ n ih =>
  rw[Rat.pow_succ,Rat.pow_succ];exact Rat.le_trans (Rat.mul_le_mul_of_nonneg_right ih h0) (Rat.mul_le_mul_of_nonneg_left h1 (Rat.pow_nonneg (Rat.le_trans h0 h1)))
theorem b5T(a n:Nat):((a:Rat)) ^ n=((a ^ n:Nat):Rat):=by
 induction n with
 | zero=>rw[Rat.pow_zero];rfl
 | succ n ih=>rw[Rat.pow_succ,Nat.pow_succ,Rat.natCast_mul,ih]
theorem mom_le{p q:List L2}{a k n:Nat}(hp:Dst a p)(hq:Dst a q)(hin:inX p q=true)(sq:∀ x∈q,Sz k (valX x)):momD (a0A p) (a0A q) n≤((p.length*(10 ^ k) ^ n:Nat):Rat):=by
 rw[a6q hq.once];refine b1E fun m hm=>?_;obtain⟨x,hx,_,e2⟩:=a6U (a5c.1 hin m hm);have hv:0 < valX x:=hq.pos hx;have e3:valQ (atT q m.1).data.toList=valX x:=by rw[e2]
 rw[e3,← a4E];have hi:0≤(valX x)⁻¹:=Rat.le_of_lt (Rat.inv_pos.2 hv);have h1:=b2E (Rat.le_of_lt (hp.pos hm)) (hp.one hm) (n+1);have h2:=b2r hi (b7f (sq x hx).inv) n;rw[b5T]at h2;have h3:=Rat.mul_le_mul_of_nonneg_right h1 (Rat.pow_nonneg (n:=n) hi);rw[Rat.one_mul]at h3;exact Rat.le_trans h3 h2
theorem b81{q:List L2}{k:Nat}(sq:∀ x∈q,Sz k (valX x)):∃ D,0 < D∧D < 10 ^ (k*q.length+1)∧∀ x∈q,a0z D (valX x)⁻¹ :=
 ⟨denB (fun x=>(valX x)⁻¹) q,a9Y q,b2K fun x hx=>(sq x hx).inv,fun _ hx=>a9T (f:=fun x:L2=>(valX x)⁻¹) hx⟩
theorem a95{p q:List L2}{n:Int}(hp:chkD p=0)(hq:chkD q=0)(h1:1≤n)(h8:n≤8)(hin:inX p q=false):momV p q n=.tuple #[.string ⟨#[]⟩,.bool false,.int .i64 0]:=by
 unfold momV;rw[b0E hp hq,if_neg (by decide),if_neg (by omega),if_pos hin]
theorem a54{x a b:Nat}(h:x < 10 ^ a)(hab:a≤b):x < 10 ^ b:=Nat.lt_of_lt_of_le h (a6D hab)
section
variable {p q r s x y:List L2}
end
end Go.Proofs.YtigapglmipmbeaaGreatDoor
namespace Go.Proofs.YtigapglmipmbeaaGreatDoor
open Go.RowKit Go.Shelf
open Lim
def resB:Except Nat Bool→Value
 | .ok b=>.tuple #[.bool b,.int .i64 0]
 | .error n=>.tuple #[.bool false,.int .i64 (n:Int)]
section
variable {a b:ByteArray} (ha:a.size≤270000) (hb:b.size≤270000)
include ha hb
end
theorem a9W(a b:ByteArray):Op.bytesLess a.toList b.toList=ltK a b:=by
 unfold ltK;rw[bytesLess_eq,Lib.toList_data,Lib.toList_data]
theorem a7J(a b:ByteArray):(a.toList==b.toList)=decide (a=b):=by
 rw[Lib.toList_data,Lib.toList_data]
 by_cases h:a=b
 ·subst h;simp
 ·have h2:a.data.toList≠b.data.toList:=fun e=>h (by
   cases a;cases b
   simp only[ByteArray.mk.injEq]
   exact Array.ext' e)
  rw[decide_eq_false h];exact beq_eq_false_iff_ne.2 h2
theorem b9K:oT.toList=[49]:=by rw[Lib.toList_data];rfl
theorem b83:zT.toList=[48]:=by rw[Lib.toList_data];rfl
theorem a1E{n:Nat}(h:n≠0):((n:Int)==0)=false:=by rw[beq_eq_false_iff_ne];omega
theorem a2P{n:Nat}(h:n≠0):((n:Int) != 0)=true:=by unfold bne;rw[a1E h];rfl
theorem a7W(q:Rat):q.num < 0↔q < 0:=by
 have h:=Rat.num_nonneg (q:=q)
 constructor
 ·intro h2
  exact Classical.byContradiction fun h3=>absurd (h.2 (by grind)) (by omega)
 ·intro h2
  exact Classical.byContradiction fun h3=>by
   have:=h.1 (by omega)
   grind
theorem b8r(q:Rat):sgQ q < 0↔q < 0:=by
 rw[a4P,← a7W]
 split
 ·rename_i h;exact⟨fun _=>h,fun _=>by omega⟩
 ·rename_i h
  split<;>exact⟨fun h2=>absurd h2 (by omega),fun h2=>absurd h2 h⟩
theorem b7A(q:Rat):0 < sgQ q↔0 < q:=by
 rw[a4P];have h1:=a7W q;have h0:q.num=0↔q=0:=Rat.num_eq_zero
 split
 ·rename_i h
  have:=h1.1 h;exact⟨fun h2=>absurd h2 (by omega),fun h2=>by grind⟩
 ·rename_i h
  have h4:¬ q < 0:=fun h5=>h (h1.2 h5)
  split
  ·rename_i h3
   have:=h0.1 h3;exact⟨fun h2=>absurd h2 (by omega),fun h2=>by grind⟩
  ·rename_i h3
   have:q≠0:=fun h5=>h3 (h0.2 h5);exact⟨fun _=>by grind,fun _=>by omega⟩
end Go.Proofs.YtigapglmipmbeaaGreatDoor
namespace Go.Proofs.YtigapglmipmbeaaGreatDoor
open Go.RowKit Go.Shelf
open Lim
attribute [local go_sem] Oper.semAt_some
structure NW (w:World) (W:World):Prop where
 below:Below w.heap.size w W
 res:Res W
theorem NW.refl{w:World}(hr:Res w):NW w w:=⟨Below.refl _ _,hr⟩
theorem NW.later{w W W':World}(h:NW w W)(hb:Below W.heap.size W W'):NW w W':=⟨h.below.trans (hb.mono h.below.size),h.res.below hb⟩
theorem NW.alloc{w W:World}(h:NW w W)(o:Obj):NW w (W.alloc o):=h.later (a0d (Below.refl _ _) _)
theorem NW.drewN{w W:World}(h:NW w W)(n:Nat):NW w (W.drewN n):=h.later (a04 (Below.refl _ _) n)
def b58(ls:List L2):Nat→Option ByteArray
 | 0=>none
 | k+1=>(ls[k]?).map (·.1)
theorem b0h{k:Option ByteArray}{x:L2}{l:List L2}(h:posE x.2≠0):chkL k (x::l)=posE x.2:=by unfold chkL;rw[if_pos h]
theorem b3D{k:Option ByteArray}{x:L2}{l:List L2}(h:posE x.2=0)(h2:¬ 0 < valQ x.2.data.toList):chkL k (x::l)=2:=by unfold chkL;rw[if_neg (by simpa using h),if_pos h2]
theorem b3i{k:Option ByteArray}{x:L2}{l:List L2}(h:posE x.2=0)(h2:0 < valQ x.2.data.toList)(h3:badK k x.1=true):chkL k (x::l)=9:=by unfold chkL;rw[if_neg (by simpa using h),if_neg (by simpa using h2),if_pos h3]
theorem b2n{k:Option ByteArray}{x:L2}{l:List L2}(h:posE x.2=0)(h2:0 < valQ x.2.data.toList)(h3:badK k x.1=false):chkL k (x::l)=chkL (some x.1) l:=by
 conv=>lhs;unfold chkL
 rw[if_neg (by simpa using h),if_neg (by simpa using h2),if_neg (by rw[h3];decide)]
theorem b8Z{ls:List L2}(h:chkL none ls=0):∀ x∈ls,errQ x.2.data.toList=0:=by
 revert h
 generalize (none:Option ByteArray)=k
 induction ls generalizing k with
 | nil=>intro _ x hx;cases hx
 | cons y l ih =>
  intro h x hx
  by_cases h1:posE y.2=0
  ·by_cases h2:0 < valQ y.2.data.toList
   ·cases h3:badK k y.1 with
    | true=>rw[b3i h1 h2 h3]at h;cases h
    | false =>
     rw[b2n h1 h2 h3]at h
     rcases List.mem_cons.1 hx with rfl|hx
     ·unfold posE at h1
      split at h1
      ·rename_i h4;exact absurd h1 h4
      ·rename_i h4;exact Classical.byContradiction h4
     ·exact ih _ h x hx
   ·rw[b3D h1 h2]at h;cases h
  ·rw[b0h h1]at h;exact absurd h h1
theorem a5s{ls:List L2}{k:Nat}{x:L2}(h:ls[k]?=some x):b58 ls (k+1)=some x.1:=by
 show (ls[k]?).map (·.1)=_
 rw[h];rfl
theorem a2U{ls:List L2}{k:Nat}{x:L2}(h:ls[k]?=some x):ls.drop k=x::ls.drop (k+1):=by
 obtain⟨hlt,e⟩:=List.getElem?_eq_some_iff.1 h;rw[List.drop_eq_getElem_cons hlt,e]
theorem b9n{s:ByteArray}:chkS (.ok s)=if s=oT then 0 else 15:=rfl
theorem LRow.at{w W:World}{v:Value}{ls:List L2}(h:LRow w v ls)(hb:Below w.heap.size w W){k:Nat}{x:L2}(hx:ls[k]?=some x) :
  ∃ b o c,v=.slice (some ⟨b,o,none⟩) ls.length c∧b < W.heap.size∧W.cell? ⟨b,o+k*2,none⟩=some (.string x.1)∧W.cell? ⟨b,o+k*2+1,none⟩=some (.string x.2):=by
 obtain⟨A,c,rfl,_,hc⟩:=h;obtain⟨b,o,rfl,hlt,hcell⟩:=hc (by have:=(List.getElem?_eq_some_iff.1 hx).1;omega);obtain⟨c0,c1⟩:=hcell k x hx;exact⟨b,o,c,rfl,Nat.lt_of_lt_of_le hlt hb.size,by rw[hb.cell (p:=⟨b,o+k*2,none⟩) hlt];exact c0,by rw[hb.cell (p:=⟨b,o+k*2+1,none⟩) hlt];exact c1⟩
theorem LRow.cell2{w W:World}{b o n c:Nat}{ls:List L2}(h:LRow w (.slice (some ⟨b,o,none⟩) n c) ls)(hb:Below w.heap.size w W){k:Nat}{x:L2}(hx:ls[k]?=some x) :
  b < W.heap.size∧W.cell? ⟨b,o+k*2,none⟩=some (.string x.1)∧W.cell? ⟨b,o+k*2+1,none⟩=some (.string x.2):=by
 obtain⟨b',o',c',e,h1,h2,h3⟩:=h.at hb hx
 simp only[Value.slice.injEq,Option.some.injEq,Addr.mk.injEq,and_true]at e
 obtain⟨⟨rfl,rfl⟩,_,_⟩:=e;exact⟨h1,h2,h3⟩
theorem b7M:zT.size≤270000:=by decide
theorem a1h.atT{k:ByteArray}:∀ {ls:List L2},a1h ls→(atT ls k).size≤270000
 | [],_=>b7M
 | x::l,h=>by
  unfold Go.Proofs.YtigapglmipmbeaaGreatDoor.atT
  split
  ·exact(h x (by simp)).2
  ·exact a1h.atT fun y hy=>h y (by simp[hy])
theorem b5e{a b:List L2}(h:chk2 a b=0):chkD a=0∧chkD b=0:=by
 unfold chk2 at h
 split at h
 ·rename_i h1;exact absurd h h1
 ·rename_i h1;exact⟨Classical.byContradiction h1,h⟩
theorem b7n(r:XE):∃ c0 c1,resX r=.tuple #[.string c0,.int .i64 c1]:=by
 cases r
 ·exact⟨_,_,rfl⟩
 ·exact⟨_,_,rfl⟩
theorem b7v{f:ByteArray}{q:List L2}{x:L2}{n:Nat}(h:a3l f q x=.error n):n≠0:=by
 unfold a3l at h
 split at h
 ·rename_i h1;cases h;exact a18 h1
 ·split at h
  ·rename_i h1;cases h;exact a18 h1
  ·unfold maxX at h
   split at h
   ·rename_i h1;cases h;exact h1
   ·split at h
    ·rename_i h1;cases h;exact h1
    ·cases h
theorem b7a{n:Int}{q:List L2}{x:L2}{z:Nat}(h:a3S n q x=.error z):z≠0:=by
 unfold a3S at h
 split at h
 ·rename_i h1;cases h;exact a18 h1
 ·split at h
  ·rename_i h1;cases h;exact a18 h1
  ·exact a18 h
theorem b4j{n:Int}{q:List L2}{x:L2}{s:ByteArray}(h:a3S n q x=.ok s):errQ s.data.toList=0:=by
 unfold a3S at h
 split at h
 ·cases h
 ·split at h
  ·cases h
  ·exact b9q h
end Go.Proofs.YtigapglmipmbeaaGreatDoor
namespace Go.Proofs.YtigapglmipmbeaaGreatDoor
open Go.RowKit Go.Shelf
open Lim
theorem a6l{p q:List L2}{f:ByteArray}{n:Nat}(h:a2S p q f=.error n):n≠0:=by
 unfold a2S at h
 split at h
 ·cases h;assumption
 ·split at h
  ·cases h;assumption
  ·exact b0y (fun _ _ h=>b7v h) h
theorem b00{α:Type}{g:α→XE}:∀ {l:List α} {s t:ByteArray},errQ s.data.toList=0→a1q g s l=.ok t→errQ t.data.toList=0
 | [],s,t,hs,h=>by cases h;exact hs
 | x::l,s,t,hs,h=>by
  unfold a1q at h
  split at h
  ·cases h
  ·split at h
   ·cases h
   ·rename_i u hu
    exact b00 (b03 hu) h
theorem a9o{p q:List L2}{f t:ByteArray}(h:a2S p q f=.ok t):errQ t.data.toList=0:=by
 unfold a2S at h
 split at h
 ·cases h
 ·split at h
  ·cases h
  ·exact b00 a4m h
def a9n(f d:ByteArray)(p q:List L2):Except Nat Bool:=if errL f d≠0 then .error (errL f d) else match a2S p q f with
 | .error n=>.error n
 | .ok x=>match a2S q p f with
  | .error n=>.error n
  | .ok y=>.ok (decide (cmpQ (valQ x.data.toList) (valQ d.data.toList)≤0)&&decide (cmpQ (valQ y.data.toList) (valQ d.data.toList)≤0))
end Go.Proofs.YtigapglmipmbeaaGreatDoor
namespace Go.Proofs.YtigapglmipmbeaaGreatDoor
open Go.RowKit Go.Shelf
open Lim
attribute [local go_sem] Oper.semAt_some
end Go.Proofs.YtigapglmipmbeaaGreatDoor
namespace Go.Proofs.YtigapglmipmbeaaGreatDoor
open Lim
section
variable {l m n:List L2} (hl:Dst 385 l) (hm:Dst 385 m) (hn:Dst 385 n)
include hl hm
include hn
end
theorem b0Y{a j:Nat}{p q:List L2}{F d:Rat}(hp:Dst a p)(hq:Dst a q)(h1:1≤F)(sF:Sz j F)(hj:j≤maxD)(d0:0≤d)(d1:d≤1)(fd:fits d=true)(hm:a+(j+a)+1≤maxD)(ha:0 < a)
  (k1:a1I (a0A p) (a0A q) F≤d) (k2:a1I (a0A q) (a0A p) F≤d):a9n (rT F) (rT d) p q=.ok true:=by
 have fF:fits F=true:=a0V.2 (sF.mono hj);have hL:b3B (rT F) (rT d) (F,d):=⟨a16 fF,a16 fd,h1,d0,d1⟩;have hF0:0≤F:=Rat.le_trans (by decide) h1;obtain⟨x1,x2⟩:=a9x hp hq (f:=rT F) (a1Z fF) (by rw[a1y fF];exact hF0) (by rw[a1y fF];exact sF) hm ha;obtain⟨y1,y2⟩:=a9x hq hp (f:=rT F) (a1Z fF) (by rw[a1y fF];exact hF0) (by rw[a1y fF];exact sF) hm ha;rw[a1y fF]at x1 x2 y1 y2;unfold a9n;rw[if_neg (fun h=>h hL.err),x1]
 dsimp only
 rw[y1]
 dsimp only
 rw[a1y x2,a1y y2,a1y fd,decide_eq_true ((b2c _ _).2 k1),decide_eq_true ((b2c _ _).2 k2)]
 rfl
section
variable (L:Nat→List L2) (F:Rat)
theorem a17{k:Nat}{a b:Rat}(ha:Sz k a)(hb:Sz k b):Sz k (maxQ a b):=by
 rw[b2b]
 split
 ·assumption
 ·assumption
theorem b8F{k:Nat}{a b:Rat}(ha:Sz k a)(hb:Sz k b):Sz k (minQ a b):=by
 rw[b1R]
 split
 ·assumption
 ·assumption
variable {L F}
end
section
variable {p q:List L2}
theorem room10{a b c D1 D2 M n:Nat}(hn:n≤7)(h1:D1 < 10 ^ a)(h2:D2 < 10 ^ b)(hM:M < 10 ^ c)(p1:0 < D1)(p2:0 < D2):M*(D1 ^ (n+1)*D2 ^ n) < 10 ^ (c+(a*8+b*7)):=by
 have e1:D1 ^ (n+1)≤D1 ^ 8:=Nat.pow_le_pow_right p1 (by omega);have e2:D2 ^ n≤D2 ^ 7:=Nat.pow_le_pow_right p2 hn;have e3:D1 ^ 8≤10 ^ (a*8):=by rw[Nat.pow_mul];exact Nat.pow_le_pow_left (Nat.le_of_lt h1) 8
 have e4:D2 ^ 7≤10 ^ (b*7):=by rw[Nat.pow_mul];exact Nat.pow_le_pow_left (Nat.le_of_lt h2) 7
 have e5:=Nat.mul_le_mul (Nat.le_trans e1 e3) (Nat.le_trans e2 e4);rw[← Nat.pow_add]at e5;have e6:M*(D1 ^ (n+1)*D2 ^ n)≤M*10 ^ (a*8+b*7):=Nat.mul_le_mul_left _ e5;have e7:M*10 ^ (a*8+b*7) < 10 ^ c*10 ^ (a*8+b*7):=Nat.mul_lt_mul_of_pos_right hM (Nat.pow_pos (by decide));rw[← Nat.pow_add]at e7;exact Nat.lt_of_le_of_lt e6 e7
theorem b9A{D1 D2 n:Nat}(hp:Dst 73 p)(hq:Dst 73 q)(hin:inX p q=true)(d1:∀ x∈p,a0z D1 (valX x))(d2:∀ x∈q,a0z D2 (valX x)⁻¹) :
  a0z (D1 ^ (n+1)*D2 ^ n) (momD (a0A p) (a0A q) n)∧0≤momD (a0A p) (a0A q) n:=by
 rw[a6q hq.once];have step:∀ m∈p,a0z (D1 ^ (n+1)*D2 ^ n) (valX m ^ (n+1)*(valQ (atT q m.1).data.toList ^ n)⁻¹)∧0≤valX m ^ (n+1)*(valQ (atT q m.1).data.toList ^ n)⁻¹:=by
  intro m hm;obtain⟨x,hx,_,e2⟩:=a6U (a5c.1 hin m hm);have hv:0 < valX x:=hq.pos hx;have hv2:=hp.pos hm;have e3:valQ (atT q m.1).data.toList=valX x:=by rw[e2]
  rw[e3];refine⟨((d1 m hm).pow _).mul ?_,?_⟩
  ·rw[← a4E]
   exact(d2 x hx).pow _
  ·exact Rat.mul_nonneg (Rat.pow_nonneg (Rat.le_of_lt hv2)) (Rat.le_of_lt (Rat.inv_pos.2 (Rat.pow_pos hv)))
 exact⟨a0z.sum fun m hm=>(step m hm).1,a1w fun m hm=>(step m hm).2⟩
theorem mom10{n K:Nat}(hK:87+(73*8+73*7)≤K)(hp:Dst 73 p)(hq:Dst 73 q)(lp:p.length≤6)(lq:q.length≤6)(tp:∀ x∈p,Sz 12 (valX x))(tq:∀ x∈q,Sz 12 (valX x))(hn:n≤7)(hin:inX p q=true) :
  momV p q ((n+1:Nat):Int)=.tuple #[.string (rT (momD (a0A p) (a0A q) n)),.bool true,.int .i64 0]∧Sz K (momD (a0A p) (a0A q) n):=by
 obtain⟨D1,d1,d2,d3⟩:=hp.den;obtain⟨D2,e1,e2,e3⟩:=b81 tq;have hb:momD (a0A p) (a0A q) n≤((10 ^ 86:Nat):Rat):=by
  refine Rat.le_trans (mom_le hp hq hin tq) (Rat.natCast_le_natCast.2 ?_);have h2:(10 ^ 12) ^ n≤(10 ^ 12) ^ 7:=Nat.pow_le_pow_right (by decide) hn;have h3:=Nat.mul_le_mul lp h2;exact Nat.le_trans h3 (by decide)
 have e4:D2 < 10 ^ 73:=a54 e2 (by omega);have hroom:=room10 (a:=73) (b:=73) (c:=87) hn d2 e4 (show 10 ^ 86 < 10 ^ 87 from Nat.pow_lt_pow_right (by decide) (by decide)) d1 e1;have hk:12*(n+1)+1+(12*n+1)≤maxD:=by unfold maxD;omega
 have hM:0 < 10 ^ 86:=Nat.pow_pos (by decide);obtain⟨r1,_⟩:=b8s (k:=12) (M:=10 ^ 86) hp.ok hq.ok hin (by omega) tp tq hk d1 e1 d3 e3 hM (a54 hroom (by decide)) hb;obtain⟨g1,g2⟩:=b9A (n:=n) hp hq hin d3 e3;exact⟨r1,g1.sz (Nat.mul_pos (Nat.pow_pos d1) (Nat.pow_pos e1)) g2 hb (a54 hroom hK) hM⟩
theorem b0H{x y F:Rat}(hx:0 < x)(hy:0 < y)(hF:1≤F)(i:Nat):x - F*y≤x ^ (i+1+1)*(y ^ (i+1))⁻¹*shM i*(pwM F i)⁻¹:=by
 have hF0:0 < F:=by grind
 have ha:(0:Rat) < ((i+1:Nat):Rat):=Rat.natCast_pos.2 (by omega);have hb:(0:Rat) < ((i+2:Nat):Rat):=Rat.natCast_pos.2 (by omega);have ia:((i+1:Nat):Rat)*((i+1:Nat):Rat)⁻¹=1:=Rat.mul_inv_cancel _ (by grind);have ib:((i+2:Nat):Rat)*((i+2:Nat):Rat)⁻¹=1:=Rat.mul_inv_cancel _ (by grind);have h:=bernD (x:=x*((i+2:Nat):Rat)⁻¹) (y:=F*y*((i+1:Nat):Rat)⁻¹) (Rat.mul_pos hx (Rat.inv_pos.2 hb)) (Rat.mul_pos (Rat.mul_pos hF0 hy) (Rat.inv_pos.2 ha)) (i+1);have e1:((i+1+1:Nat):Rat)*(x*((i+2:Nat):Rat)⁻¹) - ((i+1:Nat):Rat)*(F*y*((i+1:Nat):Rat)⁻¹)=x - F*y:=by
  have e9:((i+1+1:Nat):Rat)=((i+2:Nat):Rat):=rfl;rw[e9];generalize ((i+1:Nat):Rat)=a at *;generalize ((i+2:Nat):Rat)=b at *
  grind
 rw[e1]at h;have e2:(x*((i+2:Nat):Rat)⁻¹) ^ (i+1+1)*((F*y*((i+1:Nat):Rat)⁻¹) ^ (i+1))⁻¹=x ^ (i+1+1)*(y ^ (i+1))⁻¹*shM i*(pwM F i)⁻¹:=by
  unfold shM shA shB pwM;rw[Rat.zpow_natCast,Rat.zpow_natCast,Rat.zpow_natCast];have c1:(((i+1:Nat):Int):Rat)=((i+1:Nat):Rat):=rfl;have c2:(((i+2:Nat):Int):Rat)=((i+2:Nat):Rat):=rfl;rw[c1,c2,show i+1+1=i+2 from rfl,a6d x,a6d (F*y),a6d F,a7H,a7H,← a4E (((i+2:Nat):Rat))];have d1:(((i+1:Nat):Rat)⁻¹ ^ (i+1))⁻¹=((i+1:Nat):Rat) ^ (i+1):=by rw[a4E,Rat.inv_inv]
  rw[d1];generalize ((i+1:Nat):Rat) ^ (i+1)=A;generalize ((i+2:Nat):Rat)⁻¹ ^ (i+2)=B;generalize (F ^ (i+1))⁻¹=C;generalize (y ^ (i+1))⁻¹=E
  grind
 rw[← e2];exact h
theorem b4M{F:Rat}(hp:Dst 73 p)(hq:Dst 73 q)(hin:inX p q=true)(hF:1≤F)(i:Nat):a1I (a0A p) (a0A q) F≤momD (a0A p) (a0A q) (i+1)*shM i*(pwM F i)⁻¹:=by
 rw[a8s hq.once,a6q hq.once];have e:a0p (fun m:L2=>valX m ^ (i+1+1)*(valQ (atT q m.1).data.toList ^ (i+1))⁻¹) p*shM i*(pwM F i)⁻¹=a0p (fun m:L2=>(shM i*(pwM F i)⁻¹)*(valX m ^ (i+1+1)*(valQ (atT q m.1).data.toList ^ (i+1))⁻¹)) p:=by
  rw[a1i];grind
 rw[e];refine a1a fun m hm=>?_;obtain⟨x,hx,_,e2⟩:=a6U (a5c.1 hin m hm);have hv:0 < valX x:=hq.pos hx;have hv2:=hp.pos hm;have e3:valQ (atT q m.1).data.toList=valX x:=by rw[e2]
 rw[e3];have h:=b0H hv2 hv hF i;have h0:0≤valX m ^ (i+1+1)*(valX x ^ (i+1))⁻¹:=Rat.mul_nonneg (Rat.pow_nonneg (Rat.le_of_lt hv2)) (Rat.le_of_lt (Rat.inv_pos.2 (Rat.pow_pos hv)));have h1:0≤shM i*(pwM F i)⁻¹:=by
  refine Rat.mul_nonneg ?_ (Rat.le_of_lt (Rat.inv_pos.2 (a69 hF i)));unfold shM shA shB;rw[Rat.zpow_natCast,Rat.zpow_natCast];exact Rat.mul_nonneg (Rat.pow_nonneg Rat.natCast_nonneg) (Rat.le_of_lt (Rat.inv_pos.2 (Rat.pow_pos (Rat.natCast_pos.2 (by omega)))))
 have h2:=Rat.mul_nonneg h1 h0;refine a6t (by grind) h2
end
end Go.Proofs.YtigapglmipmbeaaGreatDoor
namespace Go.Proofs.YtigapglmipmbeaaGreatDoor
open Go.RowKit Go.Shelf
open Lim
section
variable {fn:Func} {tmps:Array Value} {R:Ending→World→Prop} {b n:Nat} {w:World}
end
end Go.Proofs.YtigapglmipmbeaaGreatDoor
namespace Go.Proofs.YtigapglmipmbeaaGreatDoor
open Lim
def a2v:ByteArray:=⟨#[108,97,116,101]⟩
def a90:Nat→Rat
 | 0=>0
 | 1=>1 / 8
 | 2=>1 / 4
 | _=>3 / 8
theorem a78:∀ k,0≤a90 k∧a90 k≤1∧a0z 8 (a90 k)∧fits (a90 k)=true
 | 0=>⟨by decide +kernel,by decide +kernel,⟨0,by decide +kernel⟩,by decide +kernel⟩
 | 1=>⟨by decide +kernel,by decide +kernel,⟨1,by decide +kernel⟩,by decide +kernel⟩
 | 2=>⟨by decide +kernel,by decide +kernel,⟨2,by decide +kernel⟩,by decide +kernel⟩
 | _+3=>⟨by show (0:Rat)≤3 / 8;decide +kernel,by show (3 / 8:Rat)≤1;decide +kernel,⟨3,by show (3 / 8:Rat)*((8:Nat):Rat)=((3:Int):Rat);decide +kernel⟩,by show fits (3 / 8)=true;decide +kernel⟩
abbrev ZL:=List (L2 × Nat)
def cutV(z:L2 × Nat):Rat:=valX z.1*a90 z.2
def a3e(zs:ZL):List L2:=zs.flatMap fun z=>[(z.1.1,rT (valX z.1 - cutV z)),(a2v,rT (cutV z))]
def cutD(zs:ZL):DL:=zs.map fun z=>(z.1.1,cutV z)
def a02(zs:ZL):Rat:=a0p cutV zs
theorem b4z(zs:ZL)(z:L2 × Nat):a3e (zs++[z])=a3e zs++[(z.1.1,rT (valX z.1 - cutV z)),(a2v,rT (cutV z))]:=by
 unfold a3e;rw[List.flatMap_append]
 rfl
theorem a3N:∀ zs:ZL,(a3e zs).length=zs.length*2
 | []=>rfl
 | z::zs=>by
  have h:=a3N zs
  show (a3e zs).length+1+1=_
  rw[h,List.length_cons]
  omega
theorem b4e(zs:ZL)(z:L2 × Nat):a02 (zs++[z])=a02 zs+cutV z:=by
 unfold a02;rw[a5d]
 show _+(cutV z+0)=_
 rw[Rat.add_zero]
section
variable {a:Nat} {ls:List L2} {zs:ZL}
theorem a8l(h:Dst a ls):∃ D,0 < D∧D*8 < 10 ^ (a+1)∧∀ x∈ls,∀ k,0≤cutV (x,k)∧cutV (x,k)≤valX x∧a0z (D*8) (cutV (x,k))∧a0z (D*8) (valX x - cutV (x,k))∧Sz (a+1) (cutV (x,k))∧Sz (a+1) (valX x - cutV (x,k)):=by
 obtain⟨D,d1,d2,d3⟩:=h.den;have h8:D*8 < 10 ^ (a+1):=by
  rw[Nat.pow_succ];generalize 10 ^ a=m at *
  omega
 refine⟨D,d1,h8,fun x hx k=>?_⟩;obtain⟨p1,p2,p3,_⟩:=a78 k;have hp:=Rat.le_of_lt (h.pos hx);have c0:0≤cutV (x,k):=Rat.mul_nonneg hp p1;have c1:cutV (x,k)≤valX x:=by
  have h2:=Rat.mul_le_mul_of_nonneg_left p2 hp;rw[Rat.mul_one]at h2;exact h2
 have h1:=h.one hx;have d4:a0z (D*8) (cutV (x,k)):=(d3 x hx).mul p3;have d5:a0z (D*8) (valX x - cutV (x,k)):=((d3 x hx).mul_right 8).sub d4;have s:∀ {q:Rat},a0z (D*8) q→0≤q→q≤1→Sz (a+1) q:=fun hq h0 h1=>hq.sz (M:=1) (by omega) h0 h1 (by omega) (by decide);exact⟨c0,c1,d4,d5,s d4 c0 (Rat.le_trans c1 h1),s d5 (by grind) (by grind)⟩
theorem b1p:∀ {zs:ZL},(∀ z∈zs,fits (valX z.1 - cutV z)=true∧fits (cutV z)=true) →
  (∀ j,a0k (a0A (a3e zs)) j=a0k (a0A (zs.map (·.1))) j - a0k (cutD zs) j+(if a2v=j then a02 zs else 0))∧a0p (fun e=>e.2) (a0A (a3e zs))=a0p (fun e=>e.2) (a0A (zs.map (·.1)))
 | [],_=>⟨fun j=>by
   show (0:Rat)=0 - 0+(if a2v=j then 0 else 0)
   split<;>decide +kernel,rfl⟩
 | z::zs,h=>by
  obtain⟨f1,f2⟩:=h z (by simp);obtain⟨i1,i2⟩:=b1p (zs:=zs) fun y hy=>h y (by simp[hy])
  constructor
  ·intro j
   have e1:a0k (a0A (a3e (z::zs))) j=(if z.1.1=j then valX z.1 - cutV z else 0)+((if a2v=j then cutV z else 0)+a0k (a0A (a3e zs)) j):=by
    rw[show a3e (z::zs)=(z.1.1,rT (valX z.1 - cutV z))::(a2v,rT (cutV z))::a3e zs from rfl,a2q,a2q]
    dsimp only
    rw[a1y f1,a1y f2]
   have e2:a0k (a0A ((z::zs).map (·.1))) j=(if z.1.1=j then valX z.1 else 0)+a0k (a0A (zs.map (·.1))) j:=rfl;have e3:a0k (cutD (z::zs)) j=(if z.1.1=j then cutV z else 0)+a0k (cutD zs) j:=rfl;have e4:a02 (z::zs)=cutV z+a02 zs:=rfl;rw[e1,e2,e3,e4,i1 j];clear e1 e2 e3 e4 i1 i2 f1 f2 h
   by_cases h1:z.1.1=j<;>by_cases h2:a2v=j<;>simp only[h1,h2,if_true,if_false]<;>grind
  ·have e1:a0p (fun e=>e.2) (a0A (a3e (z::zs)))=(valX z.1 - cutV z)+(cutV z+a0p (fun e=>e.2) (a0A (a3e zs))):=by
    rw[show a3e (z::zs)=(z.1.1,rT (valX z.1 - cutV z))::(a2v,rT (cutV z))::a3e zs from rfl,a2M,a2M]
    dsimp only
    rw[a1y f1,a1y f2]
   have e2:a0p (fun e=>e.2) (a0A ((z::zs).map (·.1)))=valX z.1+a0p (fun e=>e.2) (a0A (zs.map (·.1))):=rfl;rw[e1,e2,i2]
   grind
theorem b3r:∀ zs:ZL,a0p (fun e=>e.2) (cutD zs)=a02 zs
 | []=>rfl
 | z::zs=>by
  have h:=b3r zs
  show cutV z+a0p (fun e=>e.2) (cutD zs)=cutV z+a02 zs
  rw[h]
theorem a5u(hz:zs.map (·.1)=ls){z:L2 × Nat}(h:z∈zs):z.1∈ls:=by rw[← hz];exact List.mem_map_of_mem h
theorem b0D(h:Dst a ls){i:Nat}(hz:zs.map (·.1)=ls.take i):0≤a02 zs∧a02 zs≤1∧Sz (a+1) (a02 zs):=by
 obtain⟨D,d1,d2,hc⟩:=a8l h;have hm:∀ z∈zs,z.1∈ls:=fun z hz2=>List.mem_of_mem_take (i:=i) (by rw[← hz];exact List.mem_map_of_mem hz2);have h0:0≤a02 zs:=a1w fun z hz=>(hc z.1 (hm z hz) z.2).1;have h1:a02 zs≤1:=by
  have e1:a02 zs≤a0p (fun z:L2 × Nat=>valX z.1) zs:=a1a fun z hz=>(hc z.1 (hm z hz) z.2).2.1;have e2:a0p (fun z:L2 × Nat=>valX z.1) zs=a0p valX (ls.take i):=by rw[← hz,a2n]
  have e3:a0p valX ls=1:=by
   have:=h.isD.one;unfold a0A at this;rw[a2n]at this;exact this
  have e4:a0p valX ls=a0p valX (ls.take i)+a0p valX (ls.drop i):=by rw[← a5d,List.take_append_drop]
  have e5:0≤a0p valX (ls.drop i):=a1w fun x hx=>Rat.le_of_lt (h.pos (List.mem_of_mem_drop hx))
  grind
 have hd:a0z (D*8) (a02 zs):=a0z.sum fun z hz=>(hc z.1 (hm z hz) z.2).2.2.1;exact⟨h0,h1,hd.sz (M:=1) (by omega) h0 h1 (by omega) (by decide)⟩
theorem b3d(h:Dst a ls)(hz:zs.map (·.1)=ls)(ha:a+1≤maxD):∃ out,a2F (a3e zs)=.ok out∧Dst (a+1) out∧∀ j,a0k (a0A out) j=a0k (a0A ls) j - a0k (cutD zs) j+(if a2v=j then a02 zs else 0):=by
 obtain⟨D,d1,d2,hc⟩:=a8l h;have hf:∀ z∈zs,fits (valX z.1 - cutV z)=true∧fits (cutV z)=true:=fun z hm=>by
  obtain⟨_,_,_,_,s1,s2⟩:=hc z.1 (a5u hz hm) z.2;exact⟨a0V.2 (s2.mono ha),a0V.2 (s1.mono ha)⟩
 obtain⟨v1,v2⟩:=b1p hf;have hden:Den (D*8) (a3e zs):=fun x hx=>by
  obtain⟨z,hm,hx⟩:=List.mem_flatMap.1 hx;obtain⟨c1,c2,c3,c4,_,_⟩:=hc z.1 (a5u hz hm) z.2;obtain⟨f1,f2⟩:=hf z hm
  simp only[List.mem_cons,List.not_mem_nil,or_false]at hx
  rcases hx with rfl|rfl
  ·refine⟨a1Z f1,?_,?_⟩
   ·show a0z _ (valQ (rT (valX z.1 - cutV z)).data.toList)
    rw[a1y f1];exact c4
   ·show 0≤valQ (rT (valX z.1 - cutV z)).data.toList
    rw[a1y f1];change cutV z≤valX z.1 at c2
    grind
  ·refine⟨a1Z f2,?_,?_⟩
   ·show a0z _ (valQ (rT (cutV z)).data.toList)
    rw[a1y f2];exact c3
   ·show 0≤valQ (rT (cutV z)).data.toList
    rw[a1y f2];exact c1
 obtain⟨out,e,ho,hm⟩:=b3C ⟨D*8,by omega,d2,hden⟩ ha (by rw[v2,hz,h.isD.one]);exact⟨out,e,ho,fun j=>by rw[hm,v1,hz]⟩
end
theorem b2u{jn:ByteArray→ByteArray→ByteArray}{p q r s x y:DL}(hx:IsD x)(hy:IsD y)
  (ex:∀ j,a0k x j=a0k (a3g jn p r) j) (ey:∀ j,a0k y j=a0k (a3g jn q s) j) {f:Rat} (hf:0≤f) {A B:List ByteArray} (hA:A.Nodup) (hB:B.Nodup)
  (kp:∀ k∈a00 p,k∈A) (kq:∀ k∈a00 q,k∈A) (kr:∀ k∈a00 r,k∈B) (ks:∀ k∈a00 s,k∈B) :
  a1I x y f≤a0p (fun a=>a0p (fun b=>pos (a0k p a*a0k r b - f*(a0k q a*a0k s b))) B) A:=by
 obtain⟨J,hJ,mJ⟩:=a1Y (a00 x++b8A jn A B);rw[a1P hx hy hf hJ (fun k hk=>(mJ k).2 (by simp[hk]))];have e1:∀ j,a0k x j - f*a0k y j=a0p (fun a=>a0p (fun b=>(if jn a b=j then 1 else 0)*(a0k p a*a0k r b - f*(a0k q a*a0k s b))) B) A:=by
  intro j;rw[ex,ey,a4B hA hB kp kr,a4B hA hB kq ks,Rat.sub_eq_add_neg,← Rat.neg_mul,← a1i,← a2a];refine a0Q fun a _=>?_;rw[← a1i,← a2a];exact a0Q fun b _=>by grind
 have h1:a0p (fun j=>pos (a0k x j - f*a0k y j)) J≤a0p (fun j=>a0p (fun a=>a0p (fun b=>(if jn a b=j then 1 else 0)*pos (a0k p a*a0k r b - f*(a0k q a*a0k s b))) B) A) J:=by
  refine a1a fun j _=>?_;rw[e1];refine Rat.le_trans (a68 _ _) (a1a fun a _=>Rat.le_trans (a68 _ _) (a1a fun b _=>?_));rw[b5g (by split<;>simp)];exact Rat.le_refl
 refine Rat.le_trans h1 ?_;rw[a3A];refine a1a fun a ha=>?_;rw[a3A];refine a1a fun b hb=>?_;have e3:a0p (fun j=>(if jn a b=j then 1 else 0)*pos (a0k p a*a0k r b - f*(a0k q a*a0k s b))) J=a0p (fun j=>pos (a0k p a*a0k r b - f*(a0k q a*a0k s b))*(if jn a b=j then 1 else 0)) J :=
  a0Q fun j _=>Rat.mul_comm _ _
 rw[e3,a8y hJ ((mJ (jn a b)).2 (List.mem_append.2 (.inr (b06.2 ⟨a,ha,b,hb,rfl⟩)))) (fun _=>pos (a0k p a*a0k r b - f*(a0k q a*a0k s b))) 1,Rat.mul_one];exact Rat.le_refl
theorem b2_{p q:DL}(hp:IsD p){A:List ByteArray}(hA:A.Nodup)(kp:∀ k∈a00 p,k∈A)(n:Nat) :
  momD p q n=a0p (fun a=>a0k p a ^ (n+1)*(a0k q a ^ n)⁻¹) A:=by
 have e:=IsD.sum hp.once (fun k x=>x ^ (n+1)*(a0k q k ^ n)⁻¹);have e2:momD p q n=a0p (fun k=>a0k p k ^ (n+1)*(a0k q k ^ n)⁻¹) (a00 p):=e;rw[e2];refine(a43 hp.once hA kp fun a _ hn=>?_).symm;rw[a2x hn,Rat.pow_succ,Rat.mul_zero,Rat.zero_mul]
theorem a8V{x:Rat}(h:0≤x):0≤x⁻¹:=by
 by_cases h0:x=0
 ·rw[h0,Rat.inv_zero];exact Rat.le_refl
 ·exact Rat.le_of_lt (Rat.inv_pos.2 (by grind))
theorem b4n{jn:ByteArray→ByteArray→ByteArray}{p q r s x y:DL}(hp:IsD p)(hq:IsD q)(hr:IsD r)(hs:IsD s)(hx:IsD x)(hy:IsD y)
  (ex:∀ j,a0k x j=a0k (a3g jn p r) j) (ey:∀ j,a0k y j=a0k (a3g jn q s) j) (i1:∀ e∈p,e.1∈a00 q) (i2:∀ e∈r,e.1∈a00 s) {F:Rat} (hF:1≤F) (i:Nat) :
  a1I x y F≤momD p q (i+1)*momD r s (i+1)*shM i*(pwM F i)⁻¹:=by
 obtain⟨A,hA,mA⟩:=a1Y (a00 p++a00 q);obtain⟨B,hB,mB⟩:=a1Y (a00 r++a00 s);have kp:∀ k∈a00 p,k∈A:=fun k hk=>(mA k).2 (by simp[hk]);have kq:∀ k∈a00 q,k∈A:=fun k hk=>(mA k).2 (by simp[hk]);have kr:∀ k∈a00 r,k∈B:=fun k hk=>(mB k).2 (by simp[hk]);have ks:∀ k∈a00 s,k∈B:=fun k hk=>(mB k).2 (by simp[hk]);have F0:0≤F:=Rat.le_trans (by decide) hF;refine Rat.le_trans (b2u hx hy ex ey F0 hA hB kp kq kr ks) ?_;rw[b2_ hp hA kp,b2_ hr hB kr];have hc:0≤shM i*(pwM F i)⁻¹:=by
  refine Rat.mul_nonneg ?_ (Rat.le_of_lt (Rat.inv_pos.2 (a69 hF i)));unfold shM shA shB;rw[Rat.zpow_natCast,Rat.zpow_natCast];exact Rat.mul_nonneg (Rat.pow_nonneg Rat.natCast_nonneg) (Rat.le_of_lt (Rat.inv_pos.2 (Rat.pow_pos (Rat.natCast_pos.2 (by omega)))))
 have step:∀ a∈A,∀ b∈B,pos (a0k p a*a0k r b - F*(a0k q a*a0k s b))≤shM i*(pwM F i)⁻¹*(a0k p a ^ (i+1+1)*(a0k q a ^ (i+1))⁻¹*(a0k r b ^ (i+1+1)*(a0k s b ^ (i+1))⁻¹)):=by
  intro a _ b _;have z1:=hp.zero a;have z2:=hr.zero b;have z3:=hq.zero a;have z4:=hs.zero b;have n1:0≤a0k p a ^ (i+1+1)*(a0k q a ^ (i+1))⁻¹:=Rat.mul_nonneg (Rat.pow_nonneg z1) (by rw[← a4E];exact Rat.pow_nonneg (a8V z3));have n2:0≤a0k r b ^ (i+1+1)*(a0k s b ^ (i+1))⁻¹:=Rat.mul_nonneg (Rat.pow_nonneg z2) (by rw[← a4E];exact Rat.pow_nonneg (a8V z4));have nn:=Rat.mul_nonneg hc (Rat.mul_nonneg n1 n2);have hle0:0≤F*(a0k q a*a0k s b):=Rat.mul_nonneg F0 (Rat.mul_nonneg z3 z4)
  by_cases ha:a∈a00 p
  ·by_cases hb:b∈a00 r
   ·obtain⟨e,he,rfl⟩:=List.mem_map.1 ha
    obtain⟨g,hg,rfl⟩:=List.mem_map.1 hb;have p1:=(hp.pos_iff _).2 ha;have p2:=(hr.pos_iff _).2 hb;have p3:=(hq.pos_iff _).2 (i1 e he);have p4:=(hs.pos_iff _).2 (i2 g hg);have h:=b0H (Rat.mul_pos p1 p2) (Rat.mul_pos p3 p4) hF i;refine a6t (Rat.le_trans h ?_) nn;rw[a6d,a6d,a7H];generalize a0k p e.1 ^ (i+1+1)=x1;generalize a0k r g.1 ^ (i+1+1)=x2;generalize (a0k q e.1 ^ (i+1))⁻¹=x3;generalize (a0k s g.1 ^ (i+1))⁻¹=x4;have e9:x1*x2*(x3*x4)*shM i*(pwM F i)⁻¹=shM i*(pwM F i)⁻¹*(x1*x3*(x2*x4)):=by grind
    rw[e9];exact Rat.le_refl
   ·rw[a2x hb,Rat.mul_zero]at *
    refine a6t ?_ nn
    grind
  ·rw[a2x ha,Rat.zero_mul]at *
   refine a6t ?_ nn
   grind
 refine Rat.le_trans (a1a fun a ha=>a1a fun b hb=>step a ha b hb) ?_;have e1:∀ a∈A,a0p (fun b=>shM i*(pwM F i)⁻¹*(a0k p a ^ (i+1+1)*(a0k q a ^ (i+1))⁻¹*(a0k r b ^ (i+1+1)*(a0k s b ^ (i+1))⁻¹))) B =
   (shM i*(pwM F i)⁻¹*a0p (fun b=>a0k r b ^ (i+1+1)*(a0k s b ^ (i+1))⁻¹) B)*(a0k p a ^ (i+1+1)*(a0k q a ^ (i+1))⁻¹):=by
  intro a _;rw[a1i,a1i]
  grind
 rw[a0Q e1,a1i];generalize a0p (fun b=>a0k r b ^ (i+1+1)*(a0k s b ^ (i+1))⁻¹) B=X;generalize a0p (fun a=>a0k p a ^ (i+1+1)*(a0k q a ^ (i+1))⁻¹) A=Y;have e9:shM i*(pwM F i)⁻¹*X*Y=Y*X*shM i*(pwM F i)⁻¹:=by grind
 rw[e9];exact Rat.le_refl
theorem b4m{p x:DL}(hp:IsD p)(hx:IsD x){u:Rat}(hu:0≤u){late:ByteArray}{c:DL}(c0:∀ k,0≤a0k c k)(ks:∀ k∈a00 c,k∈a00 p)(cu:a0p (fun e=>e.2) c=u)
  (ex:∀ j,a0k x j=a0k p j - a0k c j+(if late=j then u else 0)):a1I x p 1≤u∧a1I p x 1≤u:=by
 obtain⟨K,hK,m⟩:=a1Y (a00 p++a00 x++[late])
 constructor
 ·rw[a1P hx hp (by decide) hK (fun k hk=>(m k).2 (by simp[hk]))]
  have h:a0p (fun k=>pos (a0k x k - 1*a0k p k)) K≤a0p (fun k=>1*(if late=k then u else 0)) K:=by
   refine a1a fun k _=>?_;rw[ex];have:=c0 k;refine a6t (by grind) ?_
   split<;>grind
  rw[a8y hK ((m late).2 (by simp)) (fun _=>1) u,Rat.one_mul]at h;exact h
 ·rw[a1P hp hx (by decide) hK (fun k hk=>(m k).2 (by simp[hk]))]
  have h:a0p (fun k=>pos (a0k p k - 1*a0k x k)) K≤a0p (fun k=>a0k c k) K:=by
   refine a1a fun k _=>?_;rw[ex];refine a6t ?_ (c0 k)
   split<;>grind
  rw[b1v hK (fun k hk=>(m k).2 (by simp[ks k hk])),cu]at h;exact h
end Go.Proofs.YtigapglmipmbeaaGreatDoor
namespace Go.Proofs.YtigapglmipmbeaaGreatDoor
open Go.RowKit Go.Shelf
open Lim
theorem b1g(a:ByteArray)(q:Rat)(w:World)(ha:a.size≤270000)(he:errQ a.data.toList=0)(hq:valQ a.data.toList=q)(h0:nm q=0) :
  Calls prog 110 #[.string a] w fun e w'=>e=.returned (.tuple #[.int .i64 0,.int .i64 0])∧Below w.heap.size w w':=by
 have HP:=b9W (a4k a w ha);have hne:((errQ a.data.toList:Int)==0)=true:=by rw[he];rfl
 have HE:=b9W he;rw[hq]at HP;have HF:=b9W (fun (b:Bool) (N:Nat) (h:ng q=b∧nm q=N)=>show (((toL N).length:Int)==0)=true∧b=b from⟨by rw[a2g,← h.2,decide_eq_true h0],rfl⟩);clear h0;clear he hq
 go_enter func110,ntmps110
 go_wp2_with (go_at_call 155;refine HP.out.mono ?_;rintro e w1 ⟨v,rfl,hv,-,hb⟩;obtain⟨bq,N,D,A,c,A',c',rfl,hn,hd,HQ⟩:=a0w (hv HE.out);have HB:=b9W hb;have HX:=b9W (a0d (Below.refl w1.heap.size w1) (.cells #[.bool bq,.slice A (toL N).length c,.slice A' (toL D).length c'] 170));have HBX:=b9W (HB.out.trans (HX.out.mono HB.out.size));have HN:=b9W (hn.below HX.out);have HD:=b9W (hd.below HX.out);clear hb hv hn hd;obtain⟨f1,f2⟩:=HF.out _ _ ⟨HQ.out.1,HQ.out.2.1⟩)
 all_goals first
  | (refine bodyPost_ret (results_tmp2 rfl _ _ _) rfl ?_;refine⟨?_,HBX.out⟩;show Ending.returned (.tuple #[.int .i64 0,.int .i64 (errQ a.data.toList:Int)])=_;rw[HE.out];rfl)
  | (exfalso;have:=HE.out;omega)
  | (exfalso;simp_all)
theorem b2d(a:ByteArray)(q:Rat)(w:World)(ha:a.size≤270000)(he:errQ a.data.toList=0)(hq:valQ a.data.toList=q)(h0:nm q≠0)(hb:ng q=true) :
  Calls prog 110 #[.string a] w fun e w'=>e=.returned (.tuple #[.int .i64 (-1),.int .i64 0])∧Below w.heap.size w w':=by
 have HP:=b9W (a4k a w ha);have hne:((errQ a.data.toList:Int)==0)=true:=by rw[he];rfl
 have HE:=b9W he;rw[hq]at HP;have HF:=b9W (fun (b:Bool) (N:Nat) (h:ng q=b∧nm q=N)=>show (((toL N).length:Int)==0)=false∧b=true from⟨by rw[a2g,← h.2,decide_eq_false h0],h.1.symm.trans hb⟩);clear h0 hb;clear he hq
 go_enter func110,ntmps110
 go_wp2_with (go_at_call 155;refine HP.out.mono ?_;rintro e w1 ⟨v,rfl,hv,-,hb⟩;obtain⟨bq,N,D,A,c,A',c',rfl,hn,hd,HQ⟩:=a0w (hv HE.out);have HB:=b9W hb;have HX:=b9W (a0d (Below.refl w1.heap.size w1) (.cells #[.bool bq,.slice A (toL N).length c,.slice A' (toL D).length c'] 170));have HBX:=b9W (HB.out.trans (HX.out.mono HB.out.size));have HN:=b9W (hn.below HX.out);have HD:=b9W (hd.below HX.out);clear hb hv hn hd;obtain⟨f1,f2⟩:=HF.out _ _ ⟨HQ.out.1,HQ.out.2.1⟩;subst f2)
 all_goals first
  | (refine bodyPost_ret (results_tmp2 rfl _ _ _) rfl ?_;exact⟨rfl,HBX.out⟩)
  | (exfalso;have:=beq_eq_false_iff_ne.1 f1;omega)
  | (exfalso;simp_all)
theorem b2C(a:ByteArray)(q:Rat)(w:World)(ha:a.size≤270000)(he:errQ a.data.toList=0)(hq:valQ a.data.toList=q)(h0:nm q≠0)(hb:ng q=false) :
  Calls prog 110 #[.string a] w fun e w'=>e=.returned (.tuple #[.int .i64 1,.int .i64 0])∧Below w.heap.size w w':=by
 have HP:=b9W (a4k a w ha);have hne:((errQ a.data.toList:Int)==0)=true:=by rw[he];rfl
 have HE:=b9W he;rw[hq]at HP;have HF:=b9W (fun (b:Bool) (N:Nat) (h:ng q=b∧nm q=N)=>show (((toL N).length:Int)==0)=false∧b=false from⟨by rw[a2g,← h.2,decide_eq_false h0],h.1.symm.trans hb⟩);clear h0 hb;clear he hq
 go_enter func110,ntmps110
 go_wp2_with (go_at_call 155;refine HP.out.mono ?_;rintro e w1 ⟨v,rfl,hv,-,hb⟩;obtain⟨bq,N,D,A,c,A',c',rfl,hn,hd,HQ⟩:=a0w (hv HE.out);have HB:=b9W hb;have HX:=b9W (a0d (Below.refl w1.heap.size w1) (.cells #[.bool bq,.slice A (toL N).length c,.slice A' (toL D).length c'] 170));have HBX:=b9W (HB.out.trans (HX.out.mono HB.out.size));have HN:=b9W (hn.below HX.out);have HD:=b9W (hd.below HX.out);clear hb hv hn hd;obtain⟨f1,f2⟩:=HF.out _ _ ⟨HQ.out.1,HQ.out.2.1⟩;subst f2)
 all_goals first
  | (refine bodyPost_ret (results_tmp2 rfl _ _ _) rfl ?_;exact⟨rfl,HBX.out⟩)
  | (exfalso;have:=beq_eq_false_iff_ne.1 f1;omega)
  | (exfalso;simp_all)
theorem b2a(a:ByteArray)(w:World)(ha:a.size≤270000)(he:errQ a.data.toList≠0) :
  Calls prog 110 #[.string a] w fun e w'=>e=.returned (.tuple #[.int .i64 0,.int .i64 (errQ a.data.toList:Int)])∧Below w.heap.size w w':=by
 have HP:=b9W (a4k a w ha);have hne:((errQ a.data.toList:Int)==0)=false:=by rw[beq_eq_false_iff_ne];omega
 have HE:=b9W he;clear he
 go_enter func110,ntmps110
 go_wp2_with ((go_at_call 155;refine HP.out.mono ?_;rintro e w1 ⟨v,rfl,-,hz,hb⟩;obtain rfl:=hz HE.out;have HB:=b9W hb;clear hb hz))
 all_goals first
  | (refine bodyPost_ret (results_tmp2 rfl _ _ _) rfl ?_;exact⟨rfl,a0d HB.out _⟩)
  | (exfalso;have:=HE.out;omega)
  | (exfalso;simp_all)
theorem b14(a:ByteArray)(w:World)(ha:a.size≤270000) :
  Calls prog 110 #[.string a] w fun e w'=>e=.returned (resI (oneI (fun p=>(sgQ p,0)) a.data.toList))∧Below w.heap.size w w':=by
 unfold oneI
 by_cases he:errQ a.data.toList=0
 ·rw[if_neg (by omega)]
  unfold resI sgQ
  dsimp only
  by_cases h0:nm (valQ a.data.toList)=0
  ·rw[if_pos h0]
   exact b1g a _ w ha he rfl h0
  ·rw[if_neg h0]
   cases hb:ng (valQ a.data.toList) with
   | true=>exact b2d a _ w ha he rfl h0 hb
   | false=>exact b2C a _ w ha he rfl h0 hb
 ·rw[if_pos he]
  exact b2a a w ha he
section
variable {a b:ByteArray} (ha:a.size≤270000) (hb:b.size≤270000)
include ha hb
theorem a7U:Ret 59 #[.string a,.string b] (resX (plX a b)):=fun w _=>by
 unfold plX;rw[← b0B (plX_t a b)];exact b39 a b w ha hb
theorem b3G:Ret 61 #[.string a,.string b] (resX (subX a b)):=fun w _=>by
 unfold subX;rw[← b0B (b8G a b)];exact b4r a b w ha hb
theorem b0b:Ret 149 #[.string a,.string b] (resX (mulX a b)):=fun w _=>by
 unfold mulX;rw[← b0B (b8U a b)];exact b3X a b w ha hb
theorem b7E:Ret 160 #[.string a,.string b] (resX (divX a b)):=fun w _=>by
 unfold divX;rw[← b0B (b8R a b)];exact b4E a b w ha hb
end
theorem b3g{a:ByteArray}(ha:a.size≤270000):Ret 110 #[.string a] (.tuple #[.int .i64 (if errQ a.data.toList≠0 then 0 else sgQ (valQ a.data.toList)),.int .i64 (errQ a.data.toList:Int)]):=fun w _=>by
 refine(b14 a w ha).mono ?_;rintro e w' ⟨rfl,h⟩;refine⟨?_,h⟩;unfold oneI resI
 split
 ·rfl
 ·rename_i h0
  rw[show errQ a.data.toList=0 from Classical.byContradiction h0]
theorem a5n{a:ByteArray}(ha:a.size≤270000)(h:errQ a.data.toList≠0):Ret 110 #[.string a] (.tuple #[.int .i64 0,.int .i64 (errQ a.data.toList:Int)]):=by
 have:=b3g ha
 rwa [if_pos h]at this
theorem a4K{a:ByteArray}(ha:a.size≤270000)(h:errQ a.data.toList=0):Ret 110 #[.string a] (.tuple #[.int .i64 (sgQ (valQ a.data.toList)),.int .i64 0]):=by
 have:=b3g ha;rw[if_neg (by simpa using h),h]at this;exact this
theorem a6y{p:ByteArray}(h:errQ p.data.toList≠0):posE p=errQ p.data.toList:=if_pos h
end Go.Proofs.YtigapglmipmbeaaGreatDoor
namespace Go.Proofs.YtigapglmipmbeaaGreatDoor
open Go.RowKit Go.Shelf
open Lim
attribute [local go_sem] Oper.semAt_some
theorem a6b(ls:List L2)(v:Value)(w:World)(hv:LRow w v ls)(hs:a1h ls)(hr:Res w) :
  Calls prog 37 #[v] w fun e w'=>e=.returned (.int .i64 (chkD ls:Int))∧Below w.heap.size w w':=by
 have HV:=b9W hv;obtain⟨A,c,rfl,hlen,hcells⟩:=hv;have HS:=b9W hs;have H0:=b9W (NW.refl hr);clear hr hcells hs
 go_enter func37,ntmps37
 go_wp2
 go_loopw [3] (fun v3 wr=>∃ k:Nat,k≤ls.length∧v3=.int .i64 (k:Int)∧Hid (chkL none ls=chkL (b58 ls k) (ls.drop k))∧Hid (NW w wr)) (fun v3 _=>ls.length - (intOf v3).toNat)
 case atStart=>exact⟨0,Nat.zero_le _,rfl,b9W (by simp[b58]),H0⟩
 case round =>
  clear H0;obtain⟨k,hk,rfl,HE,HN⟩:=hrel
  by_cases hlt:k < ls.length
  ·obtain⟨x,hx⟩:∃ x,ls[k]?=some x:=⟨_,List.getElem?_eq_getElem hlt⟩
   obtain⟨b,o,c',e',hb2,c0,c1⟩:=HV.out.at HN.out.below hx
   simp only[Value.slice.injEq,true_and]at e'
   obtain⟨rfl,rfl⟩:=e';have hlt':(k:Int) < (ls.length:Int):=by omega
   have hsx:=(HS.out x (List.mem_of_getElem? hx)).2;have HD:=b9W (a2U hx);have HLT:=b9W (And.intro hlt hlt');have HXK:=b9W hx;obtain⟨f,d⟩:=x
   dsimp only at c0 c1 HD HXK hsx
   clear hx hlt
   by_cases h0:errQ d.data.toList=0
   ·have HSG:=b9W (a4K hsx h0)
    by_cases h2:0 < valQ d.data.toList
    ·have d1:decide (sgQ (valQ d.data.toList)≤0)=false:=decide_eq_false (fun h=>by have:=(b7A _).2 h2;omega)
     have h1:posE d=0:=a4z.2 ⟨h0,by grind⟩;have HH:=b9W (And.intro h1 h2);clear h0 h1 h2 hsx;generalize sgQ (valQ d.data.toList)=sg at *
     rcases Nat.eq_zero_or_pos k with hk0|hk0
     ·have HR:=b9W (show chkL none ls=chkL (b58 ls (k+1)) (ls.drop (k+1)) by
       rw[HE.out,HD.out,a5s HXK.out,hk0];exact b2n (x:=(f,d)) HH.out.1 HH.out.2 rfl)
      have d0:decide (0 < (k:Int))=false:=decide_eq_false (by omega);have d0n:decide (0 < k)=false:=decide_eq_false (by omega);clear hk0
      go_wp2_with (go_at_call 110;refine(HSG.out _ HN.out.res).mono ?_;rintro e w3 ⟨rfl,hb⟩;have H3:=b9W (HN.out.later hb);have hb3:=Nat.lt_of_lt_of_le hb2 hb.size;clear hb)
      go_quiet (fail)
      have H4:=b9W (fun n=>H3.out.drewN n);go_wp2
      go_roundw
      case rel=>exact⟨k+1,HLT.out.1,by go_num,HR,H4.out _⟩
      case measure=>have:=HLT.out.1;simp[intOf];omega
     ·obtain⟨j,hj⟩:∃ j,k=j+1:=⟨k - 1,by omega⟩
      have hjl:(j:Int) < (ls.length:Int):=by have:=HLT.out.1;omega
      obtain⟨y,hy⟩:∃ y,ls[j]?=some y:=⟨_,List.getElem?_eq_getElem (by omega)⟩;have e1:(k:Int) - 1=(j:Int):=by omega
      have d0:decide (0 < (k:Int))=true:=decide_eq_true (by omega);have d0n:decide (0 < k)=true:=decide_eq_true (by omega);have HKJ:=b9W hj;clear hk0 hj;have HYK:=b9W hy
      cases h3:ltK y.1 f with
      | true =>
       have HR:=b9W (show chkL none ls=chkL (b58 ls (k+1)) (ls.drop (k+1)) by
        rw[HE.out,HD.out,a5s HXK.out,HKJ.out,a5s hy];exact b2n (x:=(f,d)) HH.out.1 HH.out.2 (by show (!ltK y.1 f)=false;rw[h3];rfl))
       have TL:=a9W y.1 f;rw[h3]at TL;clear h3 hy
       go_wp2_with (go_at_call 110;refine(HSG.out _ HN.out.res).mono ?_;rintro e w3 ⟨rfl,hb⟩;have H3:=b9W (HN.out.later hb);have hb3:=Nat.lt_of_lt_of_le hb2 hb.size;obtain⟨hb4,q0,q1⟩:=HV.out.cell2 H3.out.below HXK.out;obtain⟨hb5,p0,p1⟩:=HV.out.cell2 H3.out.below HYK.out;clear hb)
       go_quiet (fail)
       have H4:=b9W (fun n=>H3.out.drewN n);go_wp2
       go_roundw
       case rel=>exact⟨k+1,HLT.out.1,by go_num,HR,H4.out _⟩
       case measure=>have:=HLT.out.1;simp[intOf];omega
      | false =>
       have HR:=b9W (show chkL none ls=9 by
        rw[HE.out,HD.out,HKJ.out,a5s hy];exact b3i (x:=(f,d)) HH.out.1 HH.out.2 (by show (!ltK y.1 f)=true;rw[h3];rfl))
       have TL:=a9W y.1 f;rw[h3]at TL;clear h3 hy
       go_wp2_with (go_at_call 110;refine(HSG.out _ HN.out.res).mono ?_;rintro e w3 ⟨rfl,hb⟩;have H3:=b9W (HN.out.later hb);have hb3:=Nat.lt_of_lt_of_le hb2 hb.size;obtain⟨hb4,q0,q1⟩:=HV.out.cell2 H3.out.below HXK.out;obtain⟨hb5,p0,p1⟩:=HV.out.cell2 H3.out.below HYK.out;clear hb)
       go_quiet (fail)
       have H4:=b9W (fun n=>H3.out.drewN n);go_wp2
       go_ret
       refine⟨?_,(H4.out _).below⟩;unfold chkD;rw[HR.out]
       rfl
    ·have d1:decide (sgQ (valQ d.data.toList)≤0)=true:=decide_eq_true (Classical.byContradiction fun h=>h2 ((b7A _).1 (by omega)))
     have HR:=b9W (show chkL none ls=2 by
      rw[HE.out,HD.out]
      by_cases h1:posE d=0
      ·exact b3D (x:=(f,d)) h1 h2
      ·rw[b0h (x:=(f,d)) h1]
       show posE d=2
       unfold posE at h1 ⊢;rw[if_neg (by simpa using h0)]at h1 ⊢
       split
       ·rfl
       ·rename_i h4;rw[if_neg h4]at h1;exact absurd rfl h1)
     generalize sgQ (valQ d.data.toList)=sg at *;clear h0 h2 hsx
     go_wp2_with (go_at_call 110;refine(HSG.out _ HN.out.res).mono ?_;rintro e w3 ⟨rfl,hb⟩;have H3:=b9W (HN.out.later hb);have hb3:=Nat.lt_of_lt_of_le hb2 hb.size;clear hb)
     go_ret
     refine⟨?_,H3.out.below⟩;unfold chkD;rw[HR.out]
     rfl
   ·have HSG:=b9W (a5n hsx h0)
    have HR:=b9W (show chkL none ls=errQ d.data.toList∧chkL none ls≠0 by
     rw[HE.out,HD.out,b0h (x:=(f,d)) (by show posE d≠0;rw[a6y h0];exact h0)]
     show posE d=_∧posE d≠0
     rw[a6y h0];exact⟨rfl,h0⟩)
    have hm:=a1E h0;clear h0 hsx
    go_wp2_with (go_at_call 110;refine(HSG.out _ HN.out.res).mono ?_;rintro e w3 ⟨rfl,hb⟩;have H3:=b9W (HN.out.later hb);have hb3:=Nat.lt_of_lt_of_le hb2 hb.size;clear hb)
    go_ret
    refine⟨?_,H3.out.below⟩;unfold chkD;rw[if_pos HR.out.2,HR.out.1]
    rfl
  ·have hlt':¬ (k:Int) < (ls.length:Int):=by omega
   obtain rfl:k=ls.length:=by omega
   have h0:chkL none ls=0:=by
    have:=HE.out;rw[List.drop_length]at this;exact this
   have HQ:=b9W (show chkD ls=chkS (a1q (fun x:L2=>.ok x.2) zT ls) by unfold chkD;rw[h0];rfl);have HER:=b9W (b8Z h0);clear h0 hlt hk HE;go_wp2
   go_loopw [6,8] (fun v6 v8 wq=>∃ (k:Nat) (s:ByteArray),k≤ls.length∧v8=.int .i64 (k:Int)∧v6=.string s∧Hid (errQ s.data.toList=0∧a1q (fun x:L2=>(.ok x.2:XE)) zT ls=a1q (fun x:L2=>.ok x.2) s (ls.drop k))∧Hid (NW w wq)) (fun _ v8 _=>ls.length - (intOf v8).toNat)
   case atStart=>exact⟨0,zT,Nat.zero_le _,rfl,rfl,b9W ⟨a4m,by simp⟩,HN⟩
   case round =>
    clear HN hlt';obtain⟨k,s,hk,rfl,rfl,HE,HN⟩:=hrel
    by_cases hlt:k < ls.length
    ·obtain⟨x,hx⟩:∃ x,ls[k]?=some x:=⟨_,List.getElem?_eq_getElem hlt⟩
     obtain⟨b,o,c',e',hb2,c0,c1⟩:=HV.out.at HN.out.below hx
     simp only[Value.slice.injEq,true_and]at e'
     obtain⟨rfl,rfl⟩:=e';have hlt':(k:Int) < (ls.length:Int):=by omega
     have HD:=b9W (a2U hx);have HLT:=b9W (And.intro hlt hlt');have HA:=b9W (a7U (a14 HE.out.1) (HS.out x (List.mem_of_getElem? hx)).2);obtain⟨f,d⟩:=x
     dsimp only at c0 c1 HD HA
     clear hx hlt
     cases ha:plX s d with
     | error n =>
      have HR:=b9W (show a1q (fun x:L2=>(.ok x.2:XE)) zT ls=.error n by rw[HE.out.2,HD.out];exact a6S rfl ha);have hm:=a1E (a18 ha);rw[ha]at HA;change Hid (Ret _ _ (.tuple #[.string ⟨#[]⟩,.int .i64 (n:Int)])) at HA;clear ha
      go_wp2_with (go_at_call 59;refine(HA.out _ HN.out.res).mono ?_;rintro e w3 ⟨rfl,hb⟩;have H3:=b9W (HN.out.later hb);clear hb)
      go_ret
      rw[HQ.out,HR.out];exact⟨rfl,H3.out.below⟩
     | ok t =>
      have HR:=b9W (show errQ t.data.toList=0∧a1q (fun x:L2=>(.ok x.2:XE)) zT ls=a1q (fun x:L2=>.ok x.2) t (ls.drop (k+1)) from⟨b03 ha,by rw[HE.out.2,HD.out];exact a6M rfl ha⟩);rw[ha]at HA;change Hid (Ret _ _ (.tuple #[.string t,.int .i64 0])) at HA;clear ha
      go_wp2_with (go_at_call 59;refine(HA.out _ HN.out.res).mono ?_;rintro e w3 ⟨rfl,hb⟩;have H3:=b9W (HN.out.later hb);clear hb)
      go_roundw
      case rel=>exact⟨k+1,t,HLT.out.1,by go_num,rfl,HR,H3⟩
      case measure=>have:=HLT.out.1;simp[intOf];omega
    ·have hlt':¬ (k:Int) < (ls.length:Int):=by omega
     obtain rfl:k=ls.length:=by omega
     have HR:=b9W (show a1q (fun x:L2=>(.ok x.2:XE)) zT ls=.ok s by
      have:=HE.out.2
      rwa [List.drop_length]at this)
     have TE:=a7J s oT;rw[b9K]at TE;rw[HR.out,b9n]at HQ;clear hlt
     by_cases h1:s=oT
     ·rw[decide_eq_true h1]at TE
      rw[if_pos h1]at HQ;clear h1;go_wp2
      go_ret
      rw[HQ.out];exact⟨rfl,HN.out.below⟩
     ·rw[decide_eq_false h1]at TE
      rw[if_neg h1]at HQ;clear h1;go_wp2
      go_ret
      rw[HQ.out];exact⟨rfl,HN.out.below⟩
theorem a6Y(p q:List L2)(vp vq:Value)(w:World)(hp:LRow w vp p)(hq:LRow w vq q)(sp:a1h p)(sq:a1h q)(hr:Res w) :
  Calls prog 114 #[vp,vq] w fun e w'=>e=.returned (.int .i64 (chk2 p q:Int))∧Below w.heap.size w w':=by
 have N0:=b9W (NW.refl hr);have TKA:True:=trivial;have HP:=b9W (a6b p vp w hp sp hr);have HQ:=b9W (fun W (hW:NW w W)=>a6b q vq W (hq.below hW.below) sq hW.res);clear hp hq sp sq hr
 by_cases h0:chkD p=0
 ·have HR:=b9W (show chk2 p q=chkD q from if_neg (by simpa using h0))
  rw[h0]at HP;change Hid (Calls _ _ _ _ fun e w'=>e=.returned (.int .i64 0)∧_) at HP;clear h0
  go_enter func114,ntmps114
  go_wp2_with (first
   | (clear TKA;go_at_call 37;refine HP.out.mono ?_;rintro e w1 ⟨rfl,hb⟩;have N1:=b9W (N0.out.later hb);clear hb)
   | (go_at_call 37;refine(HQ.out _ N1.out).mono ?_;rintro e w2 ⟨rfl,hb⟩;have N2:=b9W (N1.out.later hb);clear hb))
  go_ret
  rw[HR.out];exact⟨rfl,N2.out.below⟩
 ·have HR:=b9W (show chk2 p q=chkD p from if_pos h0)
  have hm:=a1E h0;clear h0
  go_enter func114,ntmps114
  go_wp2_with (clear TKA;go_at_call 37;refine HP.out.mono ?_;rintro e w1 ⟨rfl,hb⟩;have N1:=b9W (N0.out.later hb);clear hb)
  go_ret
  rw[HR.out];exact⟨rfl,N1.out.below⟩
theorem b9B{x:L2}{l:List L2}{k:ByteArray}(h:x.1=k):atT (x::l) k=x.2∧hasT (x::l) k=true:=by unfold atT hasT;rw[if_pos h,if_pos h];exact⟨rfl,rfl⟩
theorem b7y{x:L2}{l:List L2}{k:ByteArray}(h:x.1≠k):atT (x::l) k=atT l k∧hasT (x::l) k=hasT l k:=by
 constructor
 ·conv=>lhs;unfold atT
  rw[if_neg h]
 ·conv=>lhs;unfold hasT
  rw[if_neg h]
theorem a9M(ls:List L2)(v:Value)(key:ByteArray)(w:World)(hv:LRow w v ls) :
  Calls prog 126 #[v,.string key] w fun e w'=>e=.returned (.tuple #[.string (atT ls key),.bool (hasT ls key)])∧w'=w:=by
 have HV:=b9W hv;obtain⟨A,c,rfl,hlen,hcells⟩:=hv;clear hcells
 go_enter func126,ntmps126
 go_wp2
 go_loopw [6] (fun v6 wr=>∃ k:Nat,k≤ls.length∧v6=.int .i64 (k:Int)∧Hid (atT ls key=atT (ls.drop k) key∧hasT ls key=hasT (ls.drop k) key)∧wr=w) (fun v6 _=>ls.length - (intOf v6).toNat)
 case atStart=>exact⟨0,Nat.zero_le _,rfl,b9W (by simp),rfl⟩
 case round =>
  obtain⟨k,hk,rfl,HE,rfl⟩:=hrel
  by_cases hlt:k < ls.length
  ·obtain⟨x,hx⟩:∃ x,ls[k]?=some x:=⟨_,List.getElem?_eq_getElem hlt⟩
   obtain⟨b,o,c',e',hb2,c0,c1⟩:=HV.out.at (Below.refl _ _) hx
   simp only[Value.slice.injEq,true_and]at e'
   obtain⟨rfl,rfl⟩:=e';have hlt':(k:Int) < (ls.length:Int):=by omega
   have HD:=b9W (a2U hx);have HLT:=b9W (And.intro hlt hlt');obtain⟨f,d⟩:=x
   dsimp only at c0 c1 HD
   have TE:=a7J f key;clear hx hlt
   by_cases h1:f=key
   ·rw[decide_eq_true h1]at TE
    have HR:=b9W (show atT ls key=d∧hasT ls key=true by rw[HE.out.1,HE.out.2,HD.out];exact b9B h1);clear h1;go_wp2
    go_ret2
    rw[HR.out.1,HR.out.2];exact⟨rfl,rfl⟩
   ·rw[decide_eq_false h1]at TE
    have HR:=b9W (show atT ls key=atT (ls.drop (k+1)) key∧hasT ls key=hasT (ls.drop (k+1)) key by rw[HE.out.1,HE.out.2,HD.out];exact b7y h1);clear h1;go_wp2
    go_roundw
    case rel=>exact⟨k+1,HLT.out.1,by go_num,HR,trivial⟩
    case measure=>have:=HLT.out.1;simp[intOf];omega
  ·have hlt':¬ (k:Int) < (ls.length:Int):=by omega
   obtain rfl:k=ls.length:=by omega
   have HR:=b9W (show atT ls key=zT∧hasT ls key=false by
    have:=HE.out;rw[List.drop_length]at this;exact this)
   clear hlt;go_wp2
   go_ret2
   rw[HR.out.1,HR.out.2];exact⟨rfl,rfl⟩
theorem b3f(ls:List L2)(v:Value)(key:ByteArray)(w:World)(hv:LRow w v ls) :
  Calls prog 39 #[v,.string key] w fun e w'=>e=.returned (.string (atT ls key))∧w'=w:=by
 have HF:=b9W (a9M ls v key w hv);clear hv
 go_enter func39,ntmps39
 go_wp2_with (go_at_call 126;refine HF.out.mono ?_;rintro e w1 ⟨rfl,rfl⟩)
 go_ret
 exact⟨rfl,rfl⟩
theorem b9l{x:L2}{l q:List L2}(h:hasT q x.1=true):inX (x::l) q=inX l q:=by
 conv=>lhs;unfold inX
 rw[if_pos h]
theorem b63{x:L2}{l q:List L2}(h:hasT q x.1=false):inX (x::l) q=false:=by
 unfold inX;rw[if_neg (by rw[h];decide)]
theorem b1I(p q:List L2)(vp vq:Value)(w:World)(hp:LRow w vp p)(hq:LRow w vq q) :
  Calls prog 159 #[vp,vq] w fun e w'=>e=.returned (.bool (inX p q))∧w'=w:=by
 have HV:=b9W hp;have HF:=b9W (fun k=>a9M q vq k w hq);obtain⟨A,c,rfl,hlen,hcells⟩:=hp;clear hcells hq
 go_enter func159,ntmps159
 go_wp2
 go_loopw [5] (fun v5 wr=>∃ k:Nat,k≤p.length∧v5=.int .i64 (k:Int)∧Hid (inX p q=inX (p.drop k) q)∧wr=w) (fun v5 _=>p.length - (intOf v5).toNat)
 case atStart=>exact⟨0,Nat.zero_le _,rfl,b9W (by simp),rfl⟩
 case round =>
  obtain⟨k,hk,rfl,HE,rfl⟩:=hrel
  by_cases hlt:k < p.length
  ·obtain⟨x,hx⟩:∃ x,p[k]?=some x:=⟨_,List.getElem?_eq_getElem hlt⟩
   obtain⟨b,o,c',e',hb2,c0,c1⟩:=HV.out.at (Below.refl _ _) hx
   simp only[Value.slice.injEq,true_and]at e'
   obtain⟨rfl,rfl⟩:=e';have hlt':(k:Int) < (p.length:Int):=by omega
   have HD:=b9W (a2U hx);have HLT:=b9W (And.intro hlt hlt');obtain⟨f,d⟩:=x
   dsimp only at c0 c1 HD
   have HFK:=b9W (HF.out f);clear hx hlt
   cases h1:hasT q f with
   | true =>
    have HR:=b9W (show inX p q=inX (p.drop (k+1)) q by rw[HE.out,HD.out];exact b9l h1);rw[h1]at HFK;clear h1
    go_wp2_with (go_at_call 126;refine HFK.out.mono ?_;rintro e w1 ⟨rfl,rfl⟩)
    go_roundw
    case rel=>exact⟨k+1,HLT.out.1,by go_num,HR,trivial⟩
    case measure=>have:=HLT.out.1;simp[intOf];omega
   | false =>
    have HR:=b9W (show inX p q=false by rw[HE.out,HD.out];exact b63 h1);rw[h1]at HFK;clear h1
    go_wp2_with (go_at_call 126;refine HFK.out.mono ?_;rintro e w1 ⟨rfl,rfl⟩)
    go_ret
    rw[HR.out];exact⟨rfl,rfl⟩
  ·have hlt':¬ (k:Int) < (p.length:Int):=by omega
   obtain rfl:k=p.length:=by omega
   have HR:=b9W (show inX p q=true by
    have:=HE.out;rw[List.drop_length]at this;exact this)
   clear hlt;go_wp2
   go_ret
   rw[HR.out];exact⟨rfl,rfl⟩
end Go.Proofs.YtigapglmipmbeaaGreatDoor
namespace Go.Proofs.YtigapglmipmbeaaGreatDoor
open Go.RowKit
structure a0v (w:World) where
 W:World
 h:Below w.heap.size w W
instance (w:World):Nonempty (a0v w):=⟨⟨w,Below.refl _ _⟩⟩
theorem a71{P:Program}{id:Nat}{Q:Exit→Act→World→Prop}{a:Act}{w:World}{l:List Oper}(hm:P.follows .mixedOrders=true)(hB:Region.lexB .any l.toArray=true)
  (h:wpQuiet P l.toArray (fun W=>∃ x:a0v w,W=x.W) (fun a'=>∀ W,(∃ x:a0v w,W=x.W)→Q .normal a' W) l a):(Code.region id l.toArray true).wp P Q a w :=
 wp_region_quiet (C:=fun W=>∃ x:a0v w,W=x.W) hm hB ⟨⟨{ w with drawn:=w.drawn+1 },⟨rfl,rfl,rfl,Nat.le_refl _,fun _ _=>rfl⟩⟩,rfl⟩ (by simpa using h)
end Go.Proofs.YtigapglmipmbeaaGreatDoor
