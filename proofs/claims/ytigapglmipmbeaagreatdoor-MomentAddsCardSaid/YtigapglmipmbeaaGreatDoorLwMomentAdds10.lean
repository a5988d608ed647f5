/- The reference's Read of a rational number: what it returns; the reference's Check. -/
import Derived.Test.YtigapglmipmbeaaGreatDoorLwMomentAdds09
import Derived.Test.YtigapglmipmbeaaGreatDoorLwMomentAdds08
import Derived.Test.YtigapglmipmbeaaGreatDoorLwMomentAdds07
import Derived.Test.YtigapglmipmbeaaGreatDoorLwMomentAdds05
import Derived.Recover
import Derived.Defers
import Derived.Test.YtigapglmipmbeaaGreatDoorLwMomentAdds03
set_option maxRecDepth 100000
set_option maxHeartbeats 16000000
open Go.Proofs.Tryz
namespace Go.Proofs.YtigapglmipmbeaaGreatDoor
open Go.RowKit Go.Shelf
open Lim
theorem b9O{w:World}{v:Value}{m:Bool}{n d:Nat}(hd:d≠0)(hg:n.gcd d=1)(hm:m=true→n≠0)(h:a08 w v m n d):IsQ w v (mkQ m n d):=by
 obtain⟨h1,h2,h3⟩:=a7c (m:=m) hd hg;unfold IsQ;rw[h1,h2,h3];have:(m&&decide (n≠0))=m:=by
  cases m with
  | false=>rfl
  | true=>simpa using hm rfl
 rw[this];exact h
theorem a8T{n d k:Nat}(h1:(toL n).length≤k)(h2:(toL d).length≤k):(toL (n.gcd d)).length≤k:=by
 by_cases h:n=0
 ·subst h;rw[Nat.gcd_zero_left];exact h2
 ·exact Nat.le_trans (a0Z (Nat.le_of_dvd (Nat.pos_of_ne_zero h) (Nat.gcd_dvd_left n d))) h1
theorem b3m:dv [49]=1:=by rw[← a7X,a1S]
theorem b7q(s:ByteArray):∃ k,a2j s.data.toList k∧k≤s.size∧(s.extract 0 k).data.toList=(cutQ s.data.toList).1 ∧
  ((k=s.size∧(cutQ s.data.toList).2=none)∨(k < s.size∧(cutQ s.data.toList).2=some (s.extract (k+1) s.size).data.toList)):=by
 have hsz:=a0F s
 rcases a5q s.data.toList with⟨a,r,e,hn⟩|hn
 ·have hl:s.size=a.length+(r.length+1):=by rw[hsz,e];simp
  have e1:(s.extract 0 a.length).data.toList=a:=by rw[a1R,e];simp
  have e2:(s.extract (a.length+1) s.size).data.toList=r:=by
   rw[a1R,hsz,List.take_length,e,← List.drop_drop]
   simp
  have ec:cutQ s.data.toList=(a,some r):=by rw[e];exact a3y hn
  refine⟨a.length,.inl ⟨by omega,?_⟩,by omega,by rw[e1,ec],.inr ⟨by omega,by rw[e2,ec]⟩⟩;have t1:s.data.toList.take a.length=a:=by rw[e];simp
  have t2:s.data.toList.drop (a.length+1)=r:=by rw[e,← List.drop_drop];simp
  rw[ec,t1,t2]
 ·have ec:=a4h hn
  refine⟨s.size,.inr ⟨hsz,ec⟩,Nat.le_refl _,?_,.inl ⟨rfl,by rw[ec]⟩⟩;rw[a1R,hsz,List.take_length,ec]
  rfl
theorem b9h(l:List UInt8):l.length≤(intP l).2.length+1:=by
 unfold intP
 split
 ·simp only[List.length_drop];omega
 ·exact Nat.le_succ _
theorem b5x(s:ByteArray)(w:World)(hlen:s.size≤9223372036854775807) :
  Calls prog 155 #[.string s] w fun e w'=>∃ v,e=.returned (.tuple #[v,.int .i64 (errQ s.data.toList:Int)])∧(errQ s.data.toList=0→IsQ w' v (valQ s.data.toList))∧(errQ s.data.toList≠0→v=zV)∧Below w.heap.size w w':=by
 obtain⟨k,hk,hks,hex,hcase⟩:=b7q s;obtain⟨hle1,hle2⟩:=b6w s.data.toList;rw[← a0F]at hle1 hle2;have hE:errQ s.data.toList=match a2R s.data.toList with|none=>3|some (_,n,d,sl)=>if maxD < Lib.nDigits n∨maxD < Lib.nDigits d then 5 else if sl&&n.gcd d != 1 then 3 else 0:=rfl
 have hV:valQ s.data.toList=match a2R s.data.toList with|none=>0|some (m,n,d,_)=>mkQ m n d:=rfl
 have hS:a2R s.data.toList=if a1k (cutQ s.data.toList).1 then match (cutQ s.data.toList).2 with|none=>some ((intP (cutQ s.data.toList).1).1,dv (intP (cutQ s.data.toList).1).2,1,false)|some d=>if (intP (cutQ s.data.toList).1).2 != [48]&&(a1b d&&(d != [48]&&d != [49])) then some ((intP (cutQ s.data.toList).1).1,dv (intP (cutQ s.data.toList).1).2,dv d,true) else none else none:=rfl
 have hTS:∀ m n d sl,a2R s.data.toList=some (m,n,d,sl)→(m=true→n≠0)∧d≠0:=fun m n d sl h=>⟨(a2H h).2.1,(a2H h).2.2.1⟩;generalize cutQ s.data.toList=c at hex hcase hle1 hle2 hS;obtain⟨la,ob⟩:=c
 dsimp only at hex hcase hle1 hle2 hS
 have hip:intP (s.extract 0 k).data.toList=((intP la).1,(intP la).2):=by rw[hex]
 have hile:=a99 la;have hige:=b9h la;have hkl:k=la.length:=by rw[← hex,a1R,List.length_drop,List.length_take,← a0F];omega
 have hokf:a1k la=true→a1b (intP la).2=true:=fun h=>by
  unfold a1k at h
  simp only[Bool.and_eq_true]at h
  exact h.1
 generalize hm:(intP la).1=m at *;generalize hl:(intP la).2=ln at *;have err:∀ k:Nat,k≠0→errQ s.data.toList=k→Calls prog 155 #[.string s] w (fun e w'=>∃ v,v=zV∧e=.returned (.tuple #[v,.int .i64 (k:Int)])∧Below w.heap.size w w') →
   Calls prog 155 #[.string s] w fun e w'=>∃ v,e=.returned (.tuple #[v,.int .i64 (errQ s.data.toList:Int)])∧(errQ s.data.toList=0→IsQ w' v (valQ s.data.toList))∧(errQ s.data.toList≠0→v=zV)∧Below w.heap.size w w':=fun k hk he h=>by
  rw[he];exact h.mono fun e w' ⟨v,hz,h1,h2⟩=>⟨v,h1,fun h0=>absurd h0 hk,fun _=>hz,h2⟩
 have good:∀ (n d:Nat) (sl:Bool),a2R s.data.toList=some (m,n,d,sl)→errQ s.data.toList=0→n.gcd d=1→Calls prog 155 #[.string s] w (fun e w'=>∃ v,e=.returned (.tuple #[v,.int .i64 0])∧a08 w' v m n d∧Below w.heap.size w w') →
   Calls prog 155 #[.string s] w fun e w'=>∃ v,e=.returned (.tuple #[v,.int .i64 (errQ s.data.toList:Int)])∧(errQ s.data.toList=0→IsQ w' v (valQ s.data.toList))∧(errQ s.data.toList≠0→v=zV)∧Below w.heap.size w w':=fun n d sl hs he hg h=>by
  rw[he];refine h.mono fun e w' ⟨v,h1,h2,h3⟩=>⟨v,h1,fun _=>?_,fun h=>absurd rfl h,h3⟩;rw[hV,hs];obtain⟨t1,t2⟩:=hTS _ _ _ _ hs;exact b9O t2 hg t1 h2
 have hsz:∀ l:List UInt8,(⟨l.toArray⟩:ByteArray).size=l.length:=fun l=>List.size_toArray;have htl:∀ l:List UInt8,(⟨l.toArray⟩:ByteArray).toList=l:=fun l=>by rw[Lib.toList_data]
 have hN:(⟨ln.toArray⟩:ByteArray).size≤9223372036854775807:=by rw[hsz];omega
 by_cases hok:a1k la=true
 ·have hnf:=hokf hok
  have hok1:a1k (s.extract 0 k).data.toList=true:=by rw[hex];exact hok
  rw[if_pos hok]at hS;have hnd:=a2l hnf
  rcases hcase with⟨hke,rfl⟩|⟨hke,rfl⟩
  ·dsimp only at hS
   have hsp:=hS;rw[hS]at hE
   dsimp only at hE
   rw[hnd,Lib.nDigits_small (by omega:1 < 10)]at hE
   by_cases hlong:4000 < ln.length
   ·rw[if_pos (.inl hlong)]at hE
    exact err 5 (by decide) hE (a88 s ⟨ln.toArray⟩ k m _ w (by omega) (by omega) hk hks hip hok1 hke rfl (by rw[hsz];exact hlong))
   ·rw[if_neg (by unfold maxD;omega)]at hE
    have hl1:(toL 1).length≤30000:=Nat.le_trans (a11 (show 1 < B ^ 1 by rw[a0B];omega)) (by omega);have hl2:(toL (dv ln)).length≤30000:=Nat.le_trans (a1U hnf (k:=500) (by omega)) (by omega);have hR:=b0J s ⟨ln.toArray⟩ k m _ w (by omega) (by rw[hsz];omega) hk hks hip hok1 hke rfl (by rw[hsz];omega) (a1A hnf) ⟨hl2,by rw[b3m];exact hl1⟩ (Nat.le_trans (a8T hl2 (by rw[b3m];exact hl1)) (by omega)) (by rw[b3m];exact Nat.gcd_one_right _);rw[b3m]at hR;exact good _ _ _ hsp (by rw[hE];rfl) (Nat.gcd_one_right _) hR
  ·dsimp only[Option.getD]at hS hle2
   have hbl:=a0F (s.extract (k+1) s.size);have hbt:=fun x=>show ((s.extract (k+1) s.size).toList==x)=((s.extract (k+1) s.size).data.toList==x) by rw[Lib.toList_data]
   have hR2:=b51 s ⟨ln.toArray⟩ k m _ w (by omega) (by omega) hk hks hip hok1 hke rfl;have hR3:=b6h s ⟨ln.toArray⟩ k m _ w (by omega) (by omega) hk hks hip hok1 hke rfl;have hR4:=b43 s ⟨ln.toArray⟩ k m _ w (by omega) (by omega) hk hks hip hok1 hke rfl;have hR5:=b6F s ⟨ln.toArray⟩ k m _ w (by omega) (by omega) hk hks hip hok1 hke rfl;have hL1:=b4l s ⟨ln.toArray⟩ k m _ w (by omega) (by omega) hk hks hip hok1 hke rfl;have hL2:=b3U s ⟨ln.toArray⟩ k m _ w (by omega) (by omega) hk hks hip hok1 hke rfl;have hG:=fun (hlen:s.size≤270000) (hN:ln.length≤270000)=>b8b s ⟨ln.toArray⟩ k m _ w hlen (by rw[hsz];exact hN) hk hks hip hok1 hke rfl;have hO:=fun (hlen:s.size≤270000) (hN:ln.length≤270000)=>b9E s ⟨ln.toArray⟩ k m _ w hlen (by rw[hsz];exact hN) hk hks hip hok1 hke rfl;have hsd:s.size≤k+1+(s.extract (k+1) s.size).data.toList.length:=by rw[a1R,List.length_drop,List.length_take,← a0F];omega
   rw[htl]at hR2 hR3 hR4 hR5 hL1 hL2 hG hO;rw[hbt]at hR4 hR5 hL1 hL2 hG hO;rw[hbt]at hR5 hL1 hL2 hG hO;rw[hsz ln]at hL1 hL2 hG hO;rw[hbl]at hL2 hG hO;clear hbl hbt hip hex
   dsimp only at hG hO
   generalize (s.extract (k+1) s.size).data.toList=d at *
   by_cases z0:(ln==[48])=true
   ·rw[if_neg (by simp[bne,z0])]at hS
    rw[hS]at hE;exact err 3 (by decide) hE (hR2 z0)
   have z0:(ln==[48])=false:=by simpa using z0
   by_cases hF:a1b d=false
   ·rw[if_neg (by simp[hF])]at hS
    rw[hS]at hE;exact err 3 (by decide) hE (hR3 z0 hF)
   have hF:a1b d=true:=by simpa using hF
   by_cases z1:(d==[48])=true
   ·rw[if_neg (by simp[bne,z1])]at hS
    rw[hS]at hE;exact err 3 (by decide) hE (hR4 z0 hF z1)
   have z1:(d==[48])=false:=by simpa using z1
   by_cases z2:(d==[49])=true
   ·rw[if_neg (by simp[bne,z2])]at hS
    rw[hS]at hE;exact err 3 (by decide) hE (hR5 z0 hF z1 z2)
   have z2:(d==[49])=false:=by simpa using z2
   rw[if_pos (by simp only[bne,z0,hF,z1,z2];rfl)]at hS;have hsp:=hS;rw[hS]at hE
   dsimp only at hE
   rw[hnd,a2l hF]at hE
   by_cases hlong:4000 < ln.length
   ·rw[if_pos (.inl hlong)]at hE
    exact err 5 (by decide) hE (hL1 z0 hF z1 z2 hlong)
   by_cases hlong2:4000 < d.length
   ·rw[if_pos (.inr hlong2)]at hE
    exact err 5 (by decide) hE (hL2 z0 hF z1 z2 (by omega) hlong2)
   rw[if_neg (by unfold maxD;omega)]at hE;have hll:(toL (dv ln)).length≤30000∧(toL (dv d)).length≤30000:=⟨Nat.le_trans (a1U hnf (k:=500) (by omega)) (by omega),Nat.le_trans (a1U hF (k:=500) (by omega)) (by omega)⟩;have hlg:(toL ((dv ln).gcd (dv d))).length≤100000:=Nat.le_trans (a8T hll.1 hll.2) (by omega)
   by_cases hg:(dv ln).gcd (dv d)=1
   ·rw[hg]at hE
    exact good _ _ _ hsp (by rw[hE];rfl) hg (hO (by omega) (by omega) z0 hF z1 z2 (by omega) (by omega) (a1A hnf) (a1A hF) hll hlg hg)
   ·rw[if_pos (by simp[hg])]at hE
    exact err 3 (by decide) hE (hG (by omega) (by omega) z0 hF z1 z2 (by omega) (by omega) (a1A hnf) (a1A hF) hll hlg hg)
 ·rw[if_neg hok]at hS
  rw[hS]at hE;have hok':a1k (s.extract 0 k).data.toList=false:=by rw[hex];simpa using hok
  rcases hcase with⟨hke,rfl⟩|⟨hke,rfl⟩
  ·exact err 3 (by decide) hE (b0f s ⟨ln.toArray⟩ k m _ w (by omega) (by omega) hk hks hip hok' hke rfl)
  ·exact err 3 (by decide) hE (b5o s ⟨ln.toArray⟩ k m _ w (by omega) (by omega) hk hks hip hok' hke rfl)
theorem a4k(s:ByteArray)(w:World)(hlen:s.size≤270000) :
  Calls prog 155 #[.string s] w fun e w'=>∃ v,e=.returned (.tuple #[v,.int .i64 (errQ s.data.toList:Int)])∧(errQ s.data.toList=0→IsQ w' v (valQ s.data.toList))∧(errQ s.data.toList≠0→v=zV)∧Below w.heap.size w w':=b5x s w (by omega)
theorem b9D{w:World}{v:Value}{s:List UInt8}(h:errQ s=0→IsQ w v (valQ s))(hz:errQ s≠0→v=zV):∃ (bq:Bool) (A A':Option Addr) (l c l' c':Nat),v=.agg #[.bool bq,.slice A l c,.slice A' l' c']:=by
 by_cases he:errQ s=0
 ·obtain⟨A,c,A',c',rfl,_,_⟩:=h he
  exact⟨_,_,_,_,_,_,_,rfl⟩
 ·exact⟨_,_,_,_,_,_,_,hz he⟩
theorem a1o(a:ByteArray)(w:World)(ha:a.size≤270000) :
  Calls prog 219 #[.string a] w fun e w'=>e=.returned (.int .i64 (errQ a.data.toList:Int))∧Below w.heap.size w w':=by
 have HP:=b9W (a4k a w ha)
 go_enter func219,ntmps219
 go_wp2_with (go_at_call 155;refine HP.out.mono ?_;rintro e w1 ⟨v,rfl,hv,hz,hb⟩;obtain⟨bq,A,A',l,c,l',c',rfl⟩:=b9D hv hz;have HB:=b9W hb;clear hb hz hv)
 go_ret
 exact⟨rfl,a0d HB.out _⟩
def IsT(a:ByteArray)(q:Rat):Prop:=a=⟨(a1Q q).toArray⟩∧Sz maxD q
theorem IsT.list{a:ByteArray}{q:Rat}(h:IsT a q):a.data.toList=a1Q q:=by rw[h.1]
theorem IsT.err{a:ByteArray}{q:Rat}(h:IsT a q):errQ a.data.toList=0:=by rw[h.list];exact b9w h.2 (Nat.le_refl _)
theorem IsT.val{a:ByteArray}{q:Rat}(h:IsT a q):valQ a.data.toList=q:=by rw[h.list,b8h]
theorem IsT.of{a:ByteArray}(h:errQ a.data.toList=0):IsT a (valQ a.data.toList):=by
 refine⟨?_,a17 h⟩;rw[← (a7l h).1]
theorem IsT.eq{a b:ByteArray}{q:Rat}(h:IsT a q)(h':IsT b q):a=b:=by rw[h.1,h'.1]
theorem IsT.inj{a:ByteArray}{p q:Rat}(h:IsT a p)(h':IsT a q):p=q:=by rw[← h.val,← h'.val]
theorem b4y{q:Rat}{k:Nat}(h:Sz k q):(a1Q q).length≤2*k+2:=by
 obtain⟨h1,h2⟩:=(a5M h.pos).1 h;unfold a1Q
 simp only[List.length_append,Lib.decDigits_length]
 have e1:(if ng q then ([45]:List UInt8) else []).length≤1:=by split<;>simp
 have e2:(if q.den=1 then ([]:List UInt8) else 47::Lib.decDigits q.den).length≤k+1:=by
  split
  ·simp
  ·rw[List.length_cons,Lib.decDigits_length];omega
 omega
theorem IsT.size{a:ByteArray}{q:Rat}(h:IsT a q):a.size≤270000:=by
 rw[a0F,h.list];have:=b4y h.2;unfold maxD at this
 omega
theorem one_T{f:Rat→List UInt8 × Nat}{a:ByteArray}{p:Rat}(ha:IsT a p):oneQ f a.data.toList=f p:=by
 unfold oneQ;rw[ha.err,ha.val];rfl
theorem b1_{f:Rat→Rat→List UInt8 × Nat}{a b:ByteArray}{p q:Rat}(ha:IsT a p)(hb:IsT b q):twoQ f a.data.toList b.data.toList=f p q:=by
 unfold twoQ;rw[ha.err,hb.err,ha.val,hb.val];rfl
theorem b6z{c:ByteArray}{r:Rat}(hc:IsT c r):resN (outQ r)=.tuple #[.string c,.int .i64 0]:=by
 rw[b57 hc.2 (Nat.le_refl _),hc.1];rfl
theorem div_T{c:ByteArray}{p q:Rat}(hc:IsT c (p*q⁻¹))(h:q≠0):resN (divQ p q)=.tuple #[.string c,.int .i64 0]:=by
 unfold divQ;rw[if_neg h,b6z hc]
theorem b8M{m:Bool}{n d:Nat}(hd:d≠0)(hg:n.gcd d=1)(hm:m=true→n≠0):a1Q (mkQ m n d)=(if m then [45] else [])++Lib.decDigits n++(if d=1 then [] else 47::Lib.decDigits d):=by
 obtain⟨h1,h2,h3⟩:=a7c (m:=m) hd hg;have:(m&&decide (n≠0))=m:=by
  cases m with
  | false=>rfl
  | true=>simpa using hm rfl
 unfold a1Q;rw[h1,h2,h3,this]
theorem sz_q{m:Bool}{n d k:Nat}(hd:d≠0)(hn:n < 10 ^ k)(hd':d < 10 ^ k):Sz k (mkQ m n d):=⟨Nat.lt_of_le_of_lt (a3_ hd) hn,Nat.lt_of_le_of_lt (a3x hd) hd'⟩
theorem b02{m:Bool}{n d:Nat}{l:List UInt8}(hd:d≠0)(hg:n.gcd d=1)(hm:m=true→n≠0)(hn:n < 10)(hd':d < 10)(hl:(if m then [45] else [])++[UInt8.ofNat (48+n)]++(if d=1 then [] else [47,UInt8.ofNat (48+d)])=l):IsT ⟨l.toArray⟩ (mkQ m n d):=by
 refine⟨?_,(sz_q (k:=1) hd (by omega) (by omega)).mono (by decide)⟩;rw[b8M hd hg hm,Lib.decDigits_one hn,Lib.decDigits_one hd',← hl]
theorem IsT.zero:IsT ⟨#[48]⟩ 0:=by
 have h:=b02 (m:=false) (n:=0) (d:=1) (l:=[48]) (by decide) (by decide) (by decide) (by decide) (by decide) (by decide)
 rwa [b0a]at h
theorem IsT.one:IsT ⟨#[49]⟩ 1:=by
 have h:=b02 (m:=false) (n:=1) (d:=1) (l:=[49]) (by decide) (by decide) (by decide) (by decide) (by decide) (by decide);have e:mkQ false 1 1=1:=by unfold mkQ;simp;rfl
 rwa [e]at h
section
variable {a b c:ByteArray} {p q:Rat} (w:World)
theorem addT(ha:IsT a p)(hb:IsT b q)(hc:IsT c (p+q))(hr:Res w) :
  Calls prog 107 #[.string a,.string b] w fun e w'=>e=.returned (.tuple #[.string c,.int .i64 0])∧Below w.heap.size w w':=by
 refine(b4f a b w ha.size hb.size hr).mono ?_;rintro e w' ⟨rfl,h⟩;rw[b1_ ha hb,b6z hc];exact⟨rfl,h⟩
theorem mulT(ha:IsT a p)(hb:IsT b q)(hc:IsT c (p*q))(hr:Res w) :
  Calls prog 130 #[.string a,.string b] w fun e w'=>e=.returned (.tuple #[.string c,.int .i64 0])∧Below w.heap.size w w':=by
 refine(b4a a b w ha.size hb.size hr).mono ?_;rintro e w' ⟨rfl,h⟩;rw[b1_ ha hb,b6z hc];exact⟨rfl,h⟩
theorem divT(ha:IsT a p)(hb:IsT b q)(hc:IsT c (p*q⁻¹))(h0:q≠0)(hr:Res w) :
  Calls prog 133 #[.string a,.string b] w fun e w'=>e=.returned (.tuple #[.string c,.int .i64 0])∧Below w.heap.size w w':=by
 refine(b4A a b w ha.size hb.size hr).mono ?_;rintro e w' ⟨rfl,h⟩;rw[b1_ ha hb,div_T hc h0];exact⟨rfl,h⟩
theorem a4E(q:Rat)(k:Nat):(q⁻¹) ^ k=(q ^ k)⁻¹:=by
 induction k with
 | zero=>rw[Rat.pow_zero,Rat.pow_zero];decide +kernel
 | succ k ih=>rw[Rat.pow_succ,Rat.pow_succ,ih,Rat.inv_mul_rev,Rat.mul_comm]
theorem powQ_z{q:Rat}{n:Int}(h:¬ (n < 0∧q=0)):powQ q n=outQ (q ^ n):=by
 unfold powQ;rw[if_neg h]
 congr 1
 split
 ·obtain⟨k,rfl⟩:∃ k:Nat,n=-(k:Int):=⟨n.natAbs,by omega⟩
  rw[Rat.zpow_neg,Rat.zpow_natCast,Int.natAbs_neg,Int.natAbs_natCast,a4E]
 ·obtain⟨k,rfl⟩:∃ k:Nat,n=(k:Int):=⟨n.natAbs,by omega⟩
  rw[Rat.zpow_natCast,Int.natAbs_natCast]
theorem powT{n:Int}(ha:IsT a p)(h0:¬ (n < 0∧p=0))(hc:IsT c (p ^ n))(h1:-9223372036854775808≤n)(h2:n≤9223372036854775807)(hr:Res w) :
  Calls prog 135 #[.string a,.int .i64 n] w fun e w'=>e=.returned (.tuple #[.string c,.int .i64 0])∧Below w.heap.size w w':=by
 refine(b4D a n w ha.size hr h1 h2).mono ?_;rintro e w' ⟨rfl,h⟩;rw[one_T ha,powQ_z h0,b6z hc];exact⟨rfl,h⟩
end
theorem Sz.zpow{j:Nat}{q:Rat}(h:Sz j q)(n:Int):Sz (j*n.natAbs+1) (q ^ n):=by
 by_cases hn:n < 0
 ·obtain⟨k,rfl⟩:∃ k:Nat,n=-(k:Int):=⟨n.natAbs,by omega⟩
  rw[Rat.zpow_neg,Rat.zpow_natCast,Int.natAbs_neg,Int.natAbs_natCast];exact(h.pow k).inv
 ·obtain⟨k,rfl⟩:∃ k:Nat,n=(k:Int):=⟨n.natAbs,by omega⟩
  rw[Rat.zpow_natCast,Int.natAbs_natCast];exact h.pow k
namespace WI
theorem a4f:Runs 256:=a1_ func256 (by kernel_rfl) (by kernel_rfl)
theorem a6Q:Runs 257:=a1_ func257 (by kernel_rfl) (by kernel_rfl)
theorem with_err(s:ByteArray)(fv:Value)(w:World)(hlen:s.size≤270000)(hr:Res w)(he:errQ s.data.toList≠0) :
  Calls prog 241 #[.string s,fv] w fun e w'=>e=.returned (.tuple #[.int .i64 0,.int .i64 (errQ s.data.toList:Int)])∧Below w.heap.size w w':=by
 have HR:=b9W hr;have hne:((errQ s.data.toList:Int)==0)=false:=by rw[beq_eq_false_iff_ne];omega
 have HE:=b9W he;have HP:=b9W (a4j s w hlen hr);clear hr he
 go_enter func241,ntmps241
 go_wp2_with (go_at_call 217;refine HP.out.mono ?_;rintro e w1 ⟨v,rfl,-,hz,hb⟩;obtain rfl:=hz HE.out;have HB:=b9W hb;clear hb hz)
 refine bodyPost_ret (results_tmp2 rfl _ _ _) rfl ?_;exact⟨rfl,a0d HB.out _⟩
theorem with_ok(F:FuncId)(hrun:Runs F)(caps:Array Value)(rv:Value)(k:Int)(s:ByteArray)(w:World)(hlen:s.size≤270000)(hr:Res w)(he:errQ s.data.toList=0)
  (hF:∀ v w',Below w.heap.size w w'→Res w'→a0C w' v (valQ s.data.toList)→Calls prog F (#[v]++caps) w' fun e w''=>e=.returned (.tuple #[rv,.int .i64 k])∧Below w'.heap.size w' w'') :
  Calls prog 241 #[.string s,.func (.func F) #[] caps] w fun e w'=>e=.returned (.tuple #[rv,.int .i64 k])∧Below w.heap.size w w':=by
 have HR:=b9W hr;have hne:((errQ s.data.toList:Int)==0)=true:=by rw[he];rfl
 have HE:=b9W he;have HP:=b9W (a4j s w hlen hr);have HF:=b9W hF;have hrn:=hrun;unfold Runs at hrn;clear hr he hF hrun
 go_enter func241,ntmps241
 go_wp2_with (go_at_call 217;refine HP.out.mono ?_;rintro e w1 ⟨v,rfl,hv,-,hb⟩;obtain⟨bq,N,D,A,c,A',c',rfl,hn,hd,HQ⟩:=a0r (hv HE.out);have HV:=b9W (hv HE.out);have HB:=b9W hb;clear hb hv hn hd)
 have hx:=a0d HB.out (.cells #[.bool bq,.slice A (toL N).length c,.slice A' (toL D).length c'] 216);have hx1:Below w1.heap.size w1 (w1.alloc (.cells #[.bool bq,.slice A (toL N).length c,.slice A' (toL D).length c'] 216)):=a0d (Below.refl _ _) _;have HX:=b9W hx;refine(HF.out _ _ HX.out (HR.out.below HX.out) (HV.out.below hx1)).mono ?_;rintro e w2 ⟨rfl,hb2⟩;have HB2:=b9W (HX.out.trans (hb2.mono HX.out.size));clear hx hx1 hb2;go_wp2;refine bodyPost_ret (results_tmp2 rfl _ _ _) rfl ?_;exact⟨rfl,HB2.out⟩
theorem b0p(F:FuncId)(hrun:Runs F)(rv:Value)(k:Int)(pf px:Nat)(q q':Rat)(v v':Value)(w:World)(hpf:Boxed w pf 225 (.func (.func F) #[] #[]))
  (hv:a0C w v q) (hv':a0C w v' q') (vs:Array Value) (hvs:v=.agg vs) (hpx:Blk w px 216 vs) (_hr:Res w)
  (hF:∀ w',Below w.heap.size w w'→Calls prog F #[v,v'] w' fun e w''=>e=.returned (.tuple #[rv,.int .i64 k])∧Below w'.heap.size w' w'') :
  Calls prog 257 #[v',.pointer (some ⟨pf,0,none⟩),.pointer (some ⟨px,0,none⟩)] w fun e w'=>e=.returned (.tuple #[rv,.int .i64 k])∧Below w.heap.size w w':=by
 obtain⟨bq,N,D,A,c,A',c',rfl,hn,hd,HQ⟩:=a0r hv;obtain⟨bq',N',D',B,d,B',d',rfl,hn',hd',HQ'⟩:=a0r hv';obtain rfl:#[.bool bq,.slice A (toL N).length c,.slice A' (toL D).length c']=vs:=by injection hvs
 have hrn:=hrun;unfold Runs at hrn;have HF:=b9W hF;have HX:=b9W (a0d (Below.refl w.heap.size w) (.cells #[.bool bq',.slice B (toL N').length d,.slice B' (toL D').length d'] 216));have cf:=(a0O hpf HX.out hpf.lt).cell;obtain⟨x0,x1,x2⟩:=a0K hpx HX.out hpx.lt;clear hrun hF hn hd hn' hd' hv hv' hpf hvs hpx
 go_enter func257,ntmps257
 go_wp2;refine(HF.out _ HX.out).mono ?_;rintro e w2 ⟨rfl,hb2⟩;have HB2:=b9W (HX.out.trans (hb2.mono HX.out.size));clear hb2;go_wp2;refine bodyPost_ret (results_tmp2 rfl _ _ _) rfl ?_;exact⟨rfl,HB2.out⟩
section
variable (F:FuncId) (b:ByteArray) (pb pf:Nat) (q:Rat) (v:Value) (w:World)
theorem a8q(hlen:b.size≤270000)(hpb:Boxed w pb 23 (.string b))(hpf:Boxed w pf 225 (.func (.func F) #[] #[]))
  (hv:a0C w v q) (hr:Res w) (he:errQ b.data.toList≠0) :
  Calls prog 256 #[v,.pointer (some ⟨pb,0,none⟩),.pointer (some ⟨pf,0,none⟩)] w fun e w'=>e=.returned (.tuple #[.int .i64 0,.int .i64 (errQ b.data.toList:Int)])∧Below w.heap.size w w':=by
 obtain⟨bq,N,D,A,c,A',c',rfl,hn,hd,HQ⟩:=a0r hv;have HX:=b9W (a0d (Below.refl w.heap.size w) (.cells #[.bool bq,.slice A (toL N).length c,.slice A' (toL D).length c'] 216));have cf:=(a0O hpf HX.out hpf.lt).cell;have cb:=(a0O hpb HX.out hpb.lt).cell;have HW:=b9W (fun fv=>with_err b fv _ hlen (hr.below HX.out) he);clear hn hd hv hpf hpb hr he
 go_enter func256,ntmps256
 go_wp2_with (go_at_call 241;refine(HW.out _).mono ?_;rintro e w2 ⟨rfl,hb2⟩;have HB2:=b9W (HX.out.trans (hb2.mono HX.out.size));clear hb2)
 refine bodyPost_ret (results_tmp2 rfl _ _ _) rfl ?_;exact⟨rfl,HB2.out⟩
theorem b0c(hrun:Runs F)(rv:Value)(k:Int)(hlen:b.size≤270000)(hpb:Boxed w pb 23 (.string b))(hpf:Boxed w pf 225 (.func (.func F) #[] #[]))
  (hv:a0C w v q) (hr:Res w) (he:errQ b.data.toList=0)
  (hF:∀ v' w',Below w.heap.size w w'→Res w'→a0C w' v q→a0C w' v' (valQ b.data.toList)→Calls prog F #[v,v'] w' fun e w''=>e=.returned (.tuple #[rv,.int .i64 k])∧Below w'.heap.size w' w'') :
  Calls prog 256 #[v,.pointer (some ⟨pb,0,none⟩),.pointer (some ⟨pf,0,none⟩)] w fun e w'=>e=.returned (.tuple #[rv,.int .i64 k])∧Below w.heap.size w w':=by
 obtain⟨bq,N,D,A,c,A',c',rfl,hn,hd,HQ⟩:=a0r hv;have HX:=b9W (a0d (Below.refl w.heap.size w) (.cells #[.bool bq,.slice A (toL N).length c,.slice A' (toL D).length c'] 216));have cf:=(a0O hpf HX.out hpf.lt).cell;have cb:=(a0O hpb HX.out hpb.lt).cell;have HW:=b9W (with_ok 257 a6Q #[.pointer (some ⟨pf,0,none⟩),.pointer (some ⟨w.heap.size,0,none⟩)] rv k b (w.alloc (.cells #[.bool bq,.slice A (toL N).length c,.slice A' (toL D).length c'] 216)) hlen (hr.below HX.out) he (fun v' w' hb' hr' hv'=>by
  have hB:Below w.heap.size w w':=HX.out.trans (hb'.mono HX.out.size);exact b0p F hrun rv k pf w.heap.size q _ _ v' w' (a0O hpf hB hpf.lt) (hv.below hB) hv' _ rfl ((Blk.new w _ _).below hb' (by simp)) hr' (fun w2 hb2=>hF v' w2 (hB.trans (hb2.mono hB.size)) (hr'.below hb2) ((hv.below hB).below hb2) (hv'.below hb2))))
 clear hn hd hv hpf hpb hr he hF hrun
 go_enter func256,ntmps256
 go_wp2_with (go_at_call 241;refine HW.out.mono ?_;rintro e w2 ⟨rfl,hb2⟩;have HB2:=b9W (HX.out.trans (hb2.mono HX.out.size));clear hb2)
 refine bodyPost_ret (results_tmp2 rfl _ _ _) rfl ?_;exact⟨rfl,HB2.out⟩
end
theorem b0v(w:World)(b:ByteArray)(fv:Value):Boxed ((w.alloc (.cells #[.string b] 23)).alloc (.cells #[fv] 225)) w.heap.size 23 (.string b) ∧
  Boxed ((w.alloc (.cells #[.string b] 23)).alloc (.cells #[fv] 225)) (w.heap.size+1) 225 fv∧Below w.heap.size w ((w.alloc (.cells #[.string b] 23)).alloc (.cells #[fv] 225)):=by
 refine⟨(Boxed.new w _ _).alloc _,?_,a0d (a0d (Below.refl _ _) _) _⟩;have:=Boxed.new (w.alloc (.cells #[.string b] 23)) 225 fv
 rwa [World.size_alloc]at this
theorem both_any(F:FuncId)(hrun:Runs F)(f:Rat→Rat→Value × Int)(a b:ByteArray)(w:World)(ha:a.size≤270000)(hb:b.size≤270000)(hr:Res w)
  (hF:∀ v v' w',Below w.heap.size w w'→Res w'→a0C w' v (valQ a.data.toList)→a0C w' v' (valQ b.data.toList)→errQ a.data.toList=0→errQ b.data.toList=0→Calls prog F #[v,v'] w' fun e w''=>e=.returned (.tuple #[(f (valQ a.data.toList) (valQ b.data.toList)).1,.int .i64 (f (valQ a.data.toList) (valQ b.data.toList)).2])∧Below w'.heap.size w' w'') :
  Calls prog 196 #[.string a,.string b,.func (.func F) #[] #[]] w fun e w' =>
   e=.returned (if errQ a.data.toList≠0 then .tuple #[.int .i64 0,.int .i64 (errQ a.data.toList:Int)] else if errQ b.data.toList≠0 then .tuple #[.int .i64 0,.int .i64 (errQ b.data.toList:Int)] else .tuple #[(f (valQ a.data.toList) (valQ b.data.toList)).1,.int .i64 (f (valQ a.data.toList) (valQ b.data.toList)).2])∧Below w.heap.size w w':=by
 obtain⟨b4,b5,hB⟩:=b0v w b (.func (.func F) #[] #[])
 by_cases h1:errQ a.data.toList≠0
 ·rw[if_pos h1]
  have HW:=b9W (fun fv=>with_err a fv _ ha (hr.below hB) h1);have HB:=b9W hB;clear b4 b5 hB hrun hF hr h1
  go_enter func196,ntmps196
  go_wp2_with (go_at_call 241;refine(HW.out _).mono ?_;rintro e w2 ⟨rfl,hb2⟩;have HB2:=b9W (HB.out.trans (hb2.mono HB.out.size));clear hb2)
  refine bodyPost_ret (results_tmp2 rfl _ _ _) rfl ?_;exact⟨rfl,HB2.out⟩
 ·rw[if_neg h1]
  have h1:errQ a.data.toList=0:=by omega
  by_cases h2:errQ b.data.toList≠0
  ·rw[if_pos h2]
   have HW:=b9W (with_ok 256 a4f #[.pointer (some ⟨w.heap.size,0,none⟩),.pointer (some ⟨w.heap.size+1,0,none⟩)] (.int .i64 0) (errQ b.data.toList:Int) a _ ha (hr.below hB) h1 (fun v w' hb' hr' hv =>
    a8q F b w.heap.size (w.heap.size+1) _ v w' hb (a0O b4 hb' b4.lt) (a0O b5 hb' b5.lt) hv hr' h2))
   have HB:=b9W hB;clear b4 b5 hB hrun hF hr h1 h2
   go_enter func196,ntmps196
   go_wp2_with (go_at_call 241;refine HW.out.mono ?_;rintro e w2 ⟨rfl,hb2⟩;have HB2:=b9W (HB.out.trans (hb2.mono HB.out.size));clear hb2)
   refine bodyPost_ret (results_tmp2 rfl _ _ _) rfl ?_;exact⟨rfl,HB2.out⟩
  ·rw[if_neg h2]
   have h2:errQ b.data.toList=0:=by omega
   generalize hR:f (valQ a.data.toList) (valQ b.data.toList)=R at *;obtain⟨rv,k⟩:=R
   dsimp only at hF ⊢
   have HW:=b9W (with_ok 256 a4f #[.pointer (some ⟨w.heap.size,0,none⟩),.pointer (some ⟨w.heap.size+1,0,none⟩)] rv k a _ ha (hr.below hB) h1 (fun v w' hb' hr' hv =>
    b0c F b w.heap.size (w.heap.size+1) _ v w' hrun rv k hb (a0O b4 hb' b4.lt) (a0O b5 hb' b5.lt) hv hr' h2 (fun v' w2 hb2 hr2 hv2 hv2'=>hF v v' w2 (hB.trans ((hb'.mono hB.size).trans (hb2.mono (Nat.le_trans hB.size hb'.size)))) hr2 hv2 hv2' h1 h2)))
   have HB:=b9W hB;clear b4 b5 hB hrun hF hr h1 h2 hR
   go_enter func196,ntmps196
   go_wp2_with (go_at_call 241;refine HW.out.mono ?_;rintro e w2 ⟨rfl,hb2⟩;have HB2:=b9W (HB.out.trans (hb2.mono HB.out.size));clear hb2)
   refine bodyPost_ret (results_tmp2 rfl _ _ _) rfl ?_;exact⟨rfl,HB2.out⟩
end WI
end Go.Proofs.YtigapglmipmbeaaGreatDoor
namespace Go.Proofs.YtigapglmipmbeaaGreatDoor
open Lim
def cmpQ(p q:Rat):Int:=if p < q then -1 else if p=q then 0 else 1
theorem b2c(p q:Rat):cmpQ p q≤0↔p≤q:=by
 unfold cmpQ
 by_cases h:p < q
 ·rw[if_pos h];exact⟨fun _=>Rat.le_of_lt h,fun _=>by omega⟩
 ·rw[if_neg h]
  by_cases h2:p=q
  ·rw[if_pos h2];subst h2;exact⟨fun _=>Rat.le_refl,fun _=>by omega⟩
  ·rw[if_neg h2];exact⟨fun h=>absurd h (by omega),fun h3=>absurd (Rat.lt_of_le_of_ne h3 h2) h⟩
theorem a23(p q:Rat):cmpQ p q < 0↔p < q:=by
 unfold cmpQ
 by_cases h:p < q
 ·rw[if_pos h];exact⟨fun _=>h,fun _=>by omega⟩
 ·rw[if_neg h];split<;>exact⟨fun h=>absurd h (by omega),fun h3=>absurd h3 h⟩
theorem b0O(p q:Rat):cmpQ q p=- cmpQ p q:=by
 unfold cmpQ
 by_cases h:p < q
 ·rw[if_pos h,if_neg (fun h2=>Rat.not_le.2 h (Rat.le_of_lt h2)),if_neg (fun e=>by subst e;exact Rat.lt_irrefl h)];rfl
 ·by_cases h2:p=q
  ·subst h2;rw[if_neg h,if_pos rfl];rfl
  ·have h3:q < p:=by
    have:=Rat.not_lt.1 h;exact Rat.lt_of_le_of_ne this (fun e=>h2 e.symm)
   rw[if_pos h3,if_neg h,if_neg h2]
theorem a9D(p q:Rat):cmpQ p q=-1∨cmpQ p q=0∨cmpQ p q=1:=by
 unfold cmpQ
 split
 ·exact .inl rfl
 ·split
  ·exact .inr (.inl rfl)
  ·exact .inr (.inr rfl)
theorem a5v(p q:Rat):cmpQ p q=if p.num*q.den < q.num*p.den then -1 else if q.num*p.den < p.num*q.den then 1 else 0:=by
 unfold cmpQ
 by_cases h:p < q
 ·rw[if_pos h,if_pos ((Rat.lt_iff p q).1 h)]
 ·rw[if_neg h,if_neg (fun h2=>h ((Rat.lt_iff p q).2 h2))]
  by_cases h2:p=q
  ·subst h2;rw[if_pos rfl,if_neg (Int.lt_irrefl _)]
  ·rw[if_neg h2,if_pos ((Rat.lt_iff q p).1 (Rat.lt_of_le_of_ne (Rat.not_lt.1 h) (fun e=>h2 e.symm)))]
theorem a4P(q:Rat):sgQ q=if q.num < 0 then -1 else if q.num=0 then 0 else 1:=by
 unfold sgQ nm ng
 by_cases h:q.num=0
 ·simp[h]
 ·have h1:q.num.natAbs≠0:=by omega
  rw[if_neg h1,if_neg h]
  by_cases h2:q.num < 0
  ·simp[h2]
  ·simp[h2]
theorem a9s(p:Rat){d:Nat}(hd:0 < d):(p.num < 0↔p.num*(d:Int) < 0)∧(p.num=0↔p.num*(d:Int)=0)∧(0 < p.num↔0 < p.num*(d:Int)):=by
 have hd':(0:Int) < (d:Int):=by omega
 rcases Int.lt_trichotomy p.num 0 with h|h|h
 ·have:=Int.mul_neg_of_neg_of_pos h hd'
  omega
 ·rw[h,Int.zero_mul];omega
 ·have:=Int.mul_pos h hd'
  omega
theorem b54{p q:Rat}(h:sgQ p≠sgQ q):max (-1) (min 1 (sgQ p - sgQ q))=cmpQ p q:=by
 rw[a5v];rw[a4P,a4P]at *;obtain⟨a1,a2,a3⟩:=a9s p (den_pos q);obtain⟨b1,b2,b3⟩:=a9s q (den_pos p);generalize p.num*(q.den:Int)=X at *;generalize q.num*(p.den:Int)=Y at *
 split at h<;>split at h<;>(try split at h)<;>(try split at h)<;>(try split)<;>(try split)<;>omega
theorem b9P{p q:Rat}(h:sgQ p=sgQ q)(hn:ng p=false):sgn (nm p*q.den) (nm q*p.den)=cmpQ p q:=by
 have hq:ng q=false:=by
  rw[a4P,a4P]at h;unfold ng at *;have:=of_decide_eq_false hn
  apply decide_eq_false
  intro hq;rw[if_neg this,if_pos hq]at h
  split at h<;>cases h
 rw[a5v,a4r p,a4r q,hn,hq]
 simp only[Bool.false_eq_true,if_false]
 unfold sgn;rw[← Int.natCast_mul,← Int.natCast_mul];generalize nm p*q.den=X;generalize nm q*p.den=Y
 by_cases h1:X < Y
 ·rw[if_pos h1,if_pos (by omega)]
 ·rw[if_neg h1,if_neg (show ¬ ((X:Int) < (Y:Int)) by omega)]
  by_cases h2:Y < X
  ·rw[if_pos h2,if_pos (by omega)]
  ·rw[if_neg h2,if_neg (by omega)]
theorem b87{p q:Rat}(h:sgQ p=sgQ q)(hn:ng p=true):-sgn (nm p*q.den) (nm q*p.den)=cmpQ p q:=by
 have hq:ng q=true:=by
  rw[a4P,a4P]at h;unfold ng at *;have:=of_decide_eq_true hn
  apply decide_eq_true
  rw[if_pos this]at h
  split at h
  ·assumption
  ·split at h<;>cases h
 rw[a5v,a4r p,a4r q,hn,hq]
 simp only[if_true]
 unfold sgn;rw[Int.neg_mul,Int.neg_mul,← Int.natCast_mul,← Int.natCast_mul];generalize nm p*q.den=X;generalize nm q*p.den=Y
 by_cases h1:X < Y
 ·rw[if_pos h1,if_neg (by omega),if_pos (by omega)];rfl
 ·rw[if_neg h1]
  by_cases h2:Y < X
  ·rw[if_pos h2,if_pos (by omega)]
  ·rw[if_neg h2,if_neg (by omega),if_neg (by omega)];rfl
end Go.Proofs.YtigapglmipmbeaaGreatDoor
namespace Go.Proofs.YtigapglmipmbeaaGreatDoor
open Go.RowKit Go.Shelf
open Lim
attribute [local go_sem] Oper.semAt_some
theorem b0u(w:World)(m vn vd m' vn' vd':Value):Blk ((w.alloc (.cells #[m,vn,vd] 216)).alloc (.cells #[m',vn',vd'] 216)) w.heap.size 216 #[m,vn,vd] ∧
  Blk ((w.alloc (.cells #[m,vn,vd] 216)).alloc (.cells #[m',vn',vd'] 216)) (w.heap.size+1) 216 #[m',vn',vd'] ∧
  Below w.heap.size w ((w.alloc (.cells #[m,vn,vd] 216)).alloc (.cells #[m',vn',vd'] 216))∧((w.alloc (.cells #[m,vn,vd] 216)).alloc (.cells #[m',vn',vd'] 216)).heap.size=w.heap.size+2:=by
 refine⟨(Blk.new w _ _).alloc _,?_,((Below.refl _ _).alloc (Nat.le_refl _) _).alloc (by simp) _,by simp⟩;have:=Blk.new (w.alloc (.cells #[m,vn,vd] 216)) 216 #[m',vn',vd']
 rwa [World.size_alloc]at this
theorem b0Z(q:Rat):-1≤sgQ q∧sgQ q≤1:=by
 unfold sgQ
 split
 ·omega
 ·split<;>omega
theorem b0L(x y:Nat):-1≤sgn x y∧sgn x y≤1:=by
 unfold sgn
 split
 ·omega
 ·split<;>omega
theorem b3z{c:Int}(h:-1≤c∧c≤1):max (-1) (min 1 c)=c:=by omega
theorem b9b(p q:Rat)(v v':Value)(w:World)(h:a0C w v p)(h':a0C w v' q)(l1:(toL (nm p)).length≤10000)(_l2:(toL p.den).length≤10000)(_l3:(toL (nm q)).length≤10000)(l4:(toL q.den).length≤10000)(hne:sgQ p≠sgQ q) :
  Calls prog 198 #[v,v'] w fun e w'=>∃ c:Int,e=.returned (.int .i64 c)∧max (-1) (min 1 c)=cmpQ p q∧Below w.heap.size w w':=by
 have HV:=b9W h;have HV':=b9W h';have HE:=b9W (b54 hne);have hxy:(sgQ p==sgQ q)=false:=by rw[beq_eq_false_iff_ne];exact hne
 obtain⟨bx1,bx2⟩:=b0Z p;obtain⟨by1,by2⟩:=b0Z q;clear hne;obtain⟨b,N,D,An,cn,Ad,cd,rfl,hn,hd,HP⟩:=a0r h;obtain⟨b',N',D',An',cn',Ad',cd',rfl,hn',hd',HQ⟩:=a0r h';obtain⟨e1,e2,e3⟩:=HP.out;obtain⟨f1,f2,f3⟩:=HQ.out;rw[e2]at l1;rw[f3]at l4;have HN:=b9W hn;have HD:=b9W hd;have HN':=b9W hn';have HD':=b9W hd';have HI:=b9W (And.intro (rfl:sgQ p=sgQ p) (rfl:sgQ q=sgQ q));clear hn hd hn' hd' h h' e1 e2 e3 f1 f2 f3;have lx:=Nat.le_trans (a0D N D') (show _≤20000 by omega);generalize hgx:sgQ p=x at hxy bx1 bx2 HE;generalize hgy:sgQ q=y at hxy by1 by2 HE;have HGX:=b9W hgx;have HGY:=b9W hgy;clear hgx hgy HI;refine(callsIn_wide (n:=3)).1 ?_;have h1:1≤3:=by omega
 have hmx:prog.follows .mixedOrders=true:=by kernel_rfl
 refine callsIn_of_wp func198 rfl trivial ?_ rfl
 simp only[ntmps198,List.size_toArray,List.length_cons,List.length_nil,Nat.reduceAdd,Nat.reduceSub,Array.replicate_succ,Array.replicate_zero,List.push_toArray,List.append_toArray,List.nil_append,List.cons_append]
 gi_upto_region 1 with fail
 obtain⟨b0,b1,hB,hs⟩:=b0u w (.bool b) (.slice An (toL N).length cn) (.slice Ad (toL D).length cd) (.bool b') (.slice An' (toL N').length cn') (.slice Ad' (toL D').length cd');generalize (w.alloc (.cells #[.bool b,.slice An (toL N).length cn,.slice Ad (toL D).length cd] 216)).alloc (.cells #[.bool b',.slice An' (toL N').length cn',.slice Ad' (toL D').length cd'] 216)=W at *;obtain⟨x0,x1,x2⟩:=a0j (S:=fun k=>k < W.heap.size) b0 (by omega);obtain⟨y0,y1,y2⟩:=a0j (S:=fun k=>k < W.heap.size) b1 (by omega);have HB:=b9W (a0x hB);have HS:=b9W hs;have P0:=b9W b0;have P1:=b9W b1;clear b0 b1 hB hs;refine a0o (a0R W (fun k=>k < W.heap.size)) [0,2] [] hmx (by kernel_rfl) (a0g fun _ _=>rfl) ?_;change a0l _ _ _ _ _ _ _ _ (4+2) _ _ _;refine a0e [0,2] 4 _ _ (by kernel_rfl) ?_;change wpQuietIn _ _ _ _ (fun W'=>∃ x:a0n W (fun k=>k < W.heap.size),W'=x.W) _ _ _
 simp only[a0h,a0m,List.getElem?_cons_zero,List.getElem?_cons_succ,Option.elim_some]
 repeat (gi_big_quiet_step (fail))
 refine wpQuietIn_nil ?_;refine a0c 1 (by kernel_rfl) rfl ?_;gi_wp2;refine⟨trivial,?_⟩;refine(callsIn_wide.2 (a28 p _ W.drew (HV.out.below HB.out))).mono ?_;rintro e w3 ⟨rfl,hb3⟩;rw[HGX.out];have hB3:Below W.heap.size W w3:=a0q hb3;have HB3:=b9W hB3;clear hb3 hB3;gi_wp2;refine a0b (a0a HB3.out (fun k hk=>hk)) ?_;refine a0c 3 (by kernel_rfl) rfl ?_;gi_wp2;refine⟨trivial,?_⟩;refine(callsIn_wide.2 (a28 q _ w3 (HV'.out.below (HB.out.trans ((a0f HB3.out).mono HB.out.size))))).mono ?_;rintro e w4 ⟨rfl,hb4⟩;rw[HGY.out];have hB4:Below W.heap.size W w4:=HB3.out.trans (hb4.mono HB3.out.size);have HB4:=b9W hB4;clear hb4 hB4;gi_wp2;refine a0b (a0a HB4.out (fun k hk=>hk)) ?_;refine a0c 4 (by kernel_rfl) rfl ?_;gi_wp2;refine a0b (a0a HB4.out (fun k hk=>hk)) ?_;refine a0c 5 (by kernel_rfl) rfl ?_;gi_wp2;refine a0b (a0a HB4.out (fun k hk=>hk)) ?_;refine a0i (by kernel_rfl) ?_;clear x0 x1 x2 y0 y1 y2;have hsz:=HS.out;obtain⟨x0,x1,x2⟩:=a1u (P0.out.below HB4.out (by omega));obtain⟨y0,y1,y2⟩:=a1u (P1.out.below HB4.out (by omega));clear hsz;gi_wp2;refine bodyPost_ret (results_tmp rfl _ _ _) rfl ?_;exact⟨_,rfl,HE.out,HB.out.trans ((a0f HB4.out).mono HB.out.size)⟩
theorem b72(p q:Rat)(v v':Value)(w:World)(h:a0C w v p)(h':a0C w v' q)(l1:(toL (nm p)).length≤10000)(l2:(toL p.den).length≤10000)(l3:(toL (nm q)).length≤10000)(l4:(toL q.den).length≤10000)(heq:sgQ p=sgQ q)(hm:ng p=false) :
  Calls prog 198 #[v,v'] w fun e w'=>∃ c:Int,e=.returned (.int .i64 c)∧max (-1) (min 1 c)=cmpQ p q∧Below w.heap.size w w':=by
 have HV:=b9W h;have HV':=b9W h';have HE:=b9W (b9P heq hm);have hxy:(sgQ p==sgQ q)=true:=by rw[beq_iff_eq];exact heq
 clear heq;obtain⟨b,N,D,An,cn,Ad,cd,rfl,hn,hd,HP⟩:=a0r h;obtain⟨b',N',D',An',cn',Ad',cd',rfl,hn',hd',HQ⟩:=a0r h';obtain⟨e1,e2,e3⟩:=HP.out;obtain⟨f1,f2,f3⟩:=HQ.out;rw[e2]at l1;rw[e3]at l2;rw[f2]at l3;rw[f3]at l4;have HN:=b9W hn;have HD:=b9W hd;have HN':=b9W hn';have HD':=b9W hd';obtain rfl:b=false:=e1.symm.trans hm;have hz:=b0L (N*D') (N'*D);rw[e2,e3,f2,f3]at HE;clear hm;clear hn hd hn' hd' h h' e1 e2 e3 f1 f2 f3;have lx:=Nat.le_trans (a0D N D') (show _≤20000 by omega);generalize hgx:sgQ p=x at hxy;generalize hgy:sgQ q=y at hxy;have HGX:=b9W hgx;have HGY:=b9W hgy;clear hgx hgy;refine(callsIn_wide (n:=3)).1 ?_;have h1:1≤3:=by omega
 have hmx:prog.follows .mixedOrders=true:=by kernel_rfl
 refine callsIn_of_wp func198 rfl trivial ?_ rfl
 simp only[ntmps198,List.size_toArray,List.length_cons,List.length_nil,Nat.reduceAdd,Nat.reduceSub,Array.replicate_succ,Array.replicate_zero,List.push_toArray,List.append_toArray,List.nil_append,List.cons_append]
 gi_upto_region 1 with fail
 obtain⟨b0,b1,hB,hs⟩:=b0u w (.bool false) (.slice An (toL N).length cn) (.slice Ad (toL D).length cd) (.bool b') (.slice An' (toL N').length cn') (.slice Ad' (toL D').length cd');generalize (w.alloc (.cells #[.bool false,.slice An (toL N).length cn,.slice Ad (toL D).length cd] 216)).alloc (.cells #[.bool b',.slice An' (toL N').length cn',.slice Ad' (toL D').length cd'] 216)=W at *;obtain⟨x0,x1,x2⟩:=a0j (S:=fun k=>k < W.heap.size) b0 (by omega);obtain⟨y0,y1,y2⟩:=a0j (S:=fun k=>k < W.heap.size) b1 (by omega);have HB:=b9W (a0x hB);have HS:=b9W hs;have P0:=b9W b0;have P1:=b9W b1;clear b0 b1 hB hs;refine a0o (a0R W (fun k=>k < W.heap.size)) [0,2] [] hmx (by kernel_rfl) (a0g fun _ _=>rfl) ?_;change a0l _ _ _ _ _ _ _ _ (4+2) _ _ _;refine a0e [0,2] 4 _ _ (by kernel_rfl) ?_;change wpQuietIn _ _ _ _ (fun W'=>∃ x:a0n W (fun k=>k < W.heap.size),W'=x.W) _ _ _
 simp only[a0h,a0m,List.getElem?_cons_zero,List.getElem?_cons_succ,Option.elim_some]
 repeat (gi_big_quiet_step (fail))
 refine wpQuietIn_nil ?_;refine a0c 1 (by kernel_rfl) rfl ?_;gi_wp2;refine⟨trivial,?_⟩;refine(callsIn_wide.2 (a28 p _ W.drew (HV.out.below HB.out))).mono ?_;rintro e w3 ⟨rfl,hb3⟩;rw[HGX.out];have hB3:Below W.heap.size W w3:=a0q hb3;have HB3:=b9W hB3;clear hb3 hB3;gi_wp2;refine a0b (a0a HB3.out (fun k hk=>hk)) ?_;refine a0c 3 (by kernel_rfl) rfl ?_;gi_wp2;refine⟨trivial,?_⟩;refine(callsIn_wide.2 (a28 q _ w3 (HV'.out.below (HB.out.trans ((a0f HB3.out).mono HB.out.size))))).mono ?_;rintro e w4 ⟨rfl,hb4⟩;rw[HGY.out];have hB4:Below W.heap.size W w4:=HB3.out.trans (hb4.mono HB3.out.size);have HB4:=b9W hB4;clear hb4 hB4;gi_wp2;refine a0b (a0a HB4.out (fun k hk=>hk)) ?_;refine a0c 4 (by kernel_rfl) rfl ?_;gi_wp2;refine a0b (a0a HB4.out (fun k hk=>hk)) ?_;refine a0c 5 (by kernel_rfl) rfl ?_;gi_wp2;refine a0b (a0a HB4.out (fun k hk=>hk)) ?_;refine a0i (by kernel_rfl) ?_;clear x0 x1 x2 y0 y1 y2;have hsz:=HS.out;obtain⟨x0,x1,x2⟩:=a1u (P0.out.below HB4.out (by omega));obtain⟨y0,y1,y2⟩:=a1u (P1.out.below HB4.out (by omega));clear hsz;have Q0:=b9W (P0.out.below HB4.out (by have:=HS.out;omega));have Q1:=b9W (P1.out.below HB4.out (by have:=HS.out;omega));have h42:=HB4.out.size
 gi_upto_region 4 with fail
 clear x0 x1 x2 y0 y1 y2;have hsz:=HS.out;obtain⟨x0,x1,x2⟩:=a0j (S:=fun k=>k < w4.heap.size) Q0.out (by omega);obtain⟨y0,y1,y2⟩:=a0j (S:=fun k=>k < w4.heap.size) Q1.out (by omega);clear hsz;have HB40:=b9W (a0x (HB.out.trans ((a0f HB4.out).mono HB.out.size)));refine a0o (a0R w4 (fun k=>k < w4.heap.size)) [0,1,2,3,5,6,7,8] [] hmx (by kernel_rfl) (a0g fun _ _=>rfl) ?_;change a0l _ _ _ _ _ _ _ _ (4+8) _ _ _;refine a0e [0,1,2,3,5,6,7,8] 4 _ _ (by kernel_rfl) ?_;change wpQuietIn _ _ _ _ (fun W'=>∃ x:a0n w4 (fun k=>k < w4.heap.size),W'=x.W) _ _ _
 simp only[a0h,a0m,List.getElem?_cons_zero,List.getElem?_cons_succ,Option.elim_some]
 repeat (gi_big_quiet_step (fail))
 refine wpQuietIn_nil ?_;refine a0c 4 (by kernel_rfl) rfl ?_;gi_wp2;refine⟨trivial,?_⟩;refine(callsIn_wide.2 (a2k N D' _ _ w4.drew (HN.out.below HB40.out) (HD'.out.below HB40.out) (by omega) (by omega))).mono ?_;rintro e w5 ⟨v5,rfl,hv5,hb5⟩;obtain⟨A5,c5,rfl,_,_,_⟩:=id hv5;have HV5:=b9W hv5;have hB5:Below w4.heap.size w4 w5:=a0q hb5;have HB5:=b9W hB5;clear hv5 hb5 hB5;gi_wp2;refine a0b (a0a HB5.out (fun k hk=>hk)) ?_;refine a0c 9 (by kernel_rfl) rfl ?_;gi_wp2;have HB50:=b9W (HB40.out.trans ((a0f HB5.out).mono HB40.out.size));refine⟨trivial,?_⟩;refine(callsIn_wide.2 (a2k N' D _ _ w5 (HN'.out.below HB50.out) (HD.out.below HB50.out) (by omega) (by omega))).mono ?_;rintro e w6 ⟨v6,rfl,hv6,hb6⟩;obtain⟨A6,c6,rfl,_,_,_⟩:=id hv6;have HV6:=b9W hv6;have HV5:=b9W (HV5.out.below hb6);have hB6:Below w4.heap.size w4 w6:=HB5.out.trans (hb6.mono HB5.out.size);have HB6:=b9W hB6;clear hv6 hb6 hB6;gi_wp2;refine a0b (a0a HB6.out (fun k hk=>hk)) ?_;refine a0c 10 (by kernel_rfl) rfl ?_;gi_wp2;refine⟨trivial,?_⟩;refine(callsIn_wide.2 (a5l (N*D') (N'*D) _ _ w6 HV5.out HV6.out (by omega))).mono ?_;rintro e w7 ⟨rfl,hb7⟩;generalize hgz:sgn (N*D') (N'*D)=z at hz HE ⊢;obtain⟨hz1,hz2⟩:=hz;clear hgz;have hB7:Below w4.heap.size w4 w7:=HB6.out.trans (hb7.mono HB6.out.size);have HB7:=b9W hB7;clear hb7 hB7;gi_wp2;refine a0b (a0a HB7.out (fun k hk=>hk)) ?_;refine a0c 11 (by kernel_rfl) rfl ?_;gi_wp2;refine a0b (a0a HB7.out (fun k hk=>hk)) ?_;refine a0i (by kernel_rfl) ?_;clear x0 x1 x2 y0 y1 y2;obtain⟨x0,x1,x2⟩:=a1u (Q0.out.below HB7.out (by have:=HS.out;omega));gi_wp2;refine bodyPost_ret (results_tmp rfl _ _ _) rfl ?_;exact⟨_,rfl,by rw[b3z (by omega)];exact HE.out,HB.out.trans ((a0f (HB4.out.trans (HB7.out.mono h42))).mono HB.out.size)⟩
theorem b8z(p q:Rat)(v v':Value)(w:World)(h:a0C w v p)(h':a0C w v' q)(l1:(toL (nm p)).length≤10000)(l2:(toL p.den).length≤10000)(l3:(toL (nm q)).length≤10000)(l4:(toL q.den).length≤10000)(heq:sgQ p=sgQ q)(hm:ng p=true) :
  Calls prog 198 #[v,v'] w fun e w'=>∃ c:Int,e=.returned (.int .i64 c)∧max (-1) (min 1 c)=cmpQ p q∧Below w.heap.size w w':=by
 have HV:=b9W h;have HV':=b9W h';have HE:=b9W (b87 heq hm);have hxy:(sgQ p==sgQ q)=true:=by rw[beq_iff_eq];exact heq
 clear heq;obtain⟨b,N,D,An,cn,Ad,cd,rfl,hn,hd,HP⟩:=a0r h;obtain⟨b',N',D',An',cn',Ad',cd',rfl,hn',hd',HQ⟩:=a0r h';obtain⟨e1,e2,e3⟩:=HP.out;obtain⟨f1,f2,f3⟩:=HQ.out;rw[e2]at l1;rw[e3]at l2;rw[f2]at l3;rw[f3]at l4;have HN:=b9W hn;have HD:=b9W hd;have HN':=b9W hn';have HD':=b9W hd';obtain rfl:b=true:=e1.symm.trans hm;have hz:=b0L (N*D') (N'*D);rw[e2,e3,f2,f3]at HE;clear hm;clear hn hd hn' hd' h h' e1 e2 e3 f1 f2 f3;have lx:=Nat.le_trans (a0D N D') (show _≤20000 by omega);generalize hgx:sgQ p=x at hxy;generalize hgy:sgQ q=y at hxy;have HGX:=b9W hgx;have HGY:=b9W hgy;clear hgx hgy;refine(callsIn_wide (n:=3)).1 ?_;have h1:1≤3:=by omega
 have hmx:prog.follows .mixedOrders=true:=by kernel_rfl
 refine callsIn_of_wp func198 rfl trivial ?_ rfl
 simp only[ntmps198,List.size_toArray,List.length_cons,List.length_nil,Nat.reduceAdd,Nat.reduceSub,Array.replicate_succ,Array.replicate_zero,List.push_toArray,List.append_toArray,List.nil_append,List.cons_append]
 gi_upto_region 1 with fail
 obtain⟨b0,b1,hB,hs⟩:=b0u w (.bool true) (.slice An (toL N).length cn) (.slice Ad (toL D).length cd) (.bool b') (.slice An' (toL N').length cn') (.slice Ad' (toL D').length cd');generalize (w.alloc (.cells #[.bool true,.slice An (toL N).length cn,.slice Ad (toL D).length cd] 216)).alloc (.cells #[.bool b',.slice An' (toL N').length cn',.slice Ad' (toL D').length cd'] 216)=W at *;obtain⟨x0,x1,x2⟩:=a0j (S:=fun k=>k < W.heap.size) b0 (by omega);obtain⟨y0,y1,y2⟩:=a0j (S:=fun k=>k < W.heap.size) b1 (by omega);have HB:=b9W (a0x hB);have HS:=b9W hs;have P0:=b9W b0;have P1:=b9W b1;clear b0 b1 hB hs;refine a0o (a0R W (fun k=>k < W.heap.size)) [0,2] [] hmx (by kernel_rfl) (a0g fun _ _=>rfl) ?_;change a0l _ _ _ _ _ _ _ _ (4+2) _ _ _;refine a0e [0,2] 4 _ _ (by kernel_rfl) ?_;change wpQuietIn _ _ _ _ (fun W'=>∃ x:a0n W (fun k=>k < W.heap.size),W'=x.W) _ _ _
 simp only[a0h,a0m,List.getElem?_cons_zero,List.getElem?_cons_succ,Option.elim_some]
 repeat (gi_big_quiet_step (fail))
 refine wpQuietIn_nil ?_;refine a0c 1 (by kernel_rfl) rfl ?_;gi_wp2;refine⟨trivial,?_⟩;refine(callsIn_wide.2 (a28 p _ W.drew (HV.out.below HB.out))).mono ?_;rintro e w3 ⟨rfl,hb3⟩;rw[HGX.out];have hB3:Below W.heap.size W w3:=a0q hb3;have HB3:=b9W hB3;clear hb3 hB3;gi_wp2;refine a0b (a0a HB3.out (fun k hk=>hk)) ?_;refine a0c 3 (by kernel_rfl) rfl ?_;gi_wp2;refine⟨trivial,?_⟩;refine(callsIn_wide.2 (a28 q _ w3 (HV'.out.below (HB.out.trans ((a0f HB3.out).mono HB.out.size))))).mono ?_;rintro e w4 ⟨rfl,hb4⟩;rw[HGY.out];have hB4:Below W.heap.size W w4:=HB3.out.trans (hb4.mono HB3.out.size);have HB4:=b9W hB4;clear hb4 hB4;gi_wp2;refine a0b (a0a HB4.out (fun k hk=>hk)) ?_;refine a0c 4 (by kernel_rfl) rfl ?_;gi_wp2;refine a0b (a0a HB4.out (fun k hk=>hk)) ?_;refine a0c 5 (by kernel_rfl) rfl ?_;gi_wp2;refine a0b (a0a HB4.out (fun k hk=>hk)) ?_;refine a0i (by kernel_rfl) ?_;clear x0 x1 x2 y0 y1 y2;have hsz:=HS.out;obtain⟨x0,x1,x2⟩:=a1u (P0.out.below HB4.out (by omega));obtain⟨y0,y1,y2⟩:=a1u (P1.out.below HB4.out (by omega));clear hsz;have Q0:=b9W (P0.out.below HB4.out (by have:=HS.out;omega));have Q1:=b9W (P1.out.below HB4.out (by have:=HS.out;omega));have h42:=HB4.out.size
 gi_upto_region 4 with fail
 clear x0 x1 x2 y0 y1 y2;have hsz:=HS.out;obtain⟨x0,x1,x2⟩:=a0j (S:=fun k=>k < w4.heap.size) Q0.out (by omega);obtain⟨y0,y1,y2⟩:=a0j (S:=fun k=>k < w4.heap.size) Q1.out (by omega);clear hsz;have HB40:=b9W (a0x (HB.out.trans ((a0f HB4.out).mono HB.out.size)));refine a0o (a0R w4 (fun k=>k < w4.heap.size)) [0,1,2,3,5,6,7,8] [] hmx (by kernel_rfl) (a0g fun _ _=>rfl) ?_;change a0l _ _ _ _ _ _ _ _ (4+8) _ _ _;refine a0e [0,1,2,3,5,6,7,8] 4 _ _ (by kernel_rfl) ?_;change wpQuietIn _ _ _ _ (fun W'=>∃ x:a0n w4 (fun k=>k < w4.heap.size),W'=x.W) _ _ _
 simp only[a0h,a0m,List.getElem?_cons_zero,List.getElem?_cons_succ,Option.elim_some]
 repeat (gi_big_quiet_step (fail))
 refine wpQuietIn_nil ?_;refine a0c 4 (by kernel_rfl) rfl ?_;gi_wp2;refine⟨trivial,?_⟩;refine(callsIn_wide.2 (a2k N D' _ _ w4.drew (HN.out.below HB40.out) (HD'.out.below HB40.out) (by omega) (by omega))).mono ?_;rintro e w5 ⟨v5,rfl,hv5,hb5⟩;obtain⟨A5,c5,rfl,_,_,_⟩:=id hv5;have HV5:=b9W hv5;have hB5:Below w4.heap.size w4 w5:=a0q hb5;have HB5:=b9W hB5;clear hv5 hb5 hB5;gi_wp2;refine a0b (a0a HB5.out (fun k hk=>hk)) ?_;refine a0c 9 (by kernel_rfl) rfl ?_;gi_wp2;have HB50:=b9W (HB40.out.trans ((a0f HB5.out).mono HB40.out.size));refine⟨trivial,?_⟩;refine(callsIn_wide.2 (a2k N' D _ _ w5 (HN'.out.below HB50.out) (HD.out.below HB50.out) (by omega) (by omega))).mono ?_;rintro e w6 ⟨v6,rfl,hv6,hb6⟩;obtain⟨A6,c6,rfl,_,_,_⟩:=id hv6;have HV6:=b9W hv6;have HV5:=b9W (HV5.out.below hb6);have hB6:Below w4.heap.size w4 w6:=HB5.out.trans (hb6.mono HB5.out.size);have HB6:=b9W hB6;clear hv6 hb6 hB6;gi_wp2;refine a0b (a0a HB6.out (fun k hk=>hk)) ?_;refine a0c 10 (by kernel_rfl) rfl ?_;gi_wp2;refine⟨trivial,?_⟩;refine(callsIn_wide.2 (a5l (N*D') (N'*D) _ _ w6 HV5.out HV6.out (by omega))).mono ?_;rintro e w7 ⟨rfl,hb7⟩;generalize hgz:sgn (N*D') (N'*D)=z at hz HE ⊢;obtain⟨hz1,hz2⟩:=hz;clear hgz;have hB7:Below w4.heap.size w4 w7:=HB6.out.trans (hb7.mono HB6.out.size);have HB7:=b9W hB7;clear hb7 hB7;gi_wp2;refine a0b (a0a HB7.out (fun k hk=>hk)) ?_;refine a0c 11 (by kernel_rfl) rfl ?_;gi_wp2;refine a0b (a0a HB7.out (fun k hk=>hk)) ?_;refine a0i (by kernel_rfl) ?_;clear x0 x1 x2 y0 y1 y2;obtain⟨x0,x1,x2⟩:=a1u (Q0.out.below HB7.out (by have:=HS.out;omega));gi_wp2;refine bodyPost_ret (results_tmp rfl _ _ _) rfl ?_;exact⟨_,rfl,by rw[b3z (by omega)];exact HE.out,HB.out.trans ((a0f (HB4.out.trans (HB7.out.mono h42))).mono HB.out.size)⟩
theorem b7u(p q:Rat)(v v':Value)(w:World)(h:a0C w v p)(h':a0C w v' q)(l1:(toL (nm p)).length≤10000)(l2:(toL p.den).length≤10000)(l3:(toL (nm q)).length≤10000)(l4:(toL q.den).length≤10000) :
  Calls prog 198 #[v,v'] w fun e w'=>∃ c:Int,e=.returned (.int .i64 c)∧max (-1) (min 1 c)=cmpQ p q∧Below w.heap.size w w':=by
 by_cases hs:sgQ p=sgQ q
 ·cases hm:ng p with
  | false=>exact b72 p q v v' w h h' l1 l2 l3 l4 hs hm
  | true=>exact b8z p q v v' w h h' l1 l2 l3 l4 hs hm
 ·exact b9b p q v v' w h h' l1 l2 l3 l4 hs
end Go.Proofs.YtigapglmipmbeaaGreatDoor
namespace Go.Proofs.YtigapglmipmbeaaGreatDoor
open Go.RowKit Go.Shelf
open Lim
def resI(x:Int × Nat):Value:=.tuple #[.int .i64 x.1,.int .i64 (x.2:Int)]
def oneI(f:Rat→Int × Nat)(a:List UInt8):Int × Nat:=if errQ a≠0 then (0,errQ a) else f (valQ a)
def twoI(f:Rat→Rat→Int × Nat)(a b:List UInt8):Int × Nat:=if errQ a≠0 then (0,errQ a) else if errQ b≠0 then (0,errQ b) else f (valQ a) (valQ b)
theorem b6c(F:FuncId)(hrun:Runs F)(caps:Array Value)(g:Rat→Int × Nat)(a:ByteArray)(w:World)(ha:a.size≤270000)(hr:Res w)
  (hF:∀ p v w',Below w.heap.size w w'→Res w'→a0C w' v p→Sz maxD p→Calls prog F (#[v]++caps) w' fun e w''=>e=.returned (resI (g p))∧Below w'.heap.size w' w'') :
  Calls prog 241 #[.string a,.func (.func F) #[] caps] w fun e w'=>e=.returned (resI (oneI g a.data.toList))∧Below w.heap.size w w':=by
 by_cases h1:errQ a.data.toList=0
 ·unfold oneI
  rw[if_neg (by omega)];exact WI.with_ok F hrun caps (.int .i64 (g (valQ a.data.toList)).1) _ a w ha hr h1 (fun v w' hb hr' hv=>hF _ v w' hb hr' hv (a17 h1))
 ·unfold oneI
  rw[if_pos h1];exact WI.with_err a _ w ha hr h1
theorem b49(F:FuncId)(hrun:Runs F)(g:Rat→Rat→Int × Nat)(a b:ByteArray)(w:World)(ha:a.size≤270000)(hb:b.size≤270000)(hr:Res w)
  (hF:∀ p q v v' w',Res w'→a0C w' v p→a0C w' v' q→Sz maxD p→Sz maxD q→Calls prog F #[v,v'] w' fun e w''=>e=.returned (resI (g p q))∧Below w'.heap.size w' w'') :
  Calls prog 196 #[.string a,.string b,.func (.func F) #[] #[]] w fun e w'=>e=.returned (resI (twoI g a.data.toList b.data.toList))∧Below w.heap.size w w':=by
 refine(WI.both_any F hrun (fun p q=>(.int .i64 (g p q).1,((g p q).2:Int))) a b w ha hb hr (fun v v' w' _ hr' hv hv' h1 h2=>hF _ _ v v' w' hr' hv hv' (a17 h1) (a17 h2))).mono ?_;rintro e w' ⟨rfl,hB⟩;refine⟨?_,hB⟩;unfold twoI resI
 split
 ·rfl
 ·split<;>rfl
theorem b5U:Runs 242:=a1_ func242 (by kernel_rfl) (by kernel_rfl)
theorem b6D(p:Rat)(v:Value)(w:World)(hv:a0C w v p) :
  Calls prog 242 #[v] w fun e w'=>e=.returned (resI (sgQ p,0))∧Below w.heap.size w w':=by
 obtain⟨bq,N,D,A,c,A',c',rfl,hn,hd,HQ⟩:=a0r hv;have HX:=b9W (a0d (Below.refl w.heap.size w) (.cells #[.bool bq,.slice A (toL N).length c,.slice A' (toL D).length c'] 216));have HF:=b9W (a28 p _ _ (hv.below HX.out));generalize sgQ p=r at HF ⊢;clear hv hn hd
 go_enter func242,ntmps242
 go_wp2_with (go_at_call 211;refine HF.out.mono ?_;rintro e w1 ⟨rfl,hb1⟩;have HB1:=b9W (HX.out.trans (hb1.mono HX.out.size));clear hb1)
 refine bodyPost_ret (results_tmp2 rfl _ _ _) rfl ?_;exact⟨rfl,HB1.out⟩
theorem b2v(a:ByteArray)(w:World)(ha:a.size≤270000)(hr:Res w) :
  Calls prog 187 #[.string a] w fun e w'=>e=.returned (resI (oneI (fun p=>(sgQ p,0)) a.data.toList))∧Below w.heap.size w w':=by
 have HB:=b9W (b6c 242 b5U #[] (fun p=>(sgQ p,0)) a w ha hr (fun p v w' _ _ hv _=>b6D p v w' hv));generalize oneI (fun p=>(sgQ p,0)) a.data.toList=r at HB ⊢;clear hr
 go_enter func187,ntmps187
 go_wp2_with (go_at_call 241;refine HB.out.mono ?_;rintro e w2 ⟨rfl,hb2⟩;have HB2:=b9W hb2;clear hb2;unfold resI)
 refine bodyPost_ret (results_tmp2 rfl _ _ _) rfl ?_;exact⟨rfl,HB2.out⟩
theorem b68:Runs 197:=a1_ func197 (by kernel_rfl) (by kernel_rfl)
theorem b7K(p q:Rat)(v v':Value)(w:World)(hv:a0C w v p)(hv':a0C w v' q)(sp:Sz maxD p)(sq:Sz maxD q) :
  Calls prog 197 #[v,v'] w fun e w'=>e=.returned (resI (cmpQ p q,0))∧Below w.heap.size w w':=by
 obtain⟨lp,lp'⟩:=a1g sp;obtain⟨lq,lq'⟩:=a1g sq;obtain⟨bq,N,D,A,c,A',c',rfl,hn,hd,HQ⟩:=a0r hv;obtain⟨bq',N',D',B,d,B',d',rfl,hn',hd',HQ'⟩:=a0r hv';have HX:=b9W (a0d (a0d (Below.refl w.heap.size w) (.cells #[.bool bq,.slice A (toL N).length c,.slice A' (toL D).length c'] 216)) (.cells #[.bool bq',.slice B (toL N').length d,.slice B' (toL D').length d'] 216));have HF:=b9W (b7u p q _ _ _ (hv.below HX.out) (hv'.below HX.out) (by omega) (by omega) (by omega) (by omega));generalize cmpQ p q=r at HF ⊢;clear hv hv' hn hd hn' hd' sp sq lp lp' lq lq'
 go_enter func197,ntmps197
 go_wp2_with (go_at_call 198;refine HF.out.mono ?_;rintro e w1 ⟨k,rfl,hk,hb1⟩;subst hk;have HB1:=b9W (HX.out.trans (hb1.mono HX.out.size));clear hb1)
 refine bodyPost_ret (results_tmp2 rfl _ _ _) rfl ?_;exact⟨rfl,HB1.out⟩
theorem a9v(a b:ByteArray)(w:World)(ha:a.size≤270000)(hb:b.size≤270000)(hr:Res w) :
  Calls prog 116 #[.string a,.string b] w fun e w'=>e=.returned (resI (twoI (fun p q=>(cmpQ p q,0)) a.data.toList b.data.toList))∧Below w.heap.size w w':=by
 have HB:=b9W (b49 197 b68 (fun p q=>(cmpQ p q,0)) a b w ha hb hr (fun p q v v' w' _ hv hv' sp sq=>b7K p q v v' w' hv hv' sp sq));generalize twoI (fun p q=>(cmpQ p q,0)) a.data.toList b.data.toList=r at HB ⊢;clear hr
 go_enter func116,ntmps116
 go_wp2_with (go_at_call 196;refine HB.out.mono ?_;rintro e w2 ⟨rfl,hb2⟩;have HB2:=b9W hb2;clear hb2;unfold resI)
 refine bodyPost_ret (results_tmp2 rfl _ _ _) rfl ?_;exact⟨rfl,HB2.out⟩
def a35(x:Int × Nat)(s:Int)(a b:ByteArray):ByteArray × Nat:=if x.2≠0 then (⟨#[]⟩,x.2) else if x.1*s > 0 then (b,0) else (a,0)
def resS(x:ByteArray × Nat):Value:=.tuple #[.string x.1,.int .i64 (x.2:Int)]
theorem a7h(a b:List UInt8):-1≤(twoI (fun p q=>(cmpQ p q,0)) a b).1∧(twoI (fun p q=>(cmpQ p q,0)) a b).1≤1:=by
 unfold twoI
 split
 ·show (-1:Int)≤0∧(0:Int)≤1;omega
 ·split
  ·show (-1:Int)≤0∧(0:Int)≤1;omega
  ·rcases a9D (valQ a) (valQ b) with h|h|h<;>simp[h]
theorem b4q(a b:ByteArray)(s:Int)(w:World)(ha:a.size≤270000)(hb:b.size≤270000)(hr:Res w)(hs:s=1∨s=-1) :
  Calls prog 207 #[.string a,.string b,.int .i64 s] w fun e w'=>e=.returned (resS (a35 (twoI (fun p q=>(cmpQ p q,0)) a.data.toList b.data.toList) s a b))∧Below w.heap.size w w':=by
 have HB:=b9W (a9v a b w ha hb hr);obtain⟨z1,z2⟩:=a7h a.data.toList b.data.toList;generalize twoI (fun p q=>(cmpQ p q,0)) a.data.toList b.data.toList=r at HB z1 z2 ⊢;obtain⟨k,e0⟩:=r
 dsimp only at z1 z2
 unfold resI at HB;unfold a35 resS
 dsimp only at HB ⊢
 clear hr
 by_cases he:e0=0
 ·subst he
  have hks:-1≤k*s∧k*s≤1:=by rcases hs with rfl|rfl<;>omega
  rw[if_neg (by omega)]
  by_cases hp:k*s > 0
  ·rw[if_pos hp]
   have hp':decide (k*s > 0)=true:=decide_eq_true hp
   go_enter func207,ntmps207
   go_wp2_with (go_at_call 116;refine HB.out.mono ?_;rintro e w2 ⟨rfl,hb2⟩;have HB2:=b9W hb2;clear hb2)
   refine bodyPost_ret (results_tmp2 rfl _ _ _) rfl ?_;exact⟨rfl,HB2.out⟩
  ·rw[if_neg hp]
   have hp':decide (k*s > 0)=false:=decide_eq_false hp
   go_enter func207,ntmps207
   go_wp2_with (go_at_call 116;refine HB.out.mono ?_;rintro e w2 ⟨rfl,hb2⟩;have HB2:=b9W hb2;clear hb2)
   refine bodyPost_ret (results_tmp2 rfl _ _ _) rfl ?_;exact⟨rfl,HB2.out⟩
 ·rw[if_pos he]
  have hne:((e0:Int)==0)=false:=by rw[beq_eq_false_iff_ne];omega
  have HE:=b9W he;clear he
  go_enter func207,ntmps207
  go_wp2_with (go_at_call 116;refine HB.out.mono ?_;rintro e w2 ⟨rfl,hb2⟩;have HB2:=b9W hb2;clear hb2)
  refine bodyPost_ret (results_tmp2 rfl _ _ _) rfl ?_;exact⟨rfl,HB2.out⟩
theorem b38(a b:ByteArray)(w:World)(ha:a.size≤270000)(hb:b.size≤270000)(hr:Res w) :
  Calls prog 143 #[.string a,.string b] w fun e w'=>e=.returned (resS (a35 (twoI (fun p q=>(cmpQ p q,0)) a.data.toList b.data.toList) 1 a b))∧Below w.heap.size w w':=by
 have HB:=b9W (b4q a b 1 w ha hb hr (.inl rfl));generalize a35 (twoI (fun p q=>(cmpQ p q,0)) a.data.toList b.data.toList) 1 a b=r at HB ⊢;clear hr
 go_enter func143,ntmps143
 go_wp2_with (go_at_call 207;refine HB.out.mono ?_;rintro e w2 ⟨rfl,hb2⟩;have HB2:=b9W hb2;clear hb2;unfold resS)
 refine bodyPost_ret (results_tmp2 rfl _ _ _) rfl ?_;exact⟨rfl,HB2.out⟩
end Go.Proofs.YtigapglmipmbeaaGreatDoor
namespace Go.Proofs.YtigapglmipmbeaaGreatDoor
open Lim
end Go.Proofs.YtigapglmipmbeaaGreatDoor
namespace Go.Proofs.YtigapglmipmbeaaGreatDoor
open Go.RowKit Go.Shelf
open Lim
theorem b7R{f:Rat→Rat→Int × Nat}{a b:ByteArray}{p q:Rat}(ha:IsT a p)(hb:IsT b q):twoI f a.data.toList b.data.toList=f p q:=by
 unfold twoI;rw[ha.err,hb.err,ha.val,hb.val];rfl
section
variable {a b c:ByteArray} {p q:Rat} (w:World)
theorem cmpT{k:Int}(ha:IsT a p)(hb:IsT b q)(hk:cmpQ p q=k)(hr:Res w) :
  Calls prog 116 #[.string a,.string b] w fun e w'=>e=.returned (.tuple #[.int .i64 k,.int .i64 0])∧Below w.heap.size w w':=by
 refine(a9v a b w ha.size hb.size hr).mono ?_;rintro e w' ⟨rfl,h⟩;rw[b7R ha hb,hk];exact⟨rfl,h⟩
theorem minT(ha:IsT a p)(hb:IsT b q)(hc:c=if cmpQ p q > 0 then b else a)(hr:Res w) :
  Calls prog 143 #[.string a,.string b] w fun e w'=>e=.returned (.tuple #[.string c,.int .i64 0])∧Below w.heap.size w w':=by
 refine(b38 a b w ha.size hb.size hr).mono ?_;rintro e w' ⟨rfl,h⟩;refine⟨?_,h⟩;rw[b7R ha hb,hc];unfold a35 resS
 simp only[ne_eq,not_true_eq_false,if_false,Int.mul_one]
 split<;>rfl
end
def rT(q:Rat):ByteArray:=⟨(a1Q q).toArray⟩
def fits(q:Rat):Bool:=!(decide (maxD < Lib.nDigits (nm q)∨maxD < Lib.nDigits q.den))
theorem a0V{q:Rat}:fits q=true↔Sz maxD q:=by
 rw[a5M (by decide)];unfold fits;rw[Bool.not_eq_true',decide_eq_false_iff_not]
 omega
theorem IsT.fits{a:ByteArray}{q:Rat}(h:IsT a q):fits q=true:=a0V.2 h.2
theorem a16{q:Rat}(h:fits q=true):IsT (rT q) q:=⟨rfl,a0V.1 h⟩
theorem IsT.text{a:ByteArray}{q:Rat}(h:IsT a q):a=rT q:=h.1
theorem b4P:fits 0=true:=IsT.zero.fits
def minQ(p q:Rat):Rat:=if cmpQ p q > 0 then q else p
def maxQ(p q:Rat):Rat:=if cmpQ p q < 0 then q else p
theorem a79(p q:Rat):cmpQ p q > 0↔q < p:=by
 have:=b0O p q;rw[← a23]
 omega
theorem b1R(p q:Rat):minQ p q=if q < p then q else p:=by
 unfold minQ
 by_cases h:q < p
 ·rw[if_pos ((a79 p q).2 h),if_pos h]
 ·rw[if_neg (fun h2=>h ((a79 p q).1 h2)),if_neg h]
theorem b2b(p q:Rat):maxQ p q=if p < q then q else p:=by
 unfold maxQ
 by_cases h:p < q
 ·rw[if_pos ((a23 p q).2 h),if_pos h]
 ·rw[if_neg (fun h2=>h ((a23 p q).1 h2)),if_neg h]
theorem b48(p q:Rat):minQ p q≤p∧minQ p q≤q:=by
 rw[b1R];split<;>grind
theorem a6V{p q r:Rat}(h1:r≤p)(h2:r≤q):r≤minQ p q:=by
 rw[b1R];split<;>assumption
theorem a8D(p q:Rat):p≤maxQ p q∧q≤maxQ p q:=by
 rw[b2b];split<;>grind
theorem b5v{p q r:Rat}:maxQ p q≤r↔p≤r∧q≤r:=by
 rw[b2b];split<;>grind
theorem b8L{a b:ByteArray}{p q:Rat}(ha:IsT a p)(hb:IsT b q):(if cmpQ p q > 0 then b else a)=rT (minQ p q):=by
 unfold minQ;split
 ·exact hb.text
 ·exact ha.text
theorem rT_max{a b:ByteArray}{p q:Rat}(ha:IsT a p)(hb:IsT b q):(if cmpQ p q < 0 then b else a)=rT (maxQ p q):=by
 unfold maxQ;split
 ·exact hb.text
 ·exact ha.text
def errL(f d:ByteArray):Nat :=
 if errQ f.data.toList≠0 then errQ f.data.toList else if errQ d.data.toList≠0 then errQ d.data.toList
 else if cmpQ (valQ f.data.toList) 1 < 0∨cmpQ (valQ d.data.toList) 0 < 0∨cmpQ (valQ d.data.toList) 1 > 0 then 2 else 0
abbrev LQ:=Rat × Rat
def lossT(l:LQ):Value:=.agg #[.string (rT l.1),.string (rT l.2)]
structure b3B (f d:ByteArray) (l:LQ):Prop where
 f:IsT f l.1
 d:IsT d l.2
 one:1≤l.1
 zero:0≤l.2
 top:l.2≤1
theorem b1N{f d:ByteArray}(h:errL f d=0):b3B f d (valQ f.data.toList,valQ d.data.toList):=by
 unfold errL at h
 by_cases h1:errQ f.data.toList=0
 ·by_cases h2:errQ d.data.toList=0
  ·rw[if_neg (by omega),if_neg (by omega)]at h
   by_cases h3:cmpQ (valQ f.data.toList) 1 < 0∨cmpQ (valQ d.data.toList) 0 < 0∨cmpQ (valQ d.data.toList) 1 > 0
   ·rw[if_pos h3]at h;cases h
   ·have a1:=(a23 (valQ f.data.toList) 1)
    have a2:=(a23 (valQ d.data.toList) 0);have a3:=(a79 (valQ d.data.toList) 1);refine⟨IsT.of h1,IsT.of h2,?_,?_,?_⟩
    ·exact Rat.not_lt.1 (fun h4=>h3 (.inl (a1.2 h4)))
    ·exact Rat.not_lt.1 (fun h4=>h3 (.inr (.inl (a2.2 h4))))
    ·exact Rat.not_lt.1 (fun h4=>h3 (.inr (.inr (a3.2 h4))))
  ·rw[if_neg (by omega),if_pos h2]at h;exact absurd h h2
 ·rw[if_pos h1]at h;exact absurd h h1
theorem b3B.err{f d:ByteArray}{l:LQ}(h:b3B f d l):errL f d=0:=by
 unfold errL;rw[if_neg (by rw[h.f.err];decide),if_neg (by rw[h.d.err];decide),h.f.val,h.d.val,if_neg];rw[a23,a23,a79];have:=h.one;have:=h.zero;have:=h.top
 grind
structure OkL (l:LQ):Prop where
 f:fits l.1=true
 d:fits l.2=true
 one:1≤l.1
 zero:0≤l.2
 top:l.2≤1
theorem b4c{x y:Rat}(hx:1≤x)(hy:1≤y):1≤x*y:=by
 have:=Rat.mul_le_mul_of_nonneg_left hy (show (0:Rat)≤x by grind)
 grind
section
variable {fn:Func} {tmps:Array Value} {R:Ending→World→Prop} {b:Nat} {w:World}
end
theorem cell0{w:World}{b:Nat}{t:TypeId}{v:Value}(h:Blk w b t #[v]):w.cell? ⟨b,0,none⟩=some v:=(a0W h 0 (by simp)).1
theorem a06{w:World}{b:Nat}{t:TypeId}{u v:Value}(h:Blk w b t #[u,v]):w.cell? ⟨b,0,none⟩=some u∧w.cell? ⟨b,1,none⟩=some v:=⟨(a0W h 0 (by simp)).1,(a0W h 1 (by simp)).1⟩
theorem b1D{B:Nat}{w W:World}(h:Below B w W)(hB:B≤W.heap.size)(o:Obj):Below B w (W.alloc o):=h.alloc hB o
theorem lsize:(prog.info? 63).map (·.size)=some 2:=by kernel_rfl
theorem a8k{W:World}{e:Nat}{n:Int}(h:Blk W e 32 #[.int .i64 n]):(loadVar 32 ⟨e,0,none⟩).run prog W=.ok (.int .i64 n) W:=by
 have hc:=cell0 h
 simp[go_sem,hc]
theorem a6z{W:World}{g:Nat}{t:TypeId}{u v:Value}(h:Blk W g t #[u,v]):(loadVar 63 ⟨g,0,none⟩).run prog W=.ok (.agg #[u,v]) W :=
 run_loadVar_row W g t 63 #[u,v] (0,0) _ h underlying63 rfl lsize
section
variable {fn:Func} {p q u:Tmp} {tmps:Array Value} {W:World} {g e:Nat} {T:TypeId} {x:Value} {n:Int}
theorem a6I(h:fn.results=#[.cell p T])(hp:tmps.getD p undef=.pointer (some ⟨g,0,none⟩))(hg:(loadVar T ⟨g,0,none⟩).run prog W=.ok x W):(results fn tmps).run prog W=.ok x W:=by
 have hp':tmps[p]?.getD undef=.pointer (some ⟨g,0,none⟩):=by simpa using hp
 simp only[results,h]
 simp[hp',asAddr,hg]
theorem a2c(h:fn.results=#[.cell p T,.tmp u])(hp:tmps.getD p undef=.pointer (some ⟨g,0,none⟩))(hg:(loadVar T ⟨g,0,none⟩).run prog W=.ok x W) :
  (results fn tmps).run prog W=.ok (.tuple #[x,tmps.getD u undef]) W:=by
 rw[results_cell_tmp h,hp]
 simp only[asAddr,Sem.run_pure,Result.andThen_ok]
 rw[hg]
 rfl
end
abbrev CT:=Nat→ByteArray
def cvA(c:CT):Array Value:=#[.string (c 0),.string (c 1),.string (c 2),.string (c 3),.string (c 4),.string (c 5),.string (c 6),.string (c 7)]
def upd(c:CT)(k:Nat)(x:ByteArray):CT:=fun j=>if j=k then x else c j
theorem b3n(c:CT)(k:Nat)(x:ByteArray):upd c k x k=x:=if_pos rfl
theorem a8o(c:CT){k j:Nat}(x:ByteArray)(h:j≠k):upd c k x j=c j:=if_neg h
theorem b82(c:CT){k:Nat}(hk:k < 8)(x:ByteArray):(cvA c).setIfInBounds k (.string x)=cvA (upd c k x):=by
 match k,hk with
 | 0,_=>rfl
 | 1,_=>rfl
 | 2,_=>rfl
 | 3,_=>rfl
 | 4,_=>rfl
 | 5,_=>rfl
 | 6,_=>rfl
 | 7,_=>rfl
theorem b9m(c:CT){k:Nat}(hk:k < 8):(cvA c)[k]?=some (.string (c k)):=by
 match k,hk with
 | 0,_=>rfl
 | 1,_=>rfl
 | 2,_=>rfl
 | 3,_=>rfl
 | 4,_=>rfl
 | 5,_=>rfl
 | 6,_=>rfl
 | 7,_=>rfl
theorem b6e{c c':CT}(h:∀ k,k < 8→c k=c' k):cvA c=cvA c':=by
 unfold cvA;rw[h 0 (by omega),h 1 (by omega),h 2 (by omega),h 3 (by omega),h 4 (by omega),h 5 (by omega),h 6 (by omega),h 7 (by omega)]
def CBlk(W:World)(g:Nat)(c:CT):Prop:=Blk W g 59 (cvA c)
section
variable {W W':World} {g:Nat} {c:CT}
theorem CBlk.lt(h:CBlk W g c):g < W.heap.size:=Blk.lt h
theorem CBlk.new(w:World)(c:CT):CBlk (w.alloc (.cells #[.string (c 0),.string (c 1),.string (c 2),.string (c 3),.string (c 4),.string (c 5),.string (c 6),.string (c 7)] 59)) w.heap.size c:=Blk.new w _ _
theorem CBlk.alloc(h:CBlk W g c)(o:Obj):CBlk (W.alloc o) g c:=Blk.alloc h o
theorem CBlk.below{B:Nat}(h:CBlk W g c)(hb:Below B W W')(hg:g < B):CBlk W' g c:=Blk.below h hb hg
theorem CBlk.later(h:CBlk W g c)(hb:Below W.heap.size W W'):CBlk W' g c:=Blk.below h hb h.lt
theorem CBlk.cell(h:CBlk W g c){k:Nat}(hk:k < 8):W.cell? ⟨g,k,none⟩=some (.string (c k)):=by
 rw[Blk.cell h,b9m c hk]
theorem CBlk.cells(h:CBlk W g c):W.cell? ⟨g,0,none⟩=some (.string (c 0))∧W.cell? ⟨g,1,none⟩=some (.string (c 1))∧W.cell? ⟨g,2,none⟩=some (.string (c 2))∧W.cell? ⟨g,3,none⟩=some (.string (c 3)) ∧
  W.cell? ⟨g,4,none⟩=some (.string (c 4))∧W.cell? ⟨g,5,none⟩=some (.string (c 5))∧W.cell? ⟨g,6,none⟩=some (.string (c 6))∧W.cell? ⟨g,7,none⟩=some (.string (c 7)) :=
 ⟨h.cell (by omega),h.cell (by omega),h.cell (by omega),h.cell (by omega),h.cell (by omega),h.cell (by omega),h.cell (by omega),h.cell (by omega)⟩
theorem CBlk.set_(h:CBlk W g c){k:Nat}(hk:k < 8)(x:ByteArray):CBlk (W.setCell ⟨g,k,none⟩ (.string x)) g (upd c k x):=by
 have:=Blk.set_ h k (.string x)
 rwa [b82 c hk]at this
theorem CBlk.frozen(h:CBlk W g c)(i:Nat):W.frozen? ⟨g,i,none⟩=false:=Blk.frozen h i
theorem csize:(prog.info? 59).map (·.size)=some 8:=by kernel_rfl
theorem a4v(h:CBlk W g c):(loadVar 59 ⟨g,0,none⟩).run prog W=.ok (.agg (cvA c)) W :=
 run_loadVar_row W g 59 59 (cvA c) (0,0) _ h underlying59 rfl csize
end
theorem b7k(a0 a1 a2 a3 a4 a5 a6:ByteArray)(w:World):(Instr.index 57 (.agg #[.string a0,.string a1,.string a2,.string a3,.string a4,.string a5,.string a6]) (.int .i64 0)).run prog w=.ok (.string a0) w:=by kernel_rfl
theorem b8e(a0 a1 a2 a3 a4 a5 a6:ByteArray)(w:World):(Instr.index 57 (.agg #[.string a0,.string a1,.string a2,.string a3,.string a4,.string a5,.string a6]) (.int .i64 1)).run prog w=.ok (.string a1) w:=by kernel_rfl
theorem b7Z(a0 a1 a2 a3 a4 a5 a6:ByteArray)(w:World):(Instr.index 57 (.agg #[.string a0,.string a1,.string a2,.string a3,.string a4,.string a5,.string a6]) (.int .i64 2)).run prog w=.ok (.string a2) w:=by kernel_rfl
theorem b8i(a0 a1 a2 a3 a4 a5 a6:ByteArray)(w:World):(Instr.index 57 (.agg #[.string a0,.string a1,.string a2,.string a3,.string a4,.string a5,.string a6]) (.int .i64 3)).run prog w=.ok (.string a3) w:=by kernel_rfl
theorem b7N(a0 a1 a2 a3 a4 a5 a6:ByteArray)(w:World):(Instr.index 57 (.agg #[.string a0,.string a1,.string a2,.string a3,.string a4,.string a5,.string a6]) (.int .i64 4)).run prog w=.ok (.string a4) w:=by kernel_rfl
theorem b7O(a0 a1 a2 a3 a4 a5 a6:ByteArray)(w:World):(Instr.index 57 (.agg #[.string a0,.string a1,.string a2,.string a3,.string a4,.string a5,.string a6]) (.int .i64 5)).run prog w=.ok (.string a5) w:=by kernel_rfl
theorem b7s(a0 a1 a2 a3 a4 a5 a6:ByteArray)(w:World):(Instr.index 57 (.agg #[.string a0,.string a1,.string a2,.string a3,.string a4,.string a5,.string a6]) (.int .i64 6)).run prog w=.ok (.string a6) w:=by kernel_rfl
theorem index7(c:CT){k:Nat}(hk:k < 7)(w:World):(Instr.index 57 (.agg #[.string (c 0),.string (c 1),.string (c 2),.string (c 3),.string (c 4),.string (c 5),.string (c 6)]) (.int .i64 (k:Int))).run prog w=.ok (.string (c k)) w:=by
 match k,hk with
 | 0,_=>exact b7k _ _ _ _ _ _ _ w
 | 1,_=>exact b8e _ _ _ _ _ _ _ w
 | 2,_=>exact b7Z _ _ _ _ _ _ _ w
 | 3,_=>exact b8i _ _ _ _ _ _ _ w
 | 4,_=>exact b7N _ _ _ _ _ _ _ w
 | 5,_=>exact b7O _ _ _ _ _ _ _ w
 | 6,_=>exact b7s _ _ _ _ _ _ _ w
def NextO(pre:List Nat)(x:Nat):Prop:=pre=List.range x∧x < 7
theorem a7n(F:Fence)(n:Nat)(hF:F.fn 230)(hro:F.round=none)(hn:1≤n)(g:Nat)(c:CT) :
  b1m F n prog 230 #[.pointer (some ⟨g,0,none⟩)] (fun i:Nat=>#[Value.int .i64 ((i:Int)+2),Value.string (c i)]) NextO (fun xs=>xs=List.range 7) (fun W=>CBlk W g c):=by
 intro l J Jx W hG _ _ hY h0;refine callsIn_of_wp func230 rfl hF ?_ hro
 simp only[ntmps230,List.size_toArray,List.length_cons,List.length_nil,Nat.reduceAdd,Nat.reduceSub,Array.replicate_succ,Array.replicate_zero,List.push_toArray,List.append_toArray,List.nil_append,List.cons_append]
 obtain⟨c0,c1,c2,c3,c4,c5,c6,-⟩:=(hG _ _ h0).cells;have HY:=b9W hY;clear hG hY;gi_wp2;clear c0 c1 c2 c3 c4 c5 c6
 gi_loopw [7] (fun v7 wr=>∃ (k:Nat),k≤7∧v7=.int .i64 (k:Int)∧J (List.range k) wr) (fun v7 _=>7 - (intOf v7).toNat)
 case atStart=>exact⟨0,by omega,rfl,h0⟩
 case round =>
  obtain⟨k,hk,rfl,hJs⟩:=hrel;clear h0
  rcases Nat.lt_or_ge k 7 with hlt|hge
  ·have hix:=index7 c hlt
   have hnx:NextO (List.range k) k:=⟨rfl,hlt⟩;obtain⟨fn,tmps,assign,body,hy,hR⟩:=HY.out (List.range k) k wr hJs hnx;have hlt':(k:Int) < 7:=by omega
   gi_wp2;refine hR.mono ?_;rintro e W3 (⟨rfl,hJ3⟩|⟨rfl,hJx3⟩)
   ·gi_wp2
    go_roundw
    case rel=>exact⟨k+1,by omega,by go_num,by rw[List.range_succ];exact hJ3⟩
    case measure=>simp[intOf];omega
   ·gi_wp2
    refine bodyPost_ret (results_none rfl _ _ _) rfl ?_;exact⟨⟨_,rfl⟩,.inr ⟨_,_,hnx,hJx3⟩⟩
  ·obtain rfl:k=7:=by omega
   gi_wp2
   go_end0
   exact⟨⟨_,rfl⟩,.inl ⟨_,rfl,hJs⟩⟩
theorem a8N(F:Fence)(n:Nat)(hF:F.fn 151)(hro:F.round=none)(c:CT)(w:World) :
  CallsIn F n prog 151 #[.agg #[.string (c 0),.string (c 1),.string (c 2),.string (c 3),.string (c 4),.string (c 5),.string (c 6),.string (c 7)]] w fun e w'=>e=.returned (.func (.func 230) #[] #[.pointer (some ⟨w.heap.size,0,none⟩)]) ∧
   w'=w.alloc (.cells #[.string (c 0),.string (c 1),.string (c 2),.string (c 3),.string (c 4),.string (c 5),.string (c 6),.string (c 7)] 59):=by
 refine callsIn_of_wp func151 rfl hF ?_ hro
 simp only[ntmps151,List.size_toArray,List.length_cons,List.length_nil,Nat.reduceAdd,Nat.reduceSub,Array.replicate_succ,Array.replicate_zero,List.push_toArray,List.append_toArray,List.nil_append,List.cons_append]
 gi_wp2
 go_ret
 exact⟨rfl,rfl⟩
theorem a7Z:∀ args w,(callFunc 230 args).run prog w=.ok (.enter 230 args) w:=enters_of func230 (by kernel_rfl) rfl
section
variable {a b:ByteArray} {p q:Rat} (w:World)
end
end Go.Proofs.YtigapglmipmbeaaGreatDoor
