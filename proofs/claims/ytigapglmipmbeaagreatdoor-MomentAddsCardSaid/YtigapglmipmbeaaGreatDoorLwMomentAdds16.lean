/- The reference's FromInt, small, Int. -/
import Derived.Test.YtigapglmipmbeaaGreatDoorLwMomentAdds15
import Derived.Test.YtigapglmipmbeaaGreatDoorLwMomentAdds13
import Derived.Test.YtigapglmipmbeaaGreatDoorLwMomentAdds06
import Derived.Laws.Runes
import Derived.Test.YtigapglmipmbeaaGreatDoorLwMomentAdds14
import Derived.Test.YtigapglmipmbeaaGreatDoorLwMomentAdds08
import Derived.Test.YtigapglmipmbeaaGreatDoorLwMomentAdds10
set_option maxRecDepth 100000
set_option maxHeartbeats 16000000
open Go.Proofs.Tryz
namespace Go.Proofs.YtigapglmipmbeaaGreatDoor
open Go.RowKit Go.Shelf
open Lim
theorem b1K{d:Nat}(h:d < 10):Utf8.encode ((48+d:Nat):Int)=⟨#[UInt8.ofNat (48+d)]⟩:=by
 unfold Utf8.encode;have hv:Utf8.valid ((48+d:Nat):Int)=true:=by
  unfold Utf8.valid
  simp
  omega
 simp only[hv,if_true,Int.toNat_natCast]
 rw[if_pos (by omega)]
theorem pow_up{m j k:Nat}(h:m < 10 ^ j)(hk:j≤k):m < 10 ^ k:=Nat.lt_of_lt_of_le h (Nat.pow_le_pow_right (by decide) hk)
theorem b9z{m j k:Nat}(h:m < 10 ^ j)(hk:j≤k)(h1:1≤k):Lib.nDigits m≤k:=(a5V h1).2 (pow_up h hk)
theorem b9f{m:Nat}(h:¬ m < 10):Lib.decDigits m=Lib.decDigits (m / 10)++[UInt8.ofNat (48+m % 10)]:=by
 rw[Lib.decDigits,dif_neg h]
theorem a8L(n:Nat)(w:World)(hn:n≤9223372036854775807) :
  Calls prog 224 #[.int .i64 (n:Int)] w fun e w'=>e=.returned (.tuple #[.string ⟨(Lib.decDigits n).toArray⟩,.int .i64 0])∧w'=w:=by
 have hneg:decide ((n:Int) < 0)=false:=decide_eq_false (by omega)
 go_enter func224,ntmps224
 go_wp2
 go_loopw [0,4] (fun v0 v4 wr=>∃ (x:Int) (m:Nat) (s:ByteArray),m≤n∧v0=.int .i64 x∧v4=.string s∧Hid (x=(m:Int))∧Hid (Lib.decDigits m++s.data.toList=Lib.decDigits n)∧wr=w) (fun v0 _ _=>(intOf v0).toNat)
 case atStart=>exact⟨n,n,⟨#[]⟩,Nat.le_refl _,rfl,rfl,b9W rfl,b9W (by simp),rfl⟩
 case round =>
  obtain⟨x,m,s,hm,rfl,rfl,HX,HS,rfl⟩:=hrel;have HM:=b9W hm;have x0:0≤x:=by have:=HX.out;omega
  have x1:x≤9223372036854775807:=by have:=HX.out;omega
  have hs19:s.size+1≤9223372036854775807:=by
   have h1:=congrArg List.length HS.out;rw[List.length_append,Lib.decDigits_length,Lib.decDigits_length,← a0F]at h1;have h2:Lib.nDigits n≤19:=b9z (j:=19) (by omega) (by decide) (by decide)
   omega
  clear hm hn hneg
  by_cases h9:9 < x
  ·have e1:48+x % 10=((48+m % 10:Nat):Int):=by have:=HX.out;omega
   have hE:Utf8.encode (48+x % 10)=⟨#[UInt8.ofNat (48+m % 10)]⟩:=by rw[e1];exact b1K (Nat.mod_lt _ (by decide))
   have hq:(Utf8.encode (48+x % 10)).size=1:=by rw[hE];rfl
   have HE:=b9W hE;have H9:=b9W h9;clear x0 e1 hE;go_wp2;have hmx:=HX.out;have h9':=H9.out;refine⟨⟨x / 10,m / 10,Utf8.encode (48+x % 10)++s,by have:=HM.out;omega,rfl,rfl,b9W (by omega),b9W ?_,trivial⟩,?_⟩
   ·rw[HE.out,← HS.out,b9f (show ¬ m < 10 by omega),List.append_assoc]
    congr 1
   ·simp[intOf];omega
  ·have e1:48+x=((48+m:Nat):Int):=by have:=HX.out;omega
   have hm9:m < 10:=by have:=HX.out;omega
   have hE:Utf8.encode (48+x)=⟨#[UInt8.ofNat (48+m)]⟩:=by rw[e1];exact b1K hm9
   have hq:(Utf8.encode (48+x)).size=1:=by rw[hE];rfl
   have HE:=b9W hE;have H9:=b9W hm9;have hd:decide (9 < x)=false:=decide_eq_false h9;have hx9:x≤9:=by omega
   clear x1 e1 hE hm9 h9;go_wp2;refine bodyPost_ret (results_tmp2 rfl _ _ _) rfl ?_;refine⟨?_,rfl⟩;have:Utf8.encode (48+x)++s=⟨(Lib.decDigits n).toArray⟩:=by
    apply ByteArray.ext
    apply Array.toList_inj.1
    show _=Lib.decDigits n
    rw[HE.out,← HS.out,Lib.decDigits_one H9.out,ByteArray.data_append]
    simp
   rw[this]
   rfl
theorem b3K(n:Nat)(w:World)(hn:n≤9223372036854775807) :
  Calls prog 226 #[.int .i64 (n:Int)] w fun e w'=>e=.returned (.string ⟨(Lib.decDigits n).toArray⟩)∧w'=w:=by
 have HC:=b9W (a8L n w hn);generalize (⟨(Lib.decDigits n).toArray⟩:ByteArray)=s at *
 go_enter func226,ntmps226
 go_wp2_with (go_at_call 224;refine HC.out.mono ?_;rintro e w1 ⟨rfl,hw1⟩;subst hw1)
 go_ret
 exact⟨rfl,rfl⟩
theorem dv_dec(m:Nat):dv (⟨(Lib.decDigits m).toArray⟩:ByteArray).data.toList=m:=by
 show dv (Lib.decDigits m)=m
 exact a1S m
theorem b32(n:Int)(w:World)(h0:-9223372036854775808≤n)(h1:n≤9223372036854775807) :
  Calls prog 148 #[.int .i64 n] w fun e w'=>e=.returned (.string ⟨(Lib.itoa n).toArray⟩)∧Below w.heap.size w w':=by
 by_cases hn:0≤n
 ·obtain⟨k,rfl⟩:=Int.eq_ofNat_of_zero_le hn
  have hd:decide (0≤(k:Int))=true:=decide_eq_true hn;have hi:Lib.itoa (k:Int)=Lib.decDigits k:=by unfold Lib.itoa;rw[if_neg (by omega)];simp
  rw[hi];have HC:=b9W (a8L k w (by omega));generalize (⟨(Lib.decDigits k).toArray⟩:ByteArray)=s at *;clear hi
  go_enter func148,ntmps148
  go_wp2_with (go_at_call 224;refine HC.out.mono ?_;rintro e w1 ⟨rfl,hw1⟩;subst hw1)
  go_ret
  exact⟨rfl,Below.refl _ _⟩
 ·obtain⟨m,hnm⟩:∃ m:Nat,n=-((m:Int)+1):=⟨(-(n+1)).toNat,by omega⟩
  have hm:m≤9223372036854775807:=by omega
  have hi:Lib.itoa n=45::Lib.decDigits (m+1):=by
   rw[hnm];unfold Lib.itoa;rw[if_pos (by omega),show (-((m:Int)+1)).natAbs=m+1 by omega]
  rw[hi];have hsn:(⟨(Lib.decDigits m).toArray⟩:ByteArray).size=Lib.nDigits m:=by
   rw[a0F]
   show (Lib.decDigits m).length=_
   rw[Lib.decDigits_length]
  have hnd:Lib.nDigits m≤4000:=b9z (j:=19) (by omega) (by decide) (by decide);have hnd1:Lib.nDigits (m+1)≤4000:=b9z (j:=19) (by omega) (by decide) (by decide);obtain⟨t,ht⟩:∃ t:ByteArray,t=⟨(Lib.decDigits (m+1)).toArray⟩:=⟨_,rfl⟩;have hts:t.size+1≤9223372036854775807:=by
   rw[ht,a0F]
   show (Lib.decDigits (m+1)).length+1≤_
   rw[Lib.decDigits_length]
   omega
  have HT:=b9W ht;clear ht;have hl0:=a1l hnd (show 4000≤9*445 by omega);have hl1:=a1l hnd1 (show 4000≤9*445 by omega);have e1:toL 1=[1]:=by rw[a19 (by omega)];simp[a0B,a0E]
  have HL:=b9W (And.intro hl0 (And.intro hl1 (show (toL 1).length≤40000 by rw[e1];decide)));have HS:=b9W (b3K m w hm);have HD:=b9W (And.intro (dv_dec m) (And.intro hnd hsn));have HG:=b9W (show Dg (⟨(Lib.decDigits m).toArray⟩:ByteArray).data.toList from a1A (a8Q m));have hneg:-(n+1)=(m:Int):=by omega
  have HN:=b9W hneg;clear hnd hnd1 hl0 hl1 e1 hi hsn hneg hm hnm h1;have TK1:True:=trivial
  go_enter func148,ntmps148
  go_wp2_with (first
   | (clear TK1;go_at_call 226;(first|rw[HN.out]|skip);refine HS.out.mono ?_;rintro e w1 ⟨rfl,hw1⟩;subst hw1)
   | (go_at_call 223;refine(a2N _ _ HG.out (by have:=HD.out.2;omega)).mono ?_;rintro e w2 ⟨v2,rfl,hv2,hb2⟩;rw[HD.out.1]at hv2;have HV2:=b9W hv2;have HB2:=b9W hb2;clear hv2 hb2)
   | (go_at_call 227;refine(a6L _).mono ?_;rintro e w3 ⟨v3,rfl,hv3,hb3⟩;have HV3:=b9W hv3;have HV2':=b9W (HV2.out.below hb3);have HB3:=b9W (HB2.out.trans (hb3.mono HB2.out.size));clear hv3 hb3)
   | (go_at_call 225;refine(b1J m 1 _ _ _ HV2'.out HV3.out (by have:=HL.out.1;omega) HL.out.2.2).mono ?_;rintro e w4 ⟨v4,rfl,hv4,hb4⟩;have HV4:=b9W hv4;have HB4:=b9W (HB3.out.trans (hb4.mono HB3.out.size));clear hv4 hb4)
   | (go_at_call 228;refine(a9r (m+1) _ _ HV4.out (by have:=HL.out.2.1;omega)).mono ?_;rintro e w5 ⟨rfl,hb5⟩;rw[← HT.out];have HB5:=b9W (HB4.out.trans (hb5.mono HB4.out.size));clear hb5))
  go_ret
  refine⟨?_,HB5.out⟩;rw[show (⟨(45::Lib.decDigits (m+1)).toArray⟩:ByteArray)=⟨#[45]⟩++t by rw[HT.out];apply ByteArray.ext;apply Array.toList_inj.1;rw[ByteArray.data_append];simp]
  rfl
theorem a9j{c:ByteArray}(q:Rat)(M:Nat)(hc:IsT c (q ^ M)):decide (Lib.nDigits (nm q ^ M)≤4000)=true∧decide (Lib.nDigits (q.den ^ M)≤4000)=true ∧
  ∀ b:Bool,b=ng (q ^ M)→∀ v w,a08 w v b (nm q ^ M) (q.den ^ M)→Calls prog 153 #[v] w fun e w'=>e=.returned (.tuple #[.string ⟨(outQ (q ^ M)).1.toArray⟩,.int .i64 ((outQ (q ^ M)).2:Int)])∧Below w.heap.size w w':=by
 obtain⟨p1,p2,_⟩:=a3h q M;have hs:=(a5M (by decide)).1 hc.2;rw[← p1,← p2];refine⟨decide_eq_true hs.1,decide_eq_true hs.2,fun b hb v w hv=>?_⟩;subst hb;have e1:=a1l hs.1 (show 4000≤9*445 by omega);have e2:=a1l hs.2 (show 4000≤9*445 by omega);exact a2Y (q ^ M) v w hv (by omega) (by omega)
theorem ng_pos{p:Rat}(h:0 < p):ng p=false:=by
 unfold ng;have:=Rat.num_nonneg.2 (show 0≤p by grind);exact decide_eq_false (by omega)
theorem b5Q{a c:ByteArray}{p:Rat}{n:Int}(ha:IsT a p)(hp:0 < p)(hc:IsT c (p ^ n))(h1:-1000≤n)(h2:n≤1000):Ret 240 #[.string a,.int .i64 n] (.tuple #[.string c,.int .i64 0]):=fun w _=>by
 have sq:=a17 ha.err;rw[ha.val]at sq;have hb:=ng_pos hp;have h0:p≠0:=by grind
 have ho:=b6z hc;unfold resN at ho
 by_cases hneg:n < 0
 ·obtain⟨M,rfl⟩:∃ M:Nat,n=-(M:Int):=⟨n.natAbs,by omega⟩
  have e:p ^ (-(M:Int))=p⁻¹ ^ M:=by rw[Rat.zpow_neg,Rat.zpow_natCast,a4E]
  rw[e]at hc ho;obtain⟨k1,k2,k3⟩:=a9j p⁻¹ M hc;obtain⟨_,_,p3⟩:=a3h p⁻¹ M;obtain⟨i1,_,_⟩:=a2G h0;rw[i1,hb]at p3;rw[← ho];exact a7A a p M w ha.size ha.err ha.val hb h0 (by omega) (by omega) k1 k2 _ (k3 _ (by rw[p3];rfl)) sq
 ·obtain⟨M,rfl⟩:∃ M:Nat,n=(M:Int):=⟨n.toNat,by omega⟩
  rw[Rat.zpow_natCast]at hc ho;obtain⟨k1,k2,k3⟩:=a9j p M hc;obtain⟨_,_,p3⟩:=a3h p M;rw[hb]at p3;rw[← ho];exact a7y a p M w ha.size ha.err ha.val hb (by omega) k1 k2 _ (k3 _ (by rw[p3];rfl)) sq
theorem b4N:Runs 107:=a1_ func107 (by kernel_rfl) (by kernel_rfl)
theorem b5h:Runs 130:=a1_ func130 (by kernel_rfl) (by kernel_rfl)
theorem b5t:Runs 133:=a1_ func133 (by kernel_rfl) (by kernel_rfl)
theorem b5f:Runs 143:=a1_ func143 (by kernel_rfl) (by kernel_rfl)
section
variable {a b c:ByteArray} {p q:Rat}
theorem b4u(ha:IsT a p)(hb:IsT b q)(hc:IsT c (p+q)):DoIs 0 107 a b c:=a5Y b4N fun w hr=>addT w ha hb hc hr
theorem b7S(ha:IsT a p)(hb:IsT b q)(hc:IsT c (p*q)):DoIs 0 130 a b c:=a5Y b5h fun w hr=>mulT w ha hb hc hr
theorem b5a(ha:IsT a p)(hb:IsT b q)(hc:IsT c (p*q⁻¹))(h0:q≠0):DoIs 0 133 a b c:=a5Y b5t fun w hr=>divT w ha hb hc h0 hr
theorem b8J(ha:IsT a p):DoIs 0 143 a ⟨#[49]⟩ (rT (minQ p 1)):=a5Y b5f fun w hr=>minT w ha IsT.one (b8L ha IsT.one).symm hr
theorem b1f{n:Int}(ha:IsT a p)(h0:p≠0)(hc:IsT c (p ^ n))(h1:-1000≤n)(h2:n≤1000):b4H 0 a n c:=fun h w hr hk=>pow_ok h w hk ha (fun h=>h0 h.2) hc (by omega) (by omega) hr
end
theorem a74{n:Nat}(h:n < 10):IsT (rT (((n:Nat):Int):Rat)) (((n:Nat):Int):Rat):=a16 (a0V.2 ((sz_int h).mono (by decide)))
theorem b27(n:Nat)(h:n < 10):Ret 142 #[.int .i64 (n:Int)] (.string (rT (((n:Nat):Int):Rat))):=fun w hr=>intT (n:Int) w (a74 h) hr (by omega) (by omega)
section
variable {a b c:CT} {m n:Nat→Rat} {j k:Nat}
theorem maddR(ha:CIs a m)(hb:CIs b n)(sm:SzC j m)(sn:SzC k n)(h:j+k+1≤maxD):Ret 58 #[cv a,cv b] (.tuple #[cv (txt (sumM m n)),.int .i64 0]):=fun w hr=>maddV ha hb sm sn h w hr
theorem mtoV(hc:CIs c m)(sm:SzC k m)(hk:k≤500){F:ByteArray}{f:Rat}(hF:IsT F f)(sf:Sz 120 f)(h1:1≤f){i:Nat}(hi:i < 7):Ret 53 #[cv c,.int .i64 ((i:Int)+2),.string F] (.tuple #[.agg #[.string F,.string (rT (toM m f i))],.int .i64 0]):=fun w hr=>by
 have mx:∀ {j:Nat} {q:Rat},Sz j q→j≤4000→IsT (rT q) q:=fun h hj=>a16 (a0V.2 (h.mono hj));have f0:=a6m h1;have z1:((((i+1:Nat):Int)):Rat)≠0:=fun h=>by have:=Rat.intCast_inj.1 (h.trans (show (0:Rat)=((0:Int):Rat) from rfl));omega
 have z2:((((i+2:Nat):Int)):Rat)≠0:=fun h=>by have:=Rat.intCast_inj.1 (h.trans (show (0:Rat)=((0:Int):Rat) from rfl));omega
 have iA:IsT (rT (shA i)) (shA i):=mx (b4Z hi) (by omega);have iB:IsT (rT (shB i)) (shB i):=mx (b5Y hi) (by omega);have iS:IsT (rT (shM i)) (shM i):=mx (b0W hi) (by omega);have iP:IsT (rT (pwM f i)) (pwM f i):=mx (b3H sf hi) (by omega);have iU:IsT (rT (m i*shM i)) (m i*shM i):=mx (sz_mM sm hi) (by omega);have iX:IsT (rT (xM m f i)) (xM m f i):=mx (sz_xM sm sf hi) (by omega);have iN:IsT (rT (f+1)) (f+1):=mx (a5X sf) (by omega);have iL:IsT (rT (b0z m f)) (b0z m f):=mx (b2X sm sf) (by omega);have iD:IsT (rT (dM m f i)) (dM m f i):=mx (sz_dM sm sf hi) (by omega);exact b8I c i hi F hF.size hc.err hF.err (by rw[hF.val,a23];exact Rat.not_lt.2 h1) _ _ _ _ _ _ _ _ _ _ _ _
  (b9W (b27 (i+1) (by omega))) (b9W (b27 (i+2) (by omega)))
  (b9W (b1f (a74 (by omega)) z1 iA (by omega) (by omega))) (b9W (b1f (a74 (by omega)) z2 iB (by omega) (by omega)))
  (b9W (b5a iA iB iS (b8P hi))) (b9W (b1f hF f0 iP (by omega) (by omega))) (b9W (b7S (hc.t i (by omega)) iS iU)) (b9W (b5a iU iP iX (by have:=a69 h1 i;grind)))
  (b9W (b4u hF IsT.one iN)) (b9W (b7S iN (hc.t 7 (by omega)) iL)) (b9W (b4u iX iL iD)) (b9W (b8J iD)) w hc.sm hr
end
end Go.Proofs.YtigapglmipmbeaaGreatDoor
namespace Go.Proofs.YtigapglmipmbeaaGreatDoor
open Go.RowKit
open Lim
abbrev XE:=Except Nat ByteArray
def exQ(r:List UInt8 × Nat):XE:=if r.2=0 then .ok ⟨r.1.toArray⟩ else .error r.2
def resX:XE→Value
 | .ok s=>.tuple #[.string s,.int .i64 0]
 | .error n=>.tuple #[.string ⟨#[]⟩,.int .i64 (n:Int)]
def NoT(r:List UInt8 × Nat):Prop:=(r.2≠0→r.1=[])∧(r.2=0→errQ r.1=0)
theorem b0B{r:List UInt8 × Nat}(h:NoT r):resN r=resX (exQ r):=by
 unfold resN exQ
 split
 ·rename_i h0;rw[h0];rfl
 ·rename_i h0;rw[h.1 h0];rfl
theorem b0j(q:Rat):NoT (outQ q):=by
 unfold outQ
 split
 ·exact⟨fun _=>rfl,fun h=>by cases h⟩
 ·rename_i h
  refine⟨fun h2=>absurd rfl h2,fun _=>?_⟩;have h1:Lib.nDigits (nm q)≤maxD∧Lib.nDigits q.den≤maxD:=by omega
  exact b3F h1.1 h1.2
theorem b1T(n:Nat)(h:n≠0):NoT ([],n):=⟨fun _=>rfl,fun h2=>absurd h2 h⟩
theorem b84(p q:Rat):NoT (divQ p q):=by
 unfold divQ
 split
 ·exact b1T 6 (by decide)
 ·exact b0j _
theorem a9Z{f:Rat→Rat→List UInt8 × Nat}(h:∀ p q,NoT (f p q))(a b:List UInt8):NoT (twoQ f a b):=by
 unfold twoQ
 split
 ·rename_i h0;exact b1T _ h0
 ·split
  ·rename_i h0;exact b1T _ h0
  ·exact h _ _
theorem a18{r:List UInt8 × Nat}{n:Nat}(h:exQ r=.error n):n≠0:=by
 unfold exQ at h
 split at h
 ·cases h
 ·rename_i h0;cases h;exact h0
theorem b3y{r:List UInt8 × Nat}{s:ByteArray}(hr:NoT r)(h:exQ r=.ok s):errQ s.data.toList=0:=by
 unfold exQ at h
 split at h
 ·rename_i h0;cases h;exact hr.2 h0
 ·cases h
theorem a14{s:ByteArray}(h:errQ s.data.toList=0):s.size≤270000:=(IsT.of h).size
def plX(a b:ByteArray):XE:=exQ (twoQ (fun p q=>outQ (p+q)) a.data.toList b.data.toList)
def subX(a b:ByteArray):XE:=exQ (twoQ (fun p q=>outQ (p+-q)) a.data.toList b.data.toList)
def mulX(a b:ByteArray):XE:=exQ (twoQ (fun p q=>outQ (p*q)) a.data.toList b.data.toList)
def divX(a b:ByteArray):XE:=exQ (twoQ divQ a.data.toList b.data.toList)
def powX(a:ByteArray)(n:Int):XE:=exQ (oneQ (fun q=>powQ q n) a.data.toList)
theorem plX_t(a b:ByteArray):NoT (twoQ (fun p q=>outQ (p+q)) a.data.toList b.data.toList):=a9Z (fun _ _=>b0j _) _ _
theorem b8G(a b:ByteArray):NoT (twoQ (fun p q=>outQ (p+-q)) a.data.toList b.data.toList):=a9Z (fun _ _=>b0j _) _ _
theorem b8U(a b:ByteArray):NoT (twoQ (fun p q=>outQ (p*q)) a.data.toList b.data.toList):=a9Z (fun _ _=>b0j _) _ _
theorem b8R(a b:ByteArray):NoT (twoQ divQ a.data.toList b.data.toList):=a9Z b84 _ _
theorem b03{a b s:ByteArray}(h:plX a b=.ok s):errQ s.data.toList=0:=b3y (plX_t a b) h
theorem a8z{a b s:ByteArray}(h:subX a b=.ok s):errQ s.data.toList=0:=b3y (b8G a b) h
theorem b6a{a b s:ByteArray}(h:mulX a b=.ok s):errQ s.data.toList=0:=b3y (b8U a b) h
theorem b9q{a b s:ByteArray}(h:divX a b=.ok s):errQ s.data.toList=0:=b3y (b8R a b) h
def zT:ByteArray:=⟨#[48]⟩
def oT:ByteArray:=⟨#[49]⟩
def maxX(a b:ByteArray):XE :=
 if errQ a.data.toList≠0 then .error (errQ a.data.toList) else if errQ b.data.toList≠0 then .error (errQ b.data.toList) else .ok (if cmpQ (valQ a.data.toList) (valQ b.data.toList) < 0 then b else a)
def ltK(a b:ByteArray):Bool:=decide (a.data.toList < b.data.toList)
def posE(p:ByteArray):Nat:=if errQ p.data.toList≠0 then errQ p.data.toList else if valQ p.data.toList < 0 then 2 else 0
def badK:Option ByteArray→ByteArray→Bool
 | none,_=>false
 | some k,x=>!ltK k x
def chkL:Option ByteArray→List L2→Nat
 | _,[]=>0
 | k,x::l=>if posE x.2≠0 then posE x.2 else if ¬ 0 < valQ x.2.data.toList then 2 else if badK k x.1 then 9 else chkL (some x.1) l
def a1q{α:Type}(g:α→XE):ByteArray→List α→XE
 | s,[]=>.ok s
 | s,x::l=>match g x with
  | .error n=>.error n
  | .ok p=>match plX s p with
   | .error n=>.error n
   | .ok t=>a1q g t l
def sumX(s:ByteArray)(l:List L2):XE:=a1q (fun x:L2=>.ok x.2) s l
def chkS:XE→Nat
 | .error n=>n
 | .ok s=>if s=oT then 0 else 15
def chkD(ls:List L2):Nat:=if chkL none ls≠0 then chkL none ls else chkS (sumX zT ls)
def chk2(a b:List L2):Nat:=if chkD a≠0 then chkD a else chkD b
def atT:List L2→ByteArray→ByteArray
 | [],_=>zT
 | x::l,k=>if x.1=k then x.2 else atT l k
def hasT:List L2→ByteArray→Bool
 | [],_=>false
 | x::l,k=>if x.1=k then true else hasT l k
def insX:List L2→L2→Except Nat (List L2)
 | [],x=>.ok [x]
 | y::l,x=>if ltK y.1 x.1 then
   (match insX l x with
    | .error n=>.error n
    | .ok m=>.ok (y::m))
  else if y.1=x.1 then
   (match plX y.2 x.2 with
    | .error n=>.error n
    | .ok s=>.ok ((y.1,s)::l))
  else .ok (x::y::l)
def a2X:List L2→List L2→Except Nat (List L2)
 | a,[]=>.ok a
 | a,x::l=>match insX a x with
  | .error n=>.error n
  | .ok b=>a2X b l
def posL:List L2→Nat
 | []=>0
 | x::l=>if posE x.2≠0 then posE x.2 else posL l
def a1O(l:List L2):List L2:=l.filter fun x=>decide (x.2≠zT)
def a89(l:List L2):Except Nat (List L2):=if chkD (a1O l)≠0 then .error (chkD (a1O l)) else .ok (a1O l)
def a2F(ls:List L2):Except Nat (List L2):=if posL ls≠0 then .error (posL ls) else match a2X [] ls with
 | .error n=>.error n
 | .ok a=>a89 a
def a1D(ls:List L2)(b:ByteArray):Except Nat (List L2):=match ls with
 | []=>.ok []
 | x::l=>match mulX x.2 b with
  | .error n=>.error n
  | .ok p=>match a1D l b with
   | .error n=>.error n
   | .ok m=>.ok ((x.1,p)::m)
def a3Q(a b:ByteArray):ByteArray:=a++⟨#[124]⟩++b
def a3p(a b:List L2):Except Nat (List L2):=match a with
 | []=>.ok []
 | x::l=>match a1D b x.2 with
  | .error n=>.error n
  | .ok m=>match a3p l b with
   | .error n=>.error n
   | .ok r=>.ok (m.map (fun y=>(a3Q x.1 y.1,y.2))++r)
def a7a(a b:List L2):Except Nat (List L2):=if chk2 a b≠0 then .error (chk2 a b) else if 4096 < a.length*b.length then .error 12 else match a3p a b with
 | .error n=>.error n
 | .ok l=>a2F l
def a3l(f:ByteArray)(q:List L2)(m:L2):XE:=match mulX f (atT q m.1) with
 | .error n=>.error n
 | .ok x=>match subX m.2 x with
  | .error n=>.error n
  | .ok y=>maxX zT y
def a2S(p q:List L2)(f:ByteArray):XE:=if chk2 p q≠0 then .error (chk2 p q) else if posE f≠0 then .error (posE f) else a1q (a3l f q) zT p
def inX:List L2→List L2→Bool
 | [],_=>true
 | x::l,q=>if hasT q x.1 then inX l q else false
def resF:XE→Value
 | .ok s=>.tuple #[.string s,.bool true,.int .i64 0]
 | .error n=>.tuple #[.string ⟨#[]⟩,.bool false,.int .i64 (n:Int)]
def a3S(n:Int)(q:List L2)(m:L2):XE:=match powX m.2 n with
 | .error e=>.error e
 | .ok x=>match powX (atT q m.1) (n - 1) with
  | .error e=>.error e
  | .ok y=>divX x y
def momV(p q:List L2)(n:Int):Value:=if chk2 p q≠0 then .tuple #[.string ⟨#[]⟩,.bool false,.int .i64 (chk2 p q:Int)] else if n < 1∨8 < n then .tuple #[.string ⟨#[]⟩,.bool false,.int .i64 2]
 else if inX p q=false then .tuple #[.string ⟨#[]⟩,.bool false,.int .i64 0] else resF (a1q (a3S n q) zT p)
theorem a80{α:Type}{g:α→XE}{s:ByteArray}{x:α}{l:List α}{n:Nat}(h:g x=.error n):a1q g s (x::l)=.error n:=by simp only[a1q,h]
theorem a6S{α:Type}{g:α→XE}{s p:ByteArray}{x:α}{l:List α}{n:Nat}(h:g x=.ok p)(h2:plX s p=.error n):a1q g s (x::l)=.error n:=by simp only[a1q,h,h2]
theorem a6M{α:Type}{g:α→XE}{s p t:ByteArray}{x:α}{l:List α}(h:g x=.ok p)(h2:plX s p=.ok t):a1q g s (x::l)=a1q g t l:=by simp only[a1q,h,h2]
theorem b9e{α:Type}{l:List α}{k:Nat}(h:k < l.length):l.drop k=l[k]::l.drop (k+1):=by simp
theorem a4m:errQ zT.data.toList=0:=IsT.zero.err
theorem a2o:valQ zT.data.toList=0:=IsT.zero.val
theorem val_oT:valQ oT.data.toList=1:=IsT.one.val
end Go.Proofs.YtigapglmipmbeaaGreatDoor
namespace Go.Proofs.YtigapglmipmbeaaGreatDoor
open Lim
abbrev DL:=List (ByteArray × Rat)
def a0p{α:Type}(f:α→Rat):List α→Rat
 | []=>0
 | a::l=>f a+a0p f l
def pos(x:Rat):Rat:=if 0 < x then x else 0
theorem a26(x:Rat):0≤pos x:=by unfold pos;split<;>grind
theorem b5Z(x:Rat):x≤pos x:=by unfold pos;split<;>grind
theorem a6t{x y:Rat}(h:x≤y)(h0:0≤y):pos x≤y:=by unfold pos;split<;>grind
theorem b5r(x y:Rat):pos (x+y)≤pos x+pos y:=by unfold pos;split<;>split<;>split<;>grind
theorem b07{x:Rat}(h:x≤0):pos x=0:=by unfold pos;rw[if_neg (by grind)]
theorem b7T{x y:Rat}(h:x≤y):pos x≤pos y:=a6t (Rat.le_trans h (b5Z y)) (a26 y)
theorem b9C{c:Rat}(hc:0≤c)(x:Rat):pos (c*x)=c*pos x:=by
 by_cases h:0 < x
 ·have e:pos x=x:=if_pos h
  have h2:0≤c*x:=Rat.mul_nonneg hc (by grind);rw[e];unfold pos
  split
  ·rfl
  ·grind
 ·have e:pos x=0:=if_neg h
  have h2:0≤c*(-x):=Rat.mul_nonneg hc (by grind);have h3:c*(-x)=-(c*x):=by grind
  rw[e,Rat.mul_zero];exact b07 (by grind)
section
variable {α β:Type} {f g:α→Rat} {l m:List α}
theorem a5d(f:α→Rat)(l m:List α):a0p f (l++m)=a0p f l+a0p f m:=by
 induction l with
 | nil=>simp only[List.nil_append,a0p];grind
 | cons a l ih=>simp only[List.cons_append,a0p];grind
theorem a0Q(h:∀ a∈l,f a=g a):a0p f l=a0p g l:=by
 induction l with
 | nil=>rfl
 | cons a l ih =>
  simp only[a0p]
  rw[h a (by simp),ih fun b hb=>h b (by simp[hb])]
theorem a1a(h:∀ a∈l,f a≤g a):a0p f l≤a0p g l:=by
 induction l with
 | nil=>exact Rat.le_refl
 | cons a l ih =>
  simp only[a0p]
  have h1:=h a (by simp);have h2:=ih fun b hb=>h b (by simp[hb])
  grind
theorem a1w(h:∀ a∈l,0≤f a):0≤a0p f l:=by
 induction l with
 | nil=>exact Rat.le_refl
 | cons a l ih =>
  simp only[a0p]
  have h1:=h a (by simp);have h2:=ih fun b hb=>h b (by simp[hb])
  grind
theorem b67(h:∀ a∈l,0≤f a){a:α}(ha:a∈l):f a≤a0p f l:=by
 induction l with
 | nil=>cases ha
 | cons b l ih =>
  simp only[a0p]
  have h1:=h b (by simp);have h2:0≤a0p f l:=a1w fun b hb=>h b (by simp[hb])
  rcases List.mem_cons.1 ha with rfl|ha
  ·grind
  ·have:=ih (fun b hb=>h b (by simp[hb])) ha
   grind
theorem a5F(h:∀ a∈l,f a=0):a0p f l=0:=by
 induction l with
 | nil=>rfl
 | cons a l ih =>
  simp only[a0p]
  rw[h a (by simp),ih fun b hb=>h b (by simp[hb])]
  grind
theorem a2a(f g:α→Rat)(l:List α):a0p (fun a=>f a+g a) l=a0p f l+a0p g l:=by
 induction l with
 | nil=>simp only[a0p];grind
 | cons a l ih=>simp only[a0p];rw[ih];grind
theorem a1i(c:Rat)(f:α→Rat)(l:List α):a0p (fun a=>c*f a) l=c*a0p f l:=by
 induction l with
 | nil=>simp[a0p]
 | cons a l ih=>simp only[a0p];rw[ih];grind
theorem a2n(h:β→α)(f:α→Rat)(l:List β):a0p f (l.map h)=a0p (fun b=>f (h b)) l:=by
 induction l with
 | nil=>rfl
 | cons a l ih=>simp only[List.map_cons,a0p];rw[ih]
theorem b4t(h:l.Perm m):a0p f l=a0p f m:=by
 induction h with
 | nil=>rfl
 | cons a _ ih=>simp only[a0p];rw[ih]
 | swap a b l=>simp only[a0p];grind
 | trans _ _ h1 h2=>rw[h1,h2]
theorem a43[DecidableEq α]:∀ {l m:List α},l.Nodup→m.Nodup→(∀ a∈l,a∈m)→(∀ a∈m,a ∉ l→f a=0)→a0p f m=a0p f l
 | [],m,_,_,_,h0=>by
  rw[a5F fun a ha=>h0 a ha (by simp)]
  rfl
 | a::l,m,hl,hm,hs,h0=>by
  have ha:a∈m:=hs a (by simp);rw[b4t (List.perm_cons_erase ha)]
  simp only[a0p]
  rw[List.nodup_cons]at hl;rw[a43 (l:=l) hl.2 (hm.erase a) (fun b hb=>?_) (fun b hb hn=>?_)]
  ·refine(List.mem_erase_of_ne ?_).2 (hs b (by simp[hb]))
   rintro rfl;exact hl.1 hb
  ·have h1:=(hm.mem_erase_iff).1 hb
   exact h0 b h1.2 (by simp[hn,h1.1])
end
def a0k(l:DL)(k:ByteArray):Rat:=a0p (fun e=>if e.1=k then e.2 else 0) l
def a00(l:DL):List ByteArray:=l.map (·.1)
theorem a9u(e:ByteArray × Rat)(l:DL)(k:ByteArray):a0k (e::l) k=(if e.1=k then e.2 else 0)+a0k l k:=rfl
theorem a2x{l:DL}{k:ByteArray}(h:k ∉ a00 l):a0k l k=0:=by
 refine a5F fun e he=>if_neg ?_;rintro rfl;exact h (List.mem_map_of_mem he)
theorem a7N{l:DL}(hn:(a00 l).Nodup){e:ByteArray × Rat}(he:e∈l):a0k l e.1=e.2:=by
 induction l with
 | nil=>cases he
 | cons a l ih =>
  have hn2:a.1 ∉ a00 l∧(a00 l).Nodup:=List.nodup_cons.1 hn;rw[a9u]
  rcases List.mem_cons.1 he with rfl|h
  ·rw[if_pos rfl,a2x hn2.1,Rat.add_zero]
  ·have hk:e.1∈a00 l:=List.mem_map_of_mem h
   rw[if_neg (fun h2=>hn2.1 (by rw[h2];exact hk)),ih hn2.2 h,Rat.zero_add]
theorem a8y{K:List ByteArray}(hK:K.Nodup){k:ByteArray}(hk:k∈K)(c:ByteArray→Rat)(x:Rat):a0p (fun j=>c j*(if k=j then x else 0)) K=c k*x:=by
 rw[a43 (l:=[k]) (by simp) hK (by simpa using hk) (fun a _ hn=>by rw[if_neg (fun h=>hn (by simp[h])),Rat.mul_zero])]
 show c k*(if k=k then x else 0)+0=c k*x
 rw[if_pos rfl,Rat.add_zero]
theorem a6G{K:List ByteArray}(hK:K.Nodup)(c:ByteArray→Rat):∀ {l:DL},(∀ k∈a00 l,k∈K)→a0p (fun k=>c k*a0k l k) K=a0p (fun e=>c e.1*e.2) l
 | [],_=>a5F fun a _=>Rat.mul_zero _
 | e::l,h=>by
  have e1:a0p (fun k=>c k*a0k (e::l) k) K=a0p (fun k=>c k*(if e.1=k then e.2 else 0)+c k*a0k l k) K :=
   a0Q fun k _=>by rw[a9u,Rat.mul_add]
  rw[e1,a2a,a8y hK (h e.1 (by simp[a00])) c e.2,a6G hK c (l:=l) fun k hk=>h k (by
   unfold a00 at hk ⊢
   simp only[List.map_cons,List.mem_cons]
   exact .inr hk)]
  rfl
theorem b1v{K:List ByteArray}(hK:K.Nodup){l:DL}(h:∀ k∈a00 l,k∈K):a0p (fun k=>a0k l k) K=a0p (fun e=>e.2) l:=by
 have:=a6G hK (fun _=>1) h
 simp only[Rat.one_mul]at this
 exact this
structure IsD (d:DL):Prop where
 once:(a00 d).Nodup
 plus:∀ e∈d,0 < e.2
 one:a0p (fun e=>e.2) d=1
theorem IsD.zero{d:DL}(h:IsD d)(k:ByteArray):0≤a0k d k :=
 a1w fun e he=>by have:=h.plus e he;split<;>grind
theorem IsD.pos_iff{d:DL}(h:IsD d)(k:ByteArray):0 < a0k d k↔k∈a00 d:=by
 constructor
 ·intro hp
  refine Classical.byContradiction fun hn=>?_;rw[a2x hn]at hp;exact Rat.lt_irrefl hp
 ·intro hk
  obtain⟨e,he,rfl⟩:=List.mem_map.1 hk;rw[a7N h.once he];exact h.plus e he
theorem IsD.total{d:DL}(h:IsD d){K:List ByteArray}(hK:K.Nodup)(hs:∀ k∈a00 d,k∈K):a0p (a0k d) K=1:=by
 rw[← h.one];exact b1v hK hs
theorem IsD.sum{d:DL}(hn:(a00 d).Nodup)(h:ByteArray→Rat→Rat):a0p (fun e=>h e.1 e.2) d=a0p (fun k=>h k (a0k d k)) (a00 d):=by
 unfold a00;rw[a2n];exact a0Q fun e he=>by rw[a7N hn he]
theorem a1Y:∀ l:List ByteArray,∃ K:List ByteArray,K.Nodup∧∀ k,k∈K↔k∈l
 | []=>⟨[],by simp,by simp⟩
 | a::l=>by
  obtain⟨K,h1,h2⟩:=a1Y l
  by_cases h:a∈K
  ·refine⟨K,h1,fun k=>?_⟩
   rw[h2,List.mem_cons]
   constructor
   ·exact .inr
   ·rintro (rfl|h3)
    ·exact(h2 k).1 h
    ·exact h3
  ·refine⟨a::K,List.nodup_cons.2 ⟨h,h1⟩,fun k=>?_⟩
   rw[List.mem_cons,List.mem_cons,h2]
def hasK(k:ByteArray)(l:List ByteArray):Bool:=l.any fun j=>decide (j=k)
theorem b3l{k:ByteArray}{l:List ByteArray}:hasK k l=true↔k∈l:=by
 unfold hasK;rw[List.any_eq_true]
 constructor
 ·rintro⟨x,h1,h2⟩
  rw[← of_decide_eq_true h2];exact h1
 ·intro h
  exact⟨k,h,decide_eq_true rfl⟩
def a1I(p q:DL)(f:Rat):Rat:=a0p (fun e=>pos (e.2 - f*a0k q e.1)) p
theorem b4x{p:DL}(hn:(a00 p).Nodup)(q:DL)(f:Rat):a1I p q f=a0p (fun k=>pos (a0k p k - f*a0k q k)) (a00 p) :=
 IsD.sum hn fun k x=>pos (x - f*a0k q k)
theorem a1P{p q:DL}(hp:IsD p)(hq:IsD q){f:Rat}(hf:0≤f){K:List ByteArray}(hK:K.Nodup)(hs:∀ k∈a00 p,k∈K) :
  a1I p q f=a0p (fun k=>pos (a0k p k - f*a0k q k)) K:=by
 rw[b4x hp.once,a43 hp.once hK hs];intro k _ hn;rw[a2x hn];have:=Rat.mul_nonneg hf (hq.zero k);exact b07 (by grind)
theorem b1d(p q:DL)(f:Rat):0≤a1I p q f:=a1w fun _ _=>a26 _
theorem a5f{p q:DL}(hp:IsD p)(hq:IsD q){f:Rat}(hf:0≤f):a1I p q f≤1:=by
 rw[← hp.one];refine a1a fun e he=>?_;have h1:=Rat.mul_nonneg hf (hq.zero e.1);have h2:=hp.plus e he;exact a6t (by grind) (by grind)
theorem a3A{α β:Type}(F:α→β→Rat)(K:List α):∀ J:List β,a0p (fun j=>a0p (fun k=>F k j) K) J=a0p (fun k=>a0p (fun j=>F k j) J) K
 | []=>(a5F fun _ _=>rfl).symm
 | b::J=>by
  show a0p (fun k=>F k b) K+a0p (fun j=>a0p (fun k=>F k j) K) J=a0p (fun k=>F k b+a0p (fun j=>F k j) J) K
  rw[a3A F K J,a2a]
theorem a68{α:Type}(f:α→Rat):∀ l:List α,pos (a0p f l)≤a0p (fun a=>pos (f a)) l
 | []=>by rw[show a0p f ([]:List α)=0 from rfl,b07 Rat.le_refl];exact Rat.le_refl
 | a::l=>Rat.le_trans (b5r (f a) (a0p f l)) (by
  show pos (f a)+pos (a0p f l)≤pos (f a)+a0p (fun a=>pos (f a)) l
  have:=a68 f l
  grind)
theorem a7f{α β:Type}(f:β→Rat)(h:α→List β):∀ l:List α,a0p f (l.flatMap h)=a0p (fun a=>a0p f (h a)) l
 | []=>rfl
 | a::l=>by
  rw[List.flatMap_cons,a5d,a7f f h l]
  rfl
def b60(g:ByteArray→ByteArray)(p:DL):DL:=p.map fun e=>(g e.1,e.2)
theorem b1M{p:DL}(g:ByteArray→ByteArray){K:List ByteArray}(hK:K.Nodup)(hs:∀ k∈a00 p,k∈K)(j:ByteArray) :
  a0k (b60 g p) j=a0p (fun k=>(if g k=j then 1 else 0)*a0k p k) K:=by
 rw[a6G hK (fun k=>if g k=j then 1 else 0) hs];unfold a0k b60;rw[a2n];refine a0Q fun e _=>?_
 dsimp only
 split
 ·rw[Rat.one_mul]
 ·rw[Rat.zero_mul]
theorem b9V{p q x y:DL}(hp:IsD p)(hq:IsD q)(hx:IsD x)(hy:IsD y)(g:ByteArray→ByteArray){f:Rat}(hf:0≤f)
  (ex:∀ j,a0k x j=a0k (b60 g p) j) (ey:∀ j,a0k y j=a0k (b60 g q) j):a1I x y f≤a1I p q f:=by
 obtain⟨K,hK,m⟩:=a1Y (a00 p++a00 q);obtain⟨J,hJ,m2⟩:=a1Y (a00 x++K.map g);rw[a1P hx hy hf hJ (fun k hk=>(m2 k).2 (by simp[hk])),a1P hp hq hf hK (fun k hk=>(m k).2 (by simp[hk]))];have e1:∀ j,a0k x j - f*a0k y j=a0p (fun k=>(if g k=j then 1 else 0)*(a0k p k - f*a0k q k)) K:=by
  intro j;rw[ex,ey,b1M g hK (fun k hk=>(m k).2 (by simp[hk])),b1M g hK (fun k hk=>(m k).2 (by simp[hk])),Rat.sub_eq_add_neg,← Rat.neg_mul,← a1i,← a2a];exact a0Q fun k _=>by grind
 have e2:a0p (fun j=>pos (a0k x j - f*a0k y j)) J≤a0p (fun j=>a0p (fun k=>(if g k=j then 1 else 0)*pos (a0k p k - f*a0k q k)) K) J:=by
  refine a1a fun j _=>?_;rw[e1];refine Rat.le_trans (a68 _ _) (a1a fun k _=>?_)
  split
  ·rw[Rat.one_mul,Rat.one_mul];exact Rat.le_refl
  ·rw[Rat.zero_mul,Rat.zero_mul,b07 Rat.le_refl];exact Rat.le_refl
 refine Rat.le_trans e2 ?_;rw[a3A];refine a1a fun k hk=>?_;have e3:a0p (fun j=>(if g k=j then 1 else 0)*pos (a0k p k - f*a0k q k)) J=a0p (fun j=>pos (a0k p k - f*a0k q k)*(if g k=j then 1 else 0)) J :=
  a0Q fun j _=>Rat.mul_comm _ _
 rw[e3,a8y hJ ((m2 (g k)).2 (by simp only[List.mem_append,List.mem_map];exact .inr ⟨k,hk,rfl⟩)) (fun _=>pos (a0k p k - f*a0k q k)) 1,Rat.mul_one];exact Rat.le_refl
def a3g(jn:ByteArray→ByteArray→ByteArray)(p q:DL):DL:=p.flatMap fun e=>q.map fun e'=>(jn e.1 e'.1,e'.2*e.2)
theorem b44(jn:ByteArray→ByteArray→ByteArray)(p q:DL):a0p (fun e=>e.2) (a3g jn p q)=a0p (fun e=>e.2) p*a0p (fun e=>e.2) q:=by
 unfold a3g;rw[a7f,Rat.mul_comm,← a1i];refine a0Q fun e _=>?_;rw[a2n,Rat.mul_comm,← a1i];exact a0Q fun e' _=>Rat.mul_comm _ _
theorem b9S{jn:ByteArray→ByteArray→ByteArray}{p q:DL}{k:ByteArray}:k∈a00 (a3g jn p q)↔∃ a∈a00 p,∃ b∈a00 q,k=jn a b:=by
 unfold a00 a3g
 simp only[List.mem_map,List.mem_flatMap]
 constructor
 ·rintro⟨e,⟨x,hx,y,hy,rfl⟩,rfl⟩
  exact⟨x.1,⟨x,hx,rfl⟩,y.1,⟨y,hy,rfl⟩,rfl⟩
 ·rintro⟨a,⟨x,hx,rfl⟩,b,⟨y,hy,rfl⟩,rfl⟩
  exact⟨_,⟨x,hx,y,hy,rfl⟩,rfl⟩
def b8A(jn:ByteArray→ByteArray→ByteArray)(A B:List ByteArray):List ByteArray:=A.flatMap fun a=>B.map (jn a)
theorem b06{jn:ByteArray→ByteArray→ByteArray}{A B:List ByteArray}{k:ByteArray}:k∈b8A jn A B↔∃ a∈A,∃ b∈B,k=jn a b:=by
 unfold b8A
 simp only[List.mem_map,List.mem_flatMap]
 constructor
 ·rintro⟨a,ha,b,hb,rfl⟩
  exact⟨a,ha,b,hb,rfl⟩
 ·rintro⟨a,ha,b,hb,rfl⟩
  exact⟨a,ha,b,hb,rfl⟩
theorem b8t{x y u v f g:Rat}(hx:0≤x)(hy:0≤y)(hu:0≤u)(hv:0≤v)(hf:0≤f)(hg:0≤g) :
  pos (x*y - f*g*(u*v))≤pos (x - f*u)*y+x*pos (y - g*v):=by
 have hfu:=Rat.mul_nonneg hf hu;have hgv:=Rat.mul_nonneg hg hv;refine a6t ?_ ?_
 ·by_cases h:x≤f*u
  ·have h1:x*(g*v)≤f*u*(g*v):=Rat.mul_le_mul_of_nonneg_right h hgv
   have h2:x*(y - g*v)≤x*pos (y - g*v):=Rat.mul_le_mul_of_nonneg_left (b5Z _) hx;have h3:=Rat.mul_nonneg (a26 (x - f*u)) hy
   grind
  ·have e:pos (x - f*u)=x - f*u:=by unfold pos;rw[if_pos (by grind)]
   rw[e];have h1:f*u*(y - g*v)≤f*u*pos (y - g*v):=Rat.mul_le_mul_of_nonneg_left (b5Z _) hfu;have h2:f*u*pos (y - g*v)≤x*pos (y - g*v):=Rat.mul_le_mul_of_nonneg_right (by grind) (a26 _)
   grind
 ·have h1:=Rat.mul_nonneg (a26 (x - f*u)) hy
  have h2:=Rat.mul_nonneg hx (a26 (y - g*v))
  grind
theorem a4B{jn:ByteArray→ByteArray→ByteArray}{A B:List ByteArray}(hA:A.Nodup)(hB:B.Nodup){p q:DL}(hp:∀ k∈a00 p,k∈A)(hq:∀ k∈a00 q,k∈B)(j:ByteArray) :
  a0k (a3g jn p q) j=a0p (fun a=>a0p (fun b=>(if jn a b=j then 1 else 0)*(a0k p a*a0k q b)) B) A:=by
 have e1:∀ a,a0p (fun b=>(if jn a b=j then 1 else 0)*(a0k p a*a0k q b)) B=a0p (fun e'=>(if jn a e'.1=j then 1 else 0)*e'.2) q*a0k p a:=by
  intro a;rw[← a6G hB (fun b=>if jn a b=j then 1 else 0) hq,Rat.mul_comm,← a1i];exact a0Q fun b _=>by grind
 have e2:a0k (a3g jn p q) j=a0p (fun e=>a0p (fun x:ByteArray × Rat=>if x.1=j then x.2 else 0) (q.map fun e'=>(jn e.1 e'.1,e'.2*e.2))) p:=a7f _ _ _;rw[e2,a0Q fun a _=>e1 a,a6G hA (fun a=>a0p (fun e'=>(if jn a e'.1=j then 1 else 0)*e'.2) q) hp];refine a0Q fun e _=>?_;rw[a2n,Rat.mul_comm,← a1i];refine a0Q fun e' _=>?_
 dsimp only
 split
 ·rw[Rat.one_mul,Rat.mul_comm]
 ·rw[Rat.zero_mul,Rat.mul_zero]
theorem b5g{c x:Rat}(h:c=1∨c=0):pos (c*x)=c*pos x:=by
 rcases h with rfl|rfl
 ·rw[Rat.one_mul,Rat.one_mul]
 ·rw[Rat.zero_mul,Rat.zero_mul,b07 Rat.le_refl]
theorem a9E{jn:ByteArray→ByteArray→ByteArray}{p q r s x y:DL}(hp:IsD p)(hq:IsD q)(hr:IsD r)(hs:IsD s)(hx:IsD x)(hy:IsD y)
  (ex:∀ j,a0k x j=a0k (a3g jn p r) j) (ey:∀ j,a0k y j=a0k (a3g jn q s) j) {f g:Rat} (hf:0≤f) (hg:0≤g) :
  a1I x y (f*g)≤a1I p q f+a1I r s g:=by
 obtain⟨A,hA,mA⟩:=a1Y (a00 p++a00 q);obtain⟨B,hB,mB⟩:=a1Y (a00 r++a00 s);have kp:∀ k∈a00 p,k∈A:=fun k hk=>(mA k).2 (by simp[hk]);have kq:∀ k∈a00 q,k∈A:=fun k hk=>(mA k).2 (by simp[hk]);have kr:∀ k∈a00 r,k∈B:=fun k hk=>(mB k).2 (by simp[hk]);have ks:∀ k∈a00 s,k∈B:=fun k hk=>(mB k).2 (by simp[hk]);obtain⟨J,hJ,mJ⟩:=a1Y (a00 x++b8A jn A B);rw[a1P hx hy (Rat.mul_nonneg hf hg) hJ (fun k hk=>(mJ k).2 (by simp[hk])),a1P hp hq hf hA kp,a1P hr hs hg hB kr];have e1:∀ j,a0k x j - f*g*a0k y j=a0p (fun a=>a0p (fun b=>(if jn a b=j then 1 else 0)*(a0k p a*a0k r b - f*g*(a0k q a*a0k s b))) B) A:=by
  intro j;rw[ex,ey,a4B hA hB kp kr,a4B hA hB kq ks,Rat.sub_eq_add_neg,← Rat.neg_mul,← a1i,← a2a];refine a0Q fun a _=>?_;rw[← a1i,← a2a];exact a0Q fun b _=>by grind
 have h0:a0p (fun j=>pos (a0k x j - f*g*a0k y j)) J≤a0p (fun a=>a0p (fun b=>pos (a0k p a*a0k r b - f*g*(a0k q a*a0k s b))) B) A:=by
  have h1:a0p (fun j=>pos (a0k x j - f*g*a0k y j)) J≤a0p (fun j=>a0p (fun a=>a0p (fun b=>(if jn a b=j then 1 else 0)*pos (a0k p a*a0k r b - f*g*(a0k q a*a0k s b))) B) A) J:=by
   refine a1a fun j _=>?_;rw[e1];refine Rat.le_trans (a68 _ _) (a1a fun a _=>Rat.le_trans (a68 _ _) (a1a fun b _=>?_));rw[b5g (by split<;>simp)];exact Rat.le_refl
  refine Rat.le_trans h1 ?_;rw[a3A];refine a1a fun a ha=>?_;rw[a3A];refine a1a fun b hb=>?_;have e3:a0p (fun j=>(if jn a b=j then 1 else 0)*pos (a0k p a*a0k r b - f*g*(a0k q a*a0k s b))) J=a0p (fun j=>pos (a0k p a*a0k r b - f*g*(a0k q a*a0k s b))*(if jn a b=j then 1 else 0)) J :=
   a0Q fun j _=>Rat.mul_comm _ _
  rw[e3,a8y hJ ((mJ (jn a b)).2 (List.mem_append.2 (.inr (b06.2 ⟨a,ha,b,hb,rfl⟩)))) (fun _=>pos (a0k p a*a0k r b - f*g*(a0k q a*a0k s b))) 1,Rat.mul_one];exact Rat.le_refl
 refine Rat.le_trans h0 ?_;have h1:a0p (fun a=>a0p (fun b=>pos (a0k p a*a0k r b - f*g*(a0k q a*a0k s b))) B) A≤a0p (fun a=>a0p (fun b=>pos (a0k p a - f*a0k q a)*a0k r b+a0k p a*pos (a0k r b - g*a0k s b)) B) A :=
  a1a fun a _=>a1a fun b _=>b8t (hp.zero a) (hr.zero b) (hq.zero a) (hs.zero b) hf hg
 refine Rat.le_trans h1 ?_;have h2:∀ a∈A,a0p (fun b=>pos (a0k p a - f*a0k q a)*a0k r b+a0k p a*pos (a0k r b - g*a0k s b)) B=pos (a0k p a - f*a0k q a)+a0p (fun k=>pos (a0k r k - g*a0k s k)) B*a0k p a:=by
  intro a _;have t:a0p (fun b=>a0k r b) B=1:=hr.total hB kr;rw[a2a,a1i,a1i,t,Rat.mul_one]
  grind
 rw[a0Q h2,a2a,a1i];have t:a0p (fun a=>a0k p a) A=1:=hp.total hA kp;rw[t,Rat.mul_one];exact Rat.le_refl
def momD(p q:DL)(n:Nat):Rat:=a0p (fun e=>e.2 ^ (n+1)*(a0k q e.1 ^ n)⁻¹) p
theorem a6d(x y:Rat)(n:Nat):(x*y) ^ n=x ^ n*y ^ n:=by
 induction n with
 | zero=>rw[Rat.pow_zero,Rat.pow_zero,Rat.pow_zero,Rat.one_mul]
 | succ n ih=>rw[Rat.pow_succ,Rat.pow_succ,Rat.pow_succ,ih];grind
theorem a7H(x y:Rat):(x*y)⁻¹=x⁻¹*y⁻¹:=by
 by_cases hx:x=0
 ·rw[hx,Rat.zero_mul,Rat.inv_zero,Rat.zero_mul]
 by_cases hy:y=0
 ·rw[hy,Rat.mul_zero,Rat.inv_zero,Rat.mul_zero]
 have hxy:x*y≠0:=by
  intro h
  rcases Rat.mul_eq_zero.1 h with h|h
  ·exact hx h
  ·exact hy h
 have e:x⁻¹*y⁻¹*(x*y)=1:=by
  have a1:=Rat.inv_mul_cancel x hx;have a2:=Rat.inv_mul_cancel y hy;have:x⁻¹*y⁻¹*(x*y)=(x⁻¹*x)*(y⁻¹*y):=by grind
  rw[this,a1,a2,Rat.one_mul]
 have e2:=Rat.mul_inv_cancel (x*y) hxy;have e3:x⁻¹*y⁻¹*(x*y)*(x*y)⁻¹=(x*y)⁻¹:=by rw[e,Rat.one_mul]
 rw[← e3,Rat.mul_assoc,e2,Rat.mul_one]
theorem bernD{x y:Rat}(hx:0 < x)(hy:0 < y)(n:Nat):(n+1:Nat)*x - (n:Nat)*y≤x ^ (n+1)*(y ^ n)⁻¹:=by
 induction n with
 | zero =>
  rw[Rat.pow_zero,Rat.pow_succ,Rat.pow_zero,Rat.one_mul,show (1:Rat)⁻¹=1 by decide +kernel,Rat.mul_one];have:((0:Nat):Rat)=0:=rfl;have h1:((0+1:Nat):Rat)=1:=rfl;rw[this,h1]
  grind
 | succ n ih =>
  have hi:0 < y⁻¹:=Rat.inv_pos.2 hy;have hr:0≤x*y⁻¹:=Rat.mul_nonneg (by grind) (by grind);have e1:x ^ (n+1+1)*(y ^ (n+1))⁻¹=x ^ (n+1)*(y ^ n)⁻¹*(x*y⁻¹):=by
   rw[Rat.pow_succ x (n+1),Rat.pow_succ y n,a7H];grind
  rw[e1];have h1:=Rat.mul_le_mul_of_nonneg_right ih hr;refine Rat.le_trans ?_ h1;have c1:((n+1+1:Nat):Rat)=((n+1:Nat):Rat)+1:=by rw[Rat.natCast_add];rfl
  have c2:((n+1:Nat):Rat)=((n:Nat):Rat)+1:=by rw[Rat.natCast_add];rfl
  rw[c1,c2];have hn:(0:Rat)≤((n:Nat):Rat):=Rat.natCast_nonneg;generalize ((n:Nat):Rat)=N at *;have k1:y*(x*y⁻¹)=x:=by
   have:=Rat.mul_inv_cancel y (by grind);have h3:y*(x*y⁻¹)=x*(y*y⁻¹):=by grind
   rw[h3,this,Rat.mul_one]
  have k2:0≤(x - y)*(x - y)*y⁻¹:=by
   refine Rat.mul_nonneg ?_ (by grind)
   rcases Rat.le_total (a:=0) (b:=x - y) with h|h
   ·exact Rat.mul_nonneg h h
   ·have:=Rat.mul_nonneg (show 0≤-(x - y) by grind) (show 0≤-(x - y) by grind)
    grind
  have k3:(x - y)*(x - y)*y⁻¹=x*(x*y⁻¹) - 2*x+y:=by
   have:=Rat.mul_inv_cancel y (by grind);have h3:(x - y)*(x - y)*y⁻¹=x*(x*y⁻¹) - 2*(x*(y*y⁻¹))+y*(y*y⁻¹):=by grind
   rw[h3,this];grind
  rw[k3]at k2;have k4:=Rat.mul_nonneg (show 0≤N+1 by grind) k2;have e2:((N+1)*x - N*y)*(x*y⁻¹)=(N+1)*(x*(x*y⁻¹)) - N*(y*(x*y⁻¹)):=by grind
  rw[e2,k1]
  grind
theorem b33{p q:DL}(hp:(a00 p).Nodup)(hq:IsD q):a0p (fun e=>a0k q e.1) p≤1:=by
 obtain⟨K,hK,m⟩:=a1Y (a00 p++a00 q);have e1:a0p (fun e=>a0k q e.1) p=a0p (a0k q) (a00 p):=by unfold a00;rw[a2n]
 rw[e1,← hq.total hK (fun k hk=>(m k).2 (by simp[hk]))];have e2:a0p (fun k=>if hasK k (a00 p)=true then a0k q k else 0) K=a0p (a0k q) (a00 p):=by
  rw[a43 hp hK (fun k hk=>(m k).2 (by simp[hk])) (fun k _ hn=>if_neg (fun h=>hn (b3l.1 h)))];exact a0Q fun k hk=>if_pos (b3l.2 hk)
 rw[← e2];refine a1a fun k _=>?_;have:=hq.zero k
 split<;>grind
theorem b86{p q:DL}(hp:IsD p)(hq:IsD q)(hs:∀ e∈p,e.1∈a00 q)(n:Nat):1≤momD p q n:=by
 have h1:a0p (fun e=>((n+1:Nat):Rat)*e.2+(-((n:Nat):Rat))*a0k q e.1) p≤momD p q n:=by
  refine a1a fun e he=>?_;have:=bernD (hp.plus e he) ((hq.pos_iff _).2 (hs e he)) n
  grind
 rw[a2a,a1i,a1i,hp.one]at h1;have h2:=b33 hp.once hq;have hn:(0:Rat)≤((n:Nat):Rat):=Rat.natCast_nonneg;have h3:=Rat.mul_le_mul_of_nonneg_left h2 hn;have c2:((n+1:Nat):Rat)=((n:Nat):Rat)+1:=by rw[Rat.natCast_add];rfl
 rw[c2]at h1
 grind
def a0z(D:Nat)(q:Rat):Prop:=∃ n:Int,q*(D:Rat)=(n:Rat)
theorem a4R(q:Rat):q*(q.den:Rat)=(q.num:Rat):=by
 have h0:(q.den:Rat)≠0:=fun h=>q.den_nz (Rat.natCast_inj.1 h);have h1:(q.num:Rat) / (q.den:Rat)=q:=by rw[← Rat.mkRat_eq_div,Rat.mkRat_self]
 have h2:(q.num:Rat) / (q.den:Rat)*(q.den:Rat)=(q.num:Rat):=Rat.div_mul_cancel h0
 rwa [h1]at h2
theorem a0z.self(q:Rat):a0z q.den q:=⟨q.num,a4R q⟩
theorem a0z.mul_left{D:Nat}{q:Rat}(h:a0z D q)(E:Nat):a0z (E*D) q:=by
 obtain⟨n,hn⟩:=h;refine⟨(E:Int)*n,?_⟩;rw[Rat.natCast_mul,Rat.intCast_mul,← hn];have:((E:Int):Rat)=(E:Rat):=rfl;rw[this]
 grind
theorem a0z.mul_right{D:Nat}{q:Rat}(h:a0z D q)(E:Nat):a0z (D*E) q:=by rw[Nat.mul_comm];exact h.mul_left E
theorem a0z.add{D:Nat}{p q:Rat}(hp:a0z D p)(hq:a0z D q):a0z D (p+q):=by
 obtain⟨n,hn⟩:=hp;obtain⟨m,hm⟩:=hq;exact⟨n+m,by rw[Rat.add_mul,hn,hm,Rat.intCast_add]⟩
theorem a0z.neg{D:Nat}{p:Rat}(hp:a0z D p):a0z D (-p):=by
 obtain⟨n,hn⟩:=hp;exact⟨-n,by rw[Rat.neg_mul,hn,Rat.intCast_neg]⟩
theorem a0z.sub{D:Nat}{p q:Rat}(hp:a0z D p)(hq:a0z D q):a0z D (p - q):=by
 rw[Rat.sub_eq_add_neg];exact hp.add hq.neg
theorem a0z.mul{D E:Nat}{p q:Rat}(hp:a0z D p)(hq:a0z E q):a0z (D*E) (p*q):=by
 obtain⟨n,hn⟩:=hp;obtain⟨m,hm⟩:=hq;refine⟨n*m,?_⟩;rw[Rat.intCast_mul,← hn,← hm,Rat.natCast_mul]
 grind
theorem a0z.zero(D:Nat):a0z D 0:=⟨0,by rw[Rat.zero_mul];rfl⟩
theorem a0z.one(D:Nat):a0z D 1:=⟨D,by rw[Rat.one_mul];rfl⟩
theorem a0z.pow{D:Nat}{q:Rat}(h:a0z D q)(n:Nat):a0z (D ^ n) (q ^ n):=by
 induction n with
 | zero=>rw[Rat.pow_zero];exact a0z.one _
 | succ n ih=>rw[Rat.pow_succ,Nat.pow_succ];exact ih.mul h
theorem a0z.pos{D:Nat}{q:Rat}(h:a0z D q):a0z D (pos q):=by
 unfold Go.Proofs.YtigapglmipmbeaaGreatDoor.pos
 split
 ·exact h
 ·exact a0z.zero D
theorem a0z.sum{α:Type}{D:Nat}{f:α→Rat}:∀ {l:List α},(∀ a∈l,a0z D (f a))→a0z D (a0p f l)
 | [],_=>a0z.zero D
 | a::l,h=>(h a (by simp)).add (a0z.sum (l:=l) fun b hb=>h b (by simp[hb]))
theorem a0z.dvd{D:Nat}{q:Rat}(h:a0z D q):q.den ∣ D:=by
 obtain⟨n,hn⟩:=h;have h1:q.num*(D:Int)=n*(q.den:Int):=by
  have h2:q*(D:Rat)*(q.den:Rat)=(n:Rat)*(q.den:Rat):=by rw[hn]
  have h3:q*(q.den:Rat)=(q.num:Rat):=a4R q;have h4:(q.num:Rat)*(D:Rat)=(n:Rat)*(q.den:Rat):=by rw[← h2,← h3];grind
  have h5:((q.num*(D:Int):Int):Rat)=((n*(q.den:Int):Int):Rat):=by
   rw[Rat.intCast_mul,Rat.intCast_mul];exact h4
  exact Rat.intCast_inj.1 h5
 have hc:Nat.Coprime q.den q.num.natAbs:=Nat.Coprime.symm q.reduced;have h2:q.den ∣ q.num.natAbs*D:=by
  have:(q.num*(D:Int)).natAbs=(n*(q.den:Int)).natAbs:=by rw[h1]
  rw[Int.natAbs_mul,Int.natAbs_mul,Int.natAbs_natCast,Int.natAbs_natCast]at this;rw[this];exact Nat.dvd_mul_left _ _
 exact hc.dvd_of_dvd_mul_left h2
theorem a0z.sz{D k:Nat}{q:Rat}{M:Nat}(h:a0z D q)(hD:0 < D)(h0:0≤q)(hM:q≤(M:Rat))(hk:M*D < 10 ^ k)(hM0:0 < M):Sz k q:=by
 have hd:=Nat.le_of_dvd hD h.dvd;have h1:D≤M*D:=Nat.le_mul_of_pos_left D hM0;refine⟨?_,by omega⟩;have hn:0≤q.num:=Rat.num_nonneg.2 h0;have e:q.num=(nm q:Int):=by unfold nm;omega
 have h2:(q.num:Rat)≤((M*q.den:Nat):Rat):=by
  rw[← a4R q,Rat.natCast_mul];exact Rat.mul_le_mul_of_nonneg_right hM Rat.natCast_nonneg
 have h3:q.num≤((M*q.den:Nat):Int):=Rat.intCast_le_intCast.1 h2;have h4:M*q.den≤M*D:=Nat.mul_le_mul_left M hd
 omega
theorem a75{p q r:DL}(hp:IsD p)(hq:IsD q)(hr:IsD r){f g:Rat}(hf:0≤f)(hg:0≤g):a1I p r (f*g)≤a1I p q f+f*a1I q r g:=by
 obtain⟨K,hK,m⟩:=a1Y (a00 p++a00 q);rw[a1P hp hr (Rat.mul_nonneg hf hg) hK (fun k hk=>(m k).2 (by simp[hk])),a1P hp hq hf hK (fun k hk=>(m k).2 (by simp[hk])),a1P hq hr hg hK (fun k hk=>(m k).2 (by simp[hk])),← a1i,← a2a];refine a1a fun k _=>?_;rw[← b9C hf];refine Rat.le_trans (b7T ?_) (b5r _ _)
 grind
def ovT(q:Rat):XE:=if fits q then .ok (rT q) else .error 5
theorem a7_(q:Rat):exQ (outQ q)=ovT q:=by
 unfold ovT
 by_cases h:fits q=true
 ·rw[if_pos h]
  unfold exQ;rw[b57 (a0V.1 h) (Nat.le_refl _)]
  rfl
 ·rw[if_neg h]
  have h2:maxD < Lib.nDigits (nm q)∨maxD < Lib.nDigits q.den:=by
   unfold fits at h
   simp only[Bool.not_eq_true',decide_eq_false_iff_not,Decidable.not_not]at h
   exact h
  unfold exQ outQ;rw[if_pos h2]
  rfl
theorem b7D{s:ByteArray}(h:errQ s.data.toList=0):s=rT (valQ s.data.toList):=(IsT.of h).text
theorem a1Z{q:Rat}(h:fits q=true):errQ (rT q).data.toList=0:=(a16 h).err
theorem a1y{q:Rat}(h:fits q=true):valQ (rT q).data.toList=q:=(a16 h).val
theorem b6t{q:Rat}{s:ByteArray}(h:ovT q=.ok s):errQ s.data.toList=0∧valQ s.data.toList=q∧fits q=true:=by
 unfold ovT at h
 split at h
 ·rename_i hf;cases h;exact⟨a1Z hf,a1y hf,hf⟩
 ·cases h
theorem a2O{q:Rat}(h:fits q=true):ovT q=.ok (rT q):=if_pos h
section
variable {a b:ByteArray} (ha:errQ a.data.toList=0) (hb:errQ b.data.toList=0)
include ha hb
theorem a7m:plX a b=ovT (valQ a.data.toList+valQ b.data.toList):=by unfold plX;rw[b1_ (IsT.of ha) (IsT.of hb),a7_]
theorem b3h:subX a b=ovT (valQ a.data.toList - valQ b.data.toList):=by unfold subX;rw[b1_ (IsT.of ha) (IsT.of hb),a7_,Rat.sub_eq_add_neg]
theorem a7G:mulX a b=ovT (valQ a.data.toList*valQ b.data.toList):=by unfold mulX;rw[b1_ (IsT.of ha) (IsT.of hb),a7_]
theorem b7Q(h0:valQ b.data.toList≠0):divX a b=ovT (valQ a.data.toList*(valQ b.data.toList)⁻¹):=by
 unfold divX;rw[b1_ (IsT.of ha) (IsT.of hb)];unfold divQ;rw[if_neg h0,a7_]
theorem b0n:maxX a b=.ok (if cmpQ (valQ a.data.toList) (valQ b.data.toList) < 0 then b else a):=by
 unfold maxX;rw[if_neg (by simpa using ha),if_neg (by simpa using hb)]
end
theorem a7L{a:ByteArray}(ha:errQ a.data.toList=0)(n:Nat):powX a (n:Int)=ovT (valQ a.data.toList ^ n):=by
 unfold powX;rw[one_T (IsT.of ha)];unfold powQ;rw[if_neg (by omega),if_neg (by omega),a7_,Int.natAbs_natCast]
def a0A(ls:List L2):DL:=ls.map fun x=>(x.1,valQ x.2.data.toList)
def OkV(ls:List L2):Prop:=∀ x∈ls,errQ x.2.data.toList=0
theorem a4n(ls:List L2):a00 (a0A ls)=ls.map (·.1):=by unfold a00 a0A;rw[List.map_map];rfl
theorem a4z{p:ByteArray}:posE p=0↔errQ p.data.toList=0∧0≤valQ p.data.toList:=by
 unfold posE
 split
 ·rename_i h;exact⟨fun h2=>absurd h2 h,fun h2=>absurd h2.1 h⟩
 ·rename_i h
  have h:errQ p.data.toList=0:=Classical.byContradiction h
  split
  ·rename_i h2;exact⟨fun h3=>by omega,fun h3=>absurd h3.2 (by grind)⟩
  ·rename_i h2;exact⟨fun _=>⟨h,by grind⟩,fun _=>rfl⟩
theorem a6T{a b:ByteArray}:ltK a b=true↔a.data.toList < b.data.toList:=by unfold ltK;exact decide_eq_true_iff
theorem b0I{a b c:ByteArray}(h1:ltK a b=true)(h2:ltK b c=true):ltK a c=true:=a6T.2 (List.lt_trans (a6T.1 h1) (a6T.1 h2))
theorem b3L(a:ByteArray):ltK a a=false:=by
 cases h:ltK a a
 ·rfl
 ·exact absurd (a6T.1 h) (List.lt_irrefl _)
theorem b5H{a b:ByteArray}(h:a.data.toList=b.data.toList):a=b:=by
 cases a;cases b
 simp only[ByteArray.mk.injEq]
 exact Array.ext' h
theorem b42{a b:ByteArray}(h:ltK a b=false)(hn:a≠b):ltK b a=true:=by
 refine a6T.2 ?_;have h1:¬ a.data.toList < b.data.toList:=fun h2=>by rw[a6T.2 h2]at h;cases h
 refine Classical.byContradiction fun h2=>?_;exact hn (b5H (List.le_antisymm (List.not_lt.1 h2) (List.not_lt.1 h1)))
def Asc(ks:List ByteArray):Prop:=ks.Pairwise fun a b=>ltK a b=true
theorem Asc.nodup{ks:List ByteArray}(h:Asc ks):ks.Nodup:=by
 refine List.Pairwise.imp ?_ h;intro a b hab e;subst e;rw[b3L]at hab
 cases hab
theorem b0U:∀ {ls:List L2} {k:Option ByteArray},chkL k ls=0→(∀ x∈ls,errQ x.2.data.toList=0∧0 < valQ x.2.data.toList)∧Asc (ls.map (·.1))∧∀ x∈ls,badK k x.1=false
 | [],_,_=>⟨fun x hx=>(by cases hx),List.Pairwise.nil,fun x hx=>(by cases hx)⟩
 | x::l,k,h=>by
  unfold chkL at h
  split at h
  ·rename_i h1;exact absurd h h1
  ·rename_i h1
   have h1:posE x.2=0:=Classical.byContradiction h1
   split at h
   ·cases h
   ·rename_i h2
    have h2:0 < valQ x.2.data.toList:=Classical.byContradiction h2
    split at h
    ·cases h
    ·rename_i h3
     have h3:badK k x.1=false:=by simpa using h3
     obtain⟨r1,r2,r3⟩:=b0U h;have r4:∀ y∈l,ltK x.1 y.1=true:=fun y hy=>by simpa[badK]using r3 y hy
     refine⟨fun y hy=>?_,?_,fun y hy=>?_⟩
     ·rcases List.mem_cons.1 hy with rfl|hy
      ·exact⟨(a4z.1 h1).1,h2⟩
      ·exact r1 y hy
     ·refine List.pairwise_cons.2 ⟨fun b hb=>?_,r2⟩
      obtain⟨y,hy,rfl⟩:=List.mem_map.1 hb;exact r4 y hy
     ·rcases List.mem_cons.1 hy with rfl|hy
      ·exact h3
      ·cases k with
       | none=>rfl
       | some k =>
        have h4:ltK k x.1=true:=by simpa[badK]using h3
        simp only[badK,b0I h4 (r4 y hy),Bool.not_true]
theorem b6q:∀ {ls:List L2} {k:Option ByteArray},(∀ x∈ls,errQ x.2.data.toList=0∧0 < valQ x.2.data.toList)→Asc (ls.map (·.1))→(∀ x∈ls,badK k x.1=false)→chkL k ls=0
 | [],_,_,_,_=>rfl
 | x::l,k,h1,h2,h3=>by
  obtain⟨e1,e2⟩:=h1 x (by simp);unfold chkL;rw[if_neg (by simp only[ne_eq,Decidable.not_not];exact a4z.2 ⟨e1,by grind⟩),if_neg (by simpa using e2),if_neg (by rw[h3 x (by simp)];decide)];have h4:=List.pairwise_cons.1 h2;refine b6q (fun y hy=>h1 y (by simp[hy])) h4.2 fun y hy=>?_
  simp only[badK,h4.1 y.1 (List.mem_map_of_mem hy),Bool.not_true]
theorem b1h{α:Type}{g:α→XE}{v:α→Rat}:∀ {l:List α} {s t:ByteArray},a1q g s l=.ok t→errQ s.data.toList=0→(∀ x∈l,∀ p,g x=.ok p→errQ p.data.toList=0∧valQ p.data.toList=v x) →
  errQ t.data.toList=0∧valQ t.data.toList=valQ s.data.toList+a0p v l
 | [],s,t,h,hs,_=>by
  cases h
  exact⟨hs,by simp only[a0p];grind⟩
 | x::l,s,t,h,hs,hg=>by
  unfold a1q at h
  cases hx:g x with
  | error n=>rw[hx]at h;cases h
  | ok p =>
   rw[hx]at h;obtain⟨e1,e2⟩:=hg x (by simp) p hx
   dsimp only at h
   rw[a7m hs e1]at h
   cases ha:ovT (valQ s.data.toList+valQ p.data.toList) with
   | error n=>rw[ha]at h;cases h
   | ok u =>
    rw[ha]at h;obtain⟨e3,e4,_⟩:=b6t ha;obtain⟨r1,r2⟩:=b1h h e3 fun y hy=>hg y (by simp[hy]);refine⟨r1,?_⟩;rw[r2,e4,e2]
    simp only[a0p]
    grind
theorem a6A{α:Type}{g:α→XE}{v:α→Rat}{D M:Nat}(hD:0 < D)(hM:0 < M)(hk:M*D < 10 ^ maxD):∀ {l:List α} {s:ByteArray},errQ s.data.toList=0→a0z D (valQ s.data.toList)→0≤valQ s.data.toList →
  (∀ x∈l,g x=.ok (rT (v x))∧fits (v x)=true∧a0z D (v x)∧0≤v x)→valQ s.data.toList+a0p v l≤(M:Rat)→a1q g s l=.ok (rT (valQ s.data.toList+a0p v l))
 | [],s,hs,_,_,_,_=>by
  simp only[a1q,a0p,Rat.add_zero]
  rw[← b7D hs]
 | x::l,s,hs,hd,h0,hg,hm=>by
  obtain⟨e1,e2,e3,e4⟩:=hg x (by simp);have hn:0≤a0p v l:=a1w fun y hy=>(hg y (by simp[hy])).2.2.2
  simp only[a0p]at hm
  have hf:fits (valQ s.data.toList+v x)=true:=a0V.2 ((hd.add e3).sz hD (by grind) (M:=M) (by grind) hk hM);have ha:plX s (rT (v x))=.ok (rT (valQ s.data.toList+v x)):=by
   rw[a7m hs (a1Z e2),a1y e2,a2O hf]
  rw[a6M e1 ha,a6A hD hM hk (a1Z hf) (by rw[a1y hf];exact hd.add e3) (by rw[a1y hf];grind) (fun y hy=>hg y (by simp[hy])) (by rw[a1y hf];grind),a1y hf]
  simp only[a0p]
  rw[Rat.add_assoc]
theorem a7M(ls:List L2):a0p (fun e=>e.2) (a0A ls)=a0p (fun x:L2=>valQ x.2.data.toList) ls:=by unfold a0A;rw[a2n]
theorem b0y{α:Type}{g:α→XE}(hg:∀ x m,g x=.error m→m≠0):∀ {l:List α} {s:ByteArray} {n:Nat},a1q g s l=.error n→n≠0
 | [],_,_,h=>by cases h
 | x::l,s,n,h=>by
  unfold a1q at h
  cases hx:g x with
  | error m=>rw[hx]at h;cases h;exact hg x _ hx
  | ok p =>
   rw[hx]at h
   dsimp only at h
   cases ha:plX s p with
   | error m=>rw[ha]at h;cases h;exact a18 ha
   | ok u=>rw[ha]at h;exact b0y hg h
theorem a2b{ls:List L2}(h:chkD ls=0):IsD (a0A ls)∧OkV ls∧Asc (ls.map (·.1)):=by
 unfold chkD at h
 split at h
 ·rename_i h1;exact absurd h h1
 ·rename_i h1
  have h1:chkL none ls=0:=Classical.byContradiction h1;obtain⟨r1,r2,_⟩:=b0U h1
  cases hs:sumX zT ls with
  | error n =>
   rw[hs]at h;exact absurd h (b0y (fun x m hm=>by cases hm) hs)
  | ok s =>
   rw[hs]at h;unfold chkS at h
   dsimp only at h
   split at h
   ·rename_i h2
    obtain⟨e1,e2⟩:=b1h (v:=fun x:L2=>valQ x.2.data.toList) hs a4m (fun x hx p hp=>by cases hp;exact⟨(r1 x hx).1,rfl⟩);rw[h2,val_oT,a2o,Rat.zero_add]at e2;refine⟨⟨by rw[a4n];exact r2.nodup,fun e he=>?_,by rw[a7M,e2]⟩,fun x hx=>(r1 x hx).1,r2⟩;obtain⟨x,hx,rfl⟩:=List.mem_map.1 he;exact(r1 x hx).2
   ·cases h
def denB{α:Type}(f:α→Rat):List α→Nat
 | []=>1
 | x::l=>(f x).den*denB f l
section
variable {α:Type} {f:α→Rat}
theorem a9Y:∀ ls:List α,0 < denB f ls
 | []=>Nat.one_pos
 | x::l=>Nat.mul_pos (f x).den_pos (a9Y l)
theorem a9T:∀ {ls:List α} {x:α},x∈ls→a0z (denB f ls) (f x)
 | y::l,x,h=>by
  unfold denB
  rcases List.mem_cons.1 h with rfl|h
  ·exact(a0z.self _).mul_right _
  ·exact(a9T h).mul_left _
theorem b2K{k:Nat}:∀ {ls:List α},(∀ x∈ls,Sz k (f x))→denB f ls < 10 ^ (k*ls.length+1)
 | [],_=>by show 1 < 10 ^ 1;omega
 | x::l,h=>by
  have h1:=(h x (by simp)).2;have h2:=b2K (ls:=l) fun y hy=>h y (by simp[hy]);have h3:=a2f h1 h2
  show (f x).den*denB f l < _
  rw[List.length_cons,show k*(l.length+1)+1=k+(k*l.length+1) by rw[Nat.mul_add];omega];exact h3
end
abbrev valX(x:L2):Rat:=valQ x.2.data.toList
theorem b8W{ls:List L2}(h1:∀ x∈ls,errQ x.2.data.toList=0∧0 < valQ x.2.data.toList)(h2:Asc (ls.map (·.1)))(h3:a0p (fun e=>e.2) (a0A ls)=1){D:Nat}(hD:0 < D)(hk:D < 10 ^ maxD)(hd:∀ x∈ls,a0z D (valQ x.2.data.toList)):chkD ls=0:=by
 unfold chkD;rw[b6q h1 h2 fun x _=>rfl,if_neg (by decide)];rw[a7M]at h3;have:=a6A (g:=fun x:L2=>.ok x.2) (v:=fun x:L2=>valQ x.2.data.toList) (M:=1) hD (by omega) (by omega) a4m (by rw[a2o];exact a0z.zero D) (by rw[a2o];exact Rat.le_refl)
  (fun x hx=>by
   have hf:=(IsT.of (h1 x hx).1).fits;refine⟨?_,hf,hd x hx,by have:=(h1 x hx).2;grind⟩;rw[← b7D (h1 x hx).1]) (l:=ls) (by rw[h3,a2o,Rat.zero_add];exact Rat.le_refl)
 unfold sumX;rw[this,h3,a2o,Rat.zero_add];have e1:rT 1=oT:=IsT.one.text.symm;rw[e1]
 rfl
theorem b0g{k:ByteArray}:∀ {ls:List L2},hasT ls k=true↔k∈ls.map (·.1)
 | []=>by simp[hasT]
 | x::l=>by
  unfold hasT;rw[List.map_cons,List.mem_cons]
  split
  ·rename_i h;exact⟨fun _=>.inl h.symm,fun _=>rfl⟩
  ·rename_i h
   rw[b0g];exact⟨.inr,fun h2=>h2.resolve_left fun e=>h e.symm⟩
theorem b5p{k:ByteArray}:∀ {ls:List L2},OkV ls→errQ (atT ls k).data.toList=0
 | [],_=>a4m
 | x::l,h=>by
  unfold atT
  split
  ·exact h x (by simp)
  ·exact b5p fun y hy=>h y (by simp[hy])
theorem b1S{k:ByteArray}:∀ {ls:List L2},(ls.map (·.1)).Nodup→valQ (atT ls k).data.toList=a0k (a0A ls) k
 | [],_=>a2o
 | x::l,h=>by
  rw[List.map_cons,List.nodup_cons]at h
  show valQ (atT (x::l) k).data.toList=(if x.1=k then valQ x.2.data.toList else 0)+a0k (a0A l) k
  unfold atT
  split
  ·rename_i e
   subst e;rw[a2x (by rw[a4n];exact h.1),Rat.add_zero]
  ·rw[Rat.zero_add]
   exact b1S h.2
theorem a5c{q:List L2}:∀ {p:List L2},inX p q=true↔∀ x∈p,x.1∈q.map (·.1)
 | []=>by simp[inX]
 | x::l=>by
  unfold inX
  split
  ·rename_i h
   rw[a5c]
   simp only[List.mem_cons,forall_eq_or_imp]
   exact⟨fun h2=>⟨b0g.1 h,h2⟩,fun h2=>h2.2⟩
  ·rename_i h
   simp only[Bool.false_eq_true,List.mem_cons,forall_eq_or_imp,false_iff,not_and]
   exact fun h2=>absurd (b0g.2 h2) h
theorem a2q(x:L2)(l:List L2)(k:ByteArray):a0k (a0A (x::l)) k=(if x.1=k then valQ x.2.data.toList else 0)+a0k (a0A l) k:=rfl
theorem a2M(x:L2)(l:List L2):a0p (fun e=>e.2) (a0A (x::l))=valQ x.2.data.toList+a0p (fun e=>e.2) (a0A l):=rfl
theorem a8v:∀ {a b:List L2} {x:L2},insX a x=.ok b→Asc (a.map (·.1))→OkV a→errQ x.2.data.toList=0 →
  Asc (b.map (·.1))∧OkV b∧(∀ k,k∈b.map (·.1)↔k∈a.map (·.1)∨k=x.1)∧(∀ k,a0k (a0A b) k=a0k (a0A a) k+(if x.1=k then valQ x.2.data.toList else 0)) ∧
  a0p (fun e=>e.2) (a0A b)=a0p (fun e=>e.2) (a0A a)+valQ x.2.data.toList
 | [],b,x,h,_,_,hx=>by
  cases h
  refine⟨List.pairwise_singleton _ _,fun y hy=>by rw[List.mem_singleton.1 hy];exact hx,fun k=>by simp,fun k=>?_,?_⟩
  ·rw[a2q];exact Rat.add_comm _ _
  ·rw[a2M];exact Rat.add_comm _ _
 | y::l,b,x,h,ha,ho,hx=>by
  have ha2:=List.pairwise_cons.1 ha;unfold insX at h
  split at h
  ·rename_i hlt
   cases hm:insX l x with
   | error n=>rw[hm]at h;cases h
   | ok m =>
    rw[hm]at h
    cases h
    obtain⟨r1,r2,r3,r4,r5⟩:=a8v hm ha2.2 (fun z hz=>ho z (by simp[hz])) hx;refine⟨List.pairwise_cons.2 ⟨fun k hk=>?_,r1⟩,fun z hz=>?_,fun k=>?_,fun k=>?_,?_⟩
    ·rcases (r3 k).1 hk with h1|rfl
     ·exact ha2.1 k h1
     ·exact hlt
    ·rcases List.mem_cons.1 hz with rfl|hz
     ·exact ho z (by simp)
     ·exact r2 z hz
    ·rw[List.map_cons,List.mem_cons,r3,List.map_cons,List.mem_cons,or_assoc]
    ·rw[a2q,a2q,r4,Rat.add_assoc]
    ·rw[a2M,a2M,r5,Rat.add_assoc]
  ·rename_i hlt
   split at h
   ·rename_i he
    cases hs:plX y.2 x.2 with
    | error n=>rw[hs]at h;cases h
    | ok s =>
     rw[hs]at h
     cases h
     rw[a7m (ho y (by simp)) hx]at hs;obtain⟨e1,e2,_⟩:=b6t hs;refine⟨ha,fun z hz=>?_,fun k=>?_,fun k=>?_,?_⟩
     ·rcases List.mem_cons.1 hz with rfl|hz
      ·exact e1
      ·exact ho z (by simp[hz])
     ·rw[List.map_cons,List.mem_cons,List.map_cons,List.mem_cons]
      constructor
      ·exact .inl
      ·rintro (h1|rfl)
       ·exact h1
       ·exact .inl he.symm
     ·rw[a2q,a2q]
      dsimp only
      rw[e2,he]
      split<;>grind
     ·rw[a2M,a2M]
      dsimp only
      rw[e2]
      grind
   ·rename_i he
    cases h
    have hlt2:ltK x.1 y.1=true:=b42 (by simpa using hlt) he;refine⟨List.pairwise_cons.2 ⟨fun k hk=>?_,ha⟩,fun z hz=>?_,fun k=>?_,fun k=>?_,?_⟩
    ·rcases List.mem_cons.1 hk with rfl|hk
     ·exact hlt2
     ·exact b0I hlt2 (ha2.1 k hk)
    ·rcases List.mem_cons.1 hz with rfl|hz
     ·exact hx
     ·exact ho z hz
    ·rw[List.map_cons,List.mem_cons];exact or_comm
    ·rw[a2q];exact Rat.add_comm _ _
    ·rw[a2M];exact Rat.add_comm _ _
theorem a62:∀ {l a b:List L2},a2X a l=.ok b→Asc (a.map (·.1))→OkV a→OkV l →
  Asc (b.map (·.1))∧OkV b∧(∀ k,k∈b.map (·.1)↔k∈a.map (·.1)∨k∈l.map (·.1))∧(∀ k,a0k (a0A b) k=a0k (a0A a) k+a0k (a0A l) k) ∧
  a0p (fun e=>e.2) (a0A b)=a0p (fun e=>e.2) (a0A a)+a0p (fun e=>e.2) (a0A l)
 | [],a,b,h,ha,ho,_=>by
  cases h
  exact⟨ha,ho,fun k=>by simp,fun k=>(Rat.add_zero _).symm,(Rat.add_zero _).symm⟩
 | x::l,a,b,h,ha,ho,hl=>by
  unfold a2X at h
  cases hi:insX a x with
  | error n=>rw[hi]at h;cases h
  | ok c =>
   rw[hi]at h;obtain⟨r1,r2,r3,r4,r5⟩:=a8v hi ha ho (hl x (by simp));obtain⟨q1,q2,q3,q4,q5⟩:=a62 h r1 r2 fun y hy=>hl y (by simp[hy]);refine⟨q1,q2,fun k=>?_,fun k=>?_,?_⟩
   ·rw[q3,r3,List.map_cons,List.mem_cons,or_assoc]
   ·rw[q4,r4,a2q,Rat.add_assoc]
   ·rw[q5,r5,a2M,Rat.add_assoc]
def Den(D:Nat)(l:List L2):Prop:=∀ x∈l,errQ x.2.data.toList=0∧a0z D (valQ x.2.data.toList)∧0≤valQ x.2.data.toList
theorem Den.sum{D:Nat}{l:List L2}(h:Den D l):0≤a0p (fun e=>e.2) (a0A l):=by
 rw[a7M];exact a1w fun x hx=>(h x hx).2.2
theorem b2W{D M:Nat}(hD:0 < D)(hM:0 < M)(hk:M*D < 10 ^ maxD):∀ {a:List L2} {x:L2},Den D a→errQ x.2.data.toList=0→a0z D (valQ x.2.data.toList)→0≤valQ x.2.data.toList →
  a0p (fun e=>e.2) (a0A a)+valQ x.2.data.toList≤(M:Rat)→∃ b,insX a x=.ok b∧Den D b
 | [],x,_,h1,h2,h3,_=>⟨[x],rfl,fun y hy=>by rw[List.mem_singleton.1 hy];exact⟨h1,h2,h3⟩⟩
 | y::l,x,ha,h1,h2,h3,hs=>by
  have hl:Den D l:=fun z hz=>ha z (by simp[hz]);have hy:=ha y (by simp);rw[a2M]at hs;have hn:=hl.sum;unfold insX
  split
  ·obtain⟨b,e,hb⟩:=b2W hD hM hk hl h1 h2 h3 (by have:=hy.2.2;grind)
   rw[e];exact⟨_,rfl,fun z hz=>by
    rcases List.mem_cons.1 hz with rfl|hz
    ·exact hy
    ·exact hb z hz⟩
  ·split
   ·have hf:fits (valQ y.2.data.toList+valQ x.2.data.toList)=true:=a0V.2 ((hy.2.1.add h2).sz hD (by have:=hy.2.2;grind) (M:=M) (by grind) hk hM)
    rw[a7m hy.1 h1,a2O hf];refine⟨_,rfl,fun z hz=>?_⟩
    rcases List.mem_cons.1 hz with rfl|hz
    ·dsimp only
     rw[a1y hf];exact⟨a1Z hf,hy.2.1.add h2,by have:=hy.2.2;grind⟩
    ·exact hl z hz
   ·refine⟨_,rfl,fun z hz=>?_⟩
    rcases List.mem_cons.1 hz with rfl|hz
    ·exact⟨h1,h2,h3⟩
    ·exact ha z hz
theorem b1F{D M:Nat}(hD:0 < D)(hM:0 < M)(hk:M*D < 10 ^ maxD):∀ {l a:List L2},Asc (a.map (·.1))→Den D a→Den D l→a0p (fun e=>e.2) (a0A a)+a0p (fun e=>e.2) (a0A l)≤(M:Rat)→∃ b,a2X a l=.ok b∧Den D b
 | [],a,_,ha,_,_=>⟨a,rfl,ha⟩
 | x::l,a,hp,ha,hl,hs=>by
  have hl2:Den D l:=fun z hz=>hl z (by simp[hz]);have hx:=hl x (by simp);rw[a2M]at hs;have hn:=hl2.sum;obtain⟨c,e,hc⟩:=b2W hD hM hk ha hx.1 hx.2.1 hx.2.2 (by grind);obtain⟨r1,_,_,_,r5⟩:=a8v e hp (fun z hz=>(ha z hz).1) hx.1;obtain⟨b,e2,hb⟩:=b1F hD hM hk r1 hc hl2 (by rw[r5];grind);exact⟨b,by unfold a2X;rw[e];exact e2,hb⟩
theorem b0V{s:ByteArray}(h:errQ s.data.toList=0):s=zT↔valQ s.data.toList=0:=by
 constructor
 ·intro e;rw[e,a2o]
 ·intro e
  rw[b7D h,e];exact IsT.zero.text.symm
theorem a8g:∀ {l:List L2},OkV l→(∀ k,a0k (a0A (a1O l)) k=a0k (a0A l) k)∧a0p (fun e=>e.2) (a0A (a1O l))=a0p (fun e=>e.2) (a0A l)
 | [],_=>⟨fun _=>rfl,rfl⟩
 | x::l,h=>by
  obtain⟨r1,r2⟩:=a8g (l:=l) fun y hy=>h y (by simp[hy])
  by_cases hz:x.2=zT
  ·have e:a1O (x::l)=a1O l:=by unfold a1O;rw[List.filter_cons_of_neg (by simpa using hz)]
   have hv:=(b0V (h x (by simp))).1 hz;rw[e];refine⟨fun k=>?_,?_⟩
   ·rw[a2q,hv,r1];split<;>grind
   ·rw[a2M,hv,r2];grind
  ·have e:a1O (x::l)=x::a1O l:=by unfold a1O;rw[List.filter_cons_of_pos (by simpa using hz)]
   rw[e];refine⟨fun k=>?_,?_⟩
   ·rw[a2q,a2q,r1]
   ·rw[a2M,a2M,r2]
theorem a8t:∀ {l:List L2},posL l=0↔∀ x∈l,posE x.2=0
 | []=>by simp[posL]
 | x::l=>by
  unfold posL
  simp only[List.mem_cons,forall_eq_or_imp]
  split
  ·rename_i h;exact⟨fun h2=>absurd h2 h,fun h2=>absurd h2.1 h⟩
  ·rename_i h
   rw[a8t];exact⟨fun h2=>⟨Classical.byContradiction h,h2⟩,fun h2=>h2.2⟩
theorem b0x{l out:List L2}(h:a2F l=.ok out):chkD out=0∧(∀ x∈l,posE x.2=0)∧∀ k,a0k (a0A out) k=a0k (a0A l) k:=by
 unfold a2F at h
 split at h
 ·cases h
 ·rename_i h1
  have h1:=a8t.1 (Classical.byContradiction h1)
  cases hc:a2X [] l with
  | error n=>rw[hc]at h;cases h
  | ok a =>
   rw[hc]at h;unfold a89 at h
   dsimp only at h
   split at h
   ·cases h
   ·rename_i h2
    cases h
    have hl:OkV l:=fun x hx=>(a4z.1 (h1 x hx)).1;obtain⟨r1,r2,r3,r4,r5⟩:=a62 hc List.Pairwise.nil (fun x hx=>by cases hx) hl;refine⟨Classical.byContradiction h2,h1,fun k=>?_⟩;rw[(a8g r2).1,r4];exact Rat.zero_add _
theorem b6J{l:List L2}{D:Nat}(hD:0 < D)(hk:D < 10 ^ maxD)(hl:Den D l)(hs:a0p (fun e=>e.2) (a0A l)=1):∃ out,a2F l=.ok out:=by
 obtain⟨a,e,ha⟩:=b1F hD Nat.one_pos (by omega) (a:=[]) List.Pairwise.nil (fun x hx=>absurd hx (by simp)) hl (M:=1) (by
  rw[hs,show a0p (fun e:ByteArray × Rat=>e.2) (a0A [])=0 from rfl,Rat.zero_add];exact Rat.le_refl)
 obtain⟨r1,r2,r3,r4,r5⟩:=a62 e List.Pairwise.nil (fun x hx=>by cases hx) fun x hx=>(hl x hx).1;have hsub:∀ x∈a1O a,x∈a∧x.2≠zT:=fun x hx=>by simpa[a1O]using hx
 have hc:chkD (a1O a)=0:=by
  refine b8W (fun x hx=>?_) (List.Pairwise.sublist (List.Sublist.map _ List.filter_sublist) r1) ?_ hD hk fun x hx=>(ha x (hsub x hx).1).2.1
  ·obtain⟨h1,h2⟩:=hsub x hx
   obtain⟨e1,e2,e3⟩:=ha x h1;refine⟨e1,?_⟩;have hne:valQ x.2.data.toList≠0:=fun h=>h2 ((b0V e1).2 h)
   grind
  ·rw[(a8g r2).2,r5,hs]
   exact Rat.zero_add (1:Rat)
 refine⟨a1O a,?_⟩;unfold a2F;rw[if_neg (by simp only[ne_eq,Decidable.not_not];exact a8t.2 fun x hx=>a4z.2 ⟨(hl x hx).1,(hl x hx).2.2⟩),e];unfold a89
 dsimp only
 rw[if_neg (by simpa using hc)]
def b6B(l:DL)(b:Rat):DL:=l.map fun e=>(e.1,e.2*b)
theorem b1a{b:ByteArray}(hb:errQ b.data.toList=0):∀ {l m:List L2},a1D l b=.ok m→OkV l→OkV m∧a0A m=b6B (a0A l) (valQ b.data.toList)
 | [],m,h,_=>by cases h;exact⟨fun x hx=>absurd hx (by simp),rfl⟩
 | x::l,m,h,hl=>by
  unfold a1D at h
  cases hm:mulX x.2 b with
  | error n=>rw[hm]at h;cases h
  | ok p =>
   rw[hm]at h
   dsimp only at h
   rw[a7G (hl x (by simp)) hb]at hm;obtain⟨e1,e2,_⟩:=b6t hm
   cases hs:a1D l b with
   | error n=>rw[hs]at h;cases h
   | ok r =>
    rw[hs]at h
    cases h
    obtain⟨r1,r2⟩:=b1a hb hs fun y hy=>hl y (by simp[hy]);refine⟨fun y hy=>?_,?_⟩
    ·rcases List.mem_cons.1 hy with rfl|hy
     ·exact e1
     ·exact r1 y hy
    ·show (x.1,valQ p.data.toList)::a0A r=(x.1,valQ x.2.data.toList*valQ b.data.toList)::b6B (a0A l) (valQ b.data.toList)
     rw[r2,e2]
theorem a9q{b:ByteArray}{j k:Nat}(hb:errQ b.data.toList=0)(sb:Sz j (valQ b.data.toList))(hjk:k+j≤maxD):∀ {l:List L2},OkV l→(∀ x∈l,Sz k (valQ x.2.data.toList))→∃ m,a1D l b=.ok m
 | [],_,_=>⟨[],rfl⟩
 | x::l,h,hs=>by
  obtain⟨m,e⟩:=a9q hb sb hjk (l:=l) (fun y hy=>h y (by simp[hy])) fun y hy=>hs y (by simp[hy]);have hf:fits (valQ x.2.data.toList*valQ b.data.toList)=true:=a0V.2 (((hs x (by simp)).mul sb).mono hjk);refine⟨(x.1,rT (valQ x.2.data.toList*valQ b.data.toList))::m,?_⟩;unfold a1D;rw[a7G (h x (by simp)) hb,a2O hf,e]
theorem b21{b:List L2}(hb:OkV b):∀ {a m:List L2},a3p a b=.ok m→OkV a→OkV m∧a0A m=a3g a3Q (a0A a) (a0A b)
 | [],m,h,_=>by cases h;exact⟨fun x hx=>absurd hx (by simp),rfl⟩
 | x::l,m,h,hl=>by
  unfold a3p at h
  cases hm:a1D b x.2 with
  | error n=>rw[hm]at h;cases h
  | ok p =>
   rw[hm]at h
   dsimp only at h
   obtain⟨s1,s2⟩:=b1a (hl x (by simp)) hm hb
   cases hs:a3p l b with
   | error n=>rw[hs]at h;cases h
   | ok r =>
    rw[hs]at h
    cases h
    obtain⟨r1,r2⟩:=b21 hb hs fun y hy=>hl y (by simp[hy]);refine⟨fun y hy=>?_,?_⟩
    ·rcases List.mem_append.1 hy with hy|hy
     ·obtain⟨z,hz,rfl⟩:=List.mem_map.1 hy
      exact s1 z hz
     ·exact r1 y hy
    ·have e1:a0A (p.map (fun y=>(a3Q x.1 y.1,y.2))++r)=(a0A p).map (fun e=>(a3Q x.1 e.1,e.2))++a0A r:=by
      unfold a0A;rw[List.map_append,List.map_map,List.map_map]
      rfl
     rw[e1,r2,s2];unfold b6B a3g;rw[List.map_map]
     show _=(List.flatMap _ ((x.1,valQ x.2.data.toList)::a0A l))
     rw[List.flatMap_cons]
     rfl
theorem b1j{b:List L2}{j k:Nat}(hb:OkV b)(sb:∀ x∈b,Sz k (valQ x.2.data.toList))(hjk:k+j≤maxD):∀ {a:List L2},OkV a→(∀ x∈a,Sz j (valQ x.2.data.toList))→∃ m,a3p a b=.ok m
 | [],_,_=>⟨[],rfl⟩
 | x::l,h,hs=>by
  obtain⟨m,e⟩:=b1j hb sb hjk (a:=l) (fun y hy=>h y (by simp[hy])) fun y hy=>hs y (by simp[hy]);obtain⟨r,e2⟩:=a9q (h x (by simp)) (hs x (by simp)) hjk hb sb;refine⟨r.map (fun y=>(a3Q x.1 y.1,y.2))++m,?_⟩;unfold a3p;rw[e2,e]
end Go.Proofs.YtigapglmipmbeaaGreatDoor
