/- The reference's Read of a rational number: what it returns; the reference's Check. The functions of rat on texts of numbers. rat.with and rat.both over ints (printed by mkwithi.py). The order of rational numbers by their parts. No program in sight. rat: comparisons: frac.Cmp, rat.Sign, Cmp, choose, Min, Max (printed by mkratc.py). rat: Sign, Cmp, choose, Min, Max, Int, Parts. Rounding of rational numbers by their parts. No program in sight. rat: round, Floor, Ceil (printed by mkrate.py). More functions of rat on texts of numbers: comparisons, rounding. Losses in plain rationals: what Check, Add, Max, Fits, Group, Late, Alpha, Beta and Half compute. Computations that are left by a panic: must, and the deferred ends that turns the error into a result. loss.order and loss.Check. loss.Check. How a function hands back results that lie in cells: a struct and an error. Curves of moments in memory, and the iterator over the orders of a curve. Functions of rat on numbers whose result does not fit. The order and the sums of losses, in plain rationals. -/
import Derived.Test.YtigapglmipmbeaaGreatDoorLwMomentPure09
import Derived.Test.YtigapglmipmbeaaGreatDoorLwMomentPure08
import Derived.Test.YtigapglmipmbeaaGreatDoorLwMomentPure07
import Derived.Test.YtigapglmipmbeaaGreatDoorLwMomentPure05
import Derived.Recover
import Derived.Defers
import Derived.Test.YtigapglmipmbeaaGreatDoorLwMomentPure03
set_option maxRecDepth 100000
set_option maxHeartbeats 16000000
namespace Go.Proofs.YtigapglmipmbeaaGreatDoor
open Go.RowKit Go.Shelf
open Lim
theorem isQ_low {w:World} {v:Value} {m:Bool} {n d:Nat} (hd:d≠0) (hg:n.gcd d=1) (hm:m=true→n≠0) (h:IsPartsI w v m n d):IsQ w v (mkQ m n d):=by
 obtain ⟨h1,h2,h3⟩:=mkQ_low (m:=m) hd hg
 unfold IsQ
 rw [h1,h2,h3]
 have:(m&&decide (n≠0))=m:=by
  cases m with
  | false=>rfl
  | true=>simpa using hm rfl
 rw [this]
 exact h
theorem gcd_limbs {n d k:Nat} (h1:(toL n).length≤k) (h2:(toL d).length≤k):(toL (n.gcd d)).length≤k:=by
 by_cases h:n=0
 ·subst h;rw [Nat.gcd_zero_left];exact h2
 ·exact Nat.le_trans (toL_len_mono (Nat.le_of_dvd (Nat.pos_of_ne_zero h) (Nat.gcd_dvd_left n d))) h1
theorem dv_one:dv [49]=1:=by rw [← dec_one,dv_decDigits]
theorem slash_at (s:ByteArray):∃ k,SlashAt s.data.toList k∧k≤s.size∧(s.extract 0 k).data.toList=(cutQ s.data.toList).1 ∧
  ((k=s.size∧(cutQ s.data.toList).2=none)∨(k < s.size∧(cutQ s.data.toList).2=some (s.extract (k+1) s.size).data.toList)):=by
 have hsz:=size_list s
 rcases cutQ_cases s.data.toList with ⟨a,r,e,hn⟩|hn
 ·have hl:s.size=a.length+(r.length+1):=by rw [hsz,e];simp
  have e1:(s.extract 0 a.length).data.toList=a:=by rw [extract_list,e];simp
  have e2:(s.extract (a.length+1) s.size).data.toList=r:=by
   rw [extract_list,hsz,List.take_length,e,← List.drop_drop]
   simp
  have ec:cutQ s.data.toList=(a,some r):=by rw [e];exact cutQ_slash hn
  refine ⟨a.length,.inl ⟨by omega,?_⟩,by omega,by rw [e1,ec],.inr ⟨by omega,by rw [e2,ec]⟩⟩
  have t1:s.data.toList.take a.length=a:=by rw [e];simp
  have t2:s.data.toList.drop (a.length+1)=r:=by rw [e,← List.drop_drop];simp
  rw [ec,t1,t2]
 ·have ec:=cutQ_none hn
  refine ⟨s.size,.inr ⟨hsz,ec⟩,Nat.le_refl _,?_,.inl ⟨rfl,by rw [ec]⟩⟩
  rw [extract_list,hsz,List.take_length,ec]
  rfl
theorem intP_ge (l:List UInt8):l.length≤(intP l).2.length+1:=by
 unfold intP
 split
 ·simp only [List.length_drop];omega
 ·exact Nat.le_succ _
theorem rq_anyB (s:ByteArray) (w:World) (hlen:s.size≤9223372036854775807) :
  Calls Tryz.prog 155 #[.string s] w fun e w'=>∃ v,e=.returned (.tuple #[v,.int .i64 (errQ s.data.toList:Int)])∧(errQ s.data.toList=0→IsQ w' v (valQ s.data.toList))∧(errQ s.data.toList≠0→v=zV)∧Below w.heap.size w w':=by
 obtain ⟨k,hk,hks,hex,hcase⟩:=slash_at s
 obtain ⟨hle1,hle2⟩:=cutQ_le s.data.toList
 rw [← size_list] at hle1 hle2
 have hE:errQ s.data.toList=match shapeQ s.data.toList with|none=>3|some (_,n,d,sl)=>if maxD < Lib.nDigits n∨maxD < Lib.nDigits d then 5 else if sl&&n.gcd d != 1 then 3 else 0:=rfl
 have hV:valQ s.data.toList=match shapeQ s.data.toList with|none=>0|some (m,n,d,_)=>mkQ m n d:=rfl
 have hS:shapeQ s.data.toList=if intOk (cutQ s.data.toList).1 then match (cutQ s.data.toList).2 with|none=>some ((intP (cutQ s.data.toList).1).1,dv (intP (cutQ s.data.toList).1).2,1,false)|some d=>if (intP (cutQ s.data.toList).1).2 != [48]&&(NForm d&&(d != [48]&&d != [49])) then some ((intP (cutQ s.data.toList).1).1,dv (intP (cutQ s.data.toList).1).2,dv d,true) else none else none:=rfl
 have hTS:∀ m n d sl,shapeQ s.data.toList=some (m,n,d,sl)→(m=true→n≠0)∧d≠0:=fun m n d sl h=>⟨(text_of_shape h).2.1,(text_of_shape h).2.2.1⟩
 generalize cutQ s.data.toList=c at hex hcase hle1 hle2 hS
 obtain ⟨la,ob⟩:=c
 dsimp only at hex hcase hle1 hle2 hS
 have hip:intP (s.extract 0 k).data.toList=((intP la).1,(intP la).2):=by rw [hex]
 have hile:=intP_le la
 have hige:=intP_ge la
 have hkl:k=la.length:=by rw [← hex,extract_list,List.length_drop,List.length_take,← size_list];omega
 have hokf:intOk la=true→NForm (intP la).2=true:=fun h=>by
  unfold intOk at h
  simp only [Bool.and_eq_true] at h
  exact h.1
 generalize hm:(intP la).1=m at *
 generalize hl:(intP la).2=ln at *
 have err:∀ k:Nat,k≠0→errQ s.data.toList=k→Calls Tryz.prog 155 #[.string s] w (fun e w'=>∃ v,v=zV∧e=.returned (.tuple #[v,.int .i64 (k:Int)])∧Below w.heap.size w w') →
   Calls Tryz.prog 155 #[.string s] w fun e w'=>∃ v,e=.returned (.tuple #[v,.int .i64 (errQ s.data.toList:Int)])∧(errQ s.data.toList=0→IsQ w' v (valQ s.data.toList))∧(errQ s.data.toList≠0→v=zV)∧Below w.heap.size w w':=fun k hk he h=>by
  rw [he]
  exact h.mono fun e w' ⟨v,hz,h1,h2⟩=>⟨v,h1,fun h0=>absurd h0 hk,fun _=>hz,h2⟩
 have good:∀ (n d:Nat) (sl:Bool),shapeQ s.data.toList=some (m,n,d,sl)→errQ s.data.toList=0→n.gcd d=1→Calls Tryz.prog 155 #[.string s] w (fun e w'=>∃ v,e=.returned (.tuple #[v,.int .i64 0])∧IsPartsI w' v m n d∧Below w.heap.size w w') →
   Calls Tryz.prog 155 #[.string s] w fun e w'=>∃ v,e=.returned (.tuple #[v,.int .i64 (errQ s.data.toList:Int)])∧(errQ s.data.toList=0→IsQ w' v (valQ s.data.toList))∧(errQ s.data.toList≠0→v=zV)∧Below w.heap.size w w':=fun n d sl hs he hg h=>by
  rw [he]
  refine h.mono fun e w' ⟨v,h1,h2,h3⟩=>⟨v,h1,fun _=>?_,fun h=>absurd rfl h,h3⟩
  rw [hV,hs]
  obtain ⟨t1,t2⟩:=hTS _ _ _ _ hs
  exact isQ_low t2 hg t1 h2
 have hsz:∀ l:List UInt8,(⟨l.toArray⟩:ByteArray).size=l.length:=fun l=>List.size_toArray
 have htl:∀ l:List UInt8,(⟨l.toArray⟩:ByteArray).toList=l:=fun l=>by rw [Lib.toList_data]
 have hN:(⟨ln.toArray⟩:ByteArray).size≤9223372036854775807:=by rw [hsz];omega
 by_cases hok:intOk la=true
 ·have hnf:=hokf hok
  have hok1:intOk (s.extract 0 k).data.toList=true:=by rw [hex];exact hok
  rw [if_pos hok] at hS
  have hnd:=digits_of_form hnf
  rcases hcase with ⟨hke,rfl⟩|⟨hke,rfl⟩
  ·dsimp only at hS
   have hsp:=hS
   rw [hS] at hE
   dsimp only at hE
   rw [hnd,Lib.nDigits_small (by omega:1 < 10)] at hE
   by_cases hlong:4000 < ln.length
   ·rw [if_pos (.inl hlong)] at hE
    exact err 5 (by decide) hE (read_long_none s ⟨ln.toArray⟩ k m _ w (by omega) (by omega) hk hks hip hok1 hke rfl (by rw [hsz];exact hlong))
   ·rw [if_neg (by unfold maxD;omega)] at hE
    have hl1:(toL 1).length≤30000:=Nat.le_trans (toL_len_le (show 1 < B ^ 1 by rw [B_val];omega)) (by omega)
    have hl2:(toL (dv ln)).length≤30000:=Nat.le_trans (limbs_of_form hnf (k:=500) (by omega)) (by omega)
    have hR:=read_ok_none s ⟨ln.toArray⟩ k m _ w (by omega) (by rw [hsz];omega) hk hks hip hok1 hke rfl (by rw [hsz];omega) (dg_of_form hnf) ⟨hl2,by rw [dv_one];exact hl1⟩ (Nat.le_trans (gcd_limbs hl2 (by rw [dv_one];exact hl1)) (by omega)) (by rw [dv_one];exact Nat.gcd_one_right _)
    rw [dv_one] at hR
    exact good _ _ _ hsp (by rw [hE];rfl) (Nat.gcd_one_right _) hR
  ·dsimp only [Option.getD] at hS hle2
   have hbl:=size_list (s.extract (k+1) s.size)
   have hbt:=fun x=>show ((s.extract (k+1) s.size).toList==x)=((s.extract (k+1) s.size).data.toList==x) by rw [Lib.toList_data]
   have hR2:=read_bad2 s ⟨ln.toArray⟩ k m _ w (by omega) (by omega) hk hks hip hok1 hke rfl
   have hR3:=read_bad3 s ⟨ln.toArray⟩ k m _ w (by omega) (by omega) hk hks hip hok1 hke rfl
   have hR4:=read_bad4 s ⟨ln.toArray⟩ k m _ w (by omega) (by omega) hk hks hip hok1 hke rfl
   have hR5:=read_bad5 s ⟨ln.toArray⟩ k m _ w (by omega) (by omega) hk hks hip hok1 hke rfl
   have hL1:=read_long1 s ⟨ln.toArray⟩ k m _ w (by omega) (by omega) hk hks hip hok1 hke rfl
   have hL2:=read_long2 s ⟨ln.toArray⟩ k m _ w (by omega) (by omega) hk hks hip hok1 hke rfl
   have hG:=fun (hlen:s.size≤270000) (hN:ln.length≤270000)=>read_gcd s ⟨ln.toArray⟩ k m _ w hlen (by rw [hsz];exact hN) hk hks hip hok1 hke rfl
   have hO:=fun (hlen:s.size≤270000) (hN:ln.length≤270000)=>read_ok s ⟨ln.toArray⟩ k m _ w hlen (by rw [hsz];exact hN) hk hks hip hok1 hke rfl
   have hsd:s.size≤k+1+(s.extract (k+1) s.size).data.toList.length:=by rw [extract_list,List.length_drop,List.length_take,← size_list];omega
   rw [htl] at hR2 hR3 hR4 hR5 hL1 hL2 hG hO
   rw [hbt] at hR4 hR5 hL1 hL2 hG hO
   rw [hbt] at hR5 hL1 hL2 hG hO
   rw [hsz ln] at hL1 hL2 hG hO
   rw [hbl] at hL2 hG hO
   clear hbl hbt hip hex
   dsimp only at hG hO
   generalize (s.extract (k+1) s.size).data.toList=d at *
   by_cases z0:(ln==[48])=true
   ·rw [if_neg (by simp [bne,z0])] at hS
    rw [hS] at hE
    exact err 3 (by decide) hE (hR2 z0)
   have z0:(ln==[48])=false:=by simpa using z0
   by_cases hF:NForm d=false
   ·rw [if_neg (by simp [hF])] at hS
    rw [hS] at hE
    exact err 3 (by decide) hE (hR3 z0 hF)
   have hF:NForm d=true:=by simpa using hF
   by_cases z1:(d==[48])=true
   ·rw [if_neg (by simp [bne,z1])] at hS
    rw [hS] at hE
    exact err 3 (by decide) hE (hR4 z0 hF z1)
   have z1:(d==[48])=false:=by simpa using z1
   by_cases z2:(d==[49])=true
   ·rw [if_neg (by simp [bne,z2])] at hS
    rw [hS] at hE
    exact err 3 (by decide) hE (hR5 z0 hF z1 z2)
   have z2:(d==[49])=false:=by simpa using z2
   rw [if_pos (by simp only [bne,z0,hF,z1,z2];rfl)] at hS
   have hsp:=hS
   rw [hS] at hE
   dsimp only at hE
   rw [hnd,digits_of_form hF] at hE
   by_cases hlong:4000 < ln.length
   ·rw [if_pos (.inl hlong)] at hE
    exact err 5 (by decide) hE (hL1 z0 hF z1 z2 hlong)
   by_cases hlong2:4000 < d.length
   ·rw [if_pos (.inr hlong2)] at hE
    exact err 5 (by decide) hE (hL2 z0 hF z1 z2 (by omega) hlong2)
   rw [if_neg (by unfold maxD;omega)] at hE
   have hll:(toL (dv ln)).length≤30000∧(toL (dv d)).length≤30000:=⟨Nat.le_trans (limbs_of_form hnf (k:=500) (by omega)) (by omega),Nat.le_trans (limbs_of_form hF (k:=500) (by omega)) (by omega)⟩
   have hlg:(toL ((dv ln).gcd (dv d))).length≤100000:=Nat.le_trans (gcd_limbs hll.1 hll.2) (by omega)
   by_cases hg:(dv ln).gcd (dv d)=1
   ·rw [hg] at hE
    exact good _ _ _ hsp (by rw [hE];rfl) hg (hO (by omega) (by omega) z0 hF z1 z2 (by omega) (by omega) (dg_of_form hnf) (dg_of_form hF) hll hlg hg)
   ·rw [if_pos (by simp [hg])] at hE
    exact err 3 (by decide) hE (hG (by omega) (by omega) z0 hF z1 z2 (by omega) (by omega) (dg_of_form hnf) (dg_of_form hF) hll hlg hg)
 ·rw [if_neg hok] at hS
  rw [hS] at hE
  have hok':intOk (s.extract 0 k).data.toList=false:=by rw [hex];simpa using hok
  rcases hcase with ⟨hke,rfl⟩|⟨hke,rfl⟩
  ·exact err 3 (by decide) hE (read_bad_none s ⟨ln.toArray⟩ k m _ w (by omega) (by omega) hk hks hip hok' hke rfl)
  ·exact err 3 (by decide) hE (read_bad1 s ⟨ln.toArray⟩ k m _ w (by omega) (by omega) hk hks hip hok' hke rfl)
theorem rq_any (s:ByteArray) (w:World) (hlen:s.size≤270000) :
  Calls Tryz.prog 155 #[.string s] w fun e w'=>∃ v,e=.returned (.tuple #[v,.int .i64 (errQ s.data.toList:Int)])∧(errQ s.data.toList=0→IsQ w' v (valQ s.data.toList))∧(errQ s.data.toList≠0→v=zV)∧Below w.heap.size w w':=rq_anyB s w (by omega)
def IsT (a:ByteArray) (q:Rat):Prop:=a=⟨(ratText q).toArray⟩∧Sz maxD q
theorem IsT.list {a:ByteArray} {q:Rat} (h:IsT a q):a.data.toList=ratText q:=by rw [h.1]
theorem IsT.err {a:ByteArray} {q:Rat} (h:IsT a q):errQ a.data.toList=0:=by rw [h.list];exact errQ_ok h.2 (Nat.le_refl _)
theorem IsT.val {a:ByteArray} {q:Rat} (h:IsT a q):valQ a.data.toList=q:=by rw [h.list,valQ_rat]
theorem IsT.of {a:ByteArray} (h:errQ a.data.toList=0):IsT a (valQ a.data.toList):=by
 refine ⟨?_,sz_max h⟩
 rw [← (text_of_ok h).1]
theorem IsT.eq {a b:ByteArray} {q:Rat} (h:IsT a q) (h':IsT b q):a=b:=by rw [h.1,h'.1]
theorem IsT.inj {a:ByteArray} {p q:Rat} (h:IsT a p) (h':IsT a q):p=q:=by rw [← h.val,← h'.val]
theorem ratText_le {q:Rat} {k:Nat} (h:Sz k q):(ratText q).length≤2*k+2:=by
 obtain ⟨h1,h2⟩:=(sz_iff h.pos).1 h
 unfold ratText
 simp only [List.length_append,Lib.decDigits_length]
 have e1:(if ng q then ([45]:List UInt8) else []).length≤1:=by split<;>simp
 have e2:(if q.den=1 then ([]:List UInt8) else 47::Lib.decDigits q.den).length≤k+1:=by
  split
  ·simp
  ·rw [List.length_cons,Lib.decDigits_length];omega
 omega
theorem IsT.size {a:ByteArray} {q:Rat} (h:IsT a q):a.size≤270000:=by
 rw [size_list,h.list]
 have:=ratText_le h.2
 unfold maxD at this
 omega
theorem one_T {f:Rat→List UInt8 × Nat} {a:ByteArray} {p:Rat} (ha:IsT a p):oneQ f a.data.toList=f p:=by
 unfold oneQ;rw [ha.err,ha.val];rfl
theorem two_T {f:Rat→Rat→List UInt8 × Nat} {a b:ByteArray} {p q:Rat} (ha:IsT a p) (hb:IsT b q):twoQ f a.data.toList b.data.toList=f p q:=by
 unfold twoQ;rw [ha.err,hb.err,ha.val,hb.val];rfl
theorem out_T {c:ByteArray} {r:Rat} (hc:IsT c r):resN (outQ r)=.tuple #[.string c,.int .i64 0]:=by
 rw [outQ_ok hc.2 (Nat.le_refl _),hc.1];rfl
theorem div_T {c:ByteArray} {p q:Rat} (hc:IsT c (p*q⁻¹)) (h:q≠0):resN (divQ p q)=.tuple #[.string c,.int .i64 0]:=by
 unfold divQ;rw [if_neg h,out_T hc]
theorem text_q {m:Bool} {n d:Nat} (hd:d≠0) (hg:n.gcd d=1) (hm:m=true→n≠0):ratText (mkQ m n d)=(if m then [45] else [])++Lib.decDigits n++(if d=1 then [] else 47::Lib.decDigits d):=by
 obtain ⟨h1,h2,h3⟩:=mkQ_low (m:=m) hd hg
 have:(m&&decide (n≠0))=m:=by
  cases m with
  | false=>rfl
  | true=>simpa using hm rfl
 unfold ratText
 rw [h1,h2,h3,this]
theorem sz_q {m:Bool} {n d k:Nat} (hd:d≠0) (hn:n < 10 ^ k) (hd':d < 10 ^ k):Sz k (mkQ m n d):=⟨Nat.lt_of_le_of_lt (mkQ_nm_le hd) hn,Nat.lt_of_le_of_lt (mkQ_den_le hd) hd'⟩
theorem isT_small {m:Bool} {n d:Nat} {l:List UInt8} (hd:d≠0) (hg:n.gcd d=1) (hm:m=true→n≠0) (hn:n < 10) (hd':d < 10) (hl:(if m then [45] else [])++[UInt8.ofNat (48+n)]++(if d=1 then [] else [47,UInt8.ofNat (48+d)])=l):IsT ⟨l.toArray⟩ (mkQ m n d):=by
 refine ⟨?_,(sz_q (k:=1) hd (by omega) (by omega)).mono (by decide)⟩
 rw [text_q hd hg hm,Lib.decDigits_one hn,Lib.decDigits_one hd',← hl]
theorem IsT.zero:IsT ⟨#[48]⟩ 0:=by
 have h:=isT_small (m:=false) (n:=0) (d:=1) (l:=[48]) (by decide) (by decide) (by decide) (by decide) (by decide) (by decide)
 rwa [mkQ_zero] at h
theorem IsT.one:IsT ⟨#[49]⟩ 1:=by
 have h:=isT_small (m:=false) (n:=1) (d:=1) (l:=[49]) (by decide) (by decide) (by decide) (by decide) (by decide) (by decide)
 have e:mkQ false 1 1=1:=by unfold mkQ;simp;rfl
 rwa [e] at h
section
variable {a b c:ByteArray} {p q:Rat} (w:World)
theorem addT (ha:IsT a p) (hb:IsT b q) (hc:IsT c (p+q)) (hr:Res w) :
  Calls Tryz.prog 107 #[.string a,.string b] w fun e w'=>e=.returned (.tuple #[.string c,.int .i64 0])∧Below w.heap.size w w':=by
 refine (ratAdd_any a b w ha.size hb.size hr).mono ?_
 rintro e w' ⟨rfl,h⟩
 rw [two_T ha hb,out_T hc]
 exact ⟨rfl,h⟩
theorem mulT (ha:IsT a p) (hb:IsT b q) (hc:IsT c (p*q)) (hr:Res w) :
  Calls Tryz.prog 130 #[.string a,.string b] w fun e w'=>e=.returned (.tuple #[.string c,.int .i64 0])∧Below w.heap.size w w':=by
 refine (ratMul_any a b w ha.size hb.size hr).mono ?_
 rintro e w' ⟨rfl,h⟩
 rw [two_T ha hb,out_T hc]
 exact ⟨rfl,h⟩
theorem divT (ha:IsT a p) (hb:IsT b q) (hc:IsT c (p*q⁻¹)) (h0:q≠0) (hr:Res w) :
  Calls Tryz.prog 133 #[.string a,.string b] w fun e w'=>e=.returned (.tuple #[.string c,.int .i64 0])∧Below w.heap.size w w':=by
 refine (ratDiv_any a b w ha.size hb.size hr).mono ?_
 rintro e w' ⟨rfl,h⟩
 rw [two_T ha hb,div_T hc h0]
 exact ⟨rfl,h⟩
theorem inv_pow (q:Rat) (k:Nat):(q⁻¹) ^ k=(q ^ k)⁻¹:=by
 induction k with
 | zero=>rw [Rat.pow_zero,Rat.pow_zero];decide +kernel
 | succ k ih=>rw [Rat.pow_succ,Rat.pow_succ,ih,Rat.inv_mul_rev,Rat.mul_comm]
theorem powQ_z {q:Rat} {n:Int} (h:¬ (n < 0∧q=0)):powQ q n=outQ (q ^ n):=by
 unfold powQ
 rw [if_neg h]
 congr 1
 split
 ·obtain ⟨k,rfl⟩:∃ k:Nat,n=-(k:Int):=⟨n.natAbs,by omega⟩
  rw [Rat.zpow_neg,Rat.zpow_natCast,Int.natAbs_neg,Int.natAbs_natCast,inv_pow]
 ·obtain ⟨k,rfl⟩:∃ k:Nat,n=(k:Int):=⟨n.natAbs,by omega⟩
  rw [Rat.zpow_natCast,Int.natAbs_natCast]
theorem powT {n:Int} (ha:IsT a p) (h0:¬ (n < 0∧p=0)) (hc:IsT c (p ^ n)) (h1:-9223372036854775808≤n) (h2:n≤9223372036854775807) (hr:Res w) :
  Calls Tryz.prog 135 #[.string a,.int .i64 n] w fun e w'=>e=.returned (.tuple #[.string c,.int .i64 0])∧Below w.heap.size w w':=by
 refine (ratPow_any a n w ha.size hr h1 h2).mono ?_
 rintro e w' ⟨rfl,h⟩
 rw [one_T ha,powQ_z h0,out_T hc]
 exact ⟨rfl,h⟩
end
theorem Sz.zpow {j:Nat} {q:Rat} (h:Sz j q) (n:Int):Sz (j*n.natAbs+1) (q ^ n):=by
 by_cases hn:n < 0
 ·obtain ⟨k,rfl⟩:∃ k:Nat,n=-(k:Int):=⟨n.natAbs,by omega⟩
  rw [Rat.zpow_neg,Rat.zpow_natCast,Int.natAbs_neg,Int.natAbs_natCast]
  exact (h.pow k).inv
 ·obtain ⟨k,rfl⟩:∃ k:Nat,n=(k:Int):=⟨n.natAbs,by omega⟩
  rw [Rat.zpow_natCast,Int.natAbs_natCast]
  exact h.pow k
namespace WI
theorem runs_both1:Runs 256:=runs_of Tryz.func256 (by kernel_rfl) (by kernel_rfl)
theorem runs_both2:Runs 257:=runs_of Tryz.func257 (by kernel_rfl) (by kernel_rfl)
theorem with_err (s:ByteArray) (fv:Value) (w:World) (hlen:s.size≤270000) (hr:Res w) (he:errQ s.data.toList≠0) :
  Calls Tryz.prog 241 #[.string s,fv] w fun e w'=>e=.returned (.tuple #[.int .i64 0,.int .i64 (errQ s.data.toList:Int)])∧Below w.heap.size w w':=by
 have HR:=Lib.hid hr
 have hne:((errQ s.data.toList:Int)==0)=false:=by rw [beq_eq_false_iff_ne];omega
 have HE:=Lib.hid he
 have HP:=Lib.hid (fparse_any s w hlen hr)
 clear hr he
 go_enter Tryz.func241,Tryz.ntmps241
 go_wp2_with (go_at_call 217;refine HP.out.mono ?_;rintro e w1 ⟨v,rfl,-,hz,hb⟩;obtain rfl:=hz HE.out;have HB:=Lib.hid hb;clear hb hz)
 refine bodyPost_ret (results_tmp2 rfl _ _ _) rfl ?_
 exact ⟨rfl,below_alloc HB.out _⟩
theorem with_ok (F:FuncId) (hrun:Runs F) (caps:Array Value) (rv:Value) (k:Int) (s:ByteArray) (w:World) (hlen:s.size≤270000) (hr:Res w) (he:errQ s.data.toList=0)
  (hF:∀ v w',Below w.heap.size w w'→Res w'→IsFrac w' v (valQ s.data.toList)→Calls Tryz.prog F (#[v]++caps) w' fun e w''=>e=.returned (.tuple #[rv,.int .i64 k])∧Below w'.heap.size w' w'') :
  Calls Tryz.prog 241 #[.string s,.func (.func F) #[] caps] w fun e w'=>e=.returned (.tuple #[rv,.int .i64 k])∧Below w.heap.size w w':=by
 have HR:=Lib.hid hr
 have hne:((errQ s.data.toList:Int)==0)=true:=by rw [he];rfl
 have HE:=Lib.hid he
 have HP:=Lib.hid (fparse_any s w hlen hr)
 have HF:=Lib.hid hF
 have hrn:=hrun
 unfold Runs at hrn
 clear hr he hF hrun
 go_enter Tryz.func241,Tryz.ntmps241
 go_wp2_with (go_at_call 217;refine HP.out.mono ?_;rintro e w1 ⟨v,rfl,hv,-,hb⟩;obtain ⟨bq,N,D,A,c,A',c',rfl,hn,hd,HQ⟩:=isFrac_open (hv HE.out);have HV:=Lib.hid (hv HE.out);have HB:=Lib.hid hb;clear hb hv hn hd)
 have hx:=below_alloc HB.out (.cells #[.bool bq,.slice A (toL N).length c,.slice A' (toL D).length c'] 216)
 have hx1:Below w1.heap.size w1 (w1.alloc (.cells #[.bool bq,.slice A (toL N).length c,.slice A' (toL D).length c'] 216)):=below_alloc (Below.refl _ _) _
 have HX:=Lib.hid hx
 refine (HF.out _ _ HX.out (HR.out.below HX.out) (HV.out.below hx1)).mono ?_
 rintro e w2 ⟨rfl,hb2⟩
 have HB2:=Lib.hid (HX.out.trans (hb2.mono HX.out.size))
 clear hx hx1 hb2
 go_wp2
 refine bodyPost_ret (results_tmp2 rfl _ _ _) rfl ?_
 exact ⟨rfl,HB2.out⟩
theorem both2_ok (F:FuncId) (hrun:Runs F) (rv:Value) (k:Int) (pf px:Nat) (q q':Rat) (v v':Value) (w:World) (hpf:Boxed w pf 225 (.func (.func F) #[] #[]))
  (hv:IsFrac w v q) (hv':IsFrac w v' q') (vs:Array Value) (hvs:v=.agg vs) (hpx:Blk w px 216 vs) (_hr:Res w)
  (hF:∀ w',Below w.heap.size w w'→Calls Tryz.prog F #[v,v'] w' fun e w''=>e=.returned (.tuple #[rv,.int .i64 k])∧Below w'.heap.size w' w'') :
  Calls Tryz.prog 257 #[v',.pointer (some ⟨pf,0,none⟩),.pointer (some ⟨px,0,none⟩)] w fun e w'=>e=.returned (.tuple #[rv,.int .i64 k])∧Below w.heap.size w w':=by
 obtain ⟨bq,N,D,A,c,A',c',rfl,hn,hd,HQ⟩:=isFrac_open hv
 obtain ⟨bq',N',D',B,d,B',d',rfl,hn',hd',HQ'⟩:=isFrac_open hv'
 obtain rfl:#[.bool bq,.slice A (toL N).length c,.slice A' (toL D).length c']=vs:=by injection hvs
 have hrn:=hrun
 unfold Runs at hrn
 have HF:=Lib.hid hF
 have HX:=Lib.hid (below_alloc (Below.refl w.heap.size w) (.cells #[.bool bq',.slice B (toL N').length d,.slice B' (toL D').length d'] 216))
 have cf:=(bx_below hpf HX.out hpf.lt).cell
 obtain ⟨x0,x1,x2⟩:=rows_of hpx HX.out hpx.lt
 clear hrun hF hn hd hn' hd' hv hv' hpf hvs hpx
 go_enter Tryz.func257,Tryz.ntmps257
 go_wp2
 refine (HF.out _ HX.out).mono ?_
 rintro e w2 ⟨rfl,hb2⟩
 have HB2:=Lib.hid (HX.out.trans (hb2.mono HX.out.size))
 clear hb2
 go_wp2
 refine bodyPost_ret (results_tmp2 rfl _ _ _) rfl ?_
 exact ⟨rfl,HB2.out⟩
section
variable (F:FuncId) (b:ByteArray) (pb pf:Nat) (q:Rat) (v:Value) (w:World)
theorem both1_err (hlen:b.size≤270000) (hpb:Boxed w pb 23 (.string b)) (hpf:Boxed w pf 225 (.func (.func F) #[] #[]))
  (hv:IsFrac w v q) (hr:Res w) (he:errQ b.data.toList≠0) :
  Calls Tryz.prog 256 #[v,.pointer (some ⟨pb,0,none⟩),.pointer (some ⟨pf,0,none⟩)] w fun e w'=>e=.returned (.tuple #[.int .i64 0,.int .i64 (errQ b.data.toList:Int)])∧Below w.heap.size w w':=by
 obtain ⟨bq,N,D,A,c,A',c',rfl,hn,hd,HQ⟩:=isFrac_open hv
 have HX:=Lib.hid (below_alloc (Below.refl w.heap.size w) (.cells #[.bool bq,.slice A (toL N).length c,.slice A' (toL D).length c'] 216))
 have cf:=(bx_below hpf HX.out hpf.lt).cell
 have cb:=(bx_below hpb HX.out hpb.lt).cell
 have HW:=Lib.hid (fun fv=>with_err b fv _ hlen (hr.below HX.out) he)
 clear hn hd hv hpf hpb hr he
 go_enter Tryz.func256,Tryz.ntmps256
 go_wp2_with (go_at_call 241;refine (HW.out _).mono ?_;rintro e w2 ⟨rfl,hb2⟩;have HB2:=Lib.hid (HX.out.trans (hb2.mono HX.out.size));clear hb2)
 refine bodyPost_ret (results_tmp2 rfl _ _ _) rfl ?_
 exact ⟨rfl,HB2.out⟩
theorem both1_ok (hrun:Runs F) (rv:Value) (k:Int) (hlen:b.size≤270000) (hpb:Boxed w pb 23 (.string b)) (hpf:Boxed w pf 225 (.func (.func F) #[] #[]))
  (hv:IsFrac w v q) (hr:Res w) (he:errQ b.data.toList=0)
  (hF:∀ v' w',Below w.heap.size w w'→Res w'→IsFrac w' v q→IsFrac w' v' (valQ b.data.toList)→Calls Tryz.prog F #[v,v'] w' fun e w''=>e=.returned (.tuple #[rv,.int .i64 k])∧Below w'.heap.size w' w'') :
  Calls Tryz.prog 256 #[v,.pointer (some ⟨pb,0,none⟩),.pointer (some ⟨pf,0,none⟩)] w fun e w'=>e=.returned (.tuple #[rv,.int .i64 k])∧Below w.heap.size w w':=by
 obtain ⟨bq,N,D,A,c,A',c',rfl,hn,hd,HQ⟩:=isFrac_open hv
 have HX:=Lib.hid (below_alloc (Below.refl w.heap.size w) (.cells #[.bool bq,.slice A (toL N).length c,.slice A' (toL D).length c'] 216))
 have cf:=(bx_below hpf HX.out hpf.lt).cell
 have cb:=(bx_below hpb HX.out hpb.lt).cell
 have HW:=Lib.hid (with_ok 257 runs_both2 #[.pointer (some ⟨pf,0,none⟩),.pointer (some ⟨w.heap.size,0,none⟩)] rv k b (w.alloc (.cells #[.bool bq,.slice A (toL N).length c,.slice A' (toL D).length c'] 216)) hlen (hr.below HX.out) he (fun v' w' hb' hr' hv'=>by
  have hB:Below w.heap.size w w':=HX.out.trans (hb'.mono HX.out.size)
  exact both2_ok F hrun rv k pf w.heap.size q _ _ v' w' (bx_below hpf hB hpf.lt) (hv.below hB) hv' _ rfl ((Blk.new w _ _).below hb' (by simp)) hr' (fun w2 hb2=>hF v' w2 (hB.trans (hb2.mono hB.size)) (hr'.below hb2) ((hv.below hB).below hb2) (hv'.below hb2))))
 clear hn hd hv hpf hpb hr he hF hrun
 go_enter Tryz.func256,Tryz.ntmps256
 go_wp2_with (go_at_call 241;refine HW.out.mono ?_;rintro e w2 ⟨rfl,hb2⟩;have HB2:=Lib.hid (HX.out.trans (hb2.mono HX.out.size));clear hb2)
 refine bodyPost_ret (results_tmp2 rfl _ _ _) rfl ?_
 exact ⟨rfl,HB2.out⟩
end
theorem box_both (w:World) (b:ByteArray) (fv:Value):Boxed ((w.alloc (.cells #[.string b] 23)).alloc (.cells #[fv] 225)) w.heap.size 23 (.string b) ∧
  Boxed ((w.alloc (.cells #[.string b] 23)).alloc (.cells #[fv] 225)) (w.heap.size+1) 225 fv∧Below w.heap.size w ((w.alloc (.cells #[.string b] 23)).alloc (.cells #[fv] 225)):=by
 refine ⟨(Boxed.new w _ _).alloc _,?_,below_alloc (below_alloc (Below.refl _ _) _) _⟩
 have:=Boxed.new (w.alloc (.cells #[.string b] 23)) 225 fv
 rwa [World.size_alloc] at this
theorem both_any (F:FuncId) (hrun:Runs F) (f:Rat→Rat→Value × Int) (a b:ByteArray) (w:World) (ha:a.size≤270000) (hb:b.size≤270000) (hr:Res w)
  (hF:∀ v v' w',Below w.heap.size w w'→Res w'→IsFrac w' v (valQ a.data.toList)→IsFrac w' v' (valQ b.data.toList)→errQ a.data.toList=0→errQ b.data.toList=0→Calls Tryz.prog F #[v,v'] w' fun e w''=>e=.returned (.tuple #[(f (valQ a.data.toList) (valQ b.data.toList)).1,.int .i64 (f (valQ a.data.toList) (valQ b.data.toList)).2])∧Below w'.heap.size w' w'') :
  Calls Tryz.prog 196 #[.string a,.string b,.func (.func F) #[] #[]] w fun e w' =>
   e=.returned (if errQ a.data.toList≠0 then .tuple #[.int .i64 0,.int .i64 (errQ a.data.toList:Int)] else if errQ b.data.toList≠0 then .tuple #[.int .i64 0,.int .i64 (errQ b.data.toList:Int)] else .tuple #[(f (valQ a.data.toList) (valQ b.data.toList)).1,.int .i64 (f (valQ a.data.toList) (valQ b.data.toList)).2])∧Below w.heap.size w w':=by
 obtain ⟨b4,b5,hB⟩:=box_both w b (.func (.func F) #[] #[])
 by_cases h1:errQ a.data.toList≠0
 ·rw [if_pos h1]
  have HW:=Lib.hid (fun fv=>with_err a fv _ ha (hr.below hB) h1)
  have HB:=Lib.hid hB
  clear b4 b5 hB hrun hF hr h1
  go_enter Tryz.func196,Tryz.ntmps196
  go_wp2_with (go_at_call 241;refine (HW.out _).mono ?_;rintro e w2 ⟨rfl,hb2⟩;have HB2:=Lib.hid (HB.out.trans (hb2.mono HB.out.size));clear hb2)
  refine bodyPost_ret (results_tmp2 rfl _ _ _) rfl ?_
  exact ⟨rfl,HB2.out⟩
 ·rw [if_neg h1]
  have h1:errQ a.data.toList=0:=by omega
  by_cases h2:errQ b.data.toList≠0
  ·rw [if_pos h2]
   have HW:=Lib.hid (with_ok 256 runs_both1 #[.pointer (some ⟨w.heap.size,0,none⟩),.pointer (some ⟨w.heap.size+1,0,none⟩)] (.int .i64 0) (errQ b.data.toList:Int) a _ ha (hr.below hB) h1 (fun v w' hb' hr' hv =>
    both1_err F b w.heap.size (w.heap.size+1) _ v w' hb (bx_below b4 hb' b4.lt) (bx_below b5 hb' b5.lt) hv hr' h2))
   have HB:=Lib.hid hB
   clear b4 b5 hB hrun hF hr h1 h2
   go_enter Tryz.func196,Tryz.ntmps196
   go_wp2_with (go_at_call 241;refine HW.out.mono ?_;rintro e w2 ⟨rfl,hb2⟩;have HB2:=Lib.hid (HB.out.trans (hb2.mono HB.out.size));clear hb2)
   refine bodyPost_ret (results_tmp2 rfl _ _ _) rfl ?_
   exact ⟨rfl,HB2.out⟩
  ·rw [if_neg h2]
   have h2:errQ b.data.toList=0:=by omega
   generalize hR:f (valQ a.data.toList) (valQ b.data.toList)=R at *
   obtain ⟨rv,k⟩:=R
   dsimp only at hF ⊢
   have HW:=Lib.hid (with_ok 256 runs_both1 #[.pointer (some ⟨w.heap.size,0,none⟩),.pointer (some ⟨w.heap.size+1,0,none⟩)] rv k a _ ha (hr.below hB) h1 (fun v w' hb' hr' hv =>
    both1_ok F b w.heap.size (w.heap.size+1) _ v w' hrun rv k hb (bx_below b4 hb' b4.lt) (bx_below b5 hb' b5.lt) hv hr' h2 (fun v' w2 hb2 hr2 hv2 hv2'=>hF v v' w2 (hB.trans ((hb'.mono hB.size).trans (hb2.mono (Nat.le_trans hB.size hb'.size)))) hr2 hv2 hv2' h1 h2)))
   have HB:=Lib.hid hB
   clear b4 b5 hB hrun hF hr h1 h2 hR
   go_enter Tryz.func196,Tryz.ntmps196
   go_wp2_with (go_at_call 241;refine HW.out.mono ?_;rintro e w2 ⟨rfl,hb2⟩;have HB2:=Lib.hid (HB.out.trans (hb2.mono HB.out.size));clear hb2)
   refine bodyPost_ret (results_tmp2 rfl _ _ _) rfl ?_
   exact ⟨rfl,HB2.out⟩
end WI
end Go.Proofs.YtigapglmipmbeaaGreatDoor
namespace Go.Proofs.YtigapglmipmbeaaGreatDoor
open Lim
def cmpQ (p q:Rat):Int:=if p < q then -1 else if p=q then 0 else 1
theorem cmpQ_le (p q:Rat):cmpQ p q≤0↔p≤q:=by
 unfold cmpQ
 by_cases h:p < q
 ·rw [if_pos h];exact ⟨fun _=>Rat.le_of_lt h,fun _=>by omega⟩
 ·rw [if_neg h]
  by_cases h2:p=q
  ·rw [if_pos h2];subst h2;exact ⟨fun _=>Rat.le_refl,fun _=>by omega⟩
  ·rw [if_neg h2];exact ⟨fun h=>absurd h (by omega),fun h3=>absurd (Rat.lt_of_le_of_ne h3 h2) h⟩
theorem cmpQ_lt (p q:Rat):cmpQ p q < 0↔p < q:=by
 unfold cmpQ
 by_cases h:p < q
 ·rw [if_pos h];exact ⟨fun _=>h,fun _=>by omega⟩
 ·rw [if_neg h];split<;>exact ⟨fun h=>absurd h (by omega),fun h3=>absurd h3 h⟩
theorem cmpQ_swap (p q:Rat):cmpQ q p=- cmpQ p q:=by
 unfold cmpQ
 by_cases h:p < q
 ·rw [if_pos h,if_neg (fun h2=>Rat.not_le.2 h (Rat.le_of_lt h2)),if_neg (fun e=>by subst e;exact Rat.lt_irrefl h)];rfl
 ·by_cases h2:p=q
  ·subst h2;rw [if_neg h,if_pos rfl];rfl
  ·have h3:q < p:=by
    have:=Rat.not_lt.1 h
    exact Rat.lt_of_le_of_ne this (fun e=>h2 e.symm)
   rw [if_pos h3,if_neg h,if_neg h2]
theorem cmpQ_cases (p q:Rat):cmpQ p q=-1∨cmpQ p q=0∨cmpQ p q=1:=by
 unfold cmpQ
 split
 ·exact .inl rfl
 ·split
  ·exact .inr (.inl rfl)
  ·exact .inr (.inr rfl)
theorem cmpQ_cross (p q:Rat):cmpQ p q=if p.num*q.den < q.num*p.den then -1 else if q.num*p.den < p.num*q.den then 1 else 0:=by
 unfold cmpQ
 by_cases h:p < q
 ·rw [if_pos h,if_pos ((Rat.lt_iff p q).1 h)]
 ·rw [if_neg h,if_neg (fun h2=>h ((Rat.lt_iff p q).2 h2))]
  by_cases h2:p=q
  ·subst h2;rw [if_pos rfl,if_neg (Int.lt_irrefl _)]
  ·rw [if_neg h2,if_pos ((Rat.lt_iff q p).1 (Rat.lt_of_le_of_ne (Rat.not_lt.1 h) (fun e=>h2 e.symm)))]
theorem sgQ_num (q:Rat):sgQ q=if q.num < 0 then -1 else if q.num=0 then 0 else 1:=by
 unfold sgQ nm ng
 by_cases h:q.num=0
 ·simp [h]
 ·have h1:q.num.natAbs≠0:=by omega
  rw [if_neg h1,if_neg h]
  by_cases h2:q.num < 0
  ·simp [h2]
  ·simp [h2]
theorem cross_sign (p:Rat) {d:Nat} (hd:0 < d):(p.num < 0↔p.num*(d:Int) < 0)∧(p.num=0↔p.num*(d:Int)=0)∧(0 < p.num↔0 < p.num*(d:Int)):=by
 have hd':(0:Int) < (d:Int):=by omega
 rcases Int.lt_trichotomy p.num 0 with h|h|h
 ·have:=Int.mul_neg_of_neg_of_pos h hd'
  omega
 ·rw [h,Int.zero_mul];omega
 ·have:=Int.mul_pos h hd'
  omega
theorem cmp_signs {p q:Rat} (h:sgQ p≠sgQ q):max (-1) (min 1 (sgQ p - sgQ q))=cmpQ p q:=by
 rw [cmpQ_cross]
 rw [sgQ_num,sgQ_num] at *
 obtain ⟨a1,a2,a3⟩:=cross_sign p (den_pos q)
 obtain ⟨b1,b2,b3⟩:=cross_sign q (den_pos p)
 generalize p.num*(q.den:Int)=X at *
 generalize q.num*(p.den:Int)=Y at *
 split at h<;>split at h<;>(try split at h)<;>(try split at h)<;>(try split)<;>(try split)<;>omega
theorem cmp_pos {p q:Rat} (h:sgQ p=sgQ q) (hn:ng p=false):sgn (nm p*q.den) (nm q*p.den)=cmpQ p q:=by
 have hq:ng q=false:=by
  rw [sgQ_num,sgQ_num] at h
  unfold ng at *
  have:=of_decide_eq_false hn
  apply decide_eq_false
  intro hq
  rw [if_neg this,if_pos hq] at h
  split at h<;>cases h
 rw [cmpQ_cross,num_of p,num_of q,hn,hq]
 simp only [Bool.false_eq_true,if_false]
 unfold sgn
 rw [← Int.natCast_mul,← Int.natCast_mul]
 generalize nm p*q.den=X
 generalize nm q*p.den=Y
 by_cases h1:X < Y
 ·rw [if_pos h1,if_pos (by omega)]
 ·rw [if_neg h1,if_neg (show ¬ ((X:Int) < (Y:Int)) by omega)]
  by_cases h2:Y < X
  ·rw [if_pos h2,if_pos (by omega)]
  ·rw [if_neg h2,if_neg (by omega)]
theorem cmp_neg {p q:Rat} (h:sgQ p=sgQ q) (hn:ng p=true):-sgn (nm p*q.den) (nm q*p.den)=cmpQ p q:=by
 have hq:ng q=true:=by
  rw [sgQ_num,sgQ_num] at h
  unfold ng at *
  have:=of_decide_eq_true hn
  apply decide_eq_true
  rw [if_pos this] at h
  split at h
  ·assumption
  ·split at h<;>cases h
 rw [cmpQ_cross,num_of p,num_of q,hn,hq]
 simp only [if_true]
 unfold sgn
 rw [Int.neg_mul,Int.neg_mul,← Int.natCast_mul,← Int.natCast_mul]
 generalize nm p*q.den=X
 generalize nm q*p.den=Y
 by_cases h1:X < Y
 ·rw [if_pos h1,if_neg (by omega),if_pos (by omega)];rfl
 ·rw [if_neg h1]
  by_cases h2:Y < X
  ·rw [if_pos h2,if_pos (by omega)]
  ·rw [if_neg h2,if_neg (by omega),if_neg (by omega)];rfl
end Go.Proofs.YtigapglmipmbeaaGreatDoor
namespace Go.Proofs.YtigapglmipmbeaaGreatDoor
open Go.RowKit Go.Shelf
open Lim
attribute [local go_sem] Oper.semAt_some
theorem box2_blk (w:World) (m vn vd m' vn' vd':Value):Blk ((w.alloc (.cells #[m,vn,vd] 216)).alloc (.cells #[m',vn',vd'] 216)) w.heap.size 216 #[m,vn,vd] ∧
  Blk ((w.alloc (.cells #[m,vn,vd] 216)).alloc (.cells #[m',vn',vd'] 216)) (w.heap.size+1) 216 #[m',vn',vd'] ∧
  Below w.heap.size w ((w.alloc (.cells #[m,vn,vd] 216)).alloc (.cells #[m',vn',vd'] 216))∧((w.alloc (.cells #[m,vn,vd] 216)).alloc (.cells #[m',vn',vd'] 216)).heap.size=w.heap.size+2:=by
 refine ⟨(Blk.new w _ _).alloc _,?_,((Below.refl _ _).alloc (Nat.le_refl _) _).alloc (by simp) _,by simp⟩
 have:=Blk.new (w.alloc (.cells #[m,vn,vd] 216)) 216 #[m',vn',vd']
 rwa [World.size_alloc] at this
theorem sgQ_bound (q:Rat):-1≤sgQ q∧sgQ q≤1:=by
 unfold sgQ
 split
 ·omega
 ·split<;>omega
theorem sgn_bound (x y:Nat):-1≤sgn x y∧sgn x y≤1:=by
 unfold sgn
 split
 ·omega
 ·split<;>omega
theorem clamp_id {c:Int} (h:-1≤c∧c≤1):max (-1) (min 1 c)=c:=by omega
theorem fcmp_ne (p q:Rat) (v v':Value) (w:World) (h:IsFrac w v p) (h':IsFrac w v' q) (l1:(toL (nm p)).length≤10000) (_l2:(toL p.den).length≤10000) (_l3:(toL (nm q)).length≤10000) (l4:(toL q.den).length≤10000) (hne:sgQ p≠sgQ q) :
  Calls Tryz.prog 198 #[v,v'] w fun e w'=>∃ c:Int,e=.returned (.int .i64 c)∧max (-1) (min 1 c)=cmpQ p q∧Below w.heap.size w w':=by
 have HV:=Lib.hid h
 have HV':=Lib.hid h'
 have HE:=Lib.hid (cmp_signs hne)
 have hxy:(sgQ p==sgQ q)=false:=by rw [beq_eq_false_iff_ne];exact hne
 obtain ⟨bx1,bx2⟩:=sgQ_bound p
 obtain ⟨by1,by2⟩:=sgQ_bound q
 clear hne
 obtain ⟨b,N,D,An,cn,Ad,cd,rfl,hn,hd,HP⟩:=isFrac_open h
 obtain ⟨b',N',D',An',cn',Ad',cd',rfl,hn',hd',HQ⟩:=isFrac_open h'
 obtain ⟨e1,e2,e3⟩:=HP.out
 obtain ⟨f1,f2,f3⟩:=HQ.out
 rw [e2] at l1
 rw [f3] at l4
 have HN:=Lib.hid hn
 have HD:=Lib.hid hd
 have HN':=Lib.hid hn'
 have HD':=Lib.hid hd'
 have HI:=Lib.hid (And.intro (rfl:sgQ p=sgQ p) (rfl:sgQ q=sgQ q))
 clear hn hd hn' hd' h h' e1 e2 e3 f1 f2 f3
 have lx:=Nat.le_trans (toL_mul_len N D') (show _≤20000 by omega)
 generalize hgx:sgQ p=x at hxy bx1 bx2 HE
 generalize hgy:sgQ q=y at hxy by1 by2 HE
 have HGX:=Lib.hid hgx
 have HGY:=Lib.hid hgy
 clear hgx hgy HI
 refine (callsIn_wide (n:=3)).1 ?_
 have h1:1≤3:=by omega
 have hmx:Tryz.prog.follows .mixedOrders=true:=by kernel_rfl
 refine callsIn_of_wp Tryz.func198 rfl trivial ?_ rfl
 simp only [Tryz.ntmps198,List.size_toArray,List.length_cons,List.length_nil,Nat.reduceAdd,Nat.reduceSub,Array.replicate_succ,Array.replicate_zero,List.push_toArray,List.append_toArray,List.nil_append,List.cons_append]
 gi_upto_region 1 with fail
 obtain ⟨b0,b1,hB,hs⟩:=box2_blk w (.bool b) (.slice An (toL N).length cn) (.slice Ad (toL D).length cd) (.bool b') (.slice An' (toL N').length cn') (.slice Ad' (toL D').length cd')
 generalize (w.alloc (.cells #[.bool b,.slice An (toL N).length cn,.slice Ad (toL D).length cd] 216)).alloc (.cells #[.bool b',.slice An' (toL N').length cn',.slice Ad' (toL D').length cd'] 216)=W at *
 obtain ⟨x0,x1,x2⟩:=same_cells (S:=fun k=>k < W.heap.size) b0 (by omega)
 obtain ⟨y0,y1,y2⟩:=same_cells (S:=fun k=>k < W.heap.size) b1 (by omega)
 have HB:=Lib.hid (below_drew hB)
 have HS:=Lib.hid hs
 have P0:=Lib.hid b0
 have P1:=Lib.hid b1
 clear b0 b1 hB hs
 refine wpIn_stage (IsSame W (fun k=>k < W.heap.size)) [0,2] [] hmx (by kernel_rfl) (isSame_of fun _ _=>rfl) ?_
 change wpStage _ _ _ _ _ _ _ _ (4+2) _ _ _
 refine stage_reads [0,2] 4 _ _ (by kernel_rfl) ?_
 change wpQuietIn _ _ _ _ (fun W'=>∃ x:SameAt W (fun k=>k < W.heap.size),W'=x.W) _ _ _
 simp only [pick_cons,pick_nil,List.getElem?_cons_zero,List.getElem?_cons_succ,Option.elim_some]
 repeat (gi_big_quiet_step (fail))
 refine wpQuietIn_nil ?_
 refine stage_one 1 (by kernel_rfl) rfl ?_
 gi_wp2
 refine ⟨trivial,?_⟩
 refine (callsIn_wide.2 (sign_any p _ W.drew (HV.out.below HB.out))).mono ?_
 rintro e w3 ⟨rfl,hb3⟩
 rw [HGX.out]
 have hB3:Below W.heap.size W w3:=below_undrew hb3
 have HB3:=Lib.hid hB3
 clear hb3 hB3
 gi_wp2
 refine stage_post (isSame_below HB3.out (fun k hk=>hk)) ?_
 refine stage_one 3 (by kernel_rfl) rfl ?_
 gi_wp2
 refine ⟨trivial,?_⟩
 refine (callsIn_wide.2 (sign_any q _ w3 (HV'.out.below (HB.out.trans ((below_drew3 HB3.out).mono HB.out.size))))).mono ?_
 rintro e w4 ⟨rfl,hb4⟩
 rw [HGY.out]
 have hB4:Below W.heap.size W w4:=HB3.out.trans (hb4.mono HB3.out.size)
 have HB4:=Lib.hid hB4
 clear hb4 hB4
 gi_wp2
 refine stage_post (isSame_below HB4.out (fun k hk=>hk)) ?_
 refine stage_one 4 (by kernel_rfl) rfl ?_
 gi_wp2
 refine stage_post (isSame_below HB4.out (fun k hk=>hk)) ?_
 refine stage_one 5 (by kernel_rfl) rfl ?_
 gi_wp2
 refine stage_post (isSame_below HB4.out (fun k hk=>hk)) ?_
 refine stage_done (by kernel_rfl) ?_
 clear x0 x1 x2 y0 y1 y2
 have hsz:=HS.out
 obtain ⟨x0,x1,x2⟩:=rows3 (P0.out.below HB4.out (by omega))
 obtain ⟨y0,y1,y2⟩:=rows3 (P1.out.below HB4.out (by omega))
 clear hsz
 gi_wp2
 refine bodyPost_ret (results_tmp rfl _ _ _) rfl ?_
 exact ⟨_,rfl,HE.out,HB.out.trans ((below_drew3 HB4.out).mono HB.out.size)⟩
theorem fcmp_pos (p q:Rat) (v v':Value) (w:World) (h:IsFrac w v p) (h':IsFrac w v' q) (l1:(toL (nm p)).length≤10000) (l2:(toL p.den).length≤10000) (l3:(toL (nm q)).length≤10000) (l4:(toL q.den).length≤10000) (heq:sgQ p=sgQ q) (hm:ng p=false) :
  Calls Tryz.prog 198 #[v,v'] w fun e w'=>∃ c:Int,e=.returned (.int .i64 c)∧max (-1) (min 1 c)=cmpQ p q∧Below w.heap.size w w':=by
 have HV:=Lib.hid h
 have HV':=Lib.hid h'
 have HE:=Lib.hid (cmp_pos heq hm)
 have hxy:(sgQ p==sgQ q)=true:=by rw [beq_iff_eq];exact heq
 clear heq
 obtain ⟨b,N,D,An,cn,Ad,cd,rfl,hn,hd,HP⟩:=isFrac_open h
 obtain ⟨b',N',D',An',cn',Ad',cd',rfl,hn',hd',HQ⟩:=isFrac_open h'
 obtain ⟨e1,e2,e3⟩:=HP.out
 obtain ⟨f1,f2,f3⟩:=HQ.out
 rw [e2] at l1
 rw [e3] at l2
 rw [f2] at l3
 rw [f3] at l4
 have HN:=Lib.hid hn
 have HD:=Lib.hid hd
 have HN':=Lib.hid hn'
 have HD':=Lib.hid hd'
 obtain rfl:b=false:=e1.symm.trans hm
 have hz:=sgn_bound (N*D') (N'*D)
 rw [e2,e3,f2,f3] at HE
 clear hm
 clear hn hd hn' hd' h h' e1 e2 e3 f1 f2 f3
 have lx:=Nat.le_trans (toL_mul_len N D') (show _≤20000 by omega)
 generalize hgx:sgQ p=x at hxy
 generalize hgy:sgQ q=y at hxy
 have HGX:=Lib.hid hgx
 have HGY:=Lib.hid hgy
 clear hgx hgy
 refine (callsIn_wide (n:=3)).1 ?_
 have h1:1≤3:=by omega
 have hmx:Tryz.prog.follows .mixedOrders=true:=by kernel_rfl
 refine callsIn_of_wp Tryz.func198 rfl trivial ?_ rfl
 simp only [Tryz.ntmps198,List.size_toArray,List.length_cons,List.length_nil,Nat.reduceAdd,Nat.reduceSub,Array.replicate_succ,Array.replicate_zero,List.push_toArray,List.append_toArray,List.nil_append,List.cons_append]
 gi_upto_region 1 with fail
 obtain ⟨b0,b1,hB,hs⟩:=box2_blk w (.bool false) (.slice An (toL N).length cn) (.slice Ad (toL D).length cd) (.bool b') (.slice An' (toL N').length cn') (.slice Ad' (toL D').length cd')
 generalize (w.alloc (.cells #[.bool false,.slice An (toL N).length cn,.slice Ad (toL D).length cd] 216)).alloc (.cells #[.bool b',.slice An' (toL N').length cn',.slice Ad' (toL D').length cd'] 216)=W at *
 obtain ⟨x0,x1,x2⟩:=same_cells (S:=fun k=>k < W.heap.size) b0 (by omega)
 obtain ⟨y0,y1,y2⟩:=same_cells (S:=fun k=>k < W.heap.size) b1 (by omega)
 have HB:=Lib.hid (below_drew hB)
 have HS:=Lib.hid hs
 have P0:=Lib.hid b0
 have P1:=Lib.hid b1
 clear b0 b1 hB hs
 refine wpIn_stage (IsSame W (fun k=>k < W.heap.size)) [0,2] [] hmx (by kernel_rfl) (isSame_of fun _ _=>rfl) ?_
 change wpStage _ _ _ _ _ _ _ _ (4+2) _ _ _
 refine stage_reads [0,2] 4 _ _ (by kernel_rfl) ?_
 change wpQuietIn _ _ _ _ (fun W'=>∃ x:SameAt W (fun k=>k < W.heap.size),W'=x.W) _ _ _
 simp only [pick_cons,pick_nil,List.getElem?_cons_zero,List.getElem?_cons_succ,Option.elim_some]
 repeat (gi_big_quiet_step (fail))
 refine wpQuietIn_nil ?_
 refine stage_one 1 (by kernel_rfl) rfl ?_
 gi_wp2
 refine ⟨trivial,?_⟩
 refine (callsIn_wide.2 (sign_any p _ W.drew (HV.out.below HB.out))).mono ?_
 rintro e w3 ⟨rfl,hb3⟩
 rw [HGX.out]
 have hB3:Below W.heap.size W w3:=below_undrew hb3
 have HB3:=Lib.hid hB3
 clear hb3 hB3
 gi_wp2
 refine stage_post (isSame_below HB3.out (fun k hk=>hk)) ?_
 refine stage_one 3 (by kernel_rfl) rfl ?_
 gi_wp2
 refine ⟨trivial,?_⟩
 refine (callsIn_wide.2 (sign_any q _ w3 (HV'.out.below (HB.out.trans ((below_drew3 HB3.out).mono HB.out.size))))).mono ?_
 rintro e w4 ⟨rfl,hb4⟩
 rw [HGY.out]
 have hB4:Below W.heap.size W w4:=HB3.out.trans (hb4.mono HB3.out.size)
 have HB4:=Lib.hid hB4
 clear hb4 hB4
 gi_wp2
 refine stage_post (isSame_below HB4.out (fun k hk=>hk)) ?_
 refine stage_one 4 (by kernel_rfl) rfl ?_
 gi_wp2
 refine stage_post (isSame_below HB4.out (fun k hk=>hk)) ?_
 refine stage_one 5 (by kernel_rfl) rfl ?_
 gi_wp2
 refine stage_post (isSame_below HB4.out (fun k hk=>hk)) ?_
 refine stage_done (by kernel_rfl) ?_
 clear x0 x1 x2 y0 y1 y2
 have hsz:=HS.out
 obtain ⟨x0,x1,x2⟩:=rows3 (P0.out.below HB4.out (by omega))
 obtain ⟨y0,y1,y2⟩:=rows3 (P1.out.below HB4.out (by omega))
 clear hsz
 have Q0:=Lib.hid (P0.out.below HB4.out (by have:=HS.out;omega))
 have Q1:=Lib.hid (P1.out.below HB4.out (by have:=HS.out;omega))
 have h42:=HB4.out.size
 gi_upto_region 4 with fail
 clear x0 x1 x2 y0 y1 y2
 have hsz:=HS.out
 obtain ⟨x0,x1,x2⟩:=same_cells (S:=fun k=>k < w4.heap.size) Q0.out (by omega)
 obtain ⟨y0,y1,y2⟩:=same_cells (S:=fun k=>k < w4.heap.size) Q1.out (by omega)
 clear hsz
 have HB40:=Lib.hid (below_drew (HB.out.trans ((below_drew3 HB4.out).mono HB.out.size)))
 refine wpIn_stage (IsSame w4 (fun k=>k < w4.heap.size)) [0,1,2,3,5,6,7,8] [] hmx (by kernel_rfl) (isSame_of fun _ _=>rfl) ?_
 change wpStage _ _ _ _ _ _ _ _ (4+8) _ _ _
 refine stage_reads [0,1,2,3,5,6,7,8] 4 _ _ (by kernel_rfl) ?_
 change wpQuietIn _ _ _ _ (fun W'=>∃ x:SameAt w4 (fun k=>k < w4.heap.size),W'=x.W) _ _ _
 simp only [pick_cons,pick_nil,List.getElem?_cons_zero,List.getElem?_cons_succ,Option.elim_some]
 repeat (gi_big_quiet_step (fail))
 refine wpQuietIn_nil ?_
 refine stage_one 4 (by kernel_rfl) rfl ?_
 gi_wp2
 refine ⟨trivial,?_⟩
 refine (callsIn_wide.2 (mul_any N D' _ _ w4.drew (HN.out.below HB40.out) (HD'.out.below HB40.out) (by omega) (by omega))).mono ?_
 rintro e w5 ⟨v5,rfl,hv5,hb5⟩
 obtain ⟨A5,c5,rfl,_,_,_⟩:=id hv5
 have HV5:=Lib.hid hv5
 have hB5:Below w4.heap.size w4 w5:=below_undrew hb5
 have HB5:=Lib.hid hB5
 clear hv5 hb5 hB5
 gi_wp2
 refine stage_post (isSame_below HB5.out (fun k hk=>hk)) ?_
 refine stage_one 9 (by kernel_rfl) rfl ?_
 gi_wp2
 have HB50:=Lib.hid (HB40.out.trans ((below_drew3 HB5.out).mono HB40.out.size))
 refine ⟨trivial,?_⟩
 refine (callsIn_wide.2 (mul_any N' D _ _ w5 (HN'.out.below HB50.out) (HD.out.below HB50.out) (by omega) (by omega))).mono ?_
 rintro e w6 ⟨v6,rfl,hv6,hb6⟩
 obtain ⟨A6,c6,rfl,_,_,_⟩:=id hv6
 have HV6:=Lib.hid hv6
 have HV5:=Lib.hid (HV5.out.below hb6)
 have hB6:Below w4.heap.size w4 w6:=HB5.out.trans (hb6.mono HB5.out.size)
 have HB6:=Lib.hid hB6
 clear hv6 hb6 hB6
 gi_wp2
 refine stage_post (isSame_below HB6.out (fun k hk=>hk)) ?_
 refine stage_one 10 (by kernel_rfl) rfl ?_
 gi_wp2
 refine ⟨trivial,?_⟩
 refine (callsIn_wide.2 (cmp_any (N*D') (N'*D) _ _ w6 HV5.out HV6.out (by omega))).mono ?_
 rintro e w7 ⟨rfl,hb7⟩
 generalize hgz:sgn (N*D') (N'*D)=z at hz HE ⊢
 obtain ⟨hz1,hz2⟩:=hz
 clear hgz
 have hB7:Below w4.heap.size w4 w7:=HB6.out.trans (hb7.mono HB6.out.size)
 have HB7:=Lib.hid hB7
 clear hb7 hB7
 gi_wp2
 refine stage_post (isSame_below HB7.out (fun k hk=>hk)) ?_
 refine stage_one 11 (by kernel_rfl) rfl ?_
 gi_wp2
 refine stage_post (isSame_below HB7.out (fun k hk=>hk)) ?_
 refine stage_done (by kernel_rfl) ?_
 clear x0 x1 x2 y0 y1 y2
 obtain ⟨x0,x1,x2⟩:=rows3 (Q0.out.below HB7.out (by have:=HS.out;omega))
 gi_wp2
 refine bodyPost_ret (results_tmp rfl _ _ _) rfl ?_
 exact ⟨_,rfl,by rw [clamp_id (by omega)];exact HE.out,HB.out.trans ((below_drew3 (HB4.out.trans (HB7.out.mono h42))).mono HB.out.size)⟩
theorem fcmp_neg (p q:Rat) (v v':Value) (w:World) (h:IsFrac w v p) (h':IsFrac w v' q) (l1:(toL (nm p)).length≤10000) (l2:(toL p.den).length≤10000) (l3:(toL (nm q)).length≤10000) (l4:(toL q.den).length≤10000) (heq:sgQ p=sgQ q) (hm:ng p=true) :
  Calls Tryz.prog 198 #[v,v'] w fun e w'=>∃ c:Int,e=.returned (.int .i64 c)∧max (-1) (min 1 c)=cmpQ p q∧Below w.heap.size w w':=by
 have HV:=Lib.hid h
 have HV':=Lib.hid h'
 have HE:=Lib.hid (cmp_neg heq hm)
 have hxy:(sgQ p==sgQ q)=true:=by rw [beq_iff_eq];exact heq
 clear heq
 obtain ⟨b,N,D,An,cn,Ad,cd,rfl,hn,hd,HP⟩:=isFrac_open h
 obtain ⟨b',N',D',An',cn',Ad',cd',rfl,hn',hd',HQ⟩:=isFrac_open h'
 obtain ⟨e1,e2,e3⟩:=HP.out
 obtain ⟨f1,f2,f3⟩:=HQ.out
 rw [e2] at l1
 rw [e3] at l2
 rw [f2] at l3
 rw [f3] at l4
 have HN:=Lib.hid hn
 have HD:=Lib.hid hd
 have HN':=Lib.hid hn'
 have HD':=Lib.hid hd'
 obtain rfl:b=true:=e1.symm.trans hm
 have hz:=sgn_bound (N*D') (N'*D)
 rw [e2,e3,f2,f3] at HE
 clear hm
 clear hn hd hn' hd' h h' e1 e2 e3 f1 f2 f3
 have lx:=Nat.le_trans (toL_mul_len N D') (show _≤20000 by omega)
 generalize hgx:sgQ p=x at hxy
 generalize hgy:sgQ q=y at hxy
 have HGX:=Lib.hid hgx
 have HGY:=Lib.hid hgy
 clear hgx hgy
 refine (callsIn_wide (n:=3)).1 ?_
 have h1:1≤3:=by omega
 have hmx:Tryz.prog.follows .mixedOrders=true:=by kernel_rfl
 refine callsIn_of_wp Tryz.func198 rfl trivial ?_ rfl
 simp only [Tryz.ntmps198,List.size_toArray,List.length_cons,List.length_nil,Nat.reduceAdd,Nat.reduceSub,Array.replicate_succ,Array.replicate_zero,List.push_toArray,List.append_toArray,List.nil_append,List.cons_append]
 gi_upto_region 1 with fail
 obtain ⟨b0,b1,hB,hs⟩:=box2_blk w (.bool true) (.slice An (toL N).length cn) (.slice Ad (toL D).length cd) (.bool b') (.slice An' (toL N').length cn') (.slice Ad' (toL D').length cd')
 generalize (w.alloc (.cells #[.bool true,.slice An (toL N).length cn,.slice Ad (toL D).length cd] 216)).alloc (.cells #[.bool b',.slice An' (toL N').length cn',.slice Ad' (toL D').length cd'] 216)=W at *
 obtain ⟨x0,x1,x2⟩:=same_cells (S:=fun k=>k < W.heap.size) b0 (by omega)
 obtain ⟨y0,y1,y2⟩:=same_cells (S:=fun k=>k < W.heap.size) b1 (by omega)
 have HB:=Lib.hid (below_drew hB)
 have HS:=Lib.hid hs
 have P0:=Lib.hid b0
 have P1:=Lib.hid b1
 clear b0 b1 hB hs
 refine wpIn_stage (IsSame W (fun k=>k < W.heap.size)) [0,2] [] hmx (by kernel_rfl) (isSame_of fun _ _=>rfl) ?_
 change wpStage _ _ _ _ _ _ _ _ (4+2) _ _ _
 refine stage_reads [0,2] 4 _ _ (by kernel_rfl) ?_
 change wpQuietIn _ _ _ _ (fun W'=>∃ x:SameAt W (fun k=>k < W.heap.size),W'=x.W) _ _ _
 simp only [pick_cons,pick_nil,List.getElem?_cons_zero,List.getElem?_cons_succ,Option.elim_some]
 repeat (gi_big_quiet_step (fail))
 refine wpQuietIn_nil ?_
 refine stage_one 1 (by kernel_rfl) rfl ?_
 gi_wp2
 refine ⟨trivial,?_⟩
 refine (callsIn_wide.2 (sign_any p _ W.drew (HV.out.below HB.out))).mono ?_
 rintro e w3 ⟨rfl,hb3⟩
 rw [HGX.out]
 have hB3:Below W.heap.size W w3:=below_undrew hb3
 have HB3:=Lib.hid hB3
 clear hb3 hB3
 gi_wp2
 refine stage_post (isSame_below HB3.out (fun k hk=>hk)) ?_
 refine stage_one 3 (by kernel_rfl) rfl ?_
 gi_wp2
 refine ⟨trivial,?_⟩
 refine (callsIn_wide.2 (sign_any q _ w3 (HV'.out.below (HB.out.trans ((below_drew3 HB3.out).mono HB.out.size))))).mono ?_
 rintro e w4 ⟨rfl,hb4⟩
 rw [HGY.out]
 have hB4:Below W.heap.size W w4:=HB3.out.trans (hb4.mono HB3.out.size)
 have HB4:=Lib.hid hB4
 clear hb4 hB4
 gi_wp2
 refine stage_post (isSame_below HB4.out (fun k hk=>hk)) ?_
 refine stage_one 4 (by kernel_rfl) rfl ?_
 gi_wp2
 refine stage_post (isSame_below HB4.out (fun k hk=>hk)) ?_
 refine stage_one 5 (by kernel_rfl) rfl ?_
 gi_wp2
 refine stage_post (isSame_below HB4.out (fun k hk=>hk)) ?_
 refine stage_done (by kernel_rfl) ?_
 clear x0 x1 x2 y0 y1 y2
 have hsz:=HS.out
 obtain ⟨x0,x1,x2⟩:=rows3 (P0.out.below HB4.out (by omega))
 obtain ⟨y0,y1,y2⟩:=rows3 (P1.out.below HB4.out (by omega))
 clear hsz
 have Q0:=Lib.hid (P0.out.below HB4.out (by have:=HS.out;omega))
 have Q1:=Lib.hid (P1.out.below HB4.out (by have:=HS.out;omega))
 have h42:=HB4.out.size
 gi_upto_region 4 with fail
 clear x0 x1 x2 y0 y1 y2
 have hsz:=HS.out
 obtain ⟨x0,x1,x2⟩:=same_cells (S:=fun k=>k < w4.heap.size) Q0.out (by omega)
 obtain ⟨y0,y1,y2⟩:=same_cells (S:=fun k=>k < w4.heap.size) Q1.out (by omega)
 clear hsz
 have HB40:=Lib.hid (below_drew (HB.out.trans ((below_drew3 HB4.out).mono HB.out.size)))
 refine wpIn_stage (IsSame w4 (fun k=>k < w4.heap.size)) [0,1,2,3,5,6,7,8] [] hmx (by kernel_rfl) (isSame_of fun _ _=>rfl) ?_
 change wpStage _ _ _ _ _ _ _ _ (4+8) _ _ _
 refine stage_reads [0,1,2,3,5,6,7,8] 4 _ _ (by kernel_rfl) ?_
 change wpQuietIn _ _ _ _ (fun W'=>∃ x:SameAt w4 (fun k=>k < w4.heap.size),W'=x.W) _ _ _
 simp only [pick_cons,pick_nil,List.getElem?_cons_zero,List.getElem?_cons_succ,Option.elim_some]
 repeat (gi_big_quiet_step (fail))
 refine wpQuietIn_nil ?_
 refine stage_one 4 (by kernel_rfl) rfl ?_
 gi_wp2
 refine ⟨trivial,?_⟩
 refine (callsIn_wide.2 (mul_any N D' _ _ w4.drew (HN.out.below HB40.out) (HD'.out.below HB40.out) (by omega) (by omega))).mono ?_
 rintro e w5 ⟨v5,rfl,hv5,hb5⟩
 obtain ⟨A5,c5,rfl,_,_,_⟩:=id hv5
 have HV5:=Lib.hid hv5
 have hB5:Below w4.heap.size w4 w5:=below_undrew hb5
 have HB5:=Lib.hid hB5
 clear hv5 hb5 hB5
 gi_wp2
 refine stage_post (isSame_below HB5.out (fun k hk=>hk)) ?_
 refine stage_one 9 (by kernel_rfl) rfl ?_
 gi_wp2
 have HB50:=Lib.hid (HB40.out.trans ((below_drew3 HB5.out).mono HB40.out.size))
 refine ⟨trivial,?_⟩
 refine (callsIn_wide.2 (mul_any N' D _ _ w5 (HN'.out.below HB50.out) (HD.out.below HB50.out) (by omega) (by omega))).mono ?_
 rintro e w6 ⟨v6,rfl,hv6,hb6⟩
 obtain ⟨A6,c6,rfl,_,_,_⟩:=id hv6
 have HV6:=Lib.hid hv6
 have HV5:=Lib.hid (HV5.out.below hb6)
 have hB6:Below w4.heap.size w4 w6:=HB5.out.trans (hb6.mono HB5.out.size)
 have HB6:=Lib.hid hB6
 clear hv6 hb6 hB6
 gi_wp2
 refine stage_post (isSame_below HB6.out (fun k hk=>hk)) ?_
 refine stage_one 10 (by kernel_rfl) rfl ?_
 gi_wp2
 refine ⟨trivial,?_⟩
 refine (callsIn_wide.2 (cmp_any (N*D') (N'*D) _ _ w6 HV5.out HV6.out (by omega))).mono ?_
 rintro e w7 ⟨rfl,hb7⟩
 generalize hgz:sgn (N*D') (N'*D)=z at hz HE ⊢
 obtain ⟨hz1,hz2⟩:=hz
 clear hgz
 have hB7:Below w4.heap.size w4 w7:=HB6.out.trans (hb7.mono HB6.out.size)
 have HB7:=Lib.hid hB7
 clear hb7 hB7
 gi_wp2
 refine stage_post (isSame_below HB7.out (fun k hk=>hk)) ?_
 refine stage_one 11 (by kernel_rfl) rfl ?_
 gi_wp2
 refine stage_post (isSame_below HB7.out (fun k hk=>hk)) ?_
 refine stage_done (by kernel_rfl) ?_
 clear x0 x1 x2 y0 y1 y2
 obtain ⟨x0,x1,x2⟩:=rows3 (Q0.out.below HB7.out (by have:=HS.out;omega))
 gi_wp2
 refine bodyPost_ret (results_tmp rfl _ _ _) rfl ?_
 exact ⟨_,rfl,by rw [clamp_id (by omega)];exact HE.out,HB.out.trans ((below_drew3 (HB4.out.trans (HB7.out.mono h42))).mono HB.out.size)⟩
theorem fcmp_any (p q:Rat) (v v':Value) (w:World) (h:IsFrac w v p) (h':IsFrac w v' q) (l1:(toL (nm p)).length≤10000) (l2:(toL p.den).length≤10000) (l3:(toL (nm q)).length≤10000) (l4:(toL q.den).length≤10000) :
  Calls Tryz.prog 198 #[v,v'] w fun e w'=>∃ c:Int,e=.returned (.int .i64 c)∧max (-1) (min 1 c)=cmpQ p q∧Below w.heap.size w w':=by
 by_cases hs:sgQ p=sgQ q
 ·cases hm:ng p with
  | false=>exact fcmp_pos p q v v' w h h' l1 l2 l3 l4 hs hm
  | true=>exact fcmp_neg p q v v' w h h' l1 l2 l3 l4 hs hm
 ·exact fcmp_ne p q v v' w h h' l1 l2 l3 l4 hs
end Go.Proofs.YtigapglmipmbeaaGreatDoor
namespace Go.Proofs.YtigapglmipmbeaaGreatDoor
open Go.RowKit Go.Shelf
open Lim
def resI (x:Int × Nat):Value:=.tuple #[.int .i64 x.1,.int .i64 (x.2:Int)]
def oneI (f:Rat→Int × Nat) (a:List UInt8):Int × Nat:=if errQ a≠0 then (0,errQ a) else f (valQ a)
def twoI (f:Rat→Rat→Int × Nat) (a b:List UInt8):Int × Nat:=if errQ a≠0 then (0,errQ a) else if errQ b≠0 then (0,errQ b) else f (valQ a) (valQ b)
theorem withI_any (F:FuncId) (hrun:Runs F) (caps:Array Value) (g:Rat→Int × Nat) (a:ByteArray) (w:World) (ha:a.size≤270000) (hr:Res w)
  (hF:∀ p v w',Below w.heap.size w w'→Res w'→IsFrac w' v p→Sz maxD p→Calls Tryz.prog F (#[v]++caps) w' fun e w''=>e=.returned (resI (g p))∧Below w'.heap.size w' w'') :
  Calls Tryz.prog 241 #[.string a,.func (.func F) #[] caps] w fun e w'=>e=.returned (resI (oneI g a.data.toList))∧Below w.heap.size w w':=by
 by_cases h1:errQ a.data.toList=0
 ·unfold oneI
  rw [if_neg (by omega)]
  exact WI.with_ok F hrun caps (.int .i64 (g (valQ a.data.toList)).1) _ a w ha hr h1 (fun v w' hb hr' hv=>hF _ v w' hb hr' hv (sz_max h1))
 ·unfold oneI
  rw [if_pos h1]
  exact WI.with_err a _ w ha hr h1
theorem bothI_any (F:FuncId) (hrun:Runs F) (g:Rat→Rat→Int × Nat) (a b:ByteArray) (w:World) (ha:a.size≤270000) (hb:b.size≤270000) (hr:Res w)
  (hF:∀ p q v v' w',Res w'→IsFrac w' v p→IsFrac w' v' q→Sz maxD p→Sz maxD q→Calls Tryz.prog F #[v,v'] w' fun e w''=>e=.returned (resI (g p q))∧Below w'.heap.size w' w'') :
  Calls Tryz.prog 196 #[.string a,.string b,.func (.func F) #[] #[]] w fun e w'=>e=.returned (resI (twoI g a.data.toList b.data.toList))∧Below w.heap.size w w':=by
 refine (WI.both_any F hrun (fun p q=>(.int .i64 (g p q).1,((g p q).2:Int))) a b w ha hb hr (fun v v' w' _ hr' hv hv' h1 h2=>hF _ _ v v' w' hr' hv hv' (sz_max h1) (sz_max h2))).mono ?_
 rintro e w' ⟨rfl,hB⟩
 refine ⟨?_,hB⟩
 unfold twoI resI
 split
 ·rfl
 ·split<;>rfl
theorem runs_Sign:Runs 242:=runs_of Tryz.func242 (by kernel_rfl) (by kernel_rfl)
theorem Sign1_any (p:Rat) (v:Value) (w:World) (hv:IsFrac w v p) :
  Calls Tryz.prog 242 #[v] w fun e w'=>e=.returned (resI (sgQ p,0))∧Below w.heap.size w w':=by
 obtain ⟨bq,N,D,A,c,A',c',rfl,hn,hd,HQ⟩:=isFrac_open hv
 have HX:=Lib.hid (below_alloc (Below.refl w.heap.size w) (.cells #[.bool bq,.slice A (toL N).length c,.slice A' (toL D).length c'] 216))
 have HF:=Lib.hid (sign_any p _ _ (hv.below HX.out))
 generalize sgQ p=r at HF ⊢
 clear hv hn hd
 go_enter Tryz.func242,Tryz.ntmps242
 go_wp2_with (go_at_call 211;refine HF.out.mono ?_;rintro e w1 ⟨rfl,hb1⟩;have HB1:=Lib.hid (HX.out.trans (hb1.mono HX.out.size));clear hb1)
 refine bodyPost_ret (results_tmp2 rfl _ _ _) rfl ?_
 exact ⟨rfl,HB1.out⟩
theorem ratSign_any (a:ByteArray) (w:World) (ha:a.size≤270000) (hr:Res w) :
  Calls Tryz.prog 187 #[.string a] w fun e w'=>e=.returned (resI (oneI (fun p=>(sgQ p,0)) a.data.toList))∧Below w.heap.size w w':=by
 have HB:=Lib.hid (withI_any 242 runs_Sign #[] (fun p=>(sgQ p,0)) a w ha hr (fun p v w' _ _ hv _=>Sign1_any p v w' hv))
 generalize oneI (fun p=>(sgQ p,0)) a.data.toList=r at HB ⊢
 clear hr
 go_enter Tryz.func187,Tryz.ntmps187
 go_wp2_with (go_at_call 241;refine HB.out.mono ?_;rintro e w2 ⟨rfl,hb2⟩;have HB2:=Lib.hid hb2;clear hb2;unfold resI)
 refine bodyPost_ret (results_tmp2 rfl _ _ _) rfl ?_
 exact ⟨rfl,HB2.out⟩
theorem runs_Cmp:Runs 197:=runs_of Tryz.func197 (by kernel_rfl) (by kernel_rfl)
theorem Cmp1_any (p q:Rat) (v v':Value) (w:World) (hv:IsFrac w v p) (hv':IsFrac w v' q) (sp:Sz maxD p) (sq:Sz maxD q) :
  Calls Tryz.prog 197 #[v,v'] w fun e w'=>e=.returned (resI (cmpQ p q,0))∧Below w.heap.size w w':=by
 obtain ⟨lp,lp'⟩:=sz_limbs sp
 obtain ⟨lq,lq'⟩:=sz_limbs sq
 obtain ⟨bq,N,D,A,c,A',c',rfl,hn,hd,HQ⟩:=isFrac_open hv
 obtain ⟨bq',N',D',B,d,B',d',rfl,hn',hd',HQ'⟩:=isFrac_open hv'
 have HX:=Lib.hid (below_alloc (below_alloc (Below.refl w.heap.size w) (.cells #[.bool bq,.slice A (toL N).length c,.slice A' (toL D).length c'] 216)) (.cells #[.bool bq',.slice B (toL N').length d,.slice B' (toL D').length d'] 216))
 have HF:=Lib.hid (fcmp_any p q _ _ _ (hv.below HX.out) (hv'.below HX.out) (by omega) (by omega) (by omega) (by omega))
 generalize cmpQ p q=r at HF ⊢
 clear hv hv' hn hd hn' hd' sp sq lp lp' lq lq'
 go_enter Tryz.func197,Tryz.ntmps197
 go_wp2_with (go_at_call 198;refine HF.out.mono ?_;rintro e w1 ⟨k,rfl,hk,hb1⟩;subst hk;have HB1:=Lib.hid (HX.out.trans (hb1.mono HX.out.size));clear hb1)
 refine bodyPost_ret (results_tmp2 rfl _ _ _) rfl ?_
 exact ⟨rfl,HB1.out⟩
theorem ratCmp_any (a b:ByteArray) (w:World) (ha:a.size≤270000) (hb:b.size≤270000) (hr:Res w) :
  Calls Tryz.prog 116 #[.string a,.string b] w fun e w'=>e=.returned (resI (twoI (fun p q=>(cmpQ p q,0)) a.data.toList b.data.toList))∧Below w.heap.size w w':=by
 have HB:=Lib.hid (bothI_any 197 runs_Cmp (fun p q=>(cmpQ p q,0)) a b w ha hb hr (fun p q v v' w' _ hv hv' sp sq=>Cmp1_any p q v v' w' hv hv' sp sq))
 generalize twoI (fun p q=>(cmpQ p q,0)) a.data.toList b.data.toList=r at HB ⊢
 clear hr
 go_enter Tryz.func116,Tryz.ntmps116
 go_wp2_with (go_at_call 196;refine HB.out.mono ?_;rintro e w2 ⟨rfl,hb2⟩;have HB2:=Lib.hid hb2;clear hb2;unfold resI)
 refine bodyPost_ret (results_tmp2 rfl _ _ _) rfl ?_
 exact ⟨rfl,HB2.out⟩
def chooseQ (x:Int × Nat) (s:Int) (a b:ByteArray):ByteArray × Nat:=if x.2≠0 then (⟨#[]⟩,x.2) else if x.1*s > 0 then (b,0) else (a,0)
def resS (x:ByteArray × Nat):Value:=.tuple #[.string x.1,.int .i64 (x.2:Int)]
theorem twoI_bound (a b:List UInt8):-1≤(twoI (fun p q=>(cmpQ p q,0)) a b).1∧(twoI (fun p q=>(cmpQ p q,0)) a b).1≤1:=by
 unfold twoI
 split
 ·show (-1:Int)≤0∧(0:Int)≤1;omega
 ·split
  ·show (-1:Int)≤0∧(0:Int)≤1;omega
  ·rcases cmpQ_cases (valQ a) (valQ b) with h|h|h<;>simp [h]
theorem choose_any (a b:ByteArray) (s:Int) (w:World) (ha:a.size≤270000) (hb:b.size≤270000) (hr:Res w) (hs:s=1∨s=-1) :
  Calls Tryz.prog 207 #[.string a,.string b,.int .i64 s] w fun e w'=>e=.returned (resS (chooseQ (twoI (fun p q=>(cmpQ p q,0)) a.data.toList b.data.toList) s a b))∧Below w.heap.size w w':=by
 have HB:=Lib.hid (ratCmp_any a b w ha hb hr)
 obtain ⟨z1,z2⟩:=twoI_bound a.data.toList b.data.toList
 generalize twoI (fun p q=>(cmpQ p q,0)) a.data.toList b.data.toList=r at HB z1 z2 ⊢
 obtain ⟨k,e0⟩:=r
 dsimp only at z1 z2
 unfold resI at HB
 unfold chooseQ resS
 dsimp only at HB ⊢
 clear hr
 by_cases he:e0=0
 ·subst he
  have hks:-1≤k*s∧k*s≤1:=by rcases hs with rfl|rfl<;>omega
  rw [if_neg (by omega)]
  by_cases hp:k*s > 0
  ·rw [if_pos hp]
   have hp':decide (k*s > 0)=true:=decide_eq_true hp
   go_enter Tryz.func207,Tryz.ntmps207
   go_wp2_with (go_at_call 116;refine HB.out.mono ?_;rintro e w2 ⟨rfl,hb2⟩;have HB2:=Lib.hid hb2;clear hb2)
   refine bodyPost_ret (results_tmp2 rfl _ _ _) rfl ?_
   exact ⟨rfl,HB2.out⟩
  ·rw [if_neg hp]
   have hp':decide (k*s > 0)=false:=decide_eq_false hp
   go_enter Tryz.func207,Tryz.ntmps207
   go_wp2_with (go_at_call 116;refine HB.out.mono ?_;rintro e w2 ⟨rfl,hb2⟩;have HB2:=Lib.hid hb2;clear hb2)
   refine bodyPost_ret (results_tmp2 rfl _ _ _) rfl ?_
   exact ⟨rfl,HB2.out⟩
 ·rw [if_pos he]
  have hne:((e0:Int)==0)=false:=by rw [beq_eq_false_iff_ne];omega
  have HE:=Lib.hid he
  clear he
  go_enter Tryz.func207,Tryz.ntmps207
  go_wp2_with (go_at_call 116;refine HB.out.mono ?_;rintro e w2 ⟨rfl,hb2⟩;have HB2:=Lib.hid hb2;clear hb2)
  refine bodyPost_ret (results_tmp2 rfl _ _ _) rfl ?_
  exact ⟨rfl,HB2.out⟩
theorem ratMin_any (a b:ByteArray) (w:World) (ha:a.size≤270000) (hb:b.size≤270000) (hr:Res w) :
  Calls Tryz.prog 143 #[.string a,.string b] w fun e w'=>e=.returned (resS (chooseQ (twoI (fun p q=>(cmpQ p q,0)) a.data.toList b.data.toList) 1 a b))∧Below w.heap.size w w':=by
 have HB:=Lib.hid (choose_any a b 1 w ha hb hr (.inl rfl))
 generalize chooseQ (twoI (fun p q=>(cmpQ p q,0)) a.data.toList b.data.toList) 1 a b=r at HB ⊢
 clear hr
 go_enter Tryz.func143,Tryz.ntmps143
 go_wp2_with (go_at_call 207;refine HB.out.mono ?_;rintro e w2 ⟨rfl,hb2⟩;have HB2:=Lib.hid hb2;clear hb2;unfold resS)
 refine bodyPost_ret (results_tmp2 rfl _ _ _) rfl ?_
 exact ⟨rfl,HB2.out⟩
theorem ratMax_any (a b:ByteArray) (w:World) (ha:a.size≤270000) (hb:b.size≤270000) (hr:Res w) :
  Calls Tryz.prog 131 #[.string a,.string b] w fun e w'=>e=.returned (resS (chooseQ (twoI (fun p q=>(cmpQ p q,0)) a.data.toList b.data.toList) (-1) a b))∧Below w.heap.size w w':=by
 have HB:=Lib.hid (choose_any a b (-1) w ha hb hr (.inr rfl))
 generalize chooseQ (twoI (fun p q=>(cmpQ p q,0)) a.data.toList b.data.toList) (-1) a b=r at HB ⊢
 clear hr
 go_enter Tryz.func131,Tryz.ntmps131
 go_wp2_with (go_at_call 207;refine HB.out.mono ?_;rintro e w2 ⟨rfl,hb2⟩;have HB2:=Lib.hid hb2;clear hb2;unfold resS)
 refine bodyPost_ret (results_tmp2 rfl _ _ _) rfl ?_
 exact ⟨rfl,HB2.out⟩
end Go.Proofs.YtigapglmipmbeaaGreatDoor
namespace Go.Proofs.YtigapglmipmbeaaGreatDoor
open Lim
end Go.Proofs.YtigapglmipmbeaaGreatDoor
namespace Go.Proofs.YtigapglmipmbeaaGreatDoor
open Go.RowKit Go.Shelf
open Lim
theorem ne_toList {a b:ByteArray} {p q:Rat} (ha:IsT a p) (hb:IsT b q) (h:p≠q):(a.toList==b.toList)=false:=by
 rw [beq_eq_false_iff_ne,Lib.toList_data,Lib.toList_data]
 intro e
 have:a=b:=ByteArray.ext (Array.toList_inj.1 e)
 subst this
 exact h (ha.inj hb)
theorem two_I {f:Rat→Rat→Int × Nat} {a b:ByteArray} {p q:Rat} (ha:IsT a p) (hb:IsT b q):twoI f a.data.toList b.data.toList=f p q:=by
 unfold twoI;rw [ha.err,hb.err,ha.val,hb.val];rfl
section
variable {a b c:ByteArray} {p q:Rat} (w:World)
theorem cmpT {k:Int} (ha:IsT a p) (hb:IsT b q) (hk:cmpQ p q=k) (hr:Res w) :
  Calls Tryz.prog 116 #[.string a,.string b] w fun e w'=>e=.returned (.tuple #[.int .i64 k,.int .i64 0])∧Below w.heap.size w w':=by
 refine (ratCmp_any a b w ha.size hb.size hr).mono ?_
 rintro e w' ⟨rfl,h⟩
 rw [two_I ha hb,hk]
 exact ⟨rfl,h⟩
theorem minT (ha:IsT a p) (hb:IsT b q) (hc:c=if cmpQ p q > 0 then b else a) (hr:Res w) :
  Calls Tryz.prog 143 #[.string a,.string b] w fun e w'=>e=.returned (.tuple #[.string c,.int .i64 0])∧Below w.heap.size w w':=by
 refine (ratMin_any a b w ha.size hb.size hr).mono ?_
 rintro e w' ⟨rfl,h⟩
 refine ⟨?_,h⟩
 rw [two_I ha hb,hc]
 unfold chooseQ resS
 simp only [ne_eq,not_true_eq_false,if_false,Int.mul_one]
 split<;>rfl
theorem maxT (ha:IsT a p) (hb:IsT b q) (hc:c=if cmpQ p q < 0 then b else a) (hr:Res w) :
  Calls Tryz.prog 131 #[.string a,.string b] w fun e w'=>e=.returned (.tuple #[.string c,.int .i64 0])∧Below w.heap.size w w':=by
 refine (ratMax_any a b w ha.size hb.size hr).mono ?_
 rintro e w' ⟨rfl,h⟩
 refine ⟨?_,h⟩
 rw [two_I ha hb,hc]
 unfold chooseQ resS
 simp only [ne_eq,not_true_eq_false,if_false]
 by_cases h0:cmpQ p q < 0
 ·rw [if_pos h0,if_pos (by omega)];rfl
 ·rw [if_neg h0,if_neg (by omega)];rfl
end
def rT (q:Rat):ByteArray:=⟨(ratText q).toArray⟩
def fits (q:Rat):Bool:=!(decide (maxD < Lib.nDigits (nm q)∨maxD < Lib.nDigits q.den))
theorem fits_sz {q:Rat}:fits q=true↔Sz maxD q:=by
 rw [sz_iff (by decide)]
 unfold fits
 rw [Bool.not_eq_true',decide_eq_false_iff_not]
 omega
theorem IsT.fits {a:ByteArray} {q:Rat} (h:IsT a q):fits q=true:=fits_sz.2 h.2
theorem isT_rT {q:Rat} (h:fits q=true):IsT (rT q) q:=⟨rfl,fits_sz.1 h⟩
theorem IsT.text {a:ByteArray} {q:Rat} (h:IsT a q):a=rT q:=h.1
theorem fits_zero:fits 0=true:=IsT.zero.fits
def minQ (p q:Rat):Rat:=if cmpQ p q > 0 then q else p
def maxQ (p q:Rat):Rat:=if cmpQ p q < 0 then q else p
theorem cmpQ_gt (p q:Rat):cmpQ p q > 0↔q < p:=by
 have:=cmpQ_swap p q
 rw [← cmpQ_lt]
 omega
theorem minQ_eq (p q:Rat):minQ p q=if q < p then q else p:=by
 unfold minQ
 by_cases h:q < p
 ·rw [if_pos ((cmpQ_gt p q).2 h),if_pos h]
 ·rw [if_neg (fun h2=>h ((cmpQ_gt p q).1 h2)),if_neg h]
theorem maxQ_eq (p q:Rat):maxQ p q=if p < q then q else p:=by
 unfold maxQ
 by_cases h:p < q
 ·rw [if_pos ((cmpQ_lt p q).2 h),if_pos h]
 ·rw [if_neg (fun h2=>h ((cmpQ_lt p q).1 h2)),if_neg h]
theorem maxQ_fits {p q:Rat} (hp:fits p=true) (hq:fits q=true):fits (maxQ p q)=true:=by
 unfold maxQ;split<;>assumption
theorem minQ_le (p q:Rat):minQ p q≤p∧minQ p q≤q:=by
 rw [minQ_eq];split<;>grind
theorem le_minQ {p q r:Rat} (h1:r≤p) (h2:r≤q):r≤minQ p q:=by
 rw [minQ_eq];split<;>assumption
theorem le_maxQ (p q:Rat):p≤maxQ p q∧q≤maxQ p q:=by
 rw [maxQ_eq];split<;>grind
theorem maxQ_le {p q r:Rat}:maxQ p q≤r↔p≤r∧q≤r:=by
 rw [maxQ_eq];split<;>grind
theorem rT_min {a b:ByteArray} {p q:Rat} (ha:IsT a p) (hb:IsT b q):(if cmpQ p q > 0 then b else a)=rT (minQ p q):=by
 unfold minQ;split
 ·exact hb.text
 ·exact ha.text
theorem rT_max {a b:ByteArray} {p q:Rat} (ha:IsT a p) (hb:IsT b q):(if cmpQ p q < 0 then b else a)=rT (maxQ p q):=by
 unfold maxQ;split
 ·exact hb.text
 ·exact ha.text
def errL (f d:ByteArray):Nat :=
 if errQ f.data.toList≠0 then errQ f.data.toList else if errQ d.data.toList≠0 then errQ d.data.toList
 else if cmpQ (valQ f.data.toList) 1 < 0∨cmpQ (valQ d.data.toList) 0 < 0∨cmpQ (valQ d.data.toList) 1 > 0 then 2 else 0
abbrev LQ:=Rat × Rat
def lossT (l:LQ):Value:=.agg #[.string (rT l.1),.string (rT l.2)]
structure LossIs (f d:ByteArray) (l:LQ):Prop where
 f:IsT f l.1
 d:IsT d l.2
 one:1≤l.1
 zero:0≤l.2
 top:l.2≤1
theorem LossIs.err {f d:ByteArray} {l:LQ} (h:LossIs f d l):errL f d=0:=by
 unfold errL
 rw [if_neg (by rw [h.f.err];decide),if_neg (by rw [h.d.err];decide),h.f.val,h.d.val,if_neg]
 rw [cmpQ_lt,cmpQ_lt,cmpQ_gt]
 have:=h.one;have:=h.zero;have:=h.top
 grind
structure OkL (l:LQ):Prop where
 f:fits l.1=true
 d:fits l.2=true
 one:1≤l.1
 zero:0≤l.2
 top:l.2≤1
section
variable {fn:Func} {tmps:Array Value} {R:Ending→World→Prop} {b:Nat} {w:World}
end
theorem cell0 {w:World} {b:Nat} {t:TypeId} {v:Value} (h:Blk w b t #[v]):w.cell? ⟨b,0,none⟩=some v:=(cellrow h 0 (by simp)).1
theorem cells2 {w:World} {b:Nat} {t:TypeId} {u v:Value} (h:Blk w b t #[u,v]):w.cell? ⟨b,0,none⟩=some u∧w.cell? ⟨b,1,none⟩=some v:=⟨(cellrow h 0 (by simp)).1,(cellrow h 1 (by simp)).1⟩
theorem below_alloc2 {B:Nat} {w W:World} (h:Below B w W) (hB:B≤W.heap.size) (o:Obj):Below B w (W.alloc o):=h.alloc hB o
theorem lsize:(Tryz.prog.info? 63).map (·.size)=some 2:=by kernel_rfl
theorem run_errno {W:World} {e:Nat} {n:Int} (h:Blk W e 32 #[.int .i64 n]):(loadVar 32 ⟨e,0,none⟩).run Tryz.prog W=.ok (.int .i64 n) W:=by
 have hc:=cell0 h
 simp [go_sem,hc]
theorem load_loss {W:World} {g:Nat} {t:TypeId} {u v:Value} (h:Blk W g t #[u,v]):(loadVar 63 ⟨g,0,none⟩).run Tryz.prog W=.ok (.agg #[u,v]) W :=
 run_loadVar_row W g t 63 #[u,v] (0,0) _ h Tryz.underlying63 rfl lsize
section
variable {fn:Func} {p q u:Tmp} {tmps:Array Value} {W:World} {g e:Nat} {T:TypeId} {x:Value} {n:Int}
theorem run_cell (h:fn.results=#[.cell p T]) (hp:tmps.getD p undef=.pointer (some ⟨g,0,none⟩)) (hg:(loadVar T ⟨g,0,none⟩).run Tryz.prog W=.ok x W):(results fn tmps).run Tryz.prog W=.ok x W:=by
 have hp':tmps[p]?.getD undef=.pointer (some ⟨g,0,none⟩):=by simpa using hp
 simp only [results,h]
 simp [hp',asAddr,hg]
theorem run_cell_tmp (h:fn.results=#[.cell p T,.tmp u]) (hp:tmps.getD p undef=.pointer (some ⟨g,0,none⟩)) (hg:(loadVar T ⟨g,0,none⟩).run Tryz.prog W=.ok x W) :
  (results fn tmps).run Tryz.prog W=.ok (.tuple #[x,tmps.getD u undef]) W:=by
 rw [results_cell_tmp h,hp]
 simp only [asAddr,Sem.run_pure,Result.andThen_ok]
 rw [hg]
 rfl
end
abbrev CT:=Nat→ByteArray
def cvA (c:CT):Array Value:=#[.string (c 0),.string (c 1),.string (c 2),.string (c 3),.string (c 4),.string (c 5),.string (c 6),.string (c 7)]
def upd (c:CT) (k:Nat) (x:ByteArray):CT:=fun j=>if j=k then x else c j
theorem upd_same (c:CT) (k:Nat) (x:ByteArray):upd c k x k=x:=if_pos rfl
theorem upd_other (c:CT) {k j:Nat} (x:ByteArray) (h:j≠k):upd c k x j=c j:=if_neg h
theorem cvA_set (c:CT) {k:Nat} (hk:k < 8) (x:ByteArray):(cvA c).setIfInBounds k (.string x)=cvA (upd c k x):=by
 match k,hk with
 | 0,_=>rfl
 | 1,_=>rfl
 | 2,_=>rfl
 | 3,_=>rfl
 | 4,_=>rfl
 | 5,_=>rfl
 | 6,_=>rfl
 | 7,_=>rfl
theorem cvA_get (c:CT) {k:Nat} (hk:k < 8):(cvA c)[k]?=some (.string (c k)):=by
 match k,hk with
 | 0,_=>rfl
 | 1,_=>rfl
 | 2,_=>rfl
 | 3,_=>rfl
 | 4,_=>rfl
 | 5,_=>rfl
 | 6,_=>rfl
 | 7,_=>rfl
theorem cvA_ext {c c':CT} (h:∀ k,k < 8→c k=c' k):cvA c=cvA c':=by
 unfold cvA
 rw [h 0 (by omega),h 1 (by omega),h 2 (by omega),h 3 (by omega),h 4 (by omega),h 5 (by omega),h 6 (by omega),h 7 (by omega)]
def CBlk (W:World) (g:Nat) (c:CT):Prop:=Blk W g 59 (cvA c)
section
variable {W W':World} {g:Nat} {c:CT}
theorem CBlk.lt (h:CBlk W g c):g < W.heap.size:=Blk.lt h
theorem CBlk.new (w:World) (c:CT):CBlk (w.alloc (.cells #[.string (c 0),.string (c 1),.string (c 2),.string (c 3),.string (c 4),.string (c 5),.string (c 6),.string (c 7)] 59)) w.heap.size c:=Blk.new w _ _
theorem CBlk.alloc (h:CBlk W g c) (o:Obj):CBlk (W.alloc o) g c:=Blk.alloc h o
theorem CBlk.below {B:Nat} (h:CBlk W g c) (hb:Below B W W') (hg:g < B):CBlk W' g c:=Blk.below h hb hg
theorem CBlk.later (h:CBlk W g c) (hb:Below W.heap.size W W'):CBlk W' g c:=Blk.below h hb h.lt
theorem CBlk.cell (h:CBlk W g c) {k:Nat} (hk:k < 8):W.cell? ⟨g,k,none⟩=some (.string (c k)):=by
 rw [Blk.cell h,cvA_get c hk]
theorem CBlk.cells (h:CBlk W g c):W.cell? ⟨g,0,none⟩=some (.string (c 0))∧W.cell? ⟨g,1,none⟩=some (.string (c 1))∧W.cell? ⟨g,2,none⟩=some (.string (c 2))∧W.cell? ⟨g,3,none⟩=some (.string (c 3)) ∧
  W.cell? ⟨g,4,none⟩=some (.string (c 4))∧W.cell? ⟨g,5,none⟩=some (.string (c 5))∧W.cell? ⟨g,6,none⟩=some (.string (c 6))∧W.cell? ⟨g,7,none⟩=some (.string (c 7)) :=
 ⟨h.cell (by omega),h.cell (by omega),h.cell (by omega),h.cell (by omega),h.cell (by omega),h.cell (by omega),h.cell (by omega),h.cell (by omega)⟩
theorem CBlk.set_ (h:CBlk W g c) {k:Nat} (hk:k < 8) (x:ByteArray):CBlk (W.setCell ⟨g,k,none⟩ (.string x)) g (upd c k x):=by
 have:=Blk.set_ h k (.string x)
 rwa [cvA_set c hk] at this
theorem CBlk.frozen (h:CBlk W g c) (i:Nat):W.frozen? ⟨g,i,none⟩=false:=Blk.frozen h i
theorem csize:(Tryz.prog.info? 59).map (·.size)=some 8:=by kernel_rfl
theorem load_curve (h:CBlk W g c):(loadVar 59 ⟨g,0,none⟩).run Tryz.prog W=.ok (.agg (cvA c)) W :=
 run_loadVar_row W g 59 59 (cvA c) (0,0) _ h Tryz.underlying59 rfl csize
end
theorem index7_0 (a0 a1 a2 a3 a4 a5 a6:ByteArray) (w:World):(Instr.index 57 (.agg #[.string a0,.string a1,.string a2,.string a3,.string a4,.string a5,.string a6]) (.int .i64 0)).run Tryz.prog w=.ok (.string a0) w:=by kernel_rfl
theorem index7_1 (a0 a1 a2 a3 a4 a5 a6:ByteArray) (w:World):(Instr.index 57 (.agg #[.string a0,.string a1,.string a2,.string a3,.string a4,.string a5,.string a6]) (.int .i64 1)).run Tryz.prog w=.ok (.string a1) w:=by kernel_rfl
theorem index7_2 (a0 a1 a2 a3 a4 a5 a6:ByteArray) (w:World):(Instr.index 57 (.agg #[.string a0,.string a1,.string a2,.string a3,.string a4,.string a5,.string a6]) (.int .i64 2)).run Tryz.prog w=.ok (.string a2) w:=by kernel_rfl
theorem index7_3 (a0 a1 a2 a3 a4 a5 a6:ByteArray) (w:World):(Instr.index 57 (.agg #[.string a0,.string a1,.string a2,.string a3,.string a4,.string a5,.string a6]) (.int .i64 3)).run Tryz.prog w=.ok (.string a3) w:=by kernel_rfl
theorem index7_4 (a0 a1 a2 a3 a4 a5 a6:ByteArray) (w:World):(Instr.index 57 (.agg #[.string a0,.string a1,.string a2,.string a3,.string a4,.string a5,.string a6]) (.int .i64 4)).run Tryz.prog w=.ok (.string a4) w:=by kernel_rfl
theorem index7_5 (a0 a1 a2 a3 a4 a5 a6:ByteArray) (w:World):(Instr.index 57 (.agg #[.string a0,.string a1,.string a2,.string a3,.string a4,.string a5,.string a6]) (.int .i64 5)).run Tryz.prog w=.ok (.string a5) w:=by kernel_rfl
theorem index7_6 (a0 a1 a2 a3 a4 a5 a6:ByteArray) (w:World):(Instr.index 57 (.agg #[.string a0,.string a1,.string a2,.string a3,.string a4,.string a5,.string a6]) (.int .i64 6)).run Tryz.prog w=.ok (.string a6) w:=by kernel_rfl
theorem index7 (c:CT) {k:Nat} (hk:k < 7) (w:World):(Instr.index 57 (.agg #[.string (c 0),.string (c 1),.string (c 2),.string (c 3),.string (c 4),.string (c 5),.string (c 6)]) (.int .i64 (k:Int))).run Tryz.prog w=.ok (.string (c k)) w:=by
 match k,hk with
 | 0,_=>exact index7_0 _ _ _ _ _ _ _ w
 | 1,_=>exact index7_1 _ _ _ _ _ _ _ w
 | 2,_=>exact index7_2 _ _ _ _ _ _ _ w
 | 3,_=>exact index7_3 _ _ _ _ _ _ _ w
 | 4,_=>exact index7_4 _ _ _ _ _ _ _ w
 | 5,_=>exact index7_5 _ _ _ _ _ _ _ w
 | 6,_=>exact index7_6 _ _ _ _ _ _ _ w
def NextO (pre:List Nat) (x:Nat):Prop:=pre=List.range x∧x < 7
theorem orders_seq (F:Fence) (n:Nat) (hF:F.fn 230) (hro:F.round=none) (hn:1≤n) (g:Nat) (c:CT) :
  SeqOrd F n Tryz.prog 230 #[.pointer (some ⟨g,0,none⟩)] (fun i:Nat=>#[Value.int .i64 ((i:Int)+2),Value.string (c i)]) NextO (fun xs=>xs=List.range 7) (fun W=>CBlk W g c):=by
 intro l J Jx W hG _ _ hY h0
 refine callsIn_of_wp Tryz.func230 rfl hF ?_ hro
 simp only [Tryz.ntmps230,List.size_toArray,List.length_cons,List.length_nil,Nat.reduceAdd,Nat.reduceSub,Array.replicate_succ,Array.replicate_zero,List.push_toArray,List.append_toArray,List.nil_append,List.cons_append]
 obtain ⟨c0,c1,c2,c3,c4,c5,c6,-⟩:=(hG _ _ h0).cells
 have HY:=Lib.hid hY
 clear hG hY
 gi_wp2
 clear c0 c1 c2 c3 c4 c5 c6
 gi_loopw [7] (fun v7 wr=>∃ (k:Nat),k≤7∧v7=.int .i64 (k:Int)∧J (List.range k) wr) (fun v7 _=>7 - (intOf v7).toNat)
 case atStart=>exact ⟨0,by omega,rfl,h0⟩
 case round =>
  obtain ⟨k,hk,rfl,hJs⟩:=hrel
  clear h0
  rcases Nat.lt_or_ge k 7 with hlt|hge
  ·have hix:=index7 c hlt
   have hnx:NextO (List.range k) k:=⟨rfl,hlt⟩
   obtain ⟨fn,tmps,assign,body,hy,hR⟩:=HY.out (List.range k) k wr hJs hnx
   have hlt':(k:Int) < 7:=by omega
   gi_wp2
   refine hR.mono ?_
   rintro e W3 (⟨rfl,hJ3⟩|⟨rfl,hJx3⟩)
   ·gi_wp2
    go_roundw
    case rel=>exact ⟨k+1,by omega,by go_num,by rw [List.range_succ];exact hJ3⟩
    case measure=>simp [intOf];omega
   ·gi_wp2
    refine bodyPost_ret (results_none rfl _ _ _) rfl ?_
    exact ⟨⟨_,rfl⟩,.inr ⟨_,_,hnx,hJx3⟩⟩
  ·obtain rfl:k=7:=by omega
   gi_wp2
   go_end0
   exact ⟨⟨_,rfl⟩,.inl ⟨_,rfl,hJs⟩⟩
theorem orders_in (F:Fence) (n:Nat) (hF:F.fn 151) (hro:F.round=none) (c:CT) (w:World) :
  CallsIn F n Tryz.prog 151 #[.agg #[.string (c 0),.string (c 1),.string (c 2),.string (c 3),.string (c 4),.string (c 5),.string (c 6),.string (c 7)]] w fun e w'=>e=.returned (.func (.func 230) #[] #[.pointer (some ⟨w.heap.size,0,none⟩)]) ∧
   w'=w.alloc (.cells #[.string (c 0),.string (c 1),.string (c 2),.string (c 3),.string (c 4),.string (c 5),.string (c 6),.string (c 7)] 59):=by
 refine callsIn_of_wp Tryz.func151 rfl hF ?_ hro
 simp only [Tryz.ntmps151,List.size_toArray,List.length_cons,List.length_nil,Nat.reduceAdd,Nat.reduceSub,Array.replicate_succ,Array.replicate_zero,List.push_toArray,List.append_toArray,List.nil_append,List.cons_append]
 gi_wp2
 go_ret
 exact ⟨rfl,rfl⟩
theorem eg_orders:∀ args w,(callFunc 230 args).run Tryz.prog w=.ok (.enter 230 args) w:=enters_of Tryz.func230 (by kernel_rfl) rfl
section
variable {a b:ByteArray} {p q:Rat} (w:World)
end
end Go.Proofs.YtigapglmipmbeaaGreatDoor
