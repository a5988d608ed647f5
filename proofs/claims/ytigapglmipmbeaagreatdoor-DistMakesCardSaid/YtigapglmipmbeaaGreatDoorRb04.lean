/- Texts of natural numbers: digits, their value, the numeral of a number, limbs read and written. No program in sight. limbs.Nat.Digits and String. limbs.estimate: one limb of a quotient. limbs.Of limbs.Nat.Mul limbs.Nat.DivMod where the first number is the smaller one, or the second has one limb. limbs.Nat.DivMod: long division. limbs.Nat.Gcd, Zero, One. -/
import Derived.Test.YtigapglmipmbeaaGreatDoorRb01
import Derived.Lib.ItoaNum
import Derived.Lib.ParseIntB
import Derived.Test.YtigapglmipmbeaaGreatDoorRb03
import Derived.Lib.AppendIntMem
import Derived.Deep.CutBlock
import Derived.Sort.CutIn
set_option maxRecDepth 100000
set_option maxHeartbeats 16000000
namespace Go.Proofs.YtigapglmipmbeaaGreatDoor.Lim
open Go.Lib
def isD (b:UInt8):Bool:=decide (48≤b.toNat) && decide (b.toNat≤57)
theorem isD_iff {b:UInt8}:isD b = true↔48≤b.toNat∧b.toNat≤57:=by simp [isD]
def Dg (l:List UInt8):Prop:=∀ b∈l,isD b = true
theorem Dg.nil:Dg []:=fun _ h=>by cases h
theorem Dg.append {a b:List UInt8} (ha:Dg a) (hb:Dg b):Dg (a ++ b):=fun y hy=>by
 rcases List.mem_append.1 hy with hy | hy
 ·exact ha y hy
 ·exact hb y hy
theorem Dg.left {a b:List UInt8} (h:Dg (a ++ b)):Dg a:=fun y hy=>h y (List.mem_append_left _ hy)
theorem Dg.right {a b:List UInt8} (h:Dg (a ++ b)):Dg b:=fun y hy=>h y (List.mem_append_right _ hy)
theorem Dg.take {l:List UInt8} (h:Dg l) (k:Nat):Dg (l.take k):=fun y hy=>h y (List.mem_of_mem_take hy)
theorem Dg.drop {l:List UInt8} (h:Dg l) (k:Nat):Dg (l.drop k):=fun y hy=>h y (List.mem_of_mem_drop hy)
theorem isD_ofNat {n:Nat} (h:n < 10):isD (UInt8.ofNat (48 + n)) = true:=by
 rw [isD_iff]
 simp
 omega
theorem toNat_ofNat {n:Nat} (h:n < 10):(UInt8.ofNat (48 + n)).toNat = 48 + n:=by
 simp
 omega
theorem ofNat_toNat {b:UInt8} (h:isD b = true):UInt8.ofNat (48 + (b.toNat - 48)) = b:=by
 rw [isD_iff] at h
 rw [show 48 + (b.toNat - 48) = b.toNat by omega]
 simp
def dv (l:List UInt8):Nat:=l.foldl (fun a b=>a * 10 + (b.toNat - 48)) 0
theorem dv_from (l:List UInt8) (a:Nat):l.foldl (fun a b=>a * 10 + (b.toNat - 48)) a = a * 10 ^ l.length + dv l:=by
 induction l generalizing a with
 | nil=>simp [dv]
 | cons x r ih =>
  unfold dv
  rw [List.foldl_cons,List.foldl_cons,ih,ih,List.length_cons,Nat.pow_succ]
  simp only [Nat.zero_mul,Nat.zero_add]
  rw [Nat.add_mul,Nat.mul_assoc,Nat.mul_comm 10]
  omega
theorem dv_nil:dv [] = 0:=rfl
theorem dv_cons (b:UInt8) (l:List UInt8):dv (b :: l) = (b.toNat - 48) * 10 ^ l.length + dv l:=by
 unfold dv
 rw [List.foldl_cons,dv_from]
 simp [dv]
theorem dv_append (a b:List UInt8):dv (a ++ b) = dv a * 10 ^ b.length + dv b:=by
 unfold dv
 rw [List.foldl_append,dv_from]
 rfl
theorem dv_snoc (a:List UInt8) (b:UInt8):dv (a ++ [b]) = dv a * 10 + (b.toNat - 48):=by
 rw [dv_append,dv_cons];simp [dv_nil]
theorem dv_lt {l:List UInt8} (h:Dg l):dv l < 10 ^ l.length:=by
 induction l with
 | nil=>simp [dv]
 | cons x r ih =>
  have h1:=isD_iff.1 (h x (List.mem_cons_self ..))
  have h2:=ih (fun y hy=>h y (List.mem_cons_of_mem _ hy))
  rw [dv_cons,List.length_cons,Nat.pow_succ]
  have:(x.toNat - 48) * 10 ^ r.length≤9 * 10 ^ r.length:=Nat.mul_le_mul_right _ (by omega)
  omega
theorem dv_zeros (k:Nat) (l:List UInt8):dv (List.replicate k 48 ++ l) = dv l:=by
 induction k with
 | zero=>simp
 | succ k ih=>rw [List.replicate_succ,List.cons_append,dv_cons,ih];simp
theorem decDigits_big {n:Nat} (h:¬ n < 10):decDigits n = decDigits (n / 10) ++ [UInt8.ofNat (48 + n % 10)]:=by rw [decDigits,dif_neg h]
theorem decDigits_dg (n:Nat):Dg (decDigits n):=by
 induction n using Nat.strongRecOn with
 | _ n ih =>
  by_cases h:n < 10
  ·rw [decDigits_one h]
   intro b hb
   rw [List.mem_singleton] at hb
   subst hb
   exact isD_ofNat h
  ·rw [decDigits_big h]
   refine (ih _ (by omega)).append (fun b hb=>?_)
   rw [List.mem_singleton] at hb
   subst hb
   exact isD_ofNat (Nat.mod_lt _ (by omega))
theorem dv_decDigits (n:Nat):dv (decDigits n) = n:=by
 induction n using Nat.strongRecOn with
 | _ n ih =>
  by_cases h:n < 10
  ·rw [decDigits_one h,dv_cons,toNat_ofNat h];simp [dv_nil]
  ·rw [decDigits_big h,dv_snoc,ih _ (by omega),toNat_ofNat (Nat.mod_lt _ (by omega))]
   omega
theorem decDigits_ne (n:Nat):decDigits n≠[]:=fun e=>by
 have h1:=decDigits_length n
 rw [e,List.length_nil] at h1
 have h2:=nDigits_pos n
 omega
theorem decDigits_inj {m n:Nat} (h:decDigits m = decDigits n):m = n:=by
 have:=congrArg dv h
 rwa [dv_decDigits,dv_decDigits] at this
def padk:Nat→Nat→List UInt8
 | 0,_=>[]
 | k + 1,x=>padk k (x / 10) ++ [UInt8.ofNat (48 + x % 10)]
theorem padk_length (k x:Nat):(padk k x).length = k:=by
 induction k generalizing x with
 | zero=>rfl
 | succ k ih=>simp [padk,ih]
theorem padk_dg (k x:Nat):Dg (padk k x):=by
 induction k generalizing x with
 | zero=>exact Dg.nil
 | succ k ih =>
  refine (ih _).append (fun b hb=>?_)
  rw [List.mem_singleton] at hb
  subst hb
  exact isD_ofNat (Nat.mod_lt _ (by omega))
theorem dv_padk (k x:Nat) (h:x < 10 ^ k):dv (padk k x) = x:=by
 induction k generalizing x with
 | zero=>simp at h;subst h;rfl
 | succ k ih =>
  rw [padk,dv_snoc,ih _ (by rw [Nat.pow_succ] at h;omega),toNat_ofNat (Nat.mod_lt _ (by omega))]
  omega
theorem padk_zero (k:Nat):padk k 0 = List.replicate k 48:=by
 induction k with
 | zero=>rfl
 | succ k ih=>rw [padk,Nat.zero_div,ih,List.replicate_succ'];rfl
theorem decDigits_mul (k a x:Nat) (ha:0 < a) (hx:x < 10 ^ k):decDigits (a * 10 ^ k + x) = decDigits a ++ padk k x:=by
 induction k generalizing x with
 | zero=>simp at hx;subst hx;simp [padk]
 | succ k ih =>
  have hp:0 < 10 ^ k:=Nat.pow_pos (by omega)
  have h1:a * 10 ^ (k + 1) = a * 10 ^ k * 10:=by rw [Nat.pow_succ,Nat.mul_assoc]
  have h2:1 * 1≤a * 10 ^ k:=Nat.mul_le_mul ha hp
  rw [decDigits_big (by omega),h1,show (a * 10 ^ k * 10 + x) / 10 = a * 10 ^ k + x / 10 by omega,ih _ (by rw [Nat.pow_succ] at hx;omega),show (a * 10 ^ k * 10 + x) % 10 = x % 10 by omega,padk,List.append_assoc]
theorem padk_eq (k x:Nat) (hk:nDigits x≤k):padk k x = List.replicate (k - nDigits x) 48 ++ decDigits x:=by
 induction k generalizing x with
 | zero=>have:=nDigits_pos x;omega
 | succ k ih =>
  by_cases h:x < 10
  ·rw [padk,Nat.div_eq_of_lt h,padk_zero,nDigits_small h,decDigits_one h,Nat.mod_eq_of_lt h]
   rfl
  ·rw [padk,nDigits_big h,decDigits_big h,ih _ (by rw [nDigits_big h] at hk;omega),List.append_assoc,show k + 1 - (nDigits (x / 10) + 1) = k - nDigits (x / 10) by omega]
theorem nDigits_le {x k:Nat} (hk:0 < k) (h:x < 10 ^ k):nDigits x≤k:=by
 induction k generalizing x with
 | zero=>omega
 | succ k ih =>
  by_cases hx:x < 10
  ·rw [nDigits_small hx];omega
  ·rw [nDigits_big hx]
   have h2:x / 10 < 10 ^ k:=by rw [Nat.pow_succ] at h;omega
   have hk0:0 < k:=by
    rcases Nat.eq_zero_or_pos k with rfl | hk0
    ·simp at h2;omega
    ·exact hk0
   have:=ih hk0 h2
   omega
theorem nDigits_mono {x y:Nat} (h:x≤y):nDigits x≤nDigits y:=nDigits_le (nDigits_pos y) (Nat.lt_of_le_of_lt h (lt_pow_nDigits y))
theorem le_of_nDigits {x k:Nat} (h:nDigits x≤k):x < 10 ^ k:=Nat.lt_of_lt_of_le (lt_pow_nDigits x) (Nat.pow_le_pow_right (by omega) h)
theorem padk_dv':∀ (k:Nat) (r:List UInt8),r.length = k→Dg r→padk k (dv r) = r
 | 0,r,e,_=>by rw [List.length_eq_zero_iff.1 e];rfl
 | k + 1,r,e,hr=>by
  have hne:r≠[]:=fun h=>by rw [h] at e;simp at e
  obtain ⟨s,b,rfl⟩:∃ s b,r = s ++ [b]:=⟨_,_,(List.dropLast_concat_getLast hne).symm⟩
  have hb:=isD_iff.1 (hr b (by simp))
  have hb2:=ofNat_toNat (hr b (by simp))
  have hl:s.length = k:=by simpa using e
  rw [padk,dv_snoc,show (dv s * 10 + (b.toNat - 48)) / 10 = dv s by omega,show (dv s * 10 + (b.toNat - 48)) % 10 = b.toNat - 48 by omega,padk_dv' k s hl hr.left,hb2]
theorem padk_dv (r:List UInt8) (hr:Dg r):padk r.length (dv r) = r:=padk_dv' _ r rfl hr
theorem decDigits_dv (l:List UInt8) (h:Dg l) (hne:l≠[]) (h0:l = [48] ∨ l.head?≠some 48):decDigits (dv l) = l:=by
 rcases h0 with rfl | h0
 ·rw [dv_cons];simp [dv_nil,decDigits_one]
 ·have key:∀ (r:List UInt8) (a:UInt8),Dg r→isD a = true→a≠48→decDigits (dv (a :: r)) = a :: r:=by
   intro r a hr ha ha0
   have h1:=isD_iff.1 ha
   have hpos:0 < a.toNat - 48:=by
    rcases Nat.eq_zero_or_pos (a.toNat - 48) with e | e
    ·exfalso;apply ha0;rw [← ofNat_toNat ha,e];rfl
    ·exact e
   rw [dv_cons,decDigits_mul _ _ _ hpos (dv_lt hr),decDigits_one (by omega),ofNat_toNat ha]
   have:padk r.length (dv r) = r:=by
    exact padk_dv r hr
   rw [this]
   rfl
  cases l with
  | nil=>exact absurd rfl hne
  | cons a r =>
   exact key r a (fun y hy=>h y (List.mem_cons_of_mem _ hy)) (h a (List.mem_cons_self ..)) (by simpa using h0)
theorem head_dec (n:Nat) (hn:n≠0):(decDigits n).head?≠some 48:=by
 induction n using Nat.strongRecOn with
 | _ n ih =>
  by_cases h:n < 10
  ·rw [decDigits_one h]
   intro e
   rw [List.head?_cons,Option.some.injEq] at e
   have h2:=congrArg UInt8.toNat e
   rw [toNat_ofNat h] at h2
   have h3:(48:UInt8).toNat = 48:=rfl
   omega
  ·rw [decDigits_big h,List.head?_append]
   have h1:=ih (n / 10) (by omega) (by omega)
   cases hh:(decDigits (n / 10)).head? with
   | none=>exact absurd (List.head?_eq_none_iff.1 hh) (decDigits_ne _)
   | some b=>rw [hh] at h1;simpa using h1
def NForm (l:List UInt8):Bool:=!l.isEmpty && (l == [48] || l.head? != some 48) && l.all isD
theorem NForm_iff {l:List UInt8}:NForm l = true↔∃ n,l = decDigits n:=by
 unfold NForm
 simp only [Bool.and_eq_true,Bool.not_eq_true',List.isEmpty_eq_false_iff,Bool.or_eq_true,beq_iff_eq,bne_iff_ne,List.all_eq_true]
 constructor
 ·rintro ⟨⟨h1,h2⟩,h3⟩
  exact ⟨dv l,(decDigits_dv l h3 h1 h2).symm⟩
 ·rintro ⟨n,rfl⟩
  refine ⟨⟨decDigits_ne n,?_⟩,decDigits_dg n⟩
  by_cases h0:n = 0
  ·subst h0;exact .inl (by rw [decDigits_one (by omega)];rfl)
  ·right
   exact head_dec n h0
theorem NForm.eq {l:List UInt8} (h:NForm l = true):decDigits (dv l) = l:=by
 obtain ⟨n,rfl⟩:=NForm_iff.1 h
 rw [dv_decDigits]
theorem strip_done {l r:List UInt8} (hl:Dg l) {k:Nat} (e:l = List.replicate k 48 ++ r) (hne:r≠[]) (h:r.length = 1 ∨ r.head?≠some 48):r = decDigits (dv l):=by
 have hr:Dg r:=by rw [e] at hl;exact hl.right
 rw [e,dv_zeros]
 refine (decDigits_dv r hr hne ?_).symm
 rcases h with h | h
 ·by_cases h0:r.head? = some 48
  ·left
   obtain ⟨a,rfl⟩:=List.length_eq_one_iff.1 h
   simp at h0
   rw [h0]
  ·exact .inr h0
 ·exact .inr h
theorem B_pow (k:Nat):B ^ k = 10 ^ (9 * k):=by rw [B_val,Nat.pow_mul]
def ReadInv (s:List UInt8) (e:Nat) (L:List Nat):Prop:=Sm L∧val L = dv (s.drop e)∧(0 < e→s.length = e + 9 * L.length)
theorem ReadInv.start (s:List UInt8):ReadInv s s.length []:=⟨Sm.nil,by simp [val,dv],fun _=>by simp⟩
theorem ReadInv.step {s:List UInt8} {e:Nat} {L:List Nat} (h:ReadInv s e L) (hs:Dg s) (he:0 < e) (hle:e≤s.length) {c:Nat} (hc:c = dv ((s.take e).drop (e - 9))):ReadInv s (e - 9) (L ++ [c]):=by
 obtain ⟨h1,h2,h3⟩:=h
 have h4:=h3 he
 have hd:s.drop (e - 9) = (s.take e).drop (e - 9) ++ s.drop e:=by
  conv=>lhs;rw [← List.take_append_drop e s]
  rw [List.drop_append_of_le_length (by rw [List.length_take];omega)]
 have hlen:((s.take e).drop (e - 9)).length≤9:=by rw [List.length_drop,List.length_take];omega
 have hcB:c < B:=by
  rw [hc,B_val]
  refine Nat.lt_of_lt_of_le (dv_lt ((hs.take e).drop _)) ?_
  exact Nat.le_trans (Nat.pow_le_pow_right (by omega) hlen) (by decide)
 refine ⟨h1.snoc hcB,?_,fun hp=>by simp;omega⟩
 rw [val_snoc,h2,hd,dv_append,← hc,B_pow,List.length_drop,show s.length - e = 9 * L.length by omega,Nat.mul_comm c]
 omega
theorem ReadInv.done {s:List UInt8} {L:List Nat} (h:ReadInv s 0 L):Sm L∧val L = dv s:=⟨h.1,by have:=h.2.1;simpa using this⟩
theorem chunk_ok {l:List UInt8} (h:Dg l) (hne:l≠[]) (hl:l.length≤9):parseUintB 64 l = .ok (dv l):=by
 have key:∀ (r:List UInt8) (acc:Nat),Dg r→(acc + 1) * 10 ^ r.length≤1000000000→parseUintM (2 ^ 64 - 1) acc r = .ok (acc * 10 ^ r.length + dv r):=by
  intro r
  induction r with
  | nil=>intro acc _ _;simp [parseUintM,dv]
  | cons b r ih =>
   intro acc hr hb
   have h1:=isD_iff.1 (hr b (List.mem_cons_self ..))
   have hp:0 < 10 ^ r.length:=Nat.pow_pos (by omega)
   rw [List.length_cons,Nat.pow_succ] at hb
   have e1:(acc + 1) * (10 ^ r.length * 10) = (acc * 10 + 10) * 10 ^ r.length:=by
    rw [Nat.mul_comm (10 ^ r.length),← Nat.mul_assoc,Nat.add_mul]
   rw [e1] at hb
   have e2:acc * 10 + 10≤1000000000:=Nat.le_trans (Nat.le_mul_of_pos_right _ hp) hb
   rw [parseUintM,if_pos h1,if_neg (by omega),if_neg (by omega),ih _ (fun y hy=>hr y (List.mem_cons_of_mem _ hy)) (Nat.le_trans (Nat.mul_le_mul_right _ (by omega)) hb),dv_cons,List.length_cons,Nat.pow_succ]
   congr 1
   rw [Nat.add_mul,Nat.mul_assoc,Nat.mul_comm 10]
   omega
 have:=key l 0 h (by rw [Nat.zero_add,Nat.one_mul];exact Nat.le_trans (Nat.pow_le_pow_right (by omega) hl) (by decide))
 unfold parseUintB
 rw [if_neg hne,this]
 simp
def wr (L:List Nat) (m:Nat):List UInt8:=decDigits (val (L.drop (L.length - m)))
theorem wr_one {L:List Nat} (hne:L≠[]):wr L 1 = decDigits (L[L.length - 1]?.getD 0):=by
 unfold wr
 have hl:0 < L.length:=List.length_pos_iff.2 hne
 rw [val_drop L (L.length - 1) (by omega),show L.length - 1 + 1 = L.length by omega]
 simp [val]
theorem wr_step {L:List Nat} (hc:Can L) {m:Nat} (h1:1≤m) (hm:m < L.length):wr L (m + 1) = wr L m ++ padk 9 (L[L.length - 1 - m]?.getD 0):=by
 unfold wr
 rw [val_drop L (L.length - (m + 1)) (by omega),show L.length - (m + 1) + 1 = L.length - m by omega,show L.length - (m + 1) = L.length - 1 - m by omega]
 have hx:=hc.1.get (L.length - 1 - m)
 have hpos:0 < val (L.drop (L.length - m)):=by
  have hcd:Can (L.drop (L.length - m)):=⟨hc.1.drop _,by rw [List.getLast?_drop,if_neg (by omega)];exact hc.2⟩
  have hne:L.drop (L.length - m)≠[]:=fun e=>by
   have:=congrArg List.length e
   rw [List.length_drop] at this
   simp at this
   omega
  exact Nat.lt_of_lt_of_le (Nat.pow_pos B_pos) (hcd.ge hne)
 rw [Nat.add_comm,Nat.mul_comm,B_val,show (1000000000:Nat) = 10 ^ 9 from rfl,decDigits_mul 9 _ _ hpos (by rw [B_val] at hx;exact hx)]
theorem wr_all (L:List Nat):wr L L.length = decDigits (val L):=by unfold wr;simp
theorem nDigits_limb {x:Nat} (h:x < B):nDigits x≤9:=nDigits_le (by omega) (by rw [B_val] at h;exact h)
theorem nDigits_toL {n:Nat} (h:n≠0):nDigits n = 9 * ((toL n).length - 1) + nDigits ((toL n)[(toL n).length - 1]?.getD 0):=by
 have hne:toL n≠[]:=fun e=>h (toL_eq_nil.1 e)
 have key:∀ m,1≤m→m≤(toL n).length→(wr (toL n) m).length = 9 * (m - 1) + nDigits ((toL n)[(toL n).length - 1]?.getD 0):=by
  intro m h1
  induction m with
  | zero=>omega
  | succ m ih =>
   intro hm
   by_cases h0:m = 0
   ·subst h0
    rw [wr_one hne,decDigits_length];simp
   ·rw [wr_step (can_toL n) (by omega) (by omega),List.length_append,padk_length,ih (by omega) (by omega)]
    omega
 have:=key (toL n).length (List.length_pos_iff.2 hne) (Nat.le_refl _)
 rwa [wr_all,val_toL,decDigits_length] at this
def wrAll (L:List Nat) (m:Nat):List UInt8:=((List.range m).map fun j=>padk 9 (L[L.length - 1 - j]?.getD 0)).flatten
theorem wrAll_succ (L:List Nat) (m:Nat):wrAll L (m + 1) = wrAll L m ++ padk 9 (L[L.length - 1 - m]?.getD 0):=by
 unfold wrAll;rw [List.range_succ];simp
theorem wrAll_length (L:List Nat) (m:Nat):(wrAll L m).length = 9 * m:=by
 induction m with
 | zero=>rfl
 | succ m ih=>rw [wrAll_succ,List.length_append,ih,padk_length];omega
theorem wrAll_dg (L:List Nat) (m:Nat):Dg (wrAll L m):=by
 induction m with
 | zero=>exact Dg.nil
 | succ m ih=>rw [wrAll_succ];exact ih.append (padk_dg _ _)
theorem dv_wrAll {L:List Nat} (hs:Sm L) {m:Nat} (hm:m≤L.length):dv (wrAll L m) = val (L.drop (L.length - m)):=by
 induction m with
 | zero=>simp [wrAll,dv,val]
 | succ m ih =>
  have hx:=hs.get (L.length - 1 - m)
  rw [wrAll_succ,dv_append,padk_length,ih (by omega),dv_padk _ _ (by rw [B_val] at hx;exact hx),val_drop L (L.length - (m + 1)) (by omega),show L.length - (m + 1) + 1 = L.length - m by omega,show L.length - (m + 1) = L.length - 1 - m by omega,B_val,Nat.mul_comm]
  omega
theorem dv_wrAll_all {n:Nat}:dv (wrAll (toL n) (toL n).length) = n:=by
 rw [dv_wrAll (sm_toL n) (Nat.le_refl _)];simp [val_toL]
end Go.Proofs.YtigapglmipmbeaaGreatDoor.Lim
namespace Go.Proofs.YtigapglmipmbeaaGreatDoor
open Go.RowKit Go.Shelf
open Lim
attribute [local go_sem] Oper.semAt_some
attribute [local go_sem ↓] inAt_zero inAt_succ
theorem dec_size (n:Nat):(⟨(Lib.decDigits n).toArray⟩:ByteArray).size = Lib.nDigits n:=by
 show (Lib.decDigits n).toArray.size = _
 rw [List.size_toArray,Lib.decDigits_length]
theorem digits_any (x:Nat) (vx:Value) (w:World) (hx:IsNat w vx x) (hlx:(toL x).length≤40000) (hr:Res w) :
  Calls Tryz.prog 250 #[vx] w fun e w'=>e = .returned (.int .i64 (Lib.nDigits x:Int))∧Below w.heap.size w w':=by
 obtain ⟨A,c,rfl,hc,hcm,hra⟩:=hx
 by_cases h0:x = 0
 ·subst h0
  have hl:(toL 0).length = 0:=by rw [toL_zero];rfl
  rw [hl,Lib.nDigits_small (by omega)]
  clear hl hra
  go_enter Tryz.func250,Tryz.ntmps250
  go_wp2
  go_ret
  exact ⟨rfl,Below.refl _ _⟩
 ·have hl:0 < (toL x).length:=toL_len_pos.2 h0
  have hnd:=nDigits_toL h0
  obtain ⟨b,o,rfl,hb,hcell⟩:=hra (by rw [U64_length];omega)
  have hcx:=hcell ((toL x).length - 1) _ (U64_get (by omega))
  have ht:=(sm_toL x).get ((toL x).length - 1)
  have hne:(((toL x).length:Int) == 0) = false:=by rw [beq_eq_false_iff_ne];omega
  clear hcell hra
  generalize (toL x)[(toL x).length - 1]?.getD 0 = t at *
  have hn9:=nDigits_limb ht
  rw [B_val] at ht
  have HND:=Lib.hid hnd
  have hsz:=dec_size t
  have HR:=Lib.hid hr
  clear hnd h0
  go_enter Tryz.func250,Tryz.ntmps250
  have TK1:True:=trivial
  go_wp2_with (clear TK1;go_at_call 279;refine (fmt_any t (by omega) _ HR.out).mono ?_;rintro e w1 ⟨rfl,hb1⟩;have HB1:=Lib.hid hb1;clear hb1)
  go_ret
  refine ⟨ret_eq (int_eq ?_),HB1.out⟩
  rw [HND.out]
  first
   | omega
   | (rw [hsz];omega)
theorem zeros_extract (k:Nat) (h:k≤9):(⟨#[48,48,48,48,48,48,48,48,48]⟩:ByteArray).extract k 9 = ⟨(List.replicate (9 - k) 48).toArray⟩:=by
 have:k = 0 ∨ k = 1 ∨ k = 2 ∨ k = 3 ∨ k = 4 ∨ k = 5 ∨ k = 6 ∨ k = 7 ∨ k = 8 ∨ k = 9:=by omega
 rcases this with rfl | rfl | rfl | rfl | rfl | rfl | rfl | rfl | rfl | rfl <;> rfl
theorem zeros_size (k:Nat) (h:k≤9):((⟨#[48,48,48,48,48,48,48,48,48]⟩:ByteArray).extract k 9).size = 9 - k:=by
 rw [zeros_extract k h]
 show (List.replicate (9 - k) (48:UInt8)).toArray.size = _
 simp
theorem isBuilder_kept {T e:TypeId} {B b:Nat} {bs:List Value} {w w':World} {row:Option Nat} (h:Lib.IsBuilder T e B b bs w) (hg:w.grownBy w' row) (hrow:∀ r,row = some r→∃ o:Obj,w.heap[r]? = some o∧o.isCells = false):Lib.IsBuilder T e B b bs w':=by
 have key:∀ p,Lib.BuilderAt T e B b p bs w→Lib.BuilderAt T e B b p bs w':=by
  rintro p ⟨hB,v,hb,hown,hne⟩
  have hlt:b < w.heap.size:=(Array.getElem?_eq_some_iff.1 hb).1
  refine ⟨hB,v,?_,hown.kept hg ?_,hne⟩
  ·rw [hg.block b hlt (fun e=>by
    obtain ⟨o,ho,hc⟩:=hrow b e.symm
    rw [hb] at ho;cases ho;simp [Obj.isCells] at hc)]
   exact hb
  ·cases hv:v.ownBlock with
   | none=>exact .inl rfl
   | some k =>
    right
    intro e
    obtain ⟨o,ho,hc⟩:=hrow k e.symm
    obtain ⟨cc,fz,hk⟩:=ownsRow_kind hown k hv
    rw [hk] at ho;cases ho;simp [Obj.isCells] at hc
 rcases h with h | h
 ·exact .inl (key _ h)
 ·exact .inr (key _ h)
theorem grownBy_of_below {w w':World} (h:Below w.heap.size w w'):w.grownBy w' none:=⟨h.os,h.tape,h.output,h.size,fun k hk _=>h.block k hk⟩
theorem isBuilder_below {T e:TypeId} {B b:Nat} {bs:List Value} {w w':World} (h:Lib.IsBuilder T e B b bs w) (hb:Below w.heap.size w w'):Lib.IsBuilder T e B b bs w' :=
 isBuilder_kept h (grownBy_of_below hb) (fun r e=>by cases e)
theorem keeps_of_others {e:TypeId} {b:Nat} {w w':World} (h:Lib.OthersKept e (some b) w w') (hs:w.heap.size≤w'.heap.size) (hb:∃ cs t fz,w.heap[b]? = some (.cells cs t fz)):KeepsOthers w w' :=
 ⟨hs,fun k o hk ho=>h k o hk (fun e=>by
  cases e
  obtain ⟨cs,t,fz,hc⟩:=hb
  rw [hc] at hk;cases hk;exact absurd ho (by simp [Obj.isCells])) (fun c fz e=>by subst e;exact absurd ho (by simp [Obj.isCells]))⟩
theorem builder_cells {T e:TypeId} {B b:Nat} {bs:List Value} {w:World} (h:Lib.IsBuilder T e B b bs w):∃ cs t fz,w.heap[b]? = some (.cells cs t fz):=by
 rcases h with ⟨_,v,hb,_⟩ | ⟨_,v,hb,_⟩
 ·exact ⟨_,_,_,hb⟩
 ·exact ⟨_,_,_,hb⟩
theorem builder_lt {T e:TypeId} {B b:Nat} {bs:List Value} {w:World} (h:Lib.IsBuilder T e B b bs w):b < w.heap.size:=by
 obtain ⟨cs,t,fz,hb⟩:=builder_cells h
 exact (Array.getElem?_eq_some_iff.1 hb).1
theorem string_any (x:Nat) (vx:Value) (w:World) (hx:IsNat w vx x) (hlx:(toL x).length≤40000) (hr:Res w) :
  Calls Tryz.prog 251 #[vx] w fun e w'=>e = .returned (.string ⟨(Lib.decDigits x).toArray⟩)∧Below w.heap.size w w':=by
 obtain ⟨A,c,rfl,hc,hcm,hra⟩:=hx
 by_cases h0:x = 0
 ·subst h0
  have hl:(toL 0).length = 0:=by rw [toL_zero];rfl
  have hs:(⟨(Lib.decDigits 0).toArray⟩:ByteArray) = ⟨#[48]⟩:=by rw [Lib.decDigits_one (by omega)];rfl
  rw [hl,hs]
  clear hl hra hs
  refine (callsIn_wide (n:=3)).1 ?_
  have h1:1≤3:=by omega
  refine callsIn_of_wp_marks Tryz.func251 rfl trivial ?_ rfl
  simp only [Tryz.ntmps251,List.size_toArray,List.length_cons,List.length_nil,Nat.reduceAdd,Nat.reduceSub,Array.replicate_succ,Array.replicate_zero,List.push_toArray,List.append_toArray,List.nil_append,List.cons_append]
  gi_wp2
  exact ⟨_,results_tmp rfl _ _ _,rfl,Below.refl _ _⟩
 ·have hl:0 < (toL x).length:=toL_len_pos.2 h0
  have hne':toL x≠[]:=fun e=>by rw [e] at hl;simp at hl
  obtain ⟨b,o,rfl,hb,hcell⟩:=hra (by rw [U64_length];omega)
  have hcx:=hcell ((toL x).length - 1) _ (U64_get (by omega))
  have ht:=(sm_toL x).get ((toL x).length - 1)
  have hne:(((toL x).length:Int) == 0) = false:=by rw [beq_eq_false_iff_ne];omega
  have HW1:=Lib.hid (wr_one hne')
  have HRA:=Lib.hid hra
  clear hcell hra hne'
  generalize (toL x)[(toL x).length - 1]?.getD 0 = t at *
  have hn9:=nDigits_limb ht
  rw [B_val] at ht
  have HR:=Lib.hid hr
  have HX0:=Lib.hid h0
  clear h0 hr
  have hbu:Lib.IsBuilder 285 5 w.heap.size w.heap.size [] (w.alloc (.cells #[.pointer none,.slice none 0 0] 285)) :=
   .inl ⟨Nat.le_refl _,.slice none 0 0,heap_alloc_new _ _,World.ownsRow_nil _ _ _ _,by simp [Value.ownBlock]⟩
  have hB0:Below w.heap.size w (w.alloc (.cells #[.pointer none,.slice none 0 0] 285)):=(Below.refl _ _).alloc (Nat.le_refl _) _
  have HBU:=Lib.hid hbu
  have HB0:=Lib.hid hB0
  clear hbu hB0
  refine (callsIn_wide (n:=3)).1 ?_
  have h1:1≤3:=by omega
  refine callsIn_of_wp_marks Tryz.func251 rfl trivial ?_ rfl
  simp only [Tryz.ntmps251,List.size_toArray,List.length_cons,List.length_nil,Nat.reduceAdd,Nat.reduceSub,Array.replicate_succ,Array.replicate_zero,List.push_toArray,List.append_toArray,List.nil_append,List.cons_append]
  have TK1:True:=trivial
  have TK2:True:=trivial
  have TK3:True:=trivial
  gi_wp2_with (clear TK1;refine ⟨trivial,?_⟩;gi_at_call 279;refine (callsIn_wide.2 (fmt_any t (by omega) _ (HR.out.below HB0.out))).mono ?_;rintro e w1 ⟨rfl,hb1⟩;have HB1:=Lib.hid (HB0.out.trans (hb1.mono HB0.out.size));have HU1:=Lib.hid (isBuilder_below HBU.out hb1);clear hb1)
  have hsz:=dec_size t
  gi_wp2_with (clear TK2;refine ⟨trivial,?_⟩;gi_at_call 280;refine (callsIn_wide.2 (Tryz.writeString w.heap.size w.heap.size [] ⟨(Lib.decDigits t).toArray⟩ _ HU1.out (by rw [hsz];simp;omega) HB1.out.size)).mono ?_;rintro e w2 ⟨rfl,hbt,hb2,_⟩;have HU2:=Lib.hid (show Lib.IsBuilder 285 5 w.heap.size w.heap.size (Lib.byteCells (wr (toL x) 1)) w2 from .inr (by rw [HW1.out];exact hbt));have HB2:=Lib.hid (HB1.out.trans hb2);clear hbt hb2)
  gi_wp2_with (clear TK3;refine ⟨trivial,?_⟩;gi_at_call 275;refine (backward_in Fence.wide 2 trivial rfl _ _ _ _).mono ?_;rintro e w' ⟨rfl,rfl⟩)
  have q0:Boxed (w2.alloc (.cells #[.slice (some ⟨b,o,none⟩) ((toL x).length - 1) c] 214)) w2.heap.size 214 _:=Boxed.new w2 _ _
  have q1:=isBuilder_below HU2.out ((Below.refl w2.heap.size w2).alloc (Nat.le_refl _) (.cells #[.slice (some ⟨b,o,none⟩) ((toL x).length - 1) c] 214))
  have q2:Below w.heap.size w (w2.alloc (.cells #[.slice (some ⟨b,o,none⟩) ((toL x).length - 1) c] 214)):=HB2.out.alloc HB2.out.size _
  have hwlt:w.heap.size < w2.heap.size:=builder_lt HU2.out
  clear HU1 HB1 HU2 HB2 HBU HB0 hcx
  generalize w2.heap.size = g2 at *
  generalize w2.alloc (.cells #[.slice (some ⟨b,o,none⟩) ((toL x).length - 1) c] 214) = W7 at *
  have hwlt7:w.heap.size < W7.heap.size:=builder_lt q1
  refine wpIn_range_ord rfl h1 (gf:=302) (lb:=#[.pointer (some ⟨g2,0,none⟩)]) rfl trivial eg_back
   (back_seq Fence.wide 2 trivial rfl (by omega) (fun i z=>z = (((toL x)[i]?.getD 0:Nat):Int)) g2 (some ⟨b,o,none⟩) ((toL x).length - 1) c (by omega)) (fun _=>rfl)
   (fun pre W=>pre.length≤(toL x).length - 1∧Lib.IsBuilder 285 5 w.heap.size w.heap.size (Lib.byteCells (wr (toL x) (1 + pre.length))) W∧Boxed W g2 214 (.slice (some ⟨b,o,none⟩) ((toL x).length - 1) c)∧Below w.heap.size w W)
   (fun _ _ _=>False)
   ?hG ?hI (fun c s W W' row hs _ _=>hs) ⟨by simp,q1,q0,q2⟩ ?round ?done ?stop
  case hG =>
   rintro pre W ⟨_,_,p0,pB⟩
   refine ⟨p0.cell,fun h0=>?_⟩
   obtain ⟨b',o',e,hb',hcell⟩:=HRA.out.later pB (by rw [U64_length];omega)
   cases e
   exact ⟨b,o,rfl,fun i hi=>⟨_,hcell i _ (U64_get (by omega)),rfl⟩⟩
  case hI =>
   rintro s W W' row ⟨g1,g2,g3,g4⟩ hg hr
   exact ⟨g1,isBuilder_kept g2 hg (fun r e=>(hr r e).2),bx_own g3 hg hr,below_own_ g4 (Nat.le_refl _) (by have:=q2.size;omega) hg hr⟩
  case round =>
   rintro l pre ⟨i,z⟩ W K hi hnx hK
   have HNX:=Lib.hid hnx
   clear hnx q0 q1 q2
   gi_wp2
   refine hK _ _ (KeepsOthers.refl _) hi ?_
   clear hK hi
   rintro Wb _ ⟨hpl,q1,q0,q2⟩
   obtain ⟨m,hm,hcame,hieq,hz⟩:=HNX.out
   dsimp only at hieq hz
   have hml:=hcame.length
   have hx0:=(sm_toL x).get i
   have HWS:=Lib.hid (wr_step (can_toL x) (m:=1 + pre.length) (by omega) (by omega))
   have hie:(toL x).length - 1 - (1 + pre.length) = i:=by omega
   rw [hie] at HWS
   generalize (toL x)[i]?.getD 0 = x0 at *
   have hn9x:=nDigits_limb hx0
   have HPD:=Lib.hid (padk_eq 9 x0 hn9x)
   rw [B_val] at hx0
   subst hz
   have hszx:=dec_size x0
   have HU:=Lib.hid q1
   have HBX:=Lib.hid q0
   have HBB:=Lib.hid q2
   have HLEN:=Lib.hid (show (wr (toL x) (1 + pre.length)).length≤9 * (1 + pre.length) from by
    unfold wr
    rw [Lib.decDigits_length]
    refine nDigits_le (by omega) ?_
    have h1:=val_lt ((sm_toL x).drop ((toL x).length - (1 + pre.length)))
    rw [B_pow,List.length_drop,show (toL x).length - ((toL x).length - (1 + pre.length)) = 1 + pre.length by omega] at h1
    exact h1)
   have HIE:=Lib.hid (And.intro hieq (And.intro hml hm))
   clear hieq hcame hml q1 q0 q2 hie hm hpl
   have TKA:True:=trivial
   have TKB:True:=trivial
   have TKC:True:=trivial
   gi_wp2_with (clear TKA;refine ⟨trivial,?_⟩;gi_at_call 279;refine (CallsIn.inRound l (callsIn_wide.2 (fmt_any x0 (by omega) _ (HR.out.below HBB.out)))).mono ?_;rintro e w5 ⟨rfl,hb5⟩;have HB5:=Lib.hid hb5;have HU5:=Lib.hid (isBuilder_below HU.out hb5);clear hb5)
   have hzs:=zeros_size (Lib.nDigits x0) hn9x
   have HPL:=Lib.hid (show pre.length≤40000 from by have:=HIE.out.2.1;have:=HIE.out.2.2;omega)
   gi_wp2_with (clear TKB;refine ⟨trivial,?_⟩;gi_at_call 280;refine (CallsIn.inRound l (callsIn_wide.2 (Tryz.writeString w.heap.size w.heap.size _ _ _ HU5.out (by rw [hzs,Lib.byteCells_length];have:=HLEN.out;have:=HPL.out;omega) (by have:=HBB.out.size;have:=HB5.out.size;omega)))).mono ?_;rintro e w6 ⟨rfl,hbt,hb6,hk6⟩;have HU6:=Lib.hid (show Lib.IsBuilder 285 5 w.heap.size w.heap.size _ w6 from .inr hbt);have HB6:=Lib.hid hb6;have HK6:=Lib.hid hk6;clear hbt hb6 hk6)
   gi_wp2_with (clear TKC;refine ⟨trivial,?_⟩;gi_at_call 280;refine (CallsIn.inRound l (callsIn_wide.2 (Tryz.writeString w.heap.size w.heap.size _ _ _ HU6.out (by rw [hszx,List.length_append,Lib.strCells_length,hzs,Lib.byteCells_length];have:=HLEN.out;have:=HPL.out;omega) (by have:=HBB.out.size;have:=HB5.out.size;have:=HB6.out.size;omega)))).mono ?_;rintro e w7 ⟨rfl,hbt,hb7,hk7⟩;have HU7:=Lib.hid (show Lib.IsBuilder 285 5 w.heap.size w.heap.size _ w7 from .inr hbt);have HB7:=Lib.hid hb7;have HK7:=Lib.hid hk7;clear hbt hb7 hk7)
   have hk5:KeepsOthers Wb w5:=keeps_of_below HB5.out
   have hk6:KeepsOthers w5 w6:=keeps_of_others HK6.out HB6.out.size (builder_cells HU5.out)
   have hk7:KeepsOthers w6 w7:=keeps_of_others HK7.out HB7.out.size (builder_cells HU6.out)
   have hbx5:Boxed w5 g2 214 (.slice (some ⟨b,o,none⟩) ((toL x).length - 1) c):=bx_below HBX.out HB5.out HBX.out.lt
   have hbx6:Boxed w6 g2 214 (.slice (some ⟨b,o,none⟩) ((toL x).length - 1) c):=HK6.out g2 _ hbx5 (by intro e;cases e;omega) (by intro cc fz e;cases e)
   have hbx7:Boxed w7 g2 214 (.slice (some ⟨b,o,none⟩) ((toL x).length - 1) c):=HK7.out g2 _ hbx6 (by intro e;cases e;omega) (by intro cc fz e;cases e)
   refine ⟨(hk5.trans hk6).trans hk7,?_,?_,hbx7,HBB.out.trans (((HB5.out.mono HBB.out.size).trans HB6.out).trans HB7.out)⟩
   ·rw [List.length_append,List.length_singleton];have:=HIE.out.2.1;have:=HIE.out.2.2;omega
   ·have hu:=HU7.out
    rw [zeros_extract _ hn9x,Lib.strCells_toArray,Lib.strCells_toArray,← Lib.byteCells_append,← Lib.byteCells_append,List.append_assoc,← HPD.out,← HWS.out] at hu
    rw [List.length_append,List.length_singleton,← Nat.add_assoc]
    exact hu
  case done =>
   rintro D ys W hD hS ⟨hpl,q1,q0,q2⟩ hK
   have hlen:=hS.length
   rw [hlen,show 1 + ((toL x).length - 1) = (toL x).length by omega,wr_all,val_toL] at q1
   have HU:=Lib.hid q1
   have HB:=Lib.hid q2
   have hsz:=q2.size
   clear q1 q0 q2 hS
   have TKD:True:=trivial
   gi_wp2_with (clear TKD;refine ⟨trivial,?_⟩;gi_at_call 281;refine (callsIn_wide.2 (Tryz.builderString w.heap.size w.heap.size _ _ HU.out (decDigits_ne x))).mono ?_;rintro e w9 ⟨rfl,hb9,hk9⟩;have HB9:=Lib.hid hb9;have HK9:=Lib.hid (hk9 D _ hK (by intro e;cases e;omega) (by intro cc fz e;cases e));clear hb9 hk9)
   refine ⟨by simp,.inl ⟨_,_,rfl,run_takeDeferred HK9.out,?_⟩⟩
   refine ⟨_,results_tmp rfl _ _ _,rfl,?_⟩
   exact (HB.out.trans HB9.out).trans (belowK_b (w:=w) (Nat.le_refl _) _ D _ _ (by omega) HK9.out rfl rfl)
  case stop =>
   rintro D c pre x' W hD _ h _
   exact h.elim
end Go.Proofs.YtigapglmipmbeaaGreatDoor
namespace Go.Proofs.YtigapglmipmbeaaGreatDoor
open Go.RowKit Go.Shelf
open Lim
def Only (g:Nat) (w w':World):Prop:=Below g w w'∧w'.heap.size = w.heap.size∧∀ k,k≠g→w'.heap[k]? = w.heap[k]?
section
variable {g:Nat} {w w' w'':World}
theorem Only.refl:Only g w w:=⟨Below.refl _ _,rfl,fun _ _=>rfl⟩
theorem Only.setCell (h:Only g w w') (i:Nat) (v:Value) (_hg:g < w'.heap.size):Only g w (w'.setCell ⟨g,i,none⟩ v) :=
 ⟨h.1.setCell (p:=⟨g,i,none⟩) (Nat.le_refl _) v,by rw [← h.2.1];simp [World.setCell],fun k hk=>(Below.heap_setCell w' ⟨g,i,none⟩ v k hk).trans (h.2.2 k hk)⟩
theorem Only.drewN (h:Only g w w') (n:Nat):Only g w (w'.drewN n):=⟨below_drewN' h.1 n,h.2.1,h.2.2⟩
theorem Only.cell (h:Only g w w') {b o:Nat} (hb:b≠g) {v:Value} (hc:w.cell? ⟨b,o,none⟩ = some v):w'.cell? ⟨b,o,none⟩ = some v :=
 (World.cell?_of_block (h.2.2 b hb)).trans hc
end
section
variable {w:World} {g:Nat} {t:TypeId} {P S:List Value} {X:List Nat}
theorem win_get (h:Blk w g t (P ++ (U64 X ++ S)).toArray) {off i:Nat} (ho:off = P.length) (hi:i < X.length):w.cell? ⟨g,off + i,none⟩ = some (.int .u64 ((X[i]?.getD 0:Nat):Int)):=by
 subst ho
 rw [h.cell,List.getElem?_toArray,List.getElem?_append_right (by omega),show P.length + i - P.length = i by omega,List.getElem?_append_left (by rw [U64_length];exact hi),U64_get hi]
theorem win_set (h:Blk w g t (P ++ (U64 X ++ S)).toArray) {off i:Nat} (ho:off = P.length) (hi:i < X.length) (x:Nat):Blk (w.setCell ⟨g,off + i,none⟩ (.int .u64 (x:Int))) g t (P ++ (U64 (X.set i x) ++ S)).toArray:=by
 subst ho
 have h2:=h.set_ (P.length + i) (.int .u64 (x:Int))
 rw [List.setIfInBounds_toArray,List.set_append_right _ _ (by omega),show P.length + i - P.length = i by omega,List.set_append_left _ _ (by rw [U64_length];exact hi)] at h2
 rw [show U64 (X.set i x) = (U64 X).set i (.int .u64 (x:Int)) by simp [U64,List.map_set]]
 exact h2
end
theorem est_any (P S:List Value) (U V:List Nat) (n g off cu cv:Nat) (Av:Option Addr) (w:World) (hD:Div2 U V n) (hoff:off = P.length) (hn:n≤100000)
  (hu:Blk w g 117 (P ++ (U64 U ++ S)).toArray) (hv:Row w Av (U64 V)) (hvg:∀ a,Av = some a→a.block≠g) :
  Calls Tryz.prog 306 #[.slice (some ⟨g,off,none⟩) (n + 1) cu,.slice Av n cv] w fun e w'=>∃ W:List Nat,e = .returned (.int .u64 ((val U / val V:Nat):Int))∧Sm W∧W.length = n + 1∧val W = val U % val V∧Blk w' g 117 (P ++ (U64 W ++ S)).toArray∧Only g w w':=by
 have h2:=hD.two
 have hlu:=hD.lu
 have hlv:=hD.lv
 obtain ⟨b,o,rfl,hb,hcell⟩:=hv (by rw [U64_length];omega)
 have hbg:b≠g:=hvg _ rfl
 have HV:=Lib.hid (show ∀ W,Only g w W→∀ i,i < n→W.cell? ⟨b,o + i,none⟩ = some (.int .u64 ((V[i]?.getD 0:Nat):Int)) from fun W hW i hi=>hW.cell hbg (hcell i _ (U64_get (by omega))))
 have HU:=Lib.hid hu
 have HD:=Lib.hid hD
 have hgs:=hu.lt
 clear hcell hvg hv
 -- the limbs that the estimate reads
 have un:=hD.su.get n
 have un1:=hD.su.get (n - 1)
 have un2:=hD.su.get (n - 2)
 have vn1:=hD.sv.get (n - 1)
 have vn2:=hD.sv.get (n - 2)
 have vtop:=hD.top
 have cun:=win_get hu hoff (i:=n) (by omega)
 have cun1:=win_get hu hoff (i:=n - 1) (by omega)
 have cun2:=win_get hu hoff (i:=n - 2) (by omega)
 have cvn1:=HV.out w Only.refl (n - 1) (by omega)
 have cvn2:=HV.out w Only.refl (n - 2) (by omega)
 clear hD hu
 have HST:=Lib.hid (fun t ht=>Est.start (U:=U) (V:=V) (n:=n) HD.out (t:=t) ht)
 have HLO:=Lib.hid (fun g r (e:Est U V n g r) hc=>Est.lower HD.out e hc)
 have HDN:=Lib.hid (fun g r (e:Est U V n g r) hc=>Est.done HD.out e hc)
 have HSM:=Lib.hid (fun g r (e:Est U V n g r)=>e.sum)
 generalize hun:U[n]?.getD 0 = u0 at *
 generalize hun1:U[n - 1]?.getD 0 = u1 at *
 generalize hun2:U[n - 2]?.getD 0 = u2 at *
 generalize hvn1:V[n - 1]?.getD 0 = v1 at *
 generalize hvn2:V[n - 2]?.getD 0 = v2 at *
 rw [B_val] at un un1 un2 vn1 vn2
 have HEQ:=Lib.hid (And.intro hun (And.intro hvn1 hvn2))
 clear hun hun1 hun2 hvn1 hvn2
 have hv1:0 < v1:=by omega
 have HO:=Lib.hid (And.intro hoff (And.intro hlu hlv))
 clear hoff hlu hlv
 go_enter Tryz.func306,Tryz.ntmps306
 go_wp2
 go_quiet (fail)
 go_wp2
 go_quiet (fail)
 go_upto_block 0 with fail
 go_cut [7,8] from 44 to 76 (fun sg sr wx=>∃ gg r k:Nat,sg = .int .u64 (gg:Int)∧sr = .int .u64 (r:Int)∧val U / val V≤gg∧(gg < B∧gg * val V < val U + val V)∧wx = w.drewN k)
 case first =>
  go_wp2
  go_loopw [7,8] (fun sg sr wr=>∃ gg r k:Nat,sg = .int .u64 (gg:Int)∧sr = .int .u64 (r:Int)∧Est U V n gg r∧wr = w.drewN k) (fun sg _ _=>(intOf sg).toNat)
  case atStart=>exact ⟨_,_,_,int_eq (quo_cast u0 u1 v1),int_eq (rem_cast u0 u1 v1),HST.out _ rfl,World.drewN_drewN _ _ _⟩
  case round =>
   obtain ⟨gg,r,k,rfl,rfl,he,rfl⟩:=hrel
   have hsum:=HSM.out gg r he
   have hgv:gg≤gg * v1:=Nat.le_mul_of_pos_right _ hv1
   have hr18:r≤1000000000000000000:=by rw [B_val] at hsum;omega
   have hg18:gg≤1000000000000000000:=by rw [B_val] at hsum;omega
   have HE:=Lib.hid he
   have HS:=Lib.hid hsum
   clear he hsum hgv
   have qun2:(w.drewN k).cell? ⟨g,off + (n - 2),none⟩ = _:=cun2
   have qvn1:(w.drewN k).cell? ⟨b,o + (n - 1),none⟩ = _:=cvn1
   have qvn2:(w.drewN k).cell? ⟨b,o + (n - 2),none⟩ = _:=cvn2
   by_cases hr:r < 1000000000
   ·have d1:decide ((r:Int) < 1000000000) = true:=decide_eq_true (by omega)
    by_cases hg:1000000000≤gg
    ·have d2:decide ((1000000000:Int)≤(gg:Int)) = true:=decide_eq_true (by omega)
     have HL:=Lib.hid (HLO.out gg r HE.out (.inl (by rw [B_val];exact hg)))
     have hg1:=HL.out.1
     go_wp2
     go_quiet (fail)
     go_wp2
     go_quiet (fail)
     go_wp2
     go_roundw
     case rel=>exact ⟨gg - 1,r + v1,_,int_eq (by omega),int_eq (by omega),HL.out.2,by simp only [World.drewN_drewN];rfl⟩
     case measure=>simp [intOf];omega
    ·have d2:decide ((1000000000:Int)≤(gg:Int)) = false:=decide_eq_false (by omega)
     have hp0:(0:Int)≤(gg:Int) * (v2:Int):=Int.mul_nonneg (by omega) (by omega)
     have hp1:(gg:Int) * (v2:Int)≤1000000000000000000:=by
      have:gg * v2≤1000000000 * 1000000000:=Nat.mul_le_mul (by omega) (by omega)
      have e:(gg:Int) * (v2:Int) = ((gg * v2:Nat):Int):=(Int.natCast_mul _ _).symm
      rw [e];omega
     by_cases hx:r * B + u2 < gg * v2
     ·have d3:decide ((r:Int) * 1000000000 + (u2:Int) < (gg:Int) * (v2:Int)) = true:=decide_eq_true (by
       have e:(gg:Int) * (v2:Int) = ((gg * v2:Nat):Int):=(Int.natCast_mul _ _).symm
       rw [B_val] at hx;rw [e];omega)
      have HL:=Lib.hid (HLO.out gg r HE.out (.inr hx))
      have hg1:=HL.out.1
      clear hx
      go_wp2
      go_quiet (fail)
      go_wp2
      go_quiet (fail)
      go_wp2
      go_roundw
      case rel=>exact ⟨gg - 1,r + v1,_,int_eq (by omega),int_eq (by omega),HL.out.2,by simp only [World.drewN_drewN];rfl⟩
      case measure=>simp [intOf];omega
     ·have d3:decide ((r:Int) * 1000000000 + (u2:Int) < (gg:Int) * (v2:Int)) = false:=decide_eq_false (by
       have e:(gg:Int) * (v2:Int) = ((gg * v2:Nat):Int):=(Int.natCast_mul _ _).symm
       rw [B_val] at hx;rw [e];omega)
      have HX:=Lib.hid (HDN.out gg r HE.out (.inr ⟨by rw [B_val];omega,by omega⟩))
      clear hx
      go_wp2
      go_quiet (fail)
      go_wp2
      go_meet
      case rel=>exact ⟨gg,r,_,rfl,rfl,HE.out.low,HX.out,by simp only [World.drewN_drewN];rfl⟩
   ·have d1:decide ((r:Int) < 1000000000) = false:=decide_eq_false (by omega)
    have HX:=Lib.hid (HDN.out gg r HE.out (.inl (by rw [B_val];omega)))
    go_wp2
    go_quiet (fail)
    go_wp2
    go_meet
    case rel=>exact ⟨gg,r,_,rfl,rfl,HE.out.low,HX.out,by simp only [World.drewN_drewN];rfl⟩
 case rest =>
  obtain ⟨gg,r,k,rfl,rfl,hlow,⟨hgB,hup⟩,rfl⟩:=hcut
  have HG:=Lib.hid (And.intro hlow hup)
  rw [B_val] at hgB
  have HBK:=Lib.hid (show Blk (w.drewN k) g 117 (P ++ (U64 U ++ S)).toArray from HU.out)
  have HSS:=Lib.hid (SubStep.start (U:=U) (V:=V) (n:=n) (g:=gg) HD.out.su HD.out.lu)
  clear hlow hup cun cun1 cun2 cvn1 cvn2
  go_wp2
  go_loopw [9,10,79] (fun sc sb si wr=>∃ (i:Nat) (X:List Nat) (c bo:Nat),i≤n∧sc = .int .u64 (c:Int)∧sb = .int .u64 (bo:Int)∧si = .int .i64 (i:Int)∧SubStep U V n gg i X (c + bo)∧c < B∧bo≤1∧Blk wr g 117 (P ++ (U64 X ++ S)).toArray∧Only g w wr) (fun _ _ si _=>n - (intOf si).toNat)
  case atStart=>exact ⟨0,U,0,0,Nat.zero_le _,rfl,rfl,rfl,HSS.out,B_pos,Nat.zero_le _,HBK.out,Only.refl.drewN k⟩
  case round =>
   obtain ⟨i,X,c,bo,hi,rfl,rfl,rfl,hs,hc,hbo,hblk,hon⟩:=hrel
   rw [B_val] at hc
   have hgw:=hblk.lt
   by_cases hlt:i < n
   ·have hXl:=hs.2.1
    have hx0:=hs.1.get i
    have hXU:=hs.2.2.2 i (Nat.le_refl _)
    have hy0:=HD.out.sv.get i
    have cx:=win_get hblk HO.out.1 (i:=i) (by omega)
    have fx:=hblk.frozen (off + i)
    have cy:=HV.out wr hon i hlt
    have HSTP:=Lib.hid (fun x c' hx he=>hs.step (x:=x) (c':=c') hlt hx he)
    have HSET:=Lib.hid (fun (x x':Nat)=>(show Blk ((wr.setCell ⟨g,off + i,none⟩ (.int .u64 (x':Int))).setCell ⟨g,off + i,none⟩ (.int .u64 (x:Int))) g 117 (P ++ (U64 (X.set i x) ++ S)).toArray by
     have h1:=win_set hblk HO.out.1 (i:=i) (by omega) x'
     have h2:=win_set h1 HO.out.1 (i:=i) (by rw [List.length_set];omega) x
     rwa [List.set_set] at h2))
    have HSET1:=Lib.hid (fun (x:Nat)=>win_set hblk HO.out.1 (i:=i) (by omega) x)
    have HON:=Lib.hid hon
    rw [← hXU] at HSTP
    clear hs hXU hXl hblk hon HSS HBK
    generalize X[i]?.getD 0 = x0 at *
    generalize V[i]?.getD 0 = y0 at *
    rw [B_val] at hx0 hy0
    obtain ⟨q,hq⟩:∃ q,gg * y0 = q:=⟨_,rfl⟩
    have e1:(gg:Int) * (y0:Int) = (q:Int):=by rw [← hq,Int.natCast_mul]
    have hq18:q≤999999999 * 999999999:=by rw [← hq];exact Nat.mul_le_mul (by omega) (by omega)
    rw [hq] at HSTP
    clear hq
    have hq1:(gg:Int) * (y0:Int)≤999999998000000001:=by rw [e1];omega
    have hq0:(0:Int)≤(gg:Int) * (y0:Int):=by rw [e1];omega
    have hcb:(q + c) / 1000000000 < 1000000000:=by omega
    by_cases hlo:(x0:Int) < ((q:Int) + (c:Int)) % 1000000000 + (bo:Int)
    ·have hlo':(x0:Int) < ((gg:Int) * (y0:Int) + (c:Int)) % 1000000000 + (bo:Int):=by rw [e1];exact hlo
     obtain ⟨t,ht⟩:∃ t,(q + c) % 1000000000 + bo = t:=⟨_,rfl⟩
     have e2:(x0:Int) + 1000000000 - (((q:Int) + (c:Int)) % 1000000000 + (bo:Int)) = ((x0 + 1000000000 - t:Nat):Int):=by omega
     have e3:(x0:Int) + 1000000000 = ((x0 + 1000000000:Nat):Int):=by omega
     have HR:=Lib.hid (And.intro e2 e3)
     have HST:=Lib.hid (HSTP.out (x0 + 1000000000 - t) ((q + c) / B + 1) (by rw [B_val];omega) (by rw [B_val];omega))
     clear e2 e3
     go_wp2
     go_roundw
     case rel =>
      refine ⟨i + 1,X.set i (x0 + 1000000000 - t),(q + c) / B,1,hlt,int_eq (by rw [B_val];omega),rfl,by go_num,HST.out,by rw [B_val];omega,Nat.le_refl _,?_,?_⟩
      ·rw [HR.out.1,HR.out.2];exact HSET.out _ _
      ·exact (HON.out.setCell _ _ hgw).setCell _ _ (by simpa [World.setCell] using hgw)
     case measure=>simp [intOf];omega
    ·have hlo':¬ (x0:Int) < ((gg:Int) * (y0:Int) + (c:Int)) % 1000000000 + (bo:Int):=by rw [e1];exact hlo
     obtain ⟨t,ht⟩:∃ t,(q + c) % 1000000000 + bo = t:=⟨_,rfl⟩
     have e2:(x0:Int) - (((q:Int) + (c:Int)) % 1000000000 + (bo:Int)) = ((x0 - t:Nat):Int):=by omega
     have HR:=Lib.hid e2
     have HST:=Lib.hid (HSTP.out (x0 - t) ((q + c) / B + 0) (by rw [B_val];omega) (by rw [B_val];omega))
     have hlo2:((q:Int) + (c:Int)) % 1000000000 + (bo:Int)≤(x0:Int):=by omega
     clear e2
     go_wp2
     go_roundw
     case rel =>
      refine ⟨i + 1,X.set i (x0 - t),(q + c) / B,0,hlt,int_eq (by rw [B_val];omega),rfl,by go_num,HST.out,by rw [B_val];omega,Nat.zero_le _,?_,?_⟩
      ·rw [HR.out];exact HSET1.out _
      ·exact HON.out.setCell _ _ hgw
     case measure=>simp [intOf];omega
   ·obtain rfl:i = n:=by omega
    have hXl:=hs.2.1
    have hXU:=hs.2.2.2 i (Nat.le_refl _)
    have cx:=win_get hblk HO.out.1 (i:=i) (by omega)
    have fx:=hblk.frozen (off + i)
    rw [hXU,HEQ.out.1] at cx
    have HSF:=Lib.hid (fun hle=>sub_fits HD.out HG.out.1 HG.out.2 hs hle)
    have HSB:=Lib.hid (fun hgt=>sub_back HD.out HG.out.1 HG.out.2 hs hgt)
    rw [HEQ.out.1] at HSF HSB
    have HBL:=Lib.hid hblk
    have HON:=Lib.hid hon
    have HXL:=Lib.hid hXl
    have HXS:=Lib.hid hs.1
    clear hs hXl hXU hblk hon HSS HBK hlt
    by_cases hle:c + bo≤u0
    ·have hle':((c:Int) + (bo:Int))≤(u0:Int):=by omega
     have e2:(u0:Int) - ((c:Int) + (bo:Int)) = ((u0 - (c + bo):Nat):Int):=by omega
     have HR:=Lib.hid e2
     have HF:=Lib.hid (HSF.out hle)
     clear e2 hle
     go_wp2
     go_ret
     refine ⟨X.set i (u0 - (c + bo)),ret_eq (int_eq (by rw [HF.out.1])),HF.out.2.2,by rw [List.length_set];exact HXL.out,HF.out.2.1,?_,?_⟩
     ·rw [HR.out];exact win_set HBL.out HO.out.1 (i:=i) (by rw [HXL.out];omega) _
     ·exact HON.out.setCell _ _ hgw
    ·have hle':¬ ((c:Int) + (bo:Int))≤(u0:Int):=by omega
     have HF:=Lib.hid (HSB.out (by omega))
     have HBS:=Lib.hid (BackStep.start (U:=X) (V:=V) (n:=i) HXS.out HXL.out)
     have hg1:1≤gg:=by rw [HF.out.1];exact Nat.le_add_left 1 _
     obtain ⟨wo,rfl⟩:∃ wo,wo = wr:=⟨_,rfl⟩
     clear hle
     go_wp2
     clear cx fx
     go_loopw [9,137] (fun sc sj wr=>∃ (j:Nat) (Y:List Nat) (cy:Nat),j≤i∧sc = .int .u64 (cy:Int)∧sj = .int .i64 (j:Int)∧BackStep X V i j Y cy∧Blk wr g 117 (P ++ (U64 Y ++ S)).toArray∧Only g w wr) (fun _ sj _=>i - (intOf sj).toNat)
     case atStart=>exact ⟨0,X,0,Nat.zero_le _,rfl,rfl,HBS.out,HBL.out,HON.out⟩
     case round =>
      obtain ⟨j,Y,cy,hj,rfl,rfl,hb4,hblk,hon⟩:=hrel
      have hcy:=hb4.2.2.2.1
      have hYl:=hb4.2.1
      have hgw2:=hblk.lt
      by_cases hlt:j < i
      ·have hx0:=hb4.1.get j
       have hXY:=hb4.2.2.2.2 j (Nat.le_refl _)
       have hy0:=HD.out.sv.get j
       have cx:=win_get hblk HO.out.1 (i:=j) (by omega)
       have fx:=hblk.frozen (off + j)
       have cv:=HV.out wr hon j hlt
       have HSTP:=Lib.hid (hb4.step HXS.out HD.out.sv hlt rfl)
       have HSET:=Lib.hid (fun (x:Nat)=>win_set hblk HO.out.1 (i:=j) (by omega) x)
       have HON2:=Lib.hid hon
       rw [← hXY] at HSTP
       clear hb4 hXY hYl hblk hon HBS HBL HON
       generalize Y[j]?.getD 0 = x0 at *
       generalize V[j]?.getD 0 = y0 at *
       rw [B_val] at hx0 hy0
       have e1:((x0:Int) + (y0:Int) + (cy:Int)) % 1000000000 = (((x0 + y0 + cy) % B:Nat):Int):=by rw [B_val];omega
       have HR:=Lib.hid e1
       clear e1
       go_wp2
       go_quiet (fail)
       go_wp2
       go_roundw
       case rel =>
        refine ⟨j + 1,Y.set j ((x0 + y0 + cy) % B),(x0 + y0 + cy) / B,hlt,int_eq (by rw [B_val];omega),by go_num,HSTP.out,?_,?_⟩
        ·rw [HR.out];exact (HSET.out _)
        ·exact (HON2.out.drewN _).setCell _ _ hgw2
       case measure=>simp [intOf];omega
      ·obtain rfl:j = i:=by omega
       have HE:=Lib.hid (HF.out.2.2 hb4)
       have cx:=win_get hblk HO.out.1 (i:=j) (by omega)
       have fx:=hblk.frozen (off + j)
       have HSET:=Lib.hid (win_set hblk HO.out.1 (i:=j) (by omega) 0)
       have HON2:=Lib.hid hon
       have HYL:=Lib.hid hYl
       have HFF:=Lib.hid HF.out.1
       clear hb4 hblk hon hYl HBS HBL HON HSB HSF HF hlt
       go_wp2
       go_ret
       exact ⟨Y.set j 0,ret_eq (int_eq (by rw [HFF.out];generalize val U / val V = qq;omega)),HE.out.2.2,by rw [List.length_set];exact HYL.out,HE.out.2.1,HSET.out,HON2.out.setCell _ _ hgw2⟩
end Go.Proofs.YtigapglmipmbeaaGreatDoor
namespace Go.Proofs.YtigapglmipmbeaaGreatDoor
open Go.RowKit
open Lim
theorem toL_step {L:List Nat} {n m:Nat} (h:L ++ toL m = toL n) (hm:m≠0):(L ++ [m % B]) ++ toL (m / B) = toL n:=by
 rw [toL_pos hm] at h;simpa using h
theorem of_any (n:Nat) (w:World) (hn:n < 18446744073709551616) :
  Calls Tryz.prog 304 #[.int .u64 (n:Int)] w fun e w'=>∃ v,e = .returned v∧IsNat w' v n∧Below w.heap.size w w':=by
 have hl3:(toL n).length≤3:=toL_len_le (by rw [B_val];omega)
 obtain ⟨i0,hi,hz0,hz1,hz2⟩:=info_parts Tryz.infoU
 go_enter Tryz.func304,Tryz.ntmps304
 go_wp2
 go_loopw [0,3] (fun s v wr=>∃ (m:Nat) (L:List Nat),s = .int .u64 (m:Int)∧m < 18446744073709551616∧L ++ toL m = toL n∧wr.ownsRow w.heap.size 117 1 v L.length (U64 L)∧Below w.heap.size w wr) (fun s _ _=>(intOf s).toNat)
 case atStart=>exact ⟨n,[],rfl,hn,rfl,World.ownsRow_nil _ _ _ _,Below.refl _ _⟩
 case round =>
  obtain ⟨m,L,rfl,hm,hL,hown,hB⟩:=hrel
  by_cases h0:m = 0
  ·subst h0
   have hL':L = toL n:=by rw [← hL,toL_zero];simp
   subst hL'
   clear hL
   go_wp2
   go_ret
   exact ⟨_,rfl,isNat_of_owns hown,hB⟩
  ·have hpos:0 < m:=by omega
   have hLlen:L.length + 1≤3:=by
    have:=toL_len_pos.2 h0
    have h2:(L ++ toL m).length≤3:=by rw [hL];exact hl3
    rw [List.length_append] at h2
    omega
   have HL:=Lib.hid (toL_step hL h0)
   clear hL h0
   go_wp2_with (at_builtin;refine wpList_append_own _ rfl _ _ 214 rfl w.heap.size 117 i0 (.int .u64 0) 1 8 Tryz.underlying214 hi hz0 hz1 hz2 rfl (by decide) _ _ _ rfl (hown.alloc _) ⟨wr.heap.size,0,none⟩ 1 1 [.int .u64 ((m:Int) % 1000000000)] rfl rfl (cell_one_new _ _ _) (by simp [Value.oneCell']) (by unfold maxLen;omega) (by omega) (by have:=hB.size;simp;omega) ?_;intro v' w1 hown' hgrow _)
   go_roundw
   case rel =>
    refine ⟨m / B,L ++ [m % B],by rw [← divB_cast],by rw [B_val];omega,HL.out,?_,?_⟩
    ·rw [← U64_snoc,← modB_cast,List.length_append];exact hown'
    ·exact (hB.alloc (by have:=hB.size;omega) _).grown hgrow (by have:=hB.size;simp;omega) (fun k e=>(hown.lt k e).1)
   case measure=>simp [intOf];omega
end Go.Proofs.YtigapglmipmbeaaGreatDoor
namespace Go.Proofs.YtigapglmipmbeaaGreatDoor
open Go.RowKit
open Lim
theorem mul_cast {o x y c:Nat}:((o:Int) + (x:Int) * (y:Int) + (c:Int)) = ((o + x * y + c:Nat):Int):=by
 rw [Int.natCast_add,Int.natCast_add,Int.natCast_mul]
theorem mul_own (x y:Nat) (vx vy:Value) (w:World) (hx:IsNat w vx x) (hy:IsNat w vy y) (hlx:(toL x).length≤40000) (hly:(toL y).length≤40000) :
  Calls Tryz.prog 245 #[vx,vy] w fun e w'=>∃ v,e = .returned v∧w'.ownsRow w.heap.size 117 1 v (toL (x * y)).length (U64 (toL (x * y)))∧Below w.heap.size w w':=by
 obtain ⟨A,c,rfl,hc,hcm,hra⟩:=hx
 obtain ⟨A',c',rfl,hc',hcm',hrb⟩:=hy
 obtain ⟨i0,hi,hz0,hz1,hz2⟩:=info_parts Tryz.infoU
 have hmk:=fun W=>run_makeN (P:=Tryz.prog) Tryz.underlying214 hi hz0 hz1 hz2 (n:=(toL x).length + (toL y).length) (by omega) (C:=((toL x).length:Int) + ((toL y).length:Int)) (by omega) W
 have hxs:=sm_toL x
 have hys:=sm_toL y
 go_enter Tryz.func245,Tryz.ntmps245
 go_wp2
 clear hmk
 have hblk0:Blk (w.alloc (.cells (madeCells #[.int .u64 0] ((toL x).length + (toL y).length)) 117)) w.heap.size 117 (U64 (List.replicate ((toL x).length + (toL y).length) 0)).toArray:=by rw [← U64_zeros];exact Blk.new _ _ _
 go_loopw [20] (fun i wr=>∃ (k:Nat) (O:List Nat),k≤(toL x).length∧i = .int .i64 (k:Int)∧MulOut (toL x) (toL y) k O∧Blk wr w.heap.size 117 (U64 O).toArray∧Below w.heap.size w wr) (fun i _=>(toL x).length - (intOf i).toNat)
 case atStart=>exact ⟨0,_,Nat.zero_le _,rfl,MulOut.start _ _,hblk0,(Below.refl _ _).alloc (Nat.le_refl _) _⟩
 case round =>
  obtain ⟨k,O,hk,rfl,hinv,hblk,hB⟩:=hrel
  clear hblk0
  obtain ⟨wo,rfl⟩:∃ wo,wo = wr:=⟨_,rfl⟩
  by_cases hlt:k < (toL x).length
  ·obtain ⟨b,o,rfl,hb,hcell⟩:=hra (by rw [U64_length];omega)
   have hcx:=(hB.cell (p:=⟨b,o + k,none⟩) hb).trans (hcell k _ (U64_get hlt))
   have hx0:=hxs.get k
   have HI:=Lib.hid (hinv.enter ((toL x)[k]?.getD 0))
   have HLV:Hid (∀ (O':List Nat) (c:Nat),MulInv (val ((toL x).take k) * val (toL y)) (toL y) k ((toL x)[k]?.getD 0) (toL y).length O' ((toL x).length + (toL y).length) c→MulOut (toL x) (toL y) (k + 1) (O'.set (k + (toL y).length) c)):=fun O' c h=>MulInv.leave h hlt
   clear hcell hinv
   generalize (toL x)[k]?.getD 0 = x0 at *
   rw [B_val] at hx0
   have HB:=Lib.hid hblk
   clear hblk
   go_wp2
   go_loopw [8,27] (fun s j wr=>∃ (m:Nat) (O':List Nat) (cy:Nat),m≤(toL y).length∧j = .int .i64 (m:Int)∧s = .int .u64 (cy:Int)∧MulInv (val ((toL x).take k) * val (toL y)) (toL y) k x0 m O' ((toL x).length + (toL y).length) cy∧Blk wr w.heap.size 117 (U64 O').toArray∧Below w.heap.size w wr) (fun _ j _=>(toL y).length - (intOf j).toNat)
   case atStart=>exact ⟨0,_,0,Nat.zero_le _,rfl,rfl,HI.out,HB.out,hB⟩
   case round =>
    obtain ⟨m,O',cy,hm,rfl,rfl,hin,hblk',hB'⟩:=hrel
    clear HI HB
    have hcy:=hin.2.2.2.1
    have hOl:=hin.2.1
    rw [B_val] at hcy
    by_cases hlq:m < (toL y).length
    ·obtain ⟨b2,o2,rfl,hb2,hcell2⟩:=hrb (by rw [U64_length];omega)
     have hcy2:=(hB'.cell (p:=⟨b2,o2 + m,none⟩) hb2).trans (hcell2 m _ (U64_get hlq))
     have hy0:=hys.get m
     have ho0:=hin.1.get (k + m)
     have hst1:=hblk'.getU (i:=k + m) (by omega)
     have hst2:=hblk'.frozen (k + m)
     have HST:=Lib.hid (hin.step (by rw [B_val];exact hx0) hys hlq (by omega) rfl)
     have hmb:=mul_bound (by rw [B_val];exact hx0) hy0 (by rw [B_val];exact hcy) ho0
     clear hcell2 hin hOl
     have HB:=Lib.hid hblk'
     clear hblk'
     generalize (toL y)[m]?.getD 0 = y0 at *
     generalize O'[k + m]?.getD 0 = o0 at *
     rw [B_val] at hy0 ho0
     have hp0:(0:Int)≤(x0:Int) * (y0:Int):=Int.mul_nonneg (by omega) (by omega)
     have hp1:(o0:Int) + (x0:Int) * (y0:Int) + (cy:Int)≤1000000000000000000:=by
      rw [mul_cast];rw [show B * B = 1000000000000000000 from rfl] at hmb;omega
     clear hmb
     go_wp2
     go_roundw
     case rel =>
      refine ⟨m + 1,O'.set (k + m) ((o0 + x0 * y0 + cy) % B),(o0 + x0 * y0 + cy) / B,by omega,by go_num,?_,HST.out,?_,hB'.setCell (p:=⟨w.heap.size,k + m,none⟩) (Nat.le_refl _) _⟩
      ·rw [mul_cast,divB_cast]
      ·rw [mul_cast,modB_cast];exact HB.out.setU _ _
     case measure=>simp [intOf];omega
    ·obtain rfl:m = (toL y).length:=by omega
     have hst1:=hblk'.getU (i:=k + (toL y).length) (by omega)
     have hst2:=hblk'.frozen (k + (toL y).length)
     have HST:=Lib.hid (HLV.out _ _ hin)
     have HB:=Lib.hid hblk'
     clear hin hblk' hOl
     go_wp2
     go_roundw
     case rel =>
      exact ⟨k + 1,_,by omega,by go_num,HST.out,HB.out.setU _ _,hB'.setCell (p:=⟨w.heap.size,k + (toL y).length,none⟩) (Nat.le_refl _) _⟩
     case measure=>simp [intOf];omega
  ·obtain rfl:k = (toL x).length:=by omega
   have hd:=hinv.done
   rw [val_toL,val_toL] at hd
   have hrow:=hblk.row
   have hO:=hinv.1
   have HOL:=Lib.hid hinv.2.1
   have HD:=Lib.hid hd
   have HBLK:=Lib.hid hblk
   clear hinv hblk hd hra hrb
   go_wp2_with (go_at_call 273;refine (trim_any O _ _ _ _ HOL.out.symm hO (Nat.le_of_eq HOL.out) (by unfold maxLen;omega) hrow).mono ?_;rintro e w' ⟨rfl,rfl⟩)
   go_ret
   refine ⟨_,rfl,?_,hB⟩
   rw [HD.out]
   have hpre:=toL_prefix hO
   rw [HD.out] at hpre
   refine ⟨by rw [U64_length,Nat.mul_one],.inr ⟨_,_,_,rfl,Nat.le_refl _,HBLK.out,?_,by unfold maxLen;omega,by rw [List.size_toArray,U64_length,HOL.out,Nat.mul_one],?_⟩⟩
   ·have:=toL_len_le_of hO
    rw [HD.out] at this
    rw [← HOL.out];exact this
   ·rw [Nat.mul_one,← U64_take,hpre]
theorem mul_any (x y:Nat) (vx vy:Value) (w:World) (hx:IsNat w vx x) (hy:IsNat w vy y) (hlx:(toL x).length≤40000) (hly:(toL y).length≤40000) :
  Calls Tryz.prog 245 #[vx,vy] w fun e w'=>∃ v,e = .returned v∧IsNat w' v (x * y)∧Below w.heap.size w w' :=
 (mul_own x y vx vy w hx hy hlx hly).mono fun _ _ ⟨v,e,ho,hb⟩=>⟨v,e,isNat_of_owns ho,hb⟩
end Go.Proofs.YtigapglmipmbeaaGreatDoor
namespace Go.Proofs.YtigapglmipmbeaaGreatDoor
open Go.RowKit Go.Shelf
open Lim
attribute [local go_sem] Oper.semAt_some
theorem isNat_zero (w:World):IsNat w (.slice none 0 0) 0:=by
 refine ⟨none,0,?_,?_,by unfold maxLen;omega,?_⟩
 ·rw [toL_zero];rfl
 ·rw [toL_zero];exact Nat.le_refl _
 ·rw [toL_zero];exact Row.nil
theorem divmod_less (x y:Nat) (vx vy:Value) (w:World) (hx:IsNat w vx x) (hy:IsNat w vy y) (hlx:(toL x).length≤40000) (hlt:x < y) :
  Calls Tryz.prog 278 #[vx,vy] w fun e w'=>∃ vq vr,e = .returned (.tuple #[vq,vr])∧IsNat w' vq (x / y)∧IsNat w' vr (x % y)∧Below w.heap.size w w':=by
 have HX:=Lib.hid hx
 have HY:=Lib.hid hy
 obtain ⟨A,c,rfl,hc,hcm,_⟩:=hx
 obtain ⟨A',c',rfl,hc',hcm',_⟩:=hy
 have hd:decide (sgn x y < 0) = true:=by rw [sgn_lt hlt];rfl
 refine (callsIn_wide (n:=3)).1 ?_
 have h1:1≤3:=by omega
 refine callsIn_of_wp_marks Tryz.func278 rfl trivial ?_ rfl
 simp only [Tryz.ntmps278,List.size_toArray,List.length_cons,List.length_nil,Nat.reduceAdd,Nat.reduceSub,Array.replicate_succ,Array.replicate_zero,List.push_toArray,List.append_toArray,List.nil_append,List.cons_append]
 have TK1:True:=trivial
 gi_wp2_with (clear TK1;refine ⟨trivial,?_⟩;gi_at_call 246;refine (callsIn_wide.2 (cmp_any x y _ _ _ HX.out HY.out hlx)).mono ?_;rintro e w1 ⟨rfl,hb⟩;have HB1:=Lib.hid hb;clear hb)
 refine ⟨_,results_tmp2 rfl _ _ _,_,_,rfl,?_,?_,HB1.out⟩
 ·rw [Nat.div_eq_of_lt hlt];exact isNat_zero _
 ·rw [Nat.mod_eq_of_lt hlt];exact HX.out.below HB1.out
theorem divmod_one (x y:Nat) (vx vy:Value) (w:World) (hx:IsNat w vx x) (hy:IsNat w vy y) (hlx:(toL x).length≤40000) (hge:y≤x) (hl1:(toL y).length = 1) :
  Calls Tryz.prog 278 #[vx,vy] w fun e w'=>∃ vq vr,e = .returned (.tuple #[vq,vr])∧IsNat w' vq (x / y)∧IsNat w' vr (x % y)∧Below w.heap.size w w':=by
 have HX:=Lib.hid hx
 have HY:=Lib.hid hy
 have hy1:toL y = [y]∧0 < y∧y < 1000000000:=by
  obtain ⟨z,hz⟩:=List.length_eq_one_iff.1 hl1
  have hv:=val_toL y
  rw [hz] at hv
  simp [val] at hv
  subst hv
  have hs:=sm_toL z
  rw [hz] at hs
  have hlt:=hs.head
  rw [B_val] at hlt
  refine ⟨hz,?_,hlt⟩
  rcases Nat.eq_zero_or_pos z with h0 | h0
  ·subst h0;rw [toL_zero] at hz;cases hz
  ·exact h0
 obtain ⟨hty,hy0,hyB⟩:=hy1
 obtain ⟨A,c,rfl,hc,hcm,_⟩:=hx
 obtain ⟨A',c',rfl,hc',hcm',hrow⟩:=hy
 obtain ⟨b,o,rfl,hb,hcell⟩:=hrow (by rw [U64_length,hl1];omega)
 have hc0:=hcell 0 _ (U64_get (by omega))
 rw [hty] at hc0
 simp only [List.getElem?_cons_zero,Option.getD_some,Nat.add_zero] at hc0
 rw [hl1] at HY hc'
 rw [hl1]
 have hd:decide (sgn x y < 0) = false:=by
  rcases Nat.lt_or_ge y x with h | h
  ·rw [sgn_gt h];rfl
  ·rw [Nat.le_antisymm h hge,sgn_self];rfl
 have HTY:=Lib.hid hty
 have HGE:=Lib.hid hge
 clear hcell hrow hty hl1 hge
 refine (callsIn_wide (n:=3)).1 ?_
 have h1:1≤3:=by omega
 refine callsIn_of_wp_marks Tryz.func278 rfl trivial ?_ rfl
 simp only [Tryz.ntmps278,List.size_toArray,List.length_cons,List.length_nil,Nat.reduceAdd,Nat.reduceSub,Array.replicate_succ,Array.replicate_zero,List.push_toArray,List.append_toArray,List.nil_append,List.cons_append]
 have TK1:True:=trivial
 have TK2:True:=trivial
 have TK3:True:=trivial
 gi_wp2_with (clear TK1;refine ⟨trivial,?_⟩;gi_at_call 246;refine (callsIn_wide.2 (cmp_any x y _ _ _ HX.out HY.out hlx)).mono ?_;rintro e w1 ⟨rfl,hb1⟩;have HB1:=Lib.hid hb1;have hc1:=(hb1.cell (p:=⟨b,o,none⟩) hb).trans hc0;have hbs:b < w1.heap.size:=Nat.lt_of_lt_of_le hb hb1.size;clear hb1)
 gi_wp2_with (clear TK2;refine ⟨trivial,?_⟩;gi_at_call 305;refine (callsIn_wide.2 (small_any x y _ _ (HX.out.below HB1.out) hlx hy0 hyB)).mono ?_;rintro e w2 ⟨v,rfl,hq,hb2⟩;have HB2:=Lib.hid (HB1.out.trans (hb2.mono HB1.out.size));have HQ:=Lib.hid hq;clear hb2 hq)
 gi_wp2_with (clear TK3;refine ⟨trivial,?_⟩;gi_at_call 304;refine (callsIn_wide.2 (of_any (x % y) _ (by have:=Nat.mod_lt x hy0;omega))).mono ?_;rintro e w3 ⟨v3,rfl,hr,hb3⟩;have HB3:=Lib.hid (HB2.out.trans (hb3.mono HB2.out.size));have HR:=Lib.hid hr;have HQ3:=Lib.hid (HQ.out.below hb3);clear hb3 hr)
 exact ⟨_,results_tmp2 rfl _ _ _,v,v3,rfl,HQ3.out,HR.out,HB3.out⟩
end Go.Proofs.YtigapglmipmbeaaGreatDoor
namespace Go.Proofs.YtigapglmipmbeaaGreatDoor
open Go.RowKit Go.Shelf
open Lim
attribute [local go_sem] Oper.semAt_some
attribute [local go_sem ↓] inAt_zero inAt_succ
theorem toL_small {s:Nat} (h0:0 < s) (h:s < B):toL s = [s]:=by
 rw [toL_pos (by omega),Nat.mod_eq_of_lt h,Nat.div_eq_of_lt h,toL_zero]
theorem isNat_cell {w:World} {g:Nat} {s:Nat} (h0:0 < s) (h:s < B) (hg:w.cell? ⟨g,0,none⟩ = some (.int .u64 (s:Int))) (hb:g < w.heap.size):IsNat w (.slice (some ⟨g,0,none⟩) 1 1) s:=by
 have e:=toL_small h0 h
 refine ⟨some ⟨g,0,none⟩,1,by rw [e];rfl,by rw [e];exact Nat.le_refl _,by unfold maxLen;omega,fun _=>⟨g,0,rfl,hb,fun j u hu=>?_⟩⟩
 rw [e] at hu
 cases j with
 | zero=>simp [U64] at hu;subst hu;exact hg
 | succ j=>simp [U64] at hu
theorem owns_blk {w:World} {base n:Nat} {v:Value} {xs:List Nat} (h:w.ownsRow base 117 1 v n (U64 xs)) (hn:0 < n) :
  ∃ (g cap:Nat) (rest:List Value),v = .slice (some ⟨g,0,none⟩) n cap∧base≤g∧Blk w g 117 (U64 xs ++ rest).toArray∧n≤cap∧cap≤maxLen∧n = xs.length:=by
 have hl:n = xs.length:=by have:=h.1;rw [U64_length] at this;omega
 rcases h.2 with ⟨_,h0⟩ | ⟨g,cap,cur,e,hb,hh,h1,h2,_,h4⟩
 ·omega
 ·refine ⟨g,cap,cur.toList.drop n,e,hb,?_,h1,h2,hl⟩
  have e2:U64 xs ++ cur.toList.drop n = cur.toList:=by
   rw [← h4,Nat.mul_one,List.take_append_drop]
  rw [e2]
  exact hh
theorem isNat_put {W:World} {v:Value} {n D:Nat} {o o':Obj} (h:IsNat W v n) (hk:W.heap[D]? = some o) (ho:o.isCells = false):IsNat (W.putObj D o') v n:=by
 obtain ⟨A,c,e,h1,h2,h3⟩:=h
 refine ⟨A,c,e,h1,h2,fun h0=>?_⟩
 obtain ⟨b,q,rfl,hb,hc⟩:=h3 h0
 have hg:=grownBy_putObj' W D o'
 exact ⟨b,q,rfl,Nat.lt_of_lt_of_le hb hg.size,fun j x hx=>cell_kept (hc j x hx) hg (fun r e=>by cases e;exact ⟨_,hk,ho⟩)⟩
theorem divmod_long (x y:Nat) (vx vy:Value) (w:World) (hx:IsNat w vx x) (hy:IsNat w vy y) (hlx:(toL x).length≤30000) (hge:y≤x) (hl2:2≤(toL y).length) :
  Calls Tryz.prog 278 #[vx,vy] w fun e w'=>∃ vq vr,e = .returned (.tuple #[vq,vr])∧IsNat w' vq (x / y)∧IsNat w' vr (x % y)∧Below w.heap.size w w':=by
 have HX:=Lib.hid hx
 have HY:=Lib.hid hy
 have hy0:0 < y:=by
  rcases Nat.eq_zero_or_pos y with h0 | h0
  ·subst h0;rw [toL_zero] at hl2;simp at hl2
  ·exact h0
 have hly:(toL y).length≤(toL x).length:=toL_len_mono hge
 obtain ⟨s,hs⟩:∃ s,s = B / ((toL y)[(toL y).length - 1]?.getD 0 + 1):=⟨_,rfl⟩
 obtain ⟨s0,s1,s2⟩:=scaled_len hy0 hs
 have HS2:=Lib.hid s2
 obtain ⟨A,c,rfl,hc,hcm,_⟩:=hx
 obtain ⟨A',c',rfl,hc',hcm',hrow⟩:=hy
 obtain ⟨b,o,rfl,hb,hcell⟩:=hrow (by rw [U64_length];omega)
 have hc0:=hcell ((toL y).length - 1) _ (U64_get (by omega))
 have htop:=(sm_toL y).get ((toL y).length - 1)
 have hd:decide (sgn x y < 0) = false:=by
  rcases Nat.lt_or_ge y x with h | h
  ·rw [sgn_gt h];rfl
  ·rw [Nat.le_antisymm h hge,sgn_self];rfl
 have hne1:(((toL y).length:Int) == 1) = false:=by rw [beq_eq_false_iff_ne];omega
 have HGE:=Lib.hid hge
 obtain ⟨i0,hi,hz0,hz1,hz2⟩:=info_parts Tryz.infoU
 clear hcell hrow hge s2
 generalize (toL y)[(toL y).length - 1]?.getD 0 = top at *
 have e1:(1000000000:Int) / ((top:Int) + 1) = (s:Int):=by rw [hs,B_val,Int.natCast_ediv];rfl
 rw [B_val] at s1 htop
 clear hs
 refine (callsIn_wide (n:=3)).1 ?_
 have h1:1≤3:=by omega
 refine callsIn_of_wp_marks Tryz.func278 rfl trivial ?_ rfl
 simp only [Tryz.ntmps278,List.size_toArray,List.length_cons,List.length_nil,Nat.reduceAdd,Nat.reduceSub,Array.replicate_succ,Array.replicate_zero,List.push_toArray,List.append_toArray,List.nil_append,List.cons_append]
 have TK1:True:=trivial
 have TK2:True:=trivial
 have TK3:True:=trivial
 have TK4:True:=trivial
 gi_upto_region 7 with (clear TK1;refine ⟨trivial,?_⟩;gi_at_call 246;refine (callsIn_wide.2 (cmp_any x y _ _ _ HX.out HY.out (by omega))).mono ?_;rintro e w1 ⟨rfl,hb1⟩;have HB1:=Lib.hid hb1;have hc1:=(hb1.cell (p:=⟨b,o + ((toL y).length - 1),none⟩) hb).trans hc0;have hbs:b < w1.heap.size:=Nat.lt_of_lt_of_le hb hb1.size;clear hb1)
 have hbk:Blk (w1.alloc (.cells #[.int .u64 (s:Int)] 117)) w1.heap.size 117 (U64 [s]).toArray:=Blk.new _ _ _
 have hB2:Below w.heap.size w (w1.alloc (.cells #[.int .u64 (s:Int)] 117)):=HB1.out.alloc (HB1.out.size) _
 have hgs:w1.heap.size < (w1.alloc (.cells #[.int .u64 (s:Int)] 117)).heap.size:=by simp
 have hwg:w.heap.size≤w1.heap.size:=HB1.out.size
 generalize w1.alloc (.cells #[.int .u64 (s:Int)] 117) = W2 at *
 generalize w1.heap.size = gs at *
 have HSC:=Lib.hid (isNat_cell (w:=W2) (g:=gs) s0 (by rw [B_val];exact s1) (hbk.getU (i:=0) (Nat.zero_lt_one)) hgs)
 have HGB:=Lib.hid hbk
 have HB2:=Lib.hid hB2
 clear hc1 hbs HB1 hc0 hbk hB2 e1 hd
 have hm1:(toL s).length≤40000:=by rw [toL_small s0 (by rw [B_val];exact s1)];exact Nat.le_of_ble_eq_true rfl
 have hlen1:(toL (x * s)).length≤(toL x).length + 1:=toL_len_le (scaled_a_lt (by rw [B_val];exact s1))
 have hlen0:(toL x).length≤(toL (x * s)).length:=toL_len_mono (Nat.le_mul_of_pos_right _ s0)
 gi_upto_region 8 with (first
  | (clear TK2;refine ⟨trivial,?_⟩;gi_at_call 245;refine (callsIn_wide.2 (mul_own x s _ _ _ (HX.out.below HB2.out) HSC.out (by omega) hm1)).mono ?_;rintro e w3 ⟨v3,rfl,ho,hb⟩;obtain ⟨A3,c3,rfl⟩:=slice_of_owns ho;have HO3:=Lib.hid ho;have HB3:=Lib.hid hb;have hs3:=hb.size;clear ho hb)
  | (clear TK3;gi_at_builtin;go_loud (refine wpListIn_append_own _ rfl _ _ 214 rfl W2.heap.size 117 i0 (.int .u64 0) 1 8 Tryz.underlying214 hi hz0 hz1 hz2 rfl (by decide) _ _ _ rfl (HO3.out.alloc _) ⟨w3.heap.size,0,none⟩ 1 1 [.int .u64 0] rfl rfl (cell_one_new _ _ _) (by simp [Value.oneCell']) (by unfold maxLen;omega) (by omega) (by simp;omega) ?_;intro v4 w4 hown4 hgrow4 _);have hb4:Below W2.heap.size W2 w4:=(HB3.out.alloc hs3 _).grown hgrow4 (by simp;omega) (fun k e=>(HO3.out.lt k e).1);have hs4:=hb4.size;have HB4:=Lib.hid hb4;obtain ⟨gu,cu,ru,rfl,hgu,hbu,hcu,hcum,hlu⟩:=owns_blk (xs:=toL (x * s) ++ [0]) (by rw [← U64_snoc];exact hown4) (by omega);have HBU:=Lib.hid hbu;have HLU:=Lib.hid (And.intro hgu (And.intro hcu (And.intro hcum hlu)));have hgu4:=hbu.lt;clear hown4 hgrow4 hb4 hbu hgu hcu hcum hlu)
  | (clear TK4;refine ⟨trivial,?_⟩;gi_at_call 245;go_loud (refine (callsIn_wide.2 (mul_own y s _ _ _ ((HY.out.below HB2.out).below HB4.out) (HSC.out.below HB4.out) (by omega) hm1)).mono ?_;rintro e w5 ⟨v5,rfl,ho,hb⟩;obtain ⟨gv,cv,rv,rfl,hgv,hbv,hcv,hcvm,hlv⟩:=owns_blk ho (by rw [HS2.out];omega);have HBV:=Lib.hid hbv;have HLV:=Lib.hid (And.intro hgv (And.intro hcv hcvm));have HB5:=Lib.hid hb;have hs5:=hb.size;clear ho hb hbv hgv hcv hcvm hlv)))
 have c0:Boxed ((w5.alloc (.cells #[.slice (some ⟨gu,0,none⟩) ((toL (x * s)).length + 1) cu] 214)).alloc (.cells #[.slice (some ⟨gv,0,none⟩) (toL (y * s)).length cv] 214)) w5.heap.size 214 _:=(Boxed.new w5 _ _).alloc _
 have c1:Boxed ((w5.alloc (.cells #[.slice (some ⟨gu,0,none⟩) ((toL (x * s)).length + 1) cu] 214)).alloc (.cells #[.slice (some ⟨gv,0,none⟩) (toL (y * s)).length cv] 214)) (w5.heap.size + 1) 214 (.slice (some ⟨gv,0,none⟩) (toL (y * s)).length cv):=by
  have:=Boxed.new (w5.alloc (.cells #[.slice (some ⟨gu,0,none⟩) ((toL (x * s)).length + 1) cu] 214)) 214 (.slice (some ⟨gv,0,none⟩) (toL (y * s)).length cv)
  rwa [World.size_alloc] at this
 have k0:=((HBU.out.below HB5.out hgu4).alloc (.cells #[.slice (some ⟨gu,0,none⟩) ((toL (x * s)).length + 1) cu] 214)).alloc (.cells #[.slice (some ⟨gv,0,none⟩) (toL (y * s)).length cv] 214)
 have k1:=(HBV.out.alloc (.cells #[.slice (some ⟨gu,0,none⟩) ((toL (x * s)).length + 1) cu] 214)).alloc (.cells #[.slice (some ⟨gv,0,none⟩) (toL (y * s)).length cv] 214)
 have k2:=(((HGB.out.below HB4.out hgs).below HB5.out (Nat.lt_of_lt_of_le hgs hs4)).alloc (.cells #[.slice (some ⟨gu,0,none⟩) ((toL (x * s)).length + 1) cu] 214)).alloc (.cells #[.slice (some ⟨gv,0,none⟩) (toL (y * s)).length cv] 214)
 have k3:Below w.heap.size w ((w5.alloc (.cells #[.slice (some ⟨gu,0,none⟩) ((toL (x * s)).length + 1) cu] 214)).alloc (.cells #[.slice (some ⟨gv,0,none⟩) (toL (y * s)).length cv] 214)):=by
  have hb:Below w.heap.size w w5:=HB2.out.trans ((HB4.out.trans (HB5.out.mono hs4)).mono HB2.out.size)
  exact (hb.alloc hb.size _).alloc (by simp;have:=hb.size;omega) _
 have hgv4:w4.heap.size≤gv:=HLV.out.1
 have hgv5:gv < w5.heap.size:=HBV.out.lt
 have hgus:W2.heap.size≤gu:=HLU.out.1
 have hsz6:((w5.alloc (.cells #[.slice (some ⟨gu,0,none⟩) ((toL (x * s)).length + 1) cu] 214)).alloc (.cells #[.slice (some ⟨gv,0,none⟩) (toL (y * s)).length cv] 214)).heap.size = w5.heap.size + 1 + 1:=by simp
 generalize (w5.alloc (.cells #[.slice (some ⟨gu,0,none⟩) ((toL (x * s)).length + 1) cu] 214)).alloc (.cells #[.slice (some ⟨gv,0,none⟩) (toL (y * s)).length cv] 214) = W6 at *
 have hgv6:gu < gv:=by omega
 have hgs6:gs < gu:=by omega
 have hcu:=HLU.out.2.1
 have hcum:=HLU.out.2.2.1
 have hcv:=HLV.out.2.1
 have hwb:w.heap.size≤w5.heap.size:=by have:=HB2.out.size;omega
 have hwgu:w.heap.size≤gu:=by have:=HB2.out.size;omega
 generalize w5.heap.size = g5 at *
 have HS6:=Lib.hid hsz6
 clear hsz6 hgus hgv4 HBU HBV HGB HB5 HB4 HB3 HO3 HLV HLU hs3 hs4 hs5 hgu4 HSC hgs
 have hx0:=HB2.out.size
 clear HB2 hx0
 generalize hnv:(toL (y * s)).length = nv at *
 have hnv2:nv = (toL y).length:=HS2.out
 clear HS2
 subst hnv2
 have hyx:(toL y).length≤(toL (x * s)).length:=by omega
 have hnle:(toL x).length < (toL (x * s)).length + 1:=by omega
 have HLN:=Lib.hid (show (toL (x * s) ++ [0]).length = (toL (x * s)).length + 1 by simp)
 have HS3:=Lib.hid hnv
 clear hnv
 generalize hlu:(toL (x * s)).length + 1 = lu at *
 generalize hnn:(toL y).length = n at *
 have hln:n < lu:=by omega
 have hlu2:lu≤40000:=by omega
 have HLU:=Lib.hid hlu
 have HNN:=Lib.hid hnn
 clear hlu hnn hlen0 hyx hm1 hlen1
 have hmk:=fun W=>run_makeN (P:=Tryz.prog) Tryz.underlying214 hi hz0 hz1 hz2 (n:=lu - n) (by omega) (C:=(lu:Int) - (n:Int)) (by omega) W
 have hnle2:¬ (lu:Int)≤((toL x).length:Int):=by omega
 have d0:=c0.cell
 have d1:=c1.cell
 have TK5:True:=trivial
 have hg5a:g5 < W6.heap.size:=c0.lt
 have hg5b:g5 + 1 < W6.heap.size:=c1.lt
 gi_wp2
 gi_loopw [52] (fun _ wr=>wr = W6) (fun _ _=>0)
 case atStart=>rfl
 case round =>
  obtain rfl:=hrel
  gi_wp2_with (clear TK5;refine ⟨trivial,?_⟩;gi_at_call 275;refine (backward_in Fence.wide 2 trivial rfl _ _ _ _).mono ?_;rintro e w' ⟨rfl,rfl⟩)
  have q0:=((((c0).alloc (.cells #[.int .i64 (n:Int)] 3)).alloc (.cells (madeCells #[.int .u64 0] (lu - n)) 117)).alloc (.cells #[.slice (some ⟨wr.heap.size + 1,0,none⟩) (lu - n) (lu - n)] 214)).alloc (.cells #[.slice (some ⟨wr.heap.size + 1,0,none⟩) (lu - n) (lu - n)] 214)
  have q1:=((((c1).alloc (.cells #[.int .i64 (n:Int)] 3)).alloc (.cells (madeCells #[.int .u64 0] (lu - n)) 117)).alloc (.cells #[.slice (some ⟨wr.heap.size + 1,0,none⟩) (lu - n) (lu - n)] 214)).alloc (.cells #[.slice (some ⟨wr.heap.size + 1,0,none⟩) (lu - n) (lu - n)] 214)
  have q2:=((((k0).alloc (.cells #[.int .i64 (n:Int)] 3)).alloc (.cells (madeCells #[.int .u64 0] (lu - n)) 117)).alloc (.cells #[.slice (some ⟨wr.heap.size + 1,0,none⟩) (lu - n) (lu - n)] 214)).alloc (.cells #[.slice (some ⟨wr.heap.size + 1,0,none⟩) (lu - n) (lu - n)] 214)
  have q3:=((((k1).alloc (.cells #[.int .i64 (n:Int)] 3)).alloc (.cells (madeCells #[.int .u64 0] (lu - n)) 117)).alloc (.cells #[.slice (some ⟨wr.heap.size + 1,0,none⟩) (lu - n) (lu - n)] 214)).alloc (.cells #[.slice (some ⟨wr.heap.size + 1,0,none⟩) (lu - n) (lu - n)] 214)
  have q4:=((((k2).alloc (.cells #[.int .i64 (n:Int)] 3)).alloc (.cells (madeCells #[.int .u64 0] (lu - n)) 117)).alloc (.cells #[.slice (some ⟨wr.heap.size + 1,0,none⟩) (lu - n) (lu - n)] 214)).alloc (.cells #[.slice (some ⟨wr.heap.size + 1,0,none⟩) (lu - n) (lu - n)] 214)
  have q5:Boxed ((((wr.alloc (.cells #[.int .i64 (n:Int)] 3)).alloc (.cells (madeCells #[.int .u64 0] (lu - n)) 117)).alloc (.cells #[.slice (some ⟨wr.heap.size + 1,0,none⟩) (lu - n) (lu - n)] 214)).alloc (.cells #[.slice (some ⟨wr.heap.size + 1,0,none⟩) (lu - n) (lu - n)] 214)) wr.heap.size 3 (.int .i64 (n:Int)):=(((Boxed.new wr _ _).alloc (.cells (madeCells #[.int .u64 0] (lu - n)) 117)).alloc (.cells #[.slice (some ⟨wr.heap.size + 1,0,none⟩) (lu - n) (lu - n)] 214)).alloc (.cells #[.slice (some ⟨wr.heap.size + 1,0,none⟩) (lu - n) (lu - n)] 214)
  have q6:Blk ((((wr.alloc (.cells #[.int .i64 (n:Int)] 3)).alloc (.cells (madeCells #[.int .u64 0] (lu - n)) 117)).alloc (.cells #[.slice (some ⟨wr.heap.size + 1,0,none⟩) (lu - n) (lu - n)] 214)).alloc (.cells #[.slice (some ⟨wr.heap.size + 1,0,none⟩) (lu - n) (lu - n)] 214)) (wr.heap.size + 1) 117 (U64 (List.replicate (lu - n) 0)).toArray:=by
   rw [← U64_zeros]
   have:=((Blk.new (wr.alloc (.cells #[.int .i64 (n:Int)] 3)) 117 (madeCells #[.int .u64 0] (lu - n))).alloc (.cells #[.slice (some ⟨wr.heap.size + 1,0,none⟩) (lu - n) (lu - n)] 214)).alloc (.cells #[.slice (some ⟨wr.heap.size + 1,0,none⟩) (lu - n) (lu - n)] 214)
   rwa [World.size_alloc] at this
  have q7:Boxed ((((wr.alloc (.cells #[.int .i64 (n:Int)] 3)).alloc (.cells (madeCells #[.int .u64 0] (lu - n)) 117)).alloc (.cells #[.slice (some ⟨wr.heap.size + 1,0,none⟩) (lu - n) (lu - n)] 214)).alloc (.cells #[.slice (some ⟨wr.heap.size + 1,0,none⟩) (lu - n) (lu - n)] 214)) (wr.heap.size + 1 + 1) 214 (.slice (some ⟨wr.heap.size + 1,0,none⟩) (lu - n) (lu - n)):=by
   have:=(Boxed.new ((wr.alloc (.cells #[.int .i64 (n:Int)] 3)).alloc (.cells (madeCells #[.int .u64 0] (lu - n)) 117)) 214 (.slice (some ⟨wr.heap.size + 1,0,none⟩) (lu - n) (lu - n))).alloc (.cells #[.slice (some ⟨wr.heap.size + 1,0,none⟩) (lu - n) (lu - n)] 214)
   simpa only [World.size_alloc] using this
  have q8:Boxed ((((wr.alloc (.cells #[.int .i64 (n:Int)] 3)).alloc (.cells (madeCells #[.int .u64 0] (lu - n)) 117)).alloc (.cells #[.slice (some ⟨wr.heap.size + 1,0,none⟩) (lu - n) (lu - n)] 214)).alloc (.cells #[.slice (some ⟨wr.heap.size + 1,0,none⟩) (lu - n) (lu - n)] 214)) (wr.heap.size + 1 + 1 + 1) 214 (.slice (some ⟨wr.heap.size + 1,0,none⟩) (lu - n) (lu - n)):=by
   have:=Boxed.new (((wr.alloc (.cells #[.int .i64 (n:Int)] 3)).alloc (.cells (madeCells #[.int .u64 0] (lu - n)) 117)).alloc (.cells #[.slice (some ⟨wr.heap.size + 1,0,none⟩) (lu - n) (lu - n)] 214)) 214 (.slice (some ⟨wr.heap.size + 1,0,none⟩) (lu - n) (lu - n))
   simpa only [World.size_alloc] using this
  have hwr:w.heap.size≤wr.heap.size:=k3.size
  have q9:Below w.heap.size w ((((wr.alloc (.cells #[.int .i64 (n:Int)] 3)).alloc (.cells (madeCells #[.int .u64 0] (lu - n)) 117)).alloc (.cells #[.slice (some ⟨wr.heap.size + 1,0,none⟩) (lu - n) (lu - n)] 214)).alloc (.cells #[.slice (some ⟨wr.heap.size + 1,0,none⟩) (lu - n) (lu - n)] 214)):=(((k3.alloc hwr _).alloc (by simp;omega) _).alloc (by simp;omega) _).alloc (by simp;omega) _
  have hsz7:((((wr.alloc (.cells #[.int .i64 (n:Int)] 3)).alloc (.cells (madeCells #[.int .u64 0] (lu - n)) 117)).alloc (.cells #[.slice (some ⟨wr.heap.size + 1,0,none⟩) (lu - n) (lu - n)] 214)).alloc (.cells #[.slice (some ⟨wr.heap.size + 1,0,none⟩) (lu - n) (lu - n)] 214)).heap.size = wr.heap.size + 1 + 1 + 1 + 1:=by simp
  clear hmk c0 c1 k0 k1 k2 k3 d0 d1
  generalize ((((wr.alloc (.cells #[.int .i64 (n:Int)] 3)).alloc (.cells (madeCells #[.int .u64 0] (lu - n)) 117)).alloc (.cells #[.slice (some ⟨wr.heap.size + 1,0,none⟩) (lu - n) (lu - n)] 214)).alloc (.cells #[.slice (some ⟨wr.heap.size + 1,0,none⟩) (lu - n) (lu - n)] 214)) = W7 at *
  generalize wr.heap.size = h at *
  have hlenO:(toL (x * s) ++ [0]).length = lu:=by rw [HLN.out]
  have hlenV:(toL (y * s)).length = n:=HS3.out
  have hVn:2≤n:=hl2
  have hys0:0 < y * s:=Nat.mul_pos hy0 s0
  have htopV:=(top_bounds hys0).1
  rw [hlenV] at htopV
  have hstart:LongInv (toL (x * s) ++ [0]) (toL (y * s)) n (lu - n) (toL (x * s) ++ [0]) (List.replicate (lu - n) 0):=by
   refine LongInv.start ((sm_toL _).snoc B_pos) (by rw [hlenO];omega) ?_
   have hlx1:(toL (x * s)).length = lu - 1:=by have:=HLU.out;omega
   rw [List.drop_append_of_le_length (by omega),val_snoc,Nat.mul_zero,Nat.add_zero]
   have h1:=val_lt ((sm_toL (x * s)).drop (lu - n))
   rw [List.length_drop,hlx1,show lu - 1 - (lu - n) = n - 1 by omega] at h1
   have h2:=toL_ge (n:=y * s) (by omega)
   rw [hlenV] at h2
   rw [val_toL]
   omega
  refine wpIn_range_ord rfl h1 (gf:=302) (lb:=#[.pointer (some ⟨h + 1 + 1 + 1,0,none⟩)]) rfl trivial eg_back
   (back_seq Fence.wide 2 trivial rfl (by omega) (fun _ _=>True) (h + 1 + 1 + 1) (some ⟨h + 1,0,none⟩) (lu - n) (lu - n) (by omega)) (fun _=>rfl)
   (fun pre W=>∃ (U Q:List Nat),LongInv (toL (x * s) ++ [0]) (toL (y * s)) n ((lu - n) - pre.length) U Q∧pre.length≤lu - n ∧
    Boxed W g5 214 (.slice (some ⟨gu,0,none⟩) lu cu)∧Boxed W (g5 + 1) 214 (.slice (some ⟨gv,0,none⟩) n cv)∧Boxed W h 3 (.int .i64 (n:Int)) ∧
    Boxed W (h + 1 + 1) 214 (.slice (some ⟨h + 1,0,none⟩) (lu - n) (lu - n))∧Boxed W (h + 1 + 1 + 1) 214 (.slice (some ⟨h + 1,0,none⟩) (lu - n) (lu - n)) ∧
    Blk W gu 117 (U64 U ++ ru).toArray∧Blk W gv 117 (U64 (toL (y * s)) ++ rv).toArray∧Blk W gs 117 (U64 [s]).toArray∧Blk W (h + 1) 117 (U64 Q).toArray∧Below w.heap.size w W)
   (fun _ _ _=>False)
   ?hG ?hI (fun c s W W' row hs _ _=>hs) ⟨_,_,by rw [List.length_nil,Nat.sub_zero];exact hstart,by simp,q0,q1,q5,q7,q8,q2,q3,q4,q6,q9⟩ ?round ?done ?stop
  case hG =>
   rintro pre W ⟨U,Q,hL,_,_,_,_,_,p8,_,_,_,p6,_⟩
   refine ⟨p8.cell,fun h0=>?_⟩
   exact ⟨h + 1,0,rfl,fun i hi=>⟨((Q[i]?.getD 0:Nat):Int),by rw [Nat.zero_add];exact p6.getU (i:=i) (by have:=hL.lq;rw [hlenO] at this;omega),trivial⟩⟩
  case hI =>
   rintro s W W' row ⟨U,Q,g1,g2,g3,g4,g5',g6,g7,g8,g9,g10,g11,g12⟩ hg hr
   exact ⟨U,Q,g1,g2,bx_own g3 hg hr,bx_own g4 hg hr,bx_own g5' hg hr,bx_own g6 hg hr,bx_own g7 hg hr,g8.own_ hg hr,g9.own_ hg hr,g10.own_ hg hr,g11.own_ hg hr,below_own_ g12 (Nat.le_refl _) (by omega) hg hr⟩
  case round =>
   rintro l pre ⟨i,z⟩ W K hi hnx hK
   have HNX:=Lib.hid hnx
   clear hnx q0 q1 q2 q3 q4 q5 q6 q7 q8 q9 hstart
   gi_wp2
   refine hK _ _ (KeepsOthers.refl _) hi ?_
   clear hK hi
   rintro Wb _ ⟨U,Q,hL,hpl,q0,q1,q5,q7,q8,q2,q3,q4,q6,q9⟩
   obtain ⟨m,hm,hcame,hieq,hz⟩:=HNX.out
   dsimp only at hieq hz
   have hml:=hcame.length
   have hil:i < lu - n:=by omega
   have hLi:LongInv (toL (x * s) ++ [0]) (toL (y * s)) n (i + 1) U Q:=by
    have e:lu - n - pre.length = i + 1:=by omega
    rw [e] at hL;exact hL
   have hlU:U.length = lu:=by rw [hLi.lu,hlenO]
   have hlQ:Q.length = lu - n:=by have:=hLi.lq;rw [hlenO] at this;omega
   obtain ⟨hD2,hwin,_⟩:=hLi.window hVn (sm_toL _) hlenV htopV (by rw [hlQ];exact hil)
   have hsplit:U64 U ++ ru = U64 (U.take i) ++ (U64 ((U.drop i).take (n + 1)) ++ (U64 (U.drop (i + (n + 1))) ++ ru)):=by
    rw [← List.append_assoc,← List.append_assoc]
    congr 1
    simp only [U64,← List.map_append]
    congr 1
    rw [show U.drop (i + (n + 1)) = (U.drop i).drop (n + 1) by rw [List.drop_drop],List.append_assoc,List.take_append_drop,List.take_append_drop]
   have HEST:=Lib.hid (fun (W:World) (c2:Nat) (hW:Blk W gu 117 (U64 U ++ ru).toArray) (hV:Blk W gv 117 (U64 (toL (y * s)) ++ rv).toArray) =>
    est_any (U64 (U.take i)) (U64 (U.drop (i + (n + 1))) ++ ru) ((U.drop i).take (n + 1)) (toL (y * s)) n gu i c2 cv (some ⟨gv,0,none⟩) W hD2 (by rw [U64_length,List.length_take];omega) (by omega) (by rw [← hsplit];exact hW)
     (by have hr:=(hV.row).take (toL (y * s)).length;rw [List.take_left' (by rw [U64_length])] at hr;exact hr) (fun a e=>by cases e;dsimp only;omega))
   have HLI:=Lib.hid hLi
   have HLQ:=Lib.hid hlQ
   have HPL:=Lib.hid (show pre.length = lu - n - 1 - i by omega)
   have d0:=q0.cell
   have d1:=q1.cell
   have d5:=q5.cell
   have d7:=q7.cell
   have hgun:g5≠gu:=by omega
   have hi0:(0:Int)≤(i:Int):=by omega
   have hi1:(i:Int) < ((lu - n:Nat):Int):=by omega
   have hi2:(i:Int) + (n:Int) + 1≤(lu:Int):=by omega
   have hmx:Tryz.prog.follows .mixedOrders = true:=by kernel_rfl
   have x0':∀ X:SameAt Wb (fun k=>k≠gu∧k≠h + 1),X.W.cell? ⟨g5,0,none⟩ = _:=fun X=>X.cell (by constructor <;> omega) d0
   have x1':∀ X:SameAt Wb (fun k=>k≠gu∧k≠h + 1),X.W.cell? ⟨g5 + 1,0,none⟩ = _:=fun X=>X.cell (by constructor <;> omega) d1
   have x5':∀ X:SameAt Wb (fun k=>k≠gu∧k≠h + 1),X.W.cell? ⟨h,0,none⟩ = _:=fun X=>X.cell (by constructor <;> omega) d5
   have x7':∀ X:SameAt Wb (fun k=>k≠gu∧k≠h + 1),X.W.cell? ⟨h + 1 + 1,0,none⟩ = _:=fun X=>X.cell (by constructor <;> omega) d7
   clear hieq hcame hml hL hLi hlU hlQ hD2 hwin hsplit hm hpl hz
   gi_wp2
   refine wpIn_stage (IsSame Wb (fun k=>k≠gu∧k≠h + 1)) [0,1,2,3,4,5,6,7,8,9,11] [] hmx (by kernel_rfl) (isSame_of fun _ _=>rfl) ?_
   change wpStage _ _ _ _ _ _ _ _ (3 + 10) _ _ _
   refine stage_reads [0,1,2,3,4,5,6,7,8,9] 3 _ _ (by kernel_rfl) ?_
   change wpQuietIn _ _ _ _ (fun W=>∃ x:SameAt Wb (fun k=>k≠gu∧k≠h + 1),W = x.W) _ _ _
   simp only [pick_cons,pick_nil,List.getElem?_cons_zero,List.getElem?_cons_succ,Option.elim_some]
   repeat (gi_big_quiet_step (fail))
   refine wpQuietIn_nil ?_
   refine stage_one 10 (by kernel_rfl) rfl ?_
   gi_wp2
   refine ⟨trivial,?_⟩
   rw [show i + n + 1 - i = n + 1 by omega]
   refine (CallsIn.inRound l (callsIn_wide.2 (HEST.out Wb.drew _ q2 q3))).mono ?_
   rintro e W1 ⟨Wd,rfl,hsw,hlw,hvw,hbk,hon⟩
   have HON:=Lib.hid (show Only gu Wb W1 from ⟨⟨hon.1.os,hon.1.tape,hon.1.output,hon.1.size,hon.1.block⟩,hon.2.1,hon.2.2⟩)
   have HBK:=Lib.hid hbk
   have HW:=Lib.hid (And.intro hsw (And.intro hlw hvw))
   have r6:Blk W1 (h + 1) 117 (U64 Q).toArray:=(hon.2.2 (h + 1) (by omega)).trans q6
   have r6c:=r6.getU (i:=i) (by rw [HLQ.out];exact hil)
   have r6f:=r6.frozen i
   clear hbk hon hsw hlw hvw x0' x1' x5' x7' d0 d1 d5 d7
   gi_wp2
   refine stage_post (isSame_of fun k hk=>HON.out.2.2 k hk.1) ?_
   change wpStage _ _ _ _ _ _ _ _ (1 + 1) _ _ _
   refine stage_reads [11] 1 _ _ (by kernel_rfl) ?_
   change wpQuietIn _ _ _ _ (fun W=>∃ x:SameAt Wb (fun k=>k≠gu∧k≠h + 1),W = x.W) _ _ _
   simp only [pick_cons,pick_nil,List.getElem?_cons_zero,List.getElem?_cons_succ,Option.elim_some]
   repeat (gi_big_quiet_step (fail))
   refine wpQuietIn_nil ?_
   refine stage_one 12 (by kernel_rfl) rfl ?_
   gi_wp2
   refine stage_post (isSame_of fun k hk=>(Below.heap_setCell _ _ _ k hk.2).trans (HON.out.2.2 k hk.1)) ?_
   refine stage_done (by kernel_rfl) ?_
   gi_wp2
   rw [← Int.natCast_ediv]
   obtain ⟨qv,hqv⟩:∃ qv,qv = val ((U.drop i).take (n + 1)) / val (toL (y * s)):=⟨_,rfl⟩
   rw [← hqv]
   have hstep:=HLI.out.step hVn (sm_toL _) hlenV htopV (by rw [HLQ.out];exact hil) HW.out.1 HW.out.2.1 hqv HW.out.2.2
   have hkeep:KeepsOthers Wb W1:=⟨Nat.le_of_eq HON.out.2.1.symm,fun k ob hk ho=>by
    have hne:k≠gu:=by
     intro e
     rw [e] at hk
     have h2:=q2
     unfold Blk at h2
     rw [h2] at hk
     cases hk
     exact absurd ho (by simp [Obj.isCells])
    exact (HON.out.2.2 k hne).trans hk⟩
   refine ⟨hkeep.trans (KeepsOthers.setCell _ _ _),U.take i ++ (Wd ++ U.drop (i + (n + 1))),Q.set i qv,?_,?_,?_,?_,?_,?_,?_,?_,?_,?_,r6.setU i qv,?_⟩
   ·rw [List.length_append,List.length_singleton,show lu - n - (pre.length + 1) = i by have:=HPL.out;omega];exact hstep
   ·rw [List.length_append,List.length_singleton];have:=HPL.out;omega
   ·exact bx_far ((HON.out.2.2 g5 hgun).trans q0) (by intro e;dsimp only at e;omega) _
   ·exact bx_far ((HON.out.2.2 (g5 + 1) (by omega)).trans q1) (by intro e;dsimp only at e;omega) _
   ·exact bx_far ((HON.out.2.2 h (by omega)).trans q5) (by intro e;dsimp only at e;omega) _
   ·exact bx_far ((HON.out.2.2 (h + 1 + 1) (by omega)).trans q7) (by intro e;dsimp only at e;omega) _
   ·exact bx_far ((HON.out.2.2 (h + 1 + 1 + 1) (by omega)).trans q8) (by intro e;dsimp only at e;omega) _
   ·have h2:=HBK.out.far (p:=⟨h + 1,i,none⟩) (by intro e;dsimp only at e;omega) (.int .u64 (qv:Int))
    rw [show U64 (U.take i ++ (Wd ++ U.drop (i + (n + 1)))) ++ ru = U64 (U.take i) ++ (U64 Wd ++ (U64 (U.drop (i + (n + 1))) ++ ru)) by simp [U64]]
    exact h2
   ·exact Blk.far ((HON.out.2.2 gv (by omega)).trans q3) (by intro e;dsimp only at e;omega) _
   ·exact Blk.far ((HON.out.2.2 gs (by omega)).trans q4) (by intro e;dsimp only at e;omega) _
   ·exact (q9.trans (HON.out.1.mono hwgu)).setCell (p:=⟨h + 1,i,none⟩) (by dsimp only;omega) _
  case done =>
   rintro D ys W hD hS ⟨U,Q,hL,hpl,q0,q1,q5,q7,q8,q2,q3,q4,q6,q9⟩ hK
   have hlen:=hS.length
   rw [hlen,Nat.sub_self] at hL
   obtain ⟨e1,e2⟩:=hL.done
   have hrest:=hL.rest (sm_toL _) hlenV
   have hOval:val (toL (x * s) ++ [0]) = x * s:=by rw [val_snoc,val_toL];simp
   rw [hOval,val_toL] at e1 e2
   rw [div_scaled s0] at e1
   rw [mod_scaled] at e2
   rw [e2] at hrest
   have hlU:U.length = lu:=by rw [hL.lu,hlenO]
   have hlQ:Q.length = lu - n:=by have:=hL.lq;rw [hlenO] at this;omega
   have HE1:=Lib.hid e1
   have HRS:=Lib.hid hrest
   have HLQ:=Lib.hid hlQ
   have hsU:=hL.su.take n
   have hsQ:=hL.sq
   have hrowU:Row W (some ⟨gu,0,none⟩) (U64 (U.take n)):=by
    have hr:=(q2.row).take n
    rw [List.take_append_of_le_length (by rw [U64_length];omega),← U64_take] at hr
    exact hr
   have hlUn:(U.take n).length = n:=by rw [List.length_take];omega
   have HLU2:=Lib.hid hlUn
   have d0:=q0.cell
   have d5:=q5.cell
   have d7:=q7.cell
   have ds:=q4.getU (i:=0) (Nat.zero_lt_one)
   have hmx:Tryz.prog.follows .mixedOrders = true:=by kernel_rfl
   have hg0:=q0.lt
   have hq6l:=q6.lt
   have hgsW:=q4.lt
   have hgu7:=q2.lt
   have hh:=q5.lt
   have hh2:=q7.lt
   clear hL hS e1 e2 hrest hOval hlU hlQ hlUn
   gi_wp2
   have x0':∀ X:SameAt W (fun k=>k < W.heap.size),X.W.cell? ⟨g5,0,none⟩ = _:=fun X=>X.cell hg0 d0
   have x5':∀ X:SameAt W (fun k=>k < W.heap.size),X.W.cell? ⟨h,0,none⟩ = _:=fun X=>X.cell hh d5
   have xs':∀ X:SameAt W (fun k=>k < W.heap.size),X.W.cell? ⟨gs,0,none⟩ = _:=fun X=>X.cell hgsW ds
   refine wpIn_stage (IsSame W (fun k=>k < W.heap.size)) [0,1,2,4,5,6,8,9,10,11,12] [] hmx (by kernel_rfl) (isSame_of fun _ _=>rfl) ?_
   change wpStage _ _ _ _ _ _ _ _ (7 + 6) _ _ _
   refine stage_reads [0,1,2,4,5,6] 7 _ _ (by kernel_rfl) ?_
   change wpQuietIn _ _ _ _ (fun W'=>∃ x:SameAt W (fun k=>k < W.heap.size),W' = x.W) _ _ _
   simp only [pick_cons,pick_nil,List.getElem?_cons_zero,List.getElem?_cons_succ,Option.elim_some]
   repeat (gi_big_quiet_step (fail))
   refine wpQuietIn_nil ?_
   refine stage_one 3 (by kernel_rfl) rfl ?_
   gi_wp2
   refine ⟨trivial,?_⟩
   refine (callsIn_wide.2 (trim_any (U.take n) _ n cu W.drew HLU2.out.symm hsU (by rw [HLU2.out];omega) hcum hrowU)).mono ?_
   rintro e w' ⟨rfl,rfl⟩
   rw [HRS.out]
   gi_wp2
   refine stage_post (isSame_of fun _ _=>rfl) ?_
   refine stage_one 7 (by kernel_rfl) rfl ?_
   gi_wp2
   refine ⟨trivial,?_⟩
   refine (callsIn_wide.2 (small_any (x % y * s) s _ W.drew (isNat_trim hsU hrowU (by rw [HLU2.out];omega) hcum HRS.out) ?hlr s0 s1)).mono ?_
   case hlr =>
    rw [← HRS.out]
    have:=toL_len_le_of hsU
    rw [HLU2.out] at this
    omega
   rintro e W2 ⟨vr,rfl,hr,hb⟩
   have hb2:Below W.heap.size W W2:=⟨hb.os,hb.tape,hb.output,hb.size,hb.block⟩
   have HB2:=Lib.hid hb2
   have HR:=Lib.hid hr
   have HWW:=Lib.hid (show Below w.heap.size w W2 from q9.trans (hb2.mono q9.size))
   have d7':=(hb2.cell (p:=⟨h + 1 + 1,0,none⟩) hh2).trans d7
   have hh2':h + 1 + 1 < W2.heap.size:=Nat.lt_of_lt_of_le hh2 hb2.size
   have r6:Blk W2 (h + 1) 117 (U64 Q).toArray:=q6.below hb2 hq6l
   have hK2:W2.heap[D]? = some (.deferred (some [])):=(hb2.block D (Array.getElem?_eq_some_iff.1 hK).1).trans hK
   have HK2:=Lib.hid hK2
   clear hb hb2 hr hK2 hK
   gi_wp2
   refine stage_post (isSame_below HB2.out (fun _ h=>h)) ?_
   change wpStage _ _ _ _ _ _ _ _ (0 + 5) _ _ _
   refine stage_reads [8,9,10,11,12] 0 _ _ (by kernel_rfl) ?_
   change wpQuietIn _ _ _ _ (fun W'=>∃ x:SameAt W (fun k=>k < W.heap.size),W' = x.W) _ _ _
   simp only [pick_cons,pick_nil,List.getElem?_cons_zero,List.getElem?_cons_succ,Option.elim_some]
   repeat (gi_big_quiet_step (fail))
   refine wpQuietIn_nil ?_
   refine stage_done (by kernel_rfl) ?_
   clear x0' x5' xs' d7
   have TKT:True:=trivial
   gi_wp2_with (clear TKT;refine ⟨trivial,?_⟩;gi_at_call 273;refine (callsIn_wide.2 (trim_any Q _ _ _ W2 HLQ.out.symm hsQ (Nat.le_of_eq HLQ.out) (by unfold maxLen;omega) r6.row)).mono ?_;rintro e w' ⟨rfl,rfl⟩)
   refine ⟨by simp,.inl ⟨_,_,rfl,run_takeDeferred HK2.out,?_⟩⟩
   refine ⟨_,results_tmp2 rfl _ _ _,⟨.slice (some ⟨h + 1,0,none⟩) (toL (val Q)).length (lu - n),vr,rfl,?_,?_,?_⟩⟩
   ·have hb2:=r6.own_ (B:=0) (grownBy_putObj' _ D (.deferred none)) (fun r e=>by cases e;exact ⟨Nat.zero_le _,_,HK2.out,rfl⟩)
    have hfin:=isNat_trim hsQ hb2.row (c:=lu - n) (Nat.le_of_eq HLQ.out) (by unfold maxLen;omega) HE1.out
    rw [← HE1.out] at hfin ⊢
    exact hfin
   ·have h2:=HR.out
    rw [Nat.mul_div_cancel _ s0] at h2
    exact isNat_put h2 HK2.out rfl
   ·exact HWW.out.trans (belowK_b (w:=w) (Nat.le_refl _) _ D _ _ (by omega) HK2.out rfl rfl)
  case stop =>
   rintro D c pre x' W hD _ h _
   exact h.elim
theorem divmod_any (x y:Nat) (vx vy:Value) (w:World) (hx:IsNat w vx x) (hy:IsNat w vy y) (hlx:(toL x).length≤30000) (hy0:0 < y) :
  Calls Tryz.prog 278 #[vx,vy] w fun e w'=>∃ vq vr,e = .returned (.tuple #[vq,vr])∧IsNat w' vq (x / y)∧IsNat w' vr (x % y)∧Below w.heap.size w w':=by
 by_cases hlt:x < y
 ·exact divmod_less x y vx vy w hx hy (by omega) hlt
 ·by_cases hl:(toL y).length = 1
  ·exact divmod_one x y vx vy w hx hy (by omega) (by omega) hl
  ·have:=toL_len_pos.2 (show y≠0 by omega)
   exact divmod_long x y vx vy w hx hy hlx (by omega) (by omega)
end Go.Proofs.YtigapglmipmbeaaGreatDoor
namespace Go.Proofs.YtigapglmipmbeaaGreatDoor
open Go.RowKit Go.Shelf
open Lim
theorem gcd_step (a b:Nat):b.gcd (a % b) = a.gcd b:=by
 rw [Nat.gcd_comm b,← Nat.gcd_rec,Nat.gcd_comm]
theorem gcd_any (x y:Nat) (vx vy:Value) (w:World) (hx:IsNat w vx x) (hy:IsNat w vy y) (hlx:(toL x).length≤30000) (hly:(toL y).length≤30000) :
  Calls Tryz.prog 266 #[vx,vy] w fun e w'=>∃ v,e = .returned v∧IsNat w' v (x.gcd y)∧Below w.heap.size w w':=by
 have HX:=Lib.hid hx
 have HY:=Lib.hid hy
 obtain ⟨A,c,rfl,hc,hcm,_⟩:=hx
 obtain ⟨A',c',rfl,hc',hcm',_⟩:=hy
 go_enter Tryz.func266,Tryz.ntmps266
 go_wp2
 go_loopg [0,1] y (fun k s0 s1 wr=>∃ a b:Nat,IsNat wr s0 a∧IsNat wr s1 b∧a.gcd b = x.gcd y∧(toL a).length≤30000∧(toL b).length≤30000∧b≤k∧Below w.heap.size w wr)
 case atStart=>exact ⟨x,y,HX.out,HY.out,rfl,hlx,hly,Nat.le_refl _,Below.refl _ _⟩
 case round =>
  obtain ⟨a,b,ha,hb,hg,hla,hlb,hbk,hB⟩:=hrel
  have HA:=Lib.hid ha
  have HB:=Lib.hid hb
  have HG:=Lib.hid hg
  have HBW:=Lib.hid hB
  obtain ⟨A1,c1,rfl,hc1,hcm1,_⟩:=ha
  obtain ⟨A2,c2,rfl,hc2,hcm2,_⟩:=hb
  clear hg hB
  by_cases hb0:b = 0
  ·subst hb0
   have hl0:(toL 0).length = 0:=by rw [toL_zero];rfl
   rw [hl0]
   clear hl0
   go_wp2
   go_ret
   refine ⟨_,rfl,?_,HBW.out⟩
   have:=HG.out
   rw [Nat.gcd_zero_right] at this
   rw [← this]
   exact HA.out
  ·have hpos:0 < b:=by omega
   have hlp:(0:Int) < ((toL b).length:Int):=by have:=toL_len_pos.2 hb0;omega
   have TK1:True:=trivial
   clear hb0
   go_wp2_with (clear TK1;go_at_call 278;refine (divmod_any a b _ _ _ HA.out HB.out hla hpos).mono ?_;rintro e w1 ⟨vq,vr,rfl,hq,hr,hb1⟩;have HR:=Lib.hid hr;have HB1:=Lib.hid hb1;clear hq hr hb1)
   have hm:=Nat.mod_lt a hpos
   go_roundg (a % b)
   case rel=>exact ⟨b,a % b,HB.out.below HB1.out,HR.out,(gcd_step a b).trans HG.out,hlb,Nat.le_trans (toL_len_mono (Nat.le_of_lt hm)) hlb,Nat.le_refl _,HBW.out.trans (HB1.out.mono HBW.out.size)⟩
   case measure=>omega
theorem zero_any (x:Nat) (vx:Value) (w:World) (hx:IsNat w vx x) :
  Calls Tryz.prog 260 #[vx] w fun e w'=>e = .returned (.bool (decide (x = 0)))∧w' = w:=by
 obtain ⟨A,c,rfl,hc,hcm,_⟩:=hx
 have hd:(((toL x).length:Int) == 0) = decide (x = 0):=by
  by_cases h:x = 0
  ·subst h;rw [toL_zero];rfl
  ·have:=toL_len_pos.2 h
   rw [decide_eq_false h,beq_eq_false_iff_ne];omega
 go_enter Tryz.func260,Tryz.ntmps260
 go_wp2
 go_ret
 exact ⟨rfl,rfl⟩
theorem one_any (x:Nat) (vx:Value) (w:World) (hx:IsNat w vx x) :
  Calls Tryz.prog 252 #[vx] w fun e w'=>e = .returned (.bool (decide (x = 1)))∧w' = w:=by
 obtain ⟨A,c,rfl,hc,hcm,hr⟩:=hx
 have e1:toL 1 = [1]:=by rw [toL_pos (by omega)];simp [B_val,toL_zero]
 by_cases hl:(toL x).length = 1
 ·obtain ⟨b,o,rfl,hb,hcell⟩:=hr (by rw [U64_length];omega)
  have hc0:=hcell 0 _ (U64_get (by omega))
  rw [Nat.add_zero] at hc0
  obtain ⟨z,hz⟩:=List.length_eq_one_iff.1 hl
  have hv:=val_toL x
  rw [hz] at hc0 hv
  simp only [List.getElem?_cons_zero,Option.getD_some] at hc0
  simp only [val,Nat.mul_zero,Nat.add_zero] at hv
  subst hv
  rw [hl]
  clear hcell hr hl hc hz
  by_cases h1:z = 1
  ·subst h1
   go_enter Tryz.func252,Tryz.ntmps252
   go_wp2
   go_ret
   exact ⟨rfl,rfl⟩
  ·have hd:((z:Int) == 1) = false:=by rw [beq_eq_false_iff_ne];omega
   have hd2:decide (z = 1) = false:=decide_eq_false h1
   rw [hd2]
   clear h1 hd2
   go_enter Tryz.func252,Tryz.ntmps252
   go_wp2
   go_ret
   exact ⟨rfl,rfl⟩
 ·have hd:(((toL x).length:Int) == 1) = false:=by rw [beq_eq_false_iff_ne];omega
  have hd2:decide (x = 1) = false:=decide_eq_false (fun e=>hl (by rw [e,e1];rfl))
  rw [hd2]
  clear hd2 hl e1
  go_enter Tryz.func252,Tryz.ntmps252
  go_wp2
  go_ret
  exact ⟨rfl,rfl⟩
end Go.Proofs.YtigapglmipmbeaaGreatDoor
