/- How long rational numbers are. No program in sight. frac: fractions. limbs.Nat.Pow. frac: the functions whose regions draw their order. frac.Num: the text of a fraction. the reference's trim The reference's product. limbs.Nat.Add limbs.Nat.Sub The reference's Order, Plus, Minus. The reference's Plus and Minus. The reference's Minus, scaled, short. limbs.Parse; the reference's Read. The reference's Read. limbs.Form; the reference's Check. frac.Integer, frac.Parse. -/
import Derived.Test.YtigapglmipmbeaaGreatDoorLwLedgerNone04
import Derived.Test.YtigapglmipmbeaaGreatDoorLwLedgerNone03
import Derived.Test.YtigapglmipmbeaaGreatDoorLwLedgerNone02
import Derived.Sort.CutIn
import Derived.Test.YtigapglmipmbeaaGreatDoorLwLedgerNone01
set_option maxRecDepth 100000
set_option maxHeartbeats 16000000
namespace Go.Proofs.YtigapglmipmbeaaGreatDoor.Lim
open Go.Lib
def Sz (k:Nat) (q:Rat):Prop:=nm q < 10 ^ k∧q.den < 10 ^ k
theorem pow_le {j k:Nat} (h:j≤k):10 ^ j≤10 ^ k:=Nat.pow_le_pow_right (by omega) h
theorem Sz.mono {j k:Nat} {q:Rat} (h:Sz j q) (hk:j≤k):Sz k q:=⟨Nat.lt_of_lt_of_le h.1 (pow_le hk),Nat.lt_of_lt_of_le h.2 (pow_le hk)⟩
theorem Sz.pos {k:Nat} {q:Rat} (h:Sz k q):0 < k:=by
 rcases Nat.eq_zero_or_pos k with rfl|hk
 ·have:=h.2;have:=den_pos q;omega
 ·exact hk
theorem nDigits_iff {n k:Nat} (hk:0 < k):nDigits n≤k↔n < 10 ^ k:=⟨le_of_nDigits,nDigits_le hk⟩
theorem sz_iff {k:Nat} (hk:0 < k) {q:Rat}:Sz k q↔nDigits (nm q)≤k∧nDigits q.den≤k:=by
 unfold Sz;rw [nDigits_iff hk,nDigits_iff hk]
theorem outQ_ok {k:Nat} {q:Rat} (h:Sz k q) (hk:k≤maxD):outQ q=(ratText q,0):=by
 obtain ⟨h1,h2⟩:=(sz_iff h.pos).1 h
 unfold outQ;rw [if_neg (by omega)]
theorem errQ_ok {k:Nat} {q:Rat} (h:Sz k q) (hk:k≤maxD):errQ (ratText q)=0:=by
 obtain ⟨h1,h2⟩:=(sz_iff h.pos).1 h
 exact errQ_rat (by omega) (by omega)
theorem mkQ_nm_le {m:Bool} {n d:Nat} (hd:d≠0):nm (mkQ m n d)≤n:=by rw [mkQ_nm hd];exact Nat.div_le_self _ _
theorem mkQ_den_le {m:Bool} {n d:Nat} (hd:d≠0):(mkQ m n d).den≤d:=by rw [mkQ_den hd];exact Nat.div_le_self _ _
theorem mul_lt_pow {a b j k:Nat} (ha:a < 10 ^ j) (hb:b < 10 ^ k):a*b < 10 ^ (j+k):=by
 rw [Nat.pow_add];exact Nat.mul_lt_mul'' ha hb
section
variable {j k:Nat} {a b:Rat}
theorem Sz.add (ha:Sz j a) (hb:Sz k b):Sz (j+k+1) (a+b):=by
 have x:=mul_lt_pow ha.1 hb.2
 have y:=mul_lt_pow hb.1 ha.2
 have d:=mul_lt_pow ha.2 hb.2
 rw [Nat.add_comm k j] at y
 have hd:a.den*b.den≠0:=Nat.ne_of_gt (Nat.mul_pos (den_pos a) (den_pos b))
 have hp:10 ^ (j+k+1)=10 ^ (j+k)*10:=Nat.pow_succ ..
 by_cases h:ng a=ng b
 ·rw [add_same h]
  have h1:=mkQ_nm_le (m:=ng a) (n:=nm a*b.den+nm b*a.den) hd
  have h2:=mkQ_den_le (m:=ng a) (n:=nm a*b.den+nm b*a.den) hd
  exact ⟨by omega,by omega⟩
 ·by_cases hlt:nm a*b.den < nm b*a.den
  ·rw [add_less h hlt]
   have h1:=mkQ_nm_le (m:=ng b) (n:=nm b*a.den - nm a*b.den) hd
   have h2:=mkQ_den_le (m:=ng b) (n:=nm b*a.den - nm a*b.den) hd
   exact ⟨by omega,by omega⟩
  ·rw [add_more h hlt]
   have h1:=mkQ_nm_le (m:=ng a) (n:=nm a*b.den - nm b*a.den) hd
   have h2:=mkQ_den_le (m:=ng a) (n:=nm a*b.den - nm b*a.den) hd
   exact ⟨by omega,by omega⟩
theorem Sz.mul (ha:Sz j a) (hb:Sz k b):Sz (j+k) (a*b):=by
 have x:=mul_lt_pow ha.1 hb.1
 have d:=mul_lt_pow ha.2 hb.2
 have hd:a.den*b.den≠0:=Nat.ne_of_gt (Nat.mul_pos (den_pos a) (den_pos b))
 rw [mul_parts]
 exact ⟨Nat.lt_of_le_of_lt (mkQ_nm_le hd) x,Nat.lt_of_le_of_lt (mkQ_den_le hd) d⟩
theorem Sz.neg (ha:Sz j a):Sz j (-a):=by
 obtain ⟨_,h1,h2⟩:=neg_parts a
 exact ⟨by rw [h1];exact ha.1,by rw [h2];exact ha.2⟩
theorem Sz.one:Sz 1 1:=⟨by decide,by decide⟩
theorem Sz.zero:Sz 1 0:=⟨by decide,by decide⟩
theorem pow_lt_pow {x j:Nat} (h:x < 10 ^ j):∀ n,0 < n→x ^ n < 10 ^ (j*n):=fun n hn=>by
 rw [Nat.pow_mul];exact Nat.pow_lt_pow_left h (by omega)
theorem Sz.pow (ha:Sz j a) (n:Nat):Sz (j*n+1) (a ^ n):=by
 rcases Nat.eq_zero_or_pos n with rfl|hn
 ·rw [Rat.pow_zero];exact Sz.one.mono (by omega)
 ·obtain ⟨h1,h2,_⟩:=pow_parts a n
  have hx:=pow_lt_pow ha.1 n hn
  have hy:=pow_lt_pow ha.2 n hn
  have hp:=pow_le (show j*n≤j*n+1 by omega)
  exact ⟨by rw [h1];omega,by rw [h2];omega⟩
end
theorem sz_max {s:List UInt8} (h:errQ s=0):Sz maxD (valQ s):=by
 obtain ⟨_,h1,h2⟩:=text_of_ok h
 exact (sz_iff (by decide)).2 ⟨h1,h2⟩
theorem limbs_of {n k:Nat} (h:n < 10 ^ (9*k)):(toL n).length≤k:=toL_len_le (by rw [B_pow];exact h)
theorem Sz.limbs {k:Nat} {q:Rat} (h:Sz (9*k) q):(toL (nm q)).length≤k∧(toL q.den).length≤k:=⟨limbs_of h.1,limbs_of h.2⟩
end Go.Proofs.YtigapglmipmbeaaGreatDoor.Lim
namespace Go.Proofs.YtigapglmipmbeaaGreatDoor
open Go.RowKit Go.Shelf
open Lim
def IsParts (w:World) (v:Value) (m:Bool) (n d:Nat):Prop:=∃ An cn Ad cd,v=.agg #[.bool m,.slice An (toL n).length cn,.slice Ad (toL d).length cd]∧IsNat w (.slice An (toL n).length cn) n∧IsNat w (.slice Ad (toL d).length cd) d
def IsFrac (w:World) (v:Value) (q:Rat):Prop:=IsParts w v (ng q) (nm q) q.den
theorem IsParts.below {w w':World} {v:Value} {m:Bool} {n d:Nat} (h:IsParts w v m n d) (hb:Below w.heap.size w w'):IsParts w' v m n d:=by
 obtain ⟨An,cn,Ad,cd,e,h1,h2⟩:=h
 exact ⟨An,cn,Ad,cd,e,h1.below hb,h2.below hb⟩
theorem IsFrac.below {w w':World} {v:Value} {q:Rat} (h:IsFrac w v q) (hb:Below w.heap.size w w'):IsFrac w' v q:=IsParts.below h hb
theorem isParts_mk {w:World} {m:Bool} {n d:Nat} {vn vd:Value} (h1:IsNat w vn n) (h2:IsNat w vd d):IsParts w (.agg #[.bool m,vn,vd]) m n d:=by
 obtain ⟨An,cn,rfl,a1,a2,a3⟩:=h1
 obtain ⟨Ad,cd,rfl,b1,b2,b3⟩:=h2
 exact ⟨An,cn,Ad,cd,rfl,⟨An,cn,rfl,a1,a2,a3⟩,⟨Ad,cd,rfl,b1,b2,b3⟩⟩
def sgQ (q:Rat):Int:=if nm q=0 then 0 else if ng q then -1 else 1
theorem len_zero {n:Nat}:(((toL n).length:Int)==0)=decide (n=0):=by
 by_cases h:n=0
 ·subst h;simp [toL_zero]
 ·have:=toL_len_pos.2 h
  rw [decide_eq_false h,beq_eq_false_iff_ne]
  omega
theorem sign_any (q:Rat) (v:Value) (w:World) (h:IsFrac w v q) :
  Calls Tryz.prog 211 #[v] w fun e w'=>e=.returned (.int .i64 (sgQ q))∧Below w.heap.size w w':=by
 obtain ⟨An,cn,Ad,cd,rfl,h1,h2⟩:=h
 have hz:=len_zero (n:=nm q)
 have hb:=fun vn vd m=>(Below.refl w.heap.size w).alloc (Nat.le_refl _) (.cells #[.bool m,vn,vd] 216)
 have HB:=Lib.hid hb
 unfold sgQ
 clear h1 h2 hb
 by_cases h0:nm q=0
 ·rw [decide_eq_true h0] at hz
  rw [if_pos h0]
  clear h0
  go_enter Tryz.func211,Tryz.ntmps211
  go_wp2
  refine bodyPost_ret (results_tmp rfl _ _ _) rfl ?_
  exact ⟨rfl,HB.out _ _ _⟩
 ·rw [decide_eq_false h0] at hz
  rw [if_neg h0]
  clear h0
  generalize ng q=m
  cases m with
  | true =>
   go_enter Tryz.func211,Tryz.ntmps211
   go_wp2
   refine bodyPost_ret (results_tmp rfl _ _ _) rfl ?_
   exact ⟨rfl,HB.out _ _ _⟩
  | false =>
   go_enter Tryz.func211,Tryz.ntmps211
   go_wp2
   refine bodyPost_ret (results_tmp rfl _ _ _) rfl ?_
   exact ⟨rfl,HB.out _ _ _⟩
theorem cellrow {w:World} {b:Nat} {cs:Array Value} {t:TypeId} (h:Blk w b t cs) (i:Nat) (hi:i < cs.size):w.cell? ⟨b,i,none⟩=some cs[i]∧w.frozen? ⟨b,i,none⟩=false:=by
 unfold Blk at h
 refine ⟨by simp [World.cell?,h,hi],by simp [World.frozen?,h]⟩
theorem fsize:(Tryz.prog.info? 216).map (·.size)=some 3:=by kernel_rfl
theorem ret_frac {fn:Func} {p:Tmp} {R:Ending→World→Prop} {a:Act} {w:World} {g:Nat} {t:TypeId} {m vn vd:Value} (h:fn.results=#[.cell p 216]) (hd:a.defers=[]) (hp:a.tmps.getD p undef=.pointer (some ⟨g,0,none⟩))
  (hg:Blk w g t #[m,vn,vd]) (hR:R (.returned (.agg #[m,vn,vd])) w):bodyPost Tryz.prog fn R .ret a w :=
 bodyPost_ret (results_cell_row h _ _ g t _ (0,0) _ hp hg Tryz.underlying216 rfl fsize) hd hR
theorem set3 {w:World} {g:Nat} {t:TypeId} {a b c x y z:Value} (h:Blk w g t #[a,b,c]):Blk (((w.setCell ⟨g,0,none⟩ x).setCell ⟨g,1,none⟩ y).setCell ⟨g,2,none⟩ z) g t #[x,y,z]:=((h.set_ 0 x).set_ 1 y).set_ 2 z
theorem set3_below {n:Nat} {w w':World} {g:Nat} {x y z:Value} (h:Below n w w') (hg:n≤g):Below n w (((w'.setCell ⟨g,0,none⟩ x).setCell ⟨g,1,none⟩ y).setCell ⟨g,2,none⟩ z):=((h.setCell hg _).setCell hg _).setCell hg _
theorem IsNat.far {w:World} {v:Value} {n g:Nat} {t:TypeId} {a b c:Value} {i:Nat} {x:Value} (h:IsNat w v n) (hb:Blk w g t #[a,b,c]) (ha:∀ z:Int,a≠.int .u64 z) (hbb:∀ z:Int,b≠.int .u64 z) (hc:∀ z:Int,c≠.int .u64 z):IsNat (w.setCell ⟨g,i,none⟩ x) v n:=by
 obtain ⟨A,k,e,h1,h2,h3⟩:=h
 refine ⟨A,k,e,h1,h2,fun h0=>?_⟩
 obtain ⟨b',o,hA,hlt,hcc⟩:=h3 h0
 have hz:=U64_get (l:=toL n) (j:=0) (by rwa [U64_length] at h0)
 have hc0:=hcc 0 _ hz
 have hne:b'≠g:=by
  intro e
  subst e
  have:=Blk.cell hb (o+0)
  rw [hc0] at this
  rcases ho:o+0 with _|_|_|k
  ·rw [ho] at this;simp at this;exact ha _ this.symm
  ·rw [ho] at this;simp at this;exact hbb _ this.symm
  ·rw [ho] at this;simp at this;exact hc _ this.symm
  ·rw [ho] at this;simp at this
 have hh:=Below.heap_setCell w ⟨g,i,none⟩ x b' hne
 exact ⟨b',o,hA,by simpa [World.setCell] using hlt,fun j x hx=>SameAt.cell (w:=w) (S:=fun k=>k=b') ⟨_,fun k hk=>by rw [hk];exact hh⟩ rfl (hcc j x hx)⟩
theorem isNat_set3 {w:World} {v:Value} {n g:Nat} {t:TypeId} {m' m:Bool} {A A' D D':Option Addr} {l c l' c' a b a' b':Nat} (h:IsNat w v n) (hb:Blk w g t #[.bool m,.slice A l c,.slice A' l' c']) :
  IsNat (((w.setCell ⟨g,0,none⟩ (.bool m')).setCell ⟨g,1,none⟩ (.slice D a b)).setCell ⟨g,2,none⟩ (.slice D' a' b')) v n :=
 ((h.far hb (fun _ h=>by cases h) (fun _ h=>by cases h) (fun _ h=>by cases h)).far (hb.set_ 0 (.bool m')) (fun _ h=>by cases h) (fun _ h=>by cases h) (fun _ h=>by cases h)).far ((hb.set_ 0 (.bool m')).set_ 1 (.slice D a b)) (fun _ h=>by cases h) (fun _ h=>by cases h) (fun _ h=>by cases h)
theorem toL_zero_nat (w:World):IsNat w (.slice none 0 0) 0:=⟨none,0,by rw [toL_zero];rfl,by rw [toL_zero];exact Nat.le_refl _,by unfold maxLen;omega,fun h=>by rw [toL_zero] at h;simp [U64] at h⟩
theorem fzero_any (w:World) :
  Calls Tryz.prog 277 #[] w fun e w'=>∃ v',e=.returned v'∧IsParts w' v' false 0 1∧Below w.heap.size w w':=by
 go_enter Tryz.func277,Tryz.ntmps277
 go_upto_region 1 with fail
 have HB0:=Lib.hid (Blk.new w 216 #[.bool false,.slice none 0 0,.slice none 0 0])
 have hbw:=(Below.refl w.heap.size w).alloc (Nat.le_refl _) (.cells #[.bool false,.slice none 0 0,.slice none 0 0] 216)
 have HBW:=Lib.hid hbw
 clear hbw
 go_wp2_with (go_at_call 304;refine (of_any 1 _ (by omega)).mono ?_;rintro e w1 ⟨v1,rfl,ho,hb⟩;obtain ⟨A,c,rfl,_,_,_⟩:=id ho;have HB1:=Lib.hid (HB0.out.below hb HB0.out.lt);obtain ⟨r0,s0⟩:=cellrow HB1.out 0 (by simp);obtain ⟨r1,s1⟩:=cellrow HB1.out 1 (by simp);obtain ⟨r2,s2⟩:=cellrow HB1.out 2 (by simp);have HO:=Lib.hid ho;have HX:=Lib.hid hb;clear ho hb)
 refine ret_frac rfl rfl (by simp) (set3 HB1.out) ⟨_,rfl,?_,?_⟩
 ·exact isParts_mk (toL_zero_nat _) (isNat_set3 HO.out HB1.out)
 ·exact set3_below (HBW.out.trans (HX.out.mono (by simp))) (Nat.le_refl _)
theorem res_rows {w w':World} {n g:Nat} {m:Bool} {A A':Option Addr} {l c l' c':Nat} (h:Blk w g 216 #[.bool m,.slice A l c,.slice A' l' c']) (hb:Below n w w') (hg:g < n) :
  Hid (Blk w' g 216 #[.bool m,.slice A l c,.slice A' l' c'])∧w'.cell? ⟨g,0,none⟩=some (.bool m)∧w'.frozen? ⟨g,0,none⟩=false∧w'.cell? ⟨g,1,none⟩=some (.slice A l c)∧w'.frozen? ⟨g,1,none⟩=false∧w'.cell? ⟨g,2,none⟩=some (.slice A' l' c')∧w'.frozen? ⟨g,2,none⟩=false:=by
 have h':=h.below hb hg
 obtain ⟨r0,s0⟩:=cellrow h' 0 (by simp)
 obtain ⟨r1,s1⟩:=cellrow h' 1 (by simp)
 obtain ⟨r2,s2⟩:=cellrow h' 2 (by simp)
 exact ⟨Lib.hid h',r0,s0,r1,s1,r2,s2⟩
theorem make_zero (m:Bool) (n d:Nat) (vn vd:Value) (w:World) (hn:IsNat w vn n) (hd:IsNat w vd d) (h0:n=0) :
  Calls Tryz.prog 247 #[.bool m,vn,vd] w fun e w'=>∃ v,e=.returned v∧IsParts w' v false 0 1∧Below w.heap.size w w':=by
 have HN:=Lib.hid hn
 obtain ⟨An,cn,rfl,_,_,_⟩:=hn
 obtain ⟨Ad,cd,rfl,_,_,_⟩:=hd
 have hz:decide (n=0)=true:=decide_eq_true h0
 have HB0:=Lib.hid (Blk.new w 216 #[.bool false,.slice none 0 0,.slice none 0 0])
 have HBW:=Lib.hid ((Below.refl w.heap.size w).alloc (Nat.le_refl _) (.cells #[.bool false,.slice none 0 0,.slice none 0 0] 216))
 clear h0
 go_enter Tryz.func247,Tryz.ntmps247
 go_wp2_with (first
  | (go_at_call 260;refine (zero_any n _ _ (HN.out.below HBW.out)).mono ?_;rintro e w1 ⟨rfl,rfl⟩;rw [hz])
  | (go_at_call 277;refine (fzero_any _).mono ?_;rintro e w1 ⟨v1,rfl,⟨An',cn',Ad',cd',rfl,hn',hd'⟩,hb⟩;have HN':=Lib.hid hn';have HD':=Lib.hid hd';have HX:=Lib.hid hb;obtain ⟨HB1,r0,s0,r1,s1,r2,s2⟩:=res_rows HB0.out hb (by simp);clear hb hn' hd'))
 refine ret_frac rfl rfl (by simp) (set3 HB1.out) ⟨_,rfl,?_,?_⟩
 ·exact isParts_mk (isNat_set3 HN'.out HB1.out) (isNat_set3 HD'.out HB1.out)
 ·exact set3_below (HBW.out.trans (HX.out.mono (by simp))) (Nat.le_refl _)
theorem make_one (m:Bool) (n d:Nat) (vn vd:Value) (w:World) (hn:IsNat w vn n) (hd:IsNat w vd d) (h0:n≠0) (h1:d=1) :
  Calls Tryz.prog 247 #[.bool m,vn,vd] w fun e w'=>∃ v,e=.returned v∧IsParts w' v m n d∧Below w.heap.size w w':=by
 have HN:=Lib.hid hn
 have HD:=Lib.hid hd
 obtain ⟨An,cn,rfl,_,_,_⟩:=hn
 obtain ⟨Ad,cd,rfl,_,_,_⟩:=hd
 have hz:decide (n=0)=false:=decide_eq_false h0
 have hd1:decide (d=1)=true:=decide_eq_true h1
 have hbw:=(Below.refl w.heap.size w).alloc (Nat.le_refl _) (.cells #[.bool false,.slice none 0 0,.slice none 0 0] 216)
 have hbm:=(Below.refl w.heap.size w).alloc (Nat.le_refl _) (.cells #[.bool m,.slice An (toL n).length cn,.slice Ad (toL d).length cd] 216)
 have HBW:=Lib.hid hbw
 have HBM:=Lib.hid hbm
 clear h0 h1 hbw hbm
 go_enter Tryz.func247,Tryz.ntmps247
 go_wp2_with (first
  | (go_at_call 260;refine (zero_any n _ _ (HN.out.below HBW.out)).mono ?_;rintro e w1 ⟨rfl,rfl⟩;rw [hz])
  | (go_at_call 252;refine (one_any d _ _ (HD.out.below HBW.out)).mono ?_;rintro e w1 ⟨rfl,rfl⟩;rw [hd1]))
 refine ret_frac rfl rfl (by simp) (Blk.new w 216 #[.bool m,.slice An (toL n).length cn,.slice Ad (toL d).length cd]) ⟨_,rfl,?_,?_⟩
 ·exact isParts_mk (HN.out.below HBM.out) (HD.out.below HBM.out)
 ·exact HBM.out
theorem make_low (m:Bool) (n d:Nat) (vn vd:Value) (w:World) (hn:IsNat w vn n) (hd:IsNat w vd d) (h0:n≠0) (h1:d≠1) (hg:n.gcd d=1) (hln:(toL n).length≤30000) (hld:(toL d).length≤30000) :
  Calls Tryz.prog 247 #[.bool m,vn,vd] w fun e w'=>∃ v,e=.returned v∧IsParts w' v m n d∧Below w.heap.size w w':=by
 have HN:=Lib.hid hn
 have HD:=Lib.hid hd
 obtain ⟨An,cn,rfl,_,_,_⟩:=hn
 obtain ⟨Ad,cd,rfl,_,_,_⟩:=hd
 have hz:decide (n=0)=false:=decide_eq_false h0
 have hd1:decide (d=1)=false:=decide_eq_false h1
 have hg1:decide (n.gcd d=1)=true:=decide_eq_true hg
 have HB0:=Lib.hid (Blk.new w 216 #[.bool false,.slice none 0 0,.slice none 0 0])
 have HBW:=Lib.hid ((Below.refl w.heap.size w).alloc (Nat.le_refl _) (.cells #[.bool false,.slice none 0 0,.slice none 0 0] 216))
 have TK1:True:=trivial
 clear h0 h1 hg
 go_enter Tryz.func247,Tryz.ntmps247
 go_wp2_with (first
  | (go_at_call 260;refine (zero_any n _ _ (HN.out.below HBW.out)).mono ?_;rintro e w1 ⟨rfl,rfl⟩;rw [hz])
  | (clear TK1;go_at_call 252;refine (one_any d _ _ (HD.out.below HBW.out)).mono ?_;rintro e w1 ⟨rfl,rfl⟩;rw [hd1])
  | (go_at_call 266;refine (gcd_any n d _ _ _ (HN.out.below HBW.out) (HD.out.below HBW.out) hln hld).mono ?_;rintro e w1 ⟨v1,rfl,hgv,hb⟩;obtain ⟨Ag,cg,rfl,_,_,_⟩:=id hgv;have HG:=Lib.hid hgv;have HX:=Lib.hid hb;obtain ⟨HB1,r0,s0,r1,s1,r2,s2⟩:=res_rows HB0.out hb (by simp);clear hb hgv)
  | (go_at_call 252;refine (one_any (n.gcd d) _ _ HG.out).mono ?_;rintro e w2 ⟨rfl,hw2⟩;subst hw2;rw [hg1]))
 have hB:=HBW.out.trans (HX.out.mono (by simp))
 refine ret_frac rfl rfl (by simp) (set3 HB1.out) ⟨_,rfl,?_,?_⟩
 ·exact isParts_mk (isNat_set3 (HN.out.below hB) HB1.out) (isNat_set3 (HD.out.below hB) HB1.out)
 ·exact set3_below hB (Nat.le_refl _)
theorem make_red (m:Bool) (n d:Nat) (vn vd:Value) (w:World) (hn:IsNat w vn n) (hd:IsNat w vd d) (h0:n≠0) (_hd0:d≠0) (h1:d≠1) (hg:n.gcd d≠1) (hln:(toL n).length≤30000) (hld:(toL d).length≤30000) :
  Calls Tryz.prog 247 #[.bool m,vn,vd] w fun e w'=>∃ v,e=.returned v∧IsParts w' v m (n / n.gcd d) (d / n.gcd d)∧Below w.heap.size w w':=by
 have HN:=Lib.hid hn
 have HD:=Lib.hid hd
 obtain ⟨An,cn,rfl,_,_,_⟩:=hn
 obtain ⟨Ad,cd,rfl,_,_,_⟩:=hd
 have hz:decide (n=0)=false:=decide_eq_false h0
 have hd1:decide (d=1)=false:=decide_eq_false h1
 have hg1:decide (n.gcd d=1)=false:=decide_eq_false hg
 have hgp:0 < n.gcd d:=Nat.gcd_pos_of_pos_left _ (Nat.pos_of_ne_zero h0)
 have HB0:=Lib.hid (Blk.new w 216 #[.bool false,.slice none 0 0,.slice none 0 0])
 have HBW:=Lib.hid ((Below.refl w.heap.size w).alloc (Nat.le_refl _) (.cells #[.bool false,.slice none 0 0,.slice none 0 0] 216))
 have TK1:True:=trivial
 have TK2:True:=trivial
 clear h0 h1 hg
 go_enter Tryz.func247,Tryz.ntmps247
 go_wp2_with (first
  | (go_at_call 260;refine (zero_any n _ _ (HN.out.below HBW.out)).mono ?_;rintro e w1 ⟨rfl,rfl⟩;rw [hz])
  | (clear TK1;go_at_call 252;refine (one_any d _ _ (HD.out.below HBW.out)).mono ?_;rintro e w1 ⟨rfl,rfl⟩;rw [hd1])
  | (go_at_call 266;refine (gcd_any n d _ _ _ (HN.out.below HBW.out) (HD.out.below HBW.out) hln hld).mono ?_;rintro e w1 ⟨v1,rfl,hgv,hb⟩;obtain ⟨Ag,cg,rfl,_,_,_⟩:=id hgv;have HG:=Lib.hid hgv;have HX:=Lib.hid (HBW.out.trans (hb.mono (by simp)));have HB1:=Lib.hid (HB0.out.below hb HB0.out.lt);clear hb hgv)
  | (go_at_call 252;refine (one_any (n.gcd d) _ _ HG.out).mono ?_;rintro e w2 ⟨rfl,hw2⟩;subst hw2;rw [hg1])
  | (clear TK2;go_at_call 278;refine (divmod_any n (n.gcd d) _ _ _ (HN.out.below HX.out) HG.out hln hgp).mono ?_;rintro e w3 ⟨vq3,vr3,rfl,hq3,hr3,hb3⟩;obtain ⟨Aq3,cq3,rfl,_,_,_⟩:=id hq3;have HQ3:=Lib.hid hq3;have HX3:=Lib.hid hb3;have HB3:=Lib.hid (HB1.out.below hb3 HB1.out.lt);clear hb3 hq3 hr3)
  | (go_at_call 278;refine (divmod_any d (n.gcd d) _ _ _ ((HD.out.below HX.out).below HX3.out) (HG.out.below HX3.out) hld hgp).mono ?_;rintro e w4 ⟨vq4,vr4,rfl,hq4,hr4,hb4⟩;obtain ⟨Aq4,cq4,rfl,_,_,_⟩:=id hq4;have HQ4:=Lib.hid hq4;have HX4:=Lib.hid hb4;obtain ⟨HB4,r0,s0,r1,s1,r2,s2⟩:=res_rows HB3.out hb4 HB3.out.lt;clear hb4 hq4 hr4))
 have hB:=HX.out.trans ((HX3.out.mono HX.out.size).trans (HX4.out.mono (Nat.le_trans HX.out.size HX3.out.size)))
 refine ret_frac rfl rfl (by simp) (set3 HB4.out) ⟨_,rfl,?_,?_⟩
 ·exact isParts_mk (isNat_set3 (HQ3.out.below HX4.out) HB4.out) (isNat_set3 HQ4.out HB4.out)
 ·exact set3_below hB (Nat.le_refl _)
theorem fmake_any (m:Bool) (n d:Nat) (vn vd:Value) (w:World) (hn:IsNat w vn n) (hd:IsNat w vd d) (hd0:d≠0) (hln:(toL n).length≤30000) (hld:(toL d).length≤30000) :
  Calls Tryz.prog 247 #[.bool m,vn,vd] w fun e w'=>∃ v,e=.returned v∧IsFrac w' v (mkQ m n d)∧Below w.heap.size w w':=by
 by_cases h0:n=0
 ·refine (make_zero m n d vn vd w hn hd h0).mono ?_
  rintro e w' ⟨v,rfl,h,hb⟩
  subst h0
  exact ⟨v,rfl,by rw [mkQ_zero];exact h,hb⟩
 ·have low:n.gcd d=1→(∀ w' v,IsParts w' v m n d→IsFrac w' v (mkQ m n d)):=fun hg w' v h=>by
   obtain ⟨h1,h2,h3⟩:=mkQ_low (m:=m) hd0 hg
   unfold IsFrac
   rw [h1,h2,h3,decide_eq_true h0,Bool.and_true]
   exact h
  by_cases h1:d=1
  ·refine (make_one m n d vn vd w hn hd h0 h1).mono ?_
   rintro e w' ⟨v,rfl,h,hb⟩
   exact ⟨v,rfl,low (by rw [h1,Nat.gcd_one_right]) _ _ h,hb⟩
  ·by_cases hg:n.gcd d=1
   ·refine (make_low m n d vn vd w hn hd h0 h1 hg hln hld).mono ?_
    rintro e w' ⟨v,rfl,h,hb⟩
    exact ⟨v,rfl,low hg _ _ h,hb⟩
   ·refine (make_red m n d vn vd w hn hd h0 hd0 h1 hg hln hld).mono ?_
    rintro e w' ⟨v,rfl,h,hb⟩
    refine ⟨v,rfl,?_,hb⟩
    unfold IsFrac
    rw [mkQ_ng hd0,mkQ_nm hd0,mkQ_den hd0,decide_eq_true h0,Bool.and_true]
    exact h
end Go.Proofs.YtigapglmipmbeaaGreatDoor
namespace Go.Proofs.YtigapglmipmbeaaGreatDoor
open Go.RowKit Go.Shelf
open Lim
attribute [local go_sem] Oper.semAt_some
theorem toL_mul_len (a b:Nat):(toL (a*b)).length≤(toL a).length+(toL b).length :=
 toL_len_le (by rw [Nat.pow_add];exact Nat.mul_lt_mul'' (toL_lt a) (toL_lt b))
theorem limbs_of_nd {n k j:Nat} (h:Lib.nDigits n≤k) (hk:k≤9*j):(toL n).length≤j:=limbs_of (Nat.lt_of_lt_of_le (le_of_nDigits h) (pow_le hk))
theorem pow_zero (x:Nat) (vx:Value) (w:World) (hx:IsNat w vx x) :
  Calls Tryz.prog 216 #[vx,.int .u64 0,.int .i64 4000] w fun e w'=>∃ v,e=.returned (.tuple #[v,.bool true])∧IsNat w' v 1∧Below w.heap.size w w':=by
 obtain ⟨A,c,rfl,hc,hcm,_⟩:=hx
 refine (callsIn_wide (n:=3)).1 ?_
 have h1:1≤3:=by omega
 refine callsIn_of_wp Tryz.func216 rfl trivial ?_ rfl
 simp only [Tryz.ntmps216,List.size_toArray,List.length_cons,List.length_nil,Nat.reduceAdd,Nat.reduceSub,Array.replicate_succ,Array.replicate_zero,List.push_toArray,List.append_toArray,List.nil_append,List.cons_append]
 gi_wp2
 refine bodyPost_ret (results_tmp2 rfl _ _ _) rfl ?_
 have hb0:=(Below.refl w.heap.size w).alloc (Nat.le_refl _) (.cells #[.int .i64 4000] 3)
 have hb1:=hb0.alloc hb0.size (.cells #[.int .u64 1] 117)
 refine ⟨.slice (some ⟨w.heap.size+1,0,none⟩) 1 1,rfl,isNat_cell (by omega) (by decide) ?_ (by simp),hb1⟩
 have:=Blk.new (w.alloc (.cells #[.int .i64 4000] 3)) 117 #[.int .u64 1]
 rw [World.size_alloc] at this
 exact this.cell 0
theorem same_row {W:World} {S:Nat→Prop} (X:SameAt W S) {b:Nat} {t:TypeId} {cs:Array Value} (h:Blk W b t cs) (hS:S b):Blk X.W b t cs:=(X.h b hS).trans h
theorem same_cells {W:World} {S:Nat→Prop} {b:Nat} {t:TypeId} {x y z:Value} (h:Blk W b t #[x,y,z]) (hS:S b) :
  (∀ X:SameAt W S,X.W.cell? ⟨b,0,none⟩=some x)∧(∀ X:SameAt W S,X.W.cell? ⟨b,1,none⟩=some y)∧(∀ X:SameAt W S,X.W.cell? ⟨b,2,none⟩=some z) :=
 ⟨fun X=>(cellrow (same_row X h hS) 0 (by simp)).1,fun X=>(cellrow (same_row X h hS) 1 (by simp)).1,fun X=>(cellrow (same_row X h hS) 2 (by simp)).1⟩
abbrev zF:Obj:=.cells #[.bool false,.slice none 0 0,.slice none 0 0] 216
theorem box2_res (w:World) (m vn vd m' vn' vd':Value):Blk (((w.alloc (.cells #[m,vn,vd] 216)).alloc (.cells #[m',vn',vd'] 216)).alloc zF) w.heap.size 216 #[m,vn,vd] ∧
  Blk (((w.alloc (.cells #[m,vn,vd] 216)).alloc (.cells #[m',vn',vd'] 216)).alloc zF) (w.heap.size+1) 216 #[m',vn',vd'] ∧
  Blk (((w.alloc (.cells #[m,vn,vd] 216)).alloc (.cells #[m',vn',vd'] 216)).alloc zF) (w.heap.size+1+1) 216 #[.bool false,.slice none 0 0,.slice none 0 0] ∧
  Below w.heap.size w (((w.alloc (.cells #[m,vn,vd] 216)).alloc (.cells #[m',vn',vd'] 216)).alloc zF)∧(((w.alloc (.cells #[m,vn,vd] 216)).alloc (.cells #[m',vn',vd'] 216)).alloc zF).heap.size=w.heap.size+3:=by
 refine ⟨((Blk.new w _ _).alloc _).alloc _,?_,?_,(((Below.refl _ _).alloc (Nat.le_refl _) _).alloc (by simp) _).alloc (by simp;omega) _,by simp⟩
 ·have:=(Blk.new (w.alloc (.cells #[m,vn,vd] 216)) 216 #[m',vn',vd']).alloc zF
  rwa [World.size_alloc] at this
 ·have:=Blk.new ((w.alloc (.cells #[m,vn,vd] 216)).alloc (.cells #[m',vn',vd'] 216)) 216 #[.bool false,.slice none 0 0,.slice none 0 0]
  rwa [World.size_alloc,World.size_alloc] at this
theorem below_drew {n:Nat} {w W:World} (h:Below n w W):Below n w W.drew:=⟨h.os,h.tape,h.output,h.size,h.block⟩
theorem below_undrew {n:Nat} {w W:World} (h:Below n W.drew w):Below n W w:=⟨h.os,h.tape,h.output,h.size,h.block⟩
theorem below_drew3 {n:Nat} {w W:World} (h:Below n W w):Below n W.drew w:=⟨h.os,h.tape,h.output,h.size,h.block⟩
theorem set3_heap {w:World} {g:Nat} {x y z:Value} (k:Nat) (hk:k≠g):(((w.setCell ⟨g,0,none⟩ x).setCell ⟨g,1,none⟩ y).setCell ⟨g,2,none⟩ z).heap[k]?=w.heap[k]? :=
 ((Below.heap_setCell _ ⟨g,2,none⟩ _ k hk).trans (Below.heap_setCell _ ⟨g,1,none⟩ _ k hk)).trans (Below.heap_setCell _ ⟨g,0,none⟩ _ k hk)
theorem isFrac_open {w:World} {v:Value} {q:Rat} (h:IsFrac w v q):∃ (b:Bool) (N D:Nat) (A:Option Addr) (c:Nat) (A':Option Addr) (c':Nat),v=.agg #[.bool b,.slice A (toL N).length c,.slice A' (toL D).length c'] ∧
  IsNat w (.slice A (toL N).length c) N∧IsNat w (.slice A' (toL D).length c') D∧Hid (ng q=b∧nm q=N∧q.den=D):=by
 obtain ⟨A,c,A',c',rfl,h1,h2⟩:=h
 exact ⟨_,_,_,A,c,A',c',rfl,h1,h2,Lib.hid ⟨rfl,rfl,rfl⟩⟩
theorem isFrac_close {w:World} {v:Value} {q:Rat} {b:Bool} {N D:Nat} (h:Hid (ng q=b∧nm q=N∧q.den=D)) (hp:IsParts w v b N D):IsFrac w v q:=by
 obtain ⟨h1,h2,h3⟩:=h.out
 unfold IsFrac
 rw [h1,h2,h3]
 exact hp
theorem fmul_any (m m':Bool) (n d n' d':Nat) (v v':Value) (w:World) (h:IsParts w v m n d) (h':IsParts w v' m' n' d') (hd0:d*d'≠0) (l1:(toL n).length≤10000) (l2:(toL d).length≤10000) (l3:(toL n').length≤10000) (l4:(toL d').length≤10000) :
  Calls Tryz.prog 206 #[v,v'] w fun e w'=>∃ v2,e=.returned v2∧IsFrac w' v2 (mkQ (m != m') (n*n') (d*d'))∧Below w.heap.size w w':=by
 obtain ⟨An,cn,Ad,cd,rfl,hn,hd⟩:=h
 obtain ⟨An',cn',Ad',cd',rfl,hn',hd'⟩:=h'
 have HN:=Lib.hid hn
 have HD:=Lib.hid hd
 have HN':=Lib.hid hn'
 have HD':=Lib.hid hd'
 have ln:=Nat.le_trans (toL_mul_len n n') (show _≤30000 by omega)
 have ld:=Nat.le_trans (toL_mul_len d d') (show _≤30000 by omega)
 clear hn hd hn' hd'
 refine (callsIn_wide (n:=3)).1 ?_
 have h1:1≤3:=by omega
 have hmx:Tryz.prog.follows .mixedOrders=true:=by kernel_rfl
 refine callsIn_of_wp Tryz.func206 rfl trivial ?_ rfl
 simp only [Tryz.ntmps206,List.size_toArray,List.length_cons,List.length_nil,Nat.reduceAdd,Nat.reduceSub,Array.replicate_succ,Array.replicate_zero,List.push_toArray,List.append_toArray,List.nil_append,List.cons_append]
 gi_upto_region 1 with fail
 obtain ⟨b0,b1,b2,hB,hs⟩:=box2_res w (.bool m) (.slice An (toL n).length cn) (.slice Ad (toL d).length cd) (.bool m') (.slice An' (toL n').length cn') (.slice Ad' (toL d').length cd')
 generalize ((w.alloc (.cells #[.bool m,.slice An (toL n).length cn,.slice Ad (toL d).length cd] 216)).alloc (.cells #[.bool m',.slice An' (toL n').length cn',.slice Ad' (toL d').length cd'] 216)).alloc zF=W at *
 obtain ⟨x0,x1,x2⟩:=same_cells (S:=fun k=>k < W.heap.size∧k≠w.heap.size+1+1) b0 ⟨by omega,by omega⟩
 obtain ⟨y0,y1,y2⟩:=same_cells (S:=fun k=>k < W.heap.size∧k≠w.heap.size+1+1) b1 ⟨by omega,by omega⟩
 have HB:=Lib.hid (below_drew hB)
 have HS:=Lib.hid hs
 have HB1:=Lib.hid b2
 clear b0 b1 b2 hB hs
 refine wpIn_stage (IsSame W (fun k=>k < W.heap.size∧k≠w.heap.size+1+1)) [0,1,2,3,4,5,6,7,8,10,11,12,13] [] hmx (by kernel_rfl) (isSame_of fun _ _=>rfl) ?_
 change wpStage _ _ _ _ _ _ _ _ (4+13) _ _ _
 refine stage_reads [0,1,2,3,4,5,6,7,8,10,11,12,13] 4 _ _ (by kernel_rfl) ?_
 change wpQuietIn _ _ _ _ (fun W'=>∃ x:SameAt W (fun k=>k < W.heap.size∧k≠w.heap.size+1+1),W'=x.W) _ _ _
 simp only [pick_cons,pick_nil,List.getElem?_cons_zero,List.getElem?_cons_succ,Option.elim_some]
 repeat (gi_big_quiet_step (fail))
 refine wpQuietIn_nil ?_
 refine stage_one 9 (by kernel_rfl) rfl ?_
 gi_wp2
 refine ⟨trivial,?_⟩
 refine (callsIn_wide.2 (mul_any n n' _ _ W.drew (HN.out.below HB.out) (HN'.out.below HB.out) (by omega) (by omega))).mono ?_
 rintro e w3 ⟨v3,rfl,hv3,hb3⟩
 have HV3:=Lib.hid hv3
 have HB3:=Lib.hid (below_undrew hb3)
 clear hv3 hb3
 gi_wp2
 refine stage_post (isSame_below HB3.out (fun k hk=>hk.1)) ?_
 refine stage_one 14 (by kernel_rfl) rfl ?_
 gi_wp2
 refine ⟨trivial,?_⟩
 refine (callsIn_wide.2 (mul_any d d' _ _ w3 (HD.out.below (HB.out.trans ((below_drew3 HB3.out).mono HB.out.size))) (HD'.out.below (HB.out.trans ((below_drew3 HB3.out).mono HB.out.size))) (by omega) (by omega))).mono ?_
 rintro e w4 ⟨v4,rfl,hv4,hb4⟩
 have HV4:=Lib.hid hv4
 have HB4:=Lib.hid hb4
 clear hv4 hb4
 gi_wp2
 refine stage_post (isSame_below (HB3.out.trans (HB4.out.mono HB3.out.size)) (fun k hk=>hk.1)) ?_
 refine stage_one 15 (by kernel_rfl) rfl ?_
 gi_wp2
 refine ⟨trivial,?_⟩
 refine (callsIn_wide.2 (fmake_any (!(m==m')) (n*n') (d*d') _ _ w4 (HV3.out.below HB4.out) HV4.out hd0 ln ld)).mono ?_
 rintro e w5 ⟨v5,rfl,hv5,hb5⟩
 obtain ⟨b5,N5,D5,A5,c5,A5',c5',rfl,hn5,hd5,HP5⟩:=isFrac_open hv5
 clear hv5
 have hb45:Below W.heap.size W w5:=HB3.out.trans ((HB4.out.mono HB3.out.size).trans (hb5.mono (Nat.le_trans HB3.out.size HB4.out.size)))
 have hsz:=HS.out
 obtain ⟨HB5,r0,s0,r1,s1,r2,s2⟩:=res_rows HB1.out hb45 (by omega)
 have HN5:=Lib.hid hn5
 have HD5:=Lib.hid hd5
 have HB45:=Lib.hid hb45
 clear hn5 hd5 hb5 hb45 hsz
 gi_wp2
 refine stage_post (isSame_below HB45.out (fun k hk=>hk.1)) ?_
 refine stage_one 16 (by kernel_rfl) rfl ?_
 gi_wp2
 refine stage_post (isSame_of fun k hk=>(set3_heap k hk.2).trans (HB45.out.block k hk.1)) ?_
 refine stage_done (by kernel_rfl) ?_
 gi_wp2
 have hsz:=HS.out
 refine ret_frac rfl rfl (by simp) (set3 HB5.out) ⟨_,rfl,?_,?_⟩
 ·exact isFrac_close HP5 (isParts_mk (isNat_set3 HN5.out HB5.out) (isNat_set3 HD5.out HB5.out))
 ·exact set3_below (g:=w.heap.size+1+1) (HB.out.trans ((below_drew3 HB45.out).mono HB.out.size)) (by omega)
end Go.Proofs.YtigapglmipmbeaaGreatDoor
namespace Go.Proofs.YtigapglmipmbeaaGreatDoor
open Go.RowKit Go.Shelf
open Lim
def textP (b:Bool) (N D:Nat):List UInt8:=(if b then [45] else [])++Lib.decDigits N++(if D=1 then [] else 47::Lib.decDigits D)
def outP (b:Bool) (N D:Nat):List UInt8 × Nat:=if maxD < Lib.nDigits N∨maxD < Lib.nDigits D then ([],5) else (textP b N D,0)
theorem ba_add (a b:List UInt8):(⟨a.toArray⟩:ByteArray)++⟨b.toArray⟩=⟨(a++b).toArray⟩:=by
 apply ByteArray.ext
 apply Array.toList_inj.1
 rw [ByteArray.data_append]
 simp
theorem rows_of {w w':World} {n g:Nat} {t:TypeId} {x y z:Value} (h:Blk w g t #[x,y,z]) (hb:Below n w w') (hg:g < n):w'.cell? ⟨g,0,none⟩=some x∧w'.cell? ⟨g,1,none⟩=some y∧w'.cell? ⟨g,2,none⟩=some z:=by
 have h':=h.below hb hg
 exact ⟨(cellrow h' 0 (by simp)).1,(cellrow h' 1 (by simp)).1,(cellrow h' 2 (by simp)).1⟩
theorem num_big1 (b:Bool) (N D:Nat) (v:Value) (w:World) (h:IsParts w v b N D) (hr:Res w) (l1:(toL N).length≤40000) (hbig:4000 < Lib.nDigits N) :
  Calls Tryz.prog 191 #[v] w fun e w'=>e=.returned (.tuple #[.string ⟨#[]⟩,.int .i64 5])∧Below w.heap.size w w':=by
 obtain ⟨An,cn,Ad,cd,rfl,hn,hd⟩:=h
 have hd1:decide ((4000:Int) < (Lib.nDigits N:Int))=true:=decide_eq_true (by omega)
 have HB0:=Lib.hid ((Below.refl w.heap.size w).alloc (Nat.le_refl _) (.cells #[.bool b,.slice An (toL N).length cn,.slice Ad (toL D).length cd] 216))
 have HR:=Lib.hid hr
 have HN:=Lib.hid hn
 clear hn hd hr hbig
 go_enter Tryz.func191,Tryz.ntmps191
 go_wp2_with (go_at_call 250;refine (digits_any N _ _ (HN.out.below HB0.out) l1 (HR.out.below HB0.out)).mono ?_;rintro e w1 ⟨rfl,hb1⟩;have HB1:=Lib.hid hb1;clear hb1)
 refine bodyPost_ret (results_tmp2 rfl _ _ _) rfl ?_
 exact ⟨rfl,HB0.out.trans (HB1.out.mono (by simp))⟩
theorem num_big2 (b:Bool) (N D:Nat) (v:Value) (w:World) (h:IsParts w v b N D) (hr:Res w) (l1:(toL N).length≤40000) (l2:(toL D).length≤40000) (hs:Lib.nDigits N≤4000) (hbig:4000 < Lib.nDigits D) :
  Calls Tryz.prog 191 #[v] w fun e w'=>e=.returned (.tuple #[.string ⟨#[]⟩,.int .i64 5])∧Below w.heap.size w w':=by
 obtain ⟨An,cn,Ad,cd,rfl,hn,hd⟩:=h
 have hd1:decide ((4000:Int) < (Lib.nDigits N:Int))=false:=decide_eq_false (by omega)
 have hd2:decide ((4000:Int) < (Lib.nDigits D:Int))=true:=decide_eq_true (by omega)
 have HB0:=Lib.hid ((Below.refl w.heap.size w).alloc (Nat.le_refl _) (.cells #[.bool b,.slice An (toL N).length cn,.slice Ad (toL D).length cd] 216))
 have HP:=Lib.hid (Blk.new w 216 #[.bool b,.slice An (toL N).length cn,.slice Ad (toL D).length cd])
 have HR:=Lib.hid hr
 have HN:=Lib.hid hn
 have HD:=Lib.hid hd
 have TK1:True:=trivial
 clear hn hd hr hbig hs
 go_enter Tryz.func191,Tryz.ntmps191
 go_wp2_with (first
  | (clear TK1;go_at_call 250;refine (digits_any N _ _ (HN.out.below HB0.out) l1 (HR.out.below HB0.out)).mono ?_;rintro e w1 ⟨rfl,hb1⟩;have HB1:=Lib.hid (HB0.out.trans (hb1.mono (by simp)));obtain ⟨r0,r1,r2⟩:=rows_of HP.out hb1 (by simp);clear hb1)
  | (go_at_call 250;refine (digits_any D _ _ (HD.out.below HB1.out) l2 (HR.out.below HB1.out)).mono ?_;rintro e w2 ⟨rfl,hb2⟩;have HB2:=Lib.hid hb2;clear hb2))
 refine bodyPost_ret (results_tmp2 rfl _ _ _) rfl ?_
 exact ⟨rfl,HB1.out.trans (HB2.out.mono HB1.out.size)⟩
theorem string_is (x:Nat) (vx:Value) (w:World) (hx:IsNat w vx x) (hlx:(toL x).length≤40000) (hr:Res w) (hs:Lib.nDigits x≤4000) :
  Calls Tryz.prog 251 #[vx] w fun e w'=>∃ s:ByteArray,e=.returned (.string s)∧Hid (s=⟨(Lib.decDigits x).toArray⟩)∧s.size≤4000∧Below w.heap.size w w':=by
 refine (string_any x vx w hx hlx hr).mono ?_
 rintro e w' ⟨rfl,hb⟩
 refine ⟨_,rfl,Lib.hid rfl,?_,hb⟩
 show (Lib.decDigits x).toArray.size≤4000
 rw [List.size_toArray,Lib.decDigits_length]
 exact hs
theorem num_int (b:Bool) (N D:Nat) (v:Value) (w:World) (h:IsParts w v b N D) (hr:Res w) (l1:(toL N).length≤40000) (l2:(toL D).length≤40000) (hs:Lib.nDigits N≤4000) (hs2:Lib.nDigits D≤4000) (h1:D=1) :
  Calls Tryz.prog 191 #[v] w fun e w'=>e=.returned (.tuple #[.string ⟨((if b then [45] else [])++Lib.decDigits N).toArray⟩,.int .i64 0])∧Below w.heap.size w w':=by
 obtain ⟨An,cn,Ad,cd,rfl,hn,hd⟩:=h
 have hd1:decide ((4000:Int) < (Lib.nDigits N:Int))=false:=decide_eq_false (by omega)
 have hd2:decide ((4000:Int) < (Lib.nDigits D:Int))=false:=decide_eq_false (by omega)
 have ho:decide (D=1)=true:=decide_eq_true h1
 have HB0:=Lib.hid ((Below.refl w.heap.size w).alloc (Nat.le_refl _) (.cells #[.bool b,.slice An (toL N).length cn,.slice Ad (toL D).length cd] 216))
 have HP:=Lib.hid (Blk.new w 216 #[.bool b,.slice An (toL N).length cn,.slice Ad (toL D).length cd])
 have HR:=Lib.hid hr
 have HN:=Lib.hid hn
 have HD:=Lib.hid hd
 have HS:=Lib.hid hs
 have HS2:=Lib.hid hs2
 have TK1:True:=trivial
 have TK2:True:=trivial
 clear hn hd hr hs hs2 h1
 cases b
 ·go_enter Tryz.func191,Tryz.ntmps191
  go_wp2_with (first
   | (clear TK1;go_at_call 250;refine (digits_any N _ _ (HN.out.below HB0.out) l1 (HR.out.below HB0.out)).mono ?_;rintro e w1 ⟨rfl,hb1⟩;have HB1:=Lib.hid (HB0.out.trans (hb1.mono (by simp)));obtain ⟨r0,r1,r2⟩:=rows_of HP.out hb1 (by simp);have HQ1:=Lib.hid (HP.out.below hb1 (by simp));clear hb1)
   | (go_at_call 250;refine (digits_any D _ _ (HD.out.below HB1.out) l2 (HR.out.below HB1.out)).mono ?_;rintro e w2 ⟨rfl,hb2⟩;have HB2:=Lib.hid (HB1.out.trans (hb2.mono HB1.out.size));obtain ⟨t0,t1,t2⟩:=rows_of HQ1.out hb2 HQ1.out.lt;have HQ2:=Lib.hid (HQ1.out.below hb2 HQ1.out.lt);clear hb2)
   | (clear TK2;go_at_call 251;refine (string_is N _ _ (HN.out.below HB2.out) l1 (HR.out.below HB2.out) HS.out).mono ?_;rintro e w3 ⟨s3,rfl,HS3,hz3,hb3⟩;have z3:¬ 9223372036854775807 < 1+s3.size:=(by omega);have HZ3:=Lib.hid hz3;have HB3:=Lib.hid (HB2.out.trans (hb3.mono HB2.out.size));obtain ⟨z0,z1,z2⟩:=rows_of HQ2.out hb3 HQ2.out.lt;have HQ3:=Lib.hid (HQ2.out.below hb3 HQ2.out.lt);clear hb3 hz3)
   | (go_at_call 252;refine (one_any D _ _ (HD.out.below HB3.out)).mono ?_;rintro e w4 ⟨rfl,hw4⟩;subst hw4;rw [ho])
   | (go_at_call 251;refine (string_is D _ _ (HD.out.below HB3.out) l2 (HR.out.below HB3.out) HS2.out).mono ?_;rintro e w5 ⟨s5,rfl,HS5,hz5,hb5⟩;have z5:¬ 9223372036854775807 < 1+s5.size:=(by omega);have z6:¬ 9223372036854775807 < 1+s3.size+(1+s5.size):=(by have:=HZ3.out;omega);have z7:¬ 9223372036854775807 < s3.size+(1+s5.size):=(by have:=HZ3.out;omega);have HB5:=Lib.hid (HB3.out.trans (hb5.mono HB3.out.size));clear hb5 hz5))
  refine bodyPost_ret (results_tmp2 rfl _ _ _) rfl ?_
  refine ⟨?_,HB3.out⟩
  rw [HS3.out]
  rfl
 ·go_enter Tryz.func191,Tryz.ntmps191
  go_wp2_with (first
   | (clear TK1;go_at_call 250;refine (digits_any N _ _ (HN.out.below HB0.out) l1 (HR.out.below HB0.out)).mono ?_;rintro e w1 ⟨rfl,hb1⟩;have HB1:=Lib.hid (HB0.out.trans (hb1.mono (by simp)));obtain ⟨r0,r1,r2⟩:=rows_of HP.out hb1 (by simp);have HQ1:=Lib.hid (HP.out.below hb1 (by simp));clear hb1)
   | (go_at_call 250;refine (digits_any D _ _ (HD.out.below HB1.out) l2 (HR.out.below HB1.out)).mono ?_;rintro e w2 ⟨rfl,hb2⟩;have HB2:=Lib.hid (HB1.out.trans (hb2.mono HB1.out.size));obtain ⟨t0,t1,t2⟩:=rows_of HQ1.out hb2 HQ1.out.lt;have HQ2:=Lib.hid (HQ1.out.below hb2 HQ1.out.lt);clear hb2)
   | (clear TK2;go_at_call 251;refine (string_is N _ _ (HN.out.below HB2.out) l1 (HR.out.below HB2.out) HS.out).mono ?_;rintro e w3 ⟨s3,rfl,HS3,hz3,hb3⟩;have z3:¬ 9223372036854775807 < 1+s3.size:=(by omega);have HZ3:=Lib.hid hz3;have HB3:=Lib.hid (HB2.out.trans (hb3.mono HB2.out.size));obtain ⟨z0,z1,z2⟩:=rows_of HQ2.out hb3 HQ2.out.lt;have HQ3:=Lib.hid (HQ2.out.below hb3 HQ2.out.lt);clear hb3 hz3)
   | (go_at_call 252;refine (one_any D _ _ (HD.out.below HB3.out)).mono ?_;rintro e w4 ⟨rfl,hw4⟩;subst hw4;rw [ho])
   | (go_at_call 251;refine (string_is D _ _ (HD.out.below HB3.out) l2 (HR.out.below HB3.out) HS2.out).mono ?_;rintro e w5 ⟨s5,rfl,HS5,hz5,hb5⟩;have z5:¬ 9223372036854775807 < 1+s5.size:=(by omega);have z6:¬ 9223372036854775807 < 1+s3.size+(1+s5.size):=(by have:=HZ3.out;omega);have z7:¬ 9223372036854775807 < s3.size+(1+s5.size):=(by have:=HZ3.out;omega);have HB5:=Lib.hid (HB3.out.trans (hb5.mono HB3.out.size));clear hb5 hz5))
  refine bodyPost_ret (results_tmp2 rfl _ _ _) rfl ?_
  refine ⟨?_,HB3.out⟩
  rw [HS3.out]
  exact congrArg (fun x=>Ending.returned (.tuple #[.string x,.int .i64 0])) (ba_add [45] (Lib.decDigits N))
theorem num_frac (b:Bool) (N D:Nat) (v:Value) (w:World) (h:IsParts w v b N D) (hr:Res w) (l1:(toL N).length≤40000) (l2:(toL D).length≤40000) (hs:Lib.nDigits N≤4000) (hs2:Lib.nDigits D≤4000) (h1:D≠1) :
  Calls Tryz.prog 191 #[v] w fun e w'=>e=.returned (.tuple #[.string ⟨((if b then [45] else [])++Lib.decDigits N++47::Lib.decDigits D).toArray⟩,.int .i64 0])∧Below w.heap.size w w':=by
 obtain ⟨An,cn,Ad,cd,rfl,hn,hd⟩:=h
 have hd1:decide ((4000:Int) < (Lib.nDigits N:Int))=false:=decide_eq_false (by omega)
 have hd2:decide ((4000:Int) < (Lib.nDigits D:Int))=false:=decide_eq_false (by omega)
 have ho:decide (D=1)=false:=decide_eq_false h1
 have HB0:=Lib.hid ((Below.refl w.heap.size w).alloc (Nat.le_refl _) (.cells #[.bool b,.slice An (toL N).length cn,.slice Ad (toL D).length cd] 216))
 have HP:=Lib.hid (Blk.new w 216 #[.bool b,.slice An (toL N).length cn,.slice Ad (toL D).length cd])
 have HR:=Lib.hid hr
 have HN:=Lib.hid hn
 have HD:=Lib.hid hd
 have HS:=Lib.hid hs
 have HS2:=Lib.hid hs2
 have TK1:True:=trivial
 have TK2:True:=trivial
 clear hn hd hr hs hs2 h1
 cases b
 ·go_enter Tryz.func191,Tryz.ntmps191
  go_wp2_with (first
   | (clear TK1;go_at_call 250;refine (digits_any N _ _ (HN.out.below HB0.out) l1 (HR.out.below HB0.out)).mono ?_;rintro e w1 ⟨rfl,hb1⟩;have HB1:=Lib.hid (HB0.out.trans (hb1.mono (by simp)));obtain ⟨r0,r1,r2⟩:=rows_of HP.out hb1 (by simp);have HQ1:=Lib.hid (HP.out.below hb1 (by simp));clear hb1)
   | (go_at_call 250;refine (digits_any D _ _ (HD.out.below HB1.out) l2 (HR.out.below HB1.out)).mono ?_;rintro e w2 ⟨rfl,hb2⟩;have HB2:=Lib.hid (HB1.out.trans (hb2.mono HB1.out.size));obtain ⟨t0,t1,t2⟩:=rows_of HQ1.out hb2 HQ1.out.lt;have HQ2:=Lib.hid (HQ1.out.below hb2 HQ1.out.lt);clear hb2)
   | (clear TK2;go_at_call 251;refine (string_is N _ _ (HN.out.below HB2.out) l1 (HR.out.below HB2.out) HS.out).mono ?_;rintro e w3 ⟨s3,rfl,HS3,hz3,hb3⟩;have z3:¬ 9223372036854775807 < 1+s3.size:=(by omega);have HZ3:=Lib.hid hz3;have HB3:=Lib.hid (HB2.out.trans (hb3.mono HB2.out.size));obtain ⟨z0,z1,z2⟩:=rows_of HQ2.out hb3 HQ2.out.lt;have HQ3:=Lib.hid (HQ2.out.below hb3 HQ2.out.lt);clear hb3 hz3)
   | (go_at_call 252;refine (one_any D _ _ (HD.out.below HB3.out)).mono ?_;rintro e w4 ⟨rfl,hw4⟩;subst hw4;rw [ho])
   | (go_at_call 251;refine (string_is D _ _ (HD.out.below HB3.out) l2 (HR.out.below HB3.out) HS2.out).mono ?_;rintro e w5 ⟨s5,rfl,HS5,hz5,hb5⟩;have z5:¬ 9223372036854775807 < 1+s5.size:=(by omega);have z6:¬ 9223372036854775807 < 1+s3.size+(1+s5.size):=(by have:=HZ3.out;omega);have z7:¬ 9223372036854775807 < s3.size+(1+s5.size):=(by have:=HZ3.out;omega);have HB5:=Lib.hid (HB3.out.trans (hb5.mono HB3.out.size));clear hb5 hz5))
  refine bodyPost_ret (results_tmp2 rfl _ _ _) rfl ?_
  refine ⟨?_,HB5.out⟩
  rw [HS3.out,HS5.out]
  exact congrArg (fun x=>Ending.returned (.tuple #[.string x,.int .i64 0])) (by rw [ba_add [47],ba_add];rfl)
 ·go_enter Tryz.func191,Tryz.ntmps191
  go_wp2_with (first
   | (clear TK1;go_at_call 250;refine (digits_any N _ _ (HN.out.below HB0.out) l1 (HR.out.below HB0.out)).mono ?_;rintro e w1 ⟨rfl,hb1⟩;have HB1:=Lib.hid (HB0.out.trans (hb1.mono (by simp)));obtain ⟨r0,r1,r2⟩:=rows_of HP.out hb1 (by simp);have HQ1:=Lib.hid (HP.out.below hb1 (by simp));clear hb1)
   | (go_at_call 250;refine (digits_any D _ _ (HD.out.below HB1.out) l2 (HR.out.below HB1.out)).mono ?_;rintro e w2 ⟨rfl,hb2⟩;have HB2:=Lib.hid (HB1.out.trans (hb2.mono HB1.out.size));obtain ⟨t0,t1,t2⟩:=rows_of HQ1.out hb2 HQ1.out.lt;have HQ2:=Lib.hid (HQ1.out.below hb2 HQ1.out.lt);clear hb2)
   | (clear TK2;go_at_call 251;refine (string_is N _ _ (HN.out.below HB2.out) l1 (HR.out.below HB2.out) HS.out).mono ?_;rintro e w3 ⟨s3,rfl,HS3,hz3,hb3⟩;have z3:¬ 9223372036854775807 < 1+s3.size:=(by omega);have HZ3:=Lib.hid hz3;have HB3:=Lib.hid (HB2.out.trans (hb3.mono HB2.out.size));obtain ⟨z0,z1,z2⟩:=rows_of HQ2.out hb3 HQ2.out.lt;have HQ3:=Lib.hid (HQ2.out.below hb3 HQ2.out.lt);clear hb3 hz3)
   | (go_at_call 252;refine (one_any D _ _ (HD.out.below HB3.out)).mono ?_;rintro e w4 ⟨rfl,hw4⟩;subst hw4;rw [ho])
   | (go_at_call 251;refine (string_is D _ _ (HD.out.below HB3.out) l2 (HR.out.below HB3.out) HS2.out).mono ?_;rintro e w5 ⟨s5,rfl,HS5,hz5,hb5⟩;have z5:¬ 9223372036854775807 < 1+s5.size:=(by omega);have z6:¬ 9223372036854775807 < 1+s3.size+(1+s5.size):=(by have:=HZ3.out;omega);have z7:¬ 9223372036854775807 < s3.size+(1+s5.size):=(by have:=HZ3.out;omega);have HB5:=Lib.hid (HB3.out.trans (hb5.mono HB3.out.size));clear hb5 hz5))
  refine bodyPost_ret (results_tmp2 rfl _ _ _) rfl ?_
  refine ⟨?_,HB5.out⟩
  rw [HS3.out,HS5.out]
  exact congrArg (fun x=>Ending.returned (.tuple #[.string x,.int .i64 0])) (by rw [ba_add [47],ba_add [45],ba_add];rfl)
theorem fnumP_any (b:Bool) (N D:Nat) (v:Value) (w:World) (h:IsParts w v b N D) (hr:Res w) (l1:(toL N).length≤40000) (l2:(toL D).length≤40000) :
  Calls Tryz.prog 191 #[v] w fun e w'=>e=.returned (.tuple #[.string ⟨(outP b N D).1.toArray⟩,.int .i64 ((outP b N D).2:Int)])∧Below w.heap.size w w':=by
 unfold outP maxD
 by_cases h1:4000 < Lib.nDigits N
 ·rw [if_pos (.inl h1)]
  exact num_big1 b N D v w h hr l1 h1
 ·by_cases h2:4000 < Lib.nDigits D
  ·rw [if_pos (.inr h2)]
   exact num_big2 b N D v w h hr l1 l2 (by omega) h2
  ·rw [if_neg (by omega)]
   unfold textP
   by_cases h3:D=1
   ·rw [if_pos h3,List.append_nil]
    exact num_int b N D v w h hr l1 l2 (by omega) (by omega) h3
   ·rw [if_neg h3]
    exact num_frac b N D v w h hr l1 l2 (by omega) (by omega) h3
theorem fnum_any (q:Rat) (v:Value) (w:World) (h:IsFrac w v q) (hr:Res w) (l1:(toL (nm q)).length≤40000) (l2:(toL q.den).length≤40000) :
  Calls Tryz.prog 191 #[v] w fun e w'=>e=.returned (.tuple #[.string ⟨(outQ q).1.toArray⟩,.int .i64 ((outQ q).2:Int)])∧Below w.heap.size w w' :=
 fnumP_any _ _ _ v w h hr l1 l2
end Go.Proofs.YtigapglmipmbeaaGreatDoor
namespace Go.Proofs.YtigapglmipmbeaaGreatDoor
open Go.RowKit
open Lim
theorem add_carry {xs ys L:List Nat} {c:Nat} (h:AddInv xs ys xs.length L c) (hlen:ys.length≤xs.length) (hx:Lim.Can xs) :
  L++(if 0 < c then [c] else [])=toL (val xs+val ys):=by
 obtain ⟨h1,h2,h3,h4⟩:=h
 rw [val_take_all xs _ (Nat.le_refl _),val_take_all ys _ hlen] at h3
 by_cases hc:0 < c
 ·rw [if_pos hc]
  have hc1:c=1:=by omega
  subst hc1
  refine toL_of_ge (h1.snoc (by decide)) (by rw [val_snoc,h2,h3]) (fun _=>?_)
  simp [h2]
  omega
 ·have hc0:c=0:=by omega
  subst hc0
  rw [if_neg hc,List.append_nil]
  refine toL_of_ge h1 (by simpa using h3) (fun hne=>?_)
  rw [h2]
  have:=hx.ge (fun e=>hne (by rw [e] at h2;exact List.length_eq_zero_iff.1 (by simpa using h2)))
  omega
theorem add_any (x y:Nat) (vx vy:Value) (w:World) (hx:IsNat w vx x) (hy:IsNat w vy y) (hlx:(toL x).length≤40000) (hly:(toL y).length≤40000) :
  Calls Tryz.prog 248 #[vx,vy] w fun e w'=>∃ v,e=.returned v∧IsNat w' v (x+y)∧Below w.heap.size w w':=by
 obtain ⟨A,c,rfl,hc,hcm,hra⟩:=hx
 obtain ⟨A',c',rfl,hc',hcm',hrb⟩:=hy
 obtain ⟨i0,hi,hz0,hz1,hz2⟩:=info_parts Tryz.infoU
 go_enter Tryz.func248,Tryz.ntmps248
 go_upto_if 13 with (fail)
 go_cut [0,1] (fun s0 s1 wx=>w=wx∧∃ (p q:Nat) (B B':Option Addr) (d d':Nat),p+q=x+y∧(toL q).length≤(toL p).length∧(toL p).length≤40000∧s0=.slice B (toL p).length d∧s1=.slice B' (toL q).length d'∧Row w B (U64 (toL p))∧Row w B' (U64 (toL q)))
 case first =>
  by_cases hlt:(toL x).length < (toL y).length
  ·go_wp2
   go_meet
   case rel=>exact ⟨rfl,y,x,_,_,_,_,by omega,by omega,by omega,rfl,rfl,hrb,hra⟩
  ·go_wp2
   go_meet
   case rel=>exact ⟨rfl,x,y,_,_,_,_,by omega,by omega,by omega,rfl,rfl,hra,hrb⟩
 case rest =>
  obtain ⟨rfl,p,q,A,A',c,c',hpq,hqp,hp,rfl,rfl,hra,hrb⟩:=hcut
  have hxs:=sm_toL p
  have hys:=sm_toL q
  have HPQ:=Lib.hid hpq
  clear hpq
  go_wp2_with (at_make;refine wpList_make_own _ rfl _ _ 214 rfl w.heap.size 117 i0 (.int .u64 0) 1 Tryz.underlying214 hi hz0 hz1 .i64 .i64 _ ((toL p).length+1) rfl rfl (by omega) (by rw [hz2];omega) (by unfold maxLen;omega) (Nat.le_refl _) ?_;intro w0 hown0 hgrow0)
  have hB0:Below w.heap.size w w0:=(Below.refl _ _).grown hgrow0 (Nat.le_refl _) (fun k e=>by cases e)
  clear hgrow0
  go_loopw [5,6,22] (fun v s i wr=>∃ (k:Nat) (L:List Nat) (cy:Nat),k≤(toL p).length∧i=.int .i64 (k:Int)∧s=.int .u64 (cy:Int)∧AddInv (toL p) (toL q) k L cy∧wr.ownsRow w.heap.size 117 1 v k (U64 L)∧Below w.heap.size w wr) (fun _ _ i _=>(toL p).length - (intOf i).toNat)
  case atStart=>exact ⟨0,[],0,Nat.zero_le _,rfl,rfl,AddInv.start _ _,hown0,hB0⟩
  case round =>
   obtain ⟨k,L,cy,hk,rfl,rfl,hinv,hown,hB⟩:=hrel
   clear hown0 hB0
   have hcy:=hinv.2.2.2
   by_cases hlt:k < (toL p).length
   ·obtain ⟨b,o,rfl,hb,hcell⟩:=hra (by rw [U64_length];omega)
    have hcx:=(hB.cell (p:=⟨b,o+k,none⟩) hb).trans (hcell k _ (U64_get hlt))
    have hx0:=hxs.get k
    clear hcell hra
    by_cases hlq:k < (toL q).length
    ·obtain ⟨b2,o2,rfl,hb2,hcell2⟩:=hrb (by rw [U64_length];omega)
     have hcy2:=(hB.cell (p:=⟨b2,o2+k,none⟩) hb2).trans (hcell2 k _ (U64_get hlq))
     have hy0:=hys.get k
     clear hcell2 hrb
     have HST:=Lib.hid (hinv.step hxs hys rfl)
     clear hinv
     generalize (toL p)[k]?.getD 0=x0 at *
     generalize (toL q)[k]?.getD 0=y0 at *
     rw [B_val] at hx0 hy0
     go_wp2_with (at_builtin;refine wpList_append_own _ rfl _ _ 214 rfl w.heap.size 117 i0 (.int .u64 0) 1 8 Tryz.underlying214 hi hz0 hz1 hz2 rfl (by decide) _ _ _ rfl (hown.alloc _) ⟨wr.heap.size,0,none⟩ 1 1 [.int .u64 (((x0:Int)+(cy:Int)+(y0:Int)) % 1000000000)] rfl rfl (cell_one_new _ _ _) (by simp [Value.oneCell']) (by unfold maxLen;omega) (by omega) (by have:=hB.size;simp;omega) ?_;intro v' w1 hown' hgrow _)
     have e1:((x0:Int)+(cy:Int)+(y0:Int)) % 1000000000=(((x0+cy+y0) % B:Nat):Int):=by rw [B_val];omega
     go_roundw
     case rel=>exact ⟨k+1,_,_,by omega,by go_num,int_eq (by rw [B_val];omega),HST.out,by rw [← U64_snoc,← e1];exact hown',(hB.alloc (by have:=hB.size;omega) _).grown hgrow (by have:=hB.size;simp;omega) (fun k e=>(hown.lt k e).1)⟩
     case measure=>simp [intOf];omega
    ·have HST:=Lib.hid (hinv.step hxs hys rfl)
     clear hinv
     have hy0:(toL q)[k]?.getD 0=0:=by simp [Nat.le_of_not_lt hlq]
     generalize (toL p)[k]?.getD 0=x0 at *
     simp only [hy0,Nat.add_zero] at HST
     clear hy0
     rw [B_val] at hx0
     go_wp2_with (at_builtin;refine wpList_append_own _ rfl _ _ 214 rfl w.heap.size 117 i0 (.int .u64 0) 1 8 Tryz.underlying214 hi hz0 hz1 hz2 rfl (by decide) _ _ _ rfl (hown.alloc _) ⟨wr.heap.size,0,none⟩ 1 1 [.int .u64 (((x0:Int)+(cy:Int)) % 1000000000)] rfl rfl (cell_one_new _ _ _) (by simp [Value.oneCell']) (by unfold maxLen;omega) (by omega) (by have:=hB.size;simp;omega) ?_;intro v' w1 hown' hgrow _)
     have e1:((x0:Int)+(cy:Int)) % 1000000000=(((x0+cy) % B:Nat):Int):=by rw [B_val];omega
     go_roundw
     case rel=>exact ⟨k+1,_,_,by omega,by go_num,int_eq (by rw [B_val];omega),HST.out,by rw [← U64_snoc,← e1];exact hown',(hB.alloc (by have:=hB.size;omega) _).grown hgrow (by have:=hB.size;simp;omega) (fun k e=>(hown.lt k e).1)⟩
     case measure=>simp [intOf];omega
   ·have hkk:k=(toL p).length:=by omega
    have HE:=Lib.hid (add_carry (hkk ▸ hinv) hqp (can_toL p))
    rw [val_toL,val_toL,HPQ.out] at HE
    clear hinv hra hrb
    obtain rfl:=hkk
    by_cases h0:0 < cy
    ·rw [if_pos h0] at HE
     go_wp2_with (at_builtin;refine wpList_append_own _ rfl _ _ 214 rfl w.heap.size 117 i0 (.int .u64 0) 1 8 Tryz.underlying214 hi hz0 hz1 hz2 rfl (by decide) _ _ _ rfl (hown.alloc _) ⟨wr.heap.size,0,none⟩ 1 1 [.int .u64 ((cy:Int))] rfl rfl (cell_one_new _ _ _) (by simp [Value.oneCell']) (by unfold maxLen;omega) (by omega) (by have:=hB.size;simp;omega) ?_;intro v' w1 hown' hgrow _)
     go_ret
     refine ⟨_,rfl,isNat_of_owns (base:=w.heap.size) (e:=117) (n:=(toL p).length+1) ?_,(hB.alloc (by have:=hB.size;omega) _).grown hgrow (by have:=hB.size;simp;omega) (fun k e=>(hown.lt k e).1)⟩
     rw [← HE.out,← U64_snoc]
     exact hown'
    ·rw [if_neg h0,List.append_nil] at HE
     go_wp2
     go_ret
     refine ⟨_,rfl,isNat_of_owns (base:=w.heap.size) (e:=117) (n:=(toL p).length) ?_,hB⟩
     rw [← HE.out]
     exact hown
theorem sub_any (x y:Nat) (vx vy:Value) (w:World) (hx:IsNat w vx x) (hy:IsNat w vy y) (hle:y≤x) (hlx:(toL x).length≤40000) :
  Calls Tryz.prog 249 #[vx,vy] w fun e w'=>∃ v,e=.returned v∧IsNat w' v (x - y)∧Below w.heap.size w w':=by
 obtain ⟨A,c,rfl,hc,hcm,hra⟩:=hx
 obtain ⟨A',c',rfl,hc',hcm',hrb⟩:=hy
 obtain ⟨i0,hi,hz0,hz1,hz2⟩:=info_parts Tryz.infoU
 have hlen:(toL y).length≤(toL x).length:=toL_len_mono hle
 have hmk:=fun W=>run_makeN (P:=Tryz.prog) Tryz.underlying214 hi hz0 hz1 hz2 (n:=(toL x).length) (by omega) rfl W
 have hxs:=sm_toL x
 have hys:=sm_toL y
 have HLE:=Lib.hid hle
 clear hle
 go_enter Tryz.func249,Tryz.ntmps249
 go_wp2
 clear hmk
 have hblk0:Blk (w.alloc (.cells (madeCells #[.int .u64 0] (toL x).length) 117)) w.heap.size 117 (U64 (List.replicate (toL x).length 0)).toArray:=by rw [← U64_zeros];exact Blk.new _ _ _
 go_loopw [6,15] (fun s i wr=>∃ (k:Nat) (O:List Nat) (cy:Nat),k≤(toL x).length∧i=.int .i64 (k:Int)∧s=.int .u64 (cy:Int)∧Sm O∧O.length=(toL x).length∧SubInv (toL x) (toL y) k (O.take k) cy∧Blk wr w.heap.size 117 (U64 O).toArray∧Below w.heap.size w wr) (fun _ i _=>(toL x).length - (intOf i).toNat)
 case atStart=>exact ⟨0,_,0,Nat.zero_le _,rfl,rfl,Sm.zeros _,by simp,by simpa using SubInv.start _ _,hblk0,(Below.refl _ _).alloc (Nat.le_refl _) _⟩
 case round =>
  obtain ⟨k,O,cy,hk,rfl,rfl,hO,hOl,hinv,hblk,hB⟩:=hrel
  clear hblk0
  have hcy:=hinv.2.2.2
  by_cases hlt:k < (toL x).length
  ·obtain ⟨b,o,rfl,hb,hcell⟩:=hra (by rw [U64_length];omega)
   have hcx:=(hB.cell (p:=⟨b,o+k,none⟩) hb).trans (hcell k _ (U64_get hlt))
   have hx0:=hxs.get k
   have hst1:=hblk.getU (i:=k) (by omega)
   have hst2:=hblk.frozen k
   clear hcell hra
   have HOL:=Lib.hid hOl
   have HB:=Lib.hid hblk
   clear hOl hblk
   generalize hxe:(toL x)[k]?.getD 0=x0 at hcx hx0
   rw [B_val] at hx0
   by_cases hlq:k < (toL y).length
   ·obtain ⟨b2,o2,rfl,hb2,hcell2⟩:=hrb (by rw [U64_length];omega)
    have hcy2:=(hB.cell (p:=⟨b2,o2+k,none⟩) hb2).trans (hcell2 k _ (U64_get hlq))
    have hy0:=hys.get k
    clear hcell2 hrb
    generalize hye:(toL y)[k]?.getD 0=y0 at hcy2 hy0
    rw [B_val] at hy0
    by_cases hlo:x0 < (cy+y0)
    ·have HST:=Lib.hid (hinv.no hys (by simpa [hxe,hye] using hlo))
     clear hinv
     simp only [hxe,hye] at HST
     clear hxe  hye
     go_wp2
     have e1:(x0:Int)+1000000000 - ((cy:Int)+(y0:Int))=((x0+B - (cy+y0):Nat):Int):=by rw [B_val];omega
     go_roundw
     case rel=>exact ⟨k+1,O.set k (x0+B - (cy+y0)),1,by omega,by go_num,rfl,hO.set k (by rw [B_val];omega),by simpa using HOL.out,by rw [take_set_succ _ _ _ (by rw [HOL.out];exact hlt)];exact HST.out,by rw [e1];exact HB.out.setU k _,hB.setCell (p:=⟨w.heap.size,k,none⟩) (Nat.le_refl _) _⟩
     case measure=>simp [intOf];omega
    ·have HST:=Lib.hid (hinv.yes hxs (by simpa [hxe,hye] using hlo))
     clear hinv
     simp only [hxe,hye] at HST
     clear hxe  hye
     have hlo':(cy+y0)≤x0:=by omega
     clear hlo
     go_wp2
     have e1:(x0:Int) - ((cy:Int)+(y0:Int))=((x0 - (cy+y0):Nat):Int):=by omega
     go_roundw
     case rel=>exact ⟨k+1,O.set k (x0 - (cy+y0)),0,by omega,by go_num,rfl,hO.set k (by rw [B_val];omega),by simpa using HOL.out,by rw [take_set_succ _ _ _ (by rw [HOL.out];exact hlt)];exact HST.out,by rw [e1];exact HB.out.setU k _,hB.setCell (p:=⟨w.heap.size,k,none⟩) (Nat.le_refl _) _⟩
     case measure=>simp [intOf];omega
   ·have hye:(toL y)[k]?.getD 0=0:=by simp [Nat.le_of_not_lt hlq]
    by_cases hlo:x0 < cy
    ·have HST:=Lib.hid (hinv.no hys (by simpa [hxe,hye,Nat.add_zero] using hlo))
     clear hinv
     simp only [hxe,hye,Nat.add_zero] at HST
     clear hxe  hye  
     go_wp2
     have e1:(x0:Int)+1000000000 - (cy:Int)=((x0+B - cy:Nat):Int):=by rw [B_val];omega
     go_roundw
     case rel=>exact ⟨k+1,O.set k (x0+B - cy),1,by omega,by go_num,rfl,hO.set k (by rw [B_val];omega),by simpa using HOL.out,by rw [take_set_succ _ _ _ (by rw [HOL.out];exact hlt)];exact HST.out,by rw [e1];exact HB.out.setU k _,hB.setCell (p:=⟨w.heap.size,k,none⟩) (Nat.le_refl _) _⟩
     case measure=>simp [intOf];omega
    ·have HST:=Lib.hid (hinv.yes hxs (by simpa [hxe,hye,Nat.add_zero] using hlo))
     clear hinv
     simp only [hxe,hye,Nat.add_zero] at HST
     clear hxe  hye  
     have hlo':cy≤x0:=by omega
     clear hlo
     go_wp2
     have e1:(x0:Int) - (cy:Int)=((x0 - cy:Nat):Int):=by omega
     go_roundw
     case rel=>exact ⟨k+1,O.set k (x0 - cy),0,by omega,by go_num,rfl,hO.set k (by rw [B_val];omega),by simpa using HOL.out,by rw [take_set_succ _ _ _ (by rw [HOL.out];exact hlt)];exact HST.out,by rw [e1];exact HB.out.setU k _,hB.setCell (p:=⟨w.heap.size,k,none⟩) (Nat.le_refl _) _⟩
     case measure=>simp [intOf];omega
  ·obtain rfl:k=(toL x).length:=by omega
   have ht:O.take (toL x).length=O:=List.take_of_length_le (by omega)
   rw [ht] at hinv
   have hdn:=hinv.done (by rw [val_toL,val_toL];exact HLE.out) hlen
   rw [val_toL,val_toL] at hdn
   have hrow:=hblk.row
   clear hinv ht hra hrb
   have HOL:=Lib.hid hOl
   have HB:=Lib.hid hblk
   have HD:=Lib.hid hdn
   clear hOl hblk hdn
   go_wp2_with (go_at_call 273;refine (trim_any O _ _ _ _ HOL.out.symm hO (Nat.le_of_eq HOL.out) (by unfold maxLen;omega) hrow).mono ?_;rintro e w' ⟨rfl,rfl⟩)
   go_ret
   refine ⟨_,rfl,?_,hB⟩
   have:=isNat_trim hO hrow (c:=(toL x).length) (Nat.le_of_eq HOL.out) (by unfold maxLen;omega) HD.out.2
   rw [HD.out.2]
   exact this
end Go.Proofs.YtigapglmipmbeaaGreatDoor
namespace Go.Proofs.YtigapglmipmbeaaGreatDoor
open Go.RowKit Go.Shelf
open Lim
theorem extract_list (s:ByteArray) (a b:Nat):(s.extract a b).data.toList=(s.data.toList.take b).drop a:=by
 rw [ByteArray.data_extract,Array.toList_extract,List.extract_eq_take_drop,List.drop_take]
theorem size_list (s:ByteArray):s.size=s.data.toList.length:=by
 show s.data.size=_
 rw [Array.length_toList]
theorem parse_any (s:ByteArray) (w:World) (hd:Dg s.data.toList) (hlen:s.size≤270000) :
  Calls Tryz.prog 265 #[.string s] w fun e w'=>∃ v,e=.returned v∧IsNat w' v (dv s.data.toList)∧Below w.heap.size w w':=by
 obtain ⟨i0,hi,hz0,hz1,hz2⟩:=info_parts Tryz.infoU
 have HD:=Lib.hid hd
 have hsl:=size_list s
 have HSL:=Lib.hid hsl
 have HST:=Lib.hid (ReadInv.start s.data.toList)
 clear hd hsl
 go_enter Tryz.func265,Tryz.ntmps265
 go_wp2
 go_loopw [3,4,5,6] (fun sv se _ _ wr=>∃ (z:Int) (L:List Nat),se=.int .i64 z∧z≤(s.size:Int)∧-9 < z∧9*(L.length:Int)≤(s.size:Int) - z∧ReadInv s.data.toList z.toNat L∧wr.ownsRow w.heap.size 117 1 sv L.length (U64 L)∧Below w.heap.size w wr) (fun _ se _ _ _=>(intOf se+9).toNat)
 case atStart=>exact ⟨(s.size:Int),[],rfl,Int.le_refl _,by omega,by simp,by rw [Int.toNat_natCast,HSL.out];exact HST.out,World.ownsRow_nil _ _ _ _,Below.refl _ _⟩
 case round =>
  obtain ⟨z,L,rfl,hz1',hz2',hz3,hinv,hown,hB⟩:=hrel
  clear HST
  by_cases hz:0 < z
  ·obtain ⟨e,rfl⟩:∃ e:Nat,z=(e:Int):=⟨z.toNat,by omega⟩
   rw [Int.toNat_natCast] at hinv
   have hel:e≤s.data.toList.length:=by rw [← HSL.out];omega
   have he0:0 < e:=by omega
   have hpiece:=extract_list s (e - 9) e
   have hplen:((s.data.toList.take e).drop (e - 9)).length=e - (e - 9):=by rw [List.length_drop,List.length_take];omega
   have hpd:Dg ((s.data.toList.take e).drop (e - 9)):=(HD.out.take _).drop _
   have hpok:Lib.parseUintB 64 (s.extract (e - 9) e).data.toList=.ok (dv ((s.data.toList.take e).drop (e - 9))):=by
    rw [hpiece]
    exact chunk_ok hpd (fun h=>by rw [h] at hplen;simp at hplen;omega) (by rw [hplen];omega)
   have hpsz:(s.extract (e - 9) e).size≤9223372036854775806:=by rw [size_list,hpiece,hplen];omega
   have HPU:=Lib.hid (fun W=>Tryz.strconv_ParseUint_10_at64_ok (s.extract (e - 9) e) hpsz _ hpok W)
   have HSTP:=Lib.hid (hinv.step HD.out he0 hel rfl)
   have hdl:dv ((s.data.toList.take e).drop (e - 9)) < 1000000000:=by
    refine Nat.lt_of_lt_of_le (dv_lt hpd) ?_
    rw [hplen]
    exact Nat.le_trans (Nat.pow_le_pow_right (by omega) (show e - (e - 9)≤9 by omega)) (by decide)
   clear hinv hel hpiece hplen hpd hpok hpsz
   generalize dv ((s.data.toList.take e).drop (e - 9))=d at *
   have TK1:True:=trivial
   have hesz:(e:Int)≤(s.size:Int):=hz1'
   obtain ⟨Av,cvv,rfl⟩:=slice_of_owns hown
   by_cases h9:9≤e
   ·have hmax:max (0:Int) ((e:Int) - 9)=(e:Int) - 9:=by omega
    go_upto_region 6 with (clear TK1;go_at_call 296;refine (HPU.out _).mono ?_;rintro e w1 ⟨rfl,hw1⟩;have hb1:Below wr.heap.size wr w1:=(by rcases hw1 with rfl|rfl;(exact Below.refl _ _);(exact Lib.bytesWorld_below _ _ _));have HOW:=Lib.hid (hown.kept (grownBy_of_below hb1) (by cases (Value.slice Av L.length cvv).ownBlock<;>simp));have HB1:=Lib.hid (hB.trans (hb1.mono hB.size));clear hw1 hb1)
    go_wp2_with (at_builtin;refine wpList_append_own _ rfl _ _ 214 rfl w.heap.size 117 i0 (.int .u64 0) 1 8 Tryz.underlying214 hi hz0 hz1 hz2 rfl (by decide) _ _ _ rfl (HOW.out.alloc _) ⟨w1.heap.size,0,none⟩ 1 1 [.int .u64 (d:Int)] rfl rfl (cell_one_new _ _ _) (by simp [Value.oneCell']) (by unfold maxLen;omega) (by omega) (by have:=HB1.out.size;simp;omega) ?_;intro v' w2 hown' hgrow _)
    go_roundw
    case rel =>
     refine ⟨(e:Int) - 9,L++[d],rfl,by omega,by omega,by rw [List.length_append,List.length_singleton];omega,?_,?_,(HB1.out.alloc HB1.out.size _).grown hgrow (by have:=HB1.out.size;simp;omega) (fun k e=>(HOW.out.lt k e).1)⟩
     ·rw [show ((e:Int) - 9).toNat=e - 9 by omega];exact HSTP.out
     ·rw [← U64_snoc,List.length_append];exact hown'
    case measure=>simp [intOf];omega
   ·have hmax:max (0:Int) ((e:Int) - 9)=0:=by omega
    have h90:e - 9=0:=by omega
    rw [h90] at HPU
    go_upto_region 6 with (clear TK1;go_at_call 296;refine (HPU.out _).mono ?_;rintro e w1 ⟨rfl,hw1⟩;have hb1:Below wr.heap.size wr w1:=(by rcases hw1 with rfl|rfl;(exact Below.refl _ _);(exact Lib.bytesWorld_below _ _ _));have HOW:=Lib.hid (hown.kept (grownBy_of_below hb1) (by cases (Value.slice Av L.length cvv).ownBlock<;>simp));have HB1:=Lib.hid (hB.trans (hb1.mono hB.size));clear hw1 hb1)
    go_wp2_with (at_builtin;refine wpList_append_own _ rfl _ _ 214 rfl w.heap.size 117 i0 (.int .u64 0) 1 8 Tryz.underlying214 hi hz0 hz1 hz2 rfl (by decide) _ _ _ rfl (HOW.out.alloc _) ⟨w1.heap.size,0,none⟩ 1 1 [.int .u64 (d:Int)] rfl rfl (cell_one_new _ _ _) (by simp [Value.oneCell']) (by unfold maxLen;omega) (by omega) (by have:=HB1.out.size;simp;omega) ?_;intro v' w2 hown' hgrow _)
    go_roundw
    case rel =>
     refine ⟨(e:Int) - 9,L++[d],rfl,by omega,by omega,by rw [List.length_append,List.length_singleton];omega,?_,?_,(HB1.out.alloc HB1.out.size _).grown hgrow (by have:=HB1.out.size;simp;omega) (fun k e=>(HOW.out.lt k e).1)⟩
     ·rw [show ((e:Int) - 9).toNat=e - 9 by omega];exact HSTP.out
     ·rw [← U64_snoc,List.length_append];exact hown'
    case measure=>simp [intOf];omega
  ·have hz0':z.toNat=0:=by omega
   rw [hz0'] at hinv
   obtain ⟨hsL,hvL⟩:=hinv.done
   obtain ⟨A5,c5,rfl⟩:=slice_of_owns hown
   obtain ⟨h0,h1,h2,h3⟩:=row_of_owns hown
   have HVL:=Lib.hid hvL
   clear hinv hown h0 hz0' hvL
   go_wp2_with (go_at_call 273;refine (trim_any L _ _ _ _ rfl hsL h1 h2 h3).mono ?_;rintro e w' ⟨rfl,rfl⟩)
   go_ret
   refine ⟨_,rfl,?_,hB⟩
   rw [HVL.out]
   exact isNat_trim hsL h3 (c:=c5) h1 h2 HVL.out
theorem dropWhile_head {p:UInt8→Bool}:∀ (l r:List UInt8) {x:UInt8},l.dropWhile p=x::r→p x=false
 | [],r,x,h=>by cases h
 | y::l,r,x,h=>by
  rw [List.dropWhile_cons] at h
  cases hy:p y with
  | true=>rw [hy] at h;exact dropWhile_head l r (by simpa using h)
  | false=>rw [hy] at h;simp at h;rw [← h.1];exact hy
theorem trim_digits (l:List UInt8):(Lib.trimS l [48,49,50,51,52,53,54,55,56,57]).isEmpty=l.all isD:=by
 have hc:∀ b:UInt8,([48,49,50,51,52,53,54,55,56,57]:List UInt8).contains b=isD b:=by
  have:∀ k:Fin 256,([48,49,50,51,52,53,54,55,56,57]:List UInt8).contains (UInt8.ofNat k.val)=isD (UInt8.ofNat k.val):=by decide +kernel
  intro b
  have h:=this ⟨b.toNat,b.toNat_lt⟩
  simpa using h
 have hdw:∀ r:List UInt8,(r.dropWhile (([48,49,50,51,52,53,54,55,56,57]:List UInt8).contains ·)).isEmpty=r.all isD:=by
  intro r
  induction r with
  | nil=>rfl
  | cons x r ih =>
   rw [List.dropWhile_cons,hc,List.all_cons]
   cases isD x with
   | true=>simpa using ih
   | false=>simp
 unfold Lib.trimS Lib.trimLeftS Lib.trimRightS
 rw [hdw]
 by_cases h:l.all isD=true
 ·rw [h,List.all_reverse,List.all_eq_true]
  intro b hb
  have h2:(l.reverse.dropWhile (([48,49,50,51,52,53,54,55,56,57]:List UInt8).contains ·)).isEmpty=true:=by rw [hdw,List.all_reverse];exact h
  rw [List.isEmpty_iff] at h2
  rw [h2] at hb
  cases hb
 ·have h2:(l.reverse.dropWhile (([48,49,50,51,52,53,54,55,56,57]:List UInt8).contains ·)).isEmpty=false:=by
   rw [hdw,List.all_reverse];simpa using h
  rw [Bool.eq_false_iff.2 h]
  have hne:l.reverse.dropWhile (([48,49,50,51,52,53,54,55,56,57]:List UInt8).contains ·)≠[]:=fun e=>by rw [e] at h2;simp at h2
  obtain ⟨x,r,hx⟩:=List.exists_cons_of_ne_nil hne
  rw [hx,List.all_reverse,List.all_cons]
  have hd:=dropWhile_head _ _ hx
  rw [hc] at hd
  rw [hd]
  simp
theorem trim10_any (s:ByteArray) (w:World) (hs:s.size≤4000000000) :
  Calls Tryz.prog 295 #[.string s,.string ⟨#[48,49,50,51,52,53,54,55,56,57]⟩] w fun e w'=>e=.returned (.string ⟨(Lib.trimS s.data.toList [48,49,50,51,52,53,54,55,56,57]).toArray⟩)∧Below w.heap.size w w' :=
 Any.strings_Trim_laid Tryz.lays160 (by kernel_rfl) s ⟨#[48,49,50,51,52,53,54,55,56,57]⟩ w (by omega) (by decide) (by
  intro j b hb
  have:b∈([48,49,50,51,52,53,54,55,56,57]:List UInt8):=List.mem_of_getElem? hb
  have key:∀ b∈([48,49,50,51,52,53,54,55,56,57]:List UInt8),b.toNat < 128:=by decide
  exact key b this)
theorem form_any (s:ByteArray) (w:World) (hlen:s.size≤4000000000) :
  Calls Tryz.prog 264 #[.string s] w fun e w'=>e=.returned (.bool (NForm s.data.toList))∧Below w.heap.size w w':=by
 have hl:=Lib.toList_data s
 by_cases h1:s.data.toList=[]
 ·have e1:s.toList.isEmpty=true:=by rw [hl,h1];rfl
  have e2:NForm s.data.toList=false:=by rw [h1];rfl
  rw [e2]
  clear hl h1 e2
  go_enter Tryz.func264,Tryz.ntmps264
  go_wp2
  go_ret
  exact ⟨rfl,Below.refl _ _⟩
 ·have e1:s.toList.isEmpty=false:=by rw [hl,List.isEmpty_eq_false_iff];exact h1
  have hpos:0 < s.size:=by rw [size_list];exact List.length_pos_iff.2 h1
  have hs0:s[0]=s.data.toList[0]'(by rw [← size_list];exact hpos):=by rw [Array.getElem_toList];rfl
  have hhead:s.data.toList.head?=some s[0]:=by rw [hs0,List.head?_eq_getElem?,List.getElem?_eq_getElem]
  obtain ⟨r,hr⟩:∃ r:ByteArray,(⟨(Lib.trimS s.data.toList [48,49,50,51,52,53,54,55,56,57]).toArray⟩:ByteArray)=r:=⟨_,rfl⟩
  have hre:r.toList.isEmpty=s.data.toList.all isD:=by
   rw [← trim_digits,Lib.toList_data,← hr]
  have HT:=Lib.hid (fun W=>trim10_any s W hlen)
  rw [hr] at HT
  have hnf:NForm s.data.toList=((s.data.toList==[48] || s.data.toList.head? != some 48)&&s.data.toList.all isD):=by
   unfold NForm
   rw [List.isEmpty_eq_false_iff.2 h1]
   rfl
  by_cases h2:s.data.toList=[48]
  ·have e2:s.toList=[48]:=by rw [hl];exact h2
   have e3:r.toList.isEmpty=true:=by rw [hre,h2];rfl
   have e4:NForm s.data.toList=true:=by rw [h2];rfl
   rw [e4]
   clear hl h1 h2 hs0 hhead hre hr hnf e4
   go_enter Tryz.func264,Tryz.ntmps264
   have TK1:True:=trivial
   go_wp2_with (clear TK1;go_at_call 295;refine (HT.out _).mono ?_;rintro e w1 ⟨rfl,hb1⟩;have HB1:=Lib.hid hb1;clear hb1)
   go_ret
   exact ⟨rfl,HB1.out⟩
  ·have e2:¬ s.toList=[48]:=by rw [hl];exact h2
   have e2':(s.toList==[48])=false:=by rw [beq_eq_false_iff_ne];exact e2
   have hb2:(s.data.toList==[48])=false:=by rw [beq_eq_false_iff_ne];exact h2
   rw [hb2,Bool.false_or,hhead] at hnf
   by_cases h3:(s[0].toNat:Int)=48
   ·have e4:NForm s.data.toList=false:=by
     rw [hnf]
     have:s[0]=48:=by
      apply UInt8.toNat_inj.1
      show s[0].toNat=48
      omega
     rw [this]
     rfl
    rw [e4]
    have h3':(((s[0].toNat:Int)) != 48)=false:=by rw [bne_eq_false_iff_eq];exact h3
    clear hl h1 h2 hs0 hhead hre hr hnf e4 hb2
    go_enter Tryz.func264,Tryz.ntmps264
    go_wp2
    go_ret
    exact ⟨rfl,Below.refl _ _⟩
   ·have h3':(((s[0].toNat:Int)) != 48)=true:=by rw [bne_iff_ne];exact h3
    have e4:NForm s.data.toList=s.data.toList.all isD:=by
     rw [hnf]
     have:(some s[0] != some (48:UInt8))=true:=by
      rw [bne_iff_ne]
      intro e
      apply h3
      injection e with e
      rw [e];rfl
     rw [this,Bool.true_and]
    rw [e4,← hre]
    have HRE:=Lib.hid hre
    clear hl h1 h2 hs0 hhead hre hr hnf e4 hb2
    obtain ⟨rb,hrb⟩:∃ rb,r.toList.isEmpty=rb:=⟨_,rfl⟩
    rw [hrb]
    go_enter Tryz.func264,Tryz.ntmps264
    have TK1:True:=trivial
    cases rb with
    | true =>
     go_wp2_with (clear TK1;go_at_call 295;refine (HT.out _).mono ?_;rintro e w1 ⟨rfl,hb1⟩;have HB1:=Lib.hid hb1;clear hb1)
     go_ret
     exact ⟨rfl,HB1.out⟩
    | false =>
     go_wp2_with (clear TK1;go_at_call 295;refine (HT.out _).mono ?_;rintro e w1 ⟨rfl,hb1⟩;have HB1:=Lib.hid hb1;clear hb1)
     go_ret
     exact ⟨rfl,HB1.out⟩
theorem cut_prefix (l:List UInt8):Lib.hasPrefix l [45]=(intP l).1∧Lib.trimPrefix l [45]=(intP l).2:=by
 unfold Lib.trimPrefix Lib.hasPrefix intP
 cases l with
 | nil=>exact ⟨rfl,rfl⟩
 | cons x r =>
  by_cases h:x=45
  ·subst h;exact ⟨rfl,rfl⟩
  ·have h1:([45]:List UInt8).isPrefixOf (x::r)=false:=by simp [List.isPrefixOf];exact fun e=>h e.symm
   have h2:¬ (x::r).head?=some 45:=by simp [h]
   rw [h1,if_neg h2]
   exact ⟨rfl,rfl⟩
theorem intP_le (l:List UInt8):(intP l).2.length≤l.length:=by
 unfold intP
 split
 ·simp
 ·exact Nat.le_refl _
theorem integer_any (s:ByteArray) (w:World) (hlen:s.size≤4000000000) :
  Calls Tryz.prog 263 #[.string s] w fun e w'=>e=.returned (.tuple #[.bool (intP s.data.toList).1,.string ⟨(intP s.data.toList).2.toArray⟩,.bool (intOk s.data.toList)])∧Below w.heap.size w w':=by
 obtain ⟨hp1,hp2⟩:=cut_prefix s.data.toList
 have hle:=intP_le s.data.toList
 have hsz:=size_list s
 unfold intOk
 generalize intP s.data.toList=p at *
 obtain ⟨m,l⟩:=p
 dsimp only at hp1 hp2 hle ⊢
 have hl2:(⟨l.toArray⟩:ByteArray).size≤4000000000:=by
  show l.toArray.size≤_
  rw [List.size_toArray];omega
 generalize hs2:(⟨l.toArray⟩:ByteArray)=s2 at *
 have hd2:s2.data.toList=l:=by rw [← hs2]
 have HC:=Lib.hid (Tryz.strings_CutPrefix s ⟨#[45]⟩)
 have HP:=Lib.hid (And.intro hp1 hp2)
 have HL:=Lib.hid hl2
 have HD:=Lib.hid hd2
 have HS2:=Lib.hid hs2
 have HF:=Lib.hid (fun w'=>form_any s2 w' hl2)
 have e2:s2.toList=l:=by rw [Lib.toList_data,hd2]
 generalize hnf:NForm l=f at *
 have HNF:=Lib.hid hnf
 have E2:=Lib.hid e2
 clear hp1 hp2 hle hsz hl2 hd2 hs2 hnf e2
 cases f<;>cases m <;>
 ·go_enter Tryz.func263,Tryz.ntmps263
  go_wp2_with (first
   | (go_at_call 294;refine (HC.out _).mono ?_;rintro e w1 ⟨rfl,rfl⟩;rw [show Lib.hasPrefix s.data.toList (⟨#[45]⟩:ByteArray).data.toList=_ from HP.out.1,show Lib.trimPrefix s.data.toList (⟨#[45]⟩:ByteArray).data.toList=l from HP.out.2,HS2.out])
   | (go_at_call 264;refine (HF.out _).mono ?_;rintro e w2 ⟨rfl,hb2⟩;have HB2:=Lib.hid hb2;clear hb2;rw [HD.out,HNF.out]))
  refine bodyPost_ret (results_tmp3 rfl _ _ _) rfl ⟨?_,HB2.out⟩
  first|rfl|(simp [E2.out])
theorem dg_of_form {l:List UInt8} (h:NForm l=true):Dg l:=by
 have e:=NForm.eq h
 rw [← e]
 exact decDigits_dg _
end Go.Proofs.YtigapglmipmbeaaGreatDoor
