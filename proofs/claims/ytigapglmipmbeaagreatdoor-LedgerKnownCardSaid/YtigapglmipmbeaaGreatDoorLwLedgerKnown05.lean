/- How long rational numbers are. No program in sight. frac: fractions. limbs.Nat.Pow. frac: the functions whose regions draw their order. frac.Num: the text of a fraction. the reference's trim The reference's product. -/
import Derived.Test.YtigapglmipmbeaaGreatDoorLwLedgerKnown04
import Derived.Test.YtigapglmipmbeaaGreatDoorLwLedgerKnown03
import Derived.Test.YtigapglmipmbeaaGreatDoorLwLedgerKnown02
import Derived.Sort.CutIn
set_option maxRecDepth 100000
set_option maxHeartbeats 16000000
namespace Go.Proofs.YtigapglmipmbeaaGreatDoor.Lim
open Go.Lib
def Sz (k:Nat) (q:Rat):Prop:=nm q < 10 ^ k∧q.den < 10 ^ k
theorem pow_le {j k:Nat} (h:j≤k):10 ^ j≤10 ^ k:=Nat.pow_le_pow_right (by omega) h
theorem Sz.mono {j k:Nat} {q:Rat} (h:Sz j q) (hk:j≤k):Sz k q:=⟨Nat.lt_of_lt_of_le h.1 (pow_le hk),Nat.lt_of_lt_of_le h.2 (pow_le hk)⟩
theorem Sz.pos {k:Nat} {q:Rat} (h:Sz k q):0 < k:=by
 rcases Nat.eq_zero_or_pos k with rfl|hk
 ·have:=h.2;have:=den_pos q;omega
 ·exact hk
theorem nDigits_iff {n k:Nat} (hk:0 < k):nDigits n≤k↔n < 10 ^ k:=⟨le_of_nDigits,nDigits_le hk⟩
theorem sz_iff {k:Nat} (hk:0 < k) {q:Rat}:Sz k q↔nDigits (nm q)≤k∧nDigits q.den≤k:=by
 unfold Sz;rw [nDigits_iff hk,nDigits_iff hk]
theorem outQ_ok {k:Nat} {q:Rat} (h:Sz k q) (hk:k≤maxD):outQ q=(ratText q,0):=by
 obtain ⟨h1,h2⟩:=(sz_iff h.pos).1 h
 unfold outQ;rw [if_neg (by omega)]
theorem errQ_ok {k:Nat} {q:Rat} (h:Sz k q) (hk:k≤maxD):errQ (ratText q)=0:=by
 obtain ⟨h1,h2⟩:=(sz_iff h.pos).1 h
 exact errQ_rat (by omega) (by omega)
theorem mkQ_nm_le {m:Bool} {n d:Nat} (hd:d≠0):nm (mkQ m n d)≤n:=by rw [mkQ_nm hd];exact Nat.div_le_self _ _
theorem mkQ_den_le {m:Bool} {n d:Nat} (hd:d≠0):(mkQ m n d).den≤d:=by rw [mkQ_den hd];exact Nat.div_le_self _ _
theorem mul_lt_pow {a b j k:Nat} (ha:a < 10 ^ j) (hb:b < 10 ^ k):a*b < 10 ^ (j+k):=by
 rw [Nat.pow_add];exact Nat.mul_lt_mul'' ha hb
section
variable {j k:Nat} {a b:Rat}
theorem Sz.add (ha:Sz j a) (hb:Sz k b):Sz (j+k+1) (a+b):=by
 have x:=mul_lt_pow ha.1 hb.2
 have y:=mul_lt_pow hb.1 ha.2
 have d:=mul_lt_pow ha.2 hb.2
 rw [Nat.add_comm k j] at y
 have hd:a.den*b.den≠0:=Nat.ne_of_gt (Nat.mul_pos (den_pos a) (den_pos b))
 have hp:10 ^ (j+k+1)=10 ^ (j+k)*10:=Nat.pow_succ ..
 by_cases h:ng a=ng b
 ·rw [add_same h]
  have h1:=mkQ_nm_le (m:=ng a) (n:=nm a*b.den+nm b*a.den) hd
  have h2:=mkQ_den_le (m:=ng a) (n:=nm a*b.den+nm b*a.den) hd
  exact ⟨by omega,by omega⟩
 ·by_cases hlt:nm a*b.den < nm b*a.den
  ·rw [add_less h hlt]
   have h1:=mkQ_nm_le (m:=ng b) (n:=nm b*a.den - nm a*b.den) hd
   have h2:=mkQ_den_le (m:=ng b) (n:=nm b*a.den - nm a*b.den) hd
   exact ⟨by omega,by omega⟩
  ·rw [add_more h hlt]
   have h1:=mkQ_nm_le (m:=ng a) (n:=nm a*b.den - nm b*a.den) hd
   have h2:=mkQ_den_le (m:=ng a) (n:=nm a*b.den - nm b*a.den) hd
   exact ⟨by omega,by omega⟩
theorem Sz.mul (ha:Sz j a) (hb:Sz k b):Sz (j+k) (a*b):=by
 have x:=mul_lt_pow ha.1 hb.1
 have d:=mul_lt_pow ha.2 hb.2
 have hd:a.den*b.den≠0:=Nat.ne_of_gt (Nat.mul_pos (den_pos a) (den_pos b))
 rw [mul_parts]
 exact ⟨Nat.lt_of_le_of_lt (mkQ_nm_le hd) x,Nat.lt_of_le_of_lt (mkQ_den_le hd) d⟩
theorem Sz.neg (ha:Sz j a):Sz j (-a):=by
 obtain ⟨_,h1,h2⟩:=neg_parts a
 exact ⟨by rw [h1];exact ha.1,by rw [h2];exact ha.2⟩
theorem Sz.inv (ha:Sz j a):Sz j a⁻¹:=by
 by_cases h:a=0
 ·subst h;rw [Rat.inv_zero];exact ha
 ·obtain ⟨_,h1,h2⟩:=inv_parts h
  exact ⟨by rw [h1];exact ha.2,by rw [h2];exact ha.1⟩
theorem Sz.one:Sz 1 1:=⟨by decide,by decide⟩
theorem Sz.zero:Sz 1 0:=⟨by decide,by decide⟩
theorem pow_lt_pow {x j:Nat} (h:x < 10 ^ j):∀ n,0 < n→x ^ n < 10 ^ (j*n):=fun n hn=>by
 rw [Nat.pow_mul];exact Nat.pow_lt_pow_left h (by omega)
theorem Sz.pow (ha:Sz j a) (n:Nat):Sz (j*n+1) (a ^ n):=by
 rcases Nat.eq_zero_or_pos n with rfl|hn
 ·rw [Rat.pow_zero];exact Sz.one.mono (by omega)
 ·obtain ⟨h1,h2,_⟩:=pow_parts a n
  have hx:=pow_lt_pow ha.1 n hn
  have hy:=pow_lt_pow ha.2 n hn
  have hp:=pow_le (show j*n≤j*n+1 by omega)
  exact ⟨by rw [h1];omega,by rw [h2];omega⟩
end
theorem sz_max {s:List UInt8} (h:errQ s=0):Sz maxD (valQ s):=by
 obtain ⟨_,h1,h2⟩:=text_of_ok h
 exact (sz_iff (by decide)).2 ⟨h1,h2⟩
theorem limbs_of {n k:Nat} (h:n < 10 ^ (9*k)):(toL n).length≤k:=toL_len_le (by rw [B_pow];exact h)
theorem Sz.limbs {k:Nat} {q:Rat} (h:Sz (9*k) q):(toL (nm q)).length≤k∧(toL q.den).length≤k:=⟨limbs_of h.1,limbs_of h.2⟩
end Go.Proofs.YtigapglmipmbeaaGreatDoor.Lim
namespace Go.Proofs.YtigapglmipmbeaaGreatDoor
open Go.RowKit Go.Shelf
open Lim
def IsParts (w:World) (v:Value) (m:Bool) (n d:Nat):Prop:=∃ An cn Ad cd,v=.agg #[.bool m,.slice An (toL n).length cn,.slice Ad (toL d).length cd]∧IsNat w (.slice An (toL n).length cn) n∧IsNat w (.slice Ad (toL d).length cd) d
def IsFrac (w:World) (v:Value) (q:Rat):Prop:=IsParts w v (ng q) (nm q) q.den
theorem IsParts.below {w w':World} {v:Value} {m:Bool} {n d:Nat} (h:IsParts w v m n d) (hb:Below w.heap.size w w'):IsParts w' v m n d:=by
 obtain ⟨An,cn,Ad,cd,e,h1,h2⟩:=h
 exact ⟨An,cn,Ad,cd,e,h1.below hb,h2.below hb⟩
theorem IsFrac.below {w w':World} {v:Value} {q:Rat} (h:IsFrac w v q) (hb:Below w.heap.size w w'):IsFrac w' v q:=IsParts.below h hb
theorem isParts_mk {w:World} {m:Bool} {n d:Nat} {vn vd:Value} (h1:IsNat w vn n) (h2:IsNat w vd d):IsParts w (.agg #[.bool m,vn,vd]) m n d:=by
 obtain ⟨An,cn,rfl,a1,a2,a3⟩:=h1
 obtain ⟨Ad,cd,rfl,b1,b2,b3⟩:=h2
 exact ⟨An,cn,Ad,cd,rfl,⟨An,cn,rfl,a1,a2,a3⟩,⟨Ad,cd,rfl,b1,b2,b3⟩⟩
def sgQ (q:Rat):Int:=if nm q=0 then 0 else if ng q then -1 else 1
theorem len_zero {n:Nat}:(((toL n).length:Int)==0)=decide (n=0):=by
 by_cases h:n=0
 ·subst h;simp [toL_zero]
 ·have:=toL_len_pos.2 h
  rw [decide_eq_false h,beq_eq_false_iff_ne]
  omega
theorem sign_any (q:Rat) (v:Value) (w:World) (h:IsFrac w v q) :
  Calls Tryz.prog 211 #[v] w fun e w'=>e=.returned (.int .i64 (sgQ q))∧Below w.heap.size w w':=by
 obtain ⟨An,cn,Ad,cd,rfl,h1,h2⟩:=h
 have hz:=len_zero (n:=nm q)
 have hb:=fun vn vd m=>(Below.refl w.heap.size w).alloc (Nat.le_refl _) (.cells #[.bool m,vn,vd] 216)
 have HB:=Lib.hid hb
 unfold sgQ
 clear h1 h2 hb
 by_cases h0:nm q=0
 ·rw [decide_eq_true h0] at hz
  rw [if_pos h0]
  clear h0
  go_enter Tryz.func211,Tryz.ntmps211
  go_wp2
  refine bodyPost_ret (results_tmp rfl _ _ _) rfl ?_
  exact ⟨rfl,HB.out _ _ _⟩
 ·rw [decide_eq_false h0] at hz
  rw [if_neg h0]
  clear h0
  generalize ng q=m
  cases m with
  | true =>
   go_enter Tryz.func211,Tryz.ntmps211
   go_wp2
   refine bodyPost_ret (results_tmp rfl _ _ _) rfl ?_
   exact ⟨rfl,HB.out _ _ _⟩
  | false =>
   go_enter Tryz.func211,Tryz.ntmps211
   go_wp2
   refine bodyPost_ret (results_tmp rfl _ _ _) rfl ?_
   exact ⟨rfl,HB.out _ _ _⟩
theorem cellrow {w:World} {b:Nat} {cs:Array Value} {t:TypeId} (h:Blk w b t cs) (i:Nat) (hi:i < cs.size):w.cell? ⟨b,i,none⟩=some cs[i]∧w.frozen? ⟨b,i,none⟩=false:=by
 unfold Blk at h
 refine ⟨by simp [World.cell?,h,hi],by simp [World.frozen?,h]⟩
theorem fsize:(Tryz.prog.info? 216).map (·.size)=some 3:=by kernel_rfl
theorem ret_frac {fn:Func} {p:Tmp} {R:Ending→World→Prop} {a:Act} {w:World} {g:Nat} {t:TypeId} {m vn vd:Value} (h:fn.results=#[.cell p 216]) (hd:a.defers=[]) (hp:a.tmps.getD p undef=.pointer (some ⟨g,0,none⟩))
  (hg:Blk w g t #[m,vn,vd]) (hR:R (.returned (.agg #[m,vn,vd])) w):bodyPost Tryz.prog fn R .ret a w :=
 bodyPost_ret (results_cell_row h _ _ g t _ (0,0) _ hp hg Tryz.underlying216 rfl fsize) hd hR
theorem set3 {w:World} {g:Nat} {t:TypeId} {a b c x y z:Value} (h:Blk w g t #[a,b,c]):Blk (((w.setCell ⟨g,0,none⟩ x).setCell ⟨g,1,none⟩ y).setCell ⟨g,2,none⟩ z) g t #[x,y,z]:=((h.set_ 0 x).set_ 1 y).set_ 2 z
theorem set3_below {n:Nat} {w w':World} {g:Nat} {x y z:Value} (h:Below n w w') (hg:n≤g):Below n w (((w'.setCell ⟨g,0,none⟩ x).setCell ⟨g,1,none⟩ y).setCell ⟨g,2,none⟩ z):=((h.setCell hg _).setCell hg _).setCell hg _
theorem IsNat.far {w:World} {v:Value} {n g:Nat} {t:TypeId} {a b c:Value} {i:Nat} {x:Value} (h:IsNat w v n) (hb:Blk w g t #[a,b,c]) (ha:∀ z:Int,a≠.int .u64 z) (hbb:∀ z:Int,b≠.int .u64 z) (hc:∀ z:Int,c≠.int .u64 z):IsNat (w.setCell ⟨g,i,none⟩ x) v n:=by
 obtain ⟨A,k,e,h1,h2,h3⟩:=h
 refine ⟨A,k,e,h1,h2,fun h0=>?_⟩
 obtain ⟨b',o,hA,hlt,hcc⟩:=h3 h0
 have hz:=U64_get (l:=toL n) (j:=0) (by rwa [U64_length] at h0)
 have hc0:=hcc 0 _ hz
 have hne:b'≠g:=by
  intro e
  subst e
  have:=Blk.cell hb (o+0)
  rw [hc0] at this
  rcases ho:o+0 with _|_|_|k
  ·rw [ho] at this;simp at this;exact ha _ this.symm
  ·rw [ho] at this;simp at this;exact hbb _ this.symm
  ·rw [ho] at this;simp at this;exact hc _ this.symm
  ·rw [ho] at this;simp at this
 have hh:=Below.heap_setCell w ⟨g,i,none⟩ x b' hne
 exact ⟨b',o,hA,by simpa [World.setCell] using hlt,fun j x hx=>SameAt.cell (w:=w) (S:=fun k=>k=b') ⟨_,fun k hk=>by rw [hk];exact hh⟩ rfl (hcc j x hx)⟩
theorem isNat_set3 {w:World} {v:Value} {n g:Nat} {t:TypeId} {m' m:Bool} {A A' D D':Option Addr} {l c l' c' a b a' b':Nat} (h:IsNat w v n) (hb:Blk w g t #[.bool m,.slice A l c,.slice A' l' c']) :
  IsNat (((w.setCell ⟨g,0,none⟩ (.bool m')).setCell ⟨g,1,none⟩ (.slice D a b)).setCell ⟨g,2,none⟩ (.slice D' a' b')) v n :=
 ((h.far hb (fun _ h=>by cases h) (fun _ h=>by cases h) (fun _ h=>by cases h)).far (hb.set_ 0 (.bool m')) (fun _ h=>by cases h) (fun _ h=>by cases h) (fun _ h=>by cases h)).far ((hb.set_ 0 (.bool m')).set_ 1 (.slice D a b)) (fun _ h=>by cases h) (fun _ h=>by cases h) (fun _ h=>by cases h)
theorem finv_any (m:Bool) (n d:Nat) (v:Value) (w:World) (h:IsParts w v m n d) :
  Calls Tryz.prog 215 #[v] w fun e w'=>∃ v',e=.returned v'∧IsParts w' v' m d n∧Below w.heap.size w w':=by
 obtain ⟨An,cn,Ad,cd,rfl,h1,h2⟩:=h
 have H1:=Lib.hid h1
 have H2:=Lib.hid h2
 clear h1 h2
 go_enter Tryz.func215,Tryz.ntmps215
 go_wp2
 have hb:=((Below.refl w.heap.size w).alloc (Nat.le_refl _) (.cells #[.bool m,.slice An (toL n).length cn,.slice Ad (toL d).length cd] 216)).alloc (by simp) (.cells #[.bool m,.slice Ad (toL d).length cd,.slice An (toL n).length cn] 216)
 refine ret_frac rfl rfl (by simp) (Blk.new _ _ _) ⟨_,rfl,isParts_mk (H2.out.below hb) (H1.out.below hb),hb⟩
theorem toL_zero_nat (w:World):IsNat w (.slice none 0 0) 0:=⟨none,0,by rw [toL_zero];rfl,by rw [toL_zero];exact Nat.le_refl _,by unfold maxLen;omega,fun h=>by rw [toL_zero] at h;simp [U64] at h⟩
theorem fzero_any (w:World) :
  Calls Tryz.prog 277 #[] w fun e w'=>∃ v',e=.returned v'∧IsParts w' v' false 0 1∧Below w.heap.size w w':=by
 go_enter Tryz.func277,Tryz.ntmps277
 go_upto_region 1 with fail
 have HB0:=Lib.hid (Blk.new w 216 #[.bool false,.slice none 0 0,.slice none 0 0])
 have hbw:=(Below.refl w.heap.size w).alloc (Nat.le_refl _) (.cells #[.bool false,.slice none 0 0,.slice none 0 0] 216)
 have HBW:=Lib.hid hbw
 clear hbw
 go_wp2_with (go_at_call 304;refine (of_any 1 _ (by omega)).mono ?_;rintro e w1 ⟨v1,rfl,ho,hb⟩;obtain ⟨A,c,rfl,_,_,_⟩:=id ho;have HB1:=Lib.hid (HB0.out.below hb HB0.out.lt);obtain ⟨r0,s0⟩:=cellrow HB1.out 0 (by simp);obtain ⟨r1,s1⟩:=cellrow HB1.out 1 (by simp);obtain ⟨r2,s2⟩:=cellrow HB1.out 2 (by simp);have HO:=Lib.hid ho;have HX:=Lib.hid hb;clear ho hb)
 refine ret_frac rfl rfl (by simp) (set3 HB1.out) ⟨_,rfl,?_,?_⟩
 ·exact isParts_mk (toL_zero_nat _) (isNat_set3 HO.out HB1.out)
 ·exact set3_below (HBW.out.trans (HX.out.mono (by simp))) (Nat.le_refl _)
theorem res_rows {w w':World} {n g:Nat} {m:Bool} {A A':Option Addr} {l c l' c':Nat} (h:Blk w g 216 #[.bool m,.slice A l c,.slice A' l' c']) (hb:Below n w w') (hg:g < n) :
  Hid (Blk w' g 216 #[.bool m,.slice A l c,.slice A' l' c'])∧w'.cell? ⟨g,0,none⟩=some (.bool m)∧w'.frozen? ⟨g,0,none⟩=false∧w'.cell? ⟨g,1,none⟩=some (.slice A l c)∧w'.frozen? ⟨g,1,none⟩=false∧w'.cell? ⟨g,2,none⟩=some (.slice A' l' c')∧w'.frozen? ⟨g,2,none⟩=false:=by
 have h':=h.below hb hg
 obtain ⟨r0,s0⟩:=cellrow h' 0 (by simp)
 obtain ⟨r1,s1⟩:=cellrow h' 1 (by simp)
 obtain ⟨r2,s2⟩:=cellrow h' 2 (by simp)
 exact ⟨Lib.hid h',r0,s0,r1,s1,r2,s2⟩
theorem make_zero (m:Bool) (n d:Nat) (vn vd:Value) (w:World) (hn:IsNat w vn n) (hd:IsNat w vd d) (h0:n=0) :
  Calls Tryz.prog 247 #[.bool m,vn,vd] w fun e w'=>∃ v,e=.returned v∧IsParts w' v false 0 1∧Below w.heap.size w w':=by
 have HN:=Lib.hid hn
 obtain ⟨An,cn,rfl,_,_,_⟩:=hn
 obtain ⟨Ad,cd,rfl,_,_,_⟩:=hd
 have hz:decide (n=0)=true:=decide_eq_true h0
 have HB0:=Lib.hid (Blk.new w 216 #[.bool false,.slice none 0 0,.slice none 0 0])
 have HBW:=Lib.hid ((Below.refl w.heap.size w).alloc (Nat.le_refl _) (.cells #[.bool false,.slice none 0 0,.slice none 0 0] 216))
 clear h0
 go_enter Tryz.func247,Tryz.ntmps247
 go_wp2_with (first
  | (go_at_call 260;refine (zero_any n _ _ (HN.out.below HBW.out)).mono ?_;rintro e w1 ⟨rfl,rfl⟩;rw [hz])
  | (go_at_call 277;refine (fzero_any _).mono ?_;rintro e w1 ⟨v1,rfl,⟨An',cn',Ad',cd',rfl,hn',hd'⟩,hb⟩;have HN':=Lib.hid hn';have HD':=Lib.hid hd';have HX:=Lib.hid hb;obtain ⟨HB1,r0,s0,r1,s1,r2,s2⟩:=res_rows HB0.out hb (by simp);clear hb hn' hd'))
 refine ret_frac rfl rfl (by simp) (set3 HB1.out) ⟨_,rfl,?_,?_⟩
 ·exact isParts_mk (isNat_set3 HN'.out HB1.out) (isNat_set3 HD'.out HB1.out)
 ·exact set3_below (HBW.out.trans (HX.out.mono (by simp))) (Nat.le_refl _)
theorem make_one (m:Bool) (n d:Nat) (vn vd:Value) (w:World) (hn:IsNat w vn n) (hd:IsNat w vd d) (h0:n≠0) (h1:d=1) :
  Calls Tryz.prog 247 #[.bool m,vn,vd] w fun e w'=>∃ v,e=.returned v∧IsParts w' v m n d∧Below w.heap.size w w':=by
 have HN:=Lib.hid hn
 have HD:=Lib.hid hd
 obtain ⟨An,cn,rfl,_,_,_⟩:=hn
 obtain ⟨Ad,cd,rfl,_,_,_⟩:=hd
 have hz:decide (n=0)=false:=decide_eq_false h0
 have hd1:decide (d=1)=true:=decide_eq_true h1
 have hbw:=(Below.refl w.heap.size w).alloc (Nat.le_refl _) (.cells #[.bool false,.slice none 0 0,.slice none 0 0] 216)
 have hbm:=(Below.refl w.heap.size w).alloc (Nat.le_refl _) (.cells #[.bool m,.slice An (toL n).length cn,.slice Ad (toL d).length cd] 216)
 have HBW:=Lib.hid hbw
 have HBM:=Lib.hid hbm
 clear h0 h1 hbw hbm
 go_enter Tryz.func247,Tryz.ntmps247
 go_wp2_with (first
  | (go_at_call 260;refine (zero_any n _ _ (HN.out.below HBW.out)).mono ?_;rintro e w1 ⟨rfl,rfl⟩;rw [hz])
  | (go_at_call 252;refine (one_any d _ _ (HD.out.below HBW.out)).mono ?_;rintro e w1 ⟨rfl,rfl⟩;rw [hd1]))
 refine ret_frac rfl rfl (by simp) (Blk.new w 216 #[.bool m,.slice An (toL n).length cn,.slice Ad (toL d).length cd]) ⟨_,rfl,?_,?_⟩
 ·exact isParts_mk (HN.out.below HBM.out) (HD.out.below HBM.out)
 ·exact HBM.out
theorem make_low (m:Bool) (n d:Nat) (vn vd:Value) (w:World) (hn:IsNat w vn n) (hd:IsNat w vd d) (h0:n≠0) (h1:d≠1) (hg:n.gcd d=1) (hln:(toL n).length≤30000) (hld:(toL d).length≤30000) :
  Calls Tryz.prog 247 #[.bool m,vn,vd] w fun e w'=>∃ v,e=.returned v∧IsParts w' v m n d∧Below w.heap.size w w':=by
 have HN:=Lib.hid hn
 have HD:=Lib.hid hd
 obtain ⟨An,cn,rfl,_,_,_⟩:=hn
 obtain ⟨Ad,cd,rfl,_,_,_⟩:=hd
 have hz:decide (n=0)=false:=decide_eq_false h0
 have hd1:decide (d=1)=false:=decide_eq_false h1
 have hg1:decide (n.gcd d=1)=true:=decide_eq_true hg
 have HB0:=Lib.hid (Blk.new w 216 #[.bool false,.slice none 0 0,.slice none 0 0])
 have HBW:=Lib.hid ((Below.refl w.heap.size w).alloc (Nat.le_refl _) (.cells #[.bool false,.slice none 0 0,.slice none 0 0] 216))
 have TK1:True:=trivial
 clear h0 h1 hg
 go_enter Tryz.func247,Tryz.ntmps247
 go_wp2_with (first
  | (go_at_call 260;refine (zero_any n _ _ (HN.out.below HBW.out)).mono ?_;rintro e w1 ⟨rfl,rfl⟩;rw [hz])
  | (clear TK1;go_at_call 252;refine (one_any d _ _ (HD.out.below HBW.out)).mono ?_;rintro e w1 ⟨rfl,rfl⟩;rw [hd1])
  | (go_at_call 266;refine (gcd_any n d _ _ _ (HN.out.below HBW.out) (HD.out.below HBW.out) hln hld).mono ?_;rintro e w1 ⟨v1,rfl,hgv,hb⟩;obtain ⟨Ag,cg,rfl,_,_,_⟩:=id hgv;have HG:=Lib.hid hgv;have HX:=Lib.hid hb;obtain ⟨HB1,r0,s0,r1,s1,r2,s2⟩:=res_rows HB0.out hb (by simp);clear hb hgv)
  | (go_at_call 252;refine (one_any (n.gcd d) _ _ HG.out).mono ?_;rintro e w2 ⟨rfl,hw2⟩;subst hw2;rw [hg1]))
 have hB:=HBW.out.trans (HX.out.mono (by simp))
 refine ret_frac rfl rfl (by simp) (set3 HB1.out) ⟨_,rfl,?_,?_⟩
 ·exact isParts_mk (isNat_set3 (HN.out.below hB) HB1.out) (isNat_set3 (HD.out.below hB) HB1.out)
 ·exact set3_below hB (Nat.le_refl _)
theorem make_red (m:Bool) (n d:Nat) (vn vd:Value) (w:World) (hn:IsNat w vn n) (hd:IsNat w vd d) (h0:n≠0) (_hd0:d≠0) (h1:d≠1) (hg:n.gcd d≠1) (hln:(toL n).length≤30000) (hld:(toL d).length≤30000) :
  Calls Tryz.prog 247 #[.bool m,vn,vd] w fun e w'=>∃ v,e=.returned v∧IsParts w' v m (n / n.gcd d) (d / n.gcd d)∧Below w.heap.size w w':=by
 have HN:=Lib.hid hn
 have HD:=Lib.hid hd
 obtain ⟨An,cn,rfl,_,_,_⟩:=hn
 obtain ⟨Ad,cd,rfl,_,_,_⟩:=hd
 have hz:decide (n=0)=false:=decide_eq_false h0
 have hd1:decide (d=1)=false:=decide_eq_false h1
 have hg1:decide (n.gcd d=1)=false:=decide_eq_false hg
 have hgp:0 < n.gcd d:=Nat.gcd_pos_of_pos_left _ (Nat.pos_of_ne_zero h0)
 have HB0:=Lib.hid (Blk.new w 216 #[.bool false,.slice none 0 0,.slice none 0 0])
 have HBW:=Lib.hid ((Below.refl w.heap.size w).alloc (Nat.le_refl _) (.cells #[.bool false,.slice none 0 0,.slice none 0 0] 216))
 have TK1:True:=trivial
 have TK2:True:=trivial
 clear h0 h1 hg
 go_enter Tryz.func247,Tryz.ntmps247
 go_wp2_with (first
  | (go_at_call 260;refine (zero_any n _ _ (HN.out.below HBW.out)).mono ?_;rintro e w1 ⟨rfl,rfl⟩;rw [hz])
  | (clear TK1;go_at_call 252;refine (one_any d _ _ (HD.out.below HBW.out)).mono ?_;rintro e w1 ⟨rfl,rfl⟩;rw [hd1])
  | (go_at_call 266;refine (gcd_any n d _ _ _ (HN.out.below HBW.out) (HD.out.below HBW.out) hln hld).mono ?_;rintro e w1 ⟨v1,rfl,hgv,hb⟩;obtain ⟨Ag,cg,rfl,_,_,_⟩:=id hgv;have HG:=Lib.hid hgv;have HX:=Lib.hid (HBW.out.trans (hb.mono (by simp)));have HB1:=Lib.hid (HB0.out.below hb HB0.out.lt);clear hb hgv)
  | (go_at_call 252;refine (one_any (n.gcd d) _ _ HG.out).mono ?_;rintro e w2 ⟨rfl,hw2⟩;subst hw2;rw [hg1])
  | (clear TK2;go_at_call 278;refine (divmod_any n (n.gcd d) _ _ _ (HN.out.below HX.out) HG.out hln hgp).mono ?_;rintro e w3 ⟨vq3,vr3,rfl,hq3,hr3,hb3⟩;obtain ⟨Aq3,cq3,rfl,_,_,_⟩:=id hq3;have HQ3:=Lib.hid hq3;have HX3:=Lib.hid hb3;have HB3:=Lib.hid (HB1.out.below hb3 HB1.out.lt);clear hb3 hq3 hr3)
  | (go_at_call 278;refine (divmod_any d (n.gcd d) _ _ _ ((HD.out.below HX.out).below HX3.out) (HG.out.below HX3.out) hld hgp).mono ?_;rintro e w4 ⟨vq4,vr4,rfl,hq4,hr4,hb4⟩;obtain ⟨Aq4,cq4,rfl,_,_,_⟩:=id hq4;have HQ4:=Lib.hid hq4;have HX4:=Lib.hid hb4;obtain ⟨HB4,r0,s0,r1,s1,r2,s2⟩:=res_rows HB3.out hb4 HB3.out.lt;clear hb4 hq4 hr4))
 have hB:=HX.out.trans ((HX3.out.mono HX.out.size).trans (HX4.out.mono (Nat.le_trans HX.out.size HX3.out.size)))
 refine ret_frac rfl rfl (by simp) (set3 HB4.out) ⟨_,rfl,?_,?_⟩
 ·exact isParts_mk (isNat_set3 (HQ3.out.below HX4.out) HB4.out) (isNat_set3 HQ4.out HB4.out)
 ·exact set3_below hB (Nat.le_refl _)
theorem fmake_any (m:Bool) (n d:Nat) (vn vd:Value) (w:World) (hn:IsNat w vn n) (hd:IsNat w vd d) (hd0:d≠0) (hln:(toL n).length≤30000) (hld:(toL d).length≤30000) :
  Calls Tryz.prog 247 #[.bool m,vn,vd] w fun e w'=>∃ v,e=.returned v∧IsFrac w' v (mkQ m n d)∧Below w.heap.size w w':=by
 by_cases h0:n=0
 ·refine (make_zero m n d vn vd w hn hd h0).mono ?_
  rintro e w' ⟨v,rfl,h,hb⟩
  subst h0
  exact ⟨v,rfl,by rw [mkQ_zero];exact h,hb⟩
 ·have low:n.gcd d=1→(∀ w' v,IsParts w' v m n d→IsFrac w' v (mkQ m n d)):=fun hg w' v h=>by
   obtain ⟨h1,h2,h3⟩:=mkQ_low (m:=m) hd0 hg
   unfold IsFrac
   rw [h1,h2,h3,decide_eq_true h0,Bool.and_true]
   exact h
  by_cases h1:d=1
  ·refine (make_one m n d vn vd w hn hd h0 h1).mono ?_
   rintro e w' ⟨v,rfl,h,hb⟩
   exact ⟨v,rfl,low (by rw [h1,Nat.gcd_one_right]) _ _ h,hb⟩
  ·by_cases hg:n.gcd d=1
   ·refine (make_low m n d vn vd w hn hd h0 h1 hg hln hld).mono ?_
    rintro e w' ⟨v,rfl,h,hb⟩
    exact ⟨v,rfl,low hg _ _ h,hb⟩
   ·refine (make_red m n d vn vd w hn hd h0 hd0 h1 hg hln hld).mono ?_
    rintro e w' ⟨v,rfl,h,hb⟩
    refine ⟨v,rfl,?_,hb⟩
    unfold IsFrac
    rw [mkQ_ng hd0,mkQ_nm hd0,mkQ_den hd0,decide_eq_true h0,Bool.and_true]
    exact h
end Go.Proofs.YtigapglmipmbeaaGreatDoor
namespace Go.Proofs.YtigapglmipmbeaaGreatDoor
open Go.RowKit Go.Shelf
open Lim
attribute [local go_sem] Oper.semAt_some
theorem isNat_of_blk {w:World} {g m cap:Nat} {rest:List Value} (h:Blk w g 117 (U64 (toL m)++rest).toArray) (h1:(toL m).length≤cap) (h2:cap≤maxLen):IsNat w (.slice (some ⟨g,0,none⟩) (toL m).length cap) m:=by
 refine ⟨some ⟨g,0,none⟩,cap,rfl,h1,h2,?_⟩
 have hr:=(h.row).take (toL m).length
 rw [List.take_left' (by rw [U64_length])] at hr
 exact hr
theorem toL_mul_len (a b:Nat):(toL (a*b)).length≤(toL a).length+(toL b).length :=
 toL_len_le (by rw [Nat.pow_add];exact Nat.mul_lt_mul'' (toL_lt a) (toL_lt b))
def Doubled (b9 b10 q:Nat) (w w':World):Prop :=
 (∃ (g cap:Nat) (_rest:List Value),w.heap.size≤g∧Boxed w' b9 214 (.slice (some ⟨g,0,none⟩) (toL (q*q)).length cap)∧IsNat w' (.slice (some ⟨g,0,none⟩) (toL (q*q)).length cap) (q*q)) ∧
 Boxed w' b10 4 (.bool (decide (Lib.nDigits (q*q)≤4000)))∧(∀ n0,n0≤b9→n0≤b10→n0≤w.heap.size→Below n0 w w')∧(∀ k,k < w.heap.size→k≠b9→k≠b10→w'.heap[k]?=w.heap[k]?)
theorem double_any (b9 b5 b10:Nat) (vq:Value) (q:Nat) (f:Bool) (w:World) (h9:Boxed w b9 214 vq) (hq:IsNat w vq q) (hq0:0 < q) (hlq:(toL q).length≤10000)
  (h5:Boxed w b5 3 (.int .i64 4000)) (h10:Boxed w b10 4 (.bool f)) (h59:b5≠b9) (h910:b9≠b10) (h510:b5≠b10) (w0:World) (hr:Res w0) (h0:Below w0.heap.size w0 w) (hb9:w0.heap.size≤b9) :
  Calls Tryz.prog 261 #[.pointer (some ⟨b9,0,none⟩),.pointer (some ⟨b5,0,none⟩),.pointer (some ⟨b10,0,none⟩)] w fun e w'=>e=.returned (.tuple #[])∧Doubled b9 b10 q w w':=by
 have HQ:=Lib.hid hq
 have c9:=h9.cell
 have l9:=h9.lt
 have l5:=h5.lt
 have l10:=h10.lt
 obtain ⟨A,c,rfl,_,_,_⟩:=hq
 have H9:=Lib.hid h9
 have H5:=Lib.hid h5
 have H10:=Lib.hid h10
 have HRES:=Lib.hid hr
 have HNE:=Lib.hid (And.intro h59 (And.intro h910 h510))
 have hqq:0 < (toL (q*q)).length:=toL_len_pos.2 (Nat.ne_of_gt (Nat.mul_pos hq0 hq0))
 have hlqq:(toL (q*q)).length≤20000:=Nat.le_trans (toL_mul_len q q) (by omega)
 clear h9 h5 h10 hr h59 h910 h510
 refine (callsIn_wide (n:=3)).1 ?_
 have h1:1≤3:=by omega
 refine callsIn_of_wp Tryz.func261 rfl trivial ?_ rfl
 simp only [Tryz.ntmps261,List.size_toArray,List.length_cons,List.length_nil,Nat.reduceAdd,Nat.reduceSub,Array.replicate_succ,Array.replicate_zero,List.push_toArray,List.append_toArray,List.nil_append,List.cons_append]
 have TK1:True:=trivial
 gi_upto_region 1 with (clear TK1;refine ⟨trivial,?_⟩;gi_at_call 245;refine (callsIn_wide.2 (mul_own q q _ _ _ HQ.out HQ.out (by omega) (by omega))).mono ?_;rintro e w1 ⟨v1,rfl,ho,hb⟩;obtain ⟨g,cap,rest,rfl,hg,hbk,hcap,hcapm,_⟩:=owns_blk ho hqq;have HG:=Lib.hid hbk;have HB1:=Lib.hid hb;have d9:Boxed w1 b9 214 _:=bx_below H9.out hb l9;have d9c:=d9.cell;have d9f:=d9.frozen;have D9:=Lib.hid d9;have D5:=Lib.hid (bx_below H5.out hb l5);have D10:=Lib.hid (bx_below H10.out hb l10);clear ho hbk hb d9)
 have hs1:=HB1.out.size
 have k9:Boxed (w1.setCell ⟨b9,0,none⟩ (.slice (some ⟨g,0,none⟩) (toL (q*q)).length cap)) b9 214 _:=Boxed.set (.slice (some ⟨g,0,none⟩) (toL (q*q)).length cap) D9.out
 have k5:Boxed (w1.setCell ⟨b9,0,none⟩ (.slice (some ⟨g,0,none⟩) (toL (q*q)).length cap)) b5 3 _:=bx_far D5.out HNE.out.1 _
 have k10:Boxed (w1.setCell ⟨b9,0,none⟩ (.slice (some ⟨g,0,none⟩) (toL (q*q)).length cap)) b10 4 _:=bx_far D10.out (by intro e;exact HNE.out.2.1 e.symm) _
 have kg:Blk (w1.setCell ⟨b9,0,none⟩ (.slice (some ⟨g,0,none⟩) (toL (q*q)).length cap)) g 117 (U64 (toL (q*q))++rest).toArray:=HG.out.far (by intro e;dsimp only at e;omega) _
 have kB:∀ n0,n0≤b9→n0≤w.heap.size→Below n0 w (w1.setCell ⟨b9,0,none⟩ (.slice (some ⟨g,0,none⟩) (toL (q*q)).length cap)):=fun n0 h1 h2=>(HB1.out.mono h2).setCell (p:=⟨b9,0,none⟩) h1 _
 have kH:∀ k,k < w.heap.size→k≠b9→(w1.setCell ⟨b9,0,none⟩ (.slice (some ⟨g,0,none⟩) (toL (q*q)).length cap)).heap[k]?=w.heap[k]?:=fun k h1 h2=>(Below.heap_setCell w1 ⟨b9,0,none⟩ _ k h2).trans (HB1.out.block k h1)
 have kR:Res (w1.setCell ⟨b9,0,none⟩ (.slice (some ⟨g,0,none⟩) (toL (q*q)).length cap)):=by
  exact HRES.out.below (h0.trans ((HB1.out.mono h0.size).setCell (p:=⟨b9,0,none⟩) hb9 _))
 have kS:w1.heap.size≤(w1.setCell ⟨b9,0,none⟩ (.slice (some ⟨g,0,none⟩) (toL (q*q)).length cap)).heap.size:=by simp [World.setCell]
 have KB:=Lib.hid kB
 have KH:=Lib.hid kH
 have KG:=Lib.hid kg
 clear kB kH kg d9c d9f c9
 generalize (w1.setCell ⟨b9,0,none⟩ (.slice (some ⟨g,0,none⟩) (toL (q*q)).length cap))=W at *
 have e9:=k9.cell
 have e5:=k5.cell
 have hmx:Tryz.prog.follows .mixedOrders=true:=by kernel_rfl
 have x9':∀ X:SameAt W (fun k=>k < W.heap.size∧k≠b10),X.W.cell? ⟨b9,0,none⟩=_:=fun X=>X.cell ⟨k9.lt,HNE.out.2.1⟩ e9
 have x5':∀ X:SameAt W (fun k=>k < W.heap.size∧k≠b10),X.W.cell? ⟨b5,0,none⟩=_:=fun X=>X.cell ⟨k5.lt,HNE.out.2.2⟩ e5
 refine wpIn_stage (IsSame W (fun k=>k < W.heap.size∧k≠b10)) [0,2,3] [] hmx (by kernel_rfl) (isSame_of fun _ _=>rfl) ?_
 change wpStage _ _ _ _ _ _ _ _ (3+2) _ _ _
 refine stage_reads [0,2] 3 _ _ (by kernel_rfl) ?_
 change wpQuietIn _ _ _ _ (fun W'=>∃ x:SameAt W (fun k=>k < W.heap.size∧k≠b10),W'=x.W) _ _ _
 simp only [pick_cons,pick_nil,List.getElem?_cons_zero,List.getElem?_cons_succ,Option.elim_some]
 repeat (gi_big_quiet_step (fail))
 refine wpQuietIn_nil ?_
 refine stage_one 1 (by kernel_rfl) rfl ?_
 gi_wp2
 refine ⟨trivial,?_⟩
 refine (callsIn_wide.2 (digits_any (q*q) _ W.drew (isNat_of_blk KG.out hcap hcapm) (by omega) ⟨kR.tab,kR.max⟩)).mono ?_
 rintro e w3 ⟨rfl,hb3⟩
 have hb4:Below W.heap.size W w3:=⟨hb3.os,hb3.tape,hb3.output,hb3.size,hb3.block⟩
 have HB4:=Lib.hid hb4
 have k10':Boxed w3 b10 4 _:=bx_below k10 hb4 k10.lt
 have K9:=Lib.hid (bx_below k9 hb4 k9.lt)
 have K10:=Lib.hid k10'
 have KG3:=Lib.hid (KG.out.below hb4 KG.out.lt)
 have e10:=k10'.cell
 have f10:=k10'.frozen
 clear hb3 hb4 x9' x5' k10' e9 e5
 gi_wp2
 refine stage_post (isSame_below HB4.out (fun _ h=>h.1)) ?_
 change wpStage _ _ _ _ _ _ _ _ (1+1) _ _ _
 refine stage_reads [3] 1 _ _ (by kernel_rfl) ?_
 change wpQuietIn _ _ _ _ (fun W'=>∃ x:SameAt W (fun k=>k < W.heap.size∧k≠b10),W'=x.W) _ _ _
 simp only [pick_cons,pick_nil,List.getElem?_cons_zero,List.getElem?_cons_succ,Option.elim_some]
 repeat (gi_big_quiet_step (fail))
 refine wpQuietIn_nil ?_
 refine stage_one 4 (by kernel_rfl) rfl ?_
 gi_wp2
 refine stage_post (isSame_of fun k hk=>(Below.heap_setCell _ _ _ k hk.2).trans (HB4.out.block k hk.1)) ?_
 refine stage_done (by kernel_rfl) ?_
 gi_wp2
 go_end0
 refine ⟨rfl,⟨g,cap,rest,hg,bx_far K9.out (by intro e;exact HNE.out.2.1 e) _,?_⟩,?_,?_,?_⟩
 ·exact isNat_of_blk (KG3.out.far (by intro e;dsimp only at e;omega) _) hcap hcapm
 ·have h2:=Boxed.set (.bool (decide (Lib.nDigits (q*q)≤4000))) K10.out
  have e:decide ((Lib.nDigits (q*q):Int)≤4000)=decide (Lib.nDigits (q*q)≤4000):=by
   by_cases h:Lib.nDigits (q*q)≤4000
   ·rw [decide_eq_true h,decide_eq_true (by omega)]
   ·rw [decide_eq_false h,decide_eq_false (by omega)]
  rw [e]
  exact h2
 ·intro n0 h1 h2 h3
  exact ((KB.out n0 h1 h3).trans (HB4.out.mono (by omega))).setCell (p:=⟨b10,0,none⟩) h2 _
 ·intro k h1 h2 h3
  exact ((Below.heap_setCell _ _ _ k h3).trans (HB4.out.block k (by omega))).trans (KH.out k h1 h2)
theorem isNat_past {w w':World} {v v9 v10:Value} {n b9 b10:Nat} {t9 t10:TypeId} (h:IsNat w v n) (h9:Boxed w b9 t9 v9) (n9:∀ z:Int,v9≠.int .u64 z) (h10:Boxed w b10 t10 v10) (n10:∀ z:Int,v10≠.int .u64 z)
  (hF:∀ k,k < w.heap.size→k≠b9→k≠b10→w'.heap[k]?=w.heap[k]?) (hs:w.heap.size≤w'.heap.size):IsNat w' v n:=by
 obtain ⟨A,c,e,h1,h2,h3⟩:=h
 refine ⟨A,c,e,h1,h2,fun h0=>?_⟩
 obtain ⟨b,o,hA,hlt,hc⟩:=h3 h0
 have hz:=U64_get (l:=toL n) (j:=0) (by rwa [U64_length] at h0)
 have hc0:=hc 0 _ hz
 have key:∀ (b1:Nat) (t1:TypeId) (v1:Value),Boxed w b1 t1 v1→(∀ z:Int,v1≠.int .u64 z)→b≠b1:=by
  intro b1 t1 v1 hb hn e
  subst e
  have:=Blk.cell (cs:=#[v1]) hb (o+0)
  rw [hc0] at this
  rcases ho:o+0 with _|k
  ·rw [ho] at this
   simp at this
   exact hn _ this.symm
  ·rw [ho] at this
   simp at this
 have hh:=hF b hlt (key _ _ _ h9 n9) (key _ _ _ h10 n10)
 exact ⟨b,o,hA,Nat.lt_of_lt_of_le hlt hs,fun j x hx=>(SameAt.cell (w:=w) (S:=fun k=>k=b) ⟨w',fun k hk=>by rw [hk];exact hh⟩ rfl (hc j x hx))⟩
theorem limbs_of_nd {n k j:Nat} (h:Lib.nDigits n≤k) (hk:k≤9*j):(toL n).length≤j:=limbs_of (Nat.lt_of_lt_of_le (le_of_nDigits h) (pow_le hk))
theorem pow_small {x n:Nat} (h:x≤1):Lib.nDigits (x ^ n)≤4000:=by
 have h1:x ^ n≤1:=by
  have:x ^ n≤1 ^ n:=Nat.pow_le_pow_left h n
  rwa [Nat.one_pow] at this
 rw [Lib.nDigits_small (by omega)]
 omega
theorem pow_big {o q n:Nat} (ho:1≤o) (hn:1≤n) (hq:2≤q) (h:4000 < Lib.nDigits q):¬ Lib.nDigits (o*q ^ n)≤4000:=by
 have h1:q≤o*q ^ n:=by
  have h2:q ^ 1≤q ^ n:=Nat.pow_le_pow_right (by omega) hn
  rw [Nat.pow_one] at h2
  exact Nat.le_trans h2 (Nat.le_mul_of_pos_left _ ho)
 have:=nDigits_mono h1
 omega
theorem not_small {a b:Nat} (h:¬ Lib.nDigits a≤4000) (hb:0 < b):¬ Lib.nDigits (a*b)≤4000:=by
 have:=nDigits_mono (Nat.le_mul_of_pos_right a hb)
 omega
theorem pow_odd (o q n:Nat) (h:n % 2=1):o*q ^ n=o*q*(q*q) ^ (n / 2):=by
 conv=>lhs;rw [show n=2*(n / 2)+1 by omega]
 rw [Nat.pow_succ,Nat.pow_mul,Nat.pow_two,Nat.mul_assoc,Nat.mul_comm ((q*q) ^ (n / 2)) q]
theorem pow_even (o q n:Nat) (h:n % 2=0):o*q ^ n=o*(q*q) ^ (n / 2):=by
 conv=>lhs;rw [show n=2*(n / 2) by omega]
 rw [Nat.pow_mul,Nat.pow_two]
theorem pow_zero (x:Nat) (vx:Value) (w:World) (hx:IsNat w vx x) :
  Calls Tryz.prog 216 #[vx,.int .u64 0,.int .i64 4000] w fun e w'=>∃ v,e=.returned (.tuple #[v,.bool true])∧IsNat w' v 1∧Below w.heap.size w w':=by
 obtain ⟨A,c,rfl,hc,hcm,_⟩:=hx
 refine (callsIn_wide (n:=3)).1 ?_
 have h1:1≤3:=by omega
 refine callsIn_of_wp Tryz.func216 rfl trivial ?_ rfl
 simp only [Tryz.ntmps216,List.size_toArray,List.length_cons,List.length_nil,Nat.reduceAdd,Nat.reduceSub,Array.replicate_succ,Array.replicate_zero,List.push_toArray,List.append_toArray,List.nil_append,List.cons_append]
 gi_wp2
 refine bodyPost_ret (results_tmp2 rfl _ _ _) rfl ?_
 have hb0:=(Below.refl w.heap.size w).alloc (Nat.le_refl _) (.cells #[.int .i64 4000] 3)
 have hb1:=hb0.alloc hb0.size (.cells #[.int .u64 1] 117)
 refine ⟨.slice (some ⟨w.heap.size+1,0,none⟩) 1 1,rfl,isNat_cell (by omega) (by decide) ?_ (by simp),hb1⟩
 have:=Blk.new (w.alloc (.cells #[.int .i64 4000] 3)) 117 #[.int .u64 1]
 rw [World.size_alloc] at this
 exact this.cell 0
theorem pow_one (x n:Nat) (vx:Value) (w:World) (hx:IsNat w vx x) (hx1:x≤1) (hn0:n≠0) (hn:n < 18446744073709551616) :
  Calls Tryz.prog 216 #[vx,.int .u64 (n:Int),.int .i64 4000] w fun e w'=>∃ v,e=.returned (.tuple #[v,.bool true])∧IsNat w' v (x ^ n)∧Below w.heap.size w w':=by
 have HX:=Lib.hid hx
 obtain ⟨A,c,rfl,hc,hcm,_⟩:=hx
 have hne:((n:Int)==0)=false:=by rw [beq_eq_false_iff_ne];omega
 have hpw:x ^ n=x:=by
  rcases (show x=0∨x=1 by omega) with rfl|rfl
  ·exact Nat.zero_pow (by omega)
  ·exact Nat.one_pow n
 rw [hpw]
 have HB0:=Lib.hid ((Below.refl w.heap.size w).alloc (Nat.le_refl _) (.cells #[.int .i64 4000] 3))
 clear hpw hn0
 refine (callsIn_wide (n:=3)).1 ?_
 have h1:1≤3:=by omega
 refine callsIn_of_wp Tryz.func216 rfl trivial ?_ rfl
 simp only [Tryz.ntmps216,List.size_toArray,List.length_cons,List.length_nil,Nat.reduceAdd,Nat.reduceSub,Array.replicate_succ,Array.replicate_zero,List.push_toArray,List.append_toArray,List.nil_append,List.cons_append]
 have TK1:True:=trivial
 have TK2:True:=trivial
 rcases (show x=0∨x=1 by omega) with rfl|rfl
 ·gi_wp2_with (clear TK1;refine ⟨trivial,?_⟩;gi_at_call 260;refine (callsIn_wide.2 (zero_any 0 _ _ (HX.out.below HB0.out))).mono ?_;rintro e w1 ⟨rfl,rfl⟩)
  refine ⟨trivial,?_⟩
  gi_wp2
  refine bodyPost_ret (results_tmp2 rfl _ _ _) rfl ?_
  exact ⟨_,rfl,HX.out.below HB0.out,HB0.out⟩
 ·gi_wp2_with (first
   | (clear TK1;refine ⟨trivial,?_⟩;gi_at_call 260;refine (callsIn_wide.2 (zero_any 1 _ _ (HX.out.below HB0.out))).mono ?_;rintro e w1 ⟨rfl,rfl⟩)
   | (clear TK2;refine ⟨trivial,?_⟩;gi_at_call 252;refine (callsIn_wide.2 (one_any 1 _ _ (HX.out.below HB0.out))).mono ?_;rintro e w1 ⟨rfl,rfl⟩))
  refine bodyPost_ret (results_tmp2 rfl _ _ _) rfl ?_
  exact ⟨_,rfl,HX.out.below HB0.out,HB0.out⟩
theorem pow_two (x n:Nat) (vx:Value) (w:World) (hx:IsNat w vx x) (hx2:2≤x) (hn0:1≤n) (hn:n < 18446744073709551616) (hxd:Lib.nDigits x≤4000) (hr:Res w) :
  Calls Tryz.prog 216 #[vx,.int .u64 (n:Int),.int .i64 4000] w fun e w'=>∃ v,e=.returned (.tuple #[v,.bool (decide (Lib.nDigits (x ^ n)≤4000))])∧(Lib.nDigits (x ^ n)≤4000→IsNat w' v (x ^ n))∧Below w.heap.size w w':=by
 have HX:=Lib.hid hx
 obtain ⟨A,c,rfl,hc,hcm,_⟩:=hx
 have hne:((n:Int)==0)=false:=by rw [beq_eq_false_iff_ne];omega
 have hb0:=(Below.refl w.heap.size w).alloc (Nat.le_refl _) (.cells #[.int .i64 4000] 3)
 have b5:Boxed (w.alloc (.cells #[.int .i64 4000] 3)) w.heap.size 3 (.int .i64 4000):=Boxed.new w _ _
 have HR:=Lib.hid hr
 have hsz0:(w.alloc (.cells #[.int .i64 4000] 3)).heap.size=w.heap.size+1:=by simp
 have hd0:decide (x=0)=false:=decide_eq_false (by omega)
 have hd1:decide (x=1)=false:=decide_eq_false (by omega)
 have HXD:=Lib.hid hxd
 have HB0:=Lib.hid hb0
 have HB5:=Lib.hid b5
 clear hb0 b5 hxd hr
 refine (callsIn_wide (n:=4)).1 ?_
 have h1:1≤4:=by omega
 refine callsIn_of_wp Tryz.func216 rfl trivial ?_ rfl
 simp only [Tryz.ntmps216,List.size_toArray,List.length_cons,List.length_nil,Nat.reduceAdd,Nat.reduceSub,Array.replicate_succ,Array.replicate_zero,List.push_toArray,List.append_toArray,List.nil_append,List.cons_append]
 have TK1:True:=trivial
 have TK2:True:=trivial
 generalize hW0:w.alloc (.cells #[.int .i64 4000] 3)=W0 at HB0 HB5 hsz0
 gi_upto_region 7 with (first
   | (clear TK1;refine ⟨trivial,?_⟩;gi_at_call 260;refine (callsIn_wide.2 (zero_any x _ _ (HX.out.below HB0.out))).mono ?_;rintro e w1 ⟨rfl,hw1⟩;subst hw1;rw [hd0])
   | (clear TK2;refine ⟨trivial,?_⟩;gi_at_call 252;refine (callsIn_wide.2 (one_any x _ _ (HX.out.below HB0.out))).mono ?_;rintro e w1 ⟨rfl,hw1⟩;subst hw1;rw [hd1]))
 have q5:Boxed (((w1.alloc (.cells #[.int .u64 1] 117)).alloc (.cells #[.slice A (toL x).length c] 214)).alloc (.cells #[.bool true] 4)) w.heap.size 3 (.int .i64 4000):=((HB5.out.alloc _).alloc _).alloc _
 have q1:Blk (((w1.alloc (.cells #[.int .u64 1] 117)).alloc (.cells #[.slice A (toL x).length c] 214)).alloc (.cells #[.bool true] 4)) (w.heap.size+1) 117 #[.int .u64 1]:=by
  have:=((Blk.new w1 117 #[.int .u64 1]).alloc (.cells #[.slice A (toL x).length c] 214)).alloc (.cells #[.bool true] 4)
  rwa [hsz0] at this
 have q9:Boxed (((w1.alloc (.cells #[.int .u64 1] 117)).alloc (.cells #[.slice A (toL x).length c] 214)).alloc (.cells #[.bool true] 4)) (w.heap.size+1+1) 214 (.slice A (toL x).length c):=by
  have:=(Boxed.new (w1.alloc (.cells #[.int .u64 1] 117)) 214 (.slice A (toL x).length c)).alloc (.cells #[.bool true] 4)
  rwa [World.size_alloc,hsz0] at this
 have q10:Boxed (((w1.alloc (.cells #[.int .u64 1] 117)).alloc (.cells #[.slice A (toL x).length c] 214)).alloc (.cells #[.bool true] 4)) (w.heap.size+1+1+1) 4 (.bool true):=by
  have:=Boxed.new ((w1.alloc (.cells #[.int .u64 1] 117)).alloc (.cells #[.slice A (toL x).length c] 214)) 4 (.bool true)
  rwa [World.size_alloc,World.size_alloc,hsz0] at this
 have qB:Below w.heap.size w (((w1.alloc (.cells #[.int .u64 1] 117)).alloc (.cells #[.slice A (toL x).length c] 214)).alloc (.cells #[.bool true] 4)):=((HB0.out.alloc HB0.out.size _).alloc (by simp;omega) _).alloc (by simp;omega) _
 have qo:IsNat (((w1.alloc (.cells #[.int .u64 1] 117)).alloc (.cells #[.slice A (toL x).length c] 214)).alloc (.cells #[.bool true] 4)) (.slice (some ⟨w.heap.size+1,0,none⟩) 1 1) 1:=isNat_cell (by omega) (by decide) (q1.cell 0) q1.lt
 have hlx:(toL x).length≤1000:=limbs_of_nd HXD.out (by omega)
 clear q1
 generalize (((w1.alloc (.cells #[.int .u64 1] 117)).alloc (.cells #[.slice A (toL x).length c] 214)).alloc (.cells #[.bool true] 4))=W1 at *
 generalize hg5:w.heap.size=g at *
 clear HB0 HB5 hsz0 hW0
 gi_wp2
 gi_loopw [1,8] (fun sn so wr=>∃ (m o q:Nat) (vq:Value),sn=.int .u64 (m:Int)∧1≤m∧m≤n∧IsNat wr so o∧1≤o∧Lib.nDigits o≤4000∧Boxed wr (g+1+1) 214 vq∧IsNat wr vq q∧2≤q∧(toL q).length≤1000∧Boxed wr g 3 (.int .i64 4000)∧Boxed wr (g+1+1+1) 4 (.bool (decide (Lib.nDigits q≤4000)))∧x ^ n=o*q ^ m∧Below g w wr) (fun sn _ _=>(intOf sn).toNat)
 case atStart =>
  exact ⟨n,1,x,_,rfl,hn0,Nat.le_refl _,qo,Nat.le_refl _,by rw [Lib.nDigits_small (by omega)];omega,q9,HX.out.below (by rw [hg5];exact qB),hx2,hlx,q5,by rw [decide_eq_true HXD.out];exact q10,by rw [Nat.one_mul],qB⟩
 case round =>
  obtain ⟨m,o,q,vq,rfl,hm1,hmn,ho,ho1,hod,b9,hq,hq2,hql,b5,b10,hpw,hB⟩:=hrel
  clear q5 q9 q10 qB qo hlx
  have hl1:1≤4:=by omega
  obtain ⟨Aq,cq,rfl⟩:∃ Aq cq,vq=.slice Aq (toL q).length cq:=by obtain ⟨Aq,cq,e,_⟩:=hq;exact ⟨Aq,cq,e⟩
  obtain ⟨Ao,co,rfl⟩:∃ Ao co,u8=.slice Ao (toL o).length co:=by obtain ⟨Ao,co,e,_⟩:=ho;exact ⟨Ao,co,e⟩
  have HO:=Lib.hid ho
  have HQ:=Lib.hid hq
  have HPW:=Lib.hid hpw
  have HBX:=Lib.hid (And.intro b9 (And.intro b5 b10))
  have HB:=Lib.hid hB
  have hol:=limbs_of_nd hod (show 4000≤9*1000 by omega)
  have HOD:=Lib.hid hod
  have d9:=b9.cell
  have d5:=b5.cell
  have d10:=b10.cell
  have l9:=b9.lt
  have l5:=b5.lt
  have l10:=b10.lt
  have hmx:Tryz.prog.follows .mixedOrders=true:=by kernel_rfl
  clear ho hq hpw b9 b5 b10 hB hod
  obtain ⟨fb,hfb⟩:∃ fb,decide (Lib.nDigits q≤4000)=fb:=⟨_,rfl⟩
  rw [hfb] at d10 HBX
  have HFB:=Lib.hid hfb
  clear hfb
  have hand:=and_one_u64 (m:Int) (by omega) (by omega)
  gi_upto_if 27 with fail
  gi_cut [8] from 25 (fun so wc=>∃ (o':Nat),IsNat wc so o'∧1≤o'∧Lib.nDigits o'≤4000∧x ^ n=o'*(q*q) ^ (m / 2)∧Boxed wc (g+1+1) 214 (.slice Aq (toL q).length cq)∧Boxed wc g 3 (.int .i64 4000)∧Boxed wc (g+1+1+1) 4 (.bool fb)∧IsNat wc (.slice Aq (toL q).length cq) q∧(m / 2=0→x ^ n=o')∧Below g w wc)
  case first =>
   by_cases hodd:m % 2=1
   ·have hod1:((m:Int) % 2==1)=true:=by rw [beq_iff_eq];omega
    have hod2:(m:Int) % 2=1:=by omega
    have TK3:True:=trivial
    gi_upto_region 9 with fail
    refine ⟨trivial,?_⟩
    gi_at_call 245
    refine (callsIn_wide.2 (mul_any o q _ _ _ HO.out HQ.out (by omega) (by omega))).mono ?_
    rintro e w3 ⟨v3,rfl,ho3,hb3⟩
    obtain ⟨A3,c3,rfl,hc3,hcm3,_⟩:=id ho3
    have HO3:=Lib.hid ho3
    have HB3:=Lib.hid hb3
    have k10:Boxed w3 (g+1+1+1) 4 _:=bx_below HBX.out.2.2 hb3 l10
    have k5:Boxed w3 g 3 _:=bx_below HBX.out.2.1 hb3 l5
    have k9:Boxed w3 (g+1+1) 214 _:=bx_below HBX.out.1 hb3 l9
    have HQ3:=Lib.hid (HQ.out.below hb3)
    have hgs:g≤wr.heap.size:=by rw [← hg5];exact HB.out.size
    have hB3:Below g w w3:=HB.out.trans (hb3.mono hgs)
    have HRR:=Lib.hid (HR.out.below (by rw [hg5];exact hB3))
    have HBB:=Lib.hid hB3
    have K3:=Lib.hid (And.intro k9 (And.intro k5 k10))
    have hol3:(toL (o*q)).length≤2000:=Nat.le_trans (toL_mul_len o q) (by omega)
    have e10:=k10.cell
    have e5:=k5.cell
    have hs3:=hb3.size
    clear ho3 hb3 hB3 d9 d10 d5 k9 k5 k10
    gi_upto_region 9 with fail
    have x10':∀ X:SameAt w3 (fun k=>k < w3.heap.size),X.W.cell? ⟨g+1+1+1,0,none⟩=_:=fun X=>X.cell (by omega) e10
    have x5':∀ X:SameAt w3 (fun k=>k < w3.heap.size),X.W.cell? ⟨g,0,none⟩=_:=fun X=>X.cell (by omega) e5
    refine wpIn_stage (IsSame w3 (fun k=>k < w3.heap.size)) [0,1,2,3,5,6,7] [] hmx (by kernel_rfl) (isSame_of fun _ _=>rfl) ?_
    change wpStage _ _ _ _ _ _ _ _ (3+5) _ _ _
    refine stage_reads [0,1,2,3,5] 3 _ _ (by kernel_rfl) ?_
    change wpQuietIn _ _ _ _ (fun W'=>∃ x:SameAt w3 (fun k=>k < w3.heap.size),W'=x.W) _ _ _
    simp only [pick_cons,pick_nil,List.getElem?_cons_zero,List.getElem?_cons_succ,Option.elim_some]
    cases fb with
    | false =>
     have hqb:4000 < Lib.nDigits q:=by have:=of_decide_eq_false HFB.out;omega
     repeat (gi_big_quiet_step (fail))
     refine wpQuietIn_nil ?_
     refine stage_one 4 (by kernel_rfl) rfl ?_
     gi_wp2
     refine ⟨trivial,?_⟩
     gi_wp2
     refine stage_post (isSame_of fun _ _=>rfl) ?_
     change wpStage _ _ _ _ _ _ _ _ (0+2) _ _ _
     refine stage_reads [6,7] 0 _ _ (by kernel_rfl) ?_
     change wpQuietIn _ _ _ _ (fun W'=>∃ x:SameAt w3 (fun k=>k < w3.heap.size),W'=x.W) _ _ _
     simp only [pick_cons,pick_nil,List.getElem?_cons_zero,List.getElem?_cons_succ,Option.elim_some]
     repeat (gi_big_quiet_step (fail))
     refine wpQuietIn_nil ?_
     refine stage_done (by kernel_rfl) ?_
     gi_wp2
     refine bodyPost_ret (results_tmp2 rfl _ _ _) rfl ?_
     have hnot:¬ Lib.nDigits (x ^ n)≤4000:=by
      rw [HPW.out]
      exact pow_big ho1 hm1 hq2 hqb
     refine ⟨.slice none 0 0,?_,fun h=>absurd h hnot,by rw [hg5];exact ⟨HBB.out.os,HBB.out.tape,HBB.out.output,HBB.out.size,HBB.out.block⟩⟩
     rw [decide_eq_false hnot]
     rfl
    | true =>
     repeat (gi_big_quiet_step (fail))
     refine wpQuietIn_nil ?_
     refine stage_one 4 (by kernel_rfl) rfl ?_
     gi_wp2
     refine ⟨trivial,?_⟩
     refine (callsIn_wide.2 (digits_any (o*q) _ w3.drew HO3.out (by omega) ⟨HRR.out.tab,HRR.out.max⟩)).mono ?_
     rintro e w4 ⟨rfl,hb4⟩
     have hb4:Below w3.heap.size w3 w4:=⟨hb4.os,hb4.tape,hb4.output,hb4.size,hb4.block⟩
     have HB4:=Lib.hid hb4
     clear hb4
     gi_wp2
     refine stage_post (isSame_below HB4.out (fun _ h=>h)) ?_
     change wpStage _ _ _ _ _ _ _ _ (0+2) _ _ _
     refine stage_reads [6,7] 0 _ _ (by kernel_rfl) ?_
     change wpQuietIn _ _ _ _ (fun W'=>∃ x:SameAt w3 (fun k=>k < w3.heap.size),W'=x.W) _ _ _
     simp only [pick_cons,pick_nil,List.getElem?_cons_zero,List.getElem?_cons_succ,Option.elim_some]
     repeat (gi_big_quiet_step (fail))
     refine wpQuietIn_nil ?_
     refine stage_done (by kernel_rfl) ?_
     by_cases hbig:Lib.nDigits (o*q)≤4000
     ·have hd:decide ((4000:Int) < (Lib.nDigits (o*q):Int))=false:=decide_eq_false (by omega)
      gi_wp2
      gi_meet
      case rel =>
       have B4:Below g w w4:=HBB.out.trans (HB4.out.mono (Nat.le_trans hgs hs3))
       exact ⟨o*q,HO3.out.below HB4.out,Nat.mul_pos ho1 (by omega),hbig,by rw [HPW.out];exact pow_odd o q m hodd,bx_below K3.out.1 HB4.out K3.out.1.lt,bx_below K3.out.2.1 HB4.out K3.out.2.1.lt,bx_below K3.out.2.2 HB4.out K3.out.2.2.lt,HQ3.out.below HB4.out,fun h=>by rw [HPW.out,show m=1 by omega,Nat.pow_one],B4⟩
     ·have hd:decide ((4000:Int) < (Lib.nDigits (o*q):Int))=true:=decide_eq_true (by omega)
      gi_wp2
      refine bodyPost_ret (results_tmp2 rfl _ _ _) rfl ?_
      have B4:Below g w w4:=HBB.out.trans (HB4.out.mono (Nat.le_trans hgs hs3))
      have hnot:¬ Lib.nDigits (x ^ n)≤4000:=by
       rw [HPW.out,pow_odd o q m hodd]
       exact not_small hbig (Nat.pow_pos (Nat.mul_pos (by omega) (by omega)))
      refine ⟨.slice none 0 0,?_,fun h=>absurd h hnot,by rw [hg5];exact B4⟩
      rw [decide_eq_false hnot]
      rfl
   ·have hod1:((m:Int) % 2==1)=false:=by rw [beq_eq_false_iff_ne];omega
    have hod2:¬ (m:Int) % 2=1:=by omega
    gi_wp2
    gi_meet
    case rel=>exact ⟨o,HO.out,ho1,HOD.out,by rw [HPW.out];exact pow_even o q m (by omega),HBX.out.1,HBX.out.2.1,HBX.out.2.2,HQ.out,fun h=>by omega,HB.out⟩
  case rest =>
   obtain ⟨o',ho',ho1',hod',hpw',c9,c5,c10,hq',hz,hB'⟩:=hcut
   obtain ⟨Ao',co',rfl,_,_,_⟩:=id ho'
   have HO':=Lib.hid ho'
   have HPW':=Lib.hid hpw'
   have HZ:=Lib.hid hz
   have HQ':=Lib.hid hq'
   have HB':=Lib.hid hB'
   have C':=Lib.hid (And.intro c9 (And.intro c5 c10))
   have d9:=c9.cell
   have d5:=c5.cell
   have d10:=c10.cell
   clear ho' hpw' hz hq' hB' c9 c5 c10 HB HQ HO HBX HPW HOD
   by_cases hm2:m / 2=0
   ·have hmz:((m:Int) / 2==0)=true:=by rw [beq_iff_eq];omega
    gi_wp2
    refine bodyPost_ret (results_tmp2 rfl _ _ _) rfl ?_
    have hyes:Lib.nDigits (x ^ n)≤4000:=by rw [HZ.out hm2];exact hod'
    refine ⟨.slice Ao' (toL o').length co',?_,fun _=>by rw [HZ.out hm2];exact HO'.out,by rw [hg5];exact HB'.out⟩
    rw [decide_eq_true hyes]
    rfl
   ·have hmz:((m:Int) / 2==0)=false:=by rw [beq_eq_false_iff_ne];omega
    cases fb with
    | false =>
     gi_wp2
     refine bodyPost_ret (results_tmp2 rfl _ _ _) rfl ?_
     have hnot:¬ Lib.nDigits (x ^ n)≤4000:=by
      have h1:4000 < Lib.nDigits q:=by have:=of_decide_eq_false HFB.out;omega
      have h2:q≤q*q:=Nat.le_mul_of_pos_right q (by omega)
      have h3:=nDigits_mono h2
      rw [HPW'.out]
      exact pow_big ho1' (by omega) (by omega) (by omega)
     refine ⟨.slice none 0 0,?_,fun h=>absurd h hnot,by rw [hg5];exact HB'.out⟩
     rw [decide_eq_false hnot]
     rfl
    | true =>
     have hqd:Lib.nDigits q≤4000:=of_decide_eq_true HFB.out
     have hql':(toL q).length≤500:=limbs_of_nd hqd (by omega)
     have HQD:=Lib.hid hqd
     clear hqd
     gi_wp2
     refine ⟨trivial,?_⟩
     refine (callsIn_wide.2 (double_any (g+1+1) g (g+1+1+1) _ q true wc C'.out.1 HQ'.out (by omega) (by omega) C'.out.2.1 C'.out.2.2 (by omega) (by omega) (by omega) w HR.out (by rw [hg5];exact HB'.out) (by omega))).mono ?_
     rintro e w5 ⟨rfl,⟨gq,capq,restq,hgq,hbx9,hnat⟩,hbx10,hBf,hFr⟩
     have hs5:wc.heap.size≤w5.heap.size:=(hBf 0 (by omega) (by omega) (by omega)).size
     have k5:Boxed w5 g 3 (.int .i64 4000):=bx_below C'.out.2.1 (hBf (g+1) (by omega) (by omega) C'.out.2.1.lt) (by omega)
     have ho5:IsNat w5 (.slice Ao' (toL o').length co') o':=isNat_past HO'.out C'.out.1 (fun z h=>by cases h) C'.out.2.2 (fun z h=>by cases h) hFr hs5
     have hB5:Below g w w5:=HB'.out.trans (hBf g (by omega) (by omega) (Nat.le_of_lt C'.out.2.1.lt))
     gi_wp2
     refine ⟨⟨m / 2,o',q*q,_,by rw [Int.natCast_ediv];rfl,by omega,by omega,ho5,ho1',hod',hbx9,hnat,?_,?_,k5,hbx10,HPW'.out,hB5⟩,?_⟩
     ·exact Nat.le_trans hq2 (Nat.le_mul_of_pos_right q (by omega))
     ·exact Nat.le_trans (toL_mul_len q q) (by omega)
     ·show ((m:Int) / 2).toNat < ((m:Int)).toNat
      omega
theorem pow_any (x n:Nat) (vx:Value) (w:World) (hx:IsNat w vx x) (hn:n < 18446744073709551616) (hxd:Lib.nDigits x≤4000) (hr:Res w) :
  Calls Tryz.prog 216 #[vx,.int .u64 (n:Int),.int .i64 4000] w fun e w'=>∃ v,e=.returned (.tuple #[v,.bool (decide (Lib.nDigits (x ^ n)≤4000))])∧(Lib.nDigits (x ^ n)≤4000→IsNat w' v (x ^ n))∧Below w.heap.size w w':=by
 rcases Nat.eq_zero_or_pos n with rfl|hn0
 ·refine (pow_zero x vx w hx).mono ?_
  rintro e w' ⟨v,rfl,h1,h2⟩
  rw [Nat.pow_zero,decide_eq_true (by rw [Lib.nDigits_small (by omega)];omega)]
  exact ⟨v,rfl,fun _=>h1,h2⟩
 ·by_cases hx2:2≤x
  ·exact pow_two x n vx w hx hx2 hn0 hn hxd hr
  ·refine (pow_one x n vx w hx (by omega) (by omega) hn).mono ?_
   rintro e w' ⟨v,rfl,h1,h2⟩
   rw [decide_eq_true (pow_small (by omega))]
   exact ⟨v,rfl,fun _=>h1,h2⟩
theorem same_row {W:World} {S:Nat→Prop} (X:SameAt W S) {b:Nat} {t:TypeId} {cs:Array Value} (h:Blk W b t cs) (hS:S b):Blk X.W b t cs:=(X.h b hS).trans h
theorem same_cells {W:World} {S:Nat→Prop} {b:Nat} {t:TypeId} {x y z:Value} (h:Blk W b t #[x,y,z]) (hS:S b) :
  (∀ X:SameAt W S,X.W.cell? ⟨b,0,none⟩=some x)∧(∀ X:SameAt W S,X.W.cell? ⟨b,1,none⟩=some y)∧(∀ X:SameAt W S,X.W.cell? ⟨b,2,none⟩=some z) :=
 ⟨fun X=>(cellrow (same_row X h hS) 0 (by simp)).1,fun X=>(cellrow (same_row X h hS) 1 (by simp)).1,fun X=>(cellrow (same_row X h hS) 2 (by simp)).1⟩
abbrev zF:Obj:=.cells #[.bool false,.slice none 0 0,.slice none 0 0] 216
theorem box_res (w:World) (m vn vd:Value):Blk ((w.alloc (.cells #[m,vn,vd] 216)).alloc zF) w.heap.size 216 #[m,vn,vd]∧Blk ((w.alloc (.cells #[m,vn,vd] 216)).alloc zF) (w.heap.size+1) 216 #[.bool false,.slice none 0 0,.slice none 0 0] ∧
  Below w.heap.size w ((w.alloc (.cells #[m,vn,vd] 216)).alloc zF)∧((w.alloc (.cells #[m,vn,vd] 216)).alloc zF).heap.size=w.heap.size+2:=by
 refine ⟨(Blk.new w _ _).alloc _,?_,((Below.refl _ _).alloc (Nat.le_refl _) _).alloc (by simp) _,by simp⟩
 have:=Blk.new (w.alloc (.cells #[m,vn,vd] 216)) 216 #[.bool false,.slice none 0 0,.slice none 0 0]
 rwa [World.size_alloc] at this
theorem box2_res (w:World) (m vn vd m' vn' vd':Value):Blk (((w.alloc (.cells #[m,vn,vd] 216)).alloc (.cells #[m',vn',vd'] 216)).alloc zF) w.heap.size 216 #[m,vn,vd] ∧
  Blk (((w.alloc (.cells #[m,vn,vd] 216)).alloc (.cells #[m',vn',vd'] 216)).alloc zF) (w.heap.size+1) 216 #[m',vn',vd'] ∧
  Blk (((w.alloc (.cells #[m,vn,vd] 216)).alloc (.cells #[m',vn',vd'] 216)).alloc zF) (w.heap.size+1+1) 216 #[.bool false,.slice none 0 0,.slice none 0 0] ∧
  Below w.heap.size w (((w.alloc (.cells #[m,vn,vd] 216)).alloc (.cells #[m',vn',vd'] 216)).alloc zF)∧(((w.alloc (.cells #[m,vn,vd] 216)).alloc (.cells #[m',vn',vd'] 216)).alloc zF).heap.size=w.heap.size+3:=by
 refine ⟨((Blk.new w _ _).alloc _).alloc _,?_,?_,(((Below.refl _ _).alloc (Nat.le_refl _) _).alloc (by simp) _).alloc (by simp;omega) _,by simp⟩
 ·have:=(Blk.new (w.alloc (.cells #[m,vn,vd] 216)) 216 #[m',vn',vd']).alloc zF
  rwa [World.size_alloc] at this
 ·have:=Blk.new ((w.alloc (.cells #[m,vn,vd] 216)).alloc (.cells #[m',vn',vd'] 216)) 216 #[.bool false,.slice none 0 0,.slice none 0 0]
  rwa [World.size_alloc,World.size_alloc] at this
theorem below_drew {n:Nat} {w W:World} (h:Below n w W):Below n w W.drew:=⟨h.os,h.tape,h.output,h.size,h.block⟩
theorem below_undrew {n:Nat} {w W:World} (h:Below n W.drew w):Below n W w:=⟨h.os,h.tape,h.output,h.size,h.block⟩
theorem below_drew3 {n:Nat} {w W:World} (h:Below n W w):Below n W.drew w:=⟨h.os,h.tape,h.output,h.size,h.block⟩
theorem set3_heap {w:World} {g:Nat} {x y z:Value} (k:Nat) (hk:k≠g):(((w.setCell ⟨g,0,none⟩ x).setCell ⟨g,1,none⟩ y).setCell ⟨g,2,none⟩ z).heap[k]?=w.heap[k]? :=
 ((Below.heap_setCell _ ⟨g,2,none⟩ _ k hk).trans (Below.heap_setCell _ ⟨g,1,none⟩ _ k hk)).trans (Below.heap_setCell _ ⟨g,0,none⟩ _ k hk)
theorem isFrac_open {w:World} {v:Value} {q:Rat} (h:IsFrac w v q):∃ (b:Bool) (N D:Nat) (A:Option Addr) (c:Nat) (A':Option Addr) (c':Nat),v=.agg #[.bool b,.slice A (toL N).length c,.slice A' (toL D).length c'] ∧
  IsNat w (.slice A (toL N).length c) N∧IsNat w (.slice A' (toL D).length c') D∧Hid (ng q=b∧nm q=N∧q.den=D):=by
 obtain ⟨A,c,A',c',rfl,h1,h2⟩:=h
 exact ⟨_,_,_,A,c,A',c',rfl,h1,h2,Lib.hid ⟨rfl,rfl,rfl⟩⟩
theorem isFrac_close {w:World} {v:Value} {q:Rat} {b:Bool} {N D:Nat} (h:Hid (ng q=b∧nm q=N∧q.den=D)) (hp:IsParts w v b N D):IsFrac w v q:=by
 obtain ⟨h1,h2,h3⟩:=h.out
 unfold IsFrac
 rw [h1,h2,h3]
 exact hp
theorem fneg_any (m:Bool) (n d:Nat) (v:Value) (w:World) (h:IsParts w v m n d) :
  Calls Tryz.prog 258 #[v] w fun e w'=>∃ v',e=.returned v'∧IsParts w' v' (!m&&!decide (n=0)) n d∧Below w.heap.size w w':=by
 obtain ⟨An,cn,Ad,cd,rfl,hn,hd⟩:=h
 have HN:=Lib.hid hn
 have HD:=Lib.hid hd
 clear hn hd
 refine (callsIn_wide (n:=3)).1 ?_
 have h1:1≤3:=by omega
 have hmx:Tryz.prog.follows .mixedOrders=true:=by kernel_rfl
 refine callsIn_of_wp Tryz.func258 rfl trivial ?_ rfl
 simp only [Tryz.ntmps258,List.size_toArray,List.length_cons,List.length_nil,Nat.reduceAdd,Nat.reduceSub,Array.replicate_succ,Array.replicate_zero,List.push_toArray,List.append_toArray,List.nil_append,List.cons_append]
 gi_upto_region 1 with fail
 obtain ⟨b0,b1,hB,hs⟩:=box_res w (.bool m) (.slice An (toL n).length cn) (.slice Ad (toL d).length cd)
 generalize (w.alloc (.cells #[.bool m,.slice An (toL n).length cn,.slice Ad (toL d).length cd] 216)).alloc zF=W at *
 obtain ⟨x0,x1,x2⟩:=same_cells (S:=fun k=>k < W.heap.size∧k≠w.heap.size+1) b0 ⟨by omega,by omega⟩
 obtain ⟨r0,s0⟩:=cellrow b1 0 (by simp)
 obtain ⟨r1,s1⟩:=cellrow b1 1 (by simp)
 obtain ⟨r2,s2⟩:=cellrow b1 2 (by simp)
 have HB:=Lib.hid hB
 have HS:=Lib.hid hs
 have HB1:=Lib.hid b1
 clear b0 b1 hB hs
 cases m with
 | true =>
  refine wpIn_stage (IsSame W (fun k=>k < W.heap.size∧k≠w.heap.size+1)) [0,1,2,3,4,5,7,8,9,10,11,12,13] [] hmx (by kernel_rfl) (isSame_of fun _ _=>rfl) ?_
  change wpStage _ _ _ _ _ _ _ _ (5+10) _ _ _
  refine stage_reads [0,1,2,3,4,5,9,10,11,12] 5 _ _ (by kernel_rfl) ?_
  change wpQuietIn _ _ _ _ (fun W'=>∃ x:SameAt W (fun k=>k < W.heap.size∧k≠w.heap.size+1),W'=x.W) _ _ _
  simp only [pick_cons,pick_nil,List.getElem?_cons_zero,List.getElem?_cons_succ,Option.elim_some]
  repeat (gi_big_quiet_step (fail))
  refine wpQuietIn_nil ?_
  refine stage_one 6 (by kernel_rfl) rfl ?_
  gi_wp2
  refine ⟨trivial,?_⟩
  gi_wp2
  refine stage_post (isSame_of fun _ _=>rfl) ?_
  change wpStage _ _ _ _ _ _ _ _ (1+3) _ _ _
  refine stage_reads [7,8,13] 1 _ _ (by kernel_rfl) ?_
  change wpQuietIn _ _ _ _ (fun W'=>∃ x:SameAt W (fun k=>k < W.heap.size∧k≠w.heap.size+1),W'=x.W) _ _ _
  simp only [pick_cons,pick_nil,List.getElem?_cons_zero,List.getElem?_cons_succ,Option.elim_some]
  repeat (gi_big_quiet_step (fail))
  refine wpQuietIn_nil ?_
  refine stage_one 14 (by kernel_rfl) rfl ?_
  gi_wp2
  refine stage_post (isSame_of fun k hk=>set3_heap k hk.2) ?_
  refine stage_done (by kernel_rfl) ?_
  gi_wp2
  have hsz:=HS.out
  refine ret_frac rfl rfl (by simp) (set3 HB1.out) ⟨_,rfl,?_,?_⟩
  ·exact isParts_mk (isNat_set3 (HN.out.below HB.out) HB1.out) (isNat_set3 (HD.out.below HB.out) HB1.out)
  ·exact set3_below (g:=w.heap.size+1) (below_drew HB.out) (Nat.le_succ _)
 | false =>
  refine wpIn_stage (IsSame W (fun k=>k < W.heap.size∧k≠w.heap.size+1)) [0,1,2,3,4,5,7,8,9,10,11,12,13] [] hmx (by kernel_rfl) (isSame_of fun _ _=>rfl) ?_
  change wpStage _ _ _ _ _ _ _ _ (5+10) _ _ _
  refine stage_reads [0,1,2,3,4,5,9,10,11,12] 5 _ _ (by kernel_rfl) ?_
  change wpQuietIn _ _ _ _ (fun W'=>∃ x:SameAt W (fun k=>k < W.heap.size∧k≠w.heap.size+1),W'=x.W) _ _ _
  simp only [pick_cons,pick_nil,List.getElem?_cons_zero,List.getElem?_cons_succ,Option.elim_some]
  repeat (gi_big_quiet_step (fail))
  refine wpQuietIn_nil ?_
  refine stage_one 6 (by kernel_rfl) rfl ?_
  gi_wp2
  refine ⟨trivial,?_⟩
  refine (callsIn_wide.2 (zero_any n _ W.drew (HN.out.below (below_drew HB.out)))).mono ?_
  rintro e w3 ⟨rfl,rfl⟩
  generalize hz:decide (n=0)=z
  have HZ:=Lib.hid hz
  clear hz
  gi_wp2
  refine stage_post (isSame_of fun _ _=>rfl) ?_
  change wpStage _ _ _ _ _ _ _ _ (1+3) _ _ _
  refine stage_reads [7,8,13] 1 _ _ (by kernel_rfl) ?_
  change wpQuietIn _ _ _ _ (fun W'=>∃ x:SameAt W (fun k=>k < W.heap.size∧k≠w.heap.size+1),W'=x.W) _ _ _
  simp only [pick_cons,pick_nil,List.getElem?_cons_zero,List.getElem?_cons_succ,Option.elim_some]
  repeat (gi_big_quiet_step (fail))
  refine wpQuietIn_nil ?_
  refine stage_one 14 (by kernel_rfl) rfl ?_
  gi_wp2
  refine stage_post (isSame_of fun k hk=>set3_heap k hk.2) ?_
  refine stage_done (by kernel_rfl) ?_
  gi_wp2
  have hsz:=HS.out
  refine ret_frac rfl rfl (by simp) (set3 HB1.out) ⟨_,rfl,?_,?_⟩
  ·rw [HZ.out,Bool.not_false,Bool.true_and]
   exact isParts_mk (isNat_set3 (HN.out.below HB.out) HB1.out) (isNat_set3 (HD.out.below HB.out) HB1.out)
  ·exact set3_below (g:=w.heap.size+1) (below_drew HB.out) (Nat.le_succ _)
theorem fmul_any (m m':Bool) (n d n' d':Nat) (v v':Value) (w:World) (h:IsParts w v m n d) (h':IsParts w v' m' n' d') (hd0:d*d'≠0) (l1:(toL n).length≤10000) (l2:(toL d).length≤10000) (l3:(toL n').length≤10000) (l4:(toL d').length≤10000) :
  Calls Tryz.prog 206 #[v,v'] w fun e w'=>∃ v2,e=.returned v2∧IsFrac w' v2 (mkQ (m != m') (n*n') (d*d'))∧Below w.heap.size w w':=by
 obtain ⟨An,cn,Ad,cd,rfl,hn,hd⟩:=h
 obtain ⟨An',cn',Ad',cd',rfl,hn',hd'⟩:=h'
 have HN:=Lib.hid hn
 have HD:=Lib.hid hd
 have HN':=Lib.hid hn'
 have HD':=Lib.hid hd'
 have ln:=Nat.le_trans (toL_mul_len n n') (show _≤30000 by omega)
 have ld:=Nat.le_trans (toL_mul_len d d') (show _≤30000 by omega)
 clear hn hd hn' hd'
 refine (callsIn_wide (n:=3)).1 ?_
 have h1:1≤3:=by omega
 have hmx:Tryz.prog.follows .mixedOrders=true:=by kernel_rfl
 refine callsIn_of_wp Tryz.func206 rfl trivial ?_ rfl
 simp only [Tryz.ntmps206,List.size_toArray,List.length_cons,List.length_nil,Nat.reduceAdd,Nat.reduceSub,Array.replicate_succ,Array.replicate_zero,List.push_toArray,List.append_toArray,List.nil_append,List.cons_append]
 gi_upto_region 1 with fail
 obtain ⟨b0,b1,b2,hB,hs⟩:=box2_res w (.bool m) (.slice An (toL n).length cn) (.slice Ad (toL d).length cd) (.bool m') (.slice An' (toL n').length cn') (.slice Ad' (toL d').length cd')
 generalize ((w.alloc (.cells #[.bool m,.slice An (toL n).length cn,.slice Ad (toL d).length cd] 216)).alloc (.cells #[.bool m',.slice An' (toL n').length cn',.slice Ad' (toL d').length cd'] 216)).alloc zF=W at *
 obtain ⟨x0,x1,x2⟩:=same_cells (S:=fun k=>k < W.heap.size∧k≠w.heap.size+1+1) b0 ⟨by omega,by omega⟩
 obtain ⟨y0,y1,y2⟩:=same_cells (S:=fun k=>k < W.heap.size∧k≠w.heap.size+1+1) b1 ⟨by omega,by omega⟩
 have HB:=Lib.hid (below_drew hB)
 have HS:=Lib.hid hs
 have HB1:=Lib.hid b2
 clear b0 b1 b2 hB hs
 refine wpIn_stage (IsSame W (fun k=>k < W.heap.size∧k≠w.heap.size+1+1)) [0,1,2,3,4,5,6,7,8,10,11,12,13] [] hmx (by kernel_rfl) (isSame_of fun _ _=>rfl) ?_
 change wpStage _ _ _ _ _ _ _ _ (4+13) _ _ _
 refine stage_reads [0,1,2,3,4,5,6,7,8,10,11,12,13] 4 _ _ (by kernel_rfl) ?_
 change wpQuietIn _ _ _ _ (fun W'=>∃ x:SameAt W (fun k=>k < W.heap.size∧k≠w.heap.size+1+1),W'=x.W) _ _ _
 simp only [pick_cons,pick_nil,List.getElem?_cons_zero,List.getElem?_cons_succ,Option.elim_some]
 repeat (gi_big_quiet_step (fail))
 refine wpQuietIn_nil ?_
 refine stage_one 9 (by kernel_rfl) rfl ?_
 gi_wp2
 refine ⟨trivial,?_⟩
 refine (callsIn_wide.2 (mul_any n n' _ _ W.drew (HN.out.below HB.out) (HN'.out.below HB.out) (by omega) (by omega))).mono ?_
 rintro e w3 ⟨v3,rfl,hv3,hb3⟩
 have HV3:=Lib.hid hv3
 have HB3:=Lib.hid (below_undrew hb3)
 clear hv3 hb3
 gi_wp2
 refine stage_post (isSame_below HB3.out (fun k hk=>hk.1)) ?_
 refine stage_one 14 (by kernel_rfl) rfl ?_
 gi_wp2
 refine ⟨trivial,?_⟩
 refine (callsIn_wide.2 (mul_any d d' _ _ w3 (HD.out.below (HB.out.trans ((below_drew3 HB3.out).mono HB.out.size))) (HD'.out.below (HB.out.trans ((below_drew3 HB3.out).mono HB.out.size))) (by omega) (by omega))).mono ?_
 rintro e w4 ⟨v4,rfl,hv4,hb4⟩
 have HV4:=Lib.hid hv4
 have HB4:=Lib.hid hb4
 clear hv4 hb4
 gi_wp2
 refine stage_post (isSame_below (HB3.out.trans (HB4.out.mono HB3.out.size)) (fun k hk=>hk.1)) ?_
 refine stage_one 15 (by kernel_rfl) rfl ?_
 gi_wp2
 refine ⟨trivial,?_⟩
 refine (callsIn_wide.2 (fmake_any (!(m==m')) (n*n') (d*d') _ _ w4 (HV3.out.below HB4.out) HV4.out hd0 ln ld)).mono ?_
 rintro e w5 ⟨v5,rfl,hv5,hb5⟩
 obtain ⟨b5,N5,D5,A5,c5,A5',c5',rfl,hn5,hd5,HP5⟩:=isFrac_open hv5
 clear hv5
 have hb45:Below W.heap.size W w5:=HB3.out.trans ((HB4.out.mono HB3.out.size).trans (hb5.mono (Nat.le_trans HB3.out.size HB4.out.size)))
 have hsz:=HS.out
 obtain ⟨HB5,r0,s0,r1,s1,r2,s2⟩:=res_rows HB1.out hb45 (by omega)
 have HN5:=Lib.hid hn5
 have HD5:=Lib.hid hd5
 have HB45:=Lib.hid hb45
 clear hn5 hd5 hb5 hb45 hsz
 gi_wp2
 refine stage_post (isSame_below HB45.out (fun k hk=>hk.1)) ?_
 refine stage_one 16 (by kernel_rfl) rfl ?_
 gi_wp2
 refine stage_post (isSame_of fun k hk=>(set3_heap k hk.2).trans (HB45.out.block k hk.1)) ?_
 refine stage_done (by kernel_rfl) ?_
 gi_wp2
 have hsz:=HS.out
 refine ret_frac rfl rfl (by simp) (set3 HB5.out) ⟨_,rfl,?_,?_⟩
 ·exact isFrac_close HP5 (isParts_mk (isNat_set3 HN5.out HB5.out) (isNat_set3 HD5.out HB5.out))
 ·exact set3_below (g:=w.heap.size+1+1) (HB.out.trans ((below_drew3 HB45.out).mono HB.out.size)) (by omega)
end Go.Proofs.YtigapglmipmbeaaGreatDoor
namespace Go.Proofs.YtigapglmipmbeaaGreatDoor
open Go.RowKit Go.Shelf
open Lim
def textP (b:Bool) (N D:Nat):List UInt8:=(if b then [45] else [])++Lib.decDigits N++(if D=1 then [] else 47::Lib.decDigits D)
def outP (b:Bool) (N D:Nat):List UInt8 × Nat:=if maxD < Lib.nDigits N∨maxD < Lib.nDigits D then ([],5) else (textP b N D,0)
theorem outP_q (q:Rat):outP (ng q) (nm q) q.den=outQ q:=rfl
theorem ba_add (a b:List UInt8):(⟨a.toArray⟩:ByteArray)++⟨b.toArray⟩=⟨(a++b).toArray⟩:=by
 apply ByteArray.ext
 apply Array.toList_inj.1
 rw [ByteArray.data_append]
 simp
theorem rows_of {w w':World} {n g:Nat} {t:TypeId} {x y z:Value} (h:Blk w g t #[x,y,z]) (hb:Below n w w') (hg:g < n):w'.cell? ⟨g,0,none⟩=some x∧w'.cell? ⟨g,1,none⟩=some y∧w'.cell? ⟨g,2,none⟩=some z:=by
 have h':=h.below hb hg
 exact ⟨(cellrow h' 0 (by simp)).1,(cellrow h' 1 (by simp)).1,(cellrow h' 2 (by simp)).1⟩
theorem num_big1 (b:Bool) (N D:Nat) (v:Value) (w:World) (h:IsParts w v b N D) (hr:Res w) (l1:(toL N).length≤40000) (hbig:4000 < Lib.nDigits N) :
  Calls Tryz.prog 191 #[v] w fun e w'=>e=.returned (.tuple #[.string ⟨#[]⟩,.int .i64 5])∧Below w.heap.size w w':=by
 obtain ⟨An,cn,Ad,cd,rfl,hn,hd⟩:=h
 have hd1:decide ((4000:Int) < (Lib.nDigits N:Int))=true:=decide_eq_true (by omega)
 have HB0:=Lib.hid ((Below.refl w.heap.size w).alloc (Nat.le_refl _) (.cells #[.bool b,.slice An (toL N).length cn,.slice Ad (toL D).length cd] 216))
 have HR:=Lib.hid hr
 have HN:=Lib.hid hn
 clear hn hd hr hbig
 go_enter Tryz.func191,Tryz.ntmps191
 go_wp2_with (go_at_call 250;refine (digits_any N _ _ (HN.out.below HB0.out) l1 (HR.out.below HB0.out)).mono ?_;rintro e w1 ⟨rfl,hb1⟩;have HB1:=Lib.hid hb1;clear hb1)
 refine bodyPost_ret (results_tmp2 rfl _ _ _) rfl ?_
 exact ⟨rfl,HB0.out.trans (HB1.out.mono (by simp))⟩
theorem num_big2 (b:Bool) (N D:Nat) (v:Value) (w:World) (h:IsParts w v b N D) (hr:Res w) (l1:(toL N).length≤40000) (l2:(toL D).length≤40000) (hs:Lib.nDigits N≤4000) (hbig:4000 < Lib.nDigits D) :
  Calls Tryz.prog 191 #[v] w fun e w'=>e=.returned (.tuple #[.string ⟨#[]⟩,.int .i64 5])∧Below w.heap.size w w':=by
 obtain ⟨An,cn,Ad,cd,rfl,hn,hd⟩:=h
 have hd1:decide ((4000:Int) < (Lib.nDigits N:Int))=false:=decide_eq_false (by omega)
 have hd2:decide ((4000:Int) < (Lib.nDigits D:Int))=true:=decide_eq_true (by omega)
 have HB0:=Lib.hid ((Below.refl w.heap.size w).alloc (Nat.le_refl _) (.cells #[.bool b,.slice An (toL N).length cn,.slice Ad (toL D).length cd] 216))
 have HP:=Lib.hid (Blk.new w 216 #[.bool b,.slice An (toL N).length cn,.slice Ad (toL D).length cd])
 have HR:=Lib.hid hr
 have HN:=Lib.hid hn
 have HD:=Lib.hid hd
 have TK1:True:=trivial
 clear hn hd hr hbig hs
 go_enter Tryz.func191,Tryz.ntmps191
 go_wp2_with (first
  | (clear TK1;go_at_call 250;refine (digits_any N _ _ (HN.out.below HB0.out) l1 (HR.out.below HB0.out)).mono ?_;rintro e w1 ⟨rfl,hb1⟩;have HB1:=Lib.hid (HB0.out.trans (hb1.mono (by simp)));obtain ⟨r0,r1,r2⟩:=rows_of HP.out hb1 (by simp);clear hb1)
  | (go_at_call 250;refine (digits_any D _ _ (HD.out.below HB1.out) l2 (HR.out.below HB1.out)).mono ?_;rintro e w2 ⟨rfl,hb2⟩;have HB2:=Lib.hid hb2;clear hb2))
 refine bodyPost_ret (results_tmp2 rfl _ _ _) rfl ?_
 exact ⟨rfl,HB1.out.trans (HB2.out.mono HB1.out.size)⟩
theorem string_is (x:Nat) (vx:Value) (w:World) (hx:IsNat w vx x) (hlx:(toL x).length≤40000) (hr:Res w) (hs:Lib.nDigits x≤4000) :
  Calls Tryz.prog 251 #[vx] w fun e w'=>∃ s:ByteArray,e=.returned (.string s)∧Hid (s=⟨(Lib.decDigits x).toArray⟩)∧s.size≤4000∧Below w.heap.size w w':=by
 refine (string_any x vx w hx hlx hr).mono ?_
 rintro e w' ⟨rfl,hb⟩
 refine ⟨_,rfl,Lib.hid rfl,?_,hb⟩
 show (Lib.decDigits x).toArray.size≤4000
 rw [List.size_toArray,Lib.decDigits_length]
 exact hs
theorem num_int (b:Bool) (N D:Nat) (v:Value) (w:World) (h:IsParts w v b N D) (hr:Res w) (l1:(toL N).length≤40000) (l2:(toL D).length≤40000) (hs:Lib.nDigits N≤4000) (hs2:Lib.nDigits D≤4000) (h1:D=1) :
  Calls Tryz.prog 191 #[v] w fun e w'=>e=.returned (.tuple #[.string ⟨((if b then [45] else [])++Lib.decDigits N).toArray⟩,.int .i64 0])∧Below w.heap.size w w':=by
 obtain ⟨An,cn,Ad,cd,rfl,hn,hd⟩:=h
 have hd1:decide ((4000:Int) < (Lib.nDigits N:Int))=false:=decide_eq_false (by omega)
 have hd2:decide ((4000:Int) < (Lib.nDigits D:Int))=false:=decide_eq_false (by omega)
 have ho:decide (D=1)=true:=decide_eq_true h1
 have HB0:=Lib.hid ((Below.refl w.heap.size w).alloc (Nat.le_refl _) (.cells #[.bool b,.slice An (toL N).length cn,.slice Ad (toL D).length cd] 216))
 have HP:=Lib.hid (Blk.new w 216 #[.bool b,.slice An (toL N).length cn,.slice Ad (toL D).length cd])
 have HR:=Lib.hid hr
 have HN:=Lib.hid hn
 have HD:=Lib.hid hd
 have HS:=Lib.hid hs
 have HS2:=Lib.hid hs2
 have TK1:True:=trivial
 have TK2:True:=trivial
 clear hn hd hr hs hs2 h1
 cases b
 ·go_enter Tryz.func191,Tryz.ntmps191
  go_wp2_with (first
   | (clear TK1;go_at_call 250;refine (digits_any N _ _ (HN.out.below HB0.out) l1 (HR.out.below HB0.out)).mono ?_;rintro e w1 ⟨rfl,hb1⟩;have HB1:=Lib.hid (HB0.out.trans (hb1.mono (by simp)));obtain ⟨r0,r1,r2⟩:=rows_of HP.out hb1 (by simp);have HQ1:=Lib.hid (HP.out.below hb1 (by simp));clear hb1)
   | (go_at_call 250;refine (digits_any D _ _ (HD.out.below HB1.out) l2 (HR.out.below HB1.out)).mono ?_;rintro e w2 ⟨rfl,hb2⟩;have HB2:=Lib.hid (HB1.out.trans (hb2.mono HB1.out.size));obtain ⟨t0,t1,t2⟩:=rows_of HQ1.out hb2 HQ1.out.lt;have HQ2:=Lib.hid (HQ1.out.below hb2 HQ1.out.lt);clear hb2)
   | (clear TK2;go_at_call 251;refine (string_is N _ _ (HN.out.below HB2.out) l1 (HR.out.below HB2.out) HS.out).mono ?_;rintro e w3 ⟨s3,rfl,HS3,hz3,hb3⟩;have z3:¬ 9223372036854775807 < 1+s3.size:=(by omega);have HZ3:=Lib.hid hz3;have HB3:=Lib.hid (HB2.out.trans (hb3.mono HB2.out.size));obtain ⟨z0,z1,z2⟩:=rows_of HQ2.out hb3 HQ2.out.lt;have HQ3:=Lib.hid (HQ2.out.below hb3 HQ2.out.lt);clear hb3 hz3)
   | (go_at_call 252;refine (one_any D _ _ (HD.out.below HB3.out)).mono ?_;rintro e w4 ⟨rfl,hw4⟩;subst hw4;rw [ho])
   | (go_at_call 251;refine (string_is D _ _ (HD.out.below HB3.out) l2 (HR.out.below HB3.out) HS2.out).mono ?_;rintro e w5 ⟨s5,rfl,HS5,hz5,hb5⟩;have z5:¬ 9223372036854775807 < 1+s5.size:=(by omega);have z6:¬ 9223372036854775807 < 1+s3.size+(1+s5.size):=(by have:=HZ3.out;omega);have z7:¬ 9223372036854775807 < s3.size+(1+s5.size):=(by have:=HZ3.out;omega);have HB5:=Lib.hid (HB3.out.trans (hb5.mono HB3.out.size));clear hb5 hz5))
  refine bodyPost_ret (results_tmp2 rfl _ _ _) rfl ?_
  refine ⟨?_,HB3.out⟩
  rw [HS3.out]
  rfl
 ·go_enter Tryz.func191,Tryz.ntmps191
  go_wp2_with (first
   | (clear TK1;go_at_call 250;refine (digits_any N _ _ (HN.out.below HB0.out) l1 (HR.out.below HB0.out)).mono ?_;rintro e w1 ⟨rfl,hb1⟩;have HB1:=Lib.hid (HB0.out.trans (hb1.mono (by simp)));obtain ⟨r0,r1,r2⟩:=rows_of HP.out hb1 (by simp);have HQ1:=Lib.hid (HP.out.below hb1 (by simp));clear hb1)
   | (go_at_call 250;refine (digits_any D _ _ (HD.out.below HB1.out) l2 (HR.out.below HB1.out)).mono ?_;rintro e w2 ⟨rfl,hb2⟩;have HB2:=Lib.hid (HB1.out.trans (hb2.mono HB1.out.size));obtain ⟨t0,t1,t2⟩:=rows_of HQ1.out hb2 HQ1.out.lt;have HQ2:=Lib.hid (HQ1.out.below hb2 HQ1.out.lt);clear hb2)
   | (clear TK2;go_at_call 251;refine (string_is N _ _ (HN.out.below HB2.out) l1 (HR.out.below HB2.out) HS.out).mono ?_;rintro e w3 ⟨s3,rfl,HS3,hz3,hb3⟩;have z3:¬ 9223372036854775807 < 1+s3.size:=(by omega);have HZ3:=Lib.hid hz3;have HB3:=Lib.hid (HB2.out.trans (hb3.mono HB2.out.size));obtain ⟨z0,z1,z2⟩:=rows_of HQ2.out hb3 HQ2.out.lt;have HQ3:=Lib.hid (HQ2.out.below hb3 HQ2.out.lt);clear hb3 hz3)
   | (go_at_call 252;refine (one_any D _ _ (HD.out.below HB3.out)).mono ?_;rintro e w4 ⟨rfl,hw4⟩;subst hw4;rw [ho])
   | (go_at_call 251;refine (string_is D _ _ (HD.out.below HB3.out) l2 (HR.out.below HB3.out) HS2.out).mono ?_;rintro e w5 ⟨s5,rfl,HS5,hz5,hb5⟩;have z5:¬ 9223372036854775807 < 1+s5.size:=(by omega);have z6:¬ 9223372036854775807 < 1+s3.size+(1+s5.size):=(by have:=HZ3.out;omega);have z7:¬ 9223372036854775807 < s3.size+(1+s5.size):=(by have:=HZ3.out;omega);have HB5:=Lib.hid (HB3.out.trans (hb5.mono HB3.out.size));clear hb5 hz5))
  refine bodyPost_ret (results_tmp2 rfl _ _ _) rfl ?_
  refine ⟨?_,HB3.out⟩
  rw [HS3.out]
  exact congrArg (fun x=>Ending.returned (.tuple #[.string x,.int .i64 0])) (ba_add [45] (Lib.decDigits N))
theorem num_frac (b:Bool) (N D:Nat) (v:Value) (w:World) (h:IsParts w v b N D) (hr:Res w) (l1:(toL N).length≤40000) (l2:(toL D).length≤40000) (hs:Lib.nDigits N≤4000) (hs2:Lib.nDigits D≤4000) (h1:D≠1) :
  Calls Tryz.prog 191 #[v] w fun e w'=>e=.returned (.tuple #[.string ⟨((if b then [45] else [])++Lib.decDigits N++47::Lib.decDigits D).toArray⟩,.int .i64 0])∧Below w.heap.size w w':=by
 obtain ⟨An,cn,Ad,cd,rfl,hn,hd⟩:=h
 have hd1:decide ((4000:Int) < (Lib.nDigits N:Int))=false:=decide_eq_false (by omega)
 have hd2:decide ((4000:Int) < (Lib.nDigits D:Int))=false:=decide_eq_false (by omega)
 have ho:decide (D=1)=false:=decide_eq_false h1
 have HB0:=Lib.hid ((Below.refl w.heap.size w).alloc (Nat.le_refl _) (.cells #[.bool b,.slice An (toL N).length cn,.slice Ad (toL D).length cd] 216))
 have HP:=Lib.hid (Blk.new w 216 #[.bool b,.slice An (toL N).length cn,.slice Ad (toL D).length cd])
 have HR:=Lib.hid hr
 have HN:=Lib.hid hn
 have HD:=Lib.hid hd
 have HS:=Lib.hid hs
 have HS2:=Lib.hid hs2
 have TK1:True:=trivial
 have TK2:True:=trivial
 clear hn hd hr hs hs2 h1
 cases b
 ·go_enter Tryz.func191,Tryz.ntmps191
  go_wp2_with (first
   | (clear TK1;go_at_call 250;refine (digits_any N _ _ (HN.out.below HB0.out) l1 (HR.out.below HB0.out)).mono ?_;rintro e w1 ⟨rfl,hb1⟩;have HB1:=Lib.hid (HB0.out.trans (hb1.mono (by simp)));obtain ⟨r0,r1,r2⟩:=rows_of HP.out hb1 (by simp);have HQ1:=Lib.hid (HP.out.below hb1 (by simp));clear hb1)
   | (go_at_call 250;refine (digits_any D _ _ (HD.out.below HB1.out) l2 (HR.out.below HB1.out)).mono ?_;rintro e w2 ⟨rfl,hb2⟩;have HB2:=Lib.hid (HB1.out.trans (hb2.mono HB1.out.size));obtain ⟨t0,t1,t2⟩:=rows_of HQ1.out hb2 HQ1.out.lt;have HQ2:=Lib.hid (HQ1.out.below hb2 HQ1.out.lt);clear hb2)
   | (clear TK2;go_at_call 251;refine (string_is N _ _ (HN.out.below HB2.out) l1 (HR.out.below HB2.out) HS.out).mono ?_;rintro e w3 ⟨s3,rfl,HS3,hz3,hb3⟩;have z3:¬ 9223372036854775807 < 1+s3.size:=(by omega);have HZ3:=Lib.hid hz3;have HB3:=Lib.hid (HB2.out.trans (hb3.mono HB2.out.size));obtain ⟨z0,z1,z2⟩:=rows_of HQ2.out hb3 HQ2.out.lt;have HQ3:=Lib.hid (HQ2.out.below hb3 HQ2.out.lt);clear hb3 hz3)
   | (go_at_call 252;refine (one_any D _ _ (HD.out.below HB3.out)).mono ?_;rintro e w4 ⟨rfl,hw4⟩;subst hw4;rw [ho])
   | (go_at_call 251;refine (string_is D _ _ (HD.out.below HB3.out) l2 (HR.out.below HB3.out) HS2.out).mono ?_;rintro e w5 ⟨s5,rfl,HS5,hz5,hb5⟩;have z5:¬ 9223372036854775807 < 1+s5.size:=(by omega);have z6:¬ 9223372036854775807 < 1+s3.size+(1+s5.size):=(by have:=HZ3.out;omega);have z7:¬ 9223372036854775807 < s3.size+(1+s5.size):=(by have:=HZ3.out;omega);have HB5:=Lib.hid (HB3.out.trans (hb5.mono HB3.out.size));clear hb5 hz5))
  refine bodyPost_ret (results_tmp2 rfl _ _ _) rfl ?_
  refine ⟨?_,HB5.out⟩
  rw [HS3.out,HS5.out]
  exact congrArg (fun x=>Ending.returned (.tuple #[.string x,.int .i64 0])) (by rw [ba_add [47],ba_add];rfl)
 ·go_enter Tryz.func191,Tryz.ntmps191
  go_wp2_with (first
   | (clear TK1;go_at_call 250;refine (digits_any N _ _ (HN.out.below HB0.out) l1 (HR.out.below HB0.out)).mono ?_;rintro e w1 ⟨rfl,hb1⟩;have HB1:=Lib.hid (HB0.out.trans (hb1.mono (by simp)));obtain ⟨r0,r1,r2⟩:=rows_of HP.out hb1 (by simp);have HQ1:=Lib.hid (HP.out.below hb1 (by simp));clear hb1)
   | (go_at_call 250;refine (digits_any D _ _ (HD.out.below HB1.out) l2 (HR.out.below HB1.out)).mono ?_;rintro e w2 ⟨rfl,hb2⟩;have HB2:=Lib.hid (HB1.out.trans (hb2.mono HB1.out.size));obtain ⟨t0,t1,t2⟩:=rows_of HQ1.out hb2 HQ1.out.lt;have HQ2:=Lib.hid (HQ1.out.below hb2 HQ1.out.lt);clear hb2)
   | (clear TK2;go_at_call 251;refine (string_is N _ _ (HN.out.below HB2.out) l1 (HR.out.below HB2.out) HS.out).mono ?_;rintro e w3 ⟨s3,rfl,HS3,hz3,hb3⟩;have z3:¬ 9223372036854775807 < 1+s3.size:=(by omega);have HZ3:=Lib.hid hz3;have HB3:=Lib.hid (HB2.out.trans (hb3.mono HB2.out.size));obtain ⟨z0,z1,z2⟩:=rows_of HQ2.out hb3 HQ2.out.lt;have HQ3:=Lib.hid (HQ2.out.below hb3 HQ2.out.lt);clear hb3 hz3)
   | (go_at_call 252;refine (one_any D _ _ (HD.out.below HB3.out)).mono ?_;rintro e w4 ⟨rfl,hw4⟩;subst hw4;rw [ho])
   | (go_at_call 251;refine (string_is D _ _ (HD.out.below HB3.out) l2 (HR.out.below HB3.out) HS2.out).mono ?_;rintro e w5 ⟨s5,rfl,HS5,hz5,hb5⟩;have z5:¬ 9223372036854775807 < 1+s5.size:=(by omega);have z6:¬ 9223372036854775807 < 1+s3.size+(1+s5.size):=(by have:=HZ3.out;omega);have z7:¬ 9223372036854775807 < s3.size+(1+s5.size):=(by have:=HZ3.out;omega);have HB5:=Lib.hid (HB3.out.trans (hb5.mono HB3.out.size));clear hb5 hz5))
  refine bodyPost_ret (results_tmp2 rfl _ _ _) rfl ?_
  refine ⟨?_,HB5.out⟩
  rw [HS3.out,HS5.out]
  exact congrArg (fun x=>Ending.returned (.tuple #[.string x,.int .i64 0])) (by rw [ba_add [47],ba_add [45],ba_add];rfl)
theorem fnumP_any (b:Bool) (N D:Nat) (v:Value) (w:World) (h:IsParts w v b N D) (hr:Res w) (l1:(toL N).length≤40000) (l2:(toL D).length≤40000) :
  Calls Tryz.prog 191 #[v] w fun e w'=>e=.returned (.tuple #[.string ⟨(outP b N D).1.toArray⟩,.int .i64 ((outP b N D).2:Int)])∧Below w.heap.size w w':=by
 unfold outP maxD
 by_cases h1:4000 < Lib.nDigits N
 ·rw [if_pos (.inl h1)]
  exact num_big1 b N D v w h hr l1 h1
 ·by_cases h2:4000 < Lib.nDigits D
  ·rw [if_pos (.inr h2)]
   exact num_big2 b N D v w h hr l1 l2 (by omega) h2
  ·rw [if_neg (by omega)]
   unfold textP
   by_cases h3:D=1
   ·rw [if_pos h3,List.append_nil]
    exact num_int b N D v w h hr l1 l2 (by omega) (by omega) h3
   ·rw [if_neg h3]
    exact num_frac b N D v w h hr l1 l2 (by omega) (by omega) h3
theorem fnum_any (q:Rat) (v:Value) (w:World) (h:IsFrac w v q) (hr:Res w) (l1:(toL (nm q)).length≤40000) (l2:(toL q.den).length≤40000) :
  Calls Tryz.prog 191 #[v] w fun e w'=>e=.returned (.tuple #[.string ⟨(outQ q).1.toArray⟩,.int .i64 ((outQ q).2:Int)])∧Below w.heap.size w w' :=
 fnumP_any _ _ _ v w h hr l1 l2
end Go.Proofs.YtigapglmipmbeaaGreatDoor
namespace Go.Proofs.YtigapglmipmbeaaGreatDoor
open Go.RowKit
open Lim
end Go.Proofs.YtigapglmipmbeaaGreatDoor
