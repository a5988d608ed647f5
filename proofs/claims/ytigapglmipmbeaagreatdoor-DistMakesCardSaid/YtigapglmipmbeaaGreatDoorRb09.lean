/- The reference's Read of a rational number (printed by mkread.py). The reference's Read of a rational number: what it returns; the reference's Check. The functions of rat on texts of numbers. rat.with and rat.both over ints (printed by mkwithi.py). The order of rational numbers by their parts. No program in sight. rat: comparisons: frac.Cmp, rat.Sign, Cmp, choose, Min, Max (printed by mkratc.py). -/
import Derived.Test.YtigapglmipmbeaaGreatDoorRb08
import Derived.Test.YtigapglmipmbeaaGreatDoorRb07
import Derived.Test.YtigapglmipmbeaaGreatDoorRb05
set_option maxRecDepth 100000
set_option maxHeartbeats 16000000
namespace Go.Proofs.YtigapglmipmbeaaGreatDoor
open Go.RowKit Go.Shelf
open Lim
def IsPartsI (w:World) (v:Value) (m:Bool) (n d:Nat):Prop:=∃ An cn Ad cd,v = .agg #[.bool m,.slice An (toL n).length cn,.slice Ad (toL d).length cd]∧IsNatI w (.slice An (toL n).length cn) n∧IsNatI w (.slice Ad (toL d).length cd) d
def IsQ (w:World) (v:Value) (q:Rat):Prop:=IsPartsI w v (ng q) (nm q) q.den
theorem IsPartsI.below {w w':World} {v:Value} {m:Bool} {n d:Nat} (h:IsPartsI w v m n d) (hb:Below w.heap.size w w'):IsPartsI w' v m n d:=by
 obtain ⟨An,cn,Ad,cd,e,h1,h2⟩:=h
 exact ⟨An,cn,Ad,cd,e,h1.below hb,h2.below hb⟩
theorem IsQ.below {w w':World} {v:Value} {q:Rat} (h:IsQ w v q) (hb:Below w.heap.size w w'):IsQ w' v q:=IsPartsI.below h hb
theorem isPartsI_mk {w:World} {m:Bool} {n d:Nat} {vn vd:Value} (h1:IsNatI w vn n) (h2:IsNatI w vd d):IsPartsI w (.agg #[.bool m,vn,vd]) m n d:=by
 obtain ⟨An,cn,rfl,a1,a2,a3⟩:=h1
 obtain ⟨Ad,cd,rfl,b1,b2,b3⟩:=h2
 exact ⟨An,cn,Ad,cd,rfl,⟨An,cn,rfl,a1,a2,a3⟩,⟨Ad,cd,rfl,b1,b2,b3⟩⟩
theorem isQ_open {w:World} {v:Value} {q:Rat} (h:IsQ w v q):∃ (b:Bool) (N D:Nat) (A:Option Addr) (c:Nat) (A':Option Addr) (c':Nat),v = .agg #[.bool b,.slice A (toL N).length c,.slice A' (toL D).length c'] ∧
  IsNatI w (.slice A (toL N).length c) N∧IsNatI w (.slice A' (toL D).length c') D∧Hid (ng q = b∧nm q = N∧q.den = D):=by
 obtain ⟨A,c,A',c',rfl,h1,h2⟩:=h
 exact ⟨_,_,_,A,c,A',c',rfl,h1,h2,Lib.hid ⟨rfl,rfl,rfl⟩⟩
theorem isQ_close {w:World} {v:Value} {q:Rat} {b:Bool} {N D:Nat} (h:Hid (ng q = b∧nm q = N∧q.den = D)) (hp:IsPartsI w v b N D):IsQ w v q:=by
 obtain ⟨h1,h2,h3⟩:=h.out
 unfold IsQ
 rw [h1,h2,h3]
 exact hp
theorem IsNatI.far {w:World} {v:Value} {n g:Nat} {t:TypeId} {a b c:Value} {i:Nat} {x:Value} (h:IsNatI w v n) (hb:Blk w g t #[a,b,c]) (ha:∀ z:Int,a≠.int .i64 z) (hbb:∀ z:Int,b≠.int .i64 z) (hc:∀ z:Int,c≠.int .i64 z):IsNatI (w.setCell ⟨g,i,none⟩ x) v n:=by
 obtain ⟨A,k,e,h1,h2,h3⟩:=h
 refine ⟨A,k,e,h1,h2,fun h0=>?_⟩
 obtain ⟨b',o,hA,hlt,hcc⟩:=h3 h0
 have hz:=I64_get (l:=toL n) (j:=0) (by rwa [I64_length] at h0)
 have hc0:=hcc 0 _ hz
 have hne:b'≠g:=by
  intro e
  subst e
  have:=Blk.cell hb (o + 0)
  rw [hc0] at this
  rcases ho:o + 0 with _ | _ | _ | k
  ·rw [ho] at this;simp at this;exact ha _ this.symm
  ·rw [ho] at this;simp at this;exact hbb _ this.symm
  ·rw [ho] at this;simp at this;exact hc _ this.symm
  ·rw [ho] at this;simp at this
 have hh:=Below.heap_setCell w ⟨g,i,none⟩ x b' hne
 exact ⟨b',o,hA,by simpa [World.setCell] using hlt,fun j x hx=>SameAt.cell (w:=w) (S:=fun k=>k = b') ⟨_,fun k hk=>by rw [hk];exact hh⟩ rfl (hcc j x hx)⟩
theorem isNatI_set3 {w:World} {v:Value} {n g:Nat} {t:TypeId} {m' m:Bool} {A A' D D':Option Addr} {l c l' c' a b a' b':Nat} (h:IsNatI w v n) (hb:Blk w g t #[.bool m,.slice A l c,.slice A' l' c']) :
  IsNatI (((w.setCell ⟨g,0,none⟩ (.bool m')).setCell ⟨g,1,none⟩ (.slice D a b)).setCell ⟨g,2,none⟩ (.slice D' a' b')) v n :=
 ((h.far hb (fun _ h=>by cases h) (fun _ h=>by cases h) (fun _ h=>by cases h)).far (hb.set_ 0 (.bool m')) (fun _ h=>by cases h) (fun _ h=>by cases h) (fun _ h=>by cases h)).far ((hb.set_ 0 (.bool m')).set_ 1 (.slice D a b)) (fun _ h=>by cases h) (fun _ h=>by cases h) (fun _ h=>by cases h)
theorem qsize:(Tryz.prog.info? 170).map (·.size) = some 3:=by kernel_rfl
theorem ret_q {fn:Func} {p:Tmp} {R:Ending→World→Prop} {a:Act} {w:World} {g:Nat} {t:TypeId} {m vn vd:Value} (h:fn.results = #[.cell p 170]) (hd:a.defers = []) (hp:a.tmps.getD p undef = .pointer (some ⟨g,0,none⟩))
  (hg:Blk w g t #[m,vn,vd]) (hR:R (.returned (.agg #[m,vn,vd])) w):bodyPost Tryz.prog fn R .ret a w :=
 bodyPost_ret (results_cell_row h _ _ g t _ (0,0) _ hp hg Tryz.underlying170 rfl qsize) hd hR
theorem ret_q2 {fn:Func} {p u:Tmp} {R:Ending→World→Prop} {a:Act} {w:World} {g:Nat} {t:TypeId} {m vn vd:Value} (h:fn.results = #[.cell p 170,.tmp u]) (hd:a.defers = []) (hp:a.tmps.getD p undef = .pointer (some ⟨g,0,none⟩))
  (hg:Blk w g t #[m,vn,vd]) (hR:R (.returned (.tuple #[.agg #[m,vn,vd],a.tmps.getD u undef])) w):bodyPost Tryz.prog fn R .ret a w:=by
 refine bodyPost_ret ?_ hd hR
 rw [results_cell_tmp h,hp]
 simp only [asAddr,Sem.run_pure,Result.andThen_ok]
 rw [run_loadVar_row w g t 170 #[m,vn,vd] (0,0) _ hg Tryz.underlying170 rfl qsize]
 rfl
abbrev zQ:Obj:=.cells #[.bool false,.slice none 0 0,.slice none 0 0] 170
theorem zq_new (w:World):Blk (w.alloc zQ) w.heap.size 170 #[.bool false,.slice none 0 0,.slice none 0 0]:=Blk.new w _ _
theorem slashAt_len {l:List UInt8} {k:Nat} (h:SlashAt l k):k = (cutQ l).1.length:=by
 rcases h with ⟨h1,h2⟩ | ⟨h1,h2⟩
 ·rw [h2];simp;omega
 ·rw [h2];exact h1
theorem ext_le (s:ByteArray) (a b:Nat):(s.extract a b).size≤s.size:=by rw [size_list,extract_list,List.length_drop,List.length_take,size_list];omega
theorem slash_is (s:ByteArray) (k:Nat) (w:World) (hlen:s.size≤9223372036854775807) (hk:SlashAt s.data.toList k) :
  Calls Tryz.prog 234 #[.string s] w fun e w'=>e = .returned (.int .i64 (k:Int))∧w' = w:=by
 refine (slash_any s w hlen).mono ?_
 rintro e w' ⟨k',rfl,hk',rfl⟩
 rw [slashAt_len hk,slashAt_len hk']
 exact ⟨rfl,rfl⟩
theorem rone_any (w:World):Calls Tryz.prog 227 #[] w fun e w'=>∃ v,e = .returned v∧IsNatI w' v 1∧Below w.heap.size w w':=by
 go_enter Tryz.func227,Tryz.ntmps227
 go_wp2
 go_ret
 have e1:toL 1 = [1]:=by rw [toL_pos (by omega)];simp [B_val,toL_zero]
 refine ⟨_,rfl,⟨some ⟨w.heap.size,0,none⟩,1,by rw [e1];rfl,by rw [e1];decide,by decide,?_⟩,below_alloc (Below.refl _ _) _⟩
 rw [e1]
 exact (Blk.new w 3 #[.int .i64 1]).row (xs:=[.int .i64 1])
theorem sgn_one_zero {g:Nat}:(sgn g 1 == 0) = decide (g = 1):=by
 unfold sgn
 by_cases h:g = 1
 ·subst h;rfl
 ·rw [decide_eq_false h]
  split
  ·rfl
  ·split
   ·rfl
   ·omega
theorem read_bad_none (s n2:ByteArray) (k:Nat) (m ok:Bool) (w:World) (hs:s.size≤9223372036854775807) (_hn:n2.size≤9223372036854775807) (hk:SlashAt s.data.toList k) (hks:k≤s.size)
  (hi:intP (s.extract 0 k).data.toList = (m,n2.data.toList)) (hok:intOk (s.extract 0 k).data.toList = ok) (hsl:k = s.size) (h0:ok = false) :
  Calls Tryz.prog 155 #[.string s] w fun e w'=>∃ v,v = zV∧e = .returned (.tuple #[v,.int .i64 3])∧Below w.heap.size w w':=by
 have HSA:=Lib.hid (show (s.extract 0 k).size≤9223372036854775807 from Nat.le_trans (ext_le _ _ _) (by omega))
 have HSB:=Lib.hid (show (s.extract (k + 1) s.size).size≤9223372036854775807 from Nat.le_trans (ext_le _ _ _) (by omega))
 have HSB2:=Lib.hid (show (s.extract (k + 1) s.size).size≤9223372036854775807 from Nat.le_trans (ext_le _ _ _) (by omega))
 have HK:=Lib.hid hk
 have HI:=Lib.hid (And.intro hi hok)
 have HB0:=Lib.hid ((Below.refl w.heap.size w).alloc (Nat.le_refl _) zQ)
 have HP0:=Lib.hid (zq_new w)
 have TK1:True:=trivial
 clear hk hi hok
 have hkl:¬ (k:Int) < (s.size:Int):=by omega
 clear hsl
 subst h0
 ·go_enter Tryz.func155,Tryz.ntmps155
  go_wp2_with (first
   | (go_at_call 234;refine (slash_is s k _ (by omega) HK.out).mono ?_;rintro e w1 ⟨rfl,hw1⟩;subst hw1)
   | (go_at_call 220;refine (rinteger_any (s.extract 0 k) _ HSA.out).mono ?_;rintro e w2 ⟨rfl,hw2⟩;subst hw2;rw [HI.out.1,HI.out.2];dsimp only;rw [beta_ba]))
  refine ret_q2 rfl rfl (by simp) (zq_new w) ⟨_,rfl,rfl,HB0.out⟩
theorem read_long_none (s n2:ByteArray) (k:Nat) (m ok:Bool) (w:World) (hs:s.size≤9223372036854775807) (hn:n2.size≤9223372036854775807) (hk:SlashAt s.data.toList k) (hks:k≤s.size)
  (hi:intP (s.extract 0 k).data.toList = (m,n2.data.toList)) (hok:intOk (s.extract 0 k).data.toList = ok) (hsl:k = s.size) (h0:ok = true) (hl:4000 < n2.size) :
  Calls Tryz.prog 155 #[.string s] w fun e w'=>∃ v,v = zV∧e = .returned (.tuple #[v,.int .i64 5])∧Below w.heap.size w w':=by
 have HSA:=Lib.hid (show (s.extract 0 k).size≤9223372036854775807 from Nat.le_trans (ext_le _ _ _) (by omega))
 have HSB:=Lib.hid (show (s.extract (k + 1) s.size).size≤9223372036854775807 from Nat.le_trans (ext_le _ _ _) (by omega))
 have HSB2:=Lib.hid (show (s.extract (k + 1) s.size).size≤9223372036854775807 from Nat.le_trans (ext_le _ _ _) (by omega))
 have HK:=Lib.hid hk
 have HI:=Lib.hid (And.intro hi hok)
 have HB0:=Lib.hid ((Below.refl w.heap.size w).alloc (Nat.le_refl _) zQ)
 have HP0:=Lib.hid (zq_new w)
 have TK1:True:=trivial
 clear hk hi hok
 have hkl:¬ (k:Int) < (s.size:Int):=by omega
 clear hsl
 have hl1:decide ((4000:Int) < (n2.size:Int)) = true:=decide_eq_true (by omega)
 clear hl
 subst h0
 ·go_enter Tryz.func155,Tryz.ntmps155
  go_wp2_with (first
   | (go_at_call 234;refine (slash_is s k _ (by omega) HK.out).mono ?_;rintro e w1 ⟨rfl,hw1⟩;subst hw1)
   | (go_at_call 220;refine (rinteger_any (s.extract 0 k) _ HSA.out).mono ?_;rintro e w2 ⟨rfl,hw2⟩;subst hw2;rw [HI.out.1,HI.out.2];dsimp only;rw [beta_ba]))
  refine ret_q2 rfl rfl (by simp) (zq_new w) ⟨_,rfl,rfl,HB0.out⟩
theorem read_ok_none (s n2:ByteArray) (k:Nat) (m ok:Bool) (w:World) (hs:s.size≤270000) (hn:n2.size≤270000) (hk:SlashAt s.data.toList k) (hks:k≤s.size)
  (hi:intP (s.extract 0 k).data.toList = (m,n2.data.toList)) (hok:intOk (s.extract 0 k).data.toList = ok) (hsl:k = s.size) (h0:ok = true) (hl:n2.size≤4000) (hd:Dg n2.data.toList) (ll:(toL (dv n2.data.toList)).length≤30000∧(toL (dv [49])).length≤30000) (lg:(toL ((dv n2.data.toList).gcd (dv [49]))).length≤100000) (hg:(dv n2.data.toList).gcd (dv [49]) = 1) :
  Calls Tryz.prog 155 #[.string s] w fun e w'=>∃ v,e = .returned (.tuple #[v,.int .i64 0])∧IsPartsI w' v m (dv n2.data.toList) (dv [49])∧Below w.heap.size w w':=by
 have HSA:=Lib.hid (show (s.extract 0 k).size≤9223372036854775807 from Nat.le_trans (ext_le _ _ _) (by omega))
 have HSB:=Lib.hid (show (s.extract (k + 1) s.size).size≤9223372036854775807 from Nat.le_trans (ext_le _ _ _) (by omega))
 have HSB2:=Lib.hid (show (s.extract (k + 1) s.size).size≤270000 from Nat.le_trans (ext_le _ _ _) (by omega))
 have HK:=Lib.hid hk
 have HI:=Lib.hid (And.intro hi hok)
 have HB0:=Lib.hid ((Below.refl w.heap.size w).alloc (Nat.le_refl _) zQ)
 have HP0:=Lib.hid (zq_new w)
 have TK1:True:=trivial
 clear hk hi hok
 have hkl:¬ (k:Int) < (s.size:Int):=by omega
 clear hsl
 have hl1:decide ((4000:Int) < (n2.size:Int)) = false:=decide_eq_false (by omega)
 have HG:=Lib.hid (And.intro hd (show Dg (⟨#[49]⟩:ByteArray).data.toList from fun x hx=>by simp at hx;subst hx;rfl))
 have HLL:=Lib.hid ll
 have HLG:=Lib.hid lg
 have hsg:(sgn ((dv n2.data.toList).gcd (dv [49])) 1 == 0) = true:=by rw [sgn_one_zero,decide_eq_true hg]
 have HL1:=Lib.hid (show (toL 1).length≤100000 by rw [show toL 1 = [1] by rw [toL_pos (by omega)];simp [B_val,toL_zero]];decide)
 clear hl hd ll lg hg
 subst h0
 ·go_enter Tryz.func155,Tryz.ntmps155
  go_wp2_with (first
   | (go_at_call 234;refine (slash_is s k _ (by omega) HK.out).mono ?_;rintro e w1 ⟨rfl,hw1⟩;subst hw1)
   | (go_at_call 220;refine (rinteger_any (s.extract 0 k) _ HSA.out).mono ?_;rintro e w2 ⟨rfl,hw2⟩;subst hw2;rw [HI.out.1,HI.out.2];dsimp only;rw [beta_ba])
   | (clear TK1;go_at_call 223;refine (rread_any n2 _ HG.out.1 (by omega)).mono ?_;rintro e w4 ⟨v4,rfl,hv4,hb4⟩;obtain ⟨A4,c4,rfl,_,_,_⟩:=id hv4;have HV4:=Lib.hid hv4;have HB4:=Lib.hid (HB0.out.trans (hb4.mono HB0.out.size));have HP4:=Lib.hid (HP0.out.below hb4 HP0.out.lt);clear hv4 hb4)
   | (go_at_call 223;refine (rread_any (⟨#[49]⟩:ByteArray) _ HG.out.2 (by first | omega | decide | exact HSB2.out)).mono ?_;rintro e w5 ⟨v5,rfl,hv5,hb5⟩;obtain ⟨A5,c5,rfl,_,_,_⟩:=id hv5;have HV5:=Lib.hid hv5;have HV4':=Lib.hid (HV4.out.below hb5);have HB5:=Lib.hid (HB4.out.trans (hb5.mono HB4.out.size));have HP5:=Lib.hid (HP4.out.below hb5 HP4.out.lt);clear hv5 hb5)
   | (go_at_call 236;have HX5:=Lib.hid ((Below.refl w5.heap.size w5).alloc (Nat.le_refl _) (.cells #[.bool m,.slice A4 (toL (dv n2.data.toList)).length c4,.slice A5 (toL (dv [49])).length c5] 170));refine (rcommon_any (dv n2.data.toList) (dv [49]) _ _ _ (HV4'.out.below HX5.out) (HV5.out.below HX5.out) HLL.out.1 HLL.out.2).mono ?_;rintro e w6 ⟨v6,rfl,hv6,hb6⟩;have HV6:=Lib.hid hv6;have HX6:=Lib.hid (HX5.out.trans (hb6.mono HX5.out.size));have HT6:=Lib.hid ((Blk.new w5 _ _).below hb6 (by simp));clear hv6 hb6)
   | (go_at_call 227;refine (rone_any _).mono ?_;rintro e w7 ⟨v7,rfl,hv7,hb7⟩;have HV7:=Lib.hid hv7;have HV6':=Lib.hid (HV6.out.below hb7);have HX7:=Lib.hid (HX6.out.trans (hb7.mono HX6.out.size));have HT7:=Lib.hid (HT6.out.below hb7 HT6.out.lt);clear hv7 hb7)
   | (go_at_call 232;refine (rorder_any _ 1 _ _ _ HV6'.out HV7.out HLG.out HL1.out).mono ?_;rintro e w8 ⟨rfl,hb8⟩;have HX8:=Lib.hid (HX7.out.trans (hb8.mono HX7.out.size));have HP8:=Lib.hid (HP5.out.below HX8.out HP5.out.lt);obtain ⟨h60,h61,h62,h63,h64,h65⟩:=cells6 HP8.out;obtain ⟨t60,t61,t62⟩:=rows_of HT7.out hb8 HT7.out.lt;clear hb8))
  refine ret_q2 rfl rfl (by simp) (set3 HP8.out) ⟨_,rfl,?_,?_⟩
  ·exact isPartsI_mk (isNatI_set3 (HV4'.out.below HX8.out) HP8.out) (isNatI_set3 (HV5.out.below HX8.out) HP8.out)
  ·exact set3_below (g:=w.heap.size) (HB5.out.trans (HX8.out.mono HB5.out.size)) (Nat.le_refl _)
theorem read_bad1 (s n2:ByteArray) (k:Nat) (m ok:Bool) (w:World) (hs:s.size≤9223372036854775807) (_hn:n2.size≤9223372036854775807) (hk:SlashAt s.data.toList k) (hks:k≤s.size)
  (hi:intP (s.extract 0 k).data.toList = (m,n2.data.toList)) (hok:intOk (s.extract 0 k).data.toList = ok) (hsl:k < s.size) (h0:ok = false) :
  Calls Tryz.prog 155 #[.string s] w fun e w'=>∃ v,v = zV∧e = .returned (.tuple #[v,.int .i64 3])∧Below w.heap.size w w':=by
 have HSA:=Lib.hid (show (s.extract 0 k).size≤9223372036854775807 from Nat.le_trans (ext_le _ _ _) (by omega))
 have HSB:=Lib.hid (show (s.extract (k + 1) s.size).size≤9223372036854775807 from Nat.le_trans (ext_le _ _ _) (by omega))
 have HSB2:=Lib.hid (show (s.extract (k + 1) s.size).size≤9223372036854775807 from Nat.le_trans (ext_le _ _ _) (by omega))
 have HK:=Lib.hid hk
 have HI:=Lib.hid (And.intro hi hok)
 have HB0:=Lib.hid ((Below.refl w.heap.size w).alloc (Nat.le_refl _) zQ)
 have HP0:=Lib.hid (zq_new w)
 have TK1:True:=trivial
 clear hk hi hok
 have hkl:(k:Int) < (s.size:Int):=by omega
 have hkl1:(k:Int) + 1≤(s.size:Int):=by omega
 subst h0
 ·go_enter Tryz.func155,Tryz.ntmps155
  go_wp2_with (first
   | (go_at_call 234;refine (slash_is s k _ (by omega) HK.out).mono ?_;rintro e w1 ⟨rfl,hw1⟩;subst hw1)
   | (go_at_call 220;refine (rinteger_any (s.extract 0 k) _ HSA.out).mono ?_;rintro e w2 ⟨rfl,hw2⟩;subst hw2;rw [HI.out.1,HI.out.2];dsimp only;rw [beta_ba]))
  refine ret_q2 rfl rfl (by simp) (zq_new w) ⟨_,rfl,rfl,HB0.out⟩
theorem read_bad2 (s n2:ByteArray) (k:Nat) (m ok:Bool) (w:World) (hs:s.size≤9223372036854775807) (_hn:n2.size≤9223372036854775807) (hk:SlashAt s.data.toList k) (hks:k≤s.size)
  (hi:intP (s.extract 0 k).data.toList = (m,n2.data.toList)) (hok:intOk (s.extract 0 k).data.toList = ok) (hsl:k < s.size) (h0:ok = true) (z0:(n2.toList == [48]) = true) :
  Calls Tryz.prog 155 #[.string s] w fun e w'=>∃ v,v = zV∧e = .returned (.tuple #[v,.int .i64 3])∧Below w.heap.size w w':=by
 have HSA:=Lib.hid (show (s.extract 0 k).size≤9223372036854775807 from Nat.le_trans (ext_le _ _ _) (by omega))
 have HSB:=Lib.hid (show (s.extract (k + 1) s.size).size≤9223372036854775807 from Nat.le_trans (ext_le _ _ _) (by omega))
 have HSB2:=Lib.hid (show (s.extract (k + 1) s.size).size≤9223372036854775807 from Nat.le_trans (ext_le _ _ _) (by omega))
 have HK:=Lib.hid hk
 have HI:=Lib.hid (And.intro hi hok)
 have HB0:=Lib.hid ((Below.refl w.heap.size w).alloc (Nat.le_refl _) zQ)
 have HP0:=Lib.hid (zq_new w)
 have TK1:True:=trivial
 clear hk hi hok
 have hkl:(k:Int) < (s.size:Int):=by omega
 have hkl1:(k:Int) + 1≤(s.size:Int):=by omega
 subst h0
 ·go_enter Tryz.func155,Tryz.ntmps155
  go_wp2_with (first
   | (go_at_call 234;refine (slash_is s k _ (by omega) HK.out).mono ?_;rintro e w1 ⟨rfl,hw1⟩;subst hw1)
   | (go_at_call 220;refine (rinteger_any (s.extract 0 k) _ HSA.out).mono ?_;rintro e w2 ⟨rfl,hw2⟩;subst hw2;rw [HI.out.1,HI.out.2];dsimp only;rw [beta_ba]))
  refine ret_q2 rfl rfl (by simp) (zq_new w) ⟨_,rfl,rfl,HB0.out⟩
theorem read_bad3 (s n2:ByteArray) (k:Nat) (m ok:Bool) (w:World) (hs:s.size≤9223372036854775807) (_hn:n2.size≤9223372036854775807) (hk:SlashAt s.data.toList k) (hks:k≤s.size)
  (hi:intP (s.extract 0 k).data.toList = (m,n2.data.toList)) (hok:intOk (s.extract 0 k).data.toList = ok) (hsl:k < s.size) (h0:ok = true) (z0:(n2.toList == [48]) = false) (hF:NForm (s.extract (k + 1) s.size).data.toList = false) :
  Calls Tryz.prog 155 #[.string s] w fun e w'=>∃ v,v = zV∧e = .returned (.tuple #[v,.int .i64 3])∧Below w.heap.size w w':=by
 have HSA:=Lib.hid (show (s.extract 0 k).size≤9223372036854775807 from Nat.le_trans (ext_le _ _ _) (by omega))
 have HSB:=Lib.hid (show (s.extract (k + 1) s.size).size≤9223372036854775807 from Nat.le_trans (ext_le _ _ _) (by omega))
 have HSB2:=Lib.hid (show (s.extract (k + 1) s.size).size≤9223372036854775807 from Nat.le_trans (ext_le _ _ _) (by omega))
 have HK:=Lib.hid hk
 have HI:=Lib.hid (And.intro hi hok)
 have HB0:=Lib.hid ((Below.refl w.heap.size w).alloc (Nat.le_refl _) zQ)
 have HP0:=Lib.hid (zq_new w)
 have TK1:True:=trivial
 clear hk hi hok
 have hkl:(k:Int) < (s.size:Int):=by omega
 have hkl1:(k:Int) + 1≤(s.size:Int):=by omega
 have HF:=Lib.hid hF
 clear hF
 subst h0
 ·go_enter Tryz.func155,Tryz.ntmps155
  go_wp2_with (first
   | (go_at_call 234;refine (slash_is s k _ (by omega) HK.out).mono ?_;rintro e w1 ⟨rfl,hw1⟩;subst hw1)
   | (go_at_call 220;refine (rinteger_any (s.extract 0 k) _ HSA.out).mono ?_;rintro e w2 ⟨rfl,hw2⟩;subst hw2;rw [HI.out.1,HI.out.2];dsimp only;rw [beta_ba])
   | (go_at_call 235;refine (rdigits_any (s.extract (k + 1) s.size) _ HSB.out).mono ?_;rintro e w3 ⟨rfl,hw3⟩;subst hw3;rw [HF.out];generalize hBB:(s.extract (k + 1) s.size)  = b at *;have HBB:=Lib.hid hBB;clear hBB))
  refine ret_q2 rfl rfl (by simp) (zq_new w) ⟨_,rfl,rfl,HB0.out⟩
theorem read_bad4 (s n2:ByteArray) (k:Nat) (m ok:Bool) (w:World) (hs:s.size≤9223372036854775807) (_hn:n2.size≤9223372036854775807) (hk:SlashAt s.data.toList k) (hks:k≤s.size)
  (hi:intP (s.extract 0 k).data.toList = (m,n2.data.toList)) (hok:intOk (s.extract 0 k).data.toList = ok) (hsl:k < s.size) (h0:ok = true) (z0:(n2.toList == [48]) = false) (hF:NForm (s.extract (k + 1) s.size).data.toList = true) (z1:((s.extract (k + 1) s.size).toList == [48]) = true) :
  Calls Tryz.prog 155 #[.string s] w fun e w'=>∃ v,v = zV∧e = .returned (.tuple #[v,.int .i64 3])∧Below w.heap.size w w':=by
 have HSA:=Lib.hid (show (s.extract 0 k).size≤9223372036854775807 from Nat.le_trans (ext_le _ _ _) (by omega))
 have HSB:=Lib.hid (show (s.extract (k + 1) s.size).size≤9223372036854775807 from Nat.le_trans (ext_le _ _ _) (by omega))
 have HSB2:=Lib.hid (show (s.extract (k + 1) s.size).size≤9223372036854775807 from Nat.le_trans (ext_le _ _ _) (by omega))
 have HK:=Lib.hid hk
 have HI:=Lib.hid (And.intro hi hok)
 have HB0:=Lib.hid ((Below.refl w.heap.size w).alloc (Nat.le_refl _) zQ)
 have HP0:=Lib.hid (zq_new w)
 have TK1:True:=trivial
 clear hk hi hok
 have hkl:(k:Int) < (s.size:Int):=by omega
 have hkl1:(k:Int) + 1≤(s.size:Int):=by omega
 have HF:=Lib.hid hF
 clear hF
 subst h0
 ·go_enter Tryz.func155,Tryz.ntmps155
  go_wp2_with (first
   | (go_at_call 234;refine (slash_is s k _ (by omega) HK.out).mono ?_;rintro e w1 ⟨rfl,hw1⟩;subst hw1)
   | (go_at_call 220;refine (rinteger_any (s.extract 0 k) _ HSA.out).mono ?_;rintro e w2 ⟨rfl,hw2⟩;subst hw2;rw [HI.out.1,HI.out.2];dsimp only;rw [beta_ba])
   | (go_at_call 235;refine (rdigits_any (s.extract (k + 1) s.size) _ HSB.out).mono ?_;rintro e w3 ⟨rfl,hw3⟩;subst hw3;rw [HF.out];generalize hBB:(s.extract (k + 1) s.size)  = b at *;have HBB:=Lib.hid hBB;clear hBB))
  refine ret_q2 rfl rfl (by simp) (zq_new w) ⟨_,rfl,rfl,HB0.out⟩
theorem read_bad5 (s n2:ByteArray) (k:Nat) (m ok:Bool) (w:World) (hs:s.size≤9223372036854775807) (_hn:n2.size≤9223372036854775807) (hk:SlashAt s.data.toList k) (hks:k≤s.size)
  (hi:intP (s.extract 0 k).data.toList = (m,n2.data.toList)) (hok:intOk (s.extract 0 k).data.toList = ok) (hsl:k < s.size) (h0:ok = true) (z0:(n2.toList == [48]) = false) (hF:NForm (s.extract (k + 1) s.size).data.toList = true) (z1:((s.extract (k + 1) s.size).toList == [48]) = false) (z2:((s.extract (k + 1) s.size).toList == [49]) = true) :
  Calls Tryz.prog 155 #[.string s] w fun e w'=>∃ v,v = zV∧e = .returned (.tuple #[v,.int .i64 3])∧Below w.heap.size w w':=by
 have HSA:=Lib.hid (show (s.extract 0 k).size≤9223372036854775807 from Nat.le_trans (ext_le _ _ _) (by omega))
 have HSB:=Lib.hid (show (s.extract (k + 1) s.size).size≤9223372036854775807 from Nat.le_trans (ext_le _ _ _) (by omega))
 have HSB2:=Lib.hid (show (s.extract (k + 1) s.size).size≤9223372036854775807 from Nat.le_trans (ext_le _ _ _) (by omega))
 have HK:=Lib.hid hk
 have HI:=Lib.hid (And.intro hi hok)
 have HB0:=Lib.hid ((Below.refl w.heap.size w).alloc (Nat.le_refl _) zQ)
 have HP0:=Lib.hid (zq_new w)
 have TK1:True:=trivial
 clear hk hi hok
 have hkl:(k:Int) < (s.size:Int):=by omega
 have hkl1:(k:Int) + 1≤(s.size:Int):=by omega
 have HF:=Lib.hid hF
 clear hF
 subst h0
 ·go_enter Tryz.func155,Tryz.ntmps155
  go_wp2_with (first
   | (go_at_call 234;refine (slash_is s k _ (by omega) HK.out).mono ?_;rintro e w1 ⟨rfl,hw1⟩;subst hw1)
   | (go_at_call 220;refine (rinteger_any (s.extract 0 k) _ HSA.out).mono ?_;rintro e w2 ⟨rfl,hw2⟩;subst hw2;rw [HI.out.1,HI.out.2];dsimp only;rw [beta_ba])
   | (go_at_call 235;refine (rdigits_any (s.extract (k + 1) s.size) _ HSB.out).mono ?_;rintro e w3 ⟨rfl,hw3⟩;subst hw3;rw [HF.out];generalize hBB:(s.extract (k + 1) s.size)  = b at *;have HBB:=Lib.hid hBB;clear hBB))
  refine ret_q2 rfl rfl (by simp) (zq_new w) ⟨_,rfl,rfl,HB0.out⟩
theorem read_long1 (s n2:ByteArray) (k:Nat) (m ok:Bool) (w:World) (hs:s.size≤9223372036854775807) (hn:n2.size≤9223372036854775807) (hk:SlashAt s.data.toList k) (hks:k≤s.size)
  (hi:intP (s.extract 0 k).data.toList = (m,n2.data.toList)) (hok:intOk (s.extract 0 k).data.toList = ok) (hsl:k < s.size) (h0:ok = true) (z0:(n2.toList == [48]) = false) (hF:NForm (s.extract (k + 1) s.size).data.toList = true) (z1:((s.extract (k + 1) s.size).toList == [48]) = false) (z2:((s.extract (k + 1) s.size).toList == [49]) = false) (hl:4000 < n2.size) :
  Calls Tryz.prog 155 #[.string s] w fun e w'=>∃ v,v = zV∧e = .returned (.tuple #[v,.int .i64 5])∧Below w.heap.size w w':=by
 have HSA:=Lib.hid (show (s.extract 0 k).size≤9223372036854775807 from Nat.le_trans (ext_le _ _ _) (by omega))
 have HSB:=Lib.hid (show (s.extract (k + 1) s.size).size≤9223372036854775807 from Nat.le_trans (ext_le _ _ _) (by omega))
 have HSB2:=Lib.hid (show (s.extract (k + 1) s.size).size≤9223372036854775807 from Nat.le_trans (ext_le _ _ _) (by omega))
 have HK:=Lib.hid hk
 have HI:=Lib.hid (And.intro hi hok)
 have HB0:=Lib.hid ((Below.refl w.heap.size w).alloc (Nat.le_refl _) zQ)
 have HP0:=Lib.hid (zq_new w)
 have TK1:True:=trivial
 clear hk hi hok
 have hkl:(k:Int) < (s.size:Int):=by omega
 have hkl1:(k:Int) + 1≤(s.size:Int):=by omega
 have HF:=Lib.hid hF
 have hl1:decide ((4000:Int) < (n2.size:Int)) = true:=decide_eq_true (by omega)
 clear hF hl
 subst h0
 ·go_enter Tryz.func155,Tryz.ntmps155
  go_wp2_with (first
   | (go_at_call 234;refine (slash_is s k _ (by omega) HK.out).mono ?_;rintro e w1 ⟨rfl,hw1⟩;subst hw1)
   | (go_at_call 220;refine (rinteger_any (s.extract 0 k) _ HSA.out).mono ?_;rintro e w2 ⟨rfl,hw2⟩;subst hw2;rw [HI.out.1,HI.out.2];dsimp only;rw [beta_ba])
   | (go_at_call 235;refine (rdigits_any (s.extract (k + 1) s.size) _ HSB.out).mono ?_;rintro e w3 ⟨rfl,hw3⟩;subst hw3;rw [HF.out];generalize hBB:(s.extract (k + 1) s.size)  = b at *;have HBB:=Lib.hid hBB;clear hBB))
  refine ret_q2 rfl rfl (by simp) (zq_new w) ⟨_,rfl,rfl,HB0.out⟩
theorem read_long2 (s n2:ByteArray) (k:Nat) (m ok:Bool) (w:World) (hs:s.size≤9223372036854775807) (hn:n2.size≤9223372036854775807) (hk:SlashAt s.data.toList k) (hks:k≤s.size)
  (hi:intP (s.extract 0 k).data.toList = (m,n2.data.toList)) (hok:intOk (s.extract 0 k).data.toList = ok) (hsl:k < s.size) (h0:ok = true) (z0:(n2.toList == [48]) = false) (hF:NForm (s.extract (k + 1) s.size).data.toList = true) (z1:((s.extract (k + 1) s.size).toList == [48]) = false) (z2:((s.extract (k + 1) s.size).toList == [49]) = false) (hl:n2.size≤4000) (hm:4000 < (s.extract (k + 1) s.size).size) :
  Calls Tryz.prog 155 #[.string s] w fun e w'=>∃ v,v = zV∧e = .returned (.tuple #[v,.int .i64 5])∧Below w.heap.size w w':=by
 have HSA:=Lib.hid (show (s.extract 0 k).size≤9223372036854775807 from Nat.le_trans (ext_le _ _ _) (by omega))
 have HSB:=Lib.hid (show (s.extract (k + 1) s.size).size≤9223372036854775807 from Nat.le_trans (ext_le _ _ _) (by omega))
 have HSB2:=Lib.hid (show (s.extract (k + 1) s.size).size≤9223372036854775807 from Nat.le_trans (ext_le _ _ _) (by omega))
 have HK:=Lib.hid hk
 have HI:=Lib.hid (And.intro hi hok)
 have HB0:=Lib.hid ((Below.refl w.heap.size w).alloc (Nat.le_refl _) zQ)
 have HP0:=Lib.hid (zq_new w)
 have TK1:True:=trivial
 clear hk hi hok
 have hkl:(k:Int) < (s.size:Int):=by omega
 have hkl1:(k:Int) + 1≤(s.size:Int):=by omega
 have HF:=Lib.hid hF
 have hl1:decide ((4000:Int) < (n2.size:Int)) = false:=decide_eq_false (by omega)
 have hl2:decide ((4000:Int) < ((s.extract (k + 1) s.size).size:Int)) = true:=decide_eq_true (by omega)
 clear hF hl hm
 subst h0
 ·go_enter Tryz.func155,Tryz.ntmps155
  go_wp2_with (first
   | (go_at_call 234;refine (slash_is s k _ (by omega) HK.out).mono ?_;rintro e w1 ⟨rfl,hw1⟩;subst hw1)
   | (go_at_call 220;refine (rinteger_any (s.extract 0 k) _ HSA.out).mono ?_;rintro e w2 ⟨rfl,hw2⟩;subst hw2;rw [HI.out.1,HI.out.2];dsimp only;rw [beta_ba])
   | (go_at_call 235;refine (rdigits_any (s.extract (k + 1) s.size) _ HSB.out).mono ?_;rintro e w3 ⟨rfl,hw3⟩;subst hw3;rw [HF.out];generalize hBB:(s.extract (k + 1) s.size)  = b at *;have HBB:=Lib.hid hBB;clear hBB))
  refine ret_q2 rfl rfl (by simp) (zq_new w) ⟨_,rfl,rfl,HB0.out⟩
theorem read_gcd (s n2:ByteArray) (k:Nat) (m ok:Bool) (w:World) (hs:s.size≤270000) (hn:n2.size≤270000) (hk:SlashAt s.data.toList k) (hks:k≤s.size)
  (hi:intP (s.extract 0 k).data.toList = (m,n2.data.toList)) (hok:intOk (s.extract 0 k).data.toList = ok) (hsl:k < s.size) (h0:ok = true) (z0:(n2.toList == [48]) = false) (hF:NForm (s.extract (k + 1) s.size).data.toList = true) (z1:((s.extract (k + 1) s.size).toList == [48]) = false) (z2:((s.extract (k + 1) s.size).toList == [49]) = false) (hl:n2.size≤4000) (hm:(s.extract (k + 1) s.size).size≤4000) (hd:Dg n2.data.toList) (hd':Dg (s.extract (k + 1) s.size).data.toList) (ll:(toL (dv n2.data.toList)).length≤30000∧(toL (dv (s.extract (k + 1) s.size).data.toList)).length≤30000) (lg:(toL ((dv n2.data.toList).gcd (dv (s.extract (k + 1) s.size).data.toList))).length≤100000) (hg:(dv n2.data.toList).gcd (dv (s.extract (k + 1) s.size).data.toList)≠1) :
  Calls Tryz.prog 155 #[.string s] w fun e w'=>∃ v,v = zV∧e = .returned (.tuple #[v,.int .i64 3])∧Below w.heap.size w w':=by
 have HSA:=Lib.hid (show (s.extract 0 k).size≤9223372036854775807 from Nat.le_trans (ext_le _ _ _) (by omega))
 have HSB:=Lib.hid (show (s.extract (k + 1) s.size).size≤9223372036854775807 from Nat.le_trans (ext_le _ _ _) (by omega))
 have HSB2:=Lib.hid (show (s.extract (k + 1) s.size).size≤270000 from Nat.le_trans (ext_le _ _ _) (by omega))
 have HK:=Lib.hid hk
 have HI:=Lib.hid (And.intro hi hok)
 have HB0:=Lib.hid ((Below.refl w.heap.size w).alloc (Nat.le_refl _) zQ)
 have HP0:=Lib.hid (zq_new w)
 have TK1:True:=trivial
 clear hk hi hok
 have hkl:(k:Int) < (s.size:Int):=by omega
 have hkl1:(k:Int) + 1≤(s.size:Int):=by omega
 have HF:=Lib.hid hF
 have hl1:decide ((4000:Int) < (n2.size:Int)) = false:=decide_eq_false (by omega)
 have hl2:decide ((4000:Int) < ((s.extract (k + 1) s.size).size:Int)) = false:=decide_eq_false (by omega)
 have HG:=Lib.hid (And.intro hd hd')
 have HLL:=Lib.hid ll
 have HLG:=Lib.hid lg
 have HL1:=Lib.hid (show (toL 1).length≤100000 by rw [show toL 1 = [1] by rw [toL_pos (by omega)];simp [B_val,toL_zero]];decide)
 clear hF hl hm hd hd' ll lg
 have hsg:(sgn ((dv n2.data.toList).gcd (dv (s.extract (k + 1) s.size).data.toList)) 1 == 0) = false:=by rw [sgn_one_zero,decide_eq_false hg]
 clear hg
 subst h0
 ·go_enter Tryz.func155,Tryz.ntmps155
  go_wp2_with (first
   | (go_at_call 234;refine (slash_is s k _ (by omega) HK.out).mono ?_;rintro e w1 ⟨rfl,hw1⟩;subst hw1)
   | (go_at_call 220;refine (rinteger_any (s.extract 0 k) _ HSA.out).mono ?_;rintro e w2 ⟨rfl,hw2⟩;subst hw2;rw [HI.out.1,HI.out.2];dsimp only;rw [beta_ba])
   | (go_at_call 235;refine (rdigits_any (s.extract (k + 1) s.size) _ HSB.out).mono ?_;rintro e w3 ⟨rfl,hw3⟩;subst hw3;rw [HF.out];generalize hBB:(s.extract (k + 1) s.size)  = b at *;have HBB:=Lib.hid hBB;clear hBB)
   | (clear TK1;go_at_call 223;refine (rread_any n2 _ HG.out.1 (by omega)).mono ?_;rintro e w4 ⟨v4,rfl,hv4,hb4⟩;obtain ⟨A4,c4,rfl,_,_,_⟩:=id hv4;have HV4:=Lib.hid hv4;have HB4:=Lib.hid (HB0.out.trans (hb4.mono HB0.out.size));have HP4:=Lib.hid (HP0.out.below hb4 HP0.out.lt);clear hv4 hb4)
   | (go_at_call 223;refine (rread_any b _ HG.out.2 (by first | omega | decide | exact HSB2.out)).mono ?_;rintro e w5 ⟨v5,rfl,hv5,hb5⟩;obtain ⟨A5,c5,rfl,_,_,_⟩:=id hv5;have HV5:=Lib.hid hv5;have HV4':=Lib.hid (HV4.out.below hb5);have HB5:=Lib.hid (HB4.out.trans (hb5.mono HB4.out.size));have HP5:=Lib.hid (HP4.out.below hb5 HP4.out.lt);clear hv5 hb5)
   | (go_at_call 236;have HX5:=Lib.hid ((Below.refl w5.heap.size w5).alloc (Nat.le_refl _) (.cells #[.bool m,.slice A4 (toL (dv n2.data.toList)).length c4,.slice A5 (toL (dv b.data.toList)).length c5] 170));refine (rcommon_any (dv n2.data.toList) (dv b.data.toList) _ _ _ (HV4'.out.below HX5.out) (HV5.out.below HX5.out) HLL.out.1 HLL.out.2).mono ?_;rintro e w6 ⟨v6,rfl,hv6,hb6⟩;have HV6:=Lib.hid hv6;have HX6:=Lib.hid (HX5.out.trans (hb6.mono HX5.out.size));have HT6:=Lib.hid ((Blk.new w5 _ _).below hb6 (by simp));clear hv6 hb6)
   | (go_at_call 227;refine (rone_any _).mono ?_;rintro e w7 ⟨v7,rfl,hv7,hb7⟩;have HV7:=Lib.hid hv7;have HV6':=Lib.hid (HV6.out.below hb7);have HX7:=Lib.hid (HX6.out.trans (hb7.mono HX6.out.size));have HT7:=Lib.hid (HT6.out.below hb7 HT6.out.lt);clear hv7 hb7)
   | (go_at_call 232;refine (rorder_any _ 1 _ _ _ HV6'.out HV7.out HLG.out HL1.out).mono ?_;rintro e w8 ⟨rfl,hb8⟩;have HX8:=Lib.hid (HX7.out.trans (hb8.mono HX7.out.size));have HP8:=Lib.hid (HP5.out.below HX8.out HP5.out.lt);obtain ⟨h60,h61,h62,h63,h64,h65⟩:=cells6 HP8.out;obtain ⟨t60,t61,t62⟩:=rows_of HT7.out hb8 HT7.out.lt;clear hb8))
  refine ret_q2 rfl rfl (by simp) (set3 HP8.out) ⟨_,rfl,rfl,?_⟩
  exact set3_below (g:=w.heap.size) (HB5.out.trans (HX8.out.mono HB5.out.size)) (Nat.le_refl _)
theorem read_ok (s n2:ByteArray) (k:Nat) (m ok:Bool) (w:World) (hs:s.size≤270000) (hn:n2.size≤270000) (hk:SlashAt s.data.toList k) (hks:k≤s.size)
  (hi:intP (s.extract 0 k).data.toList = (m,n2.data.toList)) (hok:intOk (s.extract 0 k).data.toList = ok) (hsl:k < s.size) (h0:ok = true) (z0:(n2.toList == [48]) = false) (hF:NForm (s.extract (k + 1) s.size).data.toList = true) (z1:((s.extract (k + 1) s.size).toList == [48]) = false) (z2:((s.extract (k + 1) s.size).toList == [49]) = false) (hl:n2.size≤4000) (hm:(s.extract (k + 1) s.size).size≤4000) (hd:Dg n2.data.toList) (hd':Dg (s.extract (k + 1) s.size).data.toList) (ll:(toL (dv n2.data.toList)).length≤30000∧(toL (dv (s.extract (k + 1) s.size).data.toList)).length≤30000) (lg:(toL ((dv n2.data.toList).gcd (dv (s.extract (k + 1) s.size).data.toList))).length≤100000) (hg:(dv n2.data.toList).gcd (dv (s.extract (k + 1) s.size).data.toList) = 1) :
  Calls Tryz.prog 155 #[.string s] w fun e w'=>∃ v,e = .returned (.tuple #[v,.int .i64 0])∧IsPartsI w' v m (dv n2.data.toList) (dv (s.extract (k + 1) s.size).data.toList)∧Below w.heap.size w w':=by
 have HSA:=Lib.hid (show (s.extract 0 k).size≤9223372036854775807 from Nat.le_trans (ext_le _ _ _) (by omega))
 have HSB:=Lib.hid (show (s.extract (k + 1) s.size).size≤9223372036854775807 from Nat.le_trans (ext_le _ _ _) (by omega))
 have HSB2:=Lib.hid (show (s.extract (k + 1) s.size).size≤270000 from Nat.le_trans (ext_le _ _ _) (by omega))
 have HK:=Lib.hid hk
 have HI:=Lib.hid (And.intro hi hok)
 have HB0:=Lib.hid ((Below.refl w.heap.size w).alloc (Nat.le_refl _) zQ)
 have HP0:=Lib.hid (zq_new w)
 have TK1:True:=trivial
 clear hk hi hok
 have hkl:(k:Int) < (s.size:Int):=by omega
 have hkl1:(k:Int) + 1≤(s.size:Int):=by omega
 have HF:=Lib.hid hF
 have hl1:decide ((4000:Int) < (n2.size:Int)) = false:=decide_eq_false (by omega)
 have hl2:decide ((4000:Int) < ((s.extract (k + 1) s.size).size:Int)) = false:=decide_eq_false (by omega)
 have HG:=Lib.hid (And.intro hd hd')
 have HLL:=Lib.hid ll
 have HLG:=Lib.hid lg
 have HL1:=Lib.hid (show (toL 1).length≤100000 by rw [show toL 1 = [1] by rw [toL_pos (by omega)];simp [B_val,toL_zero]];decide)
 clear hF hl hm hd hd' ll lg
 have hsg:(sgn ((dv n2.data.toList).gcd (dv (s.extract (k + 1) s.size).data.toList)) 1 == 0) = true:=by rw [sgn_one_zero,decide_eq_true hg]
 clear hg
 subst h0
 ·go_enter Tryz.func155,Tryz.ntmps155
  go_wp2_with (first
   | (go_at_call 234;refine (slash_is s k _ (by omega) HK.out).mono ?_;rintro e w1 ⟨rfl,hw1⟩;subst hw1)
   | (go_at_call 220;refine (rinteger_any (s.extract 0 k) _ HSA.out).mono ?_;rintro e w2 ⟨rfl,hw2⟩;subst hw2;rw [HI.out.1,HI.out.2];dsimp only;rw [beta_ba])
   | (go_at_call 235;refine (rdigits_any (s.extract (k + 1) s.size) _ HSB.out).mono ?_;rintro e w3 ⟨rfl,hw3⟩;subst hw3;rw [HF.out];generalize hBB:(s.extract (k + 1) s.size)  = b at *;have HBB:=Lib.hid hBB;clear hBB)
   | (clear TK1;go_at_call 223;refine (rread_any n2 _ HG.out.1 (by omega)).mono ?_;rintro e w4 ⟨v4,rfl,hv4,hb4⟩;obtain ⟨A4,c4,rfl,_,_,_⟩:=id hv4;have HV4:=Lib.hid hv4;have HB4:=Lib.hid (HB0.out.trans (hb4.mono HB0.out.size));have HP4:=Lib.hid (HP0.out.below hb4 HP0.out.lt);clear hv4 hb4)
   | (go_at_call 223;refine (rread_any b _ HG.out.2 (by first | omega | decide | exact HSB2.out)).mono ?_;rintro e w5 ⟨v5,rfl,hv5,hb5⟩;obtain ⟨A5,c5,rfl,_,_,_⟩:=id hv5;have HV5:=Lib.hid hv5;have HV4':=Lib.hid (HV4.out.below hb5);have HB5:=Lib.hid (HB4.out.trans (hb5.mono HB4.out.size));have HP5:=Lib.hid (HP4.out.below hb5 HP4.out.lt);clear hv5 hb5)
   | (go_at_call 236;have HX5:=Lib.hid ((Below.refl w5.heap.size w5).alloc (Nat.le_refl _) (.cells #[.bool m,.slice A4 (toL (dv n2.data.toList)).length c4,.slice A5 (toL (dv b.data.toList)).length c5] 170));refine (rcommon_any (dv n2.data.toList) (dv b.data.toList) _ _ _ (HV4'.out.below HX5.out) (HV5.out.below HX5.out) HLL.out.1 HLL.out.2).mono ?_;rintro e w6 ⟨v6,rfl,hv6,hb6⟩;have HV6:=Lib.hid hv6;have HX6:=Lib.hid (HX5.out.trans (hb6.mono HX5.out.size));have HT6:=Lib.hid ((Blk.new w5 _ _).below hb6 (by simp));clear hv6 hb6)
   | (go_at_call 227;refine (rone_any _).mono ?_;rintro e w7 ⟨v7,rfl,hv7,hb7⟩;have HV7:=Lib.hid hv7;have HV6':=Lib.hid (HV6.out.below hb7);have HX7:=Lib.hid (HX6.out.trans (hb7.mono HX6.out.size));have HT7:=Lib.hid (HT6.out.below hb7 HT6.out.lt);clear hv7 hb7)
   | (go_at_call 232;refine (rorder_any _ 1 _ _ _ HV6'.out HV7.out HLG.out HL1.out).mono ?_;rintro e w8 ⟨rfl,hb8⟩;have HX8:=Lib.hid (HX7.out.trans (hb8.mono HX7.out.size));have HP8:=Lib.hid (HP5.out.below HX8.out HP5.out.lt);obtain ⟨h60,h61,h62,h63,h64,h65⟩:=cells6 HP8.out;obtain ⟨t60,t61,t62⟩:=rows_of HT7.out hb8 HT7.out.lt;clear hb8))
  refine ret_q2 rfl rfl (by simp) (set3 HP8.out) ⟨_,rfl,?_,?_⟩
  ·rw [HBB.out];exact isPartsI_mk (isNatI_set3 (HV4'.out.below HX8.out) HP8.out) (isNatI_set3 (HV5.out.below HX8.out) HP8.out)
  ·exact set3_below (g:=w.heap.size) (HB5.out.trans (HX8.out.mono HB5.out.size)) (Nat.le_refl _)
end Go.Proofs.YtigapglmipmbeaaGreatDoor
namespace Go.Proofs.YtigapglmipmbeaaGreatDoor
open Go.RowKit Go.Shelf
open Lim
theorem isQ_low {w:World} {v:Value} {m:Bool} {n d:Nat} (hd:d≠0) (hg:n.gcd d = 1) (hm:m = true→n≠0) (h:IsPartsI w v m n d):IsQ w v (mkQ m n d):=by
 obtain ⟨h1,h2,h3⟩:=mkQ_low (m:=m) hd hg
 unfold IsQ
 rw [h1,h2,h3]
 have:(m && decide (n≠0)) = m:=by
  cases m with
  | false=>rfl
  | true=>simpa using hm rfl
 rw [this]
 exact h
theorem gcd_limbs {n d k:Nat} (h1:(toL n).length≤k) (h2:(toL d).length≤k):(toL (n.gcd d)).length≤k:=by
 by_cases h:n = 0
 ·subst h;rw [Nat.gcd_zero_left];exact h2
 ·exact Nat.le_trans (toL_len_mono (Nat.le_of_dvd (Nat.pos_of_ne_zero h) (Nat.gcd_dvd_left n d))) h1
theorem dv_one:dv [49] = 1:=by rw [← dec_one,dv_decDigits]
theorem slash_at (s:ByteArray):∃ k,SlashAt s.data.toList k∧k≤s.size∧(s.extract 0 k).data.toList = (cutQ s.data.toList).1 ∧
  ((k = s.size∧(cutQ s.data.toList).2 = none) ∨ (k < s.size∧(cutQ s.data.toList).2 = some (s.extract (k + 1) s.size).data.toList)):=by
 have hsz:=size_list s
 rcases cutQ_cases s.data.toList with ⟨a,r,e,hn⟩ | hn
 ·have hl:s.size = a.length + (r.length + 1):=by rw [hsz,e];simp
  have e1:(s.extract 0 a.length).data.toList = a:=by rw [extract_list,e];simp
  have e2:(s.extract (a.length + 1) s.size).data.toList = r:=by
   rw [extract_list,hsz,List.take_length,e,← List.drop_drop]
   simp
  have ec:cutQ s.data.toList = (a,some r):=by rw [e];exact cutQ_slash hn
  refine ⟨a.length,.inl ⟨by omega,?_⟩,by omega,by rw [e1,ec],.inr ⟨by omega,by rw [e2,ec]⟩⟩
  have t1:s.data.toList.take a.length = a:=by rw [e];simp
  have t2:s.data.toList.drop (a.length + 1) = r:=by rw [e,← List.drop_drop];simp
  rw [ec,t1,t2]
 ·have ec:=cutQ_none hn
  refine ⟨s.size,.inr ⟨hsz,ec⟩,Nat.le_refl _,?_,.inl ⟨rfl,by rw [ec]⟩⟩
  rw [extract_list,hsz,List.take_length,ec]
  rfl
theorem intP_ge (l:List UInt8):l.length≤(intP l).2.length + 1:=by
 unfold intP
 split
 ·simp only [List.length_drop];omega
 ·exact Nat.le_succ _
theorem rq_anyB (s:ByteArray) (w:World) (hlen:s.size≤9223372036854775807) :
  Calls Tryz.prog 155 #[.string s] w fun e w'=>∃ v,e = .returned (.tuple #[v,.int .i64 (errQ s.data.toList:Int)])∧(errQ s.data.toList = 0→IsQ w' v (valQ s.data.toList))∧(errQ s.data.toList≠0→v = zV)∧Below w.heap.size w w':=by
 obtain ⟨k,hk,hks,hex,hcase⟩:=slash_at s
 obtain ⟨hle1,hle2⟩:=cutQ_le s.data.toList
 rw [← size_list] at hle1 hle2
 have hE:errQ s.data.toList = match shapeQ s.data.toList with | none=>3 | some (_,n,d,sl)=>if maxD < Lib.nDigits n ∨ maxD < Lib.nDigits d then 5 else if sl && n.gcd d != 1 then 3 else 0:=rfl
 have hV:valQ s.data.toList = match shapeQ s.data.toList with | none=>0 | some (m,n,d,_)=>mkQ m n d:=rfl
 have hS:shapeQ s.data.toList = if intOk (cutQ s.data.toList).1 then match (cutQ s.data.toList).2 with | none=>some ((intP (cutQ s.data.toList).1).1,dv (intP (cutQ s.data.toList).1).2,1,false) | some d=>if (intP (cutQ s.data.toList).1).2 != [48] && (NForm d && (d != [48] && d != [49])) then some ((intP (cutQ s.data.toList).1).1,dv (intP (cutQ s.data.toList).1).2,dv d,true) else none else none:=rfl
 have hTS:∀ m n d sl,shapeQ s.data.toList = some (m,n,d,sl)→(m = true→n≠0)∧d≠0:=fun m n d sl h=>⟨(text_of_shape h).2.1,(text_of_shape h).2.2.1⟩
 generalize cutQ s.data.toList = c at hex hcase hle1 hle2 hS
 obtain ⟨la,ob⟩:=c
 dsimp only at hex hcase hle1 hle2 hS
 have hip:intP (s.extract 0 k).data.toList = ((intP la).1,(intP la).2):=by rw [hex]
 have hile:=intP_le la
 have hige:=intP_ge la
 have hkl:k = la.length:=by rw [← hex,extract_list,List.length_drop,List.length_take,← size_list];omega
 have hokf:intOk la = true→NForm (intP la).2 = true:=fun h=>by
  unfold intOk at h
  simp only [Bool.and_eq_true] at h
  exact h.1
 generalize hm:(intP la).1 = m at *
 generalize hl:(intP la).2 = ln at *
 have err:∀ k:Nat,k≠0→errQ s.data.toList = k→Calls Tryz.prog 155 #[.string s] w (fun e w'=>∃ v,v = zV∧e = .returned (.tuple #[v,.int .i64 (k:Int)])∧Below w.heap.size w w') →
   Calls Tryz.prog 155 #[.string s] w fun e w'=>∃ v,e = .returned (.tuple #[v,.int .i64 (errQ s.data.toList:Int)])∧(errQ s.data.toList = 0→IsQ w' v (valQ s.data.toList))∧(errQ s.data.toList≠0→v = zV)∧Below w.heap.size w w':=fun k hk he h=>by
  rw [he]
  exact h.mono fun e w' ⟨v,hz,h1,h2⟩=>⟨v,h1,fun h0=>absurd h0 hk,fun _=>hz,h2⟩
 have good:∀ (n d:Nat) (sl:Bool),shapeQ s.data.toList = some (m,n,d,sl)→errQ s.data.toList = 0→n.gcd d = 1→Calls Tryz.prog 155 #[.string s] w (fun e w'=>∃ v,e = .returned (.tuple #[v,.int .i64 0])∧IsPartsI w' v m n d∧Below w.heap.size w w') →
   Calls Tryz.prog 155 #[.string s] w fun e w'=>∃ v,e = .returned (.tuple #[v,.int .i64 (errQ s.data.toList:Int)])∧(errQ s.data.toList = 0→IsQ w' v (valQ s.data.toList))∧(errQ s.data.toList≠0→v = zV)∧Below w.heap.size w w':=fun n d sl hs he hg h=>by
  rw [he]
  refine h.mono fun e w' ⟨v,h1,h2,h3⟩=>⟨v,h1,fun _=>?_,fun h=>absurd rfl h,h3⟩
  rw [hV,hs]
  obtain ⟨t1,t2⟩:=hTS _ _ _ _ hs
  exact isQ_low t2 hg t1 h2
 have hsz:∀ l:List UInt8,(⟨l.toArray⟩:ByteArray).size = l.length:=fun l=>List.size_toArray
 have htl:∀ l:List UInt8,(⟨l.toArray⟩:ByteArray).toList = l:=fun l=>by rw [Lib.toList_data]
 have hN:(⟨ln.toArray⟩:ByteArray).size≤9223372036854775807:=by rw [hsz];omega
 by_cases hok:intOk la = true
 ·have hnf:=hokf hok
  have hok1:intOk (s.extract 0 k).data.toList = true:=by rw [hex];exact hok
  rw [if_pos hok] at hS
  have hnd:=digits_of_form hnf
  rcases hcase with ⟨hke,rfl⟩ | ⟨hke,rfl⟩
  ·dsimp only at hS
   have hsp:=hS
   rw [hS] at hE
   dsimp only at hE
   rw [hnd,Lib.nDigits_small (by omega:1 < 10)] at hE
   by_cases hlong:4000 < ln.length
   ·rw [if_pos (.inl hlong)] at hE
    exact err 5 (by decide) hE (read_long_none s ⟨ln.toArray⟩ k m _ w (by omega) (by omega) hk hks hip hok1 hke rfl (by rw [hsz];exact hlong))
   ·rw [if_neg (by unfold maxD;omega)] at hE
    have hl1:(toL 1).length≤30000:=Nat.le_trans (toL_len_le (show 1 < B ^ 1 by rw [B_val];omega)) (by omega)
    have hl2:(toL (dv ln)).length≤30000:=Nat.le_trans (limbs_of_form hnf (k:=500) (by omega)) (by omega)
    have hR:=read_ok_none s ⟨ln.toArray⟩ k m _ w (by omega) (by rw [hsz];omega) hk hks hip hok1 hke rfl (by rw [hsz];omega) (dg_of_form hnf) ⟨hl2,by rw [dv_one];exact hl1⟩ (Nat.le_trans (gcd_limbs hl2 (by rw [dv_one];exact hl1)) (by omega)) (by rw [dv_one];exact Nat.gcd_one_right _)
    rw [dv_one] at hR
    exact good _ _ _ hsp (by rw [hE];rfl) (Nat.gcd_one_right _) hR
  ·dsimp only [Option.getD] at hS hle2
   have hbl:=size_list (s.extract (k + 1) s.size)
   have hbt:=fun x=>show ((s.extract (k + 1) s.size).toList == x) = ((s.extract (k + 1) s.size).data.toList == x) by rw [Lib.toList_data]
   have hR2:=read_bad2 s ⟨ln.toArray⟩ k m _ w (by omega) (by omega) hk hks hip hok1 hke rfl
   have hR3:=read_bad3 s ⟨ln.toArray⟩ k m _ w (by omega) (by omega) hk hks hip hok1 hke rfl
   have hR4:=read_bad4 s ⟨ln.toArray⟩ k m _ w (by omega) (by omega) hk hks hip hok1 hke rfl
   have hR5:=read_bad5 s ⟨ln.toArray⟩ k m _ w (by omega) (by omega) hk hks hip hok1 hke rfl
   have hL1:=read_long1 s ⟨ln.toArray⟩ k m _ w (by omega) (by omega) hk hks hip hok1 hke rfl
   have hL2:=read_long2 s ⟨ln.toArray⟩ k m _ w (by omega) (by omega) hk hks hip hok1 hke rfl
   have hG:=fun (hlen:s.size≤270000) (hN:ln.length≤270000)=>read_gcd s ⟨ln.toArray⟩ k m _ w hlen (by rw [hsz];exact hN) hk hks hip hok1 hke rfl
   have hO:=fun (hlen:s.size≤270000) (hN:ln.length≤270000)=>read_ok s ⟨ln.toArray⟩ k m _ w hlen (by rw [hsz];exact hN) hk hks hip hok1 hke rfl
   have hsd:s.size≤k + 1 + (s.extract (k + 1) s.size).data.toList.length:=by rw [extract_list,List.length_drop,List.length_take,← size_list];omega
   rw [htl] at hR2 hR3 hR4 hR5 hL1 hL2 hG hO
   rw [hbt] at hR4 hR5 hL1 hL2 hG hO
   rw [hbt] at hR5 hL1 hL2 hG hO
   rw [hsz ln] at hL1 hL2 hG hO
   rw [hbl] at hL2 hG hO
   clear hbl hbt hip hex
   dsimp only at hG hO
   generalize (s.extract (k + 1) s.size).data.toList = d at *
   by_cases z0:(ln == [48]) = true
   ·rw [if_neg (by simp [bne,z0])] at hS
    rw [hS] at hE
    exact err 3 (by decide) hE (hR2 z0)
   have z0:(ln == [48]) = false:=by simpa using z0
   by_cases hF:NForm d = false
   ·rw [if_neg (by simp [hF])] at hS
    rw [hS] at hE
    exact err 3 (by decide) hE (hR3 z0 hF)
   have hF:NForm d = true:=by simpa using hF
   by_cases z1:(d == [48]) = true
   ·rw [if_neg (by simp [bne,z1])] at hS
    rw [hS] at hE
    exact err 3 (by decide) hE (hR4 z0 hF z1)
   have z1:(d == [48]) = false:=by simpa using z1
   by_cases z2:(d == [49]) = true
   ·rw [if_neg (by simp [bne,z2])] at hS
    rw [hS] at hE
    exact err 3 (by decide) hE (hR5 z0 hF z1 z2)
   have z2:(d == [49]) = false:=by simpa using z2
   rw [if_pos (by simp only [bne,z0,hF,z1,z2];rfl)] at hS
   have hsp:=hS
   rw [hS] at hE
   dsimp only at hE
   rw [hnd,digits_of_form hF] at hE
   by_cases hlong:4000 < ln.length
   ·rw [if_pos (.inl hlong)] at hE
    exact err 5 (by decide) hE (hL1 z0 hF z1 z2 hlong)
   by_cases hlong2:4000 < d.length
   ·rw [if_pos (.inr hlong2)] at hE
    exact err 5 (by decide) hE (hL2 z0 hF z1 z2 (by omega) hlong2)
   rw [if_neg (by unfold maxD;omega)] at hE
   have hll:(toL (dv ln)).length≤30000∧(toL (dv d)).length≤30000:=⟨Nat.le_trans (limbs_of_form hnf (k:=500) (by omega)) (by omega),Nat.le_trans (limbs_of_form hF (k:=500) (by omega)) (by omega)⟩
   have hlg:(toL ((dv ln).gcd (dv d))).length≤100000:=Nat.le_trans (gcd_limbs hll.1 hll.2) (by omega)
   by_cases hg:(dv ln).gcd (dv d) = 1
   ·rw [hg] at hE
    exact good _ _ _ hsp (by rw [hE];rfl) hg (hO (by omega) (by omega) z0 hF z1 z2 (by omega) (by omega) (dg_of_form hnf) (dg_of_form hF) hll hlg hg)
   ·rw [if_pos (by simp [hg])] at hE
    exact err 3 (by decide) hE (hG (by omega) (by omega) z0 hF z1 z2 (by omega) (by omega) (dg_of_form hnf) (dg_of_form hF) hll hlg hg)
 ·rw [if_neg hok] at hS
  rw [hS] at hE
  have hok':intOk (s.extract 0 k).data.toList = false:=by rw [hex];simpa using hok
  rcases hcase with ⟨hke,rfl⟩ | ⟨hke,rfl⟩
  ·exact err 3 (by decide) hE (read_bad_none s ⟨ln.toArray⟩ k m _ w (by omega) (by omega) hk hks hip hok' hke rfl)
  ·exact err 3 (by decide) hE (read_bad1 s ⟨ln.toArray⟩ k m _ w (by omega) (by omega) hk hks hip hok' hke rfl)
theorem rq_any (s:ByteArray) (w:World) (hlen:s.size≤270000) :
  Calls Tryz.prog 155 #[.string s] w fun e w'=>∃ v,e = .returned (.tuple #[v,.int .i64 (errQ s.data.toList:Int)])∧(errQ s.data.toList = 0→IsQ w' v (valQ s.data.toList))∧(errQ s.data.toList≠0→v = zV)∧Below w.heap.size w w':=rq_anyB s w (by omega)
theorem q_shape {w:World} {v:Value} {s:List UInt8} (h:errQ s = 0→IsQ w v (valQ s)) (hz:errQ s≠0→v = zV):∃ (bq:Bool) (A A':Option Addr) (l c l' c':Nat),v = .agg #[.bool bq,.slice A l c,.slice A' l' c']:=by
 by_cases he:errQ s = 0
 ·obtain ⟨A,c,A',c',rfl,_,_⟩:=h he
  exact ⟨_,_,_,_,_,_,_,rfl⟩
 ·exact ⟨_,_,_,_,_,_,_,hz he⟩
theorem refCheck_any (a:ByteArray) (w:World) (ha:a.size≤270000) :
  Calls Tryz.prog 219 #[.string a] w fun e w'=>e = .returned (.int .i64 (errQ a.data.toList:Int))∧Below w.heap.size w w':=by
 have HP:=Lib.hid (rq_any a w ha)
 go_enter Tryz.func219,Tryz.ntmps219
 go_wp2_with (go_at_call 155;refine HP.out.mono ?_;rintro e w1 ⟨v,rfl,hv,hz,hb⟩;obtain ⟨bq,A,A',l,c,l',c',rfl⟩:=q_shape hv hz;have HB:=Lib.hid hb;clear hb hz hv)
 go_ret
 exact ⟨rfl,below_alloc HB.out _⟩
end Go.Proofs.YtigapglmipmbeaaGreatDoor
namespace Go.Proofs.YtigapglmipmbeaaGreatDoor
open Go.RowKit Go.Shelf
open Lim
def IsT (a:ByteArray) (q:Rat):Prop:=a = ⟨(ratText q).toArray⟩∧Sz maxD q
theorem IsT.list {a:ByteArray} {q:Rat} (h:IsT a q):a.data.toList = ratText q:=by rw [h.1]
theorem IsT.err {a:ByteArray} {q:Rat} (h:IsT a q):errQ a.data.toList = 0:=by rw [h.list];exact errQ_ok h.2 (Nat.le_refl _)
theorem IsT.val {a:ByteArray} {q:Rat} (h:IsT a q):valQ a.data.toList = q:=by rw [h.list,valQ_rat]
theorem IsT.of {a:ByteArray} (h:errQ a.data.toList = 0):IsT a (valQ a.data.toList):=by
 refine ⟨?_,sz_max h⟩
 rw [← (text_of_ok h).1]
theorem IsT.eq {a b:ByteArray} {q:Rat} (h:IsT a q) (h':IsT b q):a = b:=by rw [h.1,h'.1]
theorem IsT.inj {a:ByteArray} {p q:Rat} (h:IsT a p) (h':IsT a q):p = q:=by rw [← h.val,← h'.val]
theorem ratText_le {q:Rat} {k:Nat} (h:Sz k q):(ratText q).length≤2 * k + 2:=by
 obtain ⟨h1,h2⟩:=(sz_iff h.pos).1 h
 unfold ratText
 simp only [List.length_append,Lib.decDigits_length]
 have e1:(if ng q then ([45]:List UInt8) else []).length≤1:=by split <;> simp
 have e2:(if q.den = 1 then ([]:List UInt8) else 47 :: Lib.decDigits q.den).length≤k + 1:=by
  split
  ·simp
  ·rw [List.length_cons,Lib.decDigits_length];omega
 omega
theorem IsT.size {a:ByteArray} {q:Rat} (h:IsT a q):a.size≤270000:=by
 rw [size_list,h.list]
 have:=ratText_le h.2
 unfold maxD at this
 omega
theorem one_T {f:Rat→List UInt8 × Nat} {a:ByteArray} {p:Rat} (ha:IsT a p):oneQ f a.data.toList = f p:=by
 unfold oneQ;rw [ha.err,ha.val];rfl
theorem two_T {f:Rat→Rat→List UInt8 × Nat} {a b:ByteArray} {p q:Rat} (ha:IsT a p) (hb:IsT b q):twoQ f a.data.toList b.data.toList = f p q:=by
 unfold twoQ;rw [ha.err,hb.err,ha.val,hb.val];rfl
theorem out_T {c:ByteArray} {r:Rat} (hc:IsT c r):resN (outQ r) = .tuple #[.string c,.int .i64 0]:=by
 rw [outQ_ok hc.2 (Nat.le_refl _),hc.1];rfl
theorem div_T {c:ByteArray} {p q:Rat} (hc:IsT c (p * q⁻¹)) (h:q≠0):resN (divQ p q) = .tuple #[.string c,.int .i64 0]:=by
 unfold divQ;rw [if_neg h,out_T hc]
theorem text_q {m:Bool} {n d:Nat} (hd:d≠0) (hg:n.gcd d = 1) (hm:m = true→n≠0):ratText (mkQ m n d) = (if m then [45] else []) ++ Lib.decDigits n ++ (if d = 1 then [] else 47 :: Lib.decDigits d):=by
 obtain ⟨h1,h2,h3⟩:=mkQ_low (m:=m) hd hg
 have:(m && decide (n≠0)) = m:=by
  cases m with
  | false=>rfl
  | true=>simpa using hm rfl
 unfold ratText
 rw [h1,h2,h3,this]
theorem sz_q {m:Bool} {n d k:Nat} (hd:d≠0) (hn:n < 10 ^ k) (hd':d < 10 ^ k):Sz k (mkQ m n d):=⟨Nat.lt_of_le_of_lt (mkQ_nm_le hd) hn,Nat.lt_of_le_of_lt (mkQ_den_le hd) hd'⟩
theorem isT_small {m:Bool} {n d:Nat} {l:List UInt8} (hd:d≠0) (hg:n.gcd d = 1) (hm:m = true→n≠0) (hn:n < 10) (hd':d < 10) (hl:(if m then [45] else []) ++ [UInt8.ofNat (48 + n)] ++ (if d = 1 then [] else [47,UInt8.ofNat (48 + d)]) = l):IsT ⟨l.toArray⟩ (mkQ m n d):=by
 refine ⟨?_,(sz_q (k:=1) hd (by omega) (by omega)).mono (by decide)⟩
 rw [text_q hd hg hm,Lib.decDigits_one hn,Lib.decDigits_one hd',← hl]
theorem IsT.zero:IsT ⟨#[48]⟩ 0:=by
 have h:=isT_small (m:=false) (n:=0) (d:=1) (l:=[48]) (by decide) (by decide) (by decide) (by decide) (by decide) (by decide)
 rwa [mkQ_zero] at h
theorem IsT.one:IsT ⟨#[49]⟩ 1:=by
 have h:=isT_small (m:=false) (n:=1) (d:=1) (l:=[49]) (by decide) (by decide) (by decide) (by decide) (by decide) (by decide)
 have e:mkQ false 1 1 = 1:=by unfold mkQ;simp;rfl
 rwa [e] at h
section
variable {a b c:ByteArray} {p q:Rat} (w:World)
theorem addT (ha:IsT a p) (hb:IsT b q) (hc:IsT c (p + q)) (hr:Res w) :
  Calls Tryz.prog 107 #[.string a,.string b] w fun e w'=>e = .returned (.tuple #[.string c,.int .i64 0])∧Below w.heap.size w w':=by
 refine (ratAdd_any a b w ha.size hb.size hr).mono ?_
 rintro e w' ⟨rfl,h⟩
 rw [two_T ha hb,out_T hc]
 exact ⟨rfl,h⟩
theorem subT (ha:IsT a p) (hb:IsT b q) (hc:IsT c (p + -q)) (hr:Res w) :
  Calls Tryz.prog 117 #[.string a,.string b] w fun e w'=>e = .returned (.tuple #[.string c,.int .i64 0])∧Below w.heap.size w w':=by
 refine (ratSub_any a b w ha.size hb.size hr).mono ?_
 rintro e w' ⟨rfl,h⟩
 rw [two_T ha hb,out_T hc]
 exact ⟨rfl,h⟩
theorem mulT (ha:IsT a p) (hb:IsT b q) (hc:IsT c (p * q)) (hr:Res w) :
  Calls Tryz.prog 130 #[.string a,.string b] w fun e w'=>e = .returned (.tuple #[.string c,.int .i64 0])∧Below w.heap.size w w':=by
 refine (ratMul_any a b w ha.size hb.size hr).mono ?_
 rintro e w' ⟨rfl,h⟩
 rw [two_T ha hb,out_T hc]
 exact ⟨rfl,h⟩
theorem divT (ha:IsT a p) (hb:IsT b q) (hc:IsT c (p * q⁻¹)) (h0:q≠0) (hr:Res w) :
  Calls Tryz.prog 133 #[.string a,.string b] w fun e w'=>e = .returned (.tuple #[.string c,.int .i64 0])∧Below w.heap.size w w':=by
 refine (ratDiv_any a b w ha.size hb.size hr).mono ?_
 rintro e w' ⟨rfl,h⟩
 rw [two_T ha hb,div_T hc h0]
 exact ⟨rfl,h⟩
theorem invT (ha:IsT a p) (hc:IsT c p⁻¹) (h0:p≠0) (hr:Res w) :
  Calls Tryz.prog 174 #[.string a] w fun e w'=>e = .returned (.tuple #[.string c,.int .i64 0])∧Below w.heap.size w w':=by
 refine (ratInv_any a w ha.size hr).mono ?_
 rintro e w' ⟨rfl,h⟩
 have e1:twoQ divQ [49] a.data.toList = divQ 1 p:=two_T IsT.one ha
 rw [e1,div_T (by rw [Rat.one_mul];exact hc) h0]
 exact ⟨rfl,h⟩
theorem inv_pow (q:Rat) (k:Nat):(q⁻¹) ^ k = (q ^ k)⁻¹:=by
 induction k with
 | zero=>rw [Rat.pow_zero,Rat.pow_zero];decide +kernel
 | succ k ih=>rw [Rat.pow_succ,Rat.pow_succ,ih,Rat.inv_mul_rev,Rat.mul_comm]
theorem checkT (ha:IsT a p) (hr:Res w) :
  Calls Tryz.prog 138 #[.string a] w fun e w'=>e = .returned (.int .i64 0)∧Below w.heap.size w w':=by
 refine (ratCheck_any a w ha.size hr).mono ?_
 rintro e w' ⟨rfl,h⟩
 rw [ha.err]
 exact ⟨rfl,h⟩
end
end Go.Proofs.YtigapglmipmbeaaGreatDoor
namespace Go.Proofs.YtigapglmipmbeaaGreatDoor
open Go.RowKit Go.Shelf
open Lim
namespace WI
theorem runs_both1:Runs 256:=runs_of Tryz.func256 (by kernel_rfl) (by kernel_rfl)
theorem runs_both2:Runs 257:=runs_of Tryz.func257 (by kernel_rfl) (by kernel_rfl)
theorem with_err (s:ByteArray) (fv:Value) (w:World) (hlen:s.size≤270000) (hr:Res w) (he:errQ s.data.toList≠0) :
  Calls Tryz.prog 241 #[.string s,fv] w fun e w'=>e = .returned (.tuple #[.int .i64 0,.int .i64 (errQ s.data.toList:Int)])∧Below w.heap.size w w':=by
 have HR:=Lib.hid hr
 have hne:((errQ s.data.toList:Int) == 0) = false:=by rw [beq_eq_false_iff_ne];omega
 have HE:=Lib.hid he
 have HP:=Lib.hid (fparse_any s w hlen hr)
 clear hr he
 go_enter Tryz.func241,Tryz.ntmps241
 go_wp2_with (go_at_call 217;refine HP.out.mono ?_;rintro e w1 ⟨v,rfl,-,hz,hb⟩;obtain rfl:=hz HE.out;have HB:=Lib.hid hb;clear hb hz)
 refine bodyPost_ret (results_tmp2 rfl _ _ _) rfl ?_
 exact ⟨rfl,below_alloc HB.out _⟩
theorem with_ok (F:FuncId) (hrun:Runs F) (caps:Array Value) (rv:Value) (k:Int) (s:ByteArray) (w:World) (hlen:s.size≤270000) (hr:Res w) (he:errQ s.data.toList = 0)
  (hF:∀ v w',Below w.heap.size w w'→Res w'→IsFrac w' v (valQ s.data.toList)→Calls Tryz.prog F (#[v] ++ caps) w' fun e w''=>e = .returned (.tuple #[rv,.int .i64 k])∧Below w'.heap.size w' w'') :
  Calls Tryz.prog 241 #[.string s,.func (.func F) #[] caps] w fun e w'=>e = .returned (.tuple #[rv,.int .i64 k])∧Below w.heap.size w w':=by
 have HR:=Lib.hid hr
 have hne:((errQ s.data.toList:Int) == 0) = true:=by rw [he];rfl
 have HE:=Lib.hid he
 have HP:=Lib.hid (fparse_any s w hlen hr)
 have HF:=Lib.hid hF
 have hrn:=hrun
 unfold Runs at hrn
 clear hr he hF hrun
 go_enter Tryz.func241,Tryz.ntmps241
 go_wp2_with (go_at_call 217;refine HP.out.mono ?_;rintro e w1 ⟨v,rfl,hv,-,hb⟩;obtain ⟨bq,N,D,A,c,A',c',rfl,hn,hd,HQ⟩:=isFrac_open (hv HE.out);have HV:=Lib.hid (hv HE.out);have HB:=Lib.hid hb;clear hb hv hn hd)
 have hx:=below_alloc HB.out (.cells #[.bool bq,.slice A (toL N).length c,.slice A' (toL D).length c'] 216)
 have hx1:Below w1.heap.size w1 (w1.alloc (.cells #[.bool bq,.slice A (toL N).length c,.slice A' (toL D).length c'] 216)):=below_alloc (Below.refl _ _) _
 have HX:=Lib.hid hx
 refine (HF.out _ _ HX.out (HR.out.below HX.out) (HV.out.below hx1)).mono ?_
 rintro e w2 ⟨rfl,hb2⟩
 have HB2:=Lib.hid (HX.out.trans (hb2.mono HX.out.size))
 clear hx hx1 hb2
 go_wp2
 refine bodyPost_ret (results_tmp2 rfl _ _ _) rfl ?_
 exact ⟨rfl,HB2.out⟩
theorem both2_ok (F:FuncId) (hrun:Runs F) (rv:Value) (k:Int) (pf px:Nat) (q q':Rat) (v v':Value) (w:World) (hpf:Boxed w pf 225 (.func (.func F) #[] #[]))
  (hv:IsFrac w v q) (hv':IsFrac w v' q') (vs:Array Value) (hvs:v = .agg vs) (hpx:Blk w px 216 vs) (_hr:Res w)
  (hF:∀ w',Below w.heap.size w w'→Calls Tryz.prog F #[v,v'] w' fun e w''=>e = .returned (.tuple #[rv,.int .i64 k])∧Below w'.heap.size w' w'') :
  Calls Tryz.prog 257 #[v',.pointer (some ⟨pf,0,none⟩),.pointer (some ⟨px,0,none⟩)] w fun e w'=>e = .returned (.tuple #[rv,.int .i64 k])∧Below w.heap.size w w':=by
 obtain ⟨bq,N,D,A,c,A',c',rfl,hn,hd,HQ⟩:=isFrac_open hv
 obtain ⟨bq',N',D',B,d,B',d',rfl,hn',hd',HQ'⟩:=isFrac_open hv'
 obtain rfl:#[.bool bq,.slice A (toL N).length c,.slice A' (toL D).length c'] = vs:=by injection hvs
 have hrn:=hrun
 unfold Runs at hrn
 have HF:=Lib.hid hF
 have HX:=Lib.hid (below_alloc (Below.refl w.heap.size w) (.cells #[.bool bq',.slice B (toL N').length d,.slice B' (toL D').length d'] 216))
 have cf:=(bx_below hpf HX.out hpf.lt).cell
 obtain ⟨x0,x1,x2⟩:=rows_of hpx HX.out hpx.lt
 clear hrun hF hn hd hn' hd' hv hv' hpf hvs hpx
 go_enter Tryz.func257,Tryz.ntmps257
 go_wp2
 refine (HF.out _ HX.out).mono ?_
 rintro e w2 ⟨rfl,hb2⟩
 have HB2:=Lib.hid (HX.out.trans (hb2.mono HX.out.size))
 clear hb2
 go_wp2
 refine bodyPost_ret (results_tmp2 rfl _ _ _) rfl ?_
 exact ⟨rfl,HB2.out⟩
section
variable (F:FuncId) (b:ByteArray) (pb pf:Nat) (q:Rat) (v:Value) (w:World)
theorem both1_err (hlen:b.size≤270000) (hpb:Boxed w pb 23 (.string b)) (hpf:Boxed w pf 225 (.func (.func F) #[] #[]))
  (hv:IsFrac w v q) (hr:Res w) (he:errQ b.data.toList≠0) :
  Calls Tryz.prog 256 #[v,.pointer (some ⟨pb,0,none⟩),.pointer (some ⟨pf,0,none⟩)] w fun e w'=>e = .returned (.tuple #[.int .i64 0,.int .i64 (errQ b.data.toList:Int)])∧Below w.heap.size w w':=by
 obtain ⟨bq,N,D,A,c,A',c',rfl,hn,hd,HQ⟩:=isFrac_open hv
 have HX:=Lib.hid (below_alloc (Below.refl w.heap.size w) (.cells #[.bool bq,.slice A (toL N).length c,.slice A' (toL D).length c'] 216))
 have cf:=(bx_below hpf HX.out hpf.lt).cell
 have cb:=(bx_below hpb HX.out hpb.lt).cell
 have HW:=Lib.hid (fun fv=>with_err b fv _ hlen (hr.below HX.out) he)
 clear hn hd hv hpf hpb hr he
 go_enter Tryz.func256,Tryz.ntmps256
 go_wp2_with (go_at_call 241;refine (HW.out _).mono ?_;rintro e w2 ⟨rfl,hb2⟩;have HB2:=Lib.hid (HX.out.trans (hb2.mono HX.out.size));clear hb2)
 refine bodyPost_ret (results_tmp2 rfl _ _ _) rfl ?_
 exact ⟨rfl,HB2.out⟩
theorem both1_ok (hrun:Runs F) (rv:Value) (k:Int) (hlen:b.size≤270000) (hpb:Boxed w pb 23 (.string b)) (hpf:Boxed w pf 225 (.func (.func F) #[] #[]))
  (hv:IsFrac w v q) (hr:Res w) (he:errQ b.data.toList = 0)
  (hF:∀ v' w',Below w.heap.size w w'→Res w'→IsFrac w' v q→IsFrac w' v' (valQ b.data.toList)→Calls Tryz.prog F #[v,v'] w' fun e w''=>e = .returned (.tuple #[rv,.int .i64 k])∧Below w'.heap.size w' w'') :
  Calls Tryz.prog 256 #[v,.pointer (some ⟨pb,0,none⟩),.pointer (some ⟨pf,0,none⟩)] w fun e w'=>e = .returned (.tuple #[rv,.int .i64 k])∧Below w.heap.size w w':=by
 obtain ⟨bq,N,D,A,c,A',c',rfl,hn,hd,HQ⟩:=isFrac_open hv
 have HX:=Lib.hid (below_alloc (Below.refl w.heap.size w) (.cells #[.bool bq,.slice A (toL N).length c,.slice A' (toL D).length c'] 216))
 have cf:=(bx_below hpf HX.out hpf.lt).cell
 have cb:=(bx_below hpb HX.out hpb.lt).cell
 have HW:=Lib.hid (with_ok 257 runs_both2 #[.pointer (some ⟨pf,0,none⟩),.pointer (some ⟨w.heap.size,0,none⟩)] rv k b (w.alloc (.cells #[.bool bq,.slice A (toL N).length c,.slice A' (toL D).length c'] 216)) hlen (hr.below HX.out) he (fun v' w' hb' hr' hv'=>by
  have hB:Below w.heap.size w w':=HX.out.trans (hb'.mono HX.out.size)
  exact both2_ok F hrun rv k pf w.heap.size q _ _ v' w' (bx_below hpf hB hpf.lt) (hv.below hB) hv' _ rfl ((Blk.new w _ _).below hb' (by simp)) hr' (fun w2 hb2=>hF v' w2 (hB.trans (hb2.mono hB.size)) (hr'.below hb2) ((hv.below hB).below hb2) (hv'.below hb2))))
 clear hn hd hv hpf hpb hr he hF hrun
 go_enter Tryz.func256,Tryz.ntmps256
 go_wp2_with (go_at_call 241;refine HW.out.mono ?_;rintro e w2 ⟨rfl,hb2⟩;have HB2:=Lib.hid (HX.out.trans (hb2.mono HX.out.size));clear hb2)
 refine bodyPost_ret (results_tmp2 rfl _ _ _) rfl ?_
 exact ⟨rfl,HB2.out⟩
end
theorem box_both (w:World) (b:ByteArray) (fv:Value):Boxed ((w.alloc (.cells #[.string b] 23)).alloc (.cells #[fv] 225)) w.heap.size 23 (.string b) ∧
  Boxed ((w.alloc (.cells #[.string b] 23)).alloc (.cells #[fv] 225)) (w.heap.size + 1) 225 fv∧Below w.heap.size w ((w.alloc (.cells #[.string b] 23)).alloc (.cells #[fv] 225)):=by
 refine ⟨(Boxed.new w _ _).alloc _,?_,below_alloc (below_alloc (Below.refl _ _) _) _⟩
 have:=Boxed.new (w.alloc (.cells #[.string b] 23)) 225 fv
 rwa [World.size_alloc] at this
theorem both_any (F:FuncId) (hrun:Runs F) (f:Rat→Rat→Value × Int) (a b:ByteArray) (w:World) (ha:a.size≤270000) (hb:b.size≤270000) (hr:Res w)
  (hF:∀ v v' w',Below w.heap.size w w'→Res w'→IsFrac w' v (valQ a.data.toList)→IsFrac w' v' (valQ b.data.toList)→errQ a.data.toList = 0→errQ b.data.toList = 0→Calls Tryz.prog F #[v,v'] w' fun e w''=>e = .returned (.tuple #[(f (valQ a.data.toList) (valQ b.data.toList)).1,.int .i64 (f (valQ a.data.toList) (valQ b.data.toList)).2])∧Below w'.heap.size w' w'') :
  Calls Tryz.prog 196 #[.string a,.string b,.func (.func F) #[] #[]] w fun e w' =>
   e = .returned (if errQ a.data.toList≠0 then .tuple #[.int .i64 0,.int .i64 (errQ a.data.toList:Int)] else if errQ b.data.toList≠0 then .tuple #[.int .i64 0,.int .i64 (errQ b.data.toList:Int)] else .tuple #[(f (valQ a.data.toList) (valQ b.data.toList)).1,.int .i64 (f (valQ a.data.toList) (valQ b.data.toList)).2])∧Below w.heap.size w w':=by
 obtain ⟨b4,b5,hB⟩:=box_both w b (.func (.func F) #[] #[])
 by_cases h1:errQ a.data.toList≠0
 ·rw [if_pos h1]
  have HW:=Lib.hid (fun fv=>with_err a fv _ ha (hr.below hB) h1)
  have HB:=Lib.hid hB
  clear b4 b5 hB hrun hF hr h1
  go_enter Tryz.func196,Tryz.ntmps196
  go_wp2_with (go_at_call 241;refine (HW.out _).mono ?_;rintro e w2 ⟨rfl,hb2⟩;have HB2:=Lib.hid (HB.out.trans (hb2.mono HB.out.size));clear hb2)
  refine bodyPost_ret (results_tmp2 rfl _ _ _) rfl ?_
  exact ⟨rfl,HB2.out⟩
 ·rw [if_neg h1]
  have h1:errQ a.data.toList = 0:=by omega
  by_cases h2:errQ b.data.toList≠0
  ·rw [if_pos h2]
   have HW:=Lib.hid (with_ok 256 runs_both1 #[.pointer (some ⟨w.heap.size,0,none⟩),.pointer (some ⟨w.heap.size + 1,0,none⟩)] (.int .i64 0) (errQ b.data.toList:Int) a _ ha (hr.below hB) h1 (fun v w' hb' hr' hv =>
    both1_err F b w.heap.size (w.heap.size + 1) _ v w' hb (bx_below b4 hb' b4.lt) (bx_below b5 hb' b5.lt) hv hr' h2))
   have HB:=Lib.hid hB
   clear b4 b5 hB hrun hF hr h1 h2
   go_enter Tryz.func196,Tryz.ntmps196
   go_wp2_with (go_at_call 241;refine HW.out.mono ?_;rintro e w2 ⟨rfl,hb2⟩;have HB2:=Lib.hid (HB.out.trans (hb2.mono HB.out.size));clear hb2)
   refine bodyPost_ret (results_tmp2 rfl _ _ _) rfl ?_
   exact ⟨rfl,HB2.out⟩
  ·rw [if_neg h2]
   have h2:errQ b.data.toList = 0:=by omega
   generalize hR:f (valQ a.data.toList) (valQ b.data.toList) = R at *
   obtain ⟨rv,k⟩:=R
   dsimp only at hF ⊢
   have HW:=Lib.hid (with_ok 256 runs_both1 #[.pointer (some ⟨w.heap.size,0,none⟩),.pointer (some ⟨w.heap.size + 1,0,none⟩)] rv k a _ ha (hr.below hB) h1 (fun v w' hb' hr' hv =>
    both1_ok F b w.heap.size (w.heap.size + 1) _ v w' hrun rv k hb (bx_below b4 hb' b4.lt) (bx_below b5 hb' b5.lt) hv hr' h2 (fun v' w2 hb2 hr2 hv2 hv2'=>hF v v' w2 (hB.trans ((hb'.mono hB.size).trans (hb2.mono (Nat.le_trans hB.size hb'.size)))) hr2 hv2 hv2' h1 h2)))
   have HB:=Lib.hid hB
   clear b4 b5 hB hrun hF hr h1 h2 hR
   go_enter Tryz.func196,Tryz.ntmps196
   go_wp2_with (go_at_call 241;refine HW.out.mono ?_;rintro e w2 ⟨rfl,hb2⟩;have HB2:=Lib.hid (HB.out.trans (hb2.mono HB.out.size));clear hb2)
   refine bodyPost_ret (results_tmp2 rfl _ _ _) rfl ?_
   exact ⟨rfl,HB2.out⟩
end WI
end Go.Proofs.YtigapglmipmbeaaGreatDoor
namespace Go.Proofs.YtigapglmipmbeaaGreatDoor
open Lim
def cmpQ (p q:Rat):Int:=if p < q then -1 else if p = q then 0 else 1
theorem cmpQ_le (p q:Rat):cmpQ p q≤0↔p≤q:=by
 unfold cmpQ
 by_cases h:p < q
 ·rw [if_pos h];exact ⟨fun _=>Rat.le_of_lt h,fun _=>by omega⟩
 ·rw [if_neg h]
  by_cases h2:p = q
  ·rw [if_pos h2];subst h2;exact ⟨fun _=>Rat.le_refl,fun _=>by omega⟩
  ·rw [if_neg h2];exact ⟨fun h=>absurd h (by omega),fun h3=>absurd (Rat.lt_of_le_of_ne h3 h2) h⟩
theorem cmpQ_lt (p q:Rat):cmpQ p q < 0↔p < q:=by
 unfold cmpQ
 by_cases h:p < q
 ·rw [if_pos h];exact ⟨fun _=>h,fun _=>by omega⟩
 ·rw [if_neg h];split <;> exact ⟨fun h=>absurd h (by omega),fun h3=>absurd h3 h⟩
theorem cmpQ_swap (p q:Rat):cmpQ q p = - cmpQ p q:=by
 unfold cmpQ
 by_cases h:p < q
 ·rw [if_pos h,if_neg (fun h2=>Rat.not_le.2 h (Rat.le_of_lt h2)),if_neg (fun e=>by subst e;exact Rat.lt_irrefl h)];rfl
 ·by_cases h2:p = q
  ·subst h2;rw [if_neg h,if_pos rfl];rfl
  ·have h3:q < p:=by
    have:=Rat.not_lt.1 h
    exact Rat.lt_of_le_of_ne this (fun e=>h2 e.symm)
   rw [if_pos h3,if_neg h,if_neg h2]
theorem cmpQ_cases (p q:Rat):cmpQ p q = -1 ∨ cmpQ p q = 0 ∨ cmpQ p q = 1:=by
 unfold cmpQ
 split
 ·exact .inl rfl
 ·split
  ·exact .inr (.inl rfl)
  ·exact .inr (.inr rfl)
theorem cmpQ_cross (p q:Rat):cmpQ p q = if p.num * q.den < q.num * p.den then -1 else if q.num * p.den < p.num * q.den then 1 else 0:=by
 unfold cmpQ
 by_cases h:p < q
 ·rw [if_pos h,if_pos ((Rat.lt_iff p q).1 h)]
 ·rw [if_neg h,if_neg (fun h2=>h ((Rat.lt_iff p q).2 h2))]
  by_cases h2:p = q
  ·subst h2;rw [if_pos rfl,if_neg (Int.lt_irrefl _)]
  ·rw [if_neg h2,if_pos ((Rat.lt_iff q p).1 (Rat.lt_of_le_of_ne (Rat.not_lt.1 h) (fun e=>h2 e.symm)))]
theorem sgQ_num (q:Rat):sgQ q = if q.num < 0 then -1 else if q.num = 0 then 0 else 1:=by
 unfold sgQ nm ng
 by_cases h:q.num = 0
 ·simp [h]
 ·have h1:q.num.natAbs≠0:=by omega
  rw [if_neg h1,if_neg h]
  by_cases h2:q.num < 0
  ·simp [h2]
  ·simp [h2]
theorem cross_sign (p:Rat) {d:Nat} (hd:0 < d):(p.num < 0↔p.num * (d:Int) < 0)∧(p.num = 0↔p.num * (d:Int) = 0)∧(0 < p.num↔0 < p.num * (d:Int)):=by
 have hd':(0:Int) < (d:Int):=by omega
 rcases Int.lt_trichotomy p.num 0 with h | h | h
 ·have:=Int.mul_neg_of_neg_of_pos h hd'
  omega
 ·rw [h,Int.zero_mul];omega
 ·have:=Int.mul_pos h hd'
  omega
theorem cmp_signs {p q:Rat} (h:sgQ p≠sgQ q):max (-1) (min 1 (sgQ p - sgQ q)) = cmpQ p q:=by
 rw [cmpQ_cross]
 rw [sgQ_num,sgQ_num] at *
 obtain ⟨a1,a2,a3⟩:=cross_sign p (den_pos q)
 obtain ⟨b1,b2,b3⟩:=cross_sign q (den_pos p)
 generalize p.num * (q.den:Int) = X at *
 generalize q.num * (p.den:Int) = Y at *
 split at h <;> split at h <;> (try split at h) <;> (try split at h) <;> (try split) <;> (try split) <;> omega
theorem cmp_pos {p q:Rat} (h:sgQ p = sgQ q) (hn:ng p = false):sgn (nm p * q.den) (nm q * p.den) = cmpQ p q:=by
 have hq:ng q = false:=by
  rw [sgQ_num,sgQ_num] at h
  unfold ng at *
  have:=of_decide_eq_false hn
  apply decide_eq_false
  intro hq
  rw [if_neg this,if_pos hq] at h
  split at h <;> cases h
 rw [cmpQ_cross,num_of p,num_of q,hn,hq]
 simp only [Bool.false_eq_true,if_false]
 unfold sgn
 rw [← Int.natCast_mul,← Int.natCast_mul]
 generalize nm p * q.den = X
 generalize nm q * p.den = Y
 by_cases h1:X < Y
 ·rw [if_pos h1,if_pos (by omega)]
 ·rw [if_neg h1,if_neg (show ¬ ((X:Int) < (Y:Int)) by omega)]
  by_cases h2:Y < X
  ·rw [if_pos h2,if_pos (by omega)]
  ·rw [if_neg h2,if_neg (by omega)]
theorem cmp_neg {p q:Rat} (h:sgQ p = sgQ q) (hn:ng p = true):-sgn (nm p * q.den) (nm q * p.den) = cmpQ p q:=by
 have hq:ng q = true:=by
  rw [sgQ_num,sgQ_num] at h
  unfold ng at *
  have:=of_decide_eq_true hn
  apply decide_eq_true
  rw [if_pos this] at h
  split at h
  ·assumption
  ·split at h <;> cases h
 rw [cmpQ_cross,num_of p,num_of q,hn,hq]
 simp only [if_true]
 unfold sgn
 rw [Int.neg_mul,Int.neg_mul,← Int.natCast_mul,← Int.natCast_mul]
 generalize nm p * q.den = X
 generalize nm q * p.den = Y
 by_cases h1:X < Y
 ·rw [if_pos h1,if_neg (by omega),if_pos (by omega)];rfl
 ·rw [if_neg h1]
  by_cases h2:Y < X
  ·rw [if_pos h2,if_pos (by omega)]
  ·rw [if_neg h2,if_neg (by omega),if_neg (by omega)];rfl
end Go.Proofs.YtigapglmipmbeaaGreatDoor
namespace Go.Proofs.YtigapglmipmbeaaGreatDoor
open Go.RowKit Go.Shelf
open Lim
attribute [local go_sem] Oper.semAt_some
theorem box2_blk (w:World) (m vn vd m' vn' vd':Value):Blk ((w.alloc (.cells #[m,vn,vd] 216)).alloc (.cells #[m',vn',vd'] 216)) w.heap.size 216 #[m,vn,vd] ∧
  Blk ((w.alloc (.cells #[m,vn,vd] 216)).alloc (.cells #[m',vn',vd'] 216)) (w.heap.size + 1) 216 #[m',vn',vd'] ∧
  Below w.heap.size w ((w.alloc (.cells #[m,vn,vd] 216)).alloc (.cells #[m',vn',vd'] 216))∧((w.alloc (.cells #[m,vn,vd] 216)).alloc (.cells #[m',vn',vd'] 216)).heap.size = w.heap.size + 2:=by
 refine ⟨(Blk.new w _ _).alloc _,?_,((Below.refl _ _).alloc (Nat.le_refl _) _).alloc (by simp) _,by simp⟩
 have:=Blk.new (w.alloc (.cells #[m,vn,vd] 216)) 216 #[m',vn',vd']
 rwa [World.size_alloc] at this
theorem sgQ_bound (q:Rat):-1≤sgQ q∧sgQ q≤1:=by
 unfold sgQ
 split
 ·omega
 ·split <;> omega
theorem sgn_bound (x y:Nat):-1≤sgn x y∧sgn x y≤1:=by
 unfold sgn
 split
 ·omega
 ·split <;> omega
theorem clamp_id {c:Int} (h:-1≤c∧c≤1):max (-1) (min 1 c) = c:=by omega
theorem fcmp_ne (p q:Rat) (v v':Value) (w:World) (h:IsFrac w v p) (h':IsFrac w v' q) (l1:(toL (nm p)).length≤10000) (_l2:(toL p.den).length≤10000) (_l3:(toL (nm q)).length≤10000) (l4:(toL q.den).length≤10000) (hne:sgQ p≠sgQ q) :
  Calls Tryz.prog 198 #[v,v'] w fun e w'=>∃ c:Int,e = .returned (.int .i64 c)∧max (-1) (min 1 c) = cmpQ p q∧Below w.heap.size w w':=by
 have HV:=Lib.hid h
 have HV':=Lib.hid h'
 have HE:=Lib.hid (cmp_signs hne)
 have hxy:(sgQ p == sgQ q) = false:=by rw [beq_eq_false_iff_ne];exact hne
 obtain ⟨bx1,bx2⟩:=sgQ_bound p
 obtain ⟨by1,by2⟩:=sgQ_bound q
 clear hne
 obtain ⟨b,N,D,An,cn,Ad,cd,rfl,hn,hd,HP⟩:=isFrac_open h
 obtain ⟨b',N',D',An',cn',Ad',cd',rfl,hn',hd',HQ⟩:=isFrac_open h'
 obtain ⟨e1,e2,e3⟩:=HP.out
 obtain ⟨f1,f2,f3⟩:=HQ.out
 rw [e2] at l1
 rw [f3] at l4
 have HN:=Lib.hid hn
 have HD:=Lib.hid hd
 have HN':=Lib.hid hn'
 have HD':=Lib.hid hd'
 have HI:=Lib.hid (And.intro (rfl:sgQ p = sgQ p) (rfl:sgQ q = sgQ q))
 clear hn hd hn' hd' h h' e1 e2 e3 f1 f2 f3
 have lx:=Nat.le_trans (toL_mul_len N D') (show _≤20000 by omega)
 generalize hgx:sgQ p = x at hxy bx1 bx2 HE
 generalize hgy:sgQ q = y at hxy by1 by2 HE
 have HGX:=Lib.hid hgx
 have HGY:=Lib.hid hgy
 clear hgx hgy HI
 refine (callsIn_wide (n:=3)).1 ?_
 have h1:1≤3:=by omega
 have hmx:Tryz.prog.follows .mixedOrders = true:=by kernel_rfl
 refine callsIn_of_wp Tryz.func198 rfl trivial ?_ rfl
 simp only [Tryz.ntmps198,List.size_toArray,List.length_cons,List.length_nil,Nat.reduceAdd,Nat.reduceSub,Array.replicate_succ,Array.replicate_zero,List.push_toArray,List.append_toArray,List.nil_append,List.cons_append]
 gi_upto_region 1 with fail
 obtain ⟨b0,b1,hB,hs⟩:=box2_blk w (.bool b) (.slice An (toL N).length cn) (.slice Ad (toL D).length cd) (.bool b') (.slice An' (toL N').length cn') (.slice Ad' (toL D').length cd')
 generalize (w.alloc (.cells #[.bool b,.slice An (toL N).length cn,.slice Ad (toL D).length cd] 216)).alloc (.cells #[.bool b',.slice An' (toL N').length cn',.slice Ad' (toL D').length cd'] 216) = W at *
 obtain ⟨x0,x1,x2⟩:=same_cells (S:=fun k=>k < W.heap.size) b0 (by omega)
 obtain ⟨y0,y1,y2⟩:=same_cells (S:=fun k=>k < W.heap.size) b1 (by omega)
 have HB:=Lib.hid (below_drew hB)
 have HS:=Lib.hid hs
 have P0:=Lib.hid b0
 have P1:=Lib.hid b1
 clear b0 b1 hB hs
 refine wpIn_stage (IsSame W (fun k=>k < W.heap.size)) [0,2] [] hmx (by kernel_rfl) (isSame_of fun _ _=>rfl) ?_
 change wpStage _ _ _ _ _ _ _ _ (4 + 2) _ _ _
 refine stage_reads [0,2] 4 _ _ (by kernel_rfl) ?_
 change wpQuietIn _ _ _ _ (fun W'=>∃ x:SameAt W (fun k=>k < W.heap.size),W' = x.W) _ _ _
 simp only [pick_cons,pick_nil,List.getElem?_cons_zero,List.getElem?_cons_succ,Option.elim_some]
 repeat (gi_big_quiet_step (fail))
 refine wpQuietIn_nil ?_
 refine stage_one 1 (by kernel_rfl) rfl ?_
 gi_wp2
 refine ⟨trivial,?_⟩
 refine (callsIn_wide.2 (sign_any p _ W.drew (HV.out.below HB.out))).mono ?_
 rintro e w3 ⟨rfl,hb3⟩
 rw [HGX.out]
 have hB3:Below W.heap.size W w3:=below_undrew hb3
 have HB3:=Lib.hid hB3
 clear hb3 hB3
 gi_wp2
 refine stage_post (isSame_below HB3.out (fun k hk=>hk)) ?_
 refine stage_one 3 (by kernel_rfl) rfl ?_
 gi_wp2
 refine ⟨trivial,?_⟩
 refine (callsIn_wide.2 (sign_any q _ w3 (HV'.out.below (HB.out.trans ((below_drew3 HB3.out).mono HB.out.size))))).mono ?_
 rintro e w4 ⟨rfl,hb4⟩
 rw [HGY.out]
 have hB4:Below W.heap.size W w4:=HB3.out.trans (hb4.mono HB3.out.size)
 have HB4:=Lib.hid hB4
 clear hb4 hB4
 gi_wp2
 refine stage_post (isSame_below HB4.out (fun k hk=>hk)) ?_
 refine stage_one 4 (by kernel_rfl) rfl ?_
 gi_wp2
 refine stage_post (isSame_below HB4.out (fun k hk=>hk)) ?_
 refine stage_one 5 (by kernel_rfl) rfl ?_
 gi_wp2
 refine stage_post (isSame_below HB4.out (fun k hk=>hk)) ?_
 refine stage_done (by kernel_rfl) ?_
 clear x0 x1 x2 y0 y1 y2
 have hsz:=HS.out
 obtain ⟨x0,x1,x2⟩:=rows3 (P0.out.below HB4.out (by omega))
 obtain ⟨y0,y1,y2⟩:=rows3 (P1.out.below HB4.out (by omega))
 clear hsz
 gi_wp2
 refine bodyPost_ret (results_tmp rfl _ _ _) rfl ?_
 exact ⟨_,rfl,HE.out,HB.out.trans ((below_drew3 HB4.out).mono HB.out.size)⟩
theorem fcmp_pos (p q:Rat) (v v':Value) (w:World) (h:IsFrac w v p) (h':IsFrac w v' q) (l1:(toL (nm p)).length≤10000) (l2:(toL p.den).length≤10000) (l3:(toL (nm q)).length≤10000) (l4:(toL q.den).length≤10000) (heq:sgQ p = sgQ q) (hm:ng p = false) :
  Calls Tryz.prog 198 #[v,v'] w fun e w'=>∃ c:Int,e = .returned (.int .i64 c)∧max (-1) (min 1 c) = cmpQ p q∧Below w.heap.size w w':=by
 have HV:=Lib.hid h
 have HV':=Lib.hid h'
 have HE:=Lib.hid (cmp_pos heq hm)
 have hxy:(sgQ p == sgQ q) = true:=by rw [beq_iff_eq];exact heq
 clear heq
 obtain ⟨b,N,D,An,cn,Ad,cd,rfl,hn,hd,HP⟩:=isFrac_open h
 obtain ⟨b',N',D',An',cn',Ad',cd',rfl,hn',hd',HQ⟩:=isFrac_open h'
 obtain ⟨e1,e2,e3⟩:=HP.out
 obtain ⟨f1,f2,f3⟩:=HQ.out
 rw [e2] at l1
 rw [e3] at l2
 rw [f2] at l3
 rw [f3] at l4
 have HN:=Lib.hid hn
 have HD:=Lib.hid hd
 have HN':=Lib.hid hn'
 have HD':=Lib.hid hd'
 obtain rfl:b = false:=e1.symm.trans hm
 have hz:=sgn_bound (N * D') (N' * D)
 rw [e2,e3,f2,f3] at HE
 clear hm
 clear hn hd hn' hd' h h' e1 e2 e3 f1 f2 f3
 have lx:=Nat.le_trans (toL_mul_len N D') (show _≤20000 by omega)
 generalize hgx:sgQ p = x at hxy
 generalize hgy:sgQ q = y at hxy
 have HGX:=Lib.hid hgx
 have HGY:=Lib.hid hgy
 clear hgx hgy
 refine (callsIn_wide (n:=3)).1 ?_
 have h1:1≤3:=by omega
 have hmx:Tryz.prog.follows .mixedOrders = true:=by kernel_rfl
 refine callsIn_of_wp Tryz.func198 rfl trivial ?_ rfl
 simp only [Tryz.ntmps198,List.size_toArray,List.length_cons,List.length_nil,Nat.reduceAdd,Nat.reduceSub,Array.replicate_succ,Array.replicate_zero,List.push_toArray,List.append_toArray,List.nil_append,List.cons_append]
 gi_upto_region 1 with fail
 obtain ⟨b0,b1,hB,hs⟩:=box2_blk w (.bool false) (.slice An (toL N).length cn) (.slice Ad (toL D).length cd) (.bool b') (.slice An' (toL N').length cn') (.slice Ad' (toL D').length cd')
 generalize (w.alloc (.cells #[.bool false,.slice An (toL N).length cn,.slice Ad (toL D).length cd] 216)).alloc (.cells #[.bool b',.slice An' (toL N').length cn',.slice Ad' (toL D').length cd'] 216) = W at *
 obtain ⟨x0,x1,x2⟩:=same_cells (S:=fun k=>k < W.heap.size) b0 (by omega)
 obtain ⟨y0,y1,y2⟩:=same_cells (S:=fun k=>k < W.heap.size) b1 (by omega)
 have HB:=Lib.hid (below_drew hB)
 have HS:=Lib.hid hs
 have P0:=Lib.hid b0
 have P1:=Lib.hid b1
 clear b0 b1 hB hs
 refine wpIn_stage (IsSame W (fun k=>k < W.heap.size)) [0,2] [] hmx (by kernel_rfl) (isSame_of fun _ _=>rfl) ?_
 change wpStage _ _ _ _ _ _ _ _ (4 + 2) _ _ _
 refine stage_reads [0,2] 4 _ _ (by kernel_rfl) ?_
 change wpQuietIn _ _ _ _ (fun W'=>∃ x:SameAt W (fun k=>k < W.heap.size),W' = x.W) _ _ _
 simp only [pick_cons,pick_nil,List.getElem?_cons_zero,List.getElem?_cons_succ,Option.elim_some]
 repeat (gi_big_quiet_step (fail))
 refine wpQuietIn_nil ?_
 refine stage_one 1 (by kernel_rfl) rfl ?_
 gi_wp2
 refine ⟨trivial,?_⟩
 refine (callsIn_wide.2 (sign_any p _ W.drew (HV.out.below HB.out))).mono ?_
 rintro e w3 ⟨rfl,hb3⟩
 rw [HGX.out]
 have hB3:Below W.heap.size W w3:=below_undrew hb3
 have HB3:=Lib.hid hB3
 clear hb3 hB3
 gi_wp2
 refine stage_post (isSame_below HB3.out (fun k hk=>hk)) ?_
 refine stage_one 3 (by kernel_rfl) rfl ?_
 gi_wp2
 refine ⟨trivial,?_⟩
 refine (callsIn_wide.2 (sign_any q _ w3 (HV'.out.below (HB.out.trans ((below_drew3 HB3.out).mono HB.out.size))))).mono ?_
 rintro e w4 ⟨rfl,hb4⟩
 rw [HGY.out]
 have hB4:Below W.heap.size W w4:=HB3.out.trans (hb4.mono HB3.out.size)
 have HB4:=Lib.hid hB4
 clear hb4 hB4
 gi_wp2
 refine stage_post (isSame_below HB4.out (fun k hk=>hk)) ?_
 refine stage_one 4 (by kernel_rfl) rfl ?_
 gi_wp2
 refine stage_post (isSame_below HB4.out (fun k hk=>hk)) ?_
 refine stage_one 5 (by kernel_rfl) rfl ?_
 gi_wp2
 refine stage_post (isSame_below HB4.out (fun k hk=>hk)) ?_
 refine stage_done (by kernel_rfl) ?_
 clear x0 x1 x2 y0 y1 y2
 have hsz:=HS.out
 obtain ⟨x0,x1,x2⟩:=rows3 (P0.out.below HB4.out (by omega))
 obtain ⟨y0,y1,y2⟩:=rows3 (P1.out.below HB4.out (by omega))
 clear hsz
 have Q0:=Lib.hid (P0.out.below HB4.out (by have:=HS.out;omega))
 have Q1:=Lib.hid (P1.out.below HB4.out (by have:=HS.out;omega))
 have h42:=HB4.out.size
 gi_upto_region 4 with fail
 clear x0 x1 x2 y0 y1 y2
 have hsz:=HS.out
 obtain ⟨x0,x1,x2⟩:=same_cells (S:=fun k=>k < w4.heap.size) Q0.out (by omega)
 obtain ⟨y0,y1,y2⟩:=same_cells (S:=fun k=>k < w4.heap.size) Q1.out (by omega)
 clear hsz
 have HB40:=Lib.hid (below_drew (HB.out.trans ((below_drew3 HB4.out).mono HB.out.size)))
 refine wpIn_stage (IsSame w4 (fun k=>k < w4.heap.size)) [0,1,2,3,5,6,7,8] [] hmx (by kernel_rfl) (isSame_of fun _ _=>rfl) ?_
 change wpStage _ _ _ _ _ _ _ _ (4 + 8) _ _ _
 refine stage_reads [0,1,2,3,5,6,7,8] 4 _ _ (by kernel_rfl) ?_
 change wpQuietIn _ _ _ _ (fun W'=>∃ x:SameAt w4 (fun k=>k < w4.heap.size),W' = x.W) _ _ _
 simp only [pick_cons,pick_nil,List.getElem?_cons_zero,List.getElem?_cons_succ,Option.elim_some]
 repeat (gi_big_quiet_step (fail))
 refine wpQuietIn_nil ?_
 refine stage_one 4 (by kernel_rfl) rfl ?_
 gi_wp2
 refine ⟨trivial,?_⟩
 refine (callsIn_wide.2 (mul_any N D' _ _ w4.drew (HN.out.below HB40.out) (HD'.out.below HB40.out) (by omega) (by omega))).mono ?_
 rintro e w5 ⟨v5,rfl,hv5,hb5⟩
 obtain ⟨A5,c5,rfl,_,_,_⟩:=id hv5
 have HV5:=Lib.hid hv5
 have hB5:Below w4.heap.size w4 w5:=below_undrew hb5
 have HB5:=Lib.hid hB5
 clear hv5 hb5 hB5
 gi_wp2
 refine stage_post (isSame_below HB5.out (fun k hk=>hk)) ?_
 refine stage_one 9 (by kernel_rfl) rfl ?_
 gi_wp2
 have HB50:=Lib.hid (HB40.out.trans ((below_drew3 HB5.out).mono HB40.out.size))
 refine ⟨trivial,?_⟩
 refine (callsIn_wide.2 (mul_any N' D _ _ w5 (HN'.out.below HB50.out) (HD.out.below HB50.out) (by omega) (by omega))).mono ?_
 rintro e w6 ⟨v6,rfl,hv6,hb6⟩
 obtain ⟨A6,c6,rfl,_,_,_⟩:=id hv6
 have HV6:=Lib.hid hv6
 have HV5:=Lib.hid (HV5.out.below hb6)
 have hB6:Below w4.heap.size w4 w6:=HB5.out.trans (hb6.mono HB5.out.size)
 have HB6:=Lib.hid hB6
 clear hv6 hb6 hB6
 gi_wp2
 refine stage_post (isSame_below HB6.out (fun k hk=>hk)) ?_
 refine stage_one 10 (by kernel_rfl) rfl ?_
 gi_wp2
 refine ⟨trivial,?_⟩
 refine (callsIn_wide.2 (cmp_any (N * D') (N' * D) _ _ w6 HV5.out HV6.out (by omega))).mono ?_
 rintro e w7 ⟨rfl,hb7⟩
 generalize hgz:sgn (N * D') (N' * D) = z at hz HE ⊢
 obtain ⟨hz1,hz2⟩:=hz
 clear hgz
 have hB7:Below w4.heap.size w4 w7:=HB6.out.trans (hb7.mono HB6.out.size)
 have HB7:=Lib.hid hB7
 clear hb7 hB7
 gi_wp2
 refine stage_post (isSame_below HB7.out (fun k hk=>hk)) ?_
 refine stage_one 11 (by kernel_rfl) rfl ?_
 gi_wp2
 refine stage_post (isSame_below HB7.out (fun k hk=>hk)) ?_
 refine stage_done (by kernel_rfl) ?_
 clear x0 x1 x2 y0 y1 y2
 obtain ⟨x0,x1,x2⟩:=rows3 (Q0.out.below HB7.out (by have:=HS.out;omega))
 gi_wp2
 refine bodyPost_ret (results_tmp rfl _ _ _) rfl ?_
 exact ⟨_,rfl,by rw [clamp_id (by omega)];exact HE.out,HB.out.trans ((below_drew3 (HB4.out.trans (HB7.out.mono h42))).mono HB.out.size)⟩
theorem fcmp_neg (p q:Rat) (v v':Value) (w:World) (h:IsFrac w v p) (h':IsFrac w v' q) (l1:(toL (nm p)).length≤10000) (l2:(toL p.den).length≤10000) (l3:(toL (nm q)).length≤10000) (l4:(toL q.den).length≤10000) (heq:sgQ p = sgQ q) (hm:ng p = true) :
  Calls Tryz.prog 198 #[v,v'] w fun e w'=>∃ c:Int,e = .returned (.int .i64 c)∧max (-1) (min 1 c) = cmpQ p q∧Below w.heap.size w w':=by
 have HV:=Lib.hid h
 have HV':=Lib.hid h'
 have HE:=Lib.hid (cmp_neg heq hm)
 have hxy:(sgQ p == sgQ q) = true:=by rw [beq_iff_eq];exact heq
 clear heq
 obtain ⟨b,N,D,An,cn,Ad,cd,rfl,hn,hd,HP⟩:=isFrac_open h
 obtain ⟨b',N',D',An',cn',Ad',cd',rfl,hn',hd',HQ⟩:=isFrac_open h'
 obtain ⟨e1,e2,e3⟩:=HP.out
 obtain ⟨f1,f2,f3⟩:=HQ.out
 rw [e2] at l1
 rw [e3] at l2
 rw [f2] at l3
 rw [f3] at l4
 have HN:=Lib.hid hn
 have HD:=Lib.hid hd
 have HN':=Lib.hid hn'
 have HD':=Lib.hid hd'
 obtain rfl:b = true:=e1.symm.trans hm
 have hz:=sgn_bound (N * D') (N' * D)
 rw [e2,e3,f2,f3] at HE
 clear hm
 clear hn hd hn' hd' h h' e1 e2 e3 f1 f2 f3
 have lx:=Nat.le_trans (toL_mul_len N D') (show _≤20000 by omega)
 generalize hgx:sgQ p = x at hxy
 generalize hgy:sgQ q = y at hxy
 have HGX:=Lib.hid hgx
 have HGY:=Lib.hid hgy
 clear hgx hgy
 refine (callsIn_wide (n:=3)).1 ?_
 have h1:1≤3:=by omega
 have hmx:Tryz.prog.follows .mixedOrders = true:=by kernel_rfl
 refine callsIn_of_wp Tryz.func198 rfl trivial ?_ rfl
 simp only [Tryz.ntmps198,List.size_toArray,List.length_cons,List.length_nil,Nat.reduceAdd,Nat.reduceSub,Array.replicate_succ,Array.replicate_zero,List.push_toArray,List.append_toArray,List.nil_append,List.cons_append]
 gi_upto_region 1 with fail
 obtain ⟨b0,b1,hB,hs⟩:=box2_blk w (.bool true) (.slice An (toL N).length cn) (.slice Ad (toL D).length cd) (.bool b') (.slice An' (toL N').length cn') (.slice Ad' (toL D').length cd')
 generalize (w.alloc (.cells #[.bool true,.slice An (toL N).length cn,.slice Ad (toL D).length cd] 216)).alloc (.cells #[.bool b',.slice An' (toL N').length cn',.slice Ad' (toL D').length cd'] 216) = W at *
 obtain ⟨x0,x1,x2⟩:=same_cells (S:=fun k=>k < W.heap.size) b0 (by omega)
 obtain ⟨y0,y1,y2⟩:=same_cells (S:=fun k=>k < W.heap.size) b1 (by omega)
 have HB:=Lib.hid (below_drew hB)
 have HS:=Lib.hid hs
 have P0:=Lib.hid b0
 have P1:=Lib.hid b1
 clear b0 b1 hB hs
 refine wpIn_stage (IsSame W (fun k=>k < W.heap.size)) [0,2] [] hmx (by kernel_rfl) (isSame_of fun _ _=>rfl) ?_
 change wpStage _ _ _ _ _ _ _ _ (4 + 2) _ _ _
 refine stage_reads [0,2] 4 _ _ (by kernel_rfl) ?_
 change wpQuietIn _ _ _ _ (fun W'=>∃ x:SameAt W (fun k=>k < W.heap.size),W' = x.W) _ _ _
 simp only [pick_cons,pick_nil,List.getElem?_cons_zero,List.getElem?_cons_succ,Option.elim_some]
 repeat (gi_big_quiet_step (fail))
 refine wpQuietIn_nil ?_
 refine stage_one 1 (by kernel_rfl) rfl ?_
 gi_wp2
 refine ⟨trivial,?_⟩
 refine (callsIn_wide.2 (sign_any p _ W.drew (HV.out.below HB.out))).mono ?_
 rintro e w3 ⟨rfl,hb3⟩
 rw [HGX.out]
 have hB3:Below W.heap.size W w3:=below_undrew hb3
 have HB3:=Lib.hid hB3
 clear hb3 hB3
 gi_wp2
 refine stage_post (isSame_below HB3.out (fun k hk=>hk)) ?_
 refine stage_one 3 (by kernel_rfl) rfl ?_
 gi_wp2
 refine ⟨trivial,?_⟩
 refine (callsIn_wide.2 (sign_any q _ w3 (HV'.out.below (HB.out.trans ((below_drew3 HB3.out).mono HB.out.size))))).mono ?_
 rintro e w4 ⟨rfl,hb4⟩
 rw [HGY.out]
 have hB4:Below W.heap.size W w4:=HB3.out.trans (hb4.mono HB3.out.size)
 have HB4:=Lib.hid hB4
 clear hb4 hB4
 gi_wp2
 refine stage_post (isSame_below HB4.out (fun k hk=>hk)) ?_
 refine stage_one 4 (by kernel_rfl) rfl ?_
 gi_wp2
 refine stage_post (isSame_below HB4.out (fun k hk=>hk)) ?_
 refine stage_one 5 (by kernel_rfl) rfl ?_
 gi_wp2
 refine stage_post (isSame_below HB4.out (fun k hk=>hk)) ?_
 refine stage_done (by kernel_rfl) ?_
 clear x0 x1 x2 y0 y1 y2
 have hsz:=HS.out
 obtain ⟨x0,x1,x2⟩:=rows3 (P0.out.below HB4.out (by omega))
 obtain ⟨y0,y1,y2⟩:=rows3 (P1.out.below HB4.out (by omega))
 clear hsz
 have Q0:=Lib.hid (P0.out.below HB4.out (by have:=HS.out;omega))
 have Q1:=Lib.hid (P1.out.below HB4.out (by have:=HS.out;omega))
 have h42:=HB4.out.size
 gi_upto_region 4 with fail
 clear x0 x1 x2 y0 y1 y2
 have hsz:=HS.out
 obtain ⟨x0,x1,x2⟩:=same_cells (S:=fun k=>k < w4.heap.size) Q0.out (by omega)
 obtain ⟨y0,y1,y2⟩:=same_cells (S:=fun k=>k < w4.heap.size) Q1.out (by omega)
 clear hsz
 have HB40:=Lib.hid (below_drew (HB.out.trans ((below_drew3 HB4.out).mono HB.out.size)))
 refine wpIn_stage (IsSame w4 (fun k=>k < w4.heap.size)) [0,1,2,3,5,6,7,8] [] hmx (by kernel_rfl) (isSame_of fun _ _=>rfl) ?_
 change wpStage _ _ _ _ _ _ _ _ (4 + 8) _ _ _
 refine stage_reads [0,1,2,3,5,6,7,8] 4 _ _ (by kernel_rfl) ?_
 change wpQuietIn _ _ _ _ (fun W'=>∃ x:SameAt w4 (fun k=>k < w4.heap.size),W' = x.W) _ _ _
 simp only [pick_cons,pick_nil,List.getElem?_cons_zero,List.getElem?_cons_succ,Option.elim_some]
 repeat (gi_big_quiet_step (fail))
 refine wpQuietIn_nil ?_
 refine stage_one 4 (by kernel_rfl) rfl ?_
 gi_wp2
 refine ⟨trivial,?_⟩
 refine (callsIn_wide.2 (mul_any N D' _ _ w4.drew (HN.out.below HB40.out) (HD'.out.below HB40.out) (by omega) (by omega))).mono ?_
 rintro e w5 ⟨v5,rfl,hv5,hb5⟩
 obtain ⟨A5,c5,rfl,_,_,_⟩:=id hv5
 have HV5:=Lib.hid hv5
 have hB5:Below w4.heap.size w4 w5:=below_undrew hb5
 have HB5:=Lib.hid hB5
 clear hv5 hb5 hB5
 gi_wp2
 refine stage_post (isSame_below HB5.out (fun k hk=>hk)) ?_
 refine stage_one 9 (by kernel_rfl) rfl ?_
 gi_wp2
 have HB50:=Lib.hid (HB40.out.trans ((below_drew3 HB5.out).mono HB40.out.size))
 refine ⟨trivial,?_⟩
 refine (callsIn_wide.2 (mul_any N' D _ _ w5 (HN'.out.below HB50.out) (HD.out.below HB50.out) (by omega) (by omega))).mono ?_
 rintro e w6 ⟨v6,rfl,hv6,hb6⟩
 obtain ⟨A6,c6,rfl,_,_,_⟩:=id hv6
 have HV6:=Lib.hid hv6
 have HV5:=Lib.hid (HV5.out.below hb6)
 have hB6:Below w4.heap.size w4 w6:=HB5.out.trans (hb6.mono HB5.out.size)
 have HB6:=Lib.hid hB6
 clear hv6 hb6 hB6
 gi_wp2
 refine stage_post (isSame_below HB6.out (fun k hk=>hk)) ?_
 refine stage_one 10 (by kernel_rfl) rfl ?_
 gi_wp2
 refine ⟨trivial,?_⟩
 refine (callsIn_wide.2 (cmp_any (N * D') (N' * D) _ _ w6 HV5.out HV6.out (by omega))).mono ?_
 rintro e w7 ⟨rfl,hb7⟩
 generalize hgz:sgn (N * D') (N' * D) = z at hz HE ⊢
 obtain ⟨hz1,hz2⟩:=hz
 clear hgz
 have hB7:Below w4.heap.size w4 w7:=HB6.out.trans (hb7.mono HB6.out.size)
 have HB7:=Lib.hid hB7
 clear hb7 hB7
 gi_wp2
 refine stage_post (isSame_below HB7.out (fun k hk=>hk)) ?_
 refine stage_one 11 (by kernel_rfl) rfl ?_
 gi_wp2
 refine stage_post (isSame_below HB7.out (fun k hk=>hk)) ?_
 refine stage_done (by kernel_rfl) ?_
 clear x0 x1 x2 y0 y1 y2
 obtain ⟨x0,x1,x2⟩:=rows3 (Q0.out.below HB7.out (by have:=HS.out;omega))
 gi_wp2
 refine bodyPost_ret (results_tmp rfl _ _ _) rfl ?_
 exact ⟨_,rfl,by rw [clamp_id (by omega)];exact HE.out,HB.out.trans ((below_drew3 (HB4.out.trans (HB7.out.mono h42))).mono HB.out.size)⟩
theorem fcmp_any (p q:Rat) (v v':Value) (w:World) (h:IsFrac w v p) (h':IsFrac w v' q) (l1:(toL (nm p)).length≤10000) (l2:(toL p.den).length≤10000) (l3:(toL (nm q)).length≤10000) (l4:(toL q.den).length≤10000) :
  Calls Tryz.prog 198 #[v,v'] w fun e w'=>∃ c:Int,e = .returned (.int .i64 c)∧max (-1) (min 1 c) = cmpQ p q∧Below w.heap.size w w':=by
 by_cases hs:sgQ p = sgQ q
 ·cases hm:ng p with
  | false=>exact fcmp_pos p q v v' w h h' l1 l2 l3 l4 hs hm
  | true=>exact fcmp_neg p q v v' w h h' l1 l2 l3 l4 hs hm
 ·exact fcmp_ne p q v v' w h h' l1 l2 l3 l4 hs
end Go.Proofs.YtigapglmipmbeaaGreatDoor
