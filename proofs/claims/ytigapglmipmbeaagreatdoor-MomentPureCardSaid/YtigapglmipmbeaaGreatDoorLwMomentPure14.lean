/- The reference's Pow of rational numbers (printed by mkrpw.py). The reference's functions of two numbers, on texts of numbers. The reference of chapter 10: at. The reference of chapter 10: both. The reference of chapter 10: then. Curves of canonical texts: sums, sizes, what Add and None come to. Comparing curves. moment.Fits: the walk. moment.Of: the walk. loss.valid: the first error of a list of losses leaves the computation. limited, plus and above of losses. above: the loss with the greater parts. fold: losses combined, from None on; Add, Sum and Max. moment.To: the walk (printed by mkmto.py). What a call returns in every world, new memory aside. -/
import Derived.Test.YtigapglmipmbeaaGreatDoorLwMomentPure13
import Derived.Test.YtigapglmipmbeaaGreatDoorLwMomentPure10
import Derived.Test.YtigapglmipmbeaaGreatDoorLwMomentPure11
import Derived.Test.YtigapglmipmbeaaGreatDoorLwMomentPure02
import Derived.Test.YtigapglmipmbeaaGreatDoorLwMomentPure07
set_option maxRecDepth 100000
set_option maxHeartbeats 16000000
namespace Go.Proofs.YtigapglmipmbeaaGreatDoor
open Go.RowKit Go.Shelf
open Lim
theorem cells6P {w:World} {g:Nat} {t:TypeId} {x y z:Value} (h:Blk w g t #[x,y,z]) :
  (w.cell? ⟨g,0,none⟩=some x∧w.frozen? ⟨g,0,none⟩=false)∧(w.cell? ⟨g,1,none⟩=some y∧w.frozen? ⟨g,1,none⟩=false)∧w.cell? ⟨g,2,none⟩=some z∧w.frozen? ⟨g,2,none⟩=false :=
 ⟨⟨(cellrow h 0 (by simp)).1,h.frozen 0⟩,⟨(cellrow h 1 (by simp)).1,h.frozen 1⟩,(cellrow h 2 (by simp)).1,h.frozen 2⟩
theorem refpow_pos_t_no (a:ByteArray) (q:Rat) (M:Nat) (w:World) (ha:a.size≤270000) (he:errQ a.data.toList=0) (hq:valQ a.data.toList=q) (hb:ng q=true) (hM:M≤9223372036854775807) (hf1:decide (Lib.nDigits (nm q ^ M)≤4000)=false) (sq:Sz maxD q) :
  Calls Tryz.prog 240 #[.string a,.int .i64 (M:Int)] w fun e w'=>e=.returned (.tuple #[.string ⟨#[]⟩,.int .i64 5])∧Below w.heap.size w w':=by
 have HP:=Lib.hid (rq_any a w ha)
 have hne:((errQ a.data.toList:Int)==0)=true:=by rw [he];rfl
 have HE:=Lib.hid he
 rw [hq] at HP
 obtain ⟨lq,lq'⟩:=sz_limbs sq
 have HBQ:=Lib.hid hb
 have lr1:(toL (nm q)).length≤500:=by omega
 have lr2:(toL q.den).length≤500:=by omega
 have hn2:decide ((M:Int) < 0)=false:=decide_eq_false (by omega)
 have hn3:((M:Int)==-9223372036854775808)=false:=by rw [beq_eq_false_iff_ne];omega
 have HL1:=Lib.hid lr1
 have HL2:=Lib.hid lr2
 have HF1:=Lib.hid hf1
 have TK1:True:=trivial
 clear he hq hb sq lr1 lr2 hf1
 go_enter Tryz.func240,Tryz.ntmps240
 go_wp2_with (first
  | (go_at_call 155;refine HP.out.mono ?_;rintro e w1 ⟨v,rfl,hv,-,hb⟩;obtain ⟨bq,N,D,A,c,A',c',rfl,hn,hd,HQ⟩:=isQ_open (hv HE.out);have HV:=Lib.hid (hv HE.out);have HB:=Lib.hid hb;have HX:=Lib.hid (below_alloc (Below.refl w1.heap.size w1) (.cells #[.bool bq,.slice A (toL N).length c,.slice A' (toL D).length c'] 170));have HBX:=Lib.hid (HB.out.trans (HX.out.mono HB.out.size));have HN:=Lib.hid (hn.below HX.out);have HD:=Lib.hid (hd.below HX.out);have HPB:=Lib.hid (Blk.new w1 170 #[.bool bq,.slice A (toL N).length c,.slice A' (toL D).length c']);clear hb hv hn hd;obtain rfl:bq=true:=HQ.out.1.symm.trans HBQ.out;obtain rfl:=HQ.out.2.1;obtain rfl:=HQ.out.2.2)
  | (go_at_call 271;refine (odd_any (M:Int) _ (by omega) (by omega)).mono ?_;rintro e w4 ⟨rfl,hw4⟩;subst hw4)
  | (clear TK1;go_at_call 272;refine (rpower_any (nm q) M _ _ HN.out (by omega) HL1.out).mono ?_;rintro e w5 ⟨v5,rfl,hv5,⟨A5,l5,c5,rfl⟩,hb5⟩;rw [HF1.out];have HV5:=Lib.hid hv5;have HD5:=Lib.hid (HD.out.below hb5);have HB5:=Lib.hid (HBX.out.trans (hb5.mono HBX.out.size));obtain ⟨y0,y1,y2⟩:=rows3 (HPB.out.below hb5 HPB.out.lt);clear hv5 hb5)
  | (go_at_call 272;refine (rpower_any q.den M _ _ HD5.out (by omega) HL2.out).mono ?_;rintro e w6 ⟨v6,rfl,hv6,⟨A6,l6,c6,rfl⟩,hb6⟩;have HV6:=Lib.hid hv6;have HB6:=Lib.hid (HB5.out.trans (hb6.mono HB5.out.size));have HZ6:=Lib.hid hb6;clear hv6 hb6))
 all_goals first
  | (refine bodyPost_ret (results_tmp2 rfl _ _ _) rfl ?_;exact ⟨rfl,HB6.out⟩)
  | (exfalso;omega)
theorem refpow_pos_f_yes (a:ByteArray) (q:Rat) (M:Nat) (w:World) (ha:a.size≤270000) (he:errQ a.data.toList=0) (hq:valQ a.data.toList=q) (hb:ng q=false) (hM:M≤9223372036854775807) (hf1:decide (Lib.nDigits (nm q ^ M)≤4000)=true) (hf2:decide (Lib.nDigits (q.den ^ M)≤4000)=true) (r:List UInt8 × Nat) (hW:∀ v w,IsPartsI w v false (nm q ^ M) (q.den ^ M)→Calls Tryz.prog 153 #[v] w fun e w'=>e=.returned (.tuple #[.string ⟨r.1.toArray⟩,.int .i64 (r.2:Int)])∧Below w.heap.size w w') (sq:Sz maxD q) :
  Calls Tryz.prog 240 #[.string a,.int .i64 (M:Int)] w fun e w'=>e=.returned (.tuple #[.string ⟨r.1.toArray⟩,.int .i64 (r.2:Int)])∧Below w.heap.size w w':=by
 have HP:=Lib.hid (rq_any a w ha)
 have hne:((errQ a.data.toList:Int)==0)=true:=by rw [he];rfl
 have HE:=Lib.hid he
 rw [hq] at HP
 obtain ⟨lq,lq'⟩:=sz_limbs sq
 have HBQ:=Lib.hid hb
 have lr1:(toL (nm q)).length≤500:=by omega
 have lr2:(toL q.den).length≤500:=by omega
 have hn2:decide ((M:Int) < 0)=false:=decide_eq_false (by omega)
 have hn3:((M:Int)==-9223372036854775808)=false:=by rw [beq_eq_false_iff_ne];omega
 have HL1:=Lib.hid lr1
 have HL2:=Lib.hid lr2
 have HF1:=Lib.hid hf1
 have HF2:=Lib.hid hf2
 have HW:=Lib.hid hW
 have TK1:True:=trivial
 clear he hq hb sq lr1 lr2 hf1 hf2 hW
 go_enter Tryz.func240,Tryz.ntmps240
 go_wp2_with (first
  | (go_at_call 155;refine HP.out.mono ?_;rintro e w1 ⟨v,rfl,hv,-,hb⟩;obtain ⟨bq,N,D,A,c,A',c',rfl,hn,hd,HQ⟩:=isQ_open (hv HE.out);have HV:=Lib.hid (hv HE.out);have HB:=Lib.hid hb;have HX:=Lib.hid (below_alloc (Below.refl w1.heap.size w1) (.cells #[.bool bq,.slice A (toL N).length c,.slice A' (toL D).length c'] 170));have HBX:=Lib.hid (HB.out.trans (HX.out.mono HB.out.size));have HN:=Lib.hid (hn.below HX.out);have HD:=Lib.hid (hd.below HX.out);have HPB:=Lib.hid (Blk.new w1 170 #[.bool bq,.slice A (toL N).length c,.slice A' (toL D).length c']);clear hb hv hn hd;obtain rfl:bq=false:=HQ.out.1.symm.trans HBQ.out;obtain rfl:=HQ.out.2.1;obtain rfl:=HQ.out.2.2)
  | (clear TK1;go_at_call 272;refine (rpower_any (nm q) M _ _ HN.out (by omega) HL1.out).mono ?_;rintro e w5 ⟨v5,rfl,hv5,⟨A5,l5,c5,rfl⟩,hb5⟩;rw [HF1.out];have HV5:=Lib.hid hv5;have HD5:=Lib.hid (HD.out.below hb5);have HB5:=Lib.hid (HBX.out.trans (hb5.mono HBX.out.size));obtain ⟨y0,y1,y2⟩:=rows3 (HPB.out.below hb5 HPB.out.lt);clear hv5 hb5)
  | (go_at_call 272;refine (rpower_any q.den M _ _ HD5.out (by omega) HL2.out).mono ?_;rintro e w6 ⟨v6,rfl,hv6,⟨A6,l6,c6,rfl⟩,hb6⟩;rw [HF2.out];have HV6:=Lib.hid hv6;have HB6:=Lib.hid (HB5.out.trans (hb6.mono HB5.out.size));have HZ6:=Lib.hid hb6;clear hv6 hb6)
  | (go_at_call 153;refine (HW.out _ _ (isPartsI_mk ((HV5.out (of_decide_eq_true HF1.out)).below HZ6.out) (HV6.out (of_decide_eq_true HF2.out)))).mono ?_;rintro e w7 ⟨rfl,hb7⟩;have HB7:=Lib.hid (HB6.out.trans (hb7.mono HB6.out.size));clear hb7))
 all_goals first
  | (refine bodyPost_ret (results_tmp2 rfl _ _ _) rfl ?_;exact ⟨rfl,HB7.out⟩)
  | (exfalso;omega)
theorem refpow_neg_t_no (a:ByteArray) (q:Rat) (M:Nat) (w:World) (ha:a.size≤270000) (he:errQ a.data.toList=0) (hq:valQ a.data.toList=q) (hb:ng q=true) (h0:q≠0) (hM:M≤9223372036854775807) (hM1:1≤M) (hf1:decide (Lib.nDigits (nm q⁻¹ ^ M)≤4000)=false) (sq:Sz maxD q) :
  Calls Tryz.prog 240 #[.string a,.int .i64 (-(M:Int))] w fun e w'=>e=.returned (.tuple #[.string ⟨#[]⟩,.int .i64 5])∧Below w.heap.size w w':=by
 have HP:=Lib.hid (rq_any a w ha)
 have hne:((errQ a.data.toList:Int)==0)=true:=by rw [he];rfl
 have HE:=Lib.hid he
 rw [hq] at HP
 obtain ⟨lq,lq'⟩:=sz_limbs sq
 have HBQ:=Lib.hid hb
 obtain ⟨i1,i2,i3⟩:=inv_parts h0
 have HIV:=Lib.hid (And.intro i1 (And.intro i2 i3))
 have HZ:=Lib.hid h0
 have HNZ:=Lib.hid (fun (N:Nat) (h:nm q=N)=>show (((toL N).length:Int)==0)=false by rw [len_zero,decide_eq_false (fun h2=>h0 (nm_zero.1 (h.trans h2)))])
 have HNN:=Lib.hid (fun (N:Nat) (h:nm q=N)=>show (toL N).length≠0 from fun h2=>by have:=HNZ.out N h;rw [h2] at this;cases this)
 have lr1:(toL (nm q⁻¹)).length≤500:=by rw [i2];omega
 have lr2:(toL q⁻¹.den).length≤500:=by rw [i3];omega
 obtain ⟨X,hX⟩:∃ X,nm q⁻¹=X:=⟨_,rfl⟩
 obtain ⟨Y,hY⟩:∃ Y,q⁻¹.den=Y:=⟨_,rfl⟩
 rw [hX] at hf1 lr1
 rw [hY] at lr2
 have HXX:=Lib.hid hX
 have HYY:=Lib.hid hY
 clear hX hY
 have hn2:decide (-(M:Int) < 0)=true:=decide_eq_true (by omega)
 have hn3:(-(M:Int)==-9223372036854775808)=false:=by rw [beq_eq_false_iff_ne];omega
 have HL1:=Lib.hid lr1
 have HL2:=Lib.hid lr2
 have HF1:=Lib.hid hf1
 have TK1:True:=trivial
 clear he hq hb sq lr1 lr2 hf1 h0 i1 i2 i3
 go_enter Tryz.func240,Tryz.ntmps240
 go_wp2_with (first
  | (go_at_call 155;refine HP.out.mono ?_;rintro e w1 ⟨v,rfl,hv,-,hb⟩;obtain ⟨bq,N,D,A,c,A',c',rfl,hn,hd,HQ⟩:=isQ_open (hv HE.out);have HV:=Lib.hid (hv HE.out);have HB:=Lib.hid hb;have HX:=Lib.hid (below_alloc (Below.refl w1.heap.size w1) (.cells #[.bool bq,.slice A (toL N).length c,.slice A' (toL D).length c'] 170));have HBX:=Lib.hid (HB.out.trans (HX.out.mono HB.out.size));have HN:=Lib.hid (hn.below HX.out);have HD:=Lib.hid (hd.below HX.out);have HPB:=Lib.hid (Blk.new w1 170 #[.bool bq,.slice A (toL N).length c,.slice A' (toL D).length c']);clear hb hv hn hd;have hln:=HNZ.out _ HQ.out.2.1)
  | (go_at_call 156;refine (rover_any q _ _ (HV.out.below HX.out) HZ.out).mono ?_;rintro e w2 ⟨v2,rfl,hv2,hb2⟩;obtain ⟨b2,N2,D2,A2,c2,A2',c2',rfl,hn2',hd2',HQ2⟩:=isQ_open hv2;obtain rfl:b2=true:=HQ2.out.1.symm.trans (HIV.out.1.trans HBQ.out);obtain rfl:N2=X:=HQ2.out.2.1.symm.trans HXX.out;obtain rfl:D2=Y:=HQ2.out.2.2.symm.trans HYY.out;have hp2:=HPB.out.below hb2 HPB.out.lt;obtain ⟨⟨r0,s0⟩,⟨r1,s1⟩,r2,s2⟩:=cells6P hp2;have HNO:=Lib.hid (isNatI_set3 (m':=true) (D:=A2) (D':=A2') (a:=(toL N2).length) (b:=c2) (a':=(toL D2).length) (b':=c2') hn2' hp2);have HDO:=Lib.hid (isNatI_set3 (m':=true) (D:=A2) (D':=A2') (a:=(toL N2).length) (b:=c2) (a':=(toL D2).length) (b':=c2') hd2' hp2);have HPO:=Lib.hid (set3 (x:=.bool true) (y:=.slice A2 (toL N2).length c2) (z:=.slice A2' (toL D2).length c2') hp2);have HBO:=Lib.hid (set3_below (x:=.bool true) (y:=.slice A2 (toL N2).length c2) (z:=.slice A2' (toL D2).length c2') (HBX.out.trans (hb2.mono HBX.out.size)) HB.out.size);clear hv2 hb2 hn2' hd2' hp2)
  | (go_at_call 271;refine (odd_any (-(M:Int)) _ (by omega) (by omega)).mono ?_;rintro e w4 ⟨rfl,hw4⟩;subst hw4)
  | (clear TK1;go_at_call 272;refine (rpower_any N2 M _ _ HNO.out (by omega) HL1.out).mono ?_;rintro e w5 ⟨v5,rfl,hv5,⟨A5,l5,c5,rfl⟩,hb5⟩;rw [HF1.out];have HV5:=Lib.hid hv5;have HD5:=Lib.hid (HDO.out.below hb5);have HB5:=Lib.hid (HBO.out.trans (hb5.mono HBO.out.size));obtain ⟨y0,y1,y2⟩:=rows3 (HPO.out.below hb5 HPO.out.lt);clear hv5 hb5)
  | (go_at_call 272;refine (rpower_any D2 M _ _ HD5.out (by omega) HL2.out).mono ?_;rintro e w6 ⟨v6,rfl,hv6,⟨A6,l6,c6,rfl⟩,hb6⟩;have HV6:=Lib.hid hv6;have HB6:=Lib.hid (HB5.out.trans (hb6.mono HB5.out.size));have HZ6:=Lib.hid hb6;clear hv6 hb6))
 all_goals first
  | (refine bodyPost_ret (results_tmp2 rfl _ _ _) rfl ?_;exact ⟨rfl,HB6.out⟩)
  | (exfalso;have:=HNN.out _ HQ.out.2.1;omega)
theorem refpow_neg_f_yes (a:ByteArray) (q:Rat) (M:Nat) (w:World) (ha:a.size≤270000) (he:errQ a.data.toList=0) (hq:valQ a.data.toList=q) (hb:ng q=false) (h0:q≠0) (hM:M≤9223372036854775807) (hM1:1≤M) (hf1:decide (Lib.nDigits (nm q⁻¹ ^ M)≤4000)=true) (hf2:decide (Lib.nDigits (q⁻¹.den ^ M)≤4000)=true) (r:List UInt8 × Nat) (hW:∀ v w,IsPartsI w v false (nm q⁻¹ ^ M) (q⁻¹.den ^ M)→Calls Tryz.prog 153 #[v] w fun e w'=>e=.returned (.tuple #[.string ⟨r.1.toArray⟩,.int .i64 (r.2:Int)])∧Below w.heap.size w w') (sq:Sz maxD q) :
  Calls Tryz.prog 240 #[.string a,.int .i64 (-(M:Int))] w fun e w'=>e=.returned (.tuple #[.string ⟨r.1.toArray⟩,.int .i64 (r.2:Int)])∧Below w.heap.size w w':=by
 have HP:=Lib.hid (rq_any a w ha)
 have hne:((errQ a.data.toList:Int)==0)=true:=by rw [he];rfl
 have HE:=Lib.hid he
 rw [hq] at HP
 obtain ⟨lq,lq'⟩:=sz_limbs sq
 have HBQ:=Lib.hid hb
 obtain ⟨i1,i2,i3⟩:=inv_parts h0
 have HIV:=Lib.hid (And.intro i1 (And.intro i2 i3))
 have HZ:=Lib.hid h0
 have HNZ:=Lib.hid (fun (N:Nat) (h:nm q=N)=>show (((toL N).length:Int)==0)=false by rw [len_zero,decide_eq_false (fun h2=>h0 (nm_zero.1 (h.trans h2)))])
 have HNN:=Lib.hid (fun (N:Nat) (h:nm q=N)=>show (toL N).length≠0 from fun h2=>by have:=HNZ.out N h;rw [h2] at this;cases this)
 have lr1:(toL (nm q⁻¹)).length≤500:=by rw [i2];omega
 have lr2:(toL q⁻¹.den).length≤500:=by rw [i3];omega
 obtain ⟨X,hX⟩:∃ X,nm q⁻¹=X:=⟨_,rfl⟩
 obtain ⟨Y,hY⟩:∃ Y,q⁻¹.den=Y:=⟨_,rfl⟩
 rw [hX] at hf1 lr1
 rw [hY] at lr2 hf2
 rw [hX,hY] at hW
 have HXX:=Lib.hid hX
 have HYY:=Lib.hid hY
 clear hX hY
 have hn2:decide (-(M:Int) < 0)=true:=decide_eq_true (by omega)
 have hn3:(-(M:Int)==-9223372036854775808)=false:=by rw [beq_eq_false_iff_ne];omega
 have HL1:=Lib.hid lr1
 have HL2:=Lib.hid lr2
 have HF1:=Lib.hid hf1
 have HF2:=Lib.hid hf2
 have HW:=Lib.hid hW
 have TK1:True:=trivial
 clear he hq hb sq lr1 lr2 hf1 hf2 hW h0 i1 i2 i3
 go_enter Tryz.func240,Tryz.ntmps240
 go_wp2_with (first
  | (go_at_call 155;refine HP.out.mono ?_;rintro e w1 ⟨v,rfl,hv,-,hb⟩;obtain ⟨bq,N,D,A,c,A',c',rfl,hn,hd,HQ⟩:=isQ_open (hv HE.out);have HV:=Lib.hid (hv HE.out);have HB:=Lib.hid hb;have HX:=Lib.hid (below_alloc (Below.refl w1.heap.size w1) (.cells #[.bool bq,.slice A (toL N).length c,.slice A' (toL D).length c'] 170));have HBX:=Lib.hid (HB.out.trans (HX.out.mono HB.out.size));have HN:=Lib.hid (hn.below HX.out);have HD:=Lib.hid (hd.below HX.out);have HPB:=Lib.hid (Blk.new w1 170 #[.bool bq,.slice A (toL N).length c,.slice A' (toL D).length c']);clear hb hv hn hd;have hln:=HNZ.out _ HQ.out.2.1)
  | (go_at_call 156;refine (rover_any q _ _ (HV.out.below HX.out) HZ.out).mono ?_;rintro e w2 ⟨v2,rfl,hv2,hb2⟩;obtain ⟨b2,N2,D2,A2,c2,A2',c2',rfl,hn2',hd2',HQ2⟩:=isQ_open hv2;obtain rfl:b2=false:=HQ2.out.1.symm.trans (HIV.out.1.trans HBQ.out);obtain rfl:N2=X:=HQ2.out.2.1.symm.trans HXX.out;obtain rfl:D2=Y:=HQ2.out.2.2.symm.trans HYY.out;have hp2:=HPB.out.below hb2 HPB.out.lt;obtain ⟨⟨r0,s0⟩,⟨r1,s1⟩,r2,s2⟩:=cells6P hp2;have HNO:=Lib.hid (isNatI_set3 (m':=false) (D:=A2) (D':=A2') (a:=(toL N2).length) (b:=c2) (a':=(toL D2).length) (b':=c2') hn2' hp2);have HDO:=Lib.hid (isNatI_set3 (m':=false) (D:=A2) (D':=A2') (a:=(toL N2).length) (b:=c2) (a':=(toL D2).length) (b':=c2') hd2' hp2);have HPO:=Lib.hid (set3 (x:=.bool false) (y:=.slice A2 (toL N2).length c2) (z:=.slice A2' (toL D2).length c2') hp2);have HBO:=Lib.hid (set3_below (x:=.bool false) (y:=.slice A2 (toL N2).length c2) (z:=.slice A2' (toL D2).length c2') (HBX.out.trans (hb2.mono HBX.out.size)) HB.out.size);clear hv2 hb2 hn2' hd2' hp2)
  | (clear TK1;go_at_call 272;refine (rpower_any N2 M _ _ HNO.out (by omega) HL1.out).mono ?_;rintro e w5 ⟨v5,rfl,hv5,⟨A5,l5,c5,rfl⟩,hb5⟩;rw [HF1.out];have HV5:=Lib.hid hv5;have HD5:=Lib.hid (HDO.out.below hb5);have HB5:=Lib.hid (HBO.out.trans (hb5.mono HBO.out.size));obtain ⟨y0,y1,y2⟩:=rows3 (HPO.out.below hb5 HPO.out.lt);clear hv5 hb5)
  | (go_at_call 272;refine (rpower_any D2 M _ _ HD5.out (by omega) HL2.out).mono ?_;rintro e w6 ⟨v6,rfl,hv6,⟨A6,l6,c6,rfl⟩,hb6⟩;rw [HF2.out];have HV6:=Lib.hid hv6;have HB6:=Lib.hid (HB5.out.trans (hb6.mono HB5.out.size));have HZ6:=Lib.hid hb6;clear hv6 hb6)
  | (go_at_call 153;refine (HW.out _ _ (isPartsI_mk ((HV5.out (of_decide_eq_true HF1.out)).below HZ6.out) (HV6.out (of_decide_eq_true HF2.out)))).mono ?_;rintro e w7 ⟨rfl,hb7⟩;have HB7:=Lib.hid (HB6.out.trans (hb7.mono HB6.out.size));clear hb7))
 all_goals first
  | (refine bodyPost_ret (results_tmp2 rfl _ _ _) rfl ?_;exact ⟨rfl,HB7.out⟩)
  | (exfalso;have:=HNN.out _ HQ.out.2.1;omega)
section
variable {a b c:ByteArray} {p q:Rat} (w:World)
theorem raddT (ha:IsT a p) (hb:IsT b q) (hc:IsT c (p+q)) :
  Calls Tryz.prog 59 #[.string a,.string b] w fun e w'=>e=.returned (.tuple #[.string c,.int .i64 0])∧Below w.heap.size w w':=by
 refine (refAdd_any a b w ha.size hb.size).mono ?_
 rintro e w' ⟨rfl,h⟩
 rw [two_T ha hb,out_T hc]
 exact ⟨rfl,h⟩
theorem rcmpT (ha:IsT a p) (hb:IsT b q) :
  Calls Tryz.prog 119 #[.string a,.string b] w fun e w'=>e=.returned (.tuple #[.int .i64 (cmpQ p q),.int .i64 0])∧Below w.heap.size w w':=by
 refine (refCmp_any a b w ha.size hb.size).mono ?_
 rintro e w' ⟨rfl,h⟩
 rw [two_I ha hb]
 exact ⟨rfl,h⟩
theorem rmaxT (ha:IsT a p) (hb:IsT b q) :
  Calls Tryz.prog 57 #[.string a,.string b] w fun e w'=>e=.returned (.tuple #[.string (rT (maxQ p q)),.int .i64 0])∧Below w.heap.size w w':=by
 refine (refMax_any a b w ha.size hb.size).mono ?_
 rintro e w' ⟨rfl,h⟩
 refine ⟨?_,h⟩
 rw [two_I ha hb,← rT_max ha hb]
 unfold chooseQ resS
 simp only [ne_eq,not_true_eq_false,if_false]
 by_cases h0:cmpQ p q < 0
 ·rw [if_pos h0,if_pos (by omega)];rfl
 ·rw [if_neg h0,if_neg (by omega)];rfl
end
structure CIs (c:CT) (m:Nat→Rat):Prop where
 t:∀ i,i < 8→IsT (c i) (m i)
 one:∀ i,i < 7→1≤m i
 zero:0≤m 7
 top:m 7≤1
def valM (c:CT):Nat→Rat:=fun i=>valQ (c i).data.toList
def txt (m:Nat→Rat):CT:=fun i=>rT (m i)
theorem seven_at {α:Type} {f:Nat→α} {i:Nat} {x:α} (h:[f 0,f 1,f 2,f 3,f 4,f 5,f 6][i]?=some x):i < 7∧x=f i:=by
 match i,h with
 | 0,h=>exact ⟨by omega,(Option.some.inj h).symm⟩
 | 1,h=>exact ⟨by omega,(Option.some.inj h).symm⟩
 | 2,h=>exact ⟨by omega,(Option.some.inj h).symm⟩
 | 3,h=>exact ⟨by omega,(Option.some.inj h).symm⟩
 | 4,h=>exact ⟨by omega,(Option.some.inj h).symm⟩
 | 5,h=>exact ⟨by omega,(Option.some.inj h).symm⟩
 | 6,h=>exact ⟨by omega,(Option.some.inj h).symm⟩
 | i+7,h=>simp at h
theorem at_seven {α:Type} (f:Nat→α) {i:Nat} (h:i < 7):[f 0,f 1,f 2,f 3,f 4,f 5,f 6][i]?=some (f i):=by
 match i,h with
 | 0,_=>rfl
 | 1,_=>rfl
 | 2,_=>rfl
 | 3,_=>rfl
 | 4,_=>rfl
 | 5,_=>rfl
 | 6,_=>rfl
theorem CIs.of {c:CT} (h:errCT c=0):CIs c (valM c):=by
 have h1:=errC_zero (ms:=[c 0,c 1,c 2,c 3,c 4,c 5,c 6]) rfl h
 have hm:∀ i,i < 7→IsT (c i) (valM c i)∧1≤valM c i:=fun i hi =>
  h1.m i (c i) (valM c i) (at_seven c hi) (by
   unfold valC
   dsimp only
   rw [List.getElem?_map,at_seven c hi]
   rfl)
 refine ⟨fun i hi=>?_,fun i hi=>(hm i hi).2,h1.zero,h1.top⟩
 by_cases h7:i=7
 ·subst h7;exact h1.l
 ·exact (hm i (by omega)).1
theorem CIs.err {c:CT} {m:Nat→Rat} (h:CIs c m):errCT c=0 :=
 CurveIs.err (c:=([m 0,m 1,m 2,m 3,m 4,m 5,m 6],m 7)) ⟨rfl,rfl,fun i a q ha hq=>by
  obtain ⟨h1,rfl⟩:=seven_at ha
  obtain ⟨_,rfl⟩:=seven_at hq
  exact ⟨h.t i (by omega),h.one i h1⟩,h.t 7 (by omega),h.zero,h.top⟩
theorem CIs.sm {c:CT} {m:Nat→Rat} (h:CIs c m):SmC c:=fun k hk=>(h.t k hk).size
theorem CIs.errs {a b:CT} {m n:Nat→Rat} (ha:CIs a m) (hb:CIs b n):errCC a b=0:=by
 unfold errCC;rw [if_neg (by rw [ha.err];decide),hb.err]
theorem cv_ext {a b:CT} (h:∀ k,k < 8→a k=b k):cv a=cv b:=congrArg Value.agg (cvA_ext h)
theorem CIs.txt_eq {c:CT} {m:Nat→Rat} (h:CIs c m) {k:Nat} (hk:k < 8):c k=txt m k:=(h.t k hk).text
def SzC (k:Nat) (m:Nat→Rat):Prop:=∀ i,i < 8→Sz k (m i)
theorem CIs.mk' {m:Nat→Rat} {k:Nat} (hs:SzC k m) (hk:k≤maxD) (h1:∀ i,i < 7→1≤m i) (h0:0≤m 7) (ht:m 7≤1):CIs (txt m) m :=
 ⟨fun i hi=>isT_rT (fits_sz.2 ((hs i hi).mono hk)),h1,h0,ht⟩
section
variable {a b:CT} {m n:Nat→Rat} {j k:Nat}
end
def leM (a b:Nat→Rat):Bool:=(List.range 8).all fun i=>decide (a i≤b i)
theorem leM_iff {a b:Nat→Rat}:leM a b=true↔∀ i,i < 8→a i≤b i:=by
 unfold leM
 rw [List.all_eq_true]
 simp only [List.mem_range,decide_eq_true_eq]
theorem eq7_any (d:Nat) (a0 a1 a2 a3 a4 a5 a6 b0 b1 b2 b3 b4 b5 b6:ByteArray) (w:World):(Op.equalIn (d+1+1) 57 (.agg #[.string a0,.string a1,.string a2,.string a3,.string a4,.string a5,.string a6]) (.agg #[.string b0,.string b1,.string b2,.string b3,.string b4,.string b5,.string b6])).run Tryz.prog w=.ok (a0.toList==b0.toList&&(a1.toList==b1.toList&&(a2.toList==b2.toList&&(a3.toList==b3.toList&&(a4.toList==b4.toList&&(a5.toList==b5.toList&&(a6.toList==b6.toList))))))) w:=by
 have tu:=Tryz.underlying23
 have ta:=Tryz.isAgg23
 have tz:=Tryz.sizeOf23
 rw [Op.equalIn]
 simp only [Sem.run_bind,run_underlying Tryz.underlying57,Result.andThen_ok]
 simp only [Std.Legacy.Range.forIn_eq_forIn_range',Std.Legacy.Range.size,Nat.sub_zero,Nat.add_sub_cancel,Nat.div_one,List.range'_succ,List.range'_zero,List.forIn_cons,List.forIn_nil]
 go_simp
 by_cases h0:a0.toList=b0.toList
 case neg=>simp [h0]
 by_cases h1:a1.toList=b1.toList
 case neg=>simp [h0,h1]
 by_cases h2:a2.toList=b2.toList
 case neg=>simp [h0,h1,h2]
 by_cases h3:a3.toList=b3.toList
 case neg=>simp [h0,h1,h2,h3]
 by_cases h4:a4.toList=b4.toList
 case neg=>simp [h0,h1,h2,h3,h4]
 by_cases h5:a5.toList=b5.toList
 case neg=>simp [h0,h1,h2,h3,h4,h5]
 by_cases h6:a6.toList=b6.toList
 case neg=>simp [h0,h1,h2,h3,h4,h5,h6]
 simp [h0,h1,h2,h3,h4,h5,h6]
theorem eq7_top (a0 a1 a2 a3 a4 a5 a6 b0 b1 b2 b3 b4 b5 b6:ByteArray) (w:World):(Op.equalIn 10000 57 (.agg #[.string a0,.string a1,.string a2,.string a3,.string a4,.string a5,.string a6]) (.agg #[.string b0,.string b1,.string b2,.string b3,.string b4,.string b5,.string b6])).run Tryz.prog w=.ok (a0.toList==b0.toList&&(a1.toList==b1.toList&&(a2.toList==b2.toList&&(a3.toList==b3.toList&&(a4.toList==b4.toList&&(a5.toList==b5.toList&&(a6.toList==b6.toList))))))) w:=eq7_any 9998 a0 a1 a2 a3 a4 a5 a6 b0 b1 b2 b3 b4 b5 b6 w
theorem eq7_in (a0 a1 a2 a3 a4 a5 a6 b0 b1 b2 b3 b4 b5 b6:ByteArray) (w:World):(Op.equalIn 9999 57 (.agg #[.string a0,.string a1,.string a2,.string a3,.string a4,.string a5,.string a6]) (.agg #[.string b0,.string b1,.string b2,.string b3,.string b4,.string b5,.string b6])).run Tryz.prog w=.ok (a0.toList==b0.toList&&(a1.toList==b1.toList&&(a2.toList==b2.toList&&(a3.toList==b3.toList&&(a4.toList==b4.toList&&(a5.toList==b5.toList&&(a6.toList==b6.toList))))))) w:=eq7_any 9997 a0 a1 a2 a3 a4 a5 a6 b0 b1 b2 b3 b4 b5 b6 w
def eqCT (a b:CT):Bool:=((a 0).toList==(b 0).toList&&((a 1).toList==(b 1).toList&&((a 2).toList==(b 2).toList&&((a 3).toList==(b 3).toList&&((a 4).toList==(b 4).toList&&((a 5).toList==(b 5).toList&&((a 6).toList==(b 6).toList)))))))&&(a 7).toList==(b 7).toList
end Go.Proofs.YtigapglmipmbeaaGreatDoor
namespace Go.Proofs.YtigapglmipmbeaaGreatDoor
open Go.RowKit Go.Shelf
open Lim
attribute [local go_sem] Oper.semAt_some
def lastT (x:ByteArray):CT:=fun k=>if k=7 then x else ⟨#[]⟩
def MaxIs (a b r:ByteArray):Prop:=∀ w,Res w→Calls Tryz.prog 131 #[.string a,.string b] w fun e w'=>e=.returned (.tuple #[.string r,.int .i64 0])∧Below w.heap.size w w'
structure FitAt (w:World) (gg go:Nat) (c l r:CT) (m:Nat) (W:World):Prop where
 kc:CBlk W w.heap.size c
 kl:CBlk W (w.heap.size+1) l
 kg:CBlk W gg (mixC (lastT (r 7)) r m)
 ko:CBlk W go c
 below:Below w.heap.size w W
theorem FitAt.later {w W W':World} {gg go:Nat} {c l r:CT} {m:Nat} (h:FitAt w gg go c l r m W) (hb:Below W.heap.size W W'):FitAt w gg go c l r m W' :=
 ⟨h.kc.later hb,h.kl.later hb,h.kg.later hb,h.ko.later hb,h.below.trans (hb.mono h.below.size)⟩
theorem FitAt.cells7 {w W:World} {gg go:Nat} {c l r:CT} (h:FitAt w gg go c l r 7 W):W.cell? ⟨gg,0,none⟩=some (.string (r 0))∧W.cell? ⟨gg,1,none⟩=some (.string (r 1))∧W.cell? ⟨gg,2,none⟩=some (.string (r 2))∧W.cell? ⟨gg,3,none⟩=some (.string (r 3)) ∧
  W.cell? ⟨gg,4,none⟩=some (.string (r 4))∧W.cell? ⟨gg,5,none⟩=some (.string (r 5))∧W.cell? ⟨gg,6,none⟩=some (.string (r 6))∧W.cell? ⟨gg,7,none⟩=some (.string (r 7)):=h.kg.cells
theorem mfits_ok (c l r:CT) (w:World) (hc:SmC c) (hl:SmC l) (hr:Res w) (hn:(errCC c l:Int)=0) (H8:Hid (∀ i,i < 8→MaxIs (c i) (l i) (r i))) :
  Calls Tryz.prog 64 #[cv c,cv l] w fun e w'=>e=.returned (.tuple #[.bool (eqCT r l),.int .i64 0])∧Below w.heap.size w w':=by
 have k1:=(CBlk.new w c).alloc (cvO l)
 have k2:=CBlk.new (w.alloc (cvO c)) l
 rw [World.size_alloc] at k2
 have HB:=Lib.hid (below_alloc (below_alloc (Below.refl w.heap.size w) (cvO c)) (cvO l))
 have HR:=Lib.hid hr
 have HBO:=Lib.hid (fun (w:World) hr=>mboth_any c l w hc hl hr)
 have HK:=Lib.hid (And.intro k1 k2)
 obtain ⟨c0,c1,c2,c3,c4,c5,c6,c7⟩:=k1.cells
 obtain ⟨d0,d1,d2,d3,d4,d5,d6,d7⟩:=k2.cells
 rw [hn] at HBO
 clear k1 k2 hr hc hl hn
 refine (callsIn_wide (n:=3)).1 ?_
 have h1:1≤3:=by omega
 have hmx:Tryz.prog.follows .mixedOrders=true:=by kernel_rfl
 refine callsIn_of_wp_marks Tryz.func64 rfl trivial ?_ rfl
 simp only [Tryz.ntmps64,List.size_toArray,List.length_cons,List.length_nil,Nat.reduceAdd,Nat.reduceSub,Array.replicate_succ,Array.replicate_zero,List.push_toArray,List.append_toArray,List.nil_append,List.cons_append]
 gi_wp2_with (first
  | (refine ⟨trivial,?_⟩;gi_at_call 150;refine (callsIn_wide.2 (HBO.out _ (HR.out.below HB.out))).mono ?_;rintro e w1 ⟨rfl,hb⟩;have HB1:=Lib.hid (HB.out.trans (hb.mono HB.out.size));have HK1:=Lib.hid (And.intro (HK.out.1.later hb) (HK.out.2.later hb));have e7:=HK1.out.1.cell (k:=7) (by omega);have f7:=HK1.out.2.cell (k:=7) (by omega);clear hb c0 c1 c2 c3 c4 c5 c6 c7 d0 d1 d2 d3 d4 d5 d6 d7)
  | (refine ⟨trivial,?_⟩;gi_at_call 131;refine (callsIn_wide.2 (H8.out 7 (by omega) _ (HR.out.below HB1.out))).mono ?_;rintro e w2 ⟨rfl,hb⟩;have HB2:=Lib.hid (HB1.out.trans (hb.mono HB1.out.size));have HK2:=Lib.hid (And.intro (HK1.out.1.later hb) (HK1.out.2.later hb));obtain ⟨g0,g1,g2,g3,g4,g5,g6,g7⟩:=HK2.out.1.cells;have hl2:=HK2.out.1.lt;clear hb e7 f7)
  | (refine ⟨trivial,?_⟩;gi_at_call 151;refine (orders_in Fence.wide 2 trivial rfl c _).mono ?_;rintro e w' ⟨rfl,rfl⟩;clear g0 g1 g2 g3 g4 g5 g6 g7))
 have hg:CBlk _ _ (lastT (r 7)):=(CBlk.new w2 (lastT (r 7))).alloc (cvO c)
 have ho:=CBlk.new (w2.alloc (.cells #[.string ⟨#[]⟩,.string ⟨#[]⟩,.string ⟨#[]⟩,.string ⟨#[]⟩,.string ⟨#[]⟩,.string ⟨#[]⟩,.string ⟨#[]⟩,.string (r 7)] 59)) c
 rw [World.size_alloc] at ho
 have hbb:=below_alloc (below_alloc (Below.refl w2.heap.size w2) (.cells #[.string ⟨#[]⟩,.string ⟨#[]⟩,.string ⟨#[]⟩,.string ⟨#[]⟩,.string ⟨#[]⟩,.string ⟨#[]⟩,.string ⟨#[]⟩,.string (r 7)] 59)) (cvO c)
 have hI0:FitAt w w2.heap.size (w2.heap.size+1) c l r 0 ((w2.alloc (.cells #[.string ⟨#[]⟩,.string ⟨#[]⟩,.string ⟨#[]⟩,.string ⟨#[]⟩,.string ⟨#[]⟩,.string ⟨#[]⟩,.string ⟨#[]⟩,.string (r 7)] 59)).alloc (cvO c)) :=
  ⟨HK2.out.1.later hbb,HK2.out.2.later hbb,by rw [mixC_zero];exact hg,ho,HB2.out.trans (hbb.mono HB2.out.size)⟩
 have hw1:=HK2.out.2.lt
 clear hg ho hbb HK2 HK1 HK
 generalize (w2.alloc (.cells #[.string ⟨#[]⟩,.string ⟨#[]⟩,.string ⟨#[]⟩,.string ⟨#[]⟩,.string ⟨#[]⟩,.string ⟨#[]⟩,.string ⟨#[]⟩,.string (r 7)] 59)).alloc (cvO c)=WR at *
 generalize w2.heap.size=gg at *
 have HW1:=Lib.hid hw1
 have hgo:=hI0.ko.lt
 refine wpIn_range_ord rfl h1 (gf:=230) (lb:=#[.pointer (some ⟨gg+1,0,none⟩)]) rfl trivial eg_orders
  (orders_seq Fence.wide 2 trivial rfl (by omega) (gg+1) c) (fun _=>rfl)
  (fun pre W=>FitAt w gg (gg+1) c l r pre.length W) (fun _ _ _=>False)
  ?hG ?hI (fun _ _ _ _ _ hs _ _=>hs) hI0 ?round ?done ?stop
 case hG=>rintro pre W h;exact h.ko
 case hI =>
  rintro s W W' row h hg hr
  exact ⟨Blk.own_ h.kc hg hr,Blk.own_ h.kl hg hr,Blk.own_ h.kg hg hr,Blk.own_ h.ko hg hr,below_own_ h.below (Nat.le_refl _) (by have:=hI0.below.size;omega) hg hr⟩
 case round =>
  rintro l' pre i W K hi hnx hK
  have HNX:=Lib.hid hnx
  clear hnx hI0
  gi_wp2
  refine hK _ _ (KeepsOthers.refl _) hi ?_
  clear hK hi
  rintro Wb _ hm
  obtain ⟨hpre,hi7⟩:=HNX.out
  have hlen:pre.length=i:=by rw [hpre,List.length_range]
  rw [hlen] at hm
  have HLEN:=Lib.hid hlen
  have HI7:=Lib.hid hi7
  have hcb:=hm.kl.cell (k:=i) (by omega)
  have HM0:=Lib.hid hm
  have hi0:(0:Int)≤(i:Int):=by omega
  have hi1:(i:Int) < 7:=by omega
  clear hm hpre hi7 hlen
  gi_wp2_with (refine ⟨trivial,?_⟩;gi_at_call 131;refine (CallsIn.inRound l' (callsIn_wide.2 (H8.out i (Nat.lt_succ_of_lt HI7.out) Wb (HR.out.below HM0.out.below)))).mono ?_;rintro e w2 ⟨rfl,hb⟩;have HM1:=Lib.hid (HM0.out.later hb);have HB2:=Lib.hid hb;have hca:=HM1.out.kg.cell (k:=i) (Nat.lt_succ_of_lt HI7.out);have hza:=HM1.out.kg.frozen i;clear hb)
  have hg1:=HW1.out
  refine ⟨(keeps_of_below HB2.out).trans (KeepsOthers.setCell _ _ _),?_⟩
  have el:(pre++[i]).length=i+1:=by rw [List.length_append,HLEN.out];rfl
  show FitAt w gg (gg+1) c l r (pre++[i]).length _
  rw [el]
  have hbw:=HM1.out.below.size
  exact ⟨Blk.far HM1.out.kc (p:=⟨gg,i,none⟩) (by show w.heap.size≠gg;omega) _,Blk.far HM1.out.kl (p:=⟨gg,i,none⟩) (by show w.heap.size+1≠gg;omega) _,
   by rw [← mixC_upd];exact HM1.out.kg.set_ (Nat.lt_succ_of_lt HI7.out) (r i),Blk.far HM1.out.ko (p:=⟨gg,i,none⟩) (by show gg+1≠gg;omega) _,HM1.out.below.setCell (by show w.heap.size≤gg;omega) _⟩
 case done =>
  rintro D ys W hD hS hm hK
  rw [hS,List.length_range] at hm
  obtain ⟨q0,q1,q2,q3,q4,q5,q6,q7⟩:=hm.cells7
  obtain ⟨z0,z1,z2,z3,z4,z5,z6,z7⟩:=hm.kl.cells
  have HM0:=Lib.hid hm
  have HKD:=Lib.hid hK
  have hsz:w.heap.size≤WR.heap.size:=hI0.below.size
  have HDD:=Lib.hid (Nat.le_trans hsz hD)
  clear hS hm hK hI0 hsz
  have e7:=fun W=>eq7_top (r 0) (r 1) (r 2) (r 3) (r 4) (r 5) (r 6) (l 0) (l 1) (l 2) (l 3) (l 4) (l 5) (l 6) W
  have HC8:Hid (eqCT r l=(((r 0).toList==(l 0).toList&&((r 1).toList==(l 1).toList&&((r 2).toList==(l 2).toList&&((r 3).toList==(l 3).toList&&((r 4).toList==(l 4).toList&&((r 5).toList==(l 5).toList&&((r 6).toList==(l 6).toList)))))))&&(r 7).toList==(l 7).toList)):=Lib.hid rfl
  cases hb:((r 0).toList==(l 0).toList&&((r 1).toList==(l 1).toList&&((r 2).toList==(l 2).toList&&((r 3).toList==(l 3).toList&&((r 4).toList==(l 4).toList&&((r 5).toList==(l 5).toList&&((r 6).toList==(l 6).toList))))))) with
  | true =>
   rw [hb] at e7 HC8
   clear hb
   gi_wp2
   exact ⟨by simp,.inl ⟨_,_,rfl,run_takeDeferred HKD.out,⟨_,results_tmp2 rfl _ _ _,by rw [HC8.out];rfl,HM0.out.below.trans (belowK_b (w:=w) (Nat.le_refl _) _ D _ _ HDD.out HKD.out rfl rfl)⟩⟩⟩
  | false =>
   rw [hb] at e7 HC8
   clear hb
   gi_wp2
   exact ⟨by simp,.inl ⟨_,_,rfl,run_takeDeferred HKD.out,⟨_,results_tmp2 rfl _ _ _,by rw [HC8.out];rfl,HM0.out.below.trans (belowK_b (w:=w) (Nat.le_refl _) _ D _ _ HDD.out HKD.out rfl rfl)⟩⟩⟩
 case stop =>
  rintro D cd pre x' W hD _ h hK
  exact h.elim
def PowIs (n:Int) (a:ByteArray) (m:Int) (r:ByteArray):Prop:=∀ (h:Nat) (w:World),Res w→Blk w h 157 #[.int .i64 n]→Calls Tryz.prog 141 #[.pointer (some ⟨h,0,none⟩),.string a,.int .i64 m] w fun e w'=>e=.returned (.string r)∧Below w.heap.size w w'
def errOf (F L:ByteArray):Nat:=if errQ F.data.toList≠0 then errQ F.data.toList else if errQ L.data.toList≠0 then errQ L.data.toList else if cmpQ (valQ F.data.toList) 1 < 0∨errU L≠0 then 2 else 0
structure OfChk (w:World) (F L:ByteArray) (W:World):Prop where
 kf:Blk W w.heap.size 23 #[.string F]
 kz:CBlk W (w.heap.size+1) zC
 ks:Blk W (w.heap.size+1+1) 23 #[.string F,.string L]
 below:Below w.heap.size w W
theorem OfChk.later {w W W':World} {F L:ByteArray} (h:OfChk w F L W) (hb:Below W.heap.size W W'):OfChk w F L W' :=
 ⟨h.kf.below hb h.kf.lt,h.kz.later hb,h.ks.below hb h.ks.lt,h.below.trans (hb.mono h.below.size)⟩
theorem OfChk.new (w:World) (F L:ByteArray):OfChk w F L (((w.alloc (.cells #[.string F] 23)).alloc (cvO zC)).alloc (.cells #[.string F,.string L] 23)):=by
 have k1:=Blk.new w 23 #[.string F]
 have k2:=CBlk.new (w.alloc (.cells #[.string F] 23)) zC
 have k3:=Blk.new ((w.alloc (.cells #[.string F] 23)).alloc (cvO zC)) 23 #[.string F,.string L]
 rw [World.size_alloc] at k2
 rw [World.size_alloc,World.size_alloc] at k3
 exact ⟨(k1.alloc _).alloc _,k2.alloc _,k3,below_alloc (below_alloc (below_alloc (Below.refl _ _) _) _) _⟩
def two2 (F L:ByteArray):Nat→ByteArray:=fun k=>if k=0 then F else L
structure OfAt (w:World) (gh gn:Nat) (F nx:ByteArray) (r:CT) (m:Nat) (W:World):Prop where
 kf:Blk W w.heap.size 23 #[.string F]
 kz:CBlk W (w.heap.size+1) zC
 kh:Blk W gh 157 #[.int .i64 0]
 kn:Blk W gn 23 #[.string nx]
 ku:CBlk W (gn+1) (mixC (lastT (r 7)) r m)
 ko:CBlk W (gn+1+1) (lastT (r 7))
 below:Below w.heap.size w W
theorem OfAt.later {w W W':World} {gh gn:Nat} {F nx:ByteArray} {r:CT} {m:Nat} (h:OfAt w gh gn F nx r m W) (hb:Below W.heap.size W W'):OfAt w gh gn F nx r m W' :=
 ⟨h.kf.below hb h.kf.lt,h.kz.later hb,h.kh.below hb h.kh.lt,h.kn.below hb h.kn.lt,h.ku.later hb,h.ko.later hb,h.below.trans (hb.mono h.below.size)⟩
theorem OfAt.cells7 {w W:World} {gh gn:Nat} {F nx:ByteArray} {r:CT} (h:OfAt w gh gn F nx r 7 W):W.cell? ⟨gn+1,0,none⟩=some (.string (r 0))∧W.cell? ⟨gn+1,1,none⟩=some (.string (r 1))∧W.cell? ⟨gn+1,2,none⟩=some (.string (r 2))∧W.cell? ⟨gn+1,3,none⟩=some (.string (r 3)) ∧
  W.cell? ⟨gn+1,4,none⟩=some (.string (r 4))∧W.cell? ⟨gn+1,5,none⟩=some (.string (r 5))∧W.cell? ⟨gn+1,6,none⟩=some (.string (r 6))∧W.cell? ⟨gn+1,7,none⟩=some (.string (r 7)):=h.ku.cells
theorem curve_ret {F:Fence} {n:Nat} {fn:Func} {tmps:Array Value} {R:Ending→World→Prop} {p u:Tmp} {W w:World} {g:Nat} {z c:CT} (hres:fn.results=#[.cell p 59,.tmp u]) (hp:tmps.getD p undef=.pointer (some ⟨g,0,none⟩)) (hz:CBlk W g z)
  (hg:w.heap.size≤g) (hB:Below w.heap.size w W) (hR:∀ W',Below w.heap.size w W'→R (.returned (.tuple #[cv c,tmps.getD u undef])) W') :
  bodyPostM F n Tryz.prog fn R .ret { tmps:=tmps,defers:=[] } (fin8 W g c) :=
 leavesM_nil ⟨_,run_cell_tmp hres hp (load_curve (fin8_blk c hz)),hR _ (fin8_below hB hg c)⟩
theorem orders_last (F:Fence) (n:Nat) (hF:F.fn 151) (hro:F.round=none) (x:ByteArray) (w:World) :
  CallsIn F n Tryz.prog 151 #[.agg #[.string ⟨#[]⟩,.string ⟨#[]⟩,.string ⟨#[]⟩,.string ⟨#[]⟩,.string ⟨#[]⟩,.string ⟨#[]⟩,.string ⟨#[]⟩,.string x]] w fun e w'=>e=.returned (.func (.func 230) #[] #[.pointer (some ⟨w.heap.size,0,none⟩)]) ∧
   w'=w.alloc (.cells #[.string ⟨#[]⟩,.string ⟨#[]⟩,.string ⟨#[]⟩,.string ⟨#[]⟩,.string ⟨#[]⟩,.string ⟨#[]⟩,.string ⟨#[]⟩,.string x] 59):=orders_in F n hF hro (lastT x) w
structure OfCh (w:World) (gh:Nat) (F:ByteArray) (W:World):Prop where
 kf:Blk W w.heap.size 23 #[.string F]
 kz:CBlk W (w.heap.size+1) zC
 kh:Blk W gh 157 #[.int .i64 0]
 below:Below w.heap.size w W
theorem OfCh.later {w W W':World} {gh:Nat} {F:ByteArray} (h:OfCh w gh F W) (hb:Below W.heap.size W W'):OfCh w gh F W' :=
 ⟨h.kf.below hb h.kf.lt,h.kz.later hb,h.kh.below hb h.kh.lt,h.below.trans (hb.mono h.below.size)⟩
theorem OfChk.chain {w W:World} {F L:ByteArray} (h:OfChk w F L W):OfCh w W.heap.size F (W.alloc (.cells #[.int .i64 0] 157)) :=
 have hb:=below_alloc (Below.refl W.heap.size W) (.cells #[.int .i64 0] 157)
 ⟨h.kf.below hb h.kf.lt,h.kz.later hb,Blk.new W 157 #[.int .i64 0],h.below.trans (hb.mono h.below.size)⟩
theorem OfCh.at {w W:World} {gh:Nat} {F nx:ByteArray} {r:CT} (h:OfCh w gh F W):OfAt w gh W.heap.size F nx r 0 (((W.alloc (.cells #[.string nx] 23)).alloc (.cells #[.string ⟨#[]⟩,.string ⟨#[]⟩,.string ⟨#[]⟩,.string ⟨#[]⟩,.string ⟨#[]⟩,.string ⟨#[]⟩,.string ⟨#[]⟩,.string (r 7)] 59)).alloc (.cells #[.string ⟨#[]⟩,.string ⟨#[]⟩,.string ⟨#[]⟩,.string ⟨#[]⟩,.string ⟨#[]⟩,.string ⟨#[]⟩,.string ⟨#[]⟩,.string (r 7)] 59)):=by
 have hb:=below_alloc (below_alloc (below_alloc (Below.refl W.heap.size W) (.cells #[.string nx] 23)) (.cells #[.string ⟨#[]⟩,.string ⟨#[]⟩,.string ⟨#[]⟩,.string ⟨#[]⟩,.string ⟨#[]⟩,.string ⟨#[]⟩,.string ⟨#[]⟩,.string (r 7)] 59)) (.cells #[.string ⟨#[]⟩,.string ⟨#[]⟩,.string ⟨#[]⟩,.string ⟨#[]⟩,.string ⟨#[]⟩,.string ⟨#[]⟩,.string ⟨#[]⟩,.string (r 7)] 59)
 have k1:=((Blk.new W 23 #[.string nx]).alloc (.cells #[.string ⟨#[]⟩,.string ⟨#[]⟩,.string ⟨#[]⟩,.string ⟨#[]⟩,.string ⟨#[]⟩,.string ⟨#[]⟩,.string ⟨#[]⟩,.string (r 7)] 59)).alloc (.cells #[.string ⟨#[]⟩,.string ⟨#[]⟩,.string ⟨#[]⟩,.string ⟨#[]⟩,.string ⟨#[]⟩,.string ⟨#[]⟩,.string ⟨#[]⟩,.string (r 7)] 59)
 have k2:CBlk _ _ (lastT (r 7)):=(CBlk.new (W.alloc (.cells #[.string nx] 23)) (lastT (r 7))).alloc (.cells #[.string ⟨#[]⟩,.string ⟨#[]⟩,.string ⟨#[]⟩,.string ⟨#[]⟩,.string ⟨#[]⟩,.string ⟨#[]⟩,.string ⟨#[]⟩,.string (r 7)] 59)
 have k3:CBlk (((W.alloc (.cells #[.string nx] 23)).alloc (.cells #[.string ⟨#[]⟩,.string ⟨#[]⟩,.string ⟨#[]⟩,.string ⟨#[]⟩,.string ⟨#[]⟩,.string ⟨#[]⟩,.string ⟨#[]⟩,.string (r 7)] 59)).alloc (.cells #[.string ⟨#[]⟩,.string ⟨#[]⟩,.string ⟨#[]⟩,.string ⟨#[]⟩,.string ⟨#[]⟩,.string ⟨#[]⟩,.string ⟨#[]⟩,.string (r 7)] 59)) ((W.alloc (.cells #[.string nx] 23)).alloc (.cells #[.string ⟨#[]⟩,.string ⟨#[]⟩,.string ⟨#[]⟩,.string ⟨#[]⟩,.string ⟨#[]⟩,.string ⟨#[]⟩,.string ⟨#[]⟩,.string (r 7)] 59)).heap.size (lastT (r 7)):=CBlk.new ((W.alloc (.cells #[.string nx] 23)).alloc (.cells #[.string ⟨#[]⟩,.string ⟨#[]⟩,.string ⟨#[]⟩,.string ⟨#[]⟩,.string ⟨#[]⟩,.string ⟨#[]⟩,.string ⟨#[]⟩,.string (r 7)] 59)) (lastT (r 7))
 rw [World.size_alloc] at k2
 rw [World.size_alloc,World.size_alloc] at k3
 exact ⟨h.kf.below hb h.kf.lt,h.kz.later hb,h.kh.below hb h.kh.lt,k1,by rw [mixC_zero];exact k2,k3,h.below.trans (hb.mono h.below.size)⟩
def ofRes (r:CT) (n:Nat):Value:=if n=0 then .tuple #[cv r,.int .i64 0] else .tuple #[cv zC,.int .i64 (n:Int)]
theorem ofRes_ok (r:CT):ofRes r 0=.tuple #[cv r,.int .i64 0]:=rfl
theorem ofRes_no (r:CT) {n:Nat} (h:n≠0):ofRes r n=.tuple #[cv zC,.int .i64 (n:Int)]:=if_neg h
theorem mof_walk (F L nx:ByteArray) (x y s r:CT) (w:World) (hF:F.size≤270000) (hL:L.size≤270000) (hr:Res w) (hr7:r 7=L)
  (HN:Hid (errOf F L=0→DoIs 0 107 F ⟨#[49]⟩ nx)) (HX:Hid (errOf F L=0→∀ i:Nat,i < 7→PowIs 0 F ((i:Int)+2) (x i))) (HY:Hid (errOf F L=0→∀ i:Nat,i < 7→PowIs 0 F (1 - ((i:Int)+2)) (y i)))
  (HS:Hid (errOf F L=0→∀ i:Nat,i < 7→DoIs 0 107 (x i) (y i) (s i))) (HD:Hid (errOf F L=0→∀ i:Nat,i < 7→DoIs 0 133 (s i) nx (r i))) :
  Calls Tryz.prog 62 #[.string F,.string L] w fun e w'=>e=.returned (ofRes r (errOf F L))∧Below w.heap.size w w':=by
 subst hr7
 have H0:=Lib.hid (OfChk.new w F (r 7))
 have HR:=Lib.hid hr
 have HSZ:=Lib.hid (And.intro hF hL)
 clear hr hF hL
 refine (callsIn_wide (n:=3)).1 ?_
 have h1:1≤3:=by omega
 have hmx:Tryz.prog.follows .mixedOrders=true:=by kernel_rfl
 refine callsIn_of_wp_marks Tryz.func62 rfl trivial ?_ rfl
 simp only [Tryz.ntmps62,List.size_toArray,List.length_cons,List.length_nil,Nat.reduceAdd,Nat.reduceSub,Array.replicate_succ,Array.replicate_zero,List.push_toArray,List.append_toArray,List.nil_append,List.cons_append]
 gi_wp2
 gi_loopw [19] (fun v19 wr=>∃ k:Nat,k≤2∧v19=.int .i64 (k:Int)∧Hid (∀ j,j < k→errQ (two2 F (r 7) j).data.toList=0)∧Hid (OfChk w F (r 7) wr)) (fun v19 _=>2 - (intOf v19).toNat)
 case atStart=>exact ⟨0,by omega,rfl,Lib.hid (fun j h=>absurd h (by omega)),H0⟩
 case round =>
  obtain ⟨k,hk,rfl,HE,HM⟩:=hrel
  clear H0
  rcases Nat.lt_or_ge k 2 with hlt|hge
  ·have hck:wr.cell? ⟨w.heap.size+1+1,k,none⟩=some (.string (two2 F (r 7) k)):=by
    have:=cells2 HM.out.ks
    match k,hlt with
    | 0,_=>exact this.1
    | 1,_=>exact this.2
   have hlt':(k:Int) < 2:=by omega
   have hsz:(two2 F (r 7) k).size≤270000:=by
    unfold two2
    split
    ·exact HSZ.out.1
    ·exact HSZ.out.2
   have hF:=ratCheck_any (two2 F (r 7) k) wr hsz (HR.out.below HM.out.below)
   by_cases he:errQ (two2 F (r 7) k).data.toList=0
   ·rw [he] at hF
    have HF:=Lib.hid hF
    have HE1:=Lib.hid he
    clear hF he hsz
    gi_wp2_with (refine ⟨trivial,?_⟩;gi_at_call 138;refine (callsIn_wide.2 HF.out).mono ?_;rintro e w1 ⟨rfl,hb⟩;have HM1:=Lib.hid (HM.out.later hb);clear hb)
    go_roundw
    case rel=>exact ⟨k+1,hlt,by go_num,Lib.hid (fun j hj=>by
     rcases Nat.lt_or_ge j k with h|h
     ·exact HE.out j h
     ·obtain rfl:j=k:=by omega
      exact HE1.out),HM1⟩
    case measure=>simp [intOf];omega
   ·have HEO:Hid (errOf F (r 7)=errQ (two2 F (r 7) k).data.toList):=Lib.hid (by
     unfold errOf
     match k,hlt,HE,he with
     | 0,_,_,he=>exact if_pos he
     | 1,_,HE,he =>
      have h0:errQ F.data.toList=0:=HE.out 0 (by omega)
      rw [if_neg (by omega)]
      exact if_pos he)
    obtain ⟨z,hz⟩:∃ z:Int,(errQ (two2 F (r 7) k).data.toList:Int)=z:=⟨_,rfl⟩
    rw [hz] at hF
    have hne:(z==0)=false:=by rw [beq_eq_false_iff_ne];omega
    have HRS:Hid (ofRes r (errOf F (r 7))=.tuple #[cv zC,.int .i64 z]):=Lib.hid (by rw [HEO.out,ofRes_no r he,hz])
    have HF:=Lib.hid hF
    clear hF he hz hsz
    gi_wp2_with (refine ⟨trivial,?_⟩;gi_at_call 138;refine (callsIn_wide.2 HF.out).mono ?_;rintro e w1 ⟨rfl,hb⟩;have HM1:=Lib.hid (HM.out.later hb);obtain ⟨z0,z1,z2,z3,z4,z5,z6,z7⟩:=HM1.out.kz.cells;obtain ⟨y0,y1,y2,y3,y4,y5,y6,y7⟩:=HM1.out.kz.frozens;clear hb)
    exact curve_ret (g:=w.heap.size+1) (c:=zC) rfl rfl HM1.out.kz (Nat.le_succ _) HM1.out.below (fun W' h=>⟨by rw [HRS.out];rfl,h⟩)
  ·obtain rfl:k=2:=by omega
   have he0:errQ F.data.toList=0:=HE.out 0 (by omega)
   have he1:errQ (r 7).data.toList=0:=HE.out 1 (by omega)
   have TF:=IsT.of he0
   have TL:=IsT.of he1
   have eo:errOf F (r 7)=if cmpQ (valQ F.data.toList) 1 < 0∨errU (r 7)≠0 then 2 else 0:=by
    unfold errOf
    rw [if_neg (by omega),if_neg (by omega)]
   have hcf:=cell0 HM.out.kf
   have HL:=Lib.hid (mleast_any wr TF (HR.out.below HM.out.below))
   have HBW:=Lib.hid (fun (w:World) hr=>between_any w TL hr)
   have HEO:=Lib.hid eo
   clear HE he0 he1 TF TL eo hk hge
   generalize hkk:cmpQ (valQ F.data.toList) 1=kk at HL HEO
   clear hkk
   by_cases hk0:0≤kk
   ·have d1:decide (0≤kk)=true:=decide_eq_true hk0
    have n1:¬ kk < 0:=by omega
    by_cases hu:errU (r 7)=0
    ·rw [hu] at HBW
     have e0:errOf F (r 7)=0:=by
      rw [HEO.out,if_neg]
      rintro (h|h)
      ·exact n1 h
      ·exact h hu
     have HN:=Lib.hid (HN.out e0)
     have HX:=Lib.hid (HX.out e0)
     have HY:=Lib.hid (HY.out e0)
     have HS:=Lib.hid (HS.out e0)
     have HD:=Lib.hid (HD.out e0)
     have HRS:Hid (ofRes r (errOf F (r 7))=.tuple #[cv r,.int .i64 0]):=Lib.hid (by rw [e0];rfl)
     clear hk0 n1 hu HEO e0
     gi_wp2_with (first
      | (refine ⟨trivial,?_⟩;gi_at_call 139;refine (callsIn_wide.2 HL.out).mono ?_;rintro e w1 ⟨rfl,hb⟩;have HM1:=Lib.hid (HM.out.later hb);clear hb)
      | (refine ⟨trivial,?_⟩;gi_at_call 158;refine (callsIn_wide.2 (HBW.out _ (HR.out.below HM1.out.below))).mono ?_;rintro e w2 ⟨rfl,hb⟩;have HM2:=Lib.hid (HM1.out.later hb);have hcf2:=cell0 HM2.out.kf;have hlf2:=HM2.out.kf.lt;clear hb hcf))
     have TK0:True:=trivial
     have H3:=Lib.hid HM2.out.chain
     gi_wp2_with ((clear TK0;refine ⟨trivial,?_⟩;gi_at_call 140;refine (callsIn_wide.2 (HN.out w2.heap.size _ (HR.out.below H3.out.below) H3.out.kh)).mono ?_;rintro e w3 ⟨rfl,hb⟩;have H4:=Lib.hid (H3.out.later hb);clear hb hcf2))
     gi_wp2_with (refine ⟨trivial,?_⟩;gi_at_call 151;refine (orders_last Fence.wide 2 trivial rfl (r 7) _).mono ?_;rintro e w' ⟨rfl,rfl⟩)
     have hI0:OfAt w w2.heap.size w3.heap.size F nx r 0 _:=H4.out.at
     have hw2:=HM2.out.kz.lt
     have hw3:=H4.out.kh.lt
     clear H3 H4 HM2 HM1 HM
     generalize ((w3.alloc (.cells #[.string nx] 23)).alloc (.cells #[.string ⟨#[]⟩,.string ⟨#[]⟩,.string ⟨#[]⟩,.string ⟨#[]⟩,.string ⟨#[]⟩,.string ⟨#[]⟩,.string ⟨#[]⟩,.string (r 7)] 59)).alloc (.cells #[.string ⟨#[]⟩,.string ⟨#[]⟩,.string ⟨#[]⟩,.string ⟨#[]⟩,.string ⟨#[]⟩,.string ⟨#[]⟩,.string ⟨#[]⟩,.string (r 7)] 59)=WR at *
     generalize w2.heap.size=gh at *
     generalize w3.heap.size=gn at *
     have HW1:=Lib.hid (And.intro hw2 hw3)
     refine wpIn_range_ord rfl h1 (gf:=230) (lb:=#[.pointer (some ⟨gn+1+1,0,none⟩)]) rfl trivial eg_orders
      (orders_seq Fence.wide 2 trivial rfl (by omega) (gn+1+1) (lastT (r 7))) (fun _=>rfl)
      (fun pre W=>OfAt w gh gn F nx r pre.length W) (fun _ _ _=>False)
      ?hG ?hI (fun _ _ _ _ _ hs _ _=>hs) hI0 ?round ?done ?stop
     case hG=>rintro pre W h;exact h.ko
     case hI =>
      rintro s W W' row h hg hr
      exact ⟨Blk.own_ h.kf hg hr,Blk.own_ h.kz hg hr,Blk.own_ h.kh hg hr,Blk.own_ h.kn hg hr,Blk.own_ h.ku hg hr,Blk.own_ h.ko hg hr,below_own_ h.below (Nat.le_refl _) (by have:=hI0.below.size;omega) hg hr⟩
     case round =>
      rintro l pre i W K hi hnx hK
      have HNX:=Lib.hid hnx
      clear hnx hI0
      gi_wp2
      refine hK _ _ (KeepsOthers.refl _) hi ?_
      clear hK hi
      rintro Wb _ hm
      obtain ⟨hpre,hi7⟩:=HNX.out
      have hlen:pre.length=i:=by rw [hpre,List.length_range]
      rw [hlen] at hm
      have HLEN:=Lib.hid hlen
      have HI7:=Lib.hid hi7
      have hcf:=cell0 hm.kf
      have HM0:=Lib.hid hm
      have hi0:(0:Int)≤(i:Int):=by omega
      have hi1:(i:Int) < 7:=by omega
      have TK1:True:=trivial
      clear hm hpre hi7 hlen
      gi_wp2_with ((clear TK1;refine ⟨trivial,?_⟩;gi_at_call 141;refine (CallsIn.inRound l (callsIn_wide.2 (HX.out i HI7.out gh Wb (HR.out.below HM0.out.below) HM0.out.kh))).mono ?_;rintro e w5 ⟨rfl,hb⟩;have HM1:=Lib.hid (HM0.out.later hb);have HB1:=Lib.hid hb;have hcg:=cell0 HM1.out.kf;clear hb hcf))
      have TK2:True:=trivial
      gi_wp2_with ((clear TK2;refine ⟨trivial,?_⟩;gi_at_call 141;refine (CallsIn.inRound l (callsIn_wide.2 (HY.out i HI7.out gh w5 (HR.out.below HM1.out.below) HM1.out.kh))).mono ?_;rintro e w6 ⟨rfl,hb⟩;have HM2:=Lib.hid (HM1.out.later hb);have HB2:=Lib.hid (HB1.out.trans (hb.mono HB1.out.size));clear hb hcg))
      gi_upto_region 17 with fail
      have hln:=HM2.out.kn.lt
      have xn:∀ x:SameAt w6 (fun k=>k < w6.heap.size∧k≠gn+1),x.W.cell? ⟨gn,0,none⟩=some (.string nx):=fun x=>x.cell ⟨hln,by omega⟩ (cell0 HM2.out.kn)
      clear hln
      refine wpIn_stage (IsSame w6 (fun k=>k < w6.heap.size∧k≠gn+1)) [0,1,2,3,5,7,8] [] hmx (by kernel_rfl) (isSame_of fun _ _=>rfl) ?_
      change wpStage _ _ _ _ _ _ _ _ (4+6) _ _ _
      refine stage_reads [0,1,2,3,5,7] 4 _ _ (by kernel_rfl) ?_
      change wpQuietIn _ _ _ _ (fun W'=>∃ x:SameAt w6 (fun k=>k < w6.heap.size∧k≠gn+1),W'=x.W) _ _ _
      simp only [pick_cons,pick_nil,List.getElem?_cons_zero,List.getElem?_cons_succ,Option.elim_some]
      repeat (gi_big_quiet_step (fail))
      refine wpQuietIn_nil ?_
      have HD0:=Lib.hid (HM2.out.later (below_drew (Below.refl w6.heap.size w6)))
      refine stage_one 4 (by kernel_rfl) rfl ?_
      gi_wp2
      refine ⟨trivial,?_⟩
      refine (CallsIn.inRound l (callsIn_wide.2 (HS.out i HI7.out gh w6.drew (HR.out.below HD0.out.below) HD0.out.kh))).mono ?_
      rintro e w20 ⟨rfl,hb⟩
      have H20:=Lib.hid (HD0.out.later hb)
      have B20:=Lib.hid (below_undrew hb)
      clear hb
      gi_wp2
      refine stage_post (isSame_below B20.out (fun k hk=>hk.1)) ?_
      refine stage_one 6 (by kernel_rfl) rfl ?_
      gi_wp2
      refine ⟨trivial,?_⟩
      refine (CallsIn.inRound l (callsIn_wide.2 (HD.out i HI7.out gh w20 (HR.out.below H20.out.below) H20.out.kh))).mono ?_
      rintro e w21 ⟨rfl,hb⟩
      have H21:=Lib.hid (H20.out.later hb)
      have B21:=Lib.hid (B20.out.trans (hb.mono B20.out.size))
      have hcu:=H21.out.ku.cell (k:=i) (Nat.lt_succ_of_lt HI7.out)
      have hfu:=H21.out.ku.frozen i
      clear hb xn
      gi_wp2
      refine stage_post (isSame_below B21.out (fun k hk=>hk.1)) ?_
      change wpStage _ _ _ _ _ _ _ _ (1+1) _ _ _
      refine stage_reads [8] 1 _ _ (by kernel_rfl) ?_
      change wpQuietIn _ _ _ _ (fun W'=>∃ x:SameAt w6 (fun k=>k < w6.heap.size∧k≠gn+1),W'=x.W) _ _ _
      simp only [pick_cons,pick_nil,List.getElem?_cons_zero,List.getElem?_cons_succ,Option.elim_some]
      repeat (gi_big_quiet_step (fail))
      refine wpQuietIn_nil ?_
      refine stage_one 9 (by kernel_rfl) rfl ?_
      gi_wp2
      refine stage_post (isSame_of fun j hj=>(set_far _ (p:=⟨gn+1,i,none⟩) hj.2 _).trans (B21.out.block j hj.1)) ?_
      refine stage_done (by kernel_rfl) ?_
      gi_wp2
      obtain ⟨hg1,hg2⟩:=HW1.out
      refine ⟨(keeps_of_below (HB2.out.trans (B21.out.mono HB2.out.size))).trans (KeepsOthers.setCell _ _ _),?_⟩
      have el:(pre++[i]).length=i+1:=by rw [List.length_append,HLEN.out];rfl
      show OfAt w gh gn F nx r (pre++[i]).length _
      rw [el]
      exact ⟨Blk.far H21.out.kf (p:=⟨gn+1,i,none⟩) (by show w.heap.size≠gn+1;omega) _,Blk.far H21.out.kz (p:=⟨gn+1,i,none⟩) (by show w.heap.size+1≠gn+1;omega) _,Blk.far H21.out.kh (p:=⟨gn+1,i,none⟩) (by show gh≠gn+1;omega) _,
       Blk.far H21.out.kn (p:=⟨gn+1,i,none⟩) (by show gn≠gn+1;omega) _,by rw [← mixC_upd];exact H21.out.ku.set_ (Nat.lt_succ_of_lt HI7.out) (r i),Blk.far H21.out.ko (p:=⟨gn+1,i,none⟩) (by show gn+1+1≠gn+1;omega) _,H21.out.below.setCell (by show w.heap.size≤gn+1;omega) _⟩
     case done =>
      rintro D ys W hD hS hm hK
      rw [hS,List.length_range] at hm
      have HM0:=Lib.hid hm
      have HKD:=Lib.hid hK
      obtain ⟨q0,q1,q2,q3,q4,q5,q6,q7⟩:=hm.cells7
      obtain ⟨z0,z1,z2,z3,z4,z5,z6,z7⟩:=hm.kz.cells
      obtain ⟨y0,y1,y2,y3,y4,y5,y6,y7⟩:=hm.kz.frozens
      have ch:=cell0 hm.kh
      have HDD:=Lib.hid (Nat.le_trans hI0.below.size hD)
      clear hS hm hK hI0
      gi_wp2
      exact curve_end (W:=W) (g:=w.heap.size+1) (c:=r) rfl rfl HM0.out.kz HDD.out HKD.out (Nat.le_succ _) HM0.out.below (fun W' h=>⟨by rw [HRS.out];rfl,h⟩)
     case stop =>
      rintro D cd pre x' W hD _ h hK
      exact h.elim
    ·have e2:errOf F (r 7)=2:=by rw [HEO.out,if_pos (.inr hu)]
     have HRS:Hid (ofRes r (errOf F (r 7))=.tuple #[cv zC,.int .i64 2]):=Lib.hid (by rw [e2];rfl)
     obtain ⟨z,hz⟩:∃ z:Int,(errU (r 7):Int)=z:=⟨_,rfl⟩
     rw [hz] at HBW
     have hne:(z==0)=false:=by rw [beq_eq_false_iff_ne];omega
     clear hk0 n1 hu HEO e2 hz HN HX HY HS HD
     gi_wp2_with (first
      | (refine ⟨trivial,?_⟩;gi_at_call 139;refine (callsIn_wide.2 HL.out).mono ?_;rintro e w1 ⟨rfl,hb⟩;have HM1:=Lib.hid (HM.out.later hb);clear hb)
      | (refine ⟨trivial,?_⟩;gi_at_call 158;refine (callsIn_wide.2 (HBW.out _ (HR.out.below HM1.out.below))).mono ?_;rintro e w2 ⟨rfl,hb⟩;have HM2:=Lib.hid (HM1.out.later hb);obtain ⟨z0,z1,z2,z3,z4,z5,z6,z7⟩:=HM2.out.kz.cells;obtain ⟨y0,y1,y2,y3,y4,y5,y6,y7⟩:=HM2.out.kz.frozens;clear hb hcf))
     exact curve_ret (g:=w.heap.size+1) (c:=zC) rfl rfl HM2.out.kz (Nat.le_succ _) HM2.out.below (fun W' h=>⟨by rw [HRS.out];rfl,h⟩)
   ·have d1:decide (0≤kk)=false:=decide_eq_false hk0
    have e2:errOf F (r 7)=2:=by rw [HEO.out,if_pos (.inl (by omega))]
    have HRS:Hid (ofRes r (errOf F (r 7))=.tuple #[cv zC,.int .i64 2]):=Lib.hid (by rw [e2];rfl)
    clear hk0 HEO e2 HN HX HY HS HD HBW
    gi_wp2_with (first|(refine ⟨trivial,?_⟩;gi_at_call 139;refine (callsIn_wide.2 HL.out).mono ?_;rintro e w1 ⟨rfl,hb⟩;have HM1:=Lib.hid (HM.out.later hb);obtain ⟨z0,z1,z2,z3,z4,z5,z6,z7⟩:=HM1.out.kz.cells;obtain ⟨y0,y1,y2,y3,y4,y5,y6,y7⟩:=HM1.out.kz.frozens;clear hb hcf)|(refine ⟨trivial,?_⟩))
    exact curve_ret (g:=w.heap.size+1) (c:=zC) rfl rfl HM1.out.kz (Nat.le_succ _) HM1.out.below (fun W' h=>⟨by rw [HRS.out];rfl,h⟩)
end Go.Proofs.YtigapglmipmbeaaGreatDoor
namespace Go.Proofs.YtigapglmipmbeaaGreatDoor
open Go.RowKit Go.Shelf
open Lim
abbrev L2:=ByteArray × ByteArray
def LRow (w:World) (v:Value) (ls:List L2):Prop :=
 ∃ A c,v=.slice A ls.length c∧ls.length≤1000∧(0 < ls.length→∃ b o,A=some ⟨b,o,none⟩∧b < w.heap.size ∧
  ∀ (j:Nat) (x:L2),ls[j]?=some x→w.cell? ⟨b,o+j*2,none⟩=some (.string x.1)∧w.cell? ⟨b,o+j*2+1,none⟩=some (.string x.2))
theorem LRow.below {w w':World} {v:Value} {ls:List L2} (h:LRow w v ls) (hb:Below w.heap.size w w'):LRow w' v ls:=by
 obtain ⟨A,c,e,h1,h2⟩:=h
 refine ⟨A,c,e,h1,fun h0=>?_⟩
 obtain ⟨b,o,e2,hlt,hc⟩:=h2 h0
 refine ⟨b,o,e2,Nat.lt_of_lt_of_le hlt hb.size,fun j x hj=>?_⟩
 obtain ⟨c0,c1⟩:=hc j x hj
 exact ⟨by rw [hb.cell (p:=⟨b,o+j*2,none⟩) hlt];exact c0,by rw [hb.cell (p:=⟨b,o+j*2+1,none⟩) hlt];exact c1⟩
theorem LRow.nil (w:World) (A:Option Addr) (c:Nat):LRow w (.slice A 0 c) []:=⟨A,c,rfl,by simp,fun h=>absurd h (by simp)⟩
theorem LRow.one {w:World} {b:Nat} {t:TypeId} {f d:ByteArray} (h:Blk w b t #[.string f,.string d]):LRow w (.slice (some ⟨b,0,none⟩) 1 1) [(f,d)]:=by
 refine ⟨_,_,rfl,by simp,fun _=>⟨b,0,rfl,h.lt,fun j x hj=>?_⟩⟩
 match j with
 | 0=>cases hj;exact cells2 h
 | j+1=>simp at hj
theorem LRow.two {w:World} {b:Nat} {t:TypeId} {f d f' d':ByteArray} (h:Blk w b t #[.string f,.string d,.string f',.string d']):LRow w (.slice (some ⟨b,0,none⟩) 2 2) [(f,d),(f',d')]:=by
 refine ⟨_,_,rfl,by simp,fun _=>⟨b,0,rfl,h.lt,fun j x hj=>?_⟩⟩
 match j with
 | 0=>cases hj;exact ⟨(cellrow h 0 (by simp)).1,(cellrow h 1 (by simp)).1⟩
 | 1=>cases hj;exact ⟨(cellrow h 2 (by simp)).1,(cellrow h 3 (by simp)).1⟩
 | j+2=>simp at hj
def Short (ls:List L2):Prop:=∀ x∈ls,x.1.size≤270000∧x.2.size≤270000
theorem none_any (w:World):Calls Tryz.prog 144 #[] w fun e w'=>e=.returned (.agg #[.string ⟨#[49]⟩,.string ⟨#[48]⟩])∧Below w.heap.size w w':=by
 have HX:=Lib.hid (below_alloc (Below.refl w.heap.size w) (.cells #[.string ⟨#[]⟩,.string ⟨#[]⟩] 63))
 have HK:=Lib.hid (Blk.new w 63 #[.string ⟨#[]⟩,.string ⟨#[]⟩])
 go_enter Tryz.func144,Tryz.ntmps144
 go_wp2
 have hk:=(HK.out.set_ 0 (.string ⟨#[49]⟩)).set_ 1 (.string ⟨#[48]⟩)
 first
  | exact bodyPost_ret (run_cell rfl rfl (load_loss hk)) rfl ⟨rfl,(HX.out.setCell (Nat.le_refl _) _).setCell (Nat.le_refl _) _⟩
  | (refine bodyPost_ret (run_cell rfl rfl (load_loss (Blk.new w 63 #[.string ⟨#[49]⟩,.string ⟨#[48]⟩]))) rfl ⟨rfl,below_alloc (Below.refl w.heap.size w) _⟩)
theorem Blk.two_set {w:World} {b:Nat} {t:TypeId} {u v x y:Value} (h:Blk w b t #[u,v]):Blk ((w.setCell ⟨b,0,none⟩ x).setCell ⟨b,1,none⟩ y) b t #[x,y]:=(h.set_ 0 x).set_ 1 y
end Go.Proofs.YtigapglmipmbeaaGreatDoor
namespace Go.Proofs.YtigapglmipmbeaaGreatDoor
open Go.RowKit Go.Shelf
open Lim
attribute [local go_sem] Oper.semAt_some
structure ToAt (w:World) (c:CT) (W:World):Prop where
 kc:CBlk W w.heap.size c
 kz:Blk W (w.heap.size+1) 63 #[.string ⟨#[]⟩,.string ⟨#[]⟩]
 below:Below w.heap.size w W
theorem ToAt.later {w W W':World} {c:CT} (h:ToAt w c W) (hb:Below W.heap.size W W'):ToAt w c W' :=
 ⟨h.kc.later hb,h.kz.below hb h.kz.lt,h.below.trans (hb.mono h.below.size)⟩
theorem ToAt.new (w:World) (c:CT):ToAt w c ((w.alloc (cvO c)).alloc (.cells #[.string ⟨#[]⟩,.string ⟨#[]⟩] 63)):=by
 have k1:=(CBlk.new w c).alloc (.cells #[.string ⟨#[]⟩,.string ⟨#[]⟩] 63)
 have k2:=Blk.new (w.alloc (cvO c)) 63 #[.string ⟨#[]⟩,.string ⟨#[]⟩]
 rw [World.size_alloc] at k2
 exact ⟨k1,k2,below_alloc (below_alloc (Below.refl _ _) _) _⟩
structure ToCh (w:World) (gh:Nat) (c:CT) (W:World):Prop where
 kc:CBlk W w.heap.size c
 kz:Blk W (w.heap.size+1) 63 #[.string ⟨#[]⟩,.string ⟨#[]⟩]
 kh:Blk W gh 157 #[.int .i64 0]
 below:Below w.heap.size w W
theorem ToCh.later {w W W':World} {gh:Nat} {c:CT} (h:ToCh w gh c W) (hb:Below W.heap.size W W'):ToCh w gh c W' :=
 ⟨h.kc.later hb,h.kz.below hb h.kz.lt,h.kh.below hb h.kh.lt,h.below.trans (hb.mono h.below.size)⟩
theorem ToAt.chain {w W:World} {c:CT} (h:ToAt w c W):ToCh w W.heap.size c (W.alloc (.cells #[.int .i64 0] 157)) :=
 have hb:=below_alloc (Below.refl W.heap.size W) (.cells #[.int .i64 0] 157)
 ⟨h.kc.later hb,h.kz.below hb h.kz.lt,Blk.new W 157 #[.int .i64 0],h.below.trans (hb.mono h.below.size)⟩
theorem loss_ret {F:Fence} {n:Nat} {fn:Func} {tmps:Array Value} {R:Ending→World→Prop} {p u:Tmp} {W w:World} {g:Nat} {x y a b:ByteArray} (hres:fn.results=#[.cell p 63,.tmp u]) (hp:tmps.getD p undef=.pointer (some ⟨g,0,none⟩)) (hz:Blk W g 63 #[.string x,.string y])
  (hg:w.heap.size≤g) (hB:Below w.heap.size w W) (hR:∀ W',Below w.heap.size w W'→R (.returned (.tuple #[.agg #[.string a,.string b],tmps.getD u undef])) W') :
  bodyPostM F n Tryz.prog fn R .ret { tmps:=tmps,defers:=[] } ((W.setCell ⟨g,0,none⟩ (.string a)).setCell ⟨g,1,none⟩ (.string b)) :=
 leavesM_nil ⟨_,run_cell_tmp hres hp (load_loss hz.two_set),hR _ ((hB.setCell (p:=⟨g,0,none⟩) hg _).setCell (p:=⟨g,1,none⟩) hg _)⟩
theorem mto_e4 (c:CT) (i:Nat) (hi:i < 7) (F:ByteArray) (hs:F.size≤270000) (hn:errCT c=0) (n:Int) (hf:(errQ F.data.toList:Int)=n) (hne:(n==0)=false) (w:World) (hc:SmC c) (hr:Res w) :
  Calls Tryz.prog 53 #[cv c,.int .i64 ((i:Int)+2),.string F] w fun e w'=>e=.returned (.tuple #[.agg #[.string ⟨#[]⟩,.string ⟨#[]⟩],.int .i64 n])∧Below w.heap.size w w':=by
 have H0:=Lib.hid (ToAt.new w c)
 have HR:=Lib.hid hr
 have HC:=Lib.hid (fun (w:World) hr=>mcheck_walk c w hc hr)
 obtain ⟨c0,c1,c2,c3,c4,c5,c6,c7⟩:=H0.out.kc.cells
 clear hr hc
 rw [hn] at HC
 have HF:=Lib.hid (fun (w:World) hr=>ratCheck_any F w hs hr)
 rw [hf] at HF
 have hi0:(0:Int)≤(i:Int):=by omega
 have hi1:(i:Int) < 7:=by omega
 have d1:decide ((i:Int)+2 < 2)=false:=decide_eq_false (by omega)
 have d2:decide (8 < (i:Int)+2)=false:=decide_eq_false (by omega)
 clear hn hs hf hi
 have TK0:True:=trivial
 have TK1:True:=trivial
 refine (callsIn_wide (n:=3)).1 ?_
 have h1:1≤3:=by omega
 have hmx:Tryz.prog.follows .mixedOrders=true:=by kernel_rfl
 refine callsIn_of_wp_marks Tryz.func53 rfl trivial ?_ rfl
 simp only [Tryz.ntmps53,List.size_toArray,List.length_cons,List.length_nil,Nat.reduceAdd,Nat.reduceSub,Array.replicate_succ,Array.replicate_zero,List.push_toArray,List.append_toArray,List.nil_append,List.cons_append]
 gi_wp2_with ((clear TK0;refine ⟨trivial,?_⟩;gi_at_call 137;refine (callsIn_wide.2 (HC.out _ (HR.out.below H0.out.below))).mono ?_;rintro e w1 ⟨rfl,hb⟩;have H1:=Lib.hid (H0.out.later hb); clear hb c0 c1 c2 c3 c4 c5 c6 c7))
 gi_wp2_with ((clear TK1;refine ⟨trivial,?_⟩;gi_at_call 138;refine (callsIn_wide.2 (HF.out _ (HR.out.below H1.out.below))).mono ?_;rintro e w2 ⟨rfl,hb⟩;have H2:=Lib.hid (H1.out.later hb);obtain ⟨q0,q1⟩:=cells2 H2.out.kz;have z0:=H2.out.kz.frozen 0;have z1:=H2.out.kz.frozen 1;clear hb))
 exact loss_ret (g:=w.heap.size+1) rfl rfl H2.out.kz (Nat.le_succ _) H2.out.below (fun W' h=>⟨rfl,h⟩)
theorem mto_e5 (c:CT) (i:Nat) (hi:i < 7) (F:ByteArray) (hs:F.size≤270000) (hn:errCT c=0) (hf:errQ F.data.toList=0) (hl:cmpQ (valQ F.data.toList) 1 < 0) (w:World) (hc:SmC c) (hr:Res w) :
  Calls Tryz.prog 53 #[cv c,.int .i64 ((i:Int)+2),.string F] w fun e w'=>e=.returned (.tuple #[.agg #[.string ⟨#[]⟩,.string ⟨#[]⟩],.int .i64 2])∧Below w.heap.size w w':=by
 have H0:=Lib.hid (ToAt.new w c)
 have HR:=Lib.hid hr
 have HC:=Lib.hid (fun (w:World) hr=>mcheck_walk c w hc hr)
 obtain ⟨c0,c1,c2,c3,c4,c5,c6,c7⟩:=H0.out.kc.cells
 clear hr hc
 rw [hn] at HC
 have HF:=Lib.hid (fun (w:World) hr=>ratCheck_any F w hs hr)
 rw [hf] at HF
 have HL:=Lib.hid (fun (w:World) hr=>mleast_any w (IsT.of hf) hr)
 rw [decide_eq_false (show ¬ 0≤cmpQ (valQ F.data.toList) 1 by omega)] at HL
 have hi0:(0:Int)≤(i:Int):=by omega
 have hi1:(i:Int) < 7:=by omega
 have d1:decide ((i:Int)+2 < 2)=false:=decide_eq_false (by omega)
 have d2:decide (8 < (i:Int)+2)=false:=decide_eq_false (by omega)
 clear hn hs hf hi hl
 have TK0:True:=trivial
 have TK1:True:=trivial
 have TK2:True:=trivial
 refine (callsIn_wide (n:=3)).1 ?_
 have h1:1≤3:=by omega
 have hmx:Tryz.prog.follows .mixedOrders=true:=by kernel_rfl
 refine callsIn_of_wp_marks Tryz.func53 rfl trivial ?_ rfl
 simp only [Tryz.ntmps53,List.size_toArray,List.length_cons,List.length_nil,Nat.reduceAdd,Nat.reduceSub,Array.replicate_succ,Array.replicate_zero,List.push_toArray,List.append_toArray,List.nil_append,List.cons_append]
 gi_wp2_with ((clear TK0;refine ⟨trivial,?_⟩;gi_at_call 137;refine (callsIn_wide.2 (HC.out _ (HR.out.below H0.out.below))).mono ?_;rintro e w1 ⟨rfl,hb⟩;have H1:=Lib.hid (H0.out.later hb); clear hb c0 c1 c2 c3 c4 c5 c6 c7))
 gi_wp2_with ((clear TK1;refine ⟨trivial,?_⟩;gi_at_call 138;refine (callsIn_wide.2 (HF.out _ (HR.out.below H1.out.below))).mono ?_;rintro e w2 ⟨rfl,hb⟩;have H2:=Lib.hid (H1.out.later hb); clear hb))
 gi_wp2_with ((clear TK2;refine ⟨trivial,?_⟩;gi_at_call 139;refine (callsIn_wide.2 (HL.out _ (HR.out.below H2.out.below))).mono ?_;rintro e w3 ⟨rfl,hb⟩;have H3:=Lib.hid (H2.out.later hb);obtain ⟨q0,q1⟩:=cells2 H3.out.kz;have z0:=H3.out.kz.frozen 0;have z1:=H3.out.kz.frozen 1;clear hb))
 exact loss_ret (g:=w.heap.size+1) rfl rfl H3.out.kz (Nat.le_succ _) H3.out.below (fun W' h=>⟨rfl,h⟩)
theorem mto_ok (c:CT) (i:Nat) (hi:i < 7) (F:ByteArray) (hs:F.size≤270000) (hn:errCT c=0) (hf:errQ F.data.toList=0) (hl:¬ cmpQ (valQ F.data.toList) 1 < 0) (t1 t2 A B sh pw u1 xx nx lt dd de:ByteArray)
  (I1:Hid (∀ w,Res w→Calls Tryz.prog 142 #[.int .i64 ((i:Int)+1)] w fun e w'=>e=.returned (.string t1)∧Below w.heap.size w w')) (I2:Hid (∀ w,Res w→Calls Tryz.prog 142 #[.int .i64 ((i:Int)+2)] w fun e w'=>e=.returned (.string t2)∧Below w.heap.size w w'))
  (P1:Hid (PowIs 0 t1 ((i:Int)+1) A)) (P2:Hid (PowIs 0 t2 ((i:Int)+2) B)) (D1:Hid (DoIs 0 133 A B sh)) (P3:Hid (PowIs 0 F ((i:Int)+1) pw)) (D2:Hid (DoIs 0 130 (c i) sh u1)) (D3:Hid (DoIs 0 133 u1 pw xx))
  (D4:Hid (DoIs 0 107 F ⟨#[49]⟩ nx)) (D5:Hid (DoIs 0 130 nx (c 7) lt)) (D6:Hid (DoIs 0 107 xx lt dd)) (D7:Hid (DoIs 0 143 dd ⟨#[49]⟩ de)) (w:World) (hc:SmC c) (hr:Res w) :
  Calls Tryz.prog 53 #[cv c,.int .i64 ((i:Int)+2),.string F] w fun e w'=>e=.returned (.tuple #[.agg #[.string F,.string de],.int .i64 0])∧Below w.heap.size w w':=by
 have H0:=Lib.hid (ToAt.new w c)
 have HR:=Lib.hid hr
 have HC:=Lib.hid (fun (w:World) hr=>mcheck_walk c w hc hr)
 obtain ⟨c0,c1,c2,c3,c4,c5,c6,c7⟩:=H0.out.kc.cells
 clear hr hc
 rw [hn] at HC
 have HF:=Lib.hid (fun (w:World) hr=>ratCheck_any F w hs hr)
 rw [hf] at HF
 have HL:=Lib.hid (fun (w:World) hr=>mleast_any w (IsT.of hf) hr)
 rw [decide_eq_true (show 0≤cmpQ (valQ F.data.toList) 1 by omega)] at HL
 have hi0:(0:Int)≤(i:Int):=by omega
 have hi1:(i:Int) < 7:=by omega
 have d1:decide ((i:Int)+2 < 2)=false:=decide_eq_false (by omega)
 have d2:decide (8 < (i:Int)+2)=false:=decide_eq_false (by omega)
 have e21:(i:Int)+2 - 1=(i:Int)+1:=by omega
 have e22:(i:Int)+2 - 2=(i:Int):=by omega
 clear hn hs hf hl
 have TK0:True:=trivial
 have TK1:True:=trivial
 have TK2:True:=trivial
 have TK3:True:=trivial
 have TK4:True:=trivial
 have TK5:True:=trivial
 have TK6:True:=trivial
 have TK7:True:=trivial
 have TK8:True:=trivial
 have TK9:True:=trivial
 have TK10:True:=trivial
 have TK11:True:=trivial
 have TK12:True:=trivial
 have TK13:True:=trivial
 have TK14:True:=trivial
 have TK15:True:=trivial
 refine (callsIn_wide (n:=3)).1 ?_
 have h1:1≤3:=by omega
 have hmx:Tryz.prog.follows .mixedOrders=true:=by kernel_rfl
 refine callsIn_of_wp_marks Tryz.func53 rfl trivial ?_ rfl
 simp only [Tryz.ntmps53,List.size_toArray,List.length_cons,List.length_nil,Nat.reduceAdd,Nat.reduceSub,Array.replicate_succ,Array.replicate_zero,List.push_toArray,List.append_toArray,List.nil_append,List.cons_append]
 gi_wp2_with ((clear TK0;refine ⟨trivial,?_⟩;gi_at_call 137;refine (callsIn_wide.2 (HC.out _ (HR.out.below H0.out.below))).mono ?_;rintro e w1 ⟨rfl,hb⟩;have H1:=Lib.hid (H0.out.later hb); clear hb c0 c1 c2 c3 c4 c5 c6 c7))
 gi_wp2_with ((clear TK1;refine ⟨trivial,?_⟩;gi_at_call 138;refine (callsIn_wide.2 (HF.out _ (HR.out.below H1.out.below))).mono ?_;rintro e w2 ⟨rfl,hb⟩;have H2:=Lib.hid (H1.out.later hb); clear hb))
 gi_wp2_with ((clear TK2;refine ⟨trivial,?_⟩;gi_at_call 139;refine (callsIn_wide.2 (HL.out _ (HR.out.below H2.out.below))).mono ?_;rintro e w3 ⟨rfl,hb⟩;have H3:=Lib.hid (H2.out.later hb).chain;clear hb))
 gi_wp2_with ((clear TK3;refine ⟨trivial,?_⟩;gi_at_call 142;refine (callsIn_wide.2 (I1.out (w3.alloc (.cells #[.int .i64 0] 157)) (HR.out.below H3.out.below))).mono ?_;rintro e w4 ⟨rfl,hb⟩;have H4:=Lib.hid (H3.out.later hb);clear hb))
 gi_wp2_with ((clear TK4;refine ⟨trivial,?_⟩;gi_at_call 141;refine (callsIn_wide.2 (P1.out w3.heap.size w4 (HR.out.below H4.out.below) H4.out.kh)).mono ?_;rintro e w5 ⟨rfl,hb⟩;have H5:=Lib.hid (H4.out.later hb);clear hb))
 gi_wp2_with ((clear TK5;refine ⟨trivial,?_⟩;gi_at_call 142;refine (callsIn_wide.2 (I2.out w5 (HR.out.below H5.out.below))).mono ?_;rintro e w6 ⟨rfl,hb⟩;have H6:=Lib.hid (H5.out.later hb);clear hb))
 gi_wp2_with ((clear TK6;refine ⟨trivial,?_⟩;gi_at_call 141;refine (callsIn_wide.2 (P2.out w3.heap.size w6 (HR.out.below H6.out.below) H6.out.kh)).mono ?_;rintro e w7 ⟨rfl,hb⟩;have H7:=Lib.hid (H6.out.later hb);clear hb))
 gi_wp2_with ((clear TK7;refine ⟨trivial,?_⟩;gi_at_call 140;refine (callsIn_wide.2 (D1.out w3.heap.size w7 (HR.out.below H7.out.below) H7.out.kh)).mono ?_;rintro e w8 ⟨rfl,hb⟩;have H8:=Lib.hid (H7.out.later hb);clear hb))
 gi_wp2_with ((clear TK8;refine ⟨trivial,?_⟩;gi_at_call 141;refine (callsIn_wide.2 (P3.out w3.heap.size w8 (HR.out.below H8.out.below) H8.out.kh)).mono ?_;rintro e w9 ⟨rfl,hb⟩;have H9:=Lib.hid (H8.out.later hb);have ci:=H9.out.kc.cell (k:=i) (by omega);clear hb))
 gi_wp2_with ((clear TK9;refine ⟨trivial,?_⟩;gi_at_call 140;refine (callsIn_wide.2 (D2.out w3.heap.size w9 (HR.out.below H9.out.below) H9.out.kh)).mono ?_;rintro e w10 ⟨rfl,hb⟩;have H10:=Lib.hid (H9.out.later hb);clear ci;clear hb))
 gi_wp2_with ((clear TK10;refine ⟨trivial,?_⟩;gi_at_call 140;refine (callsIn_wide.2 (D3.out w3.heap.size w10 (HR.out.below H10.out.below) H10.out.kh)).mono ?_;rintro e w11 ⟨rfl,hb⟩;have H11:=Lib.hid (H10.out.later hb);clear hb))
 gi_upto_region 15 with fail
 have hlc:=H11.out.kc.lt
 have x7:∀ x:SameAt w11 (fun k=>k < w11.heap.size),x.W.cell? ⟨w.heap.size,7,none⟩=some (.string (c 7)):=fun x=>x.cell hlc (H11.out.kc.cell (by omega))
 clear hlc
 refine wpIn_stage (IsSame w11 (fun k=>k < w11.heap.size)) [0,2,3] [] hmx (by kernel_rfl) (isSame_of fun _ _=>rfl) ?_
 change wpStage _ _ _ _ _ _ _ _ (3+3) _ _ _
 refine stage_reads [0,2,3] 3 _ _ (by kernel_rfl) ?_
 change wpQuietIn _ _ _ _ (fun W'=>∃ x:SameAt w11 (fun k=>k < w11.heap.size),W'=x.W) _ _ _
 simp only [pick_cons,pick_nil,List.getElem?_cons_zero,List.getElem?_cons_succ,Option.elim_some]
 repeat (gi_big_quiet_step (fail))
 refine wpQuietIn_nil ?_
 have HD:=Lib.hid (H11.out.later (below_drew (Below.refl w11.heap.size w11)))
 refine stage_one 1 (by kernel_rfl) rfl ?_
 gi_wp2
 refine ⟨trivial,?_⟩
 refine (callsIn_wide.2 (D4.out w3.heap.size w11.drew (HR.out.below HD.out.below) HD.out.kh)).mono ?_
 rintro e w20 ⟨rfl,hb⟩
 have H20:=Lib.hid (HD.out.later hb)
 have B20:=Lib.hid (below_undrew hb)
 clear hb
 gi_wp2
 refine stage_post (isSame_below B20.out (fun k hk=>hk)) ?_
 refine stage_one 4 (by kernel_rfl) rfl ?_
 gi_wp2
 refine ⟨trivial,?_⟩
 refine (callsIn_wide.2 (D5.out w3.heap.size w20 (HR.out.below H20.out.below) H20.out.kh)).mono ?_
 rintro e w21 ⟨rfl,hb⟩
 have H21:=Lib.hid (H20.out.later hb)
 have B21:=Lib.hid (B20.out.trans (hb.mono B20.out.size))
 clear hb
 gi_wp2
 refine stage_post (isSame_below B21.out (fun k hk=>hk)) ?_
 refine stage_one 5 (by kernel_rfl) rfl ?_
 gi_wp2
 refine stage_post (isSame_below B21.out (fun k hk=>hk)) ?_
 refine stage_done (by kernel_rfl) ?_
 clear x7
 gi_wp2_with ((clear TK11;refine ⟨trivial,?_⟩;gi_at_call 140;refine (callsIn_wide.2 (D6.out w3.heap.size w21 (HR.out.below H21.out.below) H21.out.kh)).mono ?_;rintro e w22 ⟨rfl,hb⟩;have H22:=Lib.hid (H21.out.later hb);clear hb))
 gi_wp2_with ((clear TK12;refine ⟨trivial,?_⟩;gi_at_call 140;refine (callsIn_wide.2 (D7.out w3.heap.size w22 (HR.out.below H22.out.below) H22.out.kh)).mono ?_;rintro e w23 ⟨rfl,hb⟩;have H23:=Lib.hid (H22.out.later hb);have ch:=cell0 H23.out.kh;clear hb))
 gi_wp2_with ((clear TK13;refine ⟨trivial,?_⟩;gi_at_call 144;refine (callsIn_wide.2 (none_any w23)).mono ?_;rintro e w24 ⟨rfl,hb⟩;have H24:=Lib.hid (H23.out.later hb);obtain ⟨q0,q1⟩:=cells2 H24.out.kz;have z0:=H24.out.kz.frozen 0;have z1:=H24.out.kz.frozen 1;have hl:=H24.out.kz.lt;clear hb ch))
 exact leavesM_nil ⟨_,run_cell_tmp rfl rfl (load_loss (H24.out.kz.two_set.alloc _)),rfl,below_alloc ((H24.out.below.setCell (p:=⟨w.heap.size+1,0,none⟩) (Nat.le_succ _) _).setCell (p:=⟨w.heap.size+1,1,none⟩) (Nat.le_succ _) _) _⟩
end Go.Proofs.YtigapglmipmbeaaGreatDoor
namespace Go.Proofs.YtigapglmipmbeaaGreatDoor
open Go.RowKit Go.Shelf
def Ret (F:FuncId) (args:Array Value) (v:Value):Prop:=∀ w,Res w→Calls Tryz.prog F args w fun e w'=>e=.returned v∧Below w.heap.size w w'
end Go.Proofs.YtigapglmipmbeaaGreatDoor
