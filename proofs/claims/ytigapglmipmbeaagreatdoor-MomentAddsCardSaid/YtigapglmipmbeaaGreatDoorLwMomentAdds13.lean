/- The reference's Write of a rational number, two, Order (printed by mkrwq.py). -/
import Derived.Test.YtigapglmipmbeaaGreatDoorLwMomentAdds12
import Derived.Test.YtigapglmipmbeaaGreatDoorLwMomentAdds10
import Derived.Test.YtigapglmipmbeaaGreatDoorLwMomentAdds08
set_option maxRecDepth 100000
set_option maxHeartbeats 16000000
open Go.Proofs.Tryz
namespace Go.Proofs.YtigapglmipmbeaaGreatDoor
open Go.RowKit Go.Shelf
open Lim
attribute [local go_sem] Oper.semAt_some
theorem a3Z(w:World)(m vn vd:Value):Blk (w.alloc (.cells #[m,vn,vd] 170)) w.heap.size 170 #[m,vn,vd]∧Below w.heap.size w (w.alloc (.cells #[m,vn,vd] 170))∧(w.alloc (.cells #[m,vn,vd] 170)).heap.size=w.heap.size+1 :=
 ⟨Blk.new w _ _,(Below.refl _ _).alloc (Nat.le_refl _) _,by simp⟩
theorem a1e(x:Nat)(vx:Value)(w:World)(hx:a0u w vx x)(hlx:(toL x).length≤40000) :
  Calls prog 228 #[vx] w fun e w'=>∃ s:ByteArray,e=.returned (.string s)∧Hid (s=⟨(Lib.decDigits x).toArray⟩)∧s.size=Lib.nDigits x∧Below w.heap.size w w':=by
 refine(a9r x vx w hx hlx).mono ?_;rintro e w' ⟨rfl,hb⟩;refine⟨_,rfl,b9W rfl,?_,hb⟩
 show (Lib.decDigits x).toArray.size=_
 rw[List.size_toArray,Lib.decDigits_length]
theorem b6N(N D:Nat)(A A':Option Addr)(c c':Nat)(w:World)(hn:a0u w (.slice A (toL N).length c) N)(hd:a0u w (.slice A' (toL D).length c') D)(l1:(toL N).length≤40000)(l2:(toL D).length≤40000)(h1:4000 < Lib.nDigits N) :
  Calls prog 153 #[.agg #[.bool true,.slice A (toL N).length c,.slice A' (toL D).length c']] w fun e w'=>e=.returned (.tuple #[.string ⟨#[]⟩,.int .i64 5])∧Below w.heap.size w w':=by
 have HN:=b9W hn;have HD:=b9W hd;clear hn hd;refine(callsIn_wide (n:=3)).1 ?_;have h1:1≤3:=by omega
 have hmx:prog.follows .mixedOrders=true:=by kernel_rfl
 refine callsIn_of_wp func153 rfl trivial ?_ rfl
 simp only[ntmps153,List.size_toArray,List.length_cons,List.length_nil,Nat.reduceAdd,Nat.reduceSub,Array.replicate_succ,Array.replicate_zero,List.push_toArray,List.append_toArray,List.nil_append,List.cons_append]
 gi_upto_region 1 with fail
 obtain⟨b0,hB,hs⟩:=a3Z w (.bool true) (.slice A (toL N).length c) (.slice A' (toL D).length c');generalize w.alloc (.cells #[.bool true,.slice A (toL N).length c,.slice A' (toL D).length c'] 170)=W at *;obtain⟨x0,x1,x2⟩:=a0j (S:=fun k=>k < W.heap.size) b0 (by omega);have HB:=b9W (a0x hB);have HS:=b9W hs;have P0:=b9W b0;clear b0 hB hs;refine a0o (a0R W (fun k=>k < W.heap.size)) [0,1,3,4] [] hmx (by kernel_rfl) (a0g fun _ _=>rfl) ?_;change a0l _ _ _ _ _ _ _ _ (4+4) _ _ _;refine a0e [0,1,3,4] 4 _ _ (by kernel_rfl) ?_;change wpQuietIn _ _ _ _ (fun W'=>∃ x:a0n W (fun k=>k < W.heap.size),W'=x.W) _ _ _
 simp only[a0h,a0m,List.getElem?_cons_zero,List.getElem?_cons_succ,Option.elim_some]
 repeat (gi_big_quiet_step (fail))
 refine wpQuietIn_nil ?_;refine a0c 2 (by kernel_rfl) rfl ?_;gi_wp2;refine⟨trivial,?_⟩;refine(callsIn_wide.2 (a1e N _ W.drew (HN.out.below HB.out) l1)).mono ?_;rintro e w3 ⟨s3,rfl,HS3,hz3,hb3⟩;have hB3:Below W.heap.size W w3:=a0q hb3;have HB3:=b9W hB3;clear hb3 hB3;gi_wp2;refine a0b (a0a HB3.out (fun k hk=>hk)) ?_;refine a0c 5 (by kernel_rfl) rfl ?_;gi_wp2;refine⟨trivial,?_⟩;refine(callsIn_wide.2 (a1e D _ w3 (HD.out.below (HB.out.trans ((a0f HB3.out).mono HB.out.size))) l2)).mono ?_;rintro e w4 ⟨s4,rfl,HS4,hz4,hb4⟩;have hB4:Below W.heap.size W w4:=HB3.out.trans (hb4.mono HB3.out.size);have HB4:=b9W hB4;clear hb4 hB4;gi_wp2;refine a0b (a0a HB4.out (fun k hk=>hk)) ?_;refine a0c 6 (by kernel_rfl) rfl ?_;gi_wp2;refine a0b (a0a HB4.out (fun k hk=>hk)) ?_;refine a0c 7 (by kernel_rfl) rfl ?_;gi_wp2;refine a0b (a0a HB4.out (fun k hk=>hk)) ?_;refine a0i (by kernel_rfl) ?_;clear x0 x1 x2;obtain⟨x0,x1,x2⟩:=a1u (P0.out.below HB4.out (by have:=HS.out;omega));have hd1:decide ((4000:Int) < (s3.size:Int))=true:=decide_eq_true (by omega);clear hz3 hz4;gi_wp2;refine bodyPost_ret (results_tmp2 rfl _ _ _) rfl ?_;exact⟨rfl,HB.out.trans ((a0f HB4.out).mono HB.out.size)⟩
theorem b6k(N D:Nat)(A A':Option Addr)(c c':Nat)(w:World)(hn:a0u w (.slice A (toL N).length c) N)(hd:a0u w (.slice A' (toL D).length c') D)(l1:(toL N).length≤40000)(l2:(toL D).length≤40000)(h1:Lib.nDigits N≤4000)(h2:4000 < Lib.nDigits D) :
  Calls prog 153 #[.agg #[.bool true,.slice A (toL N).length c,.slice A' (toL D).length c']] w fun e w'=>e=.returned (.tuple #[.string ⟨#[]⟩,.int .i64 5])∧Below w.heap.size w w':=by
 have HN:=b9W hn;have HD:=b9W hd;clear hn hd;refine(callsIn_wide (n:=3)).1 ?_;have h1:1≤3:=by omega
 have hmx:prog.follows .mixedOrders=true:=by kernel_rfl
 refine callsIn_of_wp func153 rfl trivial ?_ rfl
 simp only[ntmps153,List.size_toArray,List.length_cons,List.length_nil,Nat.reduceAdd,Nat.reduceSub,Array.replicate_succ,Array.replicate_zero,List.push_toArray,List.append_toArray,List.nil_append,List.cons_append]
 gi_upto_region 1 with fail
 obtain⟨b0,hB,hs⟩:=a3Z w (.bool true) (.slice A (toL N).length c) (.slice A' (toL D).length c');generalize w.alloc (.cells #[.bool true,.slice A (toL N).length c,.slice A' (toL D).length c'] 170)=W at *;obtain⟨x0,x1,x2⟩:=a0j (S:=fun k=>k < W.heap.size) b0 (by omega);have HB:=b9W (a0x hB);have HS:=b9W hs;have P0:=b9W b0;clear b0 hB hs;refine a0o (a0R W (fun k=>k < W.heap.size)) [0,1,3,4] [] hmx (by kernel_rfl) (a0g fun _ _=>rfl) ?_;change a0l _ _ _ _ _ _ _ _ (4+4) _ _ _;refine a0e [0,1,3,4] 4 _ _ (by kernel_rfl) ?_;change wpQuietIn _ _ _ _ (fun W'=>∃ x:a0n W (fun k=>k < W.heap.size),W'=x.W) _ _ _
 simp only[a0h,a0m,List.getElem?_cons_zero,List.getElem?_cons_succ,Option.elim_some]
 repeat (gi_big_quiet_step (fail))
 refine wpQuietIn_nil ?_;refine a0c 2 (by kernel_rfl) rfl ?_;gi_wp2;refine⟨trivial,?_⟩;refine(callsIn_wide.2 (a1e N _ W.drew (HN.out.below HB.out) l1)).mono ?_;rintro e w3 ⟨s3,rfl,HS3,hz3,hb3⟩;have hB3:Below W.heap.size W w3:=a0q hb3;have HB3:=b9W hB3;clear hb3 hB3;gi_wp2;refine a0b (a0a HB3.out (fun k hk=>hk)) ?_;refine a0c 5 (by kernel_rfl) rfl ?_;gi_wp2;refine⟨trivial,?_⟩;refine(callsIn_wide.2 (a1e D _ w3 (HD.out.below (HB.out.trans ((a0f HB3.out).mono HB.out.size))) l2)).mono ?_;rintro e w4 ⟨s4,rfl,HS4,hz4,hb4⟩;have hB4:Below W.heap.size W w4:=HB3.out.trans (hb4.mono HB3.out.size);have HB4:=b9W hB4;clear hb4 hB4;gi_wp2;refine a0b (a0a HB4.out (fun k hk=>hk)) ?_;refine a0c 6 (by kernel_rfl) rfl ?_;gi_wp2;refine a0b (a0a HB4.out (fun k hk=>hk)) ?_;refine a0c 7 (by kernel_rfl) rfl ?_;gi_wp2;refine a0b (a0a HB4.out (fun k hk=>hk)) ?_;refine a0i (by kernel_rfl) ?_;clear x0 x1 x2;obtain⟨x0,x1,x2⟩:=a1u (P0.out.below HB4.out (by have:=HS.out;omega));have hd1:decide ((4000:Int) < (s3.size:Int))=false:=decide_eq_false (by omega);have hd2:decide ((4000:Int) < (s4.size:Int))=true:=decide_eq_true (by omega);clear hz3 hz4;gi_wp2;refine bodyPost_ret (results_tmp2 rfl _ _ _) rfl ?_;exact⟨rfl,HB.out.trans ((a0f HB4.out).mono HB.out.size)⟩
theorem b75(N D:Nat)(A A':Option Addr)(c c':Nat)(w:World)(hn:a0u w (.slice A (toL N).length c) N)(hd:a0u w (.slice A' (toL D).length c') D)(l1:(toL N).length≤40000)(l2:(toL D).length≤40000)(h1:Lib.nDigits N≤4000)(h2:Lib.nDigits D≤4000)(h3:D=1) :
  Calls prog 153 #[.agg #[.bool true,.slice A (toL N).length c,.slice A' (toL D).length c']] w fun e w'=>e=.returned (.tuple #[.string ⟨([45]++Lib.decDigits N).toArray⟩,.int .i64 0])∧Below w.heap.size w w':=by
 have HN:=b9W hn;have HD:=b9W hd;clear hn hd;have H3:=b9W h3;clear h3;refine(callsIn_wide (n:=3)).1 ?_;have h1:1≤3:=by omega
 have hmx:prog.follows .mixedOrders=true:=by kernel_rfl
 refine callsIn_of_wp func153 rfl trivial ?_ rfl
 simp only[ntmps153,List.size_toArray,List.length_cons,List.length_nil,Nat.reduceAdd,Nat.reduceSub,Array.replicate_succ,Array.replicate_zero,List.push_toArray,List.append_toArray,List.nil_append,List.cons_append]
 gi_upto_region 1 with fail
 obtain⟨b0,hB,hs⟩:=a3Z w (.bool true) (.slice A (toL N).length c) (.slice A' (toL D).length c');generalize w.alloc (.cells #[.bool true,.slice A (toL N).length c,.slice A' (toL D).length c'] 170)=W at *;obtain⟨x0,x1,x2⟩:=a0j (S:=fun k=>k < W.heap.size) b0 (by omega);have HB:=b9W (a0x hB);have HS:=b9W hs;have P0:=b9W b0;clear b0 hB hs;refine a0o (a0R W (fun k=>k < W.heap.size)) [0,1,3,4] [] hmx (by kernel_rfl) (a0g fun _ _=>rfl) ?_;change a0l _ _ _ _ _ _ _ _ (4+4) _ _ _;refine a0e [0,1,3,4] 4 _ _ (by kernel_rfl) ?_;change wpQuietIn _ _ _ _ (fun W'=>∃ x:a0n W (fun k=>k < W.heap.size),W'=x.W) _ _ _
 simp only[a0h,a0m,List.getElem?_cons_zero,List.getElem?_cons_succ,Option.elim_some]
 repeat (gi_big_quiet_step (fail))
 refine wpQuietIn_nil ?_;refine a0c 2 (by kernel_rfl) rfl ?_;gi_wp2;refine⟨trivial,?_⟩;refine(callsIn_wide.2 (a1e N _ W.drew (HN.out.below HB.out) l1)).mono ?_;rintro e w3 ⟨s3,rfl,HS3,hz3,hb3⟩;have hB3:Below W.heap.size W w3:=a0q hb3;have HB3:=b9W hB3;clear hb3 hB3;gi_wp2;refine a0b (a0a HB3.out (fun k hk=>hk)) ?_;refine a0c 5 (by kernel_rfl) rfl ?_;gi_wp2;refine⟨trivial,?_⟩;refine(callsIn_wide.2 (a1e D _ w3 (HD.out.below (HB.out.trans ((a0f HB3.out).mono HB.out.size))) l2)).mono ?_;rintro e w4 ⟨s4,rfl,HS4,hz4,hb4⟩;have hB4:Below W.heap.size W w4:=HB3.out.trans (hb4.mono HB3.out.size);have HB4:=b9W hB4;clear hb4 hB4;gi_wp2;refine a0b (a0a HB4.out (fun k hk=>hk)) ?_;refine a0c 6 (by kernel_rfl) rfl ?_;gi_wp2;refine a0b (a0a HB4.out (fun k hk=>hk)) ?_;refine a0c 7 (by kernel_rfl) rfl ?_;gi_wp2;refine a0b (a0a HB4.out (fun k hk=>hk)) ?_;refine a0i (by kernel_rfl) ?_;clear x0 x1 x2;obtain⟨x0,x1,x2⟩:=a1u (P0.out.below HB4.out (by have:=HS.out;omega));have hd1:decide ((4000:Int) < (s3.size:Int))=false:=decide_eq_false (by omega);have hd2:decide ((4000:Int) < (s4.size:Int))=false:=decide_eq_false (by omega);have h49:(s4.toList==[49])=true:=by
  rw[HS4.out,Lib.toList_data]
  show (Lib.decDigits D==[49])=true
  rw[H3.out,a7X];rfl
 have z3:¬ 9223372036854775807 < 1+s3.size:=by omega
 have z4:¬ 9223372036854775807 < 1+s3.size+1:=by omega
 have z5:¬ 9223372036854775807 < s3.size+1:=by omega
 have z6:¬ 9223372036854775807 < 1+s3.size+1+s4.size:=by omega
 have z7:¬ 9223372036854775807 < s3.size+1+s4.size:=by omega
 clear hz3 hz4;gi_wp2;refine bodyPost_ret (results_tmp2 rfl _ _ _) rfl ?_;refine⟨?_,HB.out.trans ((a0f HB4.out).mono HB.out.size)⟩;rw[HS3.out];exact congrArg (fun x=>Ending.returned (.tuple #[.string x,.int .i64 0])) (a4U [45] (Lib.decDigits N))
theorem b5R(N D:Nat)(A A':Option Addr)(c c':Nat)(w:World)(hn:a0u w (.slice A (toL N).length c) N)(hd:a0u w (.slice A' (toL D).length c') D)(l1:(toL N).length≤40000)(l2:(toL D).length≤40000)(h1:Lib.nDigits N≤4000)(h2:Lib.nDigits D≤4000)(h3:D≠1) :
  Calls prog 153 #[.agg #[.bool true,.slice A (toL N).length c,.slice A' (toL D).length c']] w fun e w'=>e=.returned (.tuple #[.string ⟨([45]++Lib.decDigits N++47::Lib.decDigits D).toArray⟩,.int .i64 0])∧Below w.heap.size w w':=by
 have HN:=b9W hn;have HD:=b9W hd;clear hn hd;have H3:=b9W h3;clear h3;refine(callsIn_wide (n:=3)).1 ?_;have h1:1≤3:=by omega
 have hmx:prog.follows .mixedOrders=true:=by kernel_rfl
 refine callsIn_of_wp func153 rfl trivial ?_ rfl
 simp only[ntmps153,List.size_toArray,List.length_cons,List.length_nil,Nat.reduceAdd,Nat.reduceSub,Array.replicate_succ,Array.replicate_zero,List.push_toArray,List.append_toArray,List.nil_append,List.cons_append]
 gi_upto_region 1 with fail
 obtain⟨b0,hB,hs⟩:=a3Z w (.bool true) (.slice A (toL N).length c) (.slice A' (toL D).length c');generalize w.alloc (.cells #[.bool true,.slice A (toL N).length c,.slice A' (toL D).length c'] 170)=W at *;obtain⟨x0,x1,x2⟩:=a0j (S:=fun k=>k < W.heap.size) b0 (by omega);have HB:=b9W (a0x hB);have HS:=b9W hs;have P0:=b9W b0;clear b0 hB hs;refine a0o (a0R W (fun k=>k < W.heap.size)) [0,1,3,4] [] hmx (by kernel_rfl) (a0g fun _ _=>rfl) ?_;change a0l _ _ _ _ _ _ _ _ (4+4) _ _ _;refine a0e [0,1,3,4] 4 _ _ (by kernel_rfl) ?_;change wpQuietIn _ _ _ _ (fun W'=>∃ x:a0n W (fun k=>k < W.heap.size),W'=x.W) _ _ _
 simp only[a0h,a0m,List.getElem?_cons_zero,List.getElem?_cons_succ,Option.elim_some]
 repeat (gi_big_quiet_step (fail))
 refine wpQuietIn_nil ?_;refine a0c 2 (by kernel_rfl) rfl ?_;gi_wp2;refine⟨trivial,?_⟩;refine(callsIn_wide.2 (a1e N _ W.drew (HN.out.below HB.out) l1)).mono ?_;rintro e w3 ⟨s3,rfl,HS3,hz3,hb3⟩;have hB3:Below W.heap.size W w3:=a0q hb3;have HB3:=b9W hB3;clear hb3 hB3;gi_wp2;refine a0b (a0a HB3.out (fun k hk=>hk)) ?_;refine a0c 5 (by kernel_rfl) rfl ?_;gi_wp2;refine⟨trivial,?_⟩;refine(callsIn_wide.2 (a1e D _ w3 (HD.out.below (HB.out.trans ((a0f HB3.out).mono HB.out.size))) l2)).mono ?_;rintro e w4 ⟨s4,rfl,HS4,hz4,hb4⟩;have hB4:Below W.heap.size W w4:=HB3.out.trans (hb4.mono HB3.out.size);have HB4:=b9W hB4;clear hb4 hB4;gi_wp2;refine a0b (a0a HB4.out (fun k hk=>hk)) ?_;refine a0c 6 (by kernel_rfl) rfl ?_;gi_wp2;refine a0b (a0a HB4.out (fun k hk=>hk)) ?_;refine a0c 7 (by kernel_rfl) rfl ?_;gi_wp2;refine a0b (a0a HB4.out (fun k hk=>hk)) ?_;refine a0i (by kernel_rfl) ?_;clear x0 x1 x2;obtain⟨x0,x1,x2⟩:=a1u (P0.out.below HB4.out (by have:=HS.out;omega));have hd1:decide ((4000:Int) < (s3.size:Int))=false:=decide_eq_false (by omega);have hd2:decide ((4000:Int) < (s4.size:Int))=false:=decide_eq_false (by omega);have h49:(s4.toList==[49])=false:=by
  rw[HS4.out,Lib.toList_data]
  show (Lib.decDigits D==[49])=false
  rw[beq_eq_false_iff_ne];exact a6O H3.out
 have z3:¬ 9223372036854775807 < 1+s3.size:=by omega
 have z4:¬ 9223372036854775807 < 1+s3.size+1:=by omega
 have z5:¬ 9223372036854775807 < s3.size+1:=by omega
 have z6:¬ 9223372036854775807 < 1+s3.size+1+s4.size:=by omega
 have z7:¬ 9223372036854775807 < s3.size+1+s4.size:=by omega
 clear hz3 hz4;gi_wp2;refine bodyPost_ret (results_tmp2 rfl _ _ _) rfl ?_;refine⟨?_,HB.out.trans ((a0f HB4.out).mono HB.out.size)⟩;rw[HS3.out,HS4.out];exact congrArg (fun x=>Ending.returned (.tuple #[.string x,.int .i64 0])) (by rw[a4U [45],a4U _ [47],a4U,List.append_assoc];rfl)
theorem b5q(N D:Nat)(A A':Option Addr)(c c':Nat)(w:World)(hn:a0u w (.slice A (toL N).length c) N)(hd:a0u w (.slice A' (toL D).length c') D)(l1:(toL N).length≤40000)(l2:(toL D).length≤40000)(h1:4000 < Lib.nDigits N) :
  Calls prog 153 #[.agg #[.bool false,.slice A (toL N).length c,.slice A' (toL D).length c']] w fun e w'=>e=.returned (.tuple #[.string ⟨#[]⟩,.int .i64 5])∧Below w.heap.size w w':=by
 have HN:=b9W hn;have HD:=b9W hd;clear hn hd;refine(callsIn_wide (n:=3)).1 ?_;have h1:1≤3:=by omega
 have hmx:prog.follows .mixedOrders=true:=by kernel_rfl
 refine callsIn_of_wp func153 rfl trivial ?_ rfl
 simp only[ntmps153,List.size_toArray,List.length_cons,List.length_nil,Nat.reduceAdd,Nat.reduceSub,Array.replicate_succ,Array.replicate_zero,List.push_toArray,List.append_toArray,List.nil_append,List.cons_append]
 gi_upto_region 1 with fail
 obtain⟨b0,hB,hs⟩:=a3Z w (.bool false) (.slice A (toL N).length c) (.slice A' (toL D).length c');generalize w.alloc (.cells #[.bool false,.slice A (toL N).length c,.slice A' (toL D).length c'] 170)=W at *;obtain⟨x0,x1,x2⟩:=a0j (S:=fun k=>k < W.heap.size) b0 (by omega);have HB:=b9W (a0x hB);have HS:=b9W hs;have P0:=b9W b0;clear b0 hB hs;refine a0o (a0R W (fun k=>k < W.heap.size)) [0,1,3,4] [] hmx (by kernel_rfl) (a0g fun _ _=>rfl) ?_;change a0l _ _ _ _ _ _ _ _ (4+4) _ _ _;refine a0e [0,1,3,4] 4 _ _ (by kernel_rfl) ?_;change wpQuietIn _ _ _ _ (fun W'=>∃ x:a0n W (fun k=>k < W.heap.size),W'=x.W) _ _ _
 simp only[a0h,a0m,List.getElem?_cons_zero,List.getElem?_cons_succ,Option.elim_some]
 repeat (gi_big_quiet_step (fail))
 refine wpQuietIn_nil ?_;refine a0c 2 (by kernel_rfl) rfl ?_;gi_wp2;refine⟨trivial,?_⟩;refine(callsIn_wide.2 (a1e N _ W.drew (HN.out.below HB.out) l1)).mono ?_;rintro e w3 ⟨s3,rfl,HS3,hz3,hb3⟩;have hB3:Below W.heap.size W w3:=a0q hb3;have HB3:=b9W hB3;clear hb3 hB3;gi_wp2;refine a0b (a0a HB3.out (fun k hk=>hk)) ?_;refine a0c 5 (by kernel_rfl) rfl ?_;gi_wp2;refine⟨trivial,?_⟩;refine(callsIn_wide.2 (a1e D _ w3 (HD.out.below (HB.out.trans ((a0f HB3.out).mono HB.out.size))) l2)).mono ?_;rintro e w4 ⟨s4,rfl,HS4,hz4,hb4⟩;have hB4:Below W.heap.size W w4:=HB3.out.trans (hb4.mono HB3.out.size);have HB4:=b9W hB4;clear hb4 hB4;gi_wp2;refine a0b (a0a HB4.out (fun k hk=>hk)) ?_;refine a0c 6 (by kernel_rfl) rfl ?_;gi_wp2;refine a0b (a0a HB4.out (fun k hk=>hk)) ?_;refine a0c 7 (by kernel_rfl) rfl ?_;gi_wp2;refine a0b (a0a HB4.out (fun k hk=>hk)) ?_;refine a0i (by kernel_rfl) ?_;clear x0 x1 x2;obtain⟨x0,x1,x2⟩:=a1u (P0.out.below HB4.out (by have:=HS.out;omega));have hd1:decide ((4000:Int) < (s3.size:Int))=true:=decide_eq_true (by omega);clear hz3 hz4;gi_wp2;refine bodyPost_ret (results_tmp2 rfl _ _ _) rfl ?_;exact⟨rfl,HB.out.trans ((a0f HB4.out).mono HB.out.size)⟩
theorem b5O(N D:Nat)(A A':Option Addr)(c c':Nat)(w:World)(hn:a0u w (.slice A (toL N).length c) N)(hd:a0u w (.slice A' (toL D).length c') D)(l1:(toL N).length≤40000)(l2:(toL D).length≤40000)(h1:Lib.nDigits N≤4000)(h2:4000 < Lib.nDigits D) :
  Calls prog 153 #[.agg #[.bool false,.slice A (toL N).length c,.slice A' (toL D).length c']] w fun e w'=>e=.returned (.tuple #[.string ⟨#[]⟩,.int .i64 5])∧Below w.heap.size w w':=by
 have HN:=b9W hn;have HD:=b9W hd;clear hn hd;refine(callsIn_wide (n:=3)).1 ?_;have h1:1≤3:=by omega
 have hmx:prog.follows .mixedOrders=true:=by kernel_rfl
 refine callsIn_of_wp func153 rfl trivial ?_ rfl
 simp only[ntmps153,List.size_toArray,List.length_cons,List.length_nil,Nat.reduceAdd,Nat.reduceSub,Array.replicate_succ,Array.replicate_zero,List.push_toArray,List.append_toArray,List.nil_append,List.cons_append]
 gi_upto_region 1 with fail
 obtain⟨b0,hB,hs⟩:=a3Z w (.bool false) (.slice A (toL N).length c) (.slice A' (toL D).length c');generalize w.alloc (.cells #[.bool false,.slice A (toL N).length c,.slice A' (toL D).length c'] 170)=W at *;obtain⟨x0,x1,x2⟩:=a0j (S:=fun k=>k < W.heap.size) b0 (by omega);have HB:=b9W (a0x hB);have HS:=b9W hs;have P0:=b9W b0;clear b0 hB hs;refine a0o (a0R W (fun k=>k < W.heap.size)) [0,1,3,4] [] hmx (by kernel_rfl) (a0g fun _ _=>rfl) ?_;change a0l _ _ _ _ _ _ _ _ (4+4) _ _ _;refine a0e [0,1,3,4] 4 _ _ (by kernel_rfl) ?_;change wpQuietIn _ _ _ _ (fun W'=>∃ x:a0n W (fun k=>k < W.heap.size),W'=x.W) _ _ _
 simp only[a0h,a0m,List.getElem?_cons_zero,List.getElem?_cons_succ,Option.elim_some]
 repeat (gi_big_quiet_step (fail))
 refine wpQuietIn_nil ?_;refine a0c 2 (by kernel_rfl) rfl ?_;gi_wp2;refine⟨trivial,?_⟩;refine(callsIn_wide.2 (a1e N _ W.drew (HN.out.below HB.out) l1)).mono ?_;rintro e w3 ⟨s3,rfl,HS3,hz3,hb3⟩;have hB3:Below W.heap.size W w3:=a0q hb3;have HB3:=b9W hB3;clear hb3 hB3;gi_wp2;refine a0b (a0a HB3.out (fun k hk=>hk)) ?_;refine a0c 5 (by kernel_rfl) rfl ?_;gi_wp2;refine⟨trivial,?_⟩;refine(callsIn_wide.2 (a1e D _ w3 (HD.out.below (HB.out.trans ((a0f HB3.out).mono HB.out.size))) l2)).mono ?_;rintro e w4 ⟨s4,rfl,HS4,hz4,hb4⟩;have hB4:Below W.heap.size W w4:=HB3.out.trans (hb4.mono HB3.out.size);have HB4:=b9W hB4;clear hb4 hB4;gi_wp2;refine a0b (a0a HB4.out (fun k hk=>hk)) ?_;refine a0c 6 (by kernel_rfl) rfl ?_;gi_wp2;refine a0b (a0a HB4.out (fun k hk=>hk)) ?_;refine a0c 7 (by kernel_rfl) rfl ?_;gi_wp2;refine a0b (a0a HB4.out (fun k hk=>hk)) ?_;refine a0i (by kernel_rfl) ?_;clear x0 x1 x2;obtain⟨x0,x1,x2⟩:=a1u (P0.out.below HB4.out (by have:=HS.out;omega));have hd1:decide ((4000:Int) < (s3.size:Int))=false:=decide_eq_false (by omega);have hd2:decide ((4000:Int) < (s4.size:Int))=true:=decide_eq_true (by omega);clear hz3 hz4;gi_wp2;refine bodyPost_ret (results_tmp2 rfl _ _ _) rfl ?_;exact⟨rfl,HB.out.trans ((a0f HB4.out).mono HB.out.size)⟩
theorem b7G(N D:Nat)(A A':Option Addr)(c c':Nat)(w:World)(hn:a0u w (.slice A (toL N).length c) N)(hd:a0u w (.slice A' (toL D).length c') D)(l1:(toL N).length≤40000)(l2:(toL D).length≤40000)(h1:Lib.nDigits N≤4000)(h2:Lib.nDigits D≤4000)(h3:D=1) :
  Calls prog 153 #[.agg #[.bool false,.slice A (toL N).length c,.slice A' (toL D).length c']] w fun e w'=>e=.returned (.tuple #[.string ⟨(Lib.decDigits N).toArray⟩,.int .i64 0])∧Below w.heap.size w w':=by
 have HN:=b9W hn;have HD:=b9W hd;clear hn hd;have H3:=b9W h3;clear h3;refine(callsIn_wide (n:=3)).1 ?_;have h1:1≤3:=by omega
 have hmx:prog.follows .mixedOrders=true:=by kernel_rfl
 refine callsIn_of_wp func153 rfl trivial ?_ rfl
 simp only[ntmps153,List.size_toArray,List.length_cons,List.length_nil,Nat.reduceAdd,Nat.reduceSub,Array.replicate_succ,Array.replicate_zero,List.push_toArray,List.append_toArray,List.nil_append,List.cons_append]
 gi_upto_region 1 with fail
 obtain⟨b0,hB,hs⟩:=a3Z w (.bool false) (.slice A (toL N).length c) (.slice A' (toL D).length c');generalize w.alloc (.cells #[.bool false,.slice A (toL N).length c,.slice A' (toL D).length c'] 170)=W at *;obtain⟨x0,x1,x2⟩:=a0j (S:=fun k=>k < W.heap.size) b0 (by omega);have HB:=b9W (a0x hB);have HS:=b9W hs;have P0:=b9W b0;clear b0 hB hs;refine a0o (a0R W (fun k=>k < W.heap.size)) [0,1,3,4] [] hmx (by kernel_rfl) (a0g fun _ _=>rfl) ?_;change a0l _ _ _ _ _ _ _ _ (4+4) _ _ _;refine a0e [0,1,3,4] 4 _ _ (by kernel_rfl) ?_;change wpQuietIn _ _ _ _ (fun W'=>∃ x:a0n W (fun k=>k < W.heap.size),W'=x.W) _ _ _
 simp only[a0h,a0m,List.getElem?_cons_zero,List.getElem?_cons_succ,Option.elim_some]
 repeat (gi_big_quiet_step (fail))
 refine wpQuietIn_nil ?_;refine a0c 2 (by kernel_rfl) rfl ?_;gi_wp2;refine⟨trivial,?_⟩;refine(callsIn_wide.2 (a1e N _ W.drew (HN.out.below HB.out) l1)).mono ?_;rintro e w3 ⟨s3,rfl,HS3,hz3,hb3⟩;have hB3:Below W.heap.size W w3:=a0q hb3;have HB3:=b9W hB3;clear hb3 hB3;gi_wp2;refine a0b (a0a HB3.out (fun k hk=>hk)) ?_;refine a0c 5 (by kernel_rfl) rfl ?_;gi_wp2;refine⟨trivial,?_⟩;refine(callsIn_wide.2 (a1e D _ w3 (HD.out.below (HB.out.trans ((a0f HB3.out).mono HB.out.size))) l2)).mono ?_;rintro e w4 ⟨s4,rfl,HS4,hz4,hb4⟩;have hB4:Below W.heap.size W w4:=HB3.out.trans (hb4.mono HB3.out.size);have HB4:=b9W hB4;clear hb4 hB4;gi_wp2;refine a0b (a0a HB4.out (fun k hk=>hk)) ?_;refine a0c 6 (by kernel_rfl) rfl ?_;gi_wp2;refine a0b (a0a HB4.out (fun k hk=>hk)) ?_;refine a0c 7 (by kernel_rfl) rfl ?_;gi_wp2;refine a0b (a0a HB4.out (fun k hk=>hk)) ?_;refine a0i (by kernel_rfl) ?_;clear x0 x1 x2;obtain⟨x0,x1,x2⟩:=a1u (P0.out.below HB4.out (by have:=HS.out;omega));have hd1:decide ((4000:Int) < (s3.size:Int))=false:=decide_eq_false (by omega);have hd2:decide ((4000:Int) < (s4.size:Int))=false:=decide_eq_false (by omega);have h49:(s4.toList==[49])=true:=by
  rw[HS4.out,Lib.toList_data]
  show (Lib.decDigits D==[49])=true
  rw[H3.out,a7X];rfl
 have z3:¬ 9223372036854775807 < 1+s3.size:=by omega
 have z4:¬ 9223372036854775807 < 1+s3.size+1:=by omega
 have z5:¬ 9223372036854775807 < s3.size+1:=by omega
 have z6:¬ 9223372036854775807 < 1+s3.size+1+s4.size:=by omega
 have z7:¬ 9223372036854775807 < s3.size+1+s4.size:=by omega
 clear hz3 hz4;gi_wp2;refine bodyPost_ret (results_tmp2 rfl _ _ _) rfl ?_;refine⟨?_,HB.out.trans ((a0f HB4.out).mono HB.out.size)⟩;rw[HS3.out];rfl
theorem b5W(N D:Nat)(A A':Option Addr)(c c':Nat)(w:World)(hn:a0u w (.slice A (toL N).length c) N)(hd:a0u w (.slice A' (toL D).length c') D)(l1:(toL N).length≤40000)(l2:(toL D).length≤40000)(h1:Lib.nDigits N≤4000)(h2:Lib.nDigits D≤4000)(h3:D≠1) :
  Calls prog 153 #[.agg #[.bool false,.slice A (toL N).length c,.slice A' (toL D).length c']] w fun e w'=>e=.returned (.tuple #[.string ⟨(Lib.decDigits N++47::Lib.decDigits D).toArray⟩,.int .i64 0])∧Below w.heap.size w w':=by
 have HN:=b9W hn;have HD:=b9W hd;clear hn hd;have H3:=b9W h3;clear h3;refine(callsIn_wide (n:=3)).1 ?_;have h1:1≤3:=by omega
 have hmx:prog.follows .mixedOrders=true:=by kernel_rfl
 refine callsIn_of_wp func153 rfl trivial ?_ rfl
 simp only[ntmps153,List.size_toArray,List.length_cons,List.length_nil,Nat.reduceAdd,Nat.reduceSub,Array.replicate_succ,Array.replicate_zero,List.push_toArray,List.append_toArray,List.nil_append,List.cons_append]
 gi_upto_region 1 with fail
 obtain⟨b0,hB,hs⟩:=a3Z w (.bool false) (.slice A (toL N).length c) (.slice A' (toL D).length c');generalize w.alloc (.cells #[.bool false,.slice A (toL N).length c,.slice A' (toL D).length c'] 170)=W at *;obtain⟨x0,x1,x2⟩:=a0j (S:=fun k=>k < W.heap.size) b0 (by omega);have HB:=b9W (a0x hB);have HS:=b9W hs;have P0:=b9W b0;clear b0 hB hs;refine a0o (a0R W (fun k=>k < W.heap.size)) [0,1,3,4] [] hmx (by kernel_rfl) (a0g fun _ _=>rfl) ?_;change a0l _ _ _ _ _ _ _ _ (4+4) _ _ _;refine a0e [0,1,3,4] 4 _ _ (by kernel_rfl) ?_;change wpQuietIn _ _ _ _ (fun W'=>∃ x:a0n W (fun k=>k < W.heap.size),W'=x.W) _ _ _
 simp only[a0h,a0m,List.getElem?_cons_zero,List.getElem?_cons_succ,Option.elim_some]
 repeat (gi_big_quiet_step (fail))
 refine wpQuietIn_nil ?_;refine a0c 2 (by kernel_rfl) rfl ?_;gi_wp2;refine⟨trivial,?_⟩;refine(callsIn_wide.2 (a1e N _ W.drew (HN.out.below HB.out) l1)).mono ?_;rintro e w3 ⟨s3,rfl,HS3,hz3,hb3⟩;have hB3:Below W.heap.size W w3:=a0q hb3;have HB3:=b9W hB3;clear hb3 hB3;gi_wp2;refine a0b (a0a HB3.out (fun k hk=>hk)) ?_;refine a0c 5 (by kernel_rfl) rfl ?_;gi_wp2;refine⟨trivial,?_⟩;refine(callsIn_wide.2 (a1e D _ w3 (HD.out.below (HB.out.trans ((a0f HB3.out).mono HB.out.size))) l2)).mono ?_;rintro e w4 ⟨s4,rfl,HS4,hz4,hb4⟩;have hB4:Below W.heap.size W w4:=HB3.out.trans (hb4.mono HB3.out.size);have HB4:=b9W hB4;clear hb4 hB4;gi_wp2;refine a0b (a0a HB4.out (fun k hk=>hk)) ?_;refine a0c 6 (by kernel_rfl) rfl ?_;gi_wp2;refine a0b (a0a HB4.out (fun k hk=>hk)) ?_;refine a0c 7 (by kernel_rfl) rfl ?_;gi_wp2;refine a0b (a0a HB4.out (fun k hk=>hk)) ?_;refine a0i (by kernel_rfl) ?_;clear x0 x1 x2;obtain⟨x0,x1,x2⟩:=a1u (P0.out.below HB4.out (by have:=HS.out;omega));have hd1:decide ((4000:Int) < (s3.size:Int))=false:=decide_eq_false (by omega);have hd2:decide ((4000:Int) < (s4.size:Int))=false:=decide_eq_false (by omega);have h49:(s4.toList==[49])=false:=by
  rw[HS4.out,Lib.toList_data]
  show (Lib.decDigits D==[49])=false
  rw[beq_eq_false_iff_ne];exact a6O H3.out
 have z3:¬ 9223372036854775807 < 1+s3.size:=by omega
 have z4:¬ 9223372036854775807 < 1+s3.size+1:=by omega
 have z5:¬ 9223372036854775807 < s3.size+1:=by omega
 have z6:¬ 9223372036854775807 < 1+s3.size+1+s4.size:=by omega
 have z7:¬ 9223372036854775807 < s3.size+1+s4.size:=by omega
 clear hz3 hz4;gi_wp2;refine bodyPost_ret (results_tmp2 rfl _ _ _) rfl ?_;refine⟨?_,HB.out.trans ((a0f HB4.out).mono HB.out.size)⟩;rw[HS3.out,HS4.out];exact congrArg (fun x=>Ending.returned (.tuple #[.string x,.int .i64 0])) (by rw[a4U _ [47],a4U,List.append_assoc];rfl)
theorem a2Y(q:Rat)(v:Value)(w:World)(h:IsQ w v q)(l1:(toL (nm q)).length≤40000)(l2:(toL q.den).length≤40000) :
  Calls prog 153 #[v] w fun e w'=>e=.returned (resN (outQ q))∧Below w.heap.size w w':=by
 obtain⟨b,N,D,A,c,A',c',rfl,hn,hd,HQ⟩:=a0w h;obtain⟨q1,q2,q3⟩:=HQ.out;rw[← b5j,q1,q2,q3];rw[q2]at l1;rw[q3]at l2;unfold outP maxD resN
 by_cases h1:4000 < Lib.nDigits N
 ·rw[if_pos (.inl h1)]
  cases b with
  | true=>exact b6N N D A A' c c' w hn hd l1 l2 h1
  | false=>exact b5q N D A A' c c' w hn hd l1 l2 h1
 ·by_cases h2:4000 < Lib.nDigits D
  ·rw[if_pos (.inr h2)]
   cases b with
   | true=>exact b6k N D A A' c c' w hn hd l1 l2 (by omega) h2
   | false=>exact b5O N D A A' c c' w hn hd l1 l2 (by omega) h2
  ·rw[if_neg (by omega)]
   unfold b9L
   by_cases h3:D=1
   ·rw[if_pos h3,List.append_nil]
    cases b with
    | true=>exact b75 N D A A' c c' w hn hd l1 l2 (by omega) (by omega) h3
    | false=>exact b7G N D A A' c c' w hn hd l1 l2 (by omega) (by omega) h3
   ·rw[if_neg h3]
    cases b with
    | true=>exact b5R N D A A' c c' w hn hd l1 l2 (by omega) (by omega) h3
    | false=>exact b5W N D A A' c c' w hn hd l1 l2 (by omega) (by omega) h3
theorem b2m(a b:ByteArray)(w:World)(ha:a.size≤270000)(_hb:b.size≤270000)(he:errQ a.data.toList≠0) :
  Calls prog 59 #[.string a,.string b] w fun e w'=>e=.returned (.tuple #[.string ⟨#[]⟩,.int .i64 (errQ a.data.toList:Int)])∧Below w.heap.size w w':=by
 have HE:=b9W he;have hne:((errQ a.data.toList:Int)==0)=false:=by rw[beq_eq_false_iff_ne];omega
 clear he
 go_enter func59,ntmps59
 go_wp2_with (go_at_call 152;refine(a84 a b _ ha HE.out).mono ?_;rintro e w1 ⟨v,v',rfl,hs,hs',hb⟩;obtain⟨q0,q1,q2,q3,q4,q5,q6,rfl⟩:=hs;obtain⟨p0,p1,p2,p3,p4,p5,p6,rfl⟩:=hs';have HB:=b9W hb;clear hb)
 refine bodyPost_ret (results_tmp2 rfl _ _ _) rfl ?_;exact⟨rfl,a0d (a0d HB.out _) _⟩
theorem b2B(a b:ByteArray)(w:World)(ha:a.size≤270000)(hb:b.size≤270000)(he:errQ a.data.toList=0)(he2:errQ b.data.toList≠0) :
  Calls prog 59 #[.string a,.string b] w fun e w'=>e=.returned (.tuple #[.string ⟨#[]⟩,.int .i64 (errQ b.data.toList:Int)])∧Below w.heap.size w w':=by
 have HE:=b9W he;have HE2:=b9W he2;have hne:((errQ b.data.toList:Int)==0)=false:=by rw[beq_eq_false_iff_ne];omega
 clear he2;clear he
 go_enter func59,ntmps59
 go_wp2_with (go_at_call 152;refine(a7Q a b _ ha hb HE.out HE2.out).mono ?_;rintro e w1 ⟨v,v',rfl,hs,hs',hb⟩;obtain⟨q0,q1,q2,q3,q4,q5,q6,rfl⟩:=hs;obtain⟨p0,p1,p2,p3,p4,p5,p6,rfl⟩:=hs';have HB:=b9W hb;clear hb)
 refine bodyPost_ret (results_tmp2 rfl _ _ _) rfl ?_;exact⟨rfl,a0d (a0d HB.out _) _⟩
theorem b6Q(a b:ByteArray)(w:World)(ha:a.size≤270000)(hb:b.size≤270000)(he:errQ a.data.toList=0)(he2:errQ b.data.toList=0) :
  Calls prog 59 #[.string a,.string b] w fun e w'=>e=.returned (resN (outQ ((valQ a.data.toList)+(valQ b.data.toList))))∧Below w.heap.size w w':=by
 have HT:=b9W (fun w=>a9J a b w ha hb he he2);have sp:=a17 he;have sq:=a17 he2;generalize valQ a.data.toList=p at *;generalize valQ b.data.toList=q at *;obtain⟨lp,lp'⟩:=a1g sp;obtain⟨lq,lq'⟩:=a1g sq;clear he he2;obtain⟨lr,lr'⟩:=a3G (sp.add sq) (by unfold maxD;omega);have HW:=b9W (fun v w h=>a2Y (p+q) v w h lr lr');generalize outQ (p+q)=r at HW ⊢;unfold resN at HW;clear lr lr' sp sq
 go_enter func59,ntmps59
 go_wp2_with (first
  | (go_at_call 152;refine(HT.out _).mono ?_;rintro e w1 ⟨v,v',rfl,hv,hv',hb⟩;obtain⟨bp,N,D,A,c,A',c',rfl,hn,hd,HP⟩:=a0w hv;obtain⟨bq,N',D',B,d,B',d',rfl,hn',hd',HQ⟩:=a0w hv';have HV:=b9W hv;have HV':=b9W hv';have HB:=b9W hb;have HX:=b9W (a0d (a0d (Below.refl w1.heap.size w1) (.cells #[.bool bp,.slice A (toL N).length c,.slice A' (toL D).length c'] 170)) (.cells #[.bool bq,.slice B (toL N').length d,.slice B' (toL D').length d'] 170));have HBX:=b9W (HB.out.trans (HX.out.mono HB.out.size));clear hb hv hv' hn hd hn' hd')
  | (go_at_call 154;refine(a1M p q _ _ _ (HV.out.below HX.out) (HV'.out.below HX.out) (by omega) (by omega) (by omega) (by omega)).mono ?_;rintro e w2 ⟨v2,rfl,hv2,hb2⟩;obtain⟨b2,N2,D2,A2,c2,A2',c2',rfl,_,_,_⟩:=a0w hv2;have HV2:=b9W hv2;have HB2:=b9W (HBX.out.trans (hb2.mono HBX.out.size));clear hv2 hb2)
  | (go_at_call 153;refine(HW.out _ _ HV2.out).mono ?_;rintro e w3 ⟨rfl,hb3⟩;have HB3:=b9W (HB2.out.trans (hb3.mono HB2.out.size));clear hb3))
 refine bodyPost_ret (results_tmp2 rfl _ _ _) rfl ?_;exact⟨rfl,HB3.out⟩
theorem b39(a b:ByteArray)(w:World)(ha:a.size≤270000)(hb:b.size≤270000) :
  Calls prog 59 #[.string a,.string b] w fun e w'=>e=.returned (resN (twoQ (fun p q=>outQ (p+q)) a.data.toList b.data.toList))∧Below w.heap.size w w':=by
 unfold twoQ
 by_cases he:errQ a.data.toList=0
 ·rw[if_neg (by omega)]
  by_cases he2:errQ b.data.toList=0
  ·rw[if_neg (by omega)]
   exact b6Q a b w ha hb he he2
  ·rw[if_pos he2]
   exact b2B a b w ha hb he he2
 ·rw[if_pos he]
  exact b2m a b w ha hb he
theorem b19(a b:ByteArray)(w:World)(ha:a.size≤270000)(_hb:b.size≤270000)(he:errQ a.data.toList≠0) :
  Calls prog 149 #[.string a,.string b] w fun e w'=>e=.returned (.tuple #[.string ⟨#[]⟩,.int .i64 (errQ a.data.toList:Int)])∧Below w.heap.size w w':=by
 have HE:=b9W he;have hne:((errQ a.data.toList:Int)==0)=false:=by rw[beq_eq_false_iff_ne];omega
 clear he
 go_enter func149,ntmps149
 go_wp2_with (go_at_call 152;refine(a84 a b _ ha HE.out).mono ?_;rintro e w1 ⟨v,v',rfl,hs,hs',hb⟩;obtain⟨q0,q1,q2,q3,q4,q5,q6,rfl⟩:=hs;obtain⟨p0,p1,p2,p3,p4,p5,p6,rfl⟩:=hs';have HB:=b9W hb;clear hb)
 refine bodyPost_ret (results_tmp2 rfl _ _ _) rfl ?_;exact⟨rfl,a0d (a0d HB.out _) _⟩
theorem b2S(a b:ByteArray)(w:World)(ha:a.size≤270000)(hb:b.size≤270000)(he:errQ a.data.toList=0)(he2:errQ b.data.toList≠0) :
  Calls prog 149 #[.string a,.string b] w fun e w'=>e=.returned (.tuple #[.string ⟨#[]⟩,.int .i64 (errQ b.data.toList:Int)])∧Below w.heap.size w w':=by
 have HE:=b9W he;have HE2:=b9W he2;have hne:((errQ b.data.toList:Int)==0)=false:=by rw[beq_eq_false_iff_ne];omega
 clear he2;clear he
 go_enter func149,ntmps149
 go_wp2_with (go_at_call 152;refine(a7Q a b _ ha hb HE.out HE2.out).mono ?_;rintro e w1 ⟨v,v',rfl,hs,hs',hb⟩;obtain⟨q0,q1,q2,q3,q4,q5,q6,rfl⟩:=hs;obtain⟨p0,p1,p2,p3,p4,p5,p6,rfl⟩:=hs';have HB:=b9W hb;clear hb)
 refine bodyPost_ret (results_tmp2 rfl _ _ _) rfl ?_;exact⟨rfl,a0d (a0d HB.out _) _⟩
theorem b52(a b:ByteArray)(w:World)(ha:a.size≤270000)(hb:b.size≤270000)(he:errQ a.data.toList=0)(he2:errQ b.data.toList=0) :
  Calls prog 149 #[.string a,.string b] w fun e w'=>e=.returned (resN (outQ ((valQ a.data.toList)*(valQ b.data.toList))))∧Below w.heap.size w w':=by
 have HT:=b9W (fun w=>a9J a b w ha hb he he2);have sp:=a17 he;have sq:=a17 he2;generalize valQ a.data.toList=p at *;generalize valQ b.data.toList=q at *;obtain⟨lp,lp'⟩:=a1g sp;obtain⟨lq,lq'⟩:=a1g sq;clear he he2;obtain⟨lr,lr'⟩:=a3G (sp.mul sq) (by unfold maxD;omega);have HW:=b9W (fun v w h=>a2Y (p*q) v w h lr lr');generalize outQ (p*q)=r at HW ⊢;unfold resN at HW;clear lr lr' sp sq
 go_enter func149,ntmps149
 go_wp2_with (first
  | (go_at_call 152;refine(HT.out _).mono ?_;rintro e w1 ⟨v,v',rfl,hv,hv',hb⟩;obtain⟨bp,N,D,A,c,A',c',rfl,hn,hd,HP⟩:=a0w hv;obtain⟨bq,N',D',B,d,B',d',rfl,hn',hd',HQ⟩:=a0w hv';have HV:=b9W hv;have HV':=b9W hv';have HB:=b9W hb;have HX:=b9W (a0d (a0d (Below.refl w1.heap.size w1) (.cells #[.bool bp,.slice A (toL N).length c,.slice A' (toL D).length c'] 170)) (.cells #[.bool bq,.slice B (toL N').length d,.slice B' (toL D').length d'] 170));have HBX:=b9W (HB.out.trans (HX.out.mono HB.out.size));clear hb hv hv' hn hd hn' hd')
  | (go_at_call 229;refine(a8Z p q _ _ _ (HV.out.below HX.out) (HV'.out.below HX.out) (by omega) (by omega) (by omega) (by omega)).mono ?_;rintro e w2 ⟨v2,rfl,hv2,hb2⟩;obtain⟨b2,N2,D2,A2,c2,A2',c2',rfl,_,_,_⟩:=a0w hv2;have HV2:=b9W hv2;have HB2:=b9W (HBX.out.trans (hb2.mono HBX.out.size));clear hv2 hb2)
  | (go_at_call 153;refine(HW.out _ _ HV2.out).mono ?_;rintro e w3 ⟨rfl,hb3⟩;have HB3:=b9W (HB2.out.trans (hb3.mono HB2.out.size));clear hb3))
 refine bodyPost_ret (results_tmp2 rfl _ _ _) rfl ?_;exact⟨rfl,HB3.out⟩
theorem b3X(a b:ByteArray)(w:World)(ha:a.size≤270000)(hb:b.size≤270000) :
  Calls prog 149 #[.string a,.string b] w fun e w'=>e=.returned (resN (twoQ (fun p q=>outQ (p*q)) a.data.toList b.data.toList))∧Below w.heap.size w w':=by
 unfold twoQ
 by_cases he:errQ a.data.toList=0
 ·rw[if_neg (by omega)]
  by_cases he2:errQ b.data.toList=0
  ·rw[if_neg (by omega)]
   exact b52 a b w ha hb he he2
  ·rw[if_pos he2]
   exact b2S a b w ha hb he he2
 ·rw[if_pos he]
  exact b19 a b w ha hb he
theorem b11(a b:ByteArray)(w:World)(ha:a.size≤270000)(_hb:b.size≤270000)(he:errQ a.data.toList≠0) :
  Calls prog 61 #[.string a,.string b] w fun e w'=>e=.returned (.tuple #[.string ⟨#[]⟩,.int .i64 (errQ a.data.toList:Int)])∧Below w.heap.size w w':=by
 have HE:=b9W he;have hne:((errQ a.data.toList:Int)==0)=false:=by rw[beq_eq_false_iff_ne];omega
 clear he
 go_enter func61,ntmps61
 go_wp2_with (go_at_call 152;refine(a84 a b _ ha HE.out).mono ?_;rintro e w1 ⟨v,v',rfl,hs,hs',hb⟩;obtain⟨q0,q1,q2,q3,q4,q5,q6,rfl⟩:=hs;obtain⟨p0,p1,p2,p3,p4,p5,p6,rfl⟩:=hs';have HB:=b9W hb;clear hb)
 refine bodyPost_ret (results_tmp2 rfl _ _ _) rfl ?_;exact⟨rfl,a0d (a0d HB.out _) _⟩
theorem b1V(a b:ByteArray)(w:World)(ha:a.size≤270000)(hb:b.size≤270000)(he:errQ a.data.toList=0)(he2:errQ b.data.toList≠0) :
  Calls prog 61 #[.string a,.string b] w fun e w'=>e=.returned (.tuple #[.string ⟨#[]⟩,.int .i64 (errQ b.data.toList:Int)])∧Below w.heap.size w w':=by
 have HE:=b9W he;have HE2:=b9W he2;have hne:((errQ b.data.toList:Int)==0)=false:=by rw[beq_eq_false_iff_ne];omega
 clear he2;clear he
 go_enter func61,ntmps61
 go_wp2_with (go_at_call 152;refine(a7Q a b _ ha hb HE.out HE2.out).mono ?_;rintro e w1 ⟨v,v',rfl,hs,hs',hb⟩;obtain⟨q0,q1,q2,q3,q4,q5,q6,rfl⟩:=hs;obtain⟨p0,p1,p2,p3,p4,p5,p6,rfl⟩:=hs';have HB:=b9W hb;clear hb)
 refine bodyPost_ret (results_tmp2 rfl _ _ _) rfl ?_;exact⟨rfl,a0d (a0d HB.out _) _⟩
theorem b4_(a b:ByteArray)(w:World)(ha:a.size≤270000)(hb:b.size≤270000)(he:errQ a.data.toList=0)(he2:errQ b.data.toList=0) :
  Calls prog 61 #[.string a,.string b] w fun e w'=>e=.returned (resN (outQ ((valQ a.data.toList)+-(valQ b.data.toList))))∧Below w.heap.size w w':=by
 have HT:=b9W (fun w=>a9J a b w ha hb he he2);have sp:=a17 he;have sq:=a17 he2;generalize valQ a.data.toList=p at *;generalize valQ b.data.toList=q at *;obtain⟨lp,lp'⟩:=a1g sp;obtain⟨lq,lq'⟩:=a1g sq;clear he he2;obtain⟨lr,lr'⟩:=a3G (sp.add sq.neg) (by unfold maxD;omega);obtain⟨_,hq2,hq3⟩:=a2J q;have HW:=b9W (fun v w h=>a2Y (p+-q) v w h lr lr');generalize outQ (p+-q)=r at HW ⊢;unfold resN at HW;clear lr lr' sp sq;refine(callsIn_wide (n:=3)).1 ?_;have h1:1≤3:=by omega
 have hmx:prog.follows .mixedOrders=true:=by kernel_rfl
 refine callsIn_of_wp func61 rfl trivial ?_ rfl
 simp only[ntmps61,List.size_toArray,List.length_cons,List.length_nil,Nat.reduceAdd,Nat.reduceSub,Array.replicate_succ,Array.replicate_zero,List.push_toArray,List.append_toArray,List.nil_append,List.cons_append]
 gi_upto_region 4 with fail
 refine⟨trivial,?_⟩;refine(callsIn_wide.2 (HT.out w)).mono ?_;rintro e w1 ⟨v,v',rfl,hv,hv',hb⟩;obtain⟨bp,N,D,A,c,A',c',rfl,hn,hd,HP⟩:=a0w hv;obtain⟨bq,N',D',B,d,B',d',rfl,hn',hd',HQ⟩:=a0w hv';have HV:=b9W hv;have HV':=b9W hv';have HB:=b9W hb;have HX:=b9W (a0d (a0d (Below.refl w1.heap.size w1) (.cells #[.bool bp,.slice A (toL N).length c,.slice A' (toL D).length c'] 170)) (.cells #[.bool bq,.slice B (toL N').length d,.slice B' (toL D').length d'] 170));have HBX:=b9W (HB.out.trans (HX.out.mono HB.out.size));clear hb hv hv' hn hd hn' hd'
 gi_upto_region 4 with fail
 have b0:Blk ((w1.alloc (.cells #[.bool bp,.slice A (toL N).length c,.slice A' (toL D).length c'] 170)).alloc (.cells #[.bool bq,.slice B (toL N').length d,.slice B' (toL D').length d'] 170)) w1.heap.size 170 #[.bool bp,.slice A (toL N).length c,.slice A' (toL D).length c']:=(Blk.new w1 _ _).alloc _;have b1:Blk ((w1.alloc (.cells #[.bool bp,.slice A (toL N).length c,.slice A' (toL D).length c'] 170)).alloc (.cells #[.bool bq,.slice B (toL N').length d,.slice B' (toL D').length d'] 170)) (w1.heap.size+1) 170 #[.bool bq,.slice B (toL N').length d,.slice B' (toL D').length d']:=by
  have:=Blk.new (w1.alloc (.cells #[.bool bp,.slice A (toL N).length c,.slice A' (toL D).length c'] 170)) 170 #[.bool bq,.slice B (toL N').length d,.slice B' (toL D').length d']
  rwa [World.size_alloc]at this
 have hs:w1.heap.size+1 < ((w1.alloc (.cells #[.bool bp,.slice A (toL N).length c,.slice A' (toL D).length c'] 170)).alloc (.cells #[.bool bq,.slice B (toL N').length d,.slice B' (toL D').length d'] 170)).heap.size:=by simp
 generalize (w1.alloc (.cells #[.bool bp,.slice A (toL N).length c,.slice A' (toL D).length c'] 170)).alloc (.cells #[.bool bq,.slice B (toL N').length d,.slice B' (toL D').length d'] 170)=W at *;obtain⟨x0,x1,x2⟩:=a0j (S:=fun k=>k < W.heap.size) b0 (by omega);obtain⟨y0,y1,y2⟩:=a0j (S:=fun k=>k < W.heap.size) b1 (by omega);have HXD:=b9W (a0x HX.out);clear b0 b1;refine a0o (a0R W (fun k=>k < W.heap.size)) [0,1,5,6,7,8] [] hmx (by kernel_rfl) (a0g fun _ _=>rfl) ?_;change a0l _ _ _ _ _ _ _ _ (7+2) _ _ _;refine a0e [0,1] 7 _ _ (by kernel_rfl) ?_;change wpQuietIn _ _ _ _ (fun W'=>∃ x:a0n W (fun k=>k < W.heap.size),W'=x.W) _ _ _
 simp only[a0h,a0m,List.getElem?_cons_zero,List.getElem?_cons_succ,Option.elim_some]
 repeat (gi_big_quiet_step (fail))
 refine wpQuietIn_nil ?_;refine a0c 2 (by kernel_rfl) rfl ?_;gi_wp2;refine⟨trivial,?_⟩;refine(callsIn_wide.2 (a3P q _ W.drew (HV'.out.below HXD.out))).mono ?_;rintro e w2 ⟨v2,rfl,hv2,hb2⟩;obtain⟨b2,N2,D2,A2,c2,A2',c2',rfl,_,_,_⟩:=a0w hv2;have HV2:=b9W hv2;have hB2:Below W.heap.size W w2:=a0q hb2;have HB2:=b9W hB2;have HX2:=b9W (HXD.out.trans (hb2.mono HXD.out.size));clear hv2 hb2 hB2;gi_wp2;refine a0b (a0a HB2.out (fun k hk=>hk)) ?_;refine a0c 3 (by kernel_rfl) rfl ?_;gi_wp2;refine⟨trivial,?_⟩;refine(callsIn_wide.2 (a1M p (-q) _ _ w2 (HV.out.below HX2.out) HV2.out (by omega) (by omega) (by rw[hq2];omega) (by rw[hq3];omega))).mono ?_;rintro e w3 ⟨v3,rfl,hv3,hb3⟩;obtain⟨b3,N3,D3,A3,c3,A3',c3',rfl,_,_,_⟩:=a0w hv3;have HV3:=b9W hv3;have HB3:=b9W (HB2.out.trans (hb3.mono HB2.out.size));clear hv3 hb3;gi_wp2;refine a0b (a0a HB3.out (fun k hk=>hk)) ?_;refine a0c 4 (by kernel_rfl) rfl ?_;gi_wp2;refine⟨trivial,?_⟩;refine(callsIn_wide.2 (HW.out _ w3 HV3.out)).mono ?_;rintro e w4 ⟨rfl,hb4⟩;have HB4:=b9W (HB3.out.trans (hb4.mono HB3.out.size));clear hb4;gi_wp2;refine a0b (a0a HB4.out (fun k hk=>hk)) ?_;change a0l _ _ _ _ _ _ _ _ (0+4) _ _ _;refine a0e [5,6,7,8] 0 _ _ (by kernel_rfl) ?_;change wpQuietIn _ _ _ _ (fun W'=>∃ x:a0n W (fun k=>k < W.heap.size),W'=x.W) _ _ _
 simp only[a0h,a0m,List.getElem?_cons_zero,List.getElem?_cons_succ,Option.elim_some]
 repeat (gi_big_quiet_step (fail))
 refine wpQuietIn_nil ?_;refine a0i (by kernel_rfl) ?_;gi_wp2;refine bodyPost_ret (results_tmp2 rfl _ _ _) rfl ?_;exact⟨rfl,HB.out.trans ((HX.out.trans (HB4.out.mono HX.out.size)).mono HB.out.size)⟩
theorem b4r(a b:ByteArray)(w:World)(ha:a.size≤270000)(hb:b.size≤270000) :
  Calls prog 61 #[.string a,.string b] w fun e w'=>e=.returned (resN (twoQ (fun p q=>outQ (p+-q)) a.data.toList b.data.toList))∧Below w.heap.size w w':=by
 unfold twoQ
 by_cases he:errQ a.data.toList=0
 ·rw[if_neg (by omega)]
  by_cases he2:errQ b.data.toList=0
  ·rw[if_neg (by omega)]
   exact b4_ a b w ha hb he he2
  ·rw[if_pos he2]
   exact b1V a b w ha hb he he2
 ·rw[if_pos he]
  exact b11 a b w ha hb he
theorem b18(a b:ByteArray)(w:World)(ha:a.size≤270000)(_hb:b.size≤270000)(he:errQ a.data.toList≠0) :
  Calls prog 160 #[.string a,.string b] w fun e w'=>e=.returned (.tuple #[.string ⟨#[]⟩,.int .i64 (errQ a.data.toList:Int)])∧Below w.heap.size w w':=by
 have HE:=b9W he;have hne:((errQ a.data.toList:Int)==0)=false:=by rw[beq_eq_false_iff_ne];omega
 clear he
 go_enter func160,ntmps160
 go_wp2_with (go_at_call 152;refine(a84 a b _ ha HE.out).mono ?_;rintro e w1 ⟨v,v',rfl,hs,hs',hb⟩;obtain⟨q0,q1,q2,q3,q4,q5,q6,rfl⟩:=hs;obtain⟨p0,p1,p2,p3,p4,p5,p6,rfl⟩:=hs';have HB:=b9W hb;clear hb)
 refine bodyPost_ret (results_tmp2 rfl _ _ _) rfl ?_;exact⟨rfl,a0d (a0d HB.out _) _⟩
theorem b2l(a b:ByteArray)(w:World)(ha:a.size≤270000)(hb:b.size≤270000)(he:errQ a.data.toList=0)(he2:errQ b.data.toList≠0) :
  Calls prog 160 #[.string a,.string b] w fun e w'=>e=.returned (.tuple #[.string ⟨#[]⟩,.int .i64 (errQ b.data.toList:Int)])∧Below w.heap.size w w':=by
 have HE:=b9W he;have HE2:=b9W he2;have hne:((errQ b.data.toList:Int)==0)=false:=by rw[beq_eq_false_iff_ne];omega
 clear he2;clear he
 go_enter func160,ntmps160
 go_wp2_with (go_at_call 152;refine(a7Q a b _ ha hb HE.out HE2.out).mono ?_;rintro e w1 ⟨v,v',rfl,hs,hs',hb⟩;obtain⟨q0,q1,q2,q3,q4,q5,q6,rfl⟩:=hs;obtain⟨p0,p1,p2,p3,p4,p5,p6,rfl⟩:=hs';have HB:=b9W hb;clear hb)
 refine bodyPost_ret (results_tmp2 rfl _ _ _) rfl ?_;exact⟨rfl,a0d (a0d HB.out _) _⟩
theorem b6v(a b:ByteArray)(w:World)(ha:a.size≤270000)(hb:b.size≤270000)(he:errQ a.data.toList=0)(he2:errQ b.data.toList=0)(h0:valQ b.data.toList≠0) :
  Calls prog 160 #[.string a,.string b] w fun e w'=>e=.returned (resN (outQ ((valQ a.data.toList)*(valQ b.data.toList)⁻¹)))∧Below w.heap.size w w':=by
 have HT:=b9W (fun w=>a9J a b w ha hb he he2);have sp:=a17 he;have sq:=a17 he2;generalize valQ a.data.toList=p at *;generalize valQ b.data.toList=q at *;obtain⟨lp,lp'⟩:=a1g sp;obtain⟨lq,lq'⟩:=a1g sq;clear he he2;obtain⟨lr,lr'⟩:=a3G (sp.mul sq.inv) (by unfold maxD;omega);obtain⟨_,hq2,hq3⟩:=a2G h0;have HZ:=b9W h0;have HNZ:=b9W (fun (N:Nat) (h:nm q=N)=>show (((toL N).length:Int)==0)=false by rw[a2g,decide_eq_false (fun h2=>h0 (a76.1 (h.trans h2)))]);clear h0;have HW:=b9W (fun v w h=>a2Y (p*q⁻¹) v w h lr lr');generalize outQ (p*q⁻¹)=r at HW ⊢;unfold resN at HW;clear lr lr' sp sq;refine(callsIn_wide (n:=3)).1 ?_;have h1:1≤3:=by omega
 have hmx:prog.follows .mixedOrders=true:=by kernel_rfl
 refine callsIn_of_wp func160 rfl trivial ?_ rfl
 simp only[ntmps160,List.size_toArray,List.length_cons,List.length_nil,Nat.reduceAdd,Nat.reduceSub,Array.replicate_succ,Array.replicate_zero,List.push_toArray,List.append_toArray,List.nil_append,List.cons_append]
 gi_upto_region 6 with fail
 refine⟨trivial,?_⟩;refine(callsIn_wide.2 (HT.out w)).mono ?_;rintro e w1 ⟨v,v',rfl,hv,hv',hb⟩;obtain⟨bp,N,D,A,c,A',c',rfl,hn,hd,HP⟩:=a0w hv;obtain⟨bq,N',D',B,d,B',d',rfl,hn',hd',HQ⟩:=a0w hv';have HV:=b9W hv;have HV':=b9W hv';have HB:=b9W hb;have HX:=b9W (a0d (a0d (Below.refl w1.heap.size w1) (.cells #[.bool bp,.slice A (toL N).length c,.slice A' (toL D).length c'] 170)) (.cells #[.bool bq,.slice B (toL N').length d,.slice B' (toL D').length d'] 170));have HBX:=b9W (HB.out.trans (HX.out.mono HB.out.size));have hln:=HNZ.out _ HQ.out.2.1;clear hb hv hv' hn hd hn' hd'
 gi_upto_region 6 with fail
 have b0:Blk ((w1.alloc (.cells #[.bool bp,.slice A (toL N).length c,.slice A' (toL D).length c'] 170)).alloc (.cells #[.bool bq,.slice B (toL N').length d,.slice B' (toL D').length d'] 170)) w1.heap.size 170 #[.bool bp,.slice A (toL N).length c,.slice A' (toL D).length c']:=(Blk.new w1 _ _).alloc _;have b1:Blk ((w1.alloc (.cells #[.bool bp,.slice A (toL N).length c,.slice A' (toL D).length c'] 170)).alloc (.cells #[.bool bq,.slice B (toL N').length d,.slice B' (toL D').length d'] 170)) (w1.heap.size+1) 170 #[.bool bq,.slice B (toL N').length d,.slice B' (toL D').length d']:=by
  have:=Blk.new (w1.alloc (.cells #[.bool bp,.slice A (toL N).length c,.slice A' (toL D).length c'] 170)) 170 #[.bool bq,.slice B (toL N').length d,.slice B' (toL D').length d']
  rwa [World.size_alloc]at this
 have hs:w1.heap.size+1 < ((w1.alloc (.cells #[.bool bp,.slice A (toL N).length c,.slice A' (toL D).length c'] 170)).alloc (.cells #[.bool bq,.slice B (toL N').length d,.slice B' (toL D').length d'] 170)).heap.size:=by simp
 generalize (w1.alloc (.cells #[.bool bp,.slice A (toL N).length c,.slice A' (toL D).length c'] 170)).alloc (.cells #[.bool bq,.slice B (toL N').length d,.slice B' (toL D').length d'] 170)=W at *;obtain⟨x0,x1,x2⟩:=a0j (S:=fun k=>k < W.heap.size) b0 (by omega);obtain⟨y0,y1,y2⟩:=a0j (S:=fun k=>k < W.heap.size) b1 (by omega);have HXD:=b9W (a0x HX.out);clear b0 b1;refine a0o (a0R W (fun k=>k < W.heap.size)) [0,1,5,6,7,8] [] hmx (by kernel_rfl) (a0g fun _ _=>rfl) ?_;change a0l _ _ _ _ _ _ _ _ (7+2) _ _ _;refine a0e [0,1] 7 _ _ (by kernel_rfl) ?_;change wpQuietIn _ _ _ _ (fun W'=>∃ x:a0n W (fun k=>k < W.heap.size),W'=x.W) _ _ _
 simp only[a0h,a0m,List.getElem?_cons_zero,List.getElem?_cons_succ,Option.elim_some]
 repeat (gi_big_quiet_step (fail))
 refine wpQuietIn_nil ?_;refine a0c 2 (by kernel_rfl) rfl ?_;gi_wp2;refine⟨trivial,?_⟩;refine(callsIn_wide.2 (a81 q _ W.drew (HV'.out.below HXD.out) HZ.out)).mono ?_;rintro e w2 ⟨v2,rfl,hv2,hb2⟩;obtain⟨b2,N2,D2,A2,c2,A2',c2',rfl,_,_,_⟩:=a0w hv2;have HV2:=b9W hv2;have hB2:Below W.heap.size W w2:=a0q hb2;have HB2:=b9W hB2;have HX2:=b9W (HXD.out.trans (hb2.mono HXD.out.size));clear hv2 hb2 hB2;gi_wp2;refine a0b (a0a HB2.out (fun k hk=>hk)) ?_;refine a0c 3 (by kernel_rfl) rfl ?_;gi_wp2;refine⟨trivial,?_⟩;refine(callsIn_wide.2 (a8Z p q⁻¹ _ _ w2 (HV.out.below HX2.out) HV2.out (by omega) (by omega) (by rw[hq2];omega) (by rw[hq3];omega))).mono ?_;rintro e w3 ⟨v3,rfl,hv3,hb3⟩;obtain⟨b3,N3,D3,A3,c3,A3',c3',rfl,_,_,_⟩:=a0w hv3;have HV3:=b9W hv3;have HB3:=b9W (HB2.out.trans (hb3.mono HB2.out.size));clear hv3 hb3;gi_wp2;refine a0b (a0a HB3.out (fun k hk=>hk)) ?_;refine a0c 4 (by kernel_rfl) rfl ?_;gi_wp2;refine⟨trivial,?_⟩;refine(callsIn_wide.2 (HW.out _ w3 HV3.out)).mono ?_;rintro e w4 ⟨rfl,hb4⟩;have HB4:=b9W (HB3.out.trans (hb4.mono HB3.out.size));clear hb4;gi_wp2;refine a0b (a0a HB4.out (fun k hk=>hk)) ?_;change a0l _ _ _ _ _ _ _ _ (0+4) _ _ _;refine a0e [5,6,7,8] 0 _ _ (by kernel_rfl) ?_;change wpQuietIn _ _ _ _ (fun W'=>∃ x:a0n W (fun k=>k < W.heap.size),W'=x.W) _ _ _
 simp only[a0h,a0m,List.getElem?_cons_zero,List.getElem?_cons_succ,Option.elim_some]
 repeat (gi_big_quiet_step (fail))
 refine wpQuietIn_nil ?_;refine a0i (by kernel_rfl) ?_;gi_wp2;refine bodyPost_ret (results_tmp2 rfl _ _ _) rfl ?_;exact⟨rfl,HB.out.trans ((HX.out.trans (HB4.out.mono HX.out.size)).mono HB.out.size)⟩
theorem b4k(a b:ByteArray)(w:World)(ha:a.size≤270000)(hb:b.size≤270000)(he:errQ a.data.toList=0)(he2:errQ b.data.toList=0)(h0:valQ b.data.toList=0) :
  Calls prog 160 #[.string a,.string b] w fun e w'=>e=.returned (.tuple #[.string ⟨#[]⟩,.int .i64 6])∧Below w.heap.size w w':=by
 have HT:=b9W (fun w=>a9J a b w ha hb he he2);have sp:=a17 he;have sq:=a17 he2;generalize valQ a.data.toList=p at *;generalize valQ b.data.toList=q at *;obtain⟨lp,lp'⟩:=a1g sp;obtain⟨lq,lq'⟩:=a1g sq;clear he he2;have HNZ:=b9W (fun (N:Nat) (h:nm q=N)=>show (((toL N).length:Int)==0)=true by rw[a2g,decide_eq_true (by rw[← h,h0];rfl)]);clear h0 sp sq
 go_enter func160,ntmps160
 go_wp2_with (go_at_call 152;refine(HT.out _).mono ?_;rintro e w1 ⟨v,v',rfl,hv,hv',hb⟩;obtain⟨bp,N,D,A,c,A',c',rfl,hn,hd,HP⟩:=a0w hv;obtain⟨bq,N',D',B,d,B',d',rfl,hn',hd',HQ⟩:=a0w hv';have HV:=b9W hv;have HV':=b9W hv';have HB:=b9W hb;have HX:=b9W (a0d (a0d (Below.refl w1.heap.size w1) (.cells #[.bool bp,.slice A (toL N).length c,.slice A' (toL D).length c'] 170)) (.cells #[.bool bq,.slice B (toL N').length d,.slice B' (toL D').length d'] 170));have HBX:=b9W (HB.out.trans (HX.out.mono HB.out.size));clear hb hv hv' hn hd hn' hd';have hln:=HNZ.out _ HQ.out.2.1)
 refine bodyPost_ret (results_tmp2 rfl _ _ _) rfl ?_;exact⟨rfl,HBX.out⟩
theorem b4E(a b:ByteArray)(w:World)(ha:a.size≤270000)(hb:b.size≤270000) :
  Calls prog 160 #[.string a,.string b] w fun e w'=>e=.returned (resN (twoQ divQ a.data.toList b.data.toList))∧Below w.heap.size w w':=by
 unfold twoQ
 by_cases he:errQ a.data.toList=0
 ·rw[if_neg (by omega)]
  by_cases he2:errQ b.data.toList=0
  ·rw[if_neg (by omega)]
   unfold divQ
   by_cases h0:valQ b.data.toList=0
   ·rw[if_pos h0]
    exact b4k a b w ha hb he he2 h0
   ·rw[if_neg h0]
    exact b6v a b w ha hb he he2 h0
  ·rw[if_pos he2]
   exact b2l a b w ha hb he he2
 ·rw[if_pos he]
  exact b18 a b w ha hb he
end Go.Proofs.YtigapglmipmbeaaGreatDoor
