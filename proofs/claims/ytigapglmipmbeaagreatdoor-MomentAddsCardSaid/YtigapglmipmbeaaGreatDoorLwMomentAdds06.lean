/- The reference's product. -/
import Derived.Test.YtigapglmipmbeaaGreatDoorLwMomentAdds05
import Derived.Test.YtigapglmipmbeaaGreatDoorLwMomentAdds04
import Derived.Test.YtigapglmipmbeaaGreatDoorLwMomentAdds02
import Derived.Test.YtigapglmipmbeaaGreatDoorLwMomentAdds01
import Derived.Test.YtigapglmipmbeaaGreatDoorLwMomentAdds03
set_option maxRecDepth 100000
set_option maxHeartbeats 16000000
open Go.Proofs.Tryz
namespace Go.Proofs.YtigapglmipmbeaaGreatDoor
open Go.RowKit
open Lim
theorem b3O(x y:Nat)(vx vy:Value)(w:World)(hx:a0u w vx x)(hy:a0u w vy y)(hlx:(toL x).length≤40000)(hly:(toL y).length≤40000) :
  Calls prog 231 #[vx,vy] w fun e w'=>∃ v,e=.returned v∧w'.ownsRow w.heap.size 3 1 v (toL (x*y)).length (I64 (toL (x*y)))∧Below w.heap.size w w':=by
 obtain⟨A,c,rfl,hc,hcm,hra⟩:=hx;obtain⟨A',c',rfl,hc',hcm',hrb⟩:=hy;obtain⟨i0,hi,hz0,hz1,hz2⟩:=info_parts Tryz.infoI;have hmk:=fun W=>a3d (P:=prog) underlying168 hi hz0 hz1 hz2 (n:=(toL x).length+(toL y).length) (by omega) (C:=((toL x).length:Int)+((toL y).length:Int)) (by omega) W;have hxs:=a1c x;have hys:=a1c y
 go_enter func231,ntmps231
 go_wp2;clear hmk;have hblk0:Blk (w.alloc (.cells (madeCells #[.int .i64 0] ((toL x).length+(toL y).length)) 3)) w.heap.size 3 (I64 (List.replicate ((toL x).length+(toL y).length) 0)).toArray:=by rw[← a6e];exact Blk.new _ _ _
 go_loopw [6] (fun i wr=>∃ (k:Nat) (O:List Nat),k≤(toL x).length∧i=.int .i64 (k:Int)∧a4c (toL x) (toL y) k O∧Blk wr w.heap.size 3 (I64 O).toArray∧Below w.heap.size w wr) (fun i _=>(toL x).length - (intOf i).toNat)
 case atStart=>exact⟨0,_,Nat.zero_le _,rfl,a4c.start _ _,hblk0,(Below.refl _ _).alloc (Nat.le_refl _) _⟩
 case round =>
  obtain⟨k,O,hk,rfl,hinv,hblk,hB⟩:=hrel;clear hblk0;obtain⟨wo,rfl⟩:∃ wo,wo=wr:=⟨_,rfl⟩
  by_cases hlt:k < (toL x).length
  ·obtain⟨b,o,rfl,hb,hcell⟩:=hra (by rw[a0M];omega)
   have hcx0:=hcell k _ (a1V hlt);have hx0:=hxs.get k;have HI:=b9W (hinv.enter ((toL x)[k]?.getD 0));have HLV:Hid (∀ (O':List Nat) (c:Nat),a4Y (val ((toL x).take k)*val (toL y)) (toL y) k ((toL x)[k]?.getD 0) (toL y).length O' ((toL x).length+(toL y).length) c→a4c (toL x) (toL y) (k+1) (O'.set (k+(toL y).length) c)):=fun O' c h=>a4Y.leave h hlt;clear hcell hinv;generalize (toL x)[k]?.getD 0=x0 at *;rw[a0B]at hx0;have HB:=b9W hblk;clear hblk;go_wp2
   go_loopw [7,8] (fun s j wr=>∃ (m:Nat) (O':List Nat) (cy:Nat),m≤(toL y).length∧j=.int .i64 (m:Int)∧s=.int .i64 (cy:Int)∧a4Y (val ((toL x).take k)*val (toL y)) (toL y) k x0 m O' ((toL x).length+(toL y).length) cy∧Blk wr w.heap.size 3 (I64 O').toArray∧Below w.heap.size w wr) (fun _ j _=>(toL y).length - (intOf j).toNat)
   case atStart=>exact⟨0,_,0,Nat.zero_le _,rfl,rfl,HI.out,HB.out,hB⟩
   case round =>
    obtain⟨m,O',cy,hm,rfl,rfl,hin,hblk',hB'⟩:=hrel;clear HI HB;have hcy:=hin.2.2.2.1;have hOl:=hin.2.1;rw[a0B]at hcy
    by_cases hlq:m < (toL y).length
    ·obtain⟨b2,o2,rfl,hb2,hcell2⟩:=hrb (by rw[a0M];omega)
     have hcx2:=(hB'.cell (p:=⟨b,o+k,none⟩) hb).trans hcx0;have hcy2:=(hB'.cell (p:=⟨b2,o2+m,none⟩) hb2).trans (hcell2 m _ (a1V hlq));have hy0:=hys.get m;have ho0:=hin.1.get (k+m);have hst1:=hblk'.getI (i:=k+m) (by omega);have hst2:=hblk'.frozen (k+m);have HST:=b9W (hin.step (by rw[a0B];exact hx0) hys hlq (by omega) rfl);have hmb:=a6r (by rw[a0B];exact hx0) hy0 (by rw[a0B];exact hcy) ho0;clear hcell2 hin hOl;have HB:=b9W hblk';clear hblk';generalize (toL y)[m]?.getD 0=y0 at *;generalize O'[k+m]?.getD 0=o0 at *;rw[a0B]at hy0 ho0;have hp0:(0:Int)≤(x0:Int)*(y0:Int):=Int.mul_nonneg (by omega) (by omega);have hp1:(o0:Int)+(x0:Int)*(y0:Int)+(cy:Int)≤1000000000000000000:=by
      rw[a5t];rw[show B*B=1000000000000000000 from rfl]at hmb;omega
     clear hmb;go_wp2
     go_quiet (fail)
     go_wp2
     go_roundw
     case rel =>
      refine⟨m+1,O'.set (k+m) ((o0+x0*y0+cy) % B),(o0+x0*y0+cy) / B,by omega,by go_num,?_,HST.out,?_,(a04 hB' nq).setCell (p:=⟨w.heap.size,k+m,none⟩) (Nat.le_refl _) _⟩
      ·rw[a5t,a6i]
      ·rw[a5t,a6v];exact Blk.setI (w:=wr.drewN nq) HB.out _ _
     case measure=>simp[intOf];omega
    ·obtain rfl:m=(toL y).length:=by omega
     have hst1:=hblk'.getI (i:=k+(toL y).length) (by omega);have hst2:=hblk'.frozen (k+(toL y).length);have HST:=b9W (HLV.out _ _ hin);have HB:=b9W hblk';clear hin hblk' hOl;go_wp2
     go_roundw
     case rel =>
      exact⟨k+1,_,by omega,by go_num,HST.out,HB.out.setI _ _,hB'.setCell (p:=⟨w.heap.size,k+(toL y).length,none⟩) (Nat.le_refl _) _⟩
     case measure=>simp[intOf];omega
  ·obtain rfl:k=(toL x).length:=by omega
   have hd:=hinv.done;rw[a0S,a0S]at hd;have hrow:=hblk.row;have hO:=hinv.1;have HOL:=b9W hinv.2.1;have HD:=b9W hd;have HBLK:=b9W hblk;clear hinv hblk hd hra hrb
   go_wp2_with (go_at_call 269;refine(a2_ O _ _ _ _ HOL.out.symm hO (Nat.le_of_eq HOL.out) (by unfold maxLen;omega) hrow).mono ?_;rintro e w' ⟨rfl,rfl⟩)
   go_ret
   refine⟨_,rfl,?_,hB⟩;rw[HD.out];have hpre:=a4g hO;rw[HD.out]at hpre;refine⟨by rw[a0M,Nat.mul_one],.inr ⟨_,_,_,rfl,Nat.le_refl _,HBLK.out,?_,by unfold maxLen;omega,by rw[List.size_toArray,a0M,HOL.out,Nat.mul_one],?_⟩⟩
   ·have:=a2e hO
    rw[HD.out]at this;rw[← HOL.out];exact this
   ·rw[Nat.mul_one,← a7K,hpre]
theorem a1d(x y:Nat)(vx vy:Value)(w:World)(hx:a0u w vx x)(hy:a0u w vy y)(hlx:(toL x).length≤40000)(hly:(toL y).length≤40000) :
  Calls prog 231 #[vx,vy] w fun e w'=>∃ v,e=.returned v∧a0u w' v (x*y)∧Below w.heap.size w w' :=
 (b3O x y vx vy w hx hy hlx hly).mono fun _ _ ⟨v,e,ho,hb⟩=>⟨v,e,a5K ho,hb⟩
theorem b6X{xs ys L:List Nat}{c:Nat}(h:a4V xs ys xs.length L c)(hlen:ys.length≤xs.length)(hx:Lim.Can xs) :
  L++(if 0 < c then [c] else [])=toL (val xs+val ys):=by
 obtain⟨h1,h2,h3,h4⟩:=h;rw[a0U xs _ (Nat.le_refl _),a0U ys _ hlen]at h3
 by_cases hc:0 < c
 ·rw[if_pos hc]
  have hc1:c=1:=by omega
  subst hc1;refine a8F (h1.snoc (by decide)) (by rw[a27,h2,h3]) (fun _=>?_)
  simp[h2]
  omega
 ·have hc0:c=0:=by omega
  subst hc0;rw[if_neg hc,List.append_nil];refine a8F h1 (by simpa using h3) (fun hne=>?_);rw[h2];have:=hx.ge (fun e=>hne (by rw[e]at h2;exact List.length_eq_zero_iff.1 (by simpa using h2)))
  omega
theorem b9M(x y:Nat)(vx vy:Value)(w:World)(hx:a0N w vx x)(hy:a0N w vy y)(hlx:(toL x).length≤40000)(hly:(toL y).length≤40000) :
  Calls prog 248 #[vx,vy] w fun e w'=>∃ v,e=.returned v∧a0N w' v (x+y)∧Below w.heap.size w w':=by
 obtain⟨A,c,rfl,hc,hcm,hra⟩:=hx;obtain⟨A',c',rfl,hc',hcm',hrb⟩:=hy;obtain⟨i0,hi,hz0,hz1,hz2⟩:=info_parts Tryz.infoU
 go_enter func248,ntmps248
 go_upto_if 13 with (fail)
 go_cut [0,1] (fun s0 s1 wx=>w=wx∧∃ (p q:Nat) (B B':Option Addr) (d d':Nat),p+q=x+y∧(toL q).length≤(toL p).length∧(toL p).length≤40000∧s0=.slice B (toL p).length d∧s1=.slice B' (toL q).length d'∧Row w B (U64 (toL p))∧Row w B' (U64 (toL q)))
 case first =>
  by_cases hlt:(toL x).length < (toL y).length
  ·go_wp2
   go_meet
   case rel=>exact⟨rfl,y,x,_,_,_,_,by omega,by omega,by omega,rfl,rfl,hrb,hra⟩
  ·go_wp2
   go_meet
   case rel=>exact⟨rfl,x,y,_,_,_,_,by omega,by omega,by omega,rfl,rfl,hra,hrb⟩
 case rest =>
  obtain⟨rfl,p,q,A,A',c,c',hpq,hqp,hp,rfl,rfl,hra,hrb⟩:=hcut;have hxs:=a1c p;have hys:=a1c q;have HPQ:=b9W hpq;clear hpq
  go_wp2_with (at_make;refine wpList_make_own _ rfl _ _ 214 rfl w.heap.size 117 i0 (.int .u64 0) 1 underlying214 hi hz0 hz1 .i64 .i64 _ ((toL p).length+1) rfl rfl (by omega) (by rw[hz2];omega) (by unfold maxLen;omega) (Nat.le_refl _) ?_;intro w0 hown0 hgrow0)
  have hB0:Below w.heap.size w w0:=(Below.refl _ _).grown hgrow0 (Nat.le_refl _) (fun k e=>by cases e);clear hgrow0
  go_loopw [5,6,22] (fun v s i wr=>∃ (k:Nat) (L:List Nat) (cy:Nat),k≤(toL p).length∧i=.int .i64 (k:Int)∧s=.int .u64 (cy:Int)∧a4V (toL p) (toL q) k L cy∧wr.ownsRow w.heap.size 117 1 v k (U64 L)∧Below w.heap.size w wr) (fun _ _ i _=>(toL p).length - (intOf i).toNat)
  case atStart=>exact⟨0,[],0,Nat.zero_le _,rfl,rfl,a4V.start _ _,hown0,hB0⟩
  case round =>
   obtain⟨k,L,cy,hk,rfl,rfl,hinv,hown,hB⟩:=hrel;clear hown0 hB0;have hcy:=hinv.2.2.2
   by_cases hlt:k < (toL p).length
   ·obtain⟨b,o,rfl,hb,hcell⟩:=hra (by rw[a0H];omega)
    have hcx:=(hB.cell (p:=⟨b,o+k,none⟩) hb).trans (hcell k _ (a1F hlt));have hx0:=hxs.get k;clear hcell hra
    by_cases hlq:k < (toL q).length
    ·obtain⟨b2,o2,rfl,hb2,hcell2⟩:=hrb (by rw[a0H];omega)
     have hcy2:=(hB.cell (p:=⟨b2,o2+k,none⟩) hb2).trans (hcell2 k _ (a1F hlq));have hy0:=hys.get k;clear hcell2 hrb;have HST:=b9W (hinv.step hxs hys rfl);clear hinv;generalize (toL p)[k]?.getD 0=x0 at *;generalize (toL q)[k]?.getD 0=y0 at *;rw[a0B]at hx0 hy0
     go_wp2_with (at_builtin;refine wpList_append_own _ rfl _ _ 214 rfl w.heap.size 117 i0 (.int .u64 0) 1 8 underlying214 hi hz0 hz1 hz2 rfl (by decide) _ _ _ rfl (hown.alloc _) ⟨wr.heap.size,0,none⟩ 1 1 [.int .u64 (((x0:Int)+(cy:Int)+(y0:Int)) % 1000000000)] rfl rfl (cell_one_new _ _ _) (by simp[Value.oneCell']) (by unfold maxLen;omega) (by omega) (by have:=hB.size;simp;omega) ?_;intro v' w1 hown' hgrow _)
     have e1:((x0:Int)+(cy:Int)+(y0:Int)) % 1000000000=(((x0+cy+y0) % B:Nat):Int):=by rw[a0B];omega
     go_roundw
     case rel=>exact⟨k+1,_,_,by omega,by go_num,a09 (by rw[a0B];omega),HST.out,by rw[← a4I,← e1];exact hown',(hB.alloc (by have:=hB.size;omega) _).grown hgrow (by have:=hB.size;simp;omega) (fun k e=>(hown.lt k e).1)⟩
     case measure=>simp[intOf];omega
    ·have HST:=b9W (hinv.step hxs hys rfl)
     clear hinv;have hy0:(toL q)[k]?.getD 0=0:=by simp[Nat.le_of_not_lt hlq]
     generalize (toL p)[k]?.getD 0=x0 at *
     simp only[hy0,Nat.add_zero]at HST
     clear hy0;rw[a0B]at hx0
     go_wp2_with (at_builtin;refine wpList_append_own _ rfl _ _ 214 rfl w.heap.size 117 i0 (.int .u64 0) 1 8 underlying214 hi hz0 hz1 hz2 rfl (by decide) _ _ _ rfl (hown.alloc _) ⟨wr.heap.size,0,none⟩ 1 1 [.int .u64 (((x0:Int)+(cy:Int)) % 1000000000)] rfl rfl (cell_one_new _ _ _) (by simp[Value.oneCell']) (by unfold maxLen;omega) (by omega) (by have:=hB.size;simp;omega) ?_;intro v' w1 hown' hgrow _)
     have e1:((x0:Int)+(cy:Int)) % 1000000000=(((x0+cy) % B:Nat):Int):=by rw[a0B];omega
     go_roundw
     case rel=>exact⟨k+1,_,_,by omega,by go_num,a09 (by rw[a0B];omega),HST.out,by rw[← a4I,← e1];exact hown',(hB.alloc (by have:=hB.size;omega) _).grown hgrow (by have:=hB.size;simp;omega) (fun k e=>(hown.lt k e).1)⟩
     case measure=>simp[intOf];omega
   ·have hkk:k=(toL p).length:=by omega
    have HE:=b9W (b6X (hkk ▸ hinv) hqp (a8K p));rw[a0S,a0S,HPQ.out]at HE;clear hinv hra hrb;obtain rfl:=hkk
    by_cases h0:0 < cy
    ·rw[if_pos h0]at HE
     go_wp2_with (at_builtin;refine wpList_append_own _ rfl _ _ 214 rfl w.heap.size 117 i0 (.int .u64 0) 1 8 underlying214 hi hz0 hz1 hz2 rfl (by decide) _ _ _ rfl (hown.alloc _) ⟨wr.heap.size,0,none⟩ 1 1 [.int .u64 ((cy:Int))] rfl rfl (cell_one_new _ _ _) (by simp[Value.oneCell']) (by unfold maxLen;omega) (by omega) (by have:=hB.size;simp;omega) ?_;intro v' w1 hown' hgrow _)
     go_ret
     refine⟨_,rfl,a3v (base:=w.heap.size) (e:=117) (n:=(toL p).length+1) ?_,(hB.alloc (by have:=hB.size;omega) _).grown hgrow (by have:=hB.size;simp;omega) (fun k e=>(hown.lt k e).1)⟩;rw[← HE.out,← a4I];exact hown'
    ·rw[if_neg h0,List.append_nil]at HE
     go_wp2
     go_ret
     refine⟨_,rfl,a3v (base:=w.heap.size) (e:=117) (n:=(toL p).length) ?_,hB⟩;rw[← HE.out];exact hown
theorem b6M(x y:Nat)(vx vy:Value)(w:World)(hx:a0N w vx x)(hy:a0N w vy y)(hle:y≤x)(hlx:(toL x).length≤40000) :
  Calls prog 249 #[vx,vy] w fun e w'=>∃ v,e=.returned v∧a0N w' v (x - y)∧Below w.heap.size w w':=by
 obtain⟨A,c,rfl,hc,hcm,hra⟩:=hx;obtain⟨A',c',rfl,hc',hcm',hrb⟩:=hy;obtain⟨i0,hi,hz0,hz1,hz2⟩:=info_parts Tryz.infoU;have hlen:(toL y).length≤(toL x).length:=a0Z hle;have hmk:=fun W=>a3d (P:=prog) underlying214 hi hz0 hz1 hz2 (n:=(toL x).length) (by omega) rfl W;have hxs:=a1c x;have hys:=a1c y;have HLE:=b9W hle;clear hle
 go_enter func249,ntmps249
 go_wp2;clear hmk;have hblk0:Blk (w.alloc (.cells (madeCells #[.int .u64 0] (toL x).length) 117)) w.heap.size 117 (U64 (List.replicate (toL x).length 0)).toArray:=by rw[← a6j];exact Blk.new _ _ _
 go_loopw [6,15] (fun s i wr=>∃ (k:Nat) (O:List Nat) (cy:Nat),k≤(toL x).length∧i=.int .i64 (k:Int)∧s=.int .u64 (cy:Int)∧Sm O∧O.length=(toL x).length∧a3V (toL x) (toL y) k (O.take k) cy∧Blk wr w.heap.size 117 (U64 O).toArray∧Below w.heap.size w wr) (fun _ i _=>(toL x).length - (intOf i).toNat)
 case atStart=>exact⟨0,_,0,Nat.zero_le _,rfl,rfl,Sm.zeros _,by simp,by simpa using a3V.start _ _,hblk0,(Below.refl _ _).alloc (Nat.le_refl _) _⟩
 case round =>
  obtain⟨k,O,cy,hk,rfl,rfl,hO,hOl,hinv,hblk,hB⟩:=hrel;clear hblk0;have hcy:=hinv.2.2.2
  by_cases hlt:k < (toL x).length
  ·obtain⟨b,o,rfl,hb,hcell⟩:=hra (by rw[a0H];omega)
   have hcx:=(hB.cell (p:=⟨b,o+k,none⟩) hb).trans (hcell k _ (a1F hlt));have hx0:=hxs.get k;have hst1:=hblk.getU (i:=k) (by omega);have hst2:=hblk.frozen k;clear hcell hra;have HOL:=b9W hOl;have HB:=b9W hblk;clear hOl hblk;generalize hxe:(toL x)[k]?.getD 0=x0 at hcx hx0;rw[a0B]at hx0
   by_cases hlq:k < (toL y).length
   ·obtain⟨b2,o2,rfl,hb2,hcell2⟩:=hrb (by rw[a0H];omega)
    have hcy2:=(hB.cell (p:=⟨b2,o2+k,none⟩) hb2).trans (hcell2 k _ (a1F hlq));have hy0:=hys.get k;clear hcell2 hrb;generalize hye:(toL y)[k]?.getD 0=y0 at hcy2 hy0;rw[a0B]at hy0
    by_cases hlo:x0 < (cy+y0)
    ·have HST:=b9W (hinv.no hys (by simpa[hxe,hye]using hlo))
     clear hinv
     simp only[hxe,hye]at HST
     clear hxe  hye;go_wp2;have e1:(x0:Int)+1000000000 - ((cy:Int)+(y0:Int))=((x0+B - (cy+y0):Nat):Int):=by rw[a0B];omega
     go_roundw
     case rel=>exact⟨k+1,O.set k (x0+B - (cy+y0)),1,by omega,by go_num,rfl,hO.set k (by rw[a0B];omega),by simpa using HOL.out,by rw[a3s _ _ _ (by rw[HOL.out];exact hlt)];exact HST.out,by rw[e1];exact HB.out.setU k _,hB.setCell (p:=⟨w.heap.size,k,none⟩) (Nat.le_refl _) _⟩
     case measure=>simp[intOf];omega
    ·have HST:=b9W (hinv.yes hxs (by simpa[hxe,hye]using hlo))
     clear hinv
     simp only[hxe,hye]at HST
     clear hxe  hye;have hlo':(cy+y0)≤x0:=by omega
     clear hlo;go_wp2;have e1:(x0:Int) - ((cy:Int)+(y0:Int))=((x0 - (cy+y0):Nat):Int):=by omega
     go_roundw
     case rel=>exact⟨k+1,O.set k (x0 - (cy+y0)),0,by omega,by go_num,rfl,hO.set k (by rw[a0B];omega),by simpa using HOL.out,by rw[a3s _ _ _ (by rw[HOL.out];exact hlt)];exact HST.out,by rw[e1];exact HB.out.setU k _,hB.setCell (p:=⟨w.heap.size,k,none⟩) (Nat.le_refl _) _⟩
     case measure=>simp[intOf];omega
   ·have hye:(toL y)[k]?.getD 0=0:=by simp[Nat.le_of_not_lt hlq]
    by_cases hlo:x0 < cy
    ·have HST:=b9W (hinv.no hys (by simpa[hxe,hye,Nat.add_zero]using hlo))
     clear hinv
     simp only[hxe,hye,Nat.add_zero]at HST
     clear hxe  hye  ;go_wp2;have e1:(x0:Int)+1000000000 - (cy:Int)=((x0+B - cy:Nat):Int):=by rw[a0B];omega
     go_roundw
     case rel=>exact⟨k+1,O.set k (x0+B - cy),1,by omega,by go_num,rfl,hO.set k (by rw[a0B];omega),by simpa using HOL.out,by rw[a3s _ _ _ (by rw[HOL.out];exact hlt)];exact HST.out,by rw[e1];exact HB.out.setU k _,hB.setCell (p:=⟨w.heap.size,k,none⟩) (Nat.le_refl _) _⟩
     case measure=>simp[intOf];omega
    ·have HST:=b9W (hinv.yes hxs (by simpa[hxe,hye,Nat.add_zero]using hlo))
     clear hinv
     simp only[hxe,hye,Nat.add_zero]at HST
     clear hxe  hye  ;have hlo':cy≤x0:=by omega
     clear hlo;go_wp2;have e1:(x0:Int) - (cy:Int)=((x0 - cy:Nat):Int):=by omega
     go_roundw
     case rel=>exact⟨k+1,O.set k (x0 - cy),0,by omega,by go_num,rfl,hO.set k (by rw[a0B];omega),by simpa using HOL.out,by rw[a3s _ _ _ (by rw[HOL.out];exact hlt)];exact HST.out,by rw[e1];exact HB.out.setU k _,hB.setCell (p:=⟨w.heap.size,k,none⟩) (Nat.le_refl _) _⟩
     case measure=>simp[intOf];omega
  ·obtain rfl:k=(toL x).length:=by omega
   have ht:O.take (toL x).length=O:=List.take_of_length_le (by omega);rw[ht]at hinv;have hdn:=hinv.done (by rw[a0S,a0S];exact HLE.out) hlen;rw[a0S,a0S]at hdn;have hrow:=hblk.row;clear hinv ht hra hrb;have HOL:=b9W hOl;have HB:=b9W hblk;have HD:=b9W hdn;clear hOl hblk hdn
   go_wp2_with (go_at_call 273;refine(a5C O _ _ _ _ HOL.out.symm hO (Nat.le_of_eq HOL.out) (by unfold maxLen;omega) hrow).mono ?_;rintro e w' ⟨rfl,rfl⟩)
   go_ret
   refine⟨_,rfl,?_,hB⟩;have:=a4w hO hrow (c:=(toL x).length) (Nat.le_of_eq HOL.out) (by unfold maxLen;omega) HD.out.2;rw[HD.out.2];exact this
end Go.Proofs.YtigapglmipmbeaaGreatDoor
namespace Go.Proofs.YtigapglmipmbeaaGreatDoor
open Go.RowKit Go.Shelf
open Lim
theorem a12(x y:Nat)(vx vy:Value)(w:World)(hx:a0u w vx x)(hy:a0u w vy y)(hlx:(toL x).length≤100000)(_hly:(toL y).length≤100000) :
  Calls prog 232 #[vx,vy] w fun e w'=>e=.returned (.int .i64 (sgn x y))∧Below w.heap.size w w':=by
 obtain⟨A,c,rfl,hc,hcm,hra⟩:=hx;obtain⟨A',c',rfl,hc',hcm',hrb⟩:=hy
 by_cases hl:(toL x).length=(toL y).length
 ·have hne:((((toL x).length:Int)) != ((toL y).length:Int))=false:=by rw[bne_eq_false_iff_eq];omega
  have HTOP:=b9W (fun i hi hd hne=>b6I (x:=x) (y:=y) (i:=i) hl hi hd hne);have HEXT:=b9W (fun hd=>b5z (x:=x) (y:=y) hl hd);have HL:=b9W hl;clear hl;have sx:=a1c x;have sy:=a1c y
  go_enter func232,ntmps232
  go_wp2
  go_loopw [5] (fun si wr=>∃ k m:Nat,k≤(toL x).length∧si=.int .i64 ((k:Int) - 1)∧(∀ j,k≤j→(toL x)[j]?.getD 0=(toL y)[j]?.getD 0)∧wr=w.drewN m) (fun si _=>(intOf si+1).toNat)
  case atStart=>exact⟨(toL x).length,0,Nat.le_refl _,rfl,fun j hj=>by rw[List.getElem?_eq_none hj,List.getElem?_eq_none (by have:=HL.out;omega)],(World.drewN_zero _).symm⟩
  case round =>
   obtain⟨k,m,hk,rfl,hd,rfl⟩:=hrel;have HD:=b9W hd;clear hd
   by_cases hk0:k=0
   ·subst hk0
    have hxy:=HEXT.out (fun j _=>HD.out j (Nat.zero_le _));have HXY:=b9W hxy;clear hxy;go_wp2
    go_ret
    exact⟨a3X (a09 (by rw[HXY.out,a5A])),a04 (Below.refl _ _) m⟩
   ·have hpos:0 < k:=by omega
    obtain⟨b,o,rfl,hb,hcell⟩:=hra (by rw[a0M];omega);obtain⟨b2,o2,rfl,hb2,hcell2⟩:=hrb (by rw[a0M];have:=HL.out;omega);have hcx:w.cell? ⟨b,o+(k - 1),none⟩=_:=hcell (k - 1) _ (a1V (by omega));have hcy:w.cell? ⟨b2,o2+(k - 1),none⟩=_:=hcell2 (k - 1) _ (a1V (by have:=HL.out;omega));have hi1:(k:Int) - 1 < ((toL x).length:Int):=by omega
    have hi2:(k:Int) - 1 < ((toL y).length:Int):=by have:=HL.out;omega
    have hx0:=sx.get (k - 1);have hy0:=sy.get (k - 1);have HT:=b9W (HTOP.out (k - 1) (by omega) (fun j hj=>HD.out j (by omega)));clear hcell hcell2 hra hrb hk0;generalize hxe:(toL x)[k - 1]?.getD 0=x0 at *;generalize hye:(toL y)[k - 1]?.getD 0=y0 at *;have HE:=b9W (And.intro hxe hye);clear hxe hye
    by_cases hlt:x0 < y0
    ·have hlt':(x0:Int) < (y0:Int):=by omega
     have hs:=HT.out (by omega);rw[a7u hlt]at hs;have HS:=b9W hs;clear hs;go_wp2
     go_quiet (fail)
     go_wp2
     go_ret
     exact⟨a3X (a09 HS.out),by simp only[World.drewN_drewN];exact a04 (Below.refl _ _) _⟩
    ·have hlt':¬ (x0:Int) < (y0:Int):=by omega
     by_cases hgt:y0 < x0
     ·have hgt':(y0:Int) < (x0:Int):=by omega
      have hs:=HT.out (by omega);rw[a5N hgt]at hs;have HS:=b9W hs;clear hs;go_wp2
      go_quiet (fail)
      go_wp2
      go_quiet (fail)
      go_wp2
      go_ret
      exact⟨a3X (a09 HS.out),by simp only[World.drewN_drewN];exact a04 (Below.refl _ _) _⟩
     ·have hgt':¬ (y0:Int) < (x0:Int):=by omega
      have heq:x0=y0:=by omega
      have HEQ:=b9W heq;clear heq;go_wp2
      go_quiet (fail)
      go_wp2
      go_quiet (fail)
      go_wp2
      go_roundw
      case rel =>
       refine⟨k - 1,_,by omega,a09 (by omega),fun j hj=>?_,by first|(simp only[World.drewN_drewN];rfl)|rfl⟩
       by_cases e:j=k - 1
       ·subst e;rw[HE.out.1,HE.out.2];exact HEQ.out
       ·exact HD.out j (by omega)
      case measure=>simp[intOf];omega
 ·have hne:((((toL x).length:Int)) != ((toL y).length:Int))=true:=by rw[bne_iff_ne];omega
  have HS:=b9W (b56 hl);clear hra hrb
  by_cases hlt:(toL x).length < (toL y).length
  ·have hlt':((toL x).length:Int) < ((toL y).length:Int):=by omega
   have hs:=HS.out;rw[a7u hlt]at hs;have HS2:=b9W hs;clear hs hl
   go_enter func232,ntmps232
   go_wp2
   go_ret
   exact⟨a3X (a09 HS2.out),Below.refl _ _⟩
  ·have hlt':¬ ((toL x).length:Int) < ((toL y).length:Int):=by omega
   have hs:=HS.out;rw[a5N (by omega)]at hs;have HS2:=b9W hs;clear hs hl
   go_enter func232,ntmps232
   go_wp2
   go_ret
   exact⟨a3X (a09 HS2.out),Below.refl _ _⟩
theorem b6C{x y k:Nat}{L:List Nat}(h:a4V (toL x) (toL y) k L 0)(h1:(toL x).length≤k)(h2:(toL y).length≤k)(hk:∀ n,(toL x).length≤n→(toL y).length≤n→n < k→B ^ (k - 1)≤x+y):L=toL (x+y):=by
 obtain⟨hs,hl,hv,_⟩:=h;rw[a0U _ _ h1,a0U _ _ h2,a0S,a0S,Nat.mul_zero,Nat.add_zero]at hv;refine a8F hs hv (fun hne=>?_);rw[hl];have hk0:0 < k:=by rw[← hl];exact List.length_pos_iff.2 hne
 by_cases hx:(toL x).length=k
 ·have:=b1G (n:=x) (fun e=>by subst e;rw[a0E]at hx;simp at hx;omega)
  rw[hx]at this;omega
 ·by_cases hy:(toL y).length=k
  ·have:=b1G (n:=y) (fun e=>by subst e;rw[a0E]at hy;simp at hy;omega)
   rw[hy]at this;omega
  ·exact hk (k - 1) (by omega) (by omega) (by omega)
theorem b34{x y k c:Nat}{L:List Nat}(h:a4V (toL x) (toL y) k L c)(h1:(toL x).length≤k)(h2:(toL y).length≤k)(hc:0 < c) :
  B ^ k≤x+y∧(k=(toL x).length∨k=(toL y).length):=by
 obtain⟨hs,hl,hv,hc1⟩:=h;rw[a0U _ _ h1,a0U _ _ h2,a0S,a0S]at hv;have e:c=1:=by omega
 subst e;refine⟨by omega,?_⟩
 by_cases hx:k=(toL x).length
 ·exact .inl hx
 ·by_cases hy:k=(toL y).length
  ·exact .inr hy
  ·exfalso
   have hx2:=a6E x;have hy2:=a6E y;have px:B ^ (toL x).length≤B ^ (k - 1):=Nat.pow_le_pow_right a3B (by omega);have py:B ^ (toL y).length≤B ^ (k - 1):=Nat.pow_le_pow_right a3B (by omega);have pk:B ^ k=B ^ (k - 1)*B:=by rw[← Nat.pow_succ];congr 1;omega
   rw[a0B]at pk;rw[← a0B]at pk;have:B ^ (k - 1)*2≤B ^ (k - 1)*B:=Nat.mul_le_mul_left _ (by decide)
   omega
theorem b1J(x y:Nat)(vx vy:Value)(w:World)(hx:a0u w vx x)(hy:a0u w vy y)(hlx:(toL x).length≤40000)(hly:(toL y).length≤40000) :
  Calls prog 225 #[vx,vy] w fun e w'=>∃ v,e=.returned v∧a0u w' v (x+y)∧Below w.heap.size w w':=by
 obtain⟨A,c,rfl,hc,hcm,hra⟩:=hx;obtain⟨A',c',rfl,hc',hcm',hrb⟩:=hy;obtain⟨i0,hi,hz0,hz1,hz2⟩:=info_parts Tryz.infoI;have hxs:=a1c x;have hys:=a1c y
 go_enter func225,ntmps225
 go_wp2
 go_loopw [5,6,7] (fun v s i wr=>∃ (k:Nat) (L:List Nat) (cy:Nat),i=.int .i64 (k:Int)∧s=.int .i64 (cy:Int)∧a4V (toL x) (toL y) k L cy∧k≤40001∧(∀ n,(toL x).length≤n→(toL y).length≤n→n < k→B ^ (k - 1)≤x+y)∧wr.ownsRow w.heap.size 3 1 v k (I64 L)∧Below w.heap.size w wr) (fun _ _ i _=>40002 - (intOf i).toNat)
 case atStart=>exact⟨0,[],0,rfl,rfl,a4V.start _ _,by omega,fun n _ _ h=>absurd h (Nat.not_lt_zero _),World.ownsRow_nil _ _ _ _,Below.refl _ _⟩
 case round =>
  obtain⟨k,L,cy,rfl,rfl,hinv,hk,hbig,hown,hB⟩:=hrel;have hcy:=hinv.2.2.2;have HI:=b9W hinv;have HBIG:=b9W hbig;clear hinv hbig
  by_cases hla:k < (toL x).length
  ·have hla':(k:Int) < ((toL x).length:Int):=by omega
   have d1:decide ((k:Int) < ((toL x).length:Int))=true:=decide_eq_true hla';obtain⟨b,o,rfl,hb,hcell⟩:=hra (by rw[a0M];omega);have hcx:=(hB.cell (p:=⟨b,o+k,none⟩) hb).trans (hcell k _ (a1V hla));have hx0:=hxs.get k;clear hcell hra
   by_cases hlb:k < (toL y).length
   ·have hlb':(k:Int) < ((toL y).length:Int):=by omega
    obtain⟨b2,o2,rfl,hb2,hcell2⟩:=hrb (by rw[a0M];omega);have hcy2:=(hB.cell (p:=⟨b2,o2+k,none⟩) hb2).trans (hcell2 k _ (a1V hlb));have hy0:=hys.get k;clear hcell2 hrb;have HST:=b9W (HI.out.step hxs hys rfl);generalize (toL x)[k]?.getD 0=x0 at *;generalize (toL y)[k]?.getD 0=y0 at *;rw[a0B]at hx0 hy0
    go_wp2_with (at_builtin;refine wpList_append_own _ rfl _ _ 168 rfl w.heap.size 3 i0 (.int .i64 0) 1 8 underlying168 hi hz0 hz1 hz2 rfl (by decide) _ _ _ rfl (hown.alloc _) ⟨wr.heap.size,0,none⟩ 1 1 [.int .i64 (((cy:Int)+(x0:Int)+(y0:Int)) % 1000000000)] rfl rfl (cell_one_new _ _ _) (by simp[Value.oneCell']) (by unfold maxLen;omega) (by omega) (by have:=hB.size;simp;omega) ?_;intro v' w1 hown' hgrow _)
    have e1:((cy:Int)+(x0:Int)+(y0:Int)) % 1000000000=(((x0+cy+y0) % B:Nat):Int):=by rw[a0B];omega
    go_roundw
    case rel=>exact⟨k+1,_,_,by go_num,a09 (by rw[a0B];omega),HST.out,by omega,fun n h1 _ h3=>by omega,by rw[← a3r,← e1];exact hown',(hB.alloc (by have:=hB.size;omega) _).grown hgrow (by have:=hB.size;simp;omega) (fun k e=>(hown.lt k e).1)⟩
    case measure=>simp[intOf];omega
   ·have hlb':¬ (k:Int) < ((toL y).length:Int):=by omega
    have HST:=b9W (HI.out.step hxs hys rfl);have hy0:(toL y)[k]?.getD 0=0:=by simp[Nat.le_of_not_lt hlb]
    generalize (toL x)[k]?.getD 0=x0 at *
    simp only[hy0,Nat.add_zero]at HST
    clear hy0;rw[a0B]at hx0
    go_wp2_with (at_builtin;refine wpList_append_own _ rfl _ _ 168 rfl w.heap.size 3 i0 (.int .i64 0) 1 8 underlying168 hi hz0 hz1 hz2 rfl (by decide) _ _ _ rfl (hown.alloc _) ⟨wr.heap.size,0,none⟩ 1 1 [.int .i64 (((cy:Int)+(x0:Int)) % 1000000000)] rfl rfl (cell_one_new _ _ _) (by simp[Value.oneCell']) (by unfold maxLen;omega) (by omega) (by have:=hB.size;simp;omega) ?_;intro v' w1 hown' hgrow _)
    have e1:((cy:Int)+(x0:Int)) % 1000000000=(((x0+cy) % B:Nat):Int):=by rw[a0B];omega
    go_roundw
    case rel=>exact⟨k+1,_,_,by go_num,a09 (by rw[a0B];omega),HST.out,by omega,fun n h1 _ h3=>by omega,by rw[← a3r,← e1];exact hown',(hB.alloc (by have:=hB.size;omega) _).grown hgrow (by have:=hB.size;simp;omega) (fun k e=>(hown.lt k e).1)⟩
    case measure=>simp[intOf];omega
  ·have hla':¬ (k:Int) < ((toL x).length:Int):=by omega
   have hx0:(toL x)[k]?.getD 0=0:=by simp[Nat.le_of_not_lt hla]
   by_cases hlb:k < (toL y).length
   ·have hlb':(k:Int) < ((toL y).length:Int):=by omega
    obtain⟨b2,o2,rfl,hb2,hcell2⟩:=hrb (by rw[a0M];omega);have hcy2:=(hB.cell (p:=⟨b2,o2+k,none⟩) hb2).trans (hcell2 k _ (a1V hlb));have hy0:=hys.get k;clear hcell2 hrb;have HST:=b9W (HI.out.step hxs hys rfl);generalize (toL y)[k]?.getD 0=y0 at *
    simp only[hx0,Nat.zero_add]at HST
    clear hx0;rw[a0B]at hy0
    go_wp2_with (at_builtin;refine wpList_append_own _ rfl _ _ 168 rfl w.heap.size 3 i0 (.int .i64 0) 1 8 underlying168 hi hz0 hz1 hz2 rfl (by decide) _ _ _ rfl (hown.alloc _) ⟨wr.heap.size,0,none⟩ 1 1 [.int .i64 (((cy:Int)+(y0:Int)) % 1000000000)] rfl rfl (cell_one_new _ _ _) (by simp[Value.oneCell']) (by unfold maxLen;omega) (by omega) (by have:=hB.size;simp;omega) ?_;intro v' w1 hown' hgrow _)
    have e1:((cy:Int)+(y0:Int)) % 1000000000=(((cy+y0) % B:Nat):Int):=by rw[a0B];omega
    go_roundw
    case rel=>exact⟨k+1,_,_,by go_num,a09 (by rw[a0B];omega),HST.out,by omega,fun n _ h2 h3=>by omega,by rw[← a3r,← e1];exact hown',(hB.alloc (by have:=hB.size;omega) _).grown hgrow (by have:=hB.size;simp;omega) (fun k e=>(hown.lt k e).1)⟩
    case measure=>simp[intOf];omega
   ·have hlb':¬ (k:Int) < ((toL y).length:Int):=by omega
    by_cases hc0:0 < cy
    ·have HPC:=b9W (b34 HI.out (by omega) (by omega) hc0)
     have hk2:k≤40000:=by rcases HPC.out.2 with h|h<;>omega
     have HST:=b9W (HI.out.step hxs hys rfl);have hy0:(toL y)[k]?.getD 0=0:=by simp[Nat.le_of_not_lt hlb]
     simp only[hx0,hy0,Nat.zero_add,Nat.add_zero]at HST
     clear hx0 hy0;have hc0':(0:Int) < (cy:Int):=by omega
     go_wp2_with (at_builtin;refine wpList_append_own _ rfl _ _ 168 rfl w.heap.size 3 i0 (.int .i64 0) 1 8 underlying168 hi hz0 hz1 hz2 rfl (by decide) _ _ _ rfl (hown.alloc _) ⟨wr.heap.size,0,none⟩ 1 1 [.int .i64 ((cy:Int) % 1000000000)] rfl rfl (cell_one_new _ _ _) (by simp[Value.oneCell']) (by unfold maxLen;omega) (by omega) (by have:=hB.size;simp;omega) ?_;intro v' w1 hown' hgrow _)
     have e1:(cy:Int) % 1000000000=((cy % B:Nat):Int):=by rw[a0B];omega
     go_roundw
     case rel=>exact⟨k+1,_,_,by go_num,a09 (by rw[a0B];omega),HST.out,by omega,fun n _ _ _=>HPC.out.1,by rw[← a3r,← e1];exact hown',(hB.alloc (by have:=hB.size;omega) _).grown hgrow (by have:=hB.size;simp;omega) (fun k e=>(hown.lt k e).1)⟩
     case measure=>simp[intOf];omega
    ·have hc0':¬ (0:Int) < (cy:Int):=by omega
     obtain rfl:cy=0:=by omega
     have HE:=b9W (b6C HI.out (by omega) (by omega) HBIG.out);have hLk:=HI.out.2.1;have HLK:=b9W hLk;clear hx0 hLk;go_wp2
     go_ret
     refine⟨_,rfl,a5K (base:=w.heap.size) (e:=3) (n:=k) ?_,hB⟩;rw[← HE.out];exact hown
theorem a9G(x y:Nat)(vx vy:Value)(w:World)(hx:a0u w vx x)(hy:a0u w vy y)(hle:y≤x)(hlx:(toL x).length≤40000) :
  Calls prog 233 #[vx,vy] w fun e w'=>∃ v,e=.returned v∧a0u w' v (x - y)∧Below w.heap.size w w':=by
 obtain⟨A,c,rfl,hc,hcm,hra⟩:=hx;obtain⟨A',c',rfl,hc',hcm',hrb⟩:=hy;obtain⟨i0,hi,hz0,hz1,hz2⟩:=info_parts Tryz.infoI;have hlen:(toL y).length≤(toL x).length:=a0Z hle;have hxs:=a1c x;have hys:=a1c y;have HLE:=b9W hle;clear hle
 go_enter func233,ntmps233
 go_wp2
 go_loopw [5,6,7] (fun v s i wr=>∃ (k:Nat) (L:List Nat) (cy:Nat),i=.int .i64 (k:Int)∧s=.int .i64 (cy:Int)∧a3V (toL x) (toL y) k L cy∧k≤(toL x).length∧wr.ownsRow w.heap.size 3 1 v k (I64 L)∧Below w.heap.size w wr) (fun _ _ i _=>(toL x).length - (intOf i).toNat)
 case atStart=>exact⟨0,[],0,rfl,rfl,a3V.start _ _,Nat.zero_le _,World.ownsRow_nil _ _ _ _,Below.refl _ _⟩
 case round =>
  obtain⟨k,L,cy,rfl,rfl,hinv,hk,hown,hB⟩:=hrel;have hcy:=hinv.2.2.2;have HI:=b9W hinv;clear hinv
  by_cases hla:k < (toL x).length
  ·have hla':(k:Int) < ((toL x).length:Int):=by omega
   obtain⟨b,o,rfl,hb,hcell⟩:=hra (by rw[a0M];omega);have hcx:=(hB.cell (p:=⟨b,o+k,none⟩) hb).trans (hcell k _ (a1V hla));have hx0:=hxs.get k;clear hcell hra
   by_cases hlb:k < (toL y).length
   ·have hlb':(k:Int) < ((toL y).length:Int):=by omega
    obtain⟨b2,o2,rfl,hb2,hcell2⟩:=hrb (by rw[a0M];omega);have hcy2:=(hB.cell (p:=⟨b2,o2+k,none⟩) hb2).trans (hcell2 k _ (a1V hlb));have hy0:=hys.get k;clear hcell2 hrb;have HSY:=b9W (fun h=>HI.out.yes (i:=k) hxs h);have HSN:=b9W (fun h=>HI.out.no (i:=k) hys h);generalize (toL x)[k]?.getD 0=x0 at *;generalize (toL y)[k]?.getD 0=y0 at *;rw[a0B]at hx0 hy0
    by_cases hlo:x0 < cy+y0
    ·have hlo':(x0:Int) - (cy:Int) - (y0:Int) < 0:=by omega
     have HST:=b9W (HSN.out hlo);have e1:(x0:Int) - (cy:Int) - (y0:Int)+1000000000=((x0+B - (cy+y0):Nat):Int):=by rw[a0B];omega
     have HE:=b9W e1;clear e1 hlo
     go_wp2_with (at_builtin;refine wpList_append_own _ rfl _ _ 168 rfl w.heap.size 3 i0 (.int .i64 0) 1 8 underlying168 hi hz0 hz1 hz2 rfl (by decide) _ _ _ rfl (hown.alloc _) ⟨wr.heap.size,0,none⟩ 1 1 [.int .i64 ((x0:Int) - (cy:Int) - (y0:Int)+1000000000)] rfl rfl (cell_one_new _ _ _) (by simp[Value.oneCell']) (by unfold maxLen;omega) (by omega) (by have:=hB.size;simp;omega) ?_;intro v' w1 hown' hgrow _)
     go_roundw
     case rel=>exact⟨k+1,_,1,by go_num,rfl,HST.out,by omega,by rw[← a3r,← HE.out];exact hown',(hB.alloc (by have:=hB.size;omega) _).grown hgrow (by have:=hB.size;simp;omega) (fun k e=>(hown.lt k e).1)⟩
     case measure=>simp[intOf];omega
    ·have hlo':¬ (x0:Int) - (cy:Int) - (y0:Int) < 0:=by omega
     have HST:=b9W (HSY.out hlo);have e1:(x0:Int) - (cy:Int) - (y0:Int)=((x0 - (cy+y0):Nat):Int):=by omega
     have HE:=b9W e1;clear e1 hlo
     go_wp2_with (at_builtin;refine wpList_append_own _ rfl _ _ 168 rfl w.heap.size 3 i0 (.int .i64 0) 1 8 underlying168 hi hz0 hz1 hz2 rfl (by decide) _ _ _ rfl (hown.alloc _) ⟨wr.heap.size,0,none⟩ 1 1 [.int .i64 ((x0:Int) - (cy:Int) - (y0:Int))] rfl rfl (cell_one_new _ _ _) (by simp[Value.oneCell']) (by unfold maxLen;omega) (by omega) (by have:=hB.size;simp;omega) ?_;intro v' w1 hown' hgrow _)
     go_roundw
     case rel=>exact⟨k+1,_,0,by go_num,rfl,HST.out,by omega,by rw[← a3r,← HE.out];exact hown',(hB.alloc (by have:=hB.size;omega) _).grown hgrow (by have:=hB.size;simp;omega) (fun k e=>(hown.lt k e).1)⟩
     case measure=>simp[intOf];omega
   ·have hlb':¬ (k:Int) < ((toL y).length:Int):=by omega
    have hy0:(toL y)[k]?.getD 0=0:=by simp[Nat.le_of_not_lt hlb]
    have HSY:=b9W (fun h=>HI.out.yes (i:=k) hxs h);have HSN:=b9W (fun h=>HI.out.no (i:=k) hys h);generalize (toL x)[k]?.getD 0=x0 at *
    simp only[hy0,Nat.add_zero]at HSY HSN
    clear hy0;rw[a0B]at hx0
    by_cases hlo:x0 < cy
    ·have hlo':(x0:Int) - (cy:Int) < 0:=by omega
     have HST:=b9W (HSN.out hlo);have e1:(x0:Int) - (cy:Int)+1000000000=((x0+B - cy:Nat):Int):=by rw[a0B];omega
     have HE:=b9W e1;clear e1 hlo
     go_wp2_with (at_builtin;refine wpList_append_own _ rfl _ _ 168 rfl w.heap.size 3 i0 (.int .i64 0) 1 8 underlying168 hi hz0 hz1 hz2 rfl (by decide) _ _ _ rfl (hown.alloc _) ⟨wr.heap.size,0,none⟩ 1 1 [.int .i64 ((x0:Int) - (cy:Int)+1000000000)] rfl rfl (cell_one_new _ _ _) (by simp[Value.oneCell']) (by unfold maxLen;omega) (by omega) (by have:=hB.size;simp;omega) ?_;intro v' w1 hown' hgrow _)
     go_roundw
     case rel=>exact⟨k+1,_,1,by go_num,rfl,HST.out,by omega,by rw[← a3r,← HE.out];exact hown',(hB.alloc (by have:=hB.size;omega) _).grown hgrow (by have:=hB.size;simp;omega) (fun k e=>(hown.lt k e).1)⟩
     case measure=>simp[intOf];omega
    ·have hlo':¬ (x0:Int) - (cy:Int) < 0:=by omega
     have HST:=b9W (HSY.out hlo);have e1:(x0:Int) - (cy:Int)=((x0 - cy:Nat):Int):=by omega
     have HE:=b9W e1;clear e1 hlo
     go_wp2_with (at_builtin;refine wpList_append_own _ rfl _ _ 168 rfl w.heap.size 3 i0 (.int .i64 0) 1 8 underlying168 hi hz0 hz1 hz2 rfl (by decide) _ _ _ rfl (hown.alloc _) ⟨wr.heap.size,0,none⟩ 1 1 [.int .i64 ((x0:Int) - (cy:Int))] rfl rfl (cell_one_new _ _ _) (by simp[Value.oneCell']) (by unfold maxLen;omega) (by omega) (by have:=hB.size;simp;omega) ?_;intro v' w1 hown' hgrow _)
     go_roundw
     case rel=>exact⟨k+1,_,0,by go_num,rfl,HST.out,by omega,by rw[← a3r,← HE.out];exact hown',(hB.alloc (by have:=hB.size;omega) _).grown hgrow (by have:=hB.size;simp;omega) (fun k e=>(hown.lt k e).1)⟩
     case measure=>simp[intOf];omega
  ·have hla':¬ (k:Int) < ((toL x).length:Int):=by omega
   obtain rfl:k=(toL x).length:=by omega
   have hdn:=HI.out.done (by rw[a0S,a0S];exact HLE.out) hlen;rw[a0S,a0S]at hdn;have HDN:=b9W hdn;have hsL:=HI.out.1;have HLL:=b9W HI.out.2.1;have HOW:=b9W hown;obtain⟨A5,c5,rfl⟩:=a1J hown;obtain⟨h0,h1,h2,h3⟩:=a3L hown;clear hdn hown h0
   go_wp2_with (go_at_call 269;refine(a2_ L _ _ _ _ HLL.out.symm hsL (by rw[HLL.out];exact h1) h2 h3).mono ?_;rintro e w' ⟨rfl,rfl⟩)
   go_ret
   refine⟨_,rfl,?_,hB⟩;rw[HDN.out.2];have:=a2W hsL h3 (c:=c5) (by rw[HLL.out];exact h1) h2 HDN.out.2;exact this
def b0q(xs:List Nat)(d i:Nat)(O:List Nat)(c:Nat):Prop:=Sm O∧O.length=xs.length+1∧val (O.take i)+B ^ i*c=d*val (xs.take i)∧c < B
theorem b0q.start(xs:List Nat)(d:Nat):b0q xs d 0 (List.replicate (xs.length+1) 0) 0:=⟨Sm.zeros _,by simp,by simp[val],a3B⟩
theorem b0q.step{xs:List Nat}{d i c m:Nat}{O:List Nat}(h:b0q xs d i O c)(hd:d < B)(hx:Sm xs)(hi:i < xs.length)(hm:m=xs[i]?.getD 0*d+c):b0q xs d (i+1) (O.set i (m % B)) (m / B):=by
 obtain⟨h1,h2,h3,h4⟩:=h;have hxi:=hx.get i;have hb:=a6r hxi hd h4 a3B;refine⟨h1.set _ (Nat.mod_lt _ a3B),by simp[h2],?_,Nat.div_lt_of_lt_mul (by omega)⟩;rw[a0y (O.set i (m % B)),a0y xs,List.take_set_of_le (Nat.le_refl _),List.getElem?_set_self (by omega),Nat.pow_succ]
 simp only[Option.getD_some]
 have e:=a6C m;have e2:B ^ i*m=B ^ i*(m % B)+B ^ i*B*(m / B):=by
  conv=>lhs;rw[← e]
  rw[Nat.mul_add,Nat.mul_assoc]
 have e3:B ^ i*m=d*(B ^ i*xs[i]?.getD 0)+B ^ i*c:=by
  rw[hm,Nat.mul_add,Nat.mul_comm (xs[i]?.getD 0) d,← Nat.mul_assoc,Nat.mul_comm (B ^ i) d,Nat.mul_assoc]
 rw[Nat.mul_add]
 omega
theorem b0q.done{xs:List Nat}{d c:Nat}{O:List Nat}(h:b0q xs d xs.length O c):Sm (O.set xs.length c)∧(O.set xs.length c).length=xs.length+1∧val (O.set xs.length c)=val xs*d:=by
 obtain⟨h1,h2,h3,h4⟩:=h;refine⟨h1.set _ h4,by simp[h2],?_⟩;have e:=a0y (O.set xs.length c) xs.length;rw[a0U (O.set xs.length c) (xs.length+1) (by simp[h2]),List.take_set_of_le (Nat.le_refl _),List.getElem?_set_self (by omega)]at e
 simp only[Option.getD_some]at e
 rw[e,h3,a0U _ _ (Nat.le_refl _),Nat.mul_comm]
theorem a8B(x d:Nat)(vx:Value)(w:World)(hx:a0u w vx x)(hlx:(toL x).length≤40000)(hd:d < 1000000000) :
  Calls prog 299 #[vx,.int .i64 (d:Int)] w fun e w'=>∃ O:List Nat,e=.returned (.slice (some ⟨w.heap.size,0,none⟩) ((toL x).length+1) ((toL x).length+1))∧Sm O∧O.length=(toL x).length+1∧val O=x*d∧Blk w' w.heap.size 3 (I64 O).toArray∧Below w.heap.size w w':=by
 obtain⟨A,c,rfl,hc,hcm,hra⟩:=hx;obtain⟨i0,hi,hz0,hz1,hz2⟩:=info_parts Tryz.infoI;have hmk:=fun W=>a3d (P:=prog) underlying168 hi hz0 hz1 hz2 (n:=(toL x).length+1) (by omega) (C:=((toL x).length:Int)+1) (by omega) W;have hxs:=a1c x
 go_enter func299,ntmps299
 go_wp2;clear hmk;have hblk0:Blk (w.alloc (.cells (madeCells #[.int .i64 0] ((toL x).length+1)) 3)) w.heap.size 3 (I64 (List.replicate ((toL x).length+1) 0)).toArray:=by rw[← a6e];exact Blk.new _ _ _
 go_loopw [6,7] (fun s i wr=>∃ (k:Nat) (O:List Nat) (cy:Nat),k≤(toL x).length∧i=.int .i64 (k:Int)∧s=.int .i64 (cy:Int)∧b0q (toL x) d k O cy∧Blk wr w.heap.size 3 (I64 O).toArray∧Below w.heap.size w wr) (fun _ i _=>(toL x).length - (intOf i).toNat)
 case atStart=>exact⟨0,_,0,Nat.zero_le _,rfl,rfl,b0q.start _ _,hblk0,(Below.refl _ _).alloc (Nat.le_refl _) _⟩
 case round =>
  obtain⟨k,O,cy,hk,rfl,rfl,hinv,hblk,hB⟩:=hrel;clear hblk0;have hcy:=hinv.2.2.2;have hOl:=hinv.2.1;have HI:=b9W hinv;have HB:=b9W hblk;rw[a0B]at hcy
  by_cases hlt:k < (toL x).length
  ·obtain⟨b,o,rfl,hb,hcell⟩:=hra (by rw[a0M];omega)
   have hcx:=(hB.cell (p:=⟨b,o+k,none⟩) hb).trans (hcell k _ (a1V hlt));have hx0:=hxs.get k;have HST:=b9W (HI.out.step (by rw[a0B];exact hd) hxs hlt rfl);have hst1:=hblk.getI (i:=k) (by omega);have hst2:=hblk.frozen k;clear hcell hra hinv hOl hblk;generalize (toL x)[k]?.getD 0=x0 at *;rw[a0B]at hx0;have hp0:(0:Int)≤(x0:Int)*(d:Int):=Int.mul_nonneg (by omega) (by omega);have hp1:(x0:Int)*(d:Int)≤999999998000000001:=by
    have:x0*d≤999999999*999999999:=Nat.mul_le_mul (by omega) (by omega);rw[← Int.natCast_mul];omega
   have e0:(x0:Int)*(d:Int)+(cy:Int)=((x0*d+cy:Nat):Int):=by rw[Int.natCast_add,Int.natCast_mul]
   have HE:=b9W e0;clear e0;go_wp2
   go_roundw
   case rel =>
    refine⟨k+1,O.set k ((x0*d+cy) % B),(x0*d+cy) / B,hlt,by go_num,?_,HST.out,?_,hB.setCell (p:=⟨w.heap.size,k,none⟩) (Nat.le_refl _) _⟩
    ·rw[HE.out,a6i]
    ·rw[HE.out,a6v];exact HB.out.setI _ _
   case measure=>simp[intOf];omega
  ·obtain rfl:k=(toL x).length:=by omega
   have hst1:=hblk.getI (i:=(toL x).length) (by omega);have hst2:=hblk.frozen (toL x).length;have HD:=b9W hinv.done;clear hinv hblk hra hOl;go_wp2
   go_ret
   refine⟨O.set (toL x).length cy,rfl,HD.out.1,HD.out.2.1,by have:=HD.out.2.2;rw[a0S]at this;exact this,HB.out.setI _ _,hB.setCell (p:=⟨w.heap.size,(toL x).length,none⟩) (Nat.le_refl _) _⟩
theorem a9y(x d:Nat)(vx:Value)(w:World)(hx:a0u w vx x)(hlx:(toL x).length≤40000)(hd0:0 < d)(hd:d < 1000000000) :
  Calls prog 298 #[vx,.int .i64 (d:Int)] w fun e w'=>∃ v,e=.returned (.tuple #[v,.int .i64 ((x % d:Nat):Int)])∧a0u w' v (x / d)∧Below w.heap.size w w':=by
 obtain⟨A,c,rfl,hc,hcm,hra⟩:=hx;obtain⟨i0,hi,hz0,hz1,hz2⟩:=info_parts Tryz.infoI;have hmk:=fun W=>a3d (P:=prog) underlying168 hi hz0 hz1 hz2 (n:=(toL x).length) (by omega) rfl W;have hxs:=a1c x
 go_enter func298,ntmps298
 go_wp2;clear hmk;have hblk0:Blk (w.alloc (.cells (madeCells #[.int .i64 0] (toL x).length) 3)) w.heap.size 3 (I64 (List.replicate (toL x).length 0)).toArray:=by rw[← a6e];exact Blk.new _ _ _
 go_loopw [7,8] (fun s i wr=>∃ (k:Nat) (O:List Nat) (r:Nat),k≤(toL x).length∧i=.int .i64 ((k:Int) - 1)∧s=.int .i64 (r:Int)∧a4q (toL x) d k O r∧Blk wr w.heap.size 3 (I64 O).toArray∧Below w.heap.size w wr) (fun _ i _=>(intOf i+1).toNat)
 case atStart=>exact⟨(toL x).length,_,0,Nat.le_refl _,rfl,rfl,a4q.start _ hd0,hblk0,(Below.refl _ _).alloc (Nat.le_refl _) _⟩
 case round =>
  obtain⟨k,O,r,hk,rfl,rfl,hinv,hblk,hB⟩:=hrel;clear hblk0;have hr:=hinv.2.2.2;have hOl:=hinv.2.1;have HI:=b9W hinv;have HB:=b9W hblk
  by_cases hk0:k=0
  ·subst hk0
   obtain⟨e1,e2⟩:=hinv.done;rw[a0S]at e1 e2;have hO:=hinv.1;have hrow:=hblk.row;have HE:=b9W (And.intro e1 e2);have HOL:=b9W hOl;clear hinv hblk hra e1 e2 hOl
   go_wp2_with (go_at_call 269;refine(a2_ O _ _ _ _ HOL.out.symm hO (Nat.le_of_eq HOL.out) (by unfold maxLen;omega) hrow).mono ?_;rintro e w' ⟨rfl,rfl⟩)
   go_ret2
   refine⟨.slice (some ⟨w.heap.size,0,none⟩) (toL (val O)).length (toL x).length,?_,?_,hB⟩
   ·rw[← HE.out.2];rfl
   ·have hfin:=a2W hO hrow (c:=(toL x).length) (Nat.le_of_eq HOL.out) (by unfold maxLen;omega) HE.out.1
    rw[← HE.out.1]at hfin ⊢;exact hfin
  ·have hlt:k - 1 < (toL x).length:=by omega
   obtain⟨b,o,rfl,hb,hcell⟩:=hra (by rw[a0M];omega);have hcx:=(hB.cell (p:=⟨b,o+(k - 1),none⟩) hb).trans (hcell (k - 1) _ (a1V hlt));have hx0:=hxs.get (k - 1);have hIk:a4q (toL x) d (k - 1+1) O r:=by rw[show k - 1+1=k by omega];exact hinv
   have HST:=b9W (hIk.step hxs hlt rfl);have hst1:=hblk.getI (i:=k - 1) (by omega);have hst2:=hblk.frozen (k - 1);have hpos:0 < k:=by omega
   clear hcell hra hinv hOl hblk hIk hk0;generalize (toL x)[k - 1]?.getD 0=x0 at *;rw[a0B]at hx0;have HE:=b9W (And.intro (a7F r x0 d) (a7E r x0 d));go_wp2
   go_roundw
   case rel =>
    refine⟨k - 1,O.set (k - 1) ((r*B+x0) / d),(r*B+x0) % d,by omega,a09 (by omega),?_,HST.out,?_,hB.setCell (p:=⟨w.heap.size,k - 1,none⟩) (Nat.le_refl _) _⟩
    ·rw[HE.out.2]
    ·rw[HE.out.1];exact HB.out.setI _ _
   case measure=>simp[intOf];omega
theorem a1R(s:ByteArray)(a b:Nat):(s.extract a b).data.toList=(s.data.toList.take b).drop a:=by
 rw[ByteArray.data_extract,Array.toList_extract,List.extract_eq_take_drop,List.drop_take]
theorem a0F(s:ByteArray):s.size=s.data.toList.length:=by
 show s.data.size=_
 rw[Array.length_toList]
theorem a4p(s:ByteArray)(w:World)(hd:Dg s.data.toList)(hlen:s.size≤270000) :
  Calls prog 265 #[.string s] w fun e w'=>∃ v,e=.returned v∧a0N w' v (dv s.data.toList)∧Below w.heap.size w w':=by
 obtain⟨i0,hi,hz0,hz1,hz2⟩:=info_parts Tryz.infoU;have HD:=b9W hd;have hsl:=a0F s;have HSL:=b9W hsl;have HST:=b9W (a3H.start s.data.toList);clear hd hsl
 go_enter func265,ntmps265
 go_wp2
 go_loopw [3,4,5,6] (fun sv se _ _ wr=>∃ (z:Int) (L:List Nat),se=.int .i64 z∧z≤(s.size:Int)∧-9 < z∧9*(L.length:Int)≤(s.size:Int) - z∧a3H s.data.toList z.toNat L∧wr.ownsRow w.heap.size 117 1 sv L.length (U64 L)∧Below w.heap.size w wr) (fun _ se _ _ _=>(intOf se+9).toNat)
 case atStart=>exact⟨(s.size:Int),[],rfl,Int.le_refl _,by omega,by simp,by rw[Int.toNat_natCast,HSL.out];exact HST.out,World.ownsRow_nil _ _ _ _,Below.refl _ _⟩
 case round =>
  obtain⟨z,L,rfl,hz1',hz2',hz3,hinv,hown,hB⟩:=hrel;clear HST
  by_cases hz:0 < z
  ·obtain⟨e,rfl⟩:∃ e:Nat,z=(e:Int):=⟨z.toNat,by omega⟩
   rw[Int.toNat_natCast]at hinv;have hel:e≤s.data.toList.length:=by rw[← HSL.out];omega
   have he0:0 < e:=by omega
   have hpiece:=a1R s (e - 9) e;have hplen:((s.data.toList.take e).drop (e - 9)).length=e - (e - 9):=by rw[List.length_drop,List.length_take];omega
   have hpd:Dg ((s.data.toList.take e).drop (e - 9)):=(HD.out.take _).drop _;have hpok:Lib.parseUintB 64 (s.extract (e - 9) e).data.toList=.ok (dv ((s.data.toList.take e).drop (e - 9))):=by
    rw[hpiece];exact b8q hpd (fun h=>by rw[h]at hplen;simp at hplen;omega) (by rw[hplen];omega)
   have hpsz:(s.extract (e - 9) e).size≤9223372036854775806:=by rw[a0F,hpiece,hplen];omega
   have HPU:=b9W (fun W=>Tryz.strconv_ParseUint_10_at64_ok (s.extract (e - 9) e) hpsz _ hpok W);have HSTP:=b9W (hinv.step HD.out he0 hel rfl);have hdl:dv ((s.data.toList.take e).drop (e - 9)) < 1000000000:=by
    refine Nat.lt_of_lt_of_le (b5P hpd) ?_;rw[hplen];exact Nat.le_trans (Nat.pow_le_pow_right (by omega) (show e - (e - 9)≤9 by omega)) (by decide)
   clear hinv hel hpiece hplen hpd hpok hpsz;generalize dv ((s.data.toList.take e).drop (e - 9))=d at *;have TK1:True:=trivial;have hesz:(e:Int)≤(s.size:Int):=hz1';obtain⟨Av,cvv,rfl⟩:=a1J hown
   by_cases h9:9≤e
   ·have hmax:max (0:Int) ((e:Int) - 9)=(e:Int) - 9:=by omega
    go_upto_region 6 with (clear TK1;go_at_call 296;refine(HPU.out _).mono ?_;rintro e w1 ⟨rfl,hw1⟩;have hb1:Below wr.heap.size wr w1:=(by rcases hw1 with rfl|rfl;(exact Below.refl _ _);(exact Lib.bytesWorld_below _ _ _));have HOW:=b9W (hown.kept (a3o hb1) (by cases (Value.slice Av L.length cvv).ownBlock<;>simp));have HB1:=b9W (hB.trans (hb1.mono hB.size));clear hw1 hb1)
    go_wp2_with (at_builtin;refine wpList_append_own _ rfl _ _ 214 rfl w.heap.size 117 i0 (.int .u64 0) 1 8 underlying214 hi hz0 hz1 hz2 rfl (by decide) _ _ _ rfl (HOW.out.alloc _) ⟨w1.heap.size,0,none⟩ 1 1 [.int .u64 (d:Int)] rfl rfl (cell_one_new _ _ _) (by simp[Value.oneCell']) (by unfold maxLen;omega) (by omega) (by have:=HB1.out.size;simp;omega) ?_;intro v' w2 hown' hgrow _)
    go_roundw
    case rel =>
     refine⟨(e:Int) - 9,L++[d],rfl,by omega,by omega,by rw[List.length_append,List.length_singleton];omega,?_,?_,(HB1.out.alloc HB1.out.size _).grown hgrow (by have:=HB1.out.size;simp;omega) (fun k e=>(HOW.out.lt k e).1)⟩
     ·rw[show ((e:Int) - 9).toNat=e - 9 by omega];exact HSTP.out
     ·rw[← a4I,List.length_append];exact hown'
    case measure=>simp[intOf];omega
   ·have hmax:max (0:Int) ((e:Int) - 9)=0:=by omega
    have h90:e - 9=0:=by omega
    rw[h90]at HPU
    go_upto_region 6 with (clear TK1;go_at_call 296;refine(HPU.out _).mono ?_;rintro e w1 ⟨rfl,hw1⟩;have hb1:Below wr.heap.size wr w1:=(by rcases hw1 with rfl|rfl;(exact Below.refl _ _);(exact Lib.bytesWorld_below _ _ _));have HOW:=b9W (hown.kept (a3o hb1) (by cases (Value.slice Av L.length cvv).ownBlock<;>simp));have HB1:=b9W (hB.trans (hb1.mono hB.size));clear hw1 hb1)
    go_wp2_with (at_builtin;refine wpList_append_own _ rfl _ _ 214 rfl w.heap.size 117 i0 (.int .u64 0) 1 8 underlying214 hi hz0 hz1 hz2 rfl (by decide) _ _ _ rfl (HOW.out.alloc _) ⟨w1.heap.size,0,none⟩ 1 1 [.int .u64 (d:Int)] rfl rfl (cell_one_new _ _ _) (by simp[Value.oneCell']) (by unfold maxLen;omega) (by omega) (by have:=HB1.out.size;simp;omega) ?_;intro v' w2 hown' hgrow _)
    go_roundw
    case rel =>
     refine⟨(e:Int) - 9,L++[d],rfl,by omega,by omega,by rw[List.length_append,List.length_singleton];omega,?_,?_,(HB1.out.alloc HB1.out.size _).grown hgrow (by have:=HB1.out.size;simp;omega) (fun k e=>(HOW.out.lt k e).1)⟩
     ·rw[show ((e:Int) - 9).toNat=e - 9 by omega];exact HSTP.out
     ·rw[← a4I,List.length_append];exact hown'
    case measure=>simp[intOf];omega
  ·have hz0':z.toNat=0:=by omega
   rw[hz0']at hinv;obtain⟨hsL,hvL⟩:=hinv.done;obtain⟨A5,c5,rfl⟩:=a1J hown;obtain⟨h0,h1,h2,h3⟩:=a3L hown;have HVL:=b9W hvL;clear hinv hown h0 hz0' hvL
   go_wp2_with (go_at_call 273;refine(a5C L _ _ _ _ rfl hsL h1 h2 h3).mono ?_;rintro e w' ⟨rfl,rfl⟩)
   go_ret
   refine⟨_,rfl,?_,hB⟩;rw[HVL.out];exact a4w hsL h3 (c:=c5) h1 h2 HVL.out
theorem a2N(s:ByteArray)(w:World)(hd:Dg s.data.toList)(hlen:s.size≤270000) :
  Calls prog 223 #[.string s] w fun e w'=>∃ v,e=.returned v∧a0u w' v (dv s.data.toList)∧Below w.heap.size w w':=by
 obtain⟨i0,hi,hz0,hz1,hz2⟩:=info_parts Tryz.infoI;have HD:=b9W hd;have hsl:=a0F s;have HSL:=b9W hsl;have HST:=b9W (a3H.start s.data.toList);clear hd hsl
 go_enter func223,ntmps223
 go_wp2
 go_loopw [3,4] (fun sv se wr=>∃ (z:Int) (L:List Nat),se=.int .i64 z∧z≤(s.size:Int)∧-9 < z∧9*(L.length:Int)≤(s.size:Int) - z∧a3H s.data.toList z.toNat L∧wr.ownsRow w.heap.size 3 1 sv L.length (I64 L)∧Below w.heap.size w wr) (fun _ se _=>(intOf se+9).toNat)
 case atStart=>exact⟨(s.size:Int),[],rfl,Int.le_refl _,by omega,by simp,by rw[Int.toNat_natCast,HSL.out];exact HST.out,World.ownsRow_nil _ _ _ _,Below.refl _ _⟩
 case round =>
  obtain⟨z,L,rfl,hz1',hz2',hz3,hinv,hown,hB⟩:=hrel;clear HST
  by_cases hz:0 < z
  ·obtain⟨e,rfl⟩:∃ e:Nat,z=(e:Int):=⟨z.toNat,by omega⟩
   rw[Int.toNat_natCast]at hinv;have hel:e≤s.data.toList.length:=by rw[← HSL.out];omega
   have he0:0 < e:=by omega
   have HSTP:=b9W (hinv.step HD.out he0 hel rfl);have HEL:=b9W hel;have HB:=b9W hB;have HOW:=b9W hown;obtain⟨Av,cvv,rfl⟩:=a1J hown;obtain⟨a,ha⟩:∃ a,e - 9=a:=⟨_,rfl⟩;have hae:a < e:=by omega
   have hmax:max (0:Int) ((e:Int) - 9)=(a:Int):=by omega
   have HSTA:=b9W (show dv ((s.data.toList.take a).drop a)=0 by rw[List.drop_of_length_le (by rw[List.length_take];omega)];rfl);rw[ha]at HSTP;have HA:=b9W ha;clear hinv hel hown hB ha;obtain⟨wo,rfl⟩:∃ wo,wo=wr:=⟨_,rfl⟩;go_wp2
   go_loopw [5,6] (fun sn si wr=>∃ i n:Nat,a≤i∧i≤e∧sn=.int .i64 (n:Int)∧si=.int .i64 (i:Int)∧n=dv ((s.data.toList.take i).drop a)∧wr=wo) (fun _ si _=>e - (intOf si).toNat)
   case atStart=>exact⟨a,0,Nat.le_refl _,by omega,rfl,rfl,HSTA.out.symm,rfl⟩
   case round =>
    obtain⟨i,n,hai,hie,rfl,rfl,hn,rfl⟩:=hrel;have HN:=b9W hn;clear hn
    by_cases hlt:i < e
    ·have hil:i < s.data.toList.length:=by have:=HEL.out;omega
     have hisz:i < s.size:=by rw[HSL.out];exact hil
     have hsi:s[i]=s.data.toList[i]:=by rw[Array.getElem_toList];rfl
     have hdg:=a3m.1 (HD.out _ (List.getElem_mem hil));rw[← hsi]at hdg;have hnx:dv ((s.data.toList.take (i+1)).drop a)=n*10+(s[i].toNat - 48):=by
      rw[HN.out,List.take_succ_eq_append_getElem hil,List.drop_append_of_le_length (by rw[List.length_take];omega),a98,hsi]
     have hn9:n < 1000000000:=by
      rw[HN.out];refine Nat.lt_of_lt_of_le (b5P ((HD.out.take i).drop a)) ?_;refine Nat.le_trans (Nat.pow_le_pow_right (by omega) (show _≤9 from ?_)) (by decide);rw[List.length_drop,List.length_take];have:=HA.out
      omega
     have HNX:=b9W hnx;have HDG:=b9W hdg;clear hsi hnx hdg;go_wp2;have hdg:=HDG.out
     go_roundw
     case rel=>exact⟨i+1,n*10+(s[i].toNat - 48),by omega,hlt,a09 (by omega),by go_num,HNX.out.symm,trivial⟩
     case measure=>simp[intOf];omega
    ·obtain rfl:i=e:=by omega
     have hn9:n < 1000000000:=by
      rw[HN.out];refine Nat.lt_of_lt_of_le (b5P ((HD.out.take i).drop a)) ?_;refine Nat.le_trans (Nat.pow_le_pow_right (by omega) (show _≤9 from ?_)) (by decide);rw[List.length_drop,List.length_take];have:=HA.out
      omega
     rw[← HN.out]at HSTP
     go_wp2_with (at_builtin;refine wpList_append_own _ rfl _ _ 168 rfl w.heap.size 3 i0 (.int .i64 0) 1 8 underlying168 hi hz0 hz1 hz2 rfl (by decide) _ _ _ rfl (HOW.out.alloc _) ⟨wr.heap.size,0,none⟩ 1 1 [.int .i64 (n:Int)] rfl rfl (cell_one_new _ _ _) (by simp[Value.oneCell']) (by unfold maxLen;omega) (by omega) (by have:=HB.out.size;simp;omega) ?_;intro v' w2 hown' hgrow _)
     go_roundw
     case rel =>
      refine⟨(i:Int) - 9,L++[n],rfl,by omega,by omega,by rw[List.length_append,List.length_singleton];omega,?_,?_,(HB.out.alloc HB.out.size _).grown hgrow (by have:=HB.out.size;simp;omega) (fun k e=>(HOW.out.lt k e).1)⟩
      ·rw[show ((i:Int) - 9).toNat=a by have:=HA.out;omega];exact HSTP.out
      ·rw[← a3r,List.length_append];exact hown'
     case measure=>simp[intOf];omega
  ·have hz0':z.toNat=0:=by omega
   rw[hz0']at hinv;obtain⟨hsL,hvL⟩:=hinv.done;obtain⟨A5,c5,rfl⟩:=a1J hown;obtain⟨h0,h1,h2,h3⟩:=a3L hown;have HVL:=b9W hvL;clear hinv hown h0 hz0' hvL
   go_wp2_with (go_at_call 269;refine(a2_ L _ _ _ _ rfl hsL h1 h2 h3).mono ?_;rintro e w' ⟨rfl,rfl⟩)
   go_ret
   refine⟨_,rfl,?_,hB⟩;rw[HVL.out];exact a2W hsL h3 (c:=c5) h1 h2 HVL.out
theorem a5J{p:UInt8→Bool}:∀ (l r:List UInt8) {x:UInt8},l.dropWhile p=x::r→p x=false
 | [],r,x,h=>by cases h
 | y::l,r,x,h=>by
  rw[List.dropWhile_cons]at h
  cases hy:p y with
  | true=>rw[hy]at h;exact a5J l r (by simpa using h)
  | false=>rw[hy]at h;simp at h;rw[← h.1];exact hy
theorem b2H(l:List UInt8):(Lib.trimS l [48,49,50,51,52,53,54,55,56,57]).isEmpty=l.all isD:=by
 have hc:∀ b:UInt8,([48,49,50,51,52,53,54,55,56,57]:List UInt8).contains b=isD b:=by
  have:∀ k:Fin 256,([48,49,50,51,52,53,54,55,56,57]:List UInt8).contains (UInt8.ofNat k.val)=isD (UInt8.ofNat k.val):=by decide +kernel
  intro b;have h:=this ⟨b.toNat,b.toNat_lt⟩
  simpa using h
 have hdw:∀ r:List UInt8,(r.dropWhile (([48,49,50,51,52,53,54,55,56,57]:List UInt8).contains ·)).isEmpty=r.all isD:=by
  intro r
  induction r with
  | nil=>rfl
  | cons x r ih =>
   rw[List.dropWhile_cons,hc,List.all_cons]
   cases isD x with
   | true=>simpa using ih
   | false=>simp
 unfold Lib.trimS Lib.trimLeftS Lib.trimRightS;rw[hdw]
 by_cases h:l.all isD=true
 ·rw[h,List.all_reverse,List.all_eq_true]
  intro b hb;have h2:(l.reverse.dropWhile (([48,49,50,51,52,53,54,55,56,57]:List UInt8).contains ·)).isEmpty=true:=by rw[hdw,List.all_reverse];exact h
  rw[List.isEmpty_iff]at h2;rw[h2]at hb
  cases hb
 ·have h2:(l.reverse.dropWhile (([48,49,50,51,52,53,54,55,56,57]:List UInt8).contains ·)).isEmpty=false:=by
   rw[hdw,List.all_reverse];simpa using h
  rw[Bool.eq_false_iff.2 h];have hne:l.reverse.dropWhile (([48,49,50,51,52,53,54,55,56,57]:List UInt8).contains ·)≠[]:=fun e=>by rw[e]at h2;simp at h2
  obtain⟨x,r,hx⟩:=List.exists_cons_of_ne_nil hne;rw[hx,List.all_reverse,List.all_cons];have hd:=a5J _ _ hx;rw[hc]at hd;rw[hd]
  simp
theorem b4L(s:ByteArray)(w:World)(hs:s.size≤4000000000) :
  Calls prog 295 #[.string s,.string ⟨#[48,49,50,51,52,53,54,55,56,57]⟩] w fun e w'=>e=.returned (.string ⟨(Lib.trimS s.data.toList [48,49,50,51,52,53,54,55,56,57]).toArray⟩)∧Below w.heap.size w w' :=
 Any.strings_Trim_laid Tryz.lays160 (by kernel_rfl) s ⟨#[48,49,50,51,52,53,54,55,56,57]⟩ w (by omega) (by decide) (by
  intro j b hb;have:b∈([48,49,50,51,52,53,54,55,56,57]:List UInt8):=List.mem_of_getElem? hb;have key:∀ b∈([48,49,50,51,52,53,54,55,56,57]:List UInt8),b.toNat < 128:=by decide
  exact key b this)
theorem a3W(s:ByteArray)(w:World)(hlen:s.size≤4000000000) :
  Calls prog 264 #[.string s] w fun e w'=>e=.returned (.bool (a1b s.data.toList))∧Below w.heap.size w w':=by
 have hl:=Lib.toList_data s
 by_cases h1:s.data.toList=[]
 ·have e1:s.toList.isEmpty=true:=by rw[hl,h1];rfl
  have e2:a1b s.data.toList=false:=by rw[h1];rfl
  rw[e2];clear hl h1 e2
  go_enter func264,ntmps264
  go_wp2
  go_ret
  exact⟨rfl,Below.refl _ _⟩
 ·have e1:s.toList.isEmpty=false:=by rw[hl,List.isEmpty_eq_false_iff];exact h1
  have hpos:0 < s.size:=by rw[a0F];exact List.length_pos_iff.2 h1
  have hs0:s[0]=s.data.toList[0]'(by rw[← a0F];exact hpos):=by rw[Array.getElem_toList];rfl
  have hhead:s.data.toList.head?=some s[0]:=by rw[hs0,List.head?_eq_getElem?,List.getElem?_eq_getElem]
  obtain⟨r,hr⟩:∃ r:ByteArray,(⟨(Lib.trimS s.data.toList [48,49,50,51,52,53,54,55,56,57]).toArray⟩:ByteArray)=r:=⟨_,rfl⟩;have hre:r.toList.isEmpty=s.data.toList.all isD:=by
   rw[← b2H,Lib.toList_data,← hr]
  have HT:=b9W (fun W=>b4L s W hlen);rw[hr]at HT;have hnf:a1b s.data.toList=((s.data.toList==[48] || s.data.toList.head? != some 48)&&s.data.toList.all isD):=by
   unfold a1b;rw[List.isEmpty_eq_false_iff.2 h1]
   rfl
  by_cases h2:s.data.toList=[48]
  ·have e2:s.toList=[48]:=by rw[hl];exact h2
   have e3:r.toList.isEmpty=true:=by rw[hre,h2];rfl
   have e4:a1b s.data.toList=true:=by rw[h2];rfl
   rw[e4];clear hl h1 h2 hs0 hhead hre hr hnf e4
   go_enter func264,ntmps264
   have TK1:True:=trivial
   go_wp2_with (clear TK1;go_at_call 295;refine(HT.out _).mono ?_;rintro e w1 ⟨rfl,hb1⟩;have HB1:=b9W hb1;clear hb1)
   go_ret
   exact⟨rfl,HB1.out⟩
  ·have e2:¬ s.toList=[48]:=by rw[hl];exact h2
   have e2':(s.toList==[48])=false:=by rw[beq_eq_false_iff_ne];exact e2
   have hb2:(s.data.toList==[48])=false:=by rw[beq_eq_false_iff_ne];exact h2
   rw[hb2,Bool.false_or,hhead]at hnf
   by_cases h3:(s[0].toNat:Int)=48
   ·have e4:a1b s.data.toList=false:=by
     rw[hnf];have:s[0]=48:=by
      apply UInt8.toNat_inj.1
      show s[0].toNat=48
      omega
     rw[this]
     rfl
    rw[e4];have h3':(((s[0].toNat:Int)) != 48)=false:=by rw[bne_eq_false_iff_eq];exact h3
    clear hl h1 h2 hs0 hhead hre hr hnf e4 hb2
    go_enter func264,ntmps264
    go_wp2
    go_ret
    exact⟨rfl,Below.refl _ _⟩
   ·have h3':(((s[0].toNat:Int)) != 48)=true:=by rw[bne_iff_ne];exact h3
    have e4:a1b s.data.toList=s.data.toList.all isD:=by
     rw[hnf];have:(some s[0] != some (48:UInt8))=true:=by
      rw[bne_iff_ne];intro e
      apply h3
      injection e with e
      rw[e];rfl
     rw[this,Bool.true_and]
    rw[e4,← hre];have HRE:=b9W hre;clear hl h1 h2 hs0 hhead hre hr hnf e4 hb2;obtain⟨rb,hrb⟩:∃ rb,r.toList.isEmpty=rb:=⟨_,rfl⟩;rw[hrb]
    go_enter func264,ntmps264
    have TK1:True:=trivial
    cases rb with
    | true =>
     go_wp2_with (clear TK1;go_at_call 295;refine(HT.out _).mono ?_;rintro e w1 ⟨rfl,hb1⟩;have HB1:=b9W hb1;clear hb1)
     go_ret
     exact⟨rfl,HB1.out⟩
    | false =>
     go_wp2_with (clear TK1;go_at_call 295;refine(HT.out _).mono ?_;rintro e w1 ⟨rfl,hb1⟩;have HB1:=b9W hb1;clear hb1)
     go_ret
     exact⟨rfl,HB1.out⟩
theorem b3Q(l:List UInt8):Lib.hasPrefix l [45]=(intP l).1∧Lib.trimPrefix l [45]=(intP l).2:=by
 unfold Lib.trimPrefix Lib.hasPrefix intP
 cases l with
 | nil=>exact⟨rfl,rfl⟩
 | cons x r =>
  by_cases h:x=45
  ·subst h;exact⟨rfl,rfl⟩
  ·have h1:([45]:List UInt8).isPrefixOf (x::r)=false:=by simp[List.isPrefixOf];exact fun e=>h e.symm
   have h2:¬ (x::r).head?=some 45:=by simp[h]
   rw[h1,if_neg h2];exact⟨rfl,rfl⟩
theorem a99(l:List UInt8):(intP l).2.length≤l.length:=by
 unfold intP
 split
 ·simp
 ·exact Nat.le_refl _
theorem a1s(s:ByteArray)(w:World)(hlen:s.size≤4000000000) :
  Calls prog 263 #[.string s] w fun e w'=>e=.returned (.tuple #[.bool (intP s.data.toList).1,.string ⟨(intP s.data.toList).2.toArray⟩,.bool (a1k s.data.toList)])∧Below w.heap.size w w':=by
 obtain⟨hp1,hp2⟩:=b3Q s.data.toList;have hle:=a99 s.data.toList;have hsz:=a0F s;unfold a1k;generalize intP s.data.toList=p at *;obtain⟨m,l⟩:=p
 dsimp only at hp1 hp2 hle ⊢
 have hl2:(⟨l.toArray⟩:ByteArray).size≤4000000000:=by
  show l.toArray.size≤_
  rw[List.size_toArray];omega
 generalize hs2:(⟨l.toArray⟩:ByteArray)=s2 at *;have hd2:s2.data.toList=l:=by rw[← hs2]
 have HC:=b9W (Tryz.strings_CutPrefix s ⟨#[45]⟩);have HP:=b9W (And.intro hp1 hp2);have HL:=b9W hl2;have HD:=b9W hd2;have HS2:=b9W hs2;have HF:=b9W (fun w'=>a3W s2 w' hl2);have e2:s2.toList=l:=by rw[Lib.toList_data,hd2]
 generalize hnf:a1b l=f at *;have HNF:=b9W hnf;have E2:=b9W e2;clear hp1 hp2 hle hsz hl2 hd2 hs2 hnf e2
 cases f<;>cases m <;>
 ·go_enter func263,ntmps263
  go_wp2_with (first
   | (go_at_call 294;refine(HC.out _).mono ?_;rintro e w1 ⟨rfl,rfl⟩;rw[show Lib.hasPrefix s.data.toList (⟨#[45]⟩:ByteArray).data.toList=_ from HP.out.1,show Lib.trimPrefix s.data.toList (⟨#[45]⟩:ByteArray).data.toList=l from HP.out.2,HS2.out])
   | (go_at_call 264;refine(HF.out _).mono ?_;rintro e w2 ⟨rfl,hb2⟩;have HB2:=b9W hb2;clear hb2;rw[HD.out,HNF.out]))
  refine bodyPost_ret (results_tmp3 rfl _ _ _) rfl ⟨?_,HB2.out⟩
  first|rfl|(simp[E2.out])
theorem a1A{l:List UInt8}(h:a1b l=true):Dg l:=by
 have e:=a1b.eq h;rw[← e];exact a31 _
end Go.Proofs.YtigapglmipmbeaaGreatDoor
