/- The reference's step: one limb of a quotient. -/
import Derived.Test.YtigapglmipmbeaaGreatDoorLwMomentAdds06
import Derived.Deep.CutBlock
import Derived.Test.YtigapglmipmbeaaGreatDoorLwMomentAdds04
import Derived.Test.YtigapglmipmbeaaGreatDoorLwMomentAdds08
import Derived.Test.YtigapglmipmbeaaGreatDoorLwMomentAdds07
set_option maxRecDepth 100000
set_option maxHeartbeats 16000000
open Go.Proofs.Tryz
namespace Go.Proofs.YtigapglmipmbeaaGreatDoor
open Go.RowKit Go.Shelf
open Lim
theorem b8X(t:Int):(t.tmod 1000000000+1000000000) % 1000000000=t % 1000000000:=by
 rw[Int.tmod_eq_emod]
 split<;>omega
theorem b79(t:Int):0≤t.tmod 1000000000+1000000000:=by
 have:=Int.lt_tmod_of_pos t (show (0:Int) < 1000000000 by omega)
 omega
theorem b8x{t:Int}(_h1:-1000000000000000000≤t)(_h2:t < 1000000000):(wrap64 (t.tmod 1000000000+1000000000)).tmod 1000000000=t % 1000000000:=by
 have a:=b8X t;have b:=b79 t;have c:=Int.tmod_lt_of_pos t (show (0:Int) < 1000000000 by omega);rw[IntWalk.wrap64_in _ (by omega),Int.tmod_eq_emod_of_nonneg b,a]
theorem b6Z{t:Int}(_h1:-1000000000000000000≤t)(_h2:t < 1000000000):wrap64 ((wrap64 (t % 1000000000 - t)).tdiv 1000000000)=(t % 1000000000 - t) / 1000000000:=by
 rw[IntWalk.wrap64_in (t % 1000000000 - t) (by omega),Int.tdiv_eq_ediv_of_nonneg (by omega),IntWalk.wrap64_in _ (by omega)]
section
variable {w:World} {g:Nat} {t:TypeId} {P S:List Value} {X:List Nat}
theorem a32(h:Blk w g t (P++(I64 X++S)).toArray){off i:Nat}(ho:off=P.length)(hi:i < X.length):w.cell? ⟨g,off+i,none⟩=some (.int .i64 ((X[i]?.getD 0:Nat):Int)):=by
 subst ho;rw[h.cell,List.getElem?_toArray,List.getElem?_append_right (by omega),show P.length+i - P.length=i by omega,List.getElem?_append_left (by rw[a0M];exact hi),a1V hi]
theorem a97(h:Blk w g t (P++(I64 X++S)).toArray){off i:Nat}(ho:off=P.length)(hi:i < X.length)(x:Nat):Blk (w.setCell ⟨g,off+i,none⟩ (.int .i64 (x:Int))) g t (P++(I64 (X.set i x)++S)).toArray:=by
 subst ho;have h2:=h.set_ (P.length+i) (.int .i64 (x:Int));rw[List.setIfInBounds_toArray,List.set_append_right _ _ (by omega),show P.length+i - P.length=i by omega,List.set_append_left _ _ (by rw[a0M];exact hi)]at h2;rw[show I64 (X.set i x)=(I64 X).set i (.int .i64 (x:Int)) by simp[I64,List.map_set]];exact h2
end
section
variable {w:World} {g:Nat} {t:TypeId} {P S:List Value} {X:List Nat}
theorem b28{v:Value}(h:Blk w g t (P++(I64 X++(v::S))).toArray){off n:Nat}(ho:off=P.length)(hn:n=X.length):w.cell? ⟨g,off+n,none⟩=some v:=by
 subst ho;subst hn;rw[h.cell,List.getElem?_toArray,List.getElem?_append_right (by omega),show P.length+X.length - P.length=X.length by omega,List.getElem?_append_right (by rw[a0M];omega),a0M]
 simp
theorem b29{v:Value}(h:Blk w g t (P++(I64 X++(v::S))).toArray){off n:Nat}(ho:off=P.length)(hn:n=X.length)(v':Value):Blk (w.setCell ⟨g,off+n,none⟩ v') g t (P++(I64 X++(v'::S))).toArray:=by
 subst ho;subst hn;have h2:=h.set_ (P.length+X.length) v';rw[List.setIfInBounds_toArray,List.set_append_right _ _ (by omega),show P.length+X.length - P.length=X.length by omega,List.set_append_right _ _ (by rw[a0M];omega),a0M,Nat.sub_self,List.set_cons_zero]at h2;exact h2
theorem a9R{n:Nat}(hn:X.length=n+1):I64 X++S=I64 (X.take n)++(.int .i64 ((X[n]?.getD 0:Nat):Int)::S):=by
 have e:X=X.take n++[X[n]?.getD 0]:=by
  have:=List.take_succ_eq_append_getElem (l:=X) (i:=n) (by omega);rw[List.take_of_length_le (by omega)]at this;rw[show X[n]?.getD 0=X[n]'(by omega) by simp[show n < X.length by omega]];exact this
 conv=>lhs;rw[e]
 simp[I64]
end
theorem b6f(P S:List Value)(U V:List Nat)(n g off cu cv:Nat)(Av:Option Addr)(w:World)(hD:Div2 U V n)(hoff:off=P.length)(hn:n≤100000)
  (hu:Blk w g 3 (P++(I64 U++S)).toArray) (hv:Row w Av (I64 V)) (hvg:∀ a,Av=some a→a.block≠g) :
  Calls prog 300 #[.slice (some ⟨g,off,none⟩) (n+1) cu,.slice Av n cv] w fun e w'=>∃ W:List Nat,e=.returned (.int .i64 ((val U / val V:Nat):Int))∧Sm W∧W.length=n+1∧val W=val U % val V∧Blk w' g 3 (P++(I64 W++S)).toArray∧Only g w w':=by
 have h2:=hD.two;have hlu:=hD.lu;have hlv:=hD.lv;obtain⟨b,o,rfl,hb,hcell⟩:=hv (by rw[a0M];omega);have hbg:b≠g:=hvg _ rfl;have HV:=b9W (show ∀ W,Only g w W→∀ i,i < n→W.cell? ⟨b,o+i,none⟩=some (.int .i64 ((V[i]?.getD 0:Nat):Int)) from fun W hW i hi=>hW.cell hbg (hcell i _ (a1V (by omega))));have HU:=b9W hu;have HD:=b9W hD;have hgs:=hu.lt;clear hcell hvg hv;have un:=hD.su.get n;have un1:=hD.su.get (n - 1);have un2:=hD.su.get (n - 2);have vn1:=hD.sv.get (n - 1);have vn2:=hD.sv.get (n - 2);have vtop:=hD.top;have cun:=a32 hu hoff (i:=n) (by omega);have cun1:=a32 hu hoff (i:=n - 1) (by omega);have cun2:=a32 hu hoff (i:=n - 2) (by omega);have cvn1:=HV.out w Only.refl (n - 1) (by omega);have cvn2:=HV.out w Only.refl (n - 2) (by omega);clear hD hu;have HST:=b9W (fun t ht=>Est.start (U:=U) (V:=V) (n:=n) HD.out (t:=t) ht);have HLO:=b9W (fun g r (e:Est U V n g r) hc=>Est.lower HD.out e hc);have HDN:=b9W (fun g r (e:Est U V n g r) hc=>Est.done HD.out e hc);have HSM:=b9W (fun g r (e:Est U V n g r)=>e.sum);generalize hun:U[n]?.getD 0=u0 at *;generalize hun1:U[n - 1]?.getD 0=u1 at *;generalize hun2:U[n - 2]?.getD 0=u2 at *;generalize hvn1:V[n - 1]?.getD 0=v1 at *;generalize hvn2:V[n - 2]?.getD 0=v2 at *;rw[a0B]at un un1 un2 vn1 vn2;have HEQ:=b9W (And.intro hun (And.intro hvn1 hvn2));clear hun hun1 hun2 hvn1 hvn2;have hv1:0 < v1:=by omega
 have HO:=b9W (And.intro hoff (And.intro hlu hlv));clear hoff hlu hlv
 go_enter func300,ntmps300
 go_wp2
 go_quiet (fail)
 go_wp2
 go_quiet (fail)
 go_upto_block 0 with fail
 go_cut [7,8] from 43 to 75 (fun sg sr wx=>∃ gg r k:Nat,sg=.int .i64 (gg:Int)∧sr=.int .i64 (r:Int)∧val U / val V≤gg∧(gg < B∧gg*val V < val U+val V)∧wx=w.drewN k)
 case first =>
  go_wp2
  go_loopw [7,8] (fun sg sr wr=>∃ gg r k:Nat,sg=.int .i64 (gg:Int)∧sr=.int .i64 (r:Int)∧Est U V n gg r∧wr=w.drewN k) (fun sg _ _=>(intOf sg).toNat)
  case atStart=>exact⟨_,_,_,a09 (a7F u0 u1 v1),a09 (a7E u0 u1 v1),HST.out _ rfl,World.drewN_drewN _ _ _⟩
  case round =>
   obtain⟨gg,r,k,rfl,rfl,he,rfl⟩:=hrel;have hsum:=HSM.out gg r he;have hgv:gg≤gg*v1:=Nat.le_mul_of_pos_right _ hv1;have hr18:r≤1000000000000000000:=by rw[a0B]at hsum;omega
   have hg18:gg≤1000000000000000000:=by rw[a0B]at hsum;omega
   have HE:=b9W he;have HS:=b9W hsum;clear he hsum hgv;have qun2:(w.drewN k).cell? ⟨g,off+(n - 2),none⟩=_:=cun2;have qvn1:(w.drewN k).cell? ⟨b,o+(n - 1),none⟩=_:=cvn1;have qvn2:(w.drewN k).cell? ⟨b,o+(n - 2),none⟩=_:=cvn2
   by_cases hr:r < 1000000000
   ·have d1:decide ((r:Int) < 1000000000)=true:=decide_eq_true (by omega)
    by_cases hg:1000000000≤gg
    ·have d2:decide ((1000000000:Int)≤(gg:Int))=true:=decide_eq_true (by omega)
     have HL:=b9W (HLO.out gg r HE.out (.inl (by rw[a0B];exact hg)));have hg1:=HL.out.1;go_wp2
     go_quiet (fail)
     go_wp2
     go_quiet (fail)
     go_wp2
     go_roundw
     case rel=>exact⟨gg - 1,r+v1,_,a09 (by omega),a09 (by omega),HL.out.2,by simp only[World.drewN_drewN];rfl⟩
     case measure=>simp[intOf];omega
    ·have d2:decide ((1000000000:Int)≤(gg:Int))=false:=decide_eq_false (by omega)
     have hp0:(0:Int)≤(gg:Int)*(v2:Int):=Int.mul_nonneg (by omega) (by omega);have hp1:(gg:Int)*(v2:Int)≤1000000000000000000:=by
      have:gg*v2≤1000000000*1000000000:=Nat.mul_le_mul (by omega) (by omega);have e:(gg:Int)*(v2:Int)=((gg*v2:Nat):Int):=(Int.natCast_mul _ _).symm;rw[e];omega
     by_cases hx:r*B+u2 < gg*v2
     ·have d3:decide ((r:Int)*1000000000+(u2:Int) < (gg:Int)*(v2:Int))=true:=decide_eq_true (by
       have e:(gg:Int)*(v2:Int)=((gg*v2:Nat):Int):=(Int.natCast_mul _ _).symm;rw[a0B]at hx;rw[e];omega)
      have HL:=b9W (HLO.out gg r HE.out (.inr hx));have hg1:=HL.out.1;clear hx;go_wp2
      go_quiet (fail)
      go_wp2
      go_quiet (fail)
      go_wp2
      go_roundw
      case rel=>exact⟨gg - 1,r+v1,_,a09 (by omega),a09 (by omega),HL.out.2,by simp only[World.drewN_drewN];rfl⟩
      case measure=>simp[intOf];omega
     ·have d3:decide ((r:Int)*1000000000+(u2:Int) < (gg:Int)*(v2:Int))=false:=decide_eq_false (by
       have e:(gg:Int)*(v2:Int)=((gg*v2:Nat):Int):=(Int.natCast_mul _ _).symm;rw[a0B]at hx;rw[e];omega)
      have HX:=b9W (HDN.out gg r HE.out (.inr ⟨by rw[a0B];omega,by omega⟩));clear hx;go_wp2
      go_quiet (fail)
      go_wp2
      go_meet
      case rel=>exact⟨gg,r,_,rfl,rfl,HE.out.low,HX.out,by simp only[World.drewN_drewN];rfl⟩
   ·have d1:decide ((r:Int) < 1000000000)=false:=decide_eq_false (by omega)
    have HX:=b9W (HDN.out gg r HE.out (.inl (by rw[a0B];omega)));go_wp2
    go_quiet (fail)
    go_wp2
    go_meet
    case rel=>exact⟨gg,r,_,rfl,rfl,HE.out.low,HX.out,by simp only[World.drewN_drewN];rfl⟩
 case rest =>
  obtain⟨gg,r,k,rfl,rfl,hlow,⟨hgB,hup⟩,rfl⟩:=hcut;have HG:=b9W (And.intro hlow hup);rw[a0B]at hgB;have HBK:=b9W (show Blk (w.drewN k) g 3 (P++(I64 U++S)).toArray from HU.out);have HSS:=b9W (a3I.start (U:=U) (V:=V) (n:=n) (g:=gg) HD.out.su HD.out.lu);clear hlow hup cun cun1 cun2 cvn1 cvn2;go_wp2
  go_loopw [9,10] (fun sc si wr=>∃ (i:Nat) (X:List Nat) (c:Nat),i≤n∧sc=.int .i64 (c:Int)∧si=.int .i64 (i:Int)∧a3I U V n gg i X c∧c≤B∧Blk wr g 3 (P++(I64 X++S)).toArray∧Only g w wr) (fun _ si _=>n - (intOf si).toNat)
  case atStart=>exact⟨0,U,0,Nat.zero_le _,rfl,rfl,HSS.out,Nat.zero_le _,HBK.out,Only.refl.drewN k⟩
  case round =>
   obtain⟨i,X,c,hi,rfl,rfl,hs,hc,hblk,hon⟩:=hrel;rw[a0B]at hc;have hgw:=hblk.lt
   by_cases hlt:i < n
   ·have hXl:=hs.2.1
    have hx0:=hs.1.get i;have hXU:=hs.2.2.2 i (Nat.le_refl _);have hy0:=HD.out.sv.get i;have cx:=a32 hblk HO.out.1 (i:=i) (by omega);have fx:=hblk.frozen (off+i);have cy:=HV.out wr hon i hlt;have HSTP:=b9W (fun x c' hx he=>hs.step (x:=x) (c':=c') hlt hx he);have HSET1:=b9W (fun (x:Nat)=>a97 hblk HO.out.1 (i:=i) (by omega) x);have HON:=b9W hon;rw[← hXU]at HSTP;clear hs hXU hXl hblk hon HSS HBK;generalize X[i]?.getD 0=x0 at *;generalize V[i]?.getD 0=y0 at *;rw[a0B]at hx0 hy0;obtain⟨q,hq⟩:∃ q,gg*y0=q:=⟨_,rfl⟩;have e1:(gg:Int)*(y0:Int)=(q:Int):=by rw[← hq,Int.natCast_mul]
    have hq18:q≤999999999*999999999:=by rw[← hq];exact Nat.mul_le_mul (by omega) (by omega)
    rw[hq]at HSTP;clear hq;have hq1:(gg:Int)*(y0:Int)≤999999998000000001:=by rw[e1];omega
    have hq0:(0:Int)≤(gg:Int)*(y0:Int):=by rw[e1];omega
    obtain⟨tt,htt⟩:∃ tt:Int,(x0:Int) - (c:Int) - (q:Int)=tt:=⟨_,rfl⟩;have htl:-1000000000000000000≤tt:=by omega
    have hth:tt < 1000000000:=by omega
    have HV1:=b9W (And.intro (b8x htl hth) (b6Z htl hth));have HT:=b9W htt;go_wp2
    go_quiet (fail)
    go_wp2;rw[HV1.out.1,HV1.out.2];obtain⟨x',hx'⟩:∃ x':Nat,tt % 1000000000=(x':Int):=⟨(tt % 1000000000).toNat,by omega⟩;obtain⟨c',hc'⟩:∃ c':Nat,(tt % 1000000000 - tt) / 1000000000=(c':Int):=⟨((tt % 1000000000 - tt) / 1000000000).toNat,by omega⟩;rw[hx']at hc' ⊢;rw[hc'];have htt2:=HT.out;have HST:=HSTP.out x' c' (by rw[a0B];omega) (by rw[a0B];omega)
    go_roundw
    case rel =>
     exact⟨i+1,X.set i x',c',hlt,rfl,by go_num,HST,by rw[a0B];omega,HSET1.out x',(HON.out.drewN nq).setCell _ _ hgw⟩
    case measure=>simp[intOf];omega
   ·obtain rfl:i=n:=by omega
    have hXl:=hs.2.1;have hXU:=hs.2.2.2 i (Nat.le_refl _);have cx:=a32 hblk HO.out.1 (i:=i) (by omega);have fx:=hblk.frozen (off+i);rw[hXU,HEQ.out.1]at cx;have HSF:=b9W (fun hle=>b3e HD.out HG.out.1 HG.out.2 hs hle);have HSB:=b9W (fun hgt=>b3x HD.out HG.out.1 HG.out.2 hs hgt);rw[HEQ.out.1]at HSF HSB;have HBL:=b9W hblk;have HON:=b9W hon;have HXL:=b9W hXl;have HXS:=b9W hs.1;clear hs hXl hXU hblk hon HSS HBK hlt
    by_cases hle:c≤u0
    ·have e2:(u0:Int) - (c:Int)=((u0 - c:Nat):Int):=by omega
     have HR:=b9W e2;have HF:=b9W (HSF.out hle);have hnn:¬ (u0:Int) - (c:Int) < 0:=by omega
     clear e2 hle;go_wp2
     go_loopw [7] (fun sg w3=>sg=.int .i64 (gg:Int)∧Blk w3 g 3 (P++(I64 (X.set i (u0 - c))++S)).toArray∧Only g w w3) (fun _ _=>0)
     case atStart=>exact⟨rfl,by rw[HR.out];exact a97 HBL.out HO.out.1 (by rw[HXL.out];omega) _,HON.out.setCell _ _ hgw⟩
     case round =>
      obtain⟨rfl,hblk,hon⟩:=hrel;have cx2:=a32 hblk HO.out.1 (i:=i) (by rw[List.length_set,HXL.out];omega);rw[List.getElem?_set_self (by rw[HXL.out];omega)]at cx2
      simp only[Option.getD_some]at cx2
      have hnn2:¬ ((u0 - c:Nat):Int) < 0:=by omega
      clear cx fx;have HB2:=b9W hblk;have HON2:=b9W hon;clear hblk hon;generalize hz:u0 - c=z at *;go_wp2
      go_ret
      exact⟨a3X (a09 (by rw[HF.out.1];exact Int.natCast_ediv _ _)),X.set i z,HF.out.2.2,by rw[List.length_set];exact HXL.out,HF.out.2.1,HB2.out,HON2.out⟩
    ·have HF:=b9W (HSB.out (by omega))
     have HBS:=b9W (a29.start (U:=X) (V:=V) (n:=i) HXS.out HXL.out);have hg1:1≤gg:=by rw[HF.out.1];exact Nat.le_add_left 1 _
     have e2:(u0:Int) - (c:Int)=-1:=by have:=HF.out.2.1;omega
     obtain⟨wo,rfl⟩:∃ wo,wo=wr:=⟨_,rfl⟩;have hlt2:(X.take i).length=i:=by rw[List.length_take,HXL.out];omega
     have HLT:=b9W hlt2;have HB3:=b9W (show Blk (wo.setCell ⟨g,off+i,none⟩ (.int .i64 (-1))) g 3 (P++(I64 (X.take i)++(.int .i64 (-1)::S))).toArray from by
      have h2:=HBL.out;rw[a9R HXL.out]at h2;exact b29 h2 HO.out.1 hlt2.symm _)
     clear hle hlt2;go_wp2
     go_loopw [7] (fun sg w3=>∃ G:Nat,sg=.int .i64 (G:Int)∧Only g w w3∧((G=gg∧Blk w3 g 3 (P++(I64 (X.take i)++(.int .i64 (-1)::S))).toArray)∨(G+1=gg∧∃ W:List Nat,Sm W∧W.length=i+1∧val W=val U % val V∧Blk w3 g 3 (P++(I64 W++S)).toArray))) (fun sg _=>(intOf sg).toNat)
     case atStart=>exact⟨gg,rfl,HON.out.setCell _ _ hgw,.inl ⟨rfl,by first|exact HB3.out|(rw[e2];exact HB3.out)⟩⟩
     case round =>
      obtain⟨G,rfl,hon,hcase⟩:=hrel;clear cx fx
      rcases hcase with⟨rfl,hblk⟩|⟨hG,W,hW1,hW2,hW3,hblk⟩
      ·have cx2:=b28 hblk HO.out.1 HLT.out.symm
       have HB4:=b9W hblk;have HON2:=b9W hon;have hgw3:=hblk.lt;clear hblk hon;obtain⟨wq,rfl⟩:∃ wq,wq=wr:=⟨_,rfl⟩;go_wp2
       go_loopw [13,14] (fun sc sj wr=>∃ (j:Nat) (Y:List Nat) (cy:Nat),j≤i∧sc=.int .i64 (cy:Int)∧sj=.int .i64 (j:Int)∧a29 X V i j Y cy∧Blk wr g 3 (P++(I64 (Y.take i)++(.int .i64 (-1)::S))).toArray∧Only g w wr) (fun _ sj _=>i - (intOf sj).toNat)
       case atStart=>exact⟨0,X,0,Nat.zero_le _,rfl,rfl,HBS.out,HB4.out,HON2.out⟩
       case round =>
        obtain⟨j,Y,cy,hj,rfl,rfl,hb4,hblk,hon⟩:=hrel;have hcy:=hb4.2.2.2.1;have hYl:=hb4.2.1;have hYt:(Y.take i).length=i:=by rw[List.length_take,hYl];omega
        have hgw2:=hblk.lt;clear cx2
        by_cases hlt:j < i
        ·have hx0:=hb4.1.get j
         have hXY:=hb4.2.2.2.2 j (Nat.le_refl _);have hy0:=HD.out.sv.get j;have cx:=a32 hblk HO.out.1 (i:=j) (by omega);rw[List.getElem?_take_of_lt hlt]at cx;have fx:=hblk.frozen (off+j);have cv:=HV.out wr hon j hlt;have HSTP:=b9W (hb4.step HXS.out HD.out.sv hlt rfl);have HSET:=b9W (fun (x:Nat)=>(show Blk (wr.setCell ⟨g,off+j,none⟩ (.int .i64 (x:Int))) g 3 (P++(I64 ((Y.set j x).take i)++(.int .i64 (-1)::S))).toArray from by
          rw[List.take_set];exact a97 hblk HO.out.1 (i:=j) (by omega) x))
         have HON3:=b9W hon;rw[← hXY]at HSTP;clear hb4 hXY hYl hYt hblk hon HBS HB4;generalize Y[j]?.getD 0=x0 at *;generalize V[j]?.getD 0=y0 at *;rw[a0B]at hx0 hy0;have e1:((x0:Int)+(y0:Int)+(cy:Int)) % 1000000000=(((x0+y0+cy) % B:Nat):Int):=by rw[a0B];omega
         have HR:=b9W e1;clear e1;go_wp2
         go_quiet (fail)
         go_wp2
         go_roundw
         case rel =>
          refine⟨j+1,Y.set j ((x0+y0+cy) % B),(x0+y0+cy) / B,hlt,a09 (by rw[a0B];omega),by go_num,HSTP.out,?_,?_⟩
          ·rw[HR.out];exact(HSET.out _)
          ·exact(HON3.out.drewN _).setCell _ _ hgw2
         case measure=>simp[intOf];omega
        ·obtain rfl:j=i:=by omega
         have HE:=b9W (HF.out.2.2 hb4);have hc1:cy=1:=HE.out.1;have cx:=b28 hblk HO.out.1 hYt.symm;have fx:=hblk.frozen (off+j);have HSET:=b9W (b29 hblk HO.out.1 hYt.symm (.int .i64 ((0:Nat):Int)));have HSP:=b9W (a9R (X:=Y.set j 0) (S:=S) (n:=j) (by rw[List.length_set];exact hYl));have HON3:=b9W hon;have HYL:=b9W hYl;subst hc1;clear hb4 hblk hon hYl hYt HBS HB4 HSB HSF hlt;go_wp2
         go_roundw
         case rel =>
          refine⟨G - 1,a09 (by omega),HON3.out.setCell _ _ hgw2,.inr ⟨by omega,Y.set j 0,HE.out.2.2,by rw[List.length_set];exact HYL.out,HE.out.2.1,?_⟩⟩;rw[HSP.out,List.getElem?_set_self (by rw[HYL.out];omega),List.take_set_of_le (Nat.le_refl _)];exact HSET.out
         case measure=>simp[intOf];omega
      ·have cx2:=a32 hblk HO.out.1 (i:=i) (by rw[hW2];omega)
       have HB4:=b9W hblk;have HON2:=b9W hon;have HW:=b9W (And.intro hW1 (And.intro hW2 hW3));have HGG:=b9W hG;have hnn:¬ ((W[i]?.getD 0:Nat):Int) < 0:=by omega
       clear hblk hon hW1 hW2 hW3 hG;generalize W[i]?.getD 0=z at *;go_wp2
       go_ret
       exact⟨a3X (a09 (by have h1:=HGG.out;have h2:=HF.out.1;rw[h2]at h1;rw[Nat.add_right_cancel h1];exact Int.natCast_ediv _ _)),W,HW.out.1,HW.out.2.1,HW.out.2.2,HB4.out,HON2.out⟩
theorem b1P(w:World):a0u w (.slice none 0 0) 0:=by
 refine⟨none,0,?_,?_,by unfold maxLen;omega,?_⟩
 ·rw[a0E];rfl
 ·rw[a0E];exact Nat.le_refl _
 ·rw[a0E];exact Row.nil
theorem b7h{y:Nat}(hl1:(toL y).length=1):toL y=[y]∧0 < y∧y < 1000000000:=by
 obtain⟨z,hz⟩:=List.length_eq_one_iff.1 hl1;have hv:=a0S y;rw[hz]at hv
 simp[val]at hv
 subst hv;have hs:=a1c z;rw[hz]at hs;have hlt:=hs.head;rw[a0B]at hlt;refine⟨hz,?_,hlt⟩
 rcases Nat.eq_zero_or_pos z with h0|h0
 ·subst h0;rw[a0E]at hz;cases hz
 ·exact h0
theorem b0N(x y:Nat)(vx vy:Value)(w:World)(hx:a0u w vx x)(hy:a0u w vy y)(hlx:(toL x).length≤40000)(hly:(toL y).length≤40000)(hlt:x < y) :
  Calls prog 268 #[vx,vy] w fun e w'=>∃ vq vr,e=.returned (.tuple #[vq,vr])∧a0u w' vq (x / y)∧a0u w' vr (x % y)∧Below w.heap.size w w':=by
 have HX:=b9W hx;have HY:=b9W hy;obtain⟨A,c,rfl,hc,hcm,_⟩:=hx;obtain⟨A',c',rfl,hc',hcm',_⟩:=hy;have hd:sgn x y=-1:=a7u hlt;have hneg:sgn x y < 0:=by rw[hd];omega
 clear hd
 go_enter func268,ntmps268
 have TK1:True:=trivial
 go_wp2_with (clear TK1;go_at_call 232;refine(a12 x y _ _ _ HX.out HY.out (by omega) (by omega)).mono ?_;rintro e w1 ⟨rfl,hb⟩;have HB1:=b9W hb;clear hb)
 go_ret2
 refine⟨_,_,rfl,?_,?_,HB1.out⟩
 ·rw[Nat.div_eq_of_lt hlt];exact b1P _
 ·rw[Nat.mod_eq_of_lt hlt];exact HX.out.below HB1.out
theorem b1U(x y:Nat)(vx vy:Value)(w:World)(hx:a0u w vx x)(hy:a0u w vy y)(hlx:(toL x).length≤40000)(hge:y≤x)(hl1:(toL y).length=1) :
  Calls prog 268 #[vx,vy] w fun e w'=>∃ vq vr,e=.returned (.tuple #[vq,vr])∧a0u w' vq (x / y)∧a0u w' vr (x % y)∧Below w.heap.size w w':=by
 have HX:=b9W hx;have HY:=b9W hy;obtain⟨hty,hy0,hyB⟩:=b7h hl1;obtain⟨A,c,rfl,hc,hcm,_⟩:=hx;obtain⟨A',c',rfl,hc',hcm',hrow⟩:=hy;obtain⟨b,o,rfl,hb,hcell⟩:=hrow (by rw[a0M,hl1];omega);have hc0:=hcell 0 _ (a1V (by omega));rw[hty]at hc0
 simp only[List.getElem?_cons_zero,Option.getD_some,Nat.add_zero]at hc0
 have hl1':=hl1;rw[hl1]at HY hc';rw[hl1];have hneg:¬ sgn x y < 0:=by
  rcases Nat.lt_or_ge y x with h|h
  ·rw[a5N h];omega
  ·rw[Nat.le_antisymm h hge,a5A];omega
 have HGE:=b9W hge;have HL1:=b9W (show (toL y).length≤100000 by omega);clear hcell hrow hty hl1 hge hl1'
 go_enter func268,ntmps268
 have TK1:True:=trivial;have TK2:True:=trivial;have TK3:True:=trivial
 go_wp2_with (clear TK1;go_at_call 232;refine(a12 x y _ _ _ HX.out HY.out (by omega) HL1.out).mono ?_;rintro e w1 ⟨rfl,hb1⟩;have HB1:=b9W hb1;have hc1:=(hb1.cell (p:=⟨b,o,none⟩) hb).trans hc0;have hbs:b < w1.heap.size:=Nat.lt_of_lt_of_le hb hb1.size;clear hb1)
 go_wp2_with (clear TK2;go_at_call 298;refine(a9y x y _ _ (HX.out.below HB1.out) hlx hy0 hyB).mono ?_;rintro e w2 ⟨v,rfl,hq,hb2⟩;have HB2:=b9W (HB1.out.trans (hb2.mono HB1.out.size));have HQ:=b9W hq;clear hb2 hq)
 have hm:=Nat.mod_lt x hy0;have hsr:Sm [x % y]:=Sm.one (by rw[a0B];omega);have hblk:Blk (w2.alloc (.cells #[.int .i64 ((x % y:Nat):Int)] 3)) w2.heap.size 3 (I64 [x % y]).toArray:=Blk.new _ _ _
 go_wp2_with (clear TK3;go_at_call 269;refine(a2_ [x % y] _ 1 1 _ rfl hsr (Nat.le_refl _) (by unfold maxLen;omega) hblk.row).mono ?_;rintro e w' ⟨rfl,rfl⟩)
 go_ret2
 refine⟨v,.slice (some ⟨w2.heap.size,0,none⟩) (toL (val [x % y])).length 1,rfl,?_,?_,HB2.out.alloc HB2.out.size _⟩
 ·exact HQ.out.below ((Below.refl _ _).alloc (Nat.le_refl _) _)
 ·have e:val [x % y]=x % y:=by simp[val]
  have:=a2W hsr hblk.row (c:=1) (Nat.le_refl _) (by unfold maxLen;omega) e;rw[← e]at this ⊢;rw[e]at this ⊢;exact this
theorem b04(x y:Nat)(vx vy:Value)(w:World)(hx:a0u w vx x)(hy:a0u w vy y)(hlx:(toL x).length≤30000)(hge:y≤x)(hl2:2≤(toL y).length) :
  Calls prog 268 #[vx,vy] w fun e w'=>∃ vq vr,e=.returned (.tuple #[vq,vr])∧a0u w' vq (x / y)∧a0u w' vr (x % y)∧Below w.heap.size w w':=by
 have HX:=b9W hx;have HY:=b9W hy;have hy0:0 < y:=by
  rcases Nat.eq_zero_or_pos y with h0|h0
  ·subst h0;rw[a0E]at hl2;simp at hl2
  ·exact h0
 have hly:(toL y).length≤(toL x).length:=a0Z hge;obtain⟨s,hs⟩:∃ s,s=B / ((toL y)[(toL y).length - 1]?.getD 0+1):=⟨_,rfl⟩;obtain⟨s0,s1,s2⟩:=a9P hy0 hs;obtain⟨A,c,rfl,hc,hcm,_⟩:=hx;obtain⟨A',c',rfl,hc',hcm',hrow⟩:=hy;obtain⟨b,o,rfl,hb,hcell⟩:=hrow (by rw[a0M];omega);have hc0:=hcell ((toL y).length - 1) _ (a1V (by omega));have htop:=(a1c y).get ((toL y).length - 1);have hneg:¬ sgn x y < 0:=by
  rcases Nat.lt_or_ge y x with h|h
  ·rw[a5N h];omega
  ·rw[Nat.le_antisymm h hge,a5A];omega
 have hne1:(((toL y).length:Int)==1)=false:=by rw[beq_eq_false_iff_ne];omega
 have HGE:=b9W hge;obtain⟨i0,hi,hz0,hz1,hz2⟩:=info_parts Tryz.infoI;have hyB:B ^ ((toL y).length - 1)≤y:=b1G (by omega);have HYB:=b9W hyB;have HS2:=b9W s2;have HXL:=b9W (a6E x);clear hcell hrow hge s2 hyB;generalize (toL y)[(toL y).length - 1]?.getD 0=top at *;have e1:(1000000000:Int) / ((top:Int)+1)=(s:Int):=by rw[hs,a0B,Int.natCast_ediv];rfl
 rw[a0B]at s1 htop;clear hs;have hmk:=fun W=>a3d (P:=prog) underlying168 hi hz0 hz1 hz2 (n:=(toL x).length+1 - (toL y).length) (by omega) (C:=((toL x).length:Int)+1 - ((toL y).length:Int)) (by omega) W
 go_enter func268,ntmps268
 have TK1:True:=trivial;have TK2:True:=trivial;have TK3:True:=trivial;have TK4:True:=trivial
 go_wp2_with (clear TK1;go_at_call 232;refine(a12 x y _ _ _ HX.out HY.out (by omega) (by omega)).mono ?_;rintro e w1 ⟨rfl,hb1⟩;have HB1:=b9W hb1;have hc1:=(hb1.cell (p:=⟨b,o+((toL y).length - 1),none⟩) hb).trans hc0;have hbs:b < w1.heap.size:=Nat.lt_of_lt_of_le hb hb1.size;clear hb1)
 go_wp2_with (clear TK2;go_at_call 299;refine(a8B x s _ _ (HX.out.below HB1.out) (by omega) s1).mono ?_;rintro e w2 ⟨O1,rfl,hs1,hl1,hv1,hbk1,hb2⟩;have HB2:=b9W hb2;have HK1:=b9W hbk1;have H1:=b9W (And.intro hs1 (And.intro hl1 hv1));have hsz2:=hb2.size;have hg1:=hbk1.lt;clear hb2 hbk1 hs1 hl1 hv1)
 go_wp2_with (clear TK3;go_at_call 299;refine(a8B y s _ _ ((HY.out.below HB1.out).below HB2.out) (by omega) s1).mono ?_;rintro e w3 ⟨O2,rfl,hs1,hl1,hv1,hbk1,hb2⟩;have HB3:=b9W hb2;have HK2:=b9W hbk1;have H2:=b9W (And.intro hs1 (And.intro hl1 hv1));have hsz3:=hb2.size;have hg2:=hbk1.lt;clear hb2 hbk1 hs1 hl1 hv1)
 go_wp2_with (clear TK4;go_at_call 269;refine(a2_ O2 _ _ _ _ H2.out.2.1.symm H2.out.1 (Nat.le_of_eq H2.out.2.1) (by unfold maxLen;omega) HK2.out.row).mono ?_;rintro e w' ⟨rfl,hw'⟩;subst hw';rw[H2.out.2.2,HS2.out])
 have q1:Blk (w'.alloc (.cells (madeCells #[.int .i64 0] ((toL x).length+1 - (toL y).length)) 3)) w1.heap.size 3 (I64 O1).toArray:=(HK1.out.below HB3.out hg1).alloc _;have q2:Blk (w'.alloc (.cells (madeCells #[.int .i64 0] ((toL x).length+1 - (toL y).length)) 3)) w2.heap.size 3 (I64 O2).toArray:=HK2.out.alloc _;have q3:Blk (w'.alloc (.cells (madeCells #[.int .i64 0] ((toL x).length+1 - (toL y).length)) 3)) w'.heap.size 3 (I64 (List.replicate ((toL x).length+1 - (toL y).length) 0)).toArray:=by rw[← a6e];exact Blk.new _ _ _
 have hwb:Below w.heap.size w w':=HB1.out.trans ((HB2.out.trans (HB3.out.mono hsz2)).mono HB1.out.size);have qB:Below w.heap.size w (w'.alloc (.cells (madeCells #[.int .i64 0] ((toL x).length+1 - (toL y).length)) 3)):=hwb.alloc hwb.size _;have hw1:w.heap.size≤w1.heap.size:=HB1.out.size;have hlenV:(toL (y*s)).length=(toL y).length:=HS2.out;have hlenO:O1.length=(toL x).length+1:=H1.out.2.1;have hys0:0 < y*s:=Nat.mul_pos hy0 s0;have htopV:=(a7k hys0).1;rw[hlenV]at htopV;have hVO:toL (y*s)=O2.take (toL y).length:=by
  have h:=a4g H2.out.1;rw[H2.out.2.2,hlenV]at h;exact h.symm
 have hstart:a13 O1 (toL (y*s)) (toL y).length ((toL x).length+1 - (toL y).length) O1 (List.replicate ((toL x).length+1 - (toL y).length) 0):=by
  refine a13.start H1.out.1 (by rw[hlenO];omega) ?_;rw[a0S];have h1:=a2i O1 ((toL x).length+1 - (toL y).length) (by rw[hlenO];omega);rw[H1.out.2.2]at h1
  rcases Nat.lt_or_ge (val (O1.drop ((toL x).length+1 - (toL y).length))) (y*s) with h2|h2
  ·exact h2
  ·exfalso
   have h3:B ^ ((toL x).length+1 - (toL y).length)*(y*s)≤x*s:=Nat.le_trans (Nat.mul_le_mul_left _ h2) (by omega);rw[← Nat.mul_assoc]at h3;have h4:=Nat.le_of_mul_le_mul_right h3 s0;have h5:B ^ ((toL x).length+1 - (toL y).length)*B ^ ((toL y).length - 1)≤B ^ ((toL x).length+1 - (toL y).length)*y:=Nat.mul_le_mul_left _ HYB.out;rw[← Nat.pow_add,show (toL x).length+1 - (toL y).length+((toL y).length - 1)=(toL x).length by omega]at h5;have:=HXL.out
   omega
 have H0:=b9W (And.intro hlenV (And.intro hlenO hVO));have HST:=b9W hstart;have HQ:=b9W (And.intro q1 (And.intro q2 q3));clear q1 q2 q3 hlenV hlenO hVO hstart hmk HK1 HK2 HB3 HB2 hc1 hbs hc0 hwb hneg HS2;generalize (w'.alloc (.cells (madeCells #[.int .i64 0] ((toL x).length+1 - (toL y).length)) 3))=W4 at *;generalize (toL y).length=n at *;generalize (toL x).length=la at *;generalize w1.heap.size=h1 at *;generalize w2.heap.size=h2 at *;generalize w'.heap.size=h3 at *
 go_loopw [13] (fun sj wr=>∃ (k:Nat) (U Q:List Nat),k≤la+1 - n∧sj=.int .i64 ((k:Int) - 1)∧a13 O1 (toL (y*s)) n k U Q∧Blk wr h1 3 (I64 U).toArray∧Blk wr h2 3 (I64 O2).toArray∧Blk wr h3 3 (I64 Q).toArray∧Below w.heap.size w wr) (fun sj _=>(intOf sj+1).toNat)
 case atStart=>exact⟨la+1 - n,_,_,Nat.le_refl _,a09 (by omega),HST.out,HQ.out.1,HQ.out.2.1,HQ.out.2.2,qB⟩
 case round =>
  obtain⟨k,U,Q,hk,rfl,hL,b1,b2,b3,hB⟩:=hrel;have HL:=b9W hL;have HB:=b9W hB
  by_cases hk0:k=0
  ·subst hk0
   obtain⟨e1,e2⟩:=hL.done;have hrest:=hL.rest (a1c _) H0.out.1;rw[H1.out.2.2,a0S]at e1 e2;rw[a9C s0]at e1;rw[a9i]at e2;rw[e2]at hrest;have hlU:U.length=la+1:=by rw[hL.lu,H0.out.2.1]
   have hlQ:Q.length=la+1 - n:=by have:=hL.lq;rw[H0.out.2.1]at this;omega
   have hsU:=hL.su.take n;have hsQ:=hL.sq;have hrowU:Row wr (some ⟨h1,0,none⟩) (I64 (U.take n)):=by rw[a7K];exact(b1.row).take n
   have hlUn:(U.take n).length=n:=by rw[List.length_take];omega
   have HE:=b9W (And.intro e1 (And.intro hrest (And.intro hlUn hlQ)));have HB3':=b9W b3;have HRU:=b9W hrowU;have hs3l:=b3.lt;have TK6:True:=trivial;have TK7:True:=trivial;have TK8:True:=trivial;clear e1 e2 hrest hlUn hlQ hlU hL b1 b2 b3 hB hrowU
   go_wp2_with (clear TK6;go_at_call 269;refine(a2_ (U.take n) _ n (la+1) _ HE.out.2.2.1.symm hsU (by rw[HE.out.2.2.1];omega) (by unfold maxLen;omega) HRU.out).mono ?_;rintro e w9 ⟨rfl,hw9⟩;subst hw9;rw[HE.out.2.1])
   go_wp2_with (clear TK7;go_at_call 298;refine(a9y (x % y*s) s _ _ (a2W hsU HRU.out (by rw[HE.out.2.2.1];omega) (by unfold maxLen;omega) HE.out.2.1) (by rw[← HE.out.2.1];have:=a2e hsU;rw[HE.out.2.2.1]at this;omega) s0 s1).mono ?_;rintro e w6 ⟨vr,rfl,hr,hb6⟩;have HR:=b9W hr;have HB6:=b9W (HB.out.trans (hb6.mono HB.out.size));have R6:=b9W (HB3'.out.below hb6 hs3l);clear hr hb6)
   go_wp2_with (clear TK8;go_at_call 269;refine(a2_ Q _ _ _ _ HE.out.2.2.2.symm hsQ (Nat.le_of_eq HE.out.2.2.2) (by unfold maxLen;omega) R6.out.row).mono ?_;rintro e w9 ⟨rfl,hw9⟩;subst hw9)
   go_ret2
   refine⟨.slice (some ⟨h3,0,none⟩) (toL (val Q)).length (la+1 - n),vr,rfl,?_,?_,HB6.out⟩
   ·have hfin:=a2W hsQ R6.out.row (c:=la+1 - n) (Nat.le_of_eq HE.out.2.2.2) (by unfold maxLen;omega) HE.out.1
    rw[← HE.out.1]at hfin ⊢;exact hfin
   ·have h2:=HR.out
    rw[Nat.mul_div_cancel _ s0]at h2;exact h2
  ·obtain⟨i,rfl⟩:∃ i,k=i+1:=⟨k - 1,by omega⟩
   have hlU:U.length=la+1:=by rw[hL.lu,H0.out.2.1]
   have hlQ:Q.length=la+1 - n:=by have:=hL.lq;rw[H0.out.2.1]at this;omega
   obtain⟨hD2,hwin,_⟩:=hL.window hl2 (a1c _) H0.out.1 htopV (by rw[hlQ];exact hk);have hsplit:I64 U=I64 (U.take i)++(I64 ((U.drop i).take (n+1))++I64 (U.drop (i+(n+1)))):=by
    simp only[I64,← List.map_append]
    congr 1
    rw[show U.drop (i+(n+1))=(U.drop i).drop (n+1) by rw[List.drop_drop],List.take_append_drop,List.take_append_drop]
   have HEST:=b9W (fun (W:World) (c2 cv:Nat) (hW:Blk W h1 3 (I64 U).toArray) (hV:Blk W h2 3 (I64 O2).toArray) =>
    b6f (I64 (U.take i)) (I64 (U.drop (i+(n+1)))) ((U.drop i).take (n+1)) (toL (y*s)) n h1 i c2 cv (some ⟨h2,0,none⟩) W hD2 (by rw[a0M,List.length_take];omega) (by omega) (by rw[← hsplit];exact hW)
     (by rw[H0.out.2.2,a7K];exact(hV.row).take n) (fun a e=>by cases e;dsimp only;omega))
   have HLQ:=b9W hlQ;have HLU:=b9W hlU;have hi2:(i:Int)+(n:Int)+1≤(la:Int)+1:=by omega
   have hi3:((i+1:Nat):Int) - 1=(i:Int):=by omega
   have HB1':=b9W (And.intro b1 b2);have HB3':=b9W b3;rw[hi3];have TK5:True:=trivial;clear hD2 hwin hsplit hL hlU hlQ b1 b2 b3 hB hk0 hi3;have hh13:h1≠h3:=by omega
   have hh23:h2≠h3:=by omega
   go_wp2_with (clear TK5;go_at_call 300;rw[show i+n+1 - i=n+1 by omega];refine(HEST.out wr _ _ HB1'.out.1 HB1'.out.2).mono ?_;rintro e w5 ⟨Wd,rfl,hsw,hlw,hvw,hbk,hon⟩;have r3:Blk w5 h3 3 (I64 Q).toArray:=(hon.2.2 h3 (by omega)).trans HB3'.out;have r3c:=r3.getI (i:=i) (by rw[HLQ.out];omega);have r3f:=r3.frozen i;have R3:=b9W r3;have HW:=b9W (And.intro hsw (And.intro hlw hvw));have HBK:=b9W hbk;have HON:=b9W hon;clear hsw hlw hvw hbk hon r3)
   obtain⟨qv,hqv⟩:∃ qv,qv=val ((U.drop i).take (n+1)) / val (toL (y*s)):=⟨_,rfl⟩;have hstep:=HL.out.step hl2 (a1c _) H0.out.1 htopV (by rw[HLQ.out];exact hk) HW.out.1 HW.out.2.1 hqv HW.out.2.2
   go_roundw
   case rel =>
    refine⟨i,_,_,by omega,rfl,hstep,?_,?_,?_,?_⟩
    ·rw[show I64 (U.take i++(Wd++U.drop (i+(n+1))))=I64 (U.take i)++(I64 Wd++I64 (U.drop (i+(n+1)))) by simp[I64]]
     exact HBK.out.far (by intro e;dsimp only at e;omega) _
    ·exact Blk.far ((HON.out.2.2 h2 (by omega)).trans HB1'.out.2) (by intro e;dsimp only at e;omega) _
    ·have h4:=R3.out.setI i qv
     rw[hqv,Int.natCast_ediv]at h4;rw[hqv];exact h4
    ·exact(HB.out.trans (HON.out.1.mono (by omega))).setCell (p:=⟨h3,i,none⟩) (by dsimp only;omega) _
   case measure=>simp[intOf]
theorem a5Q(x y:Nat)(vx vy:Value)(w:World)(hx:a0u w vx x)(hy:a0u w vy y)(hlx:(toL x).length≤30000)(hly:(toL y).length≤30000)(hy0:0 < y) :
  Calls prog 268 #[vx,vy] w fun e w'=>∃ vq vr,e=.returned (.tuple #[vq,vr])∧a0u w' vq (x / y)∧a0u w' vr (x % y)∧Below w.heap.size w w':=by
 by_cases hlt:x < y
 ·exact b0N x y vx vy w hx hy (by omega) (by omega) hlt
 ·by_cases hl:(toL y).length=1
  ·exact b1U x y vx vy w hx hy (by omega) (by omega) hl
  ·have:=a1j.2 (show y≠0 by omega)
   exact b04 x y vx vy w hx hy hlx (by omega) (by omega)
theorem a4F(x y:Nat)(vx vy:Value)(w:World)(hx:a0u w vx x)(hy:a0u w vy y)(hlx:(toL x).length≤30000)(hly:(toL y).length≤30000) :
  Calls prog 236 #[vx,vy] w fun e w'=>∃ v,e=.returned v∧a0u w' v (x.gcd y)∧Below w.heap.size w w':=by
 have HX:=b9W hx;have HY:=b9W hy;obtain⟨A,c,rfl,hc,hcm,_⟩:=hx;obtain⟨A',c',rfl,hc',hcm',_⟩:=hy
 go_enter func236,ntmps236
 go_wp2
 go_loopg [0,1] y (fun k s0 s1 wr=>∃ a b:Nat,a0u wr s0 a∧a0u wr s1 b∧a.gcd b=x.gcd y∧(toL a).length≤30000∧(toL b).length≤30000∧b≤k∧Below w.heap.size w wr)
 case atStart=>exact⟨x,y,HX.out,HY.out,rfl,hlx,hly,Nat.le_refl _,Below.refl _ _⟩
 case round =>
  obtain⟨a,b,ha,hb,hg,hla,hlb,hbk,hB⟩:=hrel;have HA:=b9W ha;have HB:=b9W hb;have HG:=b9W hg;have HBW:=b9W hB;obtain⟨A1,c1,rfl,hc1,hcm1,_⟩:=ha;obtain⟨A2,c2,rfl,hc2,hcm2,_⟩:=hb;clear hg hB
  by_cases hb0:b=0
  ·subst hb0
   have hl0:(toL 0).length=0:=by rw[a0E];rfl
   rw[hl0];clear hl0;go_wp2
   go_ret
   refine⟨_,rfl,?_,HBW.out⟩;have:=HG.out;rw[Nat.gcd_zero_right]at this;rw[← this];exact HA.out
  ·have hpos:0 < b:=by omega
   have hlp:(0:Int) < ((toL b).length:Int):=by have:=a1j.2 hb0;omega
   have TK1:True:=trivial;clear hb0
   go_wp2_with (clear TK1;go_at_call 268;refine(a5Q a b _ _ _ HA.out HB.out hla hlb hpos).mono ?_;rintro e w1 ⟨vq,vr,rfl,hq,hr,hb1⟩;have HR:=b9W hr;have HB1:=b9W hb1;clear hq hr hb1)
   have hm:=Nat.mod_lt a hpos
   go_roundg (a % b)
   case rel=>exact⟨b,a % b,HB.out.below HB1.out,HR.out,(b24 a b).trans HG.out,hlb,Nat.le_trans (a0Z (Nat.le_of_lt hm)) hlb,Nat.le_refl _,HBW.out.trans (HB1.out.mono HBW.out.size)⟩
   case measure=>omega
def a08(w:World)(v:Value)(m:Bool)(n d:Nat):Prop:=∃ An cn Ad cd,v=.agg #[.bool m,.slice An (toL n).length cn,.slice Ad (toL d).length cd]∧a0u w (.slice An (toL n).length cn) n∧a0u w (.slice Ad (toL d).length cd) d
def IsQ(w:World)(v:Value)(q:Rat):Prop:=a08 w v (ng q) (nm q) q.den
theorem a08.below{w w':World}{v:Value}{m:Bool}{n d:Nat}(h:a08 w v m n d)(hb:Below w.heap.size w w'):a08 w' v m n d:=by
 obtain⟨An,cn,Ad,cd,e,h1,h2⟩:=h;exact⟨An,cn,Ad,cd,e,h1.below hb,h2.below hb⟩
theorem IsQ.below{w w':World}{v:Value}{q:Rat}(h:IsQ w v q)(hb:Below w.heap.size w w'):IsQ w' v q:=a08.below h hb
theorem a07{w:World}{m:Bool}{n d:Nat}{vn vd:Value}(h1:a0u w vn n)(h2:a0u w vd d):a08 w (.agg #[.bool m,vn,vd]) m n d:=by
 obtain⟨An,cn,rfl,a1,a2,a3⟩:=h1;obtain⟨Ad,cd,rfl,b1,b2,b3⟩:=h2;exact⟨An,cn,Ad,cd,rfl,⟨An,cn,rfl,a1,a2,a3⟩,⟨Ad,cd,rfl,b1,b2,b3⟩⟩
theorem a0w{w:World}{v:Value}{q:Rat}(h:IsQ w v q):∃ (b:Bool) (N D:Nat) (A:Option Addr) (c:Nat) (A':Option Addr) (c':Nat),v=.agg #[.bool b,.slice A (toL N).length c,.slice A' (toL D).length c'] ∧
  a0u w (.slice A (toL N).length c) N∧a0u w (.slice A' (toL D).length c') D∧Hid (ng q=b∧nm q=N∧q.den=D):=by
 obtain⟨A,c,A',c',rfl,h1,h2⟩:=h;exact⟨_,_,_,A,c,A',c',rfl,h1,h2,b9W ⟨rfl,rfl,rfl⟩⟩
theorem a4l{w:World}{v:Value}{q:Rat}{b:Bool}{N D:Nat}(h:Hid (ng q=b∧nm q=N∧q.den=D))(hp:a08 w v b N D):IsQ w v q:=by
 obtain⟨h1,h2,h3⟩:=h.out;unfold IsQ;rw[h1,h2,h3];exact hp
theorem a0u.far{w:World}{v:Value}{n g:Nat}{t:TypeId}{a b c:Value}{i:Nat}{x:Value}(h:a0u w v n)(hb:Blk w g t #[a,b,c])(ha:∀ z:Int,a≠.int .i64 z)(hbb:∀ z:Int,b≠.int .i64 z)(hc:∀ z:Int,c≠.int .i64 z):a0u (w.setCell ⟨g,i,none⟩ x) v n:=by
 obtain⟨A,k,e,h1,h2,h3⟩:=h;refine⟨A,k,e,h1,h2,fun h0=>?_⟩;obtain⟨b',o,hA,hlt,hcc⟩:=h3 h0;have hz:=a1V (l:=toL n) (j:=0) (by rwa [a0M]at h0);have hc0:=hcc 0 _ hz;have hne:b'≠g:=by
  intro e;subst e;have:=Blk.cell hb (o+0);rw[hc0]at this
  rcases ho:o+0 with _|_|_|k
  ·rw[ho]at this;simp at this;exact ha _ this.symm
  ·rw[ho]at this;simp at this;exact hbb _ this.symm
  ·rw[ho]at this;simp at this;exact hc _ this.symm
  ·rw[ho]at this;simp at this
 have hh:=Below.heap_setCell w ⟨g,i,none⟩ x b' hne;exact⟨b',o,hA,by simpa[World.setCell]using hlt,fun j x hx=>a0n.cell (w:=w) (S:=fun k=>k=b') ⟨_,fun k hk=>by rw[hk];exact hh⟩ rfl (hcc j x hx)⟩
theorem a0I{w:World}{v:Value}{n g:Nat}{t:TypeId}{m' m:Bool}{A A' D D':Option Addr}{l c l' c' a b a' b':Nat}(h:a0u w v n)(hb:Blk w g t #[.bool m,.slice A l c,.slice A' l' c']) :
  a0u (((w.setCell ⟨g,0,none⟩ (.bool m')).setCell ⟨g,1,none⟩ (.slice D a b)).setCell ⟨g,2,none⟩ (.slice D' a' b')) v n :=
 ((h.far hb (fun _ h=>by cases h) (fun _ h=>by cases h) (fun _ h=>by cases h)).far (hb.set_ 0 (.bool m')) (fun _ h=>by cases h) (fun _ h=>by cases h) (fun _ h=>by cases h)).far ((hb.set_ 0 (.bool m')).set_ 1 (.slice D a b)) (fun _ h=>by cases h) (fun _ h=>by cases h) (fun _ h=>by cases h)
theorem b8B:(prog.info? 170).map (·.size)=some 3:=by kernel_rfl
theorem a8a{fn:Func}{p:Tmp}{R:Ending→World→Prop}{a:Act}{w:World}{g:Nat}{t:TypeId}{m vn vd:Value}(h:fn.results=#[.cell p 170])(hd:a.defers=[])(hp:a.tmps.getD p undef=.pointer (some ⟨g,0,none⟩))
  (hg:Blk w g t #[m,vn,vd]) (hR:R (.returned (.agg #[m,vn,vd])) w):bodyPost prog fn R .ret a w :=
 bodyPost_ret (results_cell_row h _ _ g t _ (0,0) _ hp hg underlying170 rfl b8B) hd hR
theorem a4Z{fn:Func}{p u:Tmp}{R:Ending→World→Prop}{a:Act}{w:World}{g:Nat}{t:TypeId}{m vn vd:Value}(h:fn.results=#[.cell p 170,.tmp u])(hd:a.defers=[])(hp:a.tmps.getD p undef=.pointer (some ⟨g,0,none⟩))
  (hg:Blk w g t #[m,vn,vd]) (hR:R (.returned (.tuple #[.agg #[m,vn,vd],a.tmps.getD u undef])) w):bodyPost prog fn R .ret a w:=by
 refine bodyPost_ret ?_ hd hR;rw[results_cell_tmp h,hp]
 simp only[asAddr,Sem.run_pure,Result.andThen_ok]
 rw[run_loadVar_row w g t 170 #[m,vn,vd] (0,0) _ hg underlying170 rfl b8B]
 rfl
abbrev zQ:Obj:=.cells #[.bool false,.slice none 0 0,.slice none 0 0] 170
theorem a1z(w:World):Blk (w.alloc zQ) w.heap.size 170 #[.bool false,.slice none 0 0,.slice none 0 0]:=Blk.new w _ _
theorem a8R{l:List UInt8}{k:Nat}(h:a2j l k):k=(cutQ l).1.length:=by
 rcases h with⟨h1,h2⟩|⟨h1,h2⟩
 ·rw[h2];simp;omega
 ·rw[h2];exact h1
theorem a1m(s:ByteArray)(a b:Nat):(s.extract a b).size≤s.size:=by rw[a0F,a1R,List.length_drop,List.length_take,a0F];omega
theorem a2r(s:ByteArray)(k:Nat)(w:World)(hlen:s.size≤9223372036854775807)(hk:a2j s.data.toList k) :
  Calls prog 234 #[.string s] w fun e w'=>e=.returned (.int .i64 (k:Int))∧w'=w:=by
 refine(b5c s w hlen).mono ?_;rintro e w' ⟨k',rfl,hk',rfl⟩;rw[a8R hk,a8R hk'];exact⟨rfl,rfl⟩
theorem a6L(w:World):Calls prog 227 #[] w fun e w'=>∃ v,e=.returned v∧a0u w' v 1∧Below w.heap.size w w':=by
 go_enter func227,ntmps227
 go_wp2
 go_ret
 have e1:toL 1=[1]:=by rw[a19 (by omega)];simp[a0B,a0E]
 refine⟨_,rfl,⟨some ⟨w.heap.size,0,none⟩,1,by rw[e1];rfl,by rw[e1];decide,by decide,?_⟩,a0d (Below.refl _ _) _⟩;rw[e1];exact(Blk.new w 3 #[.int .i64 1]).row (xs:=[.int .i64 1])
theorem a5k{g:Nat}:(sgn g 1==0)=decide (g=1):=by
 unfold sgn
 by_cases h:g=1
 ·subst h;rfl
 ·rw[decide_eq_false h]
  split
  ·rfl
  ·split
   ·rfl
   ·omega
theorem b0f(s n2:ByteArray)(k:Nat)(m ok:Bool)(w:World)(hs:s.size≤9223372036854775807)(_hn:n2.size≤9223372036854775807)(hk:a2j s.data.toList k)(hks:k≤s.size)
  (hi:intP (s.extract 0 k).data.toList=(m,n2.data.toList)) (hok:a1k (s.extract 0 k).data.toList=ok) (hsl:k=s.size) (h0:ok=false) :
  Calls prog 155 #[.string s] w fun e w'=>∃ v,v=zV∧e=.returned (.tuple #[v,.int .i64 3])∧Below w.heap.size w w':=by
 have HSA:=b9W (show (s.extract 0 k).size≤9223372036854775807 from Nat.le_trans (a1m _ _ _) (by omega));have HSB:=b9W (show (s.extract (k+1) s.size).size≤9223372036854775807 from Nat.le_trans (a1m _ _ _) (by omega));have HSB2:=b9W (show (s.extract (k+1) s.size).size≤9223372036854775807 from Nat.le_trans (a1m _ _ _) (by omega));have HK:=b9W hk;have HI:=b9W (And.intro hi hok);have HB0:=b9W ((Below.refl w.heap.size w).alloc (Nat.le_refl _) zQ);have HP0:=b9W (a1z w);have TK1:True:=trivial;clear hk hi hok;have hkl:¬ (k:Int) < (s.size:Int):=by omega
 clear hsl;subst h0
 ·go_enter func155,ntmps155
  go_wp2_with (first
   | (go_at_call 234;refine(a2r s k _ (by omega) HK.out).mono ?_;rintro e w1 ⟨rfl,hw1⟩;subst hw1)
   | (go_at_call 220;refine(a0X (s.extract 0 k) _ HSA.out).mono ?_;rintro e w2 ⟨rfl,hw2⟩;subst hw2;rw[HI.out.1,HI.out.2];dsimp only;rw[a0G]))
  refine a4Z rfl rfl (by simp) (a1z w) ⟨_,rfl,rfl,HB0.out⟩
theorem a88(s n2:ByteArray)(k:Nat)(m ok:Bool)(w:World)(hs:s.size≤9223372036854775807)(hn:n2.size≤9223372036854775807)(hk:a2j s.data.toList k)(hks:k≤s.size)
  (hi:intP (s.extract 0 k).data.toList=(m,n2.data.toList)) (hok:a1k (s.extract 0 k).data.toList=ok) (hsl:k=s.size) (h0:ok=true) (hl:4000 < n2.size) :
  Calls prog 155 #[.string s] w fun e w'=>∃ v,v=zV∧e=.returned (.tuple #[v,.int .i64 5])∧Below w.heap.size w w':=by
 have HSA:=b9W (show (s.extract 0 k).size≤9223372036854775807 from Nat.le_trans (a1m _ _ _) (by omega));have HSB:=b9W (show (s.extract (k+1) s.size).size≤9223372036854775807 from Nat.le_trans (a1m _ _ _) (by omega));have HSB2:=b9W (show (s.extract (k+1) s.size).size≤9223372036854775807 from Nat.le_trans (a1m _ _ _) (by omega));have HK:=b9W hk;have HI:=b9W (And.intro hi hok);have HB0:=b9W ((Below.refl w.heap.size w).alloc (Nat.le_refl _) zQ);have HP0:=b9W (a1z w);have TK1:True:=trivial;clear hk hi hok;have hkl:¬ (k:Int) < (s.size:Int):=by omega
 clear hsl;have hl1:decide ((4000:Int) < (n2.size:Int))=true:=decide_eq_true (by omega);clear hl;subst h0
 ·go_enter func155,ntmps155
  go_wp2_with (first
   | (go_at_call 234;refine(a2r s k _ (by omega) HK.out).mono ?_;rintro e w1 ⟨rfl,hw1⟩;subst hw1)
   | (go_at_call 220;refine(a0X (s.extract 0 k) _ HSA.out).mono ?_;rintro e w2 ⟨rfl,hw2⟩;subst hw2;rw[HI.out.1,HI.out.2];dsimp only;rw[a0G]))
  refine a4Z rfl rfl (by simp) (a1z w) ⟨_,rfl,rfl,HB0.out⟩
theorem b0J(s n2:ByteArray)(k:Nat)(m ok:Bool)(w:World)(hs:s.size≤270000)(hn:n2.size≤270000)(hk:a2j s.data.toList k)(hks:k≤s.size)
  (hi:intP (s.extract 0 k).data.toList=(m,n2.data.toList)) (hok:a1k (s.extract 0 k).data.toList=ok) (hsl:k=s.size) (h0:ok=true) (hl:n2.size≤4000) (hd:Dg n2.data.toList) (ll:(toL (dv n2.data.toList)).length≤30000∧(toL (dv [49])).length≤30000) (lg:(toL ((dv n2.data.toList).gcd (dv [49]))).length≤100000) (hg:(dv n2.data.toList).gcd (dv [49])=1) :
  Calls prog 155 #[.string s] w fun e w'=>∃ v,e=.returned (.tuple #[v,.int .i64 0])∧a08 w' v m (dv n2.data.toList) (dv [49])∧Below w.heap.size w w':=by
 have HSA:=b9W (show (s.extract 0 k).size≤9223372036854775807 from Nat.le_trans (a1m _ _ _) (by omega));have HSB:=b9W (show (s.extract (k+1) s.size).size≤9223372036854775807 from Nat.le_trans (a1m _ _ _) (by omega));have HSB2:=b9W (show (s.extract (k+1) s.size).size≤270000 from Nat.le_trans (a1m _ _ _) (by omega));have HK:=b9W hk;have HI:=b9W (And.intro hi hok);have HB0:=b9W ((Below.refl w.heap.size w).alloc (Nat.le_refl _) zQ);have HP0:=b9W (a1z w);have TK1:True:=trivial;clear hk hi hok;have hkl:¬ (k:Int) < (s.size:Int):=by omega
 clear hsl;have hl1:decide ((4000:Int) < (n2.size:Int))=false:=decide_eq_false (by omega);have HG:=b9W (And.intro hd (show Dg (⟨#[49]⟩:ByteArray).data.toList from fun x hx=>by simp at hx;subst hx;rfl));have HLL:=b9W ll;have HLG:=b9W lg;have hsg:(sgn ((dv n2.data.toList).gcd (dv [49])) 1==0)=true:=by rw[a5k,decide_eq_true hg]
 have HL1:=b9W (show (toL 1).length≤100000 by rw[show toL 1=[1] by rw[a19 (by omega)];simp[a0B,a0E]];decide);clear hl hd ll lg hg;subst h0
 ·go_enter func155,ntmps155
  go_wp2_with (first
   | (go_at_call 234;refine(a2r s k _ (by omega) HK.out).mono ?_;rintro e w1 ⟨rfl,hw1⟩;subst hw1)
   | (go_at_call 220;refine(a0X (s.extract 0 k) _ HSA.out).mono ?_;rintro e w2 ⟨rfl,hw2⟩;subst hw2;rw[HI.out.1,HI.out.2];dsimp only;rw[a0G])
   | (clear TK1;go_at_call 223;refine(a2N n2 _ HG.out.1 (by omega)).mono ?_;rintro e w4 ⟨v4,rfl,hv4,hb4⟩;obtain⟨A4,c4,rfl,_,_,_⟩:=id hv4;have HV4:=b9W hv4;have HB4:=b9W (HB0.out.trans (hb4.mono HB0.out.size));have HP4:=b9W (HP0.out.below hb4 HP0.out.lt);clear hv4 hb4)
   | (go_at_call 223;refine(a2N (⟨#[49]⟩:ByteArray) _ HG.out.2 (by first|omega|decide|exact HSB2.out)).mono ?_;rintro e w5 ⟨v5,rfl,hv5,hb5⟩;obtain⟨A5,c5,rfl,_,_,_⟩:=id hv5;have HV5:=b9W hv5;have HV4':=b9W (HV4.out.below hb5);have HB5:=b9W (HB4.out.trans (hb5.mono HB4.out.size));have HP5:=b9W (HP4.out.below hb5 HP4.out.lt);clear hv5 hb5)
   | (go_at_call 236;have HX5:=b9W ((Below.refl w5.heap.size w5).alloc (Nat.le_refl _) (.cells #[.bool m,.slice A4 (toL (dv n2.data.toList)).length c4,.slice A5 (toL (dv [49])).length c5] 170));refine(a4F (dv n2.data.toList) (dv [49]) _ _ _ (HV4'.out.below HX5.out) (HV5.out.below HX5.out) HLL.out.1 HLL.out.2).mono ?_;rintro e w6 ⟨v6,rfl,hv6,hb6⟩;have HV6:=b9W hv6;have HX6:=b9W (HX5.out.trans (hb6.mono HX5.out.size));have HT6:=b9W ((Blk.new w5 _ _).below hb6 (by simp));clear hv6 hb6)
   | (go_at_call 227;refine(a6L _).mono ?_;rintro e w7 ⟨v7,rfl,hv7,hb7⟩;have HV7:=b9W hv7;have HV6':=b9W (HV6.out.below hb7);have HX7:=b9W (HX6.out.trans (hb7.mono HX6.out.size));have HT7:=b9W (HT6.out.below hb7 HT6.out.lt);clear hv7 hb7)
   | (go_at_call 232;refine(a12 _ 1 _ _ _ HV6'.out HV7.out HLG.out HL1.out).mono ?_;rintro e w8 ⟨rfl,hb8⟩;have HX8:=b9W (HX7.out.trans (hb8.mono HX7.out.size));have HP8:=b9W (HP5.out.below HX8.out HP5.out.lt);obtain⟨h60,h61,h62,h63,h64,h65⟩:=a1G HP8.out;obtain⟨t60,t61,t62⟩:=a0K HT7.out hb8 HT7.out.lt;clear hb8))
  refine a4Z rfl rfl (by simp) (set3 HP8.out) ⟨_,rfl,?_,?_⟩
  ·exact a07 (a0I (HV4'.out.below HX8.out) HP8.out) (a0I (HV5.out.below HX8.out) HP8.out)
  ·exact a0t (g:=w.heap.size) (HB5.out.trans (HX8.out.mono HB5.out.size)) (Nat.le_refl _)
theorem b5o(s n2:ByteArray)(k:Nat)(m ok:Bool)(w:World)(hs:s.size≤9223372036854775807)(_hn:n2.size≤9223372036854775807)(hk:a2j s.data.toList k)(hks:k≤s.size)
  (hi:intP (s.extract 0 k).data.toList=(m,n2.data.toList)) (hok:a1k (s.extract 0 k).data.toList=ok) (hsl:k < s.size) (h0:ok=false) :
  Calls prog 155 #[.string s] w fun e w'=>∃ v,v=zV∧e=.returned (.tuple #[v,.int .i64 3])∧Below w.heap.size w w':=by
 have HSA:=b9W (show (s.extract 0 k).size≤9223372036854775807 from Nat.le_trans (a1m _ _ _) (by omega));have HSB:=b9W (show (s.extract (k+1) s.size).size≤9223372036854775807 from Nat.le_trans (a1m _ _ _) (by omega));have HSB2:=b9W (show (s.extract (k+1) s.size).size≤9223372036854775807 from Nat.le_trans (a1m _ _ _) (by omega));have HK:=b9W hk;have HI:=b9W (And.intro hi hok);have HB0:=b9W ((Below.refl w.heap.size w).alloc (Nat.le_refl _) zQ);have HP0:=b9W (a1z w);have TK1:True:=trivial;clear hk hi hok;have hkl:(k:Int) < (s.size:Int):=by omega
 have hkl1:(k:Int)+1≤(s.size:Int):=by omega
 subst h0
 ·go_enter func155,ntmps155
  go_wp2_with (first
   | (go_at_call 234;refine(a2r s k _ (by omega) HK.out).mono ?_;rintro e w1 ⟨rfl,hw1⟩;subst hw1)
   | (go_at_call 220;refine(a0X (s.extract 0 k) _ HSA.out).mono ?_;rintro e w2 ⟨rfl,hw2⟩;subst hw2;rw[HI.out.1,HI.out.2];dsimp only;rw[a0G]))
  refine a4Z rfl rfl (by simp) (a1z w) ⟨_,rfl,rfl,HB0.out⟩
theorem b51(s n2:ByteArray)(k:Nat)(m ok:Bool)(w:World)(hs:s.size≤9223372036854775807)(_hn:n2.size≤9223372036854775807)(hk:a2j s.data.toList k)(hks:k≤s.size)
  (hi:intP (s.extract 0 k).data.toList=(m,n2.data.toList)) (hok:a1k (s.extract 0 k).data.toList=ok) (hsl:k < s.size) (h0:ok=true) (z0:(n2.toList==[48])=true) :
  Calls prog 155 #[.string s] w fun e w'=>∃ v,v=zV∧e=.returned (.tuple #[v,.int .i64 3])∧Below w.heap.size w w':=by
 have HSA:=b9W (show (s.extract 0 k).size≤9223372036854775807 from Nat.le_trans (a1m _ _ _) (by omega));have HSB:=b9W (show (s.extract (k+1) s.size).size≤9223372036854775807 from Nat.le_trans (a1m _ _ _) (by omega));have HSB2:=b9W (show (s.extract (k+1) s.size).size≤9223372036854775807 from Nat.le_trans (a1m _ _ _) (by omega));have HK:=b9W hk;have HI:=b9W (And.intro hi hok);have HB0:=b9W ((Below.refl w.heap.size w).alloc (Nat.le_refl _) zQ);have HP0:=b9W (a1z w);have TK1:True:=trivial;clear hk hi hok;have hkl:(k:Int) < (s.size:Int):=by omega
 have hkl1:(k:Int)+1≤(s.size:Int):=by omega
 subst h0
 ·go_enter func155,ntmps155
  go_wp2_with (first
   | (go_at_call 234;refine(a2r s k _ (by omega) HK.out).mono ?_;rintro e w1 ⟨rfl,hw1⟩;subst hw1)
   | (go_at_call 220;refine(a0X (s.extract 0 k) _ HSA.out).mono ?_;rintro e w2 ⟨rfl,hw2⟩;subst hw2;rw[HI.out.1,HI.out.2];dsimp only;rw[a0G]))
  refine a4Z rfl rfl (by simp) (a1z w) ⟨_,rfl,rfl,HB0.out⟩
theorem b6h(s n2:ByteArray)(k:Nat)(m ok:Bool)(w:World)(hs:s.size≤9223372036854775807)(_hn:n2.size≤9223372036854775807)(hk:a2j s.data.toList k)(hks:k≤s.size)
  (hi:intP (s.extract 0 k).data.toList=(m,n2.data.toList)) (hok:a1k (s.extract 0 k).data.toList=ok) (hsl:k < s.size) (h0:ok=true) (z0:(n2.toList==[48])=false) (hF:a1b (s.extract (k+1) s.size).data.toList=false) :
  Calls prog 155 #[.string s] w fun e w'=>∃ v,v=zV∧e=.returned (.tuple #[v,.int .i64 3])∧Below w.heap.size w w':=by
 have HSA:=b9W (show (s.extract 0 k).size≤9223372036854775807 from Nat.le_trans (a1m _ _ _) (by omega));have HSB:=b9W (show (s.extract (k+1) s.size).size≤9223372036854775807 from Nat.le_trans (a1m _ _ _) (by omega));have HSB2:=b9W (show (s.extract (k+1) s.size).size≤9223372036854775807 from Nat.le_trans (a1m _ _ _) (by omega));have HK:=b9W hk;have HI:=b9W (And.intro hi hok);have HB0:=b9W ((Below.refl w.heap.size w).alloc (Nat.le_refl _) zQ);have HP0:=b9W (a1z w);have TK1:True:=trivial;clear hk hi hok;have hkl:(k:Int) < (s.size:Int):=by omega
 have hkl1:(k:Int)+1≤(s.size:Int):=by omega
 have HF:=b9W hF;clear hF;subst h0
 ·go_enter func155,ntmps155
  go_wp2_with (first
   | (go_at_call 234;refine(a2r s k _ (by omega) HK.out).mono ?_;rintro e w1 ⟨rfl,hw1⟩;subst hw1)
   | (go_at_call 220;refine(a0X (s.extract 0 k) _ HSA.out).mono ?_;rintro e w2 ⟨rfl,hw2⟩;subst hw2;rw[HI.out.1,HI.out.2];dsimp only;rw[a0G])
   | (go_at_call 235;refine(a1L (s.extract (k+1) s.size) _ HSB.out).mono ?_;rintro e w3 ⟨rfl,hw3⟩;subst hw3;rw[HF.out];generalize hBB:(s.extract (k+1) s.size) =b at *;have HBB:=b9W hBB;clear hBB))
  refine a4Z rfl rfl (by simp) (a1z w) ⟨_,rfl,rfl,HB0.out⟩
theorem b43(s n2:ByteArray)(k:Nat)(m ok:Bool)(w:World)(hs:s.size≤9223372036854775807)(_hn:n2.size≤9223372036854775807)(hk:a2j s.data.toList k)(hks:k≤s.size)
  (hi:intP (s.extract 0 k).data.toList=(m,n2.data.toList)) (hok:a1k (s.extract 0 k).data.toList=ok) (hsl:k < s.size) (h0:ok=true) (z0:(n2.toList==[48])=false) (hF:a1b (s.extract (k+1) s.size).data.toList=true) (z1:((s.extract (k+1) s.size).toList==[48])=true) :
  Calls prog 155 #[.string s] w fun e w'=>∃ v,v=zV∧e=.returned (.tuple #[v,.int .i64 3])∧Below w.heap.size w w':=by
 have HSA:=b9W (show (s.extract 0 k).size≤9223372036854775807 from Nat.le_trans (a1m _ _ _) (by omega));have HSB:=b9W (show (s.extract (k+1) s.size).size≤9223372036854775807 from Nat.le_trans (a1m _ _ _) (by omega));have HSB2:=b9W (show (s.extract (k+1) s.size).size≤9223372036854775807 from Nat.le_trans (a1m _ _ _) (by omega));have HK:=b9W hk;have HI:=b9W (And.intro hi hok);have HB0:=b9W ((Below.refl w.heap.size w).alloc (Nat.le_refl _) zQ);have HP0:=b9W (a1z w);have TK1:True:=trivial;clear hk hi hok;have hkl:(k:Int) < (s.size:Int):=by omega
 have hkl1:(k:Int)+1≤(s.size:Int):=by omega
 have HF:=b9W hF;clear hF;subst h0
 ·go_enter func155,ntmps155
  go_wp2_with (first
   | (go_at_call 234;refine(a2r s k _ (by omega) HK.out).mono ?_;rintro e w1 ⟨rfl,hw1⟩;subst hw1)
   | (go_at_call 220;refine(a0X (s.extract 0 k) _ HSA.out).mono ?_;rintro e w2 ⟨rfl,hw2⟩;subst hw2;rw[HI.out.1,HI.out.2];dsimp only;rw[a0G])
   | (go_at_call 235;refine(a1L (s.extract (k+1) s.size) _ HSB.out).mono ?_;rintro e w3 ⟨rfl,hw3⟩;subst hw3;rw[HF.out];generalize hBB:(s.extract (k+1) s.size) =b at *;have HBB:=b9W hBB;clear hBB))
  refine a4Z rfl rfl (by simp) (a1z w) ⟨_,rfl,rfl,HB0.out⟩
theorem b6F(s n2:ByteArray)(k:Nat)(m ok:Bool)(w:World)(hs:s.size≤9223372036854775807)(_hn:n2.size≤9223372036854775807)(hk:a2j s.data.toList k)(hks:k≤s.size)
  (hi:intP (s.extract 0 k).data.toList=(m,n2.data.toList)) (hok:a1k (s.extract 0 k).data.toList=ok) (hsl:k < s.size) (h0:ok=true) (z0:(n2.toList==[48])=false) (hF:a1b (s.extract (k+1) s.size).data.toList=true) (z1:((s.extract (k+1) s.size).toList==[48])=false) (z2:((s.extract (k+1) s.size).toList==[49])=true) :
  Calls prog 155 #[.string s] w fun e w'=>∃ v,v=zV∧e=.returned (.tuple #[v,.int .i64 3])∧Below w.heap.size w w':=by
 have HSA:=b9W (show (s.extract 0 k).size≤9223372036854775807 from Nat.le_trans (a1m _ _ _) (by omega));have HSB:=b9W (show (s.extract (k+1) s.size).size≤9223372036854775807 from Nat.le_trans (a1m _ _ _) (by omega));have HSB2:=b9W (show (s.extract (k+1) s.size).size≤9223372036854775807 from Nat.le_trans (a1m _ _ _) (by omega));have HK:=b9W hk;have HI:=b9W (And.intro hi hok);have HB0:=b9W ((Below.refl w.heap.size w).alloc (Nat.le_refl _) zQ);have HP0:=b9W (a1z w);have TK1:True:=trivial;clear hk hi hok;have hkl:(k:Int) < (s.size:Int):=by omega
 have hkl1:(k:Int)+1≤(s.size:Int):=by omega
 have HF:=b9W hF;clear hF;subst h0
 ·go_enter func155,ntmps155
  go_wp2_with (first
   | (go_at_call 234;refine(a2r s k _ (by omega) HK.out).mono ?_;rintro e w1 ⟨rfl,hw1⟩;subst hw1)
   | (go_at_call 220;refine(a0X (s.extract 0 k) _ HSA.out).mono ?_;rintro e w2 ⟨rfl,hw2⟩;subst hw2;rw[HI.out.1,HI.out.2];dsimp only;rw[a0G])
   | (go_at_call 235;refine(a1L (s.extract (k+1) s.size) _ HSB.out).mono ?_;rintro e w3 ⟨rfl,hw3⟩;subst hw3;rw[HF.out];generalize hBB:(s.extract (k+1) s.size) =b at *;have HBB:=b9W hBB;clear hBB))
  refine a4Z rfl rfl (by simp) (a1z w) ⟨_,rfl,rfl,HB0.out⟩
theorem b4l(s n2:ByteArray)(k:Nat)(m ok:Bool)(w:World)(hs:s.size≤9223372036854775807)(hn:n2.size≤9223372036854775807)(hk:a2j s.data.toList k)(hks:k≤s.size)
  (hi:intP (s.extract 0 k).data.toList=(m,n2.data.toList)) (hok:a1k (s.extract 0 k).data.toList=ok) (hsl:k < s.size) (h0:ok=true) (z0:(n2.toList==[48])=false) (hF:a1b (s.extract (k+1) s.size).data.toList=true) (z1:((s.extract (k+1) s.size).toList==[48])=false) (z2:((s.extract (k+1) s.size).toList==[49])=false) (hl:4000 < n2.size) :
  Calls prog 155 #[.string s] w fun e w'=>∃ v,v=zV∧e=.returned (.tuple #[v,.int .i64 5])∧Below w.heap.size w w':=by
 have HSA:=b9W (show (s.extract 0 k).size≤9223372036854775807 from Nat.le_trans (a1m _ _ _) (by omega));have HSB:=b9W (show (s.extract (k+1) s.size).size≤9223372036854775807 from Nat.le_trans (a1m _ _ _) (by omega));have HSB2:=b9W (show (s.extract (k+1) s.size).size≤9223372036854775807 from Nat.le_trans (a1m _ _ _) (by omega));have HK:=b9W hk;have HI:=b9W (And.intro hi hok);have HB0:=b9W ((Below.refl w.heap.size w).alloc (Nat.le_refl _) zQ);have HP0:=b9W (a1z w);have TK1:True:=trivial;clear hk hi hok;have hkl:(k:Int) < (s.size:Int):=by omega
 have hkl1:(k:Int)+1≤(s.size:Int):=by omega
 have HF:=b9W hF;have hl1:decide ((4000:Int) < (n2.size:Int))=true:=decide_eq_true (by omega);clear hF hl;subst h0
 ·go_enter func155,ntmps155
  go_wp2_with (first
   | (go_at_call 234;refine(a2r s k _ (by omega) HK.out).mono ?_;rintro e w1 ⟨rfl,hw1⟩;subst hw1)
   | (go_at_call 220;refine(a0X (s.extract 0 k) _ HSA.out).mono ?_;rintro e w2 ⟨rfl,hw2⟩;subst hw2;rw[HI.out.1,HI.out.2];dsimp only;rw[a0G])
   | (go_at_call 235;refine(a1L (s.extract (k+1) s.size) _ HSB.out).mono ?_;rintro e w3 ⟨rfl,hw3⟩;subst hw3;rw[HF.out];generalize hBB:(s.extract (k+1) s.size) =b at *;have HBB:=b9W hBB;clear hBB))
  refine a4Z rfl rfl (by simp) (a1z w) ⟨_,rfl,rfl,HB0.out⟩
theorem b3U(s n2:ByteArray)(k:Nat)(m ok:Bool)(w:World)(hs:s.size≤9223372036854775807)(hn:n2.size≤9223372036854775807)(hk:a2j s.data.toList k)(hks:k≤s.size)
  (hi:intP (s.extract 0 k).data.toList=(m,n2.data.toList)) (hok:a1k (s.extract 0 k).data.toList=ok) (hsl:k < s.size) (h0:ok=true) (z0:(n2.toList==[48])=false) (hF:a1b (s.extract (k+1) s.size).data.toList=true) (z1:((s.extract (k+1) s.size).toList==[48])=false) (z2:((s.extract (k+1) s.size).toList==[49])=false) (hl:n2.size≤4000) (hm:4000 < (s.extract (k+1) s.size).size) :
  Calls prog 155 #[.string s] w fun e w'=>∃ v,v=zV∧e=.returned (.tuple #[v,.int .i64 5])∧Below w.heap.size w w':=by
 have HSA:=b9W (show (s.extract 0 k).size≤9223372036854775807 from Nat.le_trans (a1m _ _ _) (by omega));have HSB:=b9W (show (s.extract (k+1) s.size).size≤9223372036854775807 from Nat.le_trans (a1m _ _ _) (by omega));have HSB2:=b9W (show (s.extract (k+1) s.size).size≤9223372036854775807 from Nat.le_trans (a1m _ _ _) (by omega));have HK:=b9W hk;have HI:=b9W (And.intro hi hok);have HB0:=b9W ((Below.refl w.heap.size w).alloc (Nat.le_refl _) zQ);have HP0:=b9W (a1z w);have TK1:True:=trivial;clear hk hi hok;have hkl:(k:Int) < (s.size:Int):=by omega
 have hkl1:(k:Int)+1≤(s.size:Int):=by omega
 have HF:=b9W hF;have hl1:decide ((4000:Int) < (n2.size:Int))=false:=decide_eq_false (by omega);have hl2:decide ((4000:Int) < ((s.extract (k+1) s.size).size:Int))=true:=decide_eq_true (by omega);clear hF hl hm;subst h0
 ·go_enter func155,ntmps155
  go_wp2_with (first
   | (go_at_call 234;refine(a2r s k _ (by omega) HK.out).mono ?_;rintro e w1 ⟨rfl,hw1⟩;subst hw1)
   | (go_at_call 220;refine(a0X (s.extract 0 k) _ HSA.out).mono ?_;rintro e w2 ⟨rfl,hw2⟩;subst hw2;rw[HI.out.1,HI.out.2];dsimp only;rw[a0G])
   | (go_at_call 235;refine(a1L (s.extract (k+1) s.size) _ HSB.out).mono ?_;rintro e w3 ⟨rfl,hw3⟩;subst hw3;rw[HF.out];generalize hBB:(s.extract (k+1) s.size) =b at *;have HBB:=b9W hBB;clear hBB))
  refine a4Z rfl rfl (by simp) (a1z w) ⟨_,rfl,rfl,HB0.out⟩
theorem b8b(s n2:ByteArray)(k:Nat)(m ok:Bool)(w:World)(hs:s.size≤270000)(hn:n2.size≤270000)(hk:a2j s.data.toList k)(hks:k≤s.size)
  (hi:intP (s.extract 0 k).data.toList=(m,n2.data.toList)) (hok:a1k (s.extract 0 k).data.toList=ok) (hsl:k < s.size) (h0:ok=true) (z0:(n2.toList==[48])=false) (hF:a1b (s.extract (k+1) s.size).data.toList=true) (z1:((s.extract (k+1) s.size).toList==[48])=false) (z2:((s.extract (k+1) s.size).toList==[49])=false) (hl:n2.size≤4000) (hm:(s.extract (k+1) s.size).size≤4000) (hd:Dg n2.data.toList) (hd':Dg (s.extract (k+1) s.size).data.toList) (ll:(toL (dv n2.data.toList)).length≤30000∧(toL (dv (s.extract (k+1) s.size).data.toList)).length≤30000) (lg:(toL ((dv n2.data.toList).gcd (dv (s.extract (k+1) s.size).data.toList))).length≤100000) (hg:(dv n2.data.toList).gcd (dv (s.extract (k+1) s.size).data.toList)≠1) :
  Calls prog 155 #[.string s] w fun e w'=>∃ v,v=zV∧e=.returned (.tuple #[v,.int .i64 3])∧Below w.heap.size w w':=by
 have HSA:=b9W (show (s.extract 0 k).size≤9223372036854775807 from Nat.le_trans (a1m _ _ _) (by omega));have HSB:=b9W (show (s.extract (k+1) s.size).size≤9223372036854775807 from Nat.le_trans (a1m _ _ _) (by omega));have HSB2:=b9W (show (s.extract (k+1) s.size).size≤270000 from Nat.le_trans (a1m _ _ _) (by omega));have HK:=b9W hk;have HI:=b9W (And.intro hi hok);have HB0:=b9W ((Below.refl w.heap.size w).alloc (Nat.le_refl _) zQ);have HP0:=b9W (a1z w);have TK1:True:=trivial;clear hk hi hok;have hkl:(k:Int) < (s.size:Int):=by omega
 have hkl1:(k:Int)+1≤(s.size:Int):=by omega
 have HF:=b9W hF;have hl1:decide ((4000:Int) < (n2.size:Int))=false:=decide_eq_false (by omega);have hl2:decide ((4000:Int) < ((s.extract (k+1) s.size).size:Int))=false:=decide_eq_false (by omega);have HG:=b9W (And.intro hd hd');have HLL:=b9W ll;have HLG:=b9W lg;have HL1:=b9W (show (toL 1).length≤100000 by rw[show toL 1=[1] by rw[a19 (by omega)];simp[a0B,a0E]];decide);clear hF hl hm hd hd' ll lg;have hsg:(sgn ((dv n2.data.toList).gcd (dv (s.extract (k+1) s.size).data.toList)) 1==0)=false:=by rw[a5k,decide_eq_false hg]
 clear hg;subst h0
 ·go_enter func155,ntmps155
  go_wp2_with (first
   | (go_at_call 234;refine(a2r s k _ (by omega) HK.out).mono ?_;rintro e w1 ⟨rfl,hw1⟩;subst hw1)
   | (go_at_call 220;refine(a0X (s.extract 0 k) _ HSA.out).mono ?_;rintro e w2 ⟨rfl,hw2⟩;subst hw2;rw[HI.out.1,HI.out.2];dsimp only;rw[a0G])
   | (go_at_call 235;refine(a1L (s.extract (k+1) s.size) _ HSB.out).mono ?_;rintro e w3 ⟨rfl,hw3⟩;subst hw3;rw[HF.out];generalize hBB:(s.extract (k+1) s.size) =b at *;have HBB:=b9W hBB;clear hBB)
   | (clear TK1;go_at_call 223;refine(a2N n2 _ HG.out.1 (by omega)).mono ?_;rintro e w4 ⟨v4,rfl,hv4,hb4⟩;obtain⟨A4,c4,rfl,_,_,_⟩:=id hv4;have HV4:=b9W hv4;have HB4:=b9W (HB0.out.trans (hb4.mono HB0.out.size));have HP4:=b9W (HP0.out.below hb4 HP0.out.lt);clear hv4 hb4)
   | (go_at_call 223;refine(a2N b _ HG.out.2 (by first|omega|decide|exact HSB2.out)).mono ?_;rintro e w5 ⟨v5,rfl,hv5,hb5⟩;obtain⟨A5,c5,rfl,_,_,_⟩:=id hv5;have HV5:=b9W hv5;have HV4':=b9W (HV4.out.below hb5);have HB5:=b9W (HB4.out.trans (hb5.mono HB4.out.size));have HP5:=b9W (HP4.out.below hb5 HP4.out.lt);clear hv5 hb5)
   | (go_at_call 236;have HX5:=b9W ((Below.refl w5.heap.size w5).alloc (Nat.le_refl _) (.cells #[.bool m,.slice A4 (toL (dv n2.data.toList)).length c4,.slice A5 (toL (dv b.data.toList)).length c5] 170));refine(a4F (dv n2.data.toList) (dv b.data.toList) _ _ _ (HV4'.out.below HX5.out) (HV5.out.below HX5.out) HLL.out.1 HLL.out.2).mono ?_;rintro e w6 ⟨v6,rfl,hv6,hb6⟩;have HV6:=b9W hv6;have HX6:=b9W (HX5.out.trans (hb6.mono HX5.out.size));have HT6:=b9W ((Blk.new w5 _ _).below hb6 (by simp));clear hv6 hb6)
   | (go_at_call 227;refine(a6L _).mono ?_;rintro e w7 ⟨v7,rfl,hv7,hb7⟩;have HV7:=b9W hv7;have HV6':=b9W (HV6.out.below hb7);have HX7:=b9W (HX6.out.trans (hb7.mono HX6.out.size));have HT7:=b9W (HT6.out.below hb7 HT6.out.lt);clear hv7 hb7)
   | (go_at_call 232;refine(a12 _ 1 _ _ _ HV6'.out HV7.out HLG.out HL1.out).mono ?_;rintro e w8 ⟨rfl,hb8⟩;have HX8:=b9W (HX7.out.trans (hb8.mono HX7.out.size));have HP8:=b9W (HP5.out.below HX8.out HP5.out.lt);obtain⟨h60,h61,h62,h63,h64,h65⟩:=a1G HP8.out;obtain⟨t60,t61,t62⟩:=a0K HT7.out hb8 HT7.out.lt;clear hb8))
  refine a4Z rfl rfl (by simp) (set3 HP8.out) ⟨_,rfl,rfl,?_⟩;exact a0t (g:=w.heap.size) (HB5.out.trans (HX8.out.mono HB5.out.size)) (Nat.le_refl _)
theorem b9E(s n2:ByteArray)(k:Nat)(m ok:Bool)(w:World)(hs:s.size≤270000)(hn:n2.size≤270000)(hk:a2j s.data.toList k)(hks:k≤s.size)
  (hi:intP (s.extract 0 k).data.toList=(m,n2.data.toList)) (hok:a1k (s.extract 0 k).data.toList=ok) (hsl:k < s.size) (h0:ok=true) (z0:(n2.toList==[48])=false) (hF:a1b (s.extract (k+1) s.size).data.toList=true) (z1:((s.extract (k+1) s.size).toList==[48])=false) (z2:((s.extract (k+1) s.size).toList==[49])=false) (hl:n2.size≤4000) (hm:(s.extract (k+1) s.size).size≤4000) (hd:Dg n2.data.toList) (hd':Dg (s.extract (k+1) s.size).data.toList) (ll:(toL (dv n2.data.toList)).length≤30000∧(toL (dv (s.extract (k+1) s.size).data.toList)).length≤30000) (lg:(toL ((dv n2.data.toList).gcd (dv (s.extract (k+1) s.size).data.toList))).length≤100000) (hg:(dv n2.data.toList).gcd (dv (s.extract (k+1) s.size).data.toList)=1) :
  Calls prog 155 #[.string s] w fun e w'=>∃ v,e=.returned (.tuple #[v,.int .i64 0])∧a08 w' v m (dv n2.data.toList) (dv (s.extract (k+1) s.size).data.toList)∧Below w.heap.size w w':=by
 have HSA:=b9W (show (s.extract 0 k).size≤9223372036854775807 from Nat.le_trans (a1m _ _ _) (by omega));have HSB:=b9W (show (s.extract (k+1) s.size).size≤9223372036854775807 from Nat.le_trans (a1m _ _ _) (by omega));have HSB2:=b9W (show (s.extract (k+1) s.size).size≤270000 from Nat.le_trans (a1m _ _ _) (by omega));have HK:=b9W hk;have HI:=b9W (And.intro hi hok);have HB0:=b9W ((Below.refl w.heap.size w).alloc (Nat.le_refl _) zQ);have HP0:=b9W (a1z w);have TK1:True:=trivial;clear hk hi hok;have hkl:(k:Int) < (s.size:Int):=by omega
 have hkl1:(k:Int)+1≤(s.size:Int):=by omega
 have HF:=b9W hF;have hl1:decide ((4000:Int) < (n2.size:Int))=false:=decide_eq_false (by omega);have hl2:decide ((4000:Int) < ((s.extract (k+1) s.size).size:Int))=false:=decide_eq_false (by omega);have HG:=b9W (And.intro hd hd');have HLL:=b9W ll;have HLG:=b9W lg;have HL1:=b9W (show (toL 1).length≤100000 by rw[show toL 1=[1] by rw[a19 (by omega)];simp[a0B,a0E]];decide);clear hF hl hm hd hd' ll lg;have hsg:(sgn ((dv n2.data.toList).gcd (dv (s.extract (k+1) s.size).data.toList)) 1==0)=true:=by rw[a5k,decide_eq_true hg]
 clear hg;subst h0
 ·go_enter func155,ntmps155
  go_wp2_with (first
   | (go_at_call 234;refine(a2r s k _ (by omega) HK.out).mono ?_;rintro e w1 ⟨rfl,hw1⟩;subst hw1)
   | (go_at_call 220;refine(a0X (s.extract 0 k) _ HSA.out).mono ?_;rintro e w2 ⟨rfl,hw2⟩;subst hw2;rw[HI.out.1,HI.out.2];dsimp only;rw[a0G])
   | (go_at_call 235;refine(a1L (s.extract (k+1) s.size) _ HSB.out).mono ?_;rintro e w3 ⟨rfl,hw3⟩;subst hw3;rw[HF.out];generalize hBB:(s.extract (k+1) s.size) =b at *;have HBB:=b9W hBB;clear hBB)
   | (clear TK1;go_at_call 223;refine(a2N n2 _ HG.out.1 (by omega)).mono ?_;rintro e w4 ⟨v4,rfl,hv4,hb4⟩;obtain⟨A4,c4,rfl,_,_,_⟩:=id hv4;have HV4:=b9W hv4;have HB4:=b9W (HB0.out.trans (hb4.mono HB0.out.size));have HP4:=b9W (HP0.out.below hb4 HP0.out.lt);clear hv4 hb4)
   | (go_at_call 223;refine(a2N b _ HG.out.2 (by first|omega|decide|exact HSB2.out)).mono ?_;rintro e w5 ⟨v5,rfl,hv5,hb5⟩;obtain⟨A5,c5,rfl,_,_,_⟩:=id hv5;have HV5:=b9W hv5;have HV4':=b9W (HV4.out.below hb5);have HB5:=b9W (HB4.out.trans (hb5.mono HB4.out.size));have HP5:=b9W (HP4.out.below hb5 HP4.out.lt);clear hv5 hb5)
   | (go_at_call 236;have HX5:=b9W ((Below.refl w5.heap.size w5).alloc (Nat.le_refl _) (.cells #[.bool m,.slice A4 (toL (dv n2.data.toList)).length c4,.slice A5 (toL (dv b.data.toList)).length c5] 170));refine(a4F (dv n2.data.toList) (dv b.data.toList) _ _ _ (HV4'.out.below HX5.out) (HV5.out.below HX5.out) HLL.out.1 HLL.out.2).mono ?_;rintro e w6 ⟨v6,rfl,hv6,hb6⟩;have HV6:=b9W hv6;have HX6:=b9W (HX5.out.trans (hb6.mono HX5.out.size));have HT6:=b9W ((Blk.new w5 _ _).below hb6 (by simp));clear hv6 hb6)
   | (go_at_call 227;refine(a6L _).mono ?_;rintro e w7 ⟨v7,rfl,hv7,hb7⟩;have HV7:=b9W hv7;have HV6':=b9W (HV6.out.below hb7);have HX7:=b9W (HX6.out.trans (hb7.mono HX6.out.size));have HT7:=b9W (HT6.out.below hb7 HT6.out.lt);clear hv7 hb7)
   | (go_at_call 232;refine(a12 _ 1 _ _ _ HV6'.out HV7.out HLG.out HL1.out).mono ?_;rintro e w8 ⟨rfl,hb8⟩;have HX8:=b9W (HX7.out.trans (hb8.mono HX7.out.size));have HP8:=b9W (HP5.out.below HX8.out HP5.out.lt);obtain⟨h60,h61,h62,h63,h64,h65⟩:=a1G HP8.out;obtain⟨t60,t61,t62⟩:=a0K HT7.out hb8 HT7.out.lt;clear hb8))
  refine a4Z rfl rfl (by simp) (set3 HP8.out) ⟨_,rfl,?_,?_⟩
  ·rw[HBB.out];exact a07 (a0I (HV4'.out.below HX8.out) HP8.out) (a0I (HV5.out.below HX8.out) HP8.out)
  ·exact a0t (g:=w.heap.size) (HB5.out.trans (HX8.out.mono HB5.out.size)) (Nat.le_refl _)
end Go.Proofs.YtigapglmipmbeaaGreatDoor
