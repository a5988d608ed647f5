/- limbs.estimate: one limb of a quotient. limbs.Of limbs.Nat.Mul limbs.Nat.DivMod where the first number is the smaller one, or the second has one limb. limbs.Nat.DivMod: long division. limbs.Nat.Gcd, Zero, One. Rational numbers as a sign and two natural numbers, and their texts. No program in sight. -/
import Derived.Test.YtigapglmipmbeaaGreatDoorLwLedgerKnown03
import Derived.Deep.CutBlock
import Derived.Test.YtigapglmipmbeaaGreatDoorLwLedgerKnown01
import Derived.Sort.CutIn
import Derived.Lib.IndexMore
set_option maxRecDepth 100000
set_option maxHeartbeats 16000000
namespace Go.Proofs.YtigapglmipmbeaaGreatDoor
open Go.RowKit Go.Shelf
open Lim
def Only (g:Nat) (w w':World):Prop:=Below g w w'∧w'.heap.size=w.heap.size∧∀ k,k≠g→w'.heap[k]?=w.heap[k]?
section
variable {g:Nat} {w w' w'':World}
theorem Only.refl:Only g w w:=⟨Below.refl _ _,rfl,fun _ _=>rfl⟩
theorem Only.setCell (h:Only g w w') (i:Nat) (v:Value) (_hg:g < w'.heap.size):Only g w (w'.setCell ⟨g,i,none⟩ v) :=
 ⟨h.1.setCell (p:=⟨g,i,none⟩) (Nat.le_refl _) v,by rw [← h.2.1];simp [World.setCell],fun k hk=>(Below.heap_setCell w' ⟨g,i,none⟩ v k hk).trans (h.2.2 k hk)⟩
theorem Only.drewN (h:Only g w w') (n:Nat):Only g w (w'.drewN n):=⟨below_drewN' h.1 n,h.2.1,h.2.2⟩
theorem Only.cell (h:Only g w w') {b o:Nat} (hb:b≠g) {v:Value} (hc:w.cell? ⟨b,o,none⟩=some v):w'.cell? ⟨b,o,none⟩=some v :=
 (World.cell?_of_block (h.2.2 b hb)).trans hc
end
section
variable {w:World} {g:Nat} {t:TypeId} {P S:List Value} {X:List Nat}
theorem win_get (h:Blk w g t (P++(U64 X++S)).toArray) {off i:Nat} (ho:off=P.length) (hi:i < X.length):w.cell? ⟨g,off+i,none⟩=some (.int .u64 ((X[i]?.getD 0:Nat):Int)):=by
 subst ho
 rw [h.cell,List.getElem?_toArray,List.getElem?_append_right (by omega),show P.length+i - P.length=i by omega,List.getElem?_append_left (by rw [U64_length];exact hi),U64_get hi]
theorem win_set (h:Blk w g t (P++(U64 X++S)).toArray) {off i:Nat} (ho:off=P.length) (hi:i < X.length) (x:Nat):Blk (w.setCell ⟨g,off+i,none⟩ (.int .u64 (x:Int))) g t (P++(U64 (X.set i x)++S)).toArray:=by
 subst ho
 have h2:=h.set_ (P.length+i) (.int .u64 (x:Int))
 rw [List.setIfInBounds_toArray,List.set_append_right _ _ (by omega),show P.length+i - P.length=i by omega,List.set_append_left _ _ (by rw [U64_length];exact hi)] at h2
 rw [show U64 (X.set i x)=(U64 X).set i (.int .u64 (x:Int)) by simp [U64,List.map_set]]
 exact h2
end
theorem est_any (P S:List Value) (U V:List Nat) (n g off cu cv:Nat) (Av:Option Addr) (w:World) (hD:Div2 U V n) (hoff:off=P.length) (hn:n≤100000)
  (hu:Blk w g 117 (P++(U64 U++S)).toArray) (hv:Row w Av (U64 V)) (hvg:∀ a,Av=some a→a.block≠g) :
  Calls Tryz.prog 306 #[.slice (some ⟨g,off,none⟩) (n+1) cu,.slice Av n cv] w fun e w'=>∃ W:List Nat,e=.returned (.int .u64 ((val U / val V:Nat):Int))∧Sm W∧W.length=n+1∧val W=val U % val V∧Blk w' g 117 (P++(U64 W++S)).toArray∧Only g w w':=by
 have h2:=hD.two
 have hlu:=hD.lu
 have hlv:=hD.lv
 obtain ⟨b,o,rfl,hb,hcell⟩:=hv (by rw [U64_length];omega)
 have hbg:b≠g:=hvg _ rfl
 have HV:=Lib.hid (show ∀ W,Only g w W→∀ i,i < n→W.cell? ⟨b,o+i,none⟩=some (.int .u64 ((V[i]?.getD 0:Nat):Int)) from fun W hW i hi=>hW.cell hbg (hcell i _ (U64_get (by omega))))
 have HU:=Lib.hid hu
 have HD:=Lib.hid hD
 have hgs:=hu.lt
 clear hcell hvg hv
 -- the limbs that the estimate reads
 have un:=hD.su.get n
 have un1:=hD.su.get (n - 1)
 have un2:=hD.su.get (n - 2)
 have vn1:=hD.sv.get (n - 1)
 have vn2:=hD.sv.get (n - 2)
 have vtop:=hD.top
 have cun:=win_get hu hoff (i:=n) (by omega)
 have cun1:=win_get hu hoff (i:=n - 1) (by omega)
 have cun2:=win_get hu hoff (i:=n - 2) (by omega)
 have cvn1:=HV.out w Only.refl (n - 1) (by omega)
 have cvn2:=HV.out w Only.refl (n - 2) (by omega)
 clear hD hu
 have HST:=Lib.hid (fun t ht=>Est.start (U:=U) (V:=V) (n:=n) HD.out (t:=t) ht)
 have HLO:=Lib.hid (fun g r (e:Est U V n g r) hc=>Est.lower HD.out e hc)
 have HDN:=Lib.hid (fun g r (e:Est U V n g r) hc=>Est.done HD.out e hc)
 have HSM:=Lib.hid (fun g r (e:Est U V n g r)=>e.sum)
 generalize hun:U[n]?.getD 0=u0 at *
 generalize hun1:U[n - 1]?.getD 0=u1 at *
 generalize hun2:U[n - 2]?.getD 0=u2 at *
 generalize hvn1:V[n - 1]?.getD 0=v1 at *
 generalize hvn2:V[n - 2]?.getD 0=v2 at *
 rw [B_val] at un un1 un2 vn1 vn2
 have HEQ:=Lib.hid (And.intro hun (And.intro hvn1 hvn2))
 clear hun hun1 hun2 hvn1 hvn2
 have hv1:0 < v1:=by omega
 have HO:=Lib.hid (And.intro hoff (And.intro hlu hlv))
 clear hoff hlu hlv
 go_enter Tryz.func306,Tryz.ntmps306
 go_wp2
 go_quiet (fail)
 go_wp2
 go_quiet (fail)
 go_upto_block 0 with fail
 go_cut [7,8] from 44 to 76 (fun sg sr wx=>∃ gg r k:Nat,sg=.int .u64 (gg:Int)∧sr=.int .u64 (r:Int)∧val U / val V≤gg∧(gg < B∧gg*val V < val U+val V)∧wx=w.drewN k)
 case first =>
  go_wp2
  go_loopw [7,8] (fun sg sr wr=>∃ gg r k:Nat,sg=.int .u64 (gg:Int)∧sr=.int .u64 (r:Int)∧Est U V n gg r∧wr=w.drewN k) (fun sg _ _=>(intOf sg).toNat)
  case atStart=>exact ⟨_,_,_,int_eq (quo_cast u0 u1 v1),int_eq (rem_cast u0 u1 v1),HST.out _ rfl,World.drewN_drewN _ _ _⟩
  case round =>
   obtain ⟨gg,r,k,rfl,rfl,he,rfl⟩:=hrel
   have hsum:=HSM.out gg r he
   have hgv:gg≤gg*v1:=Nat.le_mul_of_pos_right _ hv1
   have hr18:r≤1000000000000000000:=by rw [B_val] at hsum;omega
   have hg18:gg≤1000000000000000000:=by rw [B_val] at hsum;omega
   have HE:=Lib.hid he
   have HS:=Lib.hid hsum
   clear he hsum hgv
   have qun2:(w.drewN k).cell? ⟨g,off+(n - 2),none⟩=_:=cun2
   have qvn1:(w.drewN k).cell? ⟨b,o+(n - 1),none⟩=_:=cvn1
   have qvn2:(w.drewN k).cell? ⟨b,o+(n - 2),none⟩=_:=cvn2
   by_cases hr:r < 1000000000
   ·have d1:decide ((r:Int) < 1000000000)=true:=decide_eq_true (by omega)
    by_cases hg:1000000000≤gg
    ·have d2:decide ((1000000000:Int)≤(gg:Int))=true:=decide_eq_true (by omega)
     have HL:=Lib.hid (HLO.out gg r HE.out (.inl (by rw [B_val];exact hg)))
     have hg1:=HL.out.1
     go_wp2
     go_quiet (fail)
     go_wp2
     go_quiet (fail)
     go_wp2
     go_roundw
     case rel=>exact ⟨gg - 1,r+v1,_,int_eq (by omega),int_eq (by omega),HL.out.2,by simp only [World.drewN_drewN];rfl⟩
     case measure=>simp [intOf];omega
    ·have d2:decide ((1000000000:Int)≤(gg:Int))=false:=decide_eq_false (by omega)
     have hp0:(0:Int)≤(gg:Int)*(v2:Int):=Int.mul_nonneg (by omega) (by omega)
     have hp1:(gg:Int)*(v2:Int)≤1000000000000000000:=by
      have:gg*v2≤1000000000*1000000000:=Nat.mul_le_mul (by omega) (by omega)
      have e:(gg:Int)*(v2:Int)=((gg*v2:Nat):Int):=(Int.natCast_mul _ _).symm
      rw [e];omega
     by_cases hx:r*B+u2 < gg*v2
     ·have d3:decide ((r:Int)*1000000000+(u2:Int) < (gg:Int)*(v2:Int))=true:=decide_eq_true (by
       have e:(gg:Int)*(v2:Int)=((gg*v2:Nat):Int):=(Int.natCast_mul _ _).symm
       rw [B_val] at hx;rw [e];omega)
      have HL:=Lib.hid (HLO.out gg r HE.out (.inr hx))
      have hg1:=HL.out.1
      clear hx
      go_wp2
      go_quiet (fail)
      go_wp2
      go_quiet (fail)
      go_wp2
      go_roundw
      case rel=>exact ⟨gg - 1,r+v1,_,int_eq (by omega),int_eq (by omega),HL.out.2,by simp only [World.drewN_drewN];rfl⟩
      case measure=>simp [intOf];omega
     ·have d3:decide ((r:Int)*1000000000+(u2:Int) < (gg:Int)*(v2:Int))=false:=decide_eq_false (by
       have e:(gg:Int)*(v2:Int)=((gg*v2:Nat):Int):=(Int.natCast_mul _ _).symm
       rw [B_val] at hx;rw [e];omega)
      have HX:=Lib.hid (HDN.out gg r HE.out (.inr ⟨by rw [B_val];omega,by omega⟩))
      clear hx
      go_wp2
      go_quiet (fail)
      go_wp2
      go_meet
      case rel=>exact ⟨gg,r,_,rfl,rfl,HE.out.low,HX.out,by simp only [World.drewN_drewN];rfl⟩
   ·have d1:decide ((r:Int) < 1000000000)=false:=decide_eq_false (by omega)
    have HX:=Lib.hid (HDN.out gg r HE.out (.inl (by rw [B_val];omega)))
    go_wp2
    go_quiet (fail)
    go_wp2
    go_meet
    case rel=>exact ⟨gg,r,_,rfl,rfl,HE.out.low,HX.out,by simp only [World.drewN_drewN];rfl⟩
 case rest =>
  obtain ⟨gg,r,k,rfl,rfl,hlow,⟨hgB,hup⟩,rfl⟩:=hcut
  have HG:=Lib.hid (And.intro hlow hup)
  rw [B_val] at hgB
  have HBK:=Lib.hid (show Blk (w.drewN k) g 117 (P++(U64 U++S)).toArray from HU.out)
  have HSS:=Lib.hid (SubStep.start (U:=U) (V:=V) (n:=n) (g:=gg) HD.out.su HD.out.lu)
  clear hlow hup cun cun1 cun2 cvn1 cvn2
  go_wp2
  go_loopw [9,10,79] (fun sc sb si wr=>∃ (i:Nat) (X:List Nat) (c bo:Nat),i≤n∧sc=.int .u64 (c:Int)∧sb=.int .u64 (bo:Int)∧si=.int .i64 (i:Int)∧SubStep U V n gg i X (c+bo)∧c < B∧bo≤1∧Blk wr g 117 (P++(U64 X++S)).toArray∧Only g w wr) (fun _ _ si _=>n - (intOf si).toNat)
  case atStart=>exact ⟨0,U,0,0,Nat.zero_le _,rfl,rfl,rfl,HSS.out,B_pos,Nat.zero_le _,HBK.out,Only.refl.drewN k⟩
  case round =>
   obtain ⟨i,X,c,bo,hi,rfl,rfl,rfl,hs,hc,hbo,hblk,hon⟩:=hrel
   rw [B_val] at hc
   have hgw:=hblk.lt
   by_cases hlt:i < n
   ·have hXl:=hs.2.1
    have hx0:=hs.1.get i
    have hXU:=hs.2.2.2 i (Nat.le_refl _)
    have hy0:=HD.out.sv.get i
    have cx:=win_get hblk HO.out.1 (i:=i) (by omega)
    have fx:=hblk.frozen (off+i)
    have cy:=HV.out wr hon i hlt
    have HSTP:=Lib.hid (fun x c' hx he=>hs.step (x:=x) (c':=c') hlt hx he)
    have HSET:=Lib.hid (fun (x x':Nat)=>(show Blk ((wr.setCell ⟨g,off+i,none⟩ (.int .u64 (x':Int))).setCell ⟨g,off+i,none⟩ (.int .u64 (x:Int))) g 117 (P++(U64 (X.set i x)++S)).toArray by
     have h1:=win_set hblk HO.out.1 (i:=i) (by omega) x'
     have h2:=win_set h1 HO.out.1 (i:=i) (by rw [List.length_set];omega) x
     rwa [List.set_set] at h2))
    have HSET1:=Lib.hid (fun (x:Nat)=>win_set hblk HO.out.1 (i:=i) (by omega) x)
    have HON:=Lib.hid hon
    rw [← hXU] at HSTP
    clear hs hXU hXl hblk hon HSS HBK
    generalize X[i]?.getD 0=x0 at *
    generalize V[i]?.getD 0=y0 at *
    rw [B_val] at hx0 hy0
    obtain ⟨q,hq⟩:∃ q,gg*y0=q:=⟨_,rfl⟩
    have e1:(gg:Int)*(y0:Int)=(q:Int):=by rw [← hq,Int.natCast_mul]
    have hq18:q≤999999999*999999999:=by rw [← hq];exact Nat.mul_le_mul (by omega) (by omega)
    rw [hq] at HSTP
    clear hq
    have hq1:(gg:Int)*(y0:Int)≤999999998000000001:=by rw [e1];omega
    have hq0:(0:Int)≤(gg:Int)*(y0:Int):=by rw [e1];omega
    have hcb:(q+c) / 1000000000 < 1000000000:=by omega
    by_cases hlo:(x0:Int) < ((q:Int)+(c:Int)) % 1000000000+(bo:Int)
    ·have hlo':(x0:Int) < ((gg:Int)*(y0:Int)+(c:Int)) % 1000000000+(bo:Int):=by rw [e1];exact hlo
     obtain ⟨t,ht⟩:∃ t,(q+c) % 1000000000+bo=t:=⟨_,rfl⟩
     have e2:(x0:Int)+1000000000 - (((q:Int)+(c:Int)) % 1000000000+(bo:Int))=((x0+1000000000 - t:Nat):Int):=by omega
     have e3:(x0:Int)+1000000000=((x0+1000000000:Nat):Int):=by omega
     have HR:=Lib.hid (And.intro e2 e3)
     have HST:=Lib.hid (HSTP.out (x0+1000000000 - t) ((q+c) / B+1) (by rw [B_val];omega) (by rw [B_val];omega))
     clear e2 e3
     go_wp2
     go_roundw
     case rel =>
      refine ⟨i+1,X.set i (x0+1000000000 - t),(q+c) / B,1,hlt,int_eq (by rw [B_val];omega),rfl,by go_num,HST.out,by rw [B_val];omega,Nat.le_refl _,?_,?_⟩
      ·rw [HR.out.1,HR.out.2];exact HSET.out _ _
      ·exact (HON.out.setCell _ _ hgw).setCell _ _ (by simpa [World.setCell] using hgw)
     case measure=>simp [intOf];omega
    ·have hlo':¬ (x0:Int) < ((gg:Int)*(y0:Int)+(c:Int)) % 1000000000+(bo:Int):=by rw [e1];exact hlo
     obtain ⟨t,ht⟩:∃ t,(q+c) % 1000000000+bo=t:=⟨_,rfl⟩
     have e2:(x0:Int) - (((q:Int)+(c:Int)) % 1000000000+(bo:Int))=((x0 - t:Nat):Int):=by omega
     have HR:=Lib.hid e2
     have HST:=Lib.hid (HSTP.out (x0 - t) ((q+c) / B+0) (by rw [B_val];omega) (by rw [B_val];omega))
     have hlo2:((q:Int)+(c:Int)) % 1000000000+(bo:Int)≤(x0:Int):=by omega
     clear e2
     go_wp2
     go_roundw
     case rel =>
      refine ⟨i+1,X.set i (x0 - t),(q+c) / B,0,hlt,int_eq (by rw [B_val];omega),rfl,by go_num,HST.out,by rw [B_val];omega,Nat.zero_le _,?_,?_⟩
      ·rw [HR.out];exact HSET1.out _
      ·exact HON.out.setCell _ _ hgw
     case measure=>simp [intOf];omega
   ·obtain rfl:i=n:=by omega
    have hXl:=hs.2.1
    have hXU:=hs.2.2.2 i (Nat.le_refl _)
    have cx:=win_get hblk HO.out.1 (i:=i) (by omega)
    have fx:=hblk.frozen (off+i)
    rw [hXU,HEQ.out.1] at cx
    have HSF:=Lib.hid (fun hle=>sub_fits HD.out HG.out.1 HG.out.2 hs hle)
    have HSB:=Lib.hid (fun hgt=>sub_back HD.out HG.out.1 HG.out.2 hs hgt)
    rw [HEQ.out.1] at HSF HSB
    have HBL:=Lib.hid hblk
    have HON:=Lib.hid hon
    have HXL:=Lib.hid hXl
    have HXS:=Lib.hid hs.1
    clear hs hXl hXU hblk hon HSS HBK hlt
    by_cases hle:c+bo≤u0
    ·have hle':((c:Int)+(bo:Int))≤(u0:Int):=by omega
     have e2:(u0:Int) - ((c:Int)+(bo:Int))=((u0 - (c+bo):Nat):Int):=by omega
     have HR:=Lib.hid e2
     have HF:=Lib.hid (HSF.out hle)
     clear e2 hle
     go_wp2
     go_ret
     refine ⟨X.set i (u0 - (c+bo)),ret_eq (int_eq (by rw [HF.out.1])),HF.out.2.2,by rw [List.length_set];exact HXL.out,HF.out.2.1,?_,?_⟩
     ·rw [HR.out];exact win_set HBL.out HO.out.1 (i:=i) (by rw [HXL.out];omega) _
     ·exact HON.out.setCell _ _ hgw
    ·have hle':¬ ((c:Int)+(bo:Int))≤(u0:Int):=by omega
     have HF:=Lib.hid (HSB.out (by omega))
     have HBS:=Lib.hid (BackStep.start (U:=X) (V:=V) (n:=i) HXS.out HXL.out)
     have hg1:1≤gg:=by rw [HF.out.1];exact Nat.le_add_left 1 _
     obtain ⟨wo,rfl⟩:∃ wo,wo=wr:=⟨_,rfl⟩
     clear hle
     go_wp2
     clear cx fx
     go_loopw [9,137] (fun sc sj wr=>∃ (j:Nat) (Y:List Nat) (cy:Nat),j≤i∧sc=.int .u64 (cy:Int)∧sj=.int .i64 (j:Int)∧BackStep X V i j Y cy∧Blk wr g 117 (P++(U64 Y++S)).toArray∧Only g w wr) (fun _ sj _=>i - (intOf sj).toNat)
     case atStart=>exact ⟨0,X,0,Nat.zero_le _,rfl,rfl,HBS.out,HBL.out,HON.out⟩
     case round =>
      obtain ⟨j,Y,cy,hj,rfl,rfl,hb4,hblk,hon⟩:=hrel
      have hcy:=hb4.2.2.2.1
      have hYl:=hb4.2.1
      have hgw2:=hblk.lt
      by_cases hlt:j < i
      ·have hx0:=hb4.1.get j
       have hXY:=hb4.2.2.2.2 j (Nat.le_refl _)
       have hy0:=HD.out.sv.get j
       have cx:=win_get hblk HO.out.1 (i:=j) (by omega)
       have fx:=hblk.frozen (off+j)
       have cv:=HV.out wr hon j hlt
       have HSTP:=Lib.hid (hb4.step HXS.out HD.out.sv hlt rfl)
       have HSET:=Lib.hid (fun (x:Nat)=>win_set hblk HO.out.1 (i:=j) (by omega) x)
       have HON2:=Lib.hid hon
       rw [← hXY] at HSTP
       clear hb4 hXY hYl hblk hon HBS HBL HON
       generalize Y[j]?.getD 0=x0 at *
       generalize V[j]?.getD 0=y0 at *
       rw [B_val] at hx0 hy0
       have e1:((x0:Int)+(y0:Int)+(cy:Int)) % 1000000000=(((x0+y0+cy) % B:Nat):Int):=by rw [B_val];omega
       have HR:=Lib.hid e1
       clear e1
       go_wp2
       go_quiet (fail)
       go_wp2
       go_roundw
       case rel =>
        refine ⟨j+1,Y.set j ((x0+y0+cy) % B),(x0+y0+cy) / B,hlt,int_eq (by rw [B_val];omega),by go_num,HSTP.out,?_,?_⟩
        ·rw [HR.out];exact (HSET.out _)
        ·exact (HON2.out.drewN _).setCell _ _ hgw2
       case measure=>simp [intOf];omega
      ·obtain rfl:j=i:=by omega
       have HE:=Lib.hid (HF.out.2.2 hb4)
       have cx:=win_get hblk HO.out.1 (i:=j) (by omega)
       have fx:=hblk.frozen (off+j)
       have HSET:=Lib.hid (win_set hblk HO.out.1 (i:=j) (by omega) 0)
       have HON2:=Lib.hid hon
       have HYL:=Lib.hid hYl
       have HFF:=Lib.hid HF.out.1
       clear hb4 hblk hon hYl HBS HBL HON HSB HSF HF hlt
       go_wp2
       go_ret
       exact ⟨Y.set j 0,ret_eq (int_eq (by rw [HFF.out];generalize val U / val V=qq;omega)),HE.out.2.2,by rw [List.length_set];exact HYL.out,HE.out.2.1,HSET.out,HON2.out.setCell _ _ hgw2⟩
end Go.Proofs.YtigapglmipmbeaaGreatDoor
namespace Go.Proofs.YtigapglmipmbeaaGreatDoor
open Go.RowKit
open Lim
theorem toL_step {L:List Nat} {n m:Nat} (h:L++toL m=toL n) (hm:m≠0):(L++[m % B])++toL (m / B)=toL n:=by
 rw [toL_pos hm] at h;simpa using h
theorem of_any (n:Nat) (w:World) (hn:n < 18446744073709551616) :
  Calls Tryz.prog 304 #[.int .u64 (n:Int)] w fun e w'=>∃ v,e=.returned v∧IsNat w' v n∧Below w.heap.size w w':=by
 have hl3:(toL n).length≤3:=toL_len_le (by rw [B_val];omega)
 obtain ⟨i0,hi,hz0,hz1,hz2⟩:=info_parts Tryz.infoU
 go_enter Tryz.func304,Tryz.ntmps304
 go_wp2
 go_loopw [0,3] (fun s v wr=>∃ (m:Nat) (L:List Nat),s=.int .u64 (m:Int)∧m < 18446744073709551616∧L++toL m=toL n∧wr.ownsRow w.heap.size 117 1 v L.length (U64 L)∧Below w.heap.size w wr) (fun s _ _=>(intOf s).toNat)
 case atStart=>exact ⟨n,[],rfl,hn,rfl,World.ownsRow_nil _ _ _ _,Below.refl _ _⟩
 case round =>
  obtain ⟨m,L,rfl,hm,hL,hown,hB⟩:=hrel
  by_cases h0:m=0
  ·subst h0
   have hL':L=toL n:=by rw [← hL,toL_zero];simp
   subst hL'
   clear hL
   go_wp2
   go_ret
   exact ⟨_,rfl,isNat_of_owns hown,hB⟩
  ·have hpos:0 < m:=by omega
   have hLlen:L.length+1≤3:=by
    have:=toL_len_pos.2 h0
    have h2:(L++toL m).length≤3:=by rw [hL];exact hl3
    rw [List.length_append] at h2
    omega
   have HL:=Lib.hid (toL_step hL h0)
   clear hL h0
   go_wp2_with (at_builtin;refine wpList_append_own _ rfl _ _ 214 rfl w.heap.size 117 i0 (.int .u64 0) 1 8 Tryz.underlying214 hi hz0 hz1 hz2 rfl (by decide) _ _ _ rfl (hown.alloc _) ⟨wr.heap.size,0,none⟩ 1 1 [.int .u64 ((m:Int) % 1000000000)] rfl rfl (cell_one_new _ _ _) (by simp [Value.oneCell']) (by unfold maxLen;omega) (by omega) (by have:=hB.size;simp;omega) ?_;intro v' w1 hown' hgrow _)
   go_roundw
   case rel =>
    refine ⟨m / B,L++[m % B],by rw [← divB_cast],by rw [B_val];omega,HL.out,?_,?_⟩
    ·rw [← U64_snoc,← modB_cast,List.length_append];exact hown'
    ·exact (hB.alloc (by have:=hB.size;omega) _).grown hgrow (by have:=hB.size;simp;omega) (fun k e=>(hown.lt k e).1)
   case measure=>simp [intOf];omega
theorem mul_cast {o x y c:Nat}:((o:Int)+(x:Int)*(y:Int)+(c:Int))=((o+x*y+c:Nat):Int):=by
 rw [Int.natCast_add,Int.natCast_add,Int.natCast_mul]
theorem mul_own (x y:Nat) (vx vy:Value) (w:World) (hx:IsNat w vx x) (hy:IsNat w vy y) (hlx:(toL x).length≤40000) (hly:(toL y).length≤40000) :
  Calls Tryz.prog 245 #[vx,vy] w fun e w'=>∃ v,e=.returned v∧w'.ownsRow w.heap.size 117 1 v (toL (x*y)).length (U64 (toL (x*y)))∧Below w.heap.size w w':=by
 obtain ⟨A,c,rfl,hc,hcm,hra⟩:=hx
 obtain ⟨A',c',rfl,hc',hcm',hrb⟩:=hy
 obtain ⟨i0,hi,hz0,hz1,hz2⟩:=info_parts Tryz.infoU
 have hmk:=fun W=>run_makeN (P:=Tryz.prog) Tryz.underlying214 hi hz0 hz1 hz2 (n:=(toL x).length+(toL y).length) (by omega) (C:=((toL x).length:Int)+((toL y).length:Int)) (by omega) W
 have hxs:=sm_toL x
 have hys:=sm_toL y
 go_enter Tryz.func245,Tryz.ntmps245
 go_wp2
 clear hmk
 have hblk0:Blk (w.alloc (.cells (madeCells #[.int .u64 0] ((toL x).length+(toL y).length)) 117)) w.heap.size 117 (U64 (List.replicate ((toL x).length+(toL y).length) 0)).toArray:=by rw [← U64_zeros];exact Blk.new _ _ _
 go_loopw [20] (fun i wr=>∃ (k:Nat) (O:List Nat),k≤(toL x).length∧i=.int .i64 (k:Int)∧MulOut (toL x) (toL y) k O∧Blk wr w.heap.size 117 (U64 O).toArray∧Below w.heap.size w wr) (fun i _=>(toL x).length - (intOf i).toNat)
 case atStart=>exact ⟨0,_,Nat.zero_le _,rfl,MulOut.start _ _,hblk0,(Below.refl _ _).alloc (Nat.le_refl _) _⟩
 case round =>
  obtain ⟨k,O,hk,rfl,hinv,hblk,hB⟩:=hrel
  clear hblk0
  obtain ⟨wo,rfl⟩:∃ wo,wo=wr:=⟨_,rfl⟩
  by_cases hlt:k < (toL x).length
  ·obtain ⟨b,o,rfl,hb,hcell⟩:=hra (by rw [U64_length];omega)
   have hcx:=(hB.cell (p:=⟨b,o+k,none⟩) hb).trans (hcell k _ (U64_get hlt))
   have hx0:=hxs.get k
   have HI:=Lib.hid (hinv.enter ((toL x)[k]?.getD 0))
   have HLV:Hid (∀ (O':List Nat) (c:Nat),MulInv (val ((toL x).take k)*val (toL y)) (toL y) k ((toL x)[k]?.getD 0) (toL y).length O' ((toL x).length+(toL y).length) c→MulOut (toL x) (toL y) (k+1) (O'.set (k+(toL y).length) c)):=fun O' c h=>MulInv.leave h hlt
   clear hcell hinv
   generalize (toL x)[k]?.getD 0=x0 at *
   rw [B_val] at hx0
   have HB:=Lib.hid hblk
   clear hblk
   go_wp2
   go_loopw [8,27] (fun s j wr=>∃ (m:Nat) (O':List Nat) (cy:Nat),m≤(toL y).length∧j=.int .i64 (m:Int)∧s=.int .u64 (cy:Int)∧MulInv (val ((toL x).take k)*val (toL y)) (toL y) k x0 m O' ((toL x).length+(toL y).length) cy∧Blk wr w.heap.size 117 (U64 O').toArray∧Below w.heap.size w wr) (fun _ j _=>(toL y).length - (intOf j).toNat)
   case atStart=>exact ⟨0,_,0,Nat.zero_le _,rfl,rfl,HI.out,HB.out,hB⟩
   case round =>
    obtain ⟨m,O',cy,hm,rfl,rfl,hin,hblk',hB'⟩:=hrel
    clear HI HB
    have hcy:=hin.2.2.2.1
    have hOl:=hin.2.1
    rw [B_val] at hcy
    by_cases hlq:m < (toL y).length
    ·obtain ⟨b2,o2,rfl,hb2,hcell2⟩:=hrb (by rw [U64_length];omega)
     have hcy2:=(hB'.cell (p:=⟨b2,o2+m,none⟩) hb2).trans (hcell2 m _ (U64_get hlq))
     have hy0:=hys.get m
     have ho0:=hin.1.get (k+m)
     have hst1:=hblk'.getU (i:=k+m) (by omega)
     have hst2:=hblk'.frozen (k+m)
     have HST:=Lib.hid (hin.step (by rw [B_val];exact hx0) hys hlq (by omega) rfl)
     have hmb:=mul_bound (by rw [B_val];exact hx0) hy0 (by rw [B_val];exact hcy) ho0
     clear hcell2 hin hOl
     have HB:=Lib.hid hblk'
     clear hblk'
     generalize (toL y)[m]?.getD 0=y0 at *
     generalize O'[k+m]?.getD 0=o0 at *
     rw [B_val] at hy0 ho0
     have hp0:(0:Int)≤(x0:Int)*(y0:Int):=Int.mul_nonneg (by omega) (by omega)
     have hp1:(o0:Int)+(x0:Int)*(y0:Int)+(cy:Int)≤1000000000000000000:=by
      rw [mul_cast];rw [show B*B=1000000000000000000 from rfl] at hmb;omega
     clear hmb
     go_wp2
     go_roundw
     case rel =>
      refine ⟨m+1,O'.set (k+m) ((o0+x0*y0+cy) % B),(o0+x0*y0+cy) / B,by omega,by go_num,?_,HST.out,?_,hB'.setCell (p:=⟨w.heap.size,k+m,none⟩) (Nat.le_refl _) _⟩
      ·rw [mul_cast,divB_cast]
      ·rw [mul_cast,modB_cast];exact HB.out.setU _ _
     case measure=>simp [intOf];omega
    ·obtain rfl:m=(toL y).length:=by omega
     have hst1:=hblk'.getU (i:=k+(toL y).length) (by omega)
     have hst2:=hblk'.frozen (k+(toL y).length)
     have HST:=Lib.hid (HLV.out _ _ hin)
     have HB:=Lib.hid hblk'
     clear hin hblk' hOl
     go_wp2
     go_roundw
     case rel =>
      exact ⟨k+1,_,by omega,by go_num,HST.out,HB.out.setU _ _,hB'.setCell (p:=⟨w.heap.size,k+(toL y).length,none⟩) (Nat.le_refl _) _⟩
     case measure=>simp [intOf];omega
  ·obtain rfl:k=(toL x).length:=by omega
   have hd:=hinv.done
   rw [val_toL,val_toL] at hd
   have hrow:=hblk.row
   have hO:=hinv.1
   have HOL:=Lib.hid hinv.2.1
   have HD:=Lib.hid hd
   have HBLK:=Lib.hid hblk
   clear hinv hblk hd hra hrb
   go_wp2_with (go_at_call 273;refine (trim_any O _ _ _ _ HOL.out.symm hO (Nat.le_of_eq HOL.out) (by unfold maxLen;omega) hrow).mono ?_;rintro e w' ⟨rfl,rfl⟩)
   go_ret
   refine ⟨_,rfl,?_,hB⟩
   rw [HD.out]
   have hpre:=toL_prefix hO
   rw [HD.out] at hpre
   refine ⟨by rw [U64_length,Nat.mul_one],.inr ⟨_,_,_,rfl,Nat.le_refl _,HBLK.out,?_,by unfold maxLen;omega,by rw [List.size_toArray,U64_length,HOL.out,Nat.mul_one],?_⟩⟩
   ·have:=toL_len_le_of hO
    rw [HD.out] at this
    rw [← HOL.out];exact this
   ·rw [Nat.mul_one,← U64_take,hpre]
theorem mul_any (x y:Nat) (vx vy:Value) (w:World) (hx:IsNat w vx x) (hy:IsNat w vy y) (hlx:(toL x).length≤40000) (hly:(toL y).length≤40000) :
  Calls Tryz.prog 245 #[vx,vy] w fun e w'=>∃ v,e=.returned v∧IsNat w' v (x*y)∧Below w.heap.size w w' :=
 (mul_own x y vx vy w hx hy hlx hly).mono fun _ _ ⟨v,e,ho,hb⟩=>⟨v,e,isNat_of_owns ho,hb⟩
end Go.Proofs.YtigapglmipmbeaaGreatDoor
namespace Go.Proofs.YtigapglmipmbeaaGreatDoor
open Go.RowKit Go.Shelf
open Lim
attribute [local go_sem] Oper.semAt_some
theorem isNat_zero (w:World):IsNat w (.slice none 0 0) 0:=by
 refine ⟨none,0,?_,?_,by unfold maxLen;omega,?_⟩
 ·rw [toL_zero];rfl
 ·rw [toL_zero];exact Nat.le_refl _
 ·rw [toL_zero];exact Row.nil
theorem divmod_less (x y:Nat) (vx vy:Value) (w:World) (hx:IsNat w vx x) (hy:IsNat w vy y) (hlx:(toL x).length≤40000) (hlt:x < y) :
  Calls Tryz.prog 278 #[vx,vy] w fun e w'=>∃ vq vr,e=.returned (.tuple #[vq,vr])∧IsNat w' vq (x / y)∧IsNat w' vr (x % y)∧Below w.heap.size w w':=by
 have HX:=Lib.hid hx
 have HY:=Lib.hid hy
 obtain ⟨A,c,rfl,hc,hcm,_⟩:=hx
 obtain ⟨A',c',rfl,hc',hcm',_⟩:=hy
 have hd:decide (sgn x y < 0)=true:=by rw [sgn_lt hlt];rfl
 refine (callsIn_wide (n:=3)).1 ?_
 have h1:1≤3:=by omega
 refine callsIn_of_wp_marks Tryz.func278 rfl trivial ?_ rfl
 simp only [Tryz.ntmps278,List.size_toArray,List.length_cons,List.length_nil,Nat.reduceAdd,Nat.reduceSub,Array.replicate_succ,Array.replicate_zero,List.push_toArray,List.append_toArray,List.nil_append,List.cons_append]
 have TK1:True:=trivial
 gi_wp2_with (clear TK1;refine ⟨trivial,?_⟩;gi_at_call 246;refine (callsIn_wide.2 (cmp_any x y _ _ _ HX.out HY.out hlx)).mono ?_;rintro e w1 ⟨rfl,hb⟩;have HB1:=Lib.hid hb;clear hb)
 refine ⟨_,results_tmp2 rfl _ _ _,_,_,rfl,?_,?_,HB1.out⟩
 ·rw [Nat.div_eq_of_lt hlt];exact isNat_zero _
 ·rw [Nat.mod_eq_of_lt hlt];exact HX.out.below HB1.out
theorem divmod_one (x y:Nat) (vx vy:Value) (w:World) (hx:IsNat w vx x) (hy:IsNat w vy y) (hlx:(toL x).length≤40000) (hge:y≤x) (hl1:(toL y).length=1) :
  Calls Tryz.prog 278 #[vx,vy] w fun e w'=>∃ vq vr,e=.returned (.tuple #[vq,vr])∧IsNat w' vq (x / y)∧IsNat w' vr (x % y)∧Below w.heap.size w w':=by
 have HX:=Lib.hid hx
 have HY:=Lib.hid hy
 have hy1:toL y=[y]∧0 < y∧y < 1000000000:=by
  obtain ⟨z,hz⟩:=List.length_eq_one_iff.1 hl1
  have hv:=val_toL y
  rw [hz] at hv
  simp [val] at hv
  subst hv
  have hs:=sm_toL z
  rw [hz] at hs
  have hlt:=hs.head
  rw [B_val] at hlt
  refine ⟨hz,?_,hlt⟩
  rcases Nat.eq_zero_or_pos z with h0|h0
  ·subst h0;rw [toL_zero] at hz;cases hz
  ·exact h0
 obtain ⟨hty,hy0,hyB⟩:=hy1
 obtain ⟨A,c,rfl,hc,hcm,_⟩:=hx
 obtain ⟨A',c',rfl,hc',hcm',hrow⟩:=hy
 obtain ⟨b,o,rfl,hb,hcell⟩:=hrow (by rw [U64_length,hl1];omega)
 have hc0:=hcell 0 _ (U64_get (by omega))
 rw [hty] at hc0
 simp only [List.getElem?_cons_zero,Option.getD_some,Nat.add_zero] at hc0
 rw [hl1] at HY hc'
 rw [hl1]
 have hd:decide (sgn x y < 0)=false:=by
  rcases Nat.lt_or_ge y x with h|h
  ·rw [sgn_gt h];rfl
  ·rw [Nat.le_antisymm h hge,sgn_self];rfl
 have HTY:=Lib.hid hty
 have HGE:=Lib.hid hge
 clear hcell hrow hty hl1 hge
 refine (callsIn_wide (n:=3)).1 ?_
 have h1:1≤3:=by omega
 refine callsIn_of_wp_marks Tryz.func278 rfl trivial ?_ rfl
 simp only [Tryz.ntmps278,List.size_toArray,List.length_cons,List.length_nil,Nat.reduceAdd,Nat.reduceSub,Array.replicate_succ,Array.replicate_zero,List.push_toArray,List.append_toArray,List.nil_append,List.cons_append]
 have TK1:True:=trivial
 have TK2:True:=trivial
 have TK3:True:=trivial
 gi_wp2_with (clear TK1;refine ⟨trivial,?_⟩;gi_at_call 246;refine (callsIn_wide.2 (cmp_any x y _ _ _ HX.out HY.out hlx)).mono ?_;rintro e w1 ⟨rfl,hb1⟩;have HB1:=Lib.hid hb1;have hc1:=(hb1.cell (p:=⟨b,o,none⟩) hb).trans hc0;have hbs:b < w1.heap.size:=Nat.lt_of_lt_of_le hb hb1.size;clear hb1)
 gi_wp2_with (clear TK2;refine ⟨trivial,?_⟩;gi_at_call 305;refine (callsIn_wide.2 (small_any x y _ _ (HX.out.below HB1.out) hlx hy0 hyB)).mono ?_;rintro e w2 ⟨v,rfl,hq,hb2⟩;have HB2:=Lib.hid (HB1.out.trans (hb2.mono HB1.out.size));have HQ:=Lib.hid hq;clear hb2 hq)
 gi_wp2_with (clear TK3;refine ⟨trivial,?_⟩;gi_at_call 304;refine (callsIn_wide.2 (of_any (x % y) _ (by have:=Nat.mod_lt x hy0;omega))).mono ?_;rintro e w3 ⟨v3,rfl,hr,hb3⟩;have HB3:=Lib.hid (HB2.out.trans (hb3.mono HB2.out.size));have HR:=Lib.hid hr;have HQ3:=Lib.hid (HQ.out.below hb3);clear hb3 hr)
 exact ⟨_,results_tmp2 rfl _ _ _,v,v3,rfl,HQ3.out,HR.out,HB3.out⟩
end Go.Proofs.YtigapglmipmbeaaGreatDoor
namespace Go.Proofs.YtigapglmipmbeaaGreatDoor
open Go.RowKit Go.Shelf
open Lim
attribute [local go_sem] Oper.semAt_some
attribute [local go_sem ↓] inAt_zero inAt_succ
theorem toL_small {s:Nat} (h0:0 < s) (h:s < B):toL s=[s]:=by
 rw [toL_pos (by omega),Nat.mod_eq_of_lt h,Nat.div_eq_of_lt h,toL_zero]
theorem isNat_cell {w:World} {g:Nat} {s:Nat} (h0:0 < s) (h:s < B) (hg:w.cell? ⟨g,0,none⟩=some (.int .u64 (s:Int))) (hb:g < w.heap.size):IsNat w (.slice (some ⟨g,0,none⟩) 1 1) s:=by
 have e:=toL_small h0 h
 refine ⟨some ⟨g,0,none⟩,1,by rw [e];rfl,by rw [e];exact Nat.le_refl _,by unfold maxLen;omega,fun _=>⟨g,0,rfl,hb,fun j u hu=>?_⟩⟩
 rw [e] at hu
 cases j with
 | zero=>simp [U64] at hu;subst hu;exact hg
 | succ j=>simp [U64] at hu
theorem owns_blk {w:World} {base n:Nat} {v:Value} {xs:List Nat} (h:w.ownsRow base 117 1 v n (U64 xs)) (hn:0 < n) :
  ∃ (g cap:Nat) (rest:List Value),v=.slice (some ⟨g,0,none⟩) n cap∧base≤g∧Blk w g 117 (U64 xs++rest).toArray∧n≤cap∧cap≤maxLen∧n=xs.length:=by
 have hl:n=xs.length:=by have:=h.1;rw [U64_length] at this;omega
 rcases h.2 with ⟨_,h0⟩|⟨g,cap,cur,e,hb,hh,h1,h2,_,h4⟩
 ·omega
 ·refine ⟨g,cap,cur.toList.drop n,e,hb,?_,h1,h2,hl⟩
  have e2:U64 xs++cur.toList.drop n=cur.toList:=by
   rw [← h4,Nat.mul_one,List.take_append_drop]
  rw [e2]
  exact hh
theorem isNat_put {W:World} {v:Value} {n D:Nat} {o o':Obj} (h:IsNat W v n) (hk:W.heap[D]?=some o) (ho:o.isCells=false):IsNat (W.putObj D o') v n:=by
 obtain ⟨A,c,e,h1,h2,h3⟩:=h
 refine ⟨A,c,e,h1,h2,fun h0=>?_⟩
 obtain ⟨b,q,rfl,hb,hc⟩:=h3 h0
 have hg:=grownBy_putObj' W D o'
 exact ⟨b,q,rfl,Nat.lt_of_lt_of_le hb hg.size,fun j x hx=>cell_kept (hc j x hx) hg (fun r e=>by cases e;exact ⟨_,hk,ho⟩)⟩
theorem divmod_long (x y:Nat) (vx vy:Value) (w:World) (hx:IsNat w vx x) (hy:IsNat w vy y) (hlx:(toL x).length≤30000) (hge:y≤x) (hl2:2≤(toL y).length) :
  Calls Tryz.prog 278 #[vx,vy] w fun e w'=>∃ vq vr,e=.returned (.tuple #[vq,vr])∧IsNat w' vq (x / y)∧IsNat w' vr (x % y)∧Below w.heap.size w w':=by
 have HX:=Lib.hid hx
 have HY:=Lib.hid hy
 have hy0:0 < y:=by
  rcases Nat.eq_zero_or_pos y with h0|h0
  ·subst h0;rw [toL_zero] at hl2;simp at hl2
  ·exact h0
 have hly:(toL y).length≤(toL x).length:=toL_len_mono hge
 obtain ⟨s,hs⟩:∃ s,s=B / ((toL y)[(toL y).length - 1]?.getD 0+1):=⟨_,rfl⟩
 obtain ⟨s0,s1,s2⟩:=scaled_len hy0 hs
 have HS2:=Lib.hid s2
 obtain ⟨A,c,rfl,hc,hcm,_⟩:=hx
 obtain ⟨A',c',rfl,hc',hcm',hrow⟩:=hy
 obtain ⟨b,o,rfl,hb,hcell⟩:=hrow (by rw [U64_length];omega)
 have hc0:=hcell ((toL y).length - 1) _ (U64_get (by omega))
 have htop:=(sm_toL y).get ((toL y).length - 1)
 have hd:decide (sgn x y < 0)=false:=by
  rcases Nat.lt_or_ge y x with h|h
  ·rw [sgn_gt h];rfl
  ·rw [Nat.le_antisymm h hge,sgn_self];rfl
 have hne1:(((toL y).length:Int)==1)=false:=by rw [beq_eq_false_iff_ne];omega
 have HGE:=Lib.hid hge
 obtain ⟨i0,hi,hz0,hz1,hz2⟩:=info_parts Tryz.infoU
 clear hcell hrow hge s2
 generalize (toL y)[(toL y).length - 1]?.getD 0=top at *
 have e1:(1000000000:Int) / ((top:Int)+1)=(s:Int):=by rw [hs,B_val,Int.natCast_ediv];rfl
 rw [B_val] at s1 htop
 clear hs
 refine (callsIn_wide (n:=3)).1 ?_
 have h1:1≤3:=by omega
 refine callsIn_of_wp_marks Tryz.func278 rfl trivial ?_ rfl
 simp only [Tryz.ntmps278,List.size_toArray,List.length_cons,List.length_nil,Nat.reduceAdd,Nat.reduceSub,Array.replicate_succ,Array.replicate_zero,List.push_toArray,List.append_toArray,List.nil_append,List.cons_append]
 have TK1:True:=trivial
 have TK2:True:=trivial
 have TK3:True:=trivial
 have TK4:True:=trivial
 gi_upto_region 7 with (clear TK1;refine ⟨trivial,?_⟩;gi_at_call 246;refine (callsIn_wide.2 (cmp_any x y _ _ _ HX.out HY.out (by omega))).mono ?_;rintro e w1 ⟨rfl,hb1⟩;have HB1:=Lib.hid hb1;have hc1:=(hb1.cell (p:=⟨b,o+((toL y).length - 1),none⟩) hb).trans hc0;have hbs:b < w1.heap.size:=Nat.lt_of_lt_of_le hb hb1.size;clear hb1)
 have hbk:Blk (w1.alloc (.cells #[.int .u64 (s:Int)] 117)) w1.heap.size 117 (U64 [s]).toArray:=Blk.new _ _ _
 have hB2:Below w.heap.size w (w1.alloc (.cells #[.int .u64 (s:Int)] 117)):=HB1.out.alloc (HB1.out.size) _
 have hgs:w1.heap.size < (w1.alloc (.cells #[.int .u64 (s:Int)] 117)).heap.size:=by simp
 have hwg:w.heap.size≤w1.heap.size:=HB1.out.size
 generalize w1.alloc (.cells #[.int .u64 (s:Int)] 117)=W2 at *
 generalize w1.heap.size=gs at *
 have HSC:=Lib.hid (isNat_cell (w:=W2) (g:=gs) s0 (by rw [B_val];exact s1) (hbk.getU (i:=0) (Nat.zero_lt_one)) hgs)
 have HGB:=Lib.hid hbk
 have HB2:=Lib.hid hB2
 clear hc1 hbs HB1 hc0 hbk hB2 e1 hd
 have hm1:(toL s).length≤40000:=by rw [toL_small s0 (by rw [B_val];exact s1)];exact Nat.le_of_ble_eq_true rfl
 have hlen1:(toL (x*s)).length≤(toL x).length+1:=toL_len_le (scaled_a_lt (by rw [B_val];exact s1))
 have hlen0:(toL x).length≤(toL (x*s)).length:=toL_len_mono (Nat.le_mul_of_pos_right _ s0)
 gi_upto_region 8 with (first
  | (clear TK2;refine ⟨trivial,?_⟩;gi_at_call 245;refine (callsIn_wide.2 (mul_own x s _ _ _ (HX.out.below HB2.out) HSC.out (by omega) hm1)).mono ?_;rintro e w3 ⟨v3,rfl,ho,hb⟩;obtain ⟨A3,c3,rfl⟩:=slice_of_owns ho;have HO3:=Lib.hid ho;have HB3:=Lib.hid hb;have hs3:=hb.size;clear ho hb)
  | (clear TK3;gi_at_builtin;go_loud (refine wpListIn_append_own _ rfl _ _ 214 rfl W2.heap.size 117 i0 (.int .u64 0) 1 8 Tryz.underlying214 hi hz0 hz1 hz2 rfl (by decide) _ _ _ rfl (HO3.out.alloc _) ⟨w3.heap.size,0,none⟩ 1 1 [.int .u64 0] rfl rfl (cell_one_new _ _ _) (by simp [Value.oneCell']) (by unfold maxLen;omega) (by omega) (by simp;omega) ?_;intro v4 w4 hown4 hgrow4 _);have hb4:Below W2.heap.size W2 w4:=(HB3.out.alloc hs3 _).grown hgrow4 (by simp;omega) (fun k e=>(HO3.out.lt k e).1);have hs4:=hb4.size;have HB4:=Lib.hid hb4;obtain ⟨gu,cu,ru,rfl,hgu,hbu,hcu,hcum,hlu⟩:=owns_blk (xs:=toL (x*s)++[0]) (by rw [← U64_snoc];exact hown4) (by omega);have HBU:=Lib.hid hbu;have HLU:=Lib.hid (And.intro hgu (And.intro hcu (And.intro hcum hlu)));have hgu4:=hbu.lt;clear hown4 hgrow4 hb4 hbu hgu hcu hcum hlu)
  | (clear TK4;refine ⟨trivial,?_⟩;gi_at_call 245;go_loud (refine (callsIn_wide.2 (mul_own y s _ _ _ ((HY.out.below HB2.out).below HB4.out) (HSC.out.below HB4.out) (by omega) hm1)).mono ?_;rintro e w5 ⟨v5,rfl,ho,hb⟩;obtain ⟨gv,cv,rv,rfl,hgv,hbv,hcv,hcvm,hlv⟩:=owns_blk ho (by rw [HS2.out];omega);have HBV:=Lib.hid hbv;have HLV:=Lib.hid (And.intro hgv (And.intro hcv hcvm));have HB5:=Lib.hid hb;have hs5:=hb.size;clear ho hb hbv hgv hcv hcvm hlv)))
 have c0:Boxed ((w5.alloc (.cells #[.slice (some ⟨gu,0,none⟩) ((toL (x*s)).length+1) cu] 214)).alloc (.cells #[.slice (some ⟨gv,0,none⟩) (toL (y*s)).length cv] 214)) w5.heap.size 214 _:=(Boxed.new w5 _ _).alloc _
 have c1:Boxed ((w5.alloc (.cells #[.slice (some ⟨gu,0,none⟩) ((toL (x*s)).length+1) cu] 214)).alloc (.cells #[.slice (some ⟨gv,0,none⟩) (toL (y*s)).length cv] 214)) (w5.heap.size+1) 214 (.slice (some ⟨gv,0,none⟩) (toL (y*s)).length cv):=by
  have:=Boxed.new (w5.alloc (.cells #[.slice (some ⟨gu,0,none⟩) ((toL (x*s)).length+1) cu] 214)) 214 (.slice (some ⟨gv,0,none⟩) (toL (y*s)).length cv)
  rwa [World.size_alloc] at this
 have k0:=((HBU.out.below HB5.out hgu4).alloc (.cells #[.slice (some ⟨gu,0,none⟩) ((toL (x*s)).length+1) cu] 214)).alloc (.cells #[.slice (some ⟨gv,0,none⟩) (toL (y*s)).length cv] 214)
 have k1:=(HBV.out.alloc (.cells #[.slice (some ⟨gu,0,none⟩) ((toL (x*s)).length+1) cu] 214)).alloc (.cells #[.slice (some ⟨gv,0,none⟩) (toL (y*s)).length cv] 214)
 have k2:=(((HGB.out.below HB4.out hgs).below HB5.out (Nat.lt_of_lt_of_le hgs hs4)).alloc (.cells #[.slice (some ⟨gu,0,none⟩) ((toL (x*s)).length+1) cu] 214)).alloc (.cells #[.slice (some ⟨gv,0,none⟩) (toL (y*s)).length cv] 214)
 have k3:Below w.heap.size w ((w5.alloc (.cells #[.slice (some ⟨gu,0,none⟩) ((toL (x*s)).length+1) cu] 214)).alloc (.cells #[.slice (some ⟨gv,0,none⟩) (toL (y*s)).length cv] 214)):=by
  have hb:Below w.heap.size w w5:=HB2.out.trans ((HB4.out.trans (HB5.out.mono hs4)).mono HB2.out.size)
  exact (hb.alloc hb.size _).alloc (by simp;have:=hb.size;omega) _
 have hgv4:w4.heap.size≤gv:=HLV.out.1
 have hgv5:gv < w5.heap.size:=HBV.out.lt
 have hgus:W2.heap.size≤gu:=HLU.out.1
 have hsz6:((w5.alloc (.cells #[.slice (some ⟨gu,0,none⟩) ((toL (x*s)).length+1) cu] 214)).alloc (.cells #[.slice (some ⟨gv,0,none⟩) (toL (y*s)).length cv] 214)).heap.size=w5.heap.size+1+1:=by simp
 generalize (w5.alloc (.cells #[.slice (some ⟨gu,0,none⟩) ((toL (x*s)).length+1) cu] 214)).alloc (.cells #[.slice (some ⟨gv,0,none⟩) (toL (y*s)).length cv] 214)=W6 at *
 have hgv6:gu < gv:=by omega
 have hgs6:gs < gu:=by omega
 have hcu:=HLU.out.2.1
 have hcum:=HLU.out.2.2.1
 have hcv:=HLV.out.2.1
 have hwb:w.heap.size≤w5.heap.size:=by have:=HB2.out.size;omega
 have hwgu:w.heap.size≤gu:=by have:=HB2.out.size;omega
 generalize w5.heap.size=g5 at *
 have HS6:=Lib.hid hsz6
 clear hsz6 hgus hgv4 HBU HBV HGB HB5 HB4 HB3 HO3 HLV HLU hs3 hs4 hs5 hgu4 HSC hgs
 have hx0:=HB2.out.size
 clear HB2 hx0
 generalize hnv:(toL (y*s)).length=nv at *
 have hnv2:nv=(toL y).length:=HS2.out
 clear HS2
 subst hnv2
 have hyx:(toL y).length≤(toL (x*s)).length:=by omega
 have hnle:(toL x).length < (toL (x*s)).length+1:=by omega
 have HLN:=Lib.hid (show (toL (x*s)++[0]).length=(toL (x*s)).length+1 by simp)
 have HS3:=Lib.hid hnv
 clear hnv
 generalize hlu:(toL (x*s)).length+1=lu at *
 generalize hnn:(toL y).length=n at *
 have hln:n < lu:=by omega
 have hlu2:lu≤40000:=by omega
 have HLU:=Lib.hid hlu
 have HNN:=Lib.hid hnn
 clear hlu hnn hlen0 hyx hm1 hlen1
 have hmk:=fun W=>run_makeN (P:=Tryz.prog) Tryz.underlying214 hi hz0 hz1 hz2 (n:=lu - n) (by omega) (C:=(lu:Int) - (n:Int)) (by omega) W
 have hnle2:¬ (lu:Int)≤((toL x).length:Int):=by omega
 have d0:=c0.cell
 have d1:=c1.cell
 have TK5:True:=trivial
 have hg5a:g5 < W6.heap.size:=c0.lt
 have hg5b:g5+1 < W6.heap.size:=c1.lt
 gi_wp2
 gi_loopw [52] (fun _ wr=>wr=W6) (fun _ _=>0)
 case atStart=>rfl
 case round =>
  obtain rfl:=hrel
  gi_wp2_with (clear TK5;refine ⟨trivial,?_⟩;gi_at_call 275;refine (backward_in Fence.wide 2 trivial rfl _ _ _ _).mono ?_;rintro e w' ⟨rfl,rfl⟩)
  have q0:=((((c0).alloc (.cells #[.int .i64 (n:Int)] 3)).alloc (.cells (madeCells #[.int .u64 0] (lu - n)) 117)).alloc (.cells #[.slice (some ⟨wr.heap.size+1,0,none⟩) (lu - n) (lu - n)] 214)).alloc (.cells #[.slice (some ⟨wr.heap.size+1,0,none⟩) (lu - n) (lu - n)] 214)
  have q1:=((((c1).alloc (.cells #[.int .i64 (n:Int)] 3)).alloc (.cells (madeCells #[.int .u64 0] (lu - n)) 117)).alloc (.cells #[.slice (some ⟨wr.heap.size+1,0,none⟩) (lu - n) (lu - n)] 214)).alloc (.cells #[.slice (some ⟨wr.heap.size+1,0,none⟩) (lu - n) (lu - n)] 214)
  have q2:=((((k0).alloc (.cells #[.int .i64 (n:Int)] 3)).alloc (.cells (madeCells #[.int .u64 0] (lu - n)) 117)).alloc (.cells #[.slice (some ⟨wr.heap.size+1,0,none⟩) (lu - n) (lu - n)] 214)).alloc (.cells #[.slice (some ⟨wr.heap.size+1,0,none⟩) (lu - n) (lu - n)] 214)
  have q3:=((((k1).alloc (.cells #[.int .i64 (n:Int)] 3)).alloc (.cells (madeCells #[.int .u64 0] (lu - n)) 117)).alloc (.cells #[.slice (some ⟨wr.heap.size+1,0,none⟩) (lu - n) (lu - n)] 214)).alloc (.cells #[.slice (some ⟨wr.heap.size+1,0,none⟩) (lu - n) (lu - n)] 214)
  have q4:=((((k2).alloc (.cells #[.int .i64 (n:Int)] 3)).alloc (.cells (madeCells #[.int .u64 0] (lu - n)) 117)).alloc (.cells #[.slice (some ⟨wr.heap.size+1,0,none⟩) (lu - n) (lu - n)] 214)).alloc (.cells #[.slice (some ⟨wr.heap.size+1,0,none⟩) (lu - n) (lu - n)] 214)
  have q5:Boxed ((((wr.alloc (.cells #[.int .i64 (n:Int)] 3)).alloc (.cells (madeCells #[.int .u64 0] (lu - n)) 117)).alloc (.cells #[.slice (some ⟨wr.heap.size+1,0,none⟩) (lu - n) (lu - n)] 214)).alloc (.cells #[.slice (some ⟨wr.heap.size+1,0,none⟩) (lu - n) (lu - n)] 214)) wr.heap.size 3 (.int .i64 (n:Int)):=(((Boxed.new wr _ _).alloc (.cells (madeCells #[.int .u64 0] (lu - n)) 117)).alloc (.cells #[.slice (some ⟨wr.heap.size+1,0,none⟩) (lu - n) (lu - n)] 214)).alloc (.cells #[.slice (some ⟨wr.heap.size+1,0,none⟩) (lu - n) (lu - n)] 214)
  have q6:Blk ((((wr.alloc (.cells #[.int .i64 (n:Int)] 3)).alloc (.cells (madeCells #[.int .u64 0] (lu - n)) 117)).alloc (.cells #[.slice (some ⟨wr.heap.size+1,0,none⟩) (lu - n) (lu - n)] 214)).alloc (.cells #[.slice (some ⟨wr.heap.size+1,0,none⟩) (lu - n) (lu - n)] 214)) (wr.heap.size+1) 117 (U64 (List.replicate (lu - n) 0)).toArray:=by
   rw [← U64_zeros]
   have:=((Blk.new (wr.alloc (.cells #[.int .i64 (n:Int)] 3)) 117 (madeCells #[.int .u64 0] (lu - n))).alloc (.cells #[.slice (some ⟨wr.heap.size+1,0,none⟩) (lu - n) (lu - n)] 214)).alloc (.cells #[.slice (some ⟨wr.heap.size+1,0,none⟩) (lu - n) (lu - n)] 214)
   rwa [World.size_alloc] at this
  have q7:Boxed ((((wr.alloc (.cells #[.int .i64 (n:Int)] 3)).alloc (.cells (madeCells #[.int .u64 0] (lu - n)) 117)).alloc (.cells #[.slice (some ⟨wr.heap.size+1,0,none⟩) (lu - n) (lu - n)] 214)).alloc (.cells #[.slice (some ⟨wr.heap.size+1,0,none⟩) (lu - n) (lu - n)] 214)) (wr.heap.size+1+1) 214 (.slice (some ⟨wr.heap.size+1,0,none⟩) (lu - n) (lu - n)):=by
   have:=(Boxed.new ((wr.alloc (.cells #[.int .i64 (n:Int)] 3)).alloc (.cells (madeCells #[.int .u64 0] (lu - n)) 117)) 214 (.slice (some ⟨wr.heap.size+1,0,none⟩) (lu - n) (lu - n))).alloc (.cells #[.slice (some ⟨wr.heap.size+1,0,none⟩) (lu - n) (lu - n)] 214)
   simpa only [World.size_alloc] using this
  have q8:Boxed ((((wr.alloc (.cells #[.int .i64 (n:Int)] 3)).alloc (.cells (madeCells #[.int .u64 0] (lu - n)) 117)).alloc (.cells #[.slice (some ⟨wr.heap.size+1,0,none⟩) (lu - n) (lu - n)] 214)).alloc (.cells #[.slice (some ⟨wr.heap.size+1,0,none⟩) (lu - n) (lu - n)] 214)) (wr.heap.size+1+1+1) 214 (.slice (some ⟨wr.heap.size+1,0,none⟩) (lu - n) (lu - n)):=by
   have:=Boxed.new (((wr.alloc (.cells #[.int .i64 (n:Int)] 3)).alloc (.cells (madeCells #[.int .u64 0] (lu - n)) 117)).alloc (.cells #[.slice (some ⟨wr.heap.size+1,0,none⟩) (lu - n) (lu - n)] 214)) 214 (.slice (some ⟨wr.heap.size+1,0,none⟩) (lu - n) (lu - n))
   simpa only [World.size_alloc] using this
  have hwr:w.heap.size≤wr.heap.size:=k3.size
  have q9:Below w.heap.size w ((((wr.alloc (.cells #[.int .i64 (n:Int)] 3)).alloc (.cells (madeCells #[.int .u64 0] (lu - n)) 117)).alloc (.cells #[.slice (some ⟨wr.heap.size+1,0,none⟩) (lu - n) (lu - n)] 214)).alloc (.cells #[.slice (some ⟨wr.heap.size+1,0,none⟩) (lu - n) (lu - n)] 214)):=(((k3.alloc hwr _).alloc (by simp;omega) _).alloc (by simp;omega) _).alloc (by simp;omega) _
  have hsz7:((((wr.alloc (.cells #[.int .i64 (n:Int)] 3)).alloc (.cells (madeCells #[.int .u64 0] (lu - n)) 117)).alloc (.cells #[.slice (some ⟨wr.heap.size+1,0,none⟩) (lu - n) (lu - n)] 214)).alloc (.cells #[.slice (some ⟨wr.heap.size+1,0,none⟩) (lu - n) (lu - n)] 214)).heap.size=wr.heap.size+1+1+1+1:=by simp
  clear hmk c0 c1 k0 k1 k2 k3 d0 d1
  generalize ((((wr.alloc (.cells #[.int .i64 (n:Int)] 3)).alloc (.cells (madeCells #[.int .u64 0] (lu - n)) 117)).alloc (.cells #[.slice (some ⟨wr.heap.size+1,0,none⟩) (lu - n) (lu - n)] 214)).alloc (.cells #[.slice (some ⟨wr.heap.size+1,0,none⟩) (lu - n) (lu - n)] 214))=W7 at *
  generalize wr.heap.size=h at *
  have hlenO:(toL (x*s)++[0]).length=lu:=by rw [HLN.out]
  have hlenV:(toL (y*s)).length=n:=HS3.out
  have hVn:2≤n:=hl2
  have hys0:0 < y*s:=Nat.mul_pos hy0 s0
  have htopV:=(top_bounds hys0).1
  rw [hlenV] at htopV
  have hstart:LongInv (toL (x*s)++[0]) (toL (y*s)) n (lu - n) (toL (x*s)++[0]) (List.replicate (lu - n) 0):=by
   refine LongInv.start ((sm_toL _).snoc B_pos) (by rw [hlenO];omega) ?_
   have hlx1:(toL (x*s)).length=lu - 1:=by have:=HLU.out;omega
   rw [List.drop_append_of_le_length (by omega),val_snoc,Nat.mul_zero,Nat.add_zero]
   have h1:=val_lt ((sm_toL (x*s)).drop (lu - n))
   rw [List.length_drop,hlx1,show lu - 1 - (lu - n)=n - 1 by omega] at h1
   have h2:=toL_ge (n:=y*s) (by omega)
   rw [hlenV] at h2
   rw [val_toL]
   omega
  refine wpIn_range_ord rfl h1 (gf:=302) (lb:=#[.pointer (some ⟨h+1+1+1,0,none⟩)]) rfl trivial eg_back
   (back_seq Fence.wide 2 trivial rfl (by omega) (fun _ _=>True) (h+1+1+1) (some ⟨h+1,0,none⟩) (lu - n) (lu - n) (by omega)) (fun _=>rfl)
   (fun pre W=>∃ (U Q:List Nat),LongInv (toL (x*s)++[0]) (toL (y*s)) n ((lu - n) - pre.length) U Q∧pre.length≤lu - n ∧
    Boxed W g5 214 (.slice (some ⟨gu,0,none⟩) lu cu)∧Boxed W (g5+1) 214 (.slice (some ⟨gv,0,none⟩) n cv)∧Boxed W h 3 (.int .i64 (n:Int)) ∧
    Boxed W (h+1+1) 214 (.slice (some ⟨h+1,0,none⟩) (lu - n) (lu - n))∧Boxed W (h+1+1+1) 214 (.slice (some ⟨h+1,0,none⟩) (lu - n) (lu - n)) ∧
    Blk W gu 117 (U64 U++ru).toArray∧Blk W gv 117 (U64 (toL (y*s))++rv).toArray∧Blk W gs 117 (U64 [s]).toArray∧Blk W (h+1) 117 (U64 Q).toArray∧Below w.heap.size w W)
   (fun _ _ _=>False)
   ?hG ?hI (fun c s W W' row hs _ _=>hs) ⟨_,_,by rw [List.length_nil,Nat.sub_zero];exact hstart,by simp,q0,q1,q5,q7,q8,q2,q3,q4,q6,q9⟩ ?round ?done ?stop
  case hG =>
   rintro pre W ⟨U,Q,hL,_,_,_,_,_,p8,_,_,_,p6,_⟩
   refine ⟨p8.cell,fun h0=>?_⟩
   exact ⟨h+1,0,rfl,fun i hi=>⟨((Q[i]?.getD 0:Nat):Int),by rw [Nat.zero_add];exact p6.getU (i:=i) (by have:=hL.lq;rw [hlenO] at this;omega),trivial⟩⟩
  case hI =>
   rintro s W W' row ⟨U,Q,g1,g2,g3,g4,g5',g6,g7,g8,g9,g10,g11,g12⟩ hg hr
   exact ⟨U,Q,g1,g2,bx_own g3 hg hr,bx_own g4 hg hr,bx_own g5' hg hr,bx_own g6 hg hr,bx_own g7 hg hr,g8.own_ hg hr,g9.own_ hg hr,g10.own_ hg hr,g11.own_ hg hr,below_own_ g12 (Nat.le_refl _) (by omega) hg hr⟩
  case round =>
   rintro l pre ⟨i,z⟩ W K hi hnx hK
   have HNX:=Lib.hid hnx
   clear hnx q0 q1 q2 q3 q4 q5 q6 q7 q8 q9 hstart
   gi_wp2
   refine hK _ _ (KeepsOthers.refl _) hi ?_
   clear hK hi
   rintro Wb _ ⟨U,Q,hL,hpl,q0,q1,q5,q7,q8,q2,q3,q4,q6,q9⟩
   obtain ⟨m,hm,hcame,hieq,hz⟩:=HNX.out
   dsimp only at hieq hz
   have hml:=hcame.length
   have hil:i < lu - n:=by omega
   have hLi:LongInv (toL (x*s)++[0]) (toL (y*s)) n (i+1) U Q:=by
    have e:lu - n - pre.length=i+1:=by omega
    rw [e] at hL;exact hL
   have hlU:U.length=lu:=by rw [hLi.lu,hlenO]
   have hlQ:Q.length=lu - n:=by have:=hLi.lq;rw [hlenO] at this;omega
   obtain ⟨hD2,hwin,_⟩:=hLi.window hVn (sm_toL _) hlenV htopV (by rw [hlQ];exact hil)
   have hsplit:U64 U++ru=U64 (U.take i)++(U64 ((U.drop i).take (n+1))++(U64 (U.drop (i+(n+1)))++ru)):=by
    rw [← List.append_assoc,← List.append_assoc]
    congr 1
    simp only [U64,← List.map_append]
    congr 1
    rw [show U.drop (i+(n+1))=(U.drop i).drop (n+1) by rw [List.drop_drop],List.append_assoc,List.take_append_drop,List.take_append_drop]
   have HEST:=Lib.hid (fun (W:World) (c2:Nat) (hW:Blk W gu 117 (U64 U++ru).toArray) (hV:Blk W gv 117 (U64 (toL (y*s))++rv).toArray) =>
    est_any (U64 (U.take i)) (U64 (U.drop (i+(n+1)))++ru) ((U.drop i).take (n+1)) (toL (y*s)) n gu i c2 cv (some ⟨gv,0,none⟩) W hD2 (by rw [U64_length,List.length_take];omega) (by omega) (by rw [← hsplit];exact hW)
     (by have hr:=(hV.row).take (toL (y*s)).length;rw [List.take_left' (by rw [U64_length])] at hr;exact hr) (fun a e=>by cases e;dsimp only;omega))
   have HLI:=Lib.hid hLi
   have HLQ:=Lib.hid hlQ
   have HPL:=Lib.hid (show pre.length=lu - n - 1 - i by omega)
   have d0:=q0.cell
   have d1:=q1.cell
   have d5:=q5.cell
   have d7:=q7.cell
   have hgun:g5≠gu:=by omega
   have hi0:(0:Int)≤(i:Int):=by omega
   have hi1:(i:Int) < ((lu - n:Nat):Int):=by omega
   have hi2:(i:Int)+(n:Int)+1≤(lu:Int):=by omega
   have hmx:Tryz.prog.follows .mixedOrders=true:=by kernel_rfl
   have x0':∀ X:SameAt Wb (fun k=>k≠gu∧k≠h+1),X.W.cell? ⟨g5,0,none⟩=_:=fun X=>X.cell (by constructor<;>omega) d0
   have x1':∀ X:SameAt Wb (fun k=>k≠gu∧k≠h+1),X.W.cell? ⟨g5+1,0,none⟩=_:=fun X=>X.cell (by constructor<;>omega) d1
   have x5':∀ X:SameAt Wb (fun k=>k≠gu∧k≠h+1),X.W.cell? ⟨h,0,none⟩=_:=fun X=>X.cell (by constructor<;>omega) d5
   have x7':∀ X:SameAt Wb (fun k=>k≠gu∧k≠h+1),X.W.cell? ⟨h+1+1,0,none⟩=_:=fun X=>X.cell (by constructor<;>omega) d7
   clear hieq hcame hml hL hLi hlU hlQ hD2 hwin hsplit hm hpl hz
   gi_wp2
   refine wpIn_stage (IsSame Wb (fun k=>k≠gu∧k≠h+1)) [0,1,2,3,4,5,6,7,8,9,11] [] hmx (by kernel_rfl) (isSame_of fun _ _=>rfl) ?_
   change wpStage _ _ _ _ _ _ _ _ (3+10) _ _ _
   refine stage_reads [0,1,2,3,4,5,6,7,8,9] 3 _ _ (by kernel_rfl) ?_
   change wpQuietIn _ _ _ _ (fun W=>∃ x:SameAt Wb (fun k=>k≠gu∧k≠h+1),W=x.W) _ _ _
   simp only [pick_cons,pick_nil,List.getElem?_cons_zero,List.getElem?_cons_succ,Option.elim_some]
   repeat (gi_big_quiet_step (fail))
   refine wpQuietIn_nil ?_
   refine stage_one 10 (by kernel_rfl) rfl ?_
   gi_wp2
   refine ⟨trivial,?_⟩
   rw [show i+n+1 - i=n+1 by omega]
   refine (CallsIn.inRound l (callsIn_wide.2 (HEST.out Wb.drew _ q2 q3))).mono ?_
   rintro e W1 ⟨Wd,rfl,hsw,hlw,hvw,hbk,hon⟩
   have HON:=Lib.hid (show Only gu Wb W1 from ⟨⟨hon.1.os,hon.1.tape,hon.1.output,hon.1.size,hon.1.block⟩,hon.2.1,hon.2.2⟩)
   have HBK:=Lib.hid hbk
   have HW:=Lib.hid (And.intro hsw (And.intro hlw hvw))
   have r6:Blk W1 (h+1) 117 (U64 Q).toArray:=(hon.2.2 (h+1) (by omega)).trans q6
   have r6c:=r6.getU (i:=i) (by rw [HLQ.out];exact hil)
   have r6f:=r6.frozen i
   clear hbk hon hsw hlw hvw x0' x1' x5' x7' d0 d1 d5 d7
   gi_wp2
   refine stage_post (isSame_of fun k hk=>HON.out.2.2 k hk.1) ?_
   change wpStage _ _ _ _ _ _ _ _ (1+1) _ _ _
   refine stage_reads [11] 1 _ _ (by kernel_rfl) ?_
   change wpQuietIn _ _ _ _ (fun W=>∃ x:SameAt Wb (fun k=>k≠gu∧k≠h+1),W=x.W) _ _ _
   simp only [pick_cons,pick_nil,List.getElem?_cons_zero,List.getElem?_cons_succ,Option.elim_some]
   repeat (gi_big_quiet_step (fail))
   refine wpQuietIn_nil ?_
   refine stage_one 12 (by kernel_rfl) rfl ?_
   gi_wp2
   refine stage_post (isSame_of fun k hk=>(Below.heap_setCell _ _ _ k hk.2).trans (HON.out.2.2 k hk.1)) ?_
   refine stage_done (by kernel_rfl) ?_
   gi_wp2
   rw [← Int.natCast_ediv]
   obtain ⟨qv,hqv⟩:∃ qv,qv=val ((U.drop i).take (n+1)) / val (toL (y*s)):=⟨_,rfl⟩
   rw [← hqv]
   have hstep:=HLI.out.step hVn (sm_toL _) hlenV htopV (by rw [HLQ.out];exact hil) HW.out.1 HW.out.2.1 hqv HW.out.2.2
   have hkeep:KeepsOthers Wb W1:=⟨Nat.le_of_eq HON.out.2.1.symm,fun k ob hk ho=>by
    have hne:k≠gu:=by
     intro e
     rw [e] at hk
     have h2:=q2
     unfold Blk at h2
     rw [h2] at hk
     cases hk
     exact absurd ho (by simp [Obj.isCells])
    exact (HON.out.2.2 k hne).trans hk⟩
   refine ⟨hkeep.trans (KeepsOthers.setCell _ _ _),U.take i++(Wd++U.drop (i+(n+1))),Q.set i qv,?_,?_,?_,?_,?_,?_,?_,?_,?_,?_,r6.setU i qv,?_⟩
   ·rw [List.length_append,List.length_singleton,show lu - n - (pre.length+1)=i by have:=HPL.out;omega];exact hstep
   ·rw [List.length_append,List.length_singleton];have:=HPL.out;omega
   ·exact bx_far ((HON.out.2.2 g5 hgun).trans q0) (by intro e;dsimp only at e;omega) _
   ·exact bx_far ((HON.out.2.2 (g5+1) (by omega)).trans q1) (by intro e;dsimp only at e;omega) _
   ·exact bx_far ((HON.out.2.2 h (by omega)).trans q5) (by intro e;dsimp only at e;omega) _
   ·exact bx_far ((HON.out.2.2 (h+1+1) (by omega)).trans q7) (by intro e;dsimp only at e;omega) _
   ·exact bx_far ((HON.out.2.2 (h+1+1+1) (by omega)).trans q8) (by intro e;dsimp only at e;omega) _
   ·have h2:=HBK.out.far (p:=⟨h+1,i,none⟩) (by intro e;dsimp only at e;omega) (.int .u64 (qv:Int))
    rw [show U64 (U.take i++(Wd++U.drop (i+(n+1))))++ru=U64 (U.take i)++(U64 Wd++(U64 (U.drop (i+(n+1)))++ru)) by simp [U64]]
    exact h2
   ·exact Blk.far ((HON.out.2.2 gv (by omega)).trans q3) (by intro e;dsimp only at e;omega) _
   ·exact Blk.far ((HON.out.2.2 gs (by omega)).trans q4) (by intro e;dsimp only at e;omega) _
   ·exact (q9.trans (HON.out.1.mono hwgu)).setCell (p:=⟨h+1,i,none⟩) (by dsimp only;omega) _
  case done =>
   rintro D ys W hD hS ⟨U,Q,hL,hpl,q0,q1,q5,q7,q8,q2,q3,q4,q6,q9⟩ hK
   have hlen:=hS.length
   rw [hlen,Nat.sub_self] at hL
   obtain ⟨e1,e2⟩:=hL.done
   have hrest:=hL.rest (sm_toL _) hlenV
   have hOval:val (toL (x*s)++[0])=x*s:=by rw [val_snoc,val_toL];simp
   rw [hOval,val_toL] at e1 e2
   rw [div_scaled s0] at e1
   rw [mod_scaled] at e2
   rw [e2] at hrest
   have hlU:U.length=lu:=by rw [hL.lu,hlenO]
   have hlQ:Q.length=lu - n:=by have:=hL.lq;rw [hlenO] at this;omega
   have HE1:=Lib.hid e1
   have HRS:=Lib.hid hrest
   have HLQ:=Lib.hid hlQ
   have hsU:=hL.su.take n
   have hsQ:=hL.sq
   have hrowU:Row W (some ⟨gu,0,none⟩) (U64 (U.take n)):=by
    have hr:=(q2.row).take n
    rw [List.take_append_of_le_length (by rw [U64_length];omega),← U64_take] at hr
    exact hr
   have hlUn:(U.take n).length=n:=by rw [List.length_take];omega
   have HLU2:=Lib.hid hlUn
   have d0:=q0.cell
   have d5:=q5.cell
   have d7:=q7.cell
   have ds:=q4.getU (i:=0) (Nat.zero_lt_one)
   have hmx:Tryz.prog.follows .mixedOrders=true:=by kernel_rfl
   have hg0:=q0.lt
   have hq6l:=q6.lt
   have hgsW:=q4.lt
   have hgu7:=q2.lt
   have hh:=q5.lt
   have hh2:=q7.lt
   clear hL hS e1 e2 hrest hOval hlU hlQ hlUn
   gi_wp2
   have x0':∀ X:SameAt W (fun k=>k < W.heap.size),X.W.cell? ⟨g5,0,none⟩=_:=fun X=>X.cell hg0 d0
   have x5':∀ X:SameAt W (fun k=>k < W.heap.size),X.W.cell? ⟨h,0,none⟩=_:=fun X=>X.cell hh d5
   have xs':∀ X:SameAt W (fun k=>k < W.heap.size),X.W.cell? ⟨gs,0,none⟩=_:=fun X=>X.cell hgsW ds
   refine wpIn_stage (IsSame W (fun k=>k < W.heap.size)) [0,1,2,4,5,6,8,9,10,11,12] [] hmx (by kernel_rfl) (isSame_of fun _ _=>rfl) ?_
   change wpStage _ _ _ _ _ _ _ _ (7+6) _ _ _
   refine stage_reads [0,1,2,4,5,6] 7 _ _ (by kernel_rfl) ?_
   change wpQuietIn _ _ _ _ (fun W'=>∃ x:SameAt W (fun k=>k < W.heap.size),W'=x.W) _ _ _
   simp only [pick_cons,pick_nil,List.getElem?_cons_zero,List.getElem?_cons_succ,Option.elim_some]
   repeat (gi_big_quiet_step (fail))
   refine wpQuietIn_nil ?_
   refine stage_one 3 (by kernel_rfl) rfl ?_
   gi_wp2
   refine ⟨trivial,?_⟩
   refine (callsIn_wide.2 (trim_any (U.take n) _ n cu W.drew HLU2.out.symm hsU (by rw [HLU2.out];omega) hcum hrowU)).mono ?_
   rintro e w' ⟨rfl,rfl⟩
   rw [HRS.out]
   gi_wp2
   refine stage_post (isSame_of fun _ _=>rfl) ?_
   refine stage_one 7 (by kernel_rfl) rfl ?_
   gi_wp2
   refine ⟨trivial,?_⟩
   refine (callsIn_wide.2 (small_any (x % y*s) s _ W.drew (isNat_trim hsU hrowU (by rw [HLU2.out];omega) hcum HRS.out) ?hlr s0 s1)).mono ?_
   case hlr =>
    rw [← HRS.out]
    have:=toL_len_le_of hsU
    rw [HLU2.out] at this
    omega
   rintro e W2 ⟨vr,rfl,hr,hb⟩
   have hb2:Below W.heap.size W W2:=⟨hb.os,hb.tape,hb.output,hb.size,hb.block⟩
   have HB2:=Lib.hid hb2
   have HR:=Lib.hid hr
   have HWW:=Lib.hid (show Below w.heap.size w W2 from q9.trans (hb2.mono q9.size))
   have d7':=(hb2.cell (p:=⟨h+1+1,0,none⟩) hh2).trans d7
   have hh2':h+1+1 < W2.heap.size:=Nat.lt_of_lt_of_le hh2 hb2.size
   have r6:Blk W2 (h+1) 117 (U64 Q).toArray:=q6.below hb2 hq6l
   have hK2:W2.heap[D]?=some (.deferred (some [])):=(hb2.block D (Array.getElem?_eq_some_iff.1 hK).1).trans hK
   have HK2:=Lib.hid hK2
   clear hb hb2 hr hK2 hK
   gi_wp2
   refine stage_post (isSame_below HB2.out (fun _ h=>h)) ?_
   change wpStage _ _ _ _ _ _ _ _ (0+5) _ _ _
   refine stage_reads [8,9,10,11,12] 0 _ _ (by kernel_rfl) ?_
   change wpQuietIn _ _ _ _ (fun W'=>∃ x:SameAt W (fun k=>k < W.heap.size),W'=x.W) _ _ _
   simp only [pick_cons,pick_nil,List.getElem?_cons_zero,List.getElem?_cons_succ,Option.elim_some]
   repeat (gi_big_quiet_step (fail))
   refine wpQuietIn_nil ?_
   refine stage_done (by kernel_rfl) ?_
   clear x0' x5' xs' d7
   have TKT:True:=trivial
   gi_wp2_with (clear TKT;refine ⟨trivial,?_⟩;gi_at_call 273;refine (callsIn_wide.2 (trim_any Q _ _ _ W2 HLQ.out.symm hsQ (Nat.le_of_eq HLQ.out) (by unfold maxLen;omega) r6.row)).mono ?_;rintro e w' ⟨rfl,rfl⟩)
   refine ⟨by simp,.inl ⟨_,_,rfl,run_takeDeferred HK2.out,?_⟩⟩
   refine ⟨_,results_tmp2 rfl _ _ _,⟨.slice (some ⟨h+1,0,none⟩) (toL (val Q)).length (lu - n),vr,rfl,?_,?_,?_⟩⟩
   ·have hb2:=r6.own_ (B:=0) (grownBy_putObj' _ D (.deferred none)) (fun r e=>by cases e;exact ⟨Nat.zero_le _,_,HK2.out,rfl⟩)
    have hfin:=isNat_trim hsQ hb2.row (c:=lu - n) (Nat.le_of_eq HLQ.out) (by unfold maxLen;omega) HE1.out
    rw [← HE1.out] at hfin ⊢
    exact hfin
   ·have h2:=HR.out
    rw [Nat.mul_div_cancel _ s0] at h2
    exact isNat_put h2 HK2.out rfl
   ·exact HWW.out.trans (belowK_b (w:=w) (Nat.le_refl _) _ D _ _ (by omega) HK2.out rfl rfl)
  case stop =>
   rintro D c pre x' W hD _ h _
   exact h.elim
theorem divmod_any (x y:Nat) (vx vy:Value) (w:World) (hx:IsNat w vx x) (hy:IsNat w vy y) (hlx:(toL x).length≤30000) (hy0:0 < y) :
  Calls Tryz.prog 278 #[vx,vy] w fun e w'=>∃ vq vr,e=.returned (.tuple #[vq,vr])∧IsNat w' vq (x / y)∧IsNat w' vr (x % y)∧Below w.heap.size w w':=by
 by_cases hlt:x < y
 ·exact divmod_less x y vx vy w hx hy (by omega) hlt
 ·by_cases hl:(toL y).length=1
  ·exact divmod_one x y vx vy w hx hy (by omega) (by omega) hl
  ·have:=toL_len_pos.2 (show y≠0 by omega)
   exact divmod_long x y vx vy w hx hy hlx (by omega) (by omega)
end Go.Proofs.YtigapglmipmbeaaGreatDoor
namespace Go.Proofs.YtigapglmipmbeaaGreatDoor
open Go.RowKit Go.Shelf
open Lim
theorem gcd_step (a b:Nat):b.gcd (a % b)=a.gcd b:=by
 rw [Nat.gcd_comm b,← Nat.gcd_rec,Nat.gcd_comm]
theorem gcd_any (x y:Nat) (vx vy:Value) (w:World) (hx:IsNat w vx x) (hy:IsNat w vy y) (hlx:(toL x).length≤30000) (hly:(toL y).length≤30000) :
  Calls Tryz.prog 266 #[vx,vy] w fun e w'=>∃ v,e=.returned v∧IsNat w' v (x.gcd y)∧Below w.heap.size w w':=by
 have HX:=Lib.hid hx
 have HY:=Lib.hid hy
 obtain ⟨A,c,rfl,hc,hcm,_⟩:=hx
 obtain ⟨A',c',rfl,hc',hcm',_⟩:=hy
 go_enter Tryz.func266,Tryz.ntmps266
 go_wp2
 go_loopg [0,1] y (fun k s0 s1 wr=>∃ a b:Nat,IsNat wr s0 a∧IsNat wr s1 b∧a.gcd b=x.gcd y∧(toL a).length≤30000∧(toL b).length≤30000∧b≤k∧Below w.heap.size w wr)
 case atStart=>exact ⟨x,y,HX.out,HY.out,rfl,hlx,hly,Nat.le_refl _,Below.refl _ _⟩
 case round =>
  obtain ⟨a,b,ha,hb,hg,hla,hlb,hbk,hB⟩:=hrel
  have HA:=Lib.hid ha
  have HB:=Lib.hid hb
  have HG:=Lib.hid hg
  have HBW:=Lib.hid hB
  obtain ⟨A1,c1,rfl,hc1,hcm1,_⟩:=ha
  obtain ⟨A2,c2,rfl,hc2,hcm2,_⟩:=hb
  clear hg hB
  by_cases hb0:b=0
  ·subst hb0
   have hl0:(toL 0).length=0:=by rw [toL_zero];rfl
   rw [hl0]
   clear hl0
   go_wp2
   go_ret
   refine ⟨_,rfl,?_,HBW.out⟩
   have:=HG.out
   rw [Nat.gcd_zero_right] at this
   rw [← this]
   exact HA.out
  ·have hpos:0 < b:=by omega
   have hlp:(0:Int) < ((toL b).length:Int):=by have:=toL_len_pos.2 hb0;omega
   have TK1:True:=trivial
   clear hb0
   go_wp2_with (clear TK1;go_at_call 278;refine (divmod_any a b _ _ _ HA.out HB.out hla hpos).mono ?_;rintro e w1 ⟨vq,vr,rfl,hq,hr,hb1⟩;have HR:=Lib.hid hr;have HB1:=Lib.hid hb1;clear hq hr hb1)
   have hm:=Nat.mod_lt a hpos
   go_roundg (a % b)
   case rel=>exact ⟨b,a % b,HB.out.below HB1.out,HR.out,(gcd_step a b).trans HG.out,hlb,Nat.le_trans (toL_len_mono (Nat.le_of_lt hm)) hlb,Nat.le_refl _,HBW.out.trans (HB1.out.mono HBW.out.size)⟩
   case measure=>omega
theorem zero_any (x:Nat) (vx:Value) (w:World) (hx:IsNat w vx x) :
  Calls Tryz.prog 260 #[vx] w fun e w'=>e=.returned (.bool (decide (x=0)))∧w'=w:=by
 obtain ⟨A,c,rfl,hc,hcm,_⟩:=hx
 have hd:(((toL x).length:Int)==0)=decide (x=0):=by
  by_cases h:x=0
  ·subst h;rw [toL_zero];rfl
  ·have:=toL_len_pos.2 h
   rw [decide_eq_false h,beq_eq_false_iff_ne];omega
 go_enter Tryz.func260,Tryz.ntmps260
 go_wp2
 go_ret
 exact ⟨rfl,rfl⟩
theorem one_any (x:Nat) (vx:Value) (w:World) (hx:IsNat w vx x) :
  Calls Tryz.prog 252 #[vx] w fun e w'=>e=.returned (.bool (decide (x=1)))∧w'=w:=by
 obtain ⟨A,c,rfl,hc,hcm,hr⟩:=hx
 have e1:toL 1=[1]:=by rw [toL_pos (by omega)];simp [B_val,toL_zero]
 by_cases hl:(toL x).length=1
 ·obtain ⟨b,o,rfl,hb,hcell⟩:=hr (by rw [U64_length];omega)
  have hc0:=hcell 0 _ (U64_get (by omega))
  rw [Nat.add_zero] at hc0
  obtain ⟨z,hz⟩:=List.length_eq_one_iff.1 hl
  have hv:=val_toL x
  rw [hz] at hc0 hv
  simp only [List.getElem?_cons_zero,Option.getD_some] at hc0
  simp only [val,Nat.mul_zero,Nat.add_zero] at hv
  subst hv
  rw [hl]
  clear hcell hr hl hc hz
  by_cases h1:z=1
  ·subst h1
   go_enter Tryz.func252,Tryz.ntmps252
   go_wp2
   go_ret
   exact ⟨rfl,rfl⟩
  ·have hd:((z:Int)==1)=false:=by rw [beq_eq_false_iff_ne];omega
   have hd2:decide (z=1)=false:=decide_eq_false h1
   rw [hd2]
   clear h1 hd2
   go_enter Tryz.func252,Tryz.ntmps252
   go_wp2
   go_ret
   exact ⟨rfl,rfl⟩
 ·have hd:(((toL x).length:Int)==1)=false:=by rw [beq_eq_false_iff_ne];omega
  have hd2:decide (x=1)=false:=decide_eq_false (fun e=>hl (by rw [e,e1];rfl))
  rw [hd2]
  clear hd2 hl e1
  go_enter Tryz.func252,Tryz.ntmps252
  go_wp2
  go_ret
  exact ⟨rfl,rfl⟩
end Go.Proofs.YtigapglmipmbeaaGreatDoor
namespace Go.Proofs.YtigapglmipmbeaaGreatDoor.Lim
open Go.Lib
def mkQ (m:Bool) (n d:Nat):Rat:=mkRat (if m then -(n:Int) else (n:Int)) d
def ng (q:Rat):Bool:=decide (q.num < 0)
def nm (q:Rat):Nat:=q.num.natAbs
theorem num_of (q:Rat):q.num=if ng q then -(nm q:Int) else (nm q:Int):=by
 unfold ng nm
 by_cases h:q.num < 0
 ·simp [h];omega
 ·simp [h];omega
theorem den_pos (q:Rat):0 < q.den:=Nat.pos_of_ne_zero q.den_nz
theorem ng_nm {q:Rat} (h:ng q=true):nm q≠0:=by
 unfold ng at h;unfold nm
 have:=of_decide_eq_true h
 omega
theorem coprime (q:Rat):(nm q).gcd q.den=1:=q.reduced
theorem mkQ_self (q:Rat):mkQ (ng q) (nm q) q.den=q:=by
 unfold mkQ
 rw [← num_of,Rat.mkRat_self]
theorem nm_zero {q:Rat}:nm q=0↔q=0:=by
 unfold nm
 rw [Int.natAbs_eq_zero,Rat.num_eq_zero]
section
variable {m:Bool} {n d:Nat}
theorem mkQ_den (hd:d≠0):(mkQ m n d).den=d / n.gcd d:=by
 unfold mkQ
 rw [Rat.den_mkRat,if_neg hd]
 cases m<;>simp [Nat.gcd_comm]
theorem mkQ_nm (hd:d≠0):nm (mkQ m n d)=n / n.gcd d:=by
 unfold mkQ nm
 rw [Rat.num_mkRat,if_neg hd]
 cases m with
 | false =>
  simp only [Bool.false_eq_true,if_false,Int.natAbs_natCast]
  rw [← Int.natCast_ediv,Int.natAbs_natCast,Nat.gcd_comm]
 | true =>
  simp only [if_true,Int.natAbs_neg,Int.natAbs_natCast]
  have hdv:((d.gcd n:Nat):Int) ∣ (n:Int):=Int.natCast_dvd_natCast.2 (Nat.gcd_dvd_right d n)
  rw [Int.neg_ediv_of_dvd hdv,Int.natAbs_neg,← Int.natCast_ediv,Int.natAbs_natCast,Nat.gcd_comm]
theorem mkQ_ng (hd:d≠0):ng (mkQ m n d)=(m&&decide (n≠0)):=by
 have h:=mkQ_nm (m:=m) (n:=n) hd
 by_cases h0:n=0
 ·subst h0
  have:mkQ m 0 d=0:=by unfold mkQ;cases m<;>simp
  rw [this]
  simp [ng]
 ·have hg:0 < d.gcd n:=Nat.gcd_pos_of_pos_left _ (Nat.pos_of_ne_zero hd)
  have hpos:0 < n / d.gcd n:=Nat.div_pos (Nat.le_of_dvd (by omega) (Nat.gcd_dvd_right d n)) hg
  unfold ng mkQ
  rw [Rat.num_mkRat,if_neg hd]
  cases m with
  | false =>
   simp only [Bool.false_eq_true,if_false,Int.natAbs_natCast,Bool.false_and,decide_eq_false_iff_not]
   rw [← Int.natCast_ediv]
   omega
  | true =>
   simp only [if_true,Int.natAbs_neg,Int.natAbs_natCast,Bool.true_and]
   have hdv:((d.gcd n:Nat):Int) ∣ (n:Int):=Int.natCast_dvd_natCast.2 (Nat.gcd_dvd_right d n)
   rw [Int.neg_ediv_of_dvd hdv,← Int.natCast_ediv]
   simp [h0]
   omega
theorem mkQ_zero:mkQ m 0 d=0:=by unfold mkQ;cases m<;>simp
theorem mkQ_one_den:(mkQ m n 1).den=1:=by rw [mkQ_den (by omega)];simp
theorem mkQ_low (hd:d≠0) (h:n.gcd d=1):nm (mkQ m n d)=n∧(mkQ m n d).den=d∧ng (mkQ m n d)=(m&&decide (n≠0)):=by
 refine ⟨?_,?_,mkQ_ng hd⟩
 ·rw [mkQ_nm hd,h,Nat.div_one]
 ·rw [mkQ_den hd,h,Nat.div_one]
end
theorem add_same {a b:Rat} (h:ng a=ng b):a+b=mkQ (ng a) (nm a*b.den+nm b*a.den) (a.den*b.den):=by
 rw [Rat.add_def',num_of a,num_of b,← h]
 unfold mkQ
 cases ng a<;>simp
 congr 1
 rw [Int.neg_mul,Int.neg_mul];omega
theorem add_less {a b:Rat} (h:ng a≠ng b) (hlt:nm a*b.den < nm b*a.den):a+b=mkQ (ng b) (nm b*a.den - nm a*b.den) (a.den*b.den):=by
 rw [Rat.add_def',num_of a,num_of b]
 unfold mkQ
 have e:((nm b*a.den - nm a*b.den:Nat):Int)=(nm b:Int)*a.den - (nm a:Int)*b.den:=by
  rw [Int.natCast_sub (Nat.le_of_lt hlt)];simp
 rw [e]
 generalize ng a=x at *
 generalize ng b=y at *
 cases x<;>cases y<;>simp at h ⊢<;>congr 1<;>rw [Int.neg_mul]<;>omega
theorem add_more {a b:Rat} (h:ng a≠ng b) (hlt:¬ nm a*b.den < nm b*a.den):a+b=mkQ (ng a) (nm a*b.den - nm b*a.den) (a.den*b.den):=by
 rw [Rat.add_def',num_of a,num_of b]
 unfold mkQ
 have e:((nm a*b.den - nm b*a.den:Nat):Int)=(nm a:Int)*b.den - (nm b:Int)*a.den:=by
  rw [Int.natCast_sub (Nat.le_of_not_lt hlt)];simp
 rw [e]
 generalize ng a=x at *
 generalize ng b=y at *
 cases x<;>cases y<;>simp at h ⊢<;>congr 1<;>rw [Int.neg_mul]<;>omega
theorem mul_parts (a b:Rat):a*b=mkQ (ng a != ng b) (nm a*nm b) (a.den*b.den):=by
 rw [Rat.mul_def',num_of a,num_of b]
 unfold mkQ
 cases ng a<;>cases ng b<;>simp [Int.neg_mul,Int.mul_neg]
theorem neg_parts (a:Rat):ng (-a)=(!ng a&&decide (nm a≠0))∧nm (-a)=nm a∧(-a).den=a.den:=by
 refine ⟨?_,?_,rfl⟩
 ·unfold ng nm
  rw [Rat.neg_num]
  by_cases h:a.num < 0
  ·simp [h];omega
  ·by_cases h0:a.num=0
   ·simp [h0]
   ·simp [h,h0];omega
 ·unfold nm;rw [Rat.neg_num];simp
theorem inv_parts {a:Rat} (h:a≠0):ng a⁻¹=ng a∧nm a⁻¹=a.den∧(a⁻¹).den=nm a:=by
 have hn:a.num≠0:=fun e=>h (Rat.num_eq_zero.1 e)
 refine ⟨?_,?_,?_⟩
 ·unfold ng
  rw [Rat.num_inv]
  have hd:=den_pos a
  rcases Int.lt_trichotomy a.num 0 with h1|h1|h1
  ·rw [Int.sign_eq_neg_one_of_neg h1];simp [h1];omega
  ·exact absurd h1 hn
  ·rw [Int.sign_eq_one_of_pos h1];simp;omega
 ·unfold nm
  rw [Rat.num_inv,Int.natAbs_mul,Int.natAbs_sign_of_ne_zero hn];simp
 ·rw [Rat.den_inv,if_neg hn];rfl
theorem pow_parts (a:Rat) (n:Nat):nm (a ^ n)=nm a ^ n∧(a ^ n).den=a.den ^ n∧ng (a ^ n)=(ng a&&decide (n % 2=1)):=by
 refine ⟨?_,rfl,?_⟩
 ·unfold nm;rw [Rat.num_pow,Int.natAbs_pow]
 ·have key:∀ (x:Nat),x≠0→∀ n:Nat,((-(x:Int)) ^ n < 0↔n % 2=1):=by
   intro x hx n
   rcases Nat.mod_two_eq_zero_or_one n with h|h
   ·obtain ⟨k,rfl⟩:∃ k,n=2*k:=⟨n / 2,by omega⟩
    rw [Int.pow_mul]
    have:(-(x:Int)) ^ 2=(((x ^ 2:Nat)):Int):=by rw [Int.pow_succ,Int.pow_succ];simp [Nat.pow_succ,Int.neg_mul,Int.mul_neg]
    rw [this,← Int.natCast_pow]
    omega
   ·obtain ⟨k,rfl⟩:∃ k,n=2*k+1:=⟨n / 2,by omega⟩
    rw [Int.pow_succ,Int.pow_mul]
    have:(-(x:Int)) ^ 2=(((x ^ 2:Nat)):Int):=by rw [Int.pow_succ,Int.pow_succ];simp [Nat.pow_succ,Int.neg_mul,Int.mul_neg]
    rw [this,← Int.natCast_pow,Int.mul_neg]
    have hp:0 < (x ^ 2) ^ k*x:=Nat.mul_pos (Nat.pow_pos (Nat.pow_pos (Nat.pos_of_ne_zero hx))) (Nat.pos_of_ne_zero hx)
    have:((((x ^ 2) ^ k:Nat)):Int)*(x:Int)=(((x ^ 2) ^ k*x:Nat):Int):=by simp
    rw [this]
    omega
  unfold ng
  rw [Rat.num_pow]
  by_cases h:a.num < 0
  ·obtain ⟨x,hx⟩:∃ x:Nat,a.num=-(x:Int):=⟨a.num.natAbs,by omega⟩
   rw [hx]
   have:=key x (by omega) n
   simp only [this]
   have h1:decide (-(x:Int) < 0)=true:=by simp;omega
   rw [h1];simp
  ·obtain ⟨x,hx⟩:∃ x:Nat,a.num=(x:Int):=⟨a.num.natAbs,by omega⟩
   rw [hx,← Int.natCast_pow]
   have h1:decide ((x:Int) < 0)=false:=by simp
   have h2:decide (((x ^ n:Nat):Int) < 0)=false:=by rw [decide_eq_false_iff_not];omega
   rw [h1,h2];rfl
def ratText (q:Rat):List UInt8:=(if ng q then [45] else [])++decDigits (nm q)++(if q.den=1 then [] else 47::decDigits q.den)
theorem not_slash {l:List UInt8} (h:Dg l):(47:UInt8) ∉ l:=fun hm=>by have:=isD_iff.1 (h _ hm);simp at this
theorem not_minus {l:List UInt8} (h:Dg l):(45:UInt8) ∉ l:=fun hm=>by have:=isD_iff.1 (h _ hm);simp at this
def cutQ (s:List UInt8):List UInt8 × Option (List UInt8) :=
 if s.contains 47 then (s.takeWhile (· != 47),some ((s.dropWhile (· != 47)).drop 1)) else (s,none)
theorem takeWhile_slash (a r:List UInt8) (h:(47:UInt8) ∉ a):(a++47::r).takeWhile (· != 47)=a∧(a++47::r).dropWhile (· != 47)=47::r:=by
 induction a with
 | nil=>simp
 | cons x a ih =>
  have hx:x≠47:=fun e=>h (by simp [e])
  have:=ih (fun hm=>h (List.mem_cons_of_mem _ hm))
  simp [hx,this]
theorem cutQ_slash {a r:List UInt8} (h:(47:UInt8) ∉ a):cutQ (a++47::r)=(a,some r):=by
 unfold cutQ
 obtain ⟨h1,h2⟩:=takeWhile_slash a r h
 rw [if_pos (by simp),h1,h2]
 rfl
theorem cutQ_none {s:List UInt8} (h:(47:UInt8) ∉ s):cutQ s=(s,none):=by
 unfold cutQ
 rw [if_neg (by simpa using h)]
theorem cutQ_cases (s:List UInt8):(∃ a r,s=a++47::r∧(47:UInt8) ∉ a)∨(47:UInt8) ∉ s:=by
 by_cases h:(47:UInt8)∈s
 ·left
  induction s with
  | nil=>cases h
  | cons x s ih =>
   by_cases hx:x=47
   ·subst hx;exact ⟨[],s,rfl,by simp⟩
   ·have hs:(47:UInt8)∈s:=by
     rcases List.mem_cons.1 h with e|e
     ·exact absurd e.symm hx
     ·exact e
    obtain ⟨a,r,e,hn⟩:=ih hs
    exact ⟨x::a,r,by rw [e];rfl,by simp [hn];exact fun e=>hx e.symm⟩
 ·exact .inr h
def intP (s:List UInt8):Bool × List UInt8:=if s.head?=some 45 then (true,s.drop 1) else (false,s)
def intOk (s:List UInt8):Bool:=NForm (intP s).2&&!((intP s).1&&(intP s).2==[48])
def shapeQ (s:List UInt8):Option (Bool × Nat × Nat × Bool) :=
 if intOk (cutQ s).1 then
  match (cutQ s).2 with
  | none=>some ((intP (cutQ s).1).1,dv (intP (cutQ s).1).2,1,false)
  | some d=>if (intP (cutQ s).1).2 != [48]&&(NForm d&&(d != [48]&&d != [49])) then some ((intP (cutQ s).1).1,dv (intP (cutQ s).1).2,dv d,true) else none
 else none
def maxD:Nat:=4000
def errQ (s:List UInt8):Nat :=
 match shapeQ s with
 | none=>3
 | some (_,n,d,sl)=>if maxD < nDigits n∨maxD < nDigits d then 5 else if sl&&n.gcd d != 1 then 3 else 0
def valQ (s:List UInt8):Rat :=
 match shapeQ s with
 | none=>0
 | some (m,n,d,_)=>mkQ m n d
theorem dec_zero:decDigits 0=[48]:=decDigits_one (by omega)
theorem dec_one:decDigits 1=[49]:=decDigits_one (by omega)
theorem intP_dec (n:Nat):intP (decDigits n)=(false,decDigits n):=by
 unfold intP
 rw [if_neg]
 intro e
 exact not_minus (decDigits_dg n) (List.mem_of_mem_head? (by rw [e];rfl))
theorem intP_minus (n:Nat):intP (45::decDigits n)=(true,decDigits n):=by unfold intP;simp
theorem nform_dec (n:Nat):NForm (decDigits n)=true:=NForm_iff.2 ⟨n,rfl⟩
theorem dec_ne_zero {n:Nat} (h:n≠0):decDigits n≠[48]:=fun e=>h (decDigits_inj (e.trans dec_zero.symm))
theorem dec_ne_one {n:Nat} (h:n≠1):decDigits n≠[49]:=fun e=>h (decDigits_inj (e.trans dec_one.symm))
theorem shapeQ_text (m:Bool) (n d:Nat) (hm:m=true→n≠0) (hd:d≠0) (hn:d≠1→n≠0) :
  shapeQ ((if m then [45] else [])++decDigits n++(if d=1 then [] else 47::decDigits d))=some (m,n,d,decide (d≠1)):=by
 have hi:intP ((if m then [45] else [])++decDigits n)=(m,decDigits n):=by
  cases m with
  | false=>simpa using intP_dec n
  | true=>simpa using intP_minus n
 have hok:intOk ((if m then [45] else [])++decDigits n)=true:=by
  unfold intOk
  rw [hi]
  simp only [nform_dec,Bool.true_and,Bool.not_eq_true',Bool.and_eq_false_iff]
  cases m with
  | false=>left;rfl
  | true=>right;simpa using dec_ne_zero (hm rfl)
 have hns:(47:UInt8) ∉ (if m then [45] else [])++decDigits n:=by
  intro h
  rcases List.mem_append.1 h with h|h
  ·cases m<;>simp at h
  ·exact not_slash (decDigits_dg n) h
 unfold shapeQ
 by_cases h1:d=1
 ·subst h1
  rw [if_pos rfl,List.append_nil,cutQ_none hns]
  dsimp only
  rw [if_pos hok,hi,dv_decDigits]
  simp
 ·rw [if_neg h1,cutQ_slash hns]
  dsimp only
  rw [if_pos hok,hi,dv_decDigits,dv_decDigits]
  have e1:=dec_ne_zero (hn h1)
  have e2:=dec_ne_zero hd
  have e3:=dec_ne_one h1
  simp [e1,e2,e3,nform_dec,h1]
theorem text_of_shape {s:List UInt8} {m sl:Bool} {n d:Nat} (h:shapeQ s=some (m,n,d,sl)) :
  s=(if m then [45] else [])++decDigits n++(if d=1 then [] else 47::decDigits d)∧(m=true→n≠0)∧d≠0∧sl=decide (d≠1)∧(d≠1→n≠0):=by
 have hint:∀ t,intOk t=true→t=(if (intP t).1 then [45] else [])++decDigits (dv (intP t).2)∧((intP t).1=true→dv (intP t).2≠0):=by
  intro t ht
  unfold intOk at ht
  simp only [Bool.and_eq_true,Bool.not_eq_true',Bool.and_eq_false_iff] at ht
  obtain ⟨h1,h2⟩:=ht
  rw [(NForm.eq h1)]
  refine ⟨?_,fun hm=>?_⟩
  ·unfold intP
   by_cases hh:t.head?=some 45
   ·rw [if_pos hh]
    cases t with
    | nil=>cases hh
    | cons x r=>simp at hh;subst hh;simp
   ·rw [if_neg hh];simp
  ·rcases h2 with h2|h2
   ·rw [hm] at h2;cases h2
   ·intro h0
    have:=(NForm.eq h1)
    rw [h0,dec_zero] at this
    rw [← this] at h2
    simp at h2
 unfold shapeQ at h
 split at h
 ·rename_i hok
  obtain ⟨e1,e2⟩:=hint _ hok
  rcases cutQ_cases s with ⟨a,r,rfl,hn⟩|hn
  ·rw [cutQ_slash hn] at h hok e1 e2
   dsimp only at h hok e1 e2
   split at h
   ·rename_i hc
    simp only [Option.some.injEq,Prod.mk.injEq] at h
    obtain ⟨rfl,rfl,rfl,rfl⟩:=h
    simp only [Bool.and_eq_true,bne_iff_ne,ne_eq] at hc
    obtain ⟨c1,c2,c3,c4⟩:=hc
    have hr:=(NForm.eq c2)
    have hd0:dv r≠0:=fun e=>by rw [e,dec_zero] at hr;exact c3 hr.symm
    have hd1:dv r≠1:=fun e=>by rw [e,dec_one] at hr;exact c4 hr.symm
    refine ⟨?_,e2,hd0,by simp [hd1],fun _ h0=>?_⟩
    ·rw [if_neg hd1,hr,← e1]
    ·have hok2:=hok
     unfold intOk at hok2
     simp only [Bool.and_eq_true] at hok2
     have:=(NForm.eq hok2.1)
     rw [h0,dec_zero] at this
     exact c1 this.symm
   ·cases h
  ·rw [cutQ_none hn] at h hok e1 e2
   dsimp only at h hok e1 e2
   simp only [Option.some.injEq,Prod.mk.injEq] at h
   obtain ⟨rfl,rfl,rfl,rfl⟩:=h
   refine ⟨by simpa using e1,e2,by omega,by simp,fun h=>absurd rfl h⟩
 ·cases h
theorem shapeQ_rat (q:Rat):shapeQ (ratText q)=some (ng q,nm q,q.den,decide (q.den≠1)):=by
 refine shapeQ_text _ _ _ ng_nm q.den_nz (fun h h0=>h ?_)
 have:=coprime q
 rw [h0] at this
 simpa using this
theorem valQ_rat (q:Rat):valQ (ratText q)=q:=by unfold valQ;rw [shapeQ_rat];exact mkQ_self q
theorem errQ_rat {q:Rat} (h1:nDigits (nm q)≤maxD) (h2:nDigits q.den≤maxD):errQ (ratText q)=0:=by
 unfold errQ
 rw [shapeQ_rat]
 dsimp only
 rw [if_neg (by omega),coprime]
 simp
theorem text_of_ok {s:List UInt8} (h:errQ s=0):s=ratText (valQ s)∧nDigits (nm (valQ s))≤maxD∧nDigits (valQ s).den≤maxD:=by
 unfold errQ at h
 unfold valQ
 cases hs:shapeQ s with
 | none=>rw [hs] at h;simp at h
 | some x =>
  obtain ⟨m,n,d,sl⟩:=x
  rw [hs] at h
  dsimp only at h ⊢
  obtain ⟨e1,e2,e3,e4,e5⟩:=text_of_shape hs
  split at h
  ·cases h
  ·rename_i hmx
   split at h
   ·cases h
   ·rename_i hg
    have hgc:n.gcd d=1:=by
     by_cases h1:d=1
     ·subst h1;simp
     ·rw [e4] at hg;simpa [h1] using hg
    obtain ⟨q1,q2,q3⟩:=mkQ_low (m:=m) e3 hgc
    have q4:ng (mkQ m n d)=m:=by
     rw [q3]
     cases m with
     | false=>rfl
     | true=>simpa using e2 rfl
    refine ⟨?_,by rw [q1];omega,by rw [q2];omega⟩
    unfold ratText
    rw [q1,q2,q4]
    exact e1
theorem index_slash:∀ (a r:List UInt8),(47:UInt8) ∉ a→Lib.index (a++47::r) [47]=(a.length:Int)
 | [],r,_=>by unfold Lib.index;simp [List.isPrefixOf]
 | x::a,r,h=>by
  have hx:(47:UInt8)≠x:=fun e=>h (by simp [e])
  have ih:=index_slash a r (fun hm=>h (List.mem_cons_of_mem _ hm))
  have h1:([47]:List UInt8).isPrefixOf (x::(a++47::r))=false:=by simp [List.isPrefixOf,hx]
  rw [List.cons_append,Lib.index,h1,ih]
  have h2:((a.length:Int)==-1)=false:=by rw [beq_eq_false_iff_ne];omega
  rw [h2]
  simp
theorem index_noslash:∀ (s:List UInt8),(47:UInt8) ∉ s→Lib.index s [47]=-1
 | [],_=>by unfold Lib.index;simp
 | x::a,h=>by
  have hx:(47:UInt8)≠x:=fun e=>h (by simp [e])
  have ih:=index_noslash a (fun hm=>h (List.mem_cons_of_mem _ hm))
  have h1:([47]:List UInt8).isPrefixOf (x::a)=false:=by simp [List.isPrefixOf,hx]
  rw [Lib.index,h1,ih]
  simp
theorem cut_eq (s:List UInt8):Lib.cut s [47]=((cutQ s).1,(cutQ s).2.getD [],(cutQ s).2.isSome):=by
 unfold Lib.cut
 rcases cutQ_cases s with ⟨a,r,rfl,hn⟩|hn
 ·rw [index_slash a r hn,cutQ_slash hn,if_pos (by omega)]
  simp
 ·rw [index_noslash s hn,cutQ_none hn,if_neg (by omega)]
  simp
def outQ (q:Rat):List UInt8 × Nat:=if maxD < nDigits (nm q)∨maxD < nDigits q.den then ([],5) else (ratText q,0)
def oneQ (f:Rat→List UInt8 × Nat) (a:List UInt8):List UInt8 × Nat:=if errQ a≠0 then ([],errQ a) else f (valQ a)
def twoQ (f:Rat→Rat→List UInt8 × Nat) (a b:List UInt8):List UInt8 × Nat :=
 if errQ a≠0 then ([],errQ a) else if errQ b≠0 then ([],errQ b) else f (valQ a) (valQ b)
end Go.Proofs.YtigapglmipmbeaaGreatDoor.Lim
