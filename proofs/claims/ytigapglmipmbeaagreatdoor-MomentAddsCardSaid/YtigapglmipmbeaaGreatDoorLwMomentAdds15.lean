/- moment.Of: the walk. -/
import Derived.Test.YtigapglmipmbeaaGreatDoorLwMomentAdds14
import Derived.Test.YtigapglmipmbeaaGreatDoorLwMomentAdds10
import Derived.Test.YtigapglmipmbeaaGreatDoorLwMomentAdds02
import Derived.Test.YtigapglmipmbeaaGreatDoorLwMomentAdds07
import Derived.OwnWalkIn
import Derived.Test.YtigapglmipmbeaaGreatDoorLwMomentAdds12
set_option maxRecDepth 100000
set_option maxHeartbeats 16000000
open Go.Proofs.Tryz
namespace Go.Proofs.YtigapglmipmbeaaGreatDoor
open Go.RowKit Go.Shelf
open Lim
attribute [local go_sem] Oper.semAt_some
def b4H(n:Int)(a:ByteArray)(m:Int)(r:ByteArray):Prop:=∀ (h:Nat) (w:World),Res w→Blk w h 157 #[.int .i64 n]→Calls prog 141 #[.pointer (some ⟨h,0,none⟩),.string a,.int .i64 m] w fun e w'=>e=.returned (.string r)∧Below w.heap.size w w'
def a4S(F L:ByteArray):Nat:=if errQ F.data.toList≠0 then errQ F.data.toList else if errQ L.data.toList≠0 then errQ L.data.toList else if cmpQ (valQ F.data.toList) 1 < 0∨errU L≠0 then 2 else 0
structure b0d (w:World) (F L:ByteArray) (W:World):Prop where
 kf:Blk W w.heap.size 23 #[.string F]
 kz:CBlk W (w.heap.size+1) zC
 ks:Blk W (w.heap.size+1+1) 23 #[.string F,.string L]
 below:Below w.heap.size w W
theorem b0d.later{w W W':World}{F L:ByteArray}(h:b0d w F L W)(hb:Below W.heap.size W W'):b0d w F L W' :=
 ⟨h.kf.below hb h.kf.lt,h.kz.later hb,h.ks.below hb h.ks.lt,h.below.trans (hb.mono h.below.size)⟩
theorem b0d.new(w:World)(F L:ByteArray):b0d w F L (((w.alloc (.cells #[.string F] 23)).alloc (cvO zC)).alloc (.cells #[.string F,.string L] 23)):=by
 have k1:=Blk.new w 23 #[.string F];have k2:=CBlk.new (w.alloc (.cells #[.string F] 23)) zC;have k3:=Blk.new ((w.alloc (.cells #[.string F] 23)).alloc (cvO zC)) 23 #[.string F,.string L];rw[World.size_alloc]at k2;rw[World.size_alloc,World.size_alloc]at k3;exact⟨(k1.alloc _).alloc _,k2.alloc _,k3,a0d (a0d (a0d (Below.refl _ _) _) _) _⟩
def two2(F L:ByteArray):Nat→ByteArray:=fun k=>if k=0 then F else L
structure OfAt (w:World) (gh gn:Nat) (F nx:ByteArray) (r:CT) (m:Nat) (W:World):Prop where
 kf:Blk W w.heap.size 23 #[.string F]
 kz:CBlk W (w.heap.size+1) zC
 kh:Blk W gh 157 #[.int .i64 0]
 kn:Blk W gn 23 #[.string nx]
 ku:CBlk W (gn+1) (mixC (b05 (r 7)) r m)
 ko:CBlk W (gn+1+1) (b05 (r 7))
 below:Below w.heap.size w W
theorem OfAt.later{w W W':World}{gh gn:Nat}{F nx:ByteArray}{r:CT}{m:Nat}(h:OfAt w gh gn F nx r m W)(hb:Below W.heap.size W W'):OfAt w gh gn F nx r m W' :=
 ⟨h.kf.below hb h.kf.lt,h.kz.later hb,h.kh.below hb h.kh.lt,h.kn.below hb h.kn.lt,h.ku.later hb,h.ko.later hb,h.below.trans (hb.mono h.below.size)⟩
theorem OfAt.cells7{w W:World}{gh gn:Nat}{F nx:ByteArray}{r:CT}(h:OfAt w gh gn F nx r 7 W):W.cell? ⟨gn+1,0,none⟩=some (.string (r 0))∧W.cell? ⟨gn+1,1,none⟩=some (.string (r 1))∧W.cell? ⟨gn+1,2,none⟩=some (.string (r 2))∧W.cell? ⟨gn+1,3,none⟩=some (.string (r 3)) ∧
  W.cell? ⟨gn+1,4,none⟩=some (.string (r 4))∧W.cell? ⟨gn+1,5,none⟩=some (.string (r 5))∧W.cell? ⟨gn+1,6,none⟩=some (.string (r 6))∧W.cell? ⟨gn+1,7,none⟩=some (.string (r 7)):=h.ku.cells
theorem a7Y{F:Fence}{n:Nat}{fn:Func}{tmps:Array Value}{R:Ending→World→Prop}{p u:Tmp}{W w:World}{g:Nat}{z c:CT}(hres:fn.results=#[.cell p 59,.tmp u])(hp:tmps.getD p undef=.pointer (some ⟨g,0,none⟩))(hz:CBlk W g z)
  (hg:w.heap.size≤g) (hB:Below w.heap.size w W) (hR:∀ W',Below w.heap.size w W'→R (.returned (.tuple #[cv c,tmps.getD u undef])) W') :
  bodyPostM F n prog fn R .ret { tmps:=tmps,defers:=[] } (fin8 W g c) :=
 a4D ⟨_,a2c hres hp (a4v (a3w c hz)),hR _ (a2h hB hg c)⟩
theorem b2f(F:Fence)(n:Nat)(hF:F.fn 151)(hro:F.round=none)(x:ByteArray)(w:World) :
  CallsIn F n prog 151 #[.agg #[.string ⟨#[]⟩,.string ⟨#[]⟩,.string ⟨#[]⟩,.string ⟨#[]⟩,.string ⟨#[]⟩,.string ⟨#[]⟩,.string ⟨#[]⟩,.string x]] w fun e w'=>e=.returned (.func (.func 230) #[] #[.pointer (some ⟨w.heap.size,0,none⟩)]) ∧
   w'=w.alloc (.cells #[.string ⟨#[]⟩,.string ⟨#[]⟩,.string ⟨#[]⟩,.string ⟨#[]⟩,.string ⟨#[]⟩,.string ⟨#[]⟩,.string ⟨#[]⟩,.string x] 59):=a8N F n hF hro (b05 x) w
structure OfCh (w:World) (gh:Nat) (F:ByteArray) (W:World):Prop where
 kf:Blk W w.heap.size 23 #[.string F]
 kz:CBlk W (w.heap.size+1) zC
 kh:Blk W gh 157 #[.int .i64 0]
 below:Below w.heap.size w W
theorem OfCh.later{w W W':World}{gh:Nat}{F:ByteArray}(h:OfCh w gh F W)(hb:Below W.heap.size W W'):OfCh w gh F W' :=
 ⟨h.kf.below hb h.kf.lt,h.kz.later hb,h.kh.below hb h.kh.lt,h.below.trans (hb.mono h.below.size)⟩
theorem b0d.chain{w W:World}{F L:ByteArray}(h:b0d w F L W):OfCh w W.heap.size F (W.alloc (.cells #[.int .i64 0] 157)) :=
 have hb:=a0d (Below.refl W.heap.size W) (.cells #[.int .i64 0] 157)
 ⟨h.kf.below hb h.kf.lt,h.kz.later hb,Blk.new W 157 #[.int .i64 0],h.below.trans (hb.mono h.below.size)⟩
theorem OfCh.at{w W:World}{gh:Nat}{F nx:ByteArray}{r:CT}(h:OfCh w gh F W):OfAt w gh W.heap.size F nx r 0 (((W.alloc (.cells #[.string nx] 23)).alloc (.cells #[.string ⟨#[]⟩,.string ⟨#[]⟩,.string ⟨#[]⟩,.string ⟨#[]⟩,.string ⟨#[]⟩,.string ⟨#[]⟩,.string ⟨#[]⟩,.string (r 7)] 59)).alloc (.cells #[.string ⟨#[]⟩,.string ⟨#[]⟩,.string ⟨#[]⟩,.string ⟨#[]⟩,.string ⟨#[]⟩,.string ⟨#[]⟩,.string ⟨#[]⟩,.string (r 7)] 59)):=by
 have hb:=a0d (a0d (a0d (Below.refl W.heap.size W) (.cells #[.string nx] 23)) (.cells #[.string ⟨#[]⟩,.string ⟨#[]⟩,.string ⟨#[]⟩,.string ⟨#[]⟩,.string ⟨#[]⟩,.string ⟨#[]⟩,.string ⟨#[]⟩,.string (r 7)] 59)) (.cells #[.string ⟨#[]⟩,.string ⟨#[]⟩,.string ⟨#[]⟩,.string ⟨#[]⟩,.string ⟨#[]⟩,.string ⟨#[]⟩,.string ⟨#[]⟩,.string (r 7)] 59);have k1:=((Blk.new W 23 #[.string nx]).alloc (.cells #[.string ⟨#[]⟩,.string ⟨#[]⟩,.string ⟨#[]⟩,.string ⟨#[]⟩,.string ⟨#[]⟩,.string ⟨#[]⟩,.string ⟨#[]⟩,.string (r 7)] 59)).alloc (.cells #[.string ⟨#[]⟩,.string ⟨#[]⟩,.string ⟨#[]⟩,.string ⟨#[]⟩,.string ⟨#[]⟩,.string ⟨#[]⟩,.string ⟨#[]⟩,.string (r 7)] 59);have k2:CBlk _ _ (b05 (r 7)):=(CBlk.new (W.alloc (.cells #[.string nx] 23)) (b05 (r 7))).alloc (.cells #[.string ⟨#[]⟩,.string ⟨#[]⟩,.string ⟨#[]⟩,.string ⟨#[]⟩,.string ⟨#[]⟩,.string ⟨#[]⟩,.string ⟨#[]⟩,.string (r 7)] 59);have k3:CBlk (((W.alloc (.cells #[.string nx] 23)).alloc (.cells #[.string ⟨#[]⟩,.string ⟨#[]⟩,.string ⟨#[]⟩,.string ⟨#[]⟩,.string ⟨#[]⟩,.string ⟨#[]⟩,.string ⟨#[]⟩,.string (r 7)] 59)).alloc (.cells #[.string ⟨#[]⟩,.string ⟨#[]⟩,.string ⟨#[]⟩,.string ⟨#[]⟩,.string ⟨#[]⟩,.string ⟨#[]⟩,.string ⟨#[]⟩,.string (r 7)] 59)) ((W.alloc (.cells #[.string nx] 23)).alloc (.cells #[.string ⟨#[]⟩,.string ⟨#[]⟩,.string ⟨#[]⟩,.string ⟨#[]⟩,.string ⟨#[]⟩,.string ⟨#[]⟩,.string ⟨#[]⟩,.string (r 7)] 59)).heap.size (b05 (r 7)):=CBlk.new ((W.alloc (.cells #[.string nx] 23)).alloc (.cells #[.string ⟨#[]⟩,.string ⟨#[]⟩,.string ⟨#[]⟩,.string ⟨#[]⟩,.string ⟨#[]⟩,.string ⟨#[]⟩,.string ⟨#[]⟩,.string (r 7)] 59)) (b05 (r 7));rw[World.size_alloc]at k2;rw[World.size_alloc,World.size_alloc]at k3;exact⟨h.kf.below hb h.kf.lt,h.kz.later hb,h.kh.below hb h.kh.lt,k1,by rw[b0T];exact k2,k3,h.below.trans (hb.mono h.below.size)⟩
def b2O(r:CT)(n:Nat):Value:=if n=0 then .tuple #[cv r,.int .i64 0] else .tuple #[cv zC,.int .i64 (n:Int)]
theorem b76(r:CT):b2O r 0=.tuple #[cv r,.int .i64 0]:=rfl
theorem b8f(r:CT){n:Nat}(h:n≠0):b2O r n=.tuple #[cv zC,.int .i64 (n:Int)]:=if_neg h
theorem b7r(F L nx:ByteArray)(x y s r:CT)(w:World)(hF:F.size≤270000)(hL:L.size≤270000)(hr:Res w)(hr7:r 7=L)
  (HN:Hid (a4S F L=0→DoIs 0 107 F ⟨#[49]⟩ nx)) (HX:Hid (a4S F L=0→∀ i:Nat,i < 7→b4H 0 F ((i:Int)+2) (x i))) (HY:Hid (a4S F L=0→∀ i:Nat,i < 7→b4H 0 F (1 - ((i:Int)+2)) (y i)))
  (HS:Hid (a4S F L=0→∀ i:Nat,i < 7→DoIs 0 107 (x i) (y i) (s i))) (HD:Hid (a4S F L=0→∀ i:Nat,i < 7→DoIs 0 133 (s i) nx (r i))) :
  Calls prog 62 #[.string F,.string L] w fun e w'=>e=.returned (b2O r (a4S F L))∧Below w.heap.size w w':=by
 subst hr7;have H0:=b9W (b0d.new w F (r 7));have HR:=b9W hr;have HSZ:=b9W (And.intro hF hL);clear hr hF hL;refine(callsIn_wide (n:=3)).1 ?_;have h1:1≤3:=by omega
 have hmx:prog.follows .mixedOrders=true:=by kernel_rfl
 refine callsIn_of_wp_marks func62 rfl trivial ?_ rfl
 simp only[ntmps62,List.size_toArray,List.length_cons,List.length_nil,Nat.reduceAdd,Nat.reduceSub,Array.replicate_succ,Array.replicate_zero,List.push_toArray,List.append_toArray,List.nil_append,List.cons_append]
 gi_wp2
 gi_loopw [19] (fun v19 wr=>∃ k:Nat,k≤2∧v19=.int .i64 (k:Int)∧Hid (∀ j,j < k→errQ (two2 F (r 7) j).data.toList=0)∧Hid (b0d w F (r 7) wr)) (fun v19 _=>2 - (intOf v19).toNat)
 case atStart=>exact⟨0,by omega,rfl,b9W (fun j h=>absurd h (by omega)),H0⟩
 case round =>
  obtain⟨k,hk,rfl,HE,HM⟩:=hrel;clear H0
  rcases Nat.lt_or_ge k 2 with hlt|hge
  ·have hck:wr.cell? ⟨w.heap.size+1+1,k,none⟩=some (.string (two2 F (r 7) k)):=by
    have:=a06 HM.out.ks
    match k,hlt with
    | 0,_=>exact this.1
    | 1,_=>exact this.2
   have hlt':(k:Int) < 2:=by omega
   have hsz:(two2 F (r 7) k).size≤270000:=by
    unfold two2
    split
    ·exact HSZ.out.1
    ·exact HSZ.out.2
   have hF:=a3j (two2 F (r 7) k) wr hsz (HR.out.below HM.out.below)
   by_cases he:errQ (two2 F (r 7) k).data.toList=0
   ·rw[he]at hF
    have HF:=b9W hF;have HE1:=b9W he;clear hF he hsz
    gi_wp2_with (refine⟨trivial,?_⟩;gi_at_call 138;refine(callsIn_wide.2 HF.out).mono ?_;rintro e w1 ⟨rfl,hb⟩;have HM1:=b9W (HM.out.later hb);clear hb)
    go_roundw
    case rel=>exact⟨k+1,hlt,by go_num,b9W (fun j hj=>by
     rcases Nat.lt_or_ge j k with h|h
     ·exact HE.out j h
     ·obtain rfl:j=k:=by omega
      exact HE1.out),HM1⟩
    case measure=>simp[intOf];omega
   ·have HEO:Hid (a4S F (r 7)=errQ (two2 F (r 7) k).data.toList):=b9W (by
     unfold a4S
     match k,hlt,HE,he with
     | 0,_,_,he=>exact if_pos he
     | 1,_,HE,he =>
      have h0:errQ F.data.toList=0:=HE.out 0 (by omega);rw[if_neg (by omega)];exact if_pos he)
    obtain⟨z,hz⟩:∃ z:Int,(errQ (two2 F (r 7) k).data.toList:Int)=z:=⟨_,rfl⟩;rw[hz]at hF;have hne:(z==0)=false:=by rw[beq_eq_false_iff_ne];omega
    have HRS:Hid (b2O r (a4S F (r 7))=.tuple #[cv zC,.int .i64 z]):=b9W (by rw[HEO.out,b8f r he,hz]);have HF:=b9W hF;clear hF he hz hsz
    gi_wp2_with (refine⟨trivial,?_⟩;gi_at_call 138;refine(callsIn_wide.2 HF.out).mono ?_;rintro e w1 ⟨rfl,hb⟩;have HM1:=b9W (HM.out.later hb);obtain⟨z0,z1,z2,z3,z4,z5,z6,z7⟩:=HM1.out.kz.cells;obtain⟨y0,y1,y2,y3,y4,y5,y6,y7⟩:=HM1.out.kz.frozens;clear hb)
    exact a7Y (g:=w.heap.size+1) (c:=zC) rfl rfl HM1.out.kz (Nat.le_succ _) HM1.out.below (fun W' h=>⟨by rw[HRS.out];rfl,h⟩)
  ·obtain rfl:k=2:=by omega
   have he0:errQ F.data.toList=0:=HE.out 0 (by omega);have he1:errQ (r 7).data.toList=0:=HE.out 1 (by omega);have TF:=IsT.of he0;have TL:=IsT.of he1;have eo:a4S F (r 7)=if cmpQ (valQ F.data.toList) 1 < 0∨errU (r 7)≠0 then 2 else 0:=by
    unfold a4S;rw[if_neg (by omega),if_neg (by omega)]
   have hcf:=cell0 HM.out.kf;have HL:=b9W (a5H wr TF (HR.out.below HM.out.below));have HBW:=b9W (fun (w:World) hr=>a8j w TL hr);have HEO:=b9W eo;clear HE he0 he1 TF TL eo hk hge;generalize hkk:cmpQ (valQ F.data.toList) 1=kk at HL HEO;clear hkk
   by_cases hk0:0≤kk
   ·have d1:decide (0≤kk)=true:=decide_eq_true hk0
    have n1:¬ kk < 0:=by omega
    by_cases hu:errU (r 7)=0
    ·rw[hu]at HBW
     have e0:a4S F (r 7)=0:=by
      rw[HEO.out,if_neg];rintro (h|h)
      ·exact n1 h
      ·exact h hu
     have HN:=b9W (HN.out e0);have HX:=b9W (HX.out e0);have HY:=b9W (HY.out e0);have HS:=b9W (HS.out e0);have HD:=b9W (HD.out e0);have HRS:Hid (b2O r (a4S F (r 7))=.tuple #[cv r,.int .i64 0]):=b9W (by rw[e0];rfl);clear hk0 n1 hu HEO e0
     gi_wp2_with (first
      | (refine⟨trivial,?_⟩;gi_at_call 139;refine(callsIn_wide.2 HL.out).mono ?_;rintro e w1 ⟨rfl,hb⟩;have HM1:=b9W (HM.out.later hb);clear hb)
      | (refine⟨trivial,?_⟩;gi_at_call 158;refine(callsIn_wide.2 (HBW.out _ (HR.out.below HM1.out.below))).mono ?_;rintro e w2 ⟨rfl,hb⟩;have HM2:=b9W (HM1.out.later hb);have hcf2:=cell0 HM2.out.kf;have hlf2:=HM2.out.kf.lt;clear hb hcf))
     have TK0:True:=trivial;have H3:=b9W HM2.out.chain
     gi_wp2_with ((clear TK0;refine⟨trivial,?_⟩;gi_at_call 140;refine(callsIn_wide.2 (HN.out w2.heap.size _ (HR.out.below H3.out.below) H3.out.kh)).mono ?_;rintro e w3 ⟨rfl,hb⟩;have H4:=b9W (H3.out.later hb);clear hb hcf2))
     gi_wp2_with (refine⟨trivial,?_⟩;gi_at_call 151;refine(b2f Fence.wide 2 trivial rfl (r 7) _).mono ?_;rintro e w' ⟨rfl,rfl⟩)
     have hI0:OfAt w w2.heap.size w3.heap.size F nx r 0 _:=H4.out.at;have hw2:=HM2.out.kz.lt;have hw3:=H4.out.kh.lt;clear H3 H4 HM2 HM1 HM;generalize ((w3.alloc (.cells #[.string nx] 23)).alloc (.cells #[.string ⟨#[]⟩,.string ⟨#[]⟩,.string ⟨#[]⟩,.string ⟨#[]⟩,.string ⟨#[]⟩,.string ⟨#[]⟩,.string ⟨#[]⟩,.string (r 7)] 59)).alloc (.cells #[.string ⟨#[]⟩,.string ⟨#[]⟩,.string ⟨#[]⟩,.string ⟨#[]⟩,.string ⟨#[]⟩,.string ⟨#[]⟩,.string ⟨#[]⟩,.string (r 7)] 59)=WR at *;generalize w2.heap.size=gh at *;generalize w3.heap.size=gn at *;have HW1:=b9W (And.intro hw2 hw3);refine a1x rfl h1 (gf:=230) (lb:=#[.pointer (some ⟨gn+1+1,0,none⟩)]) rfl trivial a7Z
      (a7n Fence.wide 2 trivial rfl (by omega) (gn+1+1) (b05 (r 7))) (fun _=>rfl)
      (fun pre W=>OfAt w gh gn F nx r pre.length W) (fun _ _ _=>False)
      ?hG ?hI (fun _ _ _ _ _ hs _ _=>hs) hI0 ?round ?done ?stop
     case hG=>rintro pre W h;exact h.ko
     case hI =>
      rintro s W W' row h hg hr;exact⟨Blk.own_ h.kf hg hr,Blk.own_ h.kz hg hr,Blk.own_ h.kh hg hr,Blk.own_ h.kn hg hr,Blk.own_ h.ku hg hr,Blk.own_ h.ko hg hr,a2V h.below (Nat.le_refl _) (by have:=hI0.below.size;omega) hg hr⟩
     case round =>
      rintro l pre i W K hi hnx hK;have HNX:=b9W hnx;clear hnx hI0;gi_wp2;refine hK _ _ (KeepsOthers.refl _) hi ?_;clear hK hi;rintro Wb _ hm;obtain⟨hpre,hi7⟩:=HNX.out;have hlen:pre.length=i:=by rw[hpre,List.length_range]
      rw[hlen]at hm;have HLEN:=b9W hlen;have HI7:=b9W hi7;have hcf:=cell0 hm.kf;have HM0:=b9W hm;have hi0:(0:Int)≤(i:Int):=by omega
      have hi1:(i:Int) < 7:=by omega
      have TK1:True:=trivial;clear hm hpre hi7 hlen
      gi_wp2_with ((clear TK1;refine⟨trivial,?_⟩;gi_at_call 141;refine(CallsIn.inRound l (callsIn_wide.2 (HX.out i HI7.out gh Wb (HR.out.below HM0.out.below) HM0.out.kh))).mono ?_;rintro e w5 ⟨rfl,hb⟩;have HM1:=b9W (HM0.out.later hb);have HB1:=b9W hb;have hcg:=cell0 HM1.out.kf;clear hb hcf))
      have TK2:True:=trivial
      gi_wp2_with ((clear TK2;refine⟨trivial,?_⟩;gi_at_call 141;refine(CallsIn.inRound l (callsIn_wide.2 (HY.out i HI7.out gh w5 (HR.out.below HM1.out.below) HM1.out.kh))).mono ?_;rintro e w6 ⟨rfl,hb⟩;have HM2:=b9W (HM1.out.later hb);have HB2:=b9W (HB1.out.trans (hb.mono HB1.out.size));clear hb hcg))
      gi_upto_region 17 with fail
      have hln:=HM2.out.kn.lt;have xn:∀ x:a0n w6 (fun k=>k < w6.heap.size∧k≠gn+1),x.W.cell? ⟨gn,0,none⟩=some (.string nx):=fun x=>x.cell ⟨hln,by omega⟩ (cell0 HM2.out.kn);clear hln;refine a0o (a0R w6 (fun k=>k < w6.heap.size∧k≠gn+1)) [0,1,2,3,5,7,8] [] hmx (by kernel_rfl) (a0g fun _ _=>rfl) ?_;change a0l _ _ _ _ _ _ _ _ (4+6) _ _ _;refine a0e [0,1,2,3,5,7] 4 _ _ (by kernel_rfl) ?_;change wpQuietIn _ _ _ _ (fun W'=>∃ x:a0n w6 (fun k=>k < w6.heap.size∧k≠gn+1),W'=x.W) _ _ _
      simp only[a0h,a0m,List.getElem?_cons_zero,List.getElem?_cons_succ,Option.elim_some]
      repeat (gi_big_quiet_step (fail))
      refine wpQuietIn_nil ?_;have HD0:=b9W (HM2.out.later (a0x (Below.refl w6.heap.size w6)));refine a0c 4 (by kernel_rfl) rfl ?_;gi_wp2;refine⟨trivial,?_⟩;refine(CallsIn.inRound l (callsIn_wide.2 (HS.out i HI7.out gh w6.drew (HR.out.below HD0.out.below) HD0.out.kh))).mono ?_;rintro e w20 ⟨rfl,hb⟩;have H20:=b9W (HD0.out.later hb);have B20:=b9W (a0q hb);clear hb;gi_wp2;refine a0b (a0a B20.out (fun k hk=>hk.1)) ?_;refine a0c 6 (by kernel_rfl) rfl ?_;gi_wp2;refine⟨trivial,?_⟩;refine(CallsIn.inRound l (callsIn_wide.2 (HD.out i HI7.out gh w20 (HR.out.below H20.out.below) H20.out.kh))).mono ?_;rintro e w21 ⟨rfl,hb⟩;have H21:=b9W (H20.out.later hb);have B21:=b9W (B20.out.trans (hb.mono B20.out.size));have hcu:=H21.out.ku.cell (k:=i) (Nat.lt_succ_of_lt HI7.out);have hfu:=H21.out.ku.frozen i;clear hb xn;gi_wp2;refine a0b (a0a B21.out (fun k hk=>hk.1)) ?_;change a0l _ _ _ _ _ _ _ _ (1+1) _ _ _;refine a0e [8] 1 _ _ (by kernel_rfl) ?_;change wpQuietIn _ _ _ _ (fun W'=>∃ x:a0n w6 (fun k=>k < w6.heap.size∧k≠gn+1),W'=x.W) _ _ _
      simp only[a0h,a0m,List.getElem?_cons_zero,List.getElem?_cons_succ,Option.elim_some]
      repeat (gi_big_quiet_step (fail))
      refine wpQuietIn_nil ?_;refine a0c 9 (by kernel_rfl) rfl ?_;gi_wp2;refine a0b (a0g fun j hj=>(b9G _ (p:=⟨gn+1,i,none⟩) hj.2 _).trans (B21.out.block j hj.1)) ?_;refine a0i (by kernel_rfl) ?_;gi_wp2;obtain⟨hg1,hg2⟩:=HW1.out;refine⟨(a2p (HB2.out.trans (B21.out.mono HB2.out.size))).trans (KeepsOthers.setCell _ _ _),?_⟩;have el:(pre++[i]).length=i+1:=by rw[List.length_append,HLEN.out];rfl
      show OfAt w gh gn F nx r (pre++[i]).length _
      rw[el];exact⟨Blk.far H21.out.kf (p:=⟨gn+1,i,none⟩) (by show w.heap.size≠gn+1;omega) _,Blk.far H21.out.kz (p:=⟨gn+1,i,none⟩) (by show w.heap.size+1≠gn+1;omega) _,Blk.far H21.out.kh (p:=⟨gn+1,i,none⟩) (by show gh≠gn+1;omega) _,
       Blk.far H21.out.kn (p:=⟨gn+1,i,none⟩) (by show gn≠gn+1;omega) _,by rw[← b2Z];exact H21.out.ku.set_ (Nat.lt_succ_of_lt HI7.out) (r i),Blk.far H21.out.ko (p:=⟨gn+1,i,none⟩) (by show gn+1+1≠gn+1;omega) _,H21.out.below.setCell (by show w.heap.size≤gn+1;omega) _⟩
     case done =>
      rintro D ys W hD hS hm hK;rw[hS,List.length_range]at hm;have HM0:=b9W hm;have HKD:=b9W hK;obtain⟨q0,q1,q2,q3,q4,q5,q6,q7⟩:=hm.cells7;obtain⟨z0,z1,z2,z3,z4,z5,z6,z7⟩:=hm.kz.cells;obtain⟨y0,y1,y2,y3,y4,y5,y6,y7⟩:=hm.kz.frozens;have ch:=cell0 hm.kh;have HDD:=b9W (Nat.le_trans hI0.below.size hD);clear hS hm hK hI0;gi_wp2;exact b1s (W:=W) (g:=w.heap.size+1) (c:=r) rfl rfl HM0.out.kz HDD.out HKD.out (Nat.le_succ _) HM0.out.below (fun W' h=>⟨by rw[HRS.out];rfl,h⟩)
     case stop =>
      rintro D cd pre x' W hD _ h hK;exact h.elim
    ·have e2:a4S F (r 7)=2:=by rw[HEO.out,if_pos (.inr hu)]
     have HRS:Hid (b2O r (a4S F (r 7))=.tuple #[cv zC,.int .i64 2]):=b9W (by rw[e2];rfl);obtain⟨z,hz⟩:∃ z:Int,(errU (r 7):Int)=z:=⟨_,rfl⟩;rw[hz]at HBW;have hne:(z==0)=false:=by rw[beq_eq_false_iff_ne];omega
     clear hk0 n1 hu HEO e2 hz HN HX HY HS HD
     gi_wp2_with (first
      | (refine⟨trivial,?_⟩;gi_at_call 139;refine(callsIn_wide.2 HL.out).mono ?_;rintro e w1 ⟨rfl,hb⟩;have HM1:=b9W (HM.out.later hb);clear hb)
      | (refine⟨trivial,?_⟩;gi_at_call 158;refine(callsIn_wide.2 (HBW.out _ (HR.out.below HM1.out.below))).mono ?_;rintro e w2 ⟨rfl,hb⟩;have HM2:=b9W (HM1.out.later hb);obtain⟨z0,z1,z2,z3,z4,z5,z6,z7⟩:=HM2.out.kz.cells;obtain⟨y0,y1,y2,y3,y4,y5,y6,y7⟩:=HM2.out.kz.frozens;clear hb hcf))
     exact a7Y (g:=w.heap.size+1) (c:=zC) rfl rfl HM2.out.kz (Nat.le_succ _) HM2.out.below (fun W' h=>⟨by rw[HRS.out];rfl,h⟩)
   ·have d1:decide (0≤kk)=false:=decide_eq_false hk0
    have e2:a4S F (r 7)=2:=by rw[HEO.out,if_pos (.inl (by omega))]
    have HRS:Hid (b2O r (a4S F (r 7))=.tuple #[cv zC,.int .i64 2]):=b9W (by rw[e2];rfl);clear hk0 HEO e2 HN HX HY HS HD HBW
    gi_wp2_with (first|(refine⟨trivial,?_⟩;gi_at_call 139;refine(callsIn_wide.2 HL.out).mono ?_;rintro e w1 ⟨rfl,hb⟩;have HM1:=b9W (HM.out.later hb);obtain⟨z0,z1,z2,z3,z4,z5,z6,z7⟩:=HM1.out.kz.cells;obtain⟨y0,y1,y2,y3,y4,y5,y6,y7⟩:=HM1.out.kz.frozens;clear hb hcf)|(refine⟨trivial,?_⟩))
    exact a7Y (g:=w.heap.size+1) (c:=zC) rfl rfl HM1.out.kz (Nat.le_succ _) HM1.out.below (fun W' h=>⟨by rw[HRS.out];rfl,h⟩)
end Go.Proofs.YtigapglmipmbeaaGreatDoor
namespace Go.Proofs.YtigapglmipmbeaaGreatDoor
open Go.RowKit Go.Shelf
open Lim
abbrev L2:=ByteArray × ByteArray
def LRow(w:World)(v:Value)(ls:List L2):Prop :=
 ∃ A c,v=.slice A ls.length c∧ls.length≤1000∧(0 < ls.length→∃ b o,A=some ⟨b,o,none⟩∧b < w.heap.size ∧
  ∀ (j:Nat) (x:L2),ls[j]?=some x→w.cell? ⟨b,o+j*2,none⟩=some (.string x.1)∧w.cell? ⟨b,o+j*2+1,none⟩=some (.string x.2))
theorem LRow.below{w w':World}{v:Value}{ls:List L2}(h:LRow w v ls)(hb:Below w.heap.size w w'):LRow w' v ls:=by
 obtain⟨A,c,e,h1,h2⟩:=h;refine⟨A,c,e,h1,fun h0=>?_⟩;obtain⟨b,o,e2,hlt,hc⟩:=h2 h0;refine⟨b,o,e2,Nat.lt_of_lt_of_le hlt hb.size,fun j x hj=>?_⟩;obtain⟨c0,c1⟩:=hc j x hj;exact⟨by rw[hb.cell (p:=⟨b,o+j*2,none⟩) hlt];exact c0,by rw[hb.cell (p:=⟨b,o+j*2+1,none⟩) hlt];exact c1⟩
theorem LRow.nil(w:World)(A:Option Addr)(c:Nat):LRow w (.slice A 0 c) []:=⟨A,c,rfl,by simp,fun h=>absurd h (by simp)⟩
theorem LRow.one{w:World}{b:Nat}{t:TypeId}{f d:ByteArray}(h:Blk w b t #[.string f,.string d]):LRow w (.slice (some ⟨b,0,none⟩) 1 1) [(f,d)]:=by
 refine⟨_,_,rfl,by simp,fun _=>⟨b,0,rfl,h.lt,fun j x hj=>?_⟩⟩
 match j with
 | 0=>cases hj;exact a06 h
 | j+1=>simp at hj
theorem LRow.two{w:World}{b:Nat}{t:TypeId}{f d f' d':ByteArray}(h:Blk w b t #[.string f,.string d,.string f',.string d']):LRow w (.slice (some ⟨b,0,none⟩) 2 2) [(f,d),(f',d')]:=by
 refine⟨_,_,rfl,by simp,fun _=>⟨b,0,rfl,h.lt,fun j x hj=>?_⟩⟩
 match j with
 | 0=>cases hj;exact⟨(a0W h 0 (by simp)).1,(a0W h 1 (by simp)).1⟩
 | 1=>cases hj;exact⟨(a0W h 2 (by simp)).1,(a0W h 3 (by simp)).1⟩
 | j+2=>simp at hj
def a1h(ls:List L2):Prop:=∀ x∈ls,x.1.size≤270000∧x.2.size≤270000
theorem b7j(w:World):Calls prog 144 #[] w fun e w'=>e=.returned (.agg #[.string ⟨#[49]⟩,.string ⟨#[48]⟩])∧Below w.heap.size w w':=by
 have HX:=b9W (a0d (Below.refl w.heap.size w) (.cells #[.string ⟨#[]⟩,.string ⟨#[]⟩] 63));have HK:=b9W (Blk.new w 63 #[.string ⟨#[]⟩,.string ⟨#[]⟩])
 go_enter func144,ntmps144
 go_wp2;have hk:=(HK.out.set_ 0 (.string ⟨#[49]⟩)).set_ 1 (.string ⟨#[48]⟩)
 first
  | exact bodyPost_ret (a6I rfl rfl (a6z hk)) rfl ⟨rfl,(HX.out.setCell (Nat.le_refl _) _).setCell (Nat.le_refl _) _⟩
  | (refine bodyPost_ret (a6I rfl rfl (a6z (Blk.new w 63 #[.string ⟨#[49]⟩,.string ⟨#[48]⟩]))) rfl ⟨rfl,a0d (Below.refl w.heap.size w) _⟩)
theorem Blk.two_set{w:World}{b:Nat}{t:TypeId}{u v x y:Value}(h:Blk w b t #[u,v]):Blk ((w.setCell ⟨b,0,none⟩ x).setCell ⟨b,1,none⟩ y) b t #[x,y]:=(h.set_ 0 x).set_ 1 y
end Go.Proofs.YtigapglmipmbeaaGreatDoor
namespace Go.Proofs.YtigapglmipmbeaaGreatDoor
open Go.RowKit Go.Shelf
open Lim
attribute [local go_sem] Oper.semAt_some
structure ToAt (w:World) (c:CT) (W:World):Prop where
 kc:CBlk W w.heap.size c
 kz:Blk W (w.heap.size+1) 63 #[.string ⟨#[]⟩,.string ⟨#[]⟩]
 below:Below w.heap.size w W
theorem ToAt.later{w W W':World}{c:CT}(h:ToAt w c W)(hb:Below W.heap.size W W'):ToAt w c W' :=
 ⟨h.kc.later hb,h.kz.below hb h.kz.lt,h.below.trans (hb.mono h.below.size)⟩
theorem ToAt.new(w:World)(c:CT):ToAt w c ((w.alloc (cvO c)).alloc (.cells #[.string ⟨#[]⟩,.string ⟨#[]⟩] 63)):=by
 have k1:=(CBlk.new w c).alloc (.cells #[.string ⟨#[]⟩,.string ⟨#[]⟩] 63);have k2:=Blk.new (w.alloc (cvO c)) 63 #[.string ⟨#[]⟩,.string ⟨#[]⟩];rw[World.size_alloc]at k2;exact⟨k1,k2,a0d (a0d (Below.refl _ _) _) _⟩
structure ToCh (w:World) (gh:Nat) (c:CT) (W:World):Prop where
 kc:CBlk W w.heap.size c
 kz:Blk W (w.heap.size+1) 63 #[.string ⟨#[]⟩,.string ⟨#[]⟩]
 kh:Blk W gh 157 #[.int .i64 0]
 below:Below w.heap.size w W
theorem ToCh.later{w W W':World}{gh:Nat}{c:CT}(h:ToCh w gh c W)(hb:Below W.heap.size W W'):ToCh w gh c W' :=
 ⟨h.kc.later hb,h.kz.below hb h.kz.lt,h.kh.below hb h.kh.lt,h.below.trans (hb.mono h.below.size)⟩
theorem ToAt.chain{w W:World}{c:CT}(h:ToAt w c W):ToCh w W.heap.size c (W.alloc (.cells #[.int .i64 0] 157)) :=
 have hb:=a0d (Below.refl W.heap.size W) (.cells #[.int .i64 0] 157)
 ⟨h.kc.later hb,h.kz.below hb h.kz.lt,Blk.new W 157 #[.int .i64 0],h.below.trans (hb.mono h.below.size)⟩
theorem b2Y{F:Fence}{n:Nat}{fn:Func}{tmps:Array Value}{R:Ending→World→Prop}{p u:Tmp}{W w:World}{g:Nat}{x y a b:ByteArray}(hres:fn.results=#[.cell p 63,.tmp u])(hp:tmps.getD p undef=.pointer (some ⟨g,0,none⟩))(hz:Blk W g 63 #[.string x,.string y])
  (hg:w.heap.size≤g) (hB:Below w.heap.size w W) (hR:∀ W',Below w.heap.size w W'→R (.returned (.tuple #[.agg #[.string a,.string b],tmps.getD u undef])) W') :
  bodyPostM F n prog fn R .ret { tmps:=tmps,defers:=[] } ((W.setCell ⟨g,0,none⟩ (.string a)).setCell ⟨g,1,none⟩ (.string b)) :=
 a4D ⟨_,a2c hres hp (a6z hz.two_set),hR _ ((hB.setCell (p:=⟨g,0,none⟩) hg _).setCell (p:=⟨g,1,none⟩) hg _)⟩
theorem mto_e4(c:CT)(i:Nat)(hi:i < 7)(F:ByteArray)(hs:F.size≤270000)(hn:a4C c=0)(n:Int)(hf:(errQ F.data.toList:Int)=n)(hne:(n==0)=false)(w:World)(hc:SmC c)(hr:Res w) :
  Calls prog 53 #[cv c,.int .i64 ((i:Int)+2),.string F] w fun e w'=>e=.returned (.tuple #[.agg #[.string ⟨#[]⟩,.string ⟨#[]⟩],.int .i64 n])∧Below w.heap.size w w':=by
 have H0:=b9W (ToAt.new w c);have HR:=b9W hr;have HC:=b9W (fun (w:World) hr=>a3J c w hc hr);obtain⟨c0,c1,c2,c3,c4,c5,c6,c7⟩:=H0.out.kc.cells;clear hr hc;rw[hn]at HC;have HF:=b9W (fun (w:World) hr=>a3j F w hs hr);rw[hf]at HF;have hi0:(0:Int)≤(i:Int):=by omega
 have hi1:(i:Int) < 7:=by omega
 have d1:decide ((i:Int)+2 < 2)=false:=decide_eq_false (by omega);have d2:decide (8 < (i:Int)+2)=false:=decide_eq_false (by omega);clear hn hs hf hi;have TK0:True:=trivial;have TK1:True:=trivial;refine(callsIn_wide (n:=3)).1 ?_;have h1:1≤3:=by omega
 have hmx:prog.follows .mixedOrders=true:=by kernel_rfl
 refine callsIn_of_wp_marks func53 rfl trivial ?_ rfl
 simp only[ntmps53,List.size_toArray,List.length_cons,List.length_nil,Nat.reduceAdd,Nat.reduceSub,Array.replicate_succ,Array.replicate_zero,List.push_toArray,List.append_toArray,List.nil_append,List.cons_append]
 gi_wp2_with ((clear TK0;refine⟨trivial,?_⟩;gi_at_call 137;refine(callsIn_wide.2 (HC.out _ (HR.out.below H0.out.below))).mono ?_;rintro e w1 ⟨rfl,hb⟩;have H1:=b9W (H0.out.later hb); clear hb c0 c1 c2 c3 c4 c5 c6 c7))
 gi_wp2_with ((clear TK1;refine⟨trivial,?_⟩;gi_at_call 138;refine(callsIn_wide.2 (HF.out _ (HR.out.below H1.out.below))).mono ?_;rintro e w2 ⟨rfl,hb⟩;have H2:=b9W (H1.out.later hb);obtain⟨q0,q1⟩:=a06 H2.out.kz;have z0:=H2.out.kz.frozen 0;have z1:=H2.out.kz.frozen 1;clear hb))
 exact b2Y (g:=w.heap.size+1) rfl rfl H2.out.kz (Nat.le_succ _) H2.out.below (fun W' h=>⟨rfl,h⟩)
theorem mto_e5(c:CT)(i:Nat)(hi:i < 7)(F:ByteArray)(hs:F.size≤270000)(hn:a4C c=0)(hf:errQ F.data.toList=0)(hl:cmpQ (valQ F.data.toList) 1 < 0)(w:World)(hc:SmC c)(hr:Res w) :
  Calls prog 53 #[cv c,.int .i64 ((i:Int)+2),.string F] w fun e w'=>e=.returned (.tuple #[.agg #[.string ⟨#[]⟩,.string ⟨#[]⟩],.int .i64 2])∧Below w.heap.size w w':=by
 have H0:=b9W (ToAt.new w c);have HR:=b9W hr;have HC:=b9W (fun (w:World) hr=>a3J c w hc hr);obtain⟨c0,c1,c2,c3,c4,c5,c6,c7⟩:=H0.out.kc.cells;clear hr hc;rw[hn]at HC;have HF:=b9W (fun (w:World) hr=>a3j F w hs hr);rw[hf]at HF;have HL:=b9W (fun (w:World) hr=>a5H w (IsT.of hf) hr);rw[decide_eq_false (show ¬ 0≤cmpQ (valQ F.data.toList) 1 by omega)]at HL;have hi0:(0:Int)≤(i:Int):=by omega
 have hi1:(i:Int) < 7:=by omega
 have d1:decide ((i:Int)+2 < 2)=false:=decide_eq_false (by omega);have d2:decide (8 < (i:Int)+2)=false:=decide_eq_false (by omega);clear hn hs hf hi hl;have TK0:True:=trivial;have TK1:True:=trivial;have TK2:True:=trivial;refine(callsIn_wide (n:=3)).1 ?_;have h1:1≤3:=by omega
 have hmx:prog.follows .mixedOrders=true:=by kernel_rfl
 refine callsIn_of_wp_marks func53 rfl trivial ?_ rfl
 simp only[ntmps53,List.size_toArray,List.length_cons,List.length_nil,Nat.reduceAdd,Nat.reduceSub,Array.replicate_succ,Array.replicate_zero,List.push_toArray,List.append_toArray,List.nil_append,List.cons_append]
 gi_wp2_with ((clear TK0;refine⟨trivial,?_⟩;gi_at_call 137;refine(callsIn_wide.2 (HC.out _ (HR.out.below H0.out.below))).mono ?_;rintro e w1 ⟨rfl,hb⟩;have H1:=b9W (H0.out.later hb); clear hb c0 c1 c2 c3 c4 c5 c6 c7))
 gi_wp2_with ((clear TK1;refine⟨trivial,?_⟩;gi_at_call 138;refine(callsIn_wide.2 (HF.out _ (HR.out.below H1.out.below))).mono ?_;rintro e w2 ⟨rfl,hb⟩;have H2:=b9W (H1.out.later hb); clear hb))
 gi_wp2_with ((clear TK2;refine⟨trivial,?_⟩;gi_at_call 139;refine(callsIn_wide.2 (HL.out _ (HR.out.below H2.out.below))).mono ?_;rintro e w3 ⟨rfl,hb⟩;have H3:=b9W (H2.out.later hb);obtain⟨q0,q1⟩:=a06 H3.out.kz;have z0:=H3.out.kz.frozen 0;have z1:=H3.out.kz.frozen 1;clear hb))
 exact b2Y (g:=w.heap.size+1) rfl rfl H3.out.kz (Nat.le_succ _) H3.out.below (fun W' h=>⟨rfl,h⟩)
theorem b8I(c:CT)(i:Nat)(hi:i < 7)(F:ByteArray)(hs:F.size≤270000)(hn:a4C c=0)(hf:errQ F.data.toList=0)(hl:¬ cmpQ (valQ F.data.toList) 1 < 0)(t1 t2 A B sh pw u1 xx nx lt dd de:ByteArray)
  (I1:Hid (∀ w,Res w→Calls prog 142 #[.int .i64 ((i:Int)+1)] w fun e w'=>e=.returned (.string t1)∧Below w.heap.size w w')) (I2:Hid (∀ w,Res w→Calls prog 142 #[.int .i64 ((i:Int)+2)] w fun e w'=>e=.returned (.string t2)∧Below w.heap.size w w'))
  (P1:Hid (b4H 0 t1 ((i:Int)+1) A)) (P2:Hid (b4H 0 t2 ((i:Int)+2) B)) (D1:Hid (DoIs 0 133 A B sh)) (P3:Hid (b4H 0 F ((i:Int)+1) pw)) (D2:Hid (DoIs 0 130 (c i) sh u1)) (D3:Hid (DoIs 0 133 u1 pw xx))
  (D4:Hid (DoIs 0 107 F ⟨#[49]⟩ nx)) (D5:Hid (DoIs 0 130 nx (c 7) lt)) (D6:Hid (DoIs 0 107 xx lt dd)) (D7:Hid (DoIs 0 143 dd ⟨#[49]⟩ de)) (w:World) (hc:SmC c) (hr:Res w) :
  Calls prog 53 #[cv c,.int .i64 ((i:Int)+2),.string F] w fun e w'=>e=.returned (.tuple #[.agg #[.string F,.string de],.int .i64 0])∧Below w.heap.size w w':=by
 have H0:=b9W (ToAt.new w c);have HR:=b9W hr;have HC:=b9W (fun (w:World) hr=>a3J c w hc hr);obtain⟨c0,c1,c2,c3,c4,c5,c6,c7⟩:=H0.out.kc.cells;clear hr hc;rw[hn]at HC;have HF:=b9W (fun (w:World) hr=>a3j F w hs hr);rw[hf]at HF;have HL:=b9W (fun (w:World) hr=>a5H w (IsT.of hf) hr);rw[decide_eq_true (show 0≤cmpQ (valQ F.data.toList) 1 by omega)]at HL;have hi0:(0:Int)≤(i:Int):=by omega
 have hi1:(i:Int) < 7:=by omega
 have d1:decide ((i:Int)+2 < 2)=false:=decide_eq_false (by omega);have d2:decide (8 < (i:Int)+2)=false:=decide_eq_false (by omega);have e21:(i:Int)+2 - 1=(i:Int)+1:=by omega
 have e22:(i:Int)+2 - 2=(i:Int):=by omega
 clear hn hs hf hl;have TK0:True:=trivial;have TK1:True:=trivial;have TK2:True:=trivial;have TK3:True:=trivial;have TK4:True:=trivial;have TK5:True:=trivial;have TK6:True:=trivial;have TK7:True:=trivial;have TK8:True:=trivial;have TK9:True:=trivial;have TK10:True:=trivial;have TK11:True:=trivial;have TK12:True:=trivial;have TK13:True:=trivial;have TK14:True:=trivial;have TK15:True:=trivial;refine(callsIn_wide (n:=3)).1 ?_;have h1:1≤3:=by omega
 have hmx:prog.follows .mixedOrders=true:=by kernel_rfl
 refine callsIn_of_wp_marks func53 rfl trivial ?_ rfl
 simp only[ntmps53,List.size_toArray,List.length_cons,List.length_nil,Nat.reduceAdd,Nat.reduceSub,Array.replicate_succ,Array.replicate_zero,List.push_toArray,List.append_toArray,List.nil_append,List.cons_append]
 gi_wp2_with ((clear TK0;refine⟨trivial,?_⟩;gi_at_call 137;refine(callsIn_wide.2 (HC.out _ (HR.out.below H0.out.below))).mono ?_;rintro e w1 ⟨rfl,hb⟩;have H1:=b9W (H0.out.later hb); clear hb c0 c1 c2 c3 c4 c5 c6 c7))
 gi_wp2_with ((clear TK1;refine⟨trivial,?_⟩;gi_at_call 138;refine(callsIn_wide.2 (HF.out _ (HR.out.below H1.out.below))).mono ?_;rintro e w2 ⟨rfl,hb⟩;have H2:=b9W (H1.out.later hb); clear hb))
 gi_wp2_with ((clear TK2;refine⟨trivial,?_⟩;gi_at_call 139;refine(callsIn_wide.2 (HL.out _ (HR.out.below H2.out.below))).mono ?_;rintro e w3 ⟨rfl,hb⟩;have H3:=b9W (H2.out.later hb).chain;clear hb))
 gi_wp2_with ((clear TK3;refine⟨trivial,?_⟩;gi_at_call 142;refine(callsIn_wide.2 (I1.out (w3.alloc (.cells #[.int .i64 0] 157)) (HR.out.below H3.out.below))).mono ?_;rintro e w4 ⟨rfl,hb⟩;have H4:=b9W (H3.out.later hb);clear hb))
 gi_wp2_with ((clear TK4;refine⟨trivial,?_⟩;gi_at_call 141;refine(callsIn_wide.2 (P1.out w3.heap.size w4 (HR.out.below H4.out.below) H4.out.kh)).mono ?_;rintro e w5 ⟨rfl,hb⟩;have H5:=b9W (H4.out.later hb);clear hb))
 gi_wp2_with ((clear TK5;refine⟨trivial,?_⟩;gi_at_call 142;refine(callsIn_wide.2 (I2.out w5 (HR.out.below H5.out.below))).mono ?_;rintro e w6 ⟨rfl,hb⟩;have H6:=b9W (H5.out.later hb);clear hb))
 gi_wp2_with ((clear TK6;refine⟨trivial,?_⟩;gi_at_call 141;refine(callsIn_wide.2 (P2.out w3.heap.size w6 (HR.out.below H6.out.below) H6.out.kh)).mono ?_;rintro e w7 ⟨rfl,hb⟩;have H7:=b9W (H6.out.later hb);clear hb))
 gi_wp2_with ((clear TK7;refine⟨trivial,?_⟩;gi_at_call 140;refine(callsIn_wide.2 (D1.out w3.heap.size w7 (HR.out.below H7.out.below) H7.out.kh)).mono ?_;rintro e w8 ⟨rfl,hb⟩;have H8:=b9W (H7.out.later hb);clear hb))
 gi_wp2_with ((clear TK8;refine⟨trivial,?_⟩;gi_at_call 141;refine(callsIn_wide.2 (P3.out w3.heap.size w8 (HR.out.below H8.out.below) H8.out.kh)).mono ?_;rintro e w9 ⟨rfl,hb⟩;have H9:=b9W (H8.out.later hb);have ci:=H9.out.kc.cell (k:=i) (by omega);clear hb))
 gi_wp2_with ((clear TK9;refine⟨trivial,?_⟩;gi_at_call 140;refine(callsIn_wide.2 (D2.out w3.heap.size w9 (HR.out.below H9.out.below) H9.out.kh)).mono ?_;rintro e w10 ⟨rfl,hb⟩;have H10:=b9W (H9.out.later hb);clear ci;clear hb))
 gi_wp2_with ((clear TK10;refine⟨trivial,?_⟩;gi_at_call 140;refine(callsIn_wide.2 (D3.out w3.heap.size w10 (HR.out.below H10.out.below) H10.out.kh)).mono ?_;rintro e w11 ⟨rfl,hb⟩;have H11:=b9W (H10.out.later hb);clear hb))
 gi_upto_region 15 with fail
 have hlc:=H11.out.kc.lt;have x7:∀ x:a0n w11 (fun k=>k < w11.heap.size),x.W.cell? ⟨w.heap.size,7,none⟩=some (.string (c 7)):=fun x=>x.cell hlc (H11.out.kc.cell (by omega));clear hlc;refine a0o (a0R w11 (fun k=>k < w11.heap.size)) [0,2,3] [] hmx (by kernel_rfl) (a0g fun _ _=>rfl) ?_;change a0l _ _ _ _ _ _ _ _ (3+3) _ _ _;refine a0e [0,2,3] 3 _ _ (by kernel_rfl) ?_;change wpQuietIn _ _ _ _ (fun W'=>∃ x:a0n w11 (fun k=>k < w11.heap.size),W'=x.W) _ _ _
 simp only[a0h,a0m,List.getElem?_cons_zero,List.getElem?_cons_succ,Option.elim_some]
 repeat (gi_big_quiet_step (fail))
 refine wpQuietIn_nil ?_;have HD:=b9W (H11.out.later (a0x (Below.refl w11.heap.size w11)));refine a0c 1 (by kernel_rfl) rfl ?_;gi_wp2;refine⟨trivial,?_⟩;refine(callsIn_wide.2 (D4.out w3.heap.size w11.drew (HR.out.below HD.out.below) HD.out.kh)).mono ?_;rintro e w20 ⟨rfl,hb⟩;have H20:=b9W (HD.out.later hb);have B20:=b9W (a0q hb);clear hb;gi_wp2;refine a0b (a0a B20.out (fun k hk=>hk)) ?_;refine a0c 4 (by kernel_rfl) rfl ?_;gi_wp2;refine⟨trivial,?_⟩;refine(callsIn_wide.2 (D5.out w3.heap.size w20 (HR.out.below H20.out.below) H20.out.kh)).mono ?_;rintro e w21 ⟨rfl,hb⟩;have H21:=b9W (H20.out.later hb);have B21:=b9W (B20.out.trans (hb.mono B20.out.size));clear hb;gi_wp2;refine a0b (a0a B21.out (fun k hk=>hk)) ?_;refine a0c 5 (by kernel_rfl) rfl ?_;gi_wp2;refine a0b (a0a B21.out (fun k hk=>hk)) ?_;refine a0i (by kernel_rfl) ?_;clear x7
 gi_wp2_with ((clear TK11;refine⟨trivial,?_⟩;gi_at_call 140;refine(callsIn_wide.2 (D6.out w3.heap.size w21 (HR.out.below H21.out.below) H21.out.kh)).mono ?_;rintro e w22 ⟨rfl,hb⟩;have H22:=b9W (H21.out.later hb);clear hb))
 gi_wp2_with ((clear TK12;refine⟨trivial,?_⟩;gi_at_call 140;refine(callsIn_wide.2 (D7.out w3.heap.size w22 (HR.out.below H22.out.below) H22.out.kh)).mono ?_;rintro e w23 ⟨rfl,hb⟩;have H23:=b9W (H22.out.later hb);have ch:=cell0 H23.out.kh;clear hb))
 gi_wp2_with ((clear TK13;refine⟨trivial,?_⟩;gi_at_call 144;refine(callsIn_wide.2 (b7j w23)).mono ?_;rintro e w24 ⟨rfl,hb⟩;have H24:=b9W (H23.out.later hb);obtain⟨q0,q1⟩:=a06 H24.out.kz;have z0:=H24.out.kz.frozen 0;have z1:=H24.out.kz.frozen 1;have hl:=H24.out.kz.lt;clear hb ch))
 exact a4D ⟨_,a2c rfl rfl (a6z (H24.out.kz.two_set.alloc _)),rfl,a0d ((H24.out.below.setCell (p:=⟨w.heap.size+1,0,none⟩) (Nat.le_succ _) _).setCell (p:=⟨w.heap.size+1,1,none⟩) (Nat.le_succ _) _) _⟩
end Go.Proofs.YtigapglmipmbeaaGreatDoor
namespace Go.Proofs.YtigapglmipmbeaaGreatDoor
open Go.RowKit Go.Shelf
def Ret(F:FuncId)(args:Array Value)(v:Value):Prop:=∀ w,Res w→Calls prog F args w fun e w'=>e=.returned v∧Below w.heap.size w w'
end Go.Proofs.YtigapglmipmbeaaGreatDoor
namespace Go.Proofs.YtigapglmipmbeaaGreatDoor.S2
open Go.RowKit Go.Proofs.YtigapglmipmbeaaGreatDoor
def a4L(o:Oper):Bool:=a4O { o with guard:=none }
def a1t(ops:List Oper)(H:List Nat):Bool :=
 (List.range ops.length).all fun j=>match ops[j]? with
  | none=>true
  | some o=>a3u j o&&a2s o&&b0R o&&(match o.guard with|none=>true|some (k,_)=>a0T o k) &&
   (if H.contains j then a4L o&&a7B o o.dst else true) &&
   (List.range ops.length).all fun i=>i==j || (match ops[i]? with|none=>true|some h=>(a0T o i || (a7B o h.dst || (a0T h j&&!H.contains i)))&&(h.dst.isNone || h.dst != o.dst))
structure StOk (ops:List Oper) (H:List Nat) (j:Nat) (o:Oper):Prop where
 edges:a3u j o=true
 nd:a2s o=true
 ns:b0R o=true
 gd:∀ k b,o.guard=some (k,b)→a0T o k=true
 rd:j∈H→a4L o=true∧a7B o o.dst=true
 far:∀ i h,i≠j→ops[i]?=some h→(a0T o i=true∨a7B o h.dst=true∨(a0T h j=true∧i ∉ H))∧(h.dst=none∨h.dst≠o.dst)
theorem a1v{ops:List Oper}{H:List Nat}(hok:a1t ops H=true){j:Nat}{o:Oper}(hj:ops[j]?=some o):StOk ops H j o:=by
 have hlt:j < ops.length:=(List.getElem?_eq_some_iff.1 hj).1;have h2:=List.all_eq_true.1 hok j (List.mem_range.2 hlt);rw[hj]at h2
 simp only[Bool.and_eq_true]at h2
 obtain⟨⟨⟨⟨⟨h3,h4⟩,h5⟩,h6⟩,h7⟩,h8⟩:=h2;refine⟨h3,h4,h5,fun k b hg=>?_,fun hm=>?_,fun i h hne hi=>?_⟩
 ·rw[hg]at h6;exact h6
 ·rw[if_pos (by simpa using hm)]at h7;simpa using h7
 ·have:=List.all_eq_true.1 h8 i (List.mem_range.2 (List.getElem?_eq_some_iff.1 hi).1)
  rw[hi]at this
  simp only[Bool.or_eq_true,beq_iff_eq,Bool.and_eq_true,Option.isNone_iff_eq_none,bne_iff_ne]at this
  rcases this with h|h
  ·exact absurd h hne
  ·refine⟨?_,h.2⟩
   rcases h.1 with h1|h1|h1
   ·exact .inl h1
   ·exact .inr (.inl h1)
   ·exact .inr (.inr ⟨h1.1,by have h2:=h1.2;simpa using h2⟩)
section
variable {F:Fence} {n:Nat} {P:Program} {C:World→Prop} {ops:List Oper} {H:List Nat}
theorem a8f{o:Oper}{a:Act}{K':Act→World→Prop}{Q:Exit→Act→World→Prop}{w:World}{v:Value}(hp:a4L o=true)(hrun:o.quietAtIn F n P a C w v)(hK:K' (a.put o.dst v) w)
  (ha:∀ f,o.about P w a.eval=some f→F.fn f):o.wpIn F n P a w K' Q:=b08 (o:={ o with guard:=none }) hp hrun hK ha
theorem a5a{o:Oper}{a b:Act}(h:∀ k bb,o.guard=some (k,bb)→∀ s,(ops[k]?).bind (·.dst)=some s→a.tmps[s]?=b.tmps[s]?) :
  Region.wanted o (yielded ops.toArray a.tmps)=Region.wanted o (yielded ops.toArray b.tmps):=by
 unfold Region.wanted
 cases hg:o.guard with
 | none=>rfl
 | some kb =>
  obtain⟨k,bb⟩:=kb;have:yielded ops.toArray a.tmps k=yielded ops.toArray b.tmps k:=by
   unfold yielded;rw[List.getElem?_toArray]
   cases hd:(ops[k]?).bind (·.dst) with
   | none=>rfl
   | some s =>
    simp only[Option.bind_some]
    rw[h k bb hg s hd]
  simp only[this]
def a2u(F:Fence)(n:Nat)(P:Program)(C:World→Prop)(ops:List Oper)(o:Oper)(b:Act)(v:Value):Prop :=
 o.askedIn F P b C∧((Region.wanted o (yielded ops.toArray b.tmps)=true∧∀ w,C w→o.quietAtIn F n P b C w v)∨(Region.wanted o (yielded ops.toArray b.tmps)=false∧v=undef))
theorem a2Z{b:Act}{d:Option Tmp}{u:Value}{s:Tmp}(h:d≠some s):(b.put d u).tmps[s]?=b.tmps[s]?:=by
 cases d with
 | none=>rfl
 | some e=>rw[a6P,if_neg (fun h'=>h (by rw[h'.1]))]
theorem a2u.of{o:Oper}{a b:Act}{v:Value}(h:a2u F n P C ops o b v)(hns:b0R o=true)(hev:∀ x∈o.op.operands,a.eval x=b.eval x)
  (hg:∀ k bb,o.guard=some (k,bb)→∀ s,(ops[k]?).bind (·.dst)=some s→a.tmps[s]?=b.tmps[s]?):a2u F n P C ops o a v:=by
 obtain⟨h1,h2⟩:=h;obtain⟨e1,e2⟩:=a5x (P:=P) (b3p hns) hev;refine⟨fun w hw f hf=>h1 w hw f (by rw[← e2];exact hf),?_⟩;rw[a5a hg]
 rcases h2 with⟨hw,hq⟩|h2
 ·refine .inl ⟨hw,fun w hw=>?_⟩
  have:=hq w hw;unfold Oper.quietAtIn at this ⊢;rw[e1];exact this
 ·exact .inr h2
def a0l(F:Fence)(n:Nat)(P:Program)(ops:List Oper)(H:List Nat)(C:World→Prop)(waits:Nat→Bool)(Q':Act→World→Prop):Nat→Array Bool→Act→World→Prop
 | 0,LT,b,w=>Region.ready .any ops.toArray LT=[]∧Q' b w
 | f+1,LT,b,w =>
  (∃ i o,i∈H∧i∈Region.ready .any ops.toArray LT∧ops[i]?=some o∧∃ v,a2u F n P C ops o b v∧a0l F n P ops H C waits Q' f (LT.setIfInBounds i true) (b.put o.dst v) w) ∨
  ((Region.ready .any ops.toArray LT=[]→Q' b w) ∧
   ∀ j∈Region.ready .any ops.toArray LT,∀ o,ops[j]?=some o→wpListIn F n P ops.toArray (fun e a' w'=>e=.normal∧(waits j=false→C w')∧a0l F n P ops H C waits Q' f (LT.setIfInBounds j true) a' w') [o] b w)
def Owed(H:List Nat)(L LT:Array Bool)(i:Nat):Prop:=i∈H∧LT[i]?=some true∧L[i]?=some false
def a58(F:Fence)(n:Nat)(P:Program)(C:World→Prop)(ops:List Oper)(H:List Nat)(L LT:Array Bool)(b:Act):Prop :=
 ∀ i o,Owed H L LT i→ops[i]?=some o→∃ v,b.put o.dst v=b∧a2u F n P C ops o b v
theorem a0L{L:Array Bool}{j i:Nat}(hj:j < L.size):(L.setIfInBounds j true)[i]?=if j=i then some true else L[i]?:=by
 by_cases h:j=i
 ·subst h;rw[if_pos rfl,Array.getElem?_setIfInBounds_self_of_lt hj]
 ·rw[if_neg h,Array.getElem?_setIfInBounds_ne h]
theorem a8i{L:Array Bool}{i:Nat}(h:i < L.size):L[i]?=some true∨L[i]?=some false:=by
 rw[Array.getElem?_eq_getElem h]
 cases L[i]<;>simp
theorem a4x(hok:a1t ops H=true){L LT:Array Bool}(_hs1:L.size=ops.length){a b:Act}(hl:Lack ops (Owed H L LT) a b){j:Nat}{o:Oper}(hoj:ops[j]?=some o)(hself:Owed H L LT j→a7B o o.dst=true)
  (hall:∀ k,a0T o k=true→L[k]?=some true):(∀ x∈o.op.operands,a.eval x=b.eval x)∧∀ k bb,o.guard=some (k,bb)→∀ s,(ops[k]?).bind (·.dst)=some s→a.tmps[s]?=b.tmps[s]?:=by
 have hS:=a1v hok hoj;refine⟨hl.eval fun i h' hi hh d hd=>?_,fun k bb hg s hs=>hl.same s fun i h' hi hh e=>?_⟩
 ·by_cases hij:i=j
  ·subst hij
   rw[hoj]at hh;cases hh;exact a2z (hself hi) d hd
  ·rcases (hS.far i h' hij hh).1 with hw|hf|hf
   ·have:=hall i hw
    rw[hi.2.2]at this;cases this
   ·exact a2z hf d hd
   ·exact absurd hi.1 hf.2
 ·have hk:=hall k (hS.gd k bb hg)
  have hik:i≠k:=fun e'=>by subst e';rw[hi.2.2]at hk;cases hk
  obtain⟨ok,hok',hd⟩:=Option.bind_eq_some_iff.1 hs
  rcases ((a1v hok hok').far i h' hik hh).2 with h0|h0
  ·rw[h0]at e;cases e
  ·exact h0 (by rw[e,hd])
theorem a5h(hok:a1t ops H=true){L LT:Array Bool}{b:Act}(hk:a58 F n P C ops H L LT b){j:Nat}{o:Oper}(hoj:ops[j]?=some o)(hj:LT[j]?=some false)
  (hcl:∀ i o,i∈H→LT[i]?=some true→ops[i]?=some o→∀ k,a0T o k=true→LT[k]?=some true) (u:Value) {i:Nat} {oi:Oper} (hi:Owed H L LT i) (hoi:ops[i]?=some oi) (hno:a0T o i=true→j∈H) :
  ∃ v,(b.put o.dst u).put oi.dst v=b.put o.dst u∧a2u F n P C ops oi (b.put o.dst u) v:=by
 obtain⟨v,h1,h2⟩:=hk i oi hi hoi;have hij:i≠j:=fun e=>by subst e;rw[hi.2.1]at hj;cases hj
 have hSi:=a1v hok hoi;have hSj:=a1v hok hoj;have hw:∀ k,a0T oi k=true→k≠j:=fun k hk e=>by
  subst e;have:=hcl i oi hi.1 hi.2.1 hoi k hk;rw[hj]at this;cases this
 have hfar:=(hSi.far j o (fun e=>hij e.symm) hoj);refine⟨v,?_,h2.of hSi.ns (a3Y (a2z ?_)) fun k bb hg s hs=>a2Z fun e=>?_⟩
 ·rcases hfar.2 with h|h
  ·rw[h];exact h1
  ·have hc:=Act.put_comm b (x:=oi.dst) (y:=o.dst) v u (fun d h1 h2=>h (h2.trans h1.symm))
   rw[← hc,h1]
 ·rcases hfar.1 with h|h|h
  ·exact absurd rfl (hw j h)
  ·exact h
  ·exact absurd (hno h.1) h.2
 ·have hkj:=hw k (hSi.gd k bb hg)
  obtain⟨ok,hok',hd⟩:=Option.bind_eq_some_iff.1 hs
  rcases (hSj.far k ok hkj hok').2 with h0|h0
  ·rw[h0]at hd;cases hd
  ·exact h0 (by rw[e,hd])
structure a3K (F:Fence) (n:Nat) (P:Program) (C:World→Prop) (ops:List Oper) (H:List Nat) (L LT:Array Bool) (a b:Act) (w:World):Prop where
 s1:L.size=ops.length
 s2:LT.size=ops.length
 same:∀ i:Nat,i < ops.length→i ∉ H→L[i]?=LT[i]?
 le:∀ i:Nat,L[i]?=some true→LT[i]?=some true
 closed:∀ (i:Nat) (o:Oper),i∈H→LT[i]?=some true→ops[i]?=some o→∀ k,a0T o k=true→LT[k]?=some true
 known:(∀ i∈H,i < ops.length→L[i]?=some true)∨(C w∧a58 F n P C ops H L LT b)
 lack:Lack ops (Owed H L LT) a b
theorem a3K.hoist(hok:a1t ops H=true){L LT:Array Bool}{a b:Act}{w:World}(h:a3K F n P C ops H L LT a b w){i:Nat}{o:Oper}(hi:i∈H)(hoi:ops[i]?=some o)(hLT:LT[i]?=some false)
  (hall:∀ k,a0T o k=true→LT[k]?=some true) {v:Value} (hv:a2u F n P C ops o b v):a3K F n P C ops H L (LT.setIfInBounds i true) a (b.put o.dst v) w:=by
 have hil:=(List.getElem?_eq_some_iff.1 hoi).1;have hlt:i < LT.size:=by rw[h.s2];exact hil
 have hLi:L[i]?=some false:=by
  rcases a8i (L:=L) (i:=i) (by rw[h.s1];exact hil) with e|e
  ·have:=h.le i e;rw[hLT]at this;cases this
  ·exact e
 have hS:=a1v hok hoi;have hwi:a0T o i=true→False:=fun e=>by have:=hall i e;rw[hLT]at this;cases this
 refine⟨h.s1,by simpa using h.s2,fun k hk hkH=>?_,fun k hk=>?_,fun k ok hk hkT hok' j hj=>?_,?_,?_⟩
 ·rw[a0L hlt,if_neg (fun e=>hkH (by rw[← e];exact hi))];exact h.same k hk hkH
 ·rw[a0L hlt];split
  ·rfl
  ·exact h.le k hk
 ·rw[a0L hlt]
  by_cases e:i=j
  ·rw[if_pos e]
  ·rw[if_neg e]
   by_cases e2:i=k
   ·subst e2;rw[hoi]at hok';cases hok';exact hall j hj
   ·rw[a0L hlt,if_neg e2]at hkT;exact h.closed k ok hk hkT hok' j hj
 ·rcases h.known with hk|⟨hC,hk⟩
  ·have:=hk i hi hil;rw[hLi]at this;cases this
  ·refine .inr ⟨hC,fun k ok hkO hok'=>?_⟩
   by_cases e:i=k
   ·subst e
    rw[hoi]at hok';cases hok';refine⟨v,a7s _ _ _,hv.of hS.ns (a3Y (a2z (hS.rd hi).2)) fun k bb hg s hs=>a2Z fun e=>?_⟩;have hki:k≠i:=fun e'=>by subst e';exact hwi (hS.gd k bb hg)
    obtain⟨ok,hok',hd⟩:=Option.bind_eq_some_iff.1 hs
    rcases (hS.far k ok hki hok').2 with h0|h0
    ·rw[h0]at hd;cases hd
    ·exact h0 (by rw[e,hd])
   ·refine a5h hok hk hoi hLT h.closed v ⟨hkO.1,?_,hkO.2.2⟩ hok' (fun _=>hi)
    have:=hkO.2.1
    rwa [a0L hlt,if_neg e]at this
 ·refine⟨h.lack.defers.trans (a4y _ _ _).symm,h.lack.size.trans (a6g _ _ _).symm,fun s hs=>?_⟩
  have h1:=h.lack.same s fun k ok hk hok'=>hs k ok ⟨hk.1,by rw[a0L hlt];split;rfl;exact hk.2.1,hk.2.2⟩ hok';rw[h1,a2Z (hs i o ⟨hi,by rw[a0L hlt,if_pos rfl],hLi⟩ hoi)]
theorem a3K.paid(_hok:a1t ops H=true){L LT:Array Bool}{a b:Act}{w:World}(h:a3K F n P C ops H L LT a b w){j:Nat}{o:Oper}(hoj:ops[j]?=some o)(hO:Owed H L LT j){v:Value}(hb:b.put o.dst v=b) :
  a3K F n P C ops H (L.setIfInBounds j true) LT (a.put o.dst v) b w:=by
 have hjl:j < L.size:=by rw[h.s1];exact(List.getElem?_eq_some_iff.1 hoj).1
 have sub:∀ k,Owed H (L.setIfInBounds j true) LT k→Owed H L LT k:=fun k hk=>by
  refine⟨hk.1,hk.2.1,?_⟩;have:=hk.2.2;rw[a0L hjl]at this
  split at this
  ·cases this
  ·exact this
 refine⟨by simpa using h.s1,h.s2,fun k hk hkH=>?_,fun k hk=>?_,h.closed,?_,?_⟩
 ·rw[a0L hjl,if_neg (fun e=>hkH (by rw[← e];exact hO.1))];exact h.same k hk hkH
 ·rw[a0L hjl]at hk
  split at hk
  ·rename_i e;rw[← e];exact hO.2.1
  ·exact h.le k hk
 ·rcases h.known with hk|⟨hC,hk⟩
  ·exact .inl fun k hkH hkl=>by rw[a0L hjl];split;rfl;exact hk k hkH hkl
  ·exact .inr ⟨hC,fun k ok hkO=>hk k ok (sub k hkO)⟩
 ·refine h.lack.head hoj hb fun k hk=>?_
  by_cases e:j=k
  ·exact .inl e.symm
  ·exact .inr ⟨hk.1,hk.2.1,by rw[a0L hjl,if_neg e];exact hk.2.2⟩
theorem a3K.step(hok:a1t ops H=true){L LT:Array Bool}{a b a' b':Act}{w w':World}(h:a3K F n P C ops H L LT a b w){j:Nat}{o:Oper}(hoj:ops[j]?=some o)(_hL:L[j]?=some false)(hLT:LT[j]?=some false)
  (hall:∀ k,a0T o k=true→L[k]?=some true) {u:Value} {b0:Act} (hkn:a58 F n P C ops H L LT b→a58 F n P C ops H L LT b0) (hb':b'=b0.put o.dst u) (hl':Lack ops (Owed H L LT) a' b') (hC':C w'∨∀ i∈H,i < ops.length→a0T o i=true) :
  a3K F n P C ops H (L.setIfInBounds j true) (LT.setIfInBounds j true) a' b' w':=by
 have hjl:j < L.size:=by rw[h.s1];exact(List.getElem?_eq_some_iff.1 hoj).1
 have hjt:j < LT.size:=by rw[h.s2];exact(List.getElem?_eq_some_iff.1 hoj).1
 have sub:∀ k,Owed H (L.setIfInBounds j true) (LT.setIfInBounds j true) k→Owed H L LT k:=fun k hk=>by
  have h1:=hk.2.1;have h2:=hk.2.2;rw[a0L hjl]at h2;rw[a0L hjt]at h1
  split at h2
  ·cases h2
  ·rename_i e;rw[if_neg e]at h1;exact⟨hk.1,h1,h2⟩
 refine⟨by simpa using h.s1,by simpa using h.s2,fun k hk hkH=>?_,fun k hk=>?_,fun k ok hk hkT hok' m hm=>?_,?_,?_⟩
 ·rw[a0L hjl,a0L hjt];split
  ·rfl
  ·exact h.same k hk hkH
 ·rw[a0L hjl]at hk;rw[a0L hjt]
  split
  ·rfl
  ·rename_i e;rw[if_neg e]at hk;exact h.le k hk
 ·rw[a0L hjt]
  split
  ·rfl
  ·by_cases e2:j=k
   ·subst e2;rw[hoj]at hok';cases hok';exact h.le m (hall m hm)
   ·rw[a0L hjt,if_neg e2]at hkT;exact h.closed k ok hk hkT hok' m hm
 ·rcases h.known with hk|⟨hC,hk⟩
  ·exact .inl fun k hkH hkl=>by rw[a0L hjl];split;rfl;exact hk k hkH hkl
  ·rcases hC' with hC'|hC'
   ·refine .inr ⟨hC',fun k ok hkO hok'=>?_⟩
    rw[hb'];exact a5h hok (hkn hk) hoj hLT h.closed u (sub k hkO) hok' (fun hw=>by
     have h1:=hall k hw;have h2:=(sub k hkO).2.2;rw[h1]at h2;cases h2)
   ·exact .inl fun k hkH hkl=>by rw[a0L hjl];split;rfl;exact hall k (hC' k hkH hkl)
 ·exact hl'.mono fun k hkl hk=>by
   refine⟨hk.1,?_,?_⟩
   ·rw[a0L hjt];split;rfl;exact hk.2.1
   ·rw[a0L hjl]
    split
    ·rename_i e;subst e;have:=hk.2.1;rw[hLT]at this;cases this
    ·exact hk.2.2
theorem a64{L:Array Bool}{i:Nat}(hi:i < L.size)(h:L.getD i true=false):L[i]?=some false:=by
 rcases a8i hi with e|e
 ·rw[a3n e]at h;cases h
 ·exact e
theorem a3a(hok:a1t ops H=true){L:Array Bool}(hsz:L.size=ops.length)(hu:a03 ops.length L≠0):∃ i,i∈Region.ready .any ops.toArray L:=by
 have hne:∃ i,i < ops.length∧L.getD i true=false:=by
  have hpos:0 < ((List.range ops.length).filter fun i=>!L.getD i true).length:=by unfold a03 at hu;omega
  obtain⟨i,hi⟩:=List.exists_mem_of_length_pos hpos;obtain⟨g1,g2⟩:=List.mem_filter.1 hi;exact⟨i,List.mem_range.1 g1,by simpa using g2⟩
 obtain⟨i0,⟨hi0,hu0⟩,hmin⟩:=exists_least (p:=fun i=>i < ops.length∧L.getD i true=false) hne;have ho:ops[i0]?=some ops[i0]:=by simp[hi0]
 refine⟨i0,mem_ready.2 ⟨hu0,ops[i0],by simp[hi0],fun e he hb=>?_⟩⟩;have hlt:=a1W (a1v hok ho).edges e he hb;have hnot:¬ L.getD e.on true=false:=fun hh=>by have:=hmin e.on ⟨by omega,hh⟩;omega
 exact a3n (a2m (k:=ops.length) (by omega) (by omega) (.inl (by simpa using hnot)))
theorem a6Z{L:Array Bool}(hsz:L.size=ops.length)(hu:a03 ops.length L=0):Region.ready .any ops.toArray L=[]:=by
 rw[List.eq_nil_iff_forall_not_mem];intro j hj;obtain⟨hj1,o,ho,_⟩:=mem_ready.1 hj;have hlt:j < ops.length:=by have:=(Array.getElem?_eq_some_iff.1 ho).1;simpa using this
 have:=a2m (k:=ops.length) (by omega) hlt (.inr (a1X hu (by omega) j hlt));rw[a3n this]at hj1;cases hj1
theorem a1T(hok:a1t ops H=true){L:Array Bool}(hsz:L.size=ops.length){j:Nat}(hj:j∈Region.ready .any ops.toArray L):∃ o,ops[j]?=some o∧ops.toArray[j]?=some o∧L[j]?=some false∧∀ k,a0T o k=true→L[k]?=some true:=by
 obtain⟨hj1,o,ho,hall⟩:=mem_ready.1 hj;have hjl:j < ops.length:=by have:=(Array.getElem?_eq_some_iff.1 ho).1;simpa using this
 have hoj:ops[j]?=some o:=by rw[← ho];simp
 refine⟨o,hoj,ho,a64 (by omega) hj1,fun k hk=>?_⟩;obtain⟨e,he,hb,hon⟩:=a7w hk;have h1:=hall e he hb;have hel:=a1W (a1v hok hoj).edges e he hb;rw[hon]at h1 hel;exact a2m (k:=ops.length) (by omega) (by omega) (.inr h1)
theorem a6R(hok:a1t ops H=true){L LT:Array Bool}(hs1:L.size=ops.length)(_hs2:LT.size=ops.length)(hle:∀ i:Nat,L[i]?=some true→LT[i]?=some true){j:Nat}(hj:j∈Region.ready .any ops.toArray L)(hLT:LT[j]?=some false):j∈Region.ready .any ops.toArray LT:=by
 obtain⟨o,hoj,ho,hL,hall⟩:=a1T hok hs1 hj;refine mem_ready.2 ⟨a3n hLT,o,ho,fun e he hb=>?_⟩;have hw:a0T o e.on=true:=by
  unfold a0T;rw[Array.any_eq_true'];exact⟨e,he,by simp[hb]⟩
 exact a3n (hle _ (hall _ hw))
theorem a58.defers{L LT:Array Bool}{b:Act}(h:a58 F n P C ops H L LT b)(ds:List Deferred):a58 F n P C ops H L LT { b with defers:=ds }:=by
 intro i o hi ho;obtain⟨u,h2,h3⟩:=h i o hi ho;refine⟨u,?_,h3⟩
 cases hd:o.dst with
 | none=>rfl
 | some d =>
  rw[hd]at h2;have:=congrArg Act.tmps h2
  simp only[Act.put]at this ⊢
  rw[this]
theorem a4a(hok:a1t ops H=true){L LT:Array Bool}{a b:Act}{w:World}(hI:a3K F n P C ops H L LT a b w){j:Nat}{o:Oper}(hO:Owed H L LT j)(hoj:ops[j]?=some o)(ho:ops.toArray[j]?=some o)
  (hall:∀ k,a0T o k=true→L[k]?=some true) {Q:Exit→Act→World→Prop} {K:Act→World→Prop} (hK:∀ v,b.put o.dst v=b→K (a.put o.dst v) w):wpOpIn F n P ops.toArray Q j K a w:=by
 have hS:=a1v hok hoj
 rcases hI.known with hk|⟨hC,hk⟩
 ·have:=hk j hO.1 (List.getElem?_eq_some_iff.1 hoj).1;rw[hO.2.2]at this;cases this
 ·obtain⟨v,hb,hv⟩:=hk j o hO hoj
  obtain⟨hev,hgd⟩:=a4x hok hI.s1 hI.lack hoj (fun h=>(hS.rd h.1).2) hall;obtain⟨hask,hcase⟩:=hv.of hS.ns hev hgd;unfold wpOpIn;rw[ho]
  dsimp only
  rcases hcase with⟨hw,hq⟩|⟨hw,rfl⟩
  ·rw[if_pos hw]
   exact a8f (hS.rd hO.1).1 (hq w hC) (hK v hb) (fun f hf=>hask w hC f hf)
  ·rw[if_neg (by rw[hw];simp)]
   exact⟨fun f hf=>hask w hC f hf,hK _ hb⟩
theorem a77(hok:a1t ops H=true)(waits:Nat→Bool)(hw:∀ j o,ops[j]?=some o→waits j=true→∀ i∈H,i < ops.length→a0T o i=true)(Q:Exit→Act→World→Prop):∀ (g f:Nat) (L LT:Array Bool) (a b:Act) (w:World),
  a03 ops.length L=g→a03 ops.length LT=f→a3K F n P C ops H L LT a b w→a0l F n P ops H C waits (fun a w=>Q .normal a w) f LT b w→wpAnyIn F n P .any ops.toArray Q g L a w:=by
 intro g
 induction g with
 | zero =>
  intro f L LT a b w hg hf hI h;have hall:∀ i,i < ops.length→L[i]?=some true:=fun i hi=>a2m (k:=ops.length) (by rw[hI.s1];omega) hi (.inr (a1X hg (by rw[hI.s1];omega) i hi));have hut:a03 ops.length LT=0:=by
   unfold a03;rw[List.length_eq_zero_iff,List.filter_eq_nil_iff];intro i hi;have:=hI.le i (hall i (List.mem_range.1 hi))
   simp[Array.getD_eq_getD_getElem?,this]
  rw[hut]at hf;subst hf;refine⟨a6Z hI.s1 hg,?_⟩;rw[hI.lack.full fun i hi hn=>by have:=hall i hi;rw[hn.2.2]at this;cases this];exact h.2
 | succ g ih =>
  intro f;have less:∀ {L:Array Bool} {j k:Nat},L.size=ops.length→j < ops.length→L[j]?=some false→a03 ops.length L=k+1→a03 ops.length (L.setIfInBounds j true)=k:=fun hsz hj hf hu=>by
   have:=a5m hj (by omega) (a3n (d:=true) hf)
   omega
  induction f with
  | zero =>
   intro L LT a b w hg hf hI h;obtain⟨r0,hr0⟩:=a3a hok hI.s1 (by omega);refine⟨fun e=>(by rw[e]at hr0;cases hr0),fun j hj=>?_⟩;obtain⟨o,hoj,ho,hL,hall⟩:=a1T hok hI.s1 hj;have hjl:=(List.getElem?_eq_some_iff.1 hoj).1;have hLT:LT[j]?=some true:=a2m (k:=ops.length) (by rw[hI.s2];omega) hjl (.inr (a1X hf (by rw[hI.s2];omega) j hjl));have hjH:j∈H:=by
    by_cases hm:j∈H
    ·exact hm
    ·have:=hI.same j hjl hm;rw[hL,hLT]at this;cases this
   have hO:Owed H L LT j:=⟨hjH,hLT,hL⟩;exact a4a hok hI hO hoj ho hall fun v hb=>ih 0 _ LT _ b w (less hI.s1 hjl hL hg) hf (hI.paid hok hoj hO hb) h
  | succ f ihf =>
   intro L LT a b w hg hf hI h
   rcases h with⟨i,o,hiH,hir,hoi,v,hv,hst⟩|⟨h1,h2⟩
   ·obtain⟨o',hoi',_,hLTi,halli⟩:=a1T hok hI.s2 hir
    rw[hoi]at hoi';cases hoi';have hil:=(List.getElem?_eq_some_iff.1 hoi).1;exact ihf L _ a _ w hg (less hI.s2 hil hLTi hf) (hI.hoist hok hiH hoi hLTi halli hv) hst
   ·obtain⟨r0,hr0⟩:=a3a hok hI.s1 (by omega)
    refine⟨fun e=>(by rw[e]at hr0;cases hr0),fun j hj=>?_⟩;obtain⟨o,hoj,ho,hL,hall⟩:=a1T hok hI.s1 hj;have hjl:=(List.getElem?_eq_some_iff.1 hoj).1
    rcases a8i (L:=LT) (i:=j) (by rw[hI.s2];exact hjl) with hLT|hLT
    ·have hjH:j∈H:=by
      by_cases hm:j∈H
      ·exact hm
      ·have:=hI.same j hjl hm;rw[hL,hLT]at this;cases this
     have hO:Owed H L LT j:=⟨hjH,hLT,hL⟩;exact a4a hok hI hO hoj ho hall fun v hb=>ih (f+1) _ LT _ b w (less hI.s1 hjl hL hg) hf (hI.paid hok hoj hO hb) (.inr ⟨h1,h2⟩)
    ·have hrT:=a6R hok hI.s1 hI.s2 hI.le hj hLT
     have h3:=h2 j hrT o hoj;have hS:=a1v hok hoj;obtain⟨hev,hgd⟩:=a4x hok hI.s1 hI.lack hoj (fun h=>by have:=h.2.1;rw[hLT]at this;cases this) hall;obtain⟨e1,e2⟩:=a5x (P:=P) (b3p hS.ns) hev;have hC':∀ w',(waits j=false→C w')→(C w'∨∀ i∈H,i < ops.length→a0T o i=true):=fun w' h=>by
      cases hwj:waits j with
      | true=>exact .inr (hw j o hoj hwj)
      | false=>exact .inl (h hwj)
     simp only[wpListIn]at h3
     unfold wpOpIn;rw[ho]
     dsimp only
     rw[a5a hgd]
     by_cases hwt:Region.wanted o (yielded ops.toArray b.tmps)=true
     ·rw[if_pos hwt]at h3 ⊢
      refine b01 hS.nd e1 (e2 w) (fun v w' h'=>?_) (fun d w' h'=>?_) (fun e a w h=>h.1) h3
      ·exact ih f _ _ _ _ w' (less hI.s1 hjl hL hg) (less hI.s2 hjl hLT hf) (hI.step hok hoj hL hLT hall id rfl (hI.lack.tail _ _) (hC' w' h'.2.1)) h'.2.2
      ·exact ih f _ _ _ _ w' (less hI.s1 hjl hL hg) (less hI.s2 hjl hLT hf) (hI.step hok hoj hL hLT hall (fun hk=>hk.defers _) rfl ((hI.lack.defer d).tail _ _) (hC' w' h'.2.1)) h'.2.2
     ·rw[if_neg hwt]at h3 ⊢
      obtain⟨h4,h5⟩:=h3;exact⟨fun f hf=>h4 f (by rw[← e2 w];exact hf),ih f _ _ _ _ w (less hI.s1 hjl hL hg) (less hI.s2 hjl hLT hf) (hI.step hok hoj hL hLT hall id rfl (hI.lack.tail _ _) (hC' w h5.2.1)) h5.2.2⟩
def a57(ops:List Oper)(H:List Nat):List Nat→Array Bool→Bool
 | [],_=>true
 | i::l,LT=>H.contains i&&!(LT.getD i true)&&(match ops[i]? with|none=>false|some o=>o.after.all fun e=>!Region.binds .any e || LT.getD e.on false)&&a57 ops H l (LT.setIfInBounds i true)
def b2D(hs:List Nat)(LT:Array Bool):Array Bool:=hs.foldl (fun LT i=>LT.setIfInBounds i true) LT
theorem a0e{waits:Nat→Bool}{Q':Act→World→Prop}{w:World}:∀ (hs:List Nat) (f:Nat) (LT:Array Bool) (b:Act),a57 ops H hs LT=true →
  wpQuietIn F n P ops.toArray C (fun b'=>a0l F n P ops H C waits Q' f (b2D hs LT) b' w) (a56 ops hs) b→a0l F n P ops H C waits Q' (f+hs.length) LT b w
 | [],f,LT,b,_,h=>h
 | i::l,f,LT,b,hh,h=>by
  simp only[a57,Bool.and_eq_true,Bool.not_eq_true']at hh
  obtain⟨⟨⟨h1,h2⟩,h3⟩,h4⟩:=hh
  cases ho:ops[i]? with
  | none=>rw[ho]at h3;cases h3
  | some o =>
   rw[ho]at h3;rw[a0h,ho]at h;obtain⟨hask,h⟩:=h;have hr:i∈Region.ready .any ops.toArray LT:=mem_ready.2 ⟨h2,o,by simpa using ho,fun e he hb=>by
    have:=Array.all_eq_true_iff_forall_mem.1 h3 e he;rw[hb]at this
    simpa using this⟩
   have hH:i∈H:=by simpa using h1
   by_cases hwt:Region.wanted o (yielded ops.toArray b.tmps)=true
   ·rw[if_pos hwt]at h
    obtain⟨v,hv,h⟩:=h;exact .inl ⟨i,o,hH,hr,ho,v,⟨hask,.inl ⟨hwt,hv⟩⟩,a0e l f _ _ h4 h⟩
   ·rw[if_neg hwt]at h
    exact .inl ⟨i,o,hH,hr,ho,undef,⟨hask,.inr ⟨by simpa using hwt,rfl⟩⟩,a0e l f _ _ h4 h⟩
def a2d(F:Fence)(n:Nat)(P:Program)(ops:List Oper)(H:List Nat)(C:World→Prop)(waits:Nat→Bool)(Q':Act→World→Prop)(f:Nat)(LT:Array Bool)(i:Nat):Exit→Act→World→Prop :=
 fun e a' w'=>e=.normal∧(waits i=false→C w')∧a0l F n P ops H C waits Q' f (LT.setIfInBounds i true) a' w'
theorem a0b{waits:Nat→Bool}{Q':Act→World→Prop}{f:Nat}{LT:Array Bool}{i:Nat}{a:Act}{w:World}(hC:C w)(h:a0l F n P ops H C waits Q' f (LT.setIfInBounds i true) a w):a2d F n P ops H C waits Q' f LT i .normal a w:=⟨rfl,fun _=>hC,h⟩
theorem a2B{waits:Nat→Bool}{Q':Act→World→Prop}{f:Nat}{LT:Array Bool}{i:Nat}{a:Act}{w:World}(hw:waits i=true)(h:a0l F n P ops H C waits Q' f (LT.setIfInBounds i true) a w):a2d F n P ops H C waits Q' f LT i .normal a w:=⟨rfl,fun e=>(by rw[hw]at e;cases e),h⟩
theorem a0c{waits:Nat→Bool}{Q':Act→World→Prop}{f:Nat}{LT:Array Bool}{a:Act}{w:World}(i:Nat){o:Oper}(hr:Region.ready .any ops.toArray LT=[i])(ho:ops[i]?=some o)
  (h:wpListIn F n P ops.toArray (a2d F n P ops H C waits Q' f LT i) [o] a w):a0l F n P ops H C waits Q' (f+1) LT a w :=
 .inr ⟨fun e=>(by rw[hr]at e;cases e),fun j hj o' ho'=>by
  rw[hr]at hj;obtain rfl:j=i:=by simpa using hj
  rw[ho]at ho'
  cases ho'
  exact h⟩
theorem a1p{waits:Nat→Bool}{Q':Act→World→Prop}{f:Nat}{LT:Array Bool}{a:Act}{w:World}(i j:Nat){o o2:Oper}(hr:Region.ready .any ops.toArray LT=[i,j])(ho:ops[i]?=some o)(ho2:ops[j]?=some o2)
  (h:wpListIn F n P ops.toArray (a2d F n P ops H C waits Q' f LT i) [o] a w) (h2:wpListIn F n P ops.toArray (a2d F n P ops H C waits Q' f LT j) [o2] a w):a0l F n P ops H C waits Q' (f+1) LT a w :=
 .inr ⟨fun e=>(by rw[hr]at e;cases e),fun k hk o' ho'=>by
  rw[hr]at hk
  simp only[List.mem_cons,List.not_mem_nil,or_false]at hk
  rcases hk with rfl|rfl
  ·rw[ho]at ho';cases ho';exact h
  ·rw[ho2]at ho';cases ho';exact h2⟩
theorem a0i{waits:Nat→Bool}{Q':Act→World→Prop}{LT:Array Bool}{a:Act}{w:World}(hr:Region.ready .any ops.toArray LT=[])(h:Q' a w):a0l F n P ops H C waits Q' 0 LT a w:=⟨hr,h⟩
def a6B(ops:List Oper)(H ws:List Nat):Bool :=
 a1t ops H&&ws.all fun j=>match ops[j]? with|none=>true|some o=>H.all fun i=>a0T o i
theorem a0o{id:Nat}{Q:Exit→Act→World→Prop}{a:Act}{w:World}(C:World→Prop)(H ws:List Nat)(hm:P.follows .mixedOrders=true)(hB:a6B ops H ws=true)(hC:C w.drew)
  (h:a0l F n P ops H C (fun i=>ws.contains i) (fun a w=>Q .normal a w) ops.length (Array.replicate ops.length false) a w.drew):(Code.region id ops.toArray true).wpIn F n P Q a w:=by
 simp only[a6B,Bool.and_eq_true]at hB
 obtain⟨hok,hws⟩:=hB;refine wpIn_region_any hm ?_;have hun:a03 ops.length (Array.replicate ops.length false)=ops.length:=by
  unfold a03;rw[List.filter_eq_self.2 (fun i hi=>?_),List.length_range];have:=List.mem_range.1 hi
  simp only[Array.getD_eq_getD_getElem?]
  rw[Array.getElem?_replicate,if_pos (by omega)];rfl
 have hno:∀ i:Nat,(Array.replicate ops.length false)[i]?≠some true:=fun i=>by
  rw[Array.getElem?_replicate];split<;>simp
 have hrun:=a77 (F:=F) (n:=n) (P:=P) (C:=C) hok (fun i=>ws.contains i) (fun j o ho hj i hi _=>by
   have:=List.all_eq_true.1 hws j (by simpa using hj);rw[ho]at this;exact List.all_eq_true.1 this i hi) Q ops.length ops.length (Array.replicate ops.length false) (Array.replicate ops.length false) a a w.drew hun hun
  ⟨by simp,by simp,fun _ _ _=>rfl,fun _ h=>h,fun i o _ h=>absurd h (hno i),.inr ⟨hC,fun i o hO=>absurd hO.2.1 (hno i)⟩,⟨rfl,rfl,fun _ _=>rfl⟩⟩ h
 simpa using hrun
end
end Go.Proofs.YtigapglmipmbeaaGreatDoor.S2
namespace Go.Proofs.YtigapglmipmbeaaGreatDoor
open Go.RowKit Go.Shelf
open Lim
attribute [local go_sem] Oper.semAt_some
namespace S2
end S2
end Go.Proofs.YtigapglmipmbeaaGreatDoor
namespace Go.Proofs.YtigapglmipmbeaaGreatDoor
open Go.RowKit Go.Shelf
open Lim
attribute [local go_sem] Oper.semAt_some
namespace S2
end S2
end Go.Proofs.YtigapglmipmbeaaGreatDoor
namespace Go.Proofs.YtigapglmipmbeaaGreatDoor
open Go.RowKit Go.Shelf
open Lim
attribute [local go_sem] Oper.semAt_some
end Go.Proofs.YtigapglmipmbeaaGreatDoor
namespace Go.Proofs.YtigapglmipmbeaaGreatDoor
open Go.RowKit Go.Shelf
open Lim
def ofX(F:Rat)(i:Nat):Rat:=F ^ ((i:Int)+2)
def ofY(F:Rat)(i:Nat):Rat:=F ^ (-1 - (i:Int))
def ofM(F l:Rat):Nat→Rat:=fun i=>if i=7 then l else (ofX F i+ofY F i)*(F+1)⁻¹
theorem b9k(F l:Rat){i:Nat}(h:i < 7):ofM F l i=(ofX F i+ofY F i)*(F+1)⁻¹:=if_neg (by omega)
theorem b8Q{F:Rat}{k i:Nat}(h:Sz k F)(hi:i < 7):Sz (k*8+1) (ofX F i) :=
 (Sz.zpow h ((i:Int)+2)).mono (by have:=Nat.mul_le_mul_left k (show ((i:Int)+2).natAbs≤8 by omega);omega)
theorem b8N{F:Rat}{k i:Nat}(h:Sz k F)(hi:i < 7):Sz (k*7+1) (ofY F i) :=
 (Sz.zpow h (-1 - (i:Int))).mono (by have:=Nat.mul_le_mul_left k (show (-1 - (i:Int)).natAbs≤7 by omega);omega)
theorem b8D{F:Rat}{k i:Nat}(h:Sz k F)(hi:i < 7):Sz (k*15+3) (ofX F i+ofY F i) :=
 ((b8Q h hi).add (b8N h hi)).mono (by omega)
theorem a5X{F:Rat}{k:Nat}(h:Sz k F):Sz (k+2) (F+1):=(h.add Sz.one).mono (by omega)
theorem b8O{F l:Rat}{k j:Nat}(h:Sz k F)(hl:Sz j l)(hj:j≤k*16+5):SzC (k*16+5) (ofM F l):=by
 intro i hi
 by_cases h7:i=7
 ·subst h7;exact hl.mono hj
 ·rw[b9k F l (by omega)]
  exact((b8D h (by omega)).mul (a5X h).inv).mono (by omega)
theorem b9u{F:Rat}(h:1≤F):F+1≠0:=by grind
theorem a6m{F:Rat}(h:1≤F):F≠0:=by grind
def shA(i:Nat):Rat:=(((i+1:Nat):Int):Rat) ^ (((i+1:Nat):Int))
def shB(i:Nat):Rat:=(((i+2:Nat):Int):Rat) ^ (((i+2:Nat):Int))
def shM(i:Nat):Rat:=shA i*(shB i)⁻¹
def pwM(F:Rat)(i:Nat):Rat:=F ^ (((i+1:Nat):Int))
def xM(m:Nat→Rat)(F:Rat)(i:Nat):Rat:=m i*shM i*(pwM F i)⁻¹
def b0z(m:Nat→Rat)(F:Rat):Rat:=(F+1)*m 7
def dM(m:Nat→Rat)(F:Rat)(i:Nat):Rat:=xM m F i+b0z m F
def toM(m:Nat→Rat)(F:Rat)(i:Nat):Rat:=minQ (dM m F i) 1
theorem b4Z{i:Nat}(hi:i < 7):Sz 8 (shA i):=by
 have h:((List.range 7).all fun i=>decide (nm (shA i) < 10 ^ 8∧(shA i).den < 10 ^ 8))=true:=by decide +kernel
 exact of_decide_eq_true (p:=nm _ < _∧_) (List.all_eq_true.1 h i (List.mem_range.2 hi))
theorem b5Y{i:Nat}(hi:i < 7):Sz 8 (shB i):=by
 have h:((List.range 7).all fun i=>decide (nm (shB i) < 10 ^ 8∧(shB i).den < 10 ^ 8))=true:=by decide +kernel
 exact of_decide_eq_true (p:=nm _ < _∧_) (List.all_eq_true.1 h i (List.mem_range.2 hi))
theorem b0W{i:Nat}(hi:i < 7):Sz 16 (shM i):=(b4Z hi).mul (b5Y hi).inv
theorem sz_int{i:Nat}(hi:i < 10):Sz 1 ((i:Int):Rat):=by
 have h:((List.range 10).all fun i=>decide (nm (((i:Nat):Int):Rat) < 10 ^ 1∧(((i:Nat):Int):Rat).den < 10 ^ 1))=true:=by decide +kernel
 exact of_decide_eq_true (p:=nm _ < _∧_) (List.all_eq_true.1 h i (List.mem_range.2 hi))
theorem b8P{i:Nat}(hi:i < 7):shB i≠0:=by
 have h:((List.range 7).all fun i=>decide (shB i≠0))=true:=by decide +kernel
 exact of_decide_eq_true (List.all_eq_true.1 h i (List.mem_range.2 hi))
theorem b5i{i:Nat}(hi:i < 7):0 < shM i:=by
 have h:((List.range 7).all fun i=>decide (0 < shM i))=true:=by decide +kernel
 exact of_decide_eq_true (List.all_eq_true.1 h i (List.mem_range.2 hi))
theorem b62{F:Rat}(h:1≤F)(n:Nat):0 < F ^ ((n:Nat):Int):=by
 rw[Rat.zpow_natCast];exact Rat.pow_pos (by grind)
theorem a69{F:Rat}(h:1≤F)(i:Nat):0 < pwM F i:=b62 h (i+1)
theorem b3H{F:Rat}{k i:Nat}(h:Sz k F)(hi:i < 7):Sz (k*7+1) (pwM F i) :=
 (Sz.zpow h _).mono (by have:=Nat.mul_le_mul_left k (show (((i+1:Nat):Int)).natAbs≤7 by omega);omega)
theorem sz_mM{m:Nat→Rat}{k i:Nat}(hm:SzC k m)(hi:i < 7):Sz (k+16) (m i*shM i):=(hm i (by omega)).mul (b0W hi)
theorem sz_xM{m:Nat→Rat}{F:Rat}{j k i:Nat}(hm:SzC k m)(h:Sz j F)(hi:i < 7):Sz (k+16+(j*7+1)) (xM m F i) :=
 (sz_mM hm hi).mul (b3H h hi).inv
theorem b2X{m:Nat→Rat}{F:Rat}{j k:Nat}(hm:SzC k m)(h:Sz j F):Sz (j+2+k) (b0z m F):=(a5X h).mul (hm 7 (by omega))
theorem sz_dM{m:Nat→Rat}{F:Rat}{j k i:Nat}(hm:SzC k m)(h:Sz j F)(hi:i < 7):Sz (k*2+j*8+20) (dM m F i) :=
 ((sz_xM hm h hi).add (b2X hm h)).mono (by omega)
theorem b8n{x:Rat}(h:0 < x):0 < x⁻¹:=Rat.inv_pos.2 h
theorem b23{c:CT}{m:Nat→Rat}{F:Rat}(hc:CIs c m)(h:1≤F){i:Nat}(hi:i < 7):0≤toM m F i:=by
 have h1:=hc.one i hi;have h2:0≤m i*shM i:=Rat.mul_nonneg (by grind) (by have:=b5i hi;grind);have h3:0≤xM m F i:=Rat.mul_nonneg h2 (by have:=b8n (a69 h i);grind);have h4:0≤b0z m F:=Rat.mul_nonneg (by grind) hc.zero;exact a6V (by unfold dM;grind) (by decide +kernel)
theorem b5b(m:Nat→Rat)(F:Rat)(i:Nat):toM m F i≤1:=(b48 _ _).2
theorem b4d(n:Int)(w:World)(hr:Res w)(h0:-9223372036854775808≤n)(h1:n≤9223372036854775807) :
  Calls prog 142 #[.int .i64 n] w fun e w'=>e=.returned (.string ⟨(Lib.itoa n).toArray⟩)∧Below w.heap.size w w':=by
 have HC:=b9W (Tryz.strconv_Itoa n h0 h1 w hr.tab);generalize Lib.itoa n=l at *;clear hr
 go_enter func142,ntmps142
 go_wp2_with (go_at_call 218;refine HC.out.mono ?_;rintro e w1 ⟨rfl,k,os,rfl⟩)
 go_ret
 exact⟨rfl,Lib.below_grow _ _ (Nat.le_refl _) _ _⟩
theorem b5l(n:Int):Lib.itoa n=a1Q (n:Rat):=by
 unfold Lib.itoa a1Q ng nm;rw[Rat.num_intCast,Rat.den_intCast]
 by_cases h:n < 0
 ·simp[h]
 ·have:n.toNat=n.natAbs:=by omega
  simp[h,this]
theorem intT{c:ByteArray}(n:Int)(w:World)(hc:IsT c (n:Rat))(hr:Res w)(h0:-9223372036854775808≤n)(h1:n≤9223372036854775807) :
  Calls prog 142 #[.int .i64 n] w fun e w'=>e=.returned (.string c)∧Below w.heap.size w w':=by
 refine(b4d n w hr h0 h1).mono ?_;rintro e w' ⟨rfl,h⟩;refine⟨?_,h⟩;rw[b5l,← hc.1]
end Go.Proofs.YtigapglmipmbeaaGreatDoor
