/- limbs.Nat.Add limbs.Nat.Sub The reference's Order, Plus, Minus. The reference's Plus and Minus. The reference's Minus, scaled, short. limbs.Parse; the reference's Read. The reference's Read. limbs.Form; the reference's Check. frac.Integer, frac.Parse. frac.Parse (printed by mkparse.py). The reference's Check of a natural number. frac.Parse gives the number of a text; nat.Check. rat.with and rat.both, over numbers and over ints. -/
import Derived.Test.YtigapglmipmbeaaGreatDoorLwLedgerKnown01
import Derived.Test.YtigapglmipmbeaaGreatDoorLwLedgerKnown03
import Derived.Test.YtigapglmipmbeaaGreatDoorLwLedgerKnown05
import Derived.Test.YtigapglmipmbeaaGreatDoorLwLedgerKnown04
set_option maxRecDepth 100000
set_option maxHeartbeats 16000000
namespace Go.Proofs.YtigapglmipmbeaaGreatDoor
open Go.RowKit
open Lim
theorem add_carry {xs ys L:List Nat} {c:Nat} (h:AddInv xs ys xs.length L c) (hlen:ys.length≤xs.length) (hx:Lim.Can xs) :
  L++(if 0 < c then [c] else [])=toL (val xs+val ys):=by
 obtain ⟨h1,h2,h3,h4⟩:=h
 rw [val_take_all xs _ (Nat.le_refl _),val_take_all ys _ hlen] at h3
 by_cases hc:0 < c
 ·rw [if_pos hc]
  have hc1:c=1:=by omega
  subst hc1
  refine toL_of_ge (h1.snoc (by decide)) (by rw [val_snoc,h2,h3]) (fun _=>?_)
  simp [h2]
  omega
 ·have hc0:c=0:=by omega
  subst hc0
  rw [if_neg hc,List.append_nil]
  refine toL_of_ge h1 (by simpa using h3) (fun hne=>?_)
  rw [h2]
  have:=hx.ge (fun e=>hne (by rw [e] at h2;exact List.length_eq_zero_iff.1 (by simpa using h2)))
  omega
theorem add_any (x y:Nat) (vx vy:Value) (w:World) (hx:IsNat w vx x) (hy:IsNat w vy y) (hlx:(toL x).length≤40000) (hly:(toL y).length≤40000) :
  Calls Tryz.prog 248 #[vx,vy] w fun e w'=>∃ v,e=.returned v∧IsNat w' v (x+y)∧Below w.heap.size w w':=by
 obtain ⟨A,c,rfl,hc,hcm,hra⟩:=hx
 obtain ⟨A',c',rfl,hc',hcm',hrb⟩:=hy
 obtain ⟨i0,hi,hz0,hz1,hz2⟩:=info_parts Tryz.infoU
 go_enter Tryz.func248,Tryz.ntmps248
 go_upto_if 13 with (fail)
 go_cut [0,1] (fun s0 s1 wx=>w=wx∧∃ (p q:Nat) (B B':Option Addr) (d d':Nat),p+q=x+y∧(toL q).length≤(toL p).length∧(toL p).length≤40000∧s0=.slice B (toL p).length d∧s1=.slice B' (toL q).length d'∧Row w B (U64 (toL p))∧Row w B' (U64 (toL q)))
 case first =>
  by_cases hlt:(toL x).length < (toL y).length
  ·go_wp2
   go_meet
   case rel=>exact ⟨rfl,y,x,_,_,_,_,by omega,by omega,by omega,rfl,rfl,hrb,hra⟩
  ·go_wp2
   go_meet
   case rel=>exact ⟨rfl,x,y,_,_,_,_,by omega,by omega,by omega,rfl,rfl,hra,hrb⟩
 case rest =>
  obtain ⟨rfl,p,q,A,A',c,c',hpq,hqp,hp,rfl,rfl,hra,hrb⟩:=hcut
  have hxs:=sm_toL p
  have hys:=sm_toL q
  have HPQ:=Lib.hid hpq
  clear hpq
  go_wp2_with (at_make;refine wpList_make_own _ rfl _ _ 214 rfl w.heap.size 117 i0 (.int .u64 0) 1 Tryz.underlying214 hi hz0 hz1 .i64 .i64 _ ((toL p).length+1) rfl rfl (by omega) (by rw [hz2];omega) (by unfold maxLen;omega) (Nat.le_refl _) ?_;intro w0 hown0 hgrow0)
  have hB0:Below w.heap.size w w0:=(Below.refl _ _).grown hgrow0 (Nat.le_refl _) (fun k e=>by cases e)
  clear hgrow0
  go_loopw [5,6,22] (fun v s i wr=>∃ (k:Nat) (L:List Nat) (cy:Nat),k≤(toL p).length∧i=.int .i64 (k:Int)∧s=.int .u64 (cy:Int)∧AddInv (toL p) (toL q) k L cy∧wr.ownsRow w.heap.size 117 1 v k (U64 L)∧Below w.heap.size w wr) (fun _ _ i _=>(toL p).length - (intOf i).toNat)
  case atStart=>exact ⟨0,[],0,Nat.zero_le _,rfl,rfl,AddInv.start _ _,hown0,hB0⟩
  case round =>
   obtain ⟨k,L,cy,hk,rfl,rfl,hinv,hown,hB⟩:=hrel
   clear hown0 hB0
   have hcy:=hinv.2.2.2
   by_cases hlt:k < (toL p).length
   ·obtain ⟨b,o,rfl,hb,hcell⟩:=hra (by rw [U64_length];omega)
    have hcx:=(hB.cell (p:=⟨b,o+k,none⟩) hb).trans (hcell k _ (U64_get hlt))
    have hx0:=hxs.get k
    clear hcell hra
    by_cases hlq:k < (toL q).length
    ·obtain ⟨b2,o2,rfl,hb2,hcell2⟩:=hrb (by rw [U64_length];omega)
     have hcy2:=(hB.cell (p:=⟨b2,o2+k,none⟩) hb2).trans (hcell2 k _ (U64_get hlq))
     have hy0:=hys.get k
     clear hcell2 hrb
     have HST:=Lib.hid (hinv.step hxs hys rfl)
     clear hinv
     generalize (toL p)[k]?.getD 0=x0 at *
     generalize (toL q)[k]?.getD 0=y0 at *
     rw [B_val] at hx0 hy0
     go_wp2_with (at_builtin;refine wpList_append_own _ rfl _ _ 214 rfl w.heap.size 117 i0 (.int .u64 0) 1 8 Tryz.underlying214 hi hz0 hz1 hz2 rfl (by decide) _ _ _ rfl (hown.alloc _) ⟨wr.heap.size,0,none⟩ 1 1 [.int .u64 (((x0:Int)+(cy:Int)+(y0:Int)) % 1000000000)] rfl rfl (cell_one_new _ _ _) (by simp [Value.oneCell']) (by unfold maxLen;omega) (by omega) (by have:=hB.size;simp;omega) ?_;intro v' w1 hown' hgrow _)
     have e1:((x0:Int)+(cy:Int)+(y0:Int)) % 1000000000=(((x0+cy+y0) % B:Nat):Int):=by rw [B_val];omega
     go_roundw
     case rel=>exact ⟨k+1,_,_,by omega,by go_num,int_eq (by rw [B_val];omega),HST.out,by rw [← U64_snoc,← e1];exact hown',(hB.alloc (by have:=hB.size;omega) _).grown hgrow (by have:=hB.size;simp;omega) (fun k e=>(hown.lt k e).1)⟩
     case measure=>simp [intOf];omega
    ·have HST:=Lib.hid (hinv.step hxs hys rfl)
     clear hinv
     have hy0:(toL q)[k]?.getD 0=0:=by simp [Nat.le_of_not_lt hlq]
     generalize (toL p)[k]?.getD 0=x0 at *
     simp only [hy0,Nat.add_zero] at HST
     clear hy0
     rw [B_val] at hx0
     go_wp2_with (at_builtin;refine wpList_append_own _ rfl _ _ 214 rfl w.heap.size 117 i0 (.int .u64 0) 1 8 Tryz.underlying214 hi hz0 hz1 hz2 rfl (by decide) _ _ _ rfl (hown.alloc _) ⟨wr.heap.size,0,none⟩ 1 1 [.int .u64 (((x0:Int)+(cy:Int)) % 1000000000)] rfl rfl (cell_one_new _ _ _) (by simp [Value.oneCell']) (by unfold maxLen;omega) (by omega) (by have:=hB.size;simp;omega) ?_;intro v' w1 hown' hgrow _)
     have e1:((x0:Int)+(cy:Int)) % 1000000000=(((x0+cy) % B:Nat):Int):=by rw [B_val];omega
     go_roundw
     case rel=>exact ⟨k+1,_,_,by omega,by go_num,int_eq (by rw [B_val];omega),HST.out,by rw [← U64_snoc,← e1];exact hown',(hB.alloc (by have:=hB.size;omega) _).grown hgrow (by have:=hB.size;simp;omega) (fun k e=>(hown.lt k e).1)⟩
     case measure=>simp [intOf];omega
   ·have hkk:k=(toL p).length:=by omega
    have HE:=Lib.hid (add_carry (hkk ▸ hinv) hqp (can_toL p))
    rw [val_toL,val_toL,HPQ.out] at HE
    clear hinv hra hrb
    obtain rfl:=hkk
    by_cases h0:0 < cy
    ·rw [if_pos h0] at HE
     go_wp2_with (at_builtin;refine wpList_append_own _ rfl _ _ 214 rfl w.heap.size 117 i0 (.int .u64 0) 1 8 Tryz.underlying214 hi hz0 hz1 hz2 rfl (by decide) _ _ _ rfl (hown.alloc _) ⟨wr.heap.size,0,none⟩ 1 1 [.int .u64 ((cy:Int))] rfl rfl (cell_one_new _ _ _) (by simp [Value.oneCell']) (by unfold maxLen;omega) (by omega) (by have:=hB.size;simp;omega) ?_;intro v' w1 hown' hgrow _)
     go_ret
     refine ⟨_,rfl,isNat_of_owns (base:=w.heap.size) (e:=117) (n:=(toL p).length+1) ?_,(hB.alloc (by have:=hB.size;omega) _).grown hgrow (by have:=hB.size;simp;omega) (fun k e=>(hown.lt k e).1)⟩
     rw [← HE.out,← U64_snoc]
     exact hown'
    ·rw [if_neg h0,List.append_nil] at HE
     go_wp2
     go_ret
     refine ⟨_,rfl,isNat_of_owns (base:=w.heap.size) (e:=117) (n:=(toL p).length) ?_,hB⟩
     rw [← HE.out]
     exact hown
theorem sub_any (x y:Nat) (vx vy:Value) (w:World) (hx:IsNat w vx x) (hy:IsNat w vy y) (hle:y≤x) (hlx:(toL x).length≤40000) :
  Calls Tryz.prog 249 #[vx,vy] w fun e w'=>∃ v,e=.returned v∧IsNat w' v (x - y)∧Below w.heap.size w w':=by
 obtain ⟨A,c,rfl,hc,hcm,hra⟩:=hx
 obtain ⟨A',c',rfl,hc',hcm',hrb⟩:=hy
 obtain ⟨i0,hi,hz0,hz1,hz2⟩:=info_parts Tryz.infoU
 have hlen:(toL y).length≤(toL x).length:=toL_len_mono hle
 have hmk:=fun W=>run_makeN (P:=Tryz.prog) Tryz.underlying214 hi hz0 hz1 hz2 (n:=(toL x).length) (by omega) rfl W
 have hxs:=sm_toL x
 have hys:=sm_toL y
 have HLE:=Lib.hid hle
 clear hle
 go_enter Tryz.func249,Tryz.ntmps249
 go_wp2
 clear hmk
 have hblk0:Blk (w.alloc (.cells (madeCells #[.int .u64 0] (toL x).length) 117)) w.heap.size 117 (U64 (List.replicate (toL x).length 0)).toArray:=by rw [← U64_zeros];exact Blk.new _ _ _
 go_loopw [6,15] (fun s i wr=>∃ (k:Nat) (O:List Nat) (cy:Nat),k≤(toL x).length∧i=.int .i64 (k:Int)∧s=.int .u64 (cy:Int)∧Sm O∧O.length=(toL x).length∧SubInv (toL x) (toL y) k (O.take k) cy∧Blk wr w.heap.size 117 (U64 O).toArray∧Below w.heap.size w wr) (fun _ i _=>(toL x).length - (intOf i).toNat)
 case atStart=>exact ⟨0,_,0,Nat.zero_le _,rfl,rfl,Sm.zeros _,by simp,by simpa using SubInv.start _ _,hblk0,(Below.refl _ _).alloc (Nat.le_refl _) _⟩
 case round =>
  obtain ⟨k,O,cy,hk,rfl,rfl,hO,hOl,hinv,hblk,hB⟩:=hrel
  clear hblk0
  have hcy:=hinv.2.2.2
  by_cases hlt:k < (toL x).length
  ·obtain ⟨b,o,rfl,hb,hcell⟩:=hra (by rw [U64_length];omega)
   have hcx:=(hB.cell (p:=⟨b,o+k,none⟩) hb).trans (hcell k _ (U64_get hlt))
   have hx0:=hxs.get k
   have hst1:=hblk.getU (i:=k) (by omega)
   have hst2:=hblk.frozen k
   clear hcell hra
   have HOL:=Lib.hid hOl
   have HB:=Lib.hid hblk
   clear hOl hblk
   generalize hxe:(toL x)[k]?.getD 0=x0 at hcx hx0
   rw [B_val] at hx0
   by_cases hlq:k < (toL y).length
   ·obtain ⟨b2,o2,rfl,hb2,hcell2⟩:=hrb (by rw [U64_length];omega)
    have hcy2:=(hB.cell (p:=⟨b2,o2+k,none⟩) hb2).trans (hcell2 k _ (U64_get hlq))
    have hy0:=hys.get k
    clear hcell2 hrb
    generalize hye:(toL y)[k]?.getD 0=y0 at hcy2 hy0
    rw [B_val] at hy0
    by_cases hlo:x0 < (cy+y0)
    ·have HST:=Lib.hid (hinv.no hys (by simpa [hxe,hye] using hlo))
     clear hinv
     simp only [hxe,hye] at HST
     clear hxe  hye
     go_wp2
     have e1:(x0:Int)+1000000000 - ((cy:Int)+(y0:Int))=((x0+B - (cy+y0):Nat):Int):=by rw [B_val];omega
     go_roundw
     case rel=>exact ⟨k+1,O.set k (x0+B - (cy+y0)),1,by omega,by go_num,rfl,hO.set k (by rw [B_val];omega),by simpa using HOL.out,by rw [take_set_succ _ _ _ (by rw [HOL.out];exact hlt)];exact HST.out,by rw [e1];exact HB.out.setU k _,hB.setCell (p:=⟨w.heap.size,k,none⟩) (Nat.le_refl _) _⟩
     case measure=>simp [intOf];omega
    ·have HST:=Lib.hid (hinv.yes hxs (by simpa [hxe,hye] using hlo))
     clear hinv
     simp only [hxe,hye] at HST
     clear hxe  hye
     have hlo':(cy+y0)≤x0:=by omega
     clear hlo
     go_wp2
     have e1:(x0:Int) - ((cy:Int)+(y0:Int))=((x0 - (cy+y0):Nat):Int):=by omega
     go_roundw
     case rel=>exact ⟨k+1,O.set k (x0 - (cy+y0)),0,by omega,by go_num,rfl,hO.set k (by rw [B_val];omega),by simpa using HOL.out,by rw [take_set_succ _ _ _ (by rw [HOL.out];exact hlt)];exact HST.out,by rw [e1];exact HB.out.setU k _,hB.setCell (p:=⟨w.heap.size,k,none⟩) (Nat.le_refl _) _⟩
     case measure=>simp [intOf];omega
   ·have hye:(toL y)[k]?.getD 0=0:=by simp [Nat.le_of_not_lt hlq]
    by_cases hlo:x0 < cy
    ·have HST:=Lib.hid (hinv.no hys (by simpa [hxe,hye,Nat.add_zero] using hlo))
     clear hinv
     simp only [hxe,hye,Nat.add_zero] at HST
     clear hxe  hye  
     go_wp2
     have e1:(x0:Int)+1000000000 - (cy:Int)=((x0+B - cy:Nat):Int):=by rw [B_val];omega
     go_roundw
     case rel=>exact ⟨k+1,O.set k (x0+B - cy),1,by omega,by go_num,rfl,hO.set k (by rw [B_val];omega),by simpa using HOL.out,by rw [take_set_succ _ _ _ (by rw [HOL.out];exact hlt)];exact HST.out,by rw [e1];exact HB.out.setU k _,hB.setCell (p:=⟨w.heap.size,k,none⟩) (Nat.le_refl _) _⟩
     case measure=>simp [intOf];omega
    ·have HST:=Lib.hid (hinv.yes hxs (by simpa [hxe,hye,Nat.add_zero] using hlo))
     clear hinv
     simp only [hxe,hye,Nat.add_zero] at HST
     clear hxe  hye  
     have hlo':cy≤x0:=by omega
     clear hlo
     go_wp2
     have e1:(x0:Int) - (cy:Int)=((x0 - cy:Nat):Int):=by omega
     go_roundw
     case rel=>exact ⟨k+1,O.set k (x0 - cy),0,by omega,by go_num,rfl,hO.set k (by rw [B_val];omega),by simpa using HOL.out,by rw [take_set_succ _ _ _ (by rw [HOL.out];exact hlt)];exact HST.out,by rw [e1];exact HB.out.setU k _,hB.setCell (p:=⟨w.heap.size,k,none⟩) (Nat.le_refl _) _⟩
     case measure=>simp [intOf];omega
  ·obtain rfl:k=(toL x).length:=by omega
   have ht:O.take (toL x).length=O:=List.take_of_length_le (by omega)
   rw [ht] at hinv
   have hdn:=hinv.done (by rw [val_toL,val_toL];exact HLE.out) hlen
   rw [val_toL,val_toL] at hdn
   have hrow:=hblk.row
   clear hinv ht hra hrb
   have HOL:=Lib.hid hOl
   have HB:=Lib.hid hblk
   have HD:=Lib.hid hdn
   clear hOl hblk hdn
   go_wp2_with (go_at_call 273;refine (trim_any O _ _ _ _ HOL.out.symm hO (Nat.le_of_eq HOL.out) (by unfold maxLen;omega) hrow).mono ?_;rintro e w' ⟨rfl,rfl⟩)
   go_ret
   refine ⟨_,rfl,?_,hB⟩
   have:=isNat_trim hO hrow (c:=(toL x).length) (Nat.le_of_eq HOL.out) (by unfold maxLen;omega) HD.out.2
   rw [HD.out.2]
   exact this
end Go.Proofs.YtigapglmipmbeaaGreatDoor
namespace Go.Proofs.YtigapglmipmbeaaGreatDoor
open Go.RowKit Go.Shelf
open Lim
theorem extract_list (s:ByteArray) (a b:Nat):(s.extract a b).data.toList=(s.data.toList.take b).drop a:=by
 rw [ByteArray.data_extract,Array.toList_extract,List.extract_eq_take_drop,List.drop_take]
theorem size_list (s:ByteArray):s.size=s.data.toList.length:=by
 show s.data.size=_
 rw [Array.length_toList]
theorem parse_any (s:ByteArray) (w:World) (hd:Dg s.data.toList) (hlen:s.size≤270000) :
  Calls Tryz.prog 265 #[.string s] w fun e w'=>∃ v,e=.returned v∧IsNat w' v (dv s.data.toList)∧Below w.heap.size w w':=by
 obtain ⟨i0,hi,hz0,hz1,hz2⟩:=info_parts Tryz.infoU
 have HD:=Lib.hid hd
 have hsl:=size_list s
 have HSL:=Lib.hid hsl
 have HST:=Lib.hid (ReadInv.start s.data.toList)
 clear hd hsl
 go_enter Tryz.func265,Tryz.ntmps265
 go_wp2
 go_loopw [3,4,5,6] (fun sv se _ _ wr=>∃ (z:Int) (L:List Nat),se=.int .i64 z∧z≤(s.size:Int)∧-9 < z∧9*(L.length:Int)≤(s.size:Int) - z∧ReadInv s.data.toList z.toNat L∧wr.ownsRow w.heap.size 117 1 sv L.length (U64 L)∧Below w.heap.size w wr) (fun _ se _ _ _=>(intOf se+9).toNat)
 case atStart=>exact ⟨(s.size:Int),[],rfl,Int.le_refl _,by omega,by simp,by rw [Int.toNat_natCast,HSL.out];exact HST.out,World.ownsRow_nil _ _ _ _,Below.refl _ _⟩
 case round =>
  obtain ⟨z,L,rfl,hz1',hz2',hz3,hinv,hown,hB⟩:=hrel
  clear HST
  by_cases hz:0 < z
  ·obtain ⟨e,rfl⟩:∃ e:Nat,z=(e:Int):=⟨z.toNat,by omega⟩
   rw [Int.toNat_natCast] at hinv
   have hel:e≤s.data.toList.length:=by rw [← HSL.out];omega
   have he0:0 < e:=by omega
   have hpiece:=extract_list s (e - 9) e
   have hplen:((s.data.toList.take e).drop (e - 9)).length=e - (e - 9):=by rw [List.length_drop,List.length_take];omega
   have hpd:Dg ((s.data.toList.take e).drop (e - 9)):=(HD.out.take _).drop _
   have hpok:Lib.parseUintB 64 (s.extract (e - 9) e).data.toList=.ok (dv ((s.data.toList.take e).drop (e - 9))):=by
    rw [hpiece]
    exact chunk_ok hpd (fun h=>by rw [h] at hplen;simp at hplen;omega) (by rw [hplen];omega)
   have hpsz:(s.extract (e - 9) e).size≤9223372036854775806:=by rw [size_list,hpiece,hplen];omega
   have HPU:=Lib.hid (fun W=>Tryz.strconv_ParseUint_10_at64_ok (s.extract (e - 9) e) hpsz _ hpok W)
   have HSTP:=Lib.hid (hinv.step HD.out he0 hel rfl)
   have hdl:dv ((s.data.toList.take e).drop (e - 9)) < 1000000000:=by
    refine Nat.lt_of_lt_of_le (dv_lt hpd) ?_
    rw [hplen]
    exact Nat.le_trans (Nat.pow_le_pow_right (by omega) (show e - (e - 9)≤9 by omega)) (by decide)
   clear hinv hel hpiece hplen hpd hpok hpsz
   generalize dv ((s.data.toList.take e).drop (e - 9))=d at *
   have TK1:True:=trivial
   have hesz:(e:Int)≤(s.size:Int):=hz1'
   obtain ⟨Av,cvv,rfl⟩:=slice_of_owns hown
   by_cases h9:9≤e
   ·have hmax:max (0:Int) ((e:Int) - 9)=(e:Int) - 9:=by omega
    go_upto_region 6 with (clear TK1;go_at_call 296;refine (HPU.out _).mono ?_;rintro e w1 ⟨rfl,hw1⟩;have hb1:Below wr.heap.size wr w1:=(by rcases hw1 with rfl|rfl;(exact Below.refl _ _);(exact Lib.bytesWorld_below _ _ _));have HOW:=Lib.hid (hown.kept (grownBy_of_below hb1) (by cases (Value.slice Av L.length cvv).ownBlock<;>simp));have HB1:=Lib.hid (hB.trans (hb1.mono hB.size));clear hw1 hb1)
    go_wp2_with (at_builtin;refine wpList_append_own _ rfl _ _ 214 rfl w.heap.size 117 i0 (.int .u64 0) 1 8 Tryz.underlying214 hi hz0 hz1 hz2 rfl (by decide) _ _ _ rfl (HOW.out.alloc _) ⟨w1.heap.size,0,none⟩ 1 1 [.int .u64 (d:Int)] rfl rfl (cell_one_new _ _ _) (by simp [Value.oneCell']) (by unfold maxLen;omega) (by omega) (by have:=HB1.out.size;simp;omega) ?_;intro v' w2 hown' hgrow _)
    go_roundw
    case rel =>
     refine ⟨(e:Int) - 9,L++[d],rfl,by omega,by omega,by rw [List.length_append,List.length_singleton];omega,?_,?_,(HB1.out.alloc HB1.out.size _).grown hgrow (by have:=HB1.out.size;simp;omega) (fun k e=>(HOW.out.lt k e).1)⟩
     ·rw [show ((e:Int) - 9).toNat=e - 9 by omega];exact HSTP.out
     ·rw [← U64_snoc,List.length_append];exact hown'
    case measure=>simp [intOf];omega
   ·have hmax:max (0:Int) ((e:Int) - 9)=0:=by omega
    have h90:e - 9=0:=by omega
    rw [h90] at HPU
    go_upto_region 6 with (clear TK1;go_at_call 296;refine (HPU.out _).mono ?_;rintro e w1 ⟨rfl,hw1⟩;have hb1:Below wr.heap.size wr w1:=(by rcases hw1 with rfl|rfl;(exact Below.refl _ _);(exact Lib.bytesWorld_below _ _ _));have HOW:=Lib.hid (hown.kept (grownBy_of_below hb1) (by cases (Value.slice Av L.length cvv).ownBlock<;>simp));have HB1:=Lib.hid (hB.trans (hb1.mono hB.size));clear hw1 hb1)
    go_wp2_with (at_builtin;refine wpList_append_own _ rfl _ _ 214 rfl w.heap.size 117 i0 (.int .u64 0) 1 8 Tryz.underlying214 hi hz0 hz1 hz2 rfl (by decide) _ _ _ rfl (HOW.out.alloc _) ⟨w1.heap.size,0,none⟩ 1 1 [.int .u64 (d:Int)] rfl rfl (cell_one_new _ _ _) (by simp [Value.oneCell']) (by unfold maxLen;omega) (by omega) (by have:=HB1.out.size;simp;omega) ?_;intro v' w2 hown' hgrow _)
    go_roundw
    case rel =>
     refine ⟨(e:Int) - 9,L++[d],rfl,by omega,by omega,by rw [List.length_append,List.length_singleton];omega,?_,?_,(HB1.out.alloc HB1.out.size _).grown hgrow (by have:=HB1.out.size;simp;omega) (fun k e=>(HOW.out.lt k e).1)⟩
     ·rw [show ((e:Int) - 9).toNat=e - 9 by omega];exact HSTP.out
     ·rw [← U64_snoc,List.length_append];exact hown'
    case measure=>simp [intOf];omega
  ·have hz0':z.toNat=0:=by omega
   rw [hz0'] at hinv
   obtain ⟨hsL,hvL⟩:=hinv.done
   obtain ⟨A5,c5,rfl⟩:=slice_of_owns hown
   obtain ⟨h0,h1,h2,h3⟩:=row_of_owns hown
   have HVL:=Lib.hid hvL
   clear hinv hown h0 hz0' hvL
   go_wp2_with (go_at_call 273;refine (trim_any L _ _ _ _ rfl hsL h1 h2 h3).mono ?_;rintro e w' ⟨rfl,rfl⟩)
   go_ret
   refine ⟨_,rfl,?_,hB⟩
   rw [HVL.out]
   exact isNat_trim hsL h3 (c:=c5) h1 h2 HVL.out
theorem dropWhile_head {p:UInt8→Bool}:∀ (l r:List UInt8) {x:UInt8},l.dropWhile p=x::r→p x=false
 | [],r,x,h=>by cases h
 | y::l,r,x,h=>by
  rw [List.dropWhile_cons] at h
  cases hy:p y with
  | true=>rw [hy] at h;exact dropWhile_head l r (by simpa using h)
  | false=>rw [hy] at h;simp at h;rw [← h.1];exact hy
theorem trim_digits (l:List UInt8):(Lib.trimS l [48,49,50,51,52,53,54,55,56,57]).isEmpty=l.all isD:=by
 have hc:∀ b:UInt8,([48,49,50,51,52,53,54,55,56,57]:List UInt8).contains b=isD b:=by
  have:∀ k:Fin 256,([48,49,50,51,52,53,54,55,56,57]:List UInt8).contains (UInt8.ofNat k.val)=isD (UInt8.ofNat k.val):=by decide +kernel
  intro b
  have h:=this ⟨b.toNat,b.toNat_lt⟩
  simpa using h
 have hdw:∀ r:List UInt8,(r.dropWhile (([48,49,50,51,52,53,54,55,56,57]:List UInt8).contains ·)).isEmpty=r.all isD:=by
  intro r
  induction r with
  | nil=>rfl
  | cons x r ih =>
   rw [List.dropWhile_cons,hc,List.all_cons]
   cases isD x with
   | true=>simpa using ih
   | false=>simp
 unfold Lib.trimS Lib.trimLeftS Lib.trimRightS
 rw [hdw]
 by_cases h:l.all isD=true
 ·rw [h,List.all_reverse,List.all_eq_true]
  intro b hb
  have h2:(l.reverse.dropWhile (([48,49,50,51,52,53,54,55,56,57]:List UInt8).contains ·)).isEmpty=true:=by rw [hdw,List.all_reverse];exact h
  rw [List.isEmpty_iff] at h2
  rw [h2] at hb
  cases hb
 ·have h2:(l.reverse.dropWhile (([48,49,50,51,52,53,54,55,56,57]:List UInt8).contains ·)).isEmpty=false:=by
   rw [hdw,List.all_reverse];simpa using h
  rw [Bool.eq_false_iff.2 h]
  have hne:l.reverse.dropWhile (([48,49,50,51,52,53,54,55,56,57]:List UInt8).contains ·)≠[]:=fun e=>by rw [e] at h2;simp at h2
  obtain ⟨x,r,hx⟩:=List.exists_cons_of_ne_nil hne
  rw [hx,List.all_reverse,List.all_cons]
  have hd:=dropWhile_head _ _ hx
  rw [hc] at hd
  rw [hd]
  simp
theorem trim10_any (s:ByteArray) (w:World) (hs:s.size≤4000000000) :
  Calls Tryz.prog 295 #[.string s,.string ⟨#[48,49,50,51,52,53,54,55,56,57]⟩] w fun e w'=>e=.returned (.string ⟨(Lib.trimS s.data.toList [48,49,50,51,52,53,54,55,56,57]).toArray⟩)∧Below w.heap.size w w' :=
 Any.strings_Trim_laid Tryz.lays160 (by kernel_rfl) s ⟨#[48,49,50,51,52,53,54,55,56,57]⟩ w (by omega) (by decide) (by
  intro j b hb
  have:b∈([48,49,50,51,52,53,54,55,56,57]:List UInt8):=List.mem_of_getElem? hb
  have key:∀ b∈([48,49,50,51,52,53,54,55,56,57]:List UInt8),b.toNat < 128:=by decide
  exact key b this)
theorem form_any (s:ByteArray) (w:World) (hlen:s.size≤4000000000) :
  Calls Tryz.prog 264 #[.string s] w fun e w'=>e=.returned (.bool (NForm s.data.toList))∧Below w.heap.size w w':=by
 have hl:=Lib.toList_data s
 by_cases h1:s.data.toList=[]
 ·have e1:s.toList.isEmpty=true:=by rw [hl,h1];rfl
  have e2:NForm s.data.toList=false:=by rw [h1];rfl
  rw [e2]
  clear hl h1 e2
  go_enter Tryz.func264,Tryz.ntmps264
  go_wp2
  go_ret
  exact ⟨rfl,Below.refl _ _⟩
 ·have e1:s.toList.isEmpty=false:=by rw [hl,List.isEmpty_eq_false_iff];exact h1
  have hpos:0 < s.size:=by rw [size_list];exact List.length_pos_iff.2 h1
  have hs0:s[0]=s.data.toList[0]'(by rw [← size_list];exact hpos):=by rw [Array.getElem_toList];rfl
  have hhead:s.data.toList.head?=some s[0]:=by rw [hs0,List.head?_eq_getElem?,List.getElem?_eq_getElem]
  obtain ⟨r,hr⟩:∃ r:ByteArray,(⟨(Lib.trimS s.data.toList [48,49,50,51,52,53,54,55,56,57]).toArray⟩:ByteArray)=r:=⟨_,rfl⟩
  have hre:r.toList.isEmpty=s.data.toList.all isD:=by
   rw [← trim_digits,Lib.toList_data,← hr]
  have HT:=Lib.hid (fun W=>trim10_any s W hlen)
  rw [hr] at HT
  have hnf:NForm s.data.toList=((s.data.toList==[48] || s.data.toList.head? != some 48)&&s.data.toList.all isD):=by
   unfold NForm
   rw [List.isEmpty_eq_false_iff.2 h1]
   rfl
  by_cases h2:s.data.toList=[48]
  ·have e2:s.toList=[48]:=by rw [hl];exact h2
   have e3:r.toList.isEmpty=true:=by rw [hre,h2];rfl
   have e4:NForm s.data.toList=true:=by rw [h2];rfl
   rw [e4]
   clear hl h1 h2 hs0 hhead hre hr hnf e4
   go_enter Tryz.func264,Tryz.ntmps264
   have TK1:True:=trivial
   go_wp2_with (clear TK1;go_at_call 295;refine (HT.out _).mono ?_;rintro e w1 ⟨rfl,hb1⟩;have HB1:=Lib.hid hb1;clear hb1)
   go_ret
   exact ⟨rfl,HB1.out⟩
  ·have e2:¬ s.toList=[48]:=by rw [hl];exact h2
   have e2':(s.toList==[48])=false:=by rw [beq_eq_false_iff_ne];exact e2
   have hb2:(s.data.toList==[48])=false:=by rw [beq_eq_false_iff_ne];exact h2
   rw [hb2,Bool.false_or,hhead] at hnf
   by_cases h3:(s[0].toNat:Int)=48
   ·have e4:NForm s.data.toList=false:=by
     rw [hnf]
     have:s[0]=48:=by
      apply UInt8.toNat_inj.1
      show s[0].toNat=48
      omega
     rw [this]
     rfl
    rw [e4]
    have h3':(((s[0].toNat:Int)) != 48)=false:=by rw [bne_eq_false_iff_eq];exact h3
    clear hl h1 h2 hs0 hhead hre hr hnf e4 hb2
    go_enter Tryz.func264,Tryz.ntmps264
    go_wp2
    go_ret
    exact ⟨rfl,Below.refl _ _⟩
   ·have h3':(((s[0].toNat:Int)) != 48)=true:=by rw [bne_iff_ne];exact h3
    have e4:NForm s.data.toList=s.data.toList.all isD:=by
     rw [hnf]
     have:(some s[0] != some (48:UInt8))=true:=by
      rw [bne_iff_ne]
      intro e
      apply h3
      injection e with e
      rw [e];rfl
     rw [this,Bool.true_and]
    rw [e4,← hre]
    have HRE:=Lib.hid hre
    clear hl h1 h2 hs0 hhead hre hr hnf e4 hb2
    obtain ⟨rb,hrb⟩:∃ rb,r.toList.isEmpty=rb:=⟨_,rfl⟩
    rw [hrb]
    go_enter Tryz.func264,Tryz.ntmps264
    have TK1:True:=trivial
    cases rb with
    | true =>
     go_wp2_with (clear TK1;go_at_call 295;refine (HT.out _).mono ?_;rintro e w1 ⟨rfl,hb1⟩;have HB1:=Lib.hid hb1;clear hb1)
     go_ret
     exact ⟨rfl,HB1.out⟩
    | false =>
     go_wp2_with (clear TK1;go_at_call 295;refine (HT.out _).mono ?_;rintro e w1 ⟨rfl,hb1⟩;have HB1:=Lib.hid hb1;clear hb1)
     go_ret
     exact ⟨rfl,HB1.out⟩
theorem cut_prefix (l:List UInt8):Lib.hasPrefix l [45]=(intP l).1∧Lib.trimPrefix l [45]=(intP l).2:=by
 unfold Lib.trimPrefix Lib.hasPrefix intP
 cases l with
 | nil=>exact ⟨rfl,rfl⟩
 | cons x r =>
  by_cases h:x=45
  ·subst h;exact ⟨rfl,rfl⟩
  ·have h1:([45]:List UInt8).isPrefixOf (x::r)=false:=by simp [List.isPrefixOf];exact fun e=>h e.symm
   have h2:¬ (x::r).head?=some 45:=by simp [h]
   rw [h1,if_neg h2]
   exact ⟨rfl,rfl⟩
theorem intP_le (l:List UInt8):(intP l).2.length≤l.length:=by
 unfold intP
 split
 ·simp
 ·exact Nat.le_refl _
theorem integer_any (s:ByteArray) (w:World) (hlen:s.size≤4000000000) :
  Calls Tryz.prog 263 #[.string s] w fun e w'=>e=.returned (.tuple #[.bool (intP s.data.toList).1,.string ⟨(intP s.data.toList).2.toArray⟩,.bool (intOk s.data.toList)])∧Below w.heap.size w w':=by
 obtain ⟨hp1,hp2⟩:=cut_prefix s.data.toList
 have hle:=intP_le s.data.toList
 have hsz:=size_list s
 unfold intOk
 generalize intP s.data.toList=p at *
 obtain ⟨m,l⟩:=p
 dsimp only at hp1 hp2 hle ⊢
 have hl2:(⟨l.toArray⟩:ByteArray).size≤4000000000:=by
  show l.toArray.size≤_
  rw [List.size_toArray];omega
 generalize hs2:(⟨l.toArray⟩:ByteArray)=s2 at *
 have hd2:s2.data.toList=l:=by rw [← hs2]
 have HC:=Lib.hid (Tryz.strings_CutPrefix s ⟨#[45]⟩)
 have HP:=Lib.hid (And.intro hp1 hp2)
 have HL:=Lib.hid hl2
 have HD:=Lib.hid hd2
 have HS2:=Lib.hid hs2
 have HF:=Lib.hid (fun w'=>form_any s2 w' hl2)
 have e2:s2.toList=l:=by rw [Lib.toList_data,hd2]
 generalize hnf:NForm l=f at *
 have HNF:=Lib.hid hnf
 have E2:=Lib.hid e2
 clear hp1 hp2 hle hsz hl2 hd2 hs2 hnf e2
 cases f<;>cases m <;>
 ·go_enter Tryz.func263,Tryz.ntmps263
  go_wp2_with (first
   | (go_at_call 294;refine (HC.out _).mono ?_;rintro e w1 ⟨rfl,rfl⟩;rw [show Lib.hasPrefix s.data.toList (⟨#[45]⟩:ByteArray).data.toList=_ from HP.out.1,show Lib.trimPrefix s.data.toList (⟨#[45]⟩:ByteArray).data.toList=l from HP.out.2,HS2.out])
   | (go_at_call 264;refine (HF.out _).mono ?_;rintro e w2 ⟨rfl,hb2⟩;have HB2:=Lib.hid hb2;clear hb2;rw [HD.out,HNF.out]))
  refine bodyPost_ret (results_tmp3 rfl _ _ _) rfl ⟨?_,HB2.out⟩
  first|rfl|(simp [E2.out])
theorem dg_of_form {l:List UInt8} (h:NForm l=true):Dg l:=by
 have e:=NForm.eq h
 rw [← e]
 exact decDigits_dg _
end Go.Proofs.YtigapglmipmbeaaGreatDoor

namespace Go.Proofs.YtigapglmipmbeaaGreatDoor
open Go.RowKit Go.Shelf
open Lim
theorem ret_frac2 {fn:Func} {p u:Tmp} {R:Ending→World→Prop} {a:Act} {w:World} {g:Nat} {t:TypeId} {m vn vd:Value} (h:fn.results=#[.cell p 216,.tmp u]) (hd:a.defers=[]) (hp:a.tmps.getD p undef=.pointer (some ⟨g,0,none⟩))
  (hg:Blk w g t #[m,vn,vd]) (hR:R (.returned (.tuple #[.agg #[m,vn,vd],a.tmps.getD u undef])) w):bodyPost Tryz.prog fn R .ret a w:=by
 refine bodyPost_ret ?_ hd hR
 rw [results_cell_tmp h,hp]
 simp only [asAddr,Sem.run_pure,Result.andThen_ok]
 rw [run_loadVar_row w g t 216 #[m,vn,vd] (0,0) _ hg Tryz.underlying216 rfl fsize]
 rfl
theorem max_of {w:World} (h:Res w):∃ m:Int,w.cell? ⟨0,0,none⟩=some (.int .i64 m):=h.max
theorem below_drewN {n:Nat} {w W:World} {k:Nat} (h:Below n w W):Below n w (W.drewN k):=⟨h.os,h.tape,h.output,h.size,h.block⟩
theorem beta_ba (s:ByteArray):(⟨s.data.toList.toArray⟩:ByteArray)=s:=by cases s;simp
abbrev zV:Value:=.agg #[.bool false,.slice none 0 0,.slice none 0 0]
theorem z_new (w:World):Blk (w.alloc zF) w.heap.size 216 #[.bool false,.slice none 0 0,.slice none 0 0]:=Blk.new w _ _
theorem cells6 {w:World} {b:Nat} {t:TypeId} {x y z:Value} (h:Blk w b t #[x,y,z]):w.cell? ⟨b,0,none⟩=some x∧w.cell? ⟨b,1,none⟩=some y∧w.cell? ⟨b,2,none⟩=some z∧w.frozen? ⟨b,0,none⟩=false∧w.frozen? ⟨b,1,none⟩=false∧w.frozen? ⟨b,2,none⟩=false :=
 ⟨(cellrow h 0 (by simp)).1,(cellrow h 1 (by simp)).1,(cellrow h 2 (by simp)).1,(cellrow h 0 (by simp)).2,(cellrow h 1 (by simp)).2,(cellrow h 2 (by simp)).2⟩
theorem cells6A {w:World} {b:Nat} {t:TypeId} {x y z:Value} (h:Blk w b t #[x,y,z]):(∀ o,(w.alloc o).cell? ⟨b,0,none⟩=some x)∧(∀ o,(w.alloc o).cell? ⟨b,1,none⟩=some y)∧(∀ o,(w.alloc o).cell? ⟨b,2,none⟩=some z)∧(∀ o,(w.alloc o).frozen? ⟨b,0,none⟩=false)∧(∀ o,(w.alloc o).frozen? ⟨b,1,none⟩=false)∧(∀ o,(w.alloc o).frozen? ⟨b,2,none⟩=false) :=
 ⟨fun o=>(cells6 (h.alloc o)).1,fun o=>(cells6 (h.alloc o)).2.1,fun o=>(cells6 (h.alloc o)).2.2.1,fun o=>(cells6 (h.alloc o)).2.2.2.1,fun o=>(cells6 (h.alloc o)).2.2.2.2.1,fun o=>(cells6 (h.alloc o)).2.2.2.2.2⟩
theorem parse_bad_none (s a b n2:ByteArray) (m sl ok:Bool) (w:World) (hr:Res w) (hs:s.size≤270000) (ha:a.size≤270000) (_hb:b.size≤270000) (_hn:n2.size≤270000) (hc:Lib.cut s.data.toList [47]=(a.data.toList,b.data.toList,sl))
  (hi:intP a.data.toList=(m,n2.data.toList)) (hok:intOk a.data.toList=ok) (hsl:sl=false) (h0:ok=false) :
  Calls Tryz.prog 217 #[.string s] w fun e w'=>∃ v,v=zV∧e=.returned (.tuple #[v,.int .i64 3])∧Below w.heap.size w w':=by
 have HR:=Lib.hid hr
 have HC:=Lib.hid hc
 have HI:=Lib.hid (And.intro hi hok)
 have HB0:=Lib.hid ((Below.refl w.heap.size w).alloc (Nat.le_refl _) zF)
 have TK1:True:=trivial
 clear hr hc hi hok
 subst hsl h0
 ·go_enter Tryz.func217,Tryz.ntmps217
  go_wp2_with (first
   | (go_at_call 262;(obtain ⟨mx,hmx⟩:=max_of (HR.out.below HB0.out);refine (Tryz.strings_Cut s ⟨#[47]⟩ mx _ (by omega) hmx).mono ?_;rintro e w1 ⟨rfl,k,hw1⟩;rw [show Lib.cut s.data.toList (⟨#[47]⟩:ByteArray).data.toList=_ from HC.out];dsimp only;rw [beta_ba,beta_ba];have HB1:=Lib.hid (show Below w.heap.size w w1 by rw [hw1];exact below_drewN HB0.out);have HP1:=Lib.hid (show Blk w1 w.heap.size 216 #[.bool false,.slice none 0 0,.slice none 0 0] by rw [hw1];exact z_new w);clear hw1 hmx))
   | (go_at_call 263;refine (integer_any a _ (by omega)).mono ?_;rintro e w2 ⟨rfl,hb2⟩;rw [HI.out.1,HI.out.2];dsimp only;rw [beta_ba];have HB2:=Lib.hid (HB1.out.trans (hb2.mono HB1.out.size));have HP2:=Lib.hid (HP1.out.below hb2 HP1.out.lt);obtain ⟨h20,h21,h22,h23,h24,h25⟩:=cells6 HP2.out;clear hb2))
  refine ret_frac2 rfl rfl (by simp) (set3 HP2.out) ⟨_,rfl,rfl,?_⟩
  exact set3_below (g:=w.heap.size) HB2.out (Nat.le_refl _)
theorem parse_long_none (s a b n2:ByteArray) (m sl ok:Bool) (w:World) (hr:Res w) (hs:s.size≤270000) (ha:a.size≤270000) (_hb:b.size≤270000) (hn:n2.size≤270000) (hc:Lib.cut s.data.toList [47]=(a.data.toList,b.data.toList,sl))
  (hi:intP a.data.toList=(m,n2.data.toList)) (hok:intOk a.data.toList=ok) (hsl:sl=false) (h0:ok=true) (hl:4000 < n2.size) :
  Calls Tryz.prog 217 #[.string s] w fun e w'=>∃ v,v=zV∧e=.returned (.tuple #[v,.int .i64 5])∧Below w.heap.size w w':=by
 have HR:=Lib.hid hr
 have HC:=Lib.hid hc
 have HI:=Lib.hid (And.intro hi hok)
 have HB0:=Lib.hid ((Below.refl w.heap.size w).alloc (Nat.le_refl _) zF)
 have TK1:True:=trivial
 clear hr hc hi hok
 have hl1:decide ((4000:Int) < (n2.size:Int))=true:=decide_eq_true (by omega)
 clear hl
 subst hsl h0
 ·go_enter Tryz.func217,Tryz.ntmps217
  go_wp2_with (first
   | (go_at_call 262;(obtain ⟨mx,hmx⟩:=max_of (HR.out.below HB0.out);refine (Tryz.strings_Cut s ⟨#[47]⟩ mx _ (by omega) hmx).mono ?_;rintro e w1 ⟨rfl,k,hw1⟩;rw [show Lib.cut s.data.toList (⟨#[47]⟩:ByteArray).data.toList=_ from HC.out];dsimp only;rw [beta_ba,beta_ba];have HB1:=Lib.hid (show Below w.heap.size w w1 by rw [hw1];exact below_drewN HB0.out);have HP1:=Lib.hid (show Blk w1 w.heap.size 216 #[.bool false,.slice none 0 0,.slice none 0 0] by rw [hw1];exact z_new w);clear hw1 hmx))
   | (go_at_call 263;refine (integer_any a _ (by omega)).mono ?_;rintro e w2 ⟨rfl,hb2⟩;rw [HI.out.1,HI.out.2];dsimp only;rw [beta_ba];have HB2:=Lib.hid (HB1.out.trans (hb2.mono HB1.out.size));have HP2:=Lib.hid (HP1.out.below hb2 HP1.out.lt);obtain ⟨h20,h21,h22,h23,h24,h25⟩:=cells6 HP2.out;clear hb2))
  refine ret_frac2 rfl rfl (by simp) (set3 HP2.out) ⟨_,rfl,rfl,?_⟩
  exact set3_below (g:=w.heap.size) HB2.out (Nat.le_refl _)
theorem parse_ok_none (s a b n2:ByteArray) (m sl ok:Bool) (w:World) (hr:Res w) (hs:s.size≤270000) (ha:a.size≤270000) (_hb:b.size≤270000) (hn:n2.size≤270000) (hc:Lib.cut s.data.toList [47]=(a.data.toList,b.data.toList,sl))
  (hi:intP a.data.toList=(m,n2.data.toList)) (hok:intOk a.data.toList=ok) (hsl:sl=false) (h0:ok=true) (hl:n2.size≤4000) (hd:Dg n2.data.toList) :
  Calls Tryz.prog 217 #[.string s] w fun e w'=>∃ v,e=.returned (.tuple #[v,.int .i64 0])∧IsParts w' v m (dv n2.data.toList) (dv [49])∧Below w.heap.size w w':=by
 have HR:=Lib.hid hr
 have HC:=Lib.hid hc
 have HI:=Lib.hid (And.intro hi hok)
 have HB0:=Lib.hid ((Below.refl w.heap.size w).alloc (Nat.le_refl _) zF)
 have TK1:True:=trivial
 clear hr hc hi hok
 have HG:=Lib.hid (And.intro hd (show Dg (⟨#[49]⟩:ByteArray).data.toList from fun x hx=>by simp at hx;subst hx;rfl))
 have hl1:decide ((4000:Int) < (n2.size:Int))=false:=decide_eq_false (by omega)
 clear hd hl
 subst hsl h0
 ·go_enter Tryz.func217,Tryz.ntmps217
  go_wp2_with (first
   | (go_at_call 262;(obtain ⟨mx,hmx⟩:=max_of (HR.out.below HB0.out);refine (Tryz.strings_Cut s ⟨#[47]⟩ mx _ (by omega) hmx).mono ?_;rintro e w1 ⟨rfl,k,hw1⟩;rw [show Lib.cut s.data.toList (⟨#[47]⟩:ByteArray).data.toList=_ from HC.out];dsimp only;rw [beta_ba,beta_ba];have HB1:=Lib.hid (show Below w.heap.size w w1 by rw [hw1];exact below_drewN HB0.out);have HP1:=Lib.hid (show Blk w1 w.heap.size 216 #[.bool false,.slice none 0 0,.slice none 0 0] by rw [hw1];exact z_new w);clear hw1 hmx))
   | (go_at_call 263;refine (integer_any a _ (by omega)).mono ?_;rintro e w2 ⟨rfl,hb2⟩;rw [HI.out.1,HI.out.2];dsimp only;rw [beta_ba];have HB2:=Lib.hid (HB1.out.trans (hb2.mono HB1.out.size));have HP2:=Lib.hid (HP1.out.below hb2 HP1.out.lt);obtain ⟨h20,h21,h22,h23,h24,h25⟩:=cells6 HP2.out;clear hb2)
   | (clear TK1;go_at_call 265;refine (parse_any n2 _ HG.out.1 (by omega)).mono ?_;rintro e w4 ⟨v4,rfl,hv4,hb4⟩;obtain ⟨A4,c4,rfl,_,_,_⟩:=id hv4;have HV4:=Lib.hid hv4;have HB4:=Lib.hid (HB2.out.trans (hb4.mono HB2.out.size));have HP4:=Lib.hid (HP2.out.below hb4 HP2.out.lt);clear hv4 hb4)
   | (go_at_call 265;refine (parse_any (⟨#[49]⟩:ByteArray) _ HG.out.2 (by first|omega|decide)).mono ?_;rintro e w5 ⟨v5,rfl,hv5,hb5⟩;obtain ⟨A5,c5,rfl,_,_,_⟩:=id hv5;have HV5:=Lib.hid hv5;have HV4':=Lib.hid (HV4.out.below hb5);have HB5:=Lib.hid (HB4.out.trans (hb5.mono HB4.out.size));have HP5:=Lib.hid (HP4.out.below hb5 HP4.out.lt);obtain ⟨h50,h51,h52,h53,h54,h55⟩:=cells6A HP5.out;clear hv5 hb5))
  refine ret_frac2 rfl rfl (by simp) (set3 ((HP5.out).alloc _)) ⟨_,rfl,?_,?_⟩
  ·have hx:=(Below.refl w5.heap.size w5).alloc (Nat.le_refl _) (.cells #[.bool m,.slice A4 (toL (dv n2.data.toList)).length c4,.slice A5 (toL 1).length c5] 216)
   exact isParts_mk (isNat_set3 (HV4'.out.below hx) (HP5.out.alloc _)) (isNat_set3 (HV5.out.below hx) (HP5.out.alloc _))
  ·exact set3_below (g:=w.heap.size) (HB5.out.alloc HB5.out.size _) (Nat.le_refl _)
theorem parse_bad1 (s a b n2:ByteArray) (m sl ok:Bool) (w:World) (hr:Res w) (hs:s.size≤270000) (ha:a.size≤270000) (_hb:b.size≤270000) (_hn:n2.size≤270000) (hc:Lib.cut s.data.toList [47]=(a.data.toList,b.data.toList,sl))
  (hi:intP a.data.toList=(m,n2.data.toList)) (hok:intOk a.data.toList=ok) (hsl:sl=true) (h0:ok=false) :
  Calls Tryz.prog 217 #[.string s] w fun e w'=>∃ v,v=zV∧e=.returned (.tuple #[v,.int .i64 3])∧Below w.heap.size w w':=by
 have HR:=Lib.hid hr
 have HC:=Lib.hid hc
 have HI:=Lib.hid (And.intro hi hok)
 have HB0:=Lib.hid ((Below.refl w.heap.size w).alloc (Nat.le_refl _) zF)
 have TK1:True:=trivial
 clear hr hc hi hok
 subst hsl h0
 ·go_enter Tryz.func217,Tryz.ntmps217
  go_wp2_with (first
   | (go_at_call 262;(obtain ⟨mx,hmx⟩:=max_of (HR.out.below HB0.out);refine (Tryz.strings_Cut s ⟨#[47]⟩ mx _ (by omega) hmx).mono ?_;rintro e w1 ⟨rfl,k,hw1⟩;rw [show Lib.cut s.data.toList (⟨#[47]⟩:ByteArray).data.toList=_ from HC.out];dsimp only;rw [beta_ba,beta_ba];have HB1:=Lib.hid (show Below w.heap.size w w1 by rw [hw1];exact below_drewN HB0.out);have HP1:=Lib.hid (show Blk w1 w.heap.size 216 #[.bool false,.slice none 0 0,.slice none 0 0] by rw [hw1];exact z_new w);clear hw1 hmx))
   | (go_at_call 263;refine (integer_any a _ (by omega)).mono ?_;rintro e w2 ⟨rfl,hb2⟩;rw [HI.out.1,HI.out.2];dsimp only;rw [beta_ba];have HB2:=Lib.hid (HB1.out.trans (hb2.mono HB1.out.size));have HP2:=Lib.hid (HP1.out.below hb2 HP1.out.lt);obtain ⟨h20,h21,h22,h23,h24,h25⟩:=cells6 HP2.out;clear hb2))
  refine ret_frac2 rfl rfl (by simp) (set3 HP2.out) ⟨_,rfl,rfl,?_⟩
  exact set3_below (g:=w.heap.size) HB2.out (Nat.le_refl _)
theorem parse_bad2 (s a b n2:ByteArray) (m sl ok:Bool) (w:World) (hr:Res w) (hs:s.size≤270000) (ha:a.size≤270000) (_hb:b.size≤270000) (_hn:n2.size≤270000) (hc:Lib.cut s.data.toList [47]=(a.data.toList,b.data.toList,sl))
  (hi:intP a.data.toList=(m,n2.data.toList)) (hok:intOk a.data.toList=ok) (hsl:sl=true) (h0:ok=true) (z0:(n2.toList==[48])=true) :
  Calls Tryz.prog 217 #[.string s] w fun e w'=>∃ v,v=zV∧e=.returned (.tuple #[v,.int .i64 3])∧Below w.heap.size w w':=by
 have HR:=Lib.hid hr
 have HC:=Lib.hid hc
 have HI:=Lib.hid (And.intro hi hok)
 have HB0:=Lib.hid ((Below.refl w.heap.size w).alloc (Nat.le_refl _) zF)
 have TK1:True:=trivial
 clear hr hc hi hok
 subst hsl h0
 ·go_enter Tryz.func217,Tryz.ntmps217
  go_wp2_with (first
   | (go_at_call 262;(obtain ⟨mx,hmx⟩:=max_of (HR.out.below HB0.out);refine (Tryz.strings_Cut s ⟨#[47]⟩ mx _ (by omega) hmx).mono ?_;rintro e w1 ⟨rfl,k,hw1⟩;rw [show Lib.cut s.data.toList (⟨#[47]⟩:ByteArray).data.toList=_ from HC.out];dsimp only;rw [beta_ba,beta_ba];have HB1:=Lib.hid (show Below w.heap.size w w1 by rw [hw1];exact below_drewN HB0.out);have HP1:=Lib.hid (show Blk w1 w.heap.size 216 #[.bool false,.slice none 0 0,.slice none 0 0] by rw [hw1];exact z_new w);clear hw1 hmx))
   | (go_at_call 263;refine (integer_any a _ (by omega)).mono ?_;rintro e w2 ⟨rfl,hb2⟩;rw [HI.out.1,HI.out.2];dsimp only;rw [beta_ba];have HB2:=Lib.hid (HB1.out.trans (hb2.mono HB1.out.size));have HP2:=Lib.hid (HP1.out.below hb2 HP1.out.lt);obtain ⟨h20,h21,h22,h23,h24,h25⟩:=cells6 HP2.out;clear hb2))
  refine ret_frac2 rfl rfl (by simp) (set3 HP2.out) ⟨_,rfl,rfl,?_⟩
  exact set3_below (g:=w.heap.size) HB2.out (Nat.le_refl _)
theorem parse_bad3 (s a b n2:ByteArray) (m sl ok:Bool) (w:World) (hr:Res w) (hs:s.size≤270000) (ha:a.size≤270000) (hb:b.size≤270000) (_hn:n2.size≤270000) (hc:Lib.cut s.data.toList [47]=(a.data.toList,b.data.toList,sl))
  (hi:intP a.data.toList=(m,n2.data.toList)) (hok:intOk a.data.toList=ok) (hsl:sl=true) (h0:ok=true) (z0:(n2.toList==[48])=false) (hF:NForm b.data.toList=false) :
  Calls Tryz.prog 217 #[.string s] w fun e w'=>∃ v,v=zV∧e=.returned (.tuple #[v,.int .i64 3])∧Below w.heap.size w w':=by
 have HR:=Lib.hid hr
 have HC:=Lib.hid hc
 have HI:=Lib.hid (And.intro hi hok)
 have HB0:=Lib.hid ((Below.refl w.heap.size w).alloc (Nat.le_refl _) zF)
 have TK1:True:=trivial
 clear hr hc hi hok
 have HF:=Lib.hid hF
 clear hF
 subst hsl h0
 ·go_enter Tryz.func217,Tryz.ntmps217
  go_wp2_with (first
   | (go_at_call 262;(obtain ⟨mx,hmx⟩:=max_of (HR.out.below HB0.out);refine (Tryz.strings_Cut s ⟨#[47]⟩ mx _ (by omega) hmx).mono ?_;rintro e w1 ⟨rfl,k,hw1⟩;rw [show Lib.cut s.data.toList (⟨#[47]⟩:ByteArray).data.toList=_ from HC.out];dsimp only;rw [beta_ba,beta_ba];have HB1:=Lib.hid (show Below w.heap.size w w1 by rw [hw1];exact below_drewN HB0.out);have HP1:=Lib.hid (show Blk w1 w.heap.size 216 #[.bool false,.slice none 0 0,.slice none 0 0] by rw [hw1];exact z_new w);clear hw1 hmx))
   | (go_at_call 263;refine (integer_any a _ (by omega)).mono ?_;rintro e w2 ⟨rfl,hb2⟩;rw [HI.out.1,HI.out.2];dsimp only;rw [beta_ba];have HB2:=Lib.hid (HB1.out.trans (hb2.mono HB1.out.size));have HP2:=Lib.hid (HP1.out.below hb2 HP1.out.lt);obtain ⟨h20,h21,h22,h23,h24,h25⟩:=cells6 HP2.out;clear hb2)
   | (go_at_call 264;refine (form_any b _ (by omega)).mono ?_;rintro e w3 ⟨rfl,hb3⟩;rw [HF.out];have HB3:=Lib.hid (HB2.out.trans (hb3.mono HB2.out.size));have HP3:=Lib.hid (HP2.out.below hb3 HP2.out.lt);obtain ⟨h30,h31,h32,h33,h34,h35⟩:=cells6 HP3.out;clear hb3))
  refine ret_frac2 rfl rfl (by simp) (set3 HP3.out) ⟨_,rfl,rfl,?_⟩
  exact set3_below (g:=w.heap.size) HB3.out (Nat.le_refl _)
theorem parse_bad4 (s a b n2:ByteArray) (m sl ok:Bool) (w:World) (hr:Res w) (hs:s.size≤270000) (ha:a.size≤270000) (hb:b.size≤270000) (_hn:n2.size≤270000) (hc:Lib.cut s.data.toList [47]=(a.data.toList,b.data.toList,sl))
  (hi:intP a.data.toList=(m,n2.data.toList)) (hok:intOk a.data.toList=ok) (hsl:sl=true) (h0:ok=true) (z0:(n2.toList==[48])=false) (hF:NForm b.data.toList=true) (z1:(b.toList==[48])=true) :
  Calls Tryz.prog 217 #[.string s] w fun e w'=>∃ v,v=zV∧e=.returned (.tuple #[v,.int .i64 3])∧Below w.heap.size w w':=by
 have HR:=Lib.hid hr
 have HC:=Lib.hid hc
 have HI:=Lib.hid (And.intro hi hok)
 have HB0:=Lib.hid ((Below.refl w.heap.size w).alloc (Nat.le_refl _) zF)
 have TK1:True:=trivial
 clear hr hc hi hok
 have HF:=Lib.hid hF
 clear hF
 subst hsl h0
 ·go_enter Tryz.func217,Tryz.ntmps217
  go_wp2_with (first
   | (go_at_call 262;(obtain ⟨mx,hmx⟩:=max_of (HR.out.below HB0.out);refine (Tryz.strings_Cut s ⟨#[47]⟩ mx _ (by omega) hmx).mono ?_;rintro e w1 ⟨rfl,k,hw1⟩;rw [show Lib.cut s.data.toList (⟨#[47]⟩:ByteArray).data.toList=_ from HC.out];dsimp only;rw [beta_ba,beta_ba];have HB1:=Lib.hid (show Below w.heap.size w w1 by rw [hw1];exact below_drewN HB0.out);have HP1:=Lib.hid (show Blk w1 w.heap.size 216 #[.bool false,.slice none 0 0,.slice none 0 0] by rw [hw1];exact z_new w);clear hw1 hmx))
   | (go_at_call 263;refine (integer_any a _ (by omega)).mono ?_;rintro e w2 ⟨rfl,hb2⟩;rw [HI.out.1,HI.out.2];dsimp only;rw [beta_ba];have HB2:=Lib.hid (HB1.out.trans (hb2.mono HB1.out.size));have HP2:=Lib.hid (HP1.out.below hb2 HP1.out.lt);obtain ⟨h20,h21,h22,h23,h24,h25⟩:=cells6 HP2.out;clear hb2)
   | (go_at_call 264;refine (form_any b _ (by omega)).mono ?_;rintro e w3 ⟨rfl,hb3⟩;rw [HF.out];have HB3:=Lib.hid (HB2.out.trans (hb3.mono HB2.out.size));have HP3:=Lib.hid (HP2.out.below hb3 HP2.out.lt);obtain ⟨h30,h31,h32,h33,h34,h35⟩:=cells6 HP3.out;clear hb3))
  refine ret_frac2 rfl rfl (by simp) (set3 HP3.out) ⟨_,rfl,rfl,?_⟩
  exact set3_below (g:=w.heap.size) HB3.out (Nat.le_refl _)
theorem parse_bad5 (s a b n2:ByteArray) (m sl ok:Bool) (w:World) (hr:Res w) (hs:s.size≤270000) (ha:a.size≤270000) (hb:b.size≤270000) (_hn:n2.size≤270000) (hc:Lib.cut s.data.toList [47]=(a.data.toList,b.data.toList,sl))
  (hi:intP a.data.toList=(m,n2.data.toList)) (hok:intOk a.data.toList=ok) (hsl:sl=true) (h0:ok=true) (z0:(n2.toList==[48])=false) (hF:NForm b.data.toList=true) (z1:(b.toList==[48])=false) (z2:(b.toList==[49])=true) :
  Calls Tryz.prog 217 #[.string s] w fun e w'=>∃ v,v=zV∧e=.returned (.tuple #[v,.int .i64 3])∧Below w.heap.size w w':=by
 have HR:=Lib.hid hr
 have HC:=Lib.hid hc
 have HI:=Lib.hid (And.intro hi hok)
 have HB0:=Lib.hid ((Below.refl w.heap.size w).alloc (Nat.le_refl _) zF)
 have TK1:True:=trivial
 clear hr hc hi hok
 have HF:=Lib.hid hF
 clear hF
 subst hsl h0
 ·go_enter Tryz.func217,Tryz.ntmps217
  go_wp2_with (first
   | (go_at_call 262;(obtain ⟨mx,hmx⟩:=max_of (HR.out.below HB0.out);refine (Tryz.strings_Cut s ⟨#[47]⟩ mx _ (by omega) hmx).mono ?_;rintro e w1 ⟨rfl,k,hw1⟩;rw [show Lib.cut s.data.toList (⟨#[47]⟩:ByteArray).data.toList=_ from HC.out];dsimp only;rw [beta_ba,beta_ba];have HB1:=Lib.hid (show Below w.heap.size w w1 by rw [hw1];exact below_drewN HB0.out);have HP1:=Lib.hid (show Blk w1 w.heap.size 216 #[.bool false,.slice none 0 0,.slice none 0 0] by rw [hw1];exact z_new w);clear hw1 hmx))
   | (go_at_call 263;refine (integer_any a _ (by omega)).mono ?_;rintro e w2 ⟨rfl,hb2⟩;rw [HI.out.1,HI.out.2];dsimp only;rw [beta_ba];have HB2:=Lib.hid (HB1.out.trans (hb2.mono HB1.out.size));have HP2:=Lib.hid (HP1.out.below hb2 HP1.out.lt);obtain ⟨h20,h21,h22,h23,h24,h25⟩:=cells6 HP2.out;clear hb2)
   | (go_at_call 264;refine (form_any b _ (by omega)).mono ?_;rintro e w3 ⟨rfl,hb3⟩;rw [HF.out];have HB3:=Lib.hid (HB2.out.trans (hb3.mono HB2.out.size));have HP3:=Lib.hid (HP2.out.below hb3 HP2.out.lt);obtain ⟨h30,h31,h32,h33,h34,h35⟩:=cells6 HP3.out;clear hb3))
  refine ret_frac2 rfl rfl (by simp) (set3 HP3.out) ⟨_,rfl,rfl,?_⟩
  exact set3_below (g:=w.heap.size) HB3.out (Nat.le_refl _)
theorem parse_long1 (s a b n2:ByteArray) (m sl ok:Bool) (w:World) (hr:Res w) (hs:s.size≤270000) (ha:a.size≤270000) (hb:b.size≤270000) (hn:n2.size≤270000) (hc:Lib.cut s.data.toList [47]=(a.data.toList,b.data.toList,sl))
  (hi:intP a.data.toList=(m,n2.data.toList)) (hok:intOk a.data.toList=ok) (hsl:sl=true) (h0:ok=true) (z0:(n2.toList==[48])=false) (hF:NForm b.data.toList=true) (z1:(b.toList==[48])=false) (z2:(b.toList==[49])=false) (hl:4000 < n2.size) :
  Calls Tryz.prog 217 #[.string s] w fun e w'=>∃ v,v=zV∧e=.returned (.tuple #[v,.int .i64 5])∧Below w.heap.size w w':=by
 have HR:=Lib.hid hr
 have HC:=Lib.hid hc
 have HI:=Lib.hid (And.intro hi hok)
 have HB0:=Lib.hid ((Below.refl w.heap.size w).alloc (Nat.le_refl _) zF)
 have TK1:True:=trivial
 clear hr hc hi hok
 have HF:=Lib.hid hF
 have hl1:decide ((4000:Int) < (n2.size:Int))=true:=decide_eq_true (by omega)
 clear hF hl
 subst hsl h0
 ·go_enter Tryz.func217,Tryz.ntmps217
  go_wp2_with (first
   | (go_at_call 262;(obtain ⟨mx,hmx⟩:=max_of (HR.out.below HB0.out);refine (Tryz.strings_Cut s ⟨#[47]⟩ mx _ (by omega) hmx).mono ?_;rintro e w1 ⟨rfl,k,hw1⟩;rw [show Lib.cut s.data.toList (⟨#[47]⟩:ByteArray).data.toList=_ from HC.out];dsimp only;rw [beta_ba,beta_ba];have HB1:=Lib.hid (show Below w.heap.size w w1 by rw [hw1];exact below_drewN HB0.out);have HP1:=Lib.hid (show Blk w1 w.heap.size 216 #[.bool false,.slice none 0 0,.slice none 0 0] by rw [hw1];exact z_new w);clear hw1 hmx))
   | (go_at_call 263;refine (integer_any a _ (by omega)).mono ?_;rintro e w2 ⟨rfl,hb2⟩;rw [HI.out.1,HI.out.2];dsimp only;rw [beta_ba];have HB2:=Lib.hid (HB1.out.trans (hb2.mono HB1.out.size));have HP2:=Lib.hid (HP1.out.below hb2 HP1.out.lt);obtain ⟨h20,h21,h22,h23,h24,h25⟩:=cells6 HP2.out;clear hb2)
   | (go_at_call 264;refine (form_any b _ (by omega)).mono ?_;rintro e w3 ⟨rfl,hb3⟩;rw [HF.out];have HB3:=Lib.hid (HB2.out.trans (hb3.mono HB2.out.size));have HP3:=Lib.hid (HP2.out.below hb3 HP2.out.lt);obtain ⟨h30,h31,h32,h33,h34,h35⟩:=cells6 HP3.out;clear hb3))
  refine ret_frac2 rfl rfl (by simp) (set3 HP3.out) ⟨_,rfl,rfl,?_⟩
  exact set3_below (g:=w.heap.size) HB3.out (Nat.le_refl _)
theorem parse_long2 (s a b n2:ByteArray) (m sl ok:Bool) (w:World) (hr:Res w) (hs:s.size≤270000) (ha:a.size≤270000) (hb:b.size≤270000) (hn:n2.size≤270000) (hc:Lib.cut s.data.toList [47]=(a.data.toList,b.data.toList,sl))
  (hi:intP a.data.toList=(m,n2.data.toList)) (hok:intOk a.data.toList=ok) (hsl:sl=true) (h0:ok=true) (z0:(n2.toList==[48])=false) (hF:NForm b.data.toList=true) (z1:(b.toList==[48])=false) (z2:(b.toList==[49])=false) (hl:n2.size≤4000) (hm:4000 < b.size) :
  Calls Tryz.prog 217 #[.string s] w fun e w'=>∃ v,v=zV∧e=.returned (.tuple #[v,.int .i64 5])∧Below w.heap.size w w':=by
 have HR:=Lib.hid hr
 have HC:=Lib.hid hc
 have HI:=Lib.hid (And.intro hi hok)
 have HB0:=Lib.hid ((Below.refl w.heap.size w).alloc (Nat.le_refl _) zF)
 have TK1:True:=trivial
 clear hr hc hi hok
 have HF:=Lib.hid hF
 have hl1:decide ((4000:Int) < (n2.size:Int))=false:=decide_eq_false (by omega)
 have hl2:decide ((4000:Int) < (b.size:Int))=true:=decide_eq_true (by omega)
 clear hF hl hm
 subst hsl h0
 ·go_enter Tryz.func217,Tryz.ntmps217
  go_wp2_with (first
   | (go_at_call 262;(obtain ⟨mx,hmx⟩:=max_of (HR.out.below HB0.out);refine (Tryz.strings_Cut s ⟨#[47]⟩ mx _ (by omega) hmx).mono ?_;rintro e w1 ⟨rfl,k,hw1⟩;rw [show Lib.cut s.data.toList (⟨#[47]⟩:ByteArray).data.toList=_ from HC.out];dsimp only;rw [beta_ba,beta_ba];have HB1:=Lib.hid (show Below w.heap.size w w1 by rw [hw1];exact below_drewN HB0.out);have HP1:=Lib.hid (show Blk w1 w.heap.size 216 #[.bool false,.slice none 0 0,.slice none 0 0] by rw [hw1];exact z_new w);clear hw1 hmx))
   | (go_at_call 263;refine (integer_any a _ (by omega)).mono ?_;rintro e w2 ⟨rfl,hb2⟩;rw [HI.out.1,HI.out.2];dsimp only;rw [beta_ba];have HB2:=Lib.hid (HB1.out.trans (hb2.mono HB1.out.size));have HP2:=Lib.hid (HP1.out.below hb2 HP1.out.lt);obtain ⟨h20,h21,h22,h23,h24,h25⟩:=cells6 HP2.out;clear hb2)
   | (go_at_call 264;refine (form_any b _ (by omega)).mono ?_;rintro e w3 ⟨rfl,hb3⟩;rw [HF.out];have HB3:=Lib.hid (HB2.out.trans (hb3.mono HB2.out.size));have HP3:=Lib.hid (HP2.out.below hb3 HP2.out.lt);obtain ⟨h30,h31,h32,h33,h34,h35⟩:=cells6 HP3.out;clear hb3))
  refine ret_frac2 rfl rfl (by simp) (set3 HP3.out) ⟨_,rfl,rfl,?_⟩
  exact set3_below (g:=w.heap.size) HB3.out (Nat.le_refl _)
theorem parse_gcd (s a b n2:ByteArray) (m sl ok:Bool) (w:World) (hr:Res w) (hs:s.size≤270000) (ha:a.size≤270000) (hb:b.size≤270000) (hn:n2.size≤270000) (hc:Lib.cut s.data.toList [47]=(a.data.toList,b.data.toList,sl))
  (hi:intP a.data.toList=(m,n2.data.toList)) (hok:intOk a.data.toList=ok) (hsl:sl=true) (h0:ok=true) (z0:(n2.toList==[48])=false) (hF:NForm b.data.toList=true) (z1:(b.toList==[48])=false) (z2:(b.toList==[49])=false) (hl:n2.size≤4000) (hm:b.size≤4000) (hd:Dg n2.data.toList) (hd':Dg b.data.toList) (ll:(toL (dv n2.data.toList)).length≤30000∧(toL (dv b.data.toList)).length≤30000) (hg:(dv n2.data.toList).gcd (dv b.data.toList)≠1) :
  Calls Tryz.prog 217 #[.string s] w fun e w'=>∃ v,v=zV∧e=.returned (.tuple #[v,.int .i64 3])∧Below w.heap.size w w':=by
 have HR:=Lib.hid hr
 have HC:=Lib.hid hc
 have HI:=Lib.hid (And.intro hi hok)
 have HB0:=Lib.hid ((Below.refl w.heap.size w).alloc (Nat.le_refl _) zF)
 have TK1:True:=trivial
 clear hr hc hi hok
 have HF:=Lib.hid hF
 have hl1:decide ((4000:Int) < (n2.size:Int))=false:=decide_eq_false (by omega)
 have hl2:decide ((4000:Int) < (b.size:Int))=false:=decide_eq_false (by omega)
 have HG:=Lib.hid (And.intro hd hd')
 have HLL:=Lib.hid ll
 clear hF hl hm hd hd' ll
 have HGC:=Lib.hid (decide_eq_false hg)
 clear hg
 subst hsl h0
 ·go_enter Tryz.func217,Tryz.ntmps217
  go_wp2_with (first
   | (go_at_call 262;(obtain ⟨mx,hmx⟩:=max_of (HR.out.below HB0.out);refine (Tryz.strings_Cut s ⟨#[47]⟩ mx _ (by omega) hmx).mono ?_;rintro e w1 ⟨rfl,k,hw1⟩;rw [show Lib.cut s.data.toList (⟨#[47]⟩:ByteArray).data.toList=_ from HC.out];dsimp only;rw [beta_ba,beta_ba];have HB1:=Lib.hid (show Below w.heap.size w w1 by rw [hw1];exact below_drewN HB0.out);have HP1:=Lib.hid (show Blk w1 w.heap.size 216 #[.bool false,.slice none 0 0,.slice none 0 0] by rw [hw1];exact z_new w);clear hw1 hmx))
   | (go_at_call 263;refine (integer_any a _ (by omega)).mono ?_;rintro e w2 ⟨rfl,hb2⟩;rw [HI.out.1,HI.out.2];dsimp only;rw [beta_ba];have HB2:=Lib.hid (HB1.out.trans (hb2.mono HB1.out.size));have HP2:=Lib.hid (HP1.out.below hb2 HP1.out.lt);obtain ⟨h20,h21,h22,h23,h24,h25⟩:=cells6 HP2.out;clear hb2)
   | (go_at_call 264;refine (form_any b _ (by omega)).mono ?_;rintro e w3 ⟨rfl,hb3⟩;rw [HF.out];have HB3:=Lib.hid (HB2.out.trans (hb3.mono HB2.out.size));have HP3:=Lib.hid (HP2.out.below hb3 HP2.out.lt);obtain ⟨h30,h31,h32,h33,h34,h35⟩:=cells6 HP3.out;clear hb3)
   | (clear TK1;go_at_call 265;refine (parse_any n2 _ HG.out.1 (by omega)).mono ?_;rintro e w4 ⟨v4,rfl,hv4,hb4⟩;obtain ⟨A4,c4,rfl,_,_,_⟩:=id hv4;have HV4:=Lib.hid hv4;have HB4:=Lib.hid (HB3.out.trans (hb4.mono HB3.out.size));have HP4:=Lib.hid (HP3.out.below hb4 HP3.out.lt);clear hv4 hb4)
   | (go_at_call 265;refine (parse_any b _ HG.out.2 (by first|omega|decide)).mono ?_;rintro e w5 ⟨v5,rfl,hv5,hb5⟩;obtain ⟨A5,c5,rfl,_,_,_⟩:=id hv5;have HV5:=Lib.hid hv5;have HV4':=Lib.hid (HV4.out.below hb5);have HB5:=Lib.hid (HB4.out.trans (hb5.mono HB4.out.size));have HP5:=Lib.hid (HP4.out.below hb5 HP4.out.lt);obtain ⟨h50,h51,h52,h53,h54,h55⟩:=cells6A HP5.out;clear hv5 hb5)
   | (go_at_call 266;have HX5:=Lib.hid ((Below.refl w5.heap.size w5).alloc (Nat.le_refl _) (.cells #[.bool m,.slice A4 (toL (dv n2.data.toList)).length c4,.slice A5 (toL (dv b.data.toList)).length c5] 216));refine (gcd_any (dv n2.data.toList) (dv b.data.toList) _ _ _ (HV4'.out.below HX5.out) (HV5.out.below HX5.out) HLL.out.1 HLL.out.2).mono ?_;rintro e w6 ⟨v6,rfl,hv6,hb6⟩;have HV6:=Lib.hid hv6;have HX6:=Lib.hid (HX5.out.trans (hb6.mono HX5.out.size));have HP6:=Lib.hid (HP5.out.below HX6.out HP5.out.lt);have HT6:=Lib.hid ((Blk.new w5 _ _).below hb6 (by simp));obtain ⟨h60,h61,h62,h63,h64,h65⟩:=cells6 HP6.out;obtain ⟨t60,t61,t62⟩:=rows_of HT6.out (Below.refl w6.heap.size w6) HT6.out.lt;clear hv6 hb6)
   | (go_at_call 252;refine (one_any ((dv n2.data.toList).gcd (dv b.data.toList)) _ _ HV6.out).mono ?_;rintro e w7 ⟨rfl,hw7⟩;subst hw7;rw [HGC.out]))
  refine ret_frac2 rfl rfl (by simp) (set3 HP6.out) ⟨_,rfl,rfl,?_⟩
  exact set3_below (g:=w.heap.size) (HB5.out.trans (HX6.out.mono HB5.out.size)) (Nat.le_refl _)
theorem parse_ok (s a b n2:ByteArray) (m sl ok:Bool) (w:World) (hr:Res w) (hs:s.size≤270000) (ha:a.size≤270000) (hb:b.size≤270000) (hn:n2.size≤270000) (hc:Lib.cut s.data.toList [47]=(a.data.toList,b.data.toList,sl))
  (hi:intP a.data.toList=(m,n2.data.toList)) (hok:intOk a.data.toList=ok) (hsl:sl=true) (h0:ok=true) (z0:(n2.toList==[48])=false) (hF:NForm b.data.toList=true) (z1:(b.toList==[48])=false) (z2:(b.toList==[49])=false) (hl:n2.size≤4000) (hm:b.size≤4000) (hd:Dg n2.data.toList) (hd':Dg b.data.toList) (ll:(toL (dv n2.data.toList)).length≤30000∧(toL (dv b.data.toList)).length≤30000) (hg:(dv n2.data.toList).gcd (dv b.data.toList)=1) :
  Calls Tryz.prog 217 #[.string s] w fun e w'=>∃ v,e=.returned (.tuple #[v,.int .i64 0])∧IsParts w' v m (dv n2.data.toList) (dv b.data.toList)∧Below w.heap.size w w':=by
 have HR:=Lib.hid hr
 have HC:=Lib.hid hc
 have HI:=Lib.hid (And.intro hi hok)
 have HB0:=Lib.hid ((Below.refl w.heap.size w).alloc (Nat.le_refl _) zF)
 have TK1:True:=trivial
 clear hr hc hi hok
 have HF:=Lib.hid hF
 have hl1:decide ((4000:Int) < (n2.size:Int))=false:=decide_eq_false (by omega)
 have hl2:decide ((4000:Int) < (b.size:Int))=false:=decide_eq_false (by omega)
 have HG:=Lib.hid (And.intro hd hd')
 have HLL:=Lib.hid ll
 clear hF hl hm hd hd' ll
 have HGC:=Lib.hid (decide_eq_true hg)
 clear hg
 subst hsl h0
 ·go_enter Tryz.func217,Tryz.ntmps217
  go_wp2_with (first
   | (go_at_call 262;(obtain ⟨mx,hmx⟩:=max_of (HR.out.below HB0.out);refine (Tryz.strings_Cut s ⟨#[47]⟩ mx _ (by omega) hmx).mono ?_;rintro e w1 ⟨rfl,k,hw1⟩;rw [show Lib.cut s.data.toList (⟨#[47]⟩:ByteArray).data.toList=_ from HC.out];dsimp only;rw [beta_ba,beta_ba];have HB1:=Lib.hid (show Below w.heap.size w w1 by rw [hw1];exact below_drewN HB0.out);have HP1:=Lib.hid (show Blk w1 w.heap.size 216 #[.bool false,.slice none 0 0,.slice none 0 0] by rw [hw1];exact z_new w);clear hw1 hmx))
   | (go_at_call 263;refine (integer_any a _ (by omega)).mono ?_;rintro e w2 ⟨rfl,hb2⟩;rw [HI.out.1,HI.out.2];dsimp only;rw [beta_ba];have HB2:=Lib.hid (HB1.out.trans (hb2.mono HB1.out.size));have HP2:=Lib.hid (HP1.out.below hb2 HP1.out.lt);obtain ⟨h20,h21,h22,h23,h24,h25⟩:=cells6 HP2.out;clear hb2)
   | (go_at_call 264;refine (form_any b _ (by omega)).mono ?_;rintro e w3 ⟨rfl,hb3⟩;rw [HF.out];have HB3:=Lib.hid (HB2.out.trans (hb3.mono HB2.out.size));have HP3:=Lib.hid (HP2.out.below hb3 HP2.out.lt);obtain ⟨h30,h31,h32,h33,h34,h35⟩:=cells6 HP3.out;clear hb3)
   | (clear TK1;go_at_call 265;refine (parse_any n2 _ HG.out.1 (by omega)).mono ?_;rintro e w4 ⟨v4,rfl,hv4,hb4⟩;obtain ⟨A4,c4,rfl,_,_,_⟩:=id hv4;have HV4:=Lib.hid hv4;have HB4:=Lib.hid (HB3.out.trans (hb4.mono HB3.out.size));have HP4:=Lib.hid (HP3.out.below hb4 HP3.out.lt);clear hv4 hb4)
   | (go_at_call 265;refine (parse_any b _ HG.out.2 (by first|omega|decide)).mono ?_;rintro e w5 ⟨v5,rfl,hv5,hb5⟩;obtain ⟨A5,c5,rfl,_,_,_⟩:=id hv5;have HV5:=Lib.hid hv5;have HV4':=Lib.hid (HV4.out.below hb5);have HB5:=Lib.hid (HB4.out.trans (hb5.mono HB4.out.size));have HP5:=Lib.hid (HP4.out.below hb5 HP4.out.lt);obtain ⟨h50,h51,h52,h53,h54,h55⟩:=cells6A HP5.out;clear hv5 hb5)
   | (go_at_call 266;have HX5:=Lib.hid ((Below.refl w5.heap.size w5).alloc (Nat.le_refl _) (.cells #[.bool m,.slice A4 (toL (dv n2.data.toList)).length c4,.slice A5 (toL (dv b.data.toList)).length c5] 216));refine (gcd_any (dv n2.data.toList) (dv b.data.toList) _ _ _ (HV4'.out.below HX5.out) (HV5.out.below HX5.out) HLL.out.1 HLL.out.2).mono ?_;rintro e w6 ⟨v6,rfl,hv6,hb6⟩;have HV6:=Lib.hid hv6;have HX6:=Lib.hid (HX5.out.trans (hb6.mono HX5.out.size));have HP6:=Lib.hid (HP5.out.below HX6.out HP5.out.lt);have HT6:=Lib.hid ((Blk.new w5 _ _).below hb6 (by simp));obtain ⟨h60,h61,h62,h63,h64,h65⟩:=cells6 HP6.out;obtain ⟨t60,t61,t62⟩:=rows_of HT6.out (Below.refl w6.heap.size w6) HT6.out.lt;clear hv6 hb6)
   | (go_at_call 252;refine (one_any ((dv n2.data.toList).gcd (dv b.data.toList)) _ _ HV6.out).mono ?_;rintro e w7 ⟨rfl,hw7⟩;subst hw7;rw [HGC.out]))
  refine ret_frac2 rfl rfl (by simp) (set3 HP6.out) ⟨_,rfl,?_,?_⟩
  ·exact isParts_mk (isNat_set3 (HV4'.out.below HX6.out) HP6.out) (isNat_set3 (HV5.out.below HX6.out) HP6.out)
  ·exact set3_below (g:=w.heap.size) (HB5.out.trans (HX6.out.mono HB5.out.size)) (Nat.le_refl _)
theorem isFrac_low {w:World} {v:Value} {m:Bool} {n d:Nat} (hd:d≠0) (hg:n.gcd d=1) (hm:m=true→n≠0) (h:IsParts w v m n d):IsFrac w v (mkQ m n d):=by
 obtain ⟨h1,h2,h3⟩:=mkQ_low (m:=m) hd hg
 unfold IsFrac
 rw [h1,h2,h3]
 have:(m&&decide (n≠0))=m:=by
  cases m with
  | false=>rfl
  | true=>simpa using hm rfl
 rw [this]
 exact h
theorem cutQ_le (l:List UInt8):(cutQ l).1.length≤l.length∧((cutQ l).2.getD []).length≤l.length:=by
 rcases cutQ_cases l with ⟨a,r,rfl,hn⟩|hn
 ·rw [cutQ_slash hn];simp;omega
 ·rw [cutQ_none hn];simp
theorem digits_of_form {l:List UInt8} (h:NForm l=true):Lib.nDigits (dv l)=l.length:=by
 have e:=NForm.eq h
 conv=>rhs;rw [← e]
 rw [Lib.decDigits_length]
theorem limbs_of_form {l:List UInt8} (h:NForm l=true) {k:Nat} (hk:l.length≤9*k):(toL (dv l)).length≤k:=by
 refine limbs_of_nd (Nat.le_refl _) ?_
 rw [digits_of_form h]
 exact hk
theorem fparse_any (s:ByteArray) (w:World) (hlen:s.size≤270000) (hr:Res w) :
  Calls Tryz.prog 217 #[.string s] w fun e w'=>∃ v,e=.returned (.tuple #[v,.int .i64 (errQ s.data.toList:Int)])∧(errQ s.data.toList=0→IsFrac w' v (valQ s.data.toList))∧(errQ s.data.toList≠0→v=zV)∧Below w.heap.size w w':=by
 have hcut:=cut_eq s.data.toList
 obtain ⟨hle1,hle2⟩:=cutQ_le s.data.toList
 rw [← size_list] at hle1 hle2
 have hE:errQ s.data.toList=match shapeQ s.data.toList with|none=>3|some (_,n,d,sl)=>if maxD < Lib.nDigits n∨maxD < Lib.nDigits d then 5 else if sl&&n.gcd d != 1 then 3 else 0:=rfl
 have hV:valQ s.data.toList=match shapeQ s.data.toList with|none=>0|some (m,n,d,_)=>mkQ m n d:=rfl
 have hS:shapeQ s.data.toList=if intOk (cutQ s.data.toList).1 then match (cutQ s.data.toList).2 with|none=>some ((intP (cutQ s.data.toList).1).1,dv (intP (cutQ s.data.toList).1).2,1,false)|some d=>if (intP (cutQ s.data.toList).1).2 != [48]&&(NForm d&&(d != [48]&&d != [49])) then some ((intP (cutQ s.data.toList).1).1,dv (intP (cutQ s.data.toList).1).2,dv d,true) else none else none:=rfl
 have hTS:∀ m n d sl,shapeQ s.data.toList=some (m,n,d,sl)→(m=true→n≠0)∧d≠0:=fun m n d sl h=>⟨(text_of_shape h).2.1,(text_of_shape h).2.2.1⟩
 generalize cutQ s.data.toList=c at *
 obtain ⟨la,ob⟩:=c
 dsimp only at hcut hle1 hle2 hS
 have hip:intP la=((intP la).1,(intP la).2):=rfl
 have hile:=intP_le la
 have hokf:intOk la=true→NForm (intP la).2=true:=fun h=>by
  unfold intOk at h
  simp only [Bool.and_eq_true] at h
  exact h.1
 generalize hm:(intP la).1=m at *
 generalize hl:(intP la).2=ln at *
 have err:∀ k:Nat,k≠0→errQ s.data.toList=k→Calls Tryz.prog 217 #[.string s] w (fun e w'=>∃ v,v=zV∧e=.returned (.tuple #[v,.int .i64 (k:Int)])∧Below w.heap.size w w') →
   Calls Tryz.prog 217 #[.string s] w fun e w'=>∃ v,e=.returned (.tuple #[v,.int .i64 (errQ s.data.toList:Int)])∧(errQ s.data.toList=0→IsFrac w' v (valQ s.data.toList))∧(errQ s.data.toList≠0→v=zV)∧Below w.heap.size w w':=fun k hk he h=>by
  rw [he]
  exact h.mono fun e w' ⟨v,hz,h1,h2⟩=>⟨v,h1,fun h0=>absurd h0 hk,fun _=>hz,h2⟩
 have good:∀ (n d:Nat) (sl:Bool),shapeQ s.data.toList=some (m,n,d,sl)→errQ s.data.toList=0→n.gcd d=1→Calls Tryz.prog 217 #[.string s] w (fun e w'=>∃ v,e=.returned (.tuple #[v,.int .i64 0])∧IsParts w' v m n d∧Below w.heap.size w w') →
   Calls Tryz.prog 217 #[.string s] w fun e w'=>∃ v,e=.returned (.tuple #[v,.int .i64 (errQ s.data.toList:Int)])∧(errQ s.data.toList=0→IsFrac w' v (valQ s.data.toList))∧(errQ s.data.toList≠0→v=zV)∧Below w.heap.size w w':=fun n d sl hs he hg h=>by
  rw [he]
  refine h.mono fun e w' ⟨v,h1,h2,h3⟩=>⟨v,h1,fun _=>?_,fun h=>absurd rfl h,h3⟩
  rw [hV,hs]
  obtain ⟨t1,t2⟩:=hTS _ _ _ _ hs
  exact isFrac_low t2 hg t1 h2
 have hsz:∀ l:List UInt8,(⟨l.toArray⟩:ByteArray).size=l.length:=fun l=>List.size_toArray
 have htl:∀ l:List UInt8,(⟨l.toArray⟩:ByteArray).toList=l:=fun l=>by rw [Lib.toList_data]
 have hA:(⟨la.toArray⟩:ByteArray).size≤270000:=by rw [hsz];omega
 have hN:(⟨ln.toArray⟩:ByteArray).size≤270000:=by rw [hsz];omega
 by_cases hok:intOk la=true
 ·have hnf:=hokf hok
  rw [if_pos hok] at hS
  have hnd:=digits_of_form hnf
  cases ob with
  | none =>
   dsimp only at hS hcut
   have hsp:=hS
   rw [hS] at hE
   dsimp only at hE
   rw [hnd,Lib.nDigits_small (by omega:1 < 10)] at hE
   by_cases hlong:4000 < ln.length
   ·rw [if_pos (.inl hlong)] at hE
    exact err 5 (by decide) hE (parse_long_none s ⟨la.toArray⟩ ⟨#[]⟩ ⟨ln.toArray⟩ m _ _ w hr hlen hA (by decide) hN hcut hip hok rfl rfl (by rw [hsz];exact hlong))
   ·rw [if_neg (by unfold maxD;omega)] at hE
    refine good _ _ _ hsp (by rw [hE];rfl) (Nat.gcd_one_right _) ?_
    exact parse_ok_none s ⟨la.toArray⟩ ⟨#[]⟩ ⟨ln.toArray⟩ m _ _ w hr hlen hA (by decide) hN hcut hip hok rfl rfl (by rw [hsz];omega) (dg_of_form hnf)
  | some d =>
   dsimp only [Option.getD] at hS hcut hle2
   have hB:(⟨d.toArray⟩:ByteArray).size≤270000:=by rw [hsz];omega
   by_cases z0:(ln==[48])=true
   ·rw [if_neg (by simp [bne,z0])] at hS
    rw [hS] at hE
    exact err 3 (by decide) hE (parse_bad2 s ⟨la.toArray⟩ ⟨d.toArray⟩ ⟨ln.toArray⟩ m _ _ w hr hlen hA hB hN hcut hip hok rfl rfl (by rw [htl];exact z0))
   have z0:(ln==[48])=false:=by simpa using z0
   by_cases hF:NForm d=false
   ·rw [if_neg (by simp [hF])] at hS
    rw [hS] at hE
    exact err 3 (by decide) hE (parse_bad3 s ⟨la.toArray⟩ ⟨d.toArray⟩ ⟨ln.toArray⟩ m _ _ w hr hlen hA hB hN hcut hip hok rfl rfl (by rw [htl];exact z0) hF)
   have hF:NForm d=true:=by simpa using hF
   by_cases z1:(d==[48])=true
   ·rw [if_neg (by simp [bne,z1])] at hS
    rw [hS] at hE
    exact err 3 (by decide) hE (parse_bad4 s ⟨la.toArray⟩ ⟨d.toArray⟩ ⟨ln.toArray⟩ m _ _ w hr hlen hA hB hN hcut hip hok rfl rfl (by rw [htl];exact z0) hF (by rw [htl];exact z1))
   have z1:(d==[48])=false:=by simpa using z1
   by_cases z2:(d==[49])=true
   ·rw [if_neg (by simp [bne,z2])] at hS
    rw [hS] at hE
    exact err 3 (by decide) hE (parse_bad5 s ⟨la.toArray⟩ ⟨d.toArray⟩ ⟨ln.toArray⟩ m _ _ w hr hlen hA hB hN hcut hip hok rfl rfl (by rw [htl];exact z0) hF (by rw [htl];exact z1) (by rw [htl];exact z2))
   have z2:(d==[49])=false:=by simpa using z2
   rw [if_pos (by simp only [bne,z0,hF,z1,z2];rfl)] at hS
   have hsp:=hS
   rw [hS] at hE
   dsimp only at hE
   rw [hnd,digits_of_form hF] at hE
   by_cases hlong:4000 < ln.length
   ·rw [if_pos (.inl hlong)] at hE
    exact err 5 (by decide) hE (parse_long1 s ⟨la.toArray⟩ ⟨d.toArray⟩ ⟨ln.toArray⟩ m _ _ w hr hlen hA hB hN hcut hip hok rfl rfl (by rw [htl];exact z0) hF (by rw [htl];exact z1) (by rw [htl];exact z2) (by rw [hsz];exact hlong))
   by_cases hlong2:4000 < d.length
   ·rw [if_pos (.inr hlong2)] at hE
    exact err 5 (by decide) hE (parse_long2 s ⟨la.toArray⟩ ⟨d.toArray⟩ ⟨ln.toArray⟩ m _ _ w hr hlen hA hB hN hcut hip hok rfl rfl (by rw [htl];exact z0) hF (by rw [htl];exact z1) (by rw [htl];exact z2) (by rw [hsz];omega) (by rw [hsz];exact hlong2))
   rw [if_neg (by unfold maxD;omega)] at hE
   have hll:(toL (dv ln)).length≤30000∧(toL (dv d)).length≤30000:=⟨Nat.le_trans (limbs_of_form hnf (k:=500) (by omega)) (by omega),Nat.le_trans (limbs_of_form hF (k:=500) (by omega)) (by omega)⟩
   by_cases hg:(dv ln).gcd (dv d)=1
   ·rw [hg] at hE
    refine good _ _ _ hsp (by rw [hE];rfl) hg ?_
    exact parse_ok s ⟨la.toArray⟩ ⟨d.toArray⟩ ⟨ln.toArray⟩ m _ _ w hr hlen hA hB hN hcut hip hok rfl rfl (by rw [htl];exact z0) hF (by rw [htl];exact z1) (by rw [htl];exact z2) (by rw [hsz];omega) (by rw [hsz];omega) (dg_of_form hnf) (dg_of_form hF) hll hg
   ·rw [if_pos (by simp [hg])] at hE
    exact err 3 (by decide) hE (parse_gcd s ⟨la.toArray⟩ ⟨d.toArray⟩ ⟨ln.toArray⟩ m _ _ w hr hlen hA hB hN hcut hip hok rfl rfl (by rw [htl];exact z0) hF (by rw [htl];exact z1) (by rw [htl];exact z2) (by rw [hsz];omega) (by rw [hsz];omega) (dg_of_form hnf) (dg_of_form hF) hll hg)
 ·rw [if_neg hok] at hS
  rw [hS] at hE
  have hok':intOk la=false:=by simpa using hok
  cases ob with
  | none=>exact err 3 (by decide) hE (parse_bad_none s ⟨la.toArray⟩ ⟨#[]⟩ ⟨ln.toArray⟩ m _ _ w hr hlen hA (by decide) hN hcut hip hok' rfl rfl)
  | some d=>exact err 3 (by decide) hE (parse_bad1 s ⟨la.toArray⟩ ⟨d.toArray⟩ ⟨ln.toArray⟩ m _ _ w hr hlen hA (by rw [hsz];exact Nat.le_trans hle2 hlen) hN hcut hip hok' rfl rfl)
theorem below_alloc {w W:World} (h:Below w.heap.size w W) (o:Obj):Below w.heap.size w (W.alloc o):=h.alloc h.size o
def Runs (F:FuncId):Prop:=∀ (xs:Array Value) (W:World),Sem.run Tryz.prog (callFunc F xs) W=.ok (.enter F xs) W
theorem runs_of {F : FuncId} {fn : Func} (h : Tryz.prog.funcs[F]? = some fn) (h1 : (fn.name == "runtime.NumGoroutine") = false) (h2 : fn.body.isNone = false) : Runs F := fun xs W => by
 have h1' : fn.name ≠ "runtime.NumGoroutine" := beq_eq_false_iff_ne.1 h1
 have h2':fn.body≠none:=fun e=>by rw [e] at h2;cases h2
 simp [callFunc,go_sem,h,h1',h2']
theorem runs_both1:Runs 243:=runs_of Tryz.func243 (by kernel_rfl) (by kernel_rfl)
theorem runs_both2:Runs 244:=runs_of Tryz.func244 (by kernel_rfl) (by kernel_rfl)
theorem with_err (s:ByteArray) (fv:Value) (w:World) (hlen:s.size≤270000) (hr:Res w) (he:errQ s.data.toList≠0) :
  Calls Tryz.prog 213 #[.string s,fv] w fun e w'=>e=.returned (.tuple #[.string ⟨#[]⟩,.int .i64 (errQ s.data.toList:Int)])∧Below w.heap.size w w':=by
 have HR:=Lib.hid hr
 have hne:((errQ s.data.toList:Int)==0)=false:=by rw [beq_eq_false_iff_ne];omega
 have HE:=Lib.hid he
 have HP:=Lib.hid (fparse_any s w hlen hr)
 clear hr he
 go_enter Tryz.func213,Tryz.ntmps213
 go_wp2_with (go_at_call 217;refine HP.out.mono ?_;rintro e w1 ⟨v,rfl,-,hz,hb⟩;obtain rfl:=hz HE.out;have HB:=Lib.hid hb;clear hb hz)
 refine bodyPost_ret (results_tmp2 rfl _ _ _) rfl ?_
 exact ⟨rfl,below_alloc HB.out _⟩
theorem with_ok (F:FuncId) (hrun:Runs F) (caps:Array Value) (rv:Value) (k:Int) (s:ByteArray) (w:World) (hlen:s.size≤270000) (hr:Res w) (he:errQ s.data.toList=0)
  (hF:∀ v w',Below w.heap.size w w'→Res w'→IsFrac w' v (valQ s.data.toList)→Calls Tryz.prog F (#[v]++caps) w' fun e w''=>e=.returned (.tuple #[rv,.int .i64 k])∧Below w'.heap.size w' w'') :
  Calls Tryz.prog 213 #[.string s,.func (.func F) #[] caps] w fun e w'=>e=.returned (.tuple #[rv,.int .i64 k])∧Below w.heap.size w w':=by
 have HR:=Lib.hid hr
 have hne:((errQ s.data.toList:Int)==0)=true:=by rw [he];rfl
 have HE:=Lib.hid he
 have HP:=Lib.hid (fparse_any s w hlen hr)
 have HF:=Lib.hid hF
 have hrn:=hrun
 unfold Runs at hrn
 clear hr he hF hrun
 go_enter Tryz.func213,Tryz.ntmps213
 go_wp2_with (go_at_call 217;refine HP.out.mono ?_;rintro e w1 ⟨v,rfl,hv,-,hb⟩;obtain ⟨bq,N,D,A,c,A',c',rfl,hn,hd,HQ⟩:=isFrac_open (hv HE.out);have HV:=Lib.hid (hv HE.out);have HB:=Lib.hid hb;clear hb hv hn hd)
 have hx:=below_alloc HB.out (.cells #[.bool bq,.slice A (toL N).length c,.slice A' (toL D).length c'] 216)
 have hx1:Below w1.heap.size w1 (w1.alloc (.cells #[.bool bq,.slice A (toL N).length c,.slice A' (toL D).length c'] 216)):=below_alloc (Below.refl _ _) _
 have HX:=Lib.hid hx
 refine (HF.out _ _ HX.out (HR.out.below HX.out) (HV.out.below hx1)).mono ?_
 rintro e w2 ⟨rfl,hb2⟩
 have HB2:=Lib.hid (HX.out.trans (hb2.mono HX.out.size))
 clear hx hx1 hb2
 go_wp2
 refine bodyPost_ret (results_tmp2 rfl _ _ _) rfl ?_
 exact ⟨rfl,HB2.out⟩
theorem both2_ok (F:FuncId) (hrun:Runs F) (rv:Value) (k:Int) (pf px:Nat) (q q':Rat) (v v':Value) (w:World) (hpf:Boxed w pf 219 (.func (.func F) #[] #[]))
  (hv:IsFrac w v q) (hv':IsFrac w v' q') (vs:Array Value) (hvs:v=.agg vs) (hpx:Blk w px 216 vs) (_hr:Res w)
  (hF:∀ w',Below w.heap.size w w'→Calls Tryz.prog F #[v,v'] w' fun e w''=>e=.returned (.tuple #[rv,.int .i64 k])∧Below w'.heap.size w' w'') :
  Calls Tryz.prog 244 #[v',.pointer (some ⟨pf,0,none⟩),.pointer (some ⟨px,0,none⟩)] w fun e w'=>e=.returned (.tuple #[rv,.int .i64 k])∧Below w.heap.size w w':=by
 obtain ⟨bq,N,D,A,c,A',c',rfl,hn,hd,HQ⟩:=isFrac_open hv
 obtain ⟨bq',N',D',B,d,B',d',rfl,hn',hd',HQ'⟩:=isFrac_open hv'
 obtain rfl:#[.bool bq,.slice A (toL N).length c,.slice A' (toL D).length c']=vs:=by injection hvs
 have hrn:=hrun
 unfold Runs at hrn
 have HF:=Lib.hid hF
 have HX:=Lib.hid (below_alloc (Below.refl w.heap.size w) (.cells #[.bool bq',.slice B (toL N').length d,.slice B' (toL D').length d'] 216))
 have cf:=(bx_below hpf HX.out hpf.lt).cell
 obtain ⟨x0,x1,x2⟩:=rows_of hpx HX.out hpx.lt
 clear hrun hF hn hd hn' hd' hv hv' hpf hvs hpx
 go_enter Tryz.func244,Tryz.ntmps244
 go_wp2
 refine (HF.out _ HX.out).mono ?_
 rintro e w2 ⟨rfl,hb2⟩
 have HB2:=Lib.hid (HX.out.trans (hb2.mono HX.out.size))
 clear hb2
 go_wp2
 refine bodyPost_ret (results_tmp2 rfl _ _ _) rfl ?_
 exact ⟨rfl,HB2.out⟩
section
variable (F:FuncId) (b:ByteArray) (pb pf:Nat) (q:Rat) (v:Value) (w:World)
theorem both1_err (hlen:b.size≤270000) (hpb:Boxed w pb 23 (.string b)) (hpf:Boxed w pf 219 (.func (.func F) #[] #[]))
  (hv:IsFrac w v q) (hr:Res w) (he:errQ b.data.toList≠0) :
  Calls Tryz.prog 243 #[v,.pointer (some ⟨pb,0,none⟩),.pointer (some ⟨pf,0,none⟩)] w fun e w'=>e=.returned (.tuple #[.string ⟨#[]⟩,.int .i64 (errQ b.data.toList:Int)])∧Below w.heap.size w w':=by
 obtain ⟨bq,N,D,A,c,A',c',rfl,hn,hd,HQ⟩:=isFrac_open hv
 have HX:=Lib.hid (below_alloc (Below.refl w.heap.size w) (.cells #[.bool bq,.slice A (toL N).length c,.slice A' (toL D).length c'] 216))
 have cf:=(bx_below hpf HX.out hpf.lt).cell
 have cb:=(bx_below hpb HX.out hpb.lt).cell
 have HW:=Lib.hid (fun fv=>with_err b fv _ hlen (hr.below HX.out) he)
 clear hn hd hv hpf hpb hr he
 go_enter Tryz.func243,Tryz.ntmps243
 go_wp2_with (go_at_call 213;refine (HW.out _).mono ?_;rintro e w2 ⟨rfl,hb2⟩;have HB2:=Lib.hid (HX.out.trans (hb2.mono HX.out.size));clear hb2)
 refine bodyPost_ret (results_tmp2 rfl _ _ _) rfl ?_
 exact ⟨rfl,HB2.out⟩
theorem both1_ok (hrun:Runs F) (rv:Value) (k:Int) (hlen:b.size≤270000) (hpb:Boxed w pb 23 (.string b)) (hpf:Boxed w pf 219 (.func (.func F) #[] #[]))
  (hv:IsFrac w v q) (hr:Res w) (he:errQ b.data.toList=0)
  (hF:∀ v' w',Below w.heap.size w w'→Res w'→IsFrac w' v q→IsFrac w' v' (valQ b.data.toList)→Calls Tryz.prog F #[v,v'] w' fun e w''=>e=.returned (.tuple #[rv,.int .i64 k])∧Below w'.heap.size w' w'') :
  Calls Tryz.prog 243 #[v,.pointer (some ⟨pb,0,none⟩),.pointer (some ⟨pf,0,none⟩)] w fun e w'=>e=.returned (.tuple #[rv,.int .i64 k])∧Below w.heap.size w w':=by
 obtain ⟨bq,N,D,A,c,A',c',rfl,hn,hd,HQ⟩:=isFrac_open hv
 have HX:=Lib.hid (below_alloc (Below.refl w.heap.size w) (.cells #[.bool bq,.slice A (toL N).length c,.slice A' (toL D).length c'] 216))
 have cf:=(bx_below hpf HX.out hpf.lt).cell
 have cb:=(bx_below hpb HX.out hpb.lt).cell
 have HW:=Lib.hid (with_ok 244 runs_both2 #[.pointer (some ⟨pf,0,none⟩),.pointer (some ⟨w.heap.size,0,none⟩)] rv k b (w.alloc (.cells #[.bool bq,.slice A (toL N).length c,.slice A' (toL D).length c'] 216)) hlen (hr.below HX.out) he (fun v' w' hb' hr' hv'=>by
  have hB:Below w.heap.size w w':=HX.out.trans (hb'.mono HX.out.size)
  exact both2_ok F hrun rv k pf w.heap.size q _ _ v' w' (bx_below hpf hB hpf.lt) (hv.below hB) hv' _ rfl ((Blk.new w _ _).below hb' (by simp)) hr' (fun w2 hb2=>hF v' w2 (hB.trans (hb2.mono hB.size)) (hr'.below hb2) ((hv.below hB).below hb2) (hv'.below hb2))))
 clear hn hd hv hpf hpb hr he hF hrun
 go_enter Tryz.func243,Tryz.ntmps243
 go_wp2_with (go_at_call 213;refine HW.out.mono ?_;rintro e w2 ⟨rfl,hb2⟩;have HB2:=Lib.hid (HX.out.trans (hb2.mono HX.out.size));clear hb2)
 refine bodyPost_ret (results_tmp2 rfl _ _ _) rfl ?_
 exact ⟨rfl,HB2.out⟩
end
theorem box_both (w:World) (b:ByteArray) (fv:Value):Boxed ((w.alloc (.cells #[.string b] 23)).alloc (.cells #[fv] 219)) w.heap.size 23 (.string b) ∧
  Boxed ((w.alloc (.cells #[.string b] 23)).alloc (.cells #[fv] 219)) (w.heap.size+1) 219 fv∧Below w.heap.size w ((w.alloc (.cells #[.string b] 23)).alloc (.cells #[fv] 219)):=by
 refine ⟨(Boxed.new w _ _).alloc _,?_,below_alloc (below_alloc (Below.refl _ _) _) _⟩
 have:=Boxed.new (w.alloc (.cells #[.string b] 23)) 219 fv
 rwa [World.size_alloc] at this
theorem both_any (F:FuncId) (hrun:Runs F) (f:Rat→Rat→Value × Int) (a b:ByteArray) (w:World) (ha:a.size≤270000) (hb:b.size≤270000) (hr:Res w)
  (hF:∀ v v' w',Below w.heap.size w w'→Res w'→IsFrac w' v (valQ a.data.toList)→IsFrac w' v' (valQ b.data.toList)→errQ a.data.toList=0→errQ b.data.toList=0→Calls Tryz.prog F #[v,v'] w' fun e w''=>e=.returned (.tuple #[(f (valQ a.data.toList) (valQ b.data.toList)).1,.int .i64 (f (valQ a.data.toList) (valQ b.data.toList)).2])∧Below w'.heap.size w' w'') :
  Calls Tryz.prog 188 #[.string a,.string b,.func (.func F) #[] #[]] w fun e w' =>
   e=.returned (if errQ a.data.toList≠0 then .tuple #[.string ⟨#[]⟩,.int .i64 (errQ a.data.toList:Int)] else if errQ b.data.toList≠0 then .tuple #[.string ⟨#[]⟩,.int .i64 (errQ b.data.toList:Int)] else .tuple #[(f (valQ a.data.toList) (valQ b.data.toList)).1,.int .i64 (f (valQ a.data.toList) (valQ b.data.toList)).2])∧Below w.heap.size w w':=by
 obtain ⟨b4,b5,hB⟩:=box_both w b (.func (.func F) #[] #[])
 by_cases h1:errQ a.data.toList≠0
 ·rw [if_pos h1]
  have HW:=Lib.hid (fun fv=>with_err a fv _ ha (hr.below hB) h1)
  have HB:=Lib.hid hB
  clear b4 b5 hB hrun hF hr h1
  go_enter Tryz.func188,Tryz.ntmps188
  go_wp2_with (go_at_call 213;refine (HW.out _).mono ?_;rintro e w2 ⟨rfl,hb2⟩;have HB2:=Lib.hid (HB.out.trans (hb2.mono HB.out.size));clear hb2)
  refine bodyPost_ret (results_tmp2 rfl _ _ _) rfl ?_
  exact ⟨rfl,HB2.out⟩
 ·rw [if_neg h1]
  have h1:errQ a.data.toList=0:=by omega
  by_cases h2:errQ b.data.toList≠0
  ·rw [if_pos h2]
   have HW:=Lib.hid (with_ok 243 runs_both1 #[.pointer (some ⟨w.heap.size,0,none⟩),.pointer (some ⟨w.heap.size+1,0,none⟩)] (.string ⟨#[]⟩) (errQ b.data.toList:Int) a _ ha (hr.below hB) h1 (fun v w' hb' hr' hv =>
    both1_err F b w.heap.size (w.heap.size+1) _ v w' hb (bx_below b4 hb' b4.lt) (bx_below b5 hb' b5.lt) hv hr' h2))
   have HB:=Lib.hid hB
   clear b4 b5 hB hrun hF hr h1 h2
   go_enter Tryz.func188,Tryz.ntmps188
   go_wp2_with (go_at_call 213;refine HW.out.mono ?_;rintro e w2 ⟨rfl,hb2⟩;have HB2:=Lib.hid (HB.out.trans (hb2.mono HB.out.size));clear hb2)
   refine bodyPost_ret (results_tmp2 rfl _ _ _) rfl ?_
   exact ⟨rfl,HB2.out⟩
  ·rw [if_neg h2]
   have h2:errQ b.data.toList=0:=by omega
   generalize hR:f (valQ a.data.toList) (valQ b.data.toList)=R at *
   obtain ⟨rv,k⟩:=R
   dsimp only at hF ⊢
   have HW:=Lib.hid (with_ok 243 runs_both1 #[.pointer (some ⟨w.heap.size,0,none⟩),.pointer (some ⟨w.heap.size+1,0,none⟩)] rv k a _ ha (hr.below hB) h1 (fun v w' hb' hr' hv =>
    both1_ok F b w.heap.size (w.heap.size+1) _ v w' hrun rv k hb (bx_below b4 hb' b4.lt) (bx_below b5 hb' b5.lt) hv hr' h2 (fun v' w2 hb2 hr2 hv2 hv2'=>hF v v' w2 (hB.trans ((hb'.mono hB.size).trans (hb2.mono (Nat.le_trans hB.size hb'.size)))) hr2 hv2 hv2' h1 h2)))
   have HB:=Lib.hid hB
   clear b4 b5 hB hrun hF hr h1 h2 hR
   go_enter Tryz.func188,Tryz.ntmps188
   go_wp2_with (go_at_call 213;refine HW.out.mono ?_;rintro e w2 ⟨rfl,hb2⟩;have HB2:=Lib.hid (HB.out.trans (hb2.mono HB.out.size));clear hb2)
   refine bodyPost_ret (results_tmp2 rfl _ _ _) rfl ?_
   exact ⟨rfl,HB2.out⟩
end Go.Proofs.YtigapglmipmbeaaGreatDoor
