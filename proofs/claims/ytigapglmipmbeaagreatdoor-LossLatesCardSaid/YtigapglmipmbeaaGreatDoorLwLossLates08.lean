/- The reference's Make (printed by mkrmake.py). rat: Parts, Int; the natural numbers' reference: both, number, Mul, Gcd. The reference's FromInt, small, Int. The statements' Pick. (printed by mkrangep.py) A range over a function whose yields come in a known order; what holds in memory may speak of what has come. dist: the pairs of outcomes, and their iterator (printed by mkdprod.py). dist.Product (printed by mkdprod.py). Products: keys, moments; no program in sight (printed by mkdlaw5.py). kit.Has on the bytes of a string; what Product gives (printed by mkdlaw5.py). late of law 09 (printed by mklate.py). LossLates, as a walk (printed by mklate.py). Opening and shutting an argument that is a loss. Slices of structs with slices in them, in memory: how they read, how they are built, what keeps them. Plain words, no program. Opening arguments: lists of masses, of losses, of strings. Facts of the program that each card asks. -/
import Derived.Test.YtigapglmipmbeaaGreatDoorLwLossLates04
import Derived.Test.YtigapglmipmbeaaGreatDoorRb08
import Derived.Test.YtigapglmipmbeaaGreatDoorRb10
import Derived.Test.YtigapglmipmbeaaGreatDoorLwLossLates03
import Derived.Test.YtigapglmipmbeaaGreatDoorRb06
import Derived.Laws.Runes
import Derived.Test.YtigapglmipmbeaaGreatDoorRb01
import Derived.Test.YtigapglmipmbeaaGreatDoorRb03
import Derived.Test.YtigapglmipmbeaaGreatDoorLwLossLates07
import Derived.Test.YtigapglmipmbeaaGreatDoorLwLossLates06
import Derived.Test.YtigapglmipmbeaaGreatDoorLwLossLates02
import Derived.Maps.OwnIn
import Derived.Test.YtigapglmipmbeaaGreatDoorLwLossLates01
import Derived.Lib.ConvBytes
import Derived.Test.YtigapglmipmbeaaGreatDoorLwLossLates05
import Derived.ProofKit
import Derived.OpenShut
import Derived.ShutString
import Derived.ChangeOld
import Derived.ChangeSame
import Derived.Test.YtigapglmipmbeaaGreatDoorProg
import Derived.WalkKit
import Derived.Handy
import Derived.Lib.Hide
import Derived.BigQuiet
import Derived.Maps.OwnSet
import Derived.Maps.StringElems
import Derived.Maps.AppendAt
import Derived.WalkLawsBesides
import Derived.WalkSpells
import Derived.ChangeSlices
import Derived.Deep.Slices
import Derived.Lib.SmallJoins
import Derived.Test.YtigapglmipmbeaaGreatDoorCards
import Derived.Test.YtigapglmipmbeaaGreatDoorTie
import Derived.KernelRfl
import Derived.SevenTiedAt
set_option maxRecDepth 100000
set_option maxHeartbeats 16000000
namespace Go.Proofs.YtigapglmipmbeaaGreatDoor
open Go.RowKit Go.Shelf
open Lim
theorem rmake1 (a b n2:ByteArray) (m ok:Bool) (w:World) (ha:a.size≤270000) (_hb:b.size≤270000) (_hn:n2.size≤270000) (hi:intP a.data.toList=(m,n2.data.toList)) (hok:intOk a.data.toList=ok) (h0:ok=false) :
  Calls Tryz.prog 147 #[.string a,.string b] w fun e w'=>e=.returned (resN ([],3))∧Below w.heap.size w w':=by
 have HI:=Lib.hid (And.intro hi hok)
 subst h0
 clear hi hok
 go_enter Tryz.func147,Tryz.ntmps147
 go_wp2_with (first
  | (go_at_call 220;refine (rinteger_any a _ (by omega)).mono ?_;rintro e w2 ⟨rfl,hw2⟩;subst hw2;rw [HI.out.1,HI.out.2];dsimp only;rw [beta_ba];have HB2:=Lib.hid (Below.refl w2.heap.size w2)))
 refine bodyPost_ret (results_tmp2 rfl _ _ _) rfl ?_
 exact ⟨rfl,HB2.out⟩
theorem rmake2 (a b n2:ByteArray) (m ok:Bool) (w:World) (ha:a.size≤270000) (_hb:b.size≤270000) (hn:n2.size≤270000) (hi:intP a.data.toList=(m,n2.data.toList)) (hok:intOk a.data.toList=ok) (h0:ok=true) (h1:4000 < n2.size) :
  Calls Tryz.prog 147 #[.string a,.string b] w fun e w'=>e=.returned (resN ([],5))∧Below w.heap.size w w':=by
 have HI:=Lib.hid (And.intro hi hok)
 have hl1:decide ((4000:Int) < (n2.size:Int))=true:=decide_eq_true (by omega)
 clear h1
 subst h0
 clear hi hok
 go_enter Tryz.func147,Tryz.ntmps147
 go_wp2_with (first
  | (go_at_call 220;refine (rinteger_any a _ (by omega)).mono ?_;rintro e w2 ⟨rfl,hw2⟩;subst hw2;rw [HI.out.1,HI.out.2];dsimp only;rw [beta_ba];have HB2:=Lib.hid (Below.refl w2.heap.size w2)))
 refine bodyPost_ret (results_tmp2 rfl _ _ _) rfl ?_
 exact ⟨rfl,HB2.out⟩
theorem rmake3 (a b n2:ByteArray) (m ok:Bool) (w:World) (ha:a.size≤270000) (hb:b.size≤270000) (hn:n2.size≤270000) (hi:intP a.data.toList=(m,n2.data.toList)) (hok:intOk a.data.toList=ok) (h0:ok=true) (h1:n2.size≤4000) (h2:errN b.data.toList≠0) :
  Calls Tryz.prog 147 #[.string a,.string b] w fun e w'=>e=.returned (resN ([],errN b.data.toList))∧Below w.heap.size w w':=by
 have HI:=Lib.hid (And.intro hi hok)
 have hl1:decide ((4000:Int) < (n2.size:Int))=false:=decide_eq_false (by omega)
 have hne:((errN b.data.toList:Int) == 0)=false:=by rw [beq_eq_false_iff_ne];omega
 clear h1 h2
 subst h0
 clear hi hok
 go_enter Tryz.func147,Tryz.ntmps147
 go_wp2_with (first
  | (go_at_call 220;refine (rinteger_any a _ (by omega)).mono ?_;rintro e w2 ⟨rfl,hw2⟩;subst hw2;rw [HI.out.1,HI.out.2];dsimp only;rw [beta_ba];have HB2:=Lib.hid (Below.refl w2.heap.size w2))
  | (go_at_call 221;refine (rcheck_any b _ (by omega)).mono ?_;rintro e w3 ⟨rfl,hw3⟩;subst hw3;have HB3:=HB2))
 refine bodyPost_ret (results_tmp2 rfl _ _ _) rfl ?_
 exact ⟨rfl,HB3.out⟩
theorem rmake4 (a b n2:ByteArray) (m ok:Bool) (w:World) (ha:a.size≤270000) (hb:b.size≤270000) (hn:n2.size≤270000) (hi:intP a.data.toList=(m,n2.data.toList)) (hok:intOk a.data.toList=ok) (h0:ok=true) (h1:n2.size≤4000) (h2:errN b.data.toList=0) (h3:(b.toList == [48])=true) :
  Calls Tryz.prog 147 #[.string a,.string b] w fun e w'=>e=.returned (resN ([],6))∧Below w.heap.size w w':=by
 have HI:=Lib.hid (And.intro hi hok)
 have hl1:decide ((4000:Int) < (n2.size:Int))=false:=decide_eq_false (by omega)
 have hne:((errN b.data.toList:Int) == 0)=true:=by rw [h2];rfl
 clear h1 h2
 subst h0
 clear hi hok
 go_enter Tryz.func147,Tryz.ntmps147
 go_wp2_with (first
  | (go_at_call 220;refine (rinteger_any a _ (by omega)).mono ?_;rintro e w2 ⟨rfl,hw2⟩;subst hw2;rw [HI.out.1,HI.out.2];dsimp only;rw [beta_ba];have HB2:=Lib.hid (Below.refl w2.heap.size w2))
  | (go_at_call 221;refine (rcheck_any b _ (by omega)).mono ?_;rintro e w3 ⟨rfl,hw3⟩;subst hw3;have HB3:=HB2))
 refine bodyPost_ret (results_tmp2 rfl _ _ _) rfl ?_
 exact ⟨rfl,HB3.out⟩
theorem rmake5 (a b n2:ByteArray) (m ok:Bool) (w:World) (ha:a.size≤270000) (hb:b.size≤270000) (hn:n2.size≤270000) (hi:intP a.data.toList=(m,n2.data.toList)) (hok:intOk a.data.toList=ok) (h0:ok=true) (h1:n2.size≤4000) (h2:errN b.data.toList=0) (h3:(b.toList == [48])=false) (hd:Dg n2.data.toList) (hd':Dg b.data.toList) (hd0:dv b.data.toList≠0) (ln:(toL (dv n2.data.toList)).length≤500) (ld:(toL (dv b.data.toList)).length≤500) (lr:(toL (nm (mkQ m (dv n2.data.toList) (dv b.data.toList)))).length≤500) (lr':(toL (mkQ m (dv n2.data.toList) (dv b.data.toList)).den).length≤500) :
  Calls Tryz.prog 147 #[.string a,.string b] w fun e w'=>e=.returned (resN (outQ (mkQ m (dv n2.data.toList) (dv b.data.toList))))∧Below w.heap.size w w':=by
 have HI:=Lib.hid (And.intro hi hok)
 have hl1:decide ((4000:Int) < (n2.size:Int))=false:=decide_eq_false (by omega)
 have hne:((errN b.data.toList:Int) == 0)=true:=by rw [h2];rfl
 have HG:=Lib.hid (And.intro hd hd')
 have TK1:True:=trivial
 have HM:=Lib.hid (fun vn vd w hn hd=>rreduce_any m (dv n2.data.toList) (dv b.data.toList) vn vd w hn hd hd0 (by omega) (by omega))
 have HN:=Lib.hid (fun v w hv=>rwriteQ_any (mkQ m (dv n2.data.toList) (dv b.data.toList)) v w hv (by omega) (by omega))
 generalize outQ (mkQ m (dv n2.data.toList) (dv b.data.toList))=r at HN ⊢
 unfold resN at HN
 clear h1 h2 hd hd' hd0 ln ld lr lr'
 subst h0
 clear hi hok
 go_enter Tryz.func147,Tryz.ntmps147
 go_wp2_with (first
  | (go_at_call 220;refine (rinteger_any a _ (by omega)).mono ?_;rintro e w2 ⟨rfl,hw2⟩;subst hw2;rw [HI.out.1,HI.out.2];dsimp only;rw [beta_ba];have HB2:=Lib.hid (Below.refl w2.heap.size w2))
  | (go_at_call 221;refine (rcheck_any b _ (by omega)).mono ?_;rintro e w3 ⟨rfl,hw3⟩;subst hw3;have HB3:=HB2)
  | (clear TK1;go_at_call 223;refine (rread_any n2 _ HG.out.1 (by omega)).mono ?_;rintro e w4 ⟨v4,rfl,hv4,hb4⟩;obtain ⟨A4,c4,rfl,_,_,_⟩:=id hv4;have HV4:=Lib.hid hv4;have HB4:=Lib.hid (HB3.out.trans (hb4.mono HB3.out.size));clear hv4 hb4)
  | (go_at_call 223;refine (rread_any b _ HG.out.2 (by omega)).mono ?_;rintro e w5 ⟨v5,rfl,hv5,hb5⟩;obtain ⟨A5,c5,rfl,_,_,_⟩:=id hv5;have HV5:=Lib.hid hv5;have HV4':=Lib.hid (HV4.out.below hb5);have HB5:=Lib.hid (HB4.out.trans (hb5.mono HB4.out.size));clear hv5 hb5)
  | (go_at_call 222;refine (HM.out _ _ _ HV4'.out HV5.out).mono ?_;rintro e w6 ⟨v6,rfl,hv6,hb6⟩;have HV6:=Lib.hid hv6;have HB6:=Lib.hid (HB5.out.trans (hb6.mono HB5.out.size));clear hv6 hb6)
  | (go_at_call 153;refine (HN.out _ _ HV6.out).mono ?_;rintro e w7 ⟨rfl,hb7⟩;have HB7:=Lib.hid (HB6.out.trans (hb7.mono HB6.out.size));clear hb7))
 refine bodyPost_ret (results_tmp2 rfl _ _ _) rfl ?_
 exact ⟨rfl,HB7.out⟩
theorem refMake_any (a b:ByteArray) (w:World) (ha:a.size≤270000) (hb:b.size≤270000) :
  Calls Tryz.prog 147 #[.string a,.string b] w fun e w'=>e=.returned (resN (makeQ a.data.toList b.data.toList))∧Below w.heap.size w w':=by
 have hle:=intP_le a.data.toList
 rw [← size_list] at hle
 have hn:(⟨(intP a.data.toList).2.toArray⟩:ByteArray).size≤270000:=by show (intP a.data.toList).2.toArray.size≤_;rw [List.size_toArray];omega
 have hs:(⟨(intP a.data.toList).2.toArray⟩:ByteArray).size=(intP a.data.toList).2.length:=List.size_toArray
 unfold makeQ
 by_cases hok:intOk a.data.toList=false
 ·rw [if_pos hok]
  exact rmake1 a b ⟨(intP a.data.toList).2.toArray⟩ _ _ w ha hb hn rfl hok rfl
 ·rw [if_neg hok]
  have hok:intOk a.data.toList=true:=by simpa using hok
  have hnf:NForm (intP a.data.toList).2=true:=by
   unfold intOk at hok
   simp only [Bool.and_eq_true] at hok
   exact hok.1
  by_cases hl:4000 < (intP a.data.toList).2.length
  ·rw [if_pos hl]
   exact rmake2 a b ⟨(intP a.data.toList).2.toArray⟩ _ _ w ha hb hn rfl hok rfl (by rw [hs];exact hl)
  ·rw [if_neg hl]
   by_cases he:errN b.data.toList≠0
   ·rw [if_pos he]
    exact rmake3 a b ⟨(intP a.data.toList).2.toArray⟩ _ _ w ha hb hn rfl hok rfl (by rw [hs];omega) he
   ·rw [if_neg he]
    have he:errN b.data.toList=0:=by omega
    by_cases h0:b.data.toList=[48]
    ·rw [if_pos h0]
     exact rmake4 a b ⟨(intP a.data.toList).2.toArray⟩ _ _ w ha hb hn rfl hok rfl (by rw [hs];omega) he (by rw [Lib.toList_data,h0];rfl)
    ·rw [if_neg h0]
     have hbf:NForm b.data.toList=true∧b.data.toList.length≤4000:=by
      unfold errN at he
      split at he
      ·split at he
       ·cases he
       ·exact ⟨by assumption,by omega⟩
      ·cases he
     have hd0:dv b.data.toList≠0:=fun e=>h0 (by rw [← NForm.eq hbf.1,e,dec_zero])
     have ln:=limbs_of_form hnf (k:=500) (by omega)
     have ld:=limbs_of_form hbf.1 (k:=500) (by omega)
     obtain ⟨lr,lr'⟩:=mkQ_limbs (intP a.data.toList).1 hd0 ln ld
     exact rmake5 a b ⟨(intP a.data.toList).2.toArray⟩ _ _ w ha hb hn rfl hok rfl (by rw [hs];omega) he (by rw [Lib.toList_data,beq_eq_false_iff_ne];exact h0) (dg_of_form hnf) (dg_of_form hbf.1) hd0 ln ld lr lr'
end Go.Proofs.YtigapglmipmbeaaGreatDoor
namespace Go.Proofs.YtigapglmipmbeaaGreatDoor
open Go.RowKit Go.Shelf
open Lim
end Go.Proofs.YtigapglmipmbeaaGreatDoor
namespace Go.Proofs.YtigapglmipmbeaaGreatDoor
open Go.RowKit Go.Shelf
open Lim
theorem enc_digit {d:Nat} (h:d < 10):Utf8.encode ((48+d:Nat):Int)=⟨#[UInt8.ofNat (48+d)]⟩:=by
 unfold Utf8.encode
 have hv:Utf8.valid ((48+d:Nat):Int)=true:=by
  unfold Utf8.valid
  simp
  omega
 simp only [hv,if_true,Int.toNat_natCast]
 rw [if_pos (by omega)]
theorem pow_up {m j k:Nat} (h:m < 10 ^ j) (hk:j≤k):m < 10 ^ k:=Nat.lt_of_lt_of_le h (Nat.pow_le_pow_right (by decide) hk)
theorem nd_up {m j k:Nat} (h:m < 10 ^ j) (hk:j≤k) (h1:1≤k):Lib.nDigits m≤k:=(nDigits_iff h1).2 (pow_up h hk)
theorem dec_big {m:Nat} (h:¬ m < 10):Lib.decDigits m=Lib.decDigits (m / 10)++[UInt8.ofNat (48+m % 10)]:=by
 rw [Lib.decDigits,dif_neg h]
theorem fromInt_any (n:Nat) (w:World) (hn:n≤9223372036854775807) :
  Calls Tryz.prog 224 #[.int .i64 (n:Int)] w fun e w'=>e=.returned (.tuple #[.string ⟨(Lib.decDigits n).toArray⟩,.int .i64 0])∧w'=w:=by
 have hneg:decide ((n:Int) < 0)=false:=decide_eq_false (by omega)
 go_enter Tryz.func224,Tryz.ntmps224
 go_wp2
 go_loopw [0,4] (fun v0 v4 wr=>∃ (x:Int) (m:Nat) (s:ByteArray),m≤n∧v0=.int .i64 x∧v4=.string s∧Hid (x=(m:Int))∧Hid (Lib.decDigits m++s.data.toList=Lib.decDigits n)∧wr=w) (fun v0 _ _=>(intOf v0).toNat)
 case atStart=>exact ⟨n,n,⟨#[]⟩,Nat.le_refl _,rfl,rfl,Lib.hid rfl,Lib.hid (by simp),rfl⟩
 case round =>
  obtain ⟨x,m,s,hm,rfl,rfl,HX,HS,rfl⟩:=hrel
  have HM:=Lib.hid hm
  have x0:0≤x:=by have:=HX.out;omega
  have x1:x≤9223372036854775807:=by have:=HX.out;omega
  have hs19:s.size+1≤9223372036854775807:=by
   have h1:=congrArg List.length HS.out
   rw [List.length_append,Lib.decDigits_length,Lib.decDigits_length,← size_list] at h1
   have h2:Lib.nDigits n≤19:=nd_up (j:=19) (by omega) (by decide) (by decide)
   omega
  clear hm hn hneg
  by_cases h9:9 < x
  ·have e1:48+x % 10=((48+m % 10:Nat):Int):=by have:=HX.out;omega
   have hE:Utf8.encode (48+x % 10)=⟨#[UInt8.ofNat (48+m % 10)]⟩:=by rw [e1];exact enc_digit (Nat.mod_lt _ (by decide))
   have hq:(Utf8.encode (48+x % 10)).size=1:=by rw [hE];rfl
   have HE:=Lib.hid hE
   have H9:=Lib.hid h9
   clear x0 e1 hE
   go_wp2
   have hmx:=HX.out
   have h9':=H9.out
   refine ⟨⟨x / 10,m / 10,Utf8.encode (48+x % 10)++s,by have:=HM.out;omega,rfl,rfl,Lib.hid (by omega),Lib.hid ?_,trivial⟩,?_⟩
   ·rw [HE.out,← HS.out,dec_big (show ¬ m < 10 by omega),List.append_assoc]
    congr 1
   ·simp [intOf];omega
  ·have e1:48+x=((48+m:Nat):Int):=by have:=HX.out;omega
   have hm9:m < 10:=by have:=HX.out;omega
   have hE:Utf8.encode (48+x)=⟨#[UInt8.ofNat (48+m)]⟩:=by rw [e1];exact enc_digit hm9
   have hq:(Utf8.encode (48+x)).size=1:=by rw [hE];rfl
   have HE:=Lib.hid hE
   have H9:=Lib.hid hm9
   have hd:decide (9 < x)=false:=decide_eq_false h9
   have hx9:x≤9:=by omega
   clear x1 e1 hE hm9 h9
   go_wp2
   refine bodyPost_ret (results_tmp2 rfl _ _ _) rfl ?_
   refine ⟨?_,rfl⟩
   have:Utf8.encode (48+x)++s=⟨(Lib.decDigits n).toArray⟩:=by
    apply ByteArray.ext
    apply Array.toList_inj.1
    show _=Lib.decDigits n
    rw [HE.out,← HS.out,Lib.decDigits_one H9.out,ByteArray.data_append]
    simp
   rw [this]
   rfl
theorem rsmall_any (n:Nat) (w:World) (hn:n≤9223372036854775807) :
  Calls Tryz.prog 226 #[.int .i64 (n:Int)] w fun e w'=>e=.returned (.string ⟨(Lib.decDigits n).toArray⟩)∧w'=w:=by
 have HC:=Lib.hid (fromInt_any n w hn)
 generalize (⟨(Lib.decDigits n).toArray⟩:ByteArray)=s at *
 go_enter Tryz.func226,Tryz.ntmps226
 go_wp2_with (go_at_call 224;refine HC.out.mono ?_;rintro e w1 ⟨rfl,hw1⟩;subst hw1)
 go_ret
 exact ⟨rfl,rfl⟩
theorem dv_dec (m:Nat):dv (⟨(Lib.decDigits m).toArray⟩:ByteArray).data.toList=m:=by
 show dv (Lib.decDigits m)=m
 exact dv_decDigits m
theorem refInt_any (n:Int) (w:World) (h0:-9223372036854775808≤n) (h1:n≤9223372036854775807) :
  Calls Tryz.prog 148 #[.int .i64 n] w fun e w'=>e=.returned (.string ⟨(Lib.itoa n).toArray⟩)∧Below w.heap.size w w':=by
 by_cases hn:0≤n
 ·obtain ⟨k,rfl⟩:=Int.eq_ofNat_of_zero_le hn
  have hd:decide (0≤(k:Int))=true:=decide_eq_true hn
  have hi:Lib.itoa (k:Int)=Lib.decDigits k:=by unfold Lib.itoa;rw [if_neg (by omega)];simp
  rw [hi]
  have HC:=Lib.hid (fromInt_any k w (by omega))
  generalize (⟨(Lib.decDigits k).toArray⟩:ByteArray)=s at *
  clear hi
  go_enter Tryz.func148,Tryz.ntmps148
  go_wp2_with (go_at_call 224;refine HC.out.mono ?_;rintro e w1 ⟨rfl,hw1⟩;subst hw1)
  go_ret
  exact ⟨rfl,Below.refl _ _⟩
 ·obtain ⟨m,hnm⟩:∃ m:Nat,n=-((m:Int)+1):=⟨(-(n+1)).toNat,by omega⟩
  have hm:m≤9223372036854775807:=by omega
  have hi:Lib.itoa n=45::Lib.decDigits (m+1):=by
   rw [hnm]
   unfold Lib.itoa
   rw [if_pos (by omega),show (-((m:Int)+1)).natAbs=m+1 by omega]
  rw [hi]
  have hsn:(⟨(Lib.decDigits m).toArray⟩:ByteArray).size=Lib.nDigits m:=by
   rw [size_list]
   show (Lib.decDigits m).length=_
   rw [Lib.decDigits_length]
  have hnd:Lib.nDigits m≤4000:=nd_up (j:=19) (by omega) (by decide) (by decide)
  have hnd1:Lib.nDigits (m+1)≤4000:=nd_up (j:=19) (by omega) (by decide) (by decide)
  obtain ⟨t,ht⟩:∃ t:ByteArray,t=⟨(Lib.decDigits (m+1)).toArray⟩:=⟨_,rfl⟩
  have hts:t.size+1≤9223372036854775807:=by
   rw [ht,size_list]
   show (Lib.decDigits (m+1)).length+1≤_
   rw [Lib.decDigits_length]
   omega
  have HT:=Lib.hid ht
  clear ht
  have hl0:=limbs_of_nd hnd (show 4000≤9*445 by omega)
  have hl1:=limbs_of_nd hnd1 (show 4000≤9*445 by omega)
  have e1:toL 1=[1]:=by rw [toL_pos (by omega)];simp [B_val,toL_zero]
  have HL:=Lib.hid (And.intro hl0 (And.intro hl1 (show (toL 1).length≤40000 by rw [e1];decide)))
  have HS:=Lib.hid (rsmall_any m w hm)
  have HD:=Lib.hid (And.intro (dv_dec m) (And.intro hnd hsn))
  have HG:=Lib.hid (show Dg (⟨(Lib.decDigits m).toArray⟩:ByteArray).data.toList from dg_of_form (nform_dec m))
  have hneg:-(n+1)=(m:Int):=by omega
  have HN:=Lib.hid hneg
  clear hnd hnd1 hl0 hl1 e1 hi hsn hneg hm hnm h1
  have TK1:True:=trivial
  go_enter Tryz.func148,Tryz.ntmps148
  go_wp2_with (first
   | (clear TK1;go_at_call 226;(first | rw [HN.out] | skip);refine HS.out.mono ?_;rintro e w1 ⟨rfl,hw1⟩;subst hw1)
   | (go_at_call 223;refine (rread_any _ _ HG.out (by have:=HD.out.2;omega)).mono ?_;rintro e w2 ⟨v2,rfl,hv2,hb2⟩;rw [HD.out.1] at hv2;have HV2:=Lib.hid hv2;have HB2:=Lib.hid hb2;clear hv2 hb2)
   | (go_at_call 227;refine (rone_any _).mono ?_;rintro e w3 ⟨v3,rfl,hv3,hb3⟩;have HV3:=Lib.hid hv3;have HV2':=Lib.hid (HV2.out.below hb3);have HB3:=Lib.hid (HB2.out.trans (hb3.mono HB2.out.size));clear hv3 hb3)
   | (go_at_call 225;refine (rplus_any m 1 _ _ _ HV2'.out HV3.out (by have:=HL.out.1;omega) HL.out.2.2).mono ?_;rintro e w4 ⟨v4,rfl,hv4,hb4⟩;have HV4:=Lib.hid hv4;have HB4:=Lib.hid (HB3.out.trans (hb4.mono HB3.out.size));clear hv4 hb4)
   | (go_at_call 228;refine (rwrite_any (m+1) _ _ HV4.out (by have:=HL.out.2.1;omega)).mono ?_;rintro e w5 ⟨rfl,hb5⟩;rw [← HT.out];have HB5:=Lib.hid (HB4.out.trans (hb5.mono HB4.out.size));clear hb5))
  go_ret
  refine ⟨?_,HB5.out⟩
  rw [show (⟨(45::Lib.decDigits (m+1)).toArray⟩:ByteArray)=⟨#[45]⟩++t by rw [HT.out];apply ByteArray.ext;apply Array.toList_inj.1;rw [ByteArray.data_append];simp]
  rfl
end Go.Proofs.YtigapglmipmbeaaGreatDoor
namespace Go.Proofs.YtigapglmipmbeaaGreatDoor
open Go.RowKit
theorem pick_any (x n:Int) (w:World) (hn:0 < n) (_hx:-9223372036854775808≤x) (_hx2:x≤9223372036854775807) (hn2:n≤1000000) :
  Calls Tryz.prog 54 #[.int .i64 x,.int .i64 n] w fun e w'=>∃ k:Int,e=.returned (.int .i64 k)∧0≤k∧k < n∧w'=w:=by
 have h1:=Int.tmod_lt_of_pos x hn
 have h2:=Int.lt_tmod_of_pos x hn
 go_enter Tryz.func54,Tryz.ntmps54
 by_cases h:x.tmod n < 0
 ·go_wp2
  go_ret
  exact ⟨_,rfl,by omega,by omega,rfl⟩
 ·go_wp2
  go_ret
  exact ⟨_,rfl,by omega,by omega,rfl⟩
end Go.Proofs.YtigapglmipmbeaaGreatDoor
namespace Go.Proofs.YtigapglmipmbeaaGreatDoor.RP
open Go.RowKit Go.Shelf Go.Proofs.YtigapglmipmbeaaGreatDoor
def ordPost {α:Type} (I:List α→World→Prop) (Ix:Code→List α→World→Prop) (xs:List α) (W:World):Exit→Act→World→Prop
 | .normal,_,W'=>KeepsOthers W W'∧I xs W'
 | .ret,_,W'=>KeepsOthers W W'∧Ix .ret xs W'
 | .exit id,_,W'=>KeepsOthers W W'∧Ix (.exit id) xs W'
 | .goto t,_,W'=>KeepsOthers W W'∧Ix (.goto t) xs W'
 | .panic _,_,_=>False
 | .outgrown,_,_=>False
def SeqOrd {α:Type} (F:Fence) (n:Nat) (P:Program) (g:Nat) (lb:Array Value) (encs:α→Array Value) (Nx:List α→α→World→Prop) (S:List α→Prop) (G:List α→World→Prop):Prop :=
 ∀ (l:Nat) (J Jx:List α→World→Prop) (W:World),(∀ pre W1,J pre W1→G pre W1)→AbidesFrom W.heap.size J→AbidesFrom W.heap.size Jx →
  (∀ pre x W1,J pre W1→Nx pre x W1→YieldAt F (n - 1) P l (encs x) W1 fun e W'=>(e=.returned (.bool true)∧J (pre++[x]) W') ∨ (e=.returned (.bool false)∧Jx (pre++[x]) W')) →
  J [] W →
  CallsIn F n P g (#[.func (.yield l) #[] #[]]++lb) W fun e W'=>(∃ v,e=.returned v)∧((∃ xs,S xs∧J xs W') ∨ (∃ pre x,Jx (pre++[x]) W'))
section
variable {F:Fence} {n:Nat} {P:Program}
def Books (rec:LoopState→Option Code→Loop) (D:Nat) (st:LoopState) (pe:Option Code) (W:World):Prop :=
 W.heap[D+1]?=some (.loop (rec st pe))∧W.heap[D]?=some (.deferred (some []))
theorem Books.abides {rec:LoopState→Option Code→Loop} {D B:Nat} {st:LoopState} {pe:Option Code} {W W':World} {row:Option Nat} (h:Books rec D st pe W) (hg:W.grownBy W' row)
  (hr:∀ r,row=some r→B≤r∧∃ o:Obj,W.heap[r]?=some o∧o.isWalk=true):Books rec D st pe W' :=
 ⟨(grownBy_keeps hg (fun r e=>(hr r e).2) h.1 rfl).trans h.1,(grownBy_keeps hg (fun r e=>(hr r e).2) h.2 rfl).trans h.2⟩
theorem Books.turned {rec:LoopState→Option Code→Loop} {D:Nat} {st:LoopState} {pe:Option Code} {W:World} (h:Books rec D st pe W) (o:Loop) :
  (W.putObj (D+1) (.loop o)).heap[D+1]?=some (.loop o)∧(W.putObj (D+1) (.loop o)).heap[D]?=some (.deferred (some []))∧Turn D W (W.putObj (D+1) (.loop o)) :=
 ⟨World.putObj_heap_same (Array.getElem?_eq_some_iff.1 h.1).1,(World.putObj_heap_other (by omega)).trans h.2,D+1,_,_,by omega,h.1,rfl,rfl⟩
theorem wpIn_range_ord {α:Type} {g:Operand} {ps:Array Tmp} {assign body:Code} {Q:Exit→Act→World→Prop} {a:Act} {w:World}
  (hro:F.round=none) (h1:1≤n) {gf:Nat} {lb:Array Value} (hg:a.eval g=.func (.func gf) #[] lb) (hFg:F.fn gf) (eg:∀ args w,(callFunc gf args).run P w=.ok (.enter gf args) w)
  {encs:α→Array Value} {Nx:List α→α→World→Prop} {S:List α→Prop} {G:List α→World→Prop} (hseq:SeqOrd F (n - 1) P gf lb encs Nx S G) (hps:∀ x,(encs x).size=ps.size)
  (I:List α→World→Prop) (Ix:Code→List α→World→Prop) (hG:∀ pre W,I pre W→G pre W) (hI:OwnFrom w.heap.size I) (hIx:∀ c,OwnFrom w.heap.size (Ix c)) (h0:I [] w)
  (hround:∀ (l:Nat) (pre:List α) (x:α) (W:World) (K:Act→World→Prop),I pre W→Nx pre x W →
   (∀ a' Wa,KeepsOthers W Wa→I pre Wa→(∀ Wb,Turn w.heap.size Wa Wb→I pre Wb→body.wpIn (F.inRound l) (n - 1 - 1) P (ordPost I Ix (pre++[x]) Wb) a' Wb)→K a' Wa) →
   assign.wpIn (F.inRound l) (n - 1 - 1) P (Exit.then K (fun _ _ _=>False)) { tmps:=(ps.zip (encs x)).foldl (fun t (p,v)=>t.setIfInBounds p v) a.tmps,defers:=[] } W)
  (hdone:∀ (D:Nat) (xs:List α) (W:World),w.heap.size≤D→S xs→I xs W→W.heap[D]?=some (.deferred (some []))→Q .normal { a with defers:={ target:=.collected D,args:=#[] }::a.defers } W)
  (hstop:∀ (D:Nat) (c:Code) (pre:List α) (x:α) (W:World),w.heap.size≤D→Ix c (pre++[x]) W→W.heap[D]?=some (.deferred (some []))→c.wpIn F n P Q { a with defers:={ target:=.collected D,args:=#[] }::a.defers } W) :
  (Code.rangeFunc g ps assign body).wpIn F n P Q a w:=by
 refine wpIn_rangeFunc ?_
 intro fn hfn
 rw [hro]
 obtain ⟨rec,hrec⟩:∃ rec:LoopState→Option Code→Loop,rec=fun st pe=>{ state:=st,pending:=pe,fn,tmps:=a.tmps,params:=ps,assign,body,defers:=w.heap.size }:=⟨_,rfl⟩
 obtain ⟨W1,hW1⟩:∃ W1,(w.alloc (.deferred (some []))).alloc (.loop (rec .ready none))=W1:=⟨_,rfl⟩
 have hb1:Books rec w.heap.size .ready none W1:=by
  subst hW1
  refine ⟨?_,(Below.heap_alloc _ _ _ (by simp)).trans (World.alloc_heap_new w _)⟩
  have:=World.alloc_heap_new (w.alloc (.deferred (some []))) (.loop (rec .ready none))
  rwa [World.size_alloc] at this
 have hI1:I [] W1:=by subst hW1;exact hI.alloc _ (hI.alloc _ h0)
 have hsz:w.heap.size≤W1.heap.size:=by subst hW1;simp;omega
 have enters:(Instr.enterLoop fn a.tmps ps assign body none).run P w=.ok (w.heap.size+1,[{ target:=.collected w.heap.size,args:=#[] }]) W1:=by
  rw [← hW1,hrec];exact run_enterLoop_outer _ _ _ _ _
 clear hW1
 have hnw:∀ {A:World} {row:Option Nat},(∀ r,row=some r→W1.heap.size≤r∧∃ o:Obj,A.heap[r]?=some o∧o.isWalk=true)→∀ r,row=some r→w.heap.size≤r∧∃ o:Obj,A.heap[r]?=some o∧o.isCells=false :=
  fun hr r e=>by obtain ⟨hB,o,ho,hw⟩:=hr r e;exact ⟨by omega,o,ho,Obj.not_cells_of_walk hw⟩
 refine ⟨w.heap.size+1,_,W1,{ target:=.fn (.func gf) lb,args:=#[.func (.yield (w.heap.size+1)) #[] #[]] },W1,gf,#[.func (.yield (w.heap.size+1)) #[] #[]]++lb,W1,enters,?_,?_,?_,fun _=>h1,?_⟩
 ·simp only [resolve,hg]
  simp [go_sem]
 ·intro f' hf';simp [Target.leads] at hf';subst hf';exact hFg
 ·simp [invoke,go_sem,eg]
 refine (hseq (w.heap.size+1) (fun pre W=>I pre W∧Books rec w.heap.size .ready none W) (fun pre W=>∃ c,Ix c pre W∧Books rec w.heap.size .done (some c) W) W1
  (fun pre W h=>hG pre W h.1)
  (fun s A A' row hs hg' hr=>⟨hI s A A' row hs.1 hg' (hnw hr),hs.2.abides hg' hr⟩)
  (fun s A A' row hs hg' hr=>by obtain ⟨c,hc,hk⟩:=hs;exact ⟨c,hIx c s A A' row hc hg' (hnw hr),hk.abides hg' hr⟩)
  ?_ ⟨hI1,hb1⟩).mono ?_
 ·rintro pre x W ⟨hi,hk⟩ hnx
  have hy:=run_yield (P:=P) (args:=encs x) hk.1 (by rw [hrec];exact hps x)
  rw [hrec] at hy
  refine ⟨fn,_,assign,body,hy,roundIn_of_wpIn hfn (hround _ pre x W _ hi hnx ?_)⟩
  clear hy
  intro a' Wa hka hia hbody
  have hka':Books rec w.heap.size .ready none Wa:=⟨hka.same _ _ hk.1 rfl,hka.same _ _ hk.2 rfl⟩
  refine ⟨_,run_beginRound hka'.1 (by rw [hrec]),?_⟩
  obtain ⟨t1,t2,t3⟩:=hka'.turned { rec .ready none with state:=.busy }
  refine wpIn_mono (hbody _ t3 (OwnFrom.turn hI hia t3)) ?_
  -- the round's end, by whatever jump
  have fin:∀ (jump:Option Code) (W3:World),KeepsOthers (Wa.putObj (w.heap.size+1) (.loop { rec .ready none with state:=.busy })) W3 →
    ∃ W4,(Instr.endRound (w.heap.size+1) jump).run P W3=.ok (.bool jump.isNone) W4∧Books rec w.heap.size (if jump.isNone then .ready else .done) jump W4∧Turn w.heap.size W3 W4:=by
   intro jump W3 hk3
   have b3:Books (fun _ _=>{ rec .ready none with state:=.busy }) w.heap.size .ready none W3:=⟨hk3.same _ _ t1 rfl,hk3.same _ _ t2 rfl⟩
   obtain ⟨u1,u2,u3⟩:=b3.turned (rec (if jump.isNone then .ready else .done) jump)
   refine ⟨_,?_,⟨u1,u2⟩,u3⟩
   have:=run_endRound (P:=P) jump b3.1
   rw [hrec] at this ⊢
   exact this
  intro e a3 W3 hp
  cases e with
  | normal=>obtain ⟨W4,r1,r2,r3⟩:=fin none W3 hp.1;exact ⟨_,_,r1,.inl ⟨rfl,OwnFrom.turn hI hp.2 r3,r2⟩⟩
  | ret=>obtain ⟨W4,r1,r2,r3⟩:=fin (some .ret) W3 hp.1;exact ⟨_,_,r1,.inr ⟨rfl,.ret,OwnFrom.turn (hIx _) hp.2 r3,r2⟩⟩
  | exit id=>obtain ⟨W4,r1,r2,r3⟩:=fin (some (.exit id)) W3 hp.1;exact ⟨_,_,r1,.inr ⟨rfl,.exit id,OwnFrom.turn (hIx _) hp.2 r3,r2⟩⟩
  | goto t=>obtain ⟨W4,r1,r2,r3⟩:=fin (some (.goto t)) W3 hp.1;exact ⟨_,_,r1,.inr ⟨rfl,.goto t,OwnFrom.turn (hIx _) hp.2 r3,r2⟩⟩
  | panic ch=>exact hp.elim
  | outgrown=>exact hp.elim
 ·rintro e W2 ⟨⟨v,rfl⟩,(⟨xs,hS,hi,hk⟩ | ⟨pre,x,c,hi,hk⟩)⟩
  ·have hend:=run_endLoop (P:=P) hk.1 (by rw [hrec];simp)
   obtain ⟨t1,t2,t3⟩:=hk.turned { rec .ready none with state:=.exhausted }
   rw [hrec] at hend t2 t3
   exact ⟨none,_,hend,hdone _ xs _ (Nat.le_refl _) hS (OwnFrom.turn hI hi t3) t2⟩
  ·have hend:=run_endLoop (P:=P) hk.1 (by rw [hrec];simp)
   obtain ⟨t1,t2,t3⟩:=hk.turned { rec .done (some c) with state:=.exhausted }
   rw [hrec] at hend t2 t3
   exact ⟨some c,_,hend,hstop _ c pre x _ (Nat.le_refl _) (OwnFrom.turn (hIx c) hi t3) t2⟩
end
end Go.Proofs.YtigapglmipmbeaaGreatDoor.RP
namespace Go.Proofs.YtigapglmipmbeaaGreatDoor
open Go.RowKit Go.Shelf
open Lim
attribute [local go_sem] Oper.semAt_some
end Go.Proofs.YtigapglmipmbeaaGreatDoor
namespace Go.Proofs.YtigapglmipmbeaaGreatDoor
open Go.RowKit Go.Shelf
open Lim
attribute [local go_sem] Oper.semAt_some
end Go.Proofs.YtigapglmipmbeaaGreatDoor
namespace Go.Proofs.YtigapglmipmbeaaGreatDoor
open Lim
section
variable {p q r s x y:List L2}
end
end Go.Proofs.YtigapglmipmbeaaGreatDoor
namespace Go.Proofs.YtigapglmipmbeaaGreatDoor
open Go.RowKit Go.Shelf
open Lim
attribute [local go_sem] Oper.semAt_some
end Go.Proofs.YtigapglmipmbeaaGreatDoor
namespace Go.Proofs.YtigapglmipmbeaaGreatDoor
open Go.RowKit Go.Shelf
open Lim
attribute [local go_sem] Oper.semAt_some
theorem shr_lo {n:Int} (h:-9223372036854775808≤n) (k:Nat):-9223372036854775808≤n / 2 ^ k:=by
 have hp:(0:Int) < 2 ^ k:=Int.pow_pos (by decide)
 generalize (2:Int) ^ k=c at *
 exact Int.le_ediv_of_mul_le hp (by omega)
theorem shr_hi {n:Int} (h:n≤9223372036854775807) (k:Nat):n / 2 ^ k≤9223372036854775807:=by
 have hp:(0:Int) < 2 ^ k:=Int.pow_pos (by decide)
 generalize (2:Int) ^ k=c at *
 exact Int.ediv_le_of_le_mul hp (by omega)
theorem int_part {k:Int} (h0:0≤k) (h4:k < 4):∃ j:Nat,resN (makeQ (Lib.itoa k) [56])=.tuple #[.string (rT (partQ j)),.int .i64 0]∧(Lib.itoa k).length≤100:=by
 have h:k=0 ∨ k=1 ∨ k=2 ∨ k=3:=by omega
 rcases h with rfl | rfl | rfl | rfl
 ·exact ⟨0,by kernel_rfl,by decide +kernel⟩
 ·exact ⟨1,by kernel_rfl,by decide +kernel⟩
 ·exact ⟨2,by kernel_rfl,by decide +kernel⟩
 ·exact ⟨3,by kernel_rfl,by decide +kernel⟩
theorem cell_four_new (w:World) (x y z t:Value) (T:TypeId):∀ j u,[x,y,z,t][j]?=some u→(w.alloc (.cells #[x,y,z,t] T)).cell? ((⟨w.heap.size,0,none⟩:Addr).add j)=some u:=by
 intro j u hj
 match j,hj with
 | 0,hj =>
  simp at hj
  subst hj
  simp [Addr.add]
 | 1,hj =>
  simp at hj
  subst hj
  simp [Addr.add]
 | 2,hj =>
  simp at hj
  subst hj
  simp [Addr.add]
 | 3,hj =>
  simp at hj
  subst hj
  simp [Addr.add]
theorem lateP_short {ls:List L2} {zs:ZL} (h:Dst 289 ls) (hs:Short ls) (hz:zs.map (·.1)=ls):Short (lateP zs):=fun x hx=>by
 obtain ⟨z,hm,hx⟩:=List.mem_flatMap.1 hx
 obtain ⟨D,d1,d2,hc⟩:=cut_one h
 obtain ⟨_,_,_,_,s1,s2⟩:=hc z.1 (late_mem hz hm) z.2
 have f1:fits (cutV z)=true:=fits_sz.2 (s1.mono (by unfold maxD;omega))
 have f2:fits (valX z.1 - cutV z)=true:=fits_sz.2 (s2.mono (by unfold maxD;omega))
 simp only [List.mem_cons,List.not_mem_nil,or_false] at hx
 rcases hx with rfl | rfl
 ·exact ⟨(hs z.1 (late_mem hz hm)).1,size_ok (err_rT f2)⟩
 ·exact ⟨by show lateKey.size≤_;decide,size_ok (err_rT f1)⟩
theorem rlate_any (ls:List L2) (v:Value) (n:Int) (w:World) (hv:LRow w v ls) (hs:Short ls) (hd:Dst 289 ls) (hl:ls.length≤12) (h0:-9223372036854775808≤n) (h1:n≤9223372036854775807) (hr:Res w) :
  Calls Tryz.prog 73 #[v,.int .i64 n] w fun e w'=>(∃ u zs out,zs.map (·.1)=ls∧makeX (lateP zs)=.ok out∧e=.returned (.tuple #[u,.string (rT (lateS zs))])∧OwnM w.heap.size w' u out∧Short out∧out.length≤1000)∧Below w.heap.size w w':=by
 have HV:=Lib.hid hv
 have HS:=Lib.hid hs
 have HD:=Lib.hid hd
 have HRS:=Lib.hid hr
 have N0:=Lib.hid (NW.refl hr)
 have HNB:=Lib.hid (And.intro h0 h1)
 have HLL:=Lib.hid hl
 obtain ⟨A0,c0,rfl,HLEN,_⟩:=hv
 obtain ⟨i0,hi,hz0,hz1,hz2⟩:=info_parts infoM
 clear hs hd hr h0 h1 hl
 go_enter Tryz.func73,Tryz.ntmps73
 go_wp2
 go_loopw [6,7,8] (fun v6 v7 v8 wr=>∃ (zs:ZL) (A1:Option Addr) (c1:Nat),zs.length≤ls.length∧v6=.slice A1 (zs.length*2) c1∧v7=.string (rT (lateS zs))∧v8=.int .i64 (zs.length:Int)∧Hid (zs.map (·.1)=ls.take zs.length)∧Hid (OwnM w.heap.size wr (.slice A1 (zs.length*2) c1) (lateP zs))∧Hid (NW w wr)) (fun _ _ v8 _=>ls.length - (intOf v8).toNat)
 case atStart=>exact ⟨[],none,0,Nat.zero_le _,rfl,congrArg Value.string IsT.zero.text,rfl,Lib.hid rfl,Lib.hid (OwnM.nil _ _),N0⟩
 case round =>
  clear N0
  obtain ⟨zs,A1,c1,hk,rfl,rfl,rfl,HZ,HO,HN⟩:=hrel
  by_cases hlt:zs.length < ls.length
  ·obtain ⟨x,hx⟩:∃ x,ls[zs.length]?=some x:=⟨_,List.getElem?_eq_getElem hlt⟩
   obtain ⟨b2,o,c',e',hb2,q0,q1⟩:=HV.out.at HN.out.below hx
   simp only [Value.slice.injEq,true_and] at e'
   obtain ⟨rfl,rfl⟩:=e'
   have hlt':(zs.length:Int) < (ls.length:Int):=by omega
   have hl12:(zs.length:Int) < 12:=by have:=HLL.out;omega
   have HLT:=Lib.hid (And.intro hlt hlt')
   have HXC:=Lib.hid hx
   have HXM:=Lib.hid (List.mem_of_getElem? hx)
   clear q0 q1 hx hlt
   have TK1:True:=trivial
   have TK2:True:=trivial
   go_wp2_with ((clear TK1;go_at_call 54;refine (pick_any _ 4 _ (by omega) (shr_lo HNB.out.1 _) (shr_hi HNB.out.2 _) (by omega)).mono ?_;rintro e w2 ⟨k,rfl,k0,k4,rfl⟩))
   obtain ⟨j,hj,hjl⟩:=int_part k0 k4
   have HIN:=Lib.hid (fun W=>refInt_any k W (by omega) (by omega))
   have HMK:=Lib.hid (fun W=>refMake_any ⟨(Lib.itoa k).toArray⟩ ⟨#[56]⟩ W (by show (Lib.itoa k).toArray.size≤_;rw [List.size_toArray];omega) (by decide))
   change Hid (∀ W,Calls _ _ _ _ fun e w'=>e=.returned (resN (makeQ (Lib.itoa k) [56]))∧_) at HMK
   rw [hj] at HMK
   generalize (⟨(Lib.itoa k).toArray⟩:ByteArray)=tk at *
   clear hj hjl k0 k4
   obtain ⟨D,d1,d2,hc⟩:=cut_one HD.out
   obtain ⟨_,_,_,_,s1,s2⟩:=hc x HXM.out j
   have f1:fits (cutV (x,j))=true:=fits_sz.2 (s1.mono (by unfold maxD;omega))
   have f2:fits (valX x - cutV (x,j))=true:=fits_sz.2 (s2.mono (by unfold maxD;omega))
   have f0:=(partQ_facts j).2.2.2
   have ed:=HD.out.okV x HXM.out
   have hz':(zs++[(x,j)]).map (·.1)=ls.take (zs.length+1):=by
    rw [List.map_append,HZ.out,List.take_add_one,HXC.out];rfl
   have g1:=fits_sz.2 ((late_sum HD.out HZ.out).2.2.mono (show 289+1≤maxD by unfold maxD;omega))
   have g2:=fits_sz.2 ((late_sum HD.out hz').2.2.mono (show 289+1≤maxD by unfold maxD;omega))
   have HZ':=Lib.hid hz'
   have HPP:=Lib.hid (lateP_snoc zs (x,j))
   have HSN:=Lib.hid (lateS_snoc zs (x,j))
   dsimp only at HPP
   have e1:mulX x.2 (rT (partQ j))=.ok (rT (cutV (x,j))):=by rw [mulX_val ed (err_rT f0),val_rT f0];exact ovT_fit f1
   have e2:subX x.2 (rT (cutV (x,j)))=.ok (rT (valX x - cutV (x,j))):=by rw [subX_val ed (err_rT f1),val_rT f1];exact ovT_fit f2
   have e3:plX (rT (lateS zs)) (rT (cutV (x,j)))=.ok (rT (lateS (zs++[(x,j)]))):=by rw [plX_val (err_rT g1) (err_rT f1),val_rT g1,val_rT f1,HSN.out];rw [HSN.out] at g2;exact ovT_fit g2
   have HMU:=retRMulX (a:=x.2) (b:=rT (partQ j)) (HS.out x HXM.out).2 (size_ok (err_rT f0))
   have HSB:=retRSubX (a:=x.2) (b:=rT (cutV (x,j))) (HS.out x HXM.out).2 (size_ok (err_rT f1))
   have HPL:=retRPlX (a:=rT (lateS zs)) (b:=rT (cutV (x,j))) (size_ok (err_rT g1)) (size_ok (err_rT f1))
   rw [e1] at HMU
   rw [e2] at HSB
   rw [e3] at HPL
   change Ret _ _ (.tuple #[.string (rT (cutV (x,j))),.int .i64 0]) at HMU
   change Ret _ _ (.tuple #[.string (rT (valX x - cutV (x,j))),.int .i64 0]) at HSB
   change Ret _ _ (.tuple #[.string (rT (lateS (zs++[(x,j)]))),.int .i64 0]) at HPL
   have HMU:=Lib.hid HMU
   have HSB:=Lib.hid HSB
   have HPL:=Lib.hid HPL
   clear d1 d2 hc s1 s2 f1 f2 f0 ed g1 g2 hz' e1 e2 e3 HSN
   obtain ⟨f,d⟩:=x
   dsimp only at HPP HMU HSB HPL HZ'
   generalize rT (partQ j)=tp at *
   generalize rT (cutV ((f,d),j))=tc at *
   generalize rT (valX (f,d) - cutV ((f,d),j))=tr at *
   have HTS:=Lib.hid (show ∃ t,t=rT (lateS (zs++[((f,d),j)])) from ⟨_,rfl⟩)
   obtain ⟨ts,hts⟩:=HTS.out
   rw [← hts] at HPL
   have HTS:=Lib.hid hts
   clear hts
   generalize rT (lateS zs)=t0 at *
   have TK3:True:=trivial
   have TK4:True:=trivial
   have TK5:True:=trivial
   have TK6:True:=trivial
   go_wp2_with ((clear TK2;go_at_call 148;refine (HIN.out _).mono ?_;rintro e w3 ⟨rfl,hb⟩;have N3:=Lib.hid (HN.out.later hb);have HB3:=Lib.hid hb;clear hb))
   go_wp2_with ((clear TK3;go_at_call 147;refine (HMK.out _).mono ?_;rintro e w4 ⟨rfl,hb⟩;have N4:=Lib.hid (N3.out.later hb);have HB4:=Lib.hid (HB3.out.trans (hb.mono HB3.out.size));obtain ⟨_,q0,q1⟩:=HV.out.cell2 N4.out.below HXC.out;dsimp only at q0 q1;clear hb))
   go_wp2_with ((clear TK4;go_at_call 149;refine (HMU.out _ N4.out.res).mono ?_;clear q0 q1;rintro e w5 ⟨rfl,hb⟩;have N5:=Lib.hid (N4.out.later hb);have HB5:=Lib.hid (HB4.out.trans (hb.mono HB4.out.size));obtain ⟨_,q0,q1⟩:=HV.out.cell2 N5.out.below HXC.out;dsimp only at q0 q1;clear hb))
   go_wp2_with ((clear TK5;go_at_call 61;refine (HSB.out _ N5.out.res).mono ?_;clear q0 q1;rintro e w6 ⟨rfl,hb⟩;have N6:=Lib.hid (N5.out.later hb);have HB6:=Lib.hid (HB5.out.trans (hb.mono HB5.out.size));clear hb))
   go_wp2_with (first
    | (clear TK6;go_at_call 59;refine (HPL.out _ N6.out.res).mono ?_;rintro e w7 ⟨rfl,hb⟩;have N7:=Lib.hid (N6.out.later hb);have HB7:=Lib.hid (HB6.out.trans (hb.mono HB6.out.size));obtain ⟨_,q0,q1⟩:=HV.out.cell2 N7.out.below HXC.out;dsimp only at q0 q1;have HA7:=Lib.hid (OwnM.later (OwnM.later HO.out HB7.out) (below_alloc (Below.refl _ _) (.cells #[.string f,.string tr,.string lateKey,.string tc] 30)));have HN7:=Lib.hid (N7.out.alloc (.cells #[.string f,.string tr,.string lateKey,.string tc] 30));clear hb)
    | (at_builtin;refine wpList_append_own _ rfl _ _ 22 rfl w.heap.size 30 i0 (.agg #[.string ByteArray.empty,.string ByteArray.empty]) 2 32 Tryz.underlying22 hi hz0 hz1 hz2 rfl (by decide) _ _ _ rfl HA7.out ⟨w7.heap.size,0,none⟩ 2 2 [.string f,.string tr,.string lateKey,.string tc] rfl rfl (cell_four_new _ _ _ _ _ _) (by intro u hu;simp only [List.mem_cons,List.not_mem_nil,or_false] at hu;rcases hu with rfl | rfl | rfl | rfl <;> rfl) (by rw [lateP_len];have:=HLT.out.1;have:=HLL.out;unfold maxLen;omega) (by rw [lateP_len];have:=HLT.out.1;have:=HLL.out;omega) HN7.out.below.size ?_;intro v' w8 hown8 hgrow8 _;rw [lateP_len] at hown8;obtain ⟨A5,c5,rfl⟩:=slice_shape hown8;have HO8:=Lib.hid (show OwnM w.heap.size w8 (.slice A5 (zs.length*2+2) c5) (lateP (zs++[((f,d),j)])) by unfold OwnM;rw [HPP.out,List.length_append,cellsM_append,lateP_len];exact hown8);have HN8:=Lib.hid (grow_nw HN7.out HRS.out hgrow8 (fun r e=>HA7.out.base e));clear hown8 hgrow8))
   go_roundw
   case rel =>
    have e1:(zs++[((f,d),j)]).length=zs.length+1:=by simp
    exact ⟨zs++[((f,d),j)],A5,c5,by rw [e1];exact HLT.out.1,congrArg (fun n=>Value.slice A5 n c5) (by omega),congrArg Value.string HTS.out,by rw [e1];go_num,Lib.hid (by rw [e1];exact HZ'.out),Lib.hid (by have h:=HO8.out;rwa [show zs.length*2+2=(zs++[((f,d),j)]).length*2 by omega] at h),HN8⟩
   case measure=>have:=HLT.out.1;simp [intOf];omega
  ·have hlt':¬ (zs.length:Int) < (ls.length:Int):=by omega
   have hz:zs.map (·.1)=ls:=by rw [HZ.out];exact List.take_of_length_le (by omega)
   obtain ⟨out,ek,_,_⟩:=late_out HD.out hz (by unfold maxD;omega)
   have hs2:=lateP_short HD.out HS.out hz
   have hl2:(lateP zs).length≤1000:=by rw [lateP_len];have:=HLL.out;omega
   have HMC:=Lib.hid (rdmake_any (lateP zs) _ wr (OwnM.row (ls:=lateP zs) (by have h:=HO.out;exact h) hl2) hs2 HN.out.res)
   have HE:=Lib.hid (And.intro hz (And.intro ek (make_short ek hs2 hl2)))
   rw [ek] at HMC
   change Hid (Calls _ _ _ _ fun e w'=>(∃ u,e=.returned (.tuple #[u,.int .i64 0])∧OwnM _ w' u out)∧_) at HMC
   clear hlt hz ek hs2 hl2
   go_wp2_with ((go_at_call 26;refine (HMC.out).mono ?_;rintro e w8 ⟨⟨u8,rfl,ho⟩,hb⟩;have HO8:=Lib.hid ho;have H3:=Lib.hid (HN.out.later hb);clear hb ho))
   go_wp2
   go_ret2
   exact ⟨⟨_,zs,out,HE.out.1,HE.out.2.1,rfl,owns_base HO8.out HN.out.below.size,HE.out.2.2.1,HE.out.2.2.2⟩,H3.out.below⟩
end Go.Proofs.YtigapglmipmbeaaGreatDoor
namespace Go.Proofs.YtigapglmipmbeaaGreatDoor
open Go.RowKit Go.Shelf
open Lim
attribute [local go_sem] Oper.semAt_some wide_fn
theorem lossLates_any (a b:List L2) (va vb:Value) (f:ByteArray) (m n:Int) (w:World) (ha:LRowW w va a) (hb:LRowW w vb b) (hf:f.size≤maxLen) (hm1:-9223372036854775808≤m) (hm2:m≤9223372036854775807) (hn1:-9223372036854775808≤n) (hn2:n≤9223372036854775807) (hr:Res w) :
  Calls Tryz.prog 10 #[va,vb,.string f,.int .i64 m,.int .i64 n] w fun e w'=>e=.returned (.bool true)∧Below w.heap.size w w':=by
 have N0:=Lib.hid (NW.refl hr)
 have HLV:=Lib.hid (fun (w:World) hr=>llives_any w hr)
 have HMD:=Lib.hid (fun (W:World) (hW:NW w W)=>made9_any [a,b] (.slice (some ⟨W.heap.size,0,none⟩) 2 2) (W.alloc (.cells #[va,vb] 22))
  (LLRow.ofBlk (vs:=[(va,a),(vb,b)]) (Blk.new W 22 #[va,vb]) rfl (by simp) (fun x hx=>by
   have hbw:=below_alloc hW.below (.cells #[va,vb] 22)
   simp only [List.mem_cons,List.not_mem_nil,or_false] at hx
   rcases hx with rfl | rfl
   ·exact ha.below hbw
   ·exact hb.below hbw
  )) (by simp) (hW.alloc _).res rdmake_any)
 obtain ⟨A0,c0,rfl,_,_⟩:=id ha
 obtain ⟨A1,c1,rfl,_,_⟩:=id hb
 clear ha hb hr
 have TK0:True:=trivial
 have TK1:True:=trivial
 cases hm:madeD 12 12 24 [a,b] with
 | none =>
  rw [hm] at HMD
  change Hid (∀ W (_:NW w W),Calls _ _ _ _ fun e w'=>e=.returned (.tuple #[.slice none 0 0,.bool false])∧_) at HMD
  clear hm
  go_enter Tryz.func10,Tryz.ntmps10
  go_wp2_with ((clear TK0;go_at_call 65;refine (HLV.out _ N0.out.res).mono ?_;rintro e w1 ⟨rfl,hb⟩;have N1:=Lib.hid (N0.out.later hb);clear hb))
  go_wp2_with ((clear TK1;go_at_call 66;refine (HMD.out _ N1.out).mono ?_;rintro e w2 ⟨rfl,hb⟩;have N2:=Lib.hid ((N1.out.alloc _).later hb);clear hb))
  go_wp2
  go_ret
  exact ⟨rfl,N2.out.below⟩
 | some outs =>
  obtain ⟨hol,hod⟩:=Made9.of hm
  obtain ⟨l0,l1,rfl⟩:∃ l0 l1,outs=[l0,l1]:=by
   match outs,hol with
   | [x0,x1],_=>exact ⟨x0,x1,rfl⟩
  rw [hm] at HMD
  change Hid (∀ W (_:NW w W),Calls _ _ _ _ fun e w'=>(∃ u,e=.returned (.tuple #[u,.bool true])∧LLRow w' u [l0,l1])∧_) at HMD
  have M0:=hod l0 (by simp)
  have M1:=hod l1 (by simp)
  clear hm hol hod
  have HNF:=Lib.hid (fun (W:World) (_:Res W)=>factor_any f W hf)
  have TK2:True:=trivial
  cases hnf:factorB f with
  | false =>
   rw [hnf] at HNF
   clear hnf M0 M1
   go_enter Tryz.func10,Tryz.ntmps10
   go_wp2_with ((clear TK0;go_at_call 65;refine (HLV.out _ N0.out.res).mono ?_;rintro e w1 ⟨rfl,hb⟩;have N1:=Lib.hid (N0.out.later hb);clear hb))
   go_wp2_with ((clear TK1;go_at_call 66;refine (HMD.out _ N1.out).mono ?_;rintro e w2 ⟨⟨u,rfl,hl⟩,hb⟩;obtain ⟨bb,cc,rfl,hbb,_,hcell⟩:=hl;have HCL:=Lib.hid (And.intro hbb hcell);have N2:=Lib.hid ((N1.out.alloc _).later hb);clear hb hbb hcell))
   obtain ⟨B0,k0,y0,rr⟩:=LLRow.nth (j:=0) (l:=l0) HCL.out.1 HCL.out.2 rfl
   have R0:=Lib.hid rr
   clear rr
   obtain ⟨B1,k1,y1,rr⟩:=LLRow.nth (j:=1) (l:=l1) HCL.out.1 HCL.out.2 rfl
   have R1:=Lib.hid rr
   clear rr
   have RS:=Lib.hid (fun z:LaterW w2=>N2.out.res.below z.h)
   clear HCL
   go_wp2_with ((clear TK2;go_at_call 67;refine (HNF.out _ (RS.out ⟨w2,Below.refl _ _⟩)).mono ?_;rintro e w9 ⟨rfl,hb9⟩;obtain ⟨z0,rfl⟩:=LaterW.step ⟨w2,Below.refl _ _⟩ hb9;clear hb9))
   go_wp2
   go_ret
   exact ⟨rfl,(N2.out.later z0.h).below⟩
  | true =>
   rw [hnf] at HNF
   obtain ⟨F,rfl,F1,sF,fF⟩:=factor_text hnf
   clear hnf
   have F0:0≤F:=Rat.le_trans (by decide) F1
   obtain ⟨Lf,hLf,rfl,rfl⟩:∃ L:Nat→List L2,(∀ i,Made9 (L i))∧L 0=l0∧L 1=l1:=⟨fun i=>match i with | 0=>l0 | _=>l1,fun i=>(match i with | 0=>M0 | _+1=>M1),rfl,rfl⟩
   have hD:=fun i=>(hLf i).dst
   have HLE:=Lib.hid (fun (i:Nat) (u v:Value) (W:World) (hu:LRow W u (Lf i)) (hv:LRow W v (Lf (i+1))) (hr:Res W)=>least9_pair hD F0 F1 sF i u v W hu hv (hLf i).short (hLf (i+1)).short hr)
   have HLA:=Lib.hid (fun (u:Value) (W:World) (hu:LRow W u (Lf 0)) (hr:Res W)=>rlate_any (Lf 0) u m W hu (hLf 0).short (hD 0) (hLf 0).len hm1 hm2 hr)
   have HLB:=Lib.hid (fun (u:Value) (W:World) (hu:LRow W u (Lf 1)) (hr:Res W)=>rlate_any (Lf 1) u n W hu (hLf 1).short (hD 1) (hLf 1).len hn1 hn2 hr)
   have TK5:True:=trivial
   have TK6:True:=trivial
   have TK7:True:=trivial
   have TK8:True:=trivial
   have TK9:True:=trivial
   refine (callsIn_wide (n:=6)).1 ?_
   have h1:1≤6:=by omega
   have hmx:Tryz.prog.follows .mixedOrders=true:=by kernel_rfl
   refine callsIn_of_wp Tryz.func10 rfl trivial ?_ rfl
   simp only [Tryz.ntmps10,List.size_toArray,List.length_cons,List.length_nil,Nat.reduceAdd,Nat.reduceSub,Array.replicate_succ,Array.replicate_zero,List.push_toArray,List.append_toArray,List.nil_append,List.cons_append]
   gi_wp2_with ((clear TK0;gi_at_call 65;refine (callsIn_wide.2 (HLV.out _ N0.out.res)).mono ?_;rintro e w1 ⟨rfl,hb⟩;have N1:=Lib.hid (N0.out.later hb);clear hb))
   gi_wp2_with ((clear TK1;gi_at_call 66;refine (callsIn_wide.2 (HMD.out _ N1.out)).mono ?_;rintro e w2 ⟨⟨u,rfl,hl⟩,hb⟩;obtain ⟨bb,cc,rfl,hbb,_,hcell⟩:=hl;have HCL:=Lib.hid (And.intro hbb hcell);have N2:=Lib.hid ((N1.out.alloc _).later hb);clear hb hbb hcell))
   obtain ⟨B0,k0,y0,rr⟩:=LLRow.nth (j:=0) (l:=Lf 0) HCL.out.1 HCL.out.2 rfl
   have R0:=Lib.hid rr
   clear rr
   obtain ⟨B1,k1,y1,rr⟩:=LLRow.nth (j:=1) (l:=Lf 1) HCL.out.1 HCL.out.2 rfl
   have R1:=Lib.hid rr
   clear rr
   have RS:=Lib.hid (fun z:LaterW w2=>N2.out.res.below z.h)
   have HBB:=Lib.hid HCL.out.1
   clear HCL
   gi_wp2_with ((clear TK2;gi_at_call 67;refine (callsIn_wide.2 (HNF.out _ (RS.out ⟨w2,Below.refl _ _⟩))).mono ?_;rintro e w9 ⟨rfl,hb9⟩;obtain ⟨z0,rfl⟩:=LaterW.step ⟨w2,Below.refl _ _⟩ hb9;clear hb9))
   gi_wp2
   have V0:∀ x:SameAt z0.W (fun k=>k < z0.W.heap.size),x.W.cell? ⟨bb,0,none⟩=some (.slice B0 (Lf 0).length k0):=fun x=>x.cell (Nat.lt_of_lt_of_le HBB.out z0.h.size) (y0 z0)
   have V1:∀ x:SameAt z0.W (fun k=>k < z0.W.heap.size),x.W.cell? ⟨bb,1,none⟩=some (.slice B1 (Lf 1).length k1):=fun x=>x.cell (Nat.lt_of_lt_of_le HBB.out z0.h.size) (y1 z0)
   refine wpIn_stage (IsSame z0.W (fun k=>k < z0.W.heap.size)) [0,1,2,3,4,5,6] [] hmx (by kernel_rfl) (isSame_of fun _ _=>rfl) ?_
   change wpStage _ _ _ _ _ _ _ _ (3+7) _ _ _
   refine stage_reads [0,1,2,3,4,5,6] 3 _ _ (by kernel_rfl) ?_
   change wpQuietIn _ _ _ _ (fun W'=>∃ x:SameAt z0.W (fun k=>k < z0.W.heap.size),W'=x.W) _ _ _
   simp only [pick_cons,pick_nil,List.getElem?_cons_zero,List.getElem?_cons_succ,Option.elim_some]
   repeat (gi_big_quiet_step (fail))
   refine wpQuietIn_nil ?_
   clear V0 V1
   obtain ⟨zd,hzd⟩:=LaterW.step z0 (below_drewM z0.W)
   have HDR:=Lib.hid (below_drewM z0.W)
   rw [hzd] at HDR ⊢
   clear hzd
   refine stage_two 7 8 (by kernel_rfl) rfl rfl ?_ ?_
   gi_wp2_with (gi_at_call 68;refine (callsIn_wide.2 (HLE.out 0 _ _ _ ((R0.out _).row (Nat.le_trans (hLf 0).len (by omega))) ((R1.out _).row (Nat.le_trans (hLf 1).len (by omega))) (RS.out zd))).mono ?_;rintro e w9 ⟨rfl,hb9⟩;have HS:=Lib.hid (HDR.out.trans (hb9.mono HDR.out.size));clear hb9)
   refine stage_post (isSame_below HS.out (fun k hk=>hk)) ?_
   refine stage_one 8 (by kernel_rfl) rfl ?_
   gi_wp2
   have HB2:=below_alloc HS.out (.cells #[.string ⟨#[]⟩,.string ⟨#[]⟩] 63)
   refine stage_post (isSame_below HB2 (fun k hk=>hk)) ?_
   have KB:=Lib.hid (Blk.new w9 63 #[.string ⟨#[]⟩,.string ⟨#[]⟩])
   have hlo:z0.W.heap.size≤w9.heap.size:=HS.out.size
   obtain ⟨p0,p1⟩:=cells2 KB.out
   have f0:=KB.out.frozen 0
   have f1:=KB.out.frozen 1
   refine stage_one 9 (by kernel_rfl) rfl ?_
   gi_wp2
   have KQ:=Blk.new w9 63 #[.string (rT F),.string (rT (nearQ Lf F 0))]
   have BW:=below_alloc HS.out (.cells #[.string (rT F),.string (rT (nearQ Lf F 0))] 63)
   refine stage_post (isSame_below BW (fun k hk=>hk)) ?_
   refine stage_done (by kernel_rfl) ?_
   obtain ⟨z5,hz5⟩:=LaterW.step z0 BW
   have hb5:=Nat.le_trans z0.h.size hlo
   rw [hz5] at KQ ⊢
   have KC:=Lib.hid KQ
   clear p0 p1 f0 f1 KB BW hz5 hlo KQ
   generalize w9.heap.size=bx at *
   rotate_left
   gi_wp2
   have HB2:=below_alloc HDR.out (.cells #[.string ⟨#[]⟩,.string ⟨#[]⟩] 63)
   refine stage_post (isSame_below HB2 (fun k hk=>hk)) ?_
   have KA:=Blk.new zd.W 63 #[.string ⟨#[]⟩,.string ⟨#[]⟩]
   obtain ⟨ze,hze⟩:=LaterW.step zd (below_alloc (Below.refl zd.W.heap.size zd.W) (.cells #[.string ⟨#[]⟩,.string ⟨#[]⟩] 63))
   refine stage_one 7 (by kernel_rfl) rfl ?_
   rw [hze] at HB2 KA ⊢
   have hlo:z0.W.heap.size≤zd.W.heap.size:=HDR.out.size
   have KA:=Lib.hid KA
   have HB2:=Lib.hid HB2
   clear hze
   gi_wp2_with (gi_at_call 68;refine (callsIn_wide.2 (HLE.out 0 _ _ _ ((R0.out _).row (Nat.le_trans (hLf 0).len (by omega))) ((R1.out _).row (Nat.le_trans (hLf 1).len (by omega))) (RS.out ze))).mono ?_;rintro e w9 ⟨rfl,hb9⟩;have HS:=Lib.hid (HB2.out.trans (hb9.mono HB2.out.size));have KB:=Lib.hid (KA.out.below hb9 KA.out.lt);clear hb9)
   refine stage_post (isSame_below HS.out (fun k hk=>hk)) ?_
   obtain ⟨p0,p1⟩:=cells2 KB.out
   have f0:=KB.out.frozen 0
   have f1:=KB.out.frozen 1
   refine stage_one 9 (by kernel_rfl) rfl ?_
   gi_wp2
   have KQ:=(KB.out.set_ 0 (.string (rT F))).set_ 1 (.string (rT (nearQ Lf F 0)))
   have BW:=(HS.out.setCell (p:=⟨zd.W.heap.size,0,none⟩) hlo (.string (rT F))).setCell (p:=⟨zd.W.heap.size,1,none⟩) hlo (.string (rT (nearQ Lf F 0)))
   refine stage_post (isSame_below BW (fun k hk=>hk)) ?_
   refine stage_done (by kernel_rfl) ?_
   obtain ⟨z5,hz5⟩:=LaterW.step z0 BW
   have hb5:=Nat.le_trans z0.h.size hlo
   rw [hz5] at KQ ⊢
   have KC:=Lib.hid KQ
   clear p0 p1 f0 f1 KB BW hz5 hlo KQ
   generalize zd.W.heap.size=bx at *
   rotate_left
   all_goals
    gi_wp2_with (clear TK5;gi_at_call 73;refine (callsIn_wide.2 (HLA.out _ _ ((R0.out _).row (Nat.le_trans (hLf 0).len (by omega))) (RS.out z5))).mono ?_;rintro e w9 ⟨⟨u6,zp,xo,ep,kp,rfl,ho6,sx,lx⟩,hb9⟩;obtain ⟨A6,c6,rfl⟩:=ho6.slice;have HO6:=Lib.hid ho6;have KC:=Lib.hid (KC.out.below hb9 KC.out.lt);obtain ⟨z6,rfl⟩:=LaterW.step z5 hb9;clear hb9 ho6)
    gi_wp2_with (clear TK6;gi_at_call 73;refine (callsIn_wide.2 (HLB.out _ _ ((R1.out _).row (Nat.le_trans (hLf 1).len (by omega))) (RS.out z6))).mono ?_;rintro e w9 ⟨⟨u7,zq,yo,eq,kq,rfl,ho7,sy,ly⟩,hb9⟩;obtain ⟨A7,c7,rfl⟩:=ho7.slice;have HO7:=Lib.hid ho7;have HO6:=Lib.hid (OwnM.later HO6.out hb9);have KC:=Lib.hid (KC.out.below hb9 KC.out.lt);obtain ⟨z7,rfl⟩:=LaterW.step z6 hb9;clear hb9 ho7)
    have HALL:=late_all (hD 0) (hD 1) F1 sF ep eq kp kq
    dsimp only at HALL
    obtain ⟨r1,r2,fd,fu,fm,fp,fq,hfit⟩:=HALL
    have HMX:=Lib.hid (fun W=>rmaxT W (isT_rT fp) (isT_rT fq))
    have HLT:=Lib.hid (fun (W:World) (hr:Res W)=>lossLate_any (rT F) _ _ W (size_ok (err_rT fF)) (size_ok (err_rT fd)) (size_ok (err_rT fu)) hr hfit)
    rw [r1] at HLT
    change Hid (∀ (W:World) (_:Res W),Calls _ _ #[.agg #[.string (rT F),.string (rT (nearQ Lf F 0))],_] _ fun e w'=>e=.returned (.tuple #[.agg #[.string (rT F),.string (rT (minQ (nearQ Lf F 0+(F+1)*maxQ (lateS zp) (lateS zq)) 1))],.int .i64 0])∧_) at HLT
    have HHL:=Lib.hid (fun u v (W:World) (hu:LRow W u xo) (hv:LRow W v yo) (hr:Res W)=>holds9_any _ _ xo yo u v true W hu hv sx sy (size_ok (err_rT fF)) (size_ok (err_rT fm)) hr r2)
    change Hid (∀ u v (W:World) (_:LRow W u xo) (_:LRow W v yo) (_:Res W),Calls _ _ #[.agg #[.string (rT F),.string (rT (minQ (nearQ Lf F 0+(F+1)*maxQ (lateS zp) (lateS zq)) 1))],_,_,_] _ _) at HHL
    have X6:=Lib.hid (fun W hb=>(OwnM.later (w':=W) HO6.out hb).row lx)
    have X7:=Lib.hid (fun W hb=>(OwnM.later (w':=W) HO7.out hb).row ly)
    generalize rT (minQ (nearQ Lf F 0+(F+1)*maxQ (lateS zp) (lateS zq)) 1)=tm at *
    generalize rT (nearQ Lf F 0)=td at *
    generalize rT (maxQ (lateS zp) (lateS zq))=tu at *
    generalize rT (lateS zp)=tp at *
    generalize rT (lateS zq)=tq at *
    generalize rT F=tF at *
    clear r1 r2 fd fu fm fp fq hfit HO6 HO7 ep eq kp kq
    gi_wp2_with (clear TK7;gi_at_call 57;refine (callsIn_wide.2 (HMX.out _)).mono ?_;rintro e w9 ⟨rfl,hb9⟩;have B8:=Lib.hid hb9;have KC:=Lib.hid (KC.out.below hb9 KC.out.lt);obtain ⟨z8,hz8⟩:=LaterW.step z7 hb9;obtain ⟨p0,p1⟩:=cells2 KC.out;rw [hz8] at B8 KC p0 p1 ⊢;clear hb9 hz8)
    gi_wp2_with (clear TK8;gi_at_call 74;refine (callsIn_wide.2 (HLT.out _ (RS.out z8))).mono ?_;clear p0 p1;rintro e w9 ⟨rfl,hb9⟩;have B9:=Lib.hid (B8.out.trans (hb9.mono B8.out.size));obtain ⟨z9,rfl⟩:=LaterW.step z8 hb9;have K9:=Blk.new z9.W 63 #[.string tF,.string tm];have ha9:=below_alloc (Below.refl z9.W.heap.size z9.W) (.cells #[.string tF,.string tm] 63);have B9:=Lib.hid (B9.out.trans (ha9.mono B9.out.size));obtain ⟨p0,p1⟩:=cells2 K9;clear hb9)
    obtain ⟨zA,hzA⟩:=LaterW.step z9 ha9
    gi_wp2_with (clear TK9;gi_at_call 70;refine (callsIn_wide.2 (HHL.out _ _ _ (X6.out _ B9.out) (X7.out _ B9.out) (by rw [hzA];exact RS.out zA))).mono ?_;rintro e wB ⟨rfl,hbB⟩)
    refine bodyPost_ret (results_tmp rfl _ _ _) rfl ?_
    rw [hzA] at hbB
    obtain ⟨zB,rfl⟩:=LaterW.step zA hbB
    exact ⟨rfl,(N2.out.later zB.h).below⟩
end Go.Proofs.YtigapglmipmbeaaGreatDoor
namespace Go.Proofs.YtigapglmipmbeaaGreatDoor
open Go.ChangeShapes Go.WideShapes Go.ChangeAt Go.RowKit
section
variable {H:Type} {enc:TypeId × Value→H}
end
end Go.Proofs.YtigapglmipmbeaaGreatDoor
namespace Go.Proofs.YtigapglmipmbeaaGreatDoor
open Go.RowKit
structure Kind (α:Type) where
 ty:TypeId
 k:Nat
 is:(C:TypeId→Nat→Prop)→World→List Value→α→Prop
 inner:List TypeId
 len:∀ {C w l x},is C w l x→l.length=k
 keep:∀ {C C':TypeId→Nat→Prop} {w w':World} {l x},is C w l x→(∀ E b,E∈inner→b < w.heap.size→C E b→C' E b∧w'.heap[b]?=w.heap[b]?)→is C' w' l x
def SRow {α:Type} (K:Kind α) (C:TypeId→Nat→Prop) (w:World) (v:Value) (xs:List α):Prop :=
 ∃ A c,v=.slice A xs.length c∧xs.length≤c∧c≤maxLen∧(0 < xs.length→∃ b o,A=some ⟨b,o,none⟩∧C K.ty b∧b < w.heap.size ∧
  ∀ (j:Nat) (x:α),xs[j]?=some x→∃ l,K.is C w l x∧∀ (i:Nat) (u:Value),l[i]?=some u→w.cell? ⟨b,o+j*K.k+i,none⟩=some u)
section
variable {α:Type} {K:Kind α} {C C':TypeId→Nat→Prop} {w w':World} {v:Value} {xs:List α}
theorem SRow.keep (h:SRow K C w v xs) (hk:∀ E b,E∈K.ty::K.inner→b < w.heap.size→C E b→C' E b∧w'.heap[b]?=w.heap[b]?):SRow K C' w' v xs:=by
 obtain ⟨A,c,e,h1,h2,h3⟩:=h
 refine ⟨A,c,e,h1,h2,fun h0=>?_⟩
 obtain ⟨b,o,eA,hC,hb,hx⟩:=h3 h0
 obtain ⟨hC',hs⟩:=hk K.ty b (by simp) hb hC
 have hb':b < w'.heap.size:=by
  have:w'.heap[b]?=some w.heap[b]:=hs.trans (Array.getElem?_eq_getElem hb)
  exact (Array.getElem?_eq_some_iff.1 this).1
 refine ⟨b,o,eA,hC',hb',fun j x hj=>?_⟩
 obtain ⟨l,hl,hc⟩:=hx j x hj
 exact ⟨l,K.keep hl fun E b hE=>hk E b (List.mem_cons_of_mem _ hE),fun i u hi=>(World.cell?_of_block hs).trans (hc i u hi)⟩
theorem SRow.nil (K:Kind α) (C:TypeId→Nat→Prop) (w:World):SRow K C w (.slice none 0 0) []:=⟨none,0,rfl,Nat.le_refl _,Nat.zero_le _,fun h=>absurd h (by simp)⟩
theorem SRow.take {A:Option Addr} {c:Nat} (h:SRow K C w (.slice A xs.length c) xs) {n:Nat} (hn:n≤xs.length):SRow K C w (.slice A n c) (xs.take n):=by
 obtain ⟨A',c',e,h1,h2,h3⟩:=h
 simp only [Value.slice.injEq,true_and] at e
 obtain ⟨rfl,rfl⟩:=e
 have hl:(xs.take n).length=n:=by simp;omega
 refine ⟨A,c,by rw [hl],by omega,h2,fun h0=>?_⟩
 obtain ⟨b,o,eA,hC,hb,hx⟩:=h3 (by omega)
 refine ⟨b,o,eA,hC,hb,fun j x hj=>hx j x ?_⟩
 rw [List.getElem?_take] at hj
 split at hj
 ·exact hj
 ·cases hj
end
def Own (base:Nat) (w:World) (E:TypeId) (b:Nat):Prop:=base≤b∧∃ cur,w.heap[b]?=some (.cells cur E (0,0))
def Any (_:TypeId) (_:Nat):Prop:=True
section
variable {α:Type} {K:Kind α} {base:Nat} {w w':World} {v v':Value} {xs:List α}
theorem own_keep {base:Nat} {w w':World} {row:Option Nat} (hg:w.grownBy w' row) {E:TypeId} {b:Nat} (hE:∀ r,row=some r→∀ cur,w.heap[r]?≠some (.cells cur E (0,0))) (h:Own base w E b):Own base w' E b∧w'.heap[b]?=w.heap[b]?:=by
 obtain ⟨hb,cur,hc⟩:=h
 have hs:w'.heap[b]?=w.heap[b]?:=hg.block b (Array.getElem?_eq_some_iff.1 hc).1 fun e=>hE b e.symm cur hc
 exact ⟨⟨hb,cur,hs.trans hc⟩,hs⟩
end
open Go.ChangeShapes
section
variable {H:Type} {enc:TypeId × Value→H} {w:World} {base:Nat} {sp:Nat→Bool} {held:Bool} {fuel:Nat}
theorem open_kind {α:Type} {K:Kind α} {T:TypeId} (hu:Tryz.prog.underlying T=some (.slice K.ty)) (hk:Tryz.prog.cellsOf K.ty=K.k) (hk0:0 < K.k)
  (hel:∀ n cs y,DataW.trod enc Tryz.prog w base sp held n K.ty cs=some y→∃ x,K.is Any w cs x) {cs:List Value} {y:DataW H × List MemPlace} (h:DataW.trod enc Tryz.prog w base sp held fuel T cs=some y) :
  ∃ v xs,cs=[v]∧SRow K Any w v xs:=by
 rcases Go.Deep.open_slice hu h with ⟨hcs,_⟩ | ⟨a,len,cap,m,n,D,Pl,hcs,_,hl,hm,hmm,_,hx⟩
 ·exact ⟨_,[],hcs,SRow.nil K Any w⟩
 ·have hlm:len≤m:=by rw [hmm];split <;> omega
  have each:∀ i,i < len→∃ z:Option α × List Value,∃ x,z.1=some x∧K.is Any w z.2 x∧∀ j,j < K.k→w.cell? (a.add (i*K.k+j))=z.2[j]?:=by
   intro i hi
   obtain ⟨cs',h1,h2⟩:=hx i (by omega)
   rw [hk] at h1
   obtain ⟨_,hlen,hcell⟩:=World.cells?_some h1
   obtain ⟨x,hi'⟩:=hel _ _ _ h2
   exact ⟨(some x,cs'),x,rfl,hi',fun j hj=>by rw [← Go.Deep.add_add];exact hcell j hj⟩
  obtain ⟨f,hf⟩:=Go.Deep.choose_lt each
  by_cases h0:0 < len
  case neg =>
   obtain rfl:len=0:=by omega
   exact ⟨_,[],hcs,some a,cap,rfl,Nat.zero_le _,hm,fun h=>absurd h (by simp)⟩
  have hne:∃ g:Nat→α,∀ i,i < len→(f i).1=some (g i):=by
   obtain ⟨x0,e0,_⟩:=hf 0 h0
   refine ⟨fun i=>(f i).1.getD x0,fun i hi=>?_⟩
   obtain ⟨x,e,_⟩:=hf i hi
   simp [e]
  obtain ⟨g,hg⟩:=hne
  refine ⟨_,(List.range len).map g,hcs,some a,cap,by simp,by simpa using hl,hm,fun _=>?_⟩
  have hcl:∀ i,i < len→∀ j u,(f i).2[j]?=some u→w.cell? (a.add (i*K.k+j))=some u:=fun i hi j u hu=>by
   obtain ⟨x,e,hi',hc⟩:=hf i hi
   have:=K.len hi'
   have hj:j < K.k:=by have:=(List.getElem?_eq_some_iff.1 hu).1;omega
   rw [hc j hj,hu]
  obtain ⟨b,o,spot⟩:=a
  have h00:∃ u,(f 0).2[0]?=some u:=by
   obtain ⟨x,e,hi',hc⟩:=hf 0 h0
   have:=K.len hi'
   exact ⟨_,List.getElem?_eq_getElem (by omega)⟩
  obtain ⟨u0,hu0⟩:=h00
  have hc0:=hcl 0 h0 0 u0 hu0
  have hspot:spot=none:=by simpa [Addr.add] using World.cell?_spot hc0
  subst hspot
  have hlt:=World.block_lt_of_cell? w _ hc0
  refine ⟨b,o,rfl,trivial,by simpa [Addr.add] using hlt,fun j x hj=>?_⟩
  have hjl:j < len:=by have:=(List.getElem?_eq_some_iff.1 hj).1;simpa using this
  obtain ⟨x',e,hi',_⟩:=hf j hjl
  have ex:x=x':=by
   rw [List.getElem?_map,List.getElem?_range hjl] at hj
   simp only [Option.map_some,Option.some.injEq] at hj
   have:=hg j hjl
   rw [e] at this
   simp only [Option.some.injEq] at this
   rw [← hj,← this]
  subst ex
  refine ⟨(f j).2,hi',fun i u hu=>?_⟩
  have:=hcl j hjl i u hu
  unfold Addr.add at this
  split at this
  ·simp_all
  ·rw [show o+j*K.k+i=o+(j*K.k+i) by omega]
   exact this
end
end Go.Proofs.YtigapglmipmbeaaGreatDoor
namespace Go.Proofs.YtigapglmipmbeaaGreatDoor
open Go.RowKit Go.ChangeShapes Go.WideShapes Go.ChangeAt
def pairK (t:TypeId):Kind L2 where
 ty:=t
 k:=2
 is:=fun _ _ l x=>l=[.string x.1,.string x.2]∧x.1.size≤maxLen∧x.2.size≤maxLen
 inner:=[]
 len:=fun h=>by rw [h.1];rfl
 keep:=fun h _=>h
theorem cellsMass:Tryz.prog.cellsOf 30=2:=by kernel_rfl
theorem cellsNumD:Tryz.prog.cellsOf 23=1:=by kernel_rfl
theorem cellsStrD:Tryz.prog.cellsOf 9=1:=by kernel_rfl
theorem laidOutD:laidOutB Tryz.prog=true:=by kernel_rfl
section
variable {H:Type} {enc:TypeId × Value→H} {w:World} {base:Nat} {sp:Nat→Bool} {held:Bool} {fuel:Nat}
theorem open_mass1 (n:Nat) (cs:List Value) (y:DataW H × List MemPlace) (h:DataW.trod enc Tryz.prog w base sp held n 30 cs=some y):∃ x,(pairK 30).is Any w cs x:=by
 obtain ⟨y0,y1,n',_,hl,g0,g1⟩:=trod_struct2 Tryz.underlying30 h
 rw [cellsMass] at hl
 match cs,hl with
 | [c0,c1],_ =>
  simp [cellsStrD,cellsNumD] at g0 g1
  obtain ⟨a,e0,_,z0⟩:=DataW.trod_string Tryz.underlying9 g0
  obtain ⟨b,e1,_,z1⟩:=DataW.trod_string Tryz.underlying23 g1
  simp only [List.cons.injEq,and_true] at e0 e1
  subst e0 e1
  exact ⟨(a,b),rfl,z0,z1⟩
theorem row_of_kind {t:TypeId} {v:Value} {ls:List L2} (h:SRow (pairK t) Any w v ls):LRowW w v ls∧∀ x∈ls,x.1.size≤maxLen∧x.2.size≤maxLen:=by
 obtain ⟨A,c,e,h1,h2,h3⟩:=h
 refine ⟨⟨A,c,e,by omega,fun h0=>?_⟩,fun x hx=>?_⟩
 ·obtain ⟨b,o,eA,_,hb,hx⟩:=h3 h0
  refine ⟨b,o,eA,hb,fun j x hj=>?_⟩
  obtain ⟨l,⟨hl,_⟩,hc⟩:=hx j x hj
  subst hl
  exact ⟨hc 0 _ rfl,hc 1 _ rfl⟩
 ·obtain ⟨j,hj⟩:=List.getElem?_of_mem hx
  obtain ⟨b,o,_,_,_,hx⟩:=h3 (by have:=(List.getElem?_eq_some_iff.1 hj).1;omega)
  obtain ⟨l,⟨_,hs⟩,_⟩:=hx j x hj
  exact hs
theorem open_masses {a0:Option Addr} {len0 cap0:Nat} {d:DataW H} {p:List MemPlace} (h:DataW.Trod enc Tryz.prog w base sp held 22 (.slice a0 len0 cap0) d p) :
  ∃ ls,LRowW w (.slice a0 len0 cap0) ls∧∀ x∈ls,x.1.size≤maxLen∧x.2.size≤maxLen:=by
 obtain ⟨f,hf⟩:=h
 obtain ⟨v',ls,e,hr⟩:=open_kind (K:=pairK 30) Tryz.underlying22 cellsMass (by decide) open_mass1 hf
 simp [Value.cells] at e
 subst e
 exact ⟨ls,row_of_kind hr⟩
theorem trod_below {v:Value} {t:TypeId} {d:DataW H} {p:List MemPlace} (h:DataW.Trod enc Tryz.prog w base sp held t v d p):∀ x∈p,x.block < w.heap.size:=by
 obtain ⟨m,hm⟩:=h
 exact DataW.trod_lt m _ _ _ hm
end
end Go.Proofs.YtigapglmipmbeaaGreatDoor
namespace Go.Proofs.YtigapglmipmbeaaGreatDoor
open Go
theorem enters {P : Program} {rest : List (List Char)} (h : behindMainWord (wordsSigns P.initOrder.toList) = "cut".toList :: rest) (h1 : P.laysLater = false) (h2 : P.bearsReflect = false) (h3 : P.doorFits [] = true) : P.mayEnter = true := by
 have e : stripLifts liftWords ("cut".toList :: rest) = ([], "cut".toList :: rest) := by kernel_rfl
 unfold Program.mayEnter
 rw [h]
 dsimp only
 rw [e]
 simp [h1,h2,h3]
theorem cons_of_head {α:Type} {l:List α} {x:α} (h:l.head?=some x):l=x::l.tail:=by
 cases l with
 | nil=>cases h
 | cons y t=>cases h;rfl
theorem doorFitsF:Tryz.prog.doorFits []=true:=by kernel_rfl
theorem headWordF : (behindMainWord (wordsSigns Tryz.prog.initOrder.toList)).head? = some "cut".toList := by kernel_rfl
theorem laysLaterF:Tryz.prog.laysLater=false:=by kernel_rfl
theorem bearsReflectF:Tryz.prog.bearsReflect=false:=by kernel_rfl
theorem mayEnterF:Tryz.prog.mayEnter=true:=enters (cons_of_head headWordF) laysLaterF bearsReflectF doorFitsF
theorem mainIsF : Tryz.prog.mainIs = some (true, "5395951699d0e7c088c16c506ed30de6925104505e2026abbc93d9abbfe2aced".toList) := by kernel_rfl
theorem looksF:true=Tryz.prog.looks []:=by kernel_rfl
end Go.Proofs.YtigapglmipmbeaaGreatDoor
