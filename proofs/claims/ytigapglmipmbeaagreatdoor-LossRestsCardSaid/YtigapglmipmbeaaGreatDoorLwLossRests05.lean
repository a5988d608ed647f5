/- Alpha, Beta and Half with their errors, the program's and the reference's (printed by mkrests.py). dist: Check, checked. Masses in a slice of the call's own. Owned slices beside each other: what an append to one leaves of the other. Inserting at a place: what the reference's collect does. No program in sight. What Make, Mix, Push and Product give, as rationals. No program in sight. Distributions with a common denominator of few digits: Make, Mix, Push and Product keep them. No program in sight. Lists of masses in memory: literal blocks, lists of lists; how large lists are. What a law makes of its lists. No program in sight. law 08: light (printed by mkdlight.py). The map that Make fills, and the list that it stands for. The library's contracts of maps.Keys, slices.Sorted and slices.Sort laid at this program, by the kit's tool lay-plain. slices.Sorted(maps.Keys(m)) at this program, as plain calls. dist: find and At, by the library's searches. dist: find, At, within. dist: Delta, Distance, Factor, Moment (printed by mkmeas.py). dist: Make. -/
import Derived.Test.YtigapglmipmbeaaGreatDoorLwLossRests01
import Derived.Test.YtigapglmipmbeaaGreatDoorLwLossRests04
import Derived.Test.YtigapglmipmbeaaGreatDoorRb10
import Derived.Maps.AppendAt
import Derived.ProofKit
import Derived.Maps.OwnSet
import Derived.Maps.StringElems
import Derived.Sort.KeysCollected
import Derived.Shelf.SlIter.Nil
import Derived.Shelf.SortM.Plain
import Derived.Shelf.SortM.SortNone
import Derived.Ground.GgzProg
import Derived.Ground.SlgmProg
import Derived.Test.YtigapglmipmbeaaGreatDoorProg
set_option maxRecDepth 100000
set_option maxHeartbeats 16000000
namespace Go.Proofs.YtigapglmipmbeaaGreatDoor
open Go.RowKit Go.Shelf
open Lim
attribute [local go_sem] Oper.semAt_some
theorem errF_cases (s:Int) (f:ByteArray):(errQ f.data.toList≠0∧errF s f=errQ f.data.toList)∨(errQ f.data.toList=0∧(cmpQ (valQ f.data.toList) 1≤0∨s < 1∨s > 1000000)∧errF s f=2) ∨
  (errQ f.data.toList=0∧1 < valQ f.data.toList∧1≤s∧s≤1000000∧errF s f=0):=by
 unfold errF
 by_cases h:errQ f.data.toList=0
 ·rw [if_neg (by omega)]
  by_cases h2:cmpQ (valQ f.data.toList) 1≤0∨s < 1∨s > 1000000
  ·exact .inr (.inl ⟨h,h2,if_pos h2⟩)
  ·have h3:1 < valQ f.data.toList:=Rat.not_le.1 fun h4=>h2 (.inl ((cmpQ_le _ _).2 h4))
   exact .inr (.inr ⟨h,h3,by omega,by omega,if_neg h2⟩)
 ·rw [if_pos h]
  exact .inl ⟨h,rfl⟩
theorem abh_fit {s:Int} {F:Rat} (hs:1≤s) (hs2:s≤1000000) (sF:Sz 100 F) (F1:1 < F) :
  (fits (s:Rat)=true∧fits ((s:Rat)*F)=true∧fits ((s:Rat)*F+F)=true∧fits ((s:Rat)*F+F+-1)=true∧fits ((s:Rat)*F*((s:Rat)*F+F+-1)⁻¹)=true∧fits F⁻¹=true∧(s:Rat)*F+F+-1≠0) ∧
  (fits ((s:Rat)+(s:Rat))=true∧fits (((s:Rat)+(s:Rat))*F)=true∧fits (F+-1)=true∧fits ((F+-1)*(((s:Rat)+(s:Rat))*F)⁻¹)=true∧fits (1+(F+-1)*(((s:Rat)+(s:Rat))*F)⁻¹)=true∧((s:Rat)+(s:Rat))*F≠0) ∧
  (fits (2*F)=true∧fits (F+1)=true∧fits (2*F*(F+1)⁻¹)=true∧F+1≠0):=by
 have ss:Sz 7 (s:Rat):=sz_ofInt (by decide) (by omega)
 have fitS:∀ {j:Nat} {q:Rat},Sz j q→j≤4000→fits q=true:=fun {j q} h hj=>fits_sz.2 (h.mono hj)
 have hs1:(1:Rat)≤(s:Rat):=by exact_mod_cast hs
 have a1:=ss.mul sF
 have a2:=a1.add sF
 have a3:=a2.sub Sz.one
 rw [Rat.sub_eq_add_neg] at a3
 have a4:=a1.mul a3.inv
 have b1:=ss.add ss
 have b2:=b1.mul sF
 have b3:=sF.sub Sz.one
 rw [Rat.sub_eq_add_neg] at b3
 have b4:=b3.mul b2.inv
 have b5:=Sz.one.add b4
 have t2:Sz 1 (2:Rat):=⟨by decide +kernel,by decide +kernel⟩
 have c1:=t2.mul sF
 have c2:=sF.add Sz.one
 have c3:=c1.mul c2.inv
 have p1:1 < (s:Rat)*F:=by
  have:=Rat.mul_le_mul_of_nonneg_right hs1 (show (0:Rat)≤F by grind)
  grind
 exact ⟨⟨fitS ss (by omega),fitS a1 (by omega),fitS a2 (by omega),fitS a3 (by omega),fitS a4 (by omega),fitS sF.inv (by omega),by grind⟩,
  ⟨fitS b1 (by omega),fitS b2 (by omega),fitS b3 (by omega),fitS b4 (by omega),fitS b5 (by omega),by grind⟩,
  ⟨fitS c1 (by omega),fitS c2 (by omega),fitS c3 (by omega),by grind⟩⟩
def alphaV (s:Int) (f:ByteArray):Value:=if errF s f≠0 then .tuple #[.string ⟨#[]⟩,.int .i64 (errF s f:Int)] else if s=1 then .tuple #[.string (rT (valQ f.data.toList)⁻¹),.int .i64 0] else .tuple #[.string (rT ((s:Rat)*valQ f.data.toList*((s:Rat)*valQ f.data.toList+valQ f.data.toList+-1)⁻¹)),.int .i64 0]
def betaV (s:Int) (f:ByteArray):Value:=if errF s f≠0 then .tuple #[.string ⟨#[]⟩,.int .i64 (errF s f:Int)] else .tuple #[.string (rT (1+(valQ f.data.toList+-1)*(((s:Rat)+(s:Rat))*valQ f.data.toList)⁻¹)),.int .i64 0]
def halfV (f:ByteArray):Value:=if errF 1 f≠0 then .tuple #[.string ⟨#[]⟩,.int .i64 (errF 1 f:Int)] else .tuple #[.string (rT (2*valQ f.data.toList*(valQ f.data.toList+1)⁻¹)),.int .i64 0]
theorem wrap64_lo (n:Int):-9223372036854775808≤wrap64 n:=by unfold wrap64;omega
theorem wrap64_hi (n:Int):wrap64 n≤9223372036854775807:=by unfold wrap64;omega
theorem IsT_itoa (n:Int) (hf:fits (n:Rat)=true):IsT ⟨(Lib.itoa n).toArray⟩ (n:Rat):=by
 have h:=itoa_text n
 unfold IsT
 exact ⟨by rw [h],fits_sz.1 hf⟩
theorem ne_two:(2:Nat)≠0:=by decide
section
variable {f:ByteArray} (w:World)
theorem lossAlpha_any (s:Int) (hf:f.size≤100) (hr:Res w):Calls Tryz.prog 80 #[.int .i64 s,.string f] w fun e w'=>e=.returned (alphaV s f)∧Below w.heap.size w w':=by
 unfold alphaV
 rcases errF_cases s f with ⟨h1,h2⟩|⟨h1,h2,h3⟩|⟨h1,h2,h3,h4,h5⟩
 ·rw [h2,if_pos h1]
  exact alpha_door f _ _ s w hr (fun w' _ hr' _=>samp_err f s _ w' (by omega) h1 hr')
 ·rw [h3,if_pos ne_two]
  exact lossAlpha_rng w (IsT.of h1) h2 hr
 ·have sF:=sz_of_text h1 (k:=100) (by rw [← size_list];exact hf)
  obtain ⟨⟨k0,k1,k2,k3,k4,k5,k6⟩,_,_⟩:=abh_fit h3 h4 sF h2
  rw [h5,if_neg (by decide)]
  by_cases hs:s=1
  ·subst hs
   rw [if_pos rfl]
   exact lossAlpha_one w (IsT.of h1) h2 k5 hr
  ·rw [if_neg hs]
   exact lossAlpha_more w (by omega) h4 (IsT.of h1) h2 k0 k1 k2 k3 k4 k6 hr
theorem lossBeta_any (s:Int) (hf:f.size≤100) (hr:Res w):Calls Tryz.prog 82 #[.int .i64 s,.string f] w fun e w'=>e=.returned (betaV s f)∧Below w.heap.size w w':=by
 unfold betaV
 rcases errF_cases s f with ⟨h1,h2⟩|⟨h1,h2,h3⟩|⟨h1,h2,h3,h4,h5⟩
 ·rw [h2,if_pos h1]
  exact beta_door f _ _ s w hr (fun w' _ hr' _=>samp_err f s _ w' (by omega) h1 hr')
 ·rw [h3,if_pos ne_two]
  exact lossBeta_rng w (IsT.of h1) h2 hr
 ·have sF:=sz_of_text h1 (k:=100) (by rw [← size_list];exact hf)
  obtain ⟨⟨k0,_⟩,⟨k1,k2,k3,k4,k5,k6⟩,_⟩:=abh_fit h3 h4 sF h2
  rw [h5,if_neg (by decide)]
  exact lossBeta_ok w h3 h4 (IsT.of h1) h2 k0 k1 k2 k3 k4 k5 k6 hr
theorem lossHalf_any (hf:f.size≤100) (hr:Res w):Calls Tryz.prog 84 #[.string f] w fun e w'=>e=.returned (halfV f)∧Below w.heap.size w w':=by
 unfold halfV
 rcases errF_cases 1 f with ⟨h1,h2⟩|⟨h1,h2,h3⟩|⟨h1,h2,h3,h4,h5⟩
 ·rw [h2,if_pos h1]
  exact half_door f _ _ w hr (fun w' _ hr' _=>samp_err f 1 _ w' (by omega) h1 hr')
 ·rw [h3,if_pos ne_two]
  exact half_door f _ _ w hr (fun w' _ hr' _=>samp_rng w' _ (IsT.of h1) h2 hr')
 ·have sF:=sz_of_text h1 (k:=100) (by rw [← size_list];exact hf)
  obtain ⟨_,_,k1,k2,k3,_⟩:=abh_fit h3 h4 sF h2
  rw [h5,if_neg (by decide)]
  exact lossHalf_ok w (IsT.of h1) h2 k1 k2 k3 hr
end
theorem rabove_any (s:Int) (f:ByteArray) (w:World) (hf:f.size≤270000) (_hr:Res w) :
  Calls Tryz.prog 175 #[.int .i64 s,.string f] w fun e w'=>e=.returned (.int .i64 (errF s f:Int))∧Below w.heap.size w w':=by
 have HC:=Lib.hid (refCheck_any f w hf)
 have HR:=Lib.hid (rfl:errF s f=errF s f)
 unfold errF at HR ⊢
 have TK0:True:=trivial
 have TK1:True:=trivial
 by_cases h1:errQ f.data.toList=0
 ·rw [if_neg (by omega)]
  have HA:=Lib.hid (fun W=>rat_any W (IsT.of h1) IsT.one)
  rw [h1] at HC
  clear HR
  by_cases h2:cmpQ (valQ f.data.toList) 1≤0
  ·rw [decide_eq_true h2] at HA
   rw [if_pos (.inl h2)]
   clear h1 h2
   go_enter Tryz.func175,Tryz.ntmps175
   go_wp2_with ((clear TK0;go_at_call 219;refine (HC.out).mono ?_;rintro e w1 ⟨rfl,hb⟩;have B1:=Lib.hid hb;clear hb))
   go_wp2_with ((clear TK1;go_at_call 146;refine (HA.out _).mono ?_;rintro e w2 ⟨rfl,hb⟩;have B2:=Lib.hid (B1.out.trans (hb.mono B1.out.size));clear hb))
   go_wp2
   go_ret
   exact ⟨rfl,B2.out⟩
  ·rw [decide_eq_false h2] at HA
   by_cases h3:s < 1
   ·rw [if_pos (.inr (.inl h3))]
    have d3:decide (s < 1)=true:=decide_eq_true h3
    clear h1 h2
    go_enter Tryz.func175,Tryz.ntmps175
    go_wp2_with ((clear TK0;go_at_call 219;refine (HC.out).mono ?_;rintro e w1 ⟨rfl,hb⟩;have B1:=Lib.hid hb;clear hb))
    go_wp2_with ((clear TK1;go_at_call 146;refine (HA.out _).mono ?_;rintro e w2 ⟨rfl,hb⟩;have B2:=Lib.hid (B1.out.trans (hb.mono B1.out.size));clear hb))
    go_wp2
    go_ret
    exact ⟨rfl,B2.out⟩
   ·have d3:decide (s < 1)=false:=decide_eq_false h3
    by_cases h4:1000000 < s
    ·rw [if_pos (.inr (.inr h4))]
     have d4:decide (1000000 < s)=true:=decide_eq_true h4
     clear h1 h2 h3
     go_enter Tryz.func175,Tryz.ntmps175
     go_wp2_with ((clear TK0;go_at_call 219;refine (HC.out).mono ?_;rintro e w1 ⟨rfl,hb⟩;have B1:=Lib.hid hb;clear hb))
     go_wp2_with ((clear TK1;go_at_call 146;refine (HA.out _).mono ?_;rintro e w2 ⟨rfl,hb⟩;have B2:=Lib.hid (B1.out.trans (hb.mono B1.out.size));clear hb))
     go_wp2
     go_ret
     exact ⟨rfl,B2.out⟩
    ·rw [if_neg (by omega)]
     have d4:decide (1000000 < s)=false:=decide_eq_false h4
     clear h1 h2
     go_enter Tryz.func175,Tryz.ntmps175
     go_wp2_with ((clear TK0;go_at_call 219;refine (HC.out).mono ?_;rintro e w1 ⟨rfl,hb⟩;have B1:=Lib.hid hb;clear hb))
     go_wp2_with ((clear TK1;go_at_call 146;refine (HA.out _).mono ?_;rintro e w2 ⟨rfl,hb⟩;have B2:=Lib.hid (B1.out.trans (hb.mono B1.out.size));clear hb))
     go_wp2
     go_ret
     exact ⟨rfl,B2.out⟩
 ·rw [if_pos h1]
  have hz:=ne_zero h1
  have hz2:=ne_zero2 h1
  generalize errQ f.data.toList=n at *
  clear h1 HR
  go_enter Tryz.func175,Tryz.ntmps175
  go_wp2_with ((clear TK0;go_at_call 219;refine (HC.out).mono ?_;rintro e w1 ⟨rfl,hb⟩;have B1:=Lib.hid hb;clear hb))
  go_wp2
  go_ret
  exact ⟨rfl,B1.out⟩
theorem rchain_err (n:Nat) (a b:ByteArray) (op:Int) (w:World) (hn:n≠0) :
  Calls Tryz.prog 176 #[.int .i64 (n:Int),.string a,.string b,.int .u8 op] w fun e w'=>e=.returned (.tuple #[.string ⟨#[]⟩,.int .i64 (n:Int)])∧Below w.heap.size w w':=by
 have hz:=ne_zero hn
 have hz2:=ne_zero2 hn
 clear hn
 go_enter Tryz.func176,Tryz.ntmps176
 go_wp2
 go_ret2
 exact ⟨rfl,Below.refl _ _⟩
theorem rchain_add (a b c:ByteArray) (w:World) (HC:Calls Tryz.prog 59 #[.string a,.string b] w fun e w'=>e=.returned (.tuple #[.string c,.int .i64 0])∧Below w.heap.size w w') :
  Calls Tryz.prog 176 #[.int .i64 0,.string a,.string b,.int .u8 43] w fun e w'=>e=.returned (.tuple #[.string c,.int .i64 0])∧Below w.heap.size w w':=by
 have HC:=Lib.hid HC
 go_enter Tryz.func176,Tryz.ntmps176
 go_wp2_with (go_at_call 59;refine (HC.out).mono ?_;rintro e w1 ⟨rfl,hb⟩;have B1:=Lib.hid hb;clear hb)
 go_ret2
 exact ⟨rfl,B1.out⟩
theorem rchain_sub (a b c:ByteArray) (w:World) (HC:Calls Tryz.prog 61 #[.string a,.string b] w fun e w'=>e=.returned (.tuple #[.string c,.int .i64 0])∧Below w.heap.size w w') :
  Calls Tryz.prog 176 #[.int .i64 0,.string a,.string b,.int .u8 45] w fun e w'=>e=.returned (.tuple #[.string c,.int .i64 0])∧Below w.heap.size w w':=by
 have HC:=Lib.hid HC
 go_enter Tryz.func176,Tryz.ntmps176
 go_wp2_with (go_at_call 61;refine (HC.out).mono ?_;rintro e w1 ⟨rfl,hb⟩;have B1:=Lib.hid hb;clear hb)
 go_ret2
 exact ⟨rfl,B1.out⟩
theorem rchain_mul (a b c:ByteArray) (w:World) (HC:Calls Tryz.prog 149 #[.string a,.string b] w fun e w'=>e=.returned (.tuple #[.string c,.int .i64 0])∧Below w.heap.size w w') :
  Calls Tryz.prog 176 #[.int .i64 0,.string a,.string b,.int .u8 42] w fun e w'=>e=.returned (.tuple #[.string c,.int .i64 0])∧Below w.heap.size w w':=by
 have HC:=Lib.hid HC
 go_enter Tryz.func176,Tryz.ntmps176
 go_wp2_with (go_at_call 149;refine (HC.out).mono ?_;rintro e w1 ⟨rfl,hb⟩;have B1:=Lib.hid hb;clear hb)
 go_ret2
 exact ⟨rfl,B1.out⟩
theorem rchain_div (a b c:ByteArray) (w:World) (HC:Calls Tryz.prog 160 #[.string a,.string b] w fun e w'=>e=.returned (.tuple #[.string c,.int .i64 0])∧Below w.heap.size w w') :
  Calls Tryz.prog 176 #[.int .i64 0,.string a,.string b,.int .u8 47] w fun e w'=>e=.returned (.tuple #[.string c,.int .i64 0])∧Below w.heap.size w w':=by
 have HC:=Lib.hid HC
 go_enter Tryz.func176,Tryz.ntmps176
 go_wp2_with (go_at_call 160;refine (HC.out).mono ?_;rintro e w1 ⟨rfl,hb⟩;have B1:=Lib.hid hb;clear hb)
 go_ret2
 exact ⟨rfl,B1.out⟩
theorem rsubT' {a b c:ByteArray} {p q:Rat} (ha:IsT a p) (hb:IsT b q) (hc:IsT c (p+-q)) (w:World) (hr:Res w) :
  Calls Tryz.prog 61 #[.string a,.string b] w fun e w'=>e=.returned (.tuple #[.string c,.int .i64 0])∧Below w.heap.size w w':=by
 have h:=retRSubX (a:=a) (b:=b) ha.size hb.size w hr
 rw [subX_val ha.err hb.err,ha.val,hb.val,Rat.sub_eq_add_neg,ovT_fit hc.fits,← hc.text] at h
 exact h
theorem ralpha_any (s:Int) (f:ByteArray) (w:World) (hs0:-9223372036854775808≤s) (hs1:s≤9223372036854775807) (hf:f.size≤100) (hr:Res w) :
  Calls Tryz.prog 81 #[.int .i64 s,.string f] w fun e w'=>e=.returned (alphaV s f)∧Below w.heap.size w w':=by
 have HR:=Lib.hid hr
 have HAB:=Lib.hid (rabove_any s f w (by omega) hr)
 rcases errF_cases s f with ⟨h1,h2⟩|⟨h1,h2,h3⟩|⟨h1,h2,h3,h4,h5⟩
 ·unfold alphaV
  rw [h2] at HAB ⊢
  rw [if_pos h1]
  have hz:=ne_zero h1
  have hz2:=ne_zero2 h1
  have HN:=Lib.hid h1
  generalize errQ f.data.toList=n at *
  clear h1 h2 hr
  by_cases hs:s=1
  ·subst hs
   have TK0:True:=trivial
   have TK1:True:=trivial
   go_enter Tryz.func81,Tryz.ntmps81
   go_wp2_with ((clear TK0;go_at_call 175;refine (HAB.out).mono ?_;rintro e w1 ⟨rfl,hb⟩;have B1:=Lib.hid hb;have R1:=Lib.hid (HR.out.below B1.out);clear hb))
   go_wp2_with ((clear TK1;go_at_call 176;refine (rchain_err _ _ _ _ _ HN.out).mono ?_;rintro e w2 ⟨rfl,hb⟩;have B2:=Lib.hid (B1.out.trans (hb.mono B1.out.size));have R2:=Lib.hid (HR.out.below B2.out);clear hb))
   go_wp2
   go_ret2
   exact ⟨rfl,B2.out⟩
  ·have hse:decide (s=1)=false:=decide_eq_false hs
   have hsb:(s==1)=false:=by rw [beq_eq_false_iff_ne];exact hs
   have TK0:True:=trivial
   have TK1:True:=trivial
   have TK2:True:=trivial
   have TK3:True:=trivial
   have TK4:True:=trivial
   have TK5:True:=trivial
   go_enter Tryz.func81,Tryz.ntmps81
   go_wp2_with ((clear TK0;go_at_call 175;refine (HAB.out).mono ?_;rintro e w1 ⟨rfl,hb⟩;have B1:=Lib.hid hb;have R1:=Lib.hid (HR.out.below B1.out);clear hb))
   go_wp2_with ((clear TK1;go_at_call 148;refine (refInt_any _ _ hs0 hs1).mono ?_;rintro e w2 ⟨rfl,hb⟩;have B2:=Lib.hid (B1.out.trans (hb.mono B1.out.size));have R2:=Lib.hid (HR.out.below B2.out);clear hb))
   go_wp2_with ((clear TK2;go_at_call 176;refine (rchain_err _ _ _ _ _ HN.out).mono ?_;rintro e w3 ⟨rfl,hb⟩;have B3:=Lib.hid (B2.out.trans (hb.mono B2.out.size));have R3:=Lib.hid (HR.out.below B3.out);clear hb))
   go_wp2_with ((clear TK3;go_at_call 176;refine (rchain_err _ _ _ _ _ HN.out).mono ?_;rintro e w4 ⟨rfl,hb⟩;have B4:=Lib.hid (B3.out.trans (hb.mono B3.out.size));have R4:=Lib.hid (HR.out.below B4.out);clear hb))
   go_wp2_with ((clear TK4;go_at_call 176;refine (rchain_err _ _ _ _ _ HN.out).mono ?_;rintro e w5 ⟨rfl,hb⟩;have B5:=Lib.hid (B4.out.trans (hb.mono B4.out.size));have R5:=Lib.hid (HR.out.below B5.out);clear hb))
   go_wp2_with ((clear TK5;go_at_call 176;refine (rchain_err _ _ _ _ _ HN.out).mono ?_;rintro e w6 ⟨rfl,hb⟩;have B6:=Lib.hid (B5.out.trans (hb.mono B5.out.size));have R6:=Lib.hid (HR.out.below B6.out);clear hb))
   go_wp2
   go_ret2
   exact ⟨rfl,B6.out⟩
 ·unfold alphaV
  rw [h3] at HAB ⊢
  rw [if_pos ne_two]
  have HN:=Lib.hid ne_two
  clear h1 h2 h3 hr
  by_cases hs:s=1
  ·subst hs
   have TK0:True:=trivial
   have TK1:True:=trivial
   go_enter Tryz.func81,Tryz.ntmps81
   go_wp2_with ((clear TK0;go_at_call 175;refine (HAB.out).mono ?_;rintro e w1 ⟨rfl,hb⟩;have B1:=Lib.hid hb;have R1:=Lib.hid (HR.out.below B1.out);clear hb))
   go_wp2_with ((clear TK1;go_at_call 176;refine (rchain_err _ _ _ _ _ HN.out).mono ?_;rintro e w2 ⟨rfl,hb⟩;have B2:=Lib.hid (B1.out.trans (hb.mono B1.out.size));have R2:=Lib.hid (HR.out.below B2.out);clear hb))
   go_wp2
   go_ret2
   exact ⟨rfl,B2.out⟩
  ·have hse:decide (s=1)=false:=decide_eq_false hs
   have hsb:(s==1)=false:=by rw [beq_eq_false_iff_ne];exact hs
   have TK0:True:=trivial
   have TK1:True:=trivial
   have TK2:True:=trivial
   have TK3:True:=trivial
   have TK4:True:=trivial
   have TK5:True:=trivial
   go_enter Tryz.func81,Tryz.ntmps81
   go_wp2_with ((clear TK0;go_at_call 175;refine (HAB.out).mono ?_;rintro e w1 ⟨rfl,hb⟩;have B1:=Lib.hid hb;have R1:=Lib.hid (HR.out.below B1.out);clear hb))
   go_wp2_with ((clear TK1;go_at_call 148;refine (refInt_any _ _ hs0 hs1).mono ?_;rintro e w2 ⟨rfl,hb⟩;have B2:=Lib.hid (B1.out.trans (hb.mono B1.out.size));have R2:=Lib.hid (HR.out.below B2.out);clear hb))
   go_wp2_with ((clear TK2;go_at_call 176;refine (rchain_err _ _ _ _ _ HN.out).mono ?_;rintro e w3 ⟨rfl,hb⟩;have B3:=Lib.hid (B2.out.trans (hb.mono B2.out.size));have R3:=Lib.hid (HR.out.below B3.out);clear hb))
   go_wp2_with ((clear TK3;go_at_call 176;refine (rchain_err _ _ _ _ _ HN.out).mono ?_;rintro e w4 ⟨rfl,hb⟩;have B4:=Lib.hid (B3.out.trans (hb.mono B3.out.size));have R4:=Lib.hid (HR.out.below B4.out);clear hb))
   go_wp2_with ((clear TK4;go_at_call 176;refine (rchain_err _ _ _ _ _ HN.out).mono ?_;rintro e w5 ⟨rfl,hb⟩;have B5:=Lib.hid (B4.out.trans (hb.mono B4.out.size));have R5:=Lib.hid (HR.out.below B5.out);clear hb))
   go_wp2_with ((clear TK5;go_at_call 176;refine (rchain_err _ _ _ _ _ HN.out).mono ?_;rintro e w6 ⟨rfl,hb⟩;have B6:=Lib.hid (B5.out.trans (hb.mono B5.out.size));have R6:=Lib.hid (HR.out.below B6.out);clear hb))
   go_wp2
   go_ret2
   exact ⟨rfl,B6.out⟩
 ·have sF:=sz_of_text h1 (k:=100) (by rw [← size_list];exact hf)
  obtain ⟨⟨k0,k1,k2,k3,k4,k5,k6⟩,⟨m1,m2,m3,m4,m5,m6⟩,n1,n2,n3,n4⟩:=abh_fit h3 h4 sF h2
  unfold alphaV
  rw [h5] at HAB ⊢
  rw [if_neg (by decide)]
  have HF:=IsT.of h1
  generalize valQ f.data.toList=F at *
  by_cases hs:s=1
  ·subst hs
   rw [if_pos rfl]
   have HC1:=Lib.hid (fun W=>rchain_div _ _ _ W (rdivT W IsT.one HF (c:=rT F⁻¹) (by rw [Rat.one_mul];exact isT_rT k5) (by grind)))
   generalize rT F⁻¹=t1 at *
   clear h1 h2 h3 h4 h5 hr sF k0 k1 k2 k3 k4 k5 k6 m1 m2 m3 m4 m5 m6 n1 n2 n3 n4 HF
   have TK0:True:=trivial
   have TK1:True:=trivial
   go_enter Tryz.func81,Tryz.ntmps81
   go_wp2_with ((clear TK0;go_at_call 175;refine (HAB.out).mono ?_;rintro e w1 ⟨rfl,hb⟩;have B1:=Lib.hid hb;have R1:=Lib.hid (HR.out.below B1.out);clear hb))
   go_wp2_with ((clear TK1;go_at_call 176;refine (HC1.out _).mono ?_;rintro e w2 ⟨rfl,hb⟩;have B2:=Lib.hid (B1.out.trans (hb.mono B1.out.size));have R2:=Lib.hid (HR.out.below B2.out);clear hb))
   go_wp2
   go_ret2
   exact ⟨rfl,B2.out⟩
  ·have hse:decide (s=1)=false:=decide_eq_false hs
   have hsb:(s==1)=false:=by rw [beq_eq_false_iff_ne];exact hs
   rw [if_neg hs]
   have HIN:=IsT_itoa s k0
   have HC1:=Lib.hid (fun W=>rchain_mul _ _ _ W (rmulT W HIN HF (isT_rT k1)))
   have HC2:=Lib.hid (fun W=>rchain_add _ _ _ W (raddT W (isT_rT k1) HF (isT_rT k2)))
   have HC3:=Lib.hid (fun W hr=>rchain_sub _ _ _ W (rsubT' (isT_rT k2) IsT.one (isT_rT k3) W hr))
   have HC4:=Lib.hid (fun W=>rchain_div _ _ _ W (rdivT W (isT_rT k1) (isT_rT k3) (isT_rT k4) k6))
   generalize rT ((s:Rat)*F*((s:Rat)*F+F+-1)⁻¹)=t4 at *
   generalize rT ((s:Rat)*F+F+-1)=t3 at *
   generalize rT ((s:Rat)*F+F)=t2 at *
   generalize rT ((s:Rat)*F)=t1 at *
   clear h1 h2 h5 hr sF k0 k1 k2 k3 k4 k5 k6 m1 m2 m3 m4 m5 m6 n1 n2 n3 n4 HF HIN
   have TK0:True:=trivial
   have TK1:True:=trivial
   have TK2:True:=trivial
   have TK3:True:=trivial
   have TK4:True:=trivial
   have TK5:True:=trivial
   go_enter Tryz.func81,Tryz.ntmps81
   go_wp2_with ((clear TK0;go_at_call 175;refine (HAB.out).mono ?_;rintro e w1 ⟨rfl,hb⟩;have B1:=Lib.hid hb;have R1:=Lib.hid (HR.out.below B1.out);clear hb))
   go_wp2_with ((clear TK1;go_at_call 148;refine (refInt_any _ _ hs0 hs1).mono ?_;rintro e w2 ⟨rfl,hb⟩;have B2:=Lib.hid (B1.out.trans (hb.mono B1.out.size));have R2:=Lib.hid (HR.out.below B2.out);clear hb))
   go_wp2_with ((clear TK2;go_at_call 176;refine (HC1.out _).mono ?_;rintro e w3 ⟨rfl,hb⟩;have B3:=Lib.hid (B2.out.trans (hb.mono B2.out.size));have R3:=Lib.hid (HR.out.below B3.out);clear hb))
   go_wp2_with ((clear TK3;go_at_call 176;refine (HC2.out _).mono ?_;rintro e w4 ⟨rfl,hb⟩;have B4:=Lib.hid (B3.out.trans (hb.mono B3.out.size));have R4:=Lib.hid (HR.out.below B4.out);clear hb))
   go_wp2_with ((clear TK4;go_at_call 176;refine (HC3.out _ R4.out).mono ?_;rintro e w5 ⟨rfl,hb⟩;have B5:=Lib.hid (B4.out.trans (hb.mono B4.out.size));have R5:=Lib.hid (HR.out.below B5.out);clear hb))
   go_wp2_with ((clear TK5;go_at_call 176;refine (HC4.out _).mono ?_;rintro e w6 ⟨rfl,hb⟩;have B6:=Lib.hid (B5.out.trans (hb.mono B5.out.size));have R6:=Lib.hid (HR.out.below B6.out);clear hb))
   go_wp2
   go_ret2
   exact ⟨rfl,B6.out⟩
theorem rbeta_any (s:Int) (f:ByteArray) (w:World) (hs0:-9223372036854775808≤s) (hs1:s≤9223372036854775807) (hf:f.size≤100) (hr:Res w) :
  Calls Tryz.prog 83 #[.int .i64 s,.string f] w fun e w'=>e=.returned (betaV s f)∧Below w.heap.size w w':=by
 have HR:=Lib.hid hr
 have HAB:=Lib.hid (rabove_any s f w (by omega) hr)
 rcases errF_cases s f with ⟨h1,h2⟩|⟨h1,h2,h3⟩|⟨h1,h2,h3,h4,h5⟩
 ·unfold betaV
  rw [h2] at HAB ⊢
  rw [if_pos h1]
  have hz:=ne_zero h1
  have hz2:=ne_zero2 h1
  have HN:=Lib.hid h1
  generalize errQ f.data.toList=n at *
  clear h1 h2 hr
  have TK0:True:=trivial
  have TK1:True:=trivial
  have TK2:True:=trivial
  have TK3:True:=trivial
  have TK4:True:=trivial
  have TK5:True:=trivial
  go_enter Tryz.func83,Tryz.ntmps83
  go_wp2_with ((clear TK0;go_at_call 175;refine (HAB.out).mono ?_;rintro e w1 ⟨rfl,hb⟩;have B1:=Lib.hid hb;have R1:=Lib.hid (HR.out.below B1.out);clear hb))
  go_wp2_with ((clear TK1;go_at_call 148;refine (refInt_any _ _ (wrap64_lo _) (wrap64_hi _)).mono ?_;rintro e w2 ⟨rfl,hb⟩;have B2:=Lib.hid (B1.out.trans (hb.mono B1.out.size));have R2:=Lib.hid (HR.out.below B2.out);clear hb))
  go_wp2_with ((clear TK2;go_at_call 176;refine (rchain_err _ _ _ _ _ HN.out).mono ?_;rintro e w3 ⟨rfl,hb⟩;have B3:=Lib.hid (B2.out.trans (hb.mono B2.out.size));have R3:=Lib.hid (HR.out.below B3.out);clear hb))
  go_wp2_with ((clear TK3;go_at_call 176;refine (rchain_err _ _ _ _ _ HN.out).mono ?_;rintro e w4 ⟨rfl,hb⟩;have B4:=Lib.hid (B3.out.trans (hb.mono B3.out.size));have R4:=Lib.hid (HR.out.below B4.out);clear hb))
  go_wp2_with ((clear TK4;go_at_call 176;refine (rchain_err _ _ _ _ _ HN.out).mono ?_;rintro e w5 ⟨rfl,hb⟩;have B5:=Lib.hid (B4.out.trans (hb.mono B4.out.size));have R5:=Lib.hid (HR.out.below B5.out);clear hb))
  go_wp2_with ((clear TK5;go_at_call 176;refine (rchain_err _ _ _ _ _ HN.out).mono ?_;rintro e w6 ⟨rfl,hb⟩;have B6:=Lib.hid (B5.out.trans (hb.mono B5.out.size));have R6:=Lib.hid (HR.out.below B6.out);clear hb))
  go_wp2
  go_ret2
  exact ⟨rfl,B6.out⟩
 ·unfold betaV
  rw [h3] at HAB ⊢
  rw [if_pos ne_two]
  have HN:=Lib.hid ne_two
  clear h1 h2 h3 hr
  have TK0:True:=trivial
  have TK1:True:=trivial
  have TK2:True:=trivial
  have TK3:True:=trivial
  have TK4:True:=trivial
  have TK5:True:=trivial
  go_enter Tryz.func83,Tryz.ntmps83
  go_wp2_with ((clear TK0;go_at_call 175;refine (HAB.out).mono ?_;rintro e w1 ⟨rfl,hb⟩;have B1:=Lib.hid hb;have R1:=Lib.hid (HR.out.below B1.out);clear hb))
  go_wp2_with ((clear TK1;go_at_call 148;refine (refInt_any _ _ (wrap64_lo _) (wrap64_hi _)).mono ?_;rintro e w2 ⟨rfl,hb⟩;have B2:=Lib.hid (B1.out.trans (hb.mono B1.out.size));have R2:=Lib.hid (HR.out.below B2.out);clear hb))
  go_wp2_with ((clear TK2;go_at_call 176;refine (rchain_err _ _ _ _ _ HN.out).mono ?_;rintro e w3 ⟨rfl,hb⟩;have B3:=Lib.hid (B2.out.trans (hb.mono B2.out.size));have R3:=Lib.hid (HR.out.below B3.out);clear hb))
  go_wp2_with ((clear TK3;go_at_call 176;refine (rchain_err _ _ _ _ _ HN.out).mono ?_;rintro e w4 ⟨rfl,hb⟩;have B4:=Lib.hid (B3.out.trans (hb.mono B3.out.size));have R4:=Lib.hid (HR.out.below B4.out);clear hb))
  go_wp2_with ((clear TK4;go_at_call 176;refine (rchain_err _ _ _ _ _ HN.out).mono ?_;rintro e w5 ⟨rfl,hb⟩;have B5:=Lib.hid (B4.out.trans (hb.mono B4.out.size));have R5:=Lib.hid (HR.out.below B5.out);clear hb))
  go_wp2_with ((clear TK5;go_at_call 176;refine (rchain_err _ _ _ _ _ HN.out).mono ?_;rintro e w6 ⟨rfl,hb⟩;have B6:=Lib.hid (B5.out.trans (hb.mono B5.out.size));have R6:=Lib.hid (HR.out.below B6.out);clear hb))
  go_wp2
  go_ret2
  exact ⟨rfl,B6.out⟩
 ·have sF:=sz_of_text h1 (k:=100) (by rw [← size_list];exact hf)
  obtain ⟨⟨k0,k1,k2,k3,k4,k5,k6⟩,⟨m1,m2,m3,m4,m5,m6⟩,n1,n2,n3,n4⟩:=abh_fit h3 h4 sF h2
  unfold betaV
  rw [h5] at HAB ⊢
  rw [if_neg (by decide)]
  have HF:=IsT.of h1
  generalize valQ f.data.toList=F at *
  have HIN:=IsT_itoa (2*s) (by rw [show ((2*s:Int):Rat)=(s:Rat)+(s:Rat) by push_cast;grind];exact m1)
  rw [show ((2*s:Int):Rat)=(s:Rat)+(s:Rat) by push_cast;grind] at HIN
  have HC1:=Lib.hid (fun W=>rchain_mul _ _ _ W (rmulT W HIN HF (isT_rT m2)))
  have HC2:=Lib.hid (fun W hr=>rchain_sub _ _ _ W (rsubT' HF IsT.one (isT_rT m3) W hr))
  have HC3:=Lib.hid (fun W=>rchain_div _ _ _ W (rdivT W (isT_rT m3) (isT_rT m2) (isT_rT m4) m6))
  have HC4:=Lib.hid (fun W=>rchain_add _ _ _ W (raddT W IsT.one (isT_rT m4) (isT_rT m5)))
  generalize rT (1+(F+-1)*(((s:Rat)+(s:Rat))*F)⁻¹)=t4 at *
  generalize rT ((F+-1)*(((s:Rat)+(s:Rat))*F)⁻¹)=t3 at *
  generalize rT (F+-1)=t2 at *
  generalize rT (((s:Rat)+(s:Rat))*F)=t1 at *
  clear h1 h2 h5 hr sF k0 k1 k2 k3 k4 k5 k6 m1 m2 m3 m4 m5 m6 n1 n2 n3 n4 HF HIN
  have TK0:True:=trivial
  have TK1:True:=trivial
  have TK2:True:=trivial
  have TK3:True:=trivial
  have TK4:True:=trivial
  have TK5:True:=trivial
  go_enter Tryz.func83,Tryz.ntmps83
  go_wp2_with ((clear TK0;go_at_call 175;refine (HAB.out).mono ?_;rintro e w1 ⟨rfl,hb⟩;have B1:=Lib.hid hb;have R1:=Lib.hid (HR.out.below B1.out);clear hb))
  go_wp2_with ((clear TK1;go_at_call 148;refine (refInt_any _ _ (by omega) (by omega)).mono ?_;rintro e w2 ⟨rfl,hb⟩;have B2:=Lib.hid (B1.out.trans (hb.mono B1.out.size));have R2:=Lib.hid (HR.out.below B2.out);clear hb))
  go_wp2_with ((clear TK2;go_at_call 176;refine (HC1.out _).mono ?_;rintro e w3 ⟨rfl,hb⟩;have B3:=Lib.hid (B2.out.trans (hb.mono B2.out.size));have R3:=Lib.hid (HR.out.below B3.out);clear hb))
  go_wp2_with ((clear TK3;go_at_call 176;refine (HC2.out _ R3.out).mono ?_;rintro e w4 ⟨rfl,hb⟩;have B4:=Lib.hid (B3.out.trans (hb.mono B3.out.size));have R4:=Lib.hid (HR.out.below B4.out);clear hb))
  go_wp2_with ((clear TK4;go_at_call 176;refine (HC3.out _).mono ?_;rintro e w5 ⟨rfl,hb⟩;have B5:=Lib.hid (B4.out.trans (hb.mono B4.out.size));have R5:=Lib.hid (HR.out.below B5.out);clear hb))
  go_wp2_with ((clear TK5;go_at_call 176;refine (HC4.out _).mono ?_;rintro e w6 ⟨rfl,hb⟩;have B6:=Lib.hid (B5.out.trans (hb.mono B5.out.size));have R6:=Lib.hid (HR.out.below B6.out);clear hb))
  go_wp2
  go_ret2
  exact ⟨rfl,B6.out⟩
theorem rhalf_any (f:ByteArray) (w:World) (hf:f.size≤100) (hr:Res w) :
  Calls Tryz.prog 85 #[.string f] w fun e w'=>e=.returned (halfV f)∧Below w.heap.size w w':=by
 have HR:=Lib.hid hr
 have HAB:=Lib.hid (rabove_any 1 f w (by omega) hr)
 rcases errF_cases 1 f with ⟨h1,h2⟩|⟨h1,h2,h3⟩|⟨h1,h2,h3,h4,h5⟩
 ·unfold halfV
  rw [h2] at HAB ⊢
  rw [if_pos h1]
  have hz:=ne_zero h1
  have hz2:=ne_zero2 h1
  have HN:=Lib.hid h1
  generalize errQ f.data.toList=n at *
  clear h1 h2 hr
  have TK0:True:=trivial
  have TK1:True:=trivial
  have TK2:True:=trivial
  have TK3:True:=trivial
  go_enter Tryz.func85,Tryz.ntmps85
  go_wp2_with ((clear TK0;go_at_call 175;refine (HAB.out).mono ?_;rintro e w1 ⟨rfl,hb⟩;have B1:=Lib.hid hb;have R1:=Lib.hid (HR.out.below B1.out);clear hb))
  go_wp2_with ((clear TK1;go_at_call 176;refine (rchain_err _ _ _ _ _ HN.out).mono ?_;rintro e w2 ⟨rfl,hb⟩;have B2:=Lib.hid (B1.out.trans (hb.mono B1.out.size));have R2:=Lib.hid (HR.out.below B2.out);clear hb))
  go_wp2_with ((clear TK2;go_at_call 176;refine (rchain_err _ _ _ _ _ HN.out).mono ?_;rintro e w3 ⟨rfl,hb⟩;have B3:=Lib.hid (B2.out.trans (hb.mono B2.out.size));have R3:=Lib.hid (HR.out.below B3.out);clear hb))
  go_wp2_with ((clear TK3;go_at_call 176;refine (rchain_err _ _ _ _ _ HN.out).mono ?_;rintro e w4 ⟨rfl,hb⟩;have B4:=Lib.hid (B3.out.trans (hb.mono B3.out.size));have R4:=Lib.hid (HR.out.below B4.out);clear hb))
  go_wp2
  go_ret2
  exact ⟨rfl,B4.out⟩
 ·unfold halfV
  rw [h3] at HAB ⊢
  rw [if_pos ne_two]
  have HN:=Lib.hid ne_two
  clear h1 h2 h3 hr
  have TK0:True:=trivial
  have TK1:True:=trivial
  have TK2:True:=trivial
  have TK3:True:=trivial
  go_enter Tryz.func85,Tryz.ntmps85
  go_wp2_with ((clear TK0;go_at_call 175;refine (HAB.out).mono ?_;rintro e w1 ⟨rfl,hb⟩;have B1:=Lib.hid hb;have R1:=Lib.hid (HR.out.below B1.out);clear hb))
  go_wp2_with ((clear TK1;go_at_call 176;refine (rchain_err _ _ _ _ _ HN.out).mono ?_;rintro e w2 ⟨rfl,hb⟩;have B2:=Lib.hid (B1.out.trans (hb.mono B1.out.size));have R2:=Lib.hid (HR.out.below B2.out);clear hb))
  go_wp2_with ((clear TK2;go_at_call 176;refine (rchain_err _ _ _ _ _ HN.out).mono ?_;rintro e w3 ⟨rfl,hb⟩;have B3:=Lib.hid (B2.out.trans (hb.mono B2.out.size));have R3:=Lib.hid (HR.out.below B3.out);clear hb))
  go_wp2_with ((clear TK3;go_at_call 176;refine (rchain_err _ _ _ _ _ HN.out).mono ?_;rintro e w4 ⟨rfl,hb⟩;have B4:=Lib.hid (B3.out.trans (hb.mono B3.out.size));have R4:=Lib.hid (HR.out.below B4.out);clear hb))
  go_wp2
  go_ret2
  exact ⟨rfl,B4.out⟩
 ·have sF:=sz_of_text h1 (k:=100) (by rw [← size_list];exact hf)
  obtain ⟨⟨k0,k1,k2,k3,k4,k5,k6⟩,⟨m1,m2,m3,m4,m5,m6⟩,n1,n2,n3,n4⟩:=abh_fit h3 h4 sF h2
  unfold halfV
  rw [h5] at HAB ⊢
  rw [if_neg (by decide)]
  have HF:=IsT.of h1
  generalize valQ f.data.toList=F at *
  have HC1:=Lib.hid (fun W=>rchain_mul _ _ _ W (rmulT W t_two HF (isT_rT n1)))
  have HC2:=Lib.hid (fun W=>rchain_add _ _ _ W (raddT W HF IsT.one (isT_rT n2)))
  have HC3:=Lib.hid (fun W=>rchain_div _ _ _ W (rdivT W (isT_rT n1) (isT_rT n2) (isT_rT n3) n4))
  generalize rT (2*F*(F+1)⁻¹)=t3 at *
  generalize rT (F+1)=t2 at *
  generalize rT (2*F)=t1 at *
  clear h1 h2 h3 h4 h5 hr sF k0 k1 k2 k3 k4 k5 k6 m1 m2 m3 m4 m5 m6 n1 n2 n3 n4 HF
  have TK0:True:=trivial
  have TK1:True:=trivial
  have TK2:True:=trivial
  have TK3:True:=trivial
  go_enter Tryz.func85,Tryz.ntmps85
  go_wp2_with ((clear TK0;go_at_call 175;refine (HAB.out).mono ?_;rintro e w1 ⟨rfl,hb⟩;have B1:=Lib.hid hb;have R1:=Lib.hid (HR.out.below B1.out);clear hb))
  go_wp2_with ((clear TK1;go_at_call 176;refine (HC1.out _).mono ?_;rintro e w2 ⟨rfl,hb⟩;have B2:=Lib.hid (B1.out.trans (hb.mono B1.out.size));have R2:=Lib.hid (HR.out.below B2.out);clear hb))
  go_wp2_with ((clear TK2;go_at_call 176;refine (HC2.out _).mono ?_;rintro e w3 ⟨rfl,hb⟩;have B3:=Lib.hid (B2.out.trans (hb.mono B2.out.size));have R3:=Lib.hid (HR.out.below B3.out);clear hb))
  go_wp2_with ((clear TK3;go_at_call 176;refine (HC3.out _).mono ?_;rintro e w4 ⟨rfl,hb⟩;have B4:=Lib.hid (B3.out.trans (hb.mono B3.out.size));have R4:=Lib.hid (HR.out.below B4.out);clear hb))
  go_wp2
  go_ret2
  exact ⟨rfl,B4.out⟩
def keyAt (ls:List L2):Nat→Option ByteArray
 | 0=>none
 | k+1=>(ls[k]?).map (·.1)
theorem chkL_err {k:Option ByteArray} {x:L2} {l:List L2} (h:posE x.2≠0):chkL k (x::l)=posE x.2:=by unfold chkL;rw [if_pos h]
theorem chkL_low {k:Option ByteArray} {x:L2} {l:List L2} (h:posE x.2=0) (h2:¬ 0 < valQ x.2.data.toList):chkL k (x::l)=2:=by unfold chkL;rw [if_neg (by simpa using h),if_pos h2]
theorem chkL_ord {k:Option ByteArray} {x:L2} {l:List L2} (h:posE x.2=0) (h2:0 < valQ x.2.data.toList) (h3:badK k x.1=true):chkL k (x::l)=9:=by unfold chkL;rw [if_neg (by simpa using h),if_neg (by simpa using h2),if_pos h3]
theorem chkL_go {k:Option ByteArray} {x:L2} {l:List L2} (h:posE x.2=0) (h2:0 < valQ x.2.data.toList) (h3:badK k x.1=false):chkL k (x::l)=chkL (some x.1) l:=by
 conv=>lhs;unfold chkL
 rw [if_neg (by simpa using h),if_neg (by simpa using h2),if_neg (by rw [h3];decide)]
theorem posB_ok {p:ByteArray} (h:posE p=0):posB p=decide (0 < valQ p.data.toList):=by
 unfold posB
 have:errQ p.data.toList=0:=by
  unfold posE at h
  split at h
  ·rename_i h2;exact absurd h h2
  ·rename_i h2;exact Classical.byContradiction h2
 rw [decide_eq_true this,Bool.true_and]
theorem errs_of {ls:List L2} (h:chkL none ls=0):∀ x∈ls,errQ x.2.data.toList=0:=by
 revert h
 generalize (none:Option ByteArray)=k
 induction ls generalizing k with
 | nil=>intro _ x hx;cases hx
 | cons y l ih =>
  intro h x hx
  by_cases h1:posE y.2=0
  ·by_cases h2:0 < valQ y.2.data.toList
   ·cases h3:badK k y.1 with
    | true=>rw [chkL_ord h1 h2 h3] at h;cases h
    | false =>
     rw [chkL_go h1 h2 h3] at h
     rcases List.mem_cons.1 hx with rfl|hx
     ·unfold posE at h1
      split at h1
      ·rename_i h4;exact absurd h1 h4
      ·rename_i h4;exact Classical.byContradiction h4
     ·exact ih _ h x hx
   ·rw [chkL_low h1 h2] at h;cases h
  ·rw [chkL_err h1] at h;exact absurd h h1
theorem keyAt_succ {ls:List L2} {k:Nat} {x:L2} (h:ls[k]?=some x):keyAt ls (k+1)=some x.1:=by
 show (ls[k]?).map (·.1)=_
 rw [h];rfl
theorem drop_of {ls:List L2} {k:Nat} {x:L2} (h:ls[k]?=some x):ls.drop k=x::ls.drop (k+1):=by
 obtain ⟨hlt,e⟩:=List.getElem?_eq_some_iff.1 h
 rw [List.drop_eq_getElem_cons hlt,e]
theorem chkS_ok {s:ByteArray}:chkS (.ok s)=if s=oT then 0 else 15:=rfl
theorem LRow.at {w W:World} {v:Value} {ls:List L2} (h:LRow w v ls) (hb:Below w.heap.size w W) {k:Nat} {x:L2} (hx:ls[k]?=some x) :
  ∃ b o c,v=.slice (some ⟨b,o,none⟩) ls.length c∧b < W.heap.size∧W.cell? ⟨b,o+k*2,none⟩=some (.string x.1)∧W.cell? ⟨b,o+k*2+1,none⟩=some (.string x.2):=by
 obtain ⟨A,c,rfl,_,hc⟩:=h
 obtain ⟨b,o,rfl,hlt,hcell⟩:=hc (by have:=(List.getElem?_eq_some_iff.1 hx).1;omega)
 obtain ⟨c0,c1⟩:=hcell k x hx
 exact ⟨b,o,c,rfl,Nat.lt_of_lt_of_le hlt hb.size,by rw [hb.cell (p:=⟨b,o+k*2,none⟩) hlt];exact c0,by rw [hb.cell (p:=⟨b,o+k*2+1,none⟩) hlt];exact c1⟩
theorem LRow.cell2 {w W:World} {b o n c:Nat} {ls:List L2} (h:LRow w (.slice (some ⟨b,o,none⟩) n c) ls) (hb:Below w.heap.size w W) {k:Nat} {x:L2} (hx:ls[k]?=some x) :
  b < W.heap.size∧W.cell? ⟨b,o+k*2,none⟩=some (.string x.1)∧W.cell? ⟨b,o+k*2+1,none⟩=some (.string x.2):=by
 obtain ⟨b',o',c',e,h1,h2,h3⟩:=h.at hb hx
 simp only [Value.slice.injEq,Option.some.injEq,Addr.mk.injEq,and_true] at e
 obtain ⟨⟨rfl,rfl⟩,_,_⟩:=e
 exact ⟨h1,h2,h3⟩
theorem dcheck_any (ls:List L2) (v:Value) (w:World) (hv:LRow w v ls) (hs:Short ls) (hr:Res w) :
  Calls Tryz.prog 36 #[v] w fun e w'=>e=.returned (.int .i64 (chkD ls:Int))∧Below w.heap.size w w':=by
 have HV:=Lib.hid hv
 obtain ⟨A,c,rfl,hlen,hcells⟩:=hv
 have HS:=Lib.hid hs
 have H0:=Lib.hid (NW.refl hr)
 have HLEN:=Lib.hid hlen
 have hrn:=runs_check1
 unfold Runs at hrn
 clear hr hcells hs
 go_enter Tryz.func36,Tryz.ntmps36
 go_wp2
 go_loopw [11] (fun v11 wr=>∃ k:Nat,k≤ls.length∧v11=.int .i64 (k:Int)∧Hid (chkL none ls=chkL (keyAt ls k) (ls.drop k))∧Hid (NW w wr)) (fun v11 _=>ls.length - (intOf v11).toNat)
 case atStart=>exact ⟨0,Nat.zero_le _,rfl,Lib.hid (by simp [keyAt]),H0⟩
 case round =>
  clear H0
  obtain ⟨k,hk,rfl,HE,HN⟩:=hrel
  by_cases hlt:k < ls.length
  ·obtain ⟨x,hx⟩:∃ x,ls[k]?=some x:=⟨_,List.getElem?_eq_getElem hlt⟩
   obtain ⟨b,o,c',e',hb2,c0,c1⟩:=HV.out.at HN.out.below hx
   simp only [Value.slice.injEq,true_and] at e'
   obtain ⟨rfl,rfl⟩:=e'
   have hlt':(k:Int) < (ls.length:Int):=by omega
   have HX:=Lib.hid (HN.out.alloc (.cells #[.string x.1,.string x.2] 30))
   have HP:=Lib.hid (positive_any (HS.out x (List.mem_of_getElem? hx)).2)
   have HD:=Lib.hid (drop_of hx)
   have HLT:=Lib.hid (And.intro hlt hlt')
   have HXK:=Lib.hid hx
   have HBL:=Lib.hid (Blk.new wr 30 #[.string x.1,.string x.2])
   obtain ⟨f,d⟩:=x
   dsimp only at c0 c1 HX HP HBL HD HXK
   clear hx hlt
   by_cases h1:posE d=0
   ·rw [h1,posB_ok h1] at HP
    by_cases h2:0 < valQ d.data.toList
    ·rw [decide_eq_true h2] at HP
     change Hid (Ret _ _ (.tuple #[.bool true,.int .i64 0])) at HP
     rcases Nat.eq_zero_or_pos k with hk0|hk0
     ·have HR:=Lib.hid (show chkL none ls=chkL (keyAt ls (k+1)) (ls.drop (k+1)) by
       rw [HE.out,HD.out,keyAt_succ HXK.out,hk0]
       exact chkL_go (x:=(f,d)) h1 h2 rfl)
      have d0:decide (0 < (k:Int))=false:=decide_eq_false (by omega)
      have d0n:decide (0 < k)=false:=decide_eq_false (by omega)
      clear h1 h2 hk0
      go_wp2_with (go_at_call 106;refine (HP.out _ HX.out.res).mono ?_;rintro e w3 ⟨rfl,hb⟩;have H3:=Lib.hid (HX.out.later hb);obtain ⟨q0,q1⟩:=cells2 (HBL.out.below hb HBL.out.lt);clear hb)
      go_quiet (fail)
      have H4:=Lib.hid (fun n=>H3.out.drewN n)
      go_wp2
      go_roundw
      case rel=>exact ⟨k+1,HLT.out.1,by go_num,HR,H4.out _⟩
      case measure=>have:=HLT.out.1;simp [intOf];omega
     ·obtain ⟨j,hj⟩:∃ j,k=j+1:=⟨k - 1,by omega⟩
      have hjl:(j:Int) < (ls.length:Int):=by have:=HLT.out.1;omega
      obtain ⟨y,hy⟩:∃ y,ls[j]?=some y:=⟨_,List.getElem?_eq_getElem (by omega)⟩
      have HCE:=Lib.hid (fun W (hW:NW w W)=>HV.out.cell2 hW.below hy)
      have e1:(k:Int) - 1=(j:Int):=by omega
      have d0:decide (0 < (k:Int))=true:=decide_eq_true (by omega)
      have d0n:decide (0 < k)=true:=decide_eq_true (by omega)
      have HKJ:=Lib.hid hj
      clear hk0 hj
      cases h3:ltK y.1 f with
      | true =>
       have HR:=Lib.hid (show chkL none ls=chkL (keyAt ls (k+1)) (ls.drop (k+1)) by
        rw [HE.out,HD.out,keyAt_succ HXK.out,HKJ.out,keyAt_succ hy]
        exact chkL_go (x:=(f,d)) h1 h2 (by show (!ltK y.1 f)=false;rw [h3];rfl))
       have TL:=lt_bytes y.1 f
       rw [h3] at TL
       clear h1 h2 h3 hy
       go_wp2_with (go_at_call 106;refine (HP.out _ HX.out.res).mono ?_;rintro e w3 ⟨rfl,hb⟩;have H3:=Lib.hid (HX.out.later hb);obtain ⟨q0,q1⟩:=cells2 (HBL.out.below hb HBL.out.lt);obtain ⟨hb3,p0,p1⟩:=HCE.out _ H3.out;clear hb)
       go_quiet (fail)
       have H4:=Lib.hid (fun n=>H3.out.drewN n)
       go_wp2
       go_roundw
       case rel=>exact ⟨k+1,HLT.out.1,by go_num,HR,H4.out _⟩
       case measure=>have:=HLT.out.1;simp [intOf];omega
      | false =>
       have HR:=Lib.hid (show chkL none ls=9 by
        rw [HE.out,HD.out,HKJ.out,keyAt_succ hy]
        exact chkL_ord (x:=(f,d)) h1 h2 (by show (!ltK y.1 f)=true;rw [h3];rfl))
       have TL:=lt_bytes y.1 f
       rw [h3] at TL
       clear h1 h2 h3 hy
       go_wp2_with (go_at_call 106;refine (HP.out _ HX.out.res).mono ?_;rintro e w3 ⟨rfl,hb⟩;have H3:=Lib.hid (HX.out.later hb);obtain ⟨q0,q1⟩:=cells2 (HBL.out.below hb HBL.out.lt);obtain ⟨hb3,p0,p1⟩:=HCE.out _ H3.out;clear hb)
       go_quiet (fail)
       have H4:=Lib.hid (fun n=>H3.out.drewN n)
       go_wp2
       go_ret
       refine ⟨?_,(H4.out _).below⟩
       unfold chkD
       rw [HR.out]
       rfl
    ·rw [decide_eq_false h2] at HP
     change Hid (Ret _ _ (.tuple #[.bool false,.int .i64 0])) at HP
     have HR:=Lib.hid (show chkL none ls=2 by rw [HE.out,HD.out];exact chkL_low (x:=(f,d)) h1 h2)
     clear h1 h2
     go_wp2_with (go_at_call 106;refine (HP.out _ HX.out.res).mono ?_;rintro e w3 ⟨rfl,hb⟩;have H3:=Lib.hid (HX.out.later hb);clear hb)
     go_ret
     refine ⟨?_,H3.out.below⟩
     unfold chkD
     rw [HR.out]
     rfl
   ·have HR:=Lib.hid (show chkL none ls=posE d∧chkL none ls≠0 by rw [HE.out,HD.out,chkL_err (x:=(f,d)) h1];exact ⟨rfl,h1⟩)
    have hm:=ne_zero h1
    clear h1
    go_wp2_with (go_at_call 106;refine (HP.out _ HX.out.res).mono ?_;rintro e w3 ⟨rfl,hb⟩;have H3:=Lib.hid (HX.out.later hb);clear hb)
    go_ret
    refine ⟨?_,H3.out.below⟩
    unfold chkD
    rw [if_pos HR.out.2,HR.out.1]
    rfl
  ·have hlt':¬ (k:Int) < (ls.length:Int):=by omega
   obtain rfl:k=ls.length:=by omega
   have h0:chkL none ls=0:=by
    have:=HE.out
    rw [List.drop_length] at this
    exact this
   have HQ:=Lib.hid (show chkD ls=chkS (foldX (fun x:L2=>.ok x.2) zT ls) by unfold chkD;rw [h0];rfl)
   have HF:=Lib.hid (dfold_any 123 #[] runs_check1 (fun x:L2=>.ok x.2) ls _ wr (HV.out.below HN.out.below) HN.out.res (fun x n h=>by cases h) (fun x hx s h=>by cases h;exact errs_of h0 x hx) (fun k x _ W _ _=>check1_any x k W))
   clear h0 hlt hk
   cases hf:foldX (fun x:L2=>(.ok x.2:XE)) zT ls with
   | error n =>
    rw [hf] at HF HQ
    have hm:=ne_zero (foldX_ne (g:=fun x:L2=>(.ok x.2:XE)) (fun x m h=>by cases h) hf)
    change Hid (Calls _ _ _ _ fun e w'=>e=.returned (.tuple #[.string ⟨#[]⟩,.int .i64 (n:Int)])∧_) at HF
    clear hf
    go_wp2_with (go_at_call 122;refine HF.out.mono ?_;rintro e w3 ⟨rfl,hb⟩;have H3:=Lib.hid (HN.out.later hb);clear hb)
    go_ret
    rw [HQ.out]
    exact ⟨rfl,H3.out.below⟩
   | ok s =>
    rw [hf] at HF HQ
    change Hid (Calls _ _ _ _ fun e w'=>e=.returned (.tuple #[.string s,.int .i64 0])∧_) at HF
    have TE:=eq_bytes s oT
    rw [oT_list] at TE
    clear hf
    rw [chkS_ok] at HQ
    by_cases h1:s=oT
    ·rw [decide_eq_true h1] at TE
     rw [if_pos h1] at HQ
     clear h1
     go_wp2_with (go_at_call 122;refine HF.out.mono ?_;rintro e w3 ⟨rfl,hb⟩;have H3:=Lib.hid (HN.out.later hb);clear hb)
     go_ret
     rw [HQ.out]
     exact ⟨rfl,H3.out.below⟩
    ·rw [decide_eq_false h1] at TE
     rw [if_neg h1] at HQ
     clear h1
     go_wp2_with (go_at_call 122;refine HF.out.mono ?_;rintro e w3 ⟨rfl,hb⟩;have H3:=Lib.hid (HN.out.later hb);clear hb)
     go_ret
     rw [HQ.out]
     exact ⟨rfl,H3.out.below⟩
theorem dchecked_any (p q:List L2) (vp vq:Value) (b:Nat) (w:World) (hb:Blk w b 31 #[vp,vq]) (hp:LRow w vp p) (hq:LRow w vq q) (sp:Short p) (sq:Short q) (hr:Res w) :
  Calls Tryz.prog 112 #[.slice (some ⟨b,0,none⟩) 2 2] w fun e w'=>e=.returned (.int .i64 (chk2 p q:Int))∧Below w.heap.size w w':=by
 have HP:=Lib.hid (dcheck_any p vp w hp sp hr)
 have HQ:=Lib.hid (fun W (hW:Below w.heap.size w W)=>dcheck_any q vq W (hq.below hW) sq (hr.below hW))
 have HB:=Lib.hid (fun W (hW:Below w.heap.size w W)=>cells2 (hb.below hW hb.lt))
 have HL:=Lib.hid (fun W (hW:Below w.heap.size w W)=>(hb.below hW hb.lt).lt)
 clear hp hq sp sq hr
 obtain ⟨x0,x1⟩:=HB.out w (Below.refl _ _)
 have xl:=HL.out w (Below.refl _ _)
 go_enter Tryz.func112,Tryz.ntmps112
 go_wp2
 go_loopw [8] (fun v8 wr=>∃ k:Nat,k≤2∧v8=.int .i64 (k:Int)∧Hid (0 < k→chkD p=0)∧Hid (1 < k→chkD q=0)∧Hid (Below w.heap.size w wr)∧Hid (k=0→wr=w)) (fun v8 _=>2 - (intOf v8).toNat)
 case atStart=>exact ⟨0,by omega,rfl,Lib.hid (fun h=>by omega),Lib.hid (fun h=>by omega),Lib.hid (Below.refl _ _),Lib.hid (fun _=>rfl)⟩
 case round =>
  clear x0 x1 xl
  obtain ⟨k,hk,rfl,H1,H2,HN,HW⟩:=hrel
  obtain ⟨x0,x1⟩:=HB.out wr HN.out
  have xl:=HL.out wr HN.out
  rcases (by omega:k=0∨k=1∨k=2) with rfl|rfl|rfl
  ·obtain rfl:=HW.out rfl
   by_cases h0:chkD p=0
   ·have HR:=Lib.hid h0
    rw [h0] at HP
    change Hid (Calls _ _ _ _ fun e w'=>e=.returned (.int .i64 0)∧_) at HP
    clear h0
    go_wp2_with (go_at_call 36;refine HP.out.mono ?_;rintro e w3 ⟨rfl,hb⟩;have H3:=Lib.hid hb;clear hb)
    go_roundw
    case rel=>exact ⟨1,by omega,by go_num,Lib.hid (fun _=>HR.out),Lib.hid (fun h=>by omega),H3,Lib.hid (fun h=>by omega)⟩
    case measure=>simp [intOf]
   ·have hm:=ne_zero h0
    have HR:=Lib.hid (show chk2 p q=chkD p from if_pos h0)
    clear h0
    go_wp2_with (go_at_call 36;refine HP.out.mono ?_;rintro e w3 ⟨rfl,hb⟩;have H3:=Lib.hid hb;clear hb)
    go_ret
    rw [HR.out]
    exact ⟨rfl,H3.out⟩
  ·have h0:=H1.out (by omega)
   by_cases h1:chkD q=0
   ·have HR:=Lib.hid h1
    have HC:=Lib.hid h0
    rw [h1] at HQ
    change Hid (∀ W,_→Calls _ _ _ _ fun e w'=>e=.returned (.int .i64 0)∧_) at HQ
    clear h0 h1
    go_wp2_with (go_at_call 36;refine (HQ.out _ HN.out).mono ?_;rintro e w3 ⟨rfl,hb⟩;have H3:=Lib.hid (HN.out.trans (hb.mono HN.out.size));clear hb)
    go_roundw
    case rel=>exact ⟨2,by omega,by go_num,Lib.hid (fun _=>HC.out),Lib.hid (fun _=>HR.out),H3,Lib.hid (fun h=>by omega)⟩
    case measure=>simp [intOf]
   ·have hm:=ne_zero h1
    have HR:=Lib.hid (show chk2 p q=chkD q from if_neg (by simpa using h0))
    clear h0 h1
    go_wp2_with (go_at_call 36;refine (HQ.out _ HN.out).mono ?_;rintro e w3 ⟨rfl,hb⟩;have H3:=Lib.hid (HN.out.trans (hb.mono HN.out.size));clear hb)
    go_ret
    rw [HR.out]
    exact ⟨rfl,H3.out⟩
  ·have HR:=Lib.hid (show chk2 p q=0 by unfold chk2;rw [if_neg (by simpa using H1.out (by omega))];exact H2.out (by omega))
   go_wp2
   go_ret
   rw [HR.out]
   exact ⟨rfl,HN.out⟩
end Go.Proofs.YtigapglmipmbeaaGreatDoor
namespace Go.Proofs.YtigapglmipmbeaaGreatDoor
open Go.RowKit Go.Shelf
def cellsM (ls:List L2):List Value:=ls.flatMap fun x=>[.string x.1,.string x.2]
theorem cellsM_cons (x:L2) (l:List L2):cellsM (x::l)=.string x.1::.string x.2::cellsM l:=rfl
theorem cellsM_length:∀ ls:List L2,(cellsM ls).length=ls.length*2
 | []=>rfl
 | x::l=>by rw [cellsM_cons,List.length_cons,List.length_cons,cellsM_length l,List.length_cons];omega
theorem cellsM_at:∀ {ls:List L2} {k:Nat} {x:L2},ls[k]?=some x→(cellsM ls)[k*2]?=some (.string x.1)∧(cellsM ls)[k*2+1]?=some (.string x.2)
 | [],k,x,h=>by simp at h
 | y::l,0,x,h=>by
  simp only [List.getElem?_cons_zero,Option.some.injEq] at h
  subst h
  exact ⟨rfl,rfl⟩
 | y::l,k+1,x,h=>by
  have h2:l[k]?=some x:=by simpa using h
  rw [cellsM_cons,show (k+1)*2=k*2+1+1 by omega]
  exact cellsM_at h2
theorem slice_shape {w:World} {base e size n:Nat} {v:Value} {us:List Value} (h:w.ownsRow base e size v n us):∃ A c,v=.slice A n c:=by
 rcases h.2 with ⟨e1,h0⟩|⟨g,cap,cur,e1,_⟩
 ·exact ⟨none,0,by rw [e1,h0]⟩
 ·exact ⟨_,_,e1⟩
theorem grow_nw {w W W':World} (h:NW w W) (hr:Res w) {row:Option Nat} (hg:W.grownBy W' row) (hrow:∀ r,row=some r→w.heap.size≤r):NW w W':=by
 have hb:Below w.heap.size w W':=h.below.grown hg h.below.size hrow
 exact ⟨hb,hr.below hb⟩
end Go.Proofs.YtigapglmipmbeaaGreatDoor
namespace Go.Proofs.YtigapglmipmbeaaGreatDoor
end Go.Proofs.YtigapglmipmbeaaGreatDoor
namespace Go.Proofs.YtigapglmipmbeaaGreatDoor
open Lim
section
variable {a b:Nat} {ls la lb:List L2}
end
end Go.Proofs.YtigapglmipmbeaaGreatDoor
namespace Go.Proofs.YtigapglmipmbeaaGreatDoor
open Go.RowKit Go.Shelf
def LRowW (w:World) (v:Value) (ls:List L2):Prop :=
 ∃ A c,v=.slice A ls.length c∧ls.length≤maxLen∧(0 < ls.length→∃ b o,A=some ⟨b,o,none⟩∧b < w.heap.size ∧
  ∀ (j:Nat) (x:L2),ls[j]?=some x→w.cell? ⟨b,o+j*2,none⟩=some (.string x.1)∧w.cell? ⟨b,o+j*2+1,none⟩=some (.string x.2))
theorem LRowW.below {w w':World} {v:Value} {ls:List L2} (h:LRowW w v ls) (hb:Below w.heap.size w w'):LRowW w' v ls:=by
 obtain ⟨A,c,e,h1,h2⟩:=h
 refine ⟨A,c,e,h1,fun h0=>?_⟩
 obtain ⟨b,o,e2,hlt,hc⟩:=h2 h0
 refine ⟨b,o,e2,Nat.lt_of_lt_of_le hlt hb.size,fun j x hj=>?_⟩
 obtain ⟨c0,c1⟩:=hc j x hj
 exact ⟨by rw [hb.cell (p:=⟨b,o+j*2,none⟩) hlt];exact c0,by rw [hb.cell (p:=⟨b,o+j*2+1,none⟩) hlt];exact c1⟩
theorem LRow.wide {w:World} {v:Value} {ls:List L2} (h:LRow w v ls):LRowW w v ls:=by
 obtain ⟨A,c,e,h1,h2⟩:=h
 exact ⟨A,c,e,by unfold maxLen;omega,h2⟩
theorem LRowW.row {w:World} {v:Value} {ls:List L2} (h:LRowW w v ls) (hl:ls.length≤1000):LRow w v ls:=by
 obtain ⟨A,c,e,_,h2⟩:=h
 exact ⟨A,c,e,hl,h2⟩
theorem LRowW.at {w W:World} {v:Value} {ls:List L2} (h:LRowW w v ls) (hb:Below w.heap.size w W) {k:Nat} {x:L2} (hx:ls[k]?=some x) :
  ∃ b o c,v=.slice (some ⟨b,o,none⟩) ls.length c∧b < W.heap.size∧W.cell? ⟨b,o+k*2,none⟩=some (.string x.1)∧W.cell? ⟨b,o+k*2+1,none⟩=some (.string x.2):=by
 obtain ⟨A,c,rfl,_,hc⟩:=h
 obtain ⟨b,o,rfl,hlt,hcell⟩:=hc (by have:=(List.getElem?_eq_some_iff.1 hx).1;omega)
 obtain ⟨c0,c1⟩:=hcell k x hx
 exact ⟨b,o,c,rfl,Nat.lt_of_lt_of_le hlt hb.size,by rw [hb.cell (p:=⟨b,o+k*2,none⟩) hlt];exact c0,by rw [hb.cell (p:=⟨b,o+k*2+1,none⟩) hlt];exact c1⟩
def LLRow (w:World) (v:Value) (lss:List (List L2)):Prop:=∃ b c,v=.slice (some ⟨b,0,none⟩) lss.length c∧b < w.heap.size∧lss.length≤8 ∧
 ∀ (j:Nat) (ls:List L2),lss[j]?=some ls→∃ u,w.cell? ⟨b,j,none⟩=some u∧LRowW w u ls
theorem LLRow.ofBlk {w:World} {b:Nat} {t:TypeId} {vs:List (Value × List L2)} {n c:Nat} (h:Blk w b t (vs.map (·.1)).toArray) (hn:n=vs.length) (hl:vs.length≤8) (hv:∀ x∈vs,LRowW w x.1 x.2):LLRow w (.slice (some ⟨b,0,none⟩) n c) (vs.map (·.2)):=by
 subst hn
 refine ⟨b,c,by rw [List.length_map],h.lt,by rw [List.length_map];exact hl,fun j ls hj=>?_⟩
 rw [List.getElem?_map] at hj
 cases hx:vs[j]? with
 | none=>rw [hx] at hj;cases hj
 | some x =>
  rw [hx] at hj
  cases hj
  exact ⟨x.1,by rw [h.cell];simp [hx],hv x (List.mem_of_getElem? hx)⟩
def lightD (n k p:Nat) (ls:List L2):Bool:=decide (ls.length≤n)&&ls.all fun x=>decide (x.1.size≤k)&&decide (x.2.size≤p)
theorem lightD_len {n k p:Nat} {ls:List L2} (h:¬ ls.length≤n):lightD n k p ls=false:=by unfold lightD;rw [decide_eq_false h];rfl
theorem lightD_at {n k p j:Nat} {x:L2} {ls:List L2} (hx:ls[j]?=some x) (h:¬ (x.1.size≤k∧x.2.size≤p)):lightD n k p ls=false:=by
 unfold lightD
 have:ls.all (fun x=>decide (x.1.size≤k)&&decide (x.2.size≤p))=false:=by
  rw [List.all_eq_false]
  refine ⟨x,List.mem_of_getElem? hx,?_⟩
  simp only [Bool.and_eq_true,decide_eq_true_eq]
  exact h
 rw [this,Bool.and_false]
theorem lightD_of {n k p:Nat} {ls:List L2} (h:ls.length≤n) (h2:∀ (j:Nat) x,ls[j]?=some x→x.1.size≤k∧x.2.size≤p):lightD n k p ls=true:=by
 unfold lightD
 rw [decide_eq_true h,Bool.true_and,List.all_eq_true]
 intro x hx
 obtain ⟨j,hj⟩:=List.getElem?_of_mem hx
 have:=h2 j x hj
 simp [this.1,this.2]
theorem lightD_iff {n k p:Nat} {ls:List L2}:lightD n k p ls=true↔ls.length≤n∧∀ x∈ls,x.1.size≤k∧x.2.size≤p:=by
 unfold lightD
 rw [Bool.and_eq_true,decide_eq_true_eq,List.all_eq_true]
 simp only [Bool.and_eq_true,decide_eq_true_eq]
def lightsD (n k p:Nat) (lss:List (List L2)):Bool:=lss.all (lightD n k p)
theorem lightsD_at {n k p j:Nat} {ls:List L2} {lss:List (List L2)} (hx:lss[j]?=some ls) (h:lightD n k p ls=false):lightsD n k p lss=false:=by
 unfold lightsD
 rw [List.all_eq_false]
 exact ⟨ls,List.mem_of_getElem? hx,by rw [h];decide⟩
theorem lightsD_of {n k p:Nat} {lss:List (List L2)} (h:∀ (j:Nat) ls,lss[j]?=some ls→lightD n k p ls=true):lightsD n k p lss=true:=by
 unfold lightsD
 rw [List.all_eq_true]
 intro ls hl
 obtain ⟨j,hj⟩:=List.getElem?_of_mem hl
 exact h j ls hj
end Go.Proofs.YtigapglmipmbeaaGreatDoor
namespace Go.Proofs.YtigapglmipmbeaaGreatDoor
open Lim
end Go.Proofs.YtigapglmipmbeaaGreatDoor
namespace Go.Proofs.YtigapglmipmbeaaGreatDoor
open Go.RowKit Go.Shelf
end Go.Proofs.YtigapglmipmbeaaGreatDoor
namespace Go.Proofs.YtigapglmipmbeaaGreatDoor
open Go.RowKit Go.Maps Go.Sort Go.Shelf
open Lim
def mKey (k:ByteArray):Lit:=.string k.data.toList
section
variable {w:World} {b n:Nat} {D:DataW Unit} {key s:ByteArray} (hown:w.ownsMap Tryz.prog 9 (plainElem Tryz.prog 23) b n D) (hk:key.size≤maxLen) (hs:D.atKey (mKey key) (.lit (.string []))=.lit (.string s.data.toList))
include hown hk hs
end
end Go.Proofs.YtigapglmipmbeaaGreatDoor
namespace Go.Proofs.YtigapglmipmbeaaGreatDoor
open Go.Shelf
end Go.Proofs.YtigapglmipmbeaaGreatDoor
namespace Go.Proofs.YtigapglmipmbeaaGreatDoor
open Go.RowKit Go.Maps Go.Sort Go.Shelf
end Go.Proofs.YtigapglmipmbeaaGreatDoor
namespace Go.Proofs.YtigapglmipmbeaaGreatDoor
open Go.RowKit Go.Shelf
open Lim
attribute [local go_sem] Oper.semAt_some
theorem isNaN_any (a:ByteArray) (w:World):Calls Tryz.prog 259 #[.string a] w fun e w'=>e=.returned (.bool false)∧w'=w:=by
 have TE:(a.toList==a.toList)=true:=beq_self_eq_true _
 go_enter Tryz.func259,Tryz.ntmps259
 go_wp2
 go_ret
 exact ⟨rfl,rfl⟩
def cmpK (a b:ByteArray):Int:=if ltK a b=true then -1 else if a=b then 0 else 1
theorem compareS_any (a b:ByteArray) (w:World):Calls Tryz.prog 204 #[.string a,.string b] w fun e w'=>e=.returned (.int .i64 (cmpK a b))∧w'=w:=by
 have TL:=lt_bytes a b
 have TE:=eq_bytes a b
 have TK:True:=trivial
 cases h1:ltK a b with
 | true =>
  have HR:=Lib.hid (show cmpK a b=-1 from if_pos h1)
  rw [h1] at TL
  clear TE h1
  go_enter Tryz.func204,Tryz.ntmps204
  go_wp2_with (go_at_call 259;refine (isNaN_any _ _).mono ?_;rintro e w1 ⟨rfl,rfl⟩)
  go_ret
  rw [HR.out]
  exact ⟨rfl,rfl⟩
 | false =>
  rw [h1] at TL
  by_cases h2:a=b
  ·have HR:=Lib.hid (show cmpK a b=0 by unfold cmpK;rw [if_neg (by rw [h1];decide),if_pos h2])
   rw [decide_eq_true h2] at TE
   clear h1 h2
   go_enter Tryz.func204,Tryz.ntmps204
   go_wp2_with (go_at_call 259;refine (isNaN_any _ _).mono ?_;rintro e w1 ⟨rfl,rfl⟩)
   go_ret
   rw [HR.out]
   exact ⟨rfl,rfl⟩
  ·have HR:=Lib.hid (show cmpK a b=1 by unfold cmpK;rw [if_neg (by rw [h1];decide),if_neg h2])
   rw [decide_eq_false h2] at TE
   clear h1 h2
   go_enter Tryz.func204,Tryz.ntmps204
   go_wp2_with (go_at_call 259;refine (isNaN_any _ _).mono ?_;rintro e w1 ⟨rfl,rfl⟩)
   go_ret
   rw [HR.out]
   exact ⟨rfl,rfl⟩
theorem find1_any (x:L2) (k:ByteArray) (w:World):Calls Tryz.prog 203 #[.agg #[.string x.1,.string x.2],.string k] w fun e w'=>e=.returned (.int .i64 (cmpK x.1 k))∧Below w.heap.size w w':=by
 have H:=Lib.hid (below_alloc (Below.refl w.heap.size w) (.cells #[.string x.1,.string x.2] 30))
 go_enter Tryz.func203,Tryz.ntmps203
 go_wp2_with (go_at_call 204;refine (compareS_any _ _ _).mono ?_;rintro e w1 ⟨rfl,rfl⟩)
 go_ret
 exact ⟨rfl,H.out⟩
theorem runs_find1:Runs 203:=runs_of Tryz.func203 (by kernel_rfl) (by kernel_rfl)
theorem cmpK_lt (a b:ByteArray):cmpK a b < 0↔ltK a b=true:=by
 unfold cmpK
 split
 ·rename_i h;exact ⟨fun _=>h,fun _=>by omega⟩
 ·rename_i h
  split<;>exact ⟨fun h2=>absurd h2 (by omega),fun h2=>absurd h2 h⟩
theorem cmpK_eq (a b:ByteArray):cmpK a b=0↔ltK a b=false∧a=b:=by
 unfold cmpK
 split
 ·rename_i h;exact ⟨fun h2=>absurd h2 (by omega),fun h2=>by rw [h] at h2;cases h2.1⟩
 ·rename_i h
  split
  ·rename_i h3;exact ⟨fun _=>⟨by simpa using h,h3⟩,fun _=>rfl⟩
  ·rename_i h3;exact ⟨fun h2=>absurd h2 (by omega),fun h2=>absurd h2.2 h3⟩
def AscK (ls:List L2):Prop:=∀ (i j:Nat) (x y:L2),i < j→ls[i]?=some x→ls[j]?=some y→ltK x.1 y.1=true
structure Place (ls:List L2) (k:ByteArray) (i:Nat) (b:Bool):Prop where
 le:i≤ls.length
 has:b=true→∃ x,ls[i]?=some x∧x.1=k
 hasnt:b=false→∀ x∈ls,x.1≠k
theorem bsearch_any (F:FuncId) (hrun:Runs F) (hp:∀ (x:L2) (k:ByteArray) (W:World),Calls Tryz.prog F #[.agg #[.string x.1,.string x.2],.string k] W fun e w'=>e=.returned (.int .i64 (cmpK x.1 k))∧Below W.heap.size W w') (ls:List L2) (v:Value) (k:ByteArray) (w:World) (hv:LRow w v ls) (hasc:AscK ls) (hirr:∀ a,ltK a a=false) (htr:∀ a b c,ltK a b=true→ltK b c=true→ltK a c=true) :
  Calls Tryz.prog 202 #[v,.string k,.func (.func F) #[] #[]] w fun e w'=>∃ (i:Nat) (b:Bool),e=.returned (.tuple #[.int .i64 (i:Int),.bool b])∧Place ls k i b∧Below w.heap.size w w':=by
 obtain ⟨A,c,rfl,hlen,hcells⟩:=hv
 have HCE:=Lib.hid hcells
 have HA:=Lib.hid hasc
 have HI:=Lib.hid hirr
 have HT:=Lib.hid htr
 have H0:=Lib.hid (Below.refl w.heap.size w)
 have hrn:=hrun
 unfold Runs at hrn
 have HPP:=Lib.hid hp
 clear hcells hasc hirr htr hrun hp
 go_enter Tryz.func202,Tryz.ntmps202
 go_wp2
 go_loopw [9,10] (fun v9 v10 wr=>∃ lo hi:Nat,v9=.int .i64 (lo:Int)∧v10=.int .i64 (hi:Int)∧lo≤hi∧hi≤ls.length∧Hid (Below w.heap.size w wr)∧Hid ((∀ t x,t < lo→ls[t]?=some x→ltK x.1 k=true)∧∀ t x,hi≤t→ls[t]?=some x→ltK x.1 k=false))
  (fun v9 v10 _=>(intOf v10).toNat - (intOf v9).toNat)
 case atStart=>exact ⟨0,ls.length,rfl,rfl,Nat.zero_le _,Nat.le_refl _,H0,Lib.hid ⟨fun t x h=>absurd h (by omega),fun t x h hx=>by
  rw [List.getElem?_eq_none h] at hx;cases hx⟩⟩
 case round =>
  clear H0
  obtain ⟨lo,hi,rfl,rfl,hlh,hin,HB,HE⟩:=hrel
  by_cases hlt:lo < hi
  ·obtain ⟨b,o,rfl,hbw,hcell⟩:=HCE.out (by omega)
   have hm:(lo+hi) / 2 < ls.length:=by omega
   obtain ⟨x,hx⟩:∃ x,ls[(lo+hi) / 2]?=some x:=⟨_,List.getElem?_eq_getElem hm⟩
   obtain ⟨c0,c1⟩:=hcell _ x hx
   rw [← HB.out.cell (p:=⟨b,o+(lo+hi) / 2*2,none⟩) hbw] at c0
   rw [← HB.out.cell (p:=⟨b,o+(lo+hi) / 2*2+1,none⟩) hbw] at c1
   have HX:=Lib.hid hx
   have HF:=Lib.hid (HPP.out x k wr)
   clear hcell hx hbw
   cases hc:ltK x.1 k with
   | true =>
    have d1:decide (cmpK x.1 k < 0)=true:=decide_eq_true ((cmpK_lt _ _).2 hc)
    have HC:=Lib.hid hc
    clear hc
    generalize cmpK x.1 k=z at *
    obtain ⟨f,d⟩:=x
    dsimp only at c0 c1
    have HF2:=HF.out
    clear HF
    go_wp2
    refine HF2.mono ?_
    rintro e w3 ⟨rfl,hb⟩
    have H3:=Lib.hid (HB.out.trans (hb.mono HB.out.size))
    clear hb HF2
    go_wp2
    go_roundw
    case rel=>exact ⟨(lo+hi) / 2+1,hi,by rw [show ((lo:Int)+(hi:Int)) / 2+1=(((lo+hi) / 2+1:Nat):Int) by omega],rfl,by omega,hin,H3,Lib.hid ⟨fun t y ht hy=>by
     rcases Nat.lt_or_ge t ((lo+hi) / 2) with h|h
     ·exact HT.out _ _ _ (HA.out _ _ _ _ h hy HX.out) HC.out
     ·obtain rfl:t=(lo+hi) / 2:=by omega
      rw [HX.out] at hy
      cases hy
      exact HC.out,HE.out.2⟩⟩
    case measure=>simp [intOf];omega
   | false =>
    have d1:decide (cmpK x.1 k < 0)=false:=decide_eq_false (fun h=>by rw [(cmpK_lt _ _).1 h] at hc;cases hc)
    have HC:=Lib.hid hc
    clear hc
    generalize cmpK x.1 k=z at *
    obtain ⟨f,d⟩:=x
    dsimp only at c0 c1
    have HF2:=HF.out
    clear HF
    go_wp2
    refine HF2.mono ?_
    rintro e w3 ⟨rfl,hb⟩
    have H3:=Lib.hid (HB.out.trans (hb.mono HB.out.size))
    clear hb HF2
    go_wp2
    go_roundw
    case rel=>exact ⟨lo,(lo+hi) / 2,rfl,by rw [show ((lo:Int)+(hi:Int)) / 2=(((lo+hi) / 2:Nat):Int) by omega],by omega,by omega,H3,Lib.hid ⟨HE.out.1,fun t y ht hy=>by
     rcases Nat.lt_or_ge ((lo+hi) / 2) t with h|h
     ·cases hn:ltK y.1 k
      ·rfl
      ·have:=HT.out _ _ _ (HA.out _ _ _ _ h HX.out hy) hn
       rw [HC.out] at this
       cases this
     ·obtain rfl:t=(lo+hi) / 2:=by omega
      rw [HX.out] at hy
      cases hy
      exact HC.out⟩⟩
    case measure=>simp [intOf];omega
  ·obtain rfl:hi=lo:=by omega
   by_cases hn:hi < ls.length
   ·obtain ⟨b,o,rfl,hbw,hcell⟩:=HCE.out (by omega)
    obtain ⟨x,hx⟩:∃ x,ls[hi]?=some x:=⟨_,List.getElem?_eq_getElem hn⟩
    obtain ⟨c0,c1⟩:=hcell _ x hx
    rw [← HB.out.cell (p:=⟨b,o+hi*2,none⟩) hbw] at c0
    rw [← HB.out.cell (p:=⟨b,o+hi*2+1,none⟩) hbw] at c1
    have HX:=Lib.hid hx
    have HF:=Lib.hid (HPP.out x k wr)
    have hn':(hi:Int) < (ls.length:Int):=by omega
    have HIN:=Lib.hid hin
    clear hcell hx hbw
    cases hc:(cmpK x.1 k==0) with
    | true =>
     have HC:=Lib.hid ((cmpK_eq x.1 k).1 (by simpa using hc)).2
     have HG:=Lib.hid (show Place ls k hi true from ⟨hin,fun _=>⟨x,HX.out,HC.out⟩,fun h=>by cases h⟩)
     generalize cmpK x.1 k=z at *
     obtain ⟨f,d⟩:=x
     dsimp only at c0 c1
     have HF2:=HF.out
     clear HF hn hin hlt
     go_wp2
     refine HF2.mono ?_
     rintro e w3 ⟨rfl,hb⟩
     have H3:=Lib.hid (HB.out.trans (hb.mono HB.out.size))
     clear hb HF2
     go_wp2
     go_ret2
     exact ⟨hi,true,rfl,HG.out,H3.out⟩
    | false =>
     have HG:=Lib.hid (show Place ls k hi false from ⟨hin,(fun h=>by cases h),fun _ y hy e=>by
      obtain ⟨t,ht⟩:=List.getElem?_of_mem hy
      have hxl:=HE.out.2 hi x (Nat.le_refl _) HX.out
      rcases Nat.lt_or_ge t hi with h|h
      ·have:=HE.out.1 t y h ht
       rw [e,HI.out] at this
       cases this
      ·rcases Nat.eq_or_lt_of_le h with h|h
       ·subst h
        rw [HX.out] at ht
        cases ht
        have:cmpK x.1 k=0:=(cmpK_eq _ _).2 ⟨hxl,e⟩
        rw [this] at hc
        cases hc
       ·have:=HA.out _ _ _ _ h HX.out ht
        rw [e,hxl] at this
        cases this⟩)
     generalize cmpK x.1 k=z at *
     obtain ⟨f,d⟩:=x
     dsimp only at c0 c1
     have HF2:=HF.out
     clear HF hn hin hlt
     go_wp2
     refine HF2.mono ?_
     rintro e w3 ⟨rfl,hb⟩
     have H3:=Lib.hid (HB.out.trans (hb.mono HB.out.size))
     clear hb HF2
     go_wp2
     go_ret2
     exact ⟨hi,false,rfl,HG.out,H3.out⟩
   ·have hn':¬ (hi:Int) < (ls.length:Int):=by omega
    have HG:=Lib.hid (show Place ls k hi false from ⟨hin,(fun h=>by cases h),fun _ y hy e=>by
     obtain ⟨t,ht⟩:=List.getElem?_of_mem hy
     have htl:t < ls.length:=(List.getElem?_eq_some_iff.1 ht).1
     have:=HE.out.1 t y (by omega) ht
     rw [e,HI.out] at this
     cases this⟩)
    clear hn hin hlt
    go_wp2
    go_ret2
    first
     | exact ⟨hi,false,rfl,HG.out,HB.out⟩
     | exact ⟨hi,.inl ⟨rfl,HG.out,HB.out⟩⟩
     | exact ⟨rfl,HG.out,HB.out⟩
theorem atT_at {key:ByteArray}:∀ {ls:List L2} {i:Nat} {x:L2},AscK ls→(∀ a,ltK a a=false)→ls[i]?=some x→x.1=key→atT ls key=x.2∧hasT ls key=true
 | [],i,x,_,_,h,_=>by simp at h
 | y::l,0,x,_,_,h,e=>by
  simp only [List.getElem?_cons_zero,Option.some.injEq] at h
  subst h
  unfold atT hasT
  rw [if_pos e,if_pos e]
  exact ⟨rfl,rfl⟩
 | y::l,i+1,x,ha,hi,h,e=>by
  have h2:l[i]?=some x:=by simpa using h
  have hlt:=ha 0 (i+1) y x (by omega) (by simp) h
  have hne:y.1≠key:=fun e2=>by rw [e2,← e,hi] at hlt;cases hlt
  unfold atT hasT
  rw [if_neg hne,if_neg hne]
  exact atT_at (fun a b u v hab hu hv=>ha (a+1) (b+1) u v (by omega) (by simpa using hu) (by simpa using hv)) hi h2 e
theorem ltK_irr (a:ByteArray):ltK a a=false:=decide_eq_false (List.lt_irrefl _)
theorem ltK_tr (a b c:ByteArray) (h1:ltK a b=true) (h2:ltK b c=true):ltK a c=true:=decide_eq_true (List.lt_trans (of_decide_eq_true h1) (of_decide_eq_true h2))
theorem Place.eqb {ls:List L2} {k:ByteArray} {i:Nat} {b:Bool} (h:Place ls k i b):b=hasT ls k:=by
 cases b with
 | true =>
  obtain ⟨x,hx,hk⟩:=h.has rfl
  exact (hasT_iff.2 (hk ▸ List.mem_map_of_mem (f:=(·.1)) (List.mem_of_getElem? hx))).symm
 | false =>
  cases hh:hasT ls k with
  | false=>rfl
  | true =>
   obtain ⟨x,hx,hk⟩:=List.mem_map.1 (hasT_iff.1 hh)
   exact absurd hk (h.hasnt rfl x hx)
theorem dfind_any (ls:List L2) (v:Value) (k:ByteArray) (w:World) (hv:LRow w v ls) (hasc:AscK ls) :
  Calls Tryz.prog 129 #[v,.string k] w fun e w'=>e=.returned (.tuple #[.string (atT ls k),.bool (hasT ls k)])∧Below w.heap.size w w':=by
 have HB:=Lib.hid (bsearch_any 203 runs_find1 (fun x k W=>find1_any x k W) ls v k w hv hasc ltK_irr ltK_tr)
 have HV:=Lib.hid hv
 obtain ⟨A,c,rfl,hlen,hcells⟩:=hv
 have HA:=Lib.hid hasc
 clear hcells hasc
 cases hh:hasT ls k with
 | false =>
  have HR:=Lib.hid (show atT ls k=zT from atT_none fun h=>by rw [hasT_iff.2 h] at hh;cases hh)
  have HH:=Lib.hid hh
  clear hh
  go_enter Tryz.func129,Tryz.ntmps129
  go_wp2_with (go_at_call 202;refine HB.out.mono ?_;rintro e w1 ⟨i,bb,rfl,hp,hb⟩;obtain rfl:bb=false:=(hp.eqb.trans HH.out);have H1:=Lib.hid hb;clear hp hb)
  go_ret2
  rw [HR.out]
  exact ⟨rfl,H1.out⟩
 | true =>
  have HH:=Lib.hid hh
  clear hh
  go_enter Tryz.func129,Tryz.ntmps129
  go_wp2_with (go_at_call 202;refine HB.out.mono ?_;rintro e w1 ⟨i,bb,rfl,hp,hb⟩;obtain rfl:bb=true:=(hp.eqb.trans HH.out);obtain ⟨x,hx,hk⟩:=hp.has rfl;have HR:=Lib.hid (atT_at HA.out ltK_irr hx hk).1;obtain ⟨b,o,c',e',hb2,c0,c1⟩:=HV.out.at hb hx;simp only [Value.slice.injEq,true_and] at e';obtain ⟨rfl,rfl⟩:=e';have hlt:(i:Int) < (ls.length:Int):=(by have:=(List.getElem?_eq_some_iff.1 hx).1;omega);have H1:=Lib.hid hb;clear hp hb hx hk)
  go_ret2
  rw [HR.out]
  exact ⟨rfl,H1.out⟩
theorem ascK_of {ls:List L2} (h:Asc (ls.map (·.1))):AscK ls:=by
 intro i j x y hij hx hy
 unfold Asc at h
 rw [List.pairwise_iff_getElem] at h
 obtain ⟨h1,e1⟩:=List.getElem?_eq_some_iff.1 hx
 obtain ⟨h2,e2⟩:=List.getElem?_eq_some_iff.1 hy
 have:=h i j (by simpa using h1) (by simpa using h2) hij
 simp only [List.getElem_map] at this
 rwa [e1,e2] at this
theorem ascK_chk {ls:List L2} (h:chkD ls=0):AscK ls:=ascK_of (chkD_zero h).2.2
theorem nw_num {w:World} {g:Nat} {t:TypeId} {u:Value} (h:Blk w g t #[u]):∀ W,NW w W→W.cell? ⟨g,0,none⟩=some u∧g < W.heap.size:=fun W hW=>by
 have h2:=h.below hW.below h.lt
 exact ⟨by rw [h2.cell];rfl,h2.lt⟩
theorem nw_mass {w:World} {g:Nat} {t:TypeId} {u v:Value} (h:Blk w g t #[u,v]):∀ W,NW w W→W.cell? ⟨g,0,none⟩=some u∧W.cell? ⟨g,1,none⟩=some v∧g < W.heap.size:=fun W hW=>by
 have h2:=h.below hW.below h.lt
 exact ⟨(cells2 h2).1,(cells2 h2).2,h2.lt⟩
theorem zT_small:zT.size≤270000:=by decide
theorem Short.atT {k:ByteArray}:∀ {ls:List L2},Short ls→(atT ls k).size≤270000
 | [],_=>zT_small
 | x::l,h=>by
  unfold Go.Proofs.YtigapglmipmbeaaGreatDoor.atT
  split
  ·exact (h x (by simp)).2
  ·exact Short.atT fun y hy=>h y (by simp [hy])
theorem chk2_both {a b:List L2} (h:chk2 a b=0):chkD a=0∧chkD b=0:=by
 unfold chk2 at h
 split at h
 ·rename_i h1;exact absurd h h1
 ·rename_i h1;exact ⟨Classical.byContradiction h1,h⟩
theorem resX_tup (r:XE):∃ c0 c1,resX r=.tuple #[.string c0,.int .i64 c1]:=by
 cases r
 ·exact ⟨_,_,rfl⟩
 ·exact ⟨_,_,rfl⟩
theorem delta1_any (x:L2) (k:Int) (gq gf:Nat) (q:List L2) (vq:Value) (f:ByteArray) (w:World) (hgq:Blk w gq 31 #[vq]) (hgf:Blk w gf 23 #[.string f]) (hv:LRow w vq q) (hasc:AscK q) (hsq:Short q) (hf:f.size≤270000) (hx:x.2.size≤270000) (hr:Res w) :
  Calls Tryz.prog 128 #[.int .i64 k,.agg #[.string x.1,.string x.2],.pointer (some ⟨gq,0,none⟩),.pointer (some ⟨gf,0,none⟩)] w fun e w'=>e=.returned (resX (partX f q x))∧Below w.heap.size w w':=by
 have HX:=Lib.hid (show NW w (w.alloc (.cells #[.string x.1,.string x.2] 30)) from (NW.refl hr).alloc _)
 have K0:Blk (w.alloc (.cells #[.string x.1,.string x.2] 30)) (w.heap.size) 30 #[.string x.1,.string x.2]:=by
  have:=Blk.new w 30 #[.string x.1,.string x.2]
  exact this
 have N0:=Lib.hid (NW.refl HX.out.res)
 have HF:=Lib.hid (dfind_any q vq x.1 _ (hv.below HX.out.below) hasc)
 have HM:=Lib.hid (nw_mass K0)
 have HO:=Lib.hid (hsq.atT (k:=x.1))
 have HG:=Lib.hid (nw_num (hgf.below HX.out.below hgf.lt))
 have x0:=(nw_num (hgq.below HX.out.below hgq.lt) _ N0.out).1
 have xl:=(nw_num (hgq.below HX.out.below hgq.lt) _ N0.out).2
 have HPX:=Lib.hid (show ∀ r,partX f q x=r→resX (partX f q x)=resX r from fun r h=>by rw [h])
 have HML:=Lib.hid (retMulX hf HO.out)
 have HXS:=Lib.hid hx
 obtain ⟨A',c',rfl,_,_⟩:=id hv
 obtain ⟨y,d⟩:=x
 dsimp only at HX HF HM HO x0 xl HML HXS N0
 clear hv hgq hgf hr hasc hsq hf hx K0
 cases hm:mulX f (atT q y) with
 | error n =>
  have HR:=Lib.hid (HPX.out (.error n) (by unfold partX;dsimp only;rw [hm]))
  have hz:=ne_zero (exQ_err hm)
  rw [hm] at HML
  change Hid (Ret _ _ (.tuple #[.string ⟨#[]⟩,.int .i64 (n:Int)])) at HML
  clear hm
  go_enter Tryz.func128,Tryz.ntmps128
  go_wp2_with (first
   | (go_at_call 129;refine (HF.out).mono ?_;rintro e w1 ⟨rfl,hb⟩;have N1:=Lib.hid (N0.out.later hb);clear hb;obtain ⟨g0,gl⟩:=HG.out _ N1.out)
   | (go_at_call 130;refine (HML.out _ N1.out.res).mono ?_;rintro e w2 ⟨rfl,hb⟩;have N2:=Lib.hid (N1.out.later hb);clear hb;obtain ⟨m0,m1,ml⟩:=HM.out _ N2.out))
  go_ret2
  rw [HR.out]
  exact ⟨rfl,HX.out.below.trans (N2.out.below.mono HX.out.below.size)⟩
 | ok s =>
  rw [hm] at HML
  change Hid (Ret _ _ (.tuple #[.string s,.int .i64 0])) at HML
  have HSB:=Lib.hid (retSubX HXS.out (size_ok (mulX_ok hm)))
  cases hs:subX d s with
  | error n =>
   have HR:=Lib.hid (HPX.out (.error n) (by unfold partX;dsimp only;rw [hm];dsimp only;rw [hs]))
   have hz:=ne_zero (exQ_err hs)
   rw [hs] at HSB
   change Hid (Ret _ _ (.tuple #[.string ⟨#[]⟩,.int .i64 (n:Int)])) at HSB
   clear hm hs
   go_enter Tryz.func128,Tryz.ntmps128
   go_wp2_with (first
    | (go_at_call 129;refine (HF.out).mono ?_;rintro e w1 ⟨rfl,hb⟩;have N1:=Lib.hid (N0.out.later hb);clear hb;obtain ⟨g0,gl⟩:=HG.out _ N1.out)
    | (go_at_call 130;refine (HML.out _ N1.out.res).mono ?_;rintro e w2 ⟨rfl,hb⟩;have N2:=Lib.hid (N1.out.later hb);clear hb;obtain ⟨m0,m1,ml⟩:=HM.out _ N2.out)
    | (go_at_call 117;refine (HSB.out _ N2.out.res).mono ?_;rintro e w3 ⟨rfl,hb⟩;have N3:=Lib.hid (N2.out.later hb);clear hb))
   go_ret2
   rw [HR.out]
   exact ⟨rfl,HX.out.below.trans (N3.out.below.mono HX.out.below.size)⟩
  | ok r =>
   rw [hs] at HSB
   change Hid (Ret _ _ (.tuple #[.string r,.int .i64 0])) at HSB
   have HMX:=Lib.hid (retMaxX zT_small (size_ok (subX_ok hs)))
   change Hid (Ret _ #[.string ⟨#[48]⟩,.string r] _) at HMX
   have HR:=Lib.hid (HPX.out (maxX zT r) (by unfold partX;dsimp only;rw [hm];dsimp only;rw [hs]))
   obtain ⟨c0,c1,hc⟩:=resX_tup (maxX zT r)
   rw [hc] at HR HMX
   clear hm hs hc
   go_enter Tryz.func128,Tryz.ntmps128
   go_wp2_with (first
    | (go_at_call 129;refine (HF.out).mono ?_;rintro e w1 ⟨rfl,hb⟩;have N1:=Lib.hid (N0.out.later hb);clear hb;obtain ⟨g0,gl⟩:=HG.out _ N1.out)
    | (go_at_call 130;refine (HML.out _ N1.out.res).mono ?_;rintro e w2 ⟨rfl,hb⟩;have N2:=Lib.hid (N1.out.later hb);clear hb;obtain ⟨m0,m1,ml⟩:=HM.out _ N2.out)
    | (go_at_call 117;refine (HSB.out _ N2.out.res).mono ?_;rintro e w3 ⟨rfl,hb⟩;have N3:=Lib.hid (N2.out.later hb);clear hb)
    | (go_at_call 131;refine (HMX.out _ N3.out.res).mono ?_;rintro e w4 ⟨rfl,hb⟩;have N4:=Lib.hid (N3.out.later hb);clear hb))
   go_ret2
   rw [HR.out]
   exact ⟨rfl,HX.out.below.trans (N4.out.below.mono HX.out.below.size)⟩
theorem runs_delta1:Runs 128:=runs_of Tryz.func128 (by kernel_rfl) (by kernel_rfl)
theorem partX_ne {f:ByteArray} {q:List L2} {x:L2} {n:Nat} (h:partX f q x=.error n):n≠0:=by
 unfold partX at h
 split at h
 ·rename_i h1;cases h;exact exQ_err h1
 ·split at h
  ·rename_i h1;cases h;exact exQ_err h1
  ·unfold maxX at h
   split at h
   ·rename_i h1;cases h;exact h1
   ·split at h
    ·rename_i h1;cases h;exact h1
    ·cases h
theorem partX_fine {f:ByteArray} {q:List L2} {x:L2} {s:ByteArray} (h:partX f q x=.ok s):errQ s.data.toList=0:=by
 unfold partX at h
 split at h
 ·cases h
 ·split at h
  ·cases h
  ·rename_i h1
   unfold maxX at h
   split at h
   ·cases h
   ·split at h
    ·cases h
    ·cases h
     split
     ·exact subX_ok h1
     ·exact err_zT
theorem ddelta_any (p q:List L2) (vp vq:Value) (f:ByteArray) (w:World) (hp:LRow w vp p) (hq:LRow w vq q) (sp:Short p) (sq:Short q) (hf:f.size≤270000) (hr:Res w) :
  Calls Tryz.prog 45 #[vp,vq,.string f] w fun e w'=>e=.returned (resX (deltaX p q f))∧Below w.heap.size w w':=by
 have HX:=Lib.hid (show NW w (((w.alloc (.cells #[vq] 31)).alloc (.cells #[.string f] 23)).alloc (.cells #[vp,vq] 31)) from (((NW.refl hr).alloc _).alloc _).alloc _)
 have K0:Blk (((w.alloc (.cells #[vq] 31)).alloc (.cells #[.string f] 23)).alloc (.cells #[vp,vq] 31)) (w.heap.size) 31 #[vq]:=by
  have:=Blk.new w 31 #[vq]
  exact ((this.alloc _).alloc _)
 have K1:Blk (((w.alloc (.cells #[vq] 31)).alloc (.cells #[.string f] 23)).alloc (.cells #[vp,vq] 31)) (w.heap.size+1) 23 #[.string f]:=by
  have:=Blk.new (w.alloc (.cells #[vq] 31)) 23 #[.string f]
  simp only [World.size_alloc] at this
  exact (this.alloc _)
 have K2:Blk (((w.alloc (.cells #[vq] 31)).alloc (.cells #[.string f] 23)).alloc (.cells #[vp,vq] 31)) (w.heap.size+1+1) 31 #[vp,vq]:=by
  have:=Blk.new ((w.alloc (.cells #[vq] 31)).alloc (.cells #[.string f] 23)) 31 #[vp,vq]
  simp only [World.size_alloc] at this
  exact this
 have N0:=Lib.hid (NW.refl HX.out.res)
 have hpx:=hp.below HX.out.below
 have hqx:=hq.below HX.out.below
 have HC:=Lib.hid (dchecked_any p q vp vq _ _ K2 hpx hqx sp sq HX.out.res)
 have B1:=Lib.hid (nw_num K1)
 have x0:=(nw_num (K0) _ N0.out).1
 have HP:=Lib.hid (positive_any hf)
 obtain ⟨A,c,rfl,hlen,hcells⟩:=id hp
 obtain ⟨A',c',rfl,hlen',hcells'⟩:=id hq
 by_cases h0:chk2 p q=0
 ·have HR0:=Lib.hid (show deltaX p q f=if posE f≠0 then .error (posE f) else foldX (partX f q) zT p by unfold deltaX;rw [if_neg (by simpa using h0)])
  rw [h0] at HC
  change Hid (Calls _ _ _ _ fun e w'=>e=.returned (.int .i64 0)∧_) at HC
  by_cases h1:posE f=0
  ·have HR:=Lib.hid (show deltaX p q f=foldX (partX f q) zT p by rw [HR0.out,if_neg (by simpa using h1)])
   rw [h1] at HP
   change Hid (Ret _ _ (.tuple #[.bool (posB f),.int .i64 0])) at HP
   have ha:=ascK_chk (chk2_both h0).2
   have HFD:=Lib.hid (fun W (hW:NW _ W) =>
    dfold_any 128 #[.pointer (some ⟨w.heap.size,0,none⟩),.pointer (some ⟨w.heap.size+1,0,none⟩)] runs_delta1 (partX f q) p _ W (hpx.below hW.below) hW.res (fun x n h=>partX_ne h) (fun x hx s h=>partX_fine h)
     (fun k x hx W2 hW2 hr2=>delta1_any x k _ _ q _ f W2 ((K0.below hW.below K0.lt).below hW2 (K0.below hW.below K0.lt).lt) ((K1.below hW.below K1.lt).below hW2 (K1.below hW.below K1.lt).lt) ((hqx.below hW.below).below hW2) ha sq hf (sp x (List.mem_of_getElem? hx)).2 hr2))
   obtain ⟨r0,r1,hc⟩:=resX_tup (foldX (partX f q) zT p)
   rw [hc] at HFD
   have HR2:=Lib.hid (show resX (deltaX p q f)=.tuple #[.string r0,.int .i64 r1] by rw [HR.out,hc])
   clear K0 K1 K2 hpx hqx hp hq sp sq hf hr h0 h1 ha hc hcells hcells'
   go_enter Tryz.func45,Tryz.ntmps45
   go_wp2_with (first
    | (go_at_call 112;refine (HC.out).mono ?_;rintro e w1 ⟨rfl,hb⟩;have N1:=Lib.hid (N0.out.later hb);clear hb;obtain ⟨f0,fl⟩:=B1.out _ N1.out)
    | (go_at_call 106;refine (HP.out _ N1.out.res).mono ?_;rintro e w2 ⟨rfl,hb⟩;have N2:=Lib.hid (N1.out.later hb);clear hb)
    | (go_at_call 122;refine (HFD.out _ N2.out).mono ?_;rintro e w3 ⟨rfl,hb⟩;have N3:=Lib.hid (N2.out.later hb);clear hb))
   go_ret2
   rw [HR2.out]
   exact ⟨rfl,HX.out.below.trans (N3.out.below.mono HX.out.below.size)⟩
  ·have HR:=Lib.hid (show deltaX p q f=.error (posE f) by rw [HR0.out,if_pos h1])
   have hm:=ne_zero h1
   clear K0 K1 K2 hpx hqx hp hq sp sq hf hr h0 h1 hcells hcells'
   go_enter Tryz.func45,Tryz.ntmps45
   go_wp2_with (first
    | (go_at_call 112;refine (HC.out).mono ?_;rintro e w1 ⟨rfl,hb⟩;have N1:=Lib.hid (N0.out.later hb);clear hb;obtain ⟨f0,fl⟩:=B1.out _ N1.out)
    | (go_at_call 106;refine (HP.out _ N1.out.res).mono ?_;rintro e w2 ⟨rfl,hb⟩;have N2:=Lib.hid (N1.out.later hb);clear hb))
   go_ret2
   rw [HR.out]
   exact ⟨rfl,HX.out.below.trans (N2.out.below.mono HX.out.below.size)⟩
 ·have HR:=Lib.hid (show deltaX p q f=.error (chk2 p q) by unfold deltaX;rw [if_pos h0])
  have hm:=ne_zero h0
  clear K0 K1 K2 hpx hqx hp hq sp sq hf hr h0 hcells hcells'
  go_enter Tryz.func45,Tryz.ntmps45
  go_wp2_with (go_at_call 112;refine (HC.out).mono ?_;rintro e w1 ⟨rfl,hb⟩;have N1:=Lib.hid (N0.out.later hb);clear hb)
  go_ret2
  rw [HR.out]
  exact ⟨rfl,HX.out.below.trans (N1.out.below.mono HX.out.below.size)⟩
end Go.Proofs.YtigapglmipmbeaaGreatDoor
namespace Go.Proofs.YtigapglmipmbeaaGreatDoor
open Go.RowKit Go.Maps Go.Sort Go.Shelf
open Lim
attribute [local go_sem] Oper.semAt_some
theorem short_cons {x:L2} {l:List L2}:Short (x::l)↔(x.1.size≤270000∧x.2.size≤270000)∧Short l:=by
 unfold Short
 constructor
 ·intro h;exact ⟨h x (by simp),fun y hy=>h y (by simp [hy])⟩
 ·rintro ⟨h1,h2⟩ y hy
  rcases List.mem_cons.1 hy with rfl|hy
  ·exact h1
  ·exact h2 y hy
theorem Short.ins:∀ {a b:List L2} {x:L2},insX a x=.ok b→Short a→x.1.size≤270000∧x.2.size≤270000→Short b
 | [],b,x,h,_,hx=>by cases h;exact short_cons.2 ⟨hx,fun _ h=>by cases h⟩
 | y::l,b,x,h,ha,hx=>by
  obtain ⟨h1,h2⟩:=short_cons.1 ha
  unfold insX at h
  split at h
  ·split at h
   ·cases h
   ·rename_i m hm
    cases h
    exact short_cons.2 ⟨h1,Short.ins hm h2 hx⟩
  ·split at h
   ·split at h
    ·cases h
    ·rename_i s hs
     cases h
     exact short_cons.2 ⟨⟨h1.1,size_ok (plX_ok hs)⟩,h2⟩
   ·cases h
    exact short_cons.2 ⟨hx,ha⟩
end Go.Proofs.YtigapglmipmbeaaGreatDoor
