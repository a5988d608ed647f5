/- The reference's losses (printed by mklref.py). The reference's sums and comparisons of losses (printed by mklref2.py). The door of a function that defers ends, inside the wide fence. loss.Late, where no number on the way is too long. The reference's Group and Late (printed by mklref3.py). Texts of given numbers, by reckoning; the examples of losses in plain rationals. The examples of losses that each statement asks first. The statements' lives and light (printed by mkllives.py). LossGroups, as a walk (printed by mkgrp.py). (printed by mkrangep.py) A range over a function whose yields come in a known order; what holds in memory may speak of what has come. dist: the pairs of outcomes, and their iterator (printed by mkdprod.py). dist.Product (printed by mkdprod.py). The statements' Pick. kit.Has on the bytes of a string; what Product gives (printed by mkdlaw5.py). LossAdds: what the sum of two losses gives of products; no program in sight. The reference 08: scaled, Mix (printed by mkdref4.py). The reference 08: Product (printed by mkdref6.py). LossAdds, as a walk (printed by mkadd.py). kit.Own of masses and strings; Point (printed by mkdmk.py). Own and light of losses; the reference's Sum and Holds (printed by mkrests2.py). The examples that each statement of chapter 10 asks first (printed by mkmlaws.py). MomentDeltas, as a walk (printed by mkmomd.py). Opening and shutting an argument that is a loss. -/
import Derived.Test.YtigapglmipmbeaaGreatDoorLwMomentDeltas16
import Derived.Test.YtigapglmipmbeaaGreatDoorLwMomentDeltas14
import Derived.Test.YtigapglmipmbeaaGreatDoorLwMomentDeltas02
import Derived.RecoverIn
import Derived.TacticsInMore
import Derived.Test.YtigapglmipmbeaaGreatDoorLwMomentDeltas10
import Derived.Test.YtigapglmipmbeaaGreatDoorLwMomentDeltas18
import Derived.Test.YtigapglmipmbeaaGreatDoorLwMomentDeltas11
import Derived.Maps.OwnIn
import Derived.Test.YtigapglmipmbeaaGreatDoorLwMomentDeltas01
import Derived.Lib.ConvBytes
import Derived.Test.YtigapglmipmbeaaGreatDoorLwMomentDeltas17
import Derived.ProofKit
import Derived.OpenShut
import Derived.ShutString
import Derived.ChangeOld
import Derived.ChangeSame
set_option maxRecDepth 100000
set_option maxHeartbeats 16000000
namespace Go.Proofs.YtigapglmipmbeaaGreatDoor
open Go.RowKit Go.Shelf
open Lim
structure At1 (w:World) (t1:TypeId) (c1:Array Value) (W:World):Prop where
 a:Blk W w.heap.size t1 c1
 res:Res W
 below:Below w.heap.size w W
theorem At1.later {w W W':World} {t1:TypeId} {c1:Array Value} (h:At1 w t1 c1 W) (hb:Below W.heap.size W W'):At1 w t1 c1 W' :=
 ⟨h.a.below hb h.a.lt,h.res.below hb,h.below.trans (hb.mono h.below.size)⟩
theorem At1.new (w:World) (t1:TypeId) (c1:Array Value) (hr:Res w):At1 w t1 c1 (w.alloc (.cells c1 t1)) :=
 ⟨Blk.new w t1 c1,hr.below (below_alloc (Below.refl _ _) _),below_alloc (Below.refl _ _) _⟩
theorem rat_any {a b:ByteArray} {p q:Rat} (w:World) (ha:IsT a p) (hb:IsT b q) :
  Calls Tryz.prog 146 #[.string a,.string b] w fun e w'=>e=.returned (.bool (decide (cmpQ p q≤0)))∧Below w.heap.size w w':=by
 have HC:=Lib.hid (rcmpT w ha hb)
 generalize cmpQ p q=x at *
 clear ha hb
 go_enter Tryz.func146,Tryz.ntmps146
 go_wp2_with (go_at_call 119;refine HC.out.mono ?_;rintro e w1 ⟨rfl,hb⟩;have HB:=Lib.hid hb;clear hb)
 go_ret
 exact ⟨rfl,HB.out⟩
theorem rcheck_f (f d:ByteArray) (w:World) (h1:f.size≤270000) (_h2:d.size≤270000) (hr:Res w) (he:errQ f.data.toList≠0) :
  Calls Tryz.prog 145 #[.agg #[.string f,.string d]] w fun e w'=>e=.returned (.int .i64 (errQ f.data.toList:Int))∧Below w.heap.size w w':=by
 have H:=Lib.hid (At1.new w 63 #[.string f,.string d] hr)
 have HF:=Lib.hid (fun w=>refCheck_any f w h1)
 obtain ⟨z,hz⟩:∃ z:Int,(errQ f.data.toList:Int)=z:=⟨_,rfl⟩
 rw [hz] at HF ⊢
 have hne:(z==0)=false:=by rw [beq_eq_false_iff_ne];omega
 clear h1 hr he hz
 go_enter Tryz.func145,Tryz.ntmps145
 go_wp2_with (go_at_call 219;refine (HF.out _).mono ?_;rintro e w1 ⟨rfl,hb⟩;have H1:=Lib.hid (H.out.later hb);obtain ⟨p0,p1⟩:=cells2 H1.out.a;clear hb)
 go_ret
 exact ⟨rfl,H1.out.below⟩
theorem rcheck_d (f d:ByteArray) (w:World) (h1:f.size≤270000) (h2:d.size≤270000) (hr:Res w) (he1:errQ f.data.toList=0) (he:errQ d.data.toList≠0) :
  Calls Tryz.prog 145 #[.agg #[.string f,.string d]] w fun e w'=>e=.returned (.int .i64 (errQ d.data.toList:Int))∧Below w.heap.size w w':=by
 have H:=Lib.hid (At1.new w 63 #[.string f,.string d] hr)
 have HF:=Lib.hid (fun w=>refCheck_any f w h1)
 have HD:=Lib.hid (fun w=>refCheck_any d w h2)
 rw [he1] at HF
 obtain ⟨z,hz⟩:∃ z:Int,(errQ d.data.toList:Int)=z:=⟨_,rfl⟩
 rw [hz] at HD ⊢
 have hne:(z==0)=false:=by rw [beq_eq_false_iff_ne];omega
 have TK1:True:=trivial
 clear h1 h2 hr he he1 hz
 go_enter Tryz.func145,Tryz.ntmps145
 go_wp2_with (first
  | (clear TK1;go_at_call 219;refine (HF.out _).mono ?_;rintro e w1 ⟨rfl,hb⟩;have H1:=Lib.hid (H.out.later hb);obtain ⟨p0,p1⟩:=cells2 H1.out.a;clear hb)
  | (go_at_call 219;refine (HD.out _).mono ?_;rintro e w2 ⟨rfl,hb⟩;have H2:=Lib.hid (H1.out.later hb);obtain ⟨q0,q1⟩:=cells2 H2.out.a;clear hb))
 go_ret
 exact ⟨rfl,H2.out.below⟩
theorem rcheck_1 (f d:ByteArray) (w:World) (h1:f.size≤270000) (h2:d.size≤270000) (hr:Res w) (F D:Rat) (hf:IsT f F) (hd:IsT d D) (b1:decide (cmpQ 1 F≤0)=false) :
  Calls Tryz.prog 145 #[.agg #[.string f,.string d]] w fun e w'=>e=.returned (.int .i64 2)∧Below w.heap.size w w':=by
 have H:=Lib.hid (At1.new w 63 #[.string f,.string d] hr)
 have HF:=Lib.hid (fun w=>refCheck_any f w h1)
 have HD:=Lib.hid (fun w=>refCheck_any d w h2)
 rw [hf.err] at HF
 rw [hd.err] at HD
 have HA1:=Lib.hid (fun w=>rat_any w IsT.one hf)
 rw [b1] at HA1
 have TK1:True:=trivial
 have TK2:True:=trivial
 have TK3:True:=trivial
 clear h1 h2 hr hf hd b1
 go_enter Tryz.func145,Tryz.ntmps145
 go_wp2_with (first
  | (clear TK1;go_at_call 219;refine (HF.out _).mono ?_;rintro e w1 ⟨rfl,hb⟩;have H1:=Lib.hid (H.out.later hb);obtain ⟨p0,p1⟩:=cells2 H1.out.a;clear hb)
  | (go_at_call 219;refine (HD.out _).mono ?_;rintro e w2 ⟨rfl,hb⟩;have H2:=Lib.hid (H1.out.later hb);obtain ⟨q0,q1⟩:=cells2 H2.out.a;clear hb)
  | (clear TK2;go_at_call 146;refine (HA1.out _).mono ?_;rintro e w3 ⟨rfl,hb⟩;have H3:=Lib.hid (H2.out.later hb);obtain ⟨r0,r1⟩:=cells2 H3.out.a;clear hb))
 go_ret
 exact ⟨rfl,H3.out.below⟩
theorem rcheck_2 (f d:ByteArray) (w:World) (h1:f.size≤270000) (h2:d.size≤270000) (hr:Res w) (F D:Rat) (hf:IsT f F) (hd:IsT d D) (b1:decide (cmpQ 1 F≤0)=true) (b2:decide (cmpQ 0 D≤0)=false) :
  Calls Tryz.prog 145 #[.agg #[.string f,.string d]] w fun e w'=>e=.returned (.int .i64 2)∧Below w.heap.size w w':=by
 have H:=Lib.hid (At1.new w 63 #[.string f,.string d] hr)
 have HF:=Lib.hid (fun w=>refCheck_any f w h1)
 have HD:=Lib.hid (fun w=>refCheck_any d w h2)
 rw [hf.err] at HF
 rw [hd.err] at HD
 have HA1:=Lib.hid (fun w=>rat_any w IsT.one hf)
 rw [b1] at HA1
 have HA2:=Lib.hid (fun w=>rat_any w IsT.zero hd)
 rw [b2] at HA2
 have TK1:True:=trivial
 have TK2:True:=trivial
 have TK3:True:=trivial
 clear h1 h2 hr hf hd b1 b2
 go_enter Tryz.func145,Tryz.ntmps145
 go_wp2_with (first
  | (clear TK1;go_at_call 219;refine (HF.out _).mono ?_;rintro e w1 ⟨rfl,hb⟩;have H1:=Lib.hid (H.out.later hb);obtain ⟨p0,p1⟩:=cells2 H1.out.a;clear hb)
  | (go_at_call 219;refine (HD.out _).mono ?_;rintro e w2 ⟨rfl,hb⟩;have H2:=Lib.hid (H1.out.later hb);obtain ⟨q0,q1⟩:=cells2 H2.out.a;clear hb)
  | (clear TK2;go_at_call 146;refine (HA1.out _).mono ?_;rintro e w3 ⟨rfl,hb⟩;have H3:=Lib.hid (H2.out.later hb);obtain ⟨r0,r1⟩:=cells2 H3.out.a;clear hb)
  | (clear TK3;go_at_call 146;refine (HA2.out _).mono ?_;rintro e w4 ⟨rfl,hb⟩;have H4:=Lib.hid (H3.out.later hb);obtain ⟨s0,s1⟩:=cells2 H4.out.a;clear hb))
 go_ret
 exact ⟨rfl,H4.out.below⟩
theorem rcheck_3 (f d:ByteArray) (w:World) (h1:f.size≤270000) (h2:d.size≤270000) (hr:Res w) (F D:Rat) (hf:IsT f F) (hd:IsT d D) (b1:decide (cmpQ 1 F≤0)=true) (b2:decide (cmpQ 0 D≤0)=true) (b3:decide (cmpQ D 1≤0)=false) :
  Calls Tryz.prog 145 #[.agg #[.string f,.string d]] w fun e w'=>e=.returned (.int .i64 2)∧Below w.heap.size w w':=by
 have H:=Lib.hid (At1.new w 63 #[.string f,.string d] hr)
 have HF:=Lib.hid (fun w=>refCheck_any f w h1)
 have HD:=Lib.hid (fun w=>refCheck_any d w h2)
 rw [hf.err] at HF
 rw [hd.err] at HD
 have HA1:=Lib.hid (fun w=>rat_any w IsT.one hf)
 rw [b1] at HA1
 have HA2:=Lib.hid (fun w=>rat_any w IsT.zero hd)
 rw [b2] at HA2
 have HA3:=Lib.hid (fun w=>rat_any w hd IsT.one)
 rw [b3] at HA3
 have TK1:True:=trivial
 have TK2:True:=trivial
 have TK3:True:=trivial
 clear h1 h2 hr hf hd b1 b2 b3
 go_enter Tryz.func145,Tryz.ntmps145
 go_wp2_with (first
  | (clear TK1;go_at_call 219;refine (HF.out _).mono ?_;rintro e w1 ⟨rfl,hb⟩;have H1:=Lib.hid (H.out.later hb);obtain ⟨p0,p1⟩:=cells2 H1.out.a;clear hb)
  | (go_at_call 219;refine (HD.out _).mono ?_;rintro e w2 ⟨rfl,hb⟩;have H2:=Lib.hid (H1.out.later hb);obtain ⟨q0,q1⟩:=cells2 H2.out.a;clear hb)
  | (clear TK2;go_at_call 146;refine (HA1.out _).mono ?_;rintro e w3 ⟨rfl,hb⟩;have H3:=Lib.hid (H2.out.later hb);obtain ⟨r0,r1⟩:=cells2 H3.out.a;clear hb)
  | (clear TK3;go_at_call 146;refine (HA2.out _).mono ?_;rintro e w4 ⟨rfl,hb⟩;have H4:=Lib.hid (H3.out.later hb);obtain ⟨s0,s1⟩:=cells2 H4.out.a;clear hb)
  | (go_at_call 146;refine (HA3.out _).mono ?_;rintro e w5 ⟨rfl,hb⟩;have H5:=Lib.hid (H4.out.later hb);clear hb))
 go_ret
 exact ⟨rfl,H5.out.below⟩
theorem rcheck_ok (f d:ByteArray) (w:World) (h1:f.size≤270000) (h2:d.size≤270000) (hr:Res w) (F D:Rat) (hf:IsT f F) (hd:IsT d D) (b1:decide (cmpQ 1 F≤0)=true) (b2:decide (cmpQ 0 D≤0)=true) (b3:decide (cmpQ D 1≤0)=true) :
  Calls Tryz.prog 145 #[.agg #[.string f,.string d]] w fun e w'=>e=.returned (.int .i64 0)∧Below w.heap.size w w':=by
 have H:=Lib.hid (At1.new w 63 #[.string f,.string d] hr)
 have HF:=Lib.hid (fun w=>refCheck_any f w h1)
 have HD:=Lib.hid (fun w=>refCheck_any d w h2)
 rw [hf.err] at HF
 rw [hd.err] at HD
 have HA1:=Lib.hid (fun w=>rat_any w IsT.one hf)
 rw [b1] at HA1
 have HA2:=Lib.hid (fun w=>rat_any w IsT.zero hd)
 rw [b2] at HA2
 have HA3:=Lib.hid (fun w=>rat_any w hd IsT.one)
 rw [b3] at HA3
 have TK1:True:=trivial
 have TK2:True:=trivial
 have TK3:True:=trivial
 clear h1 h2 hr hf hd b1 b2 b3
 go_enter Tryz.func145,Tryz.ntmps145
 go_wp2_with (first
  | (clear TK1;go_at_call 219;refine (HF.out _).mono ?_;rintro e w1 ⟨rfl,hb⟩;have H1:=Lib.hid (H.out.later hb);obtain ⟨p0,p1⟩:=cells2 H1.out.a;clear hb)
  | (go_at_call 219;refine (HD.out _).mono ?_;rintro e w2 ⟨rfl,hb⟩;have H2:=Lib.hid (H1.out.later hb);obtain ⟨q0,q1⟩:=cells2 H2.out.a;clear hb)
  | (clear TK2;go_at_call 146;refine (HA1.out _).mono ?_;rintro e w3 ⟨rfl,hb⟩;have H3:=Lib.hid (H2.out.later hb);obtain ⟨r0,r1⟩:=cells2 H3.out.a;clear hb)
  | (clear TK3;go_at_call 146;refine (HA2.out _).mono ?_;rintro e w4 ⟨rfl,hb⟩;have H4:=Lib.hid (H3.out.later hb);obtain ⟨s0,s1⟩:=cells2 H4.out.a;clear hb)
  | (go_at_call 146;refine (HA3.out _).mono ?_;rintro e w5 ⟨rfl,hb⟩;have H5:=Lib.hid (H4.out.later hb);clear hb))
 go_ret
 exact ⟨rfl,H5.out.below⟩
theorem le_swap (p q:Rat):decide (cmpQ p q≤0)=!decide (cmpQ q p < 0):=by
 have:=cmpQ_swap p q
 by_cases h:cmpQ q p < 0
 ·rw [decide_eq_true h,decide_eq_false (by omega)];rfl
 ·rw [decide_eq_false h,decide_eq_true (by omega)];rfl
theorem le_gt (p q:Rat):decide (cmpQ p q≤0)=!decide (cmpQ p q > 0):=by
 by_cases h:cmpQ p q > 0
 ·rw [decide_eq_true h,decide_eq_false (by omega)];rfl
 ·rw [decide_eq_false h,decide_eq_true (by omega)];rfl
theorem refLoss_any (f d:ByteArray) (w:World) (h1:f.size≤270000) (h2:d.size≤270000) (hr:Res w) :
  Calls Tryz.prog 145 #[.agg #[.string f,.string d]] w fun e w'=>e=.returned (.int .i64 (errL f d:Int))∧Below w.heap.size w w':=by
 unfold errL
 by_cases e1:errQ f.data.toList=0
 ·rw [if_neg (by omega)]
  by_cases e2:errQ d.data.toList=0
  ·rw [if_neg (by omega)]
   have hf:=IsT.of e1
   have hd:=IsT.of e2
   by_cases c1:cmpQ (valQ f.data.toList) 1 < 0
   ·rw [if_pos (.inl c1)]
    exact rcheck_1 f d w h1 h2 hr _ _ hf hd (by rw [le_swap,decide_eq_true c1];rfl)
   by_cases c2:cmpQ (valQ d.data.toList) 0 < 0
   ·rw [if_pos (.inr (.inl c2))]
    exact rcheck_2 f d w h1 h2 hr _ _ hf hd (by rw [le_swap,decide_eq_false c1];rfl) (by rw [le_swap,decide_eq_true c2];rfl)
   by_cases c3:cmpQ (valQ d.data.toList) 1 > 0
   ·rw [if_pos (.inr (.inr c3))]
    exact rcheck_3 f d w h1 h2 hr _ _ hf hd (by rw [le_swap,decide_eq_false c1];rfl) (by rw [le_swap,decide_eq_false c2];rfl) (by rw [le_gt,decide_eq_true c3];rfl)
   rw [if_neg (by omega)]
   exact rcheck_ok f d w h1 h2 hr _ _ hf hd (by rw [le_swap,decide_eq_false c1];rfl) (by rw [le_swap,decide_eq_false c2];rfl) (by rw [le_gt,decide_eq_false c3];rfl)
  ·rw [if_pos e2];exact rcheck_d f d w h1 h2 hr e1 e2
 ·rw [if_pos e1];exact rcheck_f f d w h1 h2 hr e1
section
variable {fn:Func} {tmps:Array Value} {R:Ending→World→Prop} {b n:Nat} {w:World}
end
def litB (m:Bool) (ln ld l:List UInt8) (q:Rat):Bool :=
 NForm ln&&NForm ld&&decide (dv ld≠0)&&decide ((dv ln).gcd (dv ld)=1)&&(!m || decide (dv ln≠0))&&decide (ln.length≤100)&&decide (ld.length≤100) &&
  decide (mkQ m (dv ln) (dv ld)=q)&&decide ((if m then [45] else [])++ln++(if dv ld=1 then [] else 47::ld)=l)
theorem isT_lit (m:Bool) (ln ld:List UInt8) {l:List UInt8} {q:Rat} (h:litB m ln ld l q=true):IsT ⟨l.toArray⟩ q∧Sz 100 q:=by
 unfold litB at h
 simp only [Bool.and_eq_true,decide_eq_true_eq,Bool.or_eq_true,Bool.not_eq_true'] at h
 obtain ⟨⟨⟨⟨⟨⟨⟨⟨h1,h2⟩,h3⟩,h4⟩,h5⟩,h6⟩,h7⟩,h8⟩,h9⟩:=h
 have e1:=NForm.eq h1
 have e2:=NForm.eq h2
 have hm:m=true→dv ln≠0:=fun hm=>by
  rcases h5 with h5|h5
  ·rw [hm] at h5;cases h5
  ·exact h5
 obtain ⟨p1,p2,p3⟩:=mkQ_low (m:=m) h3 h4
 have hs:Sz 100 q:=by
  rw [← h8,sz_iff (by decide),p1,p2,← Lib.decDigits_length,← Lib.decDigits_length,e1,e2]
  exact ⟨h6,h7⟩
 refine ⟨⟨?_,hs.mono (by decide)⟩,hs⟩
 rw [← h8,text_q h3 h4 hm,e1,e2,h9]
theorem t_3_2:IsT ⟨#[51,47,50]⟩ (3/2):=(isT_lit false [51] [50] (by decide +kernel)).1
end Go.Proofs.YtigapglmipmbeaaGreatDoor
namespace Go.Proofs.YtigapglmipmbeaaGreatDoor
open Go.RowKit Go.Shelf
open Lim
attribute [local go_sem] Oper.semAt_some wide_fn
end Go.Proofs.YtigapglmipmbeaaGreatDoor
namespace Go.Proofs.YtigapglmipmbeaaGreatDoor.RP
open Go.RowKit Go.Shelf Go.Proofs.YtigapglmipmbeaaGreatDoor
def ordPost {α:Type} (I:List α→World→Prop) (Ix:Code→List α→World→Prop) (xs:List α) (W:World):Exit→Act→World→Prop
 | .normal,_,W'=>KeepsOthers W W'∧I xs W'
 | .ret,_,W'=>KeepsOthers W W'∧Ix .ret xs W'
 | .exit id,_,W'=>KeepsOthers W W'∧Ix (.exit id) xs W'
 | .goto t,_,W'=>KeepsOthers W W'∧Ix (.goto t) xs W'
 | .panic _,_,_=>False
 | .outgrown,_,_=>False
def SeqOrd {α:Type} (F:Fence) (n:Nat) (P:Program) (g:Nat) (lb:Array Value) (encs:α→Array Value) (Nx:List α→α→World→Prop) (S:List α→Prop) (G:List α→World→Prop):Prop :=
 ∀ (l:Nat) (J Jx:List α→World→Prop) (W:World),(∀ pre W1,J pre W1→G pre W1)→AbidesFrom W.heap.size J→AbidesFrom W.heap.size Jx →
  (∀ pre x W1,J pre W1→Nx pre x W1→YieldAt F (n - 1) P l (encs x) W1 fun e W'=>(e=.returned (.bool true)∧J (pre++[x]) W')∨(e=.returned (.bool false)∧Jx (pre++[x]) W')) →
  J [] W →
  CallsIn F n P g (#[.func (.yield l) #[] #[]]++lb) W fun e W'=>(∃ v,e=.returned v)∧((∃ xs,S xs∧J xs W')∨(∃ pre x,Jx (pre++[x]) W'))
section
variable {F:Fence} {n:Nat} {P:Program}
def Books (rec:LoopState→Option Code→Loop) (D:Nat) (st:LoopState) (pe:Option Code) (W:World):Prop :=
 W.heap[D+1]?=some (.loop (rec st pe))∧W.heap[D]?=some (.deferred (some []))
theorem Books.abides {rec:LoopState→Option Code→Loop} {D B:Nat} {st:LoopState} {pe:Option Code} {W W':World} {row:Option Nat} (h:Books rec D st pe W) (hg:W.grownBy W' row)
  (hr:∀ r,row=some r→B≤r∧∃ o:Obj,W.heap[r]?=some o∧o.isWalk=true):Books rec D st pe W' :=
 ⟨(grownBy_keeps hg (fun r e=>(hr r e).2) h.1 rfl).trans h.1,(grownBy_keeps hg (fun r e=>(hr r e).2) h.2 rfl).trans h.2⟩
theorem Books.turned {rec:LoopState→Option Code→Loop} {D:Nat} {st:LoopState} {pe:Option Code} {W:World} (h:Books rec D st pe W) (o:Loop) :
  (W.putObj (D+1) (.loop o)).heap[D+1]?=some (.loop o)∧(W.putObj (D+1) (.loop o)).heap[D]?=some (.deferred (some []))∧Turn D W (W.putObj (D+1) (.loop o)) :=
 ⟨World.putObj_heap_same (Array.getElem?_eq_some_iff.1 h.1).1,(World.putObj_heap_other (by omega)).trans h.2,D+1,_,_,by omega,h.1,rfl,rfl⟩
theorem wpIn_range_ord {α:Type} {g:Operand} {ps:Array Tmp} {assign body:Code} {Q:Exit→Act→World→Prop} {a:Act} {w:World}
  (hro:F.round=none) (h1:1≤n) {gf:Nat} {lb:Array Value} (hg:a.eval g=.func (.func gf) #[] lb) (hFg:F.fn gf) (eg:∀ args w,(callFunc gf args).run P w=.ok (.enter gf args) w)
  {encs:α→Array Value} {Nx:List α→α→World→Prop} {S:List α→Prop} {G:List α→World→Prop} (hseq:SeqOrd F (n - 1) P gf lb encs Nx S G) (hps:∀ x,(encs x).size=ps.size)
  (I:List α→World→Prop) (Ix:Code→List α→World→Prop) (hG:∀ pre W,I pre W→G pre W) (hI:OwnFrom w.heap.size I) (hIx:∀ c,OwnFrom w.heap.size (Ix c)) (h0:I [] w)
  (hround:∀ (l:Nat) (pre:List α) (x:α) (W:World) (K:Act→World→Prop),I pre W→Nx pre x W →
   (∀ a' Wa,KeepsOthers W Wa→I pre Wa→(∀ Wb,Turn w.heap.size Wa Wb→I pre Wb→body.wpIn (F.inRound l) (n - 1 - 1) P (ordPost I Ix (pre++[x]) Wb) a' Wb)→K a' Wa) →
   assign.wpIn (F.inRound l) (n - 1 - 1) P (Exit.then K (fun _ _ _=>False)) { tmps:=(ps.zip (encs x)).foldl (fun t (p,v)=>t.setIfInBounds p v) a.tmps,defers:=[] } W)
  (hdone:∀ (D:Nat) (xs:List α) (W:World),w.heap.size≤D→S xs→I xs W→W.heap[D]?=some (.deferred (some []))→Q .normal { a with defers:={ target:=.collected D,args:=#[] }::a.defers } W)
  (hstop:∀ (D:Nat) (c:Code) (pre:List α) (x:α) (W:World),w.heap.size≤D→Ix c (pre++[x]) W→W.heap[D]?=some (.deferred (some []))→c.wpIn F n P Q { a with defers:={ target:=.collected D,args:=#[] }::a.defers } W) :
  (Code.rangeFunc g ps assign body).wpIn F n P Q a w:=by
 refine wpIn_rangeFunc ?_
 intro fn hfn
 rw [hro]
 obtain ⟨rec,hrec⟩:∃ rec:LoopState→Option Code→Loop,rec=fun st pe=>{ state:=st,pending:=pe,fn,tmps:=a.tmps,params:=ps,assign,body,defers:=w.heap.size }:=⟨_,rfl⟩
 obtain ⟨W1,hW1⟩:∃ W1,(w.alloc (.deferred (some []))).alloc (.loop (rec .ready none))=W1:=⟨_,rfl⟩
 have hb1:Books rec w.heap.size .ready none W1:=by
  subst hW1
  refine ⟨?_,(Below.heap_alloc _ _ _ (by simp)).trans (World.alloc_heap_new w _)⟩
  have:=World.alloc_heap_new (w.alloc (.deferred (some []))) (.loop (rec .ready none))
  rwa [World.size_alloc] at this
 have hI1:I [] W1:=by subst hW1;exact hI.alloc _ (hI.alloc _ h0)
 have hsz:w.heap.size≤W1.heap.size:=by subst hW1;simp;omega
 have enters:(Instr.enterLoop fn a.tmps ps assign body none).run P w=.ok (w.heap.size+1,[{ target:=.collected w.heap.size,args:=#[] }]) W1:=by
  rw [← hW1,hrec];exact run_enterLoop_outer _ _ _ _ _
 clear hW1
 have hnw:∀ {A:World} {row:Option Nat},(∀ r,row=some r→W1.heap.size≤r∧∃ o:Obj,A.heap[r]?=some o∧o.isWalk=true)→∀ r,row=some r→w.heap.size≤r∧∃ o:Obj,A.heap[r]?=some o∧o.isCells=false :=
  fun hr r e=>by obtain ⟨hB,o,ho,hw⟩:=hr r e;exact ⟨by omega,o,ho,Obj.not_cells_of_walk hw⟩
 refine ⟨w.heap.size+1,_,W1,{ target:=.fn (.func gf) lb,args:=#[.func (.yield (w.heap.size+1)) #[] #[]] },W1,gf,#[.func (.yield (w.heap.size+1)) #[] #[]]++lb,W1,enters,?_,?_,?_,fun _=>h1,?_⟩
 ·simp only [resolve,hg]
  simp [go_sem]
 ·intro f' hf';simp [Target.leads] at hf';subst hf';exact hFg
 ·simp [invoke,go_sem,eg]
 refine (hseq (w.heap.size+1) (fun pre W=>I pre W∧Books rec w.heap.size .ready none W) (fun pre W=>∃ c,Ix c pre W∧Books rec w.heap.size .done (some c) W) W1
  (fun pre W h=>hG pre W h.1)
  (fun s A A' row hs hg' hr=>⟨hI s A A' row hs.1 hg' (hnw hr),hs.2.abides hg' hr⟩)
  (fun s A A' row hs hg' hr=>by obtain ⟨c,hc,hk⟩:=hs;exact ⟨c,hIx c s A A' row hc hg' (hnw hr),hk.abides hg' hr⟩)
  ?_ ⟨hI1,hb1⟩).mono ?_
 ·rintro pre x W ⟨hi,hk⟩ hnx
  have hy:=run_yield (P:=P) (args:=encs x) hk.1 (by rw [hrec];exact hps x)
  rw [hrec] at hy
  refine ⟨fn,_,assign,body,hy,roundIn_of_wpIn hfn (hround _ pre x W _ hi hnx ?_)⟩
  clear hy
  intro a' Wa hka hia hbody
  have hka':Books rec w.heap.size .ready none Wa:=⟨hka.same _ _ hk.1 rfl,hka.same _ _ hk.2 rfl⟩
  refine ⟨_,run_beginRound hka'.1 (by rw [hrec]),?_⟩
  obtain ⟨t1,t2,t3⟩:=hka'.turned { rec .ready none with state:=.busy }
  refine wpIn_mono (hbody _ t3 (OwnFrom.turn hI hia t3)) ?_
  -- the round's end, by whatever jump
  have fin:∀ (jump:Option Code) (W3:World),KeepsOthers (Wa.putObj (w.heap.size+1) (.loop { rec .ready none with state:=.busy })) W3 →
    ∃ W4,(Instr.endRound (w.heap.size+1) jump).run P W3=.ok (.bool jump.isNone) W4∧Books rec w.heap.size (if jump.isNone then .ready else .done) jump W4∧Turn w.heap.size W3 W4:=by
   intro jump W3 hk3
   have b3:Books (fun _ _=>{ rec .ready none with state:=.busy }) w.heap.size .ready none W3:=⟨hk3.same _ _ t1 rfl,hk3.same _ _ t2 rfl⟩
   obtain ⟨u1,u2,u3⟩:=b3.turned (rec (if jump.isNone then .ready else .done) jump)
   refine ⟨_,?_,⟨u1,u2⟩,u3⟩
   have:=run_endRound (P:=P) jump b3.1
   rw [hrec] at this ⊢
   exact this
  intro e a3 W3 hp
  cases e with
  | normal=>obtain ⟨W4,r1,r2,r3⟩:=fin none W3 hp.1;exact ⟨_,_,r1,.inl ⟨rfl,OwnFrom.turn hI hp.2 r3,r2⟩⟩
  | ret=>obtain ⟨W4,r1,r2,r3⟩:=fin (some .ret) W3 hp.1;exact ⟨_,_,r1,.inr ⟨rfl,.ret,OwnFrom.turn (hIx _) hp.2 r3,r2⟩⟩
  | exit id=>obtain ⟨W4,r1,r2,r3⟩:=fin (some (.exit id)) W3 hp.1;exact ⟨_,_,r1,.inr ⟨rfl,.exit id,OwnFrom.turn (hIx _) hp.2 r3,r2⟩⟩
  | goto t=>obtain ⟨W4,r1,r2,r3⟩:=fin (some (.goto t)) W3 hp.1;exact ⟨_,_,r1,.inr ⟨rfl,.goto t,OwnFrom.turn (hIx _) hp.2 r3,r2⟩⟩
  | panic ch=>exact hp.elim
  | outgrown=>exact hp.elim
 ·rintro e W2 ⟨⟨v,rfl⟩,(⟨xs,hS,hi,hk⟩|⟨pre,x,c,hi,hk⟩)⟩
  ·have hend:=run_endLoop (P:=P) hk.1 (by rw [hrec];simp)
   obtain ⟨t1,t2,t3⟩:=hk.turned { rec .ready none with state:=.exhausted }
   rw [hrec] at hend t2 t3
   exact ⟨none,_,hend,hdone _ xs _ (Nat.le_refl _) hS (OwnFrom.turn hI hi t3) t2⟩
  ·have hend:=run_endLoop (P:=P) hk.1 (by rw [hrec];simp)
   obtain ⟨t1,t2,t3⟩:=hk.turned { rec .done (some c) with state:=.exhausted }
   rw [hrec] at hend t2 t3
   exact ⟨some c,_,hend,hstop _ c pre x _ (Nat.le_refl _) (OwnFrom.turn (hIx c) hi t3) t2⟩
end
end Go.Proofs.YtigapglmipmbeaaGreatDoor.RP
namespace Go.Proofs.YtigapglmipmbeaaGreatDoor
open Go.RowKit Go.Shelf
open Lim
attribute [local go_sem] Oper.semAt_some
end Go.Proofs.YtigapglmipmbeaaGreatDoor
namespace Go.Proofs.YtigapglmipmbeaaGreatDoor
open Go.RowKit
theorem pick_any (x n:Int) (w:World) (hn:0 < n) (_hx:-9223372036854775808≤x) (_hx2:x≤9223372036854775807) (hn2:n≤1000000) :
  Calls Tryz.prog 54 #[.int .i64 x,.int .i64 n] w fun e w'=>∃ k:Int,e=.returned (.int .i64 k)∧0≤k∧k < n∧w'=w:=by
 have h1:=Int.tmod_lt_of_pos x hn
 have h2:=Int.lt_tmod_of_pos x hn
 go_enter Tryz.func54,Tryz.ntmps54
 by_cases h:x.tmod n < 0
 ·go_wp2
  go_ret
  exact ⟨_,rfl,by omega,by omega,rfl⟩
 ·go_wp2
  go_ret
  exact ⟨_,rfl,by omega,by omega,rfl⟩
end Go.Proofs.YtigapglmipmbeaaGreatDoor
namespace Go.Proofs.YtigapglmipmbeaaGreatDoor
open Go.RowKit Go.Shelf
open Lim
attribute [local go_sem] Oper.semAt_some
end Go.Proofs.YtigapglmipmbeaaGreatDoor
namespace Go.Proofs.YtigapglmipmbeaaGreatDoor
open Lim
end Go.Proofs.YtigapglmipmbeaaGreatDoor
namespace Go.Proofs.YtigapglmipmbeaaGreatDoor
open Go.RowKit Go.Shelf
open Lim
attribute [local go_sem] Oper.semAt_some
end Go.Proofs.YtigapglmipmbeaaGreatDoor
namespace Go.Proofs.YtigapglmipmbeaaGreatDoor
open Go.RowKit Go.Shelf
open Lim
attribute [local go_sem] Oper.semAt_some wide_fn
theorem share3 {A B C:Type} (P:A→B→C→Prop) {T:Prop} (G:A→B→C→Prop) (main:(∀ a b c,P a b c→G a b c)→T) (rest:∀ a b c,P a b c→G a b c):T:=main rest
end Go.Proofs.YtigapglmipmbeaaGreatDoor
namespace Go.Proofs.YtigapglmipmbeaaGreatDoor
open Go.RowKit Go.Shelf
open Lim
attribute [local go_sem] Oper.semAt_some
end Go.Proofs.YtigapglmipmbeaaGreatDoor
namespace Go.Proofs.YtigapglmipmbeaaGreatDoor
open Go.RowKit Go.Shelf
open Lim
attribute [local go_sem] Oper.semAt_some wide_fn
theorem refLossHolds_any (f d:ByteArray) (p q:List L2) (vp vq:Value) (w:World) (hp:LRow w vp p) (hq:LRow w vq q) (sp:Short p) (sq:Short q) (h1:f.size≤270000) (h2:d.size≤270000) (hr:Res w) :
  Calls Tryz.prog 55 #[.agg #[.string f,.string d],vp,vq] w fun e w'=>e=.returned (resB (holdsR f d p q))∧Below w.heap.size w w':=by
 have N0:=Lib.hid ((NW.refl hr).alloc (.cells #[.string f,.string d] 63))
 have K0:=Lib.hid (Blk.new w 63 #[.string f,.string d])
 have HC:=Lib.hid (refLoss_any f d _ h1 h2 N0.out.res)
 have HP:=Lib.hid (fun W (hW:NW w W)=>rddelta_any p q _ _ f W (hp.below hW.below) (hq.below hW.below) sp sq h1 hW.res)
 have HQ:=Lib.hid (fun W (hW:NW w W)=>rddelta_any q p _ _ f W (hq.below hW.below) (hp.below hW.below) sq sp h1 hW.res)
 obtain ⟨A,ca,rfl,_,_⟩:=id hp
 obtain ⟨B,cb,rfl,_,_⟩:=id hq
 have TK0:True:=trivial
 have TK1:True:=trivial
 have TK2:True:=trivial
 have TK3:True:=trivial
 have TK4:True:=trivial
 clear hp hq sp sq hr
 unfold holdsR
 by_cases hL:errL f d=0
 ·rw [hL] at HC
  rw [if_neg (by omega)]
  cases hx:deltaX p q f with
  | error n =>
   rw [hx] at HP
   change Hid (∀ W (_:NW w W),Calls _ _ _ _ fun e w'=>e=.returned (.tuple #[.string ⟨#[]⟩,.int .i64 (n:Int)])∧_) at HP
   have hz:=ne_zero (deltaX_ne hx)
   have hz2:=ne_zero2 (deltaX_ne hx)
   clear hL hx h1 h2
   go_enter Tryz.func55,Tryz.ntmps55
   go_wp2_with ((clear TK0;go_at_call 145;refine (HC.out).mono ?_;rintro e w1 ⟨rfl,hb⟩;have N1:=Lib.hid (N0.out.later hb);have K1:=Lib.hid (K0.out.below hb K0.out.lt);obtain ⟨p0,p1⟩:=cells2 K1.out;clear hb))
   go_wp2_with ((clear TK1;go_at_call 102;refine (HP.out _ N1.out).mono ?_;clear p0 p1;rintro e w2 ⟨rfl,hb⟩;have N2:=Lib.hid (N1.out.later hb);have K2:=Lib.hid (K1.out.below hb K1.out.lt);obtain ⟨p0,p1⟩:=cells2 K2.out;clear hb))
   go_wp2
   go_ret2
   exact ⟨rfl,N2.out.below⟩
  | ok x =>
   rw [hx] at HP
   change Hid (∀ W (_:NW w W),Calls _ _ _ _ fun e w'=>e=.returned (.tuple #[.string x,.int .i64 0])∧_) at HP
   dsimp only
   cases hy:deltaX q p f with
   | error n =>
    rw [hy] at HQ
    change Hid (∀ W (_:NW w W),Calls _ _ _ _ fun e w'=>e=.returned (.tuple #[.string ⟨#[]⟩,.int .i64 (n:Int)])∧_) at HQ
    have hz:=ne_zero (deltaX_ne hy)
    have hz2:=ne_zero2 (deltaX_ne hy)
    clear hL hx hy h1 h2
    go_enter Tryz.func55,Tryz.ntmps55
    go_wp2_with ((clear TK0;go_at_call 145;refine (HC.out).mono ?_;rintro e w1 ⟨rfl,hb⟩;have N1:=Lib.hid (N0.out.later hb);have K1:=Lib.hid (K0.out.below hb K0.out.lt);obtain ⟨p0,p1⟩:=cells2 K1.out;clear hb))
    go_wp2_with ((clear TK1;go_at_call 102;refine (HP.out _ N1.out).mono ?_;clear p0 p1;rintro e w2 ⟨rfl,hb⟩;have N2:=Lib.hid (N1.out.later hb);have K2:=Lib.hid (K1.out.below hb K1.out.lt);obtain ⟨p0,p1⟩:=cells2 K2.out;clear hb))
    go_wp2_with ((clear TK2;go_at_call 102;refine (HQ.out _ N2.out).mono ?_;clear p0 p1;rintro e w3 ⟨rfl,hb⟩;have N3:=Lib.hid (N2.out.later hb);have K3:=Lib.hid (K2.out.below hb K2.out.lt);obtain ⟨p0,p1⟩:=cells2 K3.out;clear hb))
    go_wp2
    go_ret2
    exact ⟨rfl,N3.out.below⟩
   | ok y =>
    rw [hy] at HQ
    change Hid (∀ W (_:NW w W),Calls _ _ _ _ fun e w'=>e=.returned (.tuple #[.string y,.int .i64 0])∧_) at HQ
    have HX:=Lib.hid (fun W=>rat_any W (IsT.of (deltaX_okE hx)) (errL_zero hL).d)
    have HY:=Lib.hid (fun W=>rat_any W (IsT.of (deltaX_okE hy)) (errL_zero hL).d)
    dsimp only at HX HY ⊢
    generalize decide (cmpQ (valQ x.data.toList) (valQ d.data.toList)≤0)=bx at *
    generalize decide (cmpQ (valQ y.data.toList) (valQ d.data.toList)≤0)=by_ at *
    clear hL hx hy h1 h2
    cases bx
    ·skip
     go_enter Tryz.func55,Tryz.ntmps55
     go_wp2_with ((clear TK0;go_at_call 145;refine (HC.out).mono ?_;rintro e w1 ⟨rfl,hb⟩;have N1:=Lib.hid (N0.out.later hb);have K1:=Lib.hid (K0.out.below hb K0.out.lt);obtain ⟨p0,p1⟩:=cells2 K1.out;clear hb))
     go_wp2_with ((clear TK1;go_at_call 102;refine (HP.out _ N1.out).mono ?_;clear p0 p1;rintro e w2 ⟨rfl,hb⟩;have N2:=Lib.hid (N1.out.later hb);have K2:=Lib.hid (K1.out.below hb K1.out.lt);obtain ⟨p0,p1⟩:=cells2 K2.out;clear hb))
     go_wp2_with ((clear TK2;go_at_call 102;refine (HQ.out _ N2.out).mono ?_;clear p0 p1;rintro e w3 ⟨rfl,hb⟩;have N3:=Lib.hid (N2.out.later hb);have K3:=Lib.hid (K2.out.below hb K2.out.lt);obtain ⟨p0,p1⟩:=cells2 K3.out;clear hb))
     go_wp2_with ((clear TK3;go_at_call 146;refine (HX.out _).mono ?_;clear p0 p1;rintro e w4 ⟨rfl,hb⟩;have N4:=Lib.hid (N3.out.later hb);have K4:=Lib.hid (K3.out.below hb K3.out.lt);obtain ⟨p0,p1⟩:=cells2 K4.out;clear hb))
     go_wp2
     go_ret2
     exact ⟨rfl,N4.out.below⟩
    ·skip
     go_enter Tryz.func55,Tryz.ntmps55
     go_wp2_with ((clear TK0;go_at_call 145;refine (HC.out).mono ?_;rintro e w1 ⟨rfl,hb⟩;have N1:=Lib.hid (N0.out.later hb);have K1:=Lib.hid (K0.out.below hb K0.out.lt);obtain ⟨p0,p1⟩:=cells2 K1.out;clear hb))
     go_wp2_with ((clear TK1;go_at_call 102;refine (HP.out _ N1.out).mono ?_;clear p0 p1;rintro e w2 ⟨rfl,hb⟩;have N2:=Lib.hid (N1.out.later hb);have K2:=Lib.hid (K1.out.below hb K1.out.lt);obtain ⟨p0,p1⟩:=cells2 K2.out;clear hb))
     go_wp2_with ((clear TK2;go_at_call 102;refine (HQ.out _ N2.out).mono ?_;clear p0 p1;rintro e w3 ⟨rfl,hb⟩;have N3:=Lib.hid (N2.out.later hb);have K3:=Lib.hid (K2.out.below hb K2.out.lt);obtain ⟨p0,p1⟩:=cells2 K3.out;clear hb))
     go_wp2_with ((clear TK3;go_at_call 146;refine (HX.out _).mono ?_;clear p0 p1;rintro e w4 ⟨rfl,hb⟩;have N4:=Lib.hid (N3.out.later hb);have K4:=Lib.hid (K3.out.below hb K3.out.lt);obtain ⟨p0,p1⟩:=cells2 K4.out;clear hb))
     go_wp2_with ((clear TK4;go_at_call 146;refine (HY.out _).mono ?_;clear p0 p1;rintro e w5 ⟨rfl,hb⟩;have N5:=Lib.hid (N4.out.later hb);clear hb))
     go_wp2
     go_ret2
     exact ⟨rfl,N5.out.below⟩
 ·rw [if_pos hL]
  have hz:=ne_zero hL
  have hz2:=ne_zero2 hL
  generalize errL f d=n at *
  clear hL h1 h2
  go_enter Tryz.func55,Tryz.ntmps55
  go_wp2_with ((clear TK0;go_at_call 145;refine (HC.out).mono ?_;rintro e w1 ⟨rfl,hb⟩;have N1:=Lib.hid (N0.out.later hb);have K1:=Lib.hid (K0.out.below hb K0.out.lt);obtain ⟨p0,p1⟩:=cells2 K1.out;clear hb))
  go_wp2
  go_ret2
  exact ⟨rfl,N1.out.below⟩
end Go.Proofs.YtigapglmipmbeaaGreatDoor
namespace Go.Proofs.YtigapglmipmbeaaGreatDoor
open Go.RowKit Go.Shelf
open Lim
theorem cells8 {W:World} {g:Nat} {t:TypeId} {v0 v1 v2 v3 v4 v5 v6 v7:Value} (h:Blk W g t #[v0,v1,v2,v3,v4,v5,v6,v7]):W.cell? ⟨g,0,none⟩=some v0∧W.cell? ⟨g,1,none⟩=some v1∧W.cell? ⟨g,2,none⟩=some v2∧W.cell? ⟨g,3,none⟩=some v3 ∧
  W.cell? ⟨g,4,none⟩=some v4∧W.cell? ⟨g,5,none⟩=some v5∧W.cell? ⟨g,6,none⟩=some v6∧W.cell? ⟨g,7,none⟩=some v7 :=
 ⟨by rw [Blk.cell h];rfl,by rw [Blk.cell h];rfl,by rw [Blk.cell h];rfl,by rw [Blk.cell h];rfl,by rw [Blk.cell h];rfl,by rw [Blk.cell h];rfl,by rw [Blk.cell h];rfl,by rw [Blk.cell h];rfl⟩
theorem m_2:IsT ⟨#[50]⟩ 2:=(isT_lit false [50] [49] (by decide +kernel)).1
theorem m_3:IsT ⟨#[51]⟩ 3:=(isT_lit false [51] [49] (by decide +kernel)).1
theorem m_114:IsT ⟨#[49,49,47,52]⟩ (11/4):=(isT_lit false [49,49] [52] (by decide +kernel)).1
theorem m_18:IsT ⟨#[49,47,56]⟩ (1/8):=(isT_lit false [49] [56] (by decide +kernel)).1
theorem sz_lit {q:Rat} (h:decide (nm q < 10 ^ 60∧q.den < 10 ^ 60)=true):Sz 120 q :=
 have h2:nm q < 10 ^ 60∧q.den < 10 ^ 60:=of_decide_eq_true h
 Sz.mono (j:=60) h2 (by decide)
theorem of_cis {F L:Rat} (sf:Sz 120 F) (sl:Sz 120 L) (h:((List.range 7).all fun i=>decide (1≤ofM F L i))=true) (h0:0≤L) (h1:L≤1):CIs (txt (ofM F L)) (ofM F L) :=
 CIs.mk' (sz_ofM sf sl (by omega)) (by decide) (fun i hi=>of_decide_eq_true (List.all_eq_true.1 h i (List.mem_range.2 hi))) h0 h1
def twoT:CT:=fun i=>if i=0 then ⟨#[51,47,50]⟩ else if i=1 then ⟨#[49,49,47,52]⟩ else if i=7 then ⟨#[48]⟩ else txt (ofM 2 0) i
theorem two_txt:∀ k,k < 8→txt (ofM 2 0) k=twoT k:=by
 intro k _
 unfold twoT
 split
 ·rename_i h;subst h
  show rT (ofM 2 0 0)=_
  rw [show ofM 2 0 0=3/2 by decide +kernel]
  exact t_3_2.text.symm
 ·split
  ·rename_i h;subst h
   show rT (ofM 2 0 1)=_
   rw [show ofM 2 0 1=11/4 by decide +kernel]
   exact m_114.text.symm
  ·split
   ·rename_i h;subst h
    show rT (ofM 2 0 7)=_
    rw [show ofM 2 0 7=0 by decide +kernel]
    exact IsT.zero.text.symm
   ·rfl
theorem two_cv:cv (txt (ofM 2 0))=.agg #[.string ⟨#[51,47,50]⟩,.string ⟨#[49,49,47,52]⟩,.string (txt (ofM 2 0) 2),.string (txt (ofM 2 0) 3),.string (txt (ofM 2 0) 4),.string (txt (ofM 2 0) 5),.string (txt (ofM 2 0) 6),.string ⟨#[48]⟩]:=by
 have e0:=two_txt 0 (by omega)
 have e1:=two_txt 1 (by omega)
 have e7:=two_txt 7 (by omega)
 unfold cv
 rw [e0,e1,e7]
 rfl
theorem two_of:Ret 62 #[.string ⟨#[50]⟩,.string ⟨#[48]⟩] (.tuple #[.agg #[.string ⟨#[51,47,50]⟩,.string ⟨#[49,49,47,52]⟩,.string (txt (ofM 2 0) 2),.string (txt (ofM 2 0) 3),.string (txt (ofM 2 0) 4),.string (txt (ofM 2 0) 5),.string (txt (ofM 2 0) 6),.string ⟨#[48]⟩],.int .i64 0]):=by
 have h:=mofV m_2 (sz_lit (by decide +kernel)) (by decide +kernel) IsT.zero (sz_lit (by decide +kernel)) (by decide +kernel) (by decide +kernel)
 rwa [two_cv] at h
theorem two_to:Ret 53 #[.agg #[.string ⟨#[51,47,50]⟩,.string ⟨#[49,49,47,52]⟩,.string (txt (ofM 2 0) 2),.string (txt (ofM 2 0) 3),.string (txt (ofM 2 0) 4),.string (txt (ofM 2 0) 5),.string (txt (ofM 2 0) 6),.string ⟨#[48]⟩],.int .i64 2,.string ⟨#[51]⟩] (.tuple #[.agg #[.string ⟨#[51]⟩,.string ⟨#[49,47,56]⟩],.int .i64 0]):=by
 have sm:SzC 100 (ofM 2 0):=fun i hi=>by
  have h:((List.range 8).all fun i=>decide (nm (ofM 2 0 i) < 10 ^ 60∧(ofM 2 0 i).den < 10 ^ 60))=true:=by decide +kernel
  have h2:nm (ofM 2 0 i) < 10 ^ 60∧(ofM 2 0 i).den < 10 ^ 60:=of_decide_eq_true (List.all_eq_true.1 h i (List.mem_range.2 hi))
  exact Sz.mono (j:=60) h2 (by decide)
 have h:=mtoV (of_cis (F:=2) (L:=0) (sz_lit (by decide +kernel)) (sz_lit (by decide +kernel)) (by decide +kernel) (by decide +kernel) (by decide +kernel)) sm (by omega) m_3 (sz_lit (by decide +kernel)) (by decide +kernel) (i:=0) (by omega)
 rw [two_cv,show toM (ofM 2 0) 3 0=1/8 by decide +kernel,← m_18.text] at h
 exact h
theorem mlives_any  (w:World) (hr:Res w) :
  Calls Tryz.prog 49 #[] w fun e w'=>e=.returned (.bool true)∧Below w.heap.size w w':=by
 have D0:=Lib.hid (LW.nil hr)
 clear hr
 have TK0:True:=trivial
 have TK1:True:=trivial
 obtain ⟨t,ht⟩:∃ t,t=txt (ofM 2 0):=⟨_,rfl⟩
 have HO:=Lib.hid two_of
 have HT:=Lib.hid two_to
 rw [← ht] at HO HT
 clear ht
 go_enter Tryz.func49,Tryz.ntmps49
 go_wp2_with ((clear TK0;go_at_call 62;refine (HO.out _ D0.out.res).mono ?_;rintro e w1 ⟨rfl,hb⟩;have D1:=Lib.hid (D0.out.later hb);clear hb))
 go_wp2_with ((clear TK1;go_at_call 53;refine (HT.out _ (D1.out.push (w1.heap.size) 59 #[.string ⟨#[51,47,50]⟩,.string ⟨#[49,49,47,52]⟩,.string (t 2),.string (t 3),.string (t 4),.string (t 5),.string (t 6),.string ⟨#[48]⟩] rfl).res).mono ?_;rintro e w2 ⟨rfl,hb⟩;have D2:=Lib.hid ((D1.out.push (w1.heap.size) 59 #[.string ⟨#[51,47,50]⟩,.string ⟨#[49,49,47,52]⟩,.string (t 2),.string (t 3),.string (t 4),.string (t 5),.string (t 6),.string ⟨#[48]⟩] rfl).later hb);have CA:=D2.out.held _ (.head _);obtain ⟨a0,a1,a2,a3,a4,a5,a6,a7⟩:=cells8 CA;have al:=CA.lt;clear CA;clear hb))
 go_wp2
 go_ret
 exact ⟨rfl,(D2.out.push w2.heap.size 63 #[.string ⟨#[51]⟩,.string ⟨#[49,47,56]⟩] rfl).below⟩
end Go.Proofs.YtigapglmipmbeaaGreatDoor
namespace Go.Proofs.YtigapglmipmbeaaGreatDoor
open Go.RowKit Go.Shelf
open Lim
attribute [local go_sem] Oper.semAt_some wide_fn
theorem momentDeltas_any (a b:List L2) (va vb:Value) (f:ByteArray) (n:Int) (w:World) (ha:LRowW w va a) (hb:LRowW w vb b) (hf:f.size≤maxLen) (hn1:-9223372036854775808≤n) (hn2:n≤9223372036854775807) (hr:Res w) :
  Calls Tryz.prog 5 #[va,vb,.string f,.int .i64 n] w fun e w'=>e=.returned (.bool true)∧Below w.heap.size w w':=by
 have N0:=Lib.hid (NW.refl hr)
 have HLV:=Lib.hid (fun (w:World) hr=>mlives_any w hr)
 have HMD:=Lib.hid (fun (W:World) (hW:NW w W)=>made10_any [a,b] (.slice (some ⟨W.heap.size,0,none⟩) 2 2) (W.alloc (.cells #[va,vb] 22))
  (LLRow.ofBlk (vs:=[(va,a),(vb,b)]) (Blk.new W 22 #[va,vb]) rfl (by simp) (fun x hx=>by
   have hbw:=below_alloc hW.below (.cells #[va,vb] 22)
   simp only [List.mem_cons,List.not_mem_nil,or_false] at hx
   rcases hx with rfl|rfl
   ·exact ha.below hbw
   ·exact hb.below hbw
  )) (by simp) (hW.alloc _).res rdmake_any)
 obtain ⟨A0,c0,rfl,_,_⟩:=id ha
 obtain ⟨A1,c1,rfl,_,_⟩:=id hb
 clear ha hb hr
 have TK0:True:=trivial
 have TK1:True:=trivial
 cases hm:madeD 6 12 12 [a,b] with
 | none =>
  rw [hm] at HMD
  change Hid (∀ W (_:NW w W),Calls _ _ _ _ fun e w'=>e=.returned (.tuple #[.slice none 0 0,.bool false])∧_) at HMD
  clear hm
  go_enter Tryz.func5,Tryz.ntmps5
  go_wp2_with ((clear TK0;go_at_call 49;refine (HLV.out _ N0.out.res).mono ?_;rintro e w1 ⟨rfl,hb⟩;have N1:=Lib.hid (N0.out.later hb);clear hb))
  go_wp2_with ((clear TK1;go_at_call 50;refine (HMD.out _ N1.out).mono ?_;rintro e w2 ⟨rfl,hb⟩;have N2:=Lib.hid ((N1.out.alloc _).later hb);clear hb))
  go_wp2
  go_ret
  exact ⟨rfl,N2.out.below⟩
 | some outs =>
  obtain ⟨hol,hod⟩:=Made10.of hm
  obtain ⟨l0,l1,rfl⟩:∃ l0 l1,outs=[l0,l1]:=by
   match outs,hol with
   | [x0,x1],_=>exact ⟨x0,x1,rfl⟩
  rw [hm] at HMD
  change Hid (∀ W (_:NW w W),Calls _ _ _ _ fun e w'=>(∃ u,e=.returned (.tuple #[u,.bool true])∧LLRow w' u [l0,l1])∧_) at HMD
  have M0:=hod l0 (by simp)
  have M1:=hod l1 (by simp)
  clear hm hol hod
  have HNF:=Lib.hid (fun (W:World) (_:Res W)=>mfactor_any f W hf)
  have HPK:=Lib.hid (fun (W:World)=>pick_any n 7 W (by omega) hn1 hn2 (by omega))
  clear hn1 hn2
  have TK2:True:=trivial
  cases hnf:mfactorB f with
  | false =>
   rw [hnf] at HNF
   clear hnf M0 M1
   go_enter Tryz.func5,Tryz.ntmps5
   go_wp2_with ((clear TK0;go_at_call 49;refine (HLV.out _ N0.out.res).mono ?_;rintro e w1 ⟨rfl,hb⟩;have N1:=Lib.hid (N0.out.later hb);clear hb))
   go_wp2_with ((clear TK1;go_at_call 50;refine (HMD.out _ N1.out).mono ?_;rintro e w2 ⟨⟨u,rfl,hl⟩,hb⟩;obtain ⟨bb,cc,rfl,hbb,_,hcell⟩:=hl;have HCL:=Lib.hid (And.intro hbb hcell);have N2:=Lib.hid ((N1.out.alloc _).later hb);clear hb hbb hcell))
   obtain ⟨B0,k0,y0,rr⟩:=LLRow.nth (j:=0) (l:=l0) HCL.out.1 HCL.out.2 rfl
   have R0:=Lib.hid rr
   clear rr
   obtain ⟨B1,k1,y1,rr⟩:=LLRow.nth (j:=1) (l:=l1) HCL.out.1 HCL.out.2 rfl
   have R1:=Lib.hid rr
   clear rr
   have RS:=Lib.hid (fun z:LaterW w2=>N2.out.res.below z.h)
   clear HCL
   go_wp2_with ((clear TK2;go_at_call 51;refine (HNF.out _ (RS.out ⟨w2,Below.refl _ _⟩)).mono ?_;rintro e w9 ⟨rfl,hb9⟩;obtain ⟨z0,rfl⟩:=LaterW.step ⟨w2,Below.refl _ _⟩ hb9;clear hb9))
   go_wp2
   go_ret
   exact ⟨rfl,(N2.out.later z0.h).below⟩
  | true =>
   rw [hnf] at HNF
   obtain ⟨F,rfl,F1,sF,fF⟩:=mfactor_text hnf
   clear hnf
   have hsf:=size_ok (err_rT fF)
   have HM0:=Lib.hid M0
   have HM1:=Lib.hid M1
   by_cases h1:inX l0 l1=true∧inX l1 l0=true
   ·obtain ⟨h1,h2⟩:=h1
    obtain ⟨hci,hsz,hall⟩:=momd_all M0 M1 h1 h2 F1 sF
    have HCV:=Lib.hid (fun u v (W:World) (hu:LRow W u l0) (hv:LRow W v l1) (hr:Res W)=>curve10_any l0 l1 u v (momX l0 l1) (momX l1 l0) W hu hv M0.short M1.short M0.txt M1.txt hr (fun i hi=>⟨(mom_at M0 M1 h1 i hi).1,fits_sz.2 ((mom_at M0 M1 h1 i hi).2.1.mono (by unfold maxD;omega))⟩) (fun i hi=>⟨(mom_at M1 M0 h2 i hi).1,fits_sz.2 ((mom_at M1 M0 h2 i hi).2.1.mono (by unfold maxD;omega))⟩))
    have HTO:=Lib.hid (fun (i:Nat) (hi:i < 7) (W:World) (hr:Res W)=>mtoW hci hsz (by omega) (isT_rT fF) sF F1 hi W hr)
    have HHL:=Lib.hid (fun (i:Nat) (hi:i < 7) u v (W:World) (hu:LRow W u l0) (hv:LRow W v l1) (hr:Res W)=>refLossHolds_any (rT F) (rT (toM (curM (momX l0 l1) (momX l1 l0)) F i)) l0 l1 u v W hu hv M0.short M1.short hsf (size_ok (err_rT (hall i hi).2)) hr)
    have HHR:=Lib.hid (fun i hi=>(hall i hi).1)
    generalize toM (curM (momX l0 l1) (momX l1 l0)) F=tm at *
    clear h1 h2 hci hsz hall F1 sF fF M0 M1
    generalize txt (curM (momX l0 l1) (momX l1 l0))=cq at *
    change Hid (∀ u v (W:World) (_:LRow W u l0) (_:LRow W v l1) (_:Res W),Calls _ _ _ _ fun e w'=>e=.returned (.tuple #[.agg #[.string (cq 0),.string (cq 1),.string (cq 2),.string (cq 3),.string (cq 4),.string (cq 5),.string (cq 6),.string (cq 7)],.bool true])∧_) at HCV
    change Hid (∀ (i:Nat) (hi:i < 7) (W:World) (_:Res W),Calls _ _ #[.agg #[.string (cq 0),.string (cq 1),.string (cq 2),.string (cq 3),.string (cq 4),.string (cq 5),.string (cq 6),.string (cq 7)],.int .i64 ((i:Int)+2),.string (rT F)] _ fun e w'=>e=.returned (.tuple #[.agg #[.string (rT F),.string (rT (tm i))],.int .i64 0])∧_) at HTO
    generalize rT F=tF at *
    refine (callsIn_wide (n:=6)).1 ?_
    have h1:1≤6:=by omega
    have hmx:Tryz.prog.follows .mixedOrders=true:=by kernel_rfl
    refine callsIn_of_wp Tryz.func5 rfl trivial ?_ rfl
    simp only [Tryz.ntmps5,List.size_toArray,List.length_cons,List.length_nil,Nat.reduceAdd,Nat.reduceSub,Array.replicate_succ,Array.replicate_zero,List.push_toArray,List.append_toArray,List.nil_append,List.cons_append]
    gi_wp2_with ((clear TK0;gi_at_call 49;refine (callsIn_wide.2 (HLV.out _ N0.out.res)).mono ?_;rintro e w1 ⟨rfl,hb⟩;have N1:=Lib.hid (N0.out.later hb);clear hb))
    gi_wp2_with ((clear TK1;gi_at_call 50;refine (callsIn_wide.2 (HMD.out _ N1.out)).mono ?_;rintro e w2 ⟨⟨u,rfl,hl⟩,hb⟩;obtain ⟨bb,cc,rfl,hbb,_,hcell⟩:=hl;have HCL:=Lib.hid (And.intro hbb hcell);have N2:=Lib.hid ((N1.out.alloc _).later hb);clear hb hbb hcell))
    obtain ⟨B0,k0,y0,rr⟩:=LLRow.nth (j:=0) (l:=l0) HCL.out.1 HCL.out.2 rfl
    have R0:=Lib.hid rr
    clear rr
    obtain ⟨B1,k1,y1,rr⟩:=LLRow.nth (j:=1) (l:=l1) HCL.out.1 HCL.out.2 rfl
    have R1:=Lib.hid rr
    clear rr
    have RS:=Lib.hid (fun z:LaterW w2=>N2.out.res.below z.h)
    have HBB:=Lib.hid HCL.out.1
    clear HCL
    gi_wp2_with ((clear TK2;gi_at_call 51;refine (callsIn_wide.2 (HNF.out _ (RS.out ⟨w2,Below.refl _ _⟩))).mono ?_;rintro e w9 ⟨rfl,hb9⟩;obtain ⟨z0,rfl⟩:=LaterW.step ⟨w2,Below.refl _ _⟩ hb9;clear hb9))
    gi_wp2
    have V0:∀ x:SameAt z0.W (fun k=>k < z0.W.heap.size),x.W.cell? ⟨bb,0,none⟩=some (.slice B0 l0.length k0):=fun x=>x.cell (Nat.lt_of_lt_of_le HBB.out z0.h.size) (y0 z0)
    have V1:∀ x:SameAt z0.W (fun k=>k < z0.W.heap.size),x.W.cell? ⟨bb,1,none⟩=some (.slice B1 l1.length k1):=fun x=>x.cell (Nat.lt_of_lt_of_le HBB.out z0.h.size) (y1 z0)
    refine wpIn_stage (IsSame z0.W (fun k=>k < z0.W.heap.size)) [0,1,2,3,4,5,7,8,9] [] hmx (by kernel_rfl) (isSame_of fun _ _=>rfl) ?_
    change wpStage _ _ _ _ _ _ _ _ (7+6) _ _ _
    refine stage_reads [0,1,2,3,4,5] 7 _ _ (by kernel_rfl) ?_
    change wpQuietIn _ _ _ _ (fun W'=>∃ x:SameAt z0.W (fun k=>k < z0.W.heap.size),W'=x.W) _ _ _
    simp only [pick_cons,pick_nil,List.getElem?_cons_zero,List.getElem?_cons_succ,Option.elim_some]
    repeat (gi_big_quiet_step (fail))
    refine wpQuietIn_nil ?_
    clear V0 V1
    obtain ⟨zd,hzd⟩:=LaterW.step z0 (below_drewM z0.W)
    have HS:=Lib.hid (below_drewM z0.W)
    rw [hzd] at HS ⊢
    clear hzd
    apply share3 (fun (bx:Nat) (z:LaterW w2) (_:Nat)=>Below z0.W.heap.size z0.W z.W∧z0.W.heap.size≤bx∧CBlk z.W bx cq)
    case main =>
     intro SH
     refine stage_two 6 10 (by kernel_rfl) rfl rfl ?_ ?_
     ·skip
      gi_wp2_with (gi_at_call 52;refine (callsIn_wide.2 (HCV.out _ _ _ ((R0.out _).row (Nat.le_trans HM0.out.len (by omega))) ((R1.out _).row (Nat.le_trans HM1.out.len (by omega))) (RS.out zd))).mono ?_;rintro e w9 ⟨rfl,hb9⟩;have HS:=Lib.hid (HS.out.trans (hb9.mono HS.out.size));obtain ⟨zd,rfl⟩:=LaterW.step zd hb9;clear hb9)
      refine stage_post (isSame_below HS.out (fun k hk=>hk)) ?_
      change wpStage _ _ _ _ _ _ _ _ (3+3) _ _ _
      refine stage_reads [7,8,9] 3 _ _ (by kernel_rfl) ?_
      change wpQuietIn _ _ _ _ (fun W'=>∃ x:SameAt z0.W (fun k=>k < z0.W.heap.size),W'=x.W) _ _ _
      simp only [pick_cons,pick_nil,List.getElem?_cons_zero,List.getElem?_cons_succ,Option.elim_some]
      repeat (gi_big_quiet_step (fail))
      refine wpQuietIn_nil ?_
      refine stage_one 10 (by kernel_rfl) rfl ?_
      gi_wp2
      have hb9:=below_alloc (Below.refl zd.W.heap.size zd.W) (.cells #[.string ⟨#[]⟩,.string ⟨#[]⟩,.string ⟨#[]⟩,.string ⟨#[]⟩,.string ⟨#[]⟩,.string ⟨#[]⟩,.string ⟨#[]⟩,.string ⟨#[]⟩] 59)
      have KB:=(show CBlk (zd.W.alloc (.cells #[.string ⟨#[]⟩,.string ⟨#[]⟩,.string ⟨#[]⟩,.string ⟨#[]⟩,.string ⟨#[]⟩,.string ⟨#[]⟩,.string ⟨#[]⟩,.string ⟨#[]⟩] 59)) zd.W.heap.size zC from Blk.new zd.W 59 #[.string ⟨#[]⟩,.string ⟨#[]⟩,.string ⟨#[]⟩,.string ⟨#[]⟩,.string ⟨#[]⟩,.string ⟨#[]⟩,.string ⟨#[]⟩,.string ⟨#[]⟩])
      have lo:=HS.out.size
      have HS:=Lib.hid (HS.out.trans (hb9.mono HS.out.size))
      obtain ⟨ze,hze⟩:=LaterW.step zd hb9
      rw [hze] at KB HS ⊢
      have KB:=Lib.hid KB
      clear hb9 hze
      generalize zd.W.heap.size=bx at *
      obtain ⟨zd,rfl⟩:∃ x,x=ze:=⟨_,rfl⟩
      refine stage_post (isSame_below HS.out (fun k hk=>hk)) ?_
      obtain ⟨c0,c1,c2,c3,c4,c5,c6,c7⟩:=KB.out.cells
      obtain ⟨g0,g1,g2,g3,g4,g5,g6,g7⟩:=KB.out.frozens
      refine stage_one 11 (by kernel_rfl) rfl ?_
      gi_wp2
      have KQ:CBlk ((((((((zd.W.setCell ⟨bx,0,none⟩ (.string (cq 0))).setCell ⟨bx,1,none⟩ (.string (cq 1))).setCell ⟨bx,2,none⟩ (.string (cq 2))).setCell ⟨bx,3,none⟩ (.string (cq 3))).setCell ⟨bx,4,none⟩ (.string (cq 4))).setCell ⟨bx,5,none⟩ (.string (cq 5))).setCell ⟨bx,6,none⟩ (.string (cq 6))).setCell ⟨bx,7,none⟩ (.string (cq 7))) bx cq:=fin8_blk cq KB.out
      have HS:Below z0.W.heap.size z0.W ((((((((zd.W.setCell ⟨bx,0,none⟩ (.string (cq 0))).setCell ⟨bx,1,none⟩ (.string (cq 1))).setCell ⟨bx,2,none⟩ (.string (cq 2))).setCell ⟨bx,3,none⟩ (.string (cq 3))).setCell ⟨bx,4,none⟩ (.string (cq 4))).setCell ⟨bx,5,none⟩ (.string (cq 5))).setCell ⟨bx,6,none⟩ (.string (cq 6))).setCell ⟨bx,7,none⟩ (.string (cq 7))):=fin8_below HS.out lo cq
      refine stage_post (isSame_below HS (fun k hk=>hk)) ?_
      refine stage_one 12 (by kernel_rfl) rfl ?_
      gi_wp2
      refine stage_post (isSame_below HS (fun k hk=>hk)) ?_
      refine stage_done (by kernel_rfl) ?_
      obtain ⟨z5,hz5⟩:=LaterW.step z0 HS
      rw [hz5] at KQ HS ⊢
      obtain ⟨dd⟩:Nonempty Nat:=⟨0⟩
      exact SH _ _ dd ⟨HS,lo,KQ⟩
     ·skip
      gi_wp2
      have hb9:=below_alloc (Below.refl zd.W.heap.size zd.W) (.cells #[.string ⟨#[]⟩,.string ⟨#[]⟩,.string ⟨#[]⟩,.string ⟨#[]⟩,.string ⟨#[]⟩,.string ⟨#[]⟩,.string ⟨#[]⟩,.string ⟨#[]⟩] 59)
      have KB:=(show CBlk (zd.W.alloc (.cells #[.string ⟨#[]⟩,.string ⟨#[]⟩,.string ⟨#[]⟩,.string ⟨#[]⟩,.string ⟨#[]⟩,.string ⟨#[]⟩,.string ⟨#[]⟩,.string ⟨#[]⟩] 59)) zd.W.heap.size zC from Blk.new zd.W 59 #[.string ⟨#[]⟩,.string ⟨#[]⟩,.string ⟨#[]⟩,.string ⟨#[]⟩,.string ⟨#[]⟩,.string ⟨#[]⟩,.string ⟨#[]⟩,.string ⟨#[]⟩])
      have lo:=HS.out.size
      have HS:=Lib.hid (HS.out.trans (hb9.mono HS.out.size))
      obtain ⟨ze,hze⟩:=LaterW.step zd hb9
      rw [hze] at KB HS ⊢
      have KB:=Lib.hid KB
      clear hb9 hze
      generalize zd.W.heap.size=bx at *
      obtain ⟨zd,rfl⟩:∃ x,x=ze:=⟨_,rfl⟩
      refine stage_post (isSame_below HS.out (fun k hk=>hk)) ?_
      refine stage_one 6 (by kernel_rfl) rfl ?_
      gi_wp2_with (gi_at_call 52;refine (callsIn_wide.2 (HCV.out _ _ _ ((R0.out _).row (Nat.le_trans HM0.out.len (by omega))) ((R1.out _).row (Nat.le_trans HM1.out.len (by omega))) (RS.out zd))).mono ?_;rintro e w9 ⟨rfl,hb9⟩;have HS:=Lib.hid (HS.out.trans (hb9.mono HS.out.size));have KB:=Lib.hid (KB.out.later hb9);obtain ⟨zd,rfl⟩:=LaterW.step zd hb9;clear hb9)
      refine stage_post (isSame_below HS.out (fun k hk=>hk)) ?_
      change wpStage _ _ _ _ _ _ _ _ (2+3) _ _ _
      refine stage_reads [7,8,9] 2 _ _ (by kernel_rfl) ?_
      change wpQuietIn _ _ _ _ (fun W'=>∃ x:SameAt z0.W (fun k=>k < z0.W.heap.size),W'=x.W) _ _ _
      simp only [pick_cons,pick_nil,List.getElem?_cons_zero,List.getElem?_cons_succ,Option.elim_some]
      repeat (gi_big_quiet_step (fail))
      refine wpQuietIn_nil ?_
      obtain ⟨c0,c1,c2,c3,c4,c5,c6,c7⟩:=KB.out.cells
      obtain ⟨g0,g1,g2,g3,g4,g5,g6,g7⟩:=KB.out.frozens
      refine stage_one 11 (by kernel_rfl) rfl ?_
      gi_wp2
      have KQ:CBlk ((((((((zd.W.setCell ⟨bx,0,none⟩ (.string (cq 0))).setCell ⟨bx,1,none⟩ (.string (cq 1))).setCell ⟨bx,2,none⟩ (.string (cq 2))).setCell ⟨bx,3,none⟩ (.string (cq 3))).setCell ⟨bx,4,none⟩ (.string (cq 4))).setCell ⟨bx,5,none⟩ (.string (cq 5))).setCell ⟨bx,6,none⟩ (.string (cq 6))).setCell ⟨bx,7,none⟩ (.string (cq 7))) bx cq:=fin8_blk cq KB.out
      have HS:Below z0.W.heap.size z0.W ((((((((zd.W.setCell ⟨bx,0,none⟩ (.string (cq 0))).setCell ⟨bx,1,none⟩ (.string (cq 1))).setCell ⟨bx,2,none⟩ (.string (cq 2))).setCell ⟨bx,3,none⟩ (.string (cq 3))).setCell ⟨bx,4,none⟩ (.string (cq 4))).setCell ⟨bx,5,none⟩ (.string (cq 5))).setCell ⟨bx,6,none⟩ (.string (cq 6))).setCell ⟨bx,7,none⟩ (.string (cq 7))):=fin8_below HS.out lo cq
      refine stage_post (isSame_below HS (fun k hk=>hk)) ?_
      refine stage_one 12 (by kernel_rfl) rfl ?_
      gi_wp2
      refine stage_post (isSame_below HS (fun k hk=>hk)) ?_
      refine stage_done (by kernel_rfl) ?_
      obtain ⟨z5,hz5⟩:=LaterW.step z0 HS
      rw [hz5] at KQ HS ⊢
      obtain ⟨dd⟩:Nonempty Nat:=⟨0⟩
      exact SH _ _ dd ⟨HS,lo,KQ⟩
    case rest =>
     rintro bx z5 _ ⟨HS,lo,KQ⟩
     clear HS lo
     have KQ:=Lib.hid KQ
     gi_wp2
     have v0:∀ x:SameAt z5.W (fun k=>k < z5.W.heap.size),x.W.cell? ⟨bx,0,none⟩=some (.string (cq 0)):=fun x=>x.cell KQ.out.lt (KQ.out.cell (k:=0) (by omega))
     have v1:∀ x:SameAt z5.W (fun k=>k < z5.W.heap.size),x.W.cell? ⟨bx,1,none⟩=some (.string (cq 1)):=fun x=>x.cell KQ.out.lt (KQ.out.cell (k:=1) (by omega))
     have v2:∀ x:SameAt z5.W (fun k=>k < z5.W.heap.size),x.W.cell? ⟨bx,2,none⟩=some (.string (cq 2)):=fun x=>x.cell KQ.out.lt (KQ.out.cell (k:=2) (by omega))
     have v3:∀ x:SameAt z5.W (fun k=>k < z5.W.heap.size),x.W.cell? ⟨bx,3,none⟩=some (.string (cq 3)):=fun x=>x.cell KQ.out.lt (KQ.out.cell (k:=3) (by omega))
     have v4:∀ x:SameAt z5.W (fun k=>k < z5.W.heap.size),x.W.cell? ⟨bx,4,none⟩=some (.string (cq 4)):=fun x=>x.cell KQ.out.lt (KQ.out.cell (k:=4) (by omega))
     have v5:∀ x:SameAt z5.W (fun k=>k < z5.W.heap.size),x.W.cell? ⟨bx,5,none⟩=some (.string (cq 5)):=fun x=>x.cell KQ.out.lt (KQ.out.cell (k:=5) (by omega))
     have v6:∀ x:SameAt z5.W (fun k=>k < z5.W.heap.size),x.W.cell? ⟨bx,6,none⟩=some (.string (cq 6)):=fun x=>x.cell KQ.out.lt (KQ.out.cell (k:=6) (by omega))
     have v7:∀ x:SameAt z5.W (fun k=>k < z5.W.heap.size),x.W.cell? ⟨bx,7,none⟩=some (.string (cq 7)):=fun x=>x.cell KQ.out.lt (KQ.out.cell (k:=7) (by omega))
     refine wpIn_stage (IsSame z5.W (fun k=>k < z5.W.heap.size)) [0,1,3,4,6,7,8] [] hmx (by kernel_rfl) (isSame_of fun _ _=>rfl) ?_
     change wpStage _ _ _ _ _ _ _ _ (9+3) _ _ _
     refine stage_reads [0,1,4] 9 _ _ (by kernel_rfl) ?_
     change wpQuietIn _ _ _ _ (fun W'=>∃ x:SameAt z5.W (fun k=>k < z5.W.heap.size),W'=x.W) _ _ _
     simp only [pick_cons,pick_nil,List.getElem?_cons_zero,List.getElem?_cons_succ,Option.elim_some]
     repeat (gi_big_quiet_step (fail))
     refine wpQuietIn_nil ?_
     clear v0 v1 v2 v3 v4 v5 v6 v7
     obtain ⟨zd,hzd⟩:=LaterW.step z5 (below_drewM z5.W)
     have HS:=Lib.hid (below_drewM z5.W)
     rw [hzd] at HS ⊢
     clear hzd KQ
     apply share3 (fun (bz:Nat) (z:LaterW w2) (j:Nat)=>j < 7∧Below z5.W.heap.size z5.W z.W∧z5.W.heap.size≤bz∧Blk z.W bz 63 #[.string tF,.string (rT (tm j))])
     case main =>
      intro SH
      refine stage_two 2 9 (by kernel_rfl) rfl rfl ?_ ?_
      ·skip
       gi_wp2_with (gi_at_call 54;refine (callsIn_wide.2 (HPK.out _)).mono ?_;rintro e w9 ⟨j,rfl,j0,j7,hw⟩;replace hw:=hw.symm;subst hw)
       obtain ⟨i,rfl⟩:=Int.eq_ofNat_of_zero_le j0
       have hi7:i < 7:=by omega
       refine stage_post (isSame_below HS.out (fun k hk=>hk)) ?_
       change wpStage _ _ _ _ _ _ _ _ (7+1) _ _ _
       refine stage_reads [3] 7 _ _ (by kernel_rfl) ?_
       change wpQuietIn _ _ _ _ (fun W'=>∃ x:SameAt z5.W (fun k=>k < z5.W.heap.size),W'=x.W) _ _ _
       simp only [pick_cons,pick_nil,List.getElem?_cons_zero,List.getElem?_cons_succ,Option.elim_some]
       repeat (gi_big_quiet_step (fail))
       refine wpQuietIn_nil ?_
       refine stage_two 5 9 (by kernel_rfl) rfl rfl ?_ ?_
       ·skip
        have HT:=Lib.hid (HTO.out i hi7)
        have e2:(i:Int)+2=2+(i:Int):=by omega
        rw [e2] at HT
        clear e2
        gi_wp2_with (gi_at_call 53;refine (callsIn_wide.2 (HT.out _ (RS.out zd))).mono ?_;rintro e w9 ⟨rfl,hb9⟩;have HS:=Lib.hid (HS.out.trans (hb9.mono HS.out.size));obtain ⟨zd,rfl⟩:=LaterW.step zd hb9;clear hb9)
        refine stage_post (isSame_below HS.out (fun k hk=>hk)) ?_
        change wpStage _ _ _ _ _ _ _ _ (3+3) _ _ _
        refine stage_reads [6,7,8] 3 _ _ (by kernel_rfl) ?_
        change wpQuietIn _ _ _ _ (fun W'=>∃ x:SameAt z5.W (fun k=>k < z5.W.heap.size),W'=x.W) _ _ _
        simp only [pick_cons,pick_nil,List.getElem?_cons_zero,List.getElem?_cons_succ,Option.elim_some]
        repeat (gi_big_quiet_step (fail))
        refine wpQuietIn_nil ?_
        refine stage_one 9 (by kernel_rfl) rfl ?_
        gi_wp2
        have hb9:=below_alloc (Below.refl zd.W.heap.size zd.W) (.cells #[.string ⟨#[]⟩,.string ⟨#[]⟩] 63)
        have KB:=Blk.new zd.W 63 #[.string ⟨#[]⟩,.string ⟨#[]⟩]
        have lo:=HS.out.size
        have HS:=Lib.hid (HS.out.trans (hb9.mono HS.out.size))
        obtain ⟨ze,hze⟩:=LaterW.step zd hb9
        rw [hze] at KB HS ⊢
        have KB:=Lib.hid KB
        clear hb9 hze
        generalize zd.W.heap.size=bz at *
        obtain ⟨zd,rfl⟩:∃ x,x=ze:=⟨_,rfl⟩
        refine stage_post (isSame_below HS.out (fun k hk=>hk)) ?_
        obtain ⟨p0,p1⟩:=cells2 KB.out
        have f0:=KB.out.frozen 0
        have f1:=KB.out.frozen 1
        refine stage_one 10 (by kernel_rfl) rfl ?_
        gi_wp2
        have KR:=(KB.out.set_ 0 (.string tF)).set_ 1 (.string (rT (tm i)))
        have HS:=(HS.out.setCell (p:=⟨bz,0,none⟩) lo (.string tF)).setCell (p:=⟨bz,1,none⟩) lo (.string (rT (tm i)))
        refine stage_post (isSame_below HS (fun k hk=>hk)) ?_
        refine stage_one 11 (by kernel_rfl) rfl ?_
        gi_wp2
        refine stage_post (isSame_below HS (fun k hk=>hk)) ?_
        refine stage_done (by kernel_rfl) ?_
        obtain ⟨z8,hz8⟩:=LaterW.step z5 HS
        rw [hz8] at KR HS ⊢
        exact SH _ _ _ ⟨hi7,HS,lo,KR⟩
       ·skip
        gi_wp2
        have hb9:=below_alloc (Below.refl zd.W.heap.size zd.W) (.cells #[.string ⟨#[]⟩,.string ⟨#[]⟩] 63)
        have KB:=Blk.new zd.W 63 #[.string ⟨#[]⟩,.string ⟨#[]⟩]
        have lo:=HS.out.size
        have HS:=Lib.hid (HS.out.trans (hb9.mono HS.out.size))
        obtain ⟨ze,hze⟩:=LaterW.step zd hb9
        rw [hze] at KB HS ⊢
        have KB:=Lib.hid KB
        clear hb9 hze
        generalize zd.W.heap.size=bz at *
        obtain ⟨zd,rfl⟩:∃ x,x=ze:=⟨_,rfl⟩
        refine stage_post (isSame_below HS.out (fun k hk=>hk)) ?_
        refine stage_one 5 (by kernel_rfl) rfl ?_
        have HT:=Lib.hid (HTO.out i hi7)
        have e2:(i:Int)+2=2+(i:Int):=by omega
        rw [e2] at HT
        clear e2
        gi_wp2_with (gi_at_call 53;refine (callsIn_wide.2 (HT.out _ (RS.out zd))).mono ?_;rintro e w9 ⟨rfl,hb9⟩;have HS:=Lib.hid (HS.out.trans (hb9.mono HS.out.size));have KB:=Lib.hid (KB.out.below hb9 KB.out.lt);obtain ⟨zd,rfl⟩:=LaterW.step zd hb9;clear hb9)
        refine stage_post (isSame_below HS.out (fun k hk=>hk)) ?_
        change wpStage _ _ _ _ _ _ _ _ (2+3) _ _ _
        refine stage_reads [6,7,8] 2 _ _ (by kernel_rfl) ?_
        change wpQuietIn _ _ _ _ (fun W'=>∃ x:SameAt z5.W (fun k=>k < z5.W.heap.size),W'=x.W) _ _ _
        simp only [pick_cons,pick_nil,List.getElem?_cons_zero,List.getElem?_cons_succ,Option.elim_some]
        repeat (gi_big_quiet_step (fail))
        refine wpQuietIn_nil ?_
        obtain ⟨p0,p1⟩:=cells2 KB.out
        have f0:=KB.out.frozen 0
        have f1:=KB.out.frozen 1
        refine stage_one 10 (by kernel_rfl) rfl ?_
        gi_wp2
        have KR:=(KB.out.set_ 0 (.string tF)).set_ 1 (.string (rT (tm i)))
        have HS:=(HS.out.setCell (p:=⟨bz,0,none⟩) lo (.string tF)).setCell (p:=⟨bz,1,none⟩) lo (.string (rT (tm i)))
        refine stage_post (isSame_below HS (fun k hk=>hk)) ?_
        refine stage_one 11 (by kernel_rfl) rfl ?_
        gi_wp2
        refine stage_post (isSame_below HS (fun k hk=>hk)) ?_
        refine stage_done (by kernel_rfl) ?_
        obtain ⟨z8,hz8⟩:=LaterW.step z5 HS
        rw [hz8] at KR HS ⊢
        exact SH _ _ _ ⟨hi7,HS,lo,KR⟩
      ·skip
       gi_wp2
       have hb9:=below_alloc (Below.refl zd.W.heap.size zd.W) (.cells #[.string ⟨#[]⟩,.string ⟨#[]⟩] 63)
       have KB:=Blk.new zd.W 63 #[.string ⟨#[]⟩,.string ⟨#[]⟩]
       have lo:=HS.out.size
       have HS:=Lib.hid (HS.out.trans (hb9.mono HS.out.size))
       obtain ⟨ze,hze⟩:=LaterW.step zd hb9
       rw [hze] at KB HS ⊢
       have KB:=Lib.hid KB
       clear hb9 hze
       generalize zd.W.heap.size=bz at *
       obtain ⟨zd,rfl⟩:∃ x,x=ze:=⟨_,rfl⟩
       refine stage_post (isSame_below HS.out (fun k hk=>hk)) ?_
       refine stage_one 2 (by kernel_rfl) rfl ?_
       gi_wp2_with (gi_at_call 54;refine (callsIn_wide.2 (HPK.out _)).mono ?_;rintro e w9 ⟨j,rfl,j0,j7,hw⟩;replace hw:=hw.symm;subst hw)
       obtain ⟨i,rfl⟩:=Int.eq_ofNat_of_zero_le j0
       have hi7:i < 7:=by omega
       refine stage_post (isSame_below HS.out (fun k hk=>hk)) ?_
       change wpStage _ _ _ _ _ _ _ _ (6+1) _ _ _
       refine stage_reads [3] 6 _ _ (by kernel_rfl) ?_
       change wpQuietIn _ _ _ _ (fun W'=>∃ x:SameAt z5.W (fun k=>k < z5.W.heap.size),W'=x.W) _ _ _
       simp only [pick_cons,pick_nil,List.getElem?_cons_zero,List.getElem?_cons_succ,Option.elim_some]
       repeat (gi_big_quiet_step (fail))
       refine wpQuietIn_nil ?_
       refine stage_one 5 (by kernel_rfl) rfl ?_
       have HT:=Lib.hid (HTO.out i hi7)
       have e2:(i:Int)+2=2+(i:Int):=by omega
       rw [e2] at HT
       clear e2
       gi_wp2_with (gi_at_call 53;refine (callsIn_wide.2 (HT.out _ (RS.out zd))).mono ?_;rintro e w9 ⟨rfl,hb9⟩;have HS:=Lib.hid (HS.out.trans (hb9.mono HS.out.size));have KB:=Lib.hid (KB.out.below hb9 KB.out.lt);obtain ⟨zd,rfl⟩:=LaterW.step zd hb9;clear hb9)
       refine stage_post (isSame_below HS.out (fun k hk=>hk)) ?_
       change wpStage _ _ _ _ _ _ _ _ (2+3) _ _ _
       refine stage_reads [6,7,8] 2 _ _ (by kernel_rfl) ?_
       change wpQuietIn _ _ _ _ (fun W'=>∃ x:SameAt z5.W (fun k=>k < z5.W.heap.size),W'=x.W) _ _ _
       simp only [pick_cons,pick_nil,List.getElem?_cons_zero,List.getElem?_cons_succ,Option.elim_some]
       repeat (gi_big_quiet_step (fail))
       refine wpQuietIn_nil ?_
       obtain ⟨p0,p1⟩:=cells2 KB.out
       have f0:=KB.out.frozen 0
       have f1:=KB.out.frozen 1
       refine stage_one 10 (by kernel_rfl) rfl ?_
       gi_wp2
       have KR:=(KB.out.set_ 0 (.string tF)).set_ 1 (.string (rT (tm i)))
       have HS:=(HS.out.setCell (p:=⟨bz,0,none⟩) lo (.string tF)).setCell (p:=⟨bz,1,none⟩) lo (.string (rT (tm i)))
       refine stage_post (isSame_below HS (fun k hk=>hk)) ?_
       refine stage_one 11 (by kernel_rfl) rfl ?_
       gi_wp2
       refine stage_post (isSame_below HS (fun k hk=>hk)) ?_
       refine stage_done (by kernel_rfl) ?_
       obtain ⟨z8,hz8⟩:=LaterW.step z5 HS
       rw [hz8] at KR HS ⊢
       exact SH _ _ _ ⟨hi7,HS,lo,KR⟩
     case rest =>
      rintro bz z9 i ⟨hi7,HS,lo,KR⟩
      have HHC:=Lib.hid (HHL.out i hi7)
      rw [HHR.out i hi7] at HHC
      change Hid (∀ u v (W:World) (_:LRow W u l0) (_:LRow W v l1) (_:Res W),Calls _ _ _ _ fun e w'=>e=.returned (.tuple #[.bool true,.int .i64 0])∧_) at HHC
      generalize rT (tm i)=td at *
      gi_wp2
      have v0:∀ x:LaterW z9.W,x.W.cell? ⟨bb,0,none⟩=some (.slice B0 l0.length k0):=fun x=>y0 (z9.lift x)
      have v1:∀ x:LaterW z9.W,x.W.cell? ⟨bb,1,none⟩=some (.slice B1 l1.length k1):=fun x=>y1 (z9.lift x)
      have u0:∀ x:LaterW z9.W,x.W.cell? ⟨bz,0,none⟩=some (.string tF):=fun x=>(x.h.cell (p:=⟨bz,0,none⟩) KR.lt).trans (cells2 KR).1
      have u1:∀ x:LaterW z9.W,x.W.cell? ⟨bz,1,none⟩=some (.string td):=fun x=>(x.h.cell (p:=⟨bz,1,none⟩) KR.lt).trans (cells2 KR).2
      clear HS lo KR y0 y1 HTO HCV HHL HHR
      refine wpIn_region_wide (w0:=z9.W) ⟨z9.W,Below.refl _ _⟩ rfl hmx (by kernel_rfl) ?_
      repeat (gi_big_quiet_step (fail))
      gi_big_quiet_step ((gi_at_call 55;refine (callsIn_wide.2 (HHC.out _ _ _ ((R0.out (z9.lift _)).row (Nat.le_trans HM0.out.len (by omega))) ((R1.out (z9.lift _)).row (Nat.le_trans HM1.out.len (by omega))) (RS.out (z9.lift _)))).mono ?_;rintro e w99 ⟨rfl,hb9⟩;exact ⟨rfl,⟨⟨w99,(LaterW.h _).trans (hb9.mono (LaterW.h _).size)⟩,rfl⟩⟩))
      repeat (gi_big_quiet_step (fail))
      refine wpQuietIn_nil ?_
      rintro _ ⟨zz,rfl⟩
      gi_wp2
      refine bodyPost_ret (results_tmp rfl _ _ _) rfl ?_
      exact ⟨rfl,(N2.out.later (z9.lift zz).h).below⟩
   ·have HCV:Hid (∀ u v (W:World) (_:LRow W u l0) (_:LRow W v l1) (_:Res W),Calls Tryz.prog 52 #[u,v] W fun e w'=>e=.returned (.tuple #[cv startC,.bool false])∧Below W.heap.size W w'):=by
     refine Lib.hid fun u v W hu hv hr=>?_
     cases h2:inX l0 l1 with
     | false =>
      have e1:=momV_out (n:=2) M0.dst.ok M1.dst.ok (by omega) (by omega) h2
      cases h3:inX l1 l0 with
      | false=>exact curve10_no1 l0 l1 u v _ _ _ e1 (momV_out (n:=2) M1.dst.ok M0.dst.ok (by omega) (by omega) h3) W hu hv M0.short M1.short M0.txt M1.txt hr
      | true=>exact curve10_no1 l0 l1 u v _ _ _ e1 (mom_at M1 M0 h3 0 (by omega)).1 W hu hv M0.short M1.short M0.txt M1.txt hr
     | true =>
      have h3:inX l1 l0=false:=by
       cases h3:inX l1 l0 with
       | false=>rfl
       | true=>exact absurd ⟨h2,h3⟩ h1
      exact curve10_no2 l0 l1 u v _ (mom_at M0 M1 h2 0 (by omega)).1 (momV_out (n:=2) M1.dst.ok M0.dst.ok (by omega) (by omega) h3) W hu hv M0.short M1.short M0.txt M1.txt hr
    clear h1 F1 sF fF M0 M1
    generalize startC=cq at *
    change Hid (∀ u v (W:World) (_:LRow W u l0) (_:LRow W v l1) (_:Res W),Calls _ _ _ _ fun e w'=>e=.returned (.tuple #[.agg #[.string (cq 0),.string (cq 1),.string (cq 2),.string (cq 3),.string (cq 4),.string (cq 5),.string (cq 6),.string (cq 7)],.bool false])∧_) at HCV
    refine (callsIn_wide (n:=6)).1 ?_
    have h1:1≤6:=by omega
    have hmx:Tryz.prog.follows .mixedOrders=true:=by kernel_rfl
    refine callsIn_of_wp Tryz.func5 rfl trivial ?_ rfl
    simp only [Tryz.ntmps5,List.size_toArray,List.length_cons,List.length_nil,Nat.reduceAdd,Nat.reduceSub,Array.replicate_succ,Array.replicate_zero,List.push_toArray,List.append_toArray,List.nil_append,List.cons_append]
    gi_wp2_with ((clear TK0;gi_at_call 49;refine (callsIn_wide.2 (HLV.out _ N0.out.res)).mono ?_;rintro e w1 ⟨rfl,hb⟩;have N1:=Lib.hid (N0.out.later hb);clear hb))
    gi_wp2_with ((clear TK1;gi_at_call 50;refine (callsIn_wide.2 (HMD.out _ N1.out)).mono ?_;rintro e w2 ⟨⟨u,rfl,hl⟩,hb⟩;obtain ⟨bb,cc,rfl,hbb,_,hcell⟩:=hl;have HCL:=Lib.hid (And.intro hbb hcell);have N2:=Lib.hid ((N1.out.alloc _).later hb);clear hb hbb hcell))
    obtain ⟨B0,k0,y0,rr⟩:=LLRow.nth (j:=0) (l:=l0) HCL.out.1 HCL.out.2 rfl
    have R0:=Lib.hid rr
    clear rr
    obtain ⟨B1,k1,y1,rr⟩:=LLRow.nth (j:=1) (l:=l1) HCL.out.1 HCL.out.2 rfl
    have R1:=Lib.hid rr
    clear rr
    have RS:=Lib.hid (fun z:LaterW w2=>N2.out.res.below z.h)
    have HBB:=Lib.hid HCL.out.1
    clear HCL
    gi_wp2_with ((clear TK2;gi_at_call 51;refine (callsIn_wide.2 (HNF.out _ (RS.out ⟨w2,Below.refl _ _⟩))).mono ?_;rintro e w9 ⟨rfl,hb9⟩;obtain ⟨z0,rfl⟩:=LaterW.step ⟨w2,Below.refl _ _⟩ hb9;clear hb9))
    gi_wp2
    have V0:∀ x:SameAt z0.W (fun k=>k < z0.W.heap.size),x.W.cell? ⟨bb,0,none⟩=some (.slice B0 l0.length k0):=fun x=>x.cell (Nat.lt_of_lt_of_le HBB.out z0.h.size) (y0 z0)
    have V1:∀ x:SameAt z0.W (fun k=>k < z0.W.heap.size),x.W.cell? ⟨bb,1,none⟩=some (.slice B1 l1.length k1):=fun x=>x.cell (Nat.lt_of_lt_of_le HBB.out z0.h.size) (y1 z0)
    refine wpIn_stage (IsSame z0.W (fun k=>k < z0.W.heap.size)) [0,1,2,3,4,5,7,8,9] [] hmx (by kernel_rfl) (isSame_of fun _ _=>rfl) ?_
    change wpStage _ _ _ _ _ _ _ _ (7+6) _ _ _
    refine stage_reads [0,1,2,3,4,5] 7 _ _ (by kernel_rfl) ?_
    change wpQuietIn _ _ _ _ (fun W'=>∃ x:SameAt z0.W (fun k=>k < z0.W.heap.size),W'=x.W) _ _ _
    simp only [pick_cons,pick_nil,List.getElem?_cons_zero,List.getElem?_cons_succ,Option.elim_some]
    repeat (gi_big_quiet_step (fail))
    refine wpQuietIn_nil ?_
    clear V0 V1
    obtain ⟨zd,hzd⟩:=LaterW.step z0 (below_drewM z0.W)
    have HS:=Lib.hid (below_drewM z0.W)
    rw [hzd] at HS ⊢
    clear hzd
    apply share3 (fun (bx:Nat) (z:LaterW w2) (_:Nat)=>Below z0.W.heap.size z0.W z.W∧z0.W.heap.size≤bx∧CBlk z.W bx cq)
    case main =>
     intro SH
     refine stage_two 6 10 (by kernel_rfl) rfl rfl ?_ ?_
     ·skip
      gi_wp2_with (gi_at_call 52;refine (callsIn_wide.2 (HCV.out _ _ _ ((R0.out _).row (Nat.le_trans HM0.out.len (by omega))) ((R1.out _).row (Nat.le_trans HM1.out.len (by omega))) (RS.out zd))).mono ?_;rintro e w9 ⟨rfl,hb9⟩;have HS:=Lib.hid (HS.out.trans (hb9.mono HS.out.size));obtain ⟨zd,rfl⟩:=LaterW.step zd hb9;clear hb9)
      refine stage_post (isSame_below HS.out (fun k hk=>hk)) ?_
      change wpStage _ _ _ _ _ _ _ _ (3+3) _ _ _
      refine stage_reads [7,8,9] 3 _ _ (by kernel_rfl) ?_
      change wpQuietIn _ _ _ _ (fun W'=>∃ x:SameAt z0.W (fun k=>k < z0.W.heap.size),W'=x.W) _ _ _
      simp only [pick_cons,pick_nil,List.getElem?_cons_zero,List.getElem?_cons_succ,Option.elim_some]
      repeat (gi_big_quiet_step (fail))
      refine wpQuietIn_nil ?_
      refine stage_one 10 (by kernel_rfl) rfl ?_
      gi_wp2
      have hb9:=below_alloc (Below.refl zd.W.heap.size zd.W) (.cells #[.string ⟨#[]⟩,.string ⟨#[]⟩,.string ⟨#[]⟩,.string ⟨#[]⟩,.string ⟨#[]⟩,.string ⟨#[]⟩,.string ⟨#[]⟩,.string ⟨#[]⟩] 59)
      have KB:=(show CBlk (zd.W.alloc (.cells #[.string ⟨#[]⟩,.string ⟨#[]⟩,.string ⟨#[]⟩,.string ⟨#[]⟩,.string ⟨#[]⟩,.string ⟨#[]⟩,.string ⟨#[]⟩,.string ⟨#[]⟩] 59)) zd.W.heap.size zC from Blk.new zd.W 59 #[.string ⟨#[]⟩,.string ⟨#[]⟩,.string ⟨#[]⟩,.string ⟨#[]⟩,.string ⟨#[]⟩,.string ⟨#[]⟩,.string ⟨#[]⟩,.string ⟨#[]⟩])
      have lo:=HS.out.size
      have HS:=Lib.hid (HS.out.trans (hb9.mono HS.out.size))
      obtain ⟨ze,hze⟩:=LaterW.step zd hb9
      rw [hze] at KB HS ⊢
      have KB:=Lib.hid KB
      clear hb9 hze
      generalize zd.W.heap.size=bx at *
      obtain ⟨zd,rfl⟩:∃ x,x=ze:=⟨_,rfl⟩
      refine stage_post (isSame_below HS.out (fun k hk=>hk)) ?_
      obtain ⟨c0,c1,c2,c3,c4,c5,c6,c7⟩:=KB.out.cells
      obtain ⟨g0,g1,g2,g3,g4,g5,g6,g7⟩:=KB.out.frozens
      refine stage_one 11 (by kernel_rfl) rfl ?_
      gi_wp2
      have KQ:CBlk ((((((((zd.W.setCell ⟨bx,0,none⟩ (.string (cq 0))).setCell ⟨bx,1,none⟩ (.string (cq 1))).setCell ⟨bx,2,none⟩ (.string (cq 2))).setCell ⟨bx,3,none⟩ (.string (cq 3))).setCell ⟨bx,4,none⟩ (.string (cq 4))).setCell ⟨bx,5,none⟩ (.string (cq 5))).setCell ⟨bx,6,none⟩ (.string (cq 6))).setCell ⟨bx,7,none⟩ (.string (cq 7))) bx cq:=fin8_blk cq KB.out
      have HS:Below z0.W.heap.size z0.W ((((((((zd.W.setCell ⟨bx,0,none⟩ (.string (cq 0))).setCell ⟨bx,1,none⟩ (.string (cq 1))).setCell ⟨bx,2,none⟩ (.string (cq 2))).setCell ⟨bx,3,none⟩ (.string (cq 3))).setCell ⟨bx,4,none⟩ (.string (cq 4))).setCell ⟨bx,5,none⟩ (.string (cq 5))).setCell ⟨bx,6,none⟩ (.string (cq 6))).setCell ⟨bx,7,none⟩ (.string (cq 7))):=fin8_below HS.out lo cq
      refine stage_post (isSame_below HS (fun k hk=>hk)) ?_
      refine stage_one 12 (by kernel_rfl) rfl ?_
      gi_wp2
      refine stage_post (isSame_below HS (fun k hk=>hk)) ?_
      refine stage_done (by kernel_rfl) ?_
      obtain ⟨z5,hz5⟩:=LaterW.step z0 HS
      rw [hz5] at KQ HS ⊢
      obtain ⟨dd⟩:Nonempty Nat:=⟨0⟩
      exact SH _ _ dd ⟨HS,lo,KQ⟩
     ·skip
      gi_wp2
      have hb9:=below_alloc (Below.refl zd.W.heap.size zd.W) (.cells #[.string ⟨#[]⟩,.string ⟨#[]⟩,.string ⟨#[]⟩,.string ⟨#[]⟩,.string ⟨#[]⟩,.string ⟨#[]⟩,.string ⟨#[]⟩,.string ⟨#[]⟩] 59)
      have KB:=(show CBlk (zd.W.alloc (.cells #[.string ⟨#[]⟩,.string ⟨#[]⟩,.string ⟨#[]⟩,.string ⟨#[]⟩,.string ⟨#[]⟩,.string ⟨#[]⟩,.string ⟨#[]⟩,.string ⟨#[]⟩] 59)) zd.W.heap.size zC from Blk.new zd.W 59 #[.string ⟨#[]⟩,.string ⟨#[]⟩,.string ⟨#[]⟩,.string ⟨#[]⟩,.string ⟨#[]⟩,.string ⟨#[]⟩,.string ⟨#[]⟩,.string ⟨#[]⟩])
      have lo:=HS.out.size
      have HS:=Lib.hid (HS.out.trans (hb9.mono HS.out.size))
      obtain ⟨ze,hze⟩:=LaterW.step zd hb9
      rw [hze] at KB HS ⊢
      have KB:=Lib.hid KB
      clear hb9 hze
      generalize zd.W.heap.size=bx at *
      obtain ⟨zd,rfl⟩:∃ x,x=ze:=⟨_,rfl⟩
      refine stage_post (isSame_below HS.out (fun k hk=>hk)) ?_
      refine stage_one 6 (by kernel_rfl) rfl ?_
      gi_wp2_with (gi_at_call 52;refine (callsIn_wide.2 (HCV.out _ _ _ ((R0.out _).row (Nat.le_trans HM0.out.len (by omega))) ((R1.out _).row (Nat.le_trans HM1.out.len (by omega))) (RS.out zd))).mono ?_;rintro e w9 ⟨rfl,hb9⟩;have HS:=Lib.hid (HS.out.trans (hb9.mono HS.out.size));have KB:=Lib.hid (KB.out.later hb9);obtain ⟨zd,rfl⟩:=LaterW.step zd hb9;clear hb9)
      refine stage_post (isSame_below HS.out (fun k hk=>hk)) ?_
      change wpStage _ _ _ _ _ _ _ _ (2+3) _ _ _
      refine stage_reads [7,8,9] 2 _ _ (by kernel_rfl) ?_
      change wpQuietIn _ _ _ _ (fun W'=>∃ x:SameAt z0.W (fun k=>k < z0.W.heap.size),W'=x.W) _ _ _
      simp only [pick_cons,pick_nil,List.getElem?_cons_zero,List.getElem?_cons_succ,Option.elim_some]
      repeat (gi_big_quiet_step (fail))
      refine wpQuietIn_nil ?_
      obtain ⟨c0,c1,c2,c3,c4,c5,c6,c7⟩:=KB.out.cells
      obtain ⟨g0,g1,g2,g3,g4,g5,g6,g7⟩:=KB.out.frozens
      refine stage_one 11 (by kernel_rfl) rfl ?_
      gi_wp2
      have KQ:CBlk ((((((((zd.W.setCell ⟨bx,0,none⟩ (.string (cq 0))).setCell ⟨bx,1,none⟩ (.string (cq 1))).setCell ⟨bx,2,none⟩ (.string (cq 2))).setCell ⟨bx,3,none⟩ (.string (cq 3))).setCell ⟨bx,4,none⟩ (.string (cq 4))).setCell ⟨bx,5,none⟩ (.string (cq 5))).setCell ⟨bx,6,none⟩ (.string (cq 6))).setCell ⟨bx,7,none⟩ (.string (cq 7))) bx cq:=fin8_blk cq KB.out
      have HS:Below z0.W.heap.size z0.W ((((((((zd.W.setCell ⟨bx,0,none⟩ (.string (cq 0))).setCell ⟨bx,1,none⟩ (.string (cq 1))).setCell ⟨bx,2,none⟩ (.string (cq 2))).setCell ⟨bx,3,none⟩ (.string (cq 3))).setCell ⟨bx,4,none⟩ (.string (cq 4))).setCell ⟨bx,5,none⟩ (.string (cq 5))).setCell ⟨bx,6,none⟩ (.string (cq 6))).setCell ⟨bx,7,none⟩ (.string (cq 7))):=fin8_below HS.out lo cq
      refine stage_post (isSame_below HS (fun k hk=>hk)) ?_
      refine stage_one 12 (by kernel_rfl) rfl ?_
      gi_wp2
      refine stage_post (isSame_below HS (fun k hk=>hk)) ?_
      refine stage_done (by kernel_rfl) ?_
      obtain ⟨z5,hz5⟩:=LaterW.step z0 HS
      rw [hz5] at KQ HS ⊢
      obtain ⟨dd⟩:Nonempty Nat:=⟨0⟩
      exact SH _ _ dd ⟨HS,lo,KQ⟩
    case rest =>
     rintro bx z5 _ ⟨HS,lo,KQ⟩
     gi_wp2
     refine bodyPost_ret (results_tmp rfl _ _ _) rfl ?_
     exact ⟨rfl,(N2.out.later z5.h).below⟩
end Go.Proofs.YtigapglmipmbeaaGreatDoor
namespace Go.Proofs.YtigapglmipmbeaaGreatDoor
open Go.ChangeShapes Go.WideShapes Go.ChangeAt Go.RowKit
section
variable {H:Type} {enc:TypeId × Value→H}
end
end Go.Proofs.YtigapglmipmbeaaGreatDoor
