/- law 08: number, least, plus, times. Walks of laws behind made: one class of later worlds for all that follows. The plain law of DistTriangle: distances as texts. No program in sight. The plain law of DistFactors: the least factor as a text. No program in sight. dist: slices.Clone of masses, scaled (printed by mkdprog.py). dist.Mix (printed by mkdprog.py). dist: slices.Index of strings, Push (printed by mkdprog.py). law 08: names (printed by mkdlaw3.py). DistPushes, as a walk (printed by mkdlaw3.py). Laws inside a fence: drawn regions of one class of later worlds; what Mix gives (printed by mkdlaw4.py). DistMixes, as a walk (printed by mkdlaw4.py). -/
import Derived.Test.YtigapglmipmbeaaGreatDoorRb15
import Derived.Test.YtigapglmipmbeaaGreatDoorRb16
import Derived.Test.YtigapglmipmbeaaGreatDoorRb11
import Derived.Test.YtigapglmipmbeaaGreatDoorLwDistMixes01
import Derived.Test.YtigapglmipmbeaaGreatDoorRb12
import Derived.Test.YtigapglmipmbeaaGreatDoorRb13
import Derived.Test.YtigapglmipmbeaaGreatDoorRb17
import Derived.Test.YtigapglmipmbeaaGreatDoorRb10
import Derived.Test.YtigapglmipmbeaaGreatDoorRb03
set_option maxRecDepth 100000
set_option maxHeartbeats 16000000
namespace Go.Proofs.YtigapglmipmbeaaGreatDoor
open Go.RowKit Go.Shelf
open Lim
def numberB (f:ByteArray):Bool:=decide (f.size≤24) && ((errQ f.data.toList == 0) && decide (0≤valQ f.data.toList))
theorem refSign_errB (a:ByteArray) (w:World) (ha:a.size≤9223372036854775807) (he:errQ a.data.toList≠0) :
  Calls Tryz.prog 110 #[.string a] w fun e w'=>e = .returned (.tuple #[.int .i64 0,.int .i64 (errQ a.data.toList:Int)])∧Below w.heap.size w w':=by
 have HP:=Lib.hid (rq_anyB a w ha)
 have hne:((errQ a.data.toList:Int) == 0) = false:=by rw [beq_eq_false_iff_ne];omega
 have HE:=Lib.hid he
 clear he
 go_enter Tryz.func110,Tryz.ntmps110
 go_wp2_with ((go_at_call 155;refine HP.out.mono ?_;rintro e w1 ⟨v,rfl,-,hz,hb⟩;obtain rfl:=hz HE.out;have HB:=Lib.hid hb;clear hb hz))
 all_goals first
  | (refine bodyPost_ret (results_tmp2 rfl _ _ _) rfl ?_;exact ⟨rfl,below_alloc HB.out _⟩)
  | (exfalso;have:=HE.out;omega)
  | (exfalso;simp_all)
theorem dnumber_walk (f:ByteArray) (c k:Int) (b:Bool) (w:World) (HC:Hid (Calls Tryz.prog 110 #[.string f] w fun e w'=>e = .returned (.tuple #[.int .i64 c,.int .i64 k])∧Below w.heap.size w w'))
  (hb:b = (decide (f.size≤24) && ((k == 0) && decide (0≤c)))) :
  Calls Tryz.prog 98 #[.string f] w fun e w'=>e = .returned (.bool b)∧Below w.heap.size w w':=by
 by_cases h1:f.size≤24
 ·have d1:decide ((f.size:Int)≤24) = true:=decide_eq_true (by omega)
  rw [decide_eq_true h1,Bool.true_and] at hb
  clear h1
  by_cases h2:(k == 0) = true
  ·rw [h2,Bool.true_and] at hb
   subst hb
   go_enter Tryz.func98,Tryz.ntmps98
   go_wp2_with (go_at_call 110;refine HC.out.mono ?_;rintro e w1 ⟨rfl,hb⟩;have HB:=Lib.hid hb;clear hb)
   go_ret
   exact ⟨rfl,HB.out⟩
  ·have h2:(k == 0) = false:=by simpa using h2
   rw [h2,Bool.false_and] at hb
   subst hb
   go_enter Tryz.func98,Tryz.ntmps98
   go_wp2_with (go_at_call 110;refine HC.out.mono ?_;rintro e w1 ⟨rfl,hb⟩;have HB:=Lib.hid hb;clear hb)
   go_ret
   exact ⟨rfl,HB.out⟩
 ·have d1:decide ((f.size:Int)≤24) = false:=decide_eq_false (by omega)
  rw [decide_eq_false h1,Bool.false_and] at hb
  clear h1
  subst hb
  go_enter Tryz.func98,Tryz.ntmps98
  go_wp2_with (go_at_call 110;refine HC.out.mono ?_;rintro e w1 ⟨rfl,hb⟩;have HB:=Lib.hid hb;clear hb)
  go_ret
  exact ⟨rfl,HB.out⟩
theorem dnumber_any (f:ByteArray) (w:World) (hf:f.size≤9223372036854775807) (hr:Res w) :
  Calls Tryz.prog 98 #[.string f] w fun e w'=>e = .returned (.bool (numberB f))∧Below w.heap.size w w':=by
 by_cases he:errQ f.data.toList = 0
 ·refine dnumber_walk f (sgQ (valQ f.data.toList)) 0 _ w (Lib.hid (retRSign_ok (IsT.of he).size he w hr)) ?_
  unfold numberB
  rw [he]
  have:decide (0≤sgQ (valQ f.data.toList)) = decide (0≤valQ f.data.toList):=decide_eq_decide.2 (by
   have:=sg_lt (valQ f.data.toList)
   constructor
   ·intro h;exact Classical.byContradiction fun h2=>by have:=this.2 (by grind);omega
   ·intro h;exact Classical.byContradiction fun h2=>by have:=this.1 (by omega);grind)
  rw [this]
  rfl
 ·refine dnumber_walk f 0 (errQ f.data.toList:Int) _ w (Lib.hid (refSign_errB f w hf he)) ?_
  unfold numberB
  have h1:((errQ f.data.toList) == 0) = false:=beq_eq_false_iff_ne.2 he
  have h2:((errQ f.data.toList:Int) == 0) = false:=by rw [beq_eq_false_iff_ne];omega
  rw [h1,h2]
  simp
theorem numberB_ok {f:ByteArray} (h:numberB f = true):f.size≤24∧errQ f.data.toList = 0∧0≤valQ f.data.toList:=by
 unfold numberB at h
 simp only [Bool.and_eq_true,decide_eq_true_eq,beq_iff_eq] at h
 exact ⟨h.1,h.2.1,h.2.2⟩
theorem dleast_any {a b:ByteArray} {p q:Rat} (ha:IsT a p) (hb:IsT b q):Ret 100 #[.string a,.string b] (.bool (decide (cmpQ p q≤0))):=fun w _=>by
 have HC:=Lib.hid (rcmpT w ha hb)
 generalize cmpQ p q = x at *
 clear ha hb
 go_enter Tryz.func100,Tryz.ntmps100
 go_wp2_with (go_at_call 119;refine HC.out.mono ?_;rintro e w1 ⟨rfl,hb⟩;have HB:=Lib.hid hb;clear hb)
 go_ret
 exact ⟨rfl,HB.out⟩
theorem dleast_T {a b:ByteArray} {p q:Rat} (ha:IsT a p) (hb:IsT b q) (h:p≤q):Ret 100 #[.string a,.string b] (.bool true):=by
 have:=dleast_any ha hb
 rwa [decide_eq_true ((cmpQ_le p q).2 h)] at this
theorem dplus_T {a b:ByteArray} {p q:Rat} (ha:IsT a p) (hb:IsT b q) (hf:fits (p + q) = true):Ret 99 #[.string a,.string b] (.string (rT (p + q))):=fun w hr=>by
 have HC:=retRPlX ha.size hb.size
 rw [plX_val ha.err hb.err,ha.val,hb.val,ovT_fit hf] at HC
 have HC:=Lib.hid HC
 change Hid (Ret _ _ (.tuple #[.string _,.int .i64 0])) at HC
 clear ha hb hf
 generalize rT (p + q) = x at *
 go_enter Tryz.func99,Tryz.ntmps99
 go_wp2_with (go_at_call 59;refine (HC.out _ hr).mono ?_;rintro e w1 ⟨rfl,hb⟩;have HB:=Lib.hid hb;clear hb)
 go_ret
 exact ⟨rfl,HB.out⟩
theorem dtimes_T {a b:ByteArray} {p q:Rat} (ha:IsT a p) (hb:IsT b q) (hf:fits (p * q) = true):Ret 101 #[.string a,.string b] (.string (rT (p * q))):=fun w hr=>by
 have HC:=retRMulX ha.size hb.size
 rw [mulX_val ha.err hb.err,ha.val,hb.val,ovT_fit hf] at HC
 have HC:=Lib.hid HC
 change Hid (Ret _ _ (.tuple #[.string _,.int .i64 0])) at HC
 clear ha hb hf
 generalize rT (p * q) = x at *
 go_enter Tryz.func101,Tryz.ntmps101
 go_wp2_with (go_at_call 149;refine (HC.out _ hr).mono ?_;rintro e w1 ⟨rfl,hb⟩;have HB:=Lib.hid hb;clear hb)
 go_ret
 exact ⟨rfl,HB.out⟩
end Go.Proofs.YtigapglmipmbeaaGreatDoor
namespace Go.Proofs.YtigapglmipmbeaaGreatDoor
open Go.RowKit Go.Shelf
open Lim
section
variable {P:Program} {id:Nat} {Q:Exit→Act→World→Prop} {a:Act} {w0:World} {l:List Oper}
end
theorem LaterW.step {w0:World} (z:LaterW w0) {W:World} (hb:Below z.W.heap.size z.W W):∃ x:LaterW w0,W = x.W:=⟨⟨W,z.h.trans (hb.mono z.h.size)⟩,rfl⟩
theorem LLRow.nth {w:World} {bb j:Nat} {outs:List (List L2)} {l:List L2} (hbb:bb < w.heap.size) (h:∀ (j:Nat) (ls:List L2),outs[j]? = some ls→∃ u,w.cell? ⟨bb,j,none⟩ = some u∧LRowW w u ls) (hj:outs[j]? = some l) :
  ∃ A c,(∀ z:LaterW w,z.W.cell? ⟨bb,j,none⟩ = some (.slice A l.length c))∧∀ z:LaterW w,LRowW z.W (.slice A l.length c) l:=by
 obtain ⟨u,h1,h2⟩:=h j l hj
 obtain ⟨A,c,rfl,_,_⟩:=id h2
 exact ⟨A,c,fun z=>(z.h.cell (p:=⟨bb,j,none⟩) hbb).trans h1,fun z=>h2.below z.h⟩
structure Made8 (l:List L2):Prop where
 len:l.length≤16
 key:∀ x∈l,x.1.size≤12
 txt:∀ x∈l,x.2.size≤24
 dst:Dst 385 l
theorem Made8.short {l:List L2} (h:Made8 l):Short l:=fun x hx=>⟨Nat.le_trans (h.key x hx) (by omega),Nat.le_trans (h.txt x hx) (by omega)⟩
theorem Made8.of {lss outs:List (List L2)} (h:madeD 16 12 24 lss = some outs):outs.length = lss.length∧∀ d∈outs,Made8 d:=by
 obtain ⟨h1,h2⟩:=madeD_spec h
 refine ⟨h1,fun d hd=>?_⟩
 obtain ⟨h3,h4⟩:=h2 d hd
 obtain ⟨l1,l2⟩:=lightD_iff.1 h3
 exact ⟨l1,fun x hx=>(l2 x hx).1,fun x hx=>(l2 x hx).2,h4⟩
end Go.Proofs.YtigapglmipmbeaaGreatDoor
namespace Go.Proofs.YtigapglmipmbeaaGreatDoor
open Lim
theorem delta_sz {p q:List L2} {f:Rat} {a b j:Nat} (hp:Dst a p) (hq:Dst b q) (h0:0≤f) (sf:Sz j f):Sz (a + (j + b)) (deltaD (valsD p) (valsD q) f):=by
 obtain ⟨D,d1,d2,d3⟩:=hp.den
 obtain ⟨E,e1,e2,e3⟩:=hq.den
 have hD:0 < D * (f.den * E):=Nat.mul_pos d1 (Nat.mul_pos f.den_pos e1)
 have hlt:D * (f.den * E) < 10 ^ (a + (j + b)):=mul_lt_pow d2 (mul_lt_pow sf.2 e2)
 have ht:=delta_top hp.isD hq.isD h0
 have hn:=delta_nonneg (valsD p) (valsD q) f
 rw [deltaD_vals hq.once] at ht hn ⊢
 exact (HasDen.sum fun m hm=>HasDen.pos (((d3 m hm).mul_right _).sub (((HasDen.self f).mul (atT_has e3)).mul_left _))).sz hD hn (M:=1) ht (by omega) Nat.one_pos
section
variable {l m n:List L2} (hl:Dst 385 l) (hm:Dst 385 m) (hn:Dst 385 n)
include hl hm
include hn
end
end Go.Proofs.YtigapglmipmbeaaGreatDoor
namespace Go.Proofs.YtigapglmipmbeaaGreatDoor
open Lim
section
variable {l m:List L2} (hl:Dst 385 l) (hm:Dst 385 m)
include hl hm
theorem fac_delta {f:ByteArray} {j:Nat} (hf:errQ f.data.toList = 0) (h0:0≤valQ f.data.toList) (sf:Sz j (valQ f.data.toList)) (hj:385 + (j + 385) + 1≤maxD) :
  deltaX l m f = .ok (rT (deltaD (valsD l) (valsD m) (valQ f.data.toList)))∧IsT (rT (deltaD (valsD l) (valsD m) (valQ f.data.toList))) (deltaD (valsD l) (valsD m) (valQ f.data.toList)):=by
 have h:=deltaX_fit (j:=j) hl hm hf h0 sf hj (by decide)
 exact ⟨h.1,isT_rT h.2⟩
end
end Go.Proofs.YtigapglmipmbeaaGreatDoor
namespace Go.Proofs.YtigapglmipmbeaaGreatDoor
open Go.RowKit Go.Shelf
open Lim
attribute [local go_sem] Oper.semAt_some
theorem LRow.src {w:World} {b o n c:Nat} {ls:List L2} (h:LRow w (.slice (some ⟨b,o,none⟩) n c) ls) (h0:0 < ls.length):∀ j u,(cellsM ls)[j]? = some u→w.cell? ((⟨b,o,none⟩:Addr).add j) = some u:=by
 obtain ⟨A,c',e,_,hc⟩:=h
 simp only [Value.slice.injEq] at e
 obtain ⟨b',o',e2,_,hcell⟩:=hc h0
 rw [← e.1] at e2
 simp only [Option.some.injEq,Addr.mk.injEq] at e2
 obtain ⟨rfl,rfl,_⟩:=e2
 intro j u hu
 have hj:j < ls.length * 2:=by rw [← cellsM_length];exact (List.getElem?_eq_some_iff.1 hu).1
 obtain ⟨x,hx⟩:∃ x,ls[j / 2]? = some x:=⟨_,List.getElem?_eq_getElem (by omega)⟩
 obtain ⟨c0,c1⟩:=hcell _ _ hx
 obtain ⟨m0,m1⟩:=cellsM_at hx
 rw [addr_add0]
 rcases Nat.mod_two_eq_zero_or_one j with h | h
 ·rw [show j / 2 * 2 = j by omega] at c0 m0
  rw [m0] at hu;cases hu;exact c0
 ·rw [show o + j / 2 * 2 + 1 = o + j by omega] at c1
  rw [show j / 2 * 2 + 1 = j by omega] at m1
  rw [m1] at hu;cases hu;exact c1
theorem LRow.ofPos {w:World} {v:Value} {ls:List L2} (h:LRow w v ls) (h0:0 < ls.length):∃ b o c,v = .slice (some ⟨b,o,none⟩) ls.length c:=by
 obtain ⟨A,c,e,_,hc⟩:=h
 obtain ⟨b,o,rfl,_,_⟩:=hc h0
 exact ⟨b,o,c,e⟩
theorem OwnM.ofPos {base:Nat} {w:World} {v:Value} {ls:List L2} (h:OwnM base w v ls) (h0:0 < ls.length):∃ g c,v = .slice (some ⟨g,0,none⟩) ls.length c∧base≤g:=by
 rcases h.2 with ⟨_,e⟩ | ⟨g,cap,cur,e,hb,_⟩
 ·omega
 ·exact ⟨g,cap,e,hb⟩
theorem OwnM.cell {base g n c k:Nat} {w:World} {ls:List L2} {x:L2} (h:OwnM base w (.slice (some ⟨g,0,none⟩) n c) ls) (hx:ls[k]? = some x):w.cell? ⟨g,k * 2,none⟩ = some (.string x.1)∧w.cell? ⟨g,k * 2 + 1,none⟩ = some (.string x.2)∧g < w.heap.size:=by
 obtain ⟨c0,c1⟩:=cellsM_at hx
 have r0:=World.ownsRow.cells h (g:=g) rfl _ _ c0
 have r1:=World.ownsRow.cells h (g:=g) rfl _ _ c1
 rw [addr_add0,Nat.zero_add] at r0 r1
 exact ⟨r0,r1,(World.ownsRow.lt h g rfl).2⟩
theorem OwnM.frozen {base g n c:Nat} {w:World} {ls:List L2} (h:OwnM base w (.slice (some ⟨g,0,none⟩) n c) ls) (j:Nat):w.frozen? ⟨g,j,none⟩ = false:=by
 rcases h.2 with ⟨h',_⟩ | ⟨g',cap',cur,h',_,hg,_⟩
 ·simp at h'
 ·simp only [Value.slice.injEq,Option.some.injEq,Addr.mk.injEq,and_true,true_and] at h'
  obtain ⟨rfl,_⟩:=h'
  exact frozen_of_row w g j cur _ hg
theorem OwnM.len {base g n c:Nat} {w:World} {ls:List L2} (h:OwnM base w (.slice (some ⟨g,0,none⟩) n c) ls):n = ls.length:=by
 rcases h.2 with ⟨h',_⟩ | ⟨g',cap',cur,h',_⟩
 ·simp at h'
 ·simp only [Value.slice.injEq] at h';exact h'.2.1
theorem OwnM.set2 {base g n c k:Nat} {w:World} {ls:List L2} {y:L2} (s:ByteArray) (h:OwnM base w (.slice (some ⟨g,0,none⟩) n c) ls) (hy:ls[k]? = some y) :
  OwnM base (w.setCell ⟨g,k * 2 + 1,none⟩ (.string s)) (.slice (some ⟨g,0,none⟩) n c) (ls.set k (y.1,s))∧w.grownBy (w.setCell ⟨g,k * 2 + 1,none⟩ (.string s)) (some g):=by
 obtain rfl:=h.len
 obtain ⟨r1,r2⟩:=World.ownsRow.stored h (k * 2 + 1) (.string s)
 refine ⟨?_,r2⟩
 unfold OwnM
 rw [List.length_set,cellsM_set s hy]
 exact r1
theorem cellsM_set1:∀ {l:List L2} {k:Nat} {y:L2} (s:ByteArray),l[k]? = some y→cellsM (l.set k (s,y.2)) = (cellsM l).set (k * 2) (.string s)
 | [],k,y,s,h=>by simp at h
 | x :: l,0,y,s,h=>by
  simp only [List.getElem?_cons_zero,Option.some.injEq] at h
  subst h
  rfl
 | x :: l,k + 1,y,s,h=>by
  rw [List.set_cons_succ,cellsM_cons,cellsM_cons,cellsM_set1 s (by simpa using h),show (k + 1) * 2 = k * 2 + 1 + 1 by omega,List.set_cons_succ,List.set_cons_succ]
theorem set_mid {α:Type} (d:List α) (y z:α) (r:List α):(d ++ y :: r).set d.length z = d ++ z :: r:=by rw [List.set_append_right _ _ (Nat.le_refl _)];simp
theorem get_mid {α:Type} (d:List α) (y:α) (r:List α):(d ++ y :: r)[d.length]? = some y:=by rw [List.getElem?_append_right (Nat.le_refl _)];simp
theorem dclone_any (ls:List L2) (v:Value) (w:World) (hv:LRow w v ls) (h0:0 < ls.length) :
  Calls Tryz.prog 120 #[v] w fun e w'=>(∃ g c,e = .returned (.slice (some ⟨g,0,none⟩) ls.length c)∧w.heap.size≤g∧OwnM w.heap.size w' (.slice (some ⟨g,0,none⟩) ls.length c) ls)∧Below w.heap.size w w':=by
 obtain ⟨b,o,c,rfl⟩:=hv.ofPos h0
 have HL:=Lib.hid (show ls.length≤1000 from hv.choose_spec.choose_spec.2.1)
 have HS:=Lib.hid (hv.below (below_alloc (Below.refl _ _) (.cells #[] 30)))
 have HC:=Lib.hid (HS.out.src h0)
 have HO:=Lib.hid (own_atM (W:=w.alloc (.cells #[] 30)) (Nat.le_refl w.heap.size) (heap_alloc_new w _))
 have HB0:=Lib.hid (below_alloc (Below.refl w.heap.size w) (.cells #[] 30))
 have H0:=Lib.hid h0
 obtain ⟨i0,hi,hz0,hz1,hz2⟩:=info_parts infoM
 have hq:=Lib.run_eql_slice_nil (P:=Tryz.prog) w 22 30 (some ⟨b,o,none⟩) ls.length c 0 0 Tryz.underlying22
 clear hv h0
 go_enter Tryz.func120,Tryz.ntmps120
 go_wp2_with (at_builtin;refine wpList_append_own _ rfl _ _ 22 rfl w.heap.size 30 i0 (.agg #[.string ByteArray.empty,.string ByteArray.empty]) 2 32 Tryz.underlying22 hi hz0 hz1 hz2 rfl (by decide) _ _ _ rfl HO.out ⟨b,o,none⟩ ls.length c (cellsM ls) rfl (cellsM_length ls) HC.out (one_cellsM ls) (by have:=HL.out;unfold maxLen;omega) (by have:=HL.out;omega) HB0.out.size ?_;intro v' w4 hown4 hgrow4 _;have HO4:=Lib.hid hown4;have HB4:=Lib.hid (grow_belowM HB0.out HB0.out.size HO.out hgrow4);clear hown4 hgrow4)
 go_ret
 have ho:OwnM w.heap.size w4 v' ls:=by
  have:=HO4.out
  rwa [Nat.zero_add,List.nil_append] at this
 obtain ⟨g,c4,rfl,hg⟩:=ho.ofPos H0.out
 exact ⟨⟨g,c4,rfl,hg,ho⟩,HB4.out⟩
def scaleR (done:List L2) (r:Except Nat (List L2)):Except Nat (List L2):=match r with
 | .error n=>.error n
 | .ok m=>.ok (done ++ m)
theorem scaleR_nil (r:Except Nat (List L2)):scaleR [] r = r:=by cases r <;> rfl
theorem scaleX_err {x:L2} {l:List L2} {b:ByteArray} {n:Nat} (h:mulX x.2 b = .error n):scaleX (x :: l) b = .error n:=by simp only [scaleX,h]
theorem scaleX_go {x:L2} {l done:List L2} {b p:ByteArray} (h:mulX x.2 b = .ok p):scaleR done (scaleX (x :: l) b) = scaleR (done ++ [(x.1,p)]) (scaleX l b):=by
 simp only [scaleX,h]
 cases scaleX l b with
 | error n=>rfl
 | ok m=>simp [scaleR]
theorem scaleX_ne {b:ByteArray}:∀ {l:List L2} {n:Nat},scaleX l b = .error n→n≠0
 | [],n,h=>by cases h
 | x :: l,n,h=>by
  unfold scaleX at h
  split at h
  ·rename_i m hm;cases h;exact exQ_err hm
  ·split at h
   ·rename_i m hm;cases h;exact scaleX_ne hm
   ·cases h
theorem scaleX_len {b:ByteArray}:∀ {l m:List L2},scaleX l b = .ok m→m.length = l.length
 | [],m,h=>by cases h;rfl
 | x :: l,m,h=>by
  unfold scaleX at h
  split at h
  ·cases h
  ·split at h
   ·cases h
   ·rename_i r hr
    cases h
    rw [List.length_cons,List.length_cons,scaleX_len hr]
theorem scaleX_short {b:ByteArray}:∀ {l m:List L2},scaleX l b = .ok m→Short l→Short m
 | [],m,h,_=>by cases h;exact fun x hx=>by cases hx
 | x :: l,m,h,hs=>by
  unfold scaleX at h
  split at h
  ·cases h
  ·rename_i p hp
   split at h
   ·cases h
   ·rename_i r hr
    cases h
    exact short_cons.2 ⟨⟨(hs x (by simp)).1,size_ok (mulX_ok hp)⟩,scaleX_short hr fun y hy=>hs y (by simp [hy])⟩
theorem dscaled_any (ls:List L2) (v:Value) (b:ByteArray) (w:World) (hv:LRow w v ls) (h0:0 < ls.length) (hs:Short ls) (hb:b.size≤270000) (hr:Res w) :
  Calls Tryz.prog 118 #[v,.string b] w fun e w'=>ResM w.heap.size (scaleX ls b) e w'∧Below w.heap.size w w':=by
 have HS:=Lib.hid hs
 have HCL:=Lib.hid (dclone_any ls v w hv h0)
 have HRS:=Lib.hid hr
 have N0:=Lib.hid (NW.refl hr)
 have HBS:=Lib.hid hb
 have hll:ls.length≤1000:=hv.choose_spec.choose_spec.2.1
 obtain ⟨b0,o0,c0,rfl⟩:=hv.ofPos h0
 clear hv h0 hs hr hb
 generalize hm:scaleX ls b = mk
 have HMK:=Lib.hid hm
 clear hm
 go_enter Tryz.func118,Tryz.ntmps118
 go_wp2_with (go_at_call 120;refine HCL.out.mono ?_;rintro e w1 ⟨⟨g,cc,rfl,hg,ho⟩,hb⟩;have HG:=Lib.hid hg;have HO:=Lib.hid ho;have N1:=Lib.hid (N0.out.later hb);clear hg ho hb)
 go_loopw [13] (fun v13 wr=>∃ done:List L2,done.length≤ls.length∧v13 = .int .i64 (done.length:Int)∧Hid (mk = scaleR done (scaleX (ls.drop done.length) b))∧Hid (OwnM w.heap.size wr (.slice (some ⟨g,0,none⟩) ls.length cc) (done ++ ls.drop done.length))∧Hid (NW w wr)) (fun v13 _=>ls.length - (intOf v13).toNat)
 case atStart=>exact ⟨[],Nat.zero_le _,rfl,Lib.hid (by rw [scaleR_nil];exact HMK.out.symm),HO,N1⟩
 case round =>
  clear HO N1
  obtain ⟨done,hk,rfl,HE,HO,HN⟩:=hrel
  by_cases hlt:done.length < ls.length
  ·obtain ⟨x,hx⟩:∃ x,ls[done.length]? = some x:=⟨_,List.getElem?_eq_getElem hlt⟩
   have hlt':(done.length:Int) < (ls.length:Int):=by omega
   have HD:=drop_of hx
   have HSX:=Lib.hid (HS.out x (List.mem_of_getElem? hx))
   have HLT:=Lib.hid (And.intro hlt hlt')
   rw [HD] at HE HO
   clear hx hlt HD
   obtain ⟨p0,p1,hgb⟩:=HO.out.cell (get_mid done x _)
   have HMU:=Lib.hid (retMulX HSX.out.2 HBS.out)
   cases hmu:mulX x.2 b with
   | error n =>
    rw [hmu] at HMU
    change Hid (Ret _ _ (.tuple #[.string ⟨#[]⟩,.int .i64 (n:Int)])) at HMU
    have hz:=ne_zero (exQ_err hmu)
    have hz2:=ne_zero2 (exQ_err hmu)
    have HR:=Lib.hid (show mk = .error n by rw [HE.out,scaleX_err hmu];rfl)
    clear hmu
    go_wp2_with (go_at_call 130;refine (HMU.out _ HN.out.res).mono ?_;rintro e w3 ⟨rfl,hb⟩;have H3:=Lib.hid (HN.out.later hb);have HO3:=Lib.hid (OwnM.later HO.out hb);obtain ⟨q0,q1,hgb3⟩:=HO3.out.cell (get_mid done x _);have fz:=OwnM.frozen HO3.out (done.length * 2 + 1);clear hb)
    go_ret2
    rw [HR.out]
    exact ⟨rfl,(grow_nw H3.out HRS.out (OwnM.set2 ⟨#[]⟩ HO3.out (get_mid done x _)).2 (fun r e=>by cases e;exact HG.out)).below⟩
   | ok p =>
    rw [hmu] at HMU
    change Hid (Ret _ _ (.tuple #[.string p,.int .i64 0])) at HMU
    have HR:=Lib.hid (show mk = scaleR (done ++ [(x.1,p)]) (scaleX (ls.drop (done.length + 1)) b) by rw [HE.out,scaleX_go hmu])
    clear hmu
    go_wp2_with (go_at_call 130;refine (HMU.out _ HN.out.res).mono ?_;rintro e w3 ⟨rfl,hb⟩;have H3:=Lib.hid (HN.out.later hb);have HO3:=Lib.hid (OwnM.later HO.out hb);obtain ⟨q0,q1,hgb3⟩:=HO3.out.cell (get_mid done x _);have fz:=OwnM.frozen HO3.out (done.length * 2 + 1);clear hb)
    go_roundw
    case rel =>
     obtain ⟨r1,r2⟩:=OwnM.set2 p HO3.out (get_mid done x _)
     rw [set_mid] at r1
     have e1:(done ++ [(x.1,p)]).length = done.length + 1:=by simp
     exact ⟨done ++ [(x.1,p)],by rw [e1];exact HLT.out.1,by rw [e1];go_num,Lib.hid (by rw [e1];exact HR.out),Lib.hid (by rw [e1];simpa using r1),Lib.hid (grow_nw H3.out HRS.out r2 (fun r e=>by cases e;exact HG.out))⟩
    case measure=>have:=HLT.out.1;simp [intOf];omega
  ·have hlt':¬ (done.length:Int) < (ls.length:Int):=by omega
   have hd:ls.drop done.length = []:=List.drop_of_length_le (by omega)
   have HR:=Lib.hid (show mk = .ok done by rw [HE.out,hd];show Except.ok (done ++ []) = _;rw [List.append_nil])
   rw [hd,List.append_nil] at HO
   clear hlt hd
   go_wp2
   go_ret2
   rw [HR.out]
   exact ⟨⟨_,rfl,HO.out⟩,HN.out.below⟩
end Go.Proofs.YtigapglmipmbeaaGreatDoor
namespace Go.Proofs.YtigapglmipmbeaaGreatDoor
open Go.RowKit Go.Shelf
open Lim
attribute [local go_sem] Oper.semAt_some
theorem dmix_any (p:ByteArray) (a b:List L2) (va vb:Value) (w:World) (ha:LRow w va a) (hb:LRow w vb b) (sa:Short a) (sb:Short b) (hp:p.size≤270000) (hlen:a.length + b.length≤1000) (hsub:posE p = 0→¬ 1 < valQ p.data.toList→∃ r,subX oT p = .ok r) (hr:Res w) :
  Calls Tryz.prog 29 #[.string p,va,vb] w fun e w'=>ResM w.heap.size (mixX p a b) e w'∧Below w.heap.size w w':=by
 have NA:=Lib.hid ((NW.refl hr).alloc (.cells #[va,vb] 31))
 have HCK:=Lib.hid (dchecked_any a b va vb w.heap.size (w.alloc (.cells #[va,vb] 31)) (Blk.new w 31 #[va,vb]) (ha.below (below_alloc (Below.refl _ _) _)) (hb.below (below_alloc (Below.refl _ _) _)) sa sb NA.out.res)
 have HPS:=Lib.hid (positive_any hp)
 have HLA:=Lib.hid (show a.length≤1000 from ha.choose_spec.choose_spec.2.1)
 have HLB:=Lib.hid (show b.length≤1000 from hb.choose_spec.choose_spec.2.1)
 obtain ⟨A0,c0,rfl,_,_⟩:=id ha
 obtain ⟨A1,c1,rfl,_,_⟩:=id hb
 have HA:=Lib.hid ha
 have HB:=Lib.hid hb
 have SA:=Lib.hid sa
 have SB:=Lib.hid sb
 have HRS:=Lib.hid hr
 clear ha hb sa sb hr
 have TK0:True:=trivial
 have TK1:True:=trivial
 have TK2:True:=trivial
 have TK3:True:=trivial
 have TK4:True:=trivial
 have TK5:True:=trivial
 by_cases hc:chk2 a b = 0
 ·obtain ⟨hca,hcb⟩:=chk2_both hc
  have pos0:∀ ls:List L2,chkD ls = 0→0 < ls.length:=fun ls h=>by
   rcases Nat.eq_zero_or_pos ls.length with h2 | h2
   ·have e:=List.eq_nil_of_length_eq_zero h2
    subst e
    exact absurd h (by decide)
   ·exact h2
  have ha0:=pos0 a hca
  have hb0:=pos0 b hcb
  rw [hc] at HCK
  change Hid (Calls _ _ _ _ fun e w'=>e = .returned (.int .i64 0)∧_) at HCK
  clear pos0 hca hcb
  by_cases hq:posE p = 0
  ·have hpe:=(posE_zero.1 hq).1
   rw [hq] at HPS
   change Hid (Ret _ _ (.tuple #[.bool (posB p),.int .i64 0])) at HPS
   generalize posB p = pb at *
   have HCM:=Lib.hid (fun (W:World) hr=>cmpT (w:=W) (IsT.of hpe) IsT.one (k:=cmpQ (valQ p.data.toList) 1) rfl hr)
   by_cases h1:1 < valQ p.data.toList
   ·have HR:=Lib.hid (show mixX p a b = .error 2 by unfold mixX;rw [if_neg (by simpa using hc),if_neg (by simpa using hq),if_pos h1])
    have d1:decide (0 < cmpQ (valQ p.data.toList) 1) = true:=decide_eq_true (by have:=(cmpQ_lt 1 (valQ p.data.toList)).2 h1;rw [cmpQ_swap] at this;omega)
    generalize cmpQ (valQ p.data.toList) 1 = cq at *
    clear hc hq hpe h1 ha0 hb0 hsub
    go_enter Tryz.func29,Tryz.ntmps29
    go_wp2_with ((clear TK0;go_at_call 112;refine (HCK.out).mono ?_;rintro e w1 ⟨rfl,hb⟩;have N1:=Lib.hid (NA.out.later hb);clear hb))
    go_wp2_with ((clear TK1;go_at_call 106;refine (HPS.out _ N1.out.res).mono ?_;rintro e w2 ⟨rfl,hb⟩;have N2:=Lib.hid (N1.out.later hb);clear hb))
    go_wp2_with ((clear TK2;go_at_call 116;refine (HCM.out _ N2.out.res).mono ?_;rintro e w3 ⟨rfl,hb⟩;have N3:=Lib.hid (N2.out.later hb);clear hb))
    go_wp2
    go_ret2
    rw [HR.out]
    exact ⟨rfl,N3.out.below⟩
   ·obtain ⟨r,hsr⟩:=hsub hq h1
    have d1:decide (0 < cmpQ (valQ p.data.toList) 1) = false:=decide_eq_false (fun h=>h1 ((cmpQ_lt 1 (valQ p.data.toList)).1 (by rw [cmpQ_swap];omega)))
    have hM:mixX p a b = (match scaleX a p with | .error n=>.error n | .ok x=>match scaleX b r with | .error n=>.error n | .ok y=>makeX (x ++ y)):=by
     unfold mixX
     rw [if_neg (by simpa using hc),if_neg (by simpa using hq),if_neg h1,hsr]
     rfl
    have HSB:=retSubX (a:=oT) (b:=p) oT_small hp
    rw [hsr] at HSB
    change Ret _ #[.string ⟨#[49]⟩,.string p] (.tuple #[.string r,.int .i64 0]) at HSB
    have HSB:=Lib.hid HSB
    have hrs:=size_ok (subX_ok hsr)
    have HSX:=Lib.hid (fun (W:World) (hW:NW w W)=>dscaled_any a _ p W (HA.out.below hW.below) ha0 SA.out hp hW.res)
    have HSY:=Lib.hid (fun (W:World) (hW:NW w W)=>dscaled_any b _ r W (HB.out.below hW.below) hb0 SB.out hrs hW.res)
    have HB0:=Lib.hid hb0
    generalize cmpQ (valQ p.data.toList) 1 = cq at *
    clear hc hq hpe h1 ha0 hb0 hsub hsr hrs hp
    cases hx:scaleX a p with
    | error n =>
     rw [hx] at hM HSX
     change Hid (∀ W (_:NW w W),Calls _ _ _ _ fun e w'=>e = .returned (.tuple #[.slice none 0 0,.int .i64 (n:Int)])∧_) at HSX
     have hz:=ne_zero (scaleX_ne hx)
     have hz2:=ne_zero2 (scaleX_ne hx)
     have HR:=Lib.hid (show mixX p a b = .error n from hM)
     clear hx hM
     go_enter Tryz.func29,Tryz.ntmps29
     go_wp2_with ((clear TK0;go_at_call 112;refine (HCK.out).mono ?_;rintro e w1 ⟨rfl,hb⟩;have N1:=Lib.hid (NA.out.later hb);clear hb))
     go_wp2_with ((clear TK1;go_at_call 106;refine (HPS.out _ N1.out.res).mono ?_;rintro e w2 ⟨rfl,hb⟩;have N2:=Lib.hid (N1.out.later hb);clear hb))
     go_wp2_with ((clear TK2;go_at_call 116;refine (HCM.out _ N2.out.res).mono ?_;rintro e w3 ⟨rfl,hb⟩;have N3:=Lib.hid (N2.out.later hb);clear hb))
     go_wp2_with ((clear TK3;go_at_call 117;refine (HSB.out _ N3.out.res).mono ?_;rintro e w4 ⟨rfl,hb⟩;have N4:=Lib.hid (N3.out.later hb);clear hb))
     go_wp2_with ((clear TK4;go_at_call 118;refine (HSX.out _ N4.out).mono ?_;rintro e w5 ⟨rfl,hb⟩;have N5:=Lib.hid (N4.out.later hb);clear hb))
     go_wp2
     go_ret2
     rw [HR.out]
     exact ⟨rfl,N5.out.below⟩
    | ok xs =>
     rw [hx] at hM HSX
     change Hid (∀ W (_:NW w W),Calls _ _ _ _ fun e w'=>(∃ u,e = .returned (.tuple #[u,.int .i64 0])∧OwnM _ w' u xs)∧_) at HSX
     cases hy:scaleX b r with
     | error n =>
      rw [hy] at hM HSY
      change Hid (∀ W (_:NW w W),Calls _ _ _ _ fun e w'=>e = .returned (.tuple #[.slice none 0 0,.int .i64 (n:Int)])∧_) at HSY
      have hz:=ne_zero (scaleX_ne hy)
      have hz2:=ne_zero2 (scaleX_ne hy)
      have HR:=Lib.hid (show mixX p a b = .error n from hM)
      clear hx hy hM
      go_enter Tryz.func29,Tryz.ntmps29
      go_wp2_with ((clear TK0;go_at_call 112;refine (HCK.out).mono ?_;rintro e w1 ⟨rfl,hb⟩;have N1:=Lib.hid (NA.out.later hb);clear hb))
      go_wp2_with ((clear TK1;go_at_call 106;refine (HPS.out _ N1.out.res).mono ?_;rintro e w2 ⟨rfl,hb⟩;have N2:=Lib.hid (N1.out.later hb);clear hb))
      go_wp2_with ((clear TK2;go_at_call 116;refine (HCM.out _ N2.out.res).mono ?_;rintro e w3 ⟨rfl,hb⟩;have N3:=Lib.hid (N2.out.later hb);clear hb))
      go_wp2_with ((clear TK3;go_at_call 117;refine (HSB.out _ N3.out.res).mono ?_;rintro e w4 ⟨rfl,hb⟩;have N4:=Lib.hid (N3.out.later hb);clear hb))
      go_wp2_with ((clear TK4;go_at_call 118;refine (HSX.out _ N4.out).mono ?_;rintro e w5 ⟨⟨u5,rfl,ho5⟩,hb⟩;obtain ⟨A5,c5,rfl⟩:=ho5.slice;have N5:=Lib.hid (N4.out.later hb);have HO5:=Lib.hid ho5;have HZ5:=Lib.hid hb.size;clear hb ho5))
      go_wp2_with ((clear TK5;go_at_call 118;refine (HSY.out _ N5.out).mono ?_;rintro e w6 ⟨rfl,hb⟩;have N6:=Lib.hid (N5.out.later hb);clear hb))
      go_wp2
      go_ret2
      rw [HR.out]
      exact ⟨rfl,N6.out.below⟩
     | ok ys =>
      rw [hy] at hM HSY
      change Hid (∀ W (_:NW w W),Calls _ _ _ _ fun e w'=>(∃ u,e = .returned (.tuple #[u,.int .i64 0])∧OwnM _ w' u ys)∧_) at HSY
      have HY0:=Lib.hid (show 0 < ys.length by rw [scaleX_len hy];exact HB0.out)
      have HXY:=Lib.hid (show xs.length + ys.length≤2000 by rw [scaleX_len hy,scaleX_len hx];have:=HLA.out;have:=HLB.out;omega)
      have hsm:Short (xs ++ ys):=fun z hz=>by
       rcases List.mem_append.1 hz with h | h
       ·exact scaleX_short hx SA.out z h
       ·exact scaleX_short hy SB.out z h
      have HMC:=Lib.hid (fun (W:World) (u:Value) (B:Nat) (ho:OwnM B W u (xs ++ ys)) (hr:Res W)=>dmake_any (xs ++ ys) u W (ho.row (by rw [List.length_append,scaleX_len hx,scaleX_len hy];exact hlen)) hsm hr)
      obtain ⟨i0,hi,hz0,hz1,hz2⟩:=info_parts infoM
      have TK6:True:=trivial
      have HR:=Lib.hid (show mixX p a b = makeX (xs ++ ys) from hM)
      rw [← HR.out] at HMC
      clear hx hy hsm hM
      generalize mixX p a b = mk at *
      cases mk with
      | error n =>
       change Hid (∀ W u B (_:OwnM B W u (xs ++ ys)) (_:Res W),Calls _ _ _ _ fun e w'=>e = .returned (.tuple #[.slice none 0 0,.int .i64 (n:Int)])∧_) at HMC
       go_enter Tryz.func29,Tryz.ntmps29
       go_wp2_with ((clear TK0;go_at_call 112;refine (HCK.out).mono ?_;rintro e w1 ⟨rfl,hb⟩;have N1:=Lib.hid (NA.out.later hb);clear hb))
       go_wp2_with ((clear TK1;go_at_call 106;refine (HPS.out _ N1.out.res).mono ?_;rintro e w2 ⟨rfl,hb⟩;have N2:=Lib.hid (N1.out.later hb);clear hb))
       go_wp2_with ((clear TK2;go_at_call 116;refine (HCM.out _ N2.out.res).mono ?_;rintro e w3 ⟨rfl,hb⟩;have N3:=Lib.hid (N2.out.later hb);clear hb))
       go_wp2_with ((clear TK3;go_at_call 117;refine (HSB.out _ N3.out.res).mono ?_;rintro e w4 ⟨rfl,hb⟩;have N4:=Lib.hid (N3.out.later hb);clear hb))
       go_wp2_with ((clear TK4;go_at_call 118;refine (HSX.out _ N4.out).mono ?_;rintro e w5 ⟨⟨u5,rfl,ho5⟩,hb⟩;obtain ⟨A5,c5,rfl⟩:=ho5.slice;have N5:=Lib.hid (N4.out.later hb);have HO5:=Lib.hid ho5;have HZ5:=Lib.hid hb.size;clear hb ho5))
       go_wp2_with (first
        | (clear TK5;go_at_call 118;refine (HSY.out _ N5.out).mono ?_;rintro e w6 ⟨⟨u6,rfl,ho6⟩,hb⟩;obtain ⟨g6,c6,rfl,hg6⟩:=ho6.ofPos HY0.out;have N6:=Lib.hid (N5.out.later hb);have HO6:=Lib.hid ho6;have HO5:=Lib.hid (OwnM.later HO5.out hb);have HSR:=Lib.hid (World.ownsRow.cells ho6 (g:=g6) rfl);have HZ6:=Lib.hid hb.size;clear hb ho6 hg6)
        | (at_builtin;refine wpList_append_own _ rfl _ _ 22 rfl w4.heap.size 30 i0 (.agg #[.string ByteArray.empty,.string ByteArray.empty]) 2 32 Tryz.underlying22 hi hz0 hz1 hz2 rfl (by decide) _ _ _ rfl HO5.out ⟨g6,0,none⟩ ys.length c6 (cellsM ys) rfl (cellsM_length ys) HSR.out (one_cellsM ys) (by have:=HXY.out;unfold maxLen;omega) (by have:=HXY.out;omega) (Nat.le_trans HZ5.out HZ6.out) ?_;intro v' w7 hown7 hgrow7 _;have HO7:=Lib.hid (show OwnM w4.heap.size w7 v' (xs ++ ys) by unfold OwnM;rw [List.length_append,cellsM_append];exact hown7);have HG7:=Lib.hid hgrow7;clear hown7 hgrow7)
        | (clear TK6;go_at_call 25;have N7:=Lib.hid (grow_nw N6.out HRS.out HG7.out (fun r e=>Nat.le_trans N4.out.below.size (HO5.out.base e)));refine (HMC.out _ _ _ HO7.out N7.out.res).mono ?_;rintro e w8 ⟨rfl,hb⟩;have N8:=Lib.hid (N7.out.later hb);clear hb))
       go_wp2
       go_ret2
       exact ⟨rfl,N8.out.below⟩
      | ok d =>
       change Hid (∀ W u B (_:OwnM B W u (xs ++ ys)) (_:Res W),Calls _ _ _ _ fun e w'=>(∃ u,e = .returned (.tuple #[u,.int .i64 0])∧OwnM _ w' u d)∧_) at HMC
       go_enter Tryz.func29,Tryz.ntmps29
       go_wp2_with ((clear TK0;go_at_call 112;refine (HCK.out).mono ?_;rintro e w1 ⟨rfl,hb⟩;have N1:=Lib.hid (NA.out.later hb);clear hb))
       go_wp2_with ((clear TK1;go_at_call 106;refine (HPS.out _ N1.out.res).mono ?_;rintro e w2 ⟨rfl,hb⟩;have N2:=Lib.hid (N1.out.later hb);clear hb))
       go_wp2_with ((clear TK2;go_at_call 116;refine (HCM.out _ N2.out.res).mono ?_;rintro e w3 ⟨rfl,hb⟩;have N3:=Lib.hid (N2.out.later hb);clear hb))
       go_wp2_with ((clear TK3;go_at_call 117;refine (HSB.out _ N3.out.res).mono ?_;rintro e w4 ⟨rfl,hb⟩;have N4:=Lib.hid (N3.out.later hb);clear hb))
       go_wp2_with ((clear TK4;go_at_call 118;refine (HSX.out _ N4.out).mono ?_;rintro e w5 ⟨⟨u5,rfl,ho5⟩,hb⟩;obtain ⟨A5,c5,rfl⟩:=ho5.slice;have N5:=Lib.hid (N4.out.later hb);have HO5:=Lib.hid ho5;have HZ5:=Lib.hid hb.size;clear hb ho5))
       go_wp2_with (first
        | (clear TK5;go_at_call 118;refine (HSY.out _ N5.out).mono ?_;rintro e w6 ⟨⟨u6,rfl,ho6⟩,hb⟩;obtain ⟨g6,c6,rfl,hg6⟩:=ho6.ofPos HY0.out;have N6:=Lib.hid (N5.out.later hb);have HO6:=Lib.hid ho6;have HO5:=Lib.hid (OwnM.later HO5.out hb);have HSR:=Lib.hid (World.ownsRow.cells ho6 (g:=g6) rfl);have HZ6:=Lib.hid hb.size;clear hb ho6 hg6)
        | (at_builtin;refine wpList_append_own _ rfl _ _ 22 rfl w4.heap.size 30 i0 (.agg #[.string ByteArray.empty,.string ByteArray.empty]) 2 32 Tryz.underlying22 hi hz0 hz1 hz2 rfl (by decide) _ _ _ rfl HO5.out ⟨g6,0,none⟩ ys.length c6 (cellsM ys) rfl (cellsM_length ys) HSR.out (one_cellsM ys) (by have:=HXY.out;unfold maxLen;omega) (by have:=HXY.out;omega) (Nat.le_trans HZ5.out HZ6.out) ?_;intro v' w7 hown7 hgrow7 _;have HO7:=Lib.hid (show OwnM w4.heap.size w7 v' (xs ++ ys) by unfold OwnM;rw [List.length_append,cellsM_append];exact hown7);have HG7:=Lib.hid hgrow7;clear hown7 hgrow7)
        | (clear TK6;go_at_call 25;have N7:=Lib.hid (grow_nw N6.out HRS.out HG7.out (fun r e=>Nat.le_trans N4.out.below.size (HO5.out.base e)));refine (HMC.out _ _ _ HO7.out N7.out.res).mono ?_;rintro e w8 ⟨⟨u8,rfl,ho8⟩,hb⟩;have N8:=Lib.hid (N7.out.later hb);have HO8:=Lib.hid (owns_base ho8 N7.out.below.size);clear hb ho8))
       go_wp2
       go_ret2
       exact ⟨⟨_,rfl,HO8.out⟩,N8.out.below⟩
  ·have hz:=ne_zero hq
   have hz2:=ne_zero2 hq
   have HR:=Lib.hid (show mixX p a b = .error (posE p) by unfold mixX;rw [if_neg (by simpa using hc),if_pos hq])
   generalize posE p = n at *
   generalize posB p = pb at *
   clear hc hq ha0 hb0 hsub
   go_enter Tryz.func29,Tryz.ntmps29
   go_wp2_with ((clear TK0;go_at_call 112;refine (HCK.out).mono ?_;rintro e w1 ⟨rfl,hb⟩;have N1:=Lib.hid (NA.out.later hb);clear hb))
   go_wp2_with ((clear TK1;go_at_call 106;refine (HPS.out _ N1.out.res).mono ?_;rintro e w2 ⟨rfl,hb⟩;have N2:=Lib.hid (N1.out.later hb);clear hb))
   go_wp2
   go_ret2
   rw [HR.out]
   exact ⟨rfl,N2.out.below⟩
 ·have hz:=ne_zero hc
  have hz2:=ne_zero2 hc
  have HR:=Lib.hid (show mixX p a b = .error (chk2 a b) by unfold mixX;rw [if_pos hc])
  generalize chk2 a b = n at *
  clear hc hsub
  go_enter Tryz.func29,Tryz.ntmps29
  go_wp2_with ((clear TK0;go_at_call 112;refine (HCK.out).mono ?_;rintro e w1 ⟨rfl,hb⟩;have N1:=Lib.hid (NA.out.later hb);clear hb))
  go_wp2
  go_ret2
  rw [HR.out]
  exact ⟨rfl,N1.out.below⟩
end Go.Proofs.YtigapglmipmbeaaGreatDoor
namespace Go.Proofs.YtigapglmipmbeaaGreatDoor
open Go.RowKit Go.Shelf
open Lim
attribute [local go_sem] Oper.semAt_some
end Go.Proofs.YtigapglmipmbeaaGreatDoor
namespace Go.Proofs.YtigapglmipmbeaaGreatDoor
open Go.RowKit Go.Shelf
end Go.Proofs.YtigapglmipmbeaaGreatDoor
namespace Go.Proofs.YtigapglmipmbeaaGreatDoor
open Go.RowKit Go.Shelf
open Lim
attribute [local go_sem] Oper.semAt_some
def LaterW.lift {w0:World} (z:LaterW w0) (z':LaterW z.W):LaterW w0:=⟨z'.W,z.h.trans (z'.h.mono z.h.size)⟩
theorem make_short {d l:List L2} (h:makeX l = .ok d) (hl:Short l) (h2:l.length≤1000):Short d∧d.length≤1000:=⟨Short.make h hl,make_len h h2⟩
end Go.Proofs.YtigapglmipmbeaaGreatDoor
namespace Go.Proofs.YtigapglmipmbeaaGreatDoor
open Go.RowKit Go.Shelf
open Lim
theorem wpIn_region_wide {F:Fence} {n:Nat} {P:Program} {id:Nat} {Q:Exit→Act→World→Prop} {a:Act} {w0:World} {l:List Oper} (x:LaterW w0) (hro:F.round = none) (hm:P.follows .mixedOrders = true) (hB:Region.lexB .any l.toArray = true)
  (h:wpQuietIn F n P l.toArray (fun W=>∃ x:LaterW w0,W = x.W) (fun a'=>∀ W,(∃ x:LaterW w0,W = x.W)→Q .normal a' W) l a):(Code.region id l.toArray true).wpIn F n P Q a x.W :=
 wpIn_region_quiet (C:=fun W=>∃ x:LaterW w0,W = x.W) hro hm hB ⟨⟨{ x.W with drawn:=x.W.drawn + 1 },x.h.trans ⟨rfl,rfl,rfl,Nat.le_refl _,fun _ _=>rfl⟩⟩,rfl⟩ (by simpa using h)
theorem mix_short {p:ByteArray} {a b d:List L2} (h:mixX p a b = .ok d) (sa:Short a) (sb:Short b) (hl:a.length + b.length≤1000):Short d∧d.length≤1000:=by
 unfold mixX at h
 split at h
 ·cases h
 ·split at h
  ·cases h
  ·split at h
   ·cases h
   ·split at h
    ·cases h
    ·split at h
     ·cases h
     ·rename_i x hx
      split at h
      ·cases h
      ·rename_i y hy
       refine make_short h (fun z hz=>?_) (by rw [List.length_append,scaleX_len hx,scaleX_len hy];exact hl)
       rcases List.mem_append.1 hz with h1 | h1
       ·exact scaleX_short hx sa z h1
       ·exact scaleX_short hy sb z h1
theorem sub_one {p:ByteArray} (h:errQ p.data.toList = 0) {j:Nat} (s:Sz j (valQ p.data.toList)) (hj:1 + j + 1≤maxD):subX oT p = .ok (rT (1 - valQ p.data.toList))∧IsT (rT (1 - valQ p.data.toList)) (1 - valQ p.data.toList):=by
 have f1:fits (1 - valQ p.data.toList) = true:=fits_sz.2 ((Sz.one.sub s).mono hj)
 refine ⟨?_,isT_rT f1⟩
 rw [subX_val err_oT h,val_oT,ovT_fit f1]
end Go.Proofs.YtigapglmipmbeaaGreatDoor
namespace Go.Proofs.YtigapglmipmbeaaGreatDoor
open Go.RowKit Go.Shelf
open Lim
attribute [local go_sem] Oper.semAt_some wide_fn
theorem distMixes_any (a b c d:List L2) (va vb vc vd:Value) (f p:ByteArray) (w:World) (ha:LRowW w va a) (hb:LRowW w vb b) (hc:LRowW w vc c) (hd:LRowW w vd d) (hf:f.size≤maxLen) (hp:p.size≤maxLen) (hr:Res w) :
  Calls Tryz.prog 20 #[va,vb,vc,vd,.string f,.string p] w fun e w'=>e = .returned (.bool true)∧Below w.heap.size w w':=by
 have N0:=Lib.hid (NW.refl hr)
 have HLV:=Lib.hid (fun (w:World) hr=>dlives_any w hr)
 have HMD:=Lib.hid (fun (W:World) (hW:NW w W)=>made8_any [a,b,c,d] (.slice (some ⟨W.heap.size,0,none⟩) 4 4) (W.alloc (.cells #[va,vb,vc,vd] 22))
  (LLRow.ofBlk (vs:=[(va,a),(vb,b),(vc,c),(vd,d)]) (Blk.new W 22 #[va,vb,vc,vd]) rfl (by simp) (fun x hx=>by
   have hbw:=below_alloc hW.below (.cells #[va,vb,vc,vd] 22)
   simp only [List.mem_cons,List.not_mem_nil,or_false] at hx
   rcases hx with rfl | rfl | rfl | rfl
   ·exact ha.below hbw
   ·exact hb.below hbw
   ·exact hc.below hbw
   ·exact hd.below hbw
  )) (by simp) (hW.alloc _).res rdmake_any)
 obtain ⟨A0,c0,rfl,_,_⟩:=id ha
 obtain ⟨A1,c1,rfl,_,_⟩:=id hb
 obtain ⟨A2,c2,rfl,_,_⟩:=id hc
 obtain ⟨A3,c3,rfl,_,_⟩:=id hd
 clear ha hb hc hd hr
 have TK0:True:=trivial
 have TK1:True:=trivial
 cases hm:madeD 16 12 24 [a,b,c,d] with
 | none =>
  rw [hm] at HMD
  change Hid (∀ W (_:NW w W),Calls _ _ _ _ fun e w'=>e = .returned (.tuple #[.slice none 0 0,.bool false])∧_) at HMD
  clear hm
  go_enter Tryz.func20,Tryz.ntmps20
  go_wp2_with ((clear TK0;go_at_call 21;refine (HLV.out _ N0.out.res).mono ?_;rintro e w1 ⟨rfl,hb⟩;have N1:=Lib.hid (N0.out.later hb);clear hb))
  go_wp2_with ((clear TK1;go_at_call 97;refine (HMD.out _ N1.out).mono ?_;rintro e w2 ⟨rfl,hb⟩;have N2:=Lib.hid ((N1.out.alloc _).later hb);clear hb))
  go_wp2
  go_ret
  exact ⟨rfl,N2.out.below⟩
 | some outs =>
  obtain ⟨hol,hod⟩:=Made8.of hm
  obtain ⟨l0,l1,l2,l3,rfl⟩:∃ l0 l1 l2 l3,outs = [l0,l1,l2,l3]:=by
   match outs,hol with
   | [x0,x1,x2,x3],_=>exact ⟨x0,x1,x2,x3,rfl⟩
  rw [hm] at HMD
  change Hid (∀ W (_:NW w W),Calls _ _ _ _ fun e w'=>(∃ u,e = .returned (.tuple #[u,.bool true])∧LLRow w' u [l0,l1,l2,l3])∧_) at HMD
  have M0:=hod l0 (by simp)
  have M1:=hod l1 (by simp)
  have M2:=hod l2 (by simp)
  have M3:=hod l3 (by simp)
  clear hm hol hod
  have HNF:=Lib.hid (fun (W:World) hr=>dnumber_any f W hf hr)
  have HNP:=Lib.hid (fun (W:World) hr=>dnumber_any p W hp hr)
  have TK2:True:=trivial
  have TK3:True:=trivial
  have TK4:True:=trivial
  cases hnf:numberB f with
  | false =>
   rw [hnf] at HNF
   clear hnf M0 M1 M2 M3
   go_enter Tryz.func20,Tryz.ntmps20
   go_wp2_with ((clear TK0;go_at_call 21;refine (HLV.out _ N0.out.res).mono ?_;rintro e w1 ⟨rfl,hb⟩;have N1:=Lib.hid (N0.out.later hb);clear hb))
   go_wp2_with ((clear TK1;go_at_call 97;refine (HMD.out _ N1.out).mono ?_;rintro e w2 ⟨⟨u,rfl,hl⟩,hb⟩;obtain ⟨bb,cc,rfl,hbb,_,hcell⟩:=hl;have HCL:=Lib.hid (And.intro hbb hcell);have N2:=Lib.hid ((N1.out.alloc _).later hb);clear hb hbb hcell))
   obtain ⟨B0,k0,y0,rr⟩:=LLRow.nth (j:=0) (l:=l0) HCL.out.1 HCL.out.2 rfl
   have R0:=Lib.hid rr
   clear rr
   obtain ⟨B1,k1,y1,rr⟩:=LLRow.nth (j:=1) (l:=l1) HCL.out.1 HCL.out.2 rfl
   have R1:=Lib.hid rr
   clear rr
   obtain ⟨B2,k2,y2,rr⟩:=LLRow.nth (j:=2) (l:=l2) HCL.out.1 HCL.out.2 rfl
   have R2:=Lib.hid rr
   clear rr
   obtain ⟨B3,k3,y3,rr⟩:=LLRow.nth (j:=3) (l:=l3) HCL.out.1 HCL.out.2 rfl
   have R3:=Lib.hid rr
   clear rr
   have RS:=Lib.hid (fun z:LaterW w2=>N2.out.res.below z.h)
   clear HCL
   go_wp2_with ((clear TK2;go_at_call 98;refine (HNF.out _ (RS.out ⟨w2,Below.refl _ _⟩)).mono ?_;rintro e w9 ⟨rfl,hb9⟩;obtain ⟨z0,rfl⟩:=LaterW.step ⟨w2,Below.refl _ _⟩ hb9;clear hb9))
   go_wp2
   go_ret
   exact ⟨rfl,(N2.out.later z0.h).below⟩
  | true =>
   obtain ⟨fz,fe,fp⟩:=numberB_ok hnf
   have fs:=sz_of_text fe (k:=24) (by rw [← size_list];exact fz)
   rw [hnf] at HNF
   clear hnf
   cases hnp:numberB p with
   | false =>
    rw [hnp] at HNP
    clear hnp M0 M1 M2 M3 fz fe fp fs
    go_enter Tryz.func20,Tryz.ntmps20
    go_wp2_with ((clear TK0;go_at_call 21;refine (HLV.out _ N0.out.res).mono ?_;rintro e w1 ⟨rfl,hb⟩;have N1:=Lib.hid (N0.out.later hb);clear hb))
    go_wp2_with ((clear TK1;go_at_call 97;refine (HMD.out _ N1.out).mono ?_;rintro e w2 ⟨⟨u,rfl,hl⟩,hb⟩;obtain ⟨bb,cc,rfl,hbb,_,hcell⟩:=hl;have HCL:=Lib.hid (And.intro hbb hcell);have N2:=Lib.hid ((N1.out.alloc _).later hb);clear hb hbb hcell))
    obtain ⟨B0,k0,y0,rr⟩:=LLRow.nth (j:=0) (l:=l0) HCL.out.1 HCL.out.2 rfl
    have R0:=Lib.hid rr
    clear rr
    obtain ⟨B1,k1,y1,rr⟩:=LLRow.nth (j:=1) (l:=l1) HCL.out.1 HCL.out.2 rfl
    have R1:=Lib.hid rr
    clear rr
    obtain ⟨B2,k2,y2,rr⟩:=LLRow.nth (j:=2) (l:=l2) HCL.out.1 HCL.out.2 rfl
    have R2:=Lib.hid rr
    clear rr
    obtain ⟨B3,k3,y3,rr⟩:=LLRow.nth (j:=3) (l:=l3) HCL.out.1 HCL.out.2 rfl
    have R3:=Lib.hid rr
    clear rr
    have RS:=Lib.hid (fun z:LaterW w2=>N2.out.res.below z.h)
    clear HCL
    go_wp2_with ((clear TK2;go_at_call 98;refine (HNF.out _ (RS.out ⟨w2,Below.refl _ _⟩)).mono ?_;rintro e w9 ⟨rfl,hb9⟩;obtain ⟨z0,rfl⟩:=LaterW.step ⟨w2,Below.refl _ _⟩ hb9;clear hb9))
    go_wp2_with ((clear TK3;go_at_call 98;refine (HNP.out _ (RS.out z0)).mono ?_;rintro e w9 ⟨rfl,hb9⟩;obtain ⟨z1,rfl⟩:=LaterW.step z0 hb9;clear hb9))
    go_wp2
    go_ret
    exact ⟨rfl,(N2.out.later z1.h).below⟩
   | true =>
    obtain ⟨pz,pe,pp⟩:=numberB_ok hnp
    have ps:=sz_of_text pe (k:=24) (by rw [← size_list];exact pz)
    rw [hnp] at HNP
    clear hnp
    have HLE:=dleast_any (IsT.of pe) IsT.one
    by_cases h1:valQ p.data.toList≤1
    ·rw [decide_eq_true ((cmpQ_le _ _).2 h1)] at HLE
     have HLE:=Lib.hid HLE
     change Hid (Ret _ #[.string p,.string ⟨#[49]⟩] (.bool true)) at HLE
     obtain ⟨x,ex,dx,mx⟩:=mix_dst M0.dst M2.dst pe ps pp h1 (by decide)
     obtain ⟨y,ey,dy,my⟩:=mix_dst M1.dst M3.dst pe ps pp h1 (by decide)
     obtain ⟨sx,lx⟩:=mix_short ex M0.short M2.short (by have:=M0.len;have:=M2.len;omega)
     obtain ⟨sy,ly⟩:=mix_short ey M1.short M3.short (by have:=M1.len;have:=M3.len;omega)
     obtain ⟨er,tr⟩:=sub_one pe ps (by decide)
     have hsub:posE p = 0→¬ 1 < valQ p.data.toList→∃ r,subX oT p = .ok r:=fun _ _=>⟨_,er⟩
     have HXC:=Lib.hid (fun u v W (hu:LRow W u l0) (hv:LRow W v l2) (hr:Res W)=>dmix_any p l0 l2 u v W hu hv M0.short M2.short (by omega) (by have:=M0.len;have:=M2.len;omega) hsub hr)
     have HYC:=Lib.hid (fun u v W (hu:LRow W u l1) (hv:LRow W v l3) (hr:Res W)=>dmix_any p l1 l3 u v W hu hv M1.short M3.short (by omega) (by have:=M1.len;have:=M3.len;omega) hsub hr)
     rw [ex] at HXC
     rw [ey] at HYC
     change Hid (∀ u v W (_:LRow W u l0) (_:LRow W v l2) (_:Res W),Calls _ _ _ _ fun e w'=>(∃ u,e = .returned (.tuple #[u,.int .i64 0])∧OwnM _ w' u x)∧_) at HXC
     change Hid (∀ u v W (_:LRow W u l1) (_:LRow W v l3) (_:Res W),Calls _ _ _ _ fun e w'=>(∃ u,e = .returned (.tuple #[u,.int .i64 0])∧OwnM _ w' u y)∧_) at HYC
     have DU:=fac_delta M0.dst M1.dst fe fp fs (by decide)
     have DV:=fac_delta M2.dst M3.dst fe fp fs (by decide)
     have DW:=deltaX_fit dx dy fe fp fs (by decide) (by decide)
     have TW:=isT_rT DW.2
     have HDU:=Lib.hid (fun u v W (hu:LRow W u l0) (hv:LRow W v l1) (hr:Res W)=>ddelta_any l0 l1 u v f W hu hv M0.short M1.short (by omega) hr)
     have HDV:=Lib.hid (fun u v W (hu:LRow W u l2) (hv:LRow W v l3) (hr:Res W)=>ddelta_any l2 l3 u v f W hu hv M2.short M3.short (by omega) hr)
     have HDW:=Lib.hid (fun u v W (hu:LRow W u x) (hv:LRow W v y) (hr:Res W)=>ddelta_any x y u v f W hu hv sx sy (by omega) hr)
     rw [DU.1] at HDU
     rw [DV.1] at HDV
     rw [DW.1] at HDW
     have HSB:=retRSubX (a:=oT) (b:=p) oT_small (by omega)
     rw [er] at HSB
     change Ret _ #[.string ⟨#[49]⟩,.string p] (.tuple #[.string (rT (1 - valQ p.data.toList)),.int .i64 0]) at HSB
     have HSB:=Lib.hid HSB
     have sU:=delta_sz M0.dst M1.dst fp fs
     have sV:=delta_sz M2.dst M3.dst fp fs
     have f1:fits (valQ p.data.toList * deltaD (valsD l0) (valsD l1) (valQ f.data.toList)) = true:=fits_sz.2 ((ps.mul sU).mono (by decide))
     have f2:fits ((1 - valQ p.data.toList) * deltaD (valsD l2) (valsD l3) (valQ f.data.toList)) = true:=fits_sz.2 (((Sz.one.sub ps).mul sV).mono (by decide))
     have f3:fits (valQ p.data.toList * deltaD (valsD l0) (valsD l1) (valQ f.data.toList) + (1 - valQ p.data.toList) * deltaD (valsD l2) (valsD l3) (valQ f.data.toList)) = true:=fits_sz.2 (((ps.mul sU).add ((Sz.one.sub ps).mul sV)).mono (by decide))
     have E1:=Lib.hid (dtimes_T (IsT.of pe) DU.2 f1)
     have E2:=Lib.hid (dtimes_T tr DV.2 f2)
     have E3:=Lib.hid (dplus_T (isT_rT f1) (isT_rT f2) f3)
     have E4:=Lib.hid (dleast_T TW (isT_rT f3) (delta_mix M0.dst.isD M1.dst.isD M2.dst.isD M3.dst.isD dx.isD dy.isD pp h1 fp mx my))
     have HLX:=Lib.hid lx
     have HLY:=Lib.hid ly
     generalize rT (valQ p.data.toList * deltaD (valsD l0) (valsD l1) (valQ f.data.toList) + (1 - valQ p.data.toList) * deltaD (valsD l2) (valsD l3) (valQ f.data.toList)) = t3 at *
     generalize rT (valQ p.data.toList * deltaD (valsD l0) (valsD l1) (valQ f.data.toList)) = t1 at *
     generalize rT ((1 - valQ p.data.toList) * deltaD (valsD l2) (valsD l3) (valQ f.data.toList)) = t2 at *
     generalize rT (1 - valQ p.data.toList) = rr at *
     generalize rT (deltaD (valsD l0) (valsD l1) (valQ f.data.toList)) = du at *
     generalize rT (deltaD (valsD l2) (valsD l3) (valQ f.data.toList)) = dv at *
     generalize rT (deltaD (valsD x) (valsD y) (valQ f.data.toList)) = dw at *
     change Hid (∀ u v W (_:LRow W u l0) (_:LRow W v l1) (_:Res W),Calls _ _ _ _ fun e w'=>e = .returned (.tuple #[.string du,.int .i64 0])∧_) at HDU
     change Hid (∀ u v W (_:LRow W u l2) (_:LRow W v l3) (_:Res W),Calls _ _ _ _ fun e w'=>e = .returned (.tuple #[.string dv,.int .i64 0])∧_) at HDV
     change Hid (∀ u v W (_:LRow W u x) (_:LRow W v y) (_:Res W),Calls _ _ _ _ fun e w'=>e = .returned (.tuple #[.string dw,.int .i64 0])∧_) at HDW
     clear DU DV DW TW fz fe fp fs pz pe pp ps h1 ex dx mx ey dy my sx lx sy ly er tr hsub sU sV f1 f2 f3
     have TK5:True:=trivial
     have TK6:True:=trivial
     have TK7:True:=trivial
     have TK8:True:=trivial
     have TK9:True:=trivial
     have TK10:True:=trivial
     have TK11:True:=trivial
     have M0:=Lib.hid M0
     have M1:=Lib.hid M1
     have M2:=Lib.hid M2
     have M3:=Lib.hid M3
     refine (callsIn_wide (n:=6)).1 ?_
     have h1:1≤6:=by omega
     have hmx:Tryz.prog.follows .mixedOrders = true:=by kernel_rfl
     refine callsIn_of_wp Tryz.func20 rfl trivial ?_ rfl
     simp only [Tryz.ntmps20,List.size_toArray,List.length_cons,List.length_nil,Nat.reduceAdd,Nat.reduceSub,Array.replicate_succ,Array.replicate_zero,List.push_toArray,List.append_toArray,List.nil_append,List.cons_append]
     gi_wp2_with ((clear TK0;gi_at_call 21;refine (callsIn_wide.2 (HLV.out _ N0.out.res)).mono ?_;rintro e w1 ⟨rfl,hb⟩;have N1:=Lib.hid (N0.out.later hb);clear hb))
     gi_wp2_with ((clear TK1;gi_at_call 97;refine (callsIn_wide.2 (HMD.out _ N1.out)).mono ?_;rintro e w2 ⟨⟨u,rfl,hl⟩,hb⟩;obtain ⟨bb,cc,rfl,hbb,_,hcell⟩:=hl;have HCL:=Lib.hid (And.intro hbb hcell);have N2:=Lib.hid ((N1.out.alloc _).later hb);clear hb hbb hcell))
     obtain ⟨B0,k0,y0,rr⟩:=LLRow.nth (j:=0) (l:=l0) HCL.out.1 HCL.out.2 rfl
     have R0:=Lib.hid rr
     clear rr
     obtain ⟨B1,k1,y1,rr⟩:=LLRow.nth (j:=1) (l:=l1) HCL.out.1 HCL.out.2 rfl
     have R1:=Lib.hid rr
     clear rr
     obtain ⟨B2,k2,y2,rr⟩:=LLRow.nth (j:=2) (l:=l2) HCL.out.1 HCL.out.2 rfl
     have R2:=Lib.hid rr
     clear rr
     obtain ⟨B3,k3,y3,rr⟩:=LLRow.nth (j:=3) (l:=l3) HCL.out.1 HCL.out.2 rfl
     have R3:=Lib.hid rr
     clear rr
     have RS:=Lib.hid (fun z:LaterW w2=>N2.out.res.below z.h)
     have HBB:=Lib.hid HCL.out.1
     clear HCL
     gi_wp2_with ((clear TK2;gi_at_call 98;refine (callsIn_wide.2 (HNF.out _ (RS.out ⟨w2,Below.refl _ _⟩))).mono ?_;rintro e w9 ⟨rfl,hb9⟩;obtain ⟨z0,rfl⟩:=LaterW.step ⟨w2,Below.refl _ _⟩ hb9;clear hb9))
     gi_wp2_with ((clear TK3;gi_at_call 98;refine (callsIn_wide.2 (HNP.out _ (RS.out z0))).mono ?_;rintro e w9 ⟨rfl,hb9⟩;obtain ⟨z1,rfl⟩:=LaterW.step z0 hb9;clear hb9))
     gi_wp2_with ((clear TK4;gi_at_call 100;refine (callsIn_wide.2 (HLE.out _ (RS.out z1))).mono ?_;rintro e w9 ⟨rfl,hb9⟩;obtain ⟨z2,rfl⟩:=LaterW.step z1 hb9;clear hb9))
     gi_wp2
     have V4i:∀ x:SameAt z2.W (fun k=>k < z2.W.heap.size),x.W.cell? ⟨bb,0,none⟩ = some (.slice B0 l0.length k0):=fun x=>x.cell (Nat.lt_of_lt_of_le HBB.out z2.h.size) (y0 z2)
     have V4j:∀ x:SameAt z2.W (fun k=>k < z2.W.heap.size),x.W.cell? ⟨bb,2,none⟩ = some (.slice B2 l2.length k2):=fun x=>x.cell (Nat.lt_of_lt_of_le HBB.out z2.h.size) (y2 z2)
     refine wpIn_stage (IsSame z2.W (fun k=>k < z2.W.heap.size)) [0,1,2,3,4,5,6,8,9,10] [] hmx (by kernel_rfl) (isSame_of fun _ _=>rfl) ?_
     change wpStage _ _ _ _ _ _ _ _ (6 + 7) _ _ _
     refine stage_reads [0,1,2,3,4,5,6] 6 _ _ (by kernel_rfl) ?_
     change wpQuietIn _ _ _ _ (fun W'=>∃ x:SameAt z2.W (fun k=>k < z2.W.heap.size),W' = x.W) _ _ _
     simp only [pick_cons,pick_nil,List.getElem?_cons_zero,List.getElem?_cons_succ,Option.elim_some]
     repeat (gi_big_quiet_step (fail))
     refine wpQuietIn_nil ?_
     clear V4i V4j
     obtain ⟨zd,hzd⟩:=LaterW.step z2 (below_drewM z2.W)
     have HDR:=Lib.hid (below_drewM z2.W)
     refine stage_one 7 (by kernel_rfl) rfl ?_
     rw [hzd] at HDR ⊢
     clear hzd
     gi_wp2_with (gi_at_call 29;refine (callsIn_wide.2 (HXC.out _ _ _ ((R0.out _).row (Nat.le_trans M0.out.len (by omega))) ((R2.out _).row (Nat.le_trans M2.out.len (by omega))) (RS.out zd))).mono ?_;rintro e w9 ⟨⟨u4,rfl,ho4⟩,hb9⟩;obtain ⟨G4,g4,rfl⟩:=ho4.slice;have HO4:=Lib.hid ho4;have HW4:=Lib.hid hb9;have HS4:=Lib.hid (HDR.out.trans (hb9.mono HDR.out.size));obtain ⟨z3,rfl⟩:=LaterW.step zd hb9;clear hb9 ho4)
     refine stage_post (isSame_below HS4.out (fun k hk=>hk)) ?_
     change wpStage _ _ _ _ _ _ _ _ (2 + 3) _ _ _
     refine stage_reads [8,9,10] 2 _ _ (by kernel_rfl) ?_
     change wpQuietIn _ _ _ _ (fun W'=>∃ x:SameAt z2.W (fun k=>k < z2.W.heap.size),W' = x.W) _ _ _
     simp only [pick_cons,pick_nil,List.getElem?_cons_zero,List.getElem?_cons_succ,Option.elim_some]
     repeat (gi_big_quiet_step (fail))
     refine wpQuietIn_nil ?_
     refine stage_one 11 (by kernel_rfl) rfl ?_
     gi_wp2
     refine stage_post (isSame_below HS4.out (fun k hk=>hk)) ?_
     refine stage_one 12 (by kernel_rfl) rfl ?_
     gi_wp2
     refine stage_post (isSame_below HS4.out (fun k hk=>hk)) ?_
     refine stage_done (by kernel_rfl) ?_
     clear HS4 HDR
     gi_wp2
     have V5i:∀ x:SameAt z3.W (fun k=>k < z3.W.heap.size),x.W.cell? ⟨bb,1,none⟩ = some (.slice B1 l1.length k1):=fun x=>x.cell (Nat.lt_of_lt_of_le HBB.out z3.h.size) (y1 z3)
     have V5j:∀ x:SameAt z3.W (fun k=>k < z3.W.heap.size),x.W.cell? ⟨bb,3,none⟩ = some (.slice B3 l3.length k3):=fun x=>x.cell (Nat.lt_of_lt_of_le HBB.out z3.h.size) (y3 z3)
     refine wpIn_stage (IsSame z3.W (fun k=>k < z3.W.heap.size)) [0,1,2,3,4,5,6,8,9,10] [] hmx (by kernel_rfl) (isSame_of fun _ _=>rfl) ?_
     change wpStage _ _ _ _ _ _ _ _ (6 + 7) _ _ _
     refine stage_reads [0,1,2,3,4,5,6] 6 _ _ (by kernel_rfl) ?_
     change wpQuietIn _ _ _ _ (fun W'=>∃ x:SameAt z3.W (fun k=>k < z3.W.heap.size),W' = x.W) _ _ _
     simp only [pick_cons,pick_nil,List.getElem?_cons_zero,List.getElem?_cons_succ,Option.elim_some]
     repeat (gi_big_quiet_step (fail))
     refine wpQuietIn_nil ?_
     clear V5i V5j
     obtain ⟨zd,hzd⟩:=LaterW.step z3 (below_drewM z3.W)
     have HDR:=Lib.hid (below_drewM z3.W)
     refine stage_one 7 (by kernel_rfl) rfl ?_
     rw [hzd] at HDR ⊢
     clear hzd
     gi_wp2_with (gi_at_call 29;refine (callsIn_wide.2 (HYC.out _ _ _ ((R1.out _).row (Nat.le_trans M1.out.len (by omega))) ((R3.out _).row (Nat.le_trans M3.out.len (by omega))) (RS.out zd))).mono ?_;rintro e w9 ⟨⟨u5,rfl,ho5⟩,hb9⟩;obtain ⟨G5,g5,rfl⟩:=ho5.slice;have HO5:=Lib.hid ho5;have HW5:=Lib.hid hb9;have HS5:=Lib.hid (HDR.out.trans (hb9.mono HDR.out.size));obtain ⟨z4,rfl⟩:=LaterW.step zd hb9;clear hb9 ho5)
     refine stage_post (isSame_below HS5.out (fun k hk=>hk)) ?_
     change wpStage _ _ _ _ _ _ _ _ (2 + 3) _ _ _
     refine stage_reads [8,9,10] 2 _ _ (by kernel_rfl) ?_
     change wpQuietIn _ _ _ _ (fun W'=>∃ x:SameAt z3.W (fun k=>k < z3.W.heap.size),W' = x.W) _ _ _
     simp only [pick_cons,pick_nil,List.getElem?_cons_zero,List.getElem?_cons_succ,Option.elim_some]
     repeat (gi_big_quiet_step (fail))
     refine wpQuietIn_nil ?_
     refine stage_one 11 (by kernel_rfl) rfl ?_
     gi_wp2
     refine stage_post (isSame_below HS5.out (fun k hk=>hk)) ?_
     refine stage_one 12 (by kernel_rfl) rfl ?_
     gi_wp2
     refine stage_post (isSame_below HS5.out (fun k hk=>hk)) ?_
     refine stage_done (by kernel_rfl) ?_
     have HO4:=Lib.hid (OwnM.later HO4.out HS5.out)
     clear HS5 HDR
     have R0':=Lib.hid (show ∀ z:LaterW z4.W,LRowW z.W (.slice B0 l0.length k0) l0 from fun z=>R0.out (z4.lift z))
     have R1':=Lib.hid (show ∀ z:LaterW z4.W,LRowW z.W (.slice B1 l1.length k1) l1 from fun z=>R1.out (z4.lift z))
     have R2':=Lib.hid (show ∀ z:LaterW z4.W,LRowW z.W (.slice B2 l2.length k2) l2 from fun z=>R2.out (z4.lift z))
     have R3':=Lib.hid (show ∀ z:LaterW z4.W,LRowW z.W (.slice B3 l3.length k3) l3 from fun z=>R3.out (z4.lift z))
     have RS':=Lib.hid (show ∀ z:LaterW z4.W,Res z.W from fun z=>RS.out (z4.lift z))
     have X0:=Lib.hid (fun z:LaterW z4.W=>(OwnM.later HO4.out z.h).row HLX.out)
     have X1:=Lib.hid (fun z:LaterW z4.W=>(OwnM.later HO5.out z.h).row HLY.out)
     have y0':∀ z:LaterW z4.W,z.W.cell? ⟨bb,0,none⟩ = some (.slice B0 l0.length k0):=fun z=>y0 (z4.lift z)
     have y1':∀ z:LaterW z4.W,z.W.cell? ⟨bb,1,none⟩ = some (.slice B1 l1.length k1):=fun z=>y1 (z4.lift z)
     have y2':∀ z:LaterW z4.W,z.W.cell? ⟨bb,2,none⟩ = some (.slice B2 l2.length k2):=fun z=>y2 (z4.lift z)
     have y3':∀ z:LaterW z4.W,z.W.cell? ⟨bb,3,none⟩ = some (.slice B3 l3.length k3):=fun z=>y3 (z4.lift z)
     have NF:=Lib.hid (N2.out.later z4.h)
     clear y0 y1 y2 y3
     generalize z4.W = w4 at *
     gi_wp2
     refine wpIn_region_wide ⟨w4,Below.refl _ _⟩ rfl hmx (by kernel_rfl) ?_
     repeat (gi_big_quiet_step (first
      | (gi_at_call 45;refine (callsIn_wide.2 (HDU.out _ _ _ ((R0'.out _).row (Nat.le_trans M0.out.len (by omega))) ((R1'.out _).row (Nat.le_trans M1.out.len (by omega))) (RS'.out _))).mono ?_;rintro e w99 ⟨rfl,hb9⟩;exact ⟨rfl,⟨⟨w99,(LaterW.h _).trans (hb9.mono (LaterW.h _).size)⟩,rfl⟩⟩)))
     refine wpQuietIn_nil ?_
     rintro _ ⟨z5,rfl⟩
     gi_wp2
     refine wpIn_region_wide z5 rfl hmx (by kernel_rfl) ?_
     repeat (gi_big_quiet_step (first
      | (gi_at_call 45;refine (callsIn_wide.2 (HDV.out _ _ _ ((R2'.out _).row (Nat.le_trans M2.out.len (by omega))) ((R3'.out _).row (Nat.le_trans M3.out.len (by omega))) (RS'.out _))).mono ?_;rintro e w99 ⟨rfl,hb9⟩;exact ⟨rfl,⟨⟨w99,(LaterW.h _).trans (hb9.mono (LaterW.h _).size)⟩,rfl⟩⟩)))
     refine wpQuietIn_nil ?_
     rintro _ ⟨z6,rfl⟩
     gi_wp2_with ((clear TK5;gi_at_call 45;refine (callsIn_wide.2 (HDW.out _ _ _ (X0.out _) (X1.out _) (RS'.out _))).mono ?_;rintro e w9 ⟨rfl,hb9⟩;obtain ⟨zz0,rfl⟩:=LaterW.step z6 hb9;clear hb9))
     gi_wp2_with ((clear TK6;gi_at_call 61;refine (callsIn_wide.2 (HSB.out _ (RS'.out _))).mono ?_;rintro e w9 ⟨rfl,hb9⟩;obtain ⟨zz1,rfl⟩:=LaterW.step zz0 hb9;clear hb9))
     gi_wp2_with ((clear TK7;gi_at_call 101;refine (callsIn_wide.2 (E1.out _ (RS'.out _))).mono ?_;rintro e w9 ⟨rfl,hb9⟩;obtain ⟨zz2,rfl⟩:=LaterW.step zz1 hb9;clear hb9))
     gi_wp2_with ((clear TK8;gi_at_call 101;refine (callsIn_wide.2 (E2.out _ (RS'.out _))).mono ?_;rintro e w9 ⟨rfl,hb9⟩;obtain ⟨zz3,rfl⟩:=LaterW.step zz2 hb9;clear hb9))
     gi_wp2_with ((clear TK9;gi_at_call 99;refine (callsIn_wide.2 (E3.out _ (RS'.out _))).mono ?_;rintro e w9 ⟨rfl,hb9⟩;obtain ⟨zz4,rfl⟩:=LaterW.step zz3 hb9;clear hb9))
     gi_wp2_with ((clear TK10;gi_at_call 100;refine (callsIn_wide.2 (E4.out _ (RS'.out _))).mono ?_;rintro e w9 ⟨rfl,hb9⟩;obtain ⟨zz5,rfl⟩:=LaterW.step zz4 hb9;clear hb9))
     gi_wp2
     refine bodyPost_ret (results_tmp rfl _ _ _) rfl ?_
     exact ⟨rfl,(NF.out.later zz5.h).below⟩
    ·rw [decide_eq_false (fun h=>h1 ((cmpQ_le _ _).1 h))] at HLE
     have HLE:=Lib.hid HLE
     change Hid (Ret _ #[.string p,.string ⟨#[49]⟩] (.bool false)) at HLE
     clear M0 M1 M2 M3 fz fe fp fs pz pe pp ps h1
     go_enter Tryz.func20,Tryz.ntmps20
     go_wp2_with ((clear TK0;go_at_call 21;refine (HLV.out _ N0.out.res).mono ?_;rintro e w1 ⟨rfl,hb⟩;have N1:=Lib.hid (N0.out.later hb);clear hb))
     go_wp2_with ((clear TK1;go_at_call 97;refine (HMD.out _ N1.out).mono ?_;rintro e w2 ⟨⟨u,rfl,hl⟩,hb⟩;obtain ⟨bb,cc,rfl,hbb,_,hcell⟩:=hl;have HCL:=Lib.hid (And.intro hbb hcell);have N2:=Lib.hid ((N1.out.alloc _).later hb);clear hb hbb hcell))
     obtain ⟨B0,k0,y0,rr⟩:=LLRow.nth (j:=0) (l:=l0) HCL.out.1 HCL.out.2 rfl
     have R0:=Lib.hid rr
     clear rr
     obtain ⟨B1,k1,y1,rr⟩:=LLRow.nth (j:=1) (l:=l1) HCL.out.1 HCL.out.2 rfl
     have R1:=Lib.hid rr
     clear rr
     obtain ⟨B2,k2,y2,rr⟩:=LLRow.nth (j:=2) (l:=l2) HCL.out.1 HCL.out.2 rfl
     have R2:=Lib.hid rr
     clear rr
     obtain ⟨B3,k3,y3,rr⟩:=LLRow.nth (j:=3) (l:=l3) HCL.out.1 HCL.out.2 rfl
     have R3:=Lib.hid rr
     clear rr
     have RS:=Lib.hid (fun z:LaterW w2=>N2.out.res.below z.h)
     clear HCL
     go_wp2_with ((clear TK2;go_at_call 98;refine (HNF.out _ (RS.out ⟨w2,Below.refl _ _⟩)).mono ?_;rintro e w9 ⟨rfl,hb9⟩;obtain ⟨z0,rfl⟩:=LaterW.step ⟨w2,Below.refl _ _⟩ hb9;clear hb9))
     go_wp2_with ((clear TK3;go_at_call 98;refine (HNP.out _ (RS.out z0)).mono ?_;rintro e w9 ⟨rfl,hb9⟩;obtain ⟨z1,rfl⟩:=LaterW.step z0 hb9;clear hb9))
     go_wp2_with ((clear TK4;go_at_call 100;refine (HLE.out _ (RS.out z1)).mono ?_;rintro e w9 ⟨rfl,hb9⟩;obtain ⟨z2,rfl⟩:=LaterW.step z1 hb9;clear hb9))
     go_wp2
     go_ret
     exact ⟨rfl,(N2.out.later z2.h).below⟩
end Go.Proofs.YtigapglmipmbeaaGreatDoor
