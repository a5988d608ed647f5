/- What the functions of chapter 8 compute on texts, as rationals. No program in sight. dist: Check, checked. Masses in a slice of the call's own. Lists of masses in memory: literal blocks, lists of lists; how large lists are. The map that Make fills, and the list that it stands for. The library's contracts of maps.Keys, slices.Sorted and slices.Sort laid at this program, by the kit's tool lay-plain. slices.Sorted(maps.Keys(m)) at this program, as plain calls. dist: find and At, by the library's searches. dist: find, At, within. -/
import Derived.Test.YtigapglmipmbeaaGreatDoorLwDistNames08
import Derived.Maps.AppendAt
import Derived.ProofKit
import Derived.Maps.OwnSet
import Derived.Maps.StringElems
import Derived.Sort.KeysCollected
import Derived.Shelf.SlIter.Nil
import Derived.Shelf.SortM.Plain
import Derived.Shelf.SortM.SortNone
import Derived.Ground.GgzProg
import Derived.Ground.SlgmProg
import Derived.Test.YtigapglmipmbeaaGreatDoorProg
set_option maxRecDepth 100000
set_option maxHeartbeats 16000000
namespace Go.Proofs.YtigapglmipmbeaaGreatDoor
open Lim
def ovT (q:Rat):XE:=if fits q then .ok (rT q) else .error 5
theorem exQ_out (q:Rat):exQ (outQ q)=ovT q:=by
 unfold ovT
 by_cases h:fits q=true
 ·rw [if_pos h]
  unfold exQ
  rw [outQ_ok (fits_sz.1 h) (Nat.le_refl _)]
  rfl
 ·rw [if_neg h]
  have h2:maxD < Lib.nDigits (nm q)∨maxD < Lib.nDigits q.den:=by
   unfold fits at h
   simp only [Bool.not_eq_true',decide_eq_false_iff_not,Decidable.not_not] at h
   exact h
  unfold exQ outQ
  rw [if_pos h2]
  rfl
theorem err_rT {q:Rat} (h:fits q=true):errQ (rT q).data.toList=0:=(isT_rT h).err
theorem val_rT {q:Rat} (h:fits q=true):valQ (rT q).data.toList=q:=(isT_rT h).val
theorem ovT_ok {q:Rat} {s:ByteArray} (h:ovT q=.ok s):errQ s.data.toList=0∧valQ s.data.toList=q∧fits q=true:=by
 unfold ovT at h
 split at h
 ·rename_i hf;cases h;exact ⟨err_rT hf,val_rT hf,hf⟩
 ·cases h
section
variable {a b:ByteArray} (ha:errQ a.data.toList=0) (hb:errQ b.data.toList=0)
include ha hb
theorem plX_val:plX a b=ovT (valQ a.data.toList+valQ b.data.toList):=by unfold plX;rw [two_T (IsT.of ha) (IsT.of hb),exQ_out]
theorem maxX_val:maxX a b=.ok (if cmpQ (valQ a.data.toList) (valQ b.data.toList) < 0 then b else a):=by
 unfold maxX
 rw [if_neg (by simpa using ha),if_neg (by simpa using hb)]
end
def valsD (ls:List L2):DL:=ls.map fun x=>(x.1,valQ x.2.data.toList)
def OkV (ls:List L2):Prop:=∀ x∈ls,errQ x.2.data.toList=0
theorem keys_vals (ls:List L2):keysD (valsD ls)=ls.map (·.1):=by unfold keysD valsD;rw [List.map_map];rfl
theorem posE_zero {p:ByteArray}:posE p=0↔errQ p.data.toList=0∧0≤valQ p.data.toList:=by
 unfold posE
 split
 ·rename_i h;exact ⟨fun h2=>absurd h2 h,fun h2=>absurd h2.1 h⟩
 ·rename_i h
  have h:errQ p.data.toList=0:=Classical.byContradiction h
  split
  ·rename_i h2;exact ⟨fun h3=>by omega,fun h3=>absurd h3.2 (by grind)⟩
  ·rename_i h2;exact ⟨fun _=>⟨h,by grind⟩,fun _=>rfl⟩
theorem ltK_iff {a b:ByteArray}:ltK a b=true↔a.data.toList < b.data.toList:=by unfold ltK;exact decide_eq_true_iff
theorem ltK_trans {a b c:ByteArray} (h1:ltK a b=true) (h2:ltK b c=true):ltK a c=true:=ltK_iff.2 (List.lt_trans (ltK_iff.1 h1) (ltK_iff.1 h2))
theorem ltK_irrefl (a:ByteArray):ltK a a=false:=by
 cases h:ltK a a
 ·rfl
 ·exact absurd (ltK_iff.1 h) (List.lt_irrefl _)
theorem bytes_ext {a b:ByteArray} (h:a.data.toList=b.data.toList):a=b:=by
 cases a;cases b
 simp only [ByteArray.mk.injEq]
 exact Array.ext' h
theorem ltK_total {a b:ByteArray} (h:ltK a b=false) (hn:a≠b):ltK b a=true:=by
 refine ltK_iff.2 ?_
 have h1:¬ a.data.toList < b.data.toList:=fun h2=>by rw [ltK_iff.2 h2] at h;cases h
 refine Classical.byContradiction fun h2=>?_
 exact hn (bytes_ext (List.le_antisymm (List.not_lt.1 h2) (List.not_lt.1 h1)))
def Asc (ks:List ByteArray):Prop:=ks.Pairwise fun a b=>ltK a b=true
theorem Asc.nodup {ks:List ByteArray} (h:Asc ks):ks.Nodup:=by
 refine List.Pairwise.imp ?_ h
 intro a b hab e
 subst e
 rw [ltK_irrefl] at hab
 cases hab
theorem chkL_zero:∀ {ls:List L2} {k:Option ByteArray},chkL k ls=0→(∀ x∈ls,errQ x.2.data.toList=0∧0 < valQ x.2.data.toList)∧Asc (ls.map (·.1))∧∀ x∈ls,badK k x.1=false
 | [],_,_=>⟨fun x hx=>(by cases hx),List.Pairwise.nil,fun x hx=>(by cases hx)⟩
 | x::l,k,h=>by
  unfold chkL at h
  split at h
  ·rename_i h1;exact absurd h h1
  ·rename_i h1
   have h1:posE x.2=0:=Classical.byContradiction h1
   split at h
   ·cases h
   ·rename_i h2
    have h2:0 < valQ x.2.data.toList:=Classical.byContradiction h2
    split at h
    ·cases h
    ·rename_i h3
     have h3:badK k x.1=false:=by simpa using h3
     obtain ⟨r1,r2,r3⟩:=chkL_zero h
     have r4:∀ y∈l,ltK x.1 y.1=true:=fun y hy=>by simpa [badK] using r3 y hy
     refine ⟨fun y hy=>?_,?_,fun y hy=>?_⟩
     ·rcases List.mem_cons.1 hy with rfl|hy
      ·exact ⟨(posE_zero.1 h1).1,h2⟩
      ·exact r1 y hy
     ·refine List.pairwise_cons.2 ⟨fun b hb=>?_,r2⟩
      obtain ⟨y,hy,rfl⟩:=List.mem_map.1 hb
      exact r4 y hy
     ·rcases List.mem_cons.1 hy with rfl|hy
      ·exact h3
      ·cases k with
       | none=>rfl
       | some k =>
        have h4:ltK k x.1=true:=by simpa [badK] using h3
        simp only [badK,ltK_trans h4 (r4 y hy),Bool.not_true]
theorem foldX_val {α:Type} {g:α→XE} {v:α→Rat}:∀ {l:List α} {s t:ByteArray},foldX g s l=.ok t→errQ s.data.toList=0→(∀ x∈l,∀ p,g x=.ok p→errQ p.data.toList=0∧valQ p.data.toList=v x) →
  errQ t.data.toList=0∧valQ t.data.toList=valQ s.data.toList+sumBy v l
 | [],s,t,h,hs,_=>by
  cases h
  exact ⟨hs,by simp only [sumBy];grind⟩
 | x::l,s,t,h,hs,hg=>by
  unfold foldX at h
  cases hx:g x with
  | error n=>rw [hx] at h;cases h
  | ok p =>
   rw [hx] at h
   obtain ⟨e1,e2⟩:=hg x (by simp) p hx
   dsimp only at h
   rw [plX_val hs e1] at h
   cases ha:ovT (valQ s.data.toList+valQ p.data.toList) with
   | error n=>rw [ha] at h;cases h
   | ok u =>
    rw [ha] at h
    obtain ⟨e3,e4,_⟩:=ovT_ok ha
    obtain ⟨r1,r2⟩:=foldX_val h e3 fun y hy=>hg y (by simp [hy])
    refine ⟨r1,?_⟩
    rw [r2,e4,e2]
    simp only [sumBy]
    grind
theorem sum_vals (ls:List L2):sumBy (fun e=>e.2) (valsD ls)=sumBy (fun x:L2=>valQ x.2.data.toList) ls:=by unfold valsD;rw [sumBy_map]
theorem foldX_ne {α:Type} {g:α→XE} (hg:∀ x m,g x=.error m→m≠0):∀ {l:List α} {s:ByteArray} {n:Nat},foldX g s l=.error n→n≠0
 | [],_,_,h=>by cases h
 | x::l,s,n,h=>by
  unfold foldX at h
  cases hx:g x with
  | error m=>rw [hx] at h;cases h;exact hg x _ hx
  | ok p =>
   rw [hx] at h
   dsimp only at h
   cases ha:plX s p with
   | error m=>rw [ha] at h;cases h;exact exQ_err ha
   | ok u=>rw [ha] at h;exact foldX_ne hg h
theorem chkD_zero {ls:List L2} (h:chkD ls=0):IsD (valsD ls)∧OkV ls∧Asc (ls.map (·.1)):=by
 unfold chkD at h
 split at h
 ·rename_i h1;exact absurd h h1
 ·rename_i h1
  have h1:chkL none ls=0:=Classical.byContradiction h1
  obtain ⟨r1,r2,_⟩:=chkL_zero h1
  cases hs:sumX zT ls with
  | error n =>
   rw [hs] at h
   exact absurd h (foldX_ne (fun x m hm=>by cases hm) hs)
  | ok s =>
   rw [hs] at h
   unfold chkS at h
   dsimp only at h
   split at h
   ·rename_i h2
    obtain ⟨e1,e2⟩:=foldX_val (v:=fun x:L2=>valQ x.2.data.toList) hs err_zT (fun x hx p hp=>by cases hp;exact ⟨(r1 x hx).1,rfl⟩)
    rw [h2,val_oT,val_zT,Rat.zero_add] at e2
    refine ⟨⟨by rw [keys_vals];exact r2.nodup,fun e he=>?_,by rw [sum_vals,e2]⟩,fun x hx=>(r1 x hx).1,r2⟩
    obtain ⟨x,hx,rfl⟩:=List.mem_map.1 he
    exact (r1 x hx).2
   ·cases h
section
variable {α:Type} {f:α→Rat}
end
theorem hasT_iff {k:ByteArray}:∀ {ls:List L2},hasT ls k=true↔k∈ls.map (·.1)
 | []=>by simp [hasT]
 | x::l=>by
  unfold hasT
  rw [List.map_cons,List.mem_cons]
  split
  ·rename_i h;exact ⟨fun _=>.inl h.symm,fun _=>rfl⟩
  ·rename_i h
   rw [hasT_iff]
   exact ⟨.inr,fun h2=>h2.resolve_left fun e=>h e.symm⟩
theorem atT_none {k:ByteArray}:∀ {ls:List L2},k ∉ ls.map (·.1)→atT ls k=zT
 | [],_=>rfl
 | x::l,h=>by
  rw [List.map_cons,List.mem_cons,not_or] at h
  unfold atT
  rw [if_neg fun e=>h.1 e.symm]
  exact atT_none h.2
end Go.Proofs.YtigapglmipmbeaaGreatDoor
namespace Go.Proofs.YtigapglmipmbeaaGreatDoor
open Go.RowKit Go.Shelf
open Lim
attribute [local go_sem] Oper.semAt_some
def keyAt (ls:List L2):Nat→Option ByteArray
 | 0=>none
 | k+1=>(ls[k]?).map (·.1)
theorem chkL_err {k:Option ByteArray} {x:L2} {l:List L2} (h:posE x.2≠0):chkL k (x::l)=posE x.2:=by unfold chkL;rw [if_pos h]
theorem chkL_low {k:Option ByteArray} {x:L2} {l:List L2} (h:posE x.2=0) (h2:¬ 0 < valQ x.2.data.toList):chkL k (x::l)=2:=by unfold chkL;rw [if_neg (by simpa using h),if_pos h2]
theorem chkL_ord {k:Option ByteArray} {x:L2} {l:List L2} (h:posE x.2=0) (h2:0 < valQ x.2.data.toList) (h3:badK k x.1=true):chkL k (x::l)=9:=by unfold chkL;rw [if_neg (by simpa using h),if_neg (by simpa using h2),if_pos h3]
theorem chkL_go {k:Option ByteArray} {x:L2} {l:List L2} (h:posE x.2=0) (h2:0 < valQ x.2.data.toList) (h3:badK k x.1=false):chkL k (x::l)=chkL (some x.1) l:=by
 conv=>lhs;unfold chkL
 rw [if_neg (by simpa using h),if_neg (by simpa using h2),if_neg (by rw [h3];decide)]
theorem posB_ok {p:ByteArray} (h:posE p=0):posB p=decide (0 < valQ p.data.toList):=by
 unfold posB
 have:errQ p.data.toList=0:=by
  unfold posE at h
  split at h
  ·rename_i h2;exact absurd h h2
  ·rename_i h2;exact Classical.byContradiction h2
 rw [decide_eq_true this,Bool.true_and]
theorem errs_of {ls:List L2} (h:chkL none ls=0):∀ x∈ls,errQ x.2.data.toList=0:=by
 revert h
 generalize (none:Option ByteArray)=k
 induction ls generalizing k with
 | nil=>intro _ x hx;cases hx
 | cons y l ih =>
  intro h x hx
  by_cases h1:posE y.2=0
  ·by_cases h2:0 < valQ y.2.data.toList
   ·cases h3:badK k y.1 with
    | true=>rw [chkL_ord h1 h2 h3] at h;cases h
    | false =>
     rw [chkL_go h1 h2 h3] at h
     rcases List.mem_cons.1 hx with rfl|hx
     ·unfold posE at h1
      split at h1
      ·rename_i h4;exact absurd h1 h4
      ·rename_i h4;exact Classical.byContradiction h4
     ·exact ih _ h x hx
   ·rw [chkL_low h1 h2] at h;cases h
  ·rw [chkL_err h1] at h;exact absurd h h1
theorem keyAt_succ {ls:List L2} {k:Nat} {x:L2} (h:ls[k]?=some x):keyAt ls (k+1)=some x.1:=by
 show (ls[k]?).map (·.1)=_
 rw [h];rfl
theorem drop_of {ls:List L2} {k:Nat} {x:L2} (h:ls[k]?=some x):ls.drop k=x::ls.drop (k+1):=by
 obtain ⟨hlt,e⟩:=List.getElem?_eq_some_iff.1 h
 rw [List.drop_eq_getElem_cons hlt,e]
theorem chkS_ok {s:ByteArray}:chkS (.ok s)=if s=oT then 0 else 15:=rfl
theorem LRow.at {w W:World} {v:Value} {ls:List L2} (h:LRow w v ls) (hb:Below w.heap.size w W) {k:Nat} {x:L2} (hx:ls[k]?=some x) :
  ∃ b o c,v=.slice (some ⟨b,o,none⟩) ls.length c∧b < W.heap.size∧W.cell? ⟨b,o+k*2,none⟩=some (.string x.1)∧W.cell? ⟨b,o+k*2+1,none⟩=some (.string x.2):=by
 obtain ⟨A,c,rfl,_,hc⟩:=h
 obtain ⟨b,o,rfl,hlt,hcell⟩:=hc (by have:=(List.getElem?_eq_some_iff.1 hx).1;omega)
 obtain ⟨c0,c1⟩:=hcell k x hx
 exact ⟨b,o,c,rfl,Nat.lt_of_lt_of_le hlt hb.size,by rw [hb.cell (p:=⟨b,o+k*2,none⟩) hlt];exact c0,by rw [hb.cell (p:=⟨b,o+k*2+1,none⟩) hlt];exact c1⟩
theorem LRow.cell2 {w W:World} {b o n c:Nat} {ls:List L2} (h:LRow w (.slice (some ⟨b,o,none⟩) n c) ls) (hb:Below w.heap.size w W) {k:Nat} {x:L2} (hx:ls[k]?=some x) :
  b < W.heap.size∧W.cell? ⟨b,o+k*2,none⟩=some (.string x.1)∧W.cell? ⟨b,o+k*2+1,none⟩=some (.string x.2):=by
 obtain ⟨b',o',c',e,h1,h2,h3⟩:=h.at hb hx
 simp only [Value.slice.injEq,Option.some.injEq,Addr.mk.injEq,and_true] at e
 obtain ⟨⟨rfl,rfl⟩,_,_⟩:=e
 exact ⟨h1,h2,h3⟩
theorem dcheck_any (ls:List L2) (v:Value) (w:World) (hv:LRow w v ls) (hs:Short ls) (hr:Res w) :
  Calls Tryz.prog 36 #[v] w fun e w'=>e=.returned (.int .i64 (chkD ls:Int))∧Below w.heap.size w w':=by
 have HV:=Lib.hid hv
 obtain ⟨A,c,rfl,hlen,hcells⟩:=hv
 have HS:=Lib.hid hs
 have H0:=Lib.hid (NW.refl hr)
 have HLEN:=Lib.hid hlen
 have hrn:=runs_check1
 unfold Runs at hrn
 clear hr hcells hs
 go_enter Tryz.func36,Tryz.ntmps36
 go_wp2
 go_loopw [11] (fun v11 wr=>∃ k:Nat,k≤ls.length∧v11=.int .i64 (k:Int)∧Hid (chkL none ls=chkL (keyAt ls k) (ls.drop k))∧Hid (NW w wr)) (fun v11 _=>ls.length - (intOf v11).toNat)
 case atStart=>exact ⟨0,Nat.zero_le _,rfl,Lib.hid (by simp [keyAt]),H0⟩
 case round =>
  clear H0
  obtain ⟨k,hk,rfl,HE,HN⟩:=hrel
  by_cases hlt:k < ls.length
  ·obtain ⟨x,hx⟩:∃ x,ls[k]?=some x:=⟨_,List.getElem?_eq_getElem hlt⟩
   obtain ⟨b,o,c',e',hb2,c0,c1⟩:=HV.out.at HN.out.below hx
   simp only [Value.slice.injEq,true_and] at e'
   obtain ⟨rfl,rfl⟩:=e'
   have hlt':(k:Int) < (ls.length:Int):=by omega
   have HX:=Lib.hid (HN.out.alloc (.cells #[.string x.1,.string x.2] 30))
   have HP:=Lib.hid (positive_any (HS.out x (List.mem_of_getElem? hx)).2)
   have HD:=Lib.hid (drop_of hx)
   have HLT:=Lib.hid (And.intro hlt hlt')
   have HXK:=Lib.hid hx
   have HBL:=Lib.hid (Blk.new wr 30 #[.string x.1,.string x.2])
   obtain ⟨f,d⟩:=x
   dsimp only at c0 c1 HX HP HBL HD HXK
   clear hx hlt
   by_cases h1:posE d=0
   ·rw [h1,posB_ok h1] at HP
    by_cases h2:0 < valQ d.data.toList
    ·rw [decide_eq_true h2] at HP
     change Hid (Ret _ _ (.tuple #[.bool true,.int .i64 0])) at HP
     rcases Nat.eq_zero_or_pos k with hk0|hk0
     ·have HR:=Lib.hid (show chkL none ls=chkL (keyAt ls (k+1)) (ls.drop (k+1)) by
       rw [HE.out,HD.out,keyAt_succ HXK.out,hk0]
       exact chkL_go (x:=(f,d)) h1 h2 rfl)
      have d0:decide (0 < (k:Int))=false:=decide_eq_false (by omega)
      have d0n:decide (0 < k)=false:=decide_eq_false (by omega)
      clear h1 h2 hk0
      go_wp2_with (go_at_call 106;refine (HP.out _ HX.out.res).mono ?_;rintro e w3 ⟨rfl,hb⟩;have H3:=Lib.hid (HX.out.later hb);obtain ⟨q0,q1⟩:=cells2 (HBL.out.below hb HBL.out.lt);clear hb)
      go_quiet (fail)
      have H4:=Lib.hid (fun n=>H3.out.drewN n)
      go_wp2
      go_roundw
      case rel=>exact ⟨k+1,HLT.out.1,by go_num,HR,H4.out _⟩
      case measure=>have:=HLT.out.1;simp [intOf];omega
     ·obtain ⟨j,hj⟩:∃ j,k=j+1:=⟨k - 1,by omega⟩
      have hjl:(j:Int) < (ls.length:Int):=by have:=HLT.out.1;omega
      obtain ⟨y,hy⟩:∃ y,ls[j]?=some y:=⟨_,List.getElem?_eq_getElem (by omega)⟩
      have HCE:=Lib.hid (fun W (hW:NW w W)=>HV.out.cell2 hW.below hy)
      have e1:(k:Int) - 1=(j:Int):=by omega
      have d0:decide (0 < (k:Int))=true:=decide_eq_true (by omega)
      have d0n:decide (0 < k)=true:=decide_eq_true (by omega)
      have HKJ:=Lib.hid hj
      clear hk0 hj
      cases h3:ltK y.1 f with
      | true =>
       have HR:=Lib.hid (show chkL none ls=chkL (keyAt ls (k+1)) (ls.drop (k+1)) by
        rw [HE.out,HD.out,keyAt_succ HXK.out,HKJ.out,keyAt_succ hy]
        exact chkL_go (x:=(f,d)) h1 h2 (by show (!ltK y.1 f)=false;rw [h3];rfl))
       have TL:=lt_bytes y.1 f
       rw [h3] at TL
       clear h1 h2 h3 hy
       go_wp2_with (go_at_call 106;refine (HP.out _ HX.out.res).mono ?_;rintro e w3 ⟨rfl,hb⟩;have H3:=Lib.hid (HX.out.later hb);obtain ⟨q0,q1⟩:=cells2 (HBL.out.below hb HBL.out.lt);obtain ⟨hb3,p0,p1⟩:=HCE.out _ H3.out;clear hb)
       go_quiet (fail)
       have H4:=Lib.hid (fun n=>H3.out.drewN n)
       go_wp2
       go_roundw
       case rel=>exact ⟨k+1,HLT.out.1,by go_num,HR,H4.out _⟩
       case measure=>have:=HLT.out.1;simp [intOf];omega
      | false =>
       have HR:=Lib.hid (show chkL none ls=9 by
        rw [HE.out,HD.out,HKJ.out,keyAt_succ hy]
        exact chkL_ord (x:=(f,d)) h1 h2 (by show (!ltK y.1 f)=true;rw [h3];rfl))
       have TL:=lt_bytes y.1 f
       rw [h3] at TL
       clear h1 h2 h3 hy
       go_wp2_with (go_at_call 106;refine (HP.out _ HX.out.res).mono ?_;rintro e w3 ⟨rfl,hb⟩;have H3:=Lib.hid (HX.out.later hb);obtain ⟨q0,q1⟩:=cells2 (HBL.out.below hb HBL.out.lt);obtain ⟨hb3,p0,p1⟩:=HCE.out _ H3.out;clear hb)
       go_quiet (fail)
       have H4:=Lib.hid (fun n=>H3.out.drewN n)
       go_wp2
       go_ret
       refine ⟨?_,(H4.out _).below⟩
       unfold chkD
       rw [HR.out]
       rfl
    ·rw [decide_eq_false h2] at HP
     change Hid (Ret _ _ (.tuple #[.bool false,.int .i64 0])) at HP
     have HR:=Lib.hid (show chkL none ls=2 by rw [HE.out,HD.out];exact chkL_low (x:=(f,d)) h1 h2)
     clear h1 h2
     go_wp2_with (go_at_call 106;refine (HP.out _ HX.out.res).mono ?_;rintro e w3 ⟨rfl,hb⟩;have H3:=Lib.hid (HX.out.later hb);clear hb)
     go_ret
     refine ⟨?_,H3.out.below⟩
     unfold chkD
     rw [HR.out]
     rfl
   ·have HR:=Lib.hid (show chkL none ls=posE d∧chkL none ls≠0 by rw [HE.out,HD.out,chkL_err (x:=(f,d)) h1];exact ⟨rfl,h1⟩)
    have hm:=ne_zero h1
    clear h1
    go_wp2_with (go_at_call 106;refine (HP.out _ HX.out.res).mono ?_;rintro e w3 ⟨rfl,hb⟩;have H3:=Lib.hid (HX.out.later hb);clear hb)
    go_ret
    refine ⟨?_,H3.out.below⟩
    unfold chkD
    rw [if_pos HR.out.2,HR.out.1]
    rfl
  ·have hlt':¬ (k:Int) < (ls.length:Int):=by omega
   obtain rfl:k=ls.length:=by omega
   have h0:chkL none ls=0:=by
    have:=HE.out
    rw [List.drop_length] at this
    exact this
   have HQ:=Lib.hid (show chkD ls=chkS (foldX (fun x:L2=>.ok x.2) zT ls) by unfold chkD;rw [h0];rfl)
   have HF:=Lib.hid (dfold_any 123 #[] runs_check1 (fun x:L2=>.ok x.2) ls _ wr (HV.out.below HN.out.below) HN.out.res (fun x n h=>by cases h) (fun x hx s h=>by cases h;exact errs_of h0 x hx) (fun k x _ W _ _=>check1_any x k W))
   clear h0 hlt hk
   cases hf:foldX (fun x:L2=>(.ok x.2:XE)) zT ls with
   | error n =>
    rw [hf] at HF HQ
    have hm:=ne_zero (foldX_ne (g:=fun x:L2=>(.ok x.2:XE)) (fun x m h=>by cases h) hf)
    change Hid (Calls _ _ _ _ fun e w'=>e=.returned (.tuple #[.string ⟨#[]⟩,.int .i64 (n:Int)])∧_) at HF
    clear hf
    go_wp2_with (go_at_call 122;refine HF.out.mono ?_;rintro e w3 ⟨rfl,hb⟩;have H3:=Lib.hid (HN.out.later hb);clear hb)
    go_ret
    rw [HQ.out]
    exact ⟨rfl,H3.out.below⟩
   | ok s =>
    rw [hf] at HF HQ
    change Hid (Calls _ _ _ _ fun e w'=>e=.returned (.tuple #[.string s,.int .i64 0])∧_) at HF
    have TE:=eq_bytes s oT
    rw [oT_list] at TE
    clear hf
    rw [chkS_ok] at HQ
    by_cases h1:s=oT
    ·rw [decide_eq_true h1] at TE
     rw [if_pos h1] at HQ
     clear h1
     go_wp2_with (go_at_call 122;refine HF.out.mono ?_;rintro e w3 ⟨rfl,hb⟩;have H3:=Lib.hid (HN.out.later hb);clear hb)
     go_ret
     rw [HQ.out]
     exact ⟨rfl,H3.out.below⟩
    ·rw [decide_eq_false h1] at TE
     rw [if_neg h1] at HQ
     clear h1
     go_wp2_with (go_at_call 122;refine HF.out.mono ?_;rintro e w3 ⟨rfl,hb⟩;have H3:=Lib.hid (HN.out.later hb);clear hb)
     go_ret
     rw [HQ.out]
     exact ⟨rfl,H3.out.below⟩
theorem dchecked_any (p q:List L2) (vp vq:Value) (b:Nat) (w:World) (hb:Blk w b 31 #[vp,vq]) (hp:LRow w vp p) (hq:LRow w vq q) (sp:Short p) (sq:Short q) (hr:Res w) :
  Calls Tryz.prog 112 #[.slice (some ⟨b,0,none⟩) 2 2] w fun e w'=>e=.returned (.int .i64 (chk2 p q:Int))∧Below w.heap.size w w':=by
 have HP:=Lib.hid (dcheck_any p vp w hp sp hr)
 have HQ:=Lib.hid (fun W (hW:Below w.heap.size w W)=>dcheck_any q vq W (hq.below hW) sq (hr.below hW))
 have HB:=Lib.hid (fun W (hW:Below w.heap.size w W)=>cells2 (hb.below hW hb.lt))
 have HL:=Lib.hid (fun W (hW:Below w.heap.size w W)=>(hb.below hW hb.lt).lt)
 clear hp hq sp sq hr
 obtain ⟨x0,x1⟩:=HB.out w (Below.refl _ _)
 have xl:=HL.out w (Below.refl _ _)
 go_enter Tryz.func112,Tryz.ntmps112
 go_wp2
 go_loopw [8] (fun v8 wr=>∃ k:Nat,k≤2∧v8=.int .i64 (k:Int)∧Hid (0 < k→chkD p=0)∧Hid (1 < k→chkD q=0)∧Hid (Below w.heap.size w wr)∧Hid (k=0→wr=w)) (fun v8 _=>2 - (intOf v8).toNat)
 case atStart=>exact ⟨0,by omega,rfl,Lib.hid (fun h=>by omega),Lib.hid (fun h=>by omega),Lib.hid (Below.refl _ _),Lib.hid (fun _=>rfl)⟩
 case round =>
  clear x0 x1 xl
  obtain ⟨k,hk,rfl,H1,H2,HN,HW⟩:=hrel
  obtain ⟨x0,x1⟩:=HB.out wr HN.out
  have xl:=HL.out wr HN.out
  rcases (by omega:k=0∨k=1∨k=2) with rfl|rfl|rfl
  ·obtain rfl:=HW.out rfl
   by_cases h0:chkD p=0
   ·have HR:=Lib.hid h0
    rw [h0] at HP
    change Hid (Calls _ _ _ _ fun e w'=>e=.returned (.int .i64 0)∧_) at HP
    clear h0
    go_wp2_with (go_at_call 36;refine HP.out.mono ?_;rintro e w3 ⟨rfl,hb⟩;have H3:=Lib.hid hb;clear hb)
    go_roundw
    case rel=>exact ⟨1,by omega,by go_num,Lib.hid (fun _=>HR.out),Lib.hid (fun h=>by omega),H3,Lib.hid (fun h=>by omega)⟩
    case measure=>simp [intOf]
   ·have hm:=ne_zero h0
    have HR:=Lib.hid (show chk2 p q=chkD p from if_pos h0)
    clear h0
    go_wp2_with (go_at_call 36;refine HP.out.mono ?_;rintro e w3 ⟨rfl,hb⟩;have H3:=Lib.hid hb;clear hb)
    go_ret
    rw [HR.out]
    exact ⟨rfl,H3.out⟩
  ·have h0:=H1.out (by omega)
   by_cases h1:chkD q=0
   ·have HR:=Lib.hid h1
    have HC:=Lib.hid h0
    rw [h1] at HQ
    change Hid (∀ W,_→Calls _ _ _ _ fun e w'=>e=.returned (.int .i64 0)∧_) at HQ
    clear h0 h1
    go_wp2_with (go_at_call 36;refine (HQ.out _ HN.out).mono ?_;rintro e w3 ⟨rfl,hb⟩;have H3:=Lib.hid (HN.out.trans (hb.mono HN.out.size));clear hb)
    go_roundw
    case rel=>exact ⟨2,by omega,by go_num,Lib.hid (fun _=>HC.out),Lib.hid (fun _=>HR.out),H3,Lib.hid (fun h=>by omega)⟩
    case measure=>simp [intOf]
   ·have hm:=ne_zero h1
    have HR:=Lib.hid (show chk2 p q=chkD q from if_neg (by simpa using h0))
    clear h0 h1
    go_wp2_with (go_at_call 36;refine (HQ.out _ HN.out).mono ?_;rintro e w3 ⟨rfl,hb⟩;have H3:=Lib.hid (HN.out.trans (hb.mono HN.out.size));clear hb)
    go_ret
    rw [HR.out]
    exact ⟨rfl,H3.out⟩
  ·have HR:=Lib.hid (show chk2 p q=0 by unfold chk2;rw [if_neg (by simpa using H1.out (by omega))];exact H2.out (by omega))
   go_wp2
   go_ret
   rw [HR.out]
   exact ⟨rfl,HN.out⟩
end Go.Proofs.YtigapglmipmbeaaGreatDoor
namespace Go.Proofs.YtigapglmipmbeaaGreatDoor
open Go.RowKit Go.Shelf
def cellsM (ls:List L2):List Value:=ls.flatMap fun x=>[.string x.1,.string x.2]
theorem cellsM_cons (x:L2) (l:List L2):cellsM (x::l)=.string x.1::.string x.2::cellsM l:=rfl
theorem cellsM_append (l m:List L2):cellsM (l++m)=cellsM l++cellsM m:=by unfold cellsM;rw [List.flatMap_append]
theorem cellsM_snoc (l:List L2) (x:L2):cellsM l++[.string x.1,.string x.2]=cellsM (l++[x]):=by rw [cellsM_append];rfl
theorem cellsM_length:∀ ls:List L2,(cellsM ls).length=ls.length*2
 | []=>rfl
 | x::l=>by rw [cellsM_cons,List.length_cons,List.length_cons,cellsM_length l,List.length_cons];omega
theorem cellsM_at:∀ {ls:List L2} {k:Nat} {x:L2},ls[k]?=some x→(cellsM ls)[k*2]?=some (.string x.1)∧(cellsM ls)[k*2+1]?=some (.string x.2)
 | [],k,x,h=>by simp at h
 | y::l,0,x,h=>by
  simp only [List.getElem?_cons_zero,Option.some.injEq] at h
  subst h
  exact ⟨rfl,rfl⟩
 | y::l,k+1,x,h=>by
  have h2:l[k]?=some x:=by simpa using h
  rw [cellsM_cons,show (k+1)*2=k*2+1+1 by omega]
  exact cellsM_at h2
theorem infoM:(Tryz.prog.info? 30).map (fun i=>(i.zero,i.size,i.bytes))=some (some (.agg #[.string ByteArray.empty,.string ByteArray.empty]),2,32):=by kernel_rfl
theorem slice_shape {w:World} {base e size n:Nat} {v:Value} {us:List Value} (h:w.ownsRow base e size v n us):∃ A c,v=.slice A n c:=by
 rcases h.2 with ⟨e1,h0⟩|⟨g,cap,cur,e1,_⟩
 ·exact ⟨none,0,by rw [e1,h0]⟩
 ·exact ⟨_,_,e1⟩
theorem owns_base {w:World} {base base' e size n:Nat} {v:Value} {us:List Value} (h:w.ownsRow base e size v n us) (hb:base'≤base):w.ownsRow base' e size v n us:=by
 refine ⟨h.1,?_⟩
 rcases h.2 with h2|⟨g,cap,cur,e1,h3,h4⟩
 ·exact .inl h2
 ·exact .inr ⟨g,cap,cur,e1,Nat.le_trans hb h3,h4⟩
def OwnM (base:Nat) (w:World) (v:Value) (ls:List L2):Prop:=w.ownsRow base 30 2 v ls.length (cellsM ls)
theorem OwnM.nil (base:Nat) (w:World):OwnM base w (.slice none 0 0) []:=World.ownsRow_nil _ _ _ _
theorem OwnM.row {base:Nat} {w:World} {v:Value} {ls:List L2} (h:OwnM base w v ls) (hl:ls.length≤1000):LRow w v ls:=by
 rcases h.2 with ⟨e,h0⟩|⟨g,cap,cur,e,hb,hh,h1,h2,_⟩
 ·subst e
  have:ls=[]:=List.eq_nil_of_length_eq_zero h0
  subst this
  exact LRow.nil _ _ _
 ·subst e
  refine ⟨_,_,rfl,hl,fun _=>⟨g,0,rfl,(Array.getElem?_eq_some_iff.1 hh).1,fun j x hj=>?_⟩⟩
  obtain ⟨c0,c1⟩:=cellsM_at hj
  have r0:=World.ownsRow.cells h (g:=g) rfl _ _ c0
  have r1:=World.ownsRow.cells h (g:=g) rfl _ _ c1
  rw [show (⟨g,0,none⟩:Addr).add (j*2)=⟨g,0+j*2,none⟩ by unfold Addr.add;split<;>simp_all] at r0
  rw [show (⟨g,0,none⟩:Addr).add (j*2+1)=⟨g,0+(j*2+1),none⟩ by unfold Addr.add;split<;>simp_all] at r1
  exact ⟨r0,r1⟩
theorem OwnM.slice {base:Nat} {w:World} {v:Value} {ls:List L2} (h:OwnM base w v ls):∃ A c,v=.slice A ls.length c:=by
 rcases h.2 with ⟨e,h0⟩|⟨g,cap,cur,e,_⟩
 ·exact ⟨none,0,by rw [e,h0]⟩
 ·exact ⟨_,_,e⟩
theorem OwnM.later {base:Nat} {w w':World} {v:Value} {ls:List L2} (h:OwnM base w v ls) (hb:Below w.heap.size w w'):OwnM base w' v ls:=by
 have hg:w.grownBy w' none:=⟨hb.os,hb.tape,hb.output,hb.size,fun k hk _=>hb.block k hk⟩
 refine World.ownsRow.kept h hg ?_
 cases v.ownBlock with
 | none=>exact .inl rfl
 | some g=>exact .inr (by simp)
theorem OwnM.base {base:Nat} {w:World} {v:Value} {ls:List L2} (h:OwnM base w v ls) {g:Nat} (hg:v.ownBlock=some g):base≤g:=(World.ownsRow.lt h g hg).1
theorem cell_two_new (w:World) (x y:Value) (t:TypeId):∀ j u,[x,y][j]?=some u→(w.alloc (.cells #[x,y] t)).cell? ((⟨w.heap.size,0,none⟩:Addr).add j)=some u:=by
 intro j u hj
 match j,hj with
 | 0,hj =>
  simp at hj
  subst hj
  simp [Addr.add]
 | 1,hj =>
  simp at hj
  subst hj
  simp [Addr.add]
theorem grow_nw {w W W':World} (h:NW w W) (hr:Res w) {row:Option Nat} (hg:W.grownBy W' row) (hrow:∀ r,row=some r→w.heap.size≤r):NW w W':=by
 have hb:Below w.heap.size w W':=h.below.grown hg h.below.size hrow
 exact ⟨hb,hr.below hb⟩
theorem grown_none' {w w':World} (h:Below w.heap.size w w') (row:Option Nat):w.grownBy w' row:=⟨h.os,h.tape,h.output,h.size,fun k hk _=>h.block k hk⟩
theorem LRow.ofBlk {w:World} {b:Nat} {t:TypeId} {ls:List L2} {n c:Nat} (h:Blk w b t (cellsM ls).toArray) (hn:n=ls.length) (hl:ls.length≤1000):LRow w (.slice (some ⟨b,0,none⟩) n c) ls:=by
 subst hn
 refine ⟨_,_,rfl,hl,fun _=>⟨b,0,rfl,h.lt,fun j x hj=>?_⟩⟩
 obtain ⟨c0,c1⟩:=cellsM_at hj
 exact ⟨by rw [h.cell,Nat.zero_add];simpa using c0,by rw [h.cell,Nat.zero_add];simpa using c1⟩
def LRowW (w:World) (v:Value) (ls:List L2):Prop :=
 ∃ A c,v=.slice A ls.length c∧ls.length≤maxLen∧(0 < ls.length→∃ b o,A=some ⟨b,o,none⟩∧b < w.heap.size ∧
  ∀ (j:Nat) (x:L2),ls[j]?=some x→w.cell? ⟨b,o+j*2,none⟩=some (.string x.1)∧w.cell? ⟨b,o+j*2+1,none⟩=some (.string x.2))
theorem LRowW.below {w w':World} {v:Value} {ls:List L2} (h:LRowW w v ls) (hb:Below w.heap.size w w'):LRowW w' v ls:=by
 obtain ⟨A,c,e,h1,h2⟩:=h
 refine ⟨A,c,e,h1,fun h0=>?_⟩
 obtain ⟨b,o,e2,hlt,hc⟩:=h2 h0
 refine ⟨b,o,e2,Nat.lt_of_lt_of_le hlt hb.size,fun j x hj=>?_⟩
 obtain ⟨c0,c1⟩:=hc j x hj
 exact ⟨by rw [hb.cell (p:=⟨b,o+j*2,none⟩) hlt];exact c0,by rw [hb.cell (p:=⟨b,o+j*2+1,none⟩) hlt];exact c1⟩
theorem LRow.wide {w:World} {v:Value} {ls:List L2} (h:LRow w v ls):LRowW w v ls:=by
 obtain ⟨A,c,e,h1,h2⟩:=h
 exact ⟨A,c,e,by unfold maxLen;omega,h2⟩
theorem LRowW.row {w:World} {v:Value} {ls:List L2} (h:LRowW w v ls) (hl:ls.length≤1000):LRow w v ls:=by
 obtain ⟨A,c,e,_,h2⟩:=h
 exact ⟨A,c,e,hl,h2⟩
theorem LRowW.at {w W:World} {v:Value} {ls:List L2} (h:LRowW w v ls) (hb:Below w.heap.size w W) {k:Nat} {x:L2} (hx:ls[k]?=some x) :
  ∃ b o c,v=.slice (some ⟨b,o,none⟩) ls.length c∧b < W.heap.size∧W.cell? ⟨b,o+k*2,none⟩=some (.string x.1)∧W.cell? ⟨b,o+k*2+1,none⟩=some (.string x.2):=by
 obtain ⟨A,c,rfl,_,hc⟩:=h
 obtain ⟨b,o,rfl,hlt,hcell⟩:=hc (by have:=(List.getElem?_eq_some_iff.1 hx).1;omega)
 obtain ⟨c0,c1⟩:=hcell k x hx
 exact ⟨b,o,c,rfl,Nat.lt_of_lt_of_le hlt hb.size,by rw [hb.cell (p:=⟨b,o+k*2,none⟩) hlt];exact c0,by rw [hb.cell (p:=⟨b,o+k*2+1,none⟩) hlt];exact c1⟩
def LLRow (w:World) (v:Value) (lss:List (List L2)):Prop:=∃ b c,v=.slice (some ⟨b,0,none⟩) lss.length c∧b < w.heap.size∧lss.length≤8 ∧
 ∀ (j:Nat) (ls:List L2),lss[j]?=some ls→∃ u,w.cell? ⟨b,j,none⟩=some u∧LRowW w u ls
theorem LLRow.below {w w':World} {v:Value} {lss:List (List L2)} (h:LLRow w v lss) (hb:Below w.heap.size w w'):LLRow w' v lss:=by
 obtain ⟨b,c,e,h1,h2,h3⟩:=h
 refine ⟨b,c,e,Nat.lt_of_lt_of_le h1 hb.size,h2,fun j ls hj=>?_⟩
 obtain ⟨u,c0,hu⟩:=h3 j ls hj
 exact ⟨u,(hb.cell (p:=⟨b,j,none⟩) h1).trans c0,hu.below hb⟩
theorem LLRow.ofBlk {w:World} {b:Nat} {t:TypeId} {vs:List (Value × List L2)} {n c:Nat} (h:Blk w b t (vs.map (·.1)).toArray) (hn:n=vs.length) (hl:vs.length≤8) (hv:∀ x∈vs,LRowW w x.1 x.2):LLRow w (.slice (some ⟨b,0,none⟩) n c) (vs.map (·.2)):=by
 subst hn
 refine ⟨b,c,by rw [List.length_map],h.lt,by rw [List.length_map];exact hl,fun j ls hj=>?_⟩
 rw [List.getElem?_map] at hj
 cases hx:vs[j]? with
 | none=>rw [hx] at hj;cases hj
 | some x =>
  rw [hx] at hj
  cases hj
  exact ⟨x.1,by rw [h.cell];simp [hx],hv x (List.mem_of_getElem? hx)⟩
end Go.Proofs.YtigapglmipmbeaaGreatDoor
namespace Go.Proofs.YtigapglmipmbeaaGreatDoor
open Go.RowKit Go.Maps Go.Sort Go.Shelf
open Lim
theorem hasT_cons (y:L2) (l:List L2) (k:ByteArray):hasT (y::l) k=(decide (y.1=k) || hasT l k):=by
 conv=>lhs;unfold hasT
 by_cases h:y.1=k
 ·rw [if_pos h,decide_eq_true h];rfl
 ·rw [if_neg h,decide_eq_false h];rfl
theorem atT_cons (y:L2) (l:List L2) (k:ByteArray):atT (y::l) k=if y.1=k then y.2 else atT l k:=by
 conv=>lhs;unfold atT
theorem asc_cons {y:L2} {l:List L2}:Asc ((y::l).map (·.1))↔(∀ z∈l,ltK y.1 z.1=true)∧Asc (l.map (·.1)):=by
 unfold Asc
 rw [List.map_cons,List.pairwise_cons]
 constructor
 ·rintro ⟨h1,h2⟩;exact ⟨fun z hz=>h1 _ (List.mem_map_of_mem hz),h2⟩
 ·rintro ⟨h1,h2⟩
  refine ⟨fun k hk=>?_,h2⟩
  obtain ⟨z,hz,rfl⟩:=List.mem_map.1 hk
  exact h1 z hz
theorem hasT_mem {l:List L2} {k:ByteArray}:hasT l k=true↔∃ z∈l,z.1=k:=by rw [hasT_iff,List.mem_map]
theorem ltK_ne {a b:ByteArray} (h:ltK a b=true):a≠b:=fun e=>by rw [e,ltK_irrefl] at h;cases h
theorem ins_new:∀ {a:List L2} {x:L2},Asc (a.map (·.1))→hasT a x.1=false→∃ b,insX a x=.ok b∧Asc (b.map (·.1))∧b.length=a.length+1∧∀ k,hasT b k=(decide (x.1=k) || hasT a k)∧atT b k=(if x.1=k then x.2 else atT a k)
 | [],x,_,_=>⟨[x],rfl,by unfold Asc;simp,rfl,fun k=>⟨by rw [hasT_cons],by rw [atT_cons]⟩⟩
 | y::l,x,ha,hh=>by
  obtain ⟨h1,h2⟩:=asc_cons.1 ha
  rw [hasT_cons,Bool.or_eq_false_iff] at hh
  have hne:y.1≠x.1:=of_decide_eq_false hh.1
  unfold insX
  cases hl:ltK y.1 x.1 with
  | true =>
   rw [if_pos rfl]
   obtain ⟨b,eb,hb,hbl,hk⟩:=ins_new h2 hh.2
   rw [eb]
   refine ⟨y::b,rfl,asc_cons.2 ⟨fun z hz=>?_,hb⟩,by simp [hbl],fun k=>?_⟩
   ·have hz2:hasT b z.1=true:=hasT_mem.2 ⟨z,hz,rfl⟩
    rw [(hk z.1).1,Bool.or_eq_true] at hz2
    rcases hz2 with h|h
    ·rw [← of_decide_eq_true h];exact hl
    ·obtain ⟨u,hu,e⟩:=hasT_mem.1 h
     rw [← e];exact h1 u hu
   ·rw [hasT_cons,hasT_cons,atT_cons,atT_cons,(hk k).1,(hk k).2]
    refine ⟨by cases decide (y.1=k)<;>cases decide (x.1=k)<;>rfl,?_⟩
    by_cases e:y.1=k
    ·rw [if_pos e,if_pos e,if_neg (fun e2=>hne (e.trans e2.symm))]
    ·rw [if_neg e,if_neg e]
  | false =>
   rw [if_neg (by decide),if_neg hne]
   have hlt:=ltK_total hl hne
   refine ⟨x::y::l,rfl,asc_cons.2 ⟨fun z hz=>?_,ha⟩,rfl,fun k=>⟨by rw [hasT_cons],by rw [atT_cons]⟩⟩
   rcases List.mem_cons.1 hz with rfl|hz
   ·exact hlt
   ·exact ltK_trans hlt (h1 z hz)
def setT (a:List L2) (k s:ByteArray):List L2:=a.map fun y=>if y.1=k then (y.1,s) else y
theorem setT_keys (a:List L2) (k s:ByteArray):(setT a k s).map (·.1)=a.map (·.1):=by
 unfold setT
 rw [List.map_map]
 refine List.map_congr_left fun y _=>?_
 show (if y.1=k then (y.1,s) else y).1=y.1
 split<;>rfl
theorem setT_has (a:List L2) (k s j:ByteArray):hasT (setT a k s) j=hasT a j:=by
 rw [Bool.eq_iff_iff,hasT_iff,hasT_iff,setT_keys]
theorem setT_at:∀ {a:List L2} {k s j:ByteArray},hasT a j=true→atT (setT a k s) j=if k=j then s else atT a j
 | [],k,s,j,h=>by cases h
 | y::l,k,s,j,h=>by
  show atT ((if y.1=k then (y.1,s) else y)::setT l k s) j=_
  rw [atT_cons,atT_cons]
  by_cases e:y.1=k
  ·rw [if_pos e]
   show (if y.1=j then s else _)=_
   by_cases e2:y.1=j
   ·rw [if_pos e2,if_pos (e.symm.trans e2)]
   ·have hk:¬ k=j:=fun e3=>e2 (e.trans e3)
    rw [hasT_cons,decide_eq_false e2,Bool.false_or] at h
    rw [if_neg e2,if_neg e2,if_neg hk,setT_at h,if_neg hk]
  ·rw [if_neg e]
   by_cases e2:y.1=j
   ·have hk:¬ k=j:=fun e3=>e (e2.trans e3.symm)
    rw [if_pos e2,if_pos e2,if_neg hk]
   ·rw [hasT_cons,decide_eq_false e2,Bool.false_or] at h
    rw [if_neg e2,if_neg e2]
    exact setT_at h
theorem setT_none {a:List L2} {k s:ByteArray} (h:∀ z∈a,z.1≠k):setT a k s=a:=by
 unfold setT
 conv=>rhs;rw [← List.map_id a]
 exact List.map_congr_left fun y hy=>if_neg (h y hy)
theorem ins_old:∀ {a:List L2} {x:L2},Asc (a.map (·.1))→hasT a x.1=true→insX a x=(match plX (atT a x.1) x.2 with|.error n=>.error n|.ok s=>.ok (setT a x.1 s))
 | [],x,_,h=>by cases h
 | y::l,x,ha,hh=>by
  obtain ⟨h1,h2⟩:=asc_cons.1 ha
  unfold insX
  cases hl:ltK y.1 x.1 with
  | true =>
   have hne:=ltK_ne hl
   rw [hasT_cons,decide_eq_false hne,Bool.false_or] at hh
   rw [if_pos rfl,atT_cons,if_neg hne,ins_old h2 hh]
   cases plX (atT l x.1) x.2 with
   | error n=>rfl
   | ok s =>
    show Except.ok (y::setT l x.1 s)=Except.ok ((if y.1=x.1 then (y.1,s) else y)::setT l x.1 s)
    rw [if_neg hne]
  | false =>
   rw [if_neg (by decide)]
   by_cases e:y.1=x.1
   ·rw [if_pos e,atT_cons,if_pos e]
    cases plX y.2 x.2 with
    | error n=>rfl
    | ok s =>
     show Except.ok ((y.1,s)::l)=Except.ok ((if y.1=x.1 then (y.1,s) else y)::setT l x.1 s)
     rw [if_pos e,setT_none fun z hz e2=>ltK_ne (h1 z hz) (e.trans e2.symm)]
   ·exfalso
    have hlt:=ltK_total hl e
    obtain ⟨z,hz,hk⟩:=hasT_mem.1 hh
    rcases List.mem_cons.1 hz with rfl|hz
    ·exact e hk
    ·exact ltK_ne (ltK_trans hlt (h1 z hz)) hk.symm
def mKey (k:ByteArray):Lit:=.string k.data.toList
theorem mKey_inj {a b:ByteArray} (h:mKey a=mKey b):a=b:=by
 unfold mKey at h
 injection h with h
 exact bytes_ext h
theorem mKey_isKey (a:ByteArray):WideAt.IsKeyLit (mKey a):=trivial
theorem lawK:Keyed Tryz.prog 9:=string_keyed Tryz.underlying9
theorem keyOfK {s:ByteArray} (hs:s.size≤maxLen):keyOf Tryz.prog 9 (.string s)=some (mKey s):=by
 simp [keyOf,mapKey,Tryz.underlying9,hs,mKey]
theorem zeroNum (w:World):(zeroValue 23).run Tryz.prog w=.ok (.string ByteArray.empty) w:=by kernel_rfl
structure RelM (A:DataW Unit) (a:List L2):Prop where
 has:∀ k,Maps.has A (mKey k)=hasT a k
 text:∀ k,hasT a k=true→A.atKey (mKey k) (.lit (.string []))=.lit (.string (atT a k).data.toList)
 asc:Asc (a.map (·.1))
theorem RelM.nil:RelM (.map []) []:=⟨fun _=>rfl,(fun _ h=>by cases h),List.Pairwise.nil⟩
theorem RelM.fresh {A:DataW Unit} {a:List L2} {x:L2} (h:RelM A a) (hm:IsMap A) (hx:hasT a x.1=false):∃ b,insX a x=.ok b∧b.length=a.length+1∧RelM (A.put (mKey x.1) (.lit (.string x.2.data.toList))) b:=by
 obtain ⟨b,eb,hb,hbl,hk⟩:=ins_new h.asc hx
 refine ⟨b,eb,hbl,fun k=>?_,fun k hk2=>?_,hb⟩
 ·rw [(hk k).1]
  by_cases e:x.1=k
  ·subst e;rw [has_put_same hm (mKey_isKey _),decide_eq_true rfl];rfl
  ·rw [has_put_other (fun e'=>e (mKey_inj e').symm),h.has,decide_eq_false e];rfl
 ·rw [(hk k).2]
  by_cases e:x.1=k
  ·subst e;rw [atKey_put_same hm (mKey_isKey _),if_pos rfl]
  ·rw [(hk k).1,decide_eq_false e,Bool.false_or] at hk2
   rw [atKey_put_other (fun e'=>e (mKey_inj e').symm),if_neg e,h.text k hk2]
theorem RelM.over {A:DataW Unit} {a:List L2} {k s:ByteArray} (h:RelM A a) (hm:IsMap A) (hx:hasT a k=true):RelM (A.put (mKey k) (.lit (.string s.data.toList))) (setT a k s):=by
 refine ⟨fun j=>?_,fun j hj=>?_,by rw [setT_keys];exact h.asc⟩
 ·rw [setT_has]
  by_cases e:k=j
  ·subst e;rw [has_put_same hm (mKey_isKey _),hx]
  ·rw [has_put_other (fun e'=>e (mKey_inj e').symm),h.has]
 ·rw [setT_has] at hj
  rw [setT_at hj]
  by_cases e:k=j
  ·subst e;rw [atKey_put_same hm (mKey_isKey _),if_pos rfl]
  ·rw [atKey_put_other (fun e'=>e (mKey_inj e').symm),if_neg e,h.text j hj]
def mkB (x:List UInt8):ByteArray:=⟨x.toArray⟩
def rawK (ks:List ByteArray):List (List UInt8):=ks.map fun x=>x.data.toList
theorem mem_rawK {ks:List ByteArray} {x:List UInt8}:x∈rawK ks↔mkB x∈ks:=by
 unfold rawK
 rw [List.mem_map]
 constructor
 ·rintro ⟨k,hk,rfl⟩;exact hk
 ·intro h;exact ⟨mkB x,h,rfl⟩
theorem asc_lt {ks:List ByteArray} (h:Asc ks):ks.Pairwise fun x y=>x.data.toList < y.data.toList:=List.Pairwise.imp (fun h=>ltK_iff.1 h) h
theorem rawK_sorted {ks:List ByteArray} (h:Asc ks):(rawK ks).mergeSort (fun x y=>decide (x≤y))=rawK ks:=by
 refine List.mergeSort_of_pairwise ?_
 unfold rawK
 rw [List.pairwise_map]
 refine (asc_lt h).imp fun {x y} hlt=>?_
 simp only [decide_eq_true_eq]
 exact List.le_of_lt hlt
theorem rawK_nodup {ks:List ByteArray} (h:Asc ks):(rawK ks).Nodup:=by
 unfold rawK
 unfold List.Nodup
 rw [List.pairwise_map]
 refine (asc_lt h).imp fun {x y} hlt e=>?_
 rw [e] at hlt
 exact List.lt_irrefl _ hlt
theorem perm_sort {l l':List (List UInt8)} (h:l.Perm l'):l.mergeSort (fun x y=>decide (x≤y))=l'.mergeSort (fun x y=>decide (x≤y)):=by
 refine List.Perm.eq_of_pairwise (le:=fun x y=>x≤y) (fun a b _ _ h1 h2=>List.le_antisymm h1 h2) ?_ ?_ (((List.mergeSort_perm _ _).trans h).trans (List.mergeSort_perm _ _).symm)
 ·exact (List.pairwise_mergeSort (fun a b c h1 h2=>by simp only [decide_eq_true_eq] at *;exact List.le_trans h1 h2) (fun a b=>by simp only [Bool.or_eq_true,decide_eq_true_eq];exact List.le_total a b) l).imp fun h=>of_decide_eq_true h
 ·exact (List.pairwise_mergeSort (fun a b c h1 h2=>by simp only [decide_eq_true_eq] at *;exact List.le_trans h1 h2) (fun a b=>by simp only [Bool.or_eq_true,decide_eq_true_eq];exact List.le_total a b) l').imp fun h=>of_decide_eq_true h
theorem RelM.keys {A:DataW Unit} {a:List L2} {w:World} {b n:Nat} (h:RelM A a) (hown:w.ownsMap Tryz.prog 9 (plainElem Tryz.prog 23) b n A) {ss:List (List UInt8)} (hp:ss.Perm (strKeys A)):ss.mergeSort (fun x y=>decide (x≤y))=rawK (a.map (·.1)):=by
 obtain ⟨l,rfl,hpw,_⟩:=hown.entries lawK
 obtain ⟨l',e,hks⟩:=hown.keysOf
 cases e
 have hperm:(rawK (a.map (·.1))).Perm (strKeys (.map l)):=by
  refine perm_strKeys hpw (fun p hp=>?_) (rawK_nodup h.asc) fun x=>?_
  ·obtain ⟨v,hv⟩:=hks p hp
   obtain ⟨x,_,hx,_⟩:=keyOf_str Tryz.underlying9 hv
   exact ⟨x,hx⟩
  ·rw [mem_rawK,← hasT_iff,← h.has]
   rfl
 rw [perm_sort (hp.trans hperm.symm),rawK_sorted h.asc]
section
variable {w:World} {b n:Nat} {D:DataW Unit} {key s:ByteArray} (hown:w.ownsMap Tryz.prog 9 (plainElem Tryz.prog 23) b n D) (hk:key.size≤maxLen) (hs:D.atKey (mKey key) (.lit (.string []))=.lit (.string s.data.toList))
include hown hk hs
theorem lookS_ok {bb:Bool} (hb:Maps.has D (mKey key)=bb):(Instr.lookup 129 (.map (some b)) (.string key) true).run Tryz.prog w=.ok (.tuple #[.string s,.bool bb]) w:=by
 obtain ⟨v,ps,hrun,hv⟩:=hown.look_ok lawK Tryz.underlying129 (zeroNum _) (plainElem_string Tryz.underlying23 (by decide)) (keyOfK hk)
 obtain ⟨t0,rfl,ht0,_⟩:=plainElem_string_inv Tryz.underlying23 hv
 rw [show ByteArray.empty.data.toList=[] from rfl,hs] at ht0
 simp only [Prod.mk.injEq,DataW.lit.injEq,Lit.string.injEq] at ht0
 rw [hrun,hb,bytes_ext ht0.1]
theorem lookS:(Instr.lookup 129 (.map (some b)) (.string key) false).run Tryz.prog w=.ok (.string s) w:=by
 obtain ⟨v,ps,hrun,hv⟩:=hown.lookup lawK Tryz.underlying129 (zeroNum _) (plainElem_string Tryz.underlying23 (by decide)) (keyOfK hk)
 obtain ⟨t0,rfl,ht0,_⟩:=plainElem_string_inv Tryz.underlying23 hv
 rw [show ByteArray.empty.data.toList=[] from rfl,hs] at ht0
 simp only [Prod.mk.injEq,DataW.lit.injEq,Lit.string.injEq] at ht0
 rw [hrun,bytes_ext ht0.1]
end
end Go.Proofs.YtigapglmipmbeaaGreatDoor
namespace Go.Proofs.YtigapglmipmbeaaGreatDoor
open Go.Shelf
def Tryz.keysD_ren:Go.Shelf.Ren:=⟨fun|7=>109|10=>194|n=>n,fun|23=>129|26=>9|3=>23|28=>133|0=>0|27=>132|33=>221|4=>4|n=>n,fun|n=>n⟩
theorem Tryz.keysD:Go.Proofs.SlLaysZ.n7 Tryz.prog Tryz.keysD_ren:={
 mixed:=by kernel_rfl
 f7:=⟨Tryz.f109.name,by decide,Tryz.func109.trans (congrArg some (by kernel_rfl))⟩
 f10:=⟨Tryz.f194.name,by decide,Tryz.func194.trans (congrArg some (by kernel_rfl))⟩
 t0:=Tryz.underlying0
 a0:=Tryz.isAgg0
 z0:=Tryz.sizeOf0
 v0:=Tryz.zeroValue0
 t4:=Tryz.underlying4
 a4:=Tryz.isAgg4
 z4:=Tryz.sizeOf4
 v4:=Tryz.zeroValue4
 t23:=Tryz.underlying129
 a23:=Tryz.isAgg129
 z23:=Tryz.sizeOf129
 v23:=Tryz.zeroValue129
 t26:=Tryz.underlying9
 a26:=Tryz.isAgg9
 z26:=Tryz.sizeOf9
 v26:=Tryz.zeroValue9
 t27:=Tryz.underlying132
 a27:=Tryz.isAgg132
 z27:=Tryz.sizeOf132
 v27:=Tryz.zeroValue132
 t28:=Tryz.underlying133
 a28:=Tryz.isAgg133
 z28:=Tryz.sizeOf133
 v28:=Tryz.zeroValue133
 t33:=Tryz.underlying221
 a33:=Tryz.isAgg221
 z33:=Tryz.sizeOf221
 v33:=Tryz.zeroValue221 }
def Tryz.sortedD_ren:Go.Shelf.Ren:=⟨fun|6=>108|8=>192|9=>193|11=>253|13=>255|12=>254|23=>291|24=>292|14=>282|15=>283|16=>284|17=>285|18=>286|19=>287|20=>288|21=>289|22=>290|25=>309|26=>310|27=>311|28=>312|29=>313|30=>259|31=>330|n=>n,fun|26=>9|28=>133|24=>24|0=>0|3=>3|37=>265|48=>299|50=>117|4=>4|40=>292|39=>291|45=>204|5=>5|9=>9|51=>317|55=>321|57=>337|58=>338|33=>221|n=>n,fun|n=>n⟩
theorem Tryz.sortedD:Go.Proofs.SlLaysZ.n6 Tryz.prog Tryz.sortedD_ren:={
 mixed:=by kernel_rfl
 f6:=⟨Tryz.f108.name,by decide,Tryz.func108.trans (congrArg some (by kernel_rfl))⟩
 f8:=⟨Tryz.f192.name,by decide,Tryz.func192.trans (congrArg some (by kernel_rfl))⟩
 f11:=⟨Tryz.f253.name,by decide,Tryz.func253.trans (congrArg some (by kernel_rfl))⟩
 t0:=Tryz.underlying0
 a0:=Tryz.isAgg0
 z0:=Tryz.sizeOf0
 v0:=Tryz.zeroValue0
 t24:=Tryz.underlying24
 a24:=Tryz.isAgg24
 z24:=Tryz.sizeOf24
 v24:=Tryz.zeroValue24
 t26:=Tryz.underlying9
 a26:=Tryz.isAgg9
 z26:=Tryz.sizeOf9
 v26:=Tryz.zeroValue9
 t28:=Tryz.underlying133
 a28:=Tryz.isAgg133
 z28:=Tryz.sizeOf133
 v28:=Tryz.zeroValue133
 i26:=by kernel_rfl }
def Tryz.sortD_ren:Go.Shelf.Ren:=⟨fun|6=>193|8=>255|9=>254|19=>291|20=>292|21=>282|22=>283|23=>284|24=>285|25=>286|26=>287|27=>288|28=>289|29=>290|36=>309|31=>310|32=>311|37=>312|38=>313|39=>259|41=>330|n=>n,fun|27=>24|29=>9|3=>3|32=>265|26=>24|0=>0|44=>299|46=>117|4=>4|36=>292|35=>291|41=>204|5=>5|9=>9|53=>317|57=>321|63=>337|64=>338|n=>n,fun|n=>n⟩
theorem Tryz.sortD:Go.Proofs.SlLaysM.n6 Tryz.prog Tryz.sortD_ren:={
 mixed:=by kernel_rfl
 f6:=⟨Tryz.f193.name,by decide,Tryz.func193.trans (congrArg some (by kernel_rfl))⟩
 f8:=Tryz.func255.trans (congrArg some (by kernel_rfl))
 f9:=⟨Tryz.f254.name,by decide,Tryz.func254.trans (congrArg some (by kernel_rfl))⟩
 f19:=Tryz.func291.trans (congrArg some (by kernel_rfl))
 f20:=Tryz.func292.trans (congrArg some (by kernel_rfl))
 f21:=⟨Tryz.f282.name,by decide,Tryz.func282.trans (congrArg some (by kernel_rfl))⟩
 f22:=⟨Tryz.f283.name,by decide,Tryz.func283.trans (congrArg some (by kernel_rfl))⟩
 f23:=⟨Tryz.f284.name,by decide,Tryz.func284.trans (congrArg some (by kernel_rfl))⟩
 f24:=⟨Tryz.f285.name,by decide,Tryz.func285.trans (congrArg some (by kernel_rfl))⟩
 f25:=⟨Tryz.f286.name,by decide,Tryz.func286.trans (congrArg some (by kernel_rfl))⟩
 f26:=⟨Tryz.f287.name,by decide,Tryz.func287.trans (congrArg some (by kernel_rfl))⟩
 f27:=⟨Tryz.f288.name,by decide,Tryz.func288.trans (congrArg some (by kernel_rfl))⟩
 f28:=⟨Tryz.f289.name,by decide,Tryz.func289.trans (congrArg some (by kernel_rfl))⟩
 f29:=⟨Tryz.f290.name,by decide,Tryz.func290.trans (congrArg some (by kernel_rfl))⟩
 f31:=Tryz.func310.trans (congrArg some (by kernel_rfl))
 f32:=Tryz.func311.trans (congrArg some (by kernel_rfl))
 f36:=⟨Tryz.f309.name,by decide,Tryz.func309.trans (congrArg some (by kernel_rfl))⟩
 f37:=⟨Tryz.f312.name,by decide,Tryz.func312.trans (congrArg some (by kernel_rfl))⟩
 f38:=⟨Tryz.f313.name,by decide,Tryz.func313.trans (congrArg some (by kernel_rfl))⟩
 f39:=⟨Tryz.f259.name,by decide,Tryz.func259.trans (congrArg some (by kernel_rfl))⟩
 f41:=⟨Tryz.f330.name,by decide,Tryz.func330.trans (congrArg some (by kernel_rfl))⟩
 t0:=Tryz.underlying0
 a0:=Tryz.isAgg0
 z0:=Tryz.sizeOf0
 v0:=Tryz.zeroValue0
 t3:=Tryz.underlying3
 a3:=Tryz.isAgg3
 z3:=Tryz.sizeOf3
 v3:=Tryz.zeroValue3
 t4:=Tryz.underlying4
 a4:=Tryz.isAgg4
 z4:=Tryz.sizeOf4
 v4:=Tryz.zeroValue4
 t5:=Tryz.underlying5
 a5:=Tryz.isAgg5
 z5:=Tryz.sizeOf5
 v5:=Tryz.zeroValue5
 t9:=Tryz.underlying9
 a9:=Tryz.isAgg9
 z9:=Tryz.sizeOf9
 v9:=Tryz.zeroValue9
 t26:=Tryz.underlying24
 a26:=Tryz.isAgg24
 z26:=Tryz.sizeOf24
 v26:=Tryz.zeroValue24
 t27:=Tryz.underlying24
 a27:=Tryz.isAgg24
 z27:=Tryz.sizeOf24
 v27:=Tryz.zeroValue24
 t29:=Tryz.underlying9
 a29:=Tryz.isAgg9
 z29:=Tryz.sizeOf9
 v29:=Tryz.zeroValue9
 t32:=Tryz.underlying265
 a32:=Tryz.isAgg265
 z32:=Tryz.sizeOf265
 v32:=Tryz.zeroValue265
 t35:=Tryz.underlying291
 a35:=Tryz.isAgg291
 z35:=Tryz.sizeOf291
 v35:=Tryz.zeroValue291
 t36:=Tryz.underlying292
 a36:=Tryz.isAgg292
 z36:=Tryz.sizeOf292
 v36:=Tryz.zeroValue292
 t41:=Tryz.underlying204
 a41:=Tryz.isAgg204
 z41:=Tryz.sizeOf204
 v41:=Tryz.zeroValue204
 t44:=Tryz.underlying299
 a44:=Tryz.isAgg299
 z44:=Tryz.sizeOf299
 v44:=Tryz.zeroValue299
 t46:=Tryz.underlying117
 a46:=Tryz.isAgg117
 z46:=Tryz.sizeOf117
 v46:=Tryz.zeroValue117
 t53:=Tryz.underlying317
 a53:=Tryz.isAgg317
 z53:=Tryz.sizeOf317
 v53:=Tryz.zeroValue317
 t57:=Tryz.underlying321
 a57:=Tryz.isAgg321
 z57:=Tryz.sizeOf321
 v57:=Tryz.zeroValue321
 t63:=Tryz.underlying337
 a63:=Tryz.isAgg337
 z63:=Tryz.sizeOf337
 v63:=Tryz.zeroValue337
 t64:=Tryz.underlying338
 a64:=Tryz.isAgg338
 z64:=Tryz.sizeOf338
 v64:=Tryz.zeroValue338 }
end Go.Proofs.YtigapglmipmbeaaGreatDoor
namespace Go.Proofs.YtigapglmipmbeaaGreatDoor
open Go.RowKit Go.Maps Go.Sort Go.Shelf
theorem sortsD (m : Nat) : AnyZ.SortsIn Tryz.prog Tryz.sortedD_ren Fence.wide m :=
  ⟨fun blk off cap ss W hH hblk hsz => callsIn_wide.2 (AnyM.slices_Sort_string Tryz.sortD blk off cap ss W hH hblk hsz),
   fun p cap W => callsIn_wide.2 (AnyM.slices_Sort_string_none Tryz.sortD p cap W)⟩
theorem mapsKeysN (mb:Option Nat) (W:World):Calls Tryz.prog 109 #[.map mb] W fun e w'=>e=.returned (.func (.func 194) #[] #[.pointer (some ⟨W.heap.size,0,none⟩)])∧w'=W.alloc (.cells #[.map mb] 129) :=
 (callsIn_wide (n:=5)).1 (AnyZ.keys_in Tryz.keysD Fence.wide 5 trivial rfl mb W)
theorem sortedN {H:Type} (b nn:Nat) (D0:DataW H) (R:Value→Option (DataW H × List MemPlace)) (w:World) (hown:w.ownsMap Tryz.prog 9 R b nn D0) (hmax:Maps.size D0≤maxLen) (hbytes:Maps.size D0*16≤140737488355328) :
  Calls Tryz.prog 108 #[.func (.func 194) #[] #[.pointer (some ⟨w.heap.size,0,none⟩)]] (w.alloc (.cells #[.map (some b)] 129)) fun e w'=>∃ (v:Value) (ss:List (List UInt8)),e=.returned v∧ss.Perm (strKeys D0) ∧
   w'.ownsRow (w.alloc (.cells #[.map (some b)] 129)).heap.size 9 1 v ss.length ((ss.mergeSort (fun x y=>decide (x≤y))).map encStr)∧(v=.slice none 0 0↔ss=[])∧Below (w.alloc (.cells #[.map (some b)] 129)).heap.size (w.alloc (.cells #[.map (some b)] 129)) w':=by
 refine (callsIn_wide (n:=5)).1 ?_
 have hbl:=hown.lt
 have hseq:SeqGives Fence.wide 2 Tryz.prog 194 #[.pointer (some ⟨w.heap.size,0,none⟩)] encStr (fun ss=>ss.Perm (strKeys D0)) (Maps.size D0) (w.alloc (.cells #[.map (some b)] 129)) :=
  AnyZ.keys_gives (ρ:=Tryz.keysD_ren) { Tryz.keysD with } Fence.wide _ trivial rfl (by omega) w.heap.size b nn D0 _ (by simp) (by simp) (by
   obtain ⟨es,clock,hb,Ft,hs,hD⟩:=hown
   exact ⟨es,clock,(Below.heap_alloc _ _ b hbl).trans hb,Ft,hs,hD⟩)
 exact AnyZ.sorted_in Tryz.sortedD Fence.wide 5 trivial trivial trivial trivial rfl (by omega) (sortsD _) (enters_of Tryz.func193 (by kernel_rfl) rfl) 194 #[.pointer (some ⟨w.heap.size,0,none⟩)] trivial (enters_of Tryz.func194 (by kernel_rfl) rfl) _ _ hmax hbytes _ hseq
theorem keysN (mb n:Nat) (D:DataW Unit) (a:List L2) (w:World) (hown:w.ownsMap Tryz.prog 9 (plainElem Tryz.prog 23) mb n D) (h:RelM D a) (hn:n≤1000) :
  Calls Tryz.prog 108 #[.func (.func 194) #[] #[.pointer (some ⟨w.heap.size,0,none⟩)]] (w.alloc (.cells #[.map (some mb)] 129)) fun e w'=>∃ v,e=.returned v ∧
   w'.ownsRow (w.heap.size+1) 9 1 v a.length (a.map fun x=>Value.string x.1)∧Below (w.heap.size+1) (w.alloc (.cells #[.map (some mb)] 129)) w':=by
 have hsz:=hown.size_le
 refine (sortedN mb n D _ w hown (by unfold maxLen;omega) (by omega)).mono ?_
 rintro e w' ⟨v,ss,rfl,hp,hrow,_,hb⟩
 have hk:=h.keys hown hp
 have hl:ss.length=a.length:=by
  have:=congrArg List.length hk
  unfold rawK at this
  simpa using this
 rw [hk,hl,World.size_alloc] at hrow
 rw [World.size_alloc] at hb
 refine ⟨v,rfl,?_,hb⟩
 have e1:(rawK (a.map (·.1))).map encStr=a.map fun x=>Value.string x.1:=by
  unfold rawK
  rw [List.map_map,List.map_map]
  refine List.map_congr_left fun x _=>?_
  simp [encStr]
 rwa [e1] at hrow
end Go.Proofs.YtigapglmipmbeaaGreatDoor
namespace Go.Proofs.YtigapglmipmbeaaGreatDoor
open Go.RowKit Go.Shelf
open Lim
attribute [local go_sem] Oper.semAt_some
theorem isNaN_any (a:ByteArray) (w:World):Calls Tryz.prog 259 #[.string a] w fun e w'=>e=.returned (.bool false)∧w'=w:=by
 have TE:(a.toList==a.toList)=true:=beq_self_eq_true _
 go_enter Tryz.func259,Tryz.ntmps259
 go_wp2
 go_ret
 exact ⟨rfl,rfl⟩
def cmpK (a b:ByteArray):Int:=if ltK a b=true then -1 else if a=b then 0 else 1
theorem compareS_any (a b:ByteArray) (w:World):Calls Tryz.prog 204 #[.string a,.string b] w fun e w'=>e=.returned (.int .i64 (cmpK a b))∧w'=w:=by
 have TL:=lt_bytes a b
 have TE:=eq_bytes a b
 have TK:True:=trivial
 cases h1:ltK a b with
 | true =>
  have HR:=Lib.hid (show cmpK a b=-1 from if_pos h1)
  rw [h1] at TL
  clear TE h1
  go_enter Tryz.func204,Tryz.ntmps204
  go_wp2_with (go_at_call 259;refine (isNaN_any _ _).mono ?_;rintro e w1 ⟨rfl,rfl⟩)
  go_ret
  rw [HR.out]
  exact ⟨rfl,rfl⟩
 | false =>
  rw [h1] at TL
  by_cases h2:a=b
  ·have HR:=Lib.hid (show cmpK a b=0 by unfold cmpK;rw [if_neg (by rw [h1];decide),if_pos h2])
   rw [decide_eq_true h2] at TE
   clear h1 h2
   go_enter Tryz.func204,Tryz.ntmps204
   go_wp2_with (go_at_call 259;refine (isNaN_any _ _).mono ?_;rintro e w1 ⟨rfl,rfl⟩)
   go_ret
   rw [HR.out]
   exact ⟨rfl,rfl⟩
  ·have HR:=Lib.hid (show cmpK a b=1 by unfold cmpK;rw [if_neg (by rw [h1];decide),if_neg h2])
   rw [decide_eq_false h2] at TE
   clear h1 h2
   go_enter Tryz.func204,Tryz.ntmps204
   go_wp2_with (go_at_call 259;refine (isNaN_any _ _).mono ?_;rintro e w1 ⟨rfl,rfl⟩)
   go_ret
   rw [HR.out]
   exact ⟨rfl,rfl⟩
theorem find1_any (x:L2) (k:ByteArray) (w:World):Calls Tryz.prog 203 #[.agg #[.string x.1,.string x.2],.string k] w fun e w'=>e=.returned (.int .i64 (cmpK x.1 k))∧Below w.heap.size w w':=by
 have H:=Lib.hid (below_alloc (Below.refl w.heap.size w) (.cells #[.string x.1,.string x.2] 30))
 go_enter Tryz.func203,Tryz.ntmps203
 go_wp2_with (go_at_call 204;refine (compareS_any _ _ _).mono ?_;rintro e w1 ⟨rfl,rfl⟩)
 go_ret
 exact ⟨rfl,H.out⟩
theorem runs_find1:Runs 203:=runs_of Tryz.func203 (by kernel_rfl) (by kernel_rfl)
theorem cmpK_lt (a b:ByteArray):cmpK a b < 0↔ltK a b=true:=by
 unfold cmpK
 split
 ·rename_i h;exact ⟨fun _=>h,fun _=>by omega⟩
 ·rename_i h
  split<;>exact ⟨fun h2=>absurd h2 (by omega),fun h2=>absurd h2 h⟩
theorem cmpK_eq (a b:ByteArray):cmpK a b=0↔ltK a b=false∧a=b:=by
 unfold cmpK
 split
 ·rename_i h;exact ⟨fun h2=>absurd h2 (by omega),fun h2=>by rw [h] at h2;cases h2.1⟩
 ·rename_i h
  split
  ·rename_i h3;exact ⟨fun _=>⟨by simpa using h,h3⟩,fun _=>rfl⟩
  ·rename_i h3;exact ⟨fun h2=>absurd h2 (by omega),fun h2=>absurd h2.2 h3⟩
def AscK (ls:List L2):Prop:=∀ (i j:Nat) (x y:L2),i < j→ls[i]?=some x→ls[j]?=some y→ltK x.1 y.1=true
structure Place (ls:List L2) (k:ByteArray) (i:Nat) (b:Bool):Prop where
 le:i≤ls.length
 has:b=true→∃ x,ls[i]?=some x∧x.1=k
 hasnt:b=false→∀ x∈ls,x.1≠k
theorem bsearch_any (F:FuncId) (hrun:Runs F) (hp:∀ (x:L2) (k:ByteArray) (W:World),Calls Tryz.prog F #[.agg #[.string x.1,.string x.2],.string k] W fun e w'=>e=.returned (.int .i64 (cmpK x.1 k))∧Below W.heap.size W w') (ls:List L2) (v:Value) (k:ByteArray) (w:World) (hv:LRow w v ls) (hasc:AscK ls) (hirr:∀ a,ltK a a=false) (htr:∀ a b c,ltK a b=true→ltK b c=true→ltK a c=true) :
  Calls Tryz.prog 202 #[v,.string k,.func (.func F) #[] #[]] w fun e w'=>∃ (i:Nat) (b:Bool),e=.returned (.tuple #[.int .i64 (i:Int),.bool b])∧Place ls k i b∧Below w.heap.size w w':=by
 obtain ⟨A,c,rfl,hlen,hcells⟩:=hv
 have HCE:=Lib.hid hcells
 have HA:=Lib.hid hasc
 have HI:=Lib.hid hirr
 have HT:=Lib.hid htr
 have H0:=Lib.hid (Below.refl w.heap.size w)
 have hrn:=hrun
 unfold Runs at hrn
 have HPP:=Lib.hid hp
 clear hcells hasc hirr htr hrun hp
 go_enter Tryz.func202,Tryz.ntmps202
 go_wp2
 go_loopw [9,10] (fun v9 v10 wr=>∃ lo hi:Nat,v9=.int .i64 (lo:Int)∧v10=.int .i64 (hi:Int)∧lo≤hi∧hi≤ls.length∧Hid (Below w.heap.size w wr)∧Hid ((∀ t x,t < lo→ls[t]?=some x→ltK x.1 k=true)∧∀ t x,hi≤t→ls[t]?=some x→ltK x.1 k=false))
  (fun v9 v10 _=>(intOf v10).toNat - (intOf v9).toNat)
 case atStart=>exact ⟨0,ls.length,rfl,rfl,Nat.zero_le _,Nat.le_refl _,H0,Lib.hid ⟨fun t x h=>absurd h (by omega),fun t x h hx=>by
  rw [List.getElem?_eq_none h] at hx;cases hx⟩⟩
 case round =>
  clear H0
  obtain ⟨lo,hi,rfl,rfl,hlh,hin,HB,HE⟩:=hrel
  by_cases hlt:lo < hi
  ·obtain ⟨b,o,rfl,hbw,hcell⟩:=HCE.out (by omega)
   have hm:(lo+hi) / 2 < ls.length:=by omega
   obtain ⟨x,hx⟩:∃ x,ls[(lo+hi) / 2]?=some x:=⟨_,List.getElem?_eq_getElem hm⟩
   obtain ⟨c0,c1⟩:=hcell _ x hx
   rw [← HB.out.cell (p:=⟨b,o+(lo+hi) / 2*2,none⟩) hbw] at c0
   rw [← HB.out.cell (p:=⟨b,o+(lo+hi) / 2*2+1,none⟩) hbw] at c1
   have HX:=Lib.hid hx
   have HF:=Lib.hid (HPP.out x k wr)
   clear hcell hx hbw
   cases hc:ltK x.1 k with
   | true =>
    have d1:decide (cmpK x.1 k < 0)=true:=decide_eq_true ((cmpK_lt _ _).2 hc)
    have HC:=Lib.hid hc
    clear hc
    generalize cmpK x.1 k=z at *
    obtain ⟨f,d⟩:=x
    dsimp only at c0 c1
    have HF2:=HF.out
    clear HF
    go_wp2
    refine HF2.mono ?_
    rintro e w3 ⟨rfl,hb⟩
    have H3:=Lib.hid (HB.out.trans (hb.mono HB.out.size))
    clear hb HF2
    go_wp2
    go_roundw
    case rel=>exact ⟨(lo+hi) / 2+1,hi,by rw [show ((lo:Int)+(hi:Int)) / 2+1=(((lo+hi) / 2+1:Nat):Int) by omega],rfl,by omega,hin,H3,Lib.hid ⟨fun t y ht hy=>by
     rcases Nat.lt_or_ge t ((lo+hi) / 2) with h|h
     ·exact HT.out _ _ _ (HA.out _ _ _ _ h hy HX.out) HC.out
     ·obtain rfl:t=(lo+hi) / 2:=by omega
      rw [HX.out] at hy
      cases hy
      exact HC.out,HE.out.2⟩⟩
    case measure=>simp [intOf];omega
   | false =>
    have d1:decide (cmpK x.1 k < 0)=false:=decide_eq_false (fun h=>by rw [(cmpK_lt _ _).1 h] at hc;cases hc)
    have HC:=Lib.hid hc
    clear hc
    generalize cmpK x.1 k=z at *
    obtain ⟨f,d⟩:=x
    dsimp only at c0 c1
    have HF2:=HF.out
    clear HF
    go_wp2
    refine HF2.mono ?_
    rintro e w3 ⟨rfl,hb⟩
    have H3:=Lib.hid (HB.out.trans (hb.mono HB.out.size))
    clear hb HF2
    go_wp2
    go_roundw
    case rel=>exact ⟨lo,(lo+hi) / 2,rfl,by rw [show ((lo:Int)+(hi:Int)) / 2=(((lo+hi) / 2:Nat):Int) by omega],by omega,by omega,H3,Lib.hid ⟨HE.out.1,fun t y ht hy=>by
     rcases Nat.lt_or_ge ((lo+hi) / 2) t with h|h
     ·cases hn:ltK y.1 k
      ·rfl
      ·have:=HT.out _ _ _ (HA.out _ _ _ _ h HX.out hy) hn
       rw [HC.out] at this
       cases this
     ·obtain rfl:t=(lo+hi) / 2:=by omega
      rw [HX.out] at hy
      cases hy
      exact HC.out⟩⟩
    case measure=>simp [intOf];omega
  ·obtain rfl:hi=lo:=by omega
   by_cases hn:hi < ls.length
   ·obtain ⟨b,o,rfl,hbw,hcell⟩:=HCE.out (by omega)
    obtain ⟨x,hx⟩:∃ x,ls[hi]?=some x:=⟨_,List.getElem?_eq_getElem hn⟩
    obtain ⟨c0,c1⟩:=hcell _ x hx
    rw [← HB.out.cell (p:=⟨b,o+hi*2,none⟩) hbw] at c0
    rw [← HB.out.cell (p:=⟨b,o+hi*2+1,none⟩) hbw] at c1
    have HX:=Lib.hid hx
    have HF:=Lib.hid (HPP.out x k wr)
    have hn':(hi:Int) < (ls.length:Int):=by omega
    have HIN:=Lib.hid hin
    clear hcell hx hbw
    cases hc:(cmpK x.1 k==0) with
    | true =>
     have HC:=Lib.hid ((cmpK_eq x.1 k).1 (by simpa using hc)).2
     have HG:=Lib.hid (show Place ls k hi true from ⟨hin,fun _=>⟨x,HX.out,HC.out⟩,fun h=>by cases h⟩)
     generalize cmpK x.1 k=z at *
     obtain ⟨f,d⟩:=x
     dsimp only at c0 c1
     have HF2:=HF.out
     clear HF hn hin hlt
     go_wp2
     refine HF2.mono ?_
     rintro e w3 ⟨rfl,hb⟩
     have H3:=Lib.hid (HB.out.trans (hb.mono HB.out.size))
     clear hb HF2
     go_wp2
     go_ret2
     exact ⟨hi,true,rfl,HG.out,H3.out⟩
    | false =>
     have HG:=Lib.hid (show Place ls k hi false from ⟨hin,(fun h=>by cases h),fun _ y hy e=>by
      obtain ⟨t,ht⟩:=List.getElem?_of_mem hy
      have hxl:=HE.out.2 hi x (Nat.le_refl _) HX.out
      rcases Nat.lt_or_ge t hi with h|h
      ·have:=HE.out.1 t y h ht
       rw [e,HI.out] at this
       cases this
      ·rcases Nat.eq_or_lt_of_le h with h|h
       ·subst h
        rw [HX.out] at ht
        cases ht
        have:cmpK x.1 k=0:=(cmpK_eq _ _).2 ⟨hxl,e⟩
        rw [this] at hc
        cases hc
       ·have:=HA.out _ _ _ _ h HX.out ht
        rw [e,hxl] at this
        cases this⟩)
     generalize cmpK x.1 k=z at *
     obtain ⟨f,d⟩:=x
     dsimp only at c0 c1
     have HF2:=HF.out
     clear HF hn hin hlt
     go_wp2
     refine HF2.mono ?_
     rintro e w3 ⟨rfl,hb⟩
     have H3:=Lib.hid (HB.out.trans (hb.mono HB.out.size))
     clear hb HF2
     go_wp2
     go_ret2
     exact ⟨hi,false,rfl,HG.out,H3.out⟩
   ·have hn':¬ (hi:Int) < (ls.length:Int):=by omega
    have HG:=Lib.hid (show Place ls k hi false from ⟨hin,(fun h=>by cases h),fun _ y hy e=>by
     obtain ⟨t,ht⟩:=List.getElem?_of_mem hy
     have htl:t < ls.length:=(List.getElem?_eq_some_iff.1 ht).1
     have:=HE.out.1 t y (by omega) ht
     rw [e,HI.out] at this
     cases this⟩)
    clear hn hin hlt
    go_wp2
    go_ret2
    first
     | exact ⟨hi,false,rfl,HG.out,HB.out⟩
     | exact ⟨hi,.inl ⟨rfl,HG.out,HB.out⟩⟩
     | exact ⟨rfl,HG.out,HB.out⟩
theorem atT_at {key:ByteArray}:∀ {ls:List L2} {i:Nat} {x:L2},AscK ls→(∀ a,ltK a a=false)→ls[i]?=some x→x.1=key→atT ls key=x.2∧hasT ls key=true
 | [],i,x,_,_,h,_=>by simp at h
 | y::l,0,x,_,_,h,e=>by
  simp only [List.getElem?_cons_zero,Option.some.injEq] at h
  subst h
  unfold atT hasT
  rw [if_pos e,if_pos e]
  exact ⟨rfl,rfl⟩
 | y::l,i+1,x,ha,hi,h,e=>by
  have h2:l[i]?=some x:=by simpa using h
  have hlt:=ha 0 (i+1) y x (by omega) (by simp) h
  have hne:y.1≠key:=fun e2=>by rw [e2,← e,hi] at hlt;cases hlt
  unfold atT hasT
  rw [if_neg hne,if_neg hne]
  exact atT_at (fun a b u v hab hu hv=>ha (a+1) (b+1) u v (by omega) (by simpa using hu) (by simpa using hv)) hi h2 e
theorem atT_no {key:ByteArray}:∀ {ls:List L2},(∀ x∈ls,x.1≠key)→atT ls key=zT∧hasT ls key=false
 | [],_=>⟨rfl,rfl⟩
 | y::l,h=>by
  have hne:=h y (by simp)
  unfold atT hasT
  rw [if_neg hne,if_neg hne]
  exact atT_no fun x hx=>h x (by simp [hx])
theorem ltK_irr (a:ByteArray):ltK a a=false:=decide_eq_false (List.lt_irrefl _)
theorem ltK_tr (a b c:ByteArray) (h1:ltK a b=true) (h2:ltK b c=true):ltK a c=true:=decide_eq_true (List.lt_trans (of_decide_eq_true h1) (of_decide_eq_true h2))
theorem Place.eqb {ls:List L2} {k:ByteArray} {i:Nat} {b:Bool} (h:Place ls k i b):b=hasT ls k:=by
 cases b with
 | true =>
  obtain ⟨x,hx,hk⟩:=h.has rfl
  exact (hasT_iff.2 (hk ▸ List.mem_map_of_mem (f:=(·.1)) (List.mem_of_getElem? hx))).symm
 | false =>
  cases hh:hasT ls k with
  | false=>rfl
  | true =>
   obtain ⟨x,hx,hk⟩:=List.mem_map.1 (hasT_iff.1 hh)
   exact absurd hk (h.hasnt rfl x hx)
theorem dfind_any (ls:List L2) (v:Value) (k:ByteArray) (w:World) (hv:LRow w v ls) (hasc:AscK ls) :
  Calls Tryz.prog 129 #[v,.string k] w fun e w'=>e=.returned (.tuple #[.string (atT ls k),.bool (hasT ls k)])∧Below w.heap.size w w':=by
 have HB:=Lib.hid (bsearch_any 203 runs_find1 (fun x k W=>find1_any x k W) ls v k w hv hasc ltK_irr ltK_tr)
 have HV:=Lib.hid hv
 obtain ⟨A,c,rfl,hlen,hcells⟩:=hv
 have HA:=Lib.hid hasc
 clear hcells hasc
 cases hh:hasT ls k with
 | false =>
  have HR:=Lib.hid (show atT ls k=zT from atT_none fun h=>by rw [hasT_iff.2 h] at hh;cases hh)
  have HH:=Lib.hid hh
  clear hh
  go_enter Tryz.func129,Tryz.ntmps129
  go_wp2_with (go_at_call 202;refine HB.out.mono ?_;rintro e w1 ⟨i,bb,rfl,hp,hb⟩;obtain rfl:bb=false:=(hp.eqb.trans HH.out);have H1:=Lib.hid hb;clear hp hb)
  go_ret2
  rw [HR.out]
  exact ⟨rfl,H1.out⟩
 | true =>
  have HH:=Lib.hid hh
  clear hh
  go_enter Tryz.func129,Tryz.ntmps129
  go_wp2_with (go_at_call 202;refine HB.out.mono ?_;rintro e w1 ⟨i,bb,rfl,hp,hb⟩;obtain rfl:bb=true:=(hp.eqb.trans HH.out);obtain ⟨x,hx,hk⟩:=hp.has rfl;have HR:=Lib.hid (atT_at HA.out ltK_irr hx hk).1;obtain ⟨b,o,c',e',hb2,c0,c1⟩:=HV.out.at hb hx;simp only [Value.slice.injEq,true_and] at e';obtain ⟨rfl,rfl⟩:=e';have hlt:(i:Int) < (ls.length:Int):=(by have:=(List.getElem?_eq_some_iff.1 hx).1;omega);have H1:=Lib.hid hb;clear hp hb hx hk)
  go_ret2
  rw [HR.out]
  exact ⟨rfl,H1.out⟩
def idxP (p:L2→Bool):Nat→List L2→Int
 | _,[]=>-1
 | n,x::l=>if p x=true then (n:Int) else idxP p (n+1) l
theorem idxP_hit {p:L2→Bool} {n:Nat} {x:L2} {l:List L2} (h:p x=true):idxP p n (x::l)=(n:Int):=if_pos h
theorem idxP_miss {p:L2→Bool} {n:Nat} {x:L2} {l:List L2} (h:p x=false):idxP p n (x::l)=idxP p (n+1) l:=if_neg (by rw [h];decide)
theorem indexF_any (F:FuncId) (cb:Array Value) (hrun:Runs F) (p:L2→Bool) (ls:List L2) (v:Value) (w:World) (hv:LRow w v ls) (hr:Res w)
  (hp:∀ x∈ls,∀ W,Below w.heap.size w W→Res W→Calls Tryz.prog F (#[.agg #[.string x.1,.string x.2]]++cb) W fun e W'=>e=.returned (.bool (p x))∧Below W.heap.size W W') :
  Calls Tryz.prog 124 #[v,.func (.func F) #[] cb] w fun e w'=>e=.returned (.int .i64 (idxP p 0 ls))∧Below w.heap.size w w':=by
 obtain ⟨A,c,rfl,hlen,hcells⟩:=hv
 have HCE:=Lib.hid hcells
 have HP:=Lib.hid hp
 have H0:=Lib.hid (NW.refl hr)
 have hrn:=hrun
 unfold Runs at hrn
 clear hr hcells hp hrun
 go_enter Tryz.func124,Tryz.ntmps124
 go_wp2
 go_loopw [8] (fun v8 wr=>∃ k:Nat,k≤ls.length∧v8=.int .i64 (k:Int)∧Hid (idxP p 0 ls=idxP p k (ls.drop k))∧Hid (NW w wr)) (fun v8 _=>ls.length - (intOf v8).toNat)
 case atStart=>exact ⟨0,Nat.zero_le _,rfl,Lib.hid (by simp),H0⟩
 case round =>
  clear H0
  obtain ⟨k,hk,rfl,HE,HN⟩:=hrel
  by_cases hlt:k < ls.length
  ·obtain ⟨b,o,rfl,hbw,hcell⟩:=HCE.out (by omega)
   obtain ⟨x,hx⟩:∃ x,ls[k]?=some x:=⟨_,List.getElem?_eq_getElem hlt⟩
   obtain ⟨c0,c1⟩:=hcell k x hx
   rw [← HN.out.below.cell (p:=⟨b,o+k*2,none⟩) hbw] at c0
   rw [← HN.out.below.cell (p:=⟨b,o+k*2+1,none⟩) hbw] at c1
   have hlt':(k:Int) < (ls.length:Int):=by omega
   have HF:=Lib.hid (HP.out x (List.mem_of_getElem? hx) wr HN.out.below HN.out.res)
   have HD:=Lib.hid (show ls.drop k=x::ls.drop (k+1) by
    rw [List.drop_eq_getElem_cons hlt]
    rw [List.getElem?_eq_getElem hlt] at hx
    cases hx
    rfl)
   have HLT:=Lib.hid (And.intro hlt hlt')
   obtain ⟨f,d⟩:=x
   dsimp only at c0 c1 HF
   clear hcell hx hbw hlt
   cases hpx:p (f,d) with
   | true =>
    have HR:=Lib.hid (show idxP p 0 ls=(k:Int) by rw [HE.out,HD.out,idxP_hit hpx])
    rw [hpx] at HF
    have HF2:=HF.out
    clear HF hpx
    go_wp2
    refine HF2.mono ?_
    rintro e w3 ⟨rfl,hb⟩
    have H3:=Lib.hid (HN.out.later hb)
    clear hb HF2
    go_wp2
    go_ret
    rw [HR.out]
    exact ⟨rfl,H3.out.below⟩
   | false =>
    have HR:=Lib.hid (show idxP p 0 ls=idxP p (k+1) (ls.drop (k+1)) by rw [HE.out,HD.out,idxP_miss hpx])
    rw [hpx] at HF
    have HF2:=HF.out
    clear HF hpx
    go_wp2
    refine HF2.mono ?_
    rintro e w3 ⟨rfl,hb⟩
    have H3:=Lib.hid (HN.out.later hb)
    clear hb HF2
    go_wp2
    go_roundw
    case rel=>exact ⟨k+1,HLT.out.1,by go_num,HR,H3⟩
    case measure=>have:=HLT.out.1;simp [intOf];omega
  ·have hlt':¬ (k:Int) < (ls.length:Int):=by omega
   obtain rfl:k=ls.length:=by omega
   have HR:=Lib.hid (show idxP p 0 ls=-1 by
    have:=HE.out
    rw [List.drop_length] at this
    exact this)
   clear hlt
   go_wp2
   go_ret
   rw [HR.out]
   exact ⟨rfl,HN.out.below⟩
theorem ascK_of {ls:List L2} (h:Asc (ls.map (·.1))):AscK ls:=by
 intro i j x y hij hx hy
 unfold Asc at h
 rw [List.pairwise_iff_getElem] at h
 obtain ⟨h1,e1⟩:=List.getElem?_eq_some_iff.1 hx
 obtain ⟨h2,e2⟩:=List.getElem?_eq_some_iff.1 hy
 have:=h i j (by simpa using h1) (by simpa using h2) hij
 simp only [List.getElem_map] at this
 rwa [e1,e2] at this
theorem ascK_chk {ls:List L2} (h:chkD ls=0):AscK ls:=ascK_of (chkD_zero h).2.2
theorem idxP_ge {p:L2→Bool}:∀ {ls:List L2} {n:Nat},decide (0≤idxP p n ls)=ls.any p
 | [],n=>by unfold idxP;rfl
 | x::l,n=>by
  cases hp:p x with
  | true =>
   rw [idxP_hit hp,List.any_cons,hp,Bool.true_or]
   exact decide_eq_true (by omega)
  | false =>
   rw [idxP_miss hp,List.any_cons,hp,Bool.false_or]
   exact idxP_ge
theorem inX_any {q:List L2}:∀ {p:List L2},(!p.any fun x=>!hasT q x.1)=inX p q
 | []=>rfl
 | x::l=>by
  unfold inX
  rw [List.any_cons]
  cases h:hasT q x.1 with
  | true =>
   rw [if_pos rfl,← inX_any (p:=l)]
   rfl
  | false=>rw [if_neg (by decide)];rfl
theorem runs_within1:Runs 209:=runs_of Tryz.func209 (by kernel_rfl) (by kernel_rfl)
theorem within1_any (x:L2) (g:Nat) (ls:List L2) (v:Value) (w:World) (hg:Blk w g 31 #[v]) (hv:LRow w v ls) (hasc:AscK ls) :
  Calls Tryz.prog 209 #[.agg #[.string x.1,.string x.2],.pointer (some ⟨g,0,none⟩)] w fun e w'=>e=.returned (.bool (!hasT ls x.1))∧Below w.heap.size w w':=by
 have HX:=Lib.hid (below_alloc (Below.refl w.heap.size w) (.cells #[.string x.1,.string x.2] 30))
 have HF:=Lib.hid (dfind_any ls v x.1 _ (hv.below HX.out) hasc)
 have hg2:=hg.below HX.out hg.lt
 have c0:(w.alloc (.cells #[.string x.1,.string x.2] 30)).cell? ⟨g,0,none⟩=some v:=by rw [hg2.cell];rfl
 have gl:=hg2.lt
 clear hv hg hg2
 obtain ⟨f,d⟩:=x
 dsimp only at HX HF c0 gl
 go_enter Tryz.func209,Tryz.ntmps209
 cases hh:hasT ls f with
 | true =>
  rw [hh] at HF
  go_wp2_with (go_at_call 129;refine HF.out.mono ?_;rintro e w3 ⟨rfl,hb⟩;have H3:=Lib.hid (HX.out.trans (hb.mono HX.out.size));clear hb)
  go_ret
  exact ⟨rfl,H3.out⟩
 | false =>
  rw [hh] at HF
  go_wp2_with (go_at_call 129;refine HF.out.mono ?_;rintro e w3 ⟨rfl,hb⟩;have H3:=Lib.hid (HX.out.trans (hb.mono HX.out.size));clear hb)
  go_ret
  exact ⟨rfl,H3.out⟩
theorem containsF_any (F:FuncId) (cb:Array Value) (v:Value) (z:Int) (w:World)
  (HI:Hid (Calls Tryz.prog 124 #[v,.func (.func F) #[] cb] w fun e w'=>e=.returned (.int .i64 z)∧Below w.heap.size w w')) :
  Calls Tryz.prog 208 #[v,.func (.func F) #[] cb] w fun e w'=>e=.returned (.bool (decide (0≤z)))∧Below w.heap.size w w':=by
 go_enter Tryz.func208,Tryz.ntmps208
 go_wp2_with (go_at_call 124;refine HI.out.mono ?_;rintro e w3 ⟨rfl,hb⟩;have H3:=Lib.hid hb;clear hb)
 go_ret
 exact ⟨rfl,H3.out⟩
theorem dwithin_any (p q:List L2) (vp vq:Value) (w:World) (hp:LRow w vp p) (hq:LRow w vq q) (hasc:AscK q) (hr:Res w) :
  Calls Tryz.prog 132 #[vp,vq] w fun e w'=>e=.returned (.bool (inX p q))∧Below w.heap.size w w':=by
 obtain ⟨A,c,rfl,_,_⟩:=id hp
 obtain ⟨A',c',rfl,_,_⟩:=id hq
 have HX:=Lib.hid (below_alloc (Below.refl w.heap.size w) (.cells #[.slice A' q.length c'] 31))
 have hbk:=Blk.new w 31 #[.slice A' q.length c']
 have HI:=indexF_any 209 #[.pointer (some ⟨w.heap.size,0,none⟩)] runs_within1 (fun x=>!hasT q x.1) p _ _ (hp.below HX.out) (hr.below HX.out) (fun x _ W hW _ =>
  within1_any x w.heap.size q _ W (hbk.below hW hbk.lt) (hq.below (HX.out.trans (hW.mono HX.out.size))) hasc)
 have HC:=Lib.hid (containsF_any _ _ _ _ _ (Lib.hid HI))
 rw [idxP_ge] at HC
 have HE:=Lib.hid (inX_any (p:=p) (q:=q))
 clear HI hbk hp hq hasc hr
 go_enter Tryz.func132,Tryz.ntmps132
 go_wp2_with (go_at_call 208;go_loud (refine HC.out.mono ?_;rintro e w3 ⟨rfl,hb⟩;have H3:=Lib.hid (HX.out.trans (hb.mono HX.out.size));clear hb))
 go_ret
 rw [← HE.out]
 exact ⟨rfl,H3.out⟩
theorem runs_at1:Runs 125:=runs_of Tryz.func125 (by kernel_rfl) (by kernel_rfl)
theorem at1_any (x:L2) (g:Nat) (k:ByteArray) (w:World) (hg:Blk w g 9 #[.string k]) :
  Calls Tryz.prog 125 #[.agg #[.string x.1,.string x.2],.pointer (some ⟨g,0,none⟩)] w fun e w'=>e=.returned (.bool (decide (x.1=k)))∧Below w.heap.size w w':=by
 have HX:=Lib.hid (below_alloc (Below.refl w.heap.size w) (.cells #[.string x.1,.string x.2] 30))
 have hg2:=hg.below HX.out hg.lt
 have c0:(w.alloc (.cells #[.string x.1,.string x.2] 30)).cell? ⟨g,0,none⟩=some (.string k):=by rw [hg2.cell];rfl
 have gl:=hg2.lt
 have TE:=Lib.hid (eq_bytes x.1 k)
 clear hg hg2
 obtain ⟨f,d⟩:=x
 dsimp only at HX c0 gl TE
 go_enter Tryz.func125,Tryz.ntmps125
 go_wp2
 go_ret
 rw [← TE.out]
 exact ⟨rfl,HX.out⟩
theorem idxP_spec {p:L2→Bool}:∀ {ls:List L2} {n:Nat},(idxP p n ls=-1∧∀ x∈ls,p x=false)∨∃ (i:Nat) (x:L2),idxP p n ls=((n+i:Nat):Int)∧ls[i]?=some x∧p x=true∧∀ (j:Nat) y,j < i→ls[j]?=some y→p y=false
 | [],n=>.inl ⟨rfl,fun x hx=>by cases hx⟩
 | x::l,n=>by
  cases hp:p x with
  | true=>exact .inr ⟨0,x,idxP_hit hp,rfl,hp,fun j y h=>by omega⟩
  | false =>
   rw [idxP_miss hp]
   rcases idxP_spec (p:=p) (ls:=l) (n:=n+1) with ⟨e,h⟩|⟨i,y,e,hy,hpy,h⟩
   ·refine .inl ⟨e,fun z hz=>?_⟩
    rcases List.mem_cons.1 hz with rfl|hz
    ·exact hp
    ·exact h z hz
   ·refine .inr ⟨i+1,y,by rw [e];omega,by simpa using hy,hpy,fun j z hj hz=>?_⟩
    match j with
    | 0=>cases hz;exact hp
    | j+1=>exact h j z (by omega) (by simpa using hz)
theorem atT_first {key:ByteArray}:∀ {ls:List L2} {i:Nat} {x:L2},ls[i]?=some x→x.1=key→(∀ (j:Nat) y,j < i→ls[j]?=some y→y.1≠key)→atT ls key=x.2∧hasT ls key=true
 | [],i,x,h,_,_=>by simp at h
 | y::l,0,x,h,e,_=>by
  simp only [List.getElem?_cons_zero,Option.some.injEq] at h
  subst h
  unfold atT hasT
  rw [if_pos e,if_pos e]
  exact ⟨rfl,rfl⟩
 | y::l,i+1,x,h,e,hn=>by
  have hne:=hn 0 y (by omega) rfl
  unfold atT hasT
  rw [if_neg hne,if_neg hne]
  exact atT_first (i:=i) (by simpa using h) e fun j z hj hz=>hn (j+1) z (by omega) (by simpa using hz)
theorem dAt_any (ls:List L2) (v:Value) (k:ByteArray) (w:World) (hv:LRow w v ls) (hr:Res w) :
  Calls Tryz.prog 38 #[v,.string k] w fun e w'=>e=.returned (.string (atT ls k))∧Below w.heap.size w w':=by
 have HX:=Lib.hid (below_alloc (Below.refl w.heap.size w) (.cells #[.string k] 9))
 have hbk:=Blk.new w 9 #[.string k]
 have HI:=Lib.hid (indexF_any 125 #[.pointer (some ⟨w.heap.size,0,none⟩)] runs_at1 (fun x=>decide (x.1=k)) ls v _ (hv.below HX.out) (hr.below HX.out) (fun x _ W hW _=>at1_any x w.heap.size k W (hbk.below hW hbk.lt)))
 have HV:=Lib.hid hv
 obtain ⟨A,c,rfl,hlen,hcells⟩:=hv
 clear hbk hcells hr
 rcases idxP_spec (p:=fun x:L2=>decide (x.1=k)) (ls:=ls) (n:=0) with ⟨e1,h1⟩|⟨i,x,e1,hx,hpx,h1⟩
 ·rw [e1] at HI
  have HR:=Lib.hid (atT_no (key:=k) fun x hx=>of_decide_eq_false (h1 x hx))
  clear e1 h1
  go_enter Tryz.func38,Tryz.ntmps38
  go_wp2_with (go_at_call 124;go_loud (refine HI.out.mono ?_;rintro e w3 ⟨rfl,hb⟩;have H3:=Lib.hid (HX.out.trans (hb.mono HX.out.size));clear hb))
  go_ret
  rw [HR.out.1]
  exact ⟨rfl,H3.out⟩
 ·rw [e1,Nat.zero_add] at HI
  have HR:=Lib.hid (atT_first hx (of_decide_eq_true hpx) fun j y hj hy=>of_decide_eq_false (h1 j y hj hy))
  have HC:=Lib.hid (fun W (hW:Below w.heap.size w W)=>HV.out.at hW hx)
  have hlt:(i:Int) < (ls.length:Int):=by have:=(List.getElem?_eq_some_iff.1 hx).1;omega
  clear e1 h1 hx hpx
  go_enter Tryz.func38,Tryz.ntmps38
  go_wp2_with (go_at_call 124;refine HI.out.mono ?_;rintro e w3 ⟨rfl,hb⟩;have H3:=Lib.hid (HX.out.trans (hb.mono HX.out.size));clear hb;obtain ⟨b,o,c',e',hb2,c0,c1⟩:=HC.out _ H3.out;simp only [Value.slice.injEq,true_and] at e';obtain ⟨rfl,rfl⟩:=e')
  go_ret
  rw [HR.out.1]
  exact ⟨rfl,H3.out⟩
end Go.Proofs.YtigapglmipmbeaaGreatDoor
