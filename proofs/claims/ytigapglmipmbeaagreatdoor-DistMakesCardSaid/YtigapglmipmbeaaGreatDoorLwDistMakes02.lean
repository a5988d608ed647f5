/- dist: find, At, within. dist: Delta, Distance, Factor, Moment (printed by mkmeas.py). dist: Make. made, as a walk (printed by mkdmade.py). A region that draws its order and only reads and calls what lays blocks of its own: one walk. Appending a slice that is read to a slice of the call's own; what the reference's collect keeps. -/
import Derived.Test.YtigapglmipmbeaaGreatDoorLwDistMakes01
import Derived.Test.YtigapglmipmbeaaGreatDoorRb01
import Derived.BigQuiet
import Derived.Below
import Derived.OwnWalkIn
import Derived.Sort.BigQuietIn
import Derived.Sort.QuietIn
set_option maxRecDepth 100000
set_option maxHeartbeats 16000000
namespace Go.Proofs.YtigapglmipmbeaaGreatDoor
open Go.RowKit Go.Shelf
open Lim
attribute [local go_sem] Oper.semAt_some
theorem atT_at {key:ByteArray}:∀ {ls:List L2} {i:Nat} {x:L2},AscK ls→(∀ a,ltK a a=false)→ls[i]?=some x→x.1=key→atT ls key=x.2∧hasT ls key=true
 | [],i,x,_,_,h,_=>by simp at h
 | y::l,0,x,_,_,h,e=>by
  simp only [List.getElem?_cons_zero,Option.some.injEq] at h
  subst h
  unfold atT hasT
  rw [if_pos e,if_pos e]
  exact ⟨rfl,rfl⟩
 | y::l,i+1,x,ha,hi,h,e=>by
  have h2:l[i]?=some x:=by simpa using h
  have hlt:=ha 0 (i+1) y x (by omega) (by simp) h
  have hne:y.1≠key:=fun e2=>by rw [e2,← e,hi] at hlt;cases hlt
  unfold atT hasT
  rw [if_neg hne,if_neg hne]
  exact atT_at (fun a b u v hab hu hv=>ha (a+1) (b+1) u v (by omega) (by simpa using hu) (by simpa using hv)) hi h2 e
theorem atT_no {key:ByteArray}:∀ {ls:List L2},(∀ x∈ls,x.1≠key)→atT ls key=zT∧hasT ls key=false
 | [],_=>⟨rfl,rfl⟩
 | y::l,h=>by
  have hne:=h y (by simp)
  unfold atT hasT
  rw [if_neg hne,if_neg hne]
  exact atT_no fun x hx=>h x (by simp [hx])
theorem ltK_irr (a:ByteArray):ltK a a=false:=decide_eq_false (List.lt_irrefl _)
theorem ltK_tr (a b c:ByteArray) (h1:ltK a b=true) (h2:ltK b c=true):ltK a c=true:=decide_eq_true (List.lt_trans (of_decide_eq_true h1) (of_decide_eq_true h2))
theorem Place.eqb {ls:List L2} {k:ByteArray} {i:Nat} {b:Bool} (h:Place ls k i b):b=hasT ls k:=by
 cases b with
 | true =>
  obtain ⟨x,hx,hk⟩:=h.has rfl
  exact (hasT_iff.2 (hk ▸ List.mem_map_of_mem (f:=(·.1)) (List.mem_of_getElem? hx))).symm
 | false =>
  cases hh:hasT ls k with
  | false=>rfl
  | true =>
   obtain ⟨x,hx,hk⟩:=List.mem_map.1 (hasT_iff.1 hh)
   exact absurd hk (h.hasnt rfl x hx)
theorem dfind_any (ls:List L2) (v:Value) (k:ByteArray) (w:World) (hv:LRow w v ls) (hasc:AscK ls) :
  Calls Tryz.prog 129 #[v,.string k] w fun e w'=>e=.returned (.tuple #[.string (atT ls k),.bool (hasT ls k)])∧Below w.heap.size w w':=by
 have HB:=Lib.hid (bsearch_any 203 runs_find1 (fun x k W=>find1_any x k W) ls v k w hv hasc ltK_irr ltK_tr)
 have HV:=Lib.hid hv
 obtain ⟨A,c,rfl,hlen,hcells⟩:=hv
 have HA:=Lib.hid hasc
 clear hcells hasc
 cases hh:hasT ls k with
 | false =>
  have HR:=Lib.hid (show atT ls k=zT from atT_none fun h=>by rw [hasT_iff.2 h] at hh;cases hh)
  have HH:=Lib.hid hh
  clear hh
  go_enter Tryz.func129,Tryz.ntmps129
  go_wp2_with (go_at_call 202;refine HB.out.mono ?_;rintro e w1 ⟨i,bb,rfl,hp,hb⟩;obtain rfl:bb=false:=(hp.eqb.trans HH.out);have H1:=Lib.hid hb;clear hp hb)
  go_ret2
  rw [HR.out]
  exact ⟨rfl,H1.out⟩
 | true =>
  have HH:=Lib.hid hh
  clear hh
  go_enter Tryz.func129,Tryz.ntmps129
  go_wp2_with (go_at_call 202;refine HB.out.mono ?_;rintro e w1 ⟨i,bb,rfl,hp,hb⟩;obtain rfl:bb=true:=(hp.eqb.trans HH.out);obtain ⟨x,hx,hk⟩:=hp.has rfl;have HR:=Lib.hid (atT_at HA.out ltK_irr hx hk).1;obtain ⟨b,o,c',e',hb2,c0,c1⟩:=HV.out.at hb hx;simp only [Value.slice.injEq,true_and] at e';obtain ⟨rfl,rfl⟩:=e';have hlt:(i:Int) < (ls.length:Int):=(by have:=(List.getElem?_eq_some_iff.1 hx).1;omega);have H1:=Lib.hid hb;clear hp hb hx hk)
  go_ret2
  rw [HR.out]
  exact ⟨rfl,H1.out⟩
def idxP (p:L2→Bool):Nat→List L2→Int
 | _,[]=>-1
 | n,x::l=>if p x=true then (n:Int) else idxP p (n+1) l
theorem idxP_hit {p:L2→Bool} {n:Nat} {x:L2} {l:List L2} (h:p x=true):idxP p n (x::l)=(n:Int):=if_pos h
theorem idxP_miss {p:L2→Bool} {n:Nat} {x:L2} {l:List L2} (h:p x=false):idxP p n (x::l)=idxP p (n+1) l:=if_neg (by rw [h];decide)
theorem indexF_any (F:FuncId) (cb:Array Value) (hrun:Runs F) (p:L2→Bool) (ls:List L2) (v:Value) (w:World) (hv:LRow w v ls) (hr:Res w)
  (hp:∀ x∈ls,∀ W,Below w.heap.size w W→Res W→Calls Tryz.prog F (#[.agg #[.string x.1,.string x.2]]++cb) W fun e W'=>e=.returned (.bool (p x))∧Below W.heap.size W W') :
  Calls Tryz.prog 124 #[v,.func (.func F) #[] cb] w fun e w'=>e=.returned (.int .i64 (idxP p 0 ls))∧Below w.heap.size w w':=by
 obtain ⟨A,c,rfl,hlen,hcells⟩:=hv
 have HCE:=Lib.hid hcells
 have HP:=Lib.hid hp
 have H0:=Lib.hid (NW.refl hr)
 have hrn:=hrun
 unfold Runs at hrn
 clear hr hcells hp hrun
 go_enter Tryz.func124,Tryz.ntmps124
 go_wp2
 go_loopw [8] (fun v8 wr=>∃ k:Nat,k≤ls.length∧v8=.int .i64 (k:Int)∧Hid (idxP p 0 ls=idxP p k (ls.drop k))∧Hid (NW w wr)) (fun v8 _=>ls.length - (intOf v8).toNat)
 case atStart=>exact ⟨0,Nat.zero_le _,rfl,Lib.hid (by simp),H0⟩
 case round =>
  clear H0
  obtain ⟨k,hk,rfl,HE,HN⟩:=hrel
  by_cases hlt:k < ls.length
  ·obtain ⟨b,o,rfl,hbw,hcell⟩:=HCE.out (by omega)
   obtain ⟨x,hx⟩:∃ x,ls[k]?=some x:=⟨_,List.getElem?_eq_getElem hlt⟩
   obtain ⟨c0,c1⟩:=hcell k x hx
   rw [← HN.out.below.cell (p:=⟨b,o+k*2,none⟩) hbw] at c0
   rw [← HN.out.below.cell (p:=⟨b,o+k*2+1,none⟩) hbw] at c1
   have hlt':(k:Int) < (ls.length:Int):=by omega
   have HF:=Lib.hid (HP.out x (List.mem_of_getElem? hx) wr HN.out.below HN.out.res)
   have HD:=Lib.hid (show ls.drop k=x::ls.drop (k+1) by
    rw [List.drop_eq_getElem_cons hlt]
    rw [List.getElem?_eq_getElem hlt] at hx
    cases hx
    rfl)
   have HLT:=Lib.hid (And.intro hlt hlt')
   obtain ⟨f,d⟩:=x
   dsimp only at c0 c1 HF
   clear hcell hx hbw hlt
   cases hpx:p (f,d) with
   | true =>
    have HR:=Lib.hid (show idxP p 0 ls=(k:Int) by rw [HE.out,HD.out,idxP_hit hpx])
    rw [hpx] at HF
    have HF2:=HF.out
    clear HF hpx
    go_wp2
    refine HF2.mono ?_
    rintro e w3 ⟨rfl,hb⟩
    have H3:=Lib.hid (HN.out.later hb)
    clear hb HF2
    go_wp2
    go_ret
    rw [HR.out]
    exact ⟨rfl,H3.out.below⟩
   | false =>
    have HR:=Lib.hid (show idxP p 0 ls=idxP p (k+1) (ls.drop (k+1)) by rw [HE.out,HD.out,idxP_miss hpx])
    rw [hpx] at HF
    have HF2:=HF.out
    clear HF hpx
    go_wp2
    refine HF2.mono ?_
    rintro e w3 ⟨rfl,hb⟩
    have H3:=Lib.hid (HN.out.later hb)
    clear hb HF2
    go_wp2
    go_roundw
    case rel=>exact ⟨k+1,HLT.out.1,by go_num,HR,H3⟩
    case measure=>have:=HLT.out.1;simp [intOf];omega
  ·have hlt':¬ (k:Int) < (ls.length:Int):=by omega
   obtain rfl:k=ls.length:=by omega
   have HR:=Lib.hid (show idxP p 0 ls=-1 by
    have:=HE.out
    rw [List.drop_length] at this
    exact this)
   clear hlt
   go_wp2
   go_ret
   rw [HR.out]
   exact ⟨rfl,HN.out.below⟩
theorem ascK_of {ls:List L2} (h:Asc (ls.map (·.1))):AscK ls:=by
 intro i j x y hij hx hy
 unfold Asc at h
 rw [List.pairwise_iff_getElem] at h
 obtain ⟨h1,e1⟩:=List.getElem?_eq_some_iff.1 hx
 obtain ⟨h2,e2⟩:=List.getElem?_eq_some_iff.1 hy
 have:=h i j (by simpa using h1) (by simpa using h2) hij
 simp only [List.getElem_map] at this
 rwa [e1,e2] at this
theorem ascK_chk {ls:List L2} (h:chkD ls=0):AscK ls:=ascK_of (chkD_zero h).2.2
theorem idxP_ge {p:L2→Bool}:∀ {ls:List L2} {n:Nat},decide (0≤idxP p n ls)=ls.any p
 | [],n=>by unfold idxP;rfl
 | x::l,n=>by
  cases hp:p x with
  | true =>
   rw [idxP_hit hp,List.any_cons,hp,Bool.true_or]
   exact decide_eq_true (by omega)
  | false =>
   rw [idxP_miss hp,List.any_cons,hp,Bool.false_or]
   exact idxP_ge
theorem inX_any {q:List L2}:∀ {p:List L2},(!p.any fun x=>!hasT q x.1)=inX p q
 | []=>rfl
 | x::l=>by
  unfold inX
  rw [List.any_cons]
  cases h:hasT q x.1 with
  | true =>
   rw [if_pos rfl,← inX_any (p:=l)]
   rfl
  | false=>rw [if_neg (by decide)];rfl
theorem runs_within1:Runs 209:=runs_of Tryz.func209 (by kernel_rfl) (by kernel_rfl)
theorem within1_any (x:L2) (g:Nat) (ls:List L2) (v:Value) (w:World) (hg:Blk w g 31 #[v]) (hv:LRow w v ls) (hasc:AscK ls) :
  Calls Tryz.prog 209 #[.agg #[.string x.1,.string x.2],.pointer (some ⟨g,0,none⟩)] w fun e w'=>e=.returned (.bool (!hasT ls x.1))∧Below w.heap.size w w':=by
 have HX:=Lib.hid (below_alloc (Below.refl w.heap.size w) (.cells #[.string x.1,.string x.2] 30))
 have HF:=Lib.hid (dfind_any ls v x.1 _ (hv.below HX.out) hasc)
 have hg2:=hg.below HX.out hg.lt
 have c0:(w.alloc (.cells #[.string x.1,.string x.2] 30)).cell? ⟨g,0,none⟩=some v:=by rw [hg2.cell];rfl
 have gl:=hg2.lt
 clear hv hg hg2
 obtain ⟨f,d⟩:=x
 dsimp only at HX HF c0 gl
 go_enter Tryz.func209,Tryz.ntmps209
 cases hh:hasT ls f with
 | true =>
  rw [hh] at HF
  go_wp2_with (go_at_call 129;refine HF.out.mono ?_;rintro e w3 ⟨rfl,hb⟩;have H3:=Lib.hid (HX.out.trans (hb.mono HX.out.size));clear hb)
  go_ret
  exact ⟨rfl,H3.out⟩
 | false =>
  rw [hh] at HF
  go_wp2_with (go_at_call 129;refine HF.out.mono ?_;rintro e w3 ⟨rfl,hb⟩;have H3:=Lib.hid (HX.out.trans (hb.mono HX.out.size));clear hb)
  go_ret
  exact ⟨rfl,H3.out⟩
theorem containsF_any (F:FuncId) (cb:Array Value) (v:Value) (z:Int) (w:World)
  (HI:Hid (Calls Tryz.prog 124 #[v,.func (.func F) #[] cb] w fun e w'=>e=.returned (.int .i64 z)∧Below w.heap.size w w')) :
  Calls Tryz.prog 208 #[v,.func (.func F) #[] cb] w fun e w'=>e=.returned (.bool (decide (0≤z)))∧Below w.heap.size w w':=by
 go_enter Tryz.func208,Tryz.ntmps208
 go_wp2_with (go_at_call 124;refine HI.out.mono ?_;rintro e w3 ⟨rfl,hb⟩;have H3:=Lib.hid hb;clear hb)
 go_ret
 exact ⟨rfl,H3.out⟩
theorem dwithin_any (p q:List L2) (vp vq:Value) (w:World) (hp:LRow w vp p) (hq:LRow w vq q) (hasc:AscK q) (hr:Res w) :
  Calls Tryz.prog 132 #[vp,vq] w fun e w'=>e=.returned (.bool (inX p q))∧Below w.heap.size w w':=by
 obtain ⟨A,c,rfl,_,_⟩:=id hp
 obtain ⟨A',c',rfl,_,_⟩:=id hq
 have HX:=Lib.hid (below_alloc (Below.refl w.heap.size w) (.cells #[.slice A' q.length c'] 31))
 have hbk:=Blk.new w 31 #[.slice A' q.length c']
 have HI:=indexF_any 209 #[.pointer (some ⟨w.heap.size,0,none⟩)] runs_within1 (fun x=>!hasT q x.1) p _ _ (hp.below HX.out) (hr.below HX.out) (fun x _ W hW _ =>
  within1_any x w.heap.size q _ W (hbk.below hW hbk.lt) (hq.below (HX.out.trans (hW.mono HX.out.size))) hasc)
 have HC:=Lib.hid (containsF_any _ _ _ _ _ (Lib.hid HI))
 rw [idxP_ge] at HC
 have HE:=Lib.hid (inX_any (p:=p) (q:=q))
 clear HI hbk hp hq hasc hr
 go_enter Tryz.func132,Tryz.ntmps132
 go_wp2_with (go_at_call 208;go_loud (refine HC.out.mono ?_;rintro e w3 ⟨rfl,hb⟩;have H3:=Lib.hid (HX.out.trans (hb.mono HX.out.size));clear hb))
 go_ret
 rw [← HE.out]
 exact ⟨rfl,H3.out⟩
theorem runs_at1:Runs 125:=runs_of Tryz.func125 (by kernel_rfl) (by kernel_rfl)
theorem at1_any (x:L2) (g:Nat) (k:ByteArray) (w:World) (hg:Blk w g 9 #[.string k]) :
  Calls Tryz.prog 125 #[.agg #[.string x.1,.string x.2],.pointer (some ⟨g,0,none⟩)] w fun e w'=>e=.returned (.bool (decide (x.1=k)))∧Below w.heap.size w w':=by
 have HX:=Lib.hid (below_alloc (Below.refl w.heap.size w) (.cells #[.string x.1,.string x.2] 30))
 have hg2:=hg.below HX.out hg.lt
 have c0:(w.alloc (.cells #[.string x.1,.string x.2] 30)).cell? ⟨g,0,none⟩=some (.string k):=by rw [hg2.cell];rfl
 have gl:=hg2.lt
 have TE:=Lib.hid (eq_bytes x.1 k)
 clear hg hg2
 obtain ⟨f,d⟩:=x
 dsimp only at HX c0 gl TE
 go_enter Tryz.func125,Tryz.ntmps125
 go_wp2
 go_ret
 rw [← TE.out]
 exact ⟨rfl,HX.out⟩
theorem idxP_spec {p:L2→Bool}:∀ {ls:List L2} {n:Nat},(idxP p n ls=-1∧∀ x∈ls,p x=false)∨∃ (i:Nat) (x:L2),idxP p n ls=((n+i:Nat):Int)∧ls[i]?=some x∧p x=true∧∀ (j:Nat) y,j < i→ls[j]?=some y→p y=false
 | [],n=>.inl ⟨rfl,fun x hx=>by cases hx⟩
 | x::l,n=>by
  cases hp:p x with
  | true=>exact .inr ⟨0,x,idxP_hit hp,rfl,hp,fun j y h=>by omega⟩
  | false =>
   rw [idxP_miss hp]
   rcases idxP_spec (p:=p) (ls:=l) (n:=n+1) with ⟨e,h⟩|⟨i,y,e,hy,hpy,h⟩
   ·refine .inl ⟨e,fun z hz=>?_⟩
    rcases List.mem_cons.1 hz with rfl|hz
    ·exact hp
    ·exact h z hz
   ·refine .inr ⟨i+1,y,by rw [e];omega,by simpa using hy,hpy,fun j z hj hz=>?_⟩
    match j with
    | 0=>cases hz;exact hp
    | j+1=>exact h j z (by omega) (by simpa using hz)
theorem atT_first {key:ByteArray}:∀ {ls:List L2} {i:Nat} {x:L2},ls[i]?=some x→x.1=key→(∀ (j:Nat) y,j < i→ls[j]?=some y→y.1≠key)→atT ls key=x.2∧hasT ls key=true
 | [],i,x,h,_,_=>by simp at h
 | y::l,0,x,h,e,_=>by
  simp only [List.getElem?_cons_zero,Option.some.injEq] at h
  subst h
  unfold atT hasT
  rw [if_pos e,if_pos e]
  exact ⟨rfl,rfl⟩
 | y::l,i+1,x,h,e,hn=>by
  have hne:=hn 0 y (by omega) rfl
  unfold atT hasT
  rw [if_neg hne,if_neg hne]
  exact atT_first (i:=i) (by simpa using h) e fun j z hj hz=>hn (j+1) z (by omega) (by simpa using hz)
theorem dAt_any (ls:List L2) (v:Value) (k:ByteArray) (w:World) (hv:LRow w v ls) (hr:Res w) :
  Calls Tryz.prog 38 #[v,.string k] w fun e w'=>e=.returned (.string (atT ls k))∧Below w.heap.size w w':=by
 have HX:=Lib.hid (below_alloc (Below.refl w.heap.size w) (.cells #[.string k] 9))
 have hbk:=Blk.new w 9 #[.string k]
 have HI:=Lib.hid (indexF_any 125 #[.pointer (some ⟨w.heap.size,0,none⟩)] runs_at1 (fun x=>decide (x.1=k)) ls v _ (hv.below HX.out) (hr.below HX.out) (fun x _ W hW _=>at1_any x w.heap.size k W (hbk.below hW hbk.lt)))
 have HV:=Lib.hid hv
 obtain ⟨A,c,rfl,hlen,hcells⟩:=hv
 clear hbk hcells hr
 rcases idxP_spec (p:=fun x:L2=>decide (x.1=k)) (ls:=ls) (n:=0) with ⟨e1,h1⟩|⟨i,x,e1,hx,hpx,h1⟩
 ·rw [e1] at HI
  have HR:=Lib.hid (atT_no (key:=k) fun x hx=>of_decide_eq_false (h1 x hx))
  clear e1 h1
  go_enter Tryz.func38,Tryz.ntmps38
  go_wp2_with (go_at_call 124;go_loud (refine HI.out.mono ?_;rintro e w3 ⟨rfl,hb⟩;have H3:=Lib.hid (HX.out.trans (hb.mono HX.out.size));clear hb))
  go_ret
  rw [HR.out.1]
  exact ⟨rfl,H3.out⟩
 ·rw [e1,Nat.zero_add] at HI
  have HR:=Lib.hid (atT_first hx (of_decide_eq_true hpx) fun j y hj hy=>of_decide_eq_false (h1 j y hj hy))
  have HC:=Lib.hid (fun W (hW:Below w.heap.size w W)=>HV.out.at hW hx)
  have hlt:(i:Int) < (ls.length:Int):=by have:=(List.getElem?_eq_some_iff.1 hx).1;omega
  clear e1 h1 hx hpx
  go_enter Tryz.func38,Tryz.ntmps38
  go_wp2_with (go_at_call 124;refine HI.out.mono ?_;rintro e w3 ⟨rfl,hb⟩;have H3:=Lib.hid (HX.out.trans (hb.mono HX.out.size));clear hb;obtain ⟨b,o,c',e',hb2,c0,c1⟩:=HC.out _ H3.out;simp only [Value.slice.injEq,true_and] at e';obtain ⟨rfl,rfl⟩:=e')
  go_ret
  rw [HR.out.1]
  exact ⟨rfl,H3.out⟩
theorem nw_num {w:World} {g:Nat} {t:TypeId} {u:Value} (h:Blk w g t #[u]):∀ W,NW w W→W.cell? ⟨g,0,none⟩=some u∧g < W.heap.size:=fun W hW=>by
 have h2:=h.below hW.below h.lt
 exact ⟨by rw [h2.cell];rfl,h2.lt⟩
theorem nw_mass {w:World} {g:Nat} {t:TypeId} {u v:Value} (h:Blk w g t #[u,v]):∀ W,NW w W→W.cell? ⟨g,0,none⟩=some u∧W.cell? ⟨g,1,none⟩=some v∧g < W.heap.size:=fun W hW=>by
 have h2:=h.below hW.below h.lt
 exact ⟨(cells2 h2).1,(cells2 h2).2,h2.lt⟩
theorem zT_small:zT.size≤270000:=by decide
theorem oT_small:oT.size≤270000:=by decide
theorem Short.atT {k:ByteArray}:∀ {ls:List L2},Short ls→(atT ls k).size≤270000
 | [],_=>zT_small
 | x::l,h=>by
  unfold Go.Proofs.YtigapglmipmbeaaGreatDoor.atT
  split
  ·exact (h x (by simp)).2
  ·exact Short.atT fun y hy=>h y (by simp [hy])
theorem chk2_both {a b:List L2} (h:chk2 a b=0):chkD a=0∧chkD b=0:=by
 unfold chk2 at h
 split at h
 ·rename_i h1;exact absurd h h1
 ·rename_i h1;exact ⟨Classical.byContradiction h1,h⟩
theorem resX_tup (r:XE):∃ c0 c1,resX r=.tuple #[.string c0,.int .i64 c1]:=by
 cases r
 ·exact ⟨_,_,rfl⟩
 ·exact ⟨_,_,rfl⟩
theorem delta1_any (x:L2) (k:Int) (gq gf:Nat) (q:List L2) (vq:Value) (f:ByteArray) (w:World) (hgq:Blk w gq 31 #[vq]) (hgf:Blk w gf 23 #[.string f]) (hv:LRow w vq q) (hasc:AscK q) (hsq:Short q) (hf:f.size≤270000) (hx:x.2.size≤270000) (hr:Res w) :
  Calls Tryz.prog 128 #[.int .i64 k,.agg #[.string x.1,.string x.2],.pointer (some ⟨gq,0,none⟩),.pointer (some ⟨gf,0,none⟩)] w fun e w'=>e=.returned (resX (partX f q x))∧Below w.heap.size w w':=by
 have HX:=Lib.hid (show NW w (w.alloc (.cells #[.string x.1,.string x.2] 30)) from (NW.refl hr).alloc _)
 have K0:Blk (w.alloc (.cells #[.string x.1,.string x.2] 30)) (w.heap.size) 30 #[.string x.1,.string x.2]:=by
  have:=Blk.new w 30 #[.string x.1,.string x.2]
  exact this
 have N0:=Lib.hid (NW.refl HX.out.res)
 have HF:=Lib.hid (dfind_any q vq x.1 _ (hv.below HX.out.below) hasc)
 have HM:=Lib.hid (nw_mass K0)
 have HO:=Lib.hid (hsq.atT (k:=x.1))
 have HG:=Lib.hid (nw_num (hgf.below HX.out.below hgf.lt))
 have x0:=(nw_num (hgq.below HX.out.below hgq.lt) _ N0.out).1
 have xl:=(nw_num (hgq.below HX.out.below hgq.lt) _ N0.out).2
 have HPX:=Lib.hid (show ∀ r,partX f q x=r→resX (partX f q x)=resX r from fun r h=>by rw [h])
 have HML:=Lib.hid (retMulX hf HO.out)
 have HXS:=Lib.hid hx
 obtain ⟨A',c',rfl,_,_⟩:=id hv
 obtain ⟨y,d⟩:=x
 dsimp only at HX HF HM HO x0 xl HML HXS N0
 clear hv hgq hgf hr hasc hsq hf hx K0
 cases hm:mulX f (atT q y) with
 | error n =>
  have HR:=Lib.hid (HPX.out (.error n) (by unfold partX;dsimp only;rw [hm]))
  have hz:=ne_zero (exQ_err hm)
  rw [hm] at HML
  change Hid (Ret _ _ (.tuple #[.string ⟨#[]⟩,.int .i64 (n:Int)])) at HML
  clear hm
  go_enter Tryz.func128,Tryz.ntmps128
  go_wp2_with (first
   | (go_at_call 129;refine (HF.out).mono ?_;rintro e w1 ⟨rfl,hb⟩;have N1:=Lib.hid (N0.out.later hb);clear hb;obtain ⟨g0,gl⟩:=HG.out _ N1.out)
   | (go_at_call 130;refine (HML.out _ N1.out.res).mono ?_;rintro e w2 ⟨rfl,hb⟩;have N2:=Lib.hid (N1.out.later hb);clear hb;obtain ⟨m0,m1,ml⟩:=HM.out _ N2.out))
  go_ret2
  rw [HR.out]
  exact ⟨rfl,HX.out.below.trans (N2.out.below.mono HX.out.below.size)⟩
 | ok s =>
  rw [hm] at HML
  change Hid (Ret _ _ (.tuple #[.string s,.int .i64 0])) at HML
  have HSB:=Lib.hid (retSubX HXS.out (size_ok (mulX_ok hm)))
  cases hs:subX d s with
  | error n =>
   have HR:=Lib.hid (HPX.out (.error n) (by unfold partX;dsimp only;rw [hm];dsimp only;rw [hs]))
   have hz:=ne_zero (exQ_err hs)
   rw [hs] at HSB
   change Hid (Ret _ _ (.tuple #[.string ⟨#[]⟩,.int .i64 (n:Int)])) at HSB
   clear hm hs
   go_enter Tryz.func128,Tryz.ntmps128
   go_wp2_with (first
    | (go_at_call 129;refine (HF.out).mono ?_;rintro e w1 ⟨rfl,hb⟩;have N1:=Lib.hid (N0.out.later hb);clear hb;obtain ⟨g0,gl⟩:=HG.out _ N1.out)
    | (go_at_call 130;refine (HML.out _ N1.out.res).mono ?_;rintro e w2 ⟨rfl,hb⟩;have N2:=Lib.hid (N1.out.later hb);clear hb;obtain ⟨m0,m1,ml⟩:=HM.out _ N2.out)
    | (go_at_call 117;refine (HSB.out _ N2.out.res).mono ?_;rintro e w3 ⟨rfl,hb⟩;have N3:=Lib.hid (N2.out.later hb);clear hb))
   go_ret2
   rw [HR.out]
   exact ⟨rfl,HX.out.below.trans (N3.out.below.mono HX.out.below.size)⟩
  | ok r =>
   rw [hs] at HSB
   change Hid (Ret _ _ (.tuple #[.string r,.int .i64 0])) at HSB
   have HMX:=Lib.hid (retMaxX zT_small (size_ok (subX_ok hs)))
   change Hid (Ret _ #[.string ⟨#[48]⟩,.string r] _) at HMX
   have HR:=Lib.hid (HPX.out (maxX zT r) (by unfold partX;dsimp only;rw [hm];dsimp only;rw [hs]))
   obtain ⟨c0,c1,hc⟩:=resX_tup (maxX zT r)
   rw [hc] at HR HMX
   clear hm hs hc
   go_enter Tryz.func128,Tryz.ntmps128
   go_wp2_with (first
    | (go_at_call 129;refine (HF.out).mono ?_;rintro e w1 ⟨rfl,hb⟩;have N1:=Lib.hid (N0.out.later hb);clear hb;obtain ⟨g0,gl⟩:=HG.out _ N1.out)
    | (go_at_call 130;refine (HML.out _ N1.out.res).mono ?_;rintro e w2 ⟨rfl,hb⟩;have N2:=Lib.hid (N1.out.later hb);clear hb;obtain ⟨m0,m1,ml⟩:=HM.out _ N2.out)
    | (go_at_call 117;refine (HSB.out _ N2.out.res).mono ?_;rintro e w3 ⟨rfl,hb⟩;have N3:=Lib.hid (N2.out.later hb);clear hb)
    | (go_at_call 131;refine (HMX.out _ N3.out.res).mono ?_;rintro e w4 ⟨rfl,hb⟩;have N4:=Lib.hid (N3.out.later hb);clear hb))
   go_ret2
   rw [HR.out]
   exact ⟨rfl,HX.out.below.trans (N4.out.below.mono HX.out.below.size)⟩
theorem runs_delta1:Runs 128:=runs_of Tryz.func128 (by kernel_rfl) (by kernel_rfl)
theorem partX_ne {f:ByteArray} {q:List L2} {x:L2} {n:Nat} (h:partX f q x=.error n):n≠0:=by
 unfold partX at h
 split at h
 ·rename_i h1;cases h;exact exQ_err h1
 ·split at h
  ·rename_i h1;cases h;exact exQ_err h1
  ·unfold maxX at h
   split at h
   ·rename_i h1;cases h;exact h1
   ·split at h
    ·rename_i h1;cases h;exact h1
    ·cases h
theorem partX_fine {f:ByteArray} {q:List L2} {x:L2} {s:ByteArray} (h:partX f q x=.ok s):errQ s.data.toList=0:=by
 unfold partX at h
 split at h
 ·cases h
 ·split at h
  ·cases h
  ·rename_i h1
   unfold maxX at h
   split at h
   ·cases h
   ·split at h
    ·cases h
    ·cases h
     split
     ·exact subX_ok h1
     ·exact err_zT
theorem ddelta_any (p q:List L2) (vp vq:Value) (f:ByteArray) (w:World) (hp:LRow w vp p) (hq:LRow w vq q) (sp:Short p) (sq:Short q) (hf:f.size≤270000) (hr:Res w) :
  Calls Tryz.prog 45 #[vp,vq,.string f] w fun e w'=>e=.returned (resX (deltaX p q f))∧Below w.heap.size w w':=by
 have HX:=Lib.hid (show NW w (((w.alloc (.cells #[vq] 31)).alloc (.cells #[.string f] 23)).alloc (.cells #[vp,vq] 31)) from (((NW.refl hr).alloc _).alloc _).alloc _)
 have K0:Blk (((w.alloc (.cells #[vq] 31)).alloc (.cells #[.string f] 23)).alloc (.cells #[vp,vq] 31)) (w.heap.size) 31 #[vq]:=by
  have:=Blk.new w 31 #[vq]
  exact ((this.alloc _).alloc _)
 have K1:Blk (((w.alloc (.cells #[vq] 31)).alloc (.cells #[.string f] 23)).alloc (.cells #[vp,vq] 31)) (w.heap.size+1) 23 #[.string f]:=by
  have:=Blk.new (w.alloc (.cells #[vq] 31)) 23 #[.string f]
  simp only [World.size_alloc] at this
  exact (this.alloc _)
 have K2:Blk (((w.alloc (.cells #[vq] 31)).alloc (.cells #[.string f] 23)).alloc (.cells #[vp,vq] 31)) (w.heap.size+1+1) 31 #[vp,vq]:=by
  have:=Blk.new ((w.alloc (.cells #[vq] 31)).alloc (.cells #[.string f] 23)) 31 #[vp,vq]
  simp only [World.size_alloc] at this
  exact this
 have N0:=Lib.hid (NW.refl HX.out.res)
 have hpx:=hp.below HX.out.below
 have hqx:=hq.below HX.out.below
 have HC:=Lib.hid (dchecked_any p q vp vq _ _ K2 hpx hqx sp sq HX.out.res)
 have B1:=Lib.hid (nw_num K1)
 have x0:=(nw_num (K0) _ N0.out).1
 have HP:=Lib.hid (positive_any hf)
 obtain ⟨A,c,rfl,hlen,hcells⟩:=id hp
 obtain ⟨A',c',rfl,hlen',hcells'⟩:=id hq
 by_cases h0:chk2 p q=0
 ·have HR0:=Lib.hid (show deltaX p q f=if posE f≠0 then .error (posE f) else foldX (partX f q) zT p by unfold deltaX;rw [if_neg (by simpa using h0)])
  rw [h0] at HC
  change Hid (Calls _ _ _ _ fun e w'=>e=.returned (.int .i64 0)∧_) at HC
  by_cases h1:posE f=0
  ·have HR:=Lib.hid (show deltaX p q f=foldX (partX f q) zT p by rw [HR0.out,if_neg (by simpa using h1)])
   rw [h1] at HP
   change Hid (Ret _ _ (.tuple #[.bool (posB f),.int .i64 0])) at HP
   have ha:=ascK_chk (chk2_both h0).2
   have HFD:=Lib.hid (fun W (hW:NW _ W) =>
    dfold_any 128 #[.pointer (some ⟨w.heap.size,0,none⟩),.pointer (some ⟨w.heap.size+1,0,none⟩)] runs_delta1 (partX f q) p _ W (hpx.below hW.below) hW.res (fun x n h=>partX_ne h) (fun x hx s h=>partX_fine h)
     (fun k x hx W2 hW2 hr2=>delta1_any x k _ _ q _ f W2 ((K0.below hW.below K0.lt).below hW2 (K0.below hW.below K0.lt).lt) ((K1.below hW.below K1.lt).below hW2 (K1.below hW.below K1.lt).lt) ((hqx.below hW.below).below hW2) ha sq hf (sp x (List.mem_of_getElem? hx)).2 hr2))
   obtain ⟨r0,r1,hc⟩:=resX_tup (foldX (partX f q) zT p)
   rw [hc] at HFD
   have HR2:=Lib.hid (show resX (deltaX p q f)=.tuple #[.string r0,.int .i64 r1] by rw [HR.out,hc])
   clear K0 K1 K2 hpx hqx hp hq sp sq hf hr h0 h1 ha hc hcells hcells'
   go_enter Tryz.func45,Tryz.ntmps45
   go_wp2_with (first
    | (go_at_call 112;refine (HC.out).mono ?_;rintro e w1 ⟨rfl,hb⟩;have N1:=Lib.hid (N0.out.later hb);clear hb;obtain ⟨f0,fl⟩:=B1.out _ N1.out)
    | (go_at_call 106;refine (HP.out _ N1.out.res).mono ?_;rintro e w2 ⟨rfl,hb⟩;have N2:=Lib.hid (N1.out.later hb);clear hb)
    | (go_at_call 122;refine (HFD.out _ N2.out).mono ?_;rintro e w3 ⟨rfl,hb⟩;have N3:=Lib.hid (N2.out.later hb);clear hb))
   go_ret2
   rw [HR2.out]
   exact ⟨rfl,HX.out.below.trans (N3.out.below.mono HX.out.below.size)⟩
  ·have HR:=Lib.hid (show deltaX p q f=.error (posE f) by rw [HR0.out,if_pos h1])
   have hm:=ne_zero h1
   clear K0 K1 K2 hpx hqx hp hq sp sq hf hr h0 h1 hcells hcells'
   go_enter Tryz.func45,Tryz.ntmps45
   go_wp2_with (first
    | (go_at_call 112;refine (HC.out).mono ?_;rintro e w1 ⟨rfl,hb⟩;have N1:=Lib.hid (N0.out.later hb);clear hb;obtain ⟨f0,fl⟩:=B1.out _ N1.out)
    | (go_at_call 106;refine (HP.out _ N1.out.res).mono ?_;rintro e w2 ⟨rfl,hb⟩;have N2:=Lib.hid (N1.out.later hb);clear hb))
   go_ret2
   rw [HR.out]
   exact ⟨rfl,HX.out.below.trans (N2.out.below.mono HX.out.below.size)⟩
 ·have HR:=Lib.hid (show deltaX p q f=.error (chk2 p q) by unfold deltaX;rw [if_pos h0])
  have hm:=ne_zero h0
  clear K0 K1 K2 hpx hqx hp hq sp sq hf hr h0 hcells hcells'
  go_enter Tryz.func45,Tryz.ntmps45
  go_wp2_with (go_at_call 112;refine (HC.out).mono ?_;rintro e w1 ⟨rfl,hb⟩;have N1:=Lib.hid (N0.out.later hb);clear hb)
  go_ret2
  rw [HR.out]
  exact ⟨rfl,HX.out.below.trans (N1.out.below.mono HX.out.below.size)⟩
theorem moment1_any (x:L2) (k:Int) (gq gf:Nat) (q:List L2) (vq:Value) (n:Int) (w:World) (hgq:Blk w gq 31 #[vq]) (hgf:Blk w gf 3 #[.int .i64 n]) (hv:LRow w vq q) (hasc:AscK q) (hsq:Short q) (hn1:1≤n) (hn8:n≤8) (hx:x.2.size≤270000) (hr:Res w) :
  Calls Tryz.prog 134 #[.int .i64 k,.agg #[.string x.1,.string x.2],.pointer (some ⟨gq,0,none⟩),.pointer (some ⟨gf,0,none⟩)] w fun e w'=>e=.returned (resX (powsX n q x))∧Below w.heap.size w w':=by
 have HX:=Lib.hid (show NW w (w.alloc (.cells #[.string x.1,.string x.2] 30)) from (NW.refl hr).alloc _)
 have K0:Blk (w.alloc (.cells #[.string x.1,.string x.2] 30)) (w.heap.size) 30 #[.string x.1,.string x.2]:=by
  have:=Blk.new w 30 #[.string x.1,.string x.2]
  exact this
 have N0:=Lib.hid (NW.refl HX.out.res)
 have HF:=Lib.hid (dfind_any q vq x.1 _ (hv.below HX.out.below) hasc)
 have HM:=Lib.hid (nw_mass K0)
 have HO:=Lib.hid (hsq.atT (k:=x.1))
 have HG:=Lib.hid (nw_num (hgf.below HX.out.below hgf.lt))
 have x0:=(nw_num (hgq.below HX.out.below hgq.lt) _ N0.out).1
 have xl:=(nw_num (hgq.below HX.out.below hgq.lt) _ N0.out).2
 have HPX:=Lib.hid (show ∀ r,powsX n q x=r→resX (powsX n q x)=resX r from fun r h=>by rw [h])
 have HPA:=Lib.hid (retPowX hx n (by omega) (by omega))
 have HPB:=Lib.hid (retPowX HO.out (n - 1) (by omega) (by omega))
 obtain ⟨y,d⟩:=x
 dsimp only at HX HF HM HO x0 xl HPA HPB N0
 have TKA:True:=trivial
 clear hv hgq hgf hr hasc hsq hx K0
 cases ha:powX d n with
 | error z =>
  have HR:=Lib.hid (HPX.out (.error z) (by unfold powsX;dsimp only;rw [ha]))
  have hz:=ne_zero (exQ_err ha)
  rw [ha] at HPA
  change Hid (Ret _ _ (.tuple #[.string ⟨#[]⟩,.int .i64 (z:Int)])) at HPA
  clear ha
  go_enter Tryz.func134,Tryz.ntmps134
  go_wp2_with (first
   | (go_at_call 129;refine (HF.out).mono ?_;rintro e w1 ⟨rfl,hb⟩;have N1:=Lib.hid (N0.out.later hb);clear hb;obtain ⟨g0,gl⟩:=HG.out _ N1.out;obtain ⟨m0,m1,ml⟩:=HM.out _ N1.out)
   | (go_at_call 135;refine (HPA.out _ N1.out.res).mono ?_;rintro e w2 ⟨rfl,hb⟩;have N2:=Lib.hid (N1.out.later hb);clear hb;clear g0 gl m0 m1 ml TKA;obtain ⟨g0,gl⟩:=HG.out _ N2.out))
  go_ret2
  rw [HR.out]
  exact ⟨rfl,HX.out.below.trans (N2.out.below.mono HX.out.below.size)⟩
 | ok s =>
  rw [ha] at HPA
  change Hid (Ret _ _ (.tuple #[.string s,.int .i64 0])) at HPA
  cases hb:powX (atT q y) (n - 1) with
  | error z =>
   have HR:=Lib.hid (HPX.out (.error z) (by unfold powsX;dsimp only;rw [ha];dsimp only;rw [hb]))
   have hz:=ne_zero (exQ_err hb)
   rw [hb] at HPB
   change Hid (Ret _ _ (.tuple #[.string ⟨#[]⟩,.int .i64 (z:Int)])) at HPB
   clear ha hb
   go_enter Tryz.func134,Tryz.ntmps134
   go_wp2_with (first
    | (go_at_call 129;refine (HF.out).mono ?_;rintro e w1 ⟨rfl,hb⟩;have N1:=Lib.hid (N0.out.later hb);clear hb;obtain ⟨g0,gl⟩:=HG.out _ N1.out;obtain ⟨m0,m1,ml⟩:=HM.out _ N1.out)
    | (go_at_call 135;clear TKA;refine (HPA.out _ N1.out.res).mono ?_;rintro e w2 ⟨rfl,hb⟩;have N2:=Lib.hid (N1.out.later hb);clear hb g0 gl m0 m1 ml;obtain ⟨g0,gl⟩:=HG.out _ N2.out)
    | (go_at_call 135;refine (HPB.out _ N2.out.res).mono ?_;rintro e w3 ⟨rfl,hb⟩;have N3:=Lib.hid (N2.out.later hb);clear hb))
   go_ret2
   rw [HR.out]
   exact ⟨rfl,HX.out.below.trans (N3.out.below.mono HX.out.below.size)⟩
  | ok t =>
   rw [hb] at HPB
   change Hid (Ret _ _ (.tuple #[.string t,.int .i64 0])) at HPB
   have HDV:=Lib.hid (retDivX (size_ok (powX_ok ha)) (size_ok (powX_ok hb)))
   have HR:=Lib.hid (HPX.out (divX s t) (by unfold powsX;dsimp only;rw [ha];dsimp only;rw [hb]))
   obtain ⟨r0,r1,hc⟩:=resX_tup (divX s t)
   rw [hc] at HR HDV
   clear ha hb hc
   go_enter Tryz.func134,Tryz.ntmps134
   go_wp2_with (first
    | (go_at_call 129;refine (HF.out).mono ?_;rintro e w1 ⟨rfl,hb⟩;have N1:=Lib.hid (N0.out.later hb);clear hb;obtain ⟨g0,gl⟩:=HG.out _ N1.out;obtain ⟨m0,m1,ml⟩:=HM.out _ N1.out)
    | (go_at_call 135;clear TKA;refine (HPA.out _ N1.out.res).mono ?_;rintro e w2 ⟨rfl,hb⟩;have N2:=Lib.hid (N1.out.later hb);clear hb g0 gl m0 m1 ml;obtain ⟨g0,gl⟩:=HG.out _ N2.out)
    | (go_at_call 135;refine (HPB.out _ N2.out.res).mono ?_;rintro e w3 ⟨rfl,hb⟩;have N3:=Lib.hid (N2.out.later hb);clear hb)
    | (go_at_call 133;refine (HDV.out _ N3.out.res).mono ?_;rintro e w4 ⟨rfl,hb⟩;have N4:=Lib.hid (N3.out.later hb);clear hb))
   go_ret2
   rw [HR.out]
   exact ⟨rfl,HX.out.below.trans (N4.out.below.mono HX.out.below.size)⟩
theorem runs_moment1:Runs 134:=runs_of Tryz.func134 (by kernel_rfl) (by kernel_rfl)
theorem powsX_ne {n:Int} {q:List L2} {x:L2} {z:Nat} (h:powsX n q x=.error z):z≠0:=by
 unfold powsX at h
 split at h
 ·rename_i h1;cases h;exact exQ_err h1
 ·split at h
  ·rename_i h1;cases h;exact exQ_err h1
  ·exact exQ_err h
theorem powsX_fine {n:Int} {q:List L2} {x:L2} {s:ByteArray} (h:powsX n q x=.ok s):errQ s.data.toList=0:=by
 unfold powsX at h
 split at h
 ·cases h
 ·split at h
  ·cases h
  ·exact divX_ok h
theorem dmoment_any (p q:List L2) (vp vq:Value) (n:Int) (w:World) (hp:LRow w vp p) (hq:LRow w vq q) (sp:Short p) (sq:Short q) (hr:Res w) :
  Calls Tryz.prog 48 #[vp,vq,.int .i64 n] w fun e w'=>e=.returned (momV p q n)∧Below w.heap.size w w':=by
 have HX:=Lib.hid (show NW w (((w.alloc (.cells #[vq] 31)).alloc (.cells #[.int .i64 n] 3)).alloc (.cells #[vp,vq] 31)) from (((NW.refl hr).alloc _).alloc _).alloc _)
 have K0:Blk (((w.alloc (.cells #[vq] 31)).alloc (.cells #[.int .i64 n] 3)).alloc (.cells #[vp,vq] 31)) (w.heap.size) 31 #[vq]:=by
  have:=Blk.new w 31 #[vq]
  exact ((this.alloc _).alloc _)
 have K1:Blk (((w.alloc (.cells #[vq] 31)).alloc (.cells #[.int .i64 n] 3)).alloc (.cells #[vp,vq] 31)) (w.heap.size+1) 3 #[.int .i64 n]:=by
  have:=Blk.new (w.alloc (.cells #[vq] 31)) 3 #[.int .i64 n]
  simp only [World.size_alloc] at this
  exact (this.alloc _)
 have K2:Blk (((w.alloc (.cells #[vq] 31)).alloc (.cells #[.int .i64 n] 3)).alloc (.cells #[vp,vq] 31)) (w.heap.size+1+1) 31 #[vp,vq]:=by
  have:=Blk.new ((w.alloc (.cells #[vq] 31)).alloc (.cells #[.int .i64 n] 3)) 31 #[vp,vq]
  simp only [World.size_alloc] at this
  exact this
 have N0:=Lib.hid (NW.refl HX.out.res)
 have hpx:=hp.below HX.out.below
 have hqx:=hq.below HX.out.below
 have HC:=Lib.hid (dchecked_any p q vp vq _ _ K2 hpx hqx sp sq HX.out.res)
 have B0:=Lib.hid (nw_num K0)
 have B1:=Lib.hid (nw_num K1)
 have x0:=(nw_num K0 _ N0.out).1
 obtain ⟨A,c,rfl,hlen,hcells⟩:=id hp
 obtain ⟨A',c',rfl,hlen',hcells'⟩:=id hq
 by_cases h0:chk2 p q=0
 ·rw [h0] at HC
  change Hid (Calls _ _ _ _ fun e w'=>e=.returned (.int .i64 0)∧_) at HC
  have ha:=ascK_chk (chk2_both h0).2
  by_cases h1:n < 1
  ·have HR:=Lib.hid (show momV p q n=.tuple #[.string ⟨#[]⟩,.bool false,.int .i64 2] by unfold momV;rw [if_neg (by simpa using h0),if_pos (.inl h1)])
   have d1:decide (n < 1)=true:=decide_eq_true h1
   clear K0 K1 K2 hpx hqx hp hq sp sq hr h0 hcells hcells' h1 ha
   go_enter Tryz.func48,Tryz.ntmps48
   go_wp2_with (go_at_call 112;refine (HC.out).mono ?_;rintro e w1 ⟨rfl,hb⟩;have N1:=Lib.hid (N0.out.later hb);clear hb;obtain ⟨f0,fl⟩:=B1.out _ N1.out;obtain ⟨v0,vl⟩:=B0.out _ N1.out)
   go_ret3
   rw [HR.out]
   exact ⟨rfl,HX.out.below.trans (N1.out.below.mono HX.out.below.size)⟩
  ·have d1:decide (n < 1)=false:=decide_eq_false h1
   by_cases h2:8 < n
   ·have HR:=Lib.hid (show momV p q n=.tuple #[.string ⟨#[]⟩,.bool false,.int .i64 2] by unfold momV;rw [if_neg (by simpa using h0),if_pos (.inr h2)])
    have d2:decide (8 < n)=true:=decide_eq_true h2
    clear K0 K1 K2 hpx hqx hp hq sp sq hr h0 hcells hcells' h1 h2 ha
    go_enter Tryz.func48,Tryz.ntmps48
    go_wp2_with (go_at_call 112;refine (HC.out).mono ?_;rintro e w1 ⟨rfl,hb⟩;have N1:=Lib.hid (N0.out.later hb);clear hb;obtain ⟨f0,fl⟩:=B1.out _ N1.out;obtain ⟨v0,vl⟩:=B0.out _ N1.out)
    go_ret3
    rw [HR.out]
    exact ⟨rfl,HX.out.below.trans (N1.out.below.mono HX.out.below.size)⟩
   ·have d2:decide (8 < n)=false:=decide_eq_false h2
    have HR0:=Lib.hid (show momV p q n=if inX p q=false then .tuple #[.string ⟨#[]⟩,.bool false,.int .i64 0] else resF (foldX (powsX n q) zT p) by unfold momV;rw [if_neg (by simpa using h0),if_neg (by omega)])
    have HWI:=Lib.hid (fun W (hW:NW _ W)=>dwithin_any p q _ _ W (hpx.below hW.below) (hqx.below hW.below) ha hW.res)
    cases hi:inX p q with
    | false =>
     have HR:=Lib.hid (show momV p q n=.tuple #[.string ⟨#[]⟩,.bool false,.int .i64 0] by rw [HR0.out,if_pos hi])
     rw [hi] at HWI
     clear K0 K1 K2 hpx hqx hp hq sp sq hr h0 hcells hcells' h1 h2 ha hi
     go_enter Tryz.func48,Tryz.ntmps48
     go_wp2_with (first
      | (go_at_call 112;refine (HC.out).mono ?_;rintro e w1 ⟨rfl,hb⟩;have N1:=Lib.hid (N0.out.later hb);clear hb;obtain ⟨f0,fl⟩:=B1.out _ N1.out;obtain ⟨v0,vl⟩:=B0.out _ N1.out)
      | (go_at_call 132;refine (HWI.out _ N1.out).mono ?_;rintro e w2 ⟨rfl,hb⟩;have N2:=Lib.hid (N1.out.later hb);clear hb))
     go_ret3
     rw [HR.out]
     exact ⟨rfl,HX.out.below.trans (N2.out.below.mono HX.out.below.size)⟩
    | true =>
     have HR:=Lib.hid (show momV p q n=resF (foldX (powsX n q) zT p) by rw [HR0.out,if_neg (by rw [hi];decide)])
     rw [hi] at HWI
     have HFD:=Lib.hid (fun W (hW:NW _ W) =>
      dfold_any 134 #[.pointer (some ⟨w.heap.size,0,none⟩),.pointer (some ⟨w.heap.size+1,0,none⟩)] runs_moment1 (powsX n q) p _ W (hpx.below hW.below) hW.res (fun x n h=>powsX_ne h) (fun x hx s h=>powsX_fine h)
       (fun k x hx W2 hW2 hr2=>moment1_any x k _ _ q _ n W2 ((K0.below hW.below K0.lt).below hW2 (K0.below hW.below K0.lt).lt) ((K1.below hW.below K1.lt).below hW2 (K1.below hW.below K1.lt).lt) ((hqx.below hW.below).below hW2) ha sq (by omega) (by omega) (sp x (List.mem_of_getElem? hx)).2 hr2))
     cases hf:foldX (powsX n q) zT p with
     | error z =>
      rw [hf] at HFD HR
      change Hid (∀ W,_→Calls _ _ _ _ fun e w'=>e=.returned (.tuple #[.string ⟨#[]⟩,.int .i64 (z:Int)])∧_) at HFD
      have hm:=ne_zero (foldX_ne (fun x m h=>powsX_ne h) hf)
      clear K0 K1 K2 hpx hqx hp hq sp sq hr h0 hcells hcells' h1 h2 ha hi hf
      go_enter Tryz.func48,Tryz.ntmps48
      go_wp2_with (first
       | (go_at_call 112;refine (HC.out).mono ?_;rintro e w1 ⟨rfl,hb⟩;have N1:=Lib.hid (N0.out.later hb);clear hb;obtain ⟨f0,fl⟩:=B1.out _ N1.out;obtain ⟨v0,vl⟩:=B0.out _ N1.out)
       | (go_at_call 132;refine (HWI.out _ N1.out).mono ?_;rintro e w2 ⟨rfl,hb⟩;have N2:=Lib.hid (N1.out.later hb);clear hb)
       | (go_at_call 122;refine (HFD.out _ N2.out).mono ?_;rintro e w3 ⟨rfl,hb⟩;have N3:=Lib.hid (N2.out.later hb);clear hb))
      go_ret3
      rw [HR.out]
      exact ⟨rfl,HX.out.below.trans (N3.out.below.mono HX.out.below.size)⟩
     | ok s =>
      rw [hf] at HFD HR
      change Hid (∀ W,_→Calls _ _ _ _ fun e w'=>e=.returned (.tuple #[.string s,.int .i64 0])∧_) at HFD
      clear K0 K1 K2 hpx hqx hp hq sp sq hr h0 hcells hcells' h1 h2 ha hi hf
      go_enter Tryz.func48,Tryz.ntmps48
      go_wp2_with (first
       | (go_at_call 112;refine (HC.out).mono ?_;rintro e w1 ⟨rfl,hb⟩;have N1:=Lib.hid (N0.out.later hb);clear hb;obtain ⟨f0,fl⟩:=B1.out _ N1.out;obtain ⟨v0,vl⟩:=B0.out _ N1.out)
       | (go_at_call 132;refine (HWI.out _ N1.out).mono ?_;rintro e w2 ⟨rfl,hb⟩;have N2:=Lib.hid (N1.out.later hb);clear hb)
       | (go_at_call 122;refine (HFD.out _ N2.out).mono ?_;rintro e w3 ⟨rfl,hb⟩;have N3:=Lib.hid (N2.out.later hb);clear hb))
      go_ret3
      rw [HR.out]
      exact ⟨rfl,HX.out.below.trans (N3.out.below.mono HX.out.below.size)⟩
 ·have HR:=Lib.hid (show momV p q n=.tuple #[.string ⟨#[]⟩,.bool false,.int .i64 (chk2 p q:Int)] by unfold momV;rw [if_pos h0])
  have hm:=ne_zero h0
  clear K0 K1 K2 hpx hqx hp hq sp sq hr h0 hcells hcells'
  go_enter Tryz.func48,Tryz.ntmps48
  go_wp2_with (go_at_call 112;refine (HC.out).mono ?_;rintro e w1 ⟨rfl,hb⟩;have N1:=Lib.hid (N0.out.later hb);clear hb)
  go_ret3
  rw [HR.out]
  exact ⟨rfl,HX.out.below.trans (N1.out.below.mono HX.out.below.size)⟩
end Go.Proofs.YtigapglmipmbeaaGreatDoor
namespace Go.Proofs.YtigapglmipmbeaaGreatDoor
open Go.RowKit Go.Maps Go.Sort Go.Shelf
open Lim
attribute [local go_sem] Oper.semAt_some
theorem posL_err {x:L2} {l:List L2} (h:posE x.2≠0):posL (x::l)=posE x.2:=by unfold posL;rw [if_pos h]
theorem posL_go {x:L2} {l:List L2} (h:posE x.2=0):posL (x::l)=posL l:=by
 conv=>lhs;unfold posL
 rw [if_neg (by simpa using h)]
structure MapI (w:World) (mb:Nat) (ls:List L2) (k:Nat) (wr:World):Prop where
 nw:NW w wr
 hmb:w.heap.size≤mb
 st:∃ (A:DataW Unit) (a:List L2),wr.ownsMap Tryz.prog 9 (plainElem Tryz.prog 23) mb k A∧RelM A a∧collX [] ls=collX a (ls.drop k)∧a.length≤k∧Short a
theorem short_cons {x:L2} {l:List L2}:Short (x::l)↔(x.1.size≤270000∧x.2.size≤270000)∧Short l:=by
 unfold Short
 constructor
 ·intro h;exact ⟨h x (by simp),fun y hy=>h y (by simp [hy])⟩
 ·rintro ⟨h1,h2⟩ y hy
  rcases List.mem_cons.1 hy with rfl|hy
  ·exact h1
  ·exact h2 y hy
theorem Short.ins:∀ {a b:List L2} {x:L2},insX a x=.ok b→Short a→x.1.size≤270000∧x.2.size≤270000→Short b
 | [],b,x,h,_,hx=>by cases h;exact short_cons.2 ⟨hx,fun _ h=>by cases h⟩
 | y::l,b,x,h,ha,hx=>by
  obtain ⟨h1,h2⟩:=short_cons.1 ha
  unfold insX at h
  split at h
  ·split at h
   ·cases h
   ·rename_i m hm
    cases h
    exact short_cons.2 ⟨h1,Short.ins hm h2 hx⟩
  ·split at h
   ·split at h
    ·cases h
    ·rename_i s hs
     cases h
     exact short_cons.2 ⟨⟨h1.1,size_ok (plX_ok hs)⟩,h2⟩
   ·cases h
    exact short_cons.2 ⟨hx,ha⟩
theorem collX_cons (a:List L2) (x:L2) (l:List L2):collX a (x::l)=(match insX a x with|.error n=>.error n|.ok b=>collX b l):=rfl
theorem short_len {s:ByteArray} (h:s.size≤270000):s.size≤maxLen:=by unfold maxLen;omega
def ResM (base:Nat) (r:Except Nat (List L2)) (e:Ending) (w':World):Prop:=match r with
 | .error n=>e=.returned (.tuple #[.slice none 0 0,.int .i64 (n:Int)])
 | .ok out=>∃ u,e=.returned (.tuple #[u,.int .i64 0])∧OwnM base w' u out
theorem dmake_any (ls:List L2) (v:Value) (w:World) (hv:LRow w v ls) (hs:Short ls) (hr:Res w) :
  Calls Tryz.prog 25 #[v] w fun e w'=>ResM w.heap.size (makeX ls) e w'∧Below w.heap.size w w':=by
 have HV:=Lib.hid hv
 have HS:=Lib.hid hs
 obtain ⟨A,c,rfl,HLEN,hcells⟩:=hv
 have N0:=Lib.hid (NW.refl hr)
 have HRS:=Lib.hid hr
 have hmm:=@run_makeMap Tryz.prog
 clear hr hcells hs
 generalize hm:makeX ls=mk
 have HMK:=Lib.hid hm
 clear hm
 go_enter Tryz.func25,Tryz.ntmps25
 go_wp2
 go_loopw [21] (fun v21 wr=>∃ k:Nat,k≤ls.length∧v21=.int .i64 (k:Int)∧Hid (posL ls=posL (ls.drop k))∧Hid (NW w wr)) (fun v21 _=>ls.length - (intOf v21).toNat)
 case atStart=>exact ⟨0,Nat.zero_le _,rfl,Lib.hid (by simp),N0⟩
 case round =>
  clear N0
  obtain ⟨k,hk,rfl,HE,HN⟩:=hrel
  by_cases hlt:k < ls.length
  ·obtain ⟨x,hx⟩:∃ x,ls[k]?=some x:=⟨_,List.getElem?_eq_getElem hlt⟩
   obtain ⟨b,o,c',e',hb2,c0,c1⟩:=HV.out.at HN.out.below hx
   simp only [Value.slice.injEq,true_and] at e'
   obtain ⟨rfl,rfl⟩:=e'
   have hlt':(k:Int) < (ls.length:Int):=by omega
   have HX:=Lib.hid (HN.out.alloc (.cells #[.string x.1,.string x.2] 30))
   have HP:=Lib.hid (positive_any (HS.out x (List.mem_of_getElem? hx)).2)
   have HD:=Lib.hid (drop_of hx)
   have HLT:=Lib.hid (And.intro hlt hlt')
   obtain ⟨f,d⟩:=x
   dsimp only at c0 c1 HX HP HD
   clear hx hlt
   by_cases h1:posE d=0
   ·have HR:=Lib.hid (show posL ls=posL (ls.drop (k+1)) by rw [HE.out,HD.out];exact posL_go (x:=(f,d)) h1)
    rw [h1] at HP
    change Hid (Ret _ _ (.tuple #[.bool (posB d),.int .i64 0])) at HP
    clear h1
    go_wp2_with (go_at_call 106;refine (HP.out _ HX.out.res).mono ?_;rintro e w3 ⟨rfl,hb⟩;have H3:=Lib.hid (HX.out.later hb);clear hb)
    go_roundw
    case rel=>exact ⟨k+1,HLT.out.1,by go_num,HR,H3⟩
    case measure=>have:=HLT.out.1;simp [intOf];omega
   ·have HR:=Lib.hid (show mk=.error (posE d) by
     have h2:posL ls=posE d:=by rw [HE.out,HD.out];exact posL_err (x:=(f,d)) h1
     rw [← HMK.out]
     unfold makeX
     rw [if_pos (by rw [h2];exact h1),h2])
    have hm:=ne_zero h1
    clear h1
    go_wp2_with (go_at_call 106;refine (HP.out _ HX.out.res).mono ?_;rintro e w3 ⟨rfl,hb⟩;have H3:=Lib.hid (HX.out.later hb);clear hb)
    go_ret2
    rw [HR.out]
    exact ⟨rfl,H3.out.below⟩
  ·have hlt':¬ (k:Int) < (ls.length:Int):=by omega
   obtain rfl:k=ls.length:=by omega
   have HMK2:=Lib.hid (show mk=(match collX [] ls with|.error n=>.error n|.ok a=>doneX a) by
    have h0:posL ls=0:=by
     have:=HE.out
     rw [List.drop_length] at this
     exact this
    rw [← HMK.out]
    unfold makeX
    rw [if_neg (by simpa using h0)]
    rfl)
   clear hlt HMK HE
   obtain ⟨wo,rfl⟩:∃ wo,wo=wr:=⟨_,rfl⟩
   go_wp2
   go_loopw [38] (fun v38 wq=>∃ k:Nat,k≤ls.length∧v38=.int .i64 (k:Int)∧Hid (MapI w wo.heap.size ls k wq)) (fun v38 _=>ls.length - (intOf v38).toNat)
   case atStart=>exact ⟨0,Nat.zero_le _,rfl,Lib.hid ⟨HN.out.later (below_alloc (Below.refl _ _) _),HN.out.below.size,.map [],[],World.ownsMap_made _ _ _ _,RelM.nil,by simp,Nat.zero_le _,fun _ h=>by cases h⟩⟩
   case round =>
    have HN0:=Lib.hid HN.out.below.size
    clear HN hlt' hmm
    obtain ⟨k,hk,rfl,HI⟩:=hrel
    obtain ⟨D,a,hown,hrel,hcoll,hal,hsa⟩:=HI.out.st
    by_cases hlt:k < ls.length
    ·obtain ⟨x,hx⟩:∃ x,ls[k]?=some x:=⟨_,List.getElem?_eq_getElem hlt⟩
     obtain ⟨b,o,c',e',hb2,c0,c1⟩:=HV.out.at HI.out.nw.below hx
     simp only [Value.slice.injEq,true_and] at e'
     obtain ⟨rfl,rfl⟩:=e'
     have hlt':(k:Int) < (ls.length:Int):=by omega
     have HX:=Lib.hid (HI.out.nw.alloc (.cells #[.string x.1,.string x.2] 30))
     have hsx:=HS.out x (List.mem_of_getElem? hx)
     have hkey:=keyOfK (short_len hsx.1)
     have HCO:=Lib.hid (show collX [] ls=(match insX a x with|.error n=>.error n|.ok b=>collX b (ls.drop (k+1))) by rw [hcoll,drop_of hx];rfl)
     have HLT:=Lib.hid (And.intro hlt hlt')
     have hown2:=hown.alloc (.cells #[.string x.1,.string x.2] 30)
     have HMB:=Lib.hid (Blk.new wr 30 #[.string x.1,.string x.2])
     have hml:wo.heap.size < wr.heap.size:=hown.lt
     have hnm:k < maxLen:=by unfold maxLen;omega
     have HAL:=Lib.hid hal
     have him:=hown.isMap
     cases hh:hasT a x.1 with
     | false =>
      obtain ⟨b',eb,hbl,hrel'⟩:=hrel.fresh him hh
      have HB:=Lib.hid (show collX [] ls=collX b' (ls.drop (k+1)) by rw [HCO.out,eb])
      have HRL:=Lib.hid (And.intro hrel' (And.intro hbl (Short.ins eb hsa hsx)))
      have hhas:=(hrel.has x.1).trans hh
      have hlook:=lookS_ok (s:=⟨#[]⟩) hown2 (short_len hsx.1) (atKey_of_not_has hhas _) hhas
      have hvs:=short_len hsx.2
      obtain ⟨f,d⟩:=x
      dsimp only at c0 c1 HX hkey hown2 HMB HRL hlook hvs
      clear hx hlt hown hrel hcoll hal hsa hsx eb hbl hrel' HCO him hh hhas
      go_wp2_with (first
       | (at_mapUpdate;refine wpList_mapUpdate_own _ rfl _ _ _ 129 rfl 9 23 lawK Tryz.underlying129 (plainElem Tryz.prog 23) wo.heap.size k D rfl hown2 hnm _ _ _ rfl rfl hkey _ [] (plainElem_string Tryz.underlying23 hvs) ?_;intro w1 hown1 hgrow1;have HO1:=Lib.hid (And.intro hown1 hgrow1);clear hown1 hgrow1))
      go_roundw
      case rel=>exact ⟨k+1,HLT.out.1,by go_num,Lib.hid ⟨grow_nw HX.out HRS.out HO1.out.2 (fun r e=>by cases e;exact HN0.out),HN0.out,_,_,HO1.out.1,HRL.out.1,HB.out,by rw [HRL.out.2.1];have:=HAL.out;omega,HRL.out.2.2⟩⟩
      case measure=>have:=HLT.out.1;simp [intOf];omega
     | true =>
      have hhas:=(hrel.has x.1).trans hh
      have hlook:=lookS_ok hown2 (short_len hsx.1) (hrel.text x.1 hh) hhas
      have hat:(atT a x.1).size≤270000:=Short.atT hsa
      have HAD:=Lib.hid (retPlX hat hsx.2)
      have hio:=ins_old hrel.asc hh
      have HFX:=Lib.hid (fun W (hW:NW w W)=>hW.below)
      cases ha:plX (atT a x.1) x.2 with
      | error n =>
       rw [ha] at HAD hio
       have HR:=Lib.hid (show mk=.error n by rw [HMK2.out,HCO.out,hio])
       change Hid (Ret _ _ (.tuple #[.string ⟨#[]⟩,.int .i64 (n:Int)])) at HAD
       have hm:=ne_zero (exQ_err ha)
       obtain ⟨f,d⟩:=x
       dsimp only at c0 c1 HX hkey hown2 HMB hlook HAD
       clear hx hlt hown hrel hcoll hal hsa hsx HCO him hh hio ha hat hhas
       go_wp2_with (first
        | (go_at_call 107;refine (HAD.out _ HX.out.res).mono ?_;rintro e w3 ⟨rfl,hb⟩;have H3:=Lib.hid (HX.out.later hb);clear hb))
       go_ret2
       rw [HR.out]
       exact ⟨rfl,H3.out.below⟩
      | ok s =>
       rw [ha] at HAD hio
       have HB:=Lib.hid (show collX [] ls=collX (setT a x.1 s) (ls.drop (k+1)) by rw [HCO.out,hio])
       have HRL:=Lib.hid (And.intro (hrel.over (s:=s) him hh) (Short.ins hio hsa hsx))
       change Hid (Ret _ _ (.tuple #[.string s,.int .i64 0])) at HAD
       have hvs:=short_len (size_ok (plX_ok ha))
       obtain ⟨f,d⟩:=x
       dsimp only at c0 c1 HX hkey hown2 HMB hlook HAD HRL
       clear hx hlt hown hrel hcoll hal hsa hsx HCO him hh hio ha hat hhas
       go_wp2_with (first
        | (go_at_call 107;refine (HAD.out _ HX.out.res).mono ?_;rintro e w3 ⟨rfl,hb⟩;have H3:=Lib.hid (HX.out.later hb);have hown3:=hown2.kept (grown_none' hb none) (by simp);obtain ⟨q0,q1⟩:=cells2 (HMB.out.below hb HMB.out.lt);have ql:=(HMB.out.below hb HMB.out.lt).lt;clear hb hown2)
        | (at_mapUpdate;refine wpList_mapUpdate_own _ rfl _ _ _ 129 rfl 9 23 lawK Tryz.underlying129 (plainElem Tryz.prog 23) wo.heap.size k D rfl hown3 hnm _ _ _ rfl rfl hkey _ [] (plainElem_string Tryz.underlying23 hvs) ?_;intro w1 hown1 hgrow1;have HO1:=Lib.hid (And.intro hown1 hgrow1);clear hown1 hgrow1))
       go_roundw
       case rel=>exact ⟨k+1,HLT.out.1,by go_num,Lib.hid ⟨grow_nw H3.out HRS.out HO1.out.2 (fun r e=>by cases e;exact HN0.out),HN0.out,_,_,HO1.out.1,HRL.out.1,HB.out,by unfold setT;rw [List.length_map];have:=HAL.out;omega,HRL.out.2⟩⟩
       case measure=>have:=HLT.out.1;simp [intOf];omega
    ·have hlt':¬ (k:Int) < (ls.length:Int):=by omega
     obtain rfl:k=ls.length:=by omega
     rw [List.drop_length] at hcoll
     have HMK3:=Lib.hid (show mk=doneX a by rw [HMK2.out,hcoll];rfl)
     have HNQ:=Lib.hid HI.out.nw
     have HSA:=Lib.hid (And.intro hsa hrel)
     have hal2:a.length≤1000:=by omega
     have HK:=Lib.hid (keysN wo.heap.size ls.length D a wr hown hrel (by omega))
     have HKW:=Lib.hid (mapsKeysN (some wo.heap.size) wr)
     have HOW:=Lib.hid hown
     clear hlt HI HMK2 hcoll hown hrel hsa
     obtain ⟨wm,rfl⟩:∃ wm,wm=wr:=⟨_,rfl⟩
     go_wp2_with (first
      | (go_at_call 109;refine HKW.out.mono ?_;rintro e w3 ⟨rfl,hw3⟩;subst hw3)
      | (go_at_call 108;refine HK.out.mono ?_;rintro e w4 ⟨vk,rfl,hrow,hb⟩;obtain ⟨Ak,ck,rfl⟩:=slice_of_owns hrow;have HW4:=Lib.hid (And.intro hrow hb);clear hrow hb))
     have HB4:=Lib.hid (show Below wm.heap.size wm w4 from (below_alloc (Below.refl wm.heap.size wm) _).trans (HW4.out.2.mono (Nat.le_succ _)))
     have HN4:=Lib.hid (HNQ.out.later HB4.out)
     have HO4:=Lib.hid (HOW.out.kept (grown_none' HB4.out none) (by simp))
     have HR4:=Lib.hid (row_of_owns HW4.out.1).2.2.2
     have HL4:=Lib.hid HO4.out.lt
     clear HK HKW HW4 HOW HNQ HN0
     go_loopw [15,75] (fun v15 v75 wr=>∃ (k:Nat) (A0:Option Addr) (cc:Nat),k≤a.length∧v75=.int .i64 (k:Int)∧v15=.slice A0 (keepX (a.take k)).length cc∧Hid (OwnM w4.heap.size wr (.slice A0 (keepX (a.take k)).length cc) (keepX (a.take k)))∧Hid (Below w4.heap.size w4 wr)) (fun _ v75 _=>a.length - (intOf v75).toNat)
     case atStart=>exact ⟨0,none,0,Nat.zero_le _,rfl,rfl,Lib.hid (OwnM.nil _ _),Lib.hid (Below.refl _ _)⟩
     case round =>
      obtain ⟨k,A0,cc,hk,rfl,rfl,HO,HB⟩:=hrel
      by_cases hlt:k < a.length
      ·obtain ⟨x,hx⟩:∃ x,a[k]?=some x:=⟨_,List.getElem?_eq_getElem hlt⟩
       obtain ⟨bk,ok,rfl,hbk,hck⟩:=HR4.out (by rw [List.length_map];omega)
       have c0:=hck k (.string x.1) (by rw [List.getElem?_map,hx];rfl)
       rw [← HB.out.cell (p:=⟨bk,ok+k,none⟩) hbk] at c0
       have hbk2:bk < wr.heap.size:=Nat.lt_of_lt_of_le hbk HB.out.size
       have hlt':(k:Int) < (a.length:Int):=by omega
       have hxm:=List.mem_of_getElem? hx
       have hsx:=HSA.out.1 x hxm
       have hat:=atT_at (ascK_of HSA.out.2.asc) ltK_irr hx rfl
       have hown:=HO4.out.kept (grown_none' HB.out none) (by simp)
       have hlook:=lookS hown (short_len hsx.1) (HSA.out.2.text x.1 hat.2)
       rw [hat.1] at hlook
       have TE:=eq_bytes x.2 zT
       rw [zT_list] at TE
       have HLT:=Lib.hid (And.intro hlt hlt')
       have HTK:=Lib.hid (show keepX (a.take (k+1))=keepX (a.take k)++keepX [x] by
        unfold keepX
        rw [List.take_add_one,hx,List.filter_append]
        rfl)
       have hkl:(keepX (a.take k)).length≤1000:=by
        have h1:=List.length_filter_le (fun x:L2=>decide (x.2≠zT)) (a.take k)
        have h2:(a.take k).length≤a.length:=by rw [List.length_take];omega
        unfold keepX
        omega
       by_cases hz:x.2=zT
       ·rw [decide_eq_true hz] at TE
        have HE:=Lib.hid (show keepX (a.take (k+1))=keepX (a.take k) by
         rw [HTK.out]
         unfold keepX
         rw [List.filter_cons_of_neg (by simpa using hz),List.filter_nil,List.append_nil])
        obtain ⟨f,d⟩:=x
        dsimp only at c0 hlook TE
        clear hlt hx hck hbk hxm hsx hat hz HTK
        go_wp2
        go_roundw
        case rel=>exact ⟨k+1,A0,cc,HLT.out.1,by go_num,by rw [HE.out],by rw [HE.out];exact HO,HB⟩
        case measure=>have:=HLT.out.1;simp [intOf];omega
       ·rw [decide_eq_false hz] at TE
        have HE:=Lib.hid (show keepX (a.take (k+1))=keepX (a.take k)++[x] by
         rw [HTK.out]
         unfold keepX
         rw [List.filter_cons_of_pos (by simpa using hz),List.filter_nil])
        have hw4:w4.heap.size≤wr.heap.size:=HB.out.size
        have HOL:=Lib.hid (show (wr.alloc (.cells #[.string x.1,.string x.2] 30)).ownsRow w4.heap.size 30 2 (.slice A0 (keepX (a.take k)).length cc) (keepX (a.take k)).length (cellsM (keepX (a.take k))) from HO.out.later (below_alloc (Below.refl _ _) _))
        obtain ⟨i0,hi,hz0,hz1,hz2⟩:=info_parts infoM
        obtain ⟨f,d⟩:=x
        dsimp only at c0 hlook TE HOL
        clear hlt hx hck hbk hxm hsx hat hz HTK
        generalize hkk:(keepX (a.take k)).length=kk at *
        go_wp2_with (at_builtin;refine wpList_append_own _ rfl _ _ 31 rfl w4.heap.size 30 i0 (.agg #[.string ByteArray.empty,.string ByteArray.empty]) 2 32 Tryz.underlying31 hi hz0 hz1 hz2 rfl (by decide) _ _ _ rfl HOL.out ⟨wr.heap.size,0,none⟩ 1 1 [.string f,.string d] rfl rfl (cell_two_new _ _ _ _) (by simp [Value.oneCell']) (by unfold maxLen;omega) (by omega) (by simp;omega) ?_;intro v' w5 hown' hgrow _;obtain ⟨A5,c5,rfl⟩:=slice_shape hown';have HO5:=Lib.hid (And.intro hown' hgrow);clear hown' hgrow)
        go_roundw
        case rel =>
         have e1:(keepX (a.take (k+1))).length=kk+1:=by rw [HE.out,List.length_append,hkk];rfl
         refine ⟨k+1,A5,c5,HLT.out.1,by go_num,by rw [e1],Lib.hid ?_,Lib.hid ?_⟩
         ·unfold OwnM
          rw [e1,HE.out,← cellsM_snoc]
          exact HO5.out.1
         ·exact (HB.out.trans ((below_alloc (Below.refl _ _) _).mono HB.out.size)).grown HO5.out.2 (by simp;omega) (fun r e=>(HOL.out.lt r e).1)
        case measure=>have:=HLT.out.1;simp [intOf];omega
      ·have hlt':¬ (k:Int) < (a.length:Int):=by omega
       obtain rfl:k=a.length:=by omega
       rw [List.take_length] at HO ⊢
       have hkl:(keepX a).length≤1000:=Nat.le_trans (List.length_filter_le _ _) (by omega)
       have HNZ:=Lib.hid (HN4.out.later (show Below w4.heap.size w4 wr from HB.out))
       have hsk:Short (keepX a):=fun x hx=>HSA.out.1 x (List.mem_filter.1 hx).1
       have HCK:=Lib.hid (dcheck_any (keepX a) _ wr (HO.out.row hkl) hsk HNZ.out.res)
       have HOB:=Lib.hid (show ∀ W,Below wr.heap.size wr W→OwnM w.heap.size W (.slice A0 (keepX a).length cc) (keepX a) from fun W hW=>by
        have h1:=HO.out.later hW
        exact owns_base h1 HN4.out.below.size)
       clear hlt hsk hkl
       by_cases h0:chkD (keepX a)=0
       ·have HR:=Lib.hid (show mk=.ok (keepX a) by rw [HMK3.out];unfold doneX;rw [if_neg (by simpa using h0)])
        rw [h0] at HCK
        change Hid (Calls _ _ _ _ fun e w'=>e=.returned (.int .i64 0)∧_) at HCK
        clear h0
        go_wp2_with (go_at_call 36;refine HCK.out.mono ?_;rintro e w6 ⟨rfl,hb⟩;have H6:=Lib.hid (And.intro hb (HNZ.out.later hb));clear hb)
        go_ret2
        rw [HR.out]
        exact ⟨⟨_,rfl,HOB.out _ H6.out.1⟩,H6.out.2.below⟩
       ·have HR:=Lib.hid (show mk=.error (chkD (keepX a)) by rw [HMK3.out];unfold doneX;rw [if_pos h0])
        have hm:=ne_zero h0
        clear h0
        go_wp2_with (go_at_call 36;refine HCK.out.mono ?_;rintro e w6 ⟨rfl,hb⟩;have H6:=Lib.hid (HNZ.out.later hb);clear hb)
        go_ret2
        rw [HR.out]
        exact ⟨rfl,H6.out.below⟩
end Go.Proofs.YtigapglmipmbeaaGreatDoor
namespace Go.Proofs.YtigapglmipmbeaaGreatDoor
open Go.RowKit Go.Shelf
open Lim
theorem insX_ne:∀ {a:List L2} {x:L2} {n:Nat},insX a x=.error n→n≠0
 | [],x,n,h=>by cases h
 | y::l,x,n,h=>by
  unfold insX at h
  split at h
  ·split at h
   ·rename_i m hm;cases h;exact insX_ne hm
   ·cases h
  ·split at h
   ·split at h
    ·rename_i m hm;cases h;exact exQ_err hm
    ·cases h
   ·cases h
theorem collX_ne:∀ {l a:List L2} {n:Nat},collX a l=.error n→n≠0
 | [],a,n,h=>by cases h
 | x::l,a,n,h=>by
  unfold collX at h
  split at h
  ·rename_i m hm;cases h;exact insX_ne hm
  ·exact collX_ne h
theorem insX_len:∀ {a b:List L2} {x:L2},insX a x=.ok b→b.length≤a.length+1
 | [],b,x,h=>by cases h;simp
 | y::l,b,x,h=>by
  unfold insX at h
  split at h
  ·split at h
   ·cases h
   ·rename_i m hm;cases h;have:=insX_len hm;simp;omega
  ·split at h
   ·split at h
    ·cases h
    ·cases h;simp
   ·cases h;simp
theorem collX_len:∀ {l a b:List L2},collX a l=.ok b→b.length≤a.length+l.length
 | [],a,b,h=>by cases h;simp
 | x::l,a,b,h=>by
  unfold collX at h
  split at h
  ·cases h
  ·rename_i m hm
   have h1:=insX_len hm
   have h2:=collX_len h
   simp
   omega
theorem make_len {l d:List L2} (h:makeX l=.ok d) (hl:l.length≤1000):d.length≤1000:=by
 unfold makeX at h
 split at h
 ·cases h
 ·split at h
  ·cases h
  ·rename_i a ha
   have h1:=collX_len ha
   unfold doneX at h
   split at h
   ·cases h
   ·cases h
    have h2:=List.length_filter_le (fun x:L2=>decide (x.2≠zT)) a
    unfold keepX
    simp at h1
    omega
end Go.Proofs.YtigapglmipmbeaaGreatDoor
namespace Go.Proofs.YtigapglmipmbeaaGreatDoor
open Go.RowKit
structure LaterW (w:World) where
 W:World
 h:Below w.heap.size w W
instance (w:World):Nonempty (LaterW w):=⟨⟨w,Below.refl _ _⟩⟩
end Go.Proofs.YtigapglmipmbeaaGreatDoor
namespace Go.Proofs.YtigapglmipmbeaaGreatDoor
open Go.RowKit Go.Shelf
open Lim
def Src (w:World) (size:Nat) (sv:Value) (m:Nat) (news:List Value):Prop :=
 news.length=m*size∧((∃ c,sv=.slice none 0 c∧m=0)∨∃ ad c,sv=.slice (some ad) m c∧∀ j u,news[j]?=some u→w.cell? (ad.add j)=some u)
theorem run_append_empty {P:Program} (w:World) (base:Nat) (t ty e:TypeId) (i:TypeInfo) (size:Nat) (ht:P.underlying t=some (.slice e)) (hi:P.info? e=some i) (hsize:i.size=size)
  (v:Value) (n:Nat) (xs:List Value) (hown:w.ownsRow base e size v n xs) (c:Nat):(Builtin.append_ #[t,t] ty #[v,.slice none 0 c]).run P w=.ok v w:=by
 subst hsize
 rcases hown.2 with ⟨rfl,rfl⟩|⟨g,cap,cur,rfl,hbg,hg,hnc,hcm,hcs,htake⟩
 ·simp [Builtin.append_,run_underlying ht,sizeOf,typeInfo,hi,Builtin.lenOf,Builtin.firstCells]
 ·simp [Builtin.append_,run_underlying ht,sizeOf,typeInfo,hi,Builtin.lenOf,Builtin.firstCells,loadCells,hnc,storeCells]
theorem wpListIn_append_src {F:Fence} {n:Nat} {P:Program} (w:World) {ops:Array Oper} {rest:List Oper} {o:Oper} {a:Act} {Q:Exit→Act→World→Prop}
  (hg:o.guard=none) (s x:Operand) (t:TypeId) (hop:o.op=Op.call { callee:=Callee.builtin Builtin.append,args:=#[s,x],argTypes:=#[t,t] })
  (base:Nat) (e:TypeId) (i:TypeInfo) (z:Value) (size bytes:Nat) (h1:P.underlying t=some (.slice e)) (h2:P.info? e=some i) (h3:i.zero=some z) (h4:i.size=size) (h5:i.bytes=bytes) (h6:z.cells.size=size) (h7:0 < size)
  (v:Value) (k:Nat) (xs:List Value) (hs:a.eval s=v) (hown:w.ownsRow base e size v k xs) (sv:Value) (m:Nat) (news:List Value) (hx:a.eval x=sv) (hsrc:Src w size sv m news)
  (h1c:∀ u∈news,u.oneCell'=true) (b1:k+m≤maxLen) (b2:(k+m)*bytes≤140737488355328) (b3:base≤w.heap.size)
  (hK:∀ v' w',w'.ownsRow base e size v' (k+m) (xs++news)→w.grownBy w' v.ownBlock→wpListIn F n P ops Q rest (a.put o.dst v') w') :
  wpListIn F n P ops Q (o::rest) a w:=by
 rcases hsrc with ⟨hl,⟨c,rfl,rfl⟩|⟨ad,c,rfl,hc⟩⟩
 ·have hn:news=[]:=List.eq_nil_of_length_eq_zero (by simpa using hl)
  subst hn
  refine wpListIn_plain hg fun K hK'=>?_
  have hrun:=run_append_empty (P:=P) w base t o.type e i size h1 h2 h4 v k xs hown c
  unfold Oper.wpIn
  refine ⟨?_,?_⟩
  ·simp [Oper.about,hop,resolve,Target.leads,Sem.run_pure]
  ·rw [Oper.semAt_plain F _ _ (by rw [hop];intro c hc';cases hc')]
   simp [execOp,hop,resolve,invoke,builtin,hs,hx,hrun,Result.andThen]
   exact hK' _ _ (hK v w (by simpa using hown) ⟨rfl,rfl,rfl,Nat.le_refl _,fun _ _ _=>rfl⟩)
 ·exact wpListIn_append_own w hg s x t hop base e i z size bytes h1 h2 h3 h4 h5 h6 h7 v k xs hs hown ad m c news hx hl hc h1c b1 b2 b3 fun v' w' r1 r2 _=>hK v' w' r1 r2
theorem wpIn_region_later {F:Fence} {n:Nat} {P:Program} {id:Nat} {Q:Exit→Act→World→Prop} {a:Act} {w:World} {l:List Oper} (hro:F.round=none) (hm:P.follows .mixedOrders=true) (hB:Region.lexB .any l.toArray=true)
  (h:wpQuietIn F n P l.toArray (fun W=>∃ x:LaterW w,W=x.W) (fun a'=>∀ W,(∃ x:LaterW w,W=x.W)→Q .normal a' W) l a):(Code.region id l.toArray true).wpIn F n P Q a w :=
 wpIn_region_quiet (C:=fun W=>∃ x:LaterW w,W=x.W) hro hm hB ⟨⟨{ w with drawn:=w.drawn+1 },⟨rfl,rfl,rfl,Nat.le_refl _,fun _ _=>rfl⟩⟩,rfl⟩ (by simpa using h)
theorem wide_fn (f:FuncId):Fence.wide.fn f↔True:=iff_of_true trivial trivial
theorem LaterW.at {w:World} {b o:Nat} {u:Value} (hb:b < w.heap.size) (h:w.cell? ⟨b,o,none⟩=some u):∀ z:LaterW w,z.W.cell? ⟨b,o,none⟩=some u:=fun z=>(z.h.cell (p:=⟨b,o,none⟩) hb).trans h
theorem addr_add0 (g j i:Nat):((⟨g,j,none⟩:Addr).add i)=⟨g,j+i,none⟩:=by unfold Addr.add;split<;>simp_all
theorem cellsM_take:∀ (l:List L2) (k:Nat),cellsM (l.take k)=(cellsM l).take (k*2)
 | _,0=>by simp [cellsM]
 | [],k+1=>by simp [cellsM]
 | x::l,k+1=>by
  rw [List.take_succ_cons,cellsM_cons,cellsM_cons,show (k+1)*2=k*2+1+1 by omega,List.take_succ_cons,List.take_succ_cons,cellsM_take l k]
theorem cellsM_drop:∀ (l:List L2) (k:Nat),cellsM (l.drop k)=(cellsM l).drop (k*2)
 | _,0=>by simp
 | [],k+1=>by simp [cellsM]
 | x::l,k+1=>by
  rw [List.drop_succ_cons,cellsM_cons,show (k+1)*2=k*2+1+1 by omega,List.drop_succ_cons,List.drop_succ_cons,cellsM_drop l k]
theorem cellsM_set:∀ {l:List L2} {k:Nat} {y:L2} (s:ByteArray),l[k]?=some y→cellsM (l.set k (y.1,s))=(cellsM l).set (k*2+1) (.string s)
 | [],k,y,s,h=>by simp at h
 | x::l,0,y,s,h=>by
  simp only [List.getElem?_cons_zero,Option.some.injEq] at h
  subst h
  rfl
 | x::l,k+1,y,s,h=>by
  rw [List.set_cons_succ,cellsM_cons,cellsM_cons,cellsM_set s (by simpa using h),show (k+1)*2+1=k*2+1+1+1 by omega,List.set_cons_succ,List.set_cons_succ]
theorem one_cellsM (l:List L2):∀ u∈cellsM l,u.oneCell'=true:=fun u hu=>by
 unfold cellsM at hu
 obtain ⟨x,_,hx⟩:=List.mem_flatMap.1 hu
 simp only [List.mem_cons,List.not_mem_nil,or_false] at hx
 rcases hx with rfl|rfl<;>rfl
theorem one_pairM (x:L2):∀ u∈([.string x.1,.string x.2]:List Value),u.oneCell'=true:=fun u hu=>by
 simp only [List.mem_cons,List.not_mem_nil,or_false] at hu
 rcases hu with rfl|rfl<;>rfl
theorem cell_later' {w W:World} {g j:Nat} {u:Value} (hB:Below w.heap.size w W) (h:w.cell? ⟨g,j,none⟩=some u) (hg:g < w.heap.size):W.cell? ⟨g,j,none⟩=some u:=(hB.cell (p:=⟨g,j,none⟩) hg).trans h
theorem own_lt {base n cap g:Nat} {w:World} {l:List Value} {E:TypeId} {size:Nat} (h:w.ownsRow base E size (.slice (some ⟨g,0,none⟩) n cap) n l):g < w.heap.size:=(h.lt g rfl).2
theorem srcM_take {base g cap:Nat} {w W:World} {a:List L2} (h:OwnM base w (.slice (some ⟨g,0,none⟩) a.length cap) a) (hB:Below w.heap.size w W) {k c:Nat} (hk:k≤a.length) :
  Src W 2 (.slice (some ⟨g,0,none⟩) k c) k (cellsM (a.take k)):=by
 refine ⟨by rw [cellsM_length,List.length_take,Nat.min_eq_left hk],.inr ⟨_,_,rfl,fun j u hu=>?_⟩⟩
 rw [cellsM_take,List.getElem?_take] at hu
 split at hu
 ·have:=World.ownsRow.cells h (g:=g) rfl j u hu
  rw [addr_add0] at this ⊢
  exact cell_later' hB this (own_lt h)
 ·cases hu
theorem srcM_drop {base g cap:Nat} {w W:World} {a:List L2} (h:OwnM base w (.slice (some ⟨g,0,none⟩) a.length cap) a) (hB:Below w.heap.size w W) {k c:Nat} :
  Src W 2 (.slice (some ⟨g,k*2,none⟩) (a.length - k) c) (a.length - k) (cellsM (a.drop k)):=by
 refine ⟨by rw [cellsM_length,List.length_drop],.inr ⟨_,_,rfl,fun j u hu=>?_⟩⟩
 rw [cellsM_drop,List.getElem?_drop] at hu
 have:=World.ownsRow.cells h (g:=g) rfl _ u hu
 rw [addr_add0] at this ⊢
 have:=cell_later' hB this (own_lt h)
 rwa [Nat.zero_add] at this
theorem srcM_zero {W:World} {A:Option Addr} {c:Nat}:Src W 2 (.slice A 0 c) 0 []:=by
 refine ⟨rfl,?_⟩
 cases A with
 | none=>exact .inl ⟨c,rfl,rfl⟩
 | some a=>exact .inr ⟨a,c,rfl,fun j u h=>by simp at h⟩
theorem srcM_one {W:World} {B:Nat} {x:L2} (h:W.heap[B]?=some (.cells #[.string x.1,.string x.2] 30 (0,0))):Src W 2 (.slice (some ⟨B,0,none⟩) 1 1) 1 [.string x.1,.string x.2] :=
 ⟨rfl,.inr ⟨_,_,rfl,fun j u hu=>by
  match j with
  | 0=>rw [addr_add0];simp at hu;subst hu;simp [World.cell?,h]
  | 1=>rw [addr_add0];simp at hu;subst hu;simp [World.cell?,h]
  | j+2=>simp at hu⟩⟩
theorem two_old (w:World) (o1 o2:Obj):((w.alloc o1).alloc o2).heap[w.heap.size]?=some o1:=(heap_alloc_old (w.alloc o1) o2 (by simp)).trans (heap_alloc_new w o1)
theorem two_cur (w:World) (o1 o2:Obj):((w.alloc o1).alloc o2).heap[w.heap.size+1]?=some o2:=by
 have:=heap_alloc_new (w.alloc o1) o2
 simpa using this
theorem own_atM {W:World} {base b:Nat} (hb:base≤b) (h:W.heap[b]?=some (.cells #[] 30 (0,0))):W.ownsRow base 30 2 (.slice (some ⟨b,0,none⟩) 0 0) 0 [] :=
 ⟨rfl,.inr ⟨b,0,#[],rfl,hb,h,Nat.le_refl _,Nat.zero_le _,rfl,rfl⟩⟩
theorem grow_belowM {n size m:Nat} {w W W':World} {e:TypeId} {v:Value} {xs:List Value} (h:Below n w W) (hn:n≤W.heap.size) (ho:W.ownsRow n e size v m xs) (hg:W.grownBy W' v.ownBlock):Below n w W' :=
 ⟨hg.os.trans h.os,hg.tape.trans h.tape,hg.output.trans h.output,Nat.le_trans h.size hg.size,fun k hk=>(hg.block k (by omega) fun e=>by have:=(ho.lt k e.symm).1;omega).trans (h.block k hk)⟩
theorem below_drewM (w:World):Below w.heap.size w w.drew:=⟨rfl,rfl,rfl,Nat.le_refl _,fun _ _=>rfl⟩
structure CollI (w:World) (ls:List L2) (i:Nat) (W:World) (v:Value) (a:List L2):Prop where
 nw:NW w W
 own:OwnM w.heap.size W v a
 coll:collX [] ls=collX a (ls.drop i)
 len:a.length≤i
 short:Short a
theorem CollI.nil {w:World} {ls:List L2} (hr:Res w):CollI w ls 0 w (.slice none 0 0) []:=⟨NW.refl hr,OwnM.nil _ _,by simp,Nat.le_refl _,fun x h=>by cases h⟩
section
variable {w W W':World} {ls a:List L2} {i:Nat} {v:Value}
theorem CollI.later (h:CollI w ls i W v a) (hb:Below W.heap.size W W'):CollI w ls i W' v a:=⟨h.nw.later hb,h.own.later hb,h.coll,h.len,h.short⟩
theorem CollI.cap {A:Option Addr} {c:Nat} (h:CollI w ls i W (.slice A a.length c) a):(A=none∧c=0∧a=[])∨∃ g,A=some ⟨g,0,none⟩∧a.length≤c∧c≤9223372036854775807:=by
 rcases h.own.2 with ⟨e,h0⟩|⟨g,c',cur,e,_,_,h1,h2,_⟩
 ·simp only [Value.slice.injEq] at e;exact .inl ⟨e.1,e.2.2,List.eq_nil_of_length_eq_zero h0⟩
 ·simp only [Value.slice.injEq] at e;unfold maxLen at h2;exact .inr ⟨g,e.1,by omega,by omega⟩
theorem CollI.at {A:Option Addr} {c k:Nat} {y:L2} (h:CollI w ls i W (.slice A a.length c) a) (hy:a[k]?=some y):∃ g,A=some ⟨g,0,none⟩∧g < W.heap.size∧W.cell? ⟨g,k*2,none⟩=some (.string y.1)∧W.cell? ⟨g,k*2+1,none⟩=some (.string y.2):=by
 have hk:=(List.getElem?_eq_some_iff.1 hy).1
 rcases h.cap with ⟨_,_,rfl⟩|⟨g,rfl,_⟩
 ·simp at hk
 ·obtain ⟨c0,c1⟩:=cellsM_at hy
  have r0:=World.ownsRow.cells h.own (g:=g) rfl _ _ c0
  have r1:=World.ownsRow.cells h.own (g:=g) rfl _ _ c1
  rw [addr_add0,Nat.zero_add] at r0 r1
  exact ⟨g,rfl,own_lt h.own,r0,r1⟩
theorem CollI.new {W5:World} {v3:Value} {x:L2} {k:Nat} (h:CollI w ls i W v a) (hx:ls[i]?=some x) (hins:insX a x=.ok (a.take k++x::a.drop k)) (hk:k≤a.length) (hsx:x.1.size≤270000∧x.2.size≤270000)
  (hB:Below W.heap.size W W5) (hown:W5.ownsRow W.heap.size 30 2 v3 (k+1+(a.length - k)) (cellsM (a.take k)++[.string x.1,.string x.2]++cellsM (a.drop k))) :
  CollI w ls (i+1) W5 v3 (a.take k++x::a.drop k):=by
 have e:(a.take k++x::a.drop k).length=k+1+(a.length - k):=by simp;omega
 refine ⟨h.nw.later hB,?_,?_,?_,?_⟩
 ·refine owns_base (base:=W.heap.size) ?_ h.nw.below.size
  rw [e,cellsM_append,cellsM_cons]
  simpa using hown
 ·rw [h.coll,drop_of hx,collX_step _ _ _ hins]
 ·rw [e];have:=h.len;omega
 ·exact Short.ins hins h.short hsx
theorem CollI.set {g c k:Nat} {x y:L2} {s:ByteArray} (hr:Res w) (h:CollI w ls i W (.slice (some ⟨g,0,none⟩) a.length c) a) (hx:ls[i]?=some x) (hy:a[k]?=some y) (hins:insX a x=.ok (a.set k (y.1,s))) (hsx:x.1.size≤270000∧x.2.size≤270000) :
  CollI w ls (i+1) (W.setCell ⟨g,k*2+1,none⟩ (.string s)) (.slice (some ⟨g,0,none⟩) a.length c) (a.set k (y.1,s)):=by
 obtain ⟨r1,r2⟩:=World.ownsRow.stored h.own (k*2+1) (.string s)
 have hg:=(h.own.lt g rfl).1
 refine ⟨grow_nw h.nw hr r2 (fun r e=>by cases e;exact hg),?_,?_,?_,?_⟩
 ·unfold OwnM
  rw [List.length_set,cellsM_set s hy]
  exact r1
 ·rw [h.coll,drop_of hx,collX_step _ _ _ hins]
 ·rw [List.length_set];have:=h.len;omega
 ·exact Short.ins hins h.short hsx
end
end Go.Proofs.YtigapglmipmbeaaGreatDoor
