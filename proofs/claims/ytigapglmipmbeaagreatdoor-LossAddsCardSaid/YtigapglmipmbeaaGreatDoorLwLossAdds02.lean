/- dist: find and At, by the library's searches. dist: find, At, within. dist: Delta, Distance, Factor, Moment (printed by mkmeas.py). dist: Make. made, as a walk (printed by mkdmade.py). A region that draws its order and only reads and calls what lays blocks of its own: one walk. Appending a slice that is read to a slice of the call's own; what the reference's collect keeps. (printed by mkstage2.py) Regions that draw their order, in stages; a slot may be read by a read and written by one of the others that waits for it: reads (guarded or not) may come as soon as their edges allow, also behind some of the others; the others come in any order that their edges allow. -/
import Derived.Test.YtigapglmipmbeaaGreatDoorLwLossAdds01
import Derived.Test.YtigapglmipmbeaaGreatDoorRb01
import Derived.BigQuiet
import Derived.Below
import Derived.OwnWalkIn
import Derived.Sort.BigQuietIn
import Derived.Sort.QuietIn
import Derived.Test.YtigapglmipmbeaaGreatDoorRb03
set_option maxRecDepth 100000
set_option maxHeartbeats 16000000
namespace Go.Proofs.YtigapglmipmbeaaGreatDoor
open Go.RowKit Go.Shelf
open Lim
attribute [local go_sem] Oper.semAt_some
theorem isNaN_any (a:ByteArray) (w:World):Calls Tryz.prog 259 #[.string a] w fun e w'=>e=.returned (.bool false)∧w'=w:=by
 have TE:(a.toList==a.toList)=true:=beq_self_eq_true _
 go_enter Tryz.func259,Tryz.ntmps259
 go_wp2
 go_ret
 exact ⟨rfl,rfl⟩
def cmpK (a b:ByteArray):Int:=if ltK a b=true then -1 else if a=b then 0 else 1
theorem compareS_any (a b:ByteArray) (w:World):Calls Tryz.prog 204 #[.string a,.string b] w fun e w'=>e=.returned (.int .i64 (cmpK a b))∧w'=w:=by
 have TL:=lt_bytes a b
 have TE:=eq_bytes a b
 have TK:True:=trivial
 cases h1:ltK a b with
 | true =>
  have HR:=Lib.hid (show cmpK a b=-1 from if_pos h1)
  rw [h1] at TL
  clear TE h1
  go_enter Tryz.func204,Tryz.ntmps204
  go_wp2_with (go_at_call 259;refine (isNaN_any _ _).mono ?_;rintro e w1 ⟨rfl,rfl⟩)
  go_ret
  rw [HR.out]
  exact ⟨rfl,rfl⟩
 | false =>
  rw [h1] at TL
  by_cases h2:a=b
  ·have HR:=Lib.hid (show cmpK a b=0 by unfold cmpK;rw [if_neg (by rw [h1];decide),if_pos h2])
   rw [decide_eq_true h2] at TE
   clear h1 h2
   go_enter Tryz.func204,Tryz.ntmps204
   go_wp2_with (go_at_call 259;refine (isNaN_any _ _).mono ?_;rintro e w1 ⟨rfl,rfl⟩)
   go_ret
   rw [HR.out]
   exact ⟨rfl,rfl⟩
  ·have HR:=Lib.hid (show cmpK a b=1 by unfold cmpK;rw [if_neg (by rw [h1];decide),if_neg h2])
   rw [decide_eq_false h2] at TE
   clear h1 h2
   go_enter Tryz.func204,Tryz.ntmps204
   go_wp2_with (go_at_call 259;refine (isNaN_any _ _).mono ?_;rintro e w1 ⟨rfl,rfl⟩)
   go_ret
   rw [HR.out]
   exact ⟨rfl,rfl⟩
theorem find1_any (x:L2) (k:ByteArray) (w:World):Calls Tryz.prog 203 #[.agg #[.string x.1,.string x.2],.string k] w fun e w'=>e=.returned (.int .i64 (cmpK x.1 k))∧Below w.heap.size w w':=by
 have H:=Lib.hid (below_alloc (Below.refl w.heap.size w) (.cells #[.string x.1,.string x.2] 30))
 go_enter Tryz.func203,Tryz.ntmps203
 go_wp2_with (go_at_call 204;refine (compareS_any _ _ _).mono ?_;rintro e w1 ⟨rfl,rfl⟩)
 go_ret
 exact ⟨rfl,H.out⟩
theorem runs_find1:Runs 203:=runs_of Tryz.func203 (by kernel_rfl) (by kernel_rfl)
theorem cmpK_lt (a b:ByteArray):cmpK a b < 0↔ltK a b=true:=by
 unfold cmpK
 split
 ·rename_i h;exact ⟨fun _=>h,fun _=>by omega⟩
 ·rename_i h
  split<;>exact ⟨fun h2=>absurd h2 (by omega),fun h2=>absurd h2 h⟩
theorem cmpK_eq (a b:ByteArray):cmpK a b=0↔ltK a b=false∧a=b:=by
 unfold cmpK
 split
 ·rename_i h;exact ⟨fun h2=>absurd h2 (by omega),fun h2=>by rw [h] at h2;cases h2.1⟩
 ·rename_i h
  split
  ·rename_i h3;exact ⟨fun _=>⟨by simpa using h,h3⟩,fun _=>rfl⟩
  ·rename_i h3;exact ⟨fun h2=>absurd h2 (by omega),fun h2=>absurd h2.2 h3⟩
def AscK (ls:List L2):Prop:=∀ (i j:Nat) (x y:L2),i < j→ls[i]?=some x→ls[j]?=some y→ltK x.1 y.1=true
structure Place (ls:List L2) (k:ByteArray) (i:Nat) (b:Bool):Prop where
 le:i≤ls.length
 has:b=true→∃ x,ls[i]?=some x∧x.1=k
 hasnt:b=false→∀ x∈ls,x.1≠k
theorem bsearch_any (F:FuncId) (hrun:Runs F) (hp:∀ (x:L2) (k:ByteArray) (W:World),Calls Tryz.prog F #[.agg #[.string x.1,.string x.2],.string k] W fun e w'=>e=.returned (.int .i64 (cmpK x.1 k))∧Below W.heap.size W w') (ls:List L2) (v:Value) (k:ByteArray) (w:World) (hv:LRow w v ls) (hasc:AscK ls) (hirr:∀ a,ltK a a=false) (htr:∀ a b c,ltK a b=true→ltK b c=true→ltK a c=true) :
  Calls Tryz.prog 202 #[v,.string k,.func (.func F) #[] #[]] w fun e w'=>∃ (i:Nat) (b:Bool),e=.returned (.tuple #[.int .i64 (i:Int),.bool b])∧Place ls k i b∧Below w.heap.size w w':=by
 obtain ⟨A,c,rfl,hlen,hcells⟩:=hv
 have HCE:=Lib.hid hcells
 have HA:=Lib.hid hasc
 have HI:=Lib.hid hirr
 have HT:=Lib.hid htr
 have H0:=Lib.hid (Below.refl w.heap.size w)
 have hrn:=hrun
 unfold Runs at hrn
 have HPP:=Lib.hid hp
 clear hcells hasc hirr htr hrun hp
 go_enter Tryz.func202,Tryz.ntmps202
 go_wp2
 go_loopw [9,10] (fun v9 v10 wr=>∃ lo hi:Nat,v9=.int .i64 (lo:Int)∧v10=.int .i64 (hi:Int)∧lo≤hi∧hi≤ls.length∧Hid (Below w.heap.size w wr)∧Hid ((∀ t x,t < lo→ls[t]?=some x→ltK x.1 k=true)∧∀ t x,hi≤t→ls[t]?=some x→ltK x.1 k=false))
  (fun v9 v10 _=>(intOf v10).toNat - (intOf v9).toNat)
 case atStart=>exact ⟨0,ls.length,rfl,rfl,Nat.zero_le _,Nat.le_refl _,H0,Lib.hid ⟨fun t x h=>absurd h (by omega),fun t x h hx=>by
  rw [List.getElem?_eq_none h] at hx;cases hx⟩⟩
 case round =>
  clear H0
  obtain ⟨lo,hi,rfl,rfl,hlh,hin,HB,HE⟩:=hrel
  by_cases hlt:lo < hi
  ·obtain ⟨b,o,rfl,hbw,hcell⟩:=HCE.out (by omega)
   have hm:(lo+hi) / 2 < ls.length:=by omega
   obtain ⟨x,hx⟩:∃ x,ls[(lo+hi) / 2]?=some x:=⟨_,List.getElem?_eq_getElem hm⟩
   obtain ⟨c0,c1⟩:=hcell _ x hx
   rw [← HB.out.cell (p:=⟨b,o+(lo+hi) / 2*2,none⟩) hbw] at c0
   rw [← HB.out.cell (p:=⟨b,o+(lo+hi) / 2*2+1,none⟩) hbw] at c1
   have HX:=Lib.hid hx
   have HF:=Lib.hid (HPP.out x k wr)
   clear hcell hx hbw
   cases hc:ltK x.1 k with
   | true =>
    have d1:decide (cmpK x.1 k < 0)=true:=decide_eq_true ((cmpK_lt _ _).2 hc)
    have HC:=Lib.hid hc
    clear hc
    generalize cmpK x.1 k=z at *
    obtain ⟨f,d⟩:=x
    dsimp only at c0 c1
    have HF2:=HF.out
    clear HF
    go_wp2
    refine HF2.mono ?_
    rintro e w3 ⟨rfl,hb⟩
    have H3:=Lib.hid (HB.out.trans (hb.mono HB.out.size))
    clear hb HF2
    go_wp2
    go_roundw
    case rel=>exact ⟨(lo+hi) / 2+1,hi,by rw [show ((lo:Int)+(hi:Int)) / 2+1=(((lo+hi) / 2+1:Nat):Int) by omega],rfl,by omega,hin,H3,Lib.hid ⟨fun t y ht hy=>by
     rcases Nat.lt_or_ge t ((lo+hi) / 2) with h|h
     ·exact HT.out _ _ _ (HA.out _ _ _ _ h hy HX.out) HC.out
     ·obtain rfl:t=(lo+hi) / 2:=by omega
      rw [HX.out] at hy
      cases hy
      exact HC.out,HE.out.2⟩⟩
    case measure=>simp [intOf];omega
   | false =>
    have d1:decide (cmpK x.1 k < 0)=false:=decide_eq_false (fun h=>by rw [(cmpK_lt _ _).1 h] at hc;cases hc)
    have HC:=Lib.hid hc
    clear hc
    generalize cmpK x.1 k=z at *
    obtain ⟨f,d⟩:=x
    dsimp only at c0 c1
    have HF2:=HF.out
    clear HF
    go_wp2
    refine HF2.mono ?_
    rintro e w3 ⟨rfl,hb⟩
    have H3:=Lib.hid (HB.out.trans (hb.mono HB.out.size))
    clear hb HF2
    go_wp2
    go_roundw
    case rel=>exact ⟨lo,(lo+hi) / 2,rfl,by rw [show ((lo:Int)+(hi:Int)) / 2=(((lo+hi) / 2:Nat):Int) by omega],by omega,by omega,H3,Lib.hid ⟨HE.out.1,fun t y ht hy=>by
     rcases Nat.lt_or_ge ((lo+hi) / 2) t with h|h
     ·cases hn:ltK y.1 k
      ·rfl
      ·have:=HT.out _ _ _ (HA.out _ _ _ _ h HX.out hy) hn
       rw [HC.out] at this
       cases this
     ·obtain rfl:t=(lo+hi) / 2:=by omega
      rw [HX.out] at hy
      cases hy
      exact HC.out⟩⟩
    case measure=>simp [intOf];omega
  ·obtain rfl:hi=lo:=by omega
   by_cases hn:hi < ls.length
   ·obtain ⟨b,o,rfl,hbw,hcell⟩:=HCE.out (by omega)
    obtain ⟨x,hx⟩:∃ x,ls[hi]?=some x:=⟨_,List.getElem?_eq_getElem hn⟩
    obtain ⟨c0,c1⟩:=hcell _ x hx
    rw [← HB.out.cell (p:=⟨b,o+hi*2,none⟩) hbw] at c0
    rw [← HB.out.cell (p:=⟨b,o+hi*2+1,none⟩) hbw] at c1
    have HX:=Lib.hid hx
    have HF:=Lib.hid (HPP.out x k wr)
    have hn':(hi:Int) < (ls.length:Int):=by omega
    have HIN:=Lib.hid hin
    clear hcell hx hbw
    cases hc:(cmpK x.1 k==0) with
    | true =>
     have HC:=Lib.hid ((cmpK_eq x.1 k).1 (by simpa using hc)).2
     have HG:=Lib.hid (show Place ls k hi true from ⟨hin,fun _=>⟨x,HX.out,HC.out⟩,fun h=>by cases h⟩)
     generalize cmpK x.1 k=z at *
     obtain ⟨f,d⟩:=x
     dsimp only at c0 c1
     have HF2:=HF.out
     clear HF hn hin hlt
     go_wp2
     refine HF2.mono ?_
     rintro e w3 ⟨rfl,hb⟩
     have H3:=Lib.hid (HB.out.trans (hb.mono HB.out.size))
     clear hb HF2
     go_wp2
     go_ret2
     exact ⟨hi,true,rfl,HG.out,H3.out⟩
    | false =>
     have HG:=Lib.hid (show Place ls k hi false from ⟨hin,(fun h=>by cases h),fun _ y hy e=>by
      obtain ⟨t,ht⟩:=List.getElem?_of_mem hy
      have hxl:=HE.out.2 hi x (Nat.le_refl _) HX.out
      rcases Nat.lt_or_ge t hi with h|h
      ·have:=HE.out.1 t y h ht
       rw [e,HI.out] at this
       cases this
      ·rcases Nat.eq_or_lt_of_le h with h|h
       ·subst h
        rw [HX.out] at ht
        cases ht
        have:cmpK x.1 k=0:=(cmpK_eq _ _).2 ⟨hxl,e⟩
        rw [this] at hc
        cases hc
       ·have:=HA.out _ _ _ _ h HX.out ht
        rw [e,hxl] at this
        cases this⟩)
     generalize cmpK x.1 k=z at *
     obtain ⟨f,d⟩:=x
     dsimp only at c0 c1
     have HF2:=HF.out
     clear HF hn hin hlt
     go_wp2
     refine HF2.mono ?_
     rintro e w3 ⟨rfl,hb⟩
     have H3:=Lib.hid (HB.out.trans (hb.mono HB.out.size))
     clear hb HF2
     go_wp2
     go_ret2
     exact ⟨hi,false,rfl,HG.out,H3.out⟩
   ·have hn':¬ (hi:Int) < (ls.length:Int):=by omega
    have HG:=Lib.hid (show Place ls k hi false from ⟨hin,(fun h=>by cases h),fun _ y hy e=>by
     obtain ⟨t,ht⟩:=List.getElem?_of_mem hy
     have htl:t < ls.length:=(List.getElem?_eq_some_iff.1 ht).1
     have:=HE.out.1 t y (by omega) ht
     rw [e,HI.out] at this
     cases this⟩)
    clear hn hin hlt
    go_wp2
    go_ret2
    first
     | exact ⟨hi,false,rfl,HG.out,HB.out⟩
     | exact ⟨hi,.inl ⟨rfl,HG.out,HB.out⟩⟩
     | exact ⟨rfl,HG.out,HB.out⟩
theorem atT_at {key:ByteArray}:∀ {ls:List L2} {i:Nat} {x:L2},AscK ls→(∀ a,ltK a a=false)→ls[i]?=some x→x.1=key→atT ls key=x.2∧hasT ls key=true
 | [],i,x,_,_,h,_=>by simp at h
 | y::l,0,x,_,_,h,e=>by
  simp only [List.getElem?_cons_zero,Option.some.injEq] at h
  subst h
  unfold atT hasT
  rw [if_pos e,if_pos e]
  exact ⟨rfl,rfl⟩
 | y::l,i+1,x,ha,hi,h,e=>by
  have h2:l[i]?=some x:=by simpa using h
  have hlt:=ha 0 (i+1) y x (by omega) (by simp) h
  have hne:y.1≠key:=fun e2=>by rw [e2,← e,hi] at hlt;cases hlt
  unfold atT hasT
  rw [if_neg hne,if_neg hne]
  exact atT_at (fun a b u v hab hu hv=>ha (a+1) (b+1) u v (by omega) (by simpa using hu) (by simpa using hv)) hi h2 e
theorem ltK_irr (a:ByteArray):ltK a a=false:=decide_eq_false (List.lt_irrefl _)
theorem ltK_tr (a b c:ByteArray) (h1:ltK a b=true) (h2:ltK b c=true):ltK a c=true:=decide_eq_true (List.lt_trans (of_decide_eq_true h1) (of_decide_eq_true h2))
theorem Place.eqb {ls:List L2} {k:ByteArray} {i:Nat} {b:Bool} (h:Place ls k i b):b=hasT ls k:=by
 cases b with
 | true =>
  obtain ⟨x,hx,hk⟩:=h.has rfl
  exact (hasT_iff.2 (hk ▸ List.mem_map_of_mem (f:=(·.1)) (List.mem_of_getElem? hx))).symm
 | false =>
  cases hh:hasT ls k with
  | false=>rfl
  | true =>
   obtain ⟨x,hx,hk⟩:=List.mem_map.1 (hasT_iff.1 hh)
   exact absurd hk (h.hasnt rfl x hx)
theorem dfind_any (ls:List L2) (v:Value) (k:ByteArray) (w:World) (hv:LRow w v ls) (hasc:AscK ls) :
  Calls Tryz.prog 129 #[v,.string k] w fun e w'=>e=.returned (.tuple #[.string (atT ls k),.bool (hasT ls k)])∧Below w.heap.size w w':=by
 have HB:=Lib.hid (bsearch_any 203 runs_find1 (fun x k W=>find1_any x k W) ls v k w hv hasc ltK_irr ltK_tr)
 have HV:=Lib.hid hv
 obtain ⟨A,c,rfl,hlen,hcells⟩:=hv
 have HA:=Lib.hid hasc
 clear hcells hasc
 cases hh:hasT ls k with
 | false =>
  have HR:=Lib.hid (show atT ls k=zT from atT_none fun h=>by rw [hasT_iff.2 h] at hh;cases hh)
  have HH:=Lib.hid hh
  clear hh
  go_enter Tryz.func129,Tryz.ntmps129
  go_wp2_with (go_at_call 202;refine HB.out.mono ?_;rintro e w1 ⟨i,bb,rfl,hp,hb⟩;obtain rfl:bb=false:=(hp.eqb.trans HH.out);have H1:=Lib.hid hb;clear hp hb)
  go_ret2
  rw [HR.out]
  exact ⟨rfl,H1.out⟩
 | true =>
  have HH:=Lib.hid hh
  clear hh
  go_enter Tryz.func129,Tryz.ntmps129
  go_wp2_with (go_at_call 202;refine HB.out.mono ?_;rintro e w1 ⟨i,bb,rfl,hp,hb⟩;obtain rfl:bb=true:=(hp.eqb.trans HH.out);obtain ⟨x,hx,hk⟩:=hp.has rfl;have HR:=Lib.hid (atT_at HA.out ltK_irr hx hk).1;obtain ⟨b,o,c',e',hb2,c0,c1⟩:=HV.out.at hb hx;simp only [Value.slice.injEq,true_and] at e';obtain ⟨rfl,rfl⟩:=e';have hlt:(i:Int) < (ls.length:Int):=(by have:=(List.getElem?_eq_some_iff.1 hx).1;omega);have H1:=Lib.hid hb;clear hp hb hx hk)
  go_ret2
  rw [HR.out]
  exact ⟨rfl,H1.out⟩
theorem ascK_of {ls:List L2} (h:Asc (ls.map (·.1))):AscK ls:=by
 intro i j x y hij hx hy
 unfold Asc at h
 rw [List.pairwise_iff_getElem] at h
 obtain ⟨h1,e1⟩:=List.getElem?_eq_some_iff.1 hx
 obtain ⟨h2,e2⟩:=List.getElem?_eq_some_iff.1 hy
 have:=h i j (by simpa using h1) (by simpa using h2) hij
 simp only [List.getElem_map] at this
 rwa [e1,e2] at this
theorem ascK_chk {ls:List L2} (h:chkD ls=0):AscK ls:=ascK_of (chkD_zero h).2.2
theorem nw_num {w:World} {g:Nat} {t:TypeId} {u:Value} (h:Blk w g t #[u]):∀ W,NW w W→W.cell? ⟨g,0,none⟩=some u∧g < W.heap.size:=fun W hW=>by
 have h2:=h.below hW.below h.lt
 exact ⟨by rw [h2.cell];rfl,h2.lt⟩
theorem nw_mass {w:World} {g:Nat} {t:TypeId} {u v:Value} (h:Blk w g t #[u,v]):∀ W,NW w W→W.cell? ⟨g,0,none⟩=some u∧W.cell? ⟨g,1,none⟩=some v∧g < W.heap.size:=fun W hW=>by
 have h2:=h.below hW.below h.lt
 exact ⟨(cells2 h2).1,(cells2 h2).2,h2.lt⟩
theorem zT_small:zT.size≤270000:=by decide
theorem Short.atT {k:ByteArray}:∀ {ls:List L2},Short ls→(atT ls k).size≤270000
 | [],_=>zT_small
 | x::l,h=>by
  unfold Go.Proofs.YtigapglmipmbeaaGreatDoor.atT
  split
  ·exact (h x (by simp)).2
  ·exact Short.atT fun y hy=>h y (by simp [hy])
theorem chk2_both {a b:List L2} (h:chk2 a b=0):chkD a=0∧chkD b=0:=by
 unfold chk2 at h
 split at h
 ·rename_i h1;exact absurd h h1
 ·rename_i h1;exact ⟨Classical.byContradiction h1,h⟩
theorem resX_tup (r:XE):∃ c0 c1,resX r=.tuple #[.string c0,.int .i64 c1]:=by
 cases r
 ·exact ⟨_,_,rfl⟩
 ·exact ⟨_,_,rfl⟩
theorem delta1_any (x:L2) (k:Int) (gq gf:Nat) (q:List L2) (vq:Value) (f:ByteArray) (w:World) (hgq:Blk w gq 31 #[vq]) (hgf:Blk w gf 23 #[.string f]) (hv:LRow w vq q) (hasc:AscK q) (hsq:Short q) (hf:f.size≤270000) (hx:x.2.size≤270000) (hr:Res w) :
  Calls Tryz.prog 128 #[.int .i64 k,.agg #[.string x.1,.string x.2],.pointer (some ⟨gq,0,none⟩),.pointer (some ⟨gf,0,none⟩)] w fun e w'=>e=.returned (resX (partX f q x))∧Below w.heap.size w w':=by
 have HX:=Lib.hid (show NW w (w.alloc (.cells #[.string x.1,.string x.2] 30)) from (NW.refl hr).alloc _)
 have K0:Blk (w.alloc (.cells #[.string x.1,.string x.2] 30)) (w.heap.size) 30 #[.string x.1,.string x.2]:=by
  have:=Blk.new w 30 #[.string x.1,.string x.2]
  exact this
 have N0:=Lib.hid (NW.refl HX.out.res)
 have HF:=Lib.hid (dfind_any q vq x.1 _ (hv.below HX.out.below) hasc)
 have HM:=Lib.hid (nw_mass K0)
 have HO:=Lib.hid (hsq.atT (k:=x.1))
 have HG:=Lib.hid (nw_num (hgf.below HX.out.below hgf.lt))
 have x0:=(nw_num (hgq.below HX.out.below hgq.lt) _ N0.out).1
 have xl:=(nw_num (hgq.below HX.out.below hgq.lt) _ N0.out).2
 have HPX:=Lib.hid (show ∀ r,partX f q x=r→resX (partX f q x)=resX r from fun r h=>by rw [h])
 have HML:=Lib.hid (retMulX hf HO.out)
 have HXS:=Lib.hid hx
 obtain ⟨A',c',rfl,_,_⟩:=id hv
 obtain ⟨y,d⟩:=x
 dsimp only at HX HF HM HO x0 xl HML HXS N0
 clear hv hgq hgf hr hasc hsq hf hx K0
 cases hm:mulX f (atT q y) with
 | error n =>
  have HR:=Lib.hid (HPX.out (.error n) (by unfold partX;dsimp only;rw [hm]))
  have hz:=ne_zero (exQ_err hm)
  rw [hm] at HML
  change Hid (Ret _ _ (.tuple #[.string ⟨#[]⟩,.int .i64 (n:Int)])) at HML
  clear hm
  go_enter Tryz.func128,Tryz.ntmps128
  go_wp2_with (first
   | (go_at_call 129;refine (HF.out).mono ?_;rintro e w1 ⟨rfl,hb⟩;have N1:=Lib.hid (N0.out.later hb);clear hb;obtain ⟨g0,gl⟩:=HG.out _ N1.out)
   | (go_at_call 130;refine (HML.out _ N1.out.res).mono ?_;rintro e w2 ⟨rfl,hb⟩;have N2:=Lib.hid (N1.out.later hb);clear hb;obtain ⟨m0,m1,ml⟩:=HM.out _ N2.out))
  go_ret2
  rw [HR.out]
  exact ⟨rfl,HX.out.below.trans (N2.out.below.mono HX.out.below.size)⟩
 | ok s =>
  rw [hm] at HML
  change Hid (Ret _ _ (.tuple #[.string s,.int .i64 0])) at HML
  have HSB:=Lib.hid (retSubX HXS.out (size_ok (mulX_ok hm)))
  cases hs:subX d s with
  | error n =>
   have HR:=Lib.hid (HPX.out (.error n) (by unfold partX;dsimp only;rw [hm];dsimp only;rw [hs]))
   have hz:=ne_zero (exQ_err hs)
   rw [hs] at HSB
   change Hid (Ret _ _ (.tuple #[.string ⟨#[]⟩,.int .i64 (n:Int)])) at HSB
   clear hm hs
   go_enter Tryz.func128,Tryz.ntmps128
   go_wp2_with (first
    | (go_at_call 129;refine (HF.out).mono ?_;rintro e w1 ⟨rfl,hb⟩;have N1:=Lib.hid (N0.out.later hb);clear hb;obtain ⟨g0,gl⟩:=HG.out _ N1.out)
    | (go_at_call 130;refine (HML.out _ N1.out.res).mono ?_;rintro e w2 ⟨rfl,hb⟩;have N2:=Lib.hid (N1.out.later hb);clear hb;obtain ⟨m0,m1,ml⟩:=HM.out _ N2.out)
    | (go_at_call 117;refine (HSB.out _ N2.out.res).mono ?_;rintro e w3 ⟨rfl,hb⟩;have N3:=Lib.hid (N2.out.later hb);clear hb))
   go_ret2
   rw [HR.out]
   exact ⟨rfl,HX.out.below.trans (N3.out.below.mono HX.out.below.size)⟩
  | ok r =>
   rw [hs] at HSB
   change Hid (Ret _ _ (.tuple #[.string r,.int .i64 0])) at HSB
   have HMX:=Lib.hid (retMaxX zT_small (size_ok (subX_ok hs)))
   change Hid (Ret _ #[.string ⟨#[48]⟩,.string r] _) at HMX
   have HR:=Lib.hid (HPX.out (maxX zT r) (by unfold partX;dsimp only;rw [hm];dsimp only;rw [hs]))
   obtain ⟨c0,c1,hc⟩:=resX_tup (maxX zT r)
   rw [hc] at HR HMX
   clear hm hs hc
   go_enter Tryz.func128,Tryz.ntmps128
   go_wp2_with (first
    | (go_at_call 129;refine (HF.out).mono ?_;rintro e w1 ⟨rfl,hb⟩;have N1:=Lib.hid (N0.out.later hb);clear hb;obtain ⟨g0,gl⟩:=HG.out _ N1.out)
    | (go_at_call 130;refine (HML.out _ N1.out.res).mono ?_;rintro e w2 ⟨rfl,hb⟩;have N2:=Lib.hid (N1.out.later hb);clear hb;obtain ⟨m0,m1,ml⟩:=HM.out _ N2.out)
    | (go_at_call 117;refine (HSB.out _ N2.out.res).mono ?_;rintro e w3 ⟨rfl,hb⟩;have N3:=Lib.hid (N2.out.later hb);clear hb)
    | (go_at_call 131;refine (HMX.out _ N3.out.res).mono ?_;rintro e w4 ⟨rfl,hb⟩;have N4:=Lib.hid (N3.out.later hb);clear hb))
   go_ret2
   rw [HR.out]
   exact ⟨rfl,HX.out.below.trans (N4.out.below.mono HX.out.below.size)⟩
theorem runs_delta1:Runs 128:=runs_of Tryz.func128 (by kernel_rfl) (by kernel_rfl)
theorem partX_ne {f:ByteArray} {q:List L2} {x:L2} {n:Nat} (h:partX f q x=.error n):n≠0:=by
 unfold partX at h
 split at h
 ·rename_i h1;cases h;exact exQ_err h1
 ·split at h
  ·rename_i h1;cases h;exact exQ_err h1
  ·unfold maxX at h
   split at h
   ·rename_i h1;cases h;exact h1
   ·split at h
    ·rename_i h1;cases h;exact h1
    ·cases h
theorem partX_fine {f:ByteArray} {q:List L2} {x:L2} {s:ByteArray} (h:partX f q x=.ok s):errQ s.data.toList=0:=by
 unfold partX at h
 split at h
 ·cases h
 ·split at h
  ·cases h
  ·rename_i h1
   unfold maxX at h
   split at h
   ·cases h
   ·split at h
    ·cases h
    ·cases h
     split
     ·exact subX_ok h1
     ·exact err_zT
theorem ddelta_any (p q:List L2) (vp vq:Value) (f:ByteArray) (w:World) (hp:LRow w vp p) (hq:LRow w vq q) (sp:Short p) (sq:Short q) (hf:f.size≤270000) (hr:Res w) :
  Calls Tryz.prog 45 #[vp,vq,.string f] w fun e w'=>e=.returned (resX (deltaX p q f))∧Below w.heap.size w w':=by
 have HX:=Lib.hid (show NW w (((w.alloc (.cells #[vq] 31)).alloc (.cells #[.string f] 23)).alloc (.cells #[vp,vq] 31)) from (((NW.refl hr).alloc _).alloc _).alloc _)
 have K0:Blk (((w.alloc (.cells #[vq] 31)).alloc (.cells #[.string f] 23)).alloc (.cells #[vp,vq] 31)) (w.heap.size) 31 #[vq]:=by
  have:=Blk.new w 31 #[vq]
  exact ((this.alloc _).alloc _)
 have K1:Blk (((w.alloc (.cells #[vq] 31)).alloc (.cells #[.string f] 23)).alloc (.cells #[vp,vq] 31)) (w.heap.size+1) 23 #[.string f]:=by
  have:=Blk.new (w.alloc (.cells #[vq] 31)) 23 #[.string f]
  simp only [World.size_alloc] at this
  exact (this.alloc _)
 have K2:Blk (((w.alloc (.cells #[vq] 31)).alloc (.cells #[.string f] 23)).alloc (.cells #[vp,vq] 31)) (w.heap.size+1+1) 31 #[vp,vq]:=by
  have:=Blk.new ((w.alloc (.cells #[vq] 31)).alloc (.cells #[.string f] 23)) 31 #[vp,vq]
  simp only [World.size_alloc] at this
  exact this
 have N0:=Lib.hid (NW.refl HX.out.res)
 have hpx:=hp.below HX.out.below
 have hqx:=hq.below HX.out.below
 have HC:=Lib.hid (dchecked_any p q vp vq _ _ K2 hpx hqx sp sq HX.out.res)
 have B1:=Lib.hid (nw_num K1)
 have x0:=(nw_num (K0) _ N0.out).1
 have HP:=Lib.hid (positive_any hf)
 obtain ⟨A,c,rfl,hlen,hcells⟩:=id hp
 obtain ⟨A',c',rfl,hlen',hcells'⟩:=id hq
 by_cases h0:chk2 p q=0
 ·have HR0:=Lib.hid (show deltaX p q f=if posE f≠0 then .error (posE f) else foldX (partX f q) zT p by unfold deltaX;rw [if_neg (by simpa using h0)])
  rw [h0] at HC
  change Hid (Calls _ _ _ _ fun e w'=>e=.returned (.int .i64 0)∧_) at HC
  by_cases h1:posE f=0
  ·have HR:=Lib.hid (show deltaX p q f=foldX (partX f q) zT p by rw [HR0.out,if_neg (by simpa using h1)])
   rw [h1] at HP
   change Hid (Ret _ _ (.tuple #[.bool (posB f),.int .i64 0])) at HP
   have ha:=ascK_chk (chk2_both h0).2
   have HFD:=Lib.hid (fun W (hW:NW _ W) =>
    dfold_any 128 #[.pointer (some ⟨w.heap.size,0,none⟩),.pointer (some ⟨w.heap.size+1,0,none⟩)] runs_delta1 (partX f q) p _ W (hpx.below hW.below) hW.res (fun x n h=>partX_ne h) (fun x hx s h=>partX_fine h)
     (fun k x hx W2 hW2 hr2=>delta1_any x k _ _ q _ f W2 ((K0.below hW.below K0.lt).below hW2 (K0.below hW.below K0.lt).lt) ((K1.below hW.below K1.lt).below hW2 (K1.below hW.below K1.lt).lt) ((hqx.below hW.below).below hW2) ha sq hf (sp x (List.mem_of_getElem? hx)).2 hr2))
   obtain ⟨r0,r1,hc⟩:=resX_tup (foldX (partX f q) zT p)
   rw [hc] at HFD
   have HR2:=Lib.hid (show resX (deltaX p q f)=.tuple #[.string r0,.int .i64 r1] by rw [HR.out,hc])
   clear K0 K1 K2 hpx hqx hp hq sp sq hf hr h0 h1 ha hc hcells hcells'
   go_enter Tryz.func45,Tryz.ntmps45
   go_wp2_with (first
    | (go_at_call 112;refine (HC.out).mono ?_;rintro e w1 ⟨rfl,hb⟩;have N1:=Lib.hid (N0.out.later hb);clear hb;obtain ⟨f0,fl⟩:=B1.out _ N1.out)
    | (go_at_call 106;refine (HP.out _ N1.out.res).mono ?_;rintro e w2 ⟨rfl,hb⟩;have N2:=Lib.hid (N1.out.later hb);clear hb)
    | (go_at_call 122;refine (HFD.out _ N2.out).mono ?_;rintro e w3 ⟨rfl,hb⟩;have N3:=Lib.hid (N2.out.later hb);clear hb))
   go_ret2
   rw [HR2.out]
   exact ⟨rfl,HX.out.below.trans (N3.out.below.mono HX.out.below.size)⟩
  ·have HR:=Lib.hid (show deltaX p q f=.error (posE f) by rw [HR0.out,if_pos h1])
   have hm:=ne_zero h1
   clear K0 K1 K2 hpx hqx hp hq sp sq hf hr h0 h1 hcells hcells'
   go_enter Tryz.func45,Tryz.ntmps45
   go_wp2_with (first
    | (go_at_call 112;refine (HC.out).mono ?_;rintro e w1 ⟨rfl,hb⟩;have N1:=Lib.hid (N0.out.later hb);clear hb;obtain ⟨f0,fl⟩:=B1.out _ N1.out)
    | (go_at_call 106;refine (HP.out _ N1.out.res).mono ?_;rintro e w2 ⟨rfl,hb⟩;have N2:=Lib.hid (N1.out.later hb);clear hb))
   go_ret2
   rw [HR.out]
   exact ⟨rfl,HX.out.below.trans (N2.out.below.mono HX.out.below.size)⟩
 ·have HR:=Lib.hid (show deltaX p q f=.error (chk2 p q) by unfold deltaX;rw [if_pos h0])
  have hm:=ne_zero h0
  clear K0 K1 K2 hpx hqx hp hq sp sq hf hr h0 hcells hcells'
  go_enter Tryz.func45,Tryz.ntmps45
  go_wp2_with (go_at_call 112;refine (HC.out).mono ?_;rintro e w1 ⟨rfl,hb⟩;have N1:=Lib.hid (N0.out.later hb);clear hb)
  go_ret2
  rw [HR.out]
  exact ⟨rfl,HX.out.below.trans (N1.out.below.mono HX.out.below.size)⟩
end Go.Proofs.YtigapglmipmbeaaGreatDoor
namespace Go.Proofs.YtigapglmipmbeaaGreatDoor
open Go.RowKit Go.Maps Go.Sort Go.Shelf
open Lim
attribute [local go_sem] Oper.semAt_some
theorem posL_err {x:L2} {l:List L2} (h:posE x.2≠0):posL (x::l)=posE x.2:=by unfold posL;rw [if_pos h]
theorem posL_go {x:L2} {l:List L2} (h:posE x.2=0):posL (x::l)=posL l:=by
 conv=>lhs;unfold posL
 rw [if_neg (by simpa using h)]
theorem short_cons {x:L2} {l:List L2}:Short (x::l)↔(x.1.size≤270000∧x.2.size≤270000)∧Short l:=by
 unfold Short
 constructor
 ·intro h;exact ⟨h x (by simp),fun y hy=>h y (by simp [hy])⟩
 ·rintro ⟨h1,h2⟩ y hy
  rcases List.mem_cons.1 hy with rfl|hy
  ·exact h1
  ·exact h2 y hy
theorem Short.ins:∀ {a b:List L2} {x:L2},insX a x=.ok b→Short a→x.1.size≤270000∧x.2.size≤270000→Short b
 | [],b,x,h,_,hx=>by cases h;exact short_cons.2 ⟨hx,fun _ h=>by cases h⟩
 | y::l,b,x,h,ha,hx=>by
  obtain ⟨h1,h2⟩:=short_cons.1 ha
  unfold insX at h
  split at h
  ·split at h
   ·cases h
   ·rename_i m hm
    cases h
    exact short_cons.2 ⟨h1,Short.ins hm h2 hx⟩
  ·split at h
   ·split at h
    ·cases h
    ·rename_i s hs
     cases h
     exact short_cons.2 ⟨⟨h1.1,size_ok (plX_ok hs)⟩,h2⟩
   ·cases h
    exact short_cons.2 ⟨hx,ha⟩
theorem collX_cons (a:List L2) (x:L2) (l:List L2):collX a (x::l)=(match insX a x with|.error n=>.error n|.ok b=>collX b l):=rfl
def ResM (base:Nat) (r:Except Nat (List L2)) (e:Ending) (w':World):Prop:=match r with
 | .error n=>e=.returned (.tuple #[.slice none 0 0,.int .i64 (n:Int)])
 | .ok out=>∃ u,e=.returned (.tuple #[u,.int .i64 0])∧OwnM base w' u out
end Go.Proofs.YtigapglmipmbeaaGreatDoor
namespace Go.Proofs.YtigapglmipmbeaaGreatDoor
open Go.RowKit Go.Shelf
open Lim
theorem infoD:(Tryz.prog.info? 31).map (fun i=>(i.zero,i.size,i.bytes))=some (some (.slice none 0 0),1,24):=by kernel_rfl
theorem insX_ne:∀ {a:List L2} {x:L2} {n:Nat},insX a x=.error n→n≠0
 | [],x,n,h=>by cases h
 | y::l,x,n,h=>by
  unfold insX at h
  split at h
  ·split at h
   ·rename_i m hm;cases h;exact insX_ne hm
   ·cases h
  ·split at h
   ·split at h
    ·rename_i m hm;cases h;exact exQ_err hm
    ·cases h
   ·cases h
theorem collX_ne:∀ {l a:List L2} {n:Nat},collX a l=.error n→n≠0
 | [],a,n,h=>by cases h
 | x::l,a,n,h=>by
  unfold collX at h
  split at h
  ·rename_i m hm;cases h;exact insX_ne hm
  ·exact collX_ne h
theorem insX_len:∀ {a b:List L2} {x:L2},insX a x=.ok b→b.length≤a.length+1
 | [],b,x,h=>by cases h;simp
 | y::l,b,x,h=>by
  unfold insX at h
  split at h
  ·split at h
   ·cases h
   ·rename_i m hm;cases h;have:=insX_len hm;simp;omega
  ·split at h
   ·split at h
    ·cases h
    ·cases h;simp
   ·cases h;simp
theorem collX_len:∀ {l a b:List L2},collX a l=.ok b→b.length≤a.length+l.length
 | [],a,b,h=>by cases h;simp
 | x::l,a,b,h=>by
  unfold collX at h
  split at h
  ·cases h
  ·rename_i m hm
   have h1:=insX_len hm
   have h2:=collX_len h
   simp
   omega
theorem make_len {l d:List L2} (h:makeX l=.ok d) (hl:l.length≤1000):d.length≤1000:=by
 unfold makeX at h
 split at h
 ·cases h
 ·split at h
  ·cases h
  ·rename_i a ha
   have h1:=collX_len ha
   unfold doneX at h
   split at h
   ·cases h
   ·cases h
    have h2:=List.length_filter_le (fun x:L2=>decide (x.2≠zT)) a
    unfold keepX
    simp at h1
    omega
theorem makeX_ne {l:List L2} {n:Nat} (h:makeX l=.error n):n≠0:=by
 unfold makeX at h
 split at h
 ·rename_i h1;cases h;exact h1
 ·split at h
  ·rename_i m hm;cases h;exact collX_ne hm
  ·unfold doneX at h
   split at h
   ·rename_i h1;cases h;exact h1
   ·cases h
def MadeP (r:Option (List (List L2))) (e:Ending) (w':World):Prop:=match r with
 | none=>e=.returned (.tuple #[.slice none 0 0,.bool false])
 | some outs=>∃ u,e=.returned (.tuple #[u,.bool true])∧LLRow w' u outs
end Go.Proofs.YtigapglmipmbeaaGreatDoor
namespace Go.Proofs.YtigapglmipmbeaaGreatDoor
open Go.RowKit
structure LaterW (w:World) where
 W:World
 h:Below w.heap.size w W
instance (w:World):Nonempty (LaterW w):=⟨⟨w,Below.refl _ _⟩⟩
end Go.Proofs.YtigapglmipmbeaaGreatDoor
namespace Go.Proofs.YtigapglmipmbeaaGreatDoor
open Go.RowKit Go.Shelf
open Lim
def Src (w:World) (size:Nat) (sv:Value) (m:Nat) (news:List Value):Prop :=
 news.length=m*size∧((∃ c,sv=.slice none 0 c∧m=0)∨∃ ad c,sv=.slice (some ad) m c∧∀ j u,news[j]?=some u→w.cell? (ad.add j)=some u)
theorem run_append_empty {P:Program} (w:World) (base:Nat) (t ty e:TypeId) (i:TypeInfo) (size:Nat) (ht:P.underlying t=some (.slice e)) (hi:P.info? e=some i) (hsize:i.size=size)
  (v:Value) (n:Nat) (xs:List Value) (hown:w.ownsRow base e size v n xs) (c:Nat):(Builtin.append_ #[t,t] ty #[v,.slice none 0 c]).run P w=.ok v w:=by
 subst hsize
 rcases hown.2 with ⟨rfl,rfl⟩|⟨g,cap,cur,rfl,hbg,hg,hnc,hcm,hcs,htake⟩
 ·simp [Builtin.append_,run_underlying ht,sizeOf,typeInfo,hi,Builtin.lenOf,Builtin.firstCells]
 ·simp [Builtin.append_,run_underlying ht,sizeOf,typeInfo,hi,Builtin.lenOf,Builtin.firstCells,loadCells,hnc,storeCells]
theorem wpListIn_append_src {F:Fence} {n:Nat} {P:Program} (w:World) {ops:Array Oper} {rest:List Oper} {o:Oper} {a:Act} {Q:Exit→Act→World→Prop}
  (hg:o.guard=none) (s x:Operand) (t:TypeId) (hop:o.op=Op.call { callee:=Callee.builtin Builtin.append,args:=#[s,x],argTypes:=#[t,t] })
  (base:Nat) (e:TypeId) (i:TypeInfo) (z:Value) (size bytes:Nat) (h1:P.underlying t=some (.slice e)) (h2:P.info? e=some i) (h3:i.zero=some z) (h4:i.size=size) (h5:i.bytes=bytes) (h6:z.cells.size=size) (h7:0 < size)
  (v:Value) (k:Nat) (xs:List Value) (hs:a.eval s=v) (hown:w.ownsRow base e size v k xs) (sv:Value) (m:Nat) (news:List Value) (hx:a.eval x=sv) (hsrc:Src w size sv m news)
  (h1c:∀ u∈news,u.oneCell'=true) (b1:k+m≤maxLen) (b2:(k+m)*bytes≤140737488355328) (b3:base≤w.heap.size)
  (hK:∀ v' w',w'.ownsRow base e size v' (k+m) (xs++news)→w.grownBy w' v.ownBlock→wpListIn F n P ops Q rest (a.put o.dst v') w') :
  wpListIn F n P ops Q (o::rest) a w:=by
 rcases hsrc with ⟨hl,⟨c,rfl,rfl⟩|⟨ad,c,rfl,hc⟩⟩
 ·have hn:news=[]:=List.eq_nil_of_length_eq_zero (by simpa using hl)
  subst hn
  refine wpListIn_plain hg fun K hK'=>?_
  have hrun:=run_append_empty (P:=P) w base t o.type e i size h1 h2 h4 v k xs hown c
  unfold Oper.wpIn
  refine ⟨?_,?_⟩
  ·simp [Oper.about,hop,resolve,Target.leads,Sem.run_pure]
  ·rw [Oper.semAt_plain F _ _ (by rw [hop];intro c hc';cases hc')]
   simp [execOp,hop,resolve,invoke,builtin,hs,hx,hrun,Result.andThen]
   exact hK' _ _ (hK v w (by simpa using hown) ⟨rfl,rfl,rfl,Nat.le_refl _,fun _ _ _=>rfl⟩)
 ·exact wpListIn_append_own w hg s x t hop base e i z size bytes h1 h2 h3 h4 h5 h6 h7 v k xs hs hown ad m c news hx hl hc h1c b1 b2 b3 fun v' w' r1 r2 _=>hK v' w' r1 r2
theorem wpIn_region_later {F:Fence} {n:Nat} {P:Program} {id:Nat} {Q:Exit→Act→World→Prop} {a:Act} {w:World} {l:List Oper} (hro:F.round=none) (hm:P.follows .mixedOrders=true) (hB:Region.lexB .any l.toArray=true)
  (h:wpQuietIn F n P l.toArray (fun W=>∃ x:LaterW w,W=x.W) (fun a'=>∀ W,(∃ x:LaterW w,W=x.W)→Q .normal a' W) l a):(Code.region id l.toArray true).wpIn F n P Q a w :=
 wpIn_region_quiet (C:=fun W=>∃ x:LaterW w,W=x.W) hro hm hB ⟨⟨{ w with drawn:=w.drawn+1 },⟨rfl,rfl,rfl,Nat.le_refl _,fun _ _=>rfl⟩⟩,rfl⟩ (by simpa using h)
theorem wide_fn (f:FuncId):Fence.wide.fn f↔True:=iff_of_true trivial trivial
theorem LaterW.at {w:World} {b o:Nat} {u:Value} (hb:b < w.heap.size) (h:w.cell? ⟨b,o,none⟩=some u):∀ z:LaterW w,z.W.cell? ⟨b,o,none⟩=some u:=fun z=>(z.h.cell (p:=⟨b,o,none⟩) hb).trans h
theorem addr_add0 (g j i:Nat):((⟨g,j,none⟩:Addr).add i)=⟨g,j+i,none⟩:=by unfold Addr.add;split<;>simp_all
theorem cellsM_take:∀ (l:List L2) (k:Nat),cellsM (l.take k)=(cellsM l).take (k*2)
 | _,0=>by simp [cellsM]
 | [],k+1=>by simp [cellsM]
 | x::l,k+1=>by
  rw [List.take_succ_cons,cellsM_cons,cellsM_cons,show (k+1)*2=k*2+1+1 by omega,List.take_succ_cons,List.take_succ_cons,cellsM_take l k]
theorem cellsM_drop:∀ (l:List L2) (k:Nat),cellsM (l.drop k)=(cellsM l).drop (k*2)
 | _,0=>by simp
 | [],k+1=>by simp [cellsM]
 | x::l,k+1=>by
  rw [List.drop_succ_cons,cellsM_cons,show (k+1)*2=k*2+1+1 by omega,List.drop_succ_cons,List.drop_succ_cons,cellsM_drop l k]
theorem cellsM_set:∀ {l:List L2} {k:Nat} {y:L2} (s:ByteArray),l[k]?=some y→cellsM (l.set k (y.1,s))=(cellsM l).set (k*2+1) (.string s)
 | [],k,y,s,h=>by simp at h
 | x::l,0,y,s,h=>by
  simp only [List.getElem?_cons_zero,Option.some.injEq] at h
  subst h
  rfl
 | x::l,k+1,y,s,h=>by
  rw [List.set_cons_succ,cellsM_cons,cellsM_cons,cellsM_set s (by simpa using h),show (k+1)*2+1=k*2+1+1+1 by omega,List.set_cons_succ,List.set_cons_succ]
theorem one_cellsM (l:List L2):∀ u∈cellsM l,u.oneCell'=true:=fun u hu=>by
 unfold cellsM at hu
 obtain ⟨x,_,hx⟩:=List.mem_flatMap.1 hu
 simp only [List.mem_cons,List.not_mem_nil,or_false] at hx
 rcases hx with rfl|rfl<;>rfl
theorem one_pairM (x:L2):∀ u∈([.string x.1,.string x.2]:List Value),u.oneCell'=true:=fun u hu=>by
 simp only [List.mem_cons,List.not_mem_nil,or_false] at hu
 rcases hu with rfl|rfl<;>rfl
theorem cell_later' {w W:World} {g j:Nat} {u:Value} (hB:Below w.heap.size w W) (h:w.cell? ⟨g,j,none⟩=some u) (hg:g < w.heap.size):W.cell? ⟨g,j,none⟩=some u:=(hB.cell (p:=⟨g,j,none⟩) hg).trans h
theorem own_lt {base n cap g:Nat} {w:World} {l:List Value} {E:TypeId} {size:Nat} (h:w.ownsRow base E size (.slice (some ⟨g,0,none⟩) n cap) n l):g < w.heap.size:=(h.lt g rfl).2
theorem srcM_take {base g cap:Nat} {w W:World} {a:List L2} (h:OwnM base w (.slice (some ⟨g,0,none⟩) a.length cap) a) (hB:Below w.heap.size w W) {k c:Nat} (hk:k≤a.length) :
  Src W 2 (.slice (some ⟨g,0,none⟩) k c) k (cellsM (a.take k)):=by
 refine ⟨by rw [cellsM_length,List.length_take,Nat.min_eq_left hk],.inr ⟨_,_,rfl,fun j u hu=>?_⟩⟩
 rw [cellsM_take,List.getElem?_take] at hu
 split at hu
 ·have:=World.ownsRow.cells h (g:=g) rfl j u hu
  rw [addr_add0] at this ⊢
  exact cell_later' hB this (own_lt h)
 ·cases hu
theorem srcM_drop {base g cap:Nat} {w W:World} {a:List L2} (h:OwnM base w (.slice (some ⟨g,0,none⟩) a.length cap) a) (hB:Below w.heap.size w W) {k c:Nat} :
  Src W 2 (.slice (some ⟨g,k*2,none⟩) (a.length - k) c) (a.length - k) (cellsM (a.drop k)):=by
 refine ⟨by rw [cellsM_length,List.length_drop],.inr ⟨_,_,rfl,fun j u hu=>?_⟩⟩
 rw [cellsM_drop,List.getElem?_drop] at hu
 have:=World.ownsRow.cells h (g:=g) rfl _ u hu
 rw [addr_add0] at this ⊢
 have:=cell_later' hB this (own_lt h)
 rwa [Nat.zero_add] at this
theorem srcM_zero {W:World} {A:Option Addr} {c:Nat}:Src W 2 (.slice A 0 c) 0 []:=by
 refine ⟨rfl,?_⟩
 cases A with
 | none=>exact .inl ⟨c,rfl,rfl⟩
 | some a=>exact .inr ⟨a,c,rfl,fun j u h=>by simp at h⟩
theorem srcM_one {W:World} {B:Nat} {x:L2} (h:W.heap[B]?=some (.cells #[.string x.1,.string x.2] 30 (0,0))):Src W 2 (.slice (some ⟨B,0,none⟩) 1 1) 1 [.string x.1,.string x.2] :=
 ⟨rfl,.inr ⟨_,_,rfl,fun j u hu=>by
  match j with
  | 0=>rw [addr_add0];simp at hu;subst hu;simp [World.cell?,h]
  | 1=>rw [addr_add0];simp at hu;subst hu;simp [World.cell?,h]
  | j+2=>simp at hu⟩⟩
theorem two_old (w:World) (o1 o2:Obj):((w.alloc o1).alloc o2).heap[w.heap.size]?=some o1:=(heap_alloc_old (w.alloc o1) o2 (by simp)).trans (heap_alloc_new w o1)
theorem two_cur (w:World) (o1 o2:Obj):((w.alloc o1).alloc o2).heap[w.heap.size+1]?=some o2:=by
 have:=heap_alloc_new (w.alloc o1) o2
 simpa using this
theorem own_atM {W:World} {base b:Nat} (hb:base≤b) (h:W.heap[b]?=some (.cells #[] 30 (0,0))):W.ownsRow base 30 2 (.slice (some ⟨b,0,none⟩) 0 0) 0 [] :=
 ⟨rfl,.inr ⟨b,0,#[],rfl,hb,h,Nat.le_refl _,Nat.zero_le _,rfl,rfl⟩⟩
theorem grow_belowM {n size m:Nat} {w W W':World} {e:TypeId} {v:Value} {xs:List Value} (h:Below n w W) (hn:n≤W.heap.size) (ho:W.ownsRow n e size v m xs) (hg:W.grownBy W' v.ownBlock):Below n w W' :=
 ⟨hg.os.trans h.os,hg.tape.trans h.tape,hg.output.trans h.output,Nat.le_trans h.size hg.size,fun k hk=>(hg.block k (by omega) fun e=>by have:=(ho.lt k e.symm).1;omega).trans (h.block k hk)⟩
theorem below_drewM (w:World):Below w.heap.size w w.drew:=⟨rfl,rfl,rfl,Nat.le_refl _,fun _ _=>rfl⟩
structure CollI (w:World) (ls:List L2) (i:Nat) (W:World) (v:Value) (a:List L2):Prop where
 nw:NW w W
 own:OwnM w.heap.size W v a
 coll:collX [] ls=collX a (ls.drop i)
 len:a.length≤i
 short:Short a
theorem CollI.nil {w:World} {ls:List L2} (hr:Res w):CollI w ls 0 w (.slice none 0 0) []:=⟨NW.refl hr,OwnM.nil _ _,by simp,Nat.le_refl _,fun x h=>by cases h⟩
section
variable {w W W':World} {ls a:List L2} {i:Nat} {v:Value}
theorem CollI.later (h:CollI w ls i W v a) (hb:Below W.heap.size W W'):CollI w ls i W' v a:=⟨h.nw.later hb,h.own.later hb,h.coll,h.len,h.short⟩
theorem CollI.cap {A:Option Addr} {c:Nat} (h:CollI w ls i W (.slice A a.length c) a):(A=none∧c=0∧a=[])∨∃ g,A=some ⟨g,0,none⟩∧a.length≤c∧c≤9223372036854775807:=by
 rcases h.own.2 with ⟨e,h0⟩|⟨g,c',cur,e,_,_,h1,h2,_⟩
 ·simp only [Value.slice.injEq] at e;exact .inl ⟨e.1,e.2.2,List.eq_nil_of_length_eq_zero h0⟩
 ·simp only [Value.slice.injEq] at e;unfold maxLen at h2;exact .inr ⟨g,e.1,by omega,by omega⟩
theorem CollI.at {A:Option Addr} {c k:Nat} {y:L2} (h:CollI w ls i W (.slice A a.length c) a) (hy:a[k]?=some y):∃ g,A=some ⟨g,0,none⟩∧g < W.heap.size∧W.cell? ⟨g,k*2,none⟩=some (.string y.1)∧W.cell? ⟨g,k*2+1,none⟩=some (.string y.2):=by
 have hk:=(List.getElem?_eq_some_iff.1 hy).1
 rcases h.cap with ⟨_,_,rfl⟩|⟨g,rfl,_⟩
 ·simp at hk
 ·obtain ⟨c0,c1⟩:=cellsM_at hy
  have r0:=World.ownsRow.cells h.own (g:=g) rfl _ _ c0
  have r1:=World.ownsRow.cells h.own (g:=g) rfl _ _ c1
  rw [addr_add0,Nat.zero_add] at r0 r1
  exact ⟨g,rfl,own_lt h.own,r0,r1⟩
theorem CollI.new {W5:World} {v3:Value} {x:L2} {k:Nat} (h:CollI w ls i W v a) (hx:ls[i]?=some x) (hins:insX a x=.ok (a.take k++x::a.drop k)) (hk:k≤a.length) (hsx:x.1.size≤270000∧x.2.size≤270000)
  (hB:Below W.heap.size W W5) (hown:W5.ownsRow W.heap.size 30 2 v3 (k+1+(a.length - k)) (cellsM (a.take k)++[.string x.1,.string x.2]++cellsM (a.drop k))) :
  CollI w ls (i+1) W5 v3 (a.take k++x::a.drop k):=by
 have e:(a.take k++x::a.drop k).length=k+1+(a.length - k):=by simp;omega
 refine ⟨h.nw.later hB,?_,?_,?_,?_⟩
 ·refine owns_base (base:=W.heap.size) ?_ h.nw.below.size
  rw [e,cellsM_append,cellsM_cons]
  simpa using hown
 ·rw [h.coll,drop_of hx,collX_step _ _ _ hins]
 ·rw [e];have:=h.len;omega
 ·exact Short.ins hins h.short hsx
theorem CollI.set {g c k:Nat} {x y:L2} {s:ByteArray} (hr:Res w) (h:CollI w ls i W (.slice (some ⟨g,0,none⟩) a.length c) a) (hx:ls[i]?=some x) (hy:a[k]?=some y) (hins:insX a x=.ok (a.set k (y.1,s))) (hsx:x.1.size≤270000∧x.2.size≤270000) :
  CollI w ls (i+1) (W.setCell ⟨g,k*2+1,none⟩ (.string s)) (.slice (some ⟨g,0,none⟩) a.length c) (a.set k (y.1,s)):=by
 obtain ⟨r1,r2⟩:=World.ownsRow.stored h.own (k*2+1) (.string s)
 have hg:=(h.own.lt g rfl).1
 refine ⟨grow_nw h.nw hr r2 (fun r e=>by cases e;exact hg),?_,?_,?_,?_⟩
 ·unfold OwnM
  rw [List.length_set,cellsM_set s hy]
  exact r1
 ·rw [h.coll,drop_of hx,collX_step _ _ _ hins]
 ·rw [List.length_set];have:=h.len;omega
 ·exact Short.ins hins h.short hsx
end
end Go.Proofs.YtigapglmipmbeaaGreatDoor
namespace Go.Proofs.YtigapglmipmbeaaGreatDoor.S2
open Go.RowKit Go.Proofs.YtigapglmipmbeaaGreatDoor
def bareRead (o:Oper):Bool:=pureRead { o with guard:=none }
def stageOk (ops:List Oper) (H:List Nat):Bool :=
 (List.range ops.length).all fun j=>match ops[j]? with
  | none=>true
  | some o=>ownEdges j o&&noDefer o&&noSel o&&(match o.guard with|none=>true|some (k,_)=>waitsOn o k) &&
   (if H.contains j then bareRead o&&farOf o o.dst else true) &&
   (List.range ops.length).all fun i=>i==j || (match ops[i]? with|none=>true|some h=>(waitsOn o i || (farOf o h.dst || (waitsOn h j&&!H.contains i)))&&(h.dst.isNone || h.dst != o.dst))
structure StOk (ops:List Oper) (H:List Nat) (j:Nat) (o:Oper):Prop where
 edges:ownEdges j o=true
 nd:noDefer o=true
 ns:noSel o=true
 gd:∀ k b,o.guard=some (k,b)→waitsOn o k=true
 rd:j∈H→bareRead o=true∧farOf o o.dst=true
 far:∀ i h,i≠j→ops[i]?=some h→(waitsOn o i=true∨farOf o h.dst=true∨(waitsOn h j=true∧i ∉ H))∧(h.dst=none∨h.dst≠o.dst)
theorem stage_at {ops:List Oper} {H:List Nat} (hok:stageOk ops H=true) {j:Nat} {o:Oper} (hj:ops[j]?=some o):StOk ops H j o:=by
 have hlt:j < ops.length:=(List.getElem?_eq_some_iff.1 hj).1
 have h2:=List.all_eq_true.1 hok j (List.mem_range.2 hlt)
 rw [hj] at h2
 simp only [Bool.and_eq_true] at h2
 obtain ⟨⟨⟨⟨⟨h3,h4⟩,h5⟩,h6⟩,h7⟩,h8⟩:=h2
 refine ⟨h3,h4,h5,fun k b hg=>?_,fun hm=>?_,fun i h hne hi=>?_⟩
 ·rw [hg] at h6;exact h6
 ·rw [if_pos (by simpa using hm)] at h7;simpa using h7
 ·have:=List.all_eq_true.1 h8 i (List.mem_range.2 (List.getElem?_eq_some_iff.1 hi).1)
  rw [hi] at this
  simp only [Bool.or_eq_true,beq_iff_eq,Bool.and_eq_true,Option.isNone_iff_eq_none,bne_iff_ne] at this
  rcases this with h|h
  ·exact absurd h hne
  ·refine ⟨?_,h.2⟩
   rcases h.1 with h1|h1|h1
   ·exact .inl h1
   ·exact .inr (.inl h1)
   ·exact .inr (.inr ⟨h1.1,by have h2:=h1.2;simpa using h2⟩)
section
variable {F:Fence} {n:Nat} {P:Program} {C:World→Prop} {ops:List Oper} {H:List Nat}
theorem bare_runs {o:Oper} {a:Act} {K':Act→World→Prop} {Q:Exit→Act→World→Prop} {w:World} {v:Value} (hp:bareRead o=true) (hrun:o.quietAtIn F n P a C w v) (hK:K' (a.put o.dst v) w)
  (ha:∀ f,o.about P w a.eval=some f→F.fn f):o.wpIn F n P a w K' Q:=pure_runs (o:={ o with guard:=none }) hp hrun hK ha
theorem wanted_of {o:Oper} {a b:Act} (h:∀ k bb,o.guard=some (k,bb)→∀ s,(ops[k]?).bind (·.dst)=some s→a.tmps[s]?=b.tmps[s]?) :
  Region.wanted o (yielded ops.toArray a.tmps)=Region.wanted o (yielded ops.toArray b.tmps):=by
 unfold Region.wanted
 cases hg:o.guard with
 | none=>rfl
 | some kb =>
  obtain ⟨k,bb⟩:=kb
  have:yielded ops.toArray a.tmps k=yielded ops.toArray b.tmps k:=by
   unfold yielded
   rw [List.getElem?_toArray]
   cases hd:(ops[k]?).bind (·.dst) with
   | none=>rfl
   | some s =>
    simp only [Option.bind_some]
    rw [h k bb hg s hd]
  simp only [this]
def HeadVal (F:Fence) (n:Nat) (P:Program) (C:World→Prop) (ops:List Oper) (o:Oper) (b:Act) (v:Value):Prop :=
 o.askedIn F P b C∧((Region.wanted o (yielded ops.toArray b.tmps)=true∧∀ w,C w→o.quietAtIn F n P b C w v)∨(Region.wanted o (yielded ops.toArray b.tmps)=false∧v=undef))
theorem slot_other {b:Act} {d:Option Tmp} {u:Value} {s:Tmp} (h:d≠some s):(b.put d u).tmps[s]?=b.tmps[s]?:=by
 cases d with
 | none=>rfl
 | some e=>rw [put_get,if_neg (fun h'=>h (by rw [h'.1]))]
theorem HeadVal.of {o:Oper} {a b:Act} {v:Value} (h:HeadVal F n P C ops o b v) (hns:noSel o=true) (hev:∀ x∈o.op.operands,a.eval x=b.eval x)
  (hg:∀ k bb,o.guard=some (k,bb)→∀ s,(ops[k]?).bind (·.dst)=some s→a.tmps[s]?=b.tmps[s]?):HeadVal F n P C ops o a v:=by
 obtain ⟨h1,h2⟩:=h
 obtain ⟨e1,e2⟩:=quietAt_of (P:=P) (sel_of hns) hev
 refine ⟨fun w hw f hf=>h1 w hw f (by rw [← e2];exact hf),?_⟩
 rw [wanted_of hg]
 rcases h2 with ⟨hw,hq⟩|h2
 ·refine .inl ⟨hw,fun w hw=>?_⟩
  have:=hq w hw
  unfold Oper.quietAtIn at this ⊢
  rw [e1]
  exact this
 ·exact .inr h2
def wpStage (F:Fence) (n:Nat) (P:Program) (ops:List Oper) (H:List Nat) (C:World→Prop) (waits:Nat→Bool) (Q':Act→World→Prop):Nat→Array Bool→Act→World→Prop
 | 0,LT,b,w=>Region.ready .any ops.toArray LT=[]∧Q' b w
 | f+1,LT,b,w =>
  (∃ i o,i∈H∧i∈Region.ready .any ops.toArray LT∧ops[i]?=some o∧∃ v,HeadVal F n P C ops o b v∧wpStage F n P ops H C waits Q' f (LT.setIfInBounds i true) (b.put o.dst v) w) ∨
  ((Region.ready .any ops.toArray LT=[]→Q' b w) ∧
   ∀ j∈Region.ready .any ops.toArray LT,∀ o,ops[j]?=some o→wpListIn F n P ops.toArray (fun e a' w'=>e=.normal∧(waits j=false→C w')∧wpStage F n P ops H C waits Q' f (LT.setIfInBounds j true) a' w') [o] b w)
def Owed (H:List Nat) (L LT:Array Bool) (i:Nat):Prop:=i∈H∧LT[i]?=some true∧L[i]?=some false
def Known (F:Fence) (n:Nat) (P:Program) (C:World→Prop) (ops:List Oper) (H:List Nat) (L LT:Array Bool) (b:Act):Prop :=
 ∀ i o,Owed H L LT i→ops[i]?=some o→∃ v,b.put o.dst v=b∧HeadVal F n P C ops o b v
theorem set_get {L:Array Bool} {j i:Nat} (hj:j < L.size):(L.setIfInBounds j true)[i]?=if j=i then some true else L[i]?:=by
 by_cases h:j=i
 ·subst h;rw [if_pos rfl,Array.getElem?_setIfInBounds_self_of_lt hj]
 ·rw [if_neg h,Array.getElem?_setIfInBounds_ne h]
theorem get_or {L:Array Bool} {i:Nat} (h:i < L.size):L[i]?=some true∨L[i]?=some false:=by
 rw [Array.getElem?_eq_getElem h]
 cases L[i]<;>simp
theorem owed_agree (hok:stageOk ops H=true) {L LT:Array Bool} (_hs1:L.size=ops.length) {a b:Act} (hl:Lack ops (Owed H L LT) a b) {j:Nat} {o:Oper} (hoj:ops[j]?=some o) (hself:Owed H L LT j→farOf o o.dst=true)
  (hall:∀ k,waitsOn o k=true→L[k]?=some true):(∀ x∈o.op.operands,a.eval x=b.eval x)∧∀ k bb,o.guard=some (k,bb)→∀ s,(ops[k]?).bind (·.dst)=some s→a.tmps[s]?=b.tmps[s]?:=by
 have hS:=stage_at hok hoj
 refine ⟨hl.eval fun i h' hi hh d hd=>?_,fun k bb hg s hs=>hl.same s fun i h' hi hh e=>?_⟩
 ·by_cases hij:i=j
  ·subst hij
   rw [hoj] at hh;cases hh
   exact farOf_spec (hself hi) d hd
  ·rcases (hS.far i h' hij hh).1 with hw|hf|hf
   ·have:=hall i hw
    rw [hi.2.2] at this;cases this
   ·exact farOf_spec hf d hd
   ·exact absurd hi.1 hf.2
 ·have hk:=hall k (hS.gd k bb hg)
  have hik:i≠k:=fun e'=>by subst e';rw [hi.2.2] at hk;cases hk
  obtain ⟨ok,hok',hd⟩:=Option.bind_eq_some_iff.1 hs
  rcases ((stage_at hok hok').far i h' hik hh).2 with h0|h0
  ·rw [h0] at e;cases e
  ·exact h0 (by rw [e,hd])
theorem known_put (hok:stageOk ops H=true) {L LT:Array Bool} {b:Act} (hk:Known F n P C ops H L LT b) {j:Nat} {o:Oper} (hoj:ops[j]?=some o) (hj:LT[j]?=some false)
  (hcl:∀ i o,i∈H→LT[i]?=some true→ops[i]?=some o→∀ k,waitsOn o k=true→LT[k]?=some true) (u:Value) {i:Nat} {oi:Oper} (hi:Owed H L LT i) (hoi:ops[i]?=some oi) (hno:waitsOn o i=true→j∈H) :
  ∃ v,(b.put o.dst u).put oi.dst v=b.put o.dst u∧HeadVal F n P C ops oi (b.put o.dst u) v:=by
 obtain ⟨v,h1,h2⟩:=hk i oi hi hoi
 have hij:i≠j:=fun e=>by subst e;rw [hi.2.1] at hj;cases hj
 have hSi:=stage_at hok hoi
 have hSj:=stage_at hok hoj
 have hw:∀ k,waitsOn oi k=true→k≠j:=fun k hk e=>by
  subst e
  have:=hcl i oi hi.1 hi.2.1 hoi k hk
  rw [hj] at this;cases this
 have hfar:=(hSi.far j o (fun e=>hij e.symm) hoj)
 refine ⟨v,?_,h2.of hSi.ns (operands_far (farOf_spec ?_)) fun k bb hg s hs=>slot_other fun e=>?_⟩
 ·rcases hfar.2 with h|h
  ·rw [h];exact h1
  ·have hc:=Act.put_comm b (x:=oi.dst) (y:=o.dst) v u (fun d h1 h2=>h (h2.trans h1.symm))
   rw [← hc,h1]
 ·rcases hfar.1 with h|h|h
  ·exact absurd rfl (hw j h)
  ·exact h
  ·exact absurd (hno h.1) h.2
 ·have hkj:=hw k (hSi.gd k bb hg)
  obtain ⟨ok,hok',hd⟩:=Option.bind_eq_some_iff.1 hs
  rcases (hSj.far k ok hkj hok').2 with h0|h0
  ·rw [h0] at hd;cases hd
  ·exact h0 (by rw [e,hd])
structure StInv (F:Fence) (n:Nat) (P:Program) (C:World→Prop) (ops:List Oper) (H:List Nat) (L LT:Array Bool) (a b:Act) (w:World):Prop where
 s1:L.size=ops.length
 s2:LT.size=ops.length
 same:∀ i:Nat,i < ops.length→i ∉ H→L[i]?=LT[i]?
 le:∀ i:Nat,L[i]?=some true→LT[i]?=some true
 closed:∀ (i:Nat) (o:Oper),i∈H→LT[i]?=some true→ops[i]?=some o→∀ k,waitsOn o k=true→LT[k]?=some true
 known:(∀ i∈H,i < ops.length→L[i]?=some true)∨(C w∧Known F n P C ops H L LT b)
 lack:Lack ops (Owed H L LT) a b
theorem StInv.hoist (hok:stageOk ops H=true) {L LT:Array Bool} {a b:Act} {w:World} (h:StInv F n P C ops H L LT a b w) {i:Nat} {o:Oper} (hi:i∈H) (hoi:ops[i]?=some o) (hLT:LT[i]?=some false)
  (hall:∀ k,waitsOn o k=true→LT[k]?=some true) {v:Value} (hv:HeadVal F n P C ops o b v):StInv F n P C ops H L (LT.setIfInBounds i true) a (b.put o.dst v) w:=by
 have hil:=(List.getElem?_eq_some_iff.1 hoi).1
 have hlt:i < LT.size:=by rw [h.s2];exact hil
 have hLi:L[i]?=some false:=by
  rcases get_or (L:=L) (i:=i) (by rw [h.s1];exact hil) with e|e
  ·have:=h.le i e;rw [hLT] at this;cases this
  ·exact e
 have hS:=stage_at hok hoi
 have hwi:waitsOn o i=true→False:=fun e=>by have:=hall i e;rw [hLT] at this;cases this
 refine ⟨h.s1,by simpa using h.s2,fun k hk hkH=>?_,fun k hk=>?_,fun k ok hk hkT hok' j hj=>?_,?_,?_⟩
 ·rw [set_get hlt,if_neg (fun e=>hkH (by rw [← e];exact hi))];exact h.same k hk hkH
 ·rw [set_get hlt];split
  ·rfl
  ·exact h.le k hk
 ·rw [set_get hlt]
  by_cases e:i=j
  ·rw [if_pos e]
  ·rw [if_neg e]
   by_cases e2:i=k
   ·subst e2;rw [hoi] at hok';cases hok';exact hall j hj
   ·rw [set_get hlt,if_neg e2] at hkT;exact h.closed k ok hk hkT hok' j hj
 ·rcases h.known with hk|⟨hC,hk⟩
  ·have:=hk i hi hil;rw [hLi] at this;cases this
  ·refine .inr ⟨hC,fun k ok hkO hok'=>?_⟩
   by_cases e:i=k
   ·subst e
    rw [hoi] at hok';cases hok'
    refine ⟨v,put_put_same _ _ _,hv.of hS.ns (operands_far (farOf_spec (hS.rd hi).2)) fun k bb hg s hs=>slot_other fun e=>?_⟩
    have hki:k≠i:=fun e'=>by subst e';exact hwi (hS.gd k bb hg)
    obtain ⟨ok,hok',hd⟩:=Option.bind_eq_some_iff.1 hs
    rcases (hS.far k ok hki hok').2 with h0|h0
    ·rw [h0] at hd;cases hd
    ·exact h0 (by rw [e,hd])
   ·refine known_put hok hk hoi hLT h.closed v ⟨hkO.1,?_,hkO.2.2⟩ hok' (fun _=>hi)
    have:=hkO.2.1
    rwa [set_get hlt,if_neg e] at this
 ·refine ⟨h.lack.defers.trans (put_defers _ _ _).symm,h.lack.size.trans (put_size _ _ _).symm,fun s hs=>?_⟩
  have h1:=h.lack.same s fun k ok hk hok'=>hs k ok ⟨hk.1,by rw [set_get hlt];split;rfl;exact hk.2.1,hk.2.2⟩ hok'
  rw [h1,slot_other (hs i o ⟨hi,by rw [set_get hlt,if_pos rfl],hLi⟩ hoi)]
theorem StInv.paid (_hok:stageOk ops H=true) {L LT:Array Bool} {a b:Act} {w:World} (h:StInv F n P C ops H L LT a b w) {j:Nat} {o:Oper} (hoj:ops[j]?=some o) (hO:Owed H L LT j) {v:Value} (hb:b.put o.dst v=b) :
  StInv F n P C ops H (L.setIfInBounds j true) LT (a.put o.dst v) b w:=by
 have hjl:j < L.size:=by rw [h.s1];exact (List.getElem?_eq_some_iff.1 hoj).1
 have sub:∀ k,Owed H (L.setIfInBounds j true) LT k→Owed H L LT k:=fun k hk=>by
  refine ⟨hk.1,hk.2.1,?_⟩
  have:=hk.2.2
  rw [set_get hjl] at this
  split at this
  ·cases this
  ·exact this
 refine ⟨by simpa using h.s1,h.s2,fun k hk hkH=>?_,fun k hk=>?_,h.closed,?_,?_⟩
 ·rw [set_get hjl,if_neg (fun e=>hkH (by rw [← e];exact hO.1))];exact h.same k hk hkH
 ·rw [set_get hjl] at hk
  split at hk
  ·rename_i e;rw [← e];exact hO.2.1
  ·exact h.le k hk
 ·rcases h.known with hk|⟨hC,hk⟩
  ·exact .inl fun k hkH hkl=>by rw [set_get hjl];split;rfl;exact hk k hkH hkl
  ·exact .inr ⟨hC,fun k ok hkO=>hk k ok (sub k hkO)⟩
 ·refine h.lack.head hoj hb fun k hk=>?_
  by_cases e:j=k
  ·exact .inl e.symm
  ·exact .inr ⟨hk.1,hk.2.1,by rw [set_get hjl,if_neg e];exact hk.2.2⟩
theorem StInv.step (hok:stageOk ops H=true) {L LT:Array Bool} {a b a' b':Act} {w w':World} (h:StInv F n P C ops H L LT a b w) {j:Nat} {o:Oper} (hoj:ops[j]?=some o) (_hL:L[j]?=some false) (hLT:LT[j]?=some false)
  (hall:∀ k,waitsOn o k=true→L[k]?=some true) {u:Value} {b0:Act} (hkn:Known F n P C ops H L LT b→Known F n P C ops H L LT b0) (hb':b'=b0.put o.dst u) (hl':Lack ops (Owed H L LT) a' b') (hC':C w'∨∀ i∈H,i < ops.length→waitsOn o i=true) :
  StInv F n P C ops H (L.setIfInBounds j true) (LT.setIfInBounds j true) a' b' w':=by
 have hjl:j < L.size:=by rw [h.s1];exact (List.getElem?_eq_some_iff.1 hoj).1
 have hjt:j < LT.size:=by rw [h.s2];exact (List.getElem?_eq_some_iff.1 hoj).1
 have sub:∀ k,Owed H (L.setIfInBounds j true) (LT.setIfInBounds j true) k→Owed H L LT k:=fun k hk=>by
  have h1:=hk.2.1
  have h2:=hk.2.2
  rw [set_get hjl] at h2
  rw [set_get hjt] at h1
  split at h2
  ·cases h2
  ·rename_i e;rw [if_neg e] at h1;exact ⟨hk.1,h1,h2⟩
 refine ⟨by simpa using h.s1,by simpa using h.s2,fun k hk hkH=>?_,fun k hk=>?_,fun k ok hk hkT hok' m hm=>?_,?_,?_⟩
 ·rw [set_get hjl,set_get hjt];split
  ·rfl
  ·exact h.same k hk hkH
 ·rw [set_get hjl] at hk;rw [set_get hjt]
  split
  ·rfl
  ·rename_i e;rw [if_neg e] at hk;exact h.le k hk
 ·rw [set_get hjt]
  split
  ·rfl
  ·by_cases e2:j=k
   ·subst e2;rw [hoj] at hok';cases hok';exact h.le m (hall m hm)
   ·rw [set_get hjt,if_neg e2] at hkT;exact h.closed k ok hk hkT hok' m hm
 ·rcases h.known with hk|⟨hC,hk⟩
  ·exact .inl fun k hkH hkl=>by rw [set_get hjl];split;rfl;exact hk k hkH hkl
  ·rcases hC' with hC'|hC'
   ·refine .inr ⟨hC',fun k ok hkO hok'=>?_⟩
    rw [hb']
    exact known_put hok (hkn hk) hoj hLT h.closed u (sub k hkO) hok' (fun hw=>by
     have h1:=hall k hw
     have h2:=(sub k hkO).2.2
     rw [h1] at h2;cases h2)
   ·exact .inl fun k hkH hkl=>by rw [set_get hjl];split;rfl;exact hall k (hC' k hkH hkl)
 ·exact hl'.mono fun k hkl hk=>by
   refine ⟨hk.1,?_,?_⟩
   ·rw [set_get hjt];split;rfl;exact hk.2.1
   ·rw [set_get hjl]
    split
    ·rename_i e;subst e;have:=hk.2.1;rw [hLT] at this;cases this
    ·exact hk.2.2
theorem getD_false {L:Array Bool} {i:Nat} (hi:i < L.size) (h:L.getD i true=false):L[i]?=some false:=by
 rcases get_or hi with e|e
 ·rw [getD_of e] at h;cases h
 ·exact e
theorem ready_exists (hok:stageOk ops H=true) {L:Array Bool} (hsz:L.size=ops.length) (hu:unlisted ops.length L≠0):∃ i,i∈Region.ready .any ops.toArray L:=by
 have hne:∃ i,i < ops.length∧L.getD i true=false:=by
  have hpos:0 < ((List.range ops.length).filter fun i=>!L.getD i true).length:=by unfold unlisted at hu;omega
  obtain ⟨i,hi⟩:=List.exists_mem_of_length_pos hpos
  obtain ⟨g1,g2⟩:=List.mem_filter.1 hi
  exact ⟨i,List.mem_range.1 g1,by simpa using g2⟩
 obtain ⟨i0,⟨hi0,hu0⟩,hmin⟩:=exists_least (p:=fun i=>i < ops.length∧L.getD i true=false) hne
 have ho:ops[i0]?=some ops[i0]:=by simp [hi0]
 refine ⟨i0,mem_ready.2 ⟨hu0,ops[i0],by simp [hi0],fun e he hb=>?_⟩⟩
 have hlt:=ownEdges_spec (stage_at hok ho).edges e he hb
 have hnot:¬ L.getD e.on true=false:=fun hh=>by have:=hmin e.on ⟨by omega,hh⟩;omega
 exact getD_of (listed_of (k:=ops.length) (by omega) (by omega) (.inl (by simpa using hnot)))
theorem ready_none {L:Array Bool} (hsz:L.size=ops.length) (hu:unlisted ops.length L=0):Region.ready .any ops.toArray L=[]:=by
 rw [List.eq_nil_iff_forall_not_mem]
 intro j hj
 obtain ⟨hj1,o,ho,_⟩:=mem_ready.1 hj
 have hlt:j < ops.length:=by have:=(Array.getElem?_eq_some_iff.1 ho).1;simpa using this
 have:=listed_of (k:=ops.length) (by omega) hlt (.inr (unlisted_zero hu (by omega) j hlt))
 rw [getD_of this] at hj1;cases hj1
theorem ready_facts (hok:stageOk ops H=true) {L:Array Bool} (hsz:L.size=ops.length) {j:Nat} (hj:j∈Region.ready .any ops.toArray L):∃ o,ops[j]?=some o∧ops.toArray[j]?=some o∧L[j]?=some false∧∀ k,waitsOn o k=true→L[k]?=some true:=by
 obtain ⟨hj1,o,ho,hall⟩:=mem_ready.1 hj
 have hjl:j < ops.length:=by have:=(Array.getElem?_eq_some_iff.1 ho).1;simpa using this
 have hoj:ops[j]?=some o:=by rw [← ho];simp
 refine ⟨o,hoj,ho,getD_false (by omega) hj1,fun k hk=>?_⟩
 obtain ⟨e,he,hb,hon⟩:=waitsOn_spec hk
 have h1:=hall e he hb
 have hel:=ownEdges_spec (stage_at hok hoj).edges e he hb
 rw [hon] at h1 hel
 exact listed_of (k:=ops.length) (by omega) (by omega) (.inr h1)
theorem ready_mono (hok:stageOk ops H=true) {L LT:Array Bool} (hs1:L.size=ops.length) (_hs2:LT.size=ops.length) (hle:∀ i:Nat,L[i]?=some true→LT[i]?=some true) {j:Nat} (hj:j∈Region.ready .any ops.toArray L) (hLT:LT[j]?=some false):j∈Region.ready .any ops.toArray LT:=by
 obtain ⟨o,hoj,ho,hL,hall⟩:=ready_facts hok hs1 hj
 refine mem_ready.2 ⟨getD_of hLT,o,ho,fun e he hb=>?_⟩
 have hw:waitsOn o e.on=true:=by
  unfold waitsOn
  rw [Array.any_eq_true']
  exact ⟨e,he,by simp [hb]⟩
 exact getD_of (hle _ (hall _ hw))
theorem Known.defers {L LT:Array Bool} {b:Act} (h:Known F n P C ops H L LT b) (ds:List Deferred):Known F n P C ops H L LT { b with defers:=ds }:=by
 intro i o hi ho
 obtain ⟨u,h2,h3⟩:=h i o hi ho
 refine ⟨u,?_,h3⟩
 cases hd:o.dst with
 | none=>rfl
 | some d =>
  rw [hd] at h2
  have:=congrArg Act.tmps h2
  simp only [Act.put] at this ⊢
  rw [this]
theorem stage_paid (hok:stageOk ops H=true) {L LT:Array Bool} {a b:Act} {w:World} (hI:StInv F n P C ops H L LT a b w) {j:Nat} {o:Oper} (hO:Owed H L LT j) (hoj:ops[j]?=some o) (ho:ops.toArray[j]?=some o)
  (hall:∀ k,waitsOn o k=true→L[k]?=some true) {Q:Exit→Act→World→Prop} {K:Act→World→Prop} (hK:∀ v,b.put o.dst v=b→K (a.put o.dst v) w):wpOpIn F n P ops.toArray Q j K a w:=by
 have hS:=stage_at hok hoj
 rcases hI.known with hk|⟨hC,hk⟩
 ·have:=hk j hO.1 (List.getElem?_eq_some_iff.1 hoj).1;rw [hO.2.2] at this;cases this
 ·obtain ⟨v,hb,hv⟩:=hk j o hO hoj
  obtain ⟨hev,hgd⟩:=owed_agree hok hI.s1 hI.lack hoj (fun h=>(hS.rd h.1).2) hall
  obtain ⟨hask,hcase⟩:=hv.of hS.ns hev hgd
  unfold wpOpIn
  rw [ho]
  dsimp only
  rcases hcase with ⟨hw,hq⟩|⟨hw,rfl⟩
  ·rw [if_pos hw]
   exact bare_runs (hS.rd hO.1).1 (hq w hC) (hK v hb) (fun f hf=>hask w hC f hf)
  ·rw [if_neg (by rw [hw];simp)]
   exact ⟨fun f hf=>hask w hC f hf,hK _ hb⟩
theorem stage_run (hok:stageOk ops H=true) (waits:Nat→Bool) (hw:∀ j o,ops[j]?=some o→waits j=true→∀ i∈H,i < ops.length→waitsOn o i=true) (Q:Exit→Act→World→Prop):∀ (g f:Nat) (L LT:Array Bool) (a b:Act) (w:World),
  unlisted ops.length L=g→unlisted ops.length LT=f→StInv F n P C ops H L LT a b w→wpStage F n P ops H C waits (fun a w=>Q .normal a w) f LT b w→wpAnyIn F n P .any ops.toArray Q g L a w:=by
 intro g
 induction g with
 | zero =>
  intro f L LT a b w hg hf hI h
  have hall:∀ i,i < ops.length→L[i]?=some true:=fun i hi=>listed_of (k:=ops.length) (by rw [hI.s1];omega) hi (.inr (unlisted_zero hg (by rw [hI.s1];omega) i hi))
  have hut:unlisted ops.length LT=0:=by
   unfold unlisted
   rw [List.length_eq_zero_iff,List.filter_eq_nil_iff]
   intro i hi
   have:=hI.le i (hall i (List.mem_range.1 hi))
   simp [Array.getD_eq_getD_getElem?,this]
  rw [hut] at hf
  subst hf
  refine ⟨ready_none hI.s1 hg,?_⟩
  rw [hI.lack.full fun i hi hn=>by have:=hall i hi;rw [hn.2.2] at this;cases this]
  exact h.2
 | succ g ih =>
  intro f
  have less:∀ {L:Array Bool} {j k:Nat},L.size=ops.length→j < ops.length→L[j]?=some false→unlisted ops.length L=k+1→unlisted ops.length (L.setIfInBounds j true)=k:=fun hsz hj hf hu=>by
   have:=unlisted_set hj (by omega) (getD_of (d:=true) hf)
   omega
  induction f with
  | zero =>
   intro L LT a b w hg hf hI h
   obtain ⟨r0,hr0⟩:=ready_exists hok hI.s1 (by omega)
   refine ⟨fun e=>(by rw [e] at hr0;cases hr0),fun j hj=>?_⟩
   obtain ⟨o,hoj,ho,hL,hall⟩:=ready_facts hok hI.s1 hj
   have hjl:=(List.getElem?_eq_some_iff.1 hoj).1
   have hLT:LT[j]?=some true:=listed_of (k:=ops.length) (by rw [hI.s2];omega) hjl (.inr (unlisted_zero hf (by rw [hI.s2];omega) j hjl))
   have hjH:j∈H:=by
    by_cases hm:j∈H
    ·exact hm
    ·have:=hI.same j hjl hm;rw [hL,hLT] at this;cases this
   have hO:Owed H L LT j:=⟨hjH,hLT,hL⟩
   exact stage_paid hok hI hO hoj ho hall fun v hb=>ih 0 _ LT _ b w (less hI.s1 hjl hL hg) hf (hI.paid hok hoj hO hb) h
  | succ f ihf =>
   intro L LT a b w hg hf hI h
   rcases h with ⟨i,o,hiH,hir,hoi,v,hv,hst⟩|⟨h1,h2⟩
   ·obtain ⟨o',hoi',_,hLTi,halli⟩:=ready_facts hok hI.s2 hir
    rw [hoi] at hoi';cases hoi'
    have hil:=(List.getElem?_eq_some_iff.1 hoi).1
    exact ihf L _ a _ w hg (less hI.s2 hil hLTi hf) (hI.hoist hok hiH hoi hLTi halli hv) hst
   ·obtain ⟨r0,hr0⟩:=ready_exists hok hI.s1 (by omega)
    refine ⟨fun e=>(by rw [e] at hr0;cases hr0),fun j hj=>?_⟩
    obtain ⟨o,hoj,ho,hL,hall⟩:=ready_facts hok hI.s1 hj
    have hjl:=(List.getElem?_eq_some_iff.1 hoj).1
    rcases get_or (L:=LT) (i:=j) (by rw [hI.s2];exact hjl) with hLT|hLT
    ·have hjH:j∈H:=by
      by_cases hm:j∈H
      ·exact hm
      ·have:=hI.same j hjl hm;rw [hL,hLT] at this;cases this
     have hO:Owed H L LT j:=⟨hjH,hLT,hL⟩
     exact stage_paid hok hI hO hoj ho hall fun v hb=>ih (f+1) _ LT _ b w (less hI.s1 hjl hL hg) hf (hI.paid hok hoj hO hb) (.inr ⟨h1,h2⟩)
    ·have hrT:=ready_mono hok hI.s1 hI.s2 hI.le hj hLT
     have h3:=h2 j hrT o hoj
     have hS:=stage_at hok hoj
     obtain ⟨hev,hgd⟩:=owed_agree hok hI.s1 hI.lack hoj (fun h=>by have:=h.2.1;rw [hLT] at this;cases this) hall
     obtain ⟨e1,e2⟩:=quietAt_of (P:=P) (sel_of hS.ns) hev
     have hC':∀ w',(waits j=false→C w')→(C w'∨∀ i∈H,i < ops.length→waitsOn o i=true):=fun w' h=>by
      cases hwj:waits j with
      | true=>exact .inr (hw j o hoj hwj)
      | false=>exact .inl (h hwj)
     simp only [wpListIn] at h3
     unfold wpOpIn
     rw [ho]
     dsimp only
     rw [wanted_of hgd]
     by_cases hwt:Region.wanted o (yielded ops.toArray b.tmps)=true
     ·rw [if_pos hwt] at h3 ⊢
      refine wpIn_move hS.nd e1 (e2 w) (fun v w' h'=>?_) (fun d w' h'=>?_) (fun e a w h=>h.1) h3
      ·exact ih f _ _ _ _ w' (less hI.s1 hjl hL hg) (less hI.s2 hjl hLT hf) (hI.step hok hoj hL hLT hall id rfl (hI.lack.tail _ _) (hC' w' h'.2.1)) h'.2.2
      ·exact ih f _ _ _ _ w' (less hI.s1 hjl hL hg) (less hI.s2 hjl hLT hf) (hI.step hok hoj hL hLT hall (fun hk=>hk.defers _) rfl ((hI.lack.defer d).tail _ _) (hC' w' h'.2.1)) h'.2.2
     ·rw [if_neg hwt] at h3 ⊢
      obtain ⟨h4,h5⟩:=h3
      exact ⟨fun f hf=>h4 f (by rw [← e2 w];exact hf),ih f _ _ _ _ w (less hI.s1 hjl hL hg) (less hI.s2 hjl hLT hf) (hI.step hok hoj hL hLT hall id rfl (hI.lack.tail _ _) (hC' w h5.2.1)) h5.2.2⟩
def hoistOk (ops:List Oper) (H:List Nat):List Nat→Array Bool→Bool
 | [],_=>true
 | i::l,LT=>H.contains i&&!(LT.getD i true)&&(match ops[i]? with|none=>false|some o=>o.after.all fun e=>!Region.binds .any e || LT.getD e.on false)&&hoistOk ops H l (LT.setIfInBounds i true)
def listAll (hs:List Nat) (LT:Array Bool):Array Bool:=hs.foldl (fun LT i=>LT.setIfInBounds i true) LT
theorem stage_reads {waits:Nat→Bool} {Q':Act→World→Prop} {w:World}:∀ (hs:List Nat) (f:Nat) (LT:Array Bool) (b:Act),hoistOk ops H hs LT=true →
  wpQuietIn F n P ops.toArray C (fun b'=>wpStage F n P ops H C waits Q' f (listAll hs LT) b' w) (pickOps ops hs) b→wpStage F n P ops H C waits Q' (f+hs.length) LT b w
 | [],f,LT,b,_,h=>h
 | i::l,f,LT,b,hh,h=>by
  simp only [hoistOk,Bool.and_eq_true,Bool.not_eq_true'] at hh
  obtain ⟨⟨⟨h1,h2⟩,h3⟩,h4⟩:=hh
  cases ho:ops[i]? with
  | none=>rw [ho] at h3;cases h3
  | some o =>
   rw [ho] at h3
   rw [pick_cons,ho] at h
   obtain ⟨hask,h⟩:=h
   have hr:i∈Region.ready .any ops.toArray LT:=mem_ready.2 ⟨h2,o,by simpa using ho,fun e he hb=>by
    have:=Array.all_eq_true_iff_forall_mem.1 h3 e he
    rw [hb] at this
    simpa using this⟩
   have hH:i∈H:=by simpa using h1
   by_cases hwt:Region.wanted o (yielded ops.toArray b.tmps)=true
   ·rw [if_pos hwt] at h
    obtain ⟨v,hv,h⟩:=h
    exact .inl ⟨i,o,hH,hr,ho,v,⟨hask,.inl ⟨hwt,hv⟩⟩,stage_reads l f _ _ h4 h⟩
   ·rw [if_neg hwt] at h
    exact .inl ⟨i,o,hH,hr,ho,undef,⟨hask,.inr ⟨by simpa using hwt,rfl⟩⟩,stage_reads l f _ _ h4 h⟩
def StagePost (F:Fence) (n:Nat) (P:Program) (ops:List Oper) (H:List Nat) (C:World→Prop) (waits:Nat→Bool) (Q':Act→World→Prop) (f:Nat) (LT:Array Bool) (i:Nat):Exit→Act→World→Prop :=
 fun e a' w'=>e=.normal∧(waits i=false→C w')∧wpStage F n P ops H C waits Q' f (LT.setIfInBounds i true) a' w'
theorem stage_post {waits:Nat→Bool} {Q':Act→World→Prop} {f:Nat} {LT:Array Bool} {i:Nat} {a:Act} {w:World} (hC:C w) (h:wpStage F n P ops H C waits Q' f (LT.setIfInBounds i true) a w):StagePost F n P ops H C waits Q' f LT i .normal a w:=⟨rfl,fun _=>hC,h⟩
theorem stage_last {waits:Nat→Bool} {Q':Act→World→Prop} {f:Nat} {LT:Array Bool} {i:Nat} {a:Act} {w:World} (hw:waits i=true) (h:wpStage F n P ops H C waits Q' f (LT.setIfInBounds i true) a w):StagePost F n P ops H C waits Q' f LT i .normal a w:=⟨rfl,fun e=>(by rw [hw] at e;cases e),h⟩
theorem stage_one {waits:Nat→Bool} {Q':Act→World→Prop} {f:Nat} {LT:Array Bool} {a:Act} {w:World} (i:Nat) {o:Oper} (hr:Region.ready .any ops.toArray LT=[i]) (ho:ops[i]?=some o)
  (h:wpListIn F n P ops.toArray (StagePost F n P ops H C waits Q' f LT i) [o] a w):wpStage F n P ops H C waits Q' (f+1) LT a w :=
 .inr ⟨fun e=>(by rw [hr] at e;cases e),fun j hj o' ho'=>by
  rw [hr] at hj
  obtain rfl:j=i:=by simpa using hj
  rw [ho] at ho'
  cases ho'
  exact h⟩
theorem stage_two {waits:Nat→Bool} {Q':Act→World→Prop} {f:Nat} {LT:Array Bool} {a:Act} {w:World} (i j:Nat) {o o2:Oper} (hr:Region.ready .any ops.toArray LT=[i,j]) (ho:ops[i]?=some o) (ho2:ops[j]?=some o2)
  (h:wpListIn F n P ops.toArray (StagePost F n P ops H C waits Q' f LT i) [o] a w) (h2:wpListIn F n P ops.toArray (StagePost F n P ops H C waits Q' f LT j) [o2] a w):wpStage F n P ops H C waits Q' (f+1) LT a w :=
 .inr ⟨fun e=>(by rw [hr] at e;cases e),fun k hk o' ho'=>by
  rw [hr] at hk
  simp only [List.mem_cons,List.not_mem_nil,or_false] at hk
  rcases hk with rfl|rfl
  ·rw [ho] at ho';cases ho';exact h
  ·rw [ho2] at ho';cases ho';exact h2⟩
theorem stage_done {waits:Nat→Bool} {Q':Act→World→Prop} {LT:Array Bool} {a:Act} {w:World} (hr:Region.ready .any ops.toArray LT=[]) (h:Q' a w):wpStage F n P ops H C waits Q' 0 LT a w:=⟨hr,h⟩
def stageAll (ops:List Oper) (H ws:List Nat):Bool :=
 stageOk ops H&&ws.all fun j=>match ops[j]? with|none=>true|some o=>H.all fun i=>waitsOn o i
theorem wpIn_stage {id:Nat} {Q:Exit→Act→World→Prop} {a:Act} {w:World} (C:World→Prop) (H ws:List Nat) (hm:P.follows .mixedOrders=true) (hB:stageAll ops H ws=true) (hC:C w.drew)
  (h:wpStage F n P ops H C (fun i=>ws.contains i) (fun a w=>Q .normal a w) ops.length (Array.replicate ops.length false) a w.drew):(Code.region id ops.toArray true).wpIn F n P Q a w:=by
 simp only [stageAll,Bool.and_eq_true] at hB
 obtain ⟨hok,hws⟩:=hB
 refine wpIn_region_any hm ?_
 have hun:unlisted ops.length (Array.replicate ops.length false)=ops.length:=by
  unfold unlisted
  rw [List.filter_eq_self.2 (fun i hi=>?_),List.length_range]
  have:=List.mem_range.1 hi
  simp only [Array.getD_eq_getD_getElem?]
  rw [Array.getElem?_replicate,if_pos (by omega)];rfl
 have hno:∀ i:Nat,(Array.replicate ops.length false)[i]?≠some true:=fun i=>by
  rw [Array.getElem?_replicate];split<;>simp
 have hrun:=stage_run (F:=F) (n:=n) (P:=P) (C:=C) hok (fun i=>ws.contains i) (fun j o ho hj i hi _=>by
   have:=List.all_eq_true.1 hws j (by simpa using hj)
   rw [ho] at this
   exact List.all_eq_true.1 this i hi) Q ops.length ops.length (Array.replicate ops.length false) (Array.replicate ops.length false) a a w.drew hun hun
  ⟨by simp,by simp,fun _ _ _=>rfl,fun _ h=>h,fun i o _ h=>absurd h (hno i),.inr ⟨hC,fun i o hO=>absurd hO.2.1 (hno i)⟩,⟨rfl,rfl,fun _ _=>rfl⟩⟩ h
 simpa using hrun
end
end Go.Proofs.YtigapglmipmbeaaGreatDoor.S2
