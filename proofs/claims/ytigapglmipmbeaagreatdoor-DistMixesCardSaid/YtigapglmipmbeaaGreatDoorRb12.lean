/- dist: find and At, by the library's searches. dist: find, At, within. dist: Delta, Distance, Factor, Moment (printed by mkmeas.py). dist: Make. Same of the program's dist and of the reference 08; kit.Same of masses. law 08: half, thirds and the examples that each statement asks first (printed by mkdlives.py). -/
import Derived.Test.YtigapglmipmbeaaGreatDoorRb11
set_option maxRecDepth 100000
set_option maxHeartbeats 16000000
namespace Go.Proofs.YtigapglmipmbeaaGreatDoor
open Go.RowKit Go.Shelf
open Lim
attribute [local go_sem] Oper.semAt_some
theorem isNaN_any (a:ByteArray) (w:World):Calls Tryz.prog 259 #[.string a] w fun e w'=>e = .returned (.bool false)∧w' = w:=by
 have TE:(a.toList == a.toList) = true:=beq_self_eq_true _
 go_enter Tryz.func259,Tryz.ntmps259
 go_wp2
 go_ret
 exact ⟨rfl,rfl⟩
def cmpK (a b:ByteArray):Int:=if ltK a b = true then -1 else if a = b then 0 else 1
theorem compareS_any (a b:ByteArray) (w:World):Calls Tryz.prog 204 #[.string a,.string b] w fun e w'=>e = .returned (.int .i64 (cmpK a b))∧w' = w:=by
 have TL:=lt_bytes a b
 have TE:=eq_bytes a b
 have TK:True:=trivial
 cases h1:ltK a b with
 | true =>
  have HR:=Lib.hid (show cmpK a b = -1 from if_pos h1)
  rw [h1] at TL
  clear TE h1
  go_enter Tryz.func204,Tryz.ntmps204
  go_wp2_with (go_at_call 259;refine (isNaN_any _ _).mono ?_;rintro e w1 ⟨rfl,rfl⟩)
  go_ret
  rw [HR.out]
  exact ⟨rfl,rfl⟩
 | false =>
  rw [h1] at TL
  by_cases h2:a = b
  ·have HR:=Lib.hid (show cmpK a b = 0 by unfold cmpK;rw [if_neg (by rw [h1];decide),if_pos h2])
   rw [decide_eq_true h2] at TE
   clear h1 h2
   go_enter Tryz.func204,Tryz.ntmps204
   go_wp2_with (go_at_call 259;refine (isNaN_any _ _).mono ?_;rintro e w1 ⟨rfl,rfl⟩)
   go_ret
   rw [HR.out]
   exact ⟨rfl,rfl⟩
  ·have HR:=Lib.hid (show cmpK a b = 1 by unfold cmpK;rw [if_neg (by rw [h1];decide),if_neg h2])
   rw [decide_eq_false h2] at TE
   clear h1 h2
   go_enter Tryz.func204,Tryz.ntmps204
   go_wp2_with (go_at_call 259;refine (isNaN_any _ _).mono ?_;rintro e w1 ⟨rfl,rfl⟩)
   go_ret
   rw [HR.out]
   exact ⟨rfl,rfl⟩
theorem find1_any (x:L2) (k:ByteArray) (w:World):Calls Tryz.prog 203 #[.agg #[.string x.1,.string x.2],.string k] w fun e w'=>e = .returned (.int .i64 (cmpK x.1 k))∧Below w.heap.size w w':=by
 have H:=Lib.hid (below_alloc (Below.refl w.heap.size w) (.cells #[.string x.1,.string x.2] 30))
 go_enter Tryz.func203,Tryz.ntmps203
 go_wp2_with (go_at_call 204;refine (compareS_any _ _ _).mono ?_;rintro e w1 ⟨rfl,rfl⟩)
 go_ret
 exact ⟨rfl,H.out⟩
theorem runs_find1:Runs 203:=runs_of Tryz.func203 (by kernel_rfl) (by kernel_rfl)
theorem cmpK_lt (a b:ByteArray):cmpK a b < 0↔ltK a b = true:=by
 unfold cmpK
 split
 ·rename_i h;exact ⟨fun _=>h,fun _=>by omega⟩
 ·rename_i h
  split <;> exact ⟨fun h2=>absurd h2 (by omega),fun h2=>absurd h2 h⟩
theorem cmpK_eq (a b:ByteArray):cmpK a b = 0↔ltK a b = false∧a = b:=by
 unfold cmpK
 split
 ·rename_i h;exact ⟨fun h2=>absurd h2 (by omega),fun h2=>by rw [h] at h2;cases h2.1⟩
 ·rename_i h
  split
  ·rename_i h3;exact ⟨fun _=>⟨by simpa using h,h3⟩,fun _=>rfl⟩
  ·rename_i h3;exact ⟨fun h2=>absurd h2 (by omega),fun h2=>absurd h2.2 h3⟩
def AscK (ls:List L2):Prop:=∀ (i j:Nat) (x y:L2),i < j→ls[i]? = some x→ls[j]? = some y→ltK x.1 y.1 = true
structure Place (ls:List L2) (k:ByteArray) (i:Nat) (b:Bool):Prop where
 le:i≤ls.length
 has:b = true→∃ x,ls[i]? = some x∧x.1 = k
 hasnt:b = false→∀ x∈ls,x.1≠k
theorem bsearch_any (F:FuncId) (hrun:Runs F) (hp:∀ (x:L2) (k:ByteArray) (W:World),Calls Tryz.prog F #[.agg #[.string x.1,.string x.2],.string k] W fun e w'=>e = .returned (.int .i64 (cmpK x.1 k))∧Below W.heap.size W w') (ls:List L2) (v:Value) (k:ByteArray) (w:World) (hv:LRow w v ls) (hasc:AscK ls) (hirr:∀ a,ltK a a = false) (htr:∀ a b c,ltK a b = true→ltK b c = true→ltK a c = true) :
  Calls Tryz.prog 202 #[v,.string k,.func (.func F) #[] #[]] w fun e w'=>∃ (i:Nat) (b:Bool),e = .returned (.tuple #[.int .i64 (i:Int),.bool b])∧Place ls k i b∧Below w.heap.size w w':=by
 obtain ⟨A,c,rfl,hlen,hcells⟩:=hv
 have HCE:=Lib.hid hcells
 have HA:=Lib.hid hasc
 have HI:=Lib.hid hirr
 have HT:=Lib.hid htr
 have H0:=Lib.hid (Below.refl w.heap.size w)
 have hrn:=hrun
 unfold Runs at hrn
 have HPP:=Lib.hid hp
 clear hcells hasc hirr htr hrun hp
 go_enter Tryz.func202,Tryz.ntmps202
 go_wp2
 go_loopw [9,10] (fun v9 v10 wr=>∃ lo hi:Nat,v9 = .int .i64 (lo:Int)∧v10 = .int .i64 (hi:Int)∧lo≤hi∧hi≤ls.length∧Hid (Below w.heap.size w wr)∧Hid ((∀ t x,t < lo→ls[t]? = some x→ltK x.1 k = true)∧∀ t x,hi≤t→ls[t]? = some x→ltK x.1 k = false))
  (fun v9 v10 _=>(intOf v10).toNat - (intOf v9).toNat)
 case atStart=>exact ⟨0,ls.length,rfl,rfl,Nat.zero_le _,Nat.le_refl _,H0,Lib.hid ⟨fun t x h=>absurd h (by omega),fun t x h hx=>by
  rw [List.getElem?_eq_none h] at hx;cases hx⟩⟩
 case round =>
  clear H0
  obtain ⟨lo,hi,rfl,rfl,hlh,hin,HB,HE⟩:=hrel
  by_cases hlt:lo < hi
  ·obtain ⟨b,o,rfl,hbw,hcell⟩:=HCE.out (by omega)
   have hm:(lo + hi) / 2 < ls.length:=by omega
   obtain ⟨x,hx⟩:∃ x,ls[(lo + hi) / 2]? = some x:=⟨_,List.getElem?_eq_getElem hm⟩
   obtain ⟨c0,c1⟩:=hcell _ x hx
   rw [← HB.out.cell (p:=⟨b,o + (lo + hi) / 2 * 2,none⟩) hbw] at c0
   rw [← HB.out.cell (p:=⟨b,o + (lo + hi) / 2 * 2 + 1,none⟩) hbw] at c1
   have HX:=Lib.hid hx
   have HF:=Lib.hid (HPP.out x k wr)
   clear hcell hx hbw
   cases hc:ltK x.1 k with
   | true =>
    have d1:decide (cmpK x.1 k < 0) = true:=decide_eq_true ((cmpK_lt _ _).2 hc)
    have HC:=Lib.hid hc
    clear hc
    generalize cmpK x.1 k = z at *
    obtain ⟨f,d⟩:=x
    dsimp only at c0 c1
    have HF2:=HF.out
    clear HF
    go_wp2
    refine HF2.mono ?_
    rintro e w3 ⟨rfl,hb⟩
    have H3:=Lib.hid (HB.out.trans (hb.mono HB.out.size))
    clear hb HF2
    go_wp2
    go_roundw
    case rel=>exact ⟨(lo + hi) / 2 + 1,hi,by rw [show ((lo:Int) + (hi:Int)) / 2 + 1 = (((lo + hi) / 2 + 1:Nat):Int) by omega],rfl,by omega,hin,H3,Lib.hid ⟨fun t y ht hy=>by
     rcases Nat.lt_or_ge t ((lo + hi) / 2) with h | h
     ·exact HT.out _ _ _ (HA.out _ _ _ _ h hy HX.out) HC.out
     ·obtain rfl:t = (lo + hi) / 2:=by omega
      rw [HX.out] at hy
      cases hy
      exact HC.out,HE.out.2⟩⟩
    case measure=>simp [intOf];omega
   | false =>
    have d1:decide (cmpK x.1 k < 0) = false:=decide_eq_false (fun h=>by rw [(cmpK_lt _ _).1 h] at hc;cases hc)
    have HC:=Lib.hid hc
    clear hc
    generalize cmpK x.1 k = z at *
    obtain ⟨f,d⟩:=x
    dsimp only at c0 c1
    have HF2:=HF.out
    clear HF
    go_wp2
    refine HF2.mono ?_
    rintro e w3 ⟨rfl,hb⟩
    have H3:=Lib.hid (HB.out.trans (hb.mono HB.out.size))
    clear hb HF2
    go_wp2
    go_roundw
    case rel=>exact ⟨lo,(lo + hi) / 2,rfl,by rw [show ((lo:Int) + (hi:Int)) / 2 = (((lo + hi) / 2:Nat):Int) by omega],by omega,by omega,H3,Lib.hid ⟨HE.out.1,fun t y ht hy=>by
     rcases Nat.lt_or_ge ((lo + hi) / 2) t with h | h
     ·cases hn:ltK y.1 k
      ·rfl
      ·have:=HT.out _ _ _ (HA.out _ _ _ _ h HX.out hy) hn
       rw [HC.out] at this
       cases this
     ·obtain rfl:t = (lo + hi) / 2:=by omega
      rw [HX.out] at hy
      cases hy
      exact HC.out⟩⟩
    case measure=>simp [intOf];omega
  ·obtain rfl:hi = lo:=by omega
   by_cases hn:hi < ls.length
   ·obtain ⟨b,o,rfl,hbw,hcell⟩:=HCE.out (by omega)
    obtain ⟨x,hx⟩:∃ x,ls[hi]? = some x:=⟨_,List.getElem?_eq_getElem hn⟩
    obtain ⟨c0,c1⟩:=hcell _ x hx
    rw [← HB.out.cell (p:=⟨b,o + hi * 2,none⟩) hbw] at c0
    rw [← HB.out.cell (p:=⟨b,o + hi * 2 + 1,none⟩) hbw] at c1
    have HX:=Lib.hid hx
    have HF:=Lib.hid (HPP.out x k wr)
    have hn':(hi:Int) < (ls.length:Int):=by omega
    have HIN:=Lib.hid hin
    clear hcell hx hbw
    cases hc:(cmpK x.1 k == 0) with
    | true =>
     have HC:=Lib.hid ((cmpK_eq x.1 k).1 (by simpa using hc)).2
     have HG:=Lib.hid (show Place ls k hi true from ⟨hin,fun _=>⟨x,HX.out,HC.out⟩,fun h=>by cases h⟩)
     generalize cmpK x.1 k = z at *
     obtain ⟨f,d⟩:=x
     dsimp only at c0 c1
     have HF2:=HF.out
     clear HF hn hin hlt
     go_wp2
     refine HF2.mono ?_
     rintro e w3 ⟨rfl,hb⟩
     have H3:=Lib.hid (HB.out.trans (hb.mono HB.out.size))
     clear hb HF2
     go_wp2
     go_ret2
     exact ⟨hi,true,rfl,HG.out,H3.out⟩
    | false =>
     have HG:=Lib.hid (show Place ls k hi false from ⟨hin,(fun h=>by cases h),fun _ y hy e=>by
      obtain ⟨t,ht⟩:=List.getElem?_of_mem hy
      have hxl:=HE.out.2 hi x (Nat.le_refl _) HX.out
      rcases Nat.lt_or_ge t hi with h | h
      ·have:=HE.out.1 t y h ht
       rw [e,HI.out] at this
       cases this
      ·rcases Nat.eq_or_lt_of_le h with h | h
       ·subst h
        rw [HX.out] at ht
        cases ht
        have:cmpK x.1 k = 0:=(cmpK_eq _ _).2 ⟨hxl,e⟩
        rw [this] at hc
        cases hc
       ·have:=HA.out _ _ _ _ h HX.out ht
        rw [e,hxl] at this
        cases this⟩)
     generalize cmpK x.1 k = z at *
     obtain ⟨f,d⟩:=x
     dsimp only at c0 c1
     have HF2:=HF.out
     clear HF hn hin hlt
     go_wp2
     refine HF2.mono ?_
     rintro e w3 ⟨rfl,hb⟩
     have H3:=Lib.hid (HB.out.trans (hb.mono HB.out.size))
     clear hb HF2
     go_wp2
     go_ret2
     exact ⟨hi,false,rfl,HG.out,H3.out⟩
   ·have hn':¬ (hi:Int) < (ls.length:Int):=by omega
    have HG:=Lib.hid (show Place ls k hi false from ⟨hin,(fun h=>by cases h),fun _ y hy e=>by
     obtain ⟨t,ht⟩:=List.getElem?_of_mem hy
     have htl:t < ls.length:=(List.getElem?_eq_some_iff.1 ht).1
     have:=HE.out.1 t y (by omega) ht
     rw [e,HI.out] at this
     cases this⟩)
    clear hn hin hlt
    go_wp2
    go_ret2
    first
     | exact ⟨hi,false,rfl,HG.out,HB.out⟩
     | exact ⟨hi,.inl ⟨rfl,HG.out,HB.out⟩⟩
     | exact ⟨rfl,HG.out,HB.out⟩
end Go.Proofs.YtigapglmipmbeaaGreatDoor
namespace Go.Proofs.YtigapglmipmbeaaGreatDoor
open Go.RowKit Go.Shelf
open Lim
attribute [local go_sem] Oper.semAt_some
theorem atT_at {key:ByteArray}:∀ {ls:List L2} {i:Nat} {x:L2},AscK ls→(∀ a,ltK a a = false)→ls[i]? = some x→x.1 = key→atT ls key = x.2∧hasT ls key = true
 | [],i,x,_,_,h,_=>by simp at h
 | y :: l,0,x,_,_,h,e=>by
  simp only [List.getElem?_cons_zero,Option.some.injEq] at h
  subst h
  unfold atT hasT
  rw [if_pos e,if_pos e]
  exact ⟨rfl,rfl⟩
 | y :: l,i + 1,x,ha,hi,h,e=>by
  have h2:l[i]? = some x:=by simpa using h
  have hlt:=ha 0 (i + 1) y x (by omega) (by simp) h
  have hne:y.1≠key:=fun e2=>by rw [e2,← e,hi] at hlt;cases hlt
  unfold atT hasT
  rw [if_neg hne,if_neg hne]
  exact atT_at (fun a b u v hab hu hv=>ha (a + 1) (b + 1) u v (by omega) (by simpa using hu) (by simpa using hv)) hi h2 e
theorem ltK_irr (a:ByteArray):ltK a a = false:=decide_eq_false (List.lt_irrefl _)
theorem ltK_tr (a b c:ByteArray) (h1:ltK a b = true) (h2:ltK b c = true):ltK a c = true:=decide_eq_true (List.lt_trans (of_decide_eq_true h1) (of_decide_eq_true h2))
theorem Place.eqb {ls:List L2} {k:ByteArray} {i:Nat} {b:Bool} (h:Place ls k i b):b = hasT ls k:=by
 cases b with
 | true =>
  obtain ⟨x,hx,hk⟩:=h.has rfl
  exact (hasT_iff.2 (hk ▸ List.mem_map_of_mem (f:=(·.1)) (List.mem_of_getElem? hx))).symm
 | false =>
  cases hh:hasT ls k with
  | false=>rfl
  | true =>
   obtain ⟨x,hx,hk⟩:=List.mem_map.1 (hasT_iff.1 hh)
   exact absurd hk (h.hasnt rfl x hx)
theorem dfind_any (ls:List L2) (v:Value) (k:ByteArray) (w:World) (hv:LRow w v ls) (hasc:AscK ls) :
  Calls Tryz.prog 129 #[v,.string k] w fun e w'=>e = .returned (.tuple #[.string (atT ls k),.bool (hasT ls k)])∧Below w.heap.size w w':=by
 have HB:=Lib.hid (bsearch_any 203 runs_find1 (fun x k W=>find1_any x k W) ls v k w hv hasc ltK_irr ltK_tr)
 have HV:=Lib.hid hv
 obtain ⟨A,c,rfl,hlen,hcells⟩:=hv
 have HA:=Lib.hid hasc
 clear hcells hasc
 cases hh:hasT ls k with
 | false =>
  have HR:=Lib.hid (show atT ls k = zT from atT_none fun h=>by rw [hasT_iff.2 h] at hh;cases hh)
  have HH:=Lib.hid hh
  clear hh
  go_enter Tryz.func129,Tryz.ntmps129
  go_wp2_with (go_at_call 202;refine HB.out.mono ?_;rintro e w1 ⟨i,bb,rfl,hp,hb⟩;obtain rfl:bb = false:=(hp.eqb.trans HH.out);have H1:=Lib.hid hb;clear hp hb)
  go_ret2
  rw [HR.out]
  exact ⟨rfl,H1.out⟩
 | true =>
  have HH:=Lib.hid hh
  clear hh
  go_enter Tryz.func129,Tryz.ntmps129
  go_wp2_with (go_at_call 202;refine HB.out.mono ?_;rintro e w1 ⟨i,bb,rfl,hp,hb⟩;obtain rfl:bb = true:=(hp.eqb.trans HH.out);obtain ⟨x,hx,hk⟩:=hp.has rfl;have HR:=Lib.hid (atT_at HA.out ltK_irr hx hk).1;obtain ⟨b,o,c',e',hb2,c0,c1⟩:=HV.out.at hb hx;simp only [Value.slice.injEq,true_and] at e';obtain ⟨rfl,rfl⟩:=e';have hlt:(i:Int) < (ls.length:Int):=(by have:=(List.getElem?_eq_some_iff.1 hx).1;omega);have H1:=Lib.hid hb;clear hp hb hx hk)
  go_ret2
  rw [HR.out]
  exact ⟨rfl,H1.out⟩
def idxP (p:L2→Bool):Nat→List L2→Int
 | _,[]=>-1
 | n,x :: l=>if p x = true then (n:Int) else idxP p (n + 1) l
theorem idxP_hit {p:L2→Bool} {n:Nat} {x:L2} {l:List L2} (h:p x = true):idxP p n (x :: l) = (n:Int):=if_pos h
theorem idxP_miss {p:L2→Bool} {n:Nat} {x:L2} {l:List L2} (h:p x = false):idxP p n (x :: l) = idxP p (n + 1) l:=if_neg (by rw [h];decide)
theorem indexF_any (F:FuncId) (cb:Array Value) (hrun:Runs F) (p:L2→Bool) (ls:List L2) (v:Value) (w:World) (hv:LRow w v ls) (hr:Res w)
  (hp:∀ x∈ls,∀ W,Below w.heap.size w W→Res W→Calls Tryz.prog F (#[.agg #[.string x.1,.string x.2]] ++ cb) W fun e W'=>e = .returned (.bool (p x))∧Below W.heap.size W W') :
  Calls Tryz.prog 124 #[v,.func (.func F) #[] cb] w fun e w'=>e = .returned (.int .i64 (idxP p 0 ls))∧Below w.heap.size w w':=by
 obtain ⟨A,c,rfl,hlen,hcells⟩:=hv
 have HCE:=Lib.hid hcells
 have HP:=Lib.hid hp
 have H0:=Lib.hid (NW.refl hr)
 have hrn:=hrun
 unfold Runs at hrn
 clear hr hcells hp hrun
 go_enter Tryz.func124,Tryz.ntmps124
 go_wp2
 go_loopw [8] (fun v8 wr=>∃ k:Nat,k≤ls.length∧v8 = .int .i64 (k:Int)∧Hid (idxP p 0 ls = idxP p k (ls.drop k))∧Hid (NW w wr)) (fun v8 _=>ls.length - (intOf v8).toNat)
 case atStart=>exact ⟨0,Nat.zero_le _,rfl,Lib.hid (by simp),H0⟩
 case round =>
  clear H0
  obtain ⟨k,hk,rfl,HE,HN⟩:=hrel
  by_cases hlt:k < ls.length
  ·obtain ⟨b,o,rfl,hbw,hcell⟩:=HCE.out (by omega)
   obtain ⟨x,hx⟩:∃ x,ls[k]? = some x:=⟨_,List.getElem?_eq_getElem hlt⟩
   obtain ⟨c0,c1⟩:=hcell k x hx
   rw [← HN.out.below.cell (p:=⟨b,o + k * 2,none⟩) hbw] at c0
   rw [← HN.out.below.cell (p:=⟨b,o + k * 2 + 1,none⟩) hbw] at c1
   have hlt':(k:Int) < (ls.length:Int):=by omega
   have HF:=Lib.hid (HP.out x (List.mem_of_getElem? hx) wr HN.out.below HN.out.res)
   have HD:=Lib.hid (show ls.drop k = x :: ls.drop (k + 1) by
    rw [List.drop_eq_getElem_cons hlt]
    rw [List.getElem?_eq_getElem hlt] at hx
    cases hx
    rfl)
   have HLT:=Lib.hid (And.intro hlt hlt')
   obtain ⟨f,d⟩:=x
   dsimp only at c0 c1 HF
   clear hcell hx hbw hlt
   cases hpx:p (f,d) with
   | true =>
    have HR:=Lib.hid (show idxP p 0 ls = (k:Int) by rw [HE.out,HD.out,idxP_hit hpx])
    rw [hpx] at HF
    have HF2:=HF.out
    clear HF hpx
    go_wp2
    refine HF2.mono ?_
    rintro e w3 ⟨rfl,hb⟩
    have H3:=Lib.hid (HN.out.later hb)
    clear hb HF2
    go_wp2
    go_ret
    rw [HR.out]
    exact ⟨rfl,H3.out.below⟩
   | false =>
    have HR:=Lib.hid (show idxP p 0 ls = idxP p (k + 1) (ls.drop (k + 1)) by rw [HE.out,HD.out,idxP_miss hpx])
    rw [hpx] at HF
    have HF2:=HF.out
    clear HF hpx
    go_wp2
    refine HF2.mono ?_
    rintro e w3 ⟨rfl,hb⟩
    have H3:=Lib.hid (HN.out.later hb)
    clear hb HF2
    go_wp2
    go_roundw
    case rel=>exact ⟨k + 1,HLT.out.1,by go_num,HR,H3⟩
    case measure=>have:=HLT.out.1;simp [intOf];omega
  ·have hlt':¬ (k:Int) < (ls.length:Int):=by omega
   obtain rfl:k = ls.length:=by omega
   have HR:=Lib.hid (show idxP p 0 ls = -1 by
    have:=HE.out
    rw [List.drop_length] at this
    exact this)
   clear hlt
   go_wp2
   go_ret
   rw [HR.out]
   exact ⟨rfl,HN.out.below⟩
theorem ascK_of {ls:List L2} (h:Asc (ls.map (·.1))):AscK ls:=by
 intro i j x y hij hx hy
 unfold Asc at h
 rw [List.pairwise_iff_getElem] at h
 obtain ⟨h1,e1⟩:=List.getElem?_eq_some_iff.1 hx
 obtain ⟨h2,e2⟩:=List.getElem?_eq_some_iff.1 hy
 have:=h i j (by simpa using h1) (by simpa using h2) hij
 simp only [List.getElem_map] at this
 rwa [e1,e2] at this
theorem ascK_chk {ls:List L2} (h:chkD ls = 0):AscK ls:=ascK_of (chkD_zero h).2.2
theorem idxP_ge {p:L2→Bool}:∀ {ls:List L2} {n:Nat},decide (0≤idxP p n ls) = ls.any p
 | [],n=>by unfold idxP;rfl
 | x :: l,n=>by
  cases hp:p x with
  | true =>
   rw [idxP_hit hp,List.any_cons,hp,Bool.true_or]
   exact decide_eq_true (by omega)
  | false =>
   rw [idxP_miss hp,List.any_cons,hp,Bool.false_or]
   exact idxP_ge
theorem inX_any {q:List L2}:∀ {p:List L2},(!p.any fun x=>!hasT q x.1) = inX p q
 | []=>rfl
 | x :: l=>by
  unfold inX
  rw [List.any_cons]
  cases h:hasT q x.1 with
  | true =>
   rw [if_pos rfl,← inX_any (p:=l)]
   rfl
  | false=>rw [if_neg (by decide)];rfl
theorem runs_within1:Runs 209:=runs_of Tryz.func209 (by kernel_rfl) (by kernel_rfl)
theorem within1_any (x:L2) (g:Nat) (ls:List L2) (v:Value) (w:World) (hg:Blk w g 31 #[v]) (hv:LRow w v ls) (hasc:AscK ls) :
  Calls Tryz.prog 209 #[.agg #[.string x.1,.string x.2],.pointer (some ⟨g,0,none⟩)] w fun e w'=>e = .returned (.bool (!hasT ls x.1))∧Below w.heap.size w w':=by
 have HX:=Lib.hid (below_alloc (Below.refl w.heap.size w) (.cells #[.string x.1,.string x.2] 30))
 have HF:=Lib.hid (dfind_any ls v x.1 _ (hv.below HX.out) hasc)
 have hg2:=hg.below HX.out hg.lt
 have c0:(w.alloc (.cells #[.string x.1,.string x.2] 30)).cell? ⟨g,0,none⟩ = some v:=by rw [hg2.cell];rfl
 have gl:=hg2.lt
 clear hv hg hg2
 obtain ⟨f,d⟩:=x
 dsimp only at HX HF c0 gl
 go_enter Tryz.func209,Tryz.ntmps209
 cases hh:hasT ls f with
 | true =>
  rw [hh] at HF
  go_wp2_with (go_at_call 129;refine HF.out.mono ?_;rintro e w3 ⟨rfl,hb⟩;have H3:=Lib.hid (HX.out.trans (hb.mono HX.out.size));clear hb)
  go_ret
  exact ⟨rfl,H3.out⟩
 | false =>
  rw [hh] at HF
  go_wp2_with (go_at_call 129;refine HF.out.mono ?_;rintro e w3 ⟨rfl,hb⟩;have H3:=Lib.hid (HX.out.trans (hb.mono HX.out.size));clear hb)
  go_ret
  exact ⟨rfl,H3.out⟩
theorem containsF_any (F:FuncId) (cb:Array Value) (v:Value) (z:Int) (w:World)
  (HI:Hid (Calls Tryz.prog 124 #[v,.func (.func F) #[] cb] w fun e w'=>e = .returned (.int .i64 z)∧Below w.heap.size w w')) :
  Calls Tryz.prog 208 #[v,.func (.func F) #[] cb] w fun e w'=>e = .returned (.bool (decide (0≤z)))∧Below w.heap.size w w':=by
 go_enter Tryz.func208,Tryz.ntmps208
 go_wp2_with (go_at_call 124;refine HI.out.mono ?_;rintro e w3 ⟨rfl,hb⟩;have H3:=Lib.hid hb;clear hb)
 go_ret
 exact ⟨rfl,H3.out⟩
theorem dwithin_any (p q:List L2) (vp vq:Value) (w:World) (hp:LRow w vp p) (hq:LRow w vq q) (hasc:AscK q) (hr:Res w) :
  Calls Tryz.prog 132 #[vp,vq] w fun e w'=>e = .returned (.bool (inX p q))∧Below w.heap.size w w':=by
 obtain ⟨A,c,rfl,_,_⟩:=id hp
 obtain ⟨A',c',rfl,_,_⟩:=id hq
 have HX:=Lib.hid (below_alloc (Below.refl w.heap.size w) (.cells #[.slice A' q.length c'] 31))
 have hbk:=Blk.new w 31 #[.slice A' q.length c']
 have HI:=indexF_any 209 #[.pointer (some ⟨w.heap.size,0,none⟩)] runs_within1 (fun x=>!hasT q x.1) p _ _ (hp.below HX.out) (hr.below HX.out) (fun x _ W hW _ =>
  within1_any x w.heap.size q _ W (hbk.below hW hbk.lt) (hq.below (HX.out.trans (hW.mono HX.out.size))) hasc)
 have HC:=Lib.hid (containsF_any _ _ _ _ _ (Lib.hid HI))
 rw [idxP_ge] at HC
 have HE:=Lib.hid (inX_any (p:=p) (q:=q))
 clear HI hbk hp hq hasc hr
 go_enter Tryz.func132,Tryz.ntmps132
 go_wp2_with (go_at_call 208;go_loud (refine HC.out.mono ?_;rintro e w3 ⟨rfl,hb⟩;have H3:=Lib.hid (HX.out.trans (hb.mono HX.out.size));clear hb))
 go_ret
 rw [← HE.out]
 exact ⟨rfl,H3.out⟩
end Go.Proofs.YtigapglmipmbeaaGreatDoor
namespace Go.Proofs.YtigapglmipmbeaaGreatDoor
open Go.RowKit Go.Shelf
open Lim
attribute [local go_sem] Oper.semAt_some
theorem nw_num {w:World} {g:Nat} {t:TypeId} {u:Value} (h:Blk w g t #[u]):∀ W,NW w W→W.cell? ⟨g,0,none⟩ = some u∧g < W.heap.size:=fun W hW=>by
 have h2:=h.below hW.below h.lt
 exact ⟨by rw [h2.cell];rfl,h2.lt⟩
theorem nw_mass {w:World} {g:Nat} {t:TypeId} {u v:Value} (h:Blk w g t #[u,v]):∀ W,NW w W→W.cell? ⟨g,0,none⟩ = some u∧W.cell? ⟨g,1,none⟩ = some v∧g < W.heap.size:=fun W hW=>by
 have h2:=h.below hW.below h.lt
 exact ⟨(cells2 h2).1,(cells2 h2).2,h2.lt⟩
theorem zT_small:zT.size≤270000:=by decide
theorem oT_small:oT.size≤270000:=by decide
theorem Short.atT {k:ByteArray}:∀ {ls:List L2},Short ls→(atT ls k).size≤270000
 | [],_=>zT_small
 | x :: l,h=>by
  unfold Go.Proofs.YtigapglmipmbeaaGreatDoor.atT
  split
  ·exact (h x (by simp)).2
  ·exact Short.atT fun y hy=>h y (by simp [hy])
theorem chk2_both {a b:List L2} (h:chk2 a b = 0):chkD a = 0∧chkD b = 0:=by
 unfold chk2 at h
 split at h
 ·rename_i h1;exact absurd h h1
 ·rename_i h1;exact ⟨Classical.byContradiction h1,h⟩
theorem resX_tup (r:XE):∃ c0 c1,resX r = .tuple #[.string c0,.int .i64 c1]:=by
 cases r
 ·exact ⟨_,_,rfl⟩
 ·exact ⟨_,_,rfl⟩
theorem delta1_any (x:L2) (k:Int) (gq gf:Nat) (q:List L2) (vq:Value) (f:ByteArray) (w:World) (hgq:Blk w gq 31 #[vq]) (hgf:Blk w gf 23 #[.string f]) (hv:LRow w vq q) (hasc:AscK q) (hsq:Short q) (hf:f.size≤270000) (hx:x.2.size≤270000) (hr:Res w) :
  Calls Tryz.prog 128 #[.int .i64 k,.agg #[.string x.1,.string x.2],.pointer (some ⟨gq,0,none⟩),.pointer (some ⟨gf,0,none⟩)] w fun e w'=>e = .returned (resX (partX f q x))∧Below w.heap.size w w':=by
 have HX:=Lib.hid (show NW w (w.alloc (.cells #[.string x.1,.string x.2] 30)) from (NW.refl hr).alloc _)
 have K0:Blk (w.alloc (.cells #[.string x.1,.string x.2] 30)) (w.heap.size) 30 #[.string x.1,.string x.2]:=by
  have:=Blk.new w 30 #[.string x.1,.string x.2]
  exact this
 have N0:=Lib.hid (NW.refl HX.out.res)
 have HF:=Lib.hid (dfind_any q vq x.1 _ (hv.below HX.out.below) hasc)
 have HM:=Lib.hid (nw_mass K0)
 have HO:=Lib.hid (hsq.atT (k:=x.1))
 have HG:=Lib.hid (nw_num (hgf.below HX.out.below hgf.lt))
 have x0:=(nw_num (hgq.below HX.out.below hgq.lt) _ N0.out).1
 have xl:=(nw_num (hgq.below HX.out.below hgq.lt) _ N0.out).2
 have HPX:=Lib.hid (show ∀ r,partX f q x = r→resX (partX f q x) = resX r from fun r h=>by rw [h])
 have HML:=Lib.hid (retMulX hf HO.out)
 have HXS:=Lib.hid hx
 obtain ⟨A',c',rfl,_,_⟩:=id hv
 obtain ⟨y,d⟩:=x
 dsimp only at HX HF HM HO x0 xl HML HXS N0
 clear hv hgq hgf hr hasc hsq hf hx K0
 cases hm:mulX f (atT q y) with
 | error n =>
  have HR:=Lib.hid (HPX.out (.error n) (by unfold partX;dsimp only;rw [hm]))
  have hz:=ne_zero (exQ_err hm)
  rw [hm] at HML
  change Hid (Ret _ _ (.tuple #[.string ⟨#[]⟩,.int .i64 (n:Int)])) at HML
  clear hm
  go_enter Tryz.func128,Tryz.ntmps128
  go_wp2_with (first
   | (go_at_call 129;refine (HF.out).mono ?_;rintro e w1 ⟨rfl,hb⟩;have N1:=Lib.hid (N0.out.later hb);clear hb;obtain ⟨g0,gl⟩:=HG.out _ N1.out)
   | (go_at_call 130;refine (HML.out _ N1.out.res).mono ?_;rintro e w2 ⟨rfl,hb⟩;have N2:=Lib.hid (N1.out.later hb);clear hb;obtain ⟨m0,m1,ml⟩:=HM.out _ N2.out))
  go_ret2
  rw [HR.out]
  exact ⟨rfl,HX.out.below.trans (N2.out.below.mono HX.out.below.size)⟩
 | ok s =>
  rw [hm] at HML
  change Hid (Ret _ _ (.tuple #[.string s,.int .i64 0])) at HML
  have HSB:=Lib.hid (retSubX HXS.out (size_ok (mulX_ok hm)))
  cases hs:subX d s with
  | error n =>
   have HR:=Lib.hid (HPX.out (.error n) (by unfold partX;dsimp only;rw [hm];dsimp only;rw [hs]))
   have hz:=ne_zero (exQ_err hs)
   rw [hs] at HSB
   change Hid (Ret _ _ (.tuple #[.string ⟨#[]⟩,.int .i64 (n:Int)])) at HSB
   clear hm hs
   go_enter Tryz.func128,Tryz.ntmps128
   go_wp2_with (first
    | (go_at_call 129;refine (HF.out).mono ?_;rintro e w1 ⟨rfl,hb⟩;have N1:=Lib.hid (N0.out.later hb);clear hb;obtain ⟨g0,gl⟩:=HG.out _ N1.out)
    | (go_at_call 130;refine (HML.out _ N1.out.res).mono ?_;rintro e w2 ⟨rfl,hb⟩;have N2:=Lib.hid (N1.out.later hb);clear hb;obtain ⟨m0,m1,ml⟩:=HM.out _ N2.out)
    | (go_at_call 117;refine (HSB.out _ N2.out.res).mono ?_;rintro e w3 ⟨rfl,hb⟩;have N3:=Lib.hid (N2.out.later hb);clear hb))
   go_ret2
   rw [HR.out]
   exact ⟨rfl,HX.out.below.trans (N3.out.below.mono HX.out.below.size)⟩
  | ok r =>
   rw [hs] at HSB
   change Hid (Ret _ _ (.tuple #[.string r,.int .i64 0])) at HSB
   have HMX:=Lib.hid (retMaxX zT_small (size_ok (subX_ok hs)))
   change Hid (Ret _ #[.string ⟨#[48]⟩,.string r] _) at HMX
   have HR:=Lib.hid (HPX.out (maxX zT r) (by unfold partX;dsimp only;rw [hm];dsimp only;rw [hs]))
   obtain ⟨c0,c1,hc⟩:=resX_tup (maxX zT r)
   rw [hc] at HR HMX
   clear hm hs hc
   go_enter Tryz.func128,Tryz.ntmps128
   go_wp2_with (first
    | (go_at_call 129;refine (HF.out).mono ?_;rintro e w1 ⟨rfl,hb⟩;have N1:=Lib.hid (N0.out.later hb);clear hb;obtain ⟨g0,gl⟩:=HG.out _ N1.out)
    | (go_at_call 130;refine (HML.out _ N1.out.res).mono ?_;rintro e w2 ⟨rfl,hb⟩;have N2:=Lib.hid (N1.out.later hb);clear hb;obtain ⟨m0,m1,ml⟩:=HM.out _ N2.out)
    | (go_at_call 117;refine (HSB.out _ N2.out.res).mono ?_;rintro e w3 ⟨rfl,hb⟩;have N3:=Lib.hid (N2.out.later hb);clear hb)
    | (go_at_call 131;refine (HMX.out _ N3.out.res).mono ?_;rintro e w4 ⟨rfl,hb⟩;have N4:=Lib.hid (N3.out.later hb);clear hb))
   go_ret2
   rw [HR.out]
   exact ⟨rfl,HX.out.below.trans (N4.out.below.mono HX.out.below.size)⟩
theorem runs_delta1:Runs 128:=runs_of Tryz.func128 (by kernel_rfl) (by kernel_rfl)
theorem partX_ne {f:ByteArray} {q:List L2} {x:L2} {n:Nat} (h:partX f q x = .error n):n≠0:=by
 unfold partX at h
 split at h
 ·rename_i h1;cases h;exact exQ_err h1
 ·split at h
  ·rename_i h1;cases h;exact exQ_err h1
  ·unfold maxX at h
   split at h
   ·rename_i h1;cases h;exact h1
   ·split at h
    ·rename_i h1;cases h;exact h1
    ·cases h
theorem partX_fine {f:ByteArray} {q:List L2} {x:L2} {s:ByteArray} (h:partX f q x = .ok s):errQ s.data.toList = 0:=by
 unfold partX at h
 split at h
 ·cases h
 ·split at h
  ·cases h
  ·rename_i h1
   unfold maxX at h
   split at h
   ·cases h
   ·split at h
    ·cases h
    ·cases h
     split
     ·exact subX_ok h1
     ·exact err_zT
theorem ddelta_any (p q:List L2) (vp vq:Value) (f:ByteArray) (w:World) (hp:LRow w vp p) (hq:LRow w vq q) (sp:Short p) (sq:Short q) (hf:f.size≤270000) (hr:Res w) :
  Calls Tryz.prog 45 #[vp,vq,.string f] w fun e w'=>e = .returned (resX (deltaX p q f))∧Below w.heap.size w w':=by
 have HX:=Lib.hid (show NW w (((w.alloc (.cells #[vq] 31)).alloc (.cells #[.string f] 23)).alloc (.cells #[vp,vq] 31)) from (((NW.refl hr).alloc _).alloc _).alloc _)
 have K0:Blk (((w.alloc (.cells #[vq] 31)).alloc (.cells #[.string f] 23)).alloc (.cells #[vp,vq] 31)) (w.heap.size) 31 #[vq]:=by
  have:=Blk.new w 31 #[vq]
  exact ((this.alloc _).alloc _)
 have K1:Blk (((w.alloc (.cells #[vq] 31)).alloc (.cells #[.string f] 23)).alloc (.cells #[vp,vq] 31)) (w.heap.size + 1) 23 #[.string f]:=by
  have:=Blk.new (w.alloc (.cells #[vq] 31)) 23 #[.string f]
  simp only [World.size_alloc] at this
  exact (this.alloc _)
 have K2:Blk (((w.alloc (.cells #[vq] 31)).alloc (.cells #[.string f] 23)).alloc (.cells #[vp,vq] 31)) (w.heap.size + 1 + 1) 31 #[vp,vq]:=by
  have:=Blk.new ((w.alloc (.cells #[vq] 31)).alloc (.cells #[.string f] 23)) 31 #[vp,vq]
  simp only [World.size_alloc] at this
  exact this
 have N0:=Lib.hid (NW.refl HX.out.res)
 have hpx:=hp.below HX.out.below
 have hqx:=hq.below HX.out.below
 have HC:=Lib.hid (dchecked_any p q vp vq _ _ K2 hpx hqx sp sq HX.out.res)
 have B1:=Lib.hid (nw_num K1)
 have x0:=(nw_num (K0) _ N0.out).1
 have HP:=Lib.hid (positive_any hf)
 obtain ⟨A,c,rfl,hlen,hcells⟩:=id hp
 obtain ⟨A',c',rfl,hlen',hcells'⟩:=id hq
 by_cases h0:chk2 p q = 0
 ·have HR0:=Lib.hid (show deltaX p q f = if posE f≠0 then .error (posE f) else foldX (partX f q) zT p by unfold deltaX;rw [if_neg (by simpa using h0)])
  rw [h0] at HC
  change Hid (Calls _ _ _ _ fun e w'=>e = .returned (.int .i64 0)∧_) at HC
  by_cases h1:posE f = 0
  ·have HR:=Lib.hid (show deltaX p q f = foldX (partX f q) zT p by rw [HR0.out,if_neg (by simpa using h1)])
   rw [h1] at HP
   change Hid (Ret _ _ (.tuple #[.bool (posB f),.int .i64 0])) at HP
   have ha:=ascK_chk (chk2_both h0).2
   have HFD:=Lib.hid (fun W (hW:NW _ W) =>
    dfold_any 128 #[.pointer (some ⟨w.heap.size,0,none⟩),.pointer (some ⟨w.heap.size + 1,0,none⟩)] runs_delta1 (partX f q) p _ W (hpx.below hW.below) hW.res (fun x n h=>partX_ne h) (fun x hx s h=>partX_fine h)
     (fun k x hx W2 hW2 hr2=>delta1_any x k _ _ q _ f W2 ((K0.below hW.below K0.lt).below hW2 (K0.below hW.below K0.lt).lt) ((K1.below hW.below K1.lt).below hW2 (K1.below hW.below K1.lt).lt) ((hqx.below hW.below).below hW2) ha sq hf (sp x (List.mem_of_getElem? hx)).2 hr2))
   obtain ⟨r0,r1,hc⟩:=resX_tup (foldX (partX f q) zT p)
   rw [hc] at HFD
   have HR2:=Lib.hid (show resX (deltaX p q f) = .tuple #[.string r0,.int .i64 r1] by rw [HR.out,hc])
   clear K0 K1 K2 hpx hqx hp hq sp sq hf hr h0 h1 ha hc hcells hcells'
   go_enter Tryz.func45,Tryz.ntmps45
   go_wp2_with (first
    | (go_at_call 112;refine (HC.out).mono ?_;rintro e w1 ⟨rfl,hb⟩;have N1:=Lib.hid (N0.out.later hb);clear hb;obtain ⟨f0,fl⟩:=B1.out _ N1.out)
    | (go_at_call 106;refine (HP.out _ N1.out.res).mono ?_;rintro e w2 ⟨rfl,hb⟩;have N2:=Lib.hid (N1.out.later hb);clear hb)
    | (go_at_call 122;refine (HFD.out _ N2.out).mono ?_;rintro e w3 ⟨rfl,hb⟩;have N3:=Lib.hid (N2.out.later hb);clear hb))
   go_ret2
   rw [HR2.out]
   exact ⟨rfl,HX.out.below.trans (N3.out.below.mono HX.out.below.size)⟩
  ·have HR:=Lib.hid (show deltaX p q f = .error (posE f) by rw [HR0.out,if_pos h1])
   have hm:=ne_zero h1
   clear K0 K1 K2 hpx hqx hp hq sp sq hf hr h0 h1 hcells hcells'
   go_enter Tryz.func45,Tryz.ntmps45
   go_wp2_with (first
    | (go_at_call 112;refine (HC.out).mono ?_;rintro e w1 ⟨rfl,hb⟩;have N1:=Lib.hid (N0.out.later hb);clear hb;obtain ⟨f0,fl⟩:=B1.out _ N1.out)
    | (go_at_call 106;refine (HP.out _ N1.out.res).mono ?_;rintro e w2 ⟨rfl,hb⟩;have N2:=Lib.hid (N1.out.later hb);clear hb))
   go_ret2
   rw [HR.out]
   exact ⟨rfl,HX.out.below.trans (N2.out.below.mono HX.out.below.size)⟩
 ·have HR:=Lib.hid (show deltaX p q f = .error (chk2 p q) by unfold deltaX;rw [if_pos h0])
  have hm:=ne_zero h0
  clear K0 K1 K2 hpx hqx hp hq sp sq hf hr h0 hcells hcells'
  go_enter Tryz.func45,Tryz.ntmps45
  go_wp2_with (go_at_call 112;refine (HC.out).mono ?_;rintro e w1 ⟨rfl,hb⟩;have N1:=Lib.hid (N0.out.later hb);clear hb)
  go_ret2
  rw [HR.out]
  exact ⟨rfl,HX.out.below.trans (N1.out.below.mono HX.out.below.size)⟩
theorem moment1_any (x:L2) (k:Int) (gq gf:Nat) (q:List L2) (vq:Value) (n:Int) (w:World) (hgq:Blk w gq 31 #[vq]) (hgf:Blk w gf 3 #[.int .i64 n]) (hv:LRow w vq q) (hasc:AscK q) (hsq:Short q) (hn1:1≤n) (hn8:n≤8) (hx:x.2.size≤270000) (hr:Res w) :
  Calls Tryz.prog 134 #[.int .i64 k,.agg #[.string x.1,.string x.2],.pointer (some ⟨gq,0,none⟩),.pointer (some ⟨gf,0,none⟩)] w fun e w'=>e = .returned (resX (powsX n q x))∧Below w.heap.size w w':=by
 have HX:=Lib.hid (show NW w (w.alloc (.cells #[.string x.1,.string x.2] 30)) from (NW.refl hr).alloc _)
 have K0:Blk (w.alloc (.cells #[.string x.1,.string x.2] 30)) (w.heap.size) 30 #[.string x.1,.string x.2]:=by
  have:=Blk.new w 30 #[.string x.1,.string x.2]
  exact this
 have N0:=Lib.hid (NW.refl HX.out.res)
 have HF:=Lib.hid (dfind_any q vq x.1 _ (hv.below HX.out.below) hasc)
 have HM:=Lib.hid (nw_mass K0)
 have HO:=Lib.hid (hsq.atT (k:=x.1))
 have HG:=Lib.hid (nw_num (hgf.below HX.out.below hgf.lt))
 have x0:=(nw_num (hgq.below HX.out.below hgq.lt) _ N0.out).1
 have xl:=(nw_num (hgq.below HX.out.below hgq.lt) _ N0.out).2
 have HPX:=Lib.hid (show ∀ r,powsX n q x = r→resX (powsX n q x) = resX r from fun r h=>by rw [h])
 have HPA:=Lib.hid (retPowX hx n (by omega) (by omega))
 have HPB:=Lib.hid (retPowX HO.out (n - 1) (by omega) (by omega))
 obtain ⟨y,d⟩:=x
 dsimp only at HX HF HM HO x0 xl HPA HPB N0
 have TKA:True:=trivial
 clear hv hgq hgf hr hasc hsq hx K0
 cases ha:powX d n with
 | error z =>
  have HR:=Lib.hid (HPX.out (.error z) (by unfold powsX;dsimp only;rw [ha]))
  have hz:=ne_zero (exQ_err ha)
  rw [ha] at HPA
  change Hid (Ret _ _ (.tuple #[.string ⟨#[]⟩,.int .i64 (z:Int)])) at HPA
  clear ha
  go_enter Tryz.func134,Tryz.ntmps134
  go_wp2_with (first
   | (go_at_call 129;refine (HF.out).mono ?_;rintro e w1 ⟨rfl,hb⟩;have N1:=Lib.hid (N0.out.later hb);clear hb;obtain ⟨g0,gl⟩:=HG.out _ N1.out;obtain ⟨m0,m1,ml⟩:=HM.out _ N1.out)
   | (go_at_call 135;refine (HPA.out _ N1.out.res).mono ?_;rintro e w2 ⟨rfl,hb⟩;have N2:=Lib.hid (N1.out.later hb);clear hb;clear g0 gl m0 m1 ml TKA;obtain ⟨g0,gl⟩:=HG.out _ N2.out))
  go_ret2
  rw [HR.out]
  exact ⟨rfl,HX.out.below.trans (N2.out.below.mono HX.out.below.size)⟩
 | ok s =>
  rw [ha] at HPA
  change Hid (Ret _ _ (.tuple #[.string s,.int .i64 0])) at HPA
  cases hb:powX (atT q y) (n - 1) with
  | error z =>
   have HR:=Lib.hid (HPX.out (.error z) (by unfold powsX;dsimp only;rw [ha];dsimp only;rw [hb]))
   have hz:=ne_zero (exQ_err hb)
   rw [hb] at HPB
   change Hid (Ret _ _ (.tuple #[.string ⟨#[]⟩,.int .i64 (z:Int)])) at HPB
   clear ha hb
   go_enter Tryz.func134,Tryz.ntmps134
   go_wp2_with (first
    | (go_at_call 129;refine (HF.out).mono ?_;rintro e w1 ⟨rfl,hb⟩;have N1:=Lib.hid (N0.out.later hb);clear hb;obtain ⟨g0,gl⟩:=HG.out _ N1.out;obtain ⟨m0,m1,ml⟩:=HM.out _ N1.out)
    | (go_at_call 135;clear TKA;refine (HPA.out _ N1.out.res).mono ?_;rintro e w2 ⟨rfl,hb⟩;have N2:=Lib.hid (N1.out.later hb);clear hb g0 gl m0 m1 ml;obtain ⟨g0,gl⟩:=HG.out _ N2.out)
    | (go_at_call 135;refine (HPB.out _ N2.out.res).mono ?_;rintro e w3 ⟨rfl,hb⟩;have N3:=Lib.hid (N2.out.later hb);clear hb))
   go_ret2
   rw [HR.out]
   exact ⟨rfl,HX.out.below.trans (N3.out.below.mono HX.out.below.size)⟩
  | ok t =>
   rw [hb] at HPB
   change Hid (Ret _ _ (.tuple #[.string t,.int .i64 0])) at HPB
   have HDV:=Lib.hid (retDivX (size_ok (powX_ok ha)) (size_ok (powX_ok hb)))
   have HR:=Lib.hid (HPX.out (divX s t) (by unfold powsX;dsimp only;rw [ha];dsimp only;rw [hb]))
   obtain ⟨r0,r1,hc⟩:=resX_tup (divX s t)
   rw [hc] at HR HDV
   clear ha hb hc
   go_enter Tryz.func134,Tryz.ntmps134
   go_wp2_with (first
    | (go_at_call 129;refine (HF.out).mono ?_;rintro e w1 ⟨rfl,hb⟩;have N1:=Lib.hid (N0.out.later hb);clear hb;obtain ⟨g0,gl⟩:=HG.out _ N1.out;obtain ⟨m0,m1,ml⟩:=HM.out _ N1.out)
    | (go_at_call 135;clear TKA;refine (HPA.out _ N1.out.res).mono ?_;rintro e w2 ⟨rfl,hb⟩;have N2:=Lib.hid (N1.out.later hb);clear hb g0 gl m0 m1 ml;obtain ⟨g0,gl⟩:=HG.out _ N2.out)
    | (go_at_call 135;refine (HPB.out _ N2.out.res).mono ?_;rintro e w3 ⟨rfl,hb⟩;have N3:=Lib.hid (N2.out.later hb);clear hb)
    | (go_at_call 133;refine (HDV.out _ N3.out.res).mono ?_;rintro e w4 ⟨rfl,hb⟩;have N4:=Lib.hid (N3.out.later hb);clear hb))
   go_ret2
   rw [HR.out]
   exact ⟨rfl,HX.out.below.trans (N4.out.below.mono HX.out.below.size)⟩
theorem runs_moment1:Runs 134:=runs_of Tryz.func134 (by kernel_rfl) (by kernel_rfl)
theorem powsX_ne {n:Int} {q:List L2} {x:L2} {z:Nat} (h:powsX n q x = .error z):z≠0:=by
 unfold powsX at h
 split at h
 ·rename_i h1;cases h;exact exQ_err h1
 ·split at h
  ·rename_i h1;cases h;exact exQ_err h1
  ·exact exQ_err h
theorem powsX_fine {n:Int} {q:List L2} {x:L2} {s:ByteArray} (h:powsX n q x = .ok s):errQ s.data.toList = 0:=by
 unfold powsX at h
 split at h
 ·cases h
 ·split at h
  ·cases h
  ·exact divX_ok h
theorem dmoment_any (p q:List L2) (vp vq:Value) (n:Int) (w:World) (hp:LRow w vp p) (hq:LRow w vq q) (sp:Short p) (sq:Short q) (hr:Res w) :
  Calls Tryz.prog 48 #[vp,vq,.int .i64 n] w fun e w'=>e = .returned (momV p q n)∧Below w.heap.size w w':=by
 have HX:=Lib.hid (show NW w (((w.alloc (.cells #[vq] 31)).alloc (.cells #[.int .i64 n] 3)).alloc (.cells #[vp,vq] 31)) from (((NW.refl hr).alloc _).alloc _).alloc _)
 have K0:Blk (((w.alloc (.cells #[vq] 31)).alloc (.cells #[.int .i64 n] 3)).alloc (.cells #[vp,vq] 31)) (w.heap.size) 31 #[vq]:=by
  have:=Blk.new w 31 #[vq]
  exact ((this.alloc _).alloc _)
 have K1:Blk (((w.alloc (.cells #[vq] 31)).alloc (.cells #[.int .i64 n] 3)).alloc (.cells #[vp,vq] 31)) (w.heap.size + 1) 3 #[.int .i64 n]:=by
  have:=Blk.new (w.alloc (.cells #[vq] 31)) 3 #[.int .i64 n]
  simp only [World.size_alloc] at this
  exact (this.alloc _)
 have K2:Blk (((w.alloc (.cells #[vq] 31)).alloc (.cells #[.int .i64 n] 3)).alloc (.cells #[vp,vq] 31)) (w.heap.size + 1 + 1) 31 #[vp,vq]:=by
  have:=Blk.new ((w.alloc (.cells #[vq] 31)).alloc (.cells #[.int .i64 n] 3)) 31 #[vp,vq]
  simp only [World.size_alloc] at this
  exact this
 have N0:=Lib.hid (NW.refl HX.out.res)
 have hpx:=hp.below HX.out.below
 have hqx:=hq.below HX.out.below
 have HC:=Lib.hid (dchecked_any p q vp vq _ _ K2 hpx hqx sp sq HX.out.res)
 have B0:=Lib.hid (nw_num K0)
 have B1:=Lib.hid (nw_num K1)
 have x0:=(nw_num K0 _ N0.out).1
 obtain ⟨A,c,rfl,hlen,hcells⟩:=id hp
 obtain ⟨A',c',rfl,hlen',hcells'⟩:=id hq
 by_cases h0:chk2 p q = 0
 ·rw [h0] at HC
  change Hid (Calls _ _ _ _ fun e w'=>e = .returned (.int .i64 0)∧_) at HC
  have ha:=ascK_chk (chk2_both h0).2
  by_cases h1:n < 1
  ·have HR:=Lib.hid (show momV p q n = .tuple #[.string ⟨#[]⟩,.bool false,.int .i64 2] by unfold momV;rw [if_neg (by simpa using h0),if_pos (.inl h1)])
   have d1:decide (n < 1) = true:=decide_eq_true h1
   clear K0 K1 K2 hpx hqx hp hq sp sq hr h0 hcells hcells' h1 ha
   go_enter Tryz.func48,Tryz.ntmps48
   go_wp2_with (go_at_call 112;refine (HC.out).mono ?_;rintro e w1 ⟨rfl,hb⟩;have N1:=Lib.hid (N0.out.later hb);clear hb;obtain ⟨f0,fl⟩:=B1.out _ N1.out;obtain ⟨v0,vl⟩:=B0.out _ N1.out)
   go_ret3
   rw [HR.out]
   exact ⟨rfl,HX.out.below.trans (N1.out.below.mono HX.out.below.size)⟩
  ·have d1:decide (n < 1) = false:=decide_eq_false h1
   by_cases h2:8 < n
   ·have HR:=Lib.hid (show momV p q n = .tuple #[.string ⟨#[]⟩,.bool false,.int .i64 2] by unfold momV;rw [if_neg (by simpa using h0),if_pos (.inr h2)])
    have d2:decide (8 < n) = true:=decide_eq_true h2
    clear K0 K1 K2 hpx hqx hp hq sp sq hr h0 hcells hcells' h1 h2 ha
    go_enter Tryz.func48,Tryz.ntmps48
    go_wp2_with (go_at_call 112;refine (HC.out).mono ?_;rintro e w1 ⟨rfl,hb⟩;have N1:=Lib.hid (N0.out.later hb);clear hb;obtain ⟨f0,fl⟩:=B1.out _ N1.out;obtain ⟨v0,vl⟩:=B0.out _ N1.out)
    go_ret3
    rw [HR.out]
    exact ⟨rfl,HX.out.below.trans (N1.out.below.mono HX.out.below.size)⟩
   ·have d2:decide (8 < n) = false:=decide_eq_false h2
    have HR0:=Lib.hid (show momV p q n = if inX p q = false then .tuple #[.string ⟨#[]⟩,.bool false,.int .i64 0] else resF (foldX (powsX n q) zT p) by unfold momV;rw [if_neg (by simpa using h0),if_neg (by omega)])
    have HWI:=Lib.hid (fun W (hW:NW _ W)=>dwithin_any p q _ _ W (hpx.below hW.below) (hqx.below hW.below) ha hW.res)
    cases hi:inX p q with
    | false =>
     have HR:=Lib.hid (show momV p q n = .tuple #[.string ⟨#[]⟩,.bool false,.int .i64 0] by rw [HR0.out,if_pos hi])
     rw [hi] at HWI
     clear K0 K1 K2 hpx hqx hp hq sp sq hr h0 hcells hcells' h1 h2 ha hi
     go_enter Tryz.func48,Tryz.ntmps48
     go_wp2_with (first
      | (go_at_call 112;refine (HC.out).mono ?_;rintro e w1 ⟨rfl,hb⟩;have N1:=Lib.hid (N0.out.later hb);clear hb;obtain ⟨f0,fl⟩:=B1.out _ N1.out;obtain ⟨v0,vl⟩:=B0.out _ N1.out)
      | (go_at_call 132;refine (HWI.out _ N1.out).mono ?_;rintro e w2 ⟨rfl,hb⟩;have N2:=Lib.hid (N1.out.later hb);clear hb))
     go_ret3
     rw [HR.out]
     exact ⟨rfl,HX.out.below.trans (N2.out.below.mono HX.out.below.size)⟩
    | true =>
     have HR:=Lib.hid (show momV p q n = resF (foldX (powsX n q) zT p) by rw [HR0.out,if_neg (by rw [hi];decide)])
     rw [hi] at HWI
     have HFD:=Lib.hid (fun W (hW:NW _ W) =>
      dfold_any 134 #[.pointer (some ⟨w.heap.size,0,none⟩),.pointer (some ⟨w.heap.size + 1,0,none⟩)] runs_moment1 (powsX n q) p _ W (hpx.below hW.below) hW.res (fun x n h=>powsX_ne h) (fun x hx s h=>powsX_fine h)
       (fun k x hx W2 hW2 hr2=>moment1_any x k _ _ q _ n W2 ((K0.below hW.below K0.lt).below hW2 (K0.below hW.below K0.lt).lt) ((K1.below hW.below K1.lt).below hW2 (K1.below hW.below K1.lt).lt) ((hqx.below hW.below).below hW2) ha sq (by omega) (by omega) (sp x (List.mem_of_getElem? hx)).2 hr2))
     cases hf:foldX (powsX n q) zT p with
     | error z =>
      rw [hf] at HFD HR
      change Hid (∀ W,_→Calls _ _ _ _ fun e w'=>e = .returned (.tuple #[.string ⟨#[]⟩,.int .i64 (z:Int)])∧_) at HFD
      have hm:=ne_zero (foldX_ne (fun x m h=>powsX_ne h) hf)
      clear K0 K1 K2 hpx hqx hp hq sp sq hr h0 hcells hcells' h1 h2 ha hi hf
      go_enter Tryz.func48,Tryz.ntmps48
      go_wp2_with (first
       | (go_at_call 112;refine (HC.out).mono ?_;rintro e w1 ⟨rfl,hb⟩;have N1:=Lib.hid (N0.out.later hb);clear hb;obtain ⟨f0,fl⟩:=B1.out _ N1.out;obtain ⟨v0,vl⟩:=B0.out _ N1.out)
       | (go_at_call 132;refine (HWI.out _ N1.out).mono ?_;rintro e w2 ⟨rfl,hb⟩;have N2:=Lib.hid (N1.out.later hb);clear hb)
       | (go_at_call 122;refine (HFD.out _ N2.out).mono ?_;rintro e w3 ⟨rfl,hb⟩;have N3:=Lib.hid (N2.out.later hb);clear hb))
      go_ret3
      rw [HR.out]
      exact ⟨rfl,HX.out.below.trans (N3.out.below.mono HX.out.below.size)⟩
     | ok s =>
      rw [hf] at HFD HR
      change Hid (∀ W,_→Calls _ _ _ _ fun e w'=>e = .returned (.tuple #[.string s,.int .i64 0])∧_) at HFD
      clear K0 K1 K2 hpx hqx hp hq sp sq hr h0 hcells hcells' h1 h2 ha hi hf
      go_enter Tryz.func48,Tryz.ntmps48
      go_wp2_with (first
       | (go_at_call 112;refine (HC.out).mono ?_;rintro e w1 ⟨rfl,hb⟩;have N1:=Lib.hid (N0.out.later hb);clear hb;obtain ⟨f0,fl⟩:=B1.out _ N1.out;obtain ⟨v0,vl⟩:=B0.out _ N1.out)
       | (go_at_call 132;refine (HWI.out _ N1.out).mono ?_;rintro e w2 ⟨rfl,hb⟩;have N2:=Lib.hid (N1.out.later hb);clear hb)
       | (go_at_call 122;refine (HFD.out _ N2.out).mono ?_;rintro e w3 ⟨rfl,hb⟩;have N3:=Lib.hid (N2.out.later hb);clear hb))
      go_ret3
      rw [HR.out]
      exact ⟨rfl,HX.out.below.trans (N3.out.below.mono HX.out.below.size)⟩
 ·have HR:=Lib.hid (show momV p q n = .tuple #[.string ⟨#[]⟩,.bool false,.int .i64 (chk2 p q:Int)] by unfold momV;rw [if_pos h0])
  have hm:=ne_zero h0
  clear K0 K1 K2 hpx hqx hp hq sp sq hr h0 hcells hcells'
  go_enter Tryz.func48,Tryz.ntmps48
  go_wp2_with (go_at_call 112;refine (HC.out).mono ?_;rintro e w1 ⟨rfl,hb⟩;have N1:=Lib.hid (N0.out.later hb);clear hb)
  go_ret3
  rw [HR.out]
  exact ⟨rfl,HX.out.below.trans (N1.out.below.mono HX.out.below.size)⟩
end Go.Proofs.YtigapglmipmbeaaGreatDoor
namespace Go.Proofs.YtigapglmipmbeaaGreatDoor
open Go.RowKit Go.Maps Go.Sort Go.Shelf
open Lim
attribute [local go_sem] Oper.semAt_some
theorem posL_err {x:L2} {l:List L2} (h:posE x.2≠0):posL (x :: l) = posE x.2:=by unfold posL;rw [if_pos h]
theorem posL_go {x:L2} {l:List L2} (h:posE x.2 = 0):posL (x :: l) = posL l:=by
 conv=>lhs;unfold posL
 rw [if_neg (by simpa using h)]
structure MapI (w:World) (mb:Nat) (ls:List L2) (k:Nat) (wr:World):Prop where
 nw:NW w wr
 hmb:w.heap.size≤mb
 st:∃ (A:DataW Unit) (a:List L2),wr.ownsMap Tryz.prog 9 (plainElem Tryz.prog 23) mb k A∧RelM A a∧collX [] ls = collX a (ls.drop k)∧a.length≤k∧Short a
theorem short_cons {x:L2} {l:List L2}:Short (x :: l)↔(x.1.size≤270000∧x.2.size≤270000)∧Short l:=by
 unfold Short
 constructor
 ·intro h;exact ⟨h x (by simp),fun y hy=>h y (by simp [hy])⟩
 ·rintro ⟨h1,h2⟩ y hy
  rcases List.mem_cons.1 hy with rfl | hy
  ·exact h1
  ·exact h2 y hy
theorem Short.ins:∀ {a b:List L2} {x:L2},insX a x = .ok b→Short a→x.1.size≤270000∧x.2.size≤270000→Short b
 | [],b,x,h,_,hx=>by cases h;exact short_cons.2 ⟨hx,fun _ h=>by cases h⟩
 | y :: l,b,x,h,ha,hx=>by
  obtain ⟨h1,h2⟩:=short_cons.1 ha
  unfold insX at h
  split at h
  ·split at h
   ·cases h
   ·rename_i m hm
    cases h
    exact short_cons.2 ⟨h1,Short.ins hm h2 hx⟩
  ·split at h
   ·split at h
    ·cases h
    ·rename_i s hs
     cases h
     exact short_cons.2 ⟨⟨h1.1,size_ok (plX_ok hs)⟩,h2⟩
   ·cases h
    exact short_cons.2 ⟨hx,ha⟩
theorem collX_cons (a:List L2) (x:L2) (l:List L2):collX a (x :: l) = (match insX a x with | .error n=>.error n | .ok b=>collX b l):=rfl
theorem short_len {s:ByteArray} (h:s.size≤270000):s.size≤maxLen:=by unfold maxLen;omega
def ResM (base:Nat) (r:Except Nat (List L2)) (e:Ending) (w':World):Prop:=match r with
 | .error n=>e = .returned (.tuple #[.slice none 0 0,.int .i64 (n:Int)])
 | .ok out=>∃ u,e = .returned (.tuple #[u,.int .i64 0])∧OwnM base w' u out
theorem dmake_any (ls:List L2) (v:Value) (w:World) (hv:LRow w v ls) (hs:Short ls) (hr:Res w) :
  Calls Tryz.prog 25 #[v] w fun e w'=>ResM w.heap.size (makeX ls) e w'∧Below w.heap.size w w':=by
 have HV:=Lib.hid hv
 have HS:=Lib.hid hs
 obtain ⟨A,c,rfl,HLEN,hcells⟩:=hv
 have N0:=Lib.hid (NW.refl hr)
 have HRS:=Lib.hid hr
 have hmm:=@run_makeMap Tryz.prog
 clear hr hcells hs
 generalize hm:makeX ls = mk
 have HMK:=Lib.hid hm
 clear hm
 go_enter Tryz.func25,Tryz.ntmps25
 go_wp2
 go_loopw [21] (fun v21 wr=>∃ k:Nat,k≤ls.length∧v21 = .int .i64 (k:Int)∧Hid (posL ls = posL (ls.drop k))∧Hid (NW w wr)) (fun v21 _=>ls.length - (intOf v21).toNat)
 case atStart=>exact ⟨0,Nat.zero_le _,rfl,Lib.hid (by simp),N0⟩
 case round =>
  clear N0
  obtain ⟨k,hk,rfl,HE,HN⟩:=hrel
  by_cases hlt:k < ls.length
  ·obtain ⟨x,hx⟩:∃ x,ls[k]? = some x:=⟨_,List.getElem?_eq_getElem hlt⟩
   obtain ⟨b,o,c',e',hb2,c0,c1⟩:=HV.out.at HN.out.below hx
   simp only [Value.slice.injEq,true_and] at e'
   obtain ⟨rfl,rfl⟩:=e'
   have hlt':(k:Int) < (ls.length:Int):=by omega
   have HX:=Lib.hid (HN.out.alloc (.cells #[.string x.1,.string x.2] 30))
   have HP:=Lib.hid (positive_any (HS.out x (List.mem_of_getElem? hx)).2)
   have HD:=Lib.hid (drop_of hx)
   have HLT:=Lib.hid (And.intro hlt hlt')
   obtain ⟨f,d⟩:=x
   dsimp only at c0 c1 HX HP HD
   clear hx hlt
   by_cases h1:posE d = 0
   ·have HR:=Lib.hid (show posL ls = posL (ls.drop (k + 1)) by rw [HE.out,HD.out];exact posL_go (x:=(f,d)) h1)
    rw [h1] at HP
    change Hid (Ret _ _ (.tuple #[.bool (posB d),.int .i64 0])) at HP
    clear h1
    go_wp2_with (go_at_call 106;refine (HP.out _ HX.out.res).mono ?_;rintro e w3 ⟨rfl,hb⟩;have H3:=Lib.hid (HX.out.later hb);clear hb)
    go_roundw
    case rel=>exact ⟨k + 1,HLT.out.1,by go_num,HR,H3⟩
    case measure=>have:=HLT.out.1;simp [intOf];omega
   ·have HR:=Lib.hid (show mk = .error (posE d) by
     have h2:posL ls = posE d:=by rw [HE.out,HD.out];exact posL_err (x:=(f,d)) h1
     rw [← HMK.out]
     unfold makeX
     rw [if_pos (by rw [h2];exact h1),h2])
    have hm:=ne_zero h1
    clear h1
    go_wp2_with (go_at_call 106;refine (HP.out _ HX.out.res).mono ?_;rintro e w3 ⟨rfl,hb⟩;have H3:=Lib.hid (HX.out.later hb);clear hb)
    go_ret2
    rw [HR.out]
    exact ⟨rfl,H3.out.below⟩
  ·have hlt':¬ (k:Int) < (ls.length:Int):=by omega
   obtain rfl:k = ls.length:=by omega
   have HMK2:=Lib.hid (show mk = (match collX [] ls with | .error n=>.error n | .ok a=>doneX a) by
    have h0:posL ls = 0:=by
     have:=HE.out
     rw [List.drop_length] at this
     exact this
    rw [← HMK.out]
    unfold makeX
    rw [if_neg (by simpa using h0)]
    rfl)
   clear hlt HMK HE
   obtain ⟨wo,rfl⟩:∃ wo,wo = wr:=⟨_,rfl⟩
   go_wp2
   go_loopw [38] (fun v38 wq=>∃ k:Nat,k≤ls.length∧v38 = .int .i64 (k:Int)∧Hid (MapI w wo.heap.size ls k wq)) (fun v38 _=>ls.length - (intOf v38).toNat)
   case atStart=>exact ⟨0,Nat.zero_le _,rfl,Lib.hid ⟨HN.out.later (below_alloc (Below.refl _ _) _),HN.out.below.size,.map [],[],World.ownsMap_made _ _ _ _,RelM.nil,by simp,Nat.zero_le _,fun _ h=>by cases h⟩⟩
   case round =>
    have HN0:=Lib.hid HN.out.below.size
    clear HN hlt' hmm
    obtain ⟨k,hk,rfl,HI⟩:=hrel
    obtain ⟨D,a,hown,hrel,hcoll,hal,hsa⟩:=HI.out.st
    by_cases hlt:k < ls.length
    ·obtain ⟨x,hx⟩:∃ x,ls[k]? = some x:=⟨_,List.getElem?_eq_getElem hlt⟩
     obtain ⟨b,o,c',e',hb2,c0,c1⟩:=HV.out.at HI.out.nw.below hx
     simp only [Value.slice.injEq,true_and] at e'
     obtain ⟨rfl,rfl⟩:=e'
     have hlt':(k:Int) < (ls.length:Int):=by omega
     have HX:=Lib.hid (HI.out.nw.alloc (.cells #[.string x.1,.string x.2] 30))
     have hsx:=HS.out x (List.mem_of_getElem? hx)
     have hkey:=keyOfK (short_len hsx.1)
     have HCO:=Lib.hid (show collX [] ls = (match insX a x with | .error n=>.error n | .ok b=>collX b (ls.drop (k + 1))) by rw [hcoll,drop_of hx];rfl)
     have HLT:=Lib.hid (And.intro hlt hlt')
     have hown2:=hown.alloc (.cells #[.string x.1,.string x.2] 30)
     have HMB:=Lib.hid (Blk.new wr 30 #[.string x.1,.string x.2])
     have hml:wo.heap.size < wr.heap.size:=hown.lt
     have hnm:k < maxLen:=by unfold maxLen;omega
     have HAL:=Lib.hid hal
     have him:=hown.isMap
     cases hh:hasT a x.1 with
     | false =>
      obtain ⟨b',eb,hbl,hrel'⟩:=hrel.fresh him hh
      have HB:=Lib.hid (show collX [] ls = collX b' (ls.drop (k + 1)) by rw [HCO.out,eb])
      have HRL:=Lib.hid (And.intro hrel' (And.intro hbl (Short.ins eb hsa hsx)))
      have hhas:=(hrel.has x.1).trans hh
      have hlook:=lookS_ok (s:=⟨#[]⟩) hown2 (short_len hsx.1) (atKey_of_not_has hhas _) hhas
      have hvs:=short_len hsx.2
      obtain ⟨f,d⟩:=x
      dsimp only at c0 c1 HX hkey hown2 HMB HRL hlook hvs
      clear hx hlt hown hrel hcoll hal hsa hsx eb hbl hrel' HCO him hh hhas
      go_wp2_with (first
       | (at_mapUpdate;refine wpList_mapUpdate_own _ rfl _ _ _ 129 rfl 9 23 lawK Tryz.underlying129 (plainElem Tryz.prog 23) wo.heap.size k D rfl hown2 hnm _ _ _ rfl rfl hkey _ [] (plainElem_string Tryz.underlying23 hvs) ?_;intro w1 hown1 hgrow1;have HO1:=Lib.hid (And.intro hown1 hgrow1);clear hown1 hgrow1))
      go_roundw
      case rel=>exact ⟨k + 1,HLT.out.1,by go_num,Lib.hid ⟨grow_nw HX.out HRS.out HO1.out.2 (fun r e=>by cases e;exact HN0.out),HN0.out,_,_,HO1.out.1,HRL.out.1,HB.out,by rw [HRL.out.2.1];have:=HAL.out;omega,HRL.out.2.2⟩⟩
      case measure=>have:=HLT.out.1;simp [intOf];omega
     | true =>
      have hhas:=(hrel.has x.1).trans hh
      have hlook:=lookS_ok hown2 (short_len hsx.1) (hrel.text x.1 hh) hhas
      have hat:(atT a x.1).size≤270000:=Short.atT hsa
      have HAD:=Lib.hid (retPlX hat hsx.2)
      have hio:=ins_old hrel.asc hh
      have HFX:=Lib.hid (fun W (hW:NW w W)=>hW.below)
      cases ha:plX (atT a x.1) x.2 with
      | error n =>
       rw [ha] at HAD hio
       have HR:=Lib.hid (show mk = .error n by rw [HMK2.out,HCO.out,hio])
       change Hid (Ret _ _ (.tuple #[.string ⟨#[]⟩,.int .i64 (n:Int)])) at HAD
       have hm:=ne_zero (exQ_err ha)
       obtain ⟨f,d⟩:=x
       dsimp only at c0 c1 HX hkey hown2 HMB hlook HAD
       clear hx hlt hown hrel hcoll hal hsa hsx HCO him hh hio ha hat hhas
       go_wp2_with (first
        | (go_at_call 107;refine (HAD.out _ HX.out.res).mono ?_;rintro e w3 ⟨rfl,hb⟩;have H3:=Lib.hid (HX.out.later hb);clear hb))
       go_ret2
       rw [HR.out]
       exact ⟨rfl,H3.out.below⟩
      | ok s =>
       rw [ha] at HAD hio
       have HB:=Lib.hid (show collX [] ls = collX (setT a x.1 s) (ls.drop (k + 1)) by rw [HCO.out,hio])
       have HRL:=Lib.hid (And.intro (hrel.over (s:=s) him hh) (Short.ins hio hsa hsx))
       change Hid (Ret _ _ (.tuple #[.string s,.int .i64 0])) at HAD
       have hvs:=short_len (size_ok (plX_ok ha))
       obtain ⟨f,d⟩:=x
       dsimp only at c0 c1 HX hkey hown2 HMB hlook HAD HRL
       clear hx hlt hown hrel hcoll hal hsa hsx HCO him hh hio ha hat hhas
       go_wp2_with (first
        | (go_at_call 107;refine (HAD.out _ HX.out.res).mono ?_;rintro e w3 ⟨rfl,hb⟩;have H3:=Lib.hid (HX.out.later hb);have hown3:=hown2.kept (grown_none' hb none) (by simp);obtain ⟨q0,q1⟩:=cells2 (HMB.out.below hb HMB.out.lt);have ql:=(HMB.out.below hb HMB.out.lt).lt;clear hb hown2)
        | (at_mapUpdate;refine wpList_mapUpdate_own _ rfl _ _ _ 129 rfl 9 23 lawK Tryz.underlying129 (plainElem Tryz.prog 23) wo.heap.size k D rfl hown3 hnm _ _ _ rfl rfl hkey _ [] (plainElem_string Tryz.underlying23 hvs) ?_;intro w1 hown1 hgrow1;have HO1:=Lib.hid (And.intro hown1 hgrow1);clear hown1 hgrow1))
       go_roundw
       case rel=>exact ⟨k + 1,HLT.out.1,by go_num,Lib.hid ⟨grow_nw H3.out HRS.out HO1.out.2 (fun r e=>by cases e;exact HN0.out),HN0.out,_,_,HO1.out.1,HRL.out.1,HB.out,by unfold setT;rw [List.length_map];have:=HAL.out;omega,HRL.out.2⟩⟩
       case measure=>have:=HLT.out.1;simp [intOf];omega
    ·have hlt':¬ (k:Int) < (ls.length:Int):=by omega
     obtain rfl:k = ls.length:=by omega
     rw [List.drop_length] at hcoll
     have HMK3:=Lib.hid (show mk = doneX a by rw [HMK2.out,hcoll];rfl)
     have HNQ:=Lib.hid HI.out.nw
     have HSA:=Lib.hid (And.intro hsa hrel)
     have hal2:a.length≤1000:=by omega
     have HK:=Lib.hid (keysN wo.heap.size ls.length D a wr hown hrel (by omega))
     have HKW:=Lib.hid (mapsKeysN (some wo.heap.size) wr)
     have HOW:=Lib.hid hown
     clear hlt HI HMK2 hcoll hown hrel hsa
     obtain ⟨wm,rfl⟩:∃ wm,wm = wr:=⟨_,rfl⟩
     go_wp2_with (first
      | (go_at_call 109;refine HKW.out.mono ?_;rintro e w3 ⟨rfl,hw3⟩;subst hw3)
      | (go_at_call 108;refine HK.out.mono ?_;rintro e w4 ⟨vk,rfl,hrow,hb⟩;obtain ⟨Ak,ck,rfl⟩:=slice_of_owns hrow;have HW4:=Lib.hid (And.intro hrow hb);clear hrow hb))
     have HB4:=Lib.hid (show Below wm.heap.size wm w4 from (below_alloc (Below.refl wm.heap.size wm) _).trans (HW4.out.2.mono (Nat.le_succ _)))
     have HN4:=Lib.hid (HNQ.out.later HB4.out)
     have HO4:=Lib.hid (HOW.out.kept (grown_none' HB4.out none) (by simp))
     have HR4:=Lib.hid (row_of_owns HW4.out.1).2.2.2
     have HL4:=Lib.hid HO4.out.lt
     clear HK HKW HW4 HOW HNQ HN0
     go_loopw [15,75] (fun v15 v75 wr=>∃ (k:Nat) (A0:Option Addr) (cc:Nat),k≤a.length∧v75 = .int .i64 (k:Int)∧v15 = .slice A0 (keepX (a.take k)).length cc∧Hid (OwnM w4.heap.size wr (.slice A0 (keepX (a.take k)).length cc) (keepX (a.take k)))∧Hid (Below w4.heap.size w4 wr)) (fun _ v75 _=>a.length - (intOf v75).toNat)
     case atStart=>exact ⟨0,none,0,Nat.zero_le _,rfl,rfl,Lib.hid (OwnM.nil _ _),Lib.hid (Below.refl _ _)⟩
     case round =>
      obtain ⟨k,A0,cc,hk,rfl,rfl,HO,HB⟩:=hrel
      by_cases hlt:k < a.length
      ·obtain ⟨x,hx⟩:∃ x,a[k]? = some x:=⟨_,List.getElem?_eq_getElem hlt⟩
       obtain ⟨bk,ok,rfl,hbk,hck⟩:=HR4.out (by rw [List.length_map];omega)
       have c0:=hck k (.string x.1) (by rw [List.getElem?_map,hx];rfl)
       rw [← HB.out.cell (p:=⟨bk,ok + k,none⟩) hbk] at c0
       have hbk2:bk < wr.heap.size:=Nat.lt_of_lt_of_le hbk HB.out.size
       have hlt':(k:Int) < (a.length:Int):=by omega
       have hxm:=List.mem_of_getElem? hx
       have hsx:=HSA.out.1 x hxm
       have hat:=atT_at (ascK_of HSA.out.2.asc) ltK_irr hx rfl
       have hown:=HO4.out.kept (grown_none' HB.out none) (by simp)
       have hlook:=lookS hown (short_len hsx.1) (HSA.out.2.text x.1 hat.2)
       rw [hat.1] at hlook
       have TE:=eq_bytes x.2 zT
       rw [zT_list] at TE
       have HLT:=Lib.hid (And.intro hlt hlt')
       have HTK:=Lib.hid (show keepX (a.take (k + 1)) = keepX (a.take k) ++ keepX [x] by
        unfold keepX
        rw [List.take_add_one,hx,List.filter_append]
        rfl)
       have hkl:(keepX (a.take k)).length≤1000:=by
        have h1:=List.length_filter_le (fun x:L2=>decide (x.2≠zT)) (a.take k)
        have h2:(a.take k).length≤a.length:=by rw [List.length_take];omega
        unfold keepX
        omega
       by_cases hz:x.2 = zT
       ·rw [decide_eq_true hz] at TE
        have HE:=Lib.hid (show keepX (a.take (k + 1)) = keepX (a.take k) by
         rw [HTK.out]
         unfold keepX
         rw [List.filter_cons_of_neg (by simpa using hz),List.filter_nil,List.append_nil])
        obtain ⟨f,d⟩:=x
        dsimp only at c0 hlook TE
        clear hlt hx hck hbk hxm hsx hat hz HTK
        go_wp2
        go_roundw
        case rel=>exact ⟨k + 1,A0,cc,HLT.out.1,by go_num,by rw [HE.out],by rw [HE.out];exact HO,HB⟩
        case measure=>have:=HLT.out.1;simp [intOf];omega
       ·rw [decide_eq_false hz] at TE
        have HE:=Lib.hid (show keepX (a.take (k + 1)) = keepX (a.take k) ++ [x] by
         rw [HTK.out]
         unfold keepX
         rw [List.filter_cons_of_pos (by simpa using hz),List.filter_nil])
        have hw4:w4.heap.size≤wr.heap.size:=HB.out.size
        have HOL:=Lib.hid (show (wr.alloc (.cells #[.string x.1,.string x.2] 30)).ownsRow w4.heap.size 30 2 (.slice A0 (keepX (a.take k)).length cc) (keepX (a.take k)).length (cellsM (keepX (a.take k))) from HO.out.later (below_alloc (Below.refl _ _) _))
        obtain ⟨i0,hi,hz0,hz1,hz2⟩:=info_parts infoM
        obtain ⟨f,d⟩:=x
        dsimp only at c0 hlook TE HOL
        clear hlt hx hck hbk hxm hsx hat hz HTK
        generalize hkk:(keepX (a.take k)).length = kk at *
        go_wp2_with (at_builtin;refine wpList_append_own _ rfl _ _ 31 rfl w4.heap.size 30 i0 (.agg #[.string ByteArray.empty,.string ByteArray.empty]) 2 32 Tryz.underlying31 hi hz0 hz1 hz2 rfl (by decide) _ _ _ rfl HOL.out ⟨wr.heap.size,0,none⟩ 1 1 [.string f,.string d] rfl rfl (cell_two_new _ _ _ _) (by simp [Value.oneCell']) (by unfold maxLen;omega) (by omega) (by simp;omega) ?_;intro v' w5 hown' hgrow _;obtain ⟨A5,c5,rfl⟩:=slice_shape hown';have HO5:=Lib.hid (And.intro hown' hgrow);clear hown' hgrow)
        go_roundw
        case rel =>
         have e1:(keepX (a.take (k + 1))).length = kk + 1:=by rw [HE.out,List.length_append,hkk];rfl
         refine ⟨k + 1,A5,c5,HLT.out.1,by go_num,by rw [e1],Lib.hid ?_,Lib.hid ?_⟩
         ·unfold OwnM
          rw [e1,HE.out,← cellsM_snoc]
          exact HO5.out.1
         ·exact (HB.out.trans ((below_alloc (Below.refl _ _) _).mono HB.out.size)).grown HO5.out.2 (by simp;omega) (fun r e=>(HOL.out.lt r e).1)
        case measure=>have:=HLT.out.1;simp [intOf];omega
      ·have hlt':¬ (k:Int) < (a.length:Int):=by omega
       obtain rfl:k = a.length:=by omega
       rw [List.take_length] at HO ⊢
       have hkl:(keepX a).length≤1000:=Nat.le_trans (List.length_filter_le _ _) (by omega)
       have HNZ:=Lib.hid (HN4.out.later (show Below w4.heap.size w4 wr from HB.out))
       have hsk:Short (keepX a):=fun x hx=>HSA.out.1 x (List.mem_filter.1 hx).1
       have HCK:=Lib.hid (dcheck_any (keepX a) _ wr (HO.out.row hkl) hsk HNZ.out.res)
       have HOB:=Lib.hid (show ∀ W,Below wr.heap.size wr W→OwnM w.heap.size W (.slice A0 (keepX a).length cc) (keepX a) from fun W hW=>by
        have h1:=HO.out.later hW
        exact owns_base h1 HN4.out.below.size)
       clear hlt hsk hkl
       by_cases h0:chkD (keepX a) = 0
       ·have HR:=Lib.hid (show mk = .ok (keepX a) by rw [HMK3.out];unfold doneX;rw [if_neg (by simpa using h0)])
        rw [h0] at HCK
        change Hid (Calls _ _ _ _ fun e w'=>e = .returned (.int .i64 0)∧_) at HCK
        clear h0
        go_wp2_with (go_at_call 36;refine HCK.out.mono ?_;rintro e w6 ⟨rfl,hb⟩;have H6:=Lib.hid (And.intro hb (HNZ.out.later hb));clear hb)
        go_ret2
        rw [HR.out]
        exact ⟨⟨_,rfl,HOB.out _ H6.out.1⟩,H6.out.2.below⟩
       ·have HR:=Lib.hid (show mk = .error (chkD (keepX a)) by rw [HMK3.out];unfold doneX;rw [if_pos h0])
        have hm:=ne_zero h0
        clear h0
        go_wp2_with (go_at_call 36;refine HCK.out.mono ?_;rintro e w6 ⟨rfl,hb⟩;have H6:=Lib.hid (HNZ.out.later hb);clear hb)
        go_ret2
        rw [HR.out]
        exact ⟨rfl,H6.out.below⟩
end Go.Proofs.YtigapglmipmbeaaGreatDoor
namespace Go.Proofs.YtigapglmipmbeaaGreatDoor
open Go.RowKit Go.Shelf
open Lim
attribute [local go_sem] Oper.semAt_some
def sameX (a b:List L2):Bool:=decide (a = b)
theorem sameX_len {a b:List L2} (h:a.length≠b.length):sameX a b = false:=decide_eq_false fun e=>h (congrArg List.length e)
theorem sameX_at {a b:List L2} {k:Nat} {x y:L2} (hx:a[k]? = some x) (hy:b[k]? = some y) (h:x≠y):sameX a b = false:=decide_eq_false fun e=>h (by
 rw [e,hy] at hx
 exact (Option.some.inj hx).symm)
theorem sameX_all {a b:List L2} (hl:a.length = b.length) (h:∀ k,k < a.length→a[k]? = b[k]?):sameX a b = true:=decide_eq_true (List.ext_getElem? fun k=>by
 rcases Nat.lt_or_ge k a.length with h1 | h1
 ·exact h k h1
 ·rw [List.getElem?_eq_none h1,List.getElem?_eq_none (by omega)])
theorem sameX_refl (a:List L2):sameX a a = true:=decide_eq_true rfl
theorem equalM_any (a b:List L2) (va vb:Value) (w:World) (ha:LRow w va a) (hb:LRow w vb b) (hr:Res w) :
  Calls Tryz.prog 127 #[va,vb] w fun e w'=>e = .returned (.bool (sameX a b))∧Below w.heap.size w w':=by
 have HA:=Lib.hid ha
 have HB:=Lib.hid hb
 have N0:=Lib.hid (NW.refl hr)
 obtain ⟨A,c,rfl,hlen,hcells⟩:=ha
 obtain ⟨A',c',rfl,hlen',hcells'⟩:=hb
 clear hcells hcells' hr
 by_cases hl:a.length = b.length
 ·have hl1:((a.length:Int) != (b.length:Int)) = false:=by rw [hl];exact bne_self_eq_false _
  have HL:=Lib.hid hl
  rw [← hl] at HB hl1
  rw [← hl]
  clear hl hlen'
  go_enter Tryz.func127,Tryz.ntmps127
  go_wp2
  go_loopw [13] (fun v13 wr=>∃ k:Nat,k≤a.length∧v13 = .int .i64 (k:Int)∧Hid (∀ j,j < k→a[j]? = b[j]?)∧Hid (NW w wr)) (fun v13 _=>a.length - (intOf v13).toNat)
  case atStart=>exact ⟨0,Nat.zero_le _,rfl,Lib.hid (fun j h=>absurd h (by omega)),N0⟩
  case round =>
   clear N0
   obtain ⟨k,hk,rfl,HE,HN⟩:=hrel
   by_cases hlt:k < a.length
   ·obtain ⟨x,hx⟩:∃ x,a[k]? = some x:=⟨_,List.getElem?_eq_getElem hlt⟩
    obtain ⟨y,hy⟩:∃ y,b[k]? = some y:=⟨_,List.getElem?_eq_getElem (by have:=HL.out;omega)⟩
    obtain ⟨b1,o1,c1',e1,hb1,c0,c1⟩:=HA.out.at HN.out.below hx
    simp only [Value.slice.injEq,true_and] at e1
    obtain ⟨rfl,rfl⟩:=e1
    obtain ⟨b2,o2,c2',e2,hb2,d0,d1⟩:=HB.out.at HN.out.below hy
    rw [← HL.out] at e2
    simp only [Value.slice.injEq,true_and] at e2
    obtain ⟨rfl,rfl⟩:=e2
    have hlt':(k:Int) < (a.length:Int):=by omega
    have HLT:=Lib.hid (And.intro hlt hlt')
    have HX:=Lib.hid (And.intro hx hy)
    obtain ⟨f,d⟩:=x
    obtain ⟨g,e⟩:=y
    dsimp only at c0 c1 d0 d1
    have T1:=eq_bytes f g
    have T2:=eq_bytes d e
    clear hx hy hlt
    by_cases h1:f = g
    ·rw [decide_eq_true h1] at T1
     by_cases h2:d = e
     ·rw [decide_eq_true h2] at T2
      have HR:=Lib.hid (show ∀ j,j < k + 1→a[j]? = b[j]? from fun j hj=>by
       rcases Nat.lt_or_ge j k with h | h
       ·exact HE.out j h
       ·obtain rfl:j = k:=by omega
        rw [HX.out.1,HX.out.2,h1,h2])
      clear h1 h2
      go_wp2
      go_quiet (fail)
      have H4:=Lib.hid (fun n=>HN.out.drewN n)
      go_wp2
      go_roundw
      case rel=>exact ⟨k + 1,HLT.out.1,by go_num,HR,H4.out _⟩
      case measure=>have:=HLT.out.1;simp [intOf];omega
     ·rw [decide_eq_false h2] at T2
      have HR:=Lib.hid (sameX_at HX.out.1 HX.out.2 (fun e=>h2 (Prod.mk.inj e).2))
      clear h1 h2
      go_wp2
      go_quiet (fail)
      have H4:=Lib.hid (fun n=>HN.out.drewN n)
      go_wp2
      go_ret
      rw [HR.out]
      exact ⟨rfl,(H4.out _).below⟩
    ·rw [decide_eq_false h1] at T1
     have HR:=Lib.hid (sameX_at HX.out.1 HX.out.2 (fun e=>h1 (Prod.mk.inj e).1))
     clear h1
     go_wp2
     go_quiet (fail)
     have H4:=Lib.hid (fun n=>HN.out.drewN n)
     go_wp2
     go_ret
     rw [HR.out]
     exact ⟨rfl,(H4.out _).below⟩
   ·have hlt':¬ (k:Int) < (a.length:Int):=by omega
    have HR:=Lib.hid (sameX_all HL.out fun j hj=>HE.out j (by omega))
    clear hlt
    go_wp2
    go_ret
    rw [HR.out]
    exact ⟨rfl,HN.out.below⟩
 ·have hl1:((a.length:Int) != (b.length:Int)) = true:=by rw [bne_iff_ne];omega
  have hl2:((a.length:Int) == (b.length:Int)) = false:=by rw [beq_eq_false_iff_ne];omega
  have HR:=Lib.hid (sameX_len hl)
  clear hl
  go_enter Tryz.func127,Tryz.ntmps127
  go_wp2
  go_ret
  rw [HR.out]
  exact ⟨rfl,N0.out.below⟩
theorem dsame_any (a b:List L2) (va vb:Value) (w:World) (ha:LRow w va a) (hb:LRow w vb b) (hr:Res w) :
  Calls Tryz.prog 40 #[va,vb] w fun e w'=>e = .returned (.bool (sameX a b))∧Below w.heap.size w w':=by
 have HE:=Lib.hid (equalM_any a b va vb w ha hb hr)
 clear ha hb hr
 go_enter Tryz.func40,Tryz.ntmps40
 go_wp2_with (go_at_call 127;refine HE.out.mono ?_;rintro e w3 ⟨rfl,hb⟩;have H3:=Lib.hid hb;clear hb)
 go_ret
 exact ⟨rfl,H3.out⟩
end Go.Proofs.YtigapglmipmbeaaGreatDoor
namespace Go.Proofs.YtigapglmipmbeaaGreatDoor
open Go.RowKit Go.Shelf
open Lim
def halfL:List L2:=[(⟨#[97]⟩,⟨#[49,47,50]⟩),(⟨#[98]⟩,⟨#[49,47,50]⟩)]
def thirdsL:List L2:=[(⟨#[97]⟩,⟨#[49,47,51]⟩),(⟨#[98]⟩,⟨#[50,47,51]⟩)]
def livesL:List L2:=[(⟨#[98]⟩,⟨#[49,47,50]⟩),(⟨#[97]⟩,⟨#[49,47,52]⟩),(⟨#[97]⟩,⟨#[49,47,52]⟩),(⟨#[99]⟩,⟨#[48]⟩)]
theorem ex_make:makeX livesL = .ok halfL:=by kernel_rfl
theorem ex_delta:deltaX halfL thirdsL oT = .ok ⟨#[49,47,54]⟩:=by kernel_rfl
theorem ex_mom:momV halfL thirdsL 2 = .tuple #[.string ⟨#[57,47,56]⟩,.bool true,.int .i64 0]:=by kernel_rfl
theorem short_lit {ls:List L2} (h:(ls.all fun x=>decide (x.1.size≤270000) && decide (x.2.size≤270000)) = true):Short ls:=fun x hx=>by
 have:=List.all_eq_true.1 h x hx
 simpa using this
theorem short_half:Short halfL:=short_lit (by decide)
theorem short_thirds:Short thirdsL:=short_lit (by decide)
theorem short_lives:Short livesL:=short_lit (by decide)
theorem half_any (w:World):Calls Tryz.prog 43 #[] w fun e w'=>e = .returned (.slice (some ⟨w.heap.size,0,none⟩) 2 2)∧w' = w.alloc (.cells #[.string ⟨#[97]⟩,.string ⟨#[49,47,50]⟩,.string ⟨#[98]⟩,.string ⟨#[49,47,50]⟩] 30):=by
 go_enter Tryz.func43,Tryz.ntmps43
 go_wp2
 go_ret
 exact ⟨rfl,rfl⟩
theorem half_row (w:World):LRow (w.alloc (.cells #[.string ⟨#[97]⟩,.string ⟨#[49,47,50]⟩,.string ⟨#[98]⟩,.string ⟨#[49,47,50]⟩] 30)) (.slice (some ⟨w.heap.size,0,none⟩) 2 2) halfL:=LRow.ofBlk (Blk.new w 30 #[.string ⟨#[97]⟩,.string ⟨#[49,47,50]⟩,.string ⟨#[98]⟩,.string ⟨#[49,47,50]⟩]) rfl (by decide)
theorem half_call (w:World) (_hr:Res w):Calls Tryz.prog 43 #[] w fun e w'=>(∃ b,e = .returned (.slice (some ⟨b,0,none⟩) 2 2)∧LRow w' (.slice (some ⟨b,0,none⟩) 2 2) halfL)∧Below w.heap.size w w':=by
 refine (half_any w).mono ?_
 rintro e w' ⟨rfl,rfl⟩
 exact ⟨⟨_,rfl,half_row w⟩,below_alloc (Below.refl _ _) _⟩
theorem thirds_any (w:World):Calls Tryz.prog 44 #[] w fun e w'=>e = .returned (.slice (some ⟨w.heap.size,0,none⟩) 2 2)∧w' = w.alloc (.cells #[.string ⟨#[97]⟩,.string ⟨#[49,47,51]⟩,.string ⟨#[98]⟩,.string ⟨#[50,47,51]⟩] 30):=by
 go_enter Tryz.func44,Tryz.ntmps44
 go_wp2
 go_ret
 exact ⟨rfl,rfl⟩
theorem thirds_row (w:World):LRow (w.alloc (.cells #[.string ⟨#[97]⟩,.string ⟨#[49,47,51]⟩,.string ⟨#[98]⟩,.string ⟨#[50,47,51]⟩] 30)) (.slice (some ⟨w.heap.size,0,none⟩) 2 2) thirdsL:=LRow.ofBlk (Blk.new w 30 #[.string ⟨#[97]⟩,.string ⟨#[49,47,51]⟩,.string ⟨#[98]⟩,.string ⟨#[50,47,51]⟩]) rfl (by decide)
theorem thirds_call (w:World) (_hr:Res w):Calls Tryz.prog 44 #[] w fun e w'=>(∃ b,e = .returned (.slice (some ⟨b,0,none⟩) 2 2)∧LRow w' (.slice (some ⟨b,0,none⟩) 2 2) thirdsL)∧Below w.heap.size w w':=by
 refine (thirds_any w).mono ?_
 rintro e w' ⟨rfl,rfl⟩
 exact ⟨⟨_,rfl,thirds_row w⟩,below_alloc (Below.refl _ _) _⟩
theorem dlives_any (w:World) (hr:Res w):Calls Tryz.prog 21 #[] w fun e w'=>e = .returned (.bool true)∧Below w.heap.size w w':=by
 have NA:=Lib.hid ((NW.refl hr).alloc (.cells #[.string ⟨#[98]⟩,.string ⟨#[49,47,50]⟩,.string ⟨#[97]⟩,.string ⟨#[49,47,52]⟩,.string ⟨#[97]⟩,.string ⟨#[49,47,52]⟩,.string ⟨#[99]⟩,.string ⟨#[48]⟩] 30))
 have HMK:=Lib.hid (dmake_any livesL (.slice (some ⟨w.heap.size,0,none⟩) 4 4) _ (LRow.ofBlk (Blk.new w 30 #[.string ⟨#[98]⟩,.string ⟨#[49,47,50]⟩,.string ⟨#[97]⟩,.string ⟨#[49,47,52]⟩,.string ⟨#[97]⟩,.string ⟨#[49,47,52]⟩,.string ⟨#[99]⟩,.string ⟨#[48]⟩]) rfl (by decide)) short_lives NA.out.res)
 rw [ex_make] at HMK
 have HDL:=Lib.hid (fun vp vq (w:World) hp hq hr=>ddelta_any halfL thirdsL vp vq oT w hp hq short_half short_thirds oT_small hr)
 rw [ex_delta] at HDL
 have HMO:=Lib.hid (fun vp vq (w:World) hp hq hr=>dmoment_any halfL thirdsL vp vq 2 w hp hq short_half short_thirds hr)
 rw [ex_mom] at HMO
 have HSM:=Lib.hid (fun va vb (w:World) ha hb hr=>dsame_any halfL halfL va vb w ha hb hr)
 rw [sameX_refl] at HSM
 have HMK2:=HMK
 change Hid (Calls _ _ _ _ fun e w'=>(∃ u,e = .returned (.tuple #[u,.int .i64 0])∧OwnM _ w' u halfL)∧_) at HMK
 change Hid (∀ vp vq w,_→_→_→Calls _ _ #[vp,vq,.string ⟨#[49]⟩] _ fun e w'=>e = .returned (.tuple #[.string ⟨#[49,47,54]⟩,.int .i64 0])∧_) at HDL
 have N0:=NA
 clear hr HMK2 NA
 have TK0:True:=trivial
 have TK1:True:=trivial
 have TK2:True:=trivial
 have TK3:True:=trivial
 have TK4:True:=trivial
 have TK5:True:=trivial
 have TK6:True:=trivial
 have TK7:True:=trivial
 have TK8:True:=trivial
 go_enter Tryz.func21,Tryz.ntmps21
 go_wp2_with ((clear TK0;go_at_call 25;refine (HMK.out).mono ?_;rintro e w1 ⟨⟨u,rfl,hu⟩,hb⟩;have N1:=Lib.hid (N0.out.later hb);clear hb;obtain ⟨A1,c1,rfl⟩:=hu.slice;have HU:=Lib.hid hu;clear hu))
 go_wp2_with ((clear TK1;go_at_call 43;refine (half_call _ N1.out.res).mono ?_;rintro e w2 ⟨⟨b2,rfl,r2⟩,hb⟩;have hb2:=hb;have N2:=Lib.hid (N1.out.later hb);clear hb;have R2:=Lib.hid r2;clear r2;have HU2:=Lib.hid (HU.out.later hb2);clear hb2))
 go_wp2_with ((clear TK2;go_at_call 44;refine (thirds_call _ N2.out.res).mono ?_;rintro e w3 ⟨⟨b3,rfl,r3⟩,hb⟩;have hb3:=hb;have N3:=Lib.hid (N2.out.later hb);clear hb;have R3:=Lib.hid r3;clear r3;have Q3:=Lib.hid (R2.out.below hb3);have HU3:=Lib.hid (HU2.out.later hb3);clear hb3))
 go_wp2_with ((clear TK3;go_at_call 45;refine (HDL.out _ _ _ Q3.out R3.out N3.out.res).mono ?_;rintro e w4 ⟨rfl,hb⟩;have hb4:=hb;have N4:=Lib.hid (N3.out.later hb);clear hb;have HU4:=Lib.hid (HU3.out.later hb4);clear hb4))
 go_wp2_with ((clear TK4;go_at_call 43;refine (half_call _ N4.out.res).mono ?_;rintro e w5 ⟨⟨b5,rfl,r5⟩,hb⟩;have hb5:=hb;have N5:=Lib.hid (N4.out.later hb);clear hb;have R5:=Lib.hid r5;clear r5;have HU5:=Lib.hid (HU4.out.later hb5);clear hb5))
 go_wp2_with ((clear TK5;go_at_call 44;refine (thirds_call _ N5.out.res).mono ?_;rintro e w6 ⟨⟨b6,rfl,r6⟩,hb⟩;have hb6:=hb;have N6:=Lib.hid (N5.out.later hb);clear hb;have R6:=Lib.hid r6;clear r6;have Q6:=Lib.hid (R5.out.below hb6);have HU6:=Lib.hid (HU5.out.later hb6);clear hb6))
 go_wp2_with ((clear TK6;go_at_call 48;refine (HMO.out _ _ _ Q6.out R6.out N6.out.res).mono ?_;rintro e w7 ⟨rfl,hb⟩;have hb7:=hb;have N7:=Lib.hid (N6.out.later hb);clear hb;have HU7:=Lib.hid (HU6.out.later hb7);clear hb7))
 go_wp2_with ((clear TK7;go_at_call 43;refine (half_call _ N7.out.res).mono ?_;rintro e w8 ⟨⟨b8,rfl,r8⟩,hb⟩;have hb8:=hb;have N8:=Lib.hid (N7.out.later hb);clear hb;have R8:=Lib.hid r8;clear r8;have HU8:=Lib.hid ((HU7.out.later hb8).row (by decide));clear hb8))
 go_wp2_with ((clear TK8;go_at_call 40;refine (HSM.out _ _ _ HU8.out R8.out N8.out.res).mono ?_;rintro e w9 ⟨rfl,hb⟩;have N9:=Lib.hid (N8.out.later hb);clear hb))
 go_wp2
 go_ret
 exact ⟨rfl,N9.out.below⟩
end Go.Proofs.YtigapglmipmbeaaGreatDoor
