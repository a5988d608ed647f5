/- dist: Make. Owned slices beside each other: what an append to one leaves of the other. made, as a walk (printed by mkdmade.py). law 10: few and made (printed by mkmom.py). Each function of chapter 10 and its reference return the same, errors included, for texts of 120 bytes. What the statements of chapter 10 share: light, factor, least, lives; a law's world. Inserting at a place: what the reference's collect does. No program in sight. Appending a slice that is read to a slice of the call's own; what the reference's collect keeps. The reference 08: collect and Make (printed by mkdcoll.py). -/
import Derived.Test.YtigapglmipmbeaaGreatDoorLwMomentPure17
import Derived.Test.YtigapglmipmbeaaGreatDoorLwMomentPure16
import Derived.Test.YtigapglmipmbeaaGreatDoorLwMomentPure15
import Derived.Test.YtigapglmipmbeaaGreatDoorLwMomentPure13
import Derived.OwnWalkIn
import Derived.Sort.BigQuietIn
import Derived.Sort.QuietIn
set_option maxRecDepth 100000
set_option maxHeartbeats 16000000
namespace Go.Proofs.YtigapglmipmbeaaGreatDoor
open Go.RowKit Go.Maps Go.Sort Go.Shelf
open Lim
attribute [local go_sem] Oper.semAt_some
theorem posL_err {x:L2} {l:List L2} (h:posE x.2≠0):posL (x::l)=posE x.2:=by unfold posL;rw [if_pos h]
theorem posL_go {x:L2} {l:List L2} (h:posE x.2=0):posL (x::l)=posL l:=by
 conv=>lhs;unfold posL
 rw [if_neg (by simpa using h)]
theorem short_cons {x:L2} {l:List L2}:Short (x::l)↔(x.1.size≤270000∧x.2.size≤270000)∧Short l:=by
 unfold Short
 constructor
 ·intro h;exact ⟨h x (by simp),fun y hy=>h y (by simp [hy])⟩
 ·rintro ⟨h1,h2⟩ y hy
  rcases List.mem_cons.1 hy with rfl|hy
  ·exact h1
  ·exact h2 y hy
theorem Short.ins:∀ {a b:List L2} {x:L2},insX a x=.ok b→Short a→x.1.size≤270000∧x.2.size≤270000→Short b
 | [],b,x,h,_,hx=>by cases h;exact short_cons.2 ⟨hx,fun _ h=>by cases h⟩
 | y::l,b,x,h,ha,hx=>by
  obtain ⟨h1,h2⟩:=short_cons.1 ha
  unfold insX at h
  split at h
  ·split at h
   ·cases h
   ·rename_i m hm
    cases h
    exact short_cons.2 ⟨h1,Short.ins hm h2 hx⟩
  ·split at h
   ·split at h
    ·cases h
    ·rename_i s hs
     cases h
     exact short_cons.2 ⟨⟨h1.1,size_ok (plX_ok hs)⟩,h2⟩
   ·cases h
    exact short_cons.2 ⟨hx,ha⟩
theorem collX_cons (a:List L2) (x:L2) (l:List L2):collX a (x::l)=(match insX a x with|.error n=>.error n|.ok b=>collX b l):=rfl
def ResM (base:Nat) (r:Except Nat (List L2)) (e:Ending) (w':World):Prop:=match r with
 | .error n=>e=.returned (.tuple #[.slice none 0 0,.int .i64 (n:Int)])
 | .ok out=>∃ u,e=.returned (.tuple #[u,.int .i64 0])∧OwnM base w' u out
end Go.Proofs.YtigapglmipmbeaaGreatDoor
namespace Go.Proofs.YtigapglmipmbeaaGreatDoor
open Go.RowKit Go.Shelf
theorem own_cells {base n size:Nat} {w:World} {E:TypeId} {v:Value} {us:List Value} (h:w.ownsRow base E size v n us) {r:Nat} (hr:v.ownBlock=some r):∃ cur,w.heap[r]?=some (.cells cur E (0,0)):=by
 rcases h.2 with ⟨e,_⟩|⟨g,cap,cur,e,_,hh,_⟩
 ·subst e;cases hr
 ·subst e
  simp only [Value.ownBlock,Option.some.injEq] at hr
  subst hr
  exact ⟨cur,hh⟩
theorem owns_later {base n size:Nat} {w w':World} {E:TypeId} {v:Value} {us:List Value} (h:w.ownsRow base E size v n us) (hb:Below w.heap.size w w'):w'.ownsRow base E size v n us:=by
 refine World.ownsRow.kept h (grown_none' hb none) ?_
 cases v.ownBlock with
 | none=>exact .inl rfl
 | some g=>exact .inr (by simp)
theorem OwnM.beside {base base' n size:Nat} {w w':World} {E:TypeId} {v u:Value} {us:List Value} {ls:List L2} (h:OwnM base w v ls) (hu:w.ownsRow base' E size u n us) (hE:E≠30) (hg:w.grownBy w' u.ownBlock):OwnM base w' v ls:=by
 refine World.ownsRow.kept h hg ?_
 cases hv:v.ownBlock with
 | none=>exact .inl rfl
 | some g =>
  refine .inr fun e=>?_
  obtain ⟨c1,h1⟩:=own_cells h hv
  obtain ⟨c2,h2⟩:=own_cells hu e.symm
  rw [h1] at h2
  simp only [Option.some.injEq,Obj.cells.injEq] at h2
  exact hE h2.2.1.symm
end Go.Proofs.YtigapglmipmbeaaGreatDoor
namespace Go.Proofs.YtigapglmipmbeaaGreatDoor
open Go.RowKit Go.Shelf
open Lim
theorem infoD:(Tryz.prog.info? 31).map (fun i=>(i.zero,i.size,i.bytes))=some (some (.slice none 0 0),1,24):=by kernel_rfl
theorem insX_ne:∀ {a:List L2} {x:L2} {n:Nat},insX a x=.error n→n≠0
 | [],x,n,h=>by cases h
 | y::l,x,n,h=>by
  unfold insX at h
  split at h
  ·split at h
   ·rename_i m hm;cases h;exact insX_ne hm
   ·cases h
  ·split at h
   ·split at h
    ·rename_i m hm;cases h;exact exQ_err hm
    ·cases h
   ·cases h
theorem collX_ne:∀ {l a:List L2} {n:Nat},collX a l=.error n→n≠0
 | [],a,n,h=>by cases h
 | x::l,a,n,h=>by
  unfold collX at h
  split at h
  ·rename_i m hm;cases h;exact insX_ne hm
  ·exact collX_ne h
theorem insX_len:∀ {a b:List L2} {x:L2},insX a x=.ok b→b.length≤a.length+1
 | [],b,x,h=>by cases h;simp
 | y::l,b,x,h=>by
  unfold insX at h
  split at h
  ·split at h
   ·cases h
   ·rename_i m hm;cases h;have:=insX_len hm;simp;omega
  ·split at h
   ·split at h
    ·cases h
    ·cases h;simp
   ·cases h;simp
theorem collX_len:∀ {l a b:List L2},collX a l=.ok b→b.length≤a.length+l.length
 | [],a,b,h=>by cases h;simp
 | x::l,a,b,h=>by
  unfold collX at h
  split at h
  ·cases h
  ·rename_i m hm
   have h1:=insX_len hm
   have h2:=collX_len h
   simp
   omega
theorem make_len {l d:List L2} (h:makeX l=.ok d) (hl:l.length≤1000):d.length≤1000:=by
 unfold makeX at h
 split at h
 ·cases h
 ·split at h
  ·cases h
  ·rename_i a ha
   have h1:=collX_len ha
   unfold doneX at h
   split at h
   ·cases h
   ·cases h
    have h2:=List.length_filter_le (fun x:L2=>decide (x.2≠zT)) a
    unfold keepX
    simp at h1
    omega
theorem makeX_ne {l:List L2} {n:Nat} (h:makeX l=.error n):n≠0:=by
 unfold makeX at h
 split at h
 ·rename_i h1;cases h;exact h1
 ·split at h
  ·rename_i m hm;cases h;exact collX_ne hm
  ·unfold doneX at h
   split at h
   ·rename_i h1;cases h;exact h1
   ·cases h
def MadeP (r:Option (List (List L2))) (e:Ending) (w':World):Prop:=match r with
 | none=>e=.returned (.tuple #[.slice none 0 0,.bool false])
 | some outs=>∃ u,e=.returned (.tuple #[u,.bool true])∧LLRow w' u outs
theorem few10_no {ls:List L2} {j:Nat} {x:L2} (hx:ls[j]?=some x) (h:¬ (x.1.size≤12∧x.2.size≤12)):lightD 6 12 12 ls=false:=by
 cases e:lightD 6 12 12 ls with
 | false=>rfl
 | true=>exact absurd ((lightD_iff.1 e).2 x (List.mem_of_getElem? hx)) h
theorem few10_any (ls:List L2) (v:Value) (w:World) (hv:LRowW w v ls) :
  Calls Tryz.prog 136 #[v] w fun e w'=>e=.returned (.bool (lightD 6 12 12 ls))∧w'=w:=by
 have HV:=Lib.hid hv
 obtain ⟨A0,c0,rfl,hlen,_⟩:=hv
 unfold maxLen at hlen
 go_enter Tryz.func136,Tryz.ntmps136
 go_wp2
 go_loopw [3] (fun v3 wr=>∃ k:Nat,k≤ls.length∧v3=.int .i64 (k:Int)∧Hid (∀ (j:Nat) x,j < k→ls[j]?=some x→x.1.size≤12∧x.2.size≤12)∧wr=w) (fun v3 _=>ls.length - (intOf v3).toNat)
 case atStart=>exact ⟨0,Nat.zero_le _,rfl,Lib.hid (fun j x h=>absurd h (by omega)),rfl⟩
 case round =>
  obtain ⟨k,hk,rfl,HE,rfl⟩:=hrel
  by_cases hlt:k < ls.length
  ·obtain ⟨x,hx⟩:∃ x,ls[k]?=some x:=⟨_,List.getElem?_eq_getElem hlt⟩
   obtain ⟨b1,o1,c1',e1,hb1,q0,q1⟩:=LRowW.at HV.out (Below.refl _ _) hx
   simp only [Value.slice.injEq,true_and] at e1
   obtain ⟨rfl,rfl⟩:=e1
   have hlt':(k:Int) < (ls.length:Int):=by omega
   have HX:=Lib.hid (And.intro hx hlt)
   obtain ⟨f,d⟩:=x
   dsimp only at q0 q1
   clear hx hlt
   by_cases g1:f.size≤12
   ·have t1:decide (12 < (f.size:Int))=false:=decide_eq_false (by omega)
    have t1n:decide (12 < f.size)=false:=decide_eq_false (by omega)
    by_cases g2:d.size≤12
    ·have t2:decide (12 < (d.size:Int))=false:=decide_eq_false (by omega)
     have t2n:decide (12 < d.size)=false:=decide_eq_false (by omega)
     have HS:=Lib.hid (And.intro g1 g2)
     clear g1 g2
     go_wp2
     go_roundw
     case rel=>exact ⟨k+1,HX.out.2,by go_num,Lib.hid (fun j y hj hxj=>by
      rcases Nat.lt_or_ge j k with h|h
      ·exact HE.out j y h hxj
      ·obtain rfl:j=k:=by omega
       rw [HX.out.1] at hxj
       cases hxj
       exact HS.out),trivial⟩
     case measure=>have:=HX.out.2;simp [intOf];omega
    ·have t2:decide (12 < (d.size:Int))=true:=decide_eq_true (by omega)
     have t2n:decide (12 < d.size)=true:=decide_eq_true (by omega)
     have HR:=Lib.hid (few10_no HX.out.1 (fun h=>g2 h.2))
     clear g1 g2
     go_wp2
     go_ret
     rw [HR.out]
     exact ⟨rfl,rfl⟩
   ·have t1:decide (12 < (f.size:Int))=true:=decide_eq_true (by omega)
    have t1n:decide (12 < f.size)=true:=decide_eq_true (by omega)
    have HR:=Lib.hid (few10_no HX.out.1 (fun h=>g1 h.1))
    clear g1
    go_wp2
    go_ret
    rw [HR.out]
    exact ⟨rfl,rfl⟩
  ·have hlt':¬ (k:Int) < (ls.length:Int):=by omega
   have hall:∀ x∈ls,x.1.size≤12∧x.2.size≤12:=fun x hx=>by
    obtain ⟨j,hj⟩:=List.getElem?_of_mem hx
    exact HE.out j x (by have:=(List.getElem?_eq_some_iff.1 hj).1;omega) hj
   have HR:=Lib.hid (show lightD 6 12 12 ls=decide ((ls.length:Int)≤6) by
    by_cases h6:ls.length≤6
    ·rw [lightD_iff.2 ⟨h6,hall⟩,decide_eq_true (by omega)]
    ·rw [decide_eq_false (by omega)]
     cases e:lightD 6 12 12 ls with
     | false=>rfl
     | true=>exact absurd (lightD_iff.1 e).1 h6)
   clear hlt hall
   go_wp2
   go_ret
   rw [HR.out]
   exact ⟨by simp,rfl⟩
theorem made10_any (lss:List (List L2)) (v:Value) (w:World) (hv:LLRow w v lss) (hne:lss≠[]) (hr:Res w)
  (hmake:∀ (ls:List L2) (v:Value) (W:World),LRow W v ls→Short ls→Res W→Calls Tryz.prog 26 #[v] W fun e w'=>ResM W.heap.size (makeX ls) e w'∧Below W.heap.size W w') :
  Calls Tryz.prog 50 #[v] w fun e w'=>MadeP (madeD 6 12 12 lss) e w'∧Below w.heap.size w w':=by
 have HV:=Lib.hid hv
 obtain ⟨b,c,rfl,hb,hlen,hcell⟩:=hv
 have HC:=Lib.hid hcell
 have HNE:=Lib.hid hne
 have HMA:=Lib.hid hmake
 have N0:=Lib.hid (NW.refl hr)
 have HRS:=Lib.hid hr
 clear hcell hr hne hmake
 generalize hm:madeD 6 12 12 lss=mk
 have HMK:=Lib.hid hm
 clear hm
 go_enter Tryz.func50,Tryz.ntmps50
 go_wp2
 go_loopw [4,5] (fun v4 v5 wr=>∃ (i:Nat) (A0:Option Addr) (cc:Nat) (us:List (Value × List L2)),i≤lss.length∧v5=.int .i64 (i:Int)∧us.length=i∧v4=.slice A0 i cc∧Hid (wr.ownsRow w.heap.size 31 1 (.slice A0 i cc) i (us.map (·.1)))∧Hid (∀ (j:Nat) x l,us[j]?=some x→lss[j]?=some l→oneM 6 12 12 l=some x.2∧OwnM w.heap.size wr x.1 x.2)∧Hid (NW w wr)) (fun _ v5 _=>lss.length - (intOf v5).toNat)
 case atStart=>exact ⟨0,none,0,[],Nat.zero_le _,rfl,rfl,rfl,Lib.hid (World.ownsRow_nil _ _ _ _),Lib.hid (fun j x l h=>by simp at h),N0⟩
 case round =>
  clear N0
  obtain ⟨i,A0,cc,us,hi0,rfl,hul,rfl,HO,HU,HN⟩:=hrel
  by_cases hlt:i < lss.length
  ·obtain ⟨ls,hls⟩:∃ ls,lss[i]?=some ls:=⟨_,List.getElem?_eq_getElem hlt⟩
   obtain ⟨u,cu,hu⟩:=HC.out i ls hls
   have cu:wr.cell? ⟨b,i,none⟩=some u:=(HN.out.below.cell (p:=⟨b,i,none⟩) hb).trans cu
   have hbr:b < wr.heap.size:=Nat.lt_of_lt_of_le hb HN.out.below.size
   have HR0:=Lib.hid (hu.below HN.out.below)
   obtain ⟨A,cA,rfl,hlA,_⟩:=hu
   have hlt':(i:Int) < (lss.length:Int):=by omega
   have HLS:=Lib.hid (And.intro hls hlt)
   have NA:=HN
   have HLI:=Lib.hid (few10_any ls (.slice A ls.length cA) wr HR0.out)
   clear hls hlt
   have TK0:True:=trivial
   cases hl:lightD 6 12 12 ls with
   | false =>
    rw [hl] at HLI
    have HR:=Lib.hid (show mk=none by rw [← HMK.out];exact madeD_none HLS.out.1 (by unfold oneM;rw [hl];rfl))
    clear hl
    go_wp2_with (clear TK0;go_at_call 136;refine HLI.out.mono ?_;rintro e w3 ⟨rfl,hw⟩;replace hw:=hw.symm;subst hw)
    go_ret2
    rw [HR.out]
    exact ⟨rfl,NA.out.below⟩
   | true =>
    rw [hl] at HLI
    obtain ⟨l1,l2⟩:=lightD_iff.1 hl
    have hsh:Short ls:=fun x hx=>⟨Nat.le_trans (l2 x hx).1 (by omega),Nat.le_trans (l2 x hx).2 (by omega)⟩
    have HMC:=Lib.hid (HMA.out ls _ _ (HR0.out.row (by omega)) hsh NA.out.res)
    have HL:=Lib.hid hl
    clear l1 l2 hsh hl
    cases hmk:makeX ls with
    | error m =>
     rw [hmk] at HMC
     change Hid (Calls _ _ _ _ fun e w'=>e=.returned (.tuple #[.slice none 0 0,.int .i64 (m:Int)])∧_) at HMC
     have hz:=ne_zero (makeX_ne hmk)
     have hz2:=ne_zero2 (makeX_ne hmk)
     have HR:=Lib.hid (show mk=none by rw [← HMK.out];exact madeD_none HLS.out.1 (by unfold oneM;rw [HL.out,hmk];rfl))
     clear hmk
     go_wp2_with (first
      | (clear TK0;go_at_call 136;refine HLI.out.mono ?_;rintro e w3 ⟨rfl,hw⟩;replace hw:=hw.symm;subst hw)
      | (go_at_call 26;refine HMC.out.mono ?_;rintro e w4 ⟨rfl,hb⟩;have N4:=Lib.hid (NA.out.later hb);clear hb))
     go_ret2
     rw [HR.out]
     exact ⟨rfl,N4.out.below⟩
    | ok d =>
     rw [hmk] at HMC
     change Hid (Calls _ _ _ _ fun e w'=>(∃ u,e=.returned (.tuple #[u,.int .i64 0])∧OwnM _ w' u d)∧_) at HMC
     have TK1:True:=trivial
     have TK2:True:=trivial
     have HDL:=Lib.hid (show d.length≤1000 from make_len hmk (Nat.le_trans (lightD_iff.1 HL.out).1 (by omega)))
     cases hd:lightD 6 12 12 d with
     | false =>
      have HR:=Lib.hid (show mk=none by rw [← HMK.out];exact madeD_none HLS.out.1 (by unfold oneM;rw [HL.out,hmk];dsimp only;rw [hd];rfl))
      clear hmk
      go_wp2_with ((clear TK0;go_at_call 136;refine HLI.out.mono ?_;rintro e w3 ⟨rfl,hw⟩;replace hw:=hw.symm;subst hw))
      go_wp2_with ((clear TK1;go_at_call 26;refine HMC.out.mono ?_;rintro e w4 ⟨⟨u5,rfl,ho⟩,hb⟩;obtain ⟨A5,c5,rfl⟩:=ho.slice;have N4:=Lib.hid (NA.out.later hb);have HD5:=Lib.hid ho;have HB4:=Lib.hid hb;have HLI2:=Lib.hid (few10_any d (.slice A5 d.length c5) w4 (HD5.out.row HDL.out).wide);rw [hd] at HLI2;clear ho hb))
      go_wp2_with ((clear TK2;go_at_call 136;refine HLI2.out.mono ?_;rintro e w5 ⟨rfl,hw⟩;replace hw:=hw.symm;subst hw))
      go_wp2
      go_ret2
      rw [HR.out]
      exact ⟨rfl,N4.out.below⟩
     | true =>
      obtain ⟨i0,hi,hz0,hz1,hz2⟩:=info_parts infoD
      have HONE:=Lib.hid (show oneM 6 12 12 ls=some d from oneM_some.2 ⟨HL.out,hmk,hd⟩)
      clear hmk
      go_wp2_with ((clear TK0;go_at_call 136;refine HLI.out.mono ?_;rintro e w3 ⟨rfl,hw⟩;replace hw:=hw.symm;subst hw))
      go_wp2_with ((clear TK1;go_at_call 26;refine HMC.out.mono ?_;rintro e w4 ⟨⟨u5,rfl,ho⟩,hb⟩;obtain ⟨A5,c5,rfl⟩:=ho.slice;have N4:=Lib.hid (NA.out.later hb);have HD5:=Lib.hid ho;have HB4:=Lib.hid hb;have HLI2:=Lib.hid (few10_any d (.slice A5 d.length c5) w4 (HD5.out.row HDL.out).wide);rw [hd] at HLI2;clear ho hb))
      have HB6:=Lib.hid (show Below wr.heap.size wr (w4.alloc (.cells #[.slice A5 d.length c5] 31)) from below_alloc HB4.out _)
      have HOL:=Lib.hid (owns_later HO.out HB6.out)
      go_wp2_with (first
       | (clear TK2;go_at_call 136;refine HLI2.out.mono ?_;rintro e w5 ⟨rfl,hw⟩;replace hw:=hw.symm;subst hw)
       | (at_builtin;refine wpList_append_own _ rfl _ _ 46 rfl w.heap.size 31 i0 (.slice none 0 0) 1 24 Tryz.underlying46 hi hz0 hz1 hz2 rfl (by decide) _ _ _ rfl HOL.out ⟨w4.heap.size,0,none⟩ 1 1 [.slice A5 d.length c5] rfl rfl (cell_one_new _ _ _) (by simp [Value.oneCell']) (by unfold maxLen;omega) (by omega) (by have:=N4.out.below.size;simp;omega) ?_;intro v' w6 hown' hgrow _;obtain ⟨A6,c6,rfl⟩:=slice_shape hown';have HO6:=Lib.hid (And.intro hown' hgrow);clear hown' hgrow))
      go_roundw
      case rel =>
       have hNB:=HB6.out
       refine ⟨i+1,A6,c6,us++[(.slice A5 d.length c5,d)],HLS.out.2,by go_num,by simp [hul],rfl,Lib.hid ?_,Lib.hid ?_,Lib.hid ?_⟩
       ·rw [List.map_append]
        exact HO6.out.1
       ·intro j x l hx hl
        rcases Nat.lt_or_ge j us.length with h|h
        ·rw [List.getElem?_append_left h] at hx
         obtain ⟨r1,r2⟩:=HU.out j x l hx hl
         exact ⟨r1,(r2.later hNB).beside HOL.out (by decide) HO6.out.2⟩
        ·rw [List.getElem?_append_right h] at hx
         obtain rfl:j=us.length:=by
          have:=(List.getElem?_eq_some_iff.1 hx).1
          simp at this
          omega
         simp at hx
         subst hx
         rw [hul,HLS.out.1] at hl
         cases hl
         exact ⟨HONE.out,OwnM.beside (owns_base (HD5.out.later (below_alloc (Below.refl _ _) _)) NA.out.below.size) HOL.out (by decide) HO6.out.2⟩
       ·exact grow_nw (HN.out.later hNB) HRS.out HO6.out.2 (fun r e=>(HOL.out.lt r e).1)
      case measure=>have:=HLS.out.2;simp [intOf];omega
  ·have hlt':¬ (i:Int) < (lss.length:Int):=by omega
   have hil:i=lss.length:=by omega
   have hR:mk=some (us.map (·.2)):=by
    rw [← HMK.out]
    refine madeD_some (by simp [hul,hil]) fun j l d hl hd=>?_
    rw [List.getElem?_map] at hd
    cases hx:us[j]? with
    | none=>rw [hx] at hd;cases hd
    | some x =>
     rw [hx] at hd
     cases hd
     exact (HU.out j x l hx hl).1
   have hLL:LLRow wr (.slice A0 i cc) (us.map (·.2)):=by
    have hpos:0 < lss.length:=List.length_pos_iff.2 HNE.out
    rcases HO.out.2 with ⟨e,h0⟩|⟨g,cap,cur,e,hbg,hh,_⟩
    ·omega
    ·simp only [Value.slice.injEq,true_and] at e
     obtain ⟨rfl,rfl⟩:=e
     refine ⟨g,_,by rw [List.length_map,hul],(Array.getElem?_eq_some_iff.1 hh).1,by rw [List.length_map];omega,fun j d hd=>?_⟩
     rw [List.getElem?_map] at hd
     cases hx:us[j]? with
     | none=>rw [hx] at hd;cases hd
     | some x =>
      rw [hx] at hd
      cases hd
      have hj:=(List.getElem?_eq_some_iff.1 hx).1
      obtain ⟨l,hl⟩:∃ l,lss[j]?=some l:=⟨_,List.getElem?_eq_getElem (by omega)⟩
      obtain ⟨r1,r2⟩:=HU.out j x l hx hl
      have hc:=World.ownsRow.cells HO.out (g:=g) rfl j x.1 (by rw [List.getElem?_map,hx];rfl)
      rw [show (⟨g,0,none⟩:Addr).add j=⟨g,j,none⟩ by unfold Addr.add;split<;>simp_all] at hc
      exact ⟨x.1,hc,(r2.row (make_len (oneM_some.1 r1).2.1 (Nat.le_trans (lightD_iff.1 (oneM_some.1 r1).1).1 (by omega)))).wide⟩
   rw [hil] at hLL
   have HF:=Lib.hid (And.intro hR hLL)
   clear hlt hR hLL
   go_wp2
   go_ret2
   rw [HF.out.1]
   exact ⟨⟨_,rfl,HF.out.2⟩,HN.out.below⟩
section
variable {F L:ByteArray} {f l:Rat}
theorem errOf_ok (hF:IsT F f) (h1:1≤f) (hL:IsT L l) (h0:0≤l) (ht:l≤1):errOf F L=0:=by
 unfold errOf
 rw [if_neg (by rw [hF.err];decide),if_neg (by rw [hL.err];decide),if_neg]
 rintro (h|h)
 ·rw [hF.val,cmpQ_lt] at h;grind
 ·exact h (errU_zero.2 (by rw [hL.val];exact ⟨h0,ht⟩))
theorem mx4 {j:Nat} {q:Rat} (h:Sz j q) (hj:j≤4000):IsT (rT q) q:=isT_rT (fits_sz.2 (h.mono hj))
theorem ofM_is (sf:Sz 120 f) (hL:IsT L l) (sl:Sz 120 l) {i:Nat} (hi:i < 7):IsT (txt (ofM f l) i) ((ofX f i+ofY f i)*(f+1)⁻¹):=by
 have h:=sz_ofM sf sl (by omega) i (by omega)
 have e:txt (ofM f l) i=rT ((ofX f i+ofY f i)*(f+1)⁻¹):=by show rT (ofM f l i)=_;rw [ofM_i f l hi]
 rw [e]
 rw [ofM_i f l hi] at h
 exact mx4 h (by have:=hL.size;omega)
theorem ofM_last (hL:IsT L l):txt (ofM f l) 7=L:=by
 rw [hL.text]
 show rT (ofM f l 7)=_
 rw [show ofM f l 7=l from if_pos rfl]
theorem mofV (hF:IsT F f) (sf:Sz 120 f) (h1:1≤f) (hL:IsT L l) (sl:Sz 120 l) (h0:0≤l) (ht:l≤1):Ret 62 #[.string F,.string L] (.tuple #[cv (txt (ofM f l)),.int .i64 0]):=fun w hr=>by
 have he:=errOf_ok hF h1 hL h0 ht
 have iN:IsT (rT (f+1)) (f+1):=mx4 (sz_next sf) (by omega)
 have iX:∀ i:Nat,i < 7→IsT (rT (ofX f i)) (ofX f i):=fun i hi=>mx4 (sz_ofX sf hi) (by omega)
 have iY:∀ i:Nat,i < 7→IsT (rT (ofY f i)) (ofY f i):=fun i hi=>mx4 (sz_ofY sf hi) (by omega)
 have iS:∀ i:Nat,i < 7→IsT (rT (ofX f i+ofY f i)) (ofX f i+ofY f i):=fun i hi=>mx4 (sz_ofS sf hi) (by omega)
 have ey:∀ i:Nat,(1:Int) - ((i:Int)+2)=-1 - (i:Int):=fun i=>by omega
 have h:=mof_walk F L (rT (f+1)) (fun i=>rT (ofX f i)) (fun i=>rT (ofY f i)) (fun i=>rT (ofX f i+ofY f i)) (txt (ofM f l)) w hF.size hL.size hr (ofM_last hL)
  (Lib.hid fun _=>isAdd hF IsT.one iN) (Lib.hid fun _ i hi=>isPow hF (ne_of_one h1) (iX i hi) (by omega) (by omega)) (Lib.hid fun _ i hi=>by rw [ey];exact isPow hF (ne_of_one h1) (iY i hi) (by omega) (by omega))
  (Lib.hid fun _ i hi=>isAdd (iX i hi) (iY i hi) (iS i hi)) (Lib.hid fun _ i hi=>isDiv (iS i hi) iN (ofM_is sf hL sl hi) (next_ne h1))
 rw [he,ofRes_ok] at h
 exact h
end
section
variable {a b c:CT}
end
structure LW (w:World) (L:List (Nat × TypeId × Array Value)) (W:World):Prop where
 held:∀ x∈L,Blk W x.1 x.2.1 x.2.2
 below:Below w.heap.size w W
 res:Res W
theorem LW.nil {w:World} (hr:Res w):LW w [] w:=⟨fun _ hx=>absurd hx (by simp),Below.refl _ _,hr⟩
theorem LW.later {w W W':World} {L:List (Nat × TypeId × Array Value)} (h:LW w L W) (hb:Below W.heap.size W W'):LW w L W' :=
 ⟨fun x hx=>(h.held x hx).below hb (h.held x hx).lt,h.below.trans (hb.mono h.below.size),h.res.below hb⟩
theorem LW.push {w W:World} {L:List (Nat × TypeId × Array Value)} (h:LW w L W) (g:Nat) (t:TypeId) (cs:Array Value) (hg:W.heap.size=g):LW w ((g,t,cs)::L) (W.alloc (.cells cs t)):=by
 subst hg
 refine ⟨fun x hx=>?_,below_alloc h.below _,h.res.below (below_alloc (Below.refl _ _) _)⟩
 rcases List.mem_cons.1 hx with rfl|hx
 ·exact Blk.new W _ _
 ·exact (h.held x hx).alloc _
theorem LW.two {w W:World} {L:List (Nat × TypeId × Array Value)} (h:LW w L W) {x y:Nat × TypeId × Array Value} (hx:x∈L) (hy:y∈L):LW w [x,y] W:=by
 refine ⟨fun z hz=>?_,h.below,h.res⟩
 simp only [List.mem_cons,List.not_mem_nil,or_false] at hz
 rcases hz with rfl|rfl
 ·exact h.held _ hx
 ·exact h.held _ hy
def mfactorB (f:ByteArray):Bool:=decide (f.size≤12)&&(errQ f.data.toList==0)&&decide (cmpQ 1 (valQ f.data.toList)≤0)
theorem merrQ_one:errQ (⟨#[49]⟩:ByteArray).data.toList=0:=IsT.one.err
theorem mfactor_walk (f:ByteArray) (c k:Int) (b:Bool) (w:World) (HC:Hid (∀ w,Calls Tryz.prog 119 #[.string ⟨#[49]⟩,.string f] w fun e w'=>e=.returned (.tuple #[.int .i64 c,.int .i64 k])∧Below w.heap.size w w'))
  (hb:b=(decide (f.size≤12)&&((k==0)&&decide (c≤0)))) :
  Calls Tryz.prog 51 #[.string f] w fun e w'=>e=.returned (.bool b)∧Below w.heap.size w w':=by
 by_cases h1:f.size≤12
 ·have d1:decide ((f.size:Int)≤12)=true:=decide_eq_true (by omega)
  rw [decide_eq_true h1,Bool.true_and] at hb
  clear h1
  by_cases h2:(k==0)=true
  ·rw [h2,Bool.true_and] at hb
   subst hb
   go_enter Tryz.func51,Tryz.ntmps51
   go_wp2_with (go_at_call 119;refine (HC.out _).mono ?_;rintro e w1 ⟨rfl,hb⟩;have HB:=Lib.hid hb;clear hb)
   go_ret
   exact ⟨rfl,HB.out⟩
  ·have h2:(k==0)=false:=by simpa using h2
   rw [h2,Bool.false_and] at hb
   subst hb
   go_enter Tryz.func51,Tryz.ntmps51
   go_wp2_with (go_at_call 119;refine (HC.out _).mono ?_;rintro e w1 ⟨rfl,hb⟩;have HB:=Lib.hid hb;clear hb)
   go_ret
   exact ⟨rfl,HB.out⟩
 ·have d1:decide ((f.size:Int)≤12)=false:=decide_eq_false (by omega)
  rw [decide_eq_false h1,Bool.false_and] at hb
  clear h1
  subst hb
  go_enter Tryz.func51,Tryz.ntmps51
  go_wp2_with (go_at_call 119;refine (HC.out _).mono ?_;rintro e w1 ⟨rfl,hb⟩;have HB:=Lib.hid hb;clear hb)
  go_ret
  exact ⟨rfl,HB.out⟩
theorem mfactor_any (f:ByteArray) (w:World) (hf:f.size≤9223372036854775807) :
  Calls Tryz.prog 51 #[.string f] w fun e w'=>e=.returned (.bool (mfactorB f))∧Below w.heap.size w w':=by
 by_cases he:errQ f.data.toList=0
 ·refine mfactor_walk f _ 0 _ w (Lib.hid (fun w=>rcmpT w IsT.one (IsT.of he))) ?_
  unfold mfactorB
  rw [he]
  simp
 ·refine mfactor_walk f 0 (errQ f.data.toList:Int) _ w (Lib.hid (fun w=>refCmp_err2B ⟨#[49]⟩ f w (by decide) hf merrQ_one he)) ?_
  unfold mfactorB
  have h1:((errQ f.data.toList)==0)=false:=beq_eq_false_iff_ne.2 he
  have h2:((errQ f.data.toList:Int)==0)=false:=by rw [beq_eq_false_iff_ne];omega
  rw [h1,h2]
  simp
theorem mfactor_ok {f:ByteArray} (h:mfactorB f=true):f.size≤12∧errQ f.data.toList=0∧1≤valQ f.data.toList:=by
 unfold mfactorB at h
 simp only [Bool.and_eq_true,decide_eq_true_eq,beq_iff_eq] at h
 exact ⟨h.1.1,h.1.2,(cmpQ_le _ _).1 h.2⟩
end Go.Proofs.YtigapglmipmbeaaGreatDoor
namespace Go.Proofs.YtigapglmipmbeaaGreatDoor
theorem insX_go {y x:L2} {l:List L2} (h:ltK y.1 x.1=true):insX (y::l) x=(match insX l x with|.error n=>.error n|.ok m=>.ok (y::m)):=by
 conv=>lhs;unfold insX
 rw [if_pos h]
 rfl
theorem insX_new:∀ {a:List L2} {x:L2} {k:Nat},k≤a.length→(∀ (j:Nat) y,j < k→a[j]?=some y→ltK y.1 x.1=true)→(∀ y,a[k]?=some y→ltK y.1 x.1=false∧y.1≠x.1)→insX a x=.ok (a.take k++x::a.drop k)
 | [],x,k,hk,_,_=>by
  obtain rfl:k=0:=by simpa using hk
  rfl
 | y::l,x,0,_,_,h=>by
  obtain ⟨h1,h2⟩:=h y rfl
  unfold insX
  rw [if_neg (by rw [h1];decide),if_neg h2]
  rfl
 | y::l,x,k+1,hk,h,h2=>by
  rw [insX_go (h 0 y (by omega) rfl),insX_new (a:=l) (k:=k) (by simpa using hk) (fun j z hj hz=>h (j+1) z (by omega) (by simpa using hz)) (fun z hz=>h2 z (by simpa using hz))]
  rfl
theorem insX_old:∀ {a:List L2} {x y:L2} {k:Nat},(∀ (j:Nat) z,j < k→a[j]?=some z→ltK z.1 x.1=true)→a[k]?=some y→ltK y.1 x.1=false→y.1=x.1 →
  insX a x=(match plX y.2 x.2 with|.error n=>.error n|.ok s=>.ok (a.set k (y.1,s)))
 | [],x,y,k,_,h,_,_=>by simp at h
 | z::l,x,y,0,_,h,h1,h2=>by
  simp only [List.getElem?_cons_zero,Option.some.injEq] at h
  subst h
  unfold insX
  rw [if_neg (by rw [h1];decide),if_pos h2]
  cases plX z.2 x.2<;>rfl
 | z::l,x,y,k+1,h,hk,h1,h2=>by
  rw [insX_go (h 0 z (by omega) rfl),insX_old (a:=l) (k:=k) (fun j u hj hu=>h (j+1) u (by omega) (by simpa using hu)) (by simpa using hk) h1 h2]
  cases plX y.2 x.2<;>rfl
theorem collX_step (a:List L2) (x:L2) (l:List L2) {b:List L2} (h:insX a x=.ok b):collX a (x::l)=collX b l:=by
 simp only [collX,h]
theorem collX_fail (a:List L2) (x:L2) (l:List L2) {n:Nat} (h:insX a x=.error n):collX a (x::l)=.error n:=by
 simp only [collX,h]
end Go.Proofs.YtigapglmipmbeaaGreatDoor
namespace Go.Proofs.YtigapglmipmbeaaGreatDoor
open Go.RowKit Go.Shelf
open Lim
def Src (w:World) (size:Nat) (sv:Value) (m:Nat) (news:List Value):Prop :=
 news.length=m*size∧((∃ c,sv=.slice none 0 c∧m=0)∨∃ ad c,sv=.slice (some ad) m c∧∀ j u,news[j]?=some u→w.cell? (ad.add j)=some u)
theorem run_append_empty {P:Program} (w:World) (base:Nat) (t ty e:TypeId) (i:TypeInfo) (size:Nat) (ht:P.underlying t=some (.slice e)) (hi:P.info? e=some i) (hsize:i.size=size)
  (v:Value) (n:Nat) (xs:List Value) (hown:w.ownsRow base e size v n xs) (c:Nat):(Builtin.append_ #[t,t] ty #[v,.slice none 0 c]).run P w=.ok v w:=by
 subst hsize
 rcases hown.2 with ⟨rfl,rfl⟩|⟨g,cap,cur,rfl,hbg,hg,hnc,hcm,hcs,htake⟩
 ·simp [Builtin.append_,run_underlying ht,sizeOf,typeInfo,hi,Builtin.lenOf,Builtin.firstCells]
 ·simp [Builtin.append_,run_underlying ht,sizeOf,typeInfo,hi,Builtin.lenOf,Builtin.firstCells,loadCells,hnc,storeCells]
theorem wpListIn_append_src {F:Fence} {n:Nat} {P:Program} (w:World) {ops:Array Oper} {rest:List Oper} {o:Oper} {a:Act} {Q:Exit→Act→World→Prop}
  (hg:o.guard=none) (s x:Operand) (t:TypeId) (hop:o.op=Op.call { callee:=Callee.builtin Builtin.append,args:=#[s,x],argTypes:=#[t,t] })
  (base:Nat) (e:TypeId) (i:TypeInfo) (z:Value) (size bytes:Nat) (h1:P.underlying t=some (.slice e)) (h2:P.info? e=some i) (h3:i.zero=some z) (h4:i.size=size) (h5:i.bytes=bytes) (h6:z.cells.size=size) (h7:0 < size)
  (v:Value) (k:Nat) (xs:List Value) (hs:a.eval s=v) (hown:w.ownsRow base e size v k xs) (sv:Value) (m:Nat) (news:List Value) (hx:a.eval x=sv) (hsrc:Src w size sv m news)
  (h1c:∀ u∈news,u.oneCell'=true) (b1:k+m≤maxLen) (b2:(k+m)*bytes≤140737488355328) (b3:base≤w.heap.size)
  (hK:∀ v' w',w'.ownsRow base e size v' (k+m) (xs++news)→w.grownBy w' v.ownBlock→wpListIn F n P ops Q rest (a.put o.dst v') w') :
  wpListIn F n P ops Q (o::rest) a w:=by
 rcases hsrc with ⟨hl,⟨c,rfl,rfl⟩|⟨ad,c,rfl,hc⟩⟩
 ·have hn:news=[]:=List.eq_nil_of_length_eq_zero (by simpa using hl)
  subst hn
  refine wpListIn_plain hg fun K hK'=>?_
  have hrun:=run_append_empty (P:=P) w base t o.type e i size h1 h2 h4 v k xs hown c
  unfold Oper.wpIn
  refine ⟨?_,?_⟩
  ·simp [Oper.about,hop,resolve,Target.leads,Sem.run_pure]
  ·rw [Oper.semAt_plain F _ _ (by rw [hop];intro c hc';cases hc')]
   simp [execOp,hop,resolve,invoke,builtin,hs,hx,hrun,Result.andThen]
   exact hK' _ _ (hK v w (by simpa using hown) ⟨rfl,rfl,rfl,Nat.le_refl _,fun _ _ _=>rfl⟩)
 ·exact wpListIn_append_own w hg s x t hop base e i z size bytes h1 h2 h3 h4 h5 h6 h7 v k xs hs hown ad m c news hx hl hc h1c b1 b2 b3 fun v' w' r1 r2 _=>hK v' w' r1 r2
theorem wpIn_region_later {F:Fence} {n:Nat} {P:Program} {id:Nat} {Q:Exit→Act→World→Prop} {a:Act} {w:World} {l:List Oper} (hro:F.round=none) (hm:P.follows .mixedOrders=true) (hB:Region.lexB .any l.toArray=true)
  (h:wpQuietIn F n P l.toArray (fun W=>∃ x:LaterW w,W=x.W) (fun a'=>∀ W,(∃ x:LaterW w,W=x.W)→Q .normal a' W) l a):(Code.region id l.toArray true).wpIn F n P Q a w :=
 wpIn_region_quiet (C:=fun W=>∃ x:LaterW w,W=x.W) hro hm hB ⟨⟨{ w with drawn:=w.drawn+1 },⟨rfl,rfl,rfl,Nat.le_refl _,fun _ _=>rfl⟩⟩,rfl⟩ (by simpa using h)
theorem wide_fn (f:FuncId):Fence.wide.fn f↔True:=iff_of_true trivial trivial
theorem LaterW.at {w:World} {b o:Nat} {u:Value} (hb:b < w.heap.size) (h:w.cell? ⟨b,o,none⟩=some u):∀ z:LaterW w,z.W.cell? ⟨b,o,none⟩=some u:=fun z=>(z.h.cell (p:=⟨b,o,none⟩) hb).trans h
theorem addr_add0 (g j i:Nat):((⟨g,j,none⟩:Addr).add i)=⟨g,j+i,none⟩:=by unfold Addr.add;split<;>simp_all
theorem cellsM_take:∀ (l:List L2) (k:Nat),cellsM (l.take k)=(cellsM l).take (k*2)
 | _,0=>by simp [cellsM]
 | [],k+1=>by simp [cellsM]
 | x::l,k+1=>by
  rw [List.take_succ_cons,cellsM_cons,cellsM_cons,show (k+1)*2=k*2+1+1 by omega,List.take_succ_cons,List.take_succ_cons,cellsM_take l k]
theorem cellsM_drop:∀ (l:List L2) (k:Nat),cellsM (l.drop k)=(cellsM l).drop (k*2)
 | _,0=>by simp
 | [],k+1=>by simp [cellsM]
 | x::l,k+1=>by
  rw [List.drop_succ_cons,cellsM_cons,show (k+1)*2=k*2+1+1 by omega,List.drop_succ_cons,List.drop_succ_cons,cellsM_drop l k]
theorem cellsM_set:∀ {l:List L2} {k:Nat} {y:L2} (s:ByteArray),l[k]?=some y→cellsM (l.set k (y.1,s))=(cellsM l).set (k*2+1) (.string s)
 | [],k,y,s,h=>by simp at h
 | x::l,0,y,s,h=>by
  simp only [List.getElem?_cons_zero,Option.some.injEq] at h
  subst h
  rfl
 | x::l,k+1,y,s,h=>by
  rw [List.set_cons_succ,cellsM_cons,cellsM_cons,cellsM_set s (by simpa using h),show (k+1)*2+1=k*2+1+1+1 by omega,List.set_cons_succ,List.set_cons_succ]
theorem one_cellsM (l:List L2):∀ u∈cellsM l,u.oneCell'=true:=fun u hu=>by
 unfold cellsM at hu
 obtain ⟨x,_,hx⟩:=List.mem_flatMap.1 hu
 simp only [List.mem_cons,List.not_mem_nil,or_false] at hx
 rcases hx with rfl|rfl<;>rfl
theorem one_pairM (x:L2):∀ u∈([.string x.1,.string x.2]:List Value),u.oneCell'=true:=fun u hu=>by
 simp only [List.mem_cons,List.not_mem_nil,or_false] at hu
 rcases hu with rfl|rfl<;>rfl
theorem cell_later' {w W:World} {g j:Nat} {u:Value} (hB:Below w.heap.size w W) (h:w.cell? ⟨g,j,none⟩=some u) (hg:g < w.heap.size):W.cell? ⟨g,j,none⟩=some u:=(hB.cell (p:=⟨g,j,none⟩) hg).trans h
theorem own_lt {base n cap g:Nat} {w:World} {l:List Value} {E:TypeId} {size:Nat} (h:w.ownsRow base E size (.slice (some ⟨g,0,none⟩) n cap) n l):g < w.heap.size:=(h.lt g rfl).2
theorem srcM_take {base g cap:Nat} {w W:World} {a:List L2} (h:OwnM base w (.slice (some ⟨g,0,none⟩) a.length cap) a) (hB:Below w.heap.size w W) {k c:Nat} (hk:k≤a.length) :
  Src W 2 (.slice (some ⟨g,0,none⟩) k c) k (cellsM (a.take k)):=by
 refine ⟨by rw [cellsM_length,List.length_take,Nat.min_eq_left hk],.inr ⟨_,_,rfl,fun j u hu=>?_⟩⟩
 rw [cellsM_take,List.getElem?_take] at hu
 split at hu
 ·have:=World.ownsRow.cells h (g:=g) rfl j u hu
  rw [addr_add0] at this ⊢
  exact cell_later' hB this (own_lt h)
 ·cases hu
theorem srcM_drop {base g cap:Nat} {w W:World} {a:List L2} (h:OwnM base w (.slice (some ⟨g,0,none⟩) a.length cap) a) (hB:Below w.heap.size w W) {k c:Nat} :
  Src W 2 (.slice (some ⟨g,k*2,none⟩) (a.length - k) c) (a.length - k) (cellsM (a.drop k)):=by
 refine ⟨by rw [cellsM_length,List.length_drop],.inr ⟨_,_,rfl,fun j u hu=>?_⟩⟩
 rw [cellsM_drop,List.getElem?_drop] at hu
 have:=World.ownsRow.cells h (g:=g) rfl _ u hu
 rw [addr_add0] at this ⊢
 have:=cell_later' hB this (own_lt h)
 rwa [Nat.zero_add] at this
theorem srcM_zero {W:World} {A:Option Addr} {c:Nat}:Src W 2 (.slice A 0 c) 0 []:=by
 refine ⟨rfl,?_⟩
 cases A with
 | none=>exact .inl ⟨c,rfl,rfl⟩
 | some a=>exact .inr ⟨a,c,rfl,fun j u h=>by simp at h⟩
theorem srcM_one {W:World} {B:Nat} {x:L2} (h:W.heap[B]?=some (.cells #[.string x.1,.string x.2] 30 (0,0))):Src W 2 (.slice (some ⟨B,0,none⟩) 1 1) 1 [.string x.1,.string x.2] :=
 ⟨rfl,.inr ⟨_,_,rfl,fun j u hu=>by
  match j with
  | 0=>rw [addr_add0];simp at hu;subst hu;simp [World.cell?,h]
  | 1=>rw [addr_add0];simp at hu;subst hu;simp [World.cell?,h]
  | j+2=>simp at hu⟩⟩
theorem two_old (w:World) (o1 o2:Obj):((w.alloc o1).alloc o2).heap[w.heap.size]?=some o1:=(heap_alloc_old (w.alloc o1) o2 (by simp)).trans (heap_alloc_new w o1)
theorem two_cur (w:World) (o1 o2:Obj):((w.alloc o1).alloc o2).heap[w.heap.size+1]?=some o2:=by
 have:=heap_alloc_new (w.alloc o1) o2
 simpa using this
theorem own_atM {W:World} {base b:Nat} (hb:base≤b) (h:W.heap[b]?=some (.cells #[] 30 (0,0))):W.ownsRow base 30 2 (.slice (some ⟨b,0,none⟩) 0 0) 0 [] :=
 ⟨rfl,.inr ⟨b,0,#[],rfl,hb,h,Nat.le_refl _,Nat.zero_le _,rfl,rfl⟩⟩
theorem grow_belowM {n size m:Nat} {w W W':World} {e:TypeId} {v:Value} {xs:List Value} (h:Below n w W) (hn:n≤W.heap.size) (ho:W.ownsRow n e size v m xs) (hg:W.grownBy W' v.ownBlock):Below n w W' :=
 ⟨hg.os.trans h.os,hg.tape.trans h.tape,hg.output.trans h.output,Nat.le_trans h.size hg.size,fun k hk=>(hg.block k (by omega) fun e=>by have:=(ho.lt k e.symm).1;omega).trans (h.block k hk)⟩
theorem below_drewM (w:World):Below w.heap.size w w.drew:=⟨rfl,rfl,rfl,Nat.le_refl _,fun _ _=>rfl⟩
structure CollI (w:World) (ls:List L2) (i:Nat) (W:World) (v:Value) (a:List L2):Prop where
 nw:NW w W
 own:OwnM w.heap.size W v a
 coll:collX [] ls=collX a (ls.drop i)
 len:a.length≤i
 short:Short a
theorem CollI.nil {w:World} {ls:List L2} (hr:Res w):CollI w ls 0 w (.slice none 0 0) []:=⟨NW.refl hr,OwnM.nil _ _,by simp,Nat.le_refl _,fun x h=>by cases h⟩
section
variable {w W W':World} {ls a:List L2} {i:Nat} {v:Value}
theorem CollI.later (h:CollI w ls i W v a) (hb:Below W.heap.size W W'):CollI w ls i W' v a:=⟨h.nw.later hb,h.own.later hb,h.coll,h.len,h.short⟩
theorem CollI.cap {A:Option Addr} {c:Nat} (h:CollI w ls i W (.slice A a.length c) a):(A=none∧c=0∧a=[])∨∃ g,A=some ⟨g,0,none⟩∧a.length≤c∧c≤9223372036854775807:=by
 rcases h.own.2 with ⟨e,h0⟩|⟨g,c',cur,e,_,_,h1,h2,_⟩
 ·simp only [Value.slice.injEq] at e;exact .inl ⟨e.1,e.2.2,List.eq_nil_of_length_eq_zero h0⟩
 ·simp only [Value.slice.injEq] at e;unfold maxLen at h2;exact .inr ⟨g,e.1,by omega,by omega⟩
theorem CollI.at {A:Option Addr} {c k:Nat} {y:L2} (h:CollI w ls i W (.slice A a.length c) a) (hy:a[k]?=some y):∃ g,A=some ⟨g,0,none⟩∧g < W.heap.size∧W.cell? ⟨g,k*2,none⟩=some (.string y.1)∧W.cell? ⟨g,k*2+1,none⟩=some (.string y.2):=by
 have hk:=(List.getElem?_eq_some_iff.1 hy).1
 rcases h.cap with ⟨_,_,rfl⟩|⟨g,rfl,_⟩
 ·simp at hk
 ·obtain ⟨c0,c1⟩:=cellsM_at hy
  have r0:=World.ownsRow.cells h.own (g:=g) rfl _ _ c0
  have r1:=World.ownsRow.cells h.own (g:=g) rfl _ _ c1
  rw [addr_add0,Nat.zero_add] at r0 r1
  exact ⟨g,rfl,own_lt h.own,r0,r1⟩
theorem CollI.new {W5:World} {v3:Value} {x:L2} {k:Nat} (h:CollI w ls i W v a) (hx:ls[i]?=some x) (hins:insX a x=.ok (a.take k++x::a.drop k)) (hk:k≤a.length) (hsx:x.1.size≤270000∧x.2.size≤270000)
  (hB:Below W.heap.size W W5) (hown:W5.ownsRow W.heap.size 30 2 v3 (k+1+(a.length - k)) (cellsM (a.take k)++[.string x.1,.string x.2]++cellsM (a.drop k))) :
  CollI w ls (i+1) W5 v3 (a.take k++x::a.drop k):=by
 have e:(a.take k++x::a.drop k).length=k+1+(a.length - k):=by simp;omega
 refine ⟨h.nw.later hB,?_,?_,?_,?_⟩
 ·refine owns_base (base:=W.heap.size) ?_ h.nw.below.size
  rw [e,cellsM_append,cellsM_cons]
  simpa using hown
 ·rw [h.coll,drop_of hx,collX_step _ _ _ hins]
 ·rw [e];have:=h.len;omega
 ·exact Short.ins hins h.short hsx
theorem CollI.set {g c k:Nat} {x y:L2} {s:ByteArray} (hr:Res w) (h:CollI w ls i W (.slice (some ⟨g,0,none⟩) a.length c) a) (hx:ls[i]?=some x) (hy:a[k]?=some y) (hins:insX a x=.ok (a.set k (y.1,s))) (hsx:x.1.size≤270000∧x.2.size≤270000) :
  CollI w ls (i+1) (W.setCell ⟨g,k*2+1,none⟩ (.string s)) (.slice (some ⟨g,0,none⟩) a.length c) (a.set k (y.1,s)):=by
 obtain ⟨r1,r2⟩:=World.ownsRow.stored h.own (k*2+1) (.string s)
 have hg:=(h.own.lt g rfl).1
 refine ⟨grow_nw h.nw hr r2 (fun r e=>by cases e;exact hg),?_,?_,?_,?_⟩
 ·unfold OwnM
  rw [List.length_set,cellsM_set s hy]
  exact r1
 ·rw [h.coll,drop_of hx,collX_step _ _ _ hins]
 ·rw [List.length_set];have:=h.len;omega
 ·exact Short.ins hins h.short hsx
end
end Go.Proofs.YtigapglmipmbeaaGreatDoor
namespace Go.Proofs.YtigapglmipmbeaaGreatDoor
open Go.RowKit Go.Shelf
open Lim
attribute [local go_sem] Oper.semAt_some wide_fn
def collK (ls:List L2):Except Nat (List L2):=match collX [] ls with
 | .error n=>.error n
 | .ok a=>.ok (keepX a)
theorem collK_err {ls:List L2} {n:Nat} (h:collX [] ls=.error n):collK ls=.error n:=by unfold collK;rw [h]
theorem collK_ok {ls a:List L2} (h:collX [] ls=.ok a):collK ls=.ok (keepX a):=by unfold collK;rw [h]
theorem keepX_snoc {a:List L2} {k:Nat} {y:L2} (hy:a[k]?=some y):keepX (a.take (k+1))=if y.2=zT then keepX (a.take k) else keepX (a.take k)++[y]:=by
 unfold keepX
 rw [List.take_add_one,hy,Option.toList_some,List.filter_append]
 split
 ·rename_i h;rw [List.filter_cons_of_neg (by simpa using h)];simp
 ·rename_i h;rw [List.filter_cons_of_pos (by simpa using h)];simp
namespace S2
theorem rdcollect_any (ls:List L2) (v:Value) (w:World) (hv:LRow w v ls) (hs:Short ls) (hr:Res w) :
  Calls Tryz.prog 111 #[v] w fun e w'=>ResM w.heap.size (collK ls) e w'∧Below w.heap.size w w':=by
 have HV:=Lib.hid hv
 have HS:=Lib.hid hs
 obtain ⟨A,c,rfl,HLEN,hcells⟩:=hv
 have H0:=Lib.hid (CollI.nil (ls:=ls) hr)
 have HRS:=Lib.hid hr
 obtain ⟨i0,hi,hz0,hz1,hz2⟩:=info_parts infoM
 clear hr hcells hs
 generalize hm:collK ls=mk
 have HMK:=Lib.hid hm
 clear hm
 refine (callsIn_wide (n:=6)).1 ?_
 have h1:1≤6:=by omega
 have hmx:Tryz.prog.follows .mixedOrders=true:=by kernel_rfl
 refine callsIn_of_wp Tryz.func111 rfl trivial ?_ rfl
 simp only [Tryz.ntmps111,List.size_toArray,List.length_cons,List.length_nil,Nat.reduceAdd,Nat.reduceSub,Array.replicate_succ,Array.replicate_zero,List.push_toArray,List.append_toArray,List.nil_append,List.cons_append]
 gi_wp2
 gi_loopw [4,5] (fun v4 v5 wr=>∃ (i:Nat) (A0:Option Addr) (cc:Nat) (a:List L2),i≤ls.length∧v4=.slice A0 a.length cc∧v5=.int .i64 (i:Int)∧Hid (CollI w ls i wr (.slice A0 a.length cc) a)) (fun _ v5 _=>ls.length - (intOf v5).toNat)
 case atStart=>exact ⟨0,none,0,[],Nat.zero_le _,rfl,rfl,H0⟩
 case round =>
  clear H0
  obtain ⟨i,A0,cc,a,hi0,rfl,rfl,HI⟩:=hrel
  obtain ⟨wo,rfl⟩:∃ wo,wo=wr:=⟨_,rfl⟩
  have hal:=HI.out.len
  by_cases hlt:i < ls.length
  ·obtain ⟨x,hx⟩:∃ x,ls[i]?=some x:=⟨_,List.getElem?_eq_getElem hlt⟩
   obtain ⟨b,o,c',e',_,_,_⟩:=HV.out.at HI.out.nw.below hx
   simp only [Value.slice.injEq,true_and] at e'
   obtain ⟨rfl,rfl⟩:=e'
   have hlt':(i:Int) < (ls.length:Int):=by omega
   have HSX:=Lib.hid (HS.out x (List.mem_of_getElem? hx))
   have HXI:=Lib.hid hx
   have HLT:=Lib.hid (And.intro hlt hlt')
   obtain ⟨f,d⟩:=x
   dsimp only at HSX HXI
   clear hx hlt
   gi_wp2
   gi_loopw [6] (fun v6 wq=>∃ k:Nat,k≤a.length∧v6=.int .i64 (k:Int)∧Hid (∀ (j:Nat) y,j < k→a[j]?=some y→ltK y.1 f=true)∧Hid (CollI w ls i wq (.slice A0 a.length cc) a)) (fun v6 _=>a.length - (intOf v6).toNat)
   case atStart=>exact ⟨0,Nat.zero_le _,rfl,Lib.hid (fun j y h=>by omega),HI⟩
   case round =>
    clear HI
    obtain ⟨k,hk,rfl,HLO,HQ0⟩:=hrel
    have HXC0:=Lib.hid (HV.out.cell2 HQ0.out.nw.below HXI.out)
    by_cases hka:k < a.length
    ·obtain ⟨y,hy⟩:∃ y,a[k]?=some y:=⟨_,List.getElem?_eq_getElem hka⟩
     have hka':(k:Int) < (a.length:Int):=by omega
     have hkne:((k:Int)==(a.length:Int))=false:=by rw [beq_eq_false_iff_ne];omega
     obtain ⟨g,rfl,hgb,p0,p1⟩:=HQ0.out.at hy
     have HYK:=Lib.hid hy
     obtain ⟨yf,yd⟩:=y
     dsimp only at p0 p1 HYK
     obtain ⟨hbq,q0,q1⟩:=HXC0.out
     dsimp only at q0 q1
     have TL:=lt_bytes yf f
     cases h3:ltK yf f with
     | true =>
      rw [h3] at TL
      have HLO2:=Lib.hid (show ∀ (j:Nat) z,j < k+1→a[j]?=some z→ltK z.1 f=true from fun j z hj hz=>by
       rcases Nat.lt_or_ge j k with h|h
       ·exact HLO.out j z h hz
       ·obtain rfl:j=k:=by omega
        rw [HYK.out] at hz;cases hz;exact h3)
      have HKA:=Lib.hid hka
      clear h3 hy hka
      gi_wp2
      gi_quiet (fail)
      have HQ:=Lib.hid (HQ0.out.later (below_drewN' (Below.refl _ _) nq))
      gi_wp2
      go_roundw
      case rel=>exact ⟨k+1,HKA.out,by go_num,HLO2,HQ⟩
      case measure=>have:=HKA.out;simp [intOf];omega
     | false =>
      rw [h3] at TL
      have HLF:=Lib.hid h3
      clear h3 hy
      gi_wp2
      gi_quiet (fail)
      have HQ1:=Lib.hid (HQ0.out.later (below_drewN' (Below.refl _ _) nq))
      generalize wr.drewN nq=w1 at *
      clear p0 p1 q0 q1 hbq hgb TL HXC0 HQ0 nq
      obtain ⟨g',e',hgb,p0,p1⟩:=HQ1.out.at HYK.out
      cases e'
      have HXC1:=Lib.hid (HV.out.cell2 HQ1.out.nw.below HXI.out)
      obtain ⟨hbq,q0,q1⟩:=HXC1.out
      dsimp only at p0 p1 q0 q1
      have TE:=eq_bytes yf f
      by_cases he:yf=f
      ·rw [decide_eq_true he] at TE
       have HA:=Lib.hid (retRPlX (HQ1.out.short _ (List.mem_of_getElem? HYK.out)).2 HSX.out.2)
       have HIN:=Lib.hid (insX_old (x:=(f,d)) HLO.out HYK.out HLF.out he)
       dsimp only at HA HIN HSX
       clear he
       gi_wp2
       gi_quiet (fail)
       have HQ:=Lib.hid (HQ1.out.later (below_drewN' (Below.refl _ _) nq))
       generalize w1.drewN nq=wq at *
       clear p0 p1 q0 q1 hbq hgb TE HXC1 HQ1 nq
       obtain ⟨g',e',hgb,p0,p1⟩:=HQ.out.at HYK.out
       cases e'
       have HXC:=Lib.hid (HV.out.cell2 HQ.out.nw.below HXI.out)
       obtain ⟨hbq,q0,q1⟩:=HXC.out
       dsimp only at p0 p1 q0 q1
       have xi:=LaterW.at hgb p1
       have xj:=LaterW.at hbq q1
       have HKK:=Lib.hid (And.intro hgb p1)
       clear p0 p1 q0 q1 hbq hgb HXC
       cases hpl:plX yd d with
       | error n =>
        rw [hpl] at HA HIN
        change Hid (Ret _ _ (.tuple #[.string ⟨#[]⟩,.int .i64 (n:Int)])) at HA
        have hz:=ne_zero (exQ_err hpl)
        have hz2:=ne_zero2 (exQ_err hpl)
        have HR:=Lib.hid (show mk=.error n by rw [← HMK.out];exact collK_err (by rw [HQ.out.coll,drop_of HXI.out];exact collX_fail _ _ _ HIN.out))
        clear hpl
        gi_wp2
        refine wpIn_region_later rfl hmx (by kernel_rfl) ?_
        repeat (gi_big_quiet_step ((gi_at_call 59;refine (callsIn_wide.2 (HA.out _ (HQ.out.nw.res.below (LaterW.h _)))).mono ?_;rintro e w99 ⟨rfl,hb9⟩;exact ⟨rfl,⟨⟨w99,(LaterW.h _).trans (hb9.mono (LaterW.h _).size)⟩,rfl⟩⟩)))
        refine wpQuietIn_nil ?_
        rintro _ ⟨z,rfl⟩
        gi_wp2
        refine bodyPost_ret (results_tmp2 rfl _ _ _) rfl ?_
        rw [HR.out]
        exact ⟨rfl,(HQ.out.nw.later z.h).below⟩
       | ok s =>
        rw [hpl] at HA HIN
        change Hid (Ret _ _ (.tuple #[.string s,.int .i64 0])) at HA
        clear hpl
        gi_wp2
        refine wpIn_region_later rfl hmx (by kernel_rfl) ?_
        repeat (gi_big_quiet_step ((gi_at_call 59;refine (callsIn_wide.2 (HA.out _ (HQ.out.nw.res.below (LaterW.h _)))).mono ?_;rintro e w99 ⟨rfl,hb9⟩;exact ⟨rfl,⟨⟨w99,(LaterW.h _).trans (hb9.mono (LaterW.h _).size)⟩,rfl⟩⟩)))
        refine wpQuietIn_nil ?_
        rintro _ ⟨z,rfl⟩
        have HZ:=Lib.hid (HQ.out.later z.h)
        generalize z.W=wz at *
        clear xi xj
        obtain ⟨g',e',hgb,p0,p1⟩:=HZ.out.at HYK.out
        cases e'
        dsimp only at p0 p1
        have fz:=World.ownsRow.frozenAt HZ.out.own (k*2+1)
        gi_wp2
        go_roundw
        case rel=>exact ⟨i+1,some ⟨g,0,none⟩,cc,a.set k (yf,s),HLT.out.1,by rw [List.length_set],by go_num,Lib.hid (by rw [List.length_set];exact HZ.out.set HRS.out HXI.out HYK.out HIN.out HSX.out)⟩
        case measure=>have:=HLT.out.1;simp [intOf];omega
      ·rw [decide_eq_false he] at TE
       have HINS:=Lib.hid (show insX a (f,d)=.ok (a.take k++(f,d)::a.drop k) from insX_new hk HLO.out (fun z hz=>by rw [HYK.out] at hz;cases hz;exact ⟨HLF.out,he⟩))
       clear he
       gi_wp2
       gi_quiet (fail)
       have HQ:=Lib.hid (HQ1.out.later (below_drewN' (Below.refl _ _) nq))
       generalize w1.drewN nq=wq at *
       clear p0 p1 q0 q1 hbq hgb TE HXC1 HQ1 nq
       have HXC:=Lib.hid (HV.out.cell2 HQ.out.nw.below HXI.out)
       dsimp only at HXC
       have HEL:=Lib.hid (show ∀ (A:Option Addr) c,(Value.slice A (k+1+(a.length - k)) c)=.slice A (a.take k++(f,d)::a.drop k).length c from fun A c=>by congr 1;simp;omega)
       obtain ⟨hcl1,hcl2⟩:a.length≤cc∧cc≤9223372036854775807:=by
        rcases HQ.out.cap with ⟨e,_⟩|⟨_,_,h1,h2⟩
        ·cases e
        ·exact ⟨h1,h2⟩
       have hi3':(k:Int)≤(a.length:Int):=by omega
       have hi2:(k:Int)≤(cc:Int):=by omega
       have hck:cc≠k:=by omega
       have hc0:cc≠0:=by omega
       have HSA:=Lib.hid (show ∀ W,Below wq.heap.size wq W→Src W 2 (.slice (some ⟨g,0,none⟩) k cc) k (cellsM (a.take k)) from fun W hB=>srcM_take HQ.out.own hB hk)
       have HSB:=Lib.hid (show ∀ W,Below wq.heap.size wq W→Src W 2 (.slice (some ⟨g,k*2,none⟩) (a.length - k) (cc - k)) (a.length - k) (cellsM (a.drop k)) from fun W hB=>srcM_drop HQ.out.own hB)
       obtain ⟨hbq,q0,q1⟩:=HXC.out
       have xi0:∀ x:SameAt wq (fun k=>k < wq.heap.size),x.W.cell? ⟨b,o+i*2,none⟩=some (.string f):=fun x=>x.cell hbq q0
       have xi1:∀ x:SameAt wq (fun k=>k < wq.heap.size),x.W.cell? ⟨b,o+i*2+1,none⟩=some (.string d):=fun x=>x.cell hbq q1
       gi_wp2
       refine wpIn_stage (IsSame wq (fun k=>k < wq.heap.size)) [1,2,3,5,6,7,8,11,12,13] [15] hmx (by kernel_rfl) (isSame_of fun _ _=>rfl) ?_
       change wpStage _ _ _ _ _ _ _ _ (6+10) _ _ _
       refine stage_reads [1,2,3,5,6,7,8,11,12,13] 6 _ _ (by kernel_rfl) ?_
       change wpQuietIn _ _ _ _ (fun W'=>∃ x:SameAt wq (fun k=>k < wq.heap.size),W'=x.W) _ _ _
       simp only [pick_cons,pick_nil,List.getElem?_cons_zero,List.getElem?_cons_succ,Option.elim_some]
       repeat (gi_big_quiet_step (fail))
       refine wpQuietIn_nil ?_
       clear xi0 xi1 q0 q1 hbq
       refine stage_two 0 9 (by kernel_rfl) rfl rfl ?_ ?_
       ·gi_wp2
        refine stage_post (isSame_below (Below.alloc (below_drewM wq) (Nat.le_refl _) _) (fun k hk=>hk)) ?_
        refine stage_two 4 9 (by kernel_rfl) rfl rfl ?_ ?_
        ·have ho0:(wq.drew.alloc (.cells #[] 30)).ownsRow wq.heap.size 30 2 (.slice (some ⟨wq.heap.size,0,none⟩) 0 0) 0 []:=own_atM (Nat.le_refl _) (heap_alloc_new wq.drew _)
         have hB0:Below wq.heap.size wq (wq.drew.alloc (.cells #[] 30)):=Below.alloc (below_drewM wq) (Nat.le_refl _) _
         have HS1:=Lib.hid (HSA.out _ hB0)
         gi_wp2_with (gi_at_builtin;go_loud (refine wpListIn_append_src _ rfl _ _ 22 rfl wq.heap.size 30 i0 (.agg #[.string ByteArray.empty,.string ByteArray.empty]) 2 32 Tryz.underlying22 hi hz0 hz1 hz2 rfl (by decide) (.slice (some ⟨wq.heap.size,0,none⟩) 0 0) 0 [] rfl ho0 _ k (cellsM (a.take k)) rfl HS1.out (one_cellsM _) (by unfold maxLen;omega) (by omega) hB0.size ?_;intro v1 w3 hown2 hgrow3))
         rw [Nat.zero_add,List.nil_append] at hown2
         have hB2:=grow_belowM hB0 hB0.size ho0 hgrow3
         refine stage_post (isSame_below hB2 (fun k hk=>hk)) ?_
         refine stage_one 9 (by kernel_rfl) rfl ?_
         gi_wp2
         have hB3:Below wq.heap.size wq (w3.alloc (.cells #[.string f,.string d] 30)):=hB2.alloc hB2.size _
         have hown3:=World.ownsRow.alloc hown2 (.cells #[.string f,.string d] 30)
         have h57:(w3.alloc (.cells #[.string f,.string d] 30)).heap[w3.heap.size]?=some (.cells #[.string f,.string d] 30 (0,0)):=heap_alloc_new w3 _
         clear hown2 hgrow3 hB2 ho0 hB0
         generalize w3.alloc (.cells #[.string f,.string d] 30)=W3 at *
         have hN3:wq.heap.size≤W3.heap.size:=hB3.size
         have HN1:=Lib.hid (srcM_one (x:=(f,d)) h57)
         have HB3:=Lib.hid hB3
         clear h57
         refine stage_post (isSame_below HB3.out (fun k hk=>hk)) ?_
         refine stage_one 10 (by kernel_rfl) rfl ?_
         gi_wp2_with (gi_at_builtin;go_loud (refine wpListIn_append_src _ rfl _ _ 22 rfl wq.heap.size 30 i0 (.agg #[.string ByteArray.empty,.string ByteArray.empty]) 2 32 Tryz.underlying22 hi hz0 hz1 hz2 rfl (by decide) v1 k _ rfl hown3 _ 1 [.string f,.string d] rfl HN1.out (one_pairM (f,d)) (by unfold maxLen;omega) (by omega) hN3 ?_;intro v2 w4 hown4 hgrow4))
         have hB4:=grow_belowM HB3.out hN3 hown3 hgrow4
         have hN4:=hB4.size
         have HB4:=Lib.hid hB4
         have HS2:=Lib.hid (HSB.out w4 hB4)
         clear hgrow4 hB4
         refine stage_post (isSame_below HB4.out (fun k hk=>hk)) ?_
         refine stage_one 14 (by kernel_rfl) rfl ?_
         gi_wp2_with (gi_at_builtin;go_loud (refine wpListIn_append_src _ rfl _ _ 22 rfl wq.heap.size 30 i0 (.agg #[.string ByteArray.empty,.string ByteArray.empty]) 2 32 Tryz.underlying22 hi hz0 hz1 hz2 rfl (by decide) v2 (k+1) _ rfl hown4 _ _ _ rfl HS2.out (one_cellsM _) (by unfold maxLen;omega) (by omega) hN4 ?_;intro v3 w5 hown5 hgrow5))
         have HB5:=Lib.hid (grow_belowM HB4.out hN4 hown4 hgrow5)
         obtain ⟨A6,c6,rfl⟩:=slice_shape hown5
         have HF5:=Lib.hid (HQ.out.new (x:=(f,d)) HXI.out HINS.out hk HSX.out HB5.out (by first|exact hown5|(rw [HZ.out,HD2.out];exact hown5)))
         clear hown5 hgrow5 hown4 hown3
         refine stage_post (isSame_below HB5.out (fun k hk=>hk)) ?_
         refine stage_one 15 (by kernel_rfl) rfl ?_
         gi_wp2
         refine stage_last rfl ?_
         refine stage_done (by kernel_rfl) ?_
         gi_wp2
         go_roundw
         case rel=>exact ⟨i+1,A6,c6,_,HLT.out.1,(by first|exact HEL.out _ _|rw [← HEL.out,HZ.out]),by go_num,Lib.hid (by first|(rw [← HEL.out];exact HF5.out)|(rw [← HEL.out,HZ.out];exact HF5.out))⟩
         case measure=>have:=HLT.out.1;simp [intOf];omega
        ·gi_wp2
         refine stage_post (isSame_below (Below.alloc (Below.alloc (below_drewM wq) (Nat.le_refl _) (.cells #[] 30)) (by simp) _) (fun k hk=>hk)) ?_
         refine stage_one 4 (by kernel_rfl) rfl ?_
         have ho0:((wq.drew.alloc (.cells #[] 30)).alloc (.cells #[.string f,.string d] 30)).ownsRow wq.heap.size 30 2 (.slice (some ⟨wq.heap.size,0,none⟩) 0 0) 0 []:=own_atM (Nat.le_refl _) (two_old wq.drew _ _)
         have hB0:Below wq.heap.size wq ((wq.drew.alloc (.cells #[] 30)).alloc (.cells #[.string f,.string d] 30)):=Below.alloc (Below.alloc (below_drewM wq) (Nat.le_refl _) _) (by simp) _
         have HS1:=Lib.hid (HSA.out _ hB0)
         gi_wp2_with (gi_at_builtin;go_loud (refine wpListIn_append_src _ rfl _ _ 22 rfl wq.heap.size 30 i0 (.agg #[.string ByteArray.empty,.string ByteArray.empty]) 2 32 Tryz.underlying22 hi hz0 hz1 hz2 rfl (by decide) (.slice (some ⟨wq.heap.size,0,none⟩) 0 0) 0 [] rfl ho0 _ k (cellsM (a.take k)) rfl HS1.out (one_cellsM _) (by unfold maxLen;omega) (by omega) hB0.size ?_;intro v1 w3 hown2 hgrow3))
         rw [Nat.zero_add,List.nil_append] at hown2
         have hB3:=grow_belowM hB0 hB0.size ho0 hgrow3
         have h57:=(hgrow3.block (wq.heap.size+1) (by simp) (by simp [Value.ownBlock])).trans (two_cur wq.drew (.cells #[] 30) (.cells #[.string f,.string d] 30))
         have hown3:=hown2
         clear hgrow3 hown2 ho0 hB0
         have hN3:wq.heap.size≤w3.heap.size:=hB3.size
         have HN1:=Lib.hid (srcM_one (x:=(f,d)) h57)
         have HB3:=Lib.hid hB3
         clear h57
         refine stage_post (isSame_below HB3.out (fun k hk=>hk)) ?_
         refine stage_one 10 (by kernel_rfl) rfl ?_
         gi_wp2_with (gi_at_builtin;go_loud (refine wpListIn_append_src _ rfl _ _ 22 rfl wq.heap.size 30 i0 (.agg #[.string ByteArray.empty,.string ByteArray.empty]) 2 32 Tryz.underlying22 hi hz0 hz1 hz2 rfl (by decide) v1 k _ rfl hown3 _ 1 [.string f,.string d] rfl HN1.out (one_pairM (f,d)) (by unfold maxLen;omega) (by omega) hN3 ?_;intro v2 w4 hown4 hgrow4))
         have hB4:=grow_belowM HB3.out hN3 hown3 hgrow4
         have hN4:=hB4.size
         have HB4:=Lib.hid hB4
         have HS2:=Lib.hid (HSB.out w4 hB4)
         clear hgrow4 hB4
         refine stage_post (isSame_below HB4.out (fun k hk=>hk)) ?_
         refine stage_one 14 (by kernel_rfl) rfl ?_
         gi_wp2_with (gi_at_builtin;go_loud (refine wpListIn_append_src _ rfl _ _ 22 rfl wq.heap.size 30 i0 (.agg #[.string ByteArray.empty,.string ByteArray.empty]) 2 32 Tryz.underlying22 hi hz0 hz1 hz2 rfl (by decide) v2 (k+1) _ rfl hown4 _ _ _ rfl HS2.out (one_cellsM _) (by unfold maxLen;omega) (by omega) hN4 ?_;intro v3 w5 hown5 hgrow5))
         have HB5:=Lib.hid (grow_belowM HB4.out hN4 hown4 hgrow5)
         obtain ⟨A6,c6,rfl⟩:=slice_shape hown5
         have HF5:=Lib.hid (HQ.out.new (x:=(f,d)) HXI.out HINS.out hk HSX.out HB5.out (by first|exact hown5|(rw [HZ.out,HD2.out];exact hown5)))
         clear hown5 hgrow5 hown4 hown3
         refine stage_post (isSame_below HB5.out (fun k hk=>hk)) ?_
         refine stage_one 15 (by kernel_rfl) rfl ?_
         gi_wp2
         refine stage_last rfl ?_
         refine stage_done (by kernel_rfl) ?_
         gi_wp2
         go_roundw
         case rel=>exact ⟨i+1,A6,c6,_,HLT.out.1,(by first|exact HEL.out _ _|rw [← HEL.out,HZ.out]),by go_num,Lib.hid (by first|(rw [← HEL.out];exact HF5.out)|(rw [← HEL.out,HZ.out];exact HF5.out))⟩
         case measure=>have:=HLT.out.1;simp [intOf];omega
       ·gi_wp2
        refine stage_post (isSame_below (Below.alloc (below_drewM wq) (Nat.le_refl _) _) (fun k hk=>hk)) ?_
        refine stage_one 0 (by kernel_rfl) rfl ?_
        gi_wp2
        refine stage_post (isSame_below (Below.alloc (Below.alloc (below_drewM wq) (Nat.le_refl _) (.cells #[.string f,.string d] 30)) (by simp) _) (fun k hk=>hk)) ?_
        refine stage_one 4 (by kernel_rfl) rfl ?_
        have ho0:((wq.drew.alloc (.cells #[.string f,.string d] 30)).alloc (.cells #[] 30)).ownsRow wq.heap.size 30 2 (.slice (some ⟨wq.heap.size+1,0,none⟩) 0 0) 0 []:=own_atM (Nat.le_succ _) (two_cur wq.drew _ _)
        have hB0:Below wq.heap.size wq ((wq.drew.alloc (.cells #[.string f,.string d] 30)).alloc (.cells #[] 30)):=Below.alloc (Below.alloc (below_drewM wq) (Nat.le_refl _) _) (by simp) _
        have HS1:=Lib.hid (HSA.out _ hB0)
        gi_wp2_with (gi_at_builtin;go_loud (refine wpListIn_append_src _ rfl _ _ 22 rfl wq.heap.size 30 i0 (.agg #[.string ByteArray.empty,.string ByteArray.empty]) 2 32 Tryz.underlying22 hi hz0 hz1 hz2 rfl (by decide) (.slice (some ⟨wq.heap.size+1,0,none⟩) 0 0) 0 [] rfl ho0 _ k (cellsM (a.take k)) rfl HS1.out (one_cellsM _) (by unfold maxLen;omega) (by omega) hB0.size ?_;intro v1 w3 hown2 hgrow3))
        rw [Nat.zero_add,List.nil_append] at hown2
        have hB3:=grow_belowM hB0 hB0.size ho0 hgrow3
        have h57:=(hgrow3.block wq.heap.size (by simp;omega) (by simp [Value.ownBlock])).trans (two_old wq.drew (.cells #[.string f,.string d] 30) (.cells #[] 30))
        have hown3:=hown2
        clear hgrow3 hown2 ho0 hB0
        have hN3:wq.heap.size≤w3.heap.size:=hB3.size
        have HN1:=Lib.hid (srcM_one (x:=(f,d)) h57)
        have HB3:=Lib.hid hB3
        clear h57
        refine stage_post (isSame_below HB3.out (fun k hk=>hk)) ?_
        refine stage_one 10 (by kernel_rfl) rfl ?_
        gi_wp2_with (gi_at_builtin;go_loud (refine wpListIn_append_src _ rfl _ _ 22 rfl wq.heap.size 30 i0 (.agg #[.string ByteArray.empty,.string ByteArray.empty]) 2 32 Tryz.underlying22 hi hz0 hz1 hz2 rfl (by decide) v1 k _ rfl hown3 _ 1 [.string f,.string d] rfl HN1.out (one_pairM (f,d)) (by unfold maxLen;omega) (by omega) hN3 ?_;intro v2 w4 hown4 hgrow4))
        have hB4:=grow_belowM HB3.out hN3 hown3 hgrow4
        have hN4:=hB4.size
        have HB4:=Lib.hid hB4
        have HS2:=Lib.hid (HSB.out w4 hB4)
        clear hgrow4 hB4
        refine stage_post (isSame_below HB4.out (fun k hk=>hk)) ?_
        refine stage_one 14 (by kernel_rfl) rfl ?_
        gi_wp2_with (gi_at_builtin;go_loud (refine wpListIn_append_src _ rfl _ _ 22 rfl wq.heap.size 30 i0 (.agg #[.string ByteArray.empty,.string ByteArray.empty]) 2 32 Tryz.underlying22 hi hz0 hz1 hz2 rfl (by decide) v2 (k+1) _ rfl hown4 _ _ _ rfl HS2.out (one_cellsM _) (by unfold maxLen;omega) (by omega) hN4 ?_;intro v3 w5 hown5 hgrow5))
        have HB5:=Lib.hid (grow_belowM HB4.out hN4 hown4 hgrow5)
        obtain ⟨A6,c6,rfl⟩:=slice_shape hown5
        have HF5:=Lib.hid (HQ.out.new (x:=(f,d)) HXI.out HINS.out hk HSX.out HB5.out (by first|exact hown5|(rw [HZ.out,HD2.out];exact hown5)))
        clear hown5 hgrow5 hown4 hown3
        refine stage_post (isSame_below HB5.out (fun k hk=>hk)) ?_
        refine stage_one 15 (by kernel_rfl) rfl ?_
        gi_wp2
        refine stage_last rfl ?_
        refine stage_done (by kernel_rfl) ?_
        gi_wp2
        go_roundw
        case rel=>exact ⟨i+1,A6,c6,_,HLT.out.1,(by first|exact HEL.out _ _|rw [← HEL.out,HZ.out]),by go_num,Lib.hid (by first|(rw [← HEL.out];exact HF5.out)|(rw [← HEL.out,HZ.out];exact HF5.out))⟩
        case measure=>have:=HLT.out.1;simp [intOf];omega
    ·have hka':¬ (k:Int) < (a.length:Int):=by omega
     have hkeq:((k:Int)==(a.length:Int))=true:=by rw [beq_iff_eq];omega
     have HINS:=Lib.hid (show insX a (f,d)=.ok (a.take k++(f,d)::a.drop k) from insX_new hk HLO.out (fun z hz=>by rw [List.getElem?_eq_none (by omega)] at hz;cases hz))
     gi_wp2
     gi_quiet (fail)
     have HQ1:=Lib.hid (HQ0.out.later (below_drewN' (Below.refl _ _) nq))
     generalize wr.drewN nq=w1 at *
     clear HQ0 HXC0 nq
     gi_wp2
     gi_quiet (fail)
     have HQ:=Lib.hid (HQ1.out.later (below_drewN' (Below.refl _ _) nq))
     generalize w1.drewN nq=wq at *
     clear HQ1 nq
     have HXC:=Lib.hid (HV.out.cell2 HQ.out.nw.below HXI.out)
     dsimp only at HXC
     have HEL:=Lib.hid (show ∀ (A:Option Addr) c,(Value.slice A (k+1+(a.length - k)) c)=.slice A (a.take k++(f,d)::a.drop k).length c from fun A c=>by congr 1;simp;omega)
     have HD2:=Lib.hid (show cellsM (a.drop k)=[] by rw [List.drop_of_length_le (by omega)];rfl)
     have HZ:=Lib.hid (show a.length - k=0 by omega)
     have hi3':(k:Int)≤(a.length:Int):=by omega
     rcases HQ.out.cap with ⟨rfl,rfl,e0⟩|⟨g,rfl,hcl1,hcl2⟩
     have e1:a.length=0:=by rw [e0];rfl
     have HKZ:=Lib.hid (show k=0 by omega)
     have HSA:=Lib.hid (show ∀ W,Below wq.heap.size wq W→Src W 2 (.slice none k 0) k (cellsM (a.take k)) from fun W hB=>by rw [HKZ.out];exact srcM_zero)
     have HSB:=Lib.hid (show ∀ W,Below wq.heap.size wq W→Src W 2 (.slice none (a.length - k) 0) (a.length - k) (cellsM (a.drop k)) from fun W hB=>by rw [HD2.out,HZ.out];exact srcM_zero)
     have hi2:(k:Int)≤((0:Nat):Int):=by have:=HKZ.out;omega
     clear e0 e1
     rotate_left
     have HSA:=Lib.hid (show ∀ W,Below wq.heap.size wq W→Src W 2 (.slice (some ⟨g,0,none⟩) k cc) k (cellsM (a.take k)) from fun W hB=>srcM_take HQ.out.own hB hk)
     have hi2:(k:Int)≤(cc:Int):=by omega
     by_cases hck:cc=k
     have HSB:=Lib.hid (show ∀ W,Below wq.heap.size wq W→Src W 2 (.slice (some ⟨g,0,none⟩) 0 0) 0 (cellsM []) from fun W hB=>srcM_zero)
     have hck2:=hck.symm
     clear hck
     subst hck2
     rotate_left
     have HSB:=Lib.hid (show ∀ W,Below wq.heap.size wq W→Src W 2 (.slice (some ⟨g,k*2,none⟩) (a.length - k) (cc - k)) (a.length - k) (cellsM (a.drop k)) from fun W hB=>by rw [HD2.out,HZ.out];exact srcM_zero)
     have hc0:cc≠0:=by omega
     rotate_left
     all_goals
      obtain ⟨hbq,q0,q1⟩:=HXC.out
      have xi0:∀ x:SameAt wq (fun k=>k < wq.heap.size),x.W.cell? ⟨b,o+i*2,none⟩=some (.string f):=fun x=>x.cell hbq q0
      have xi1:∀ x:SameAt wq (fun k=>k < wq.heap.size),x.W.cell? ⟨b,o+i*2+1,none⟩=some (.string d):=fun x=>x.cell hbq q1
      gi_wp2
      refine wpIn_stage (IsSame wq (fun k=>k < wq.heap.size)) [1,2,3,5,6,7,8,11,12,13] [15] hmx (by kernel_rfl) (isSame_of fun _ _=>rfl) ?_
      change wpStage _ _ _ _ _ _ _ _ (6+10) _ _ _
      refine stage_reads [1,2,3,5,6,7,8,11,12,13] 6 _ _ (by kernel_rfl) ?_
      change wpQuietIn _ _ _ _ (fun W'=>∃ x:SameAt wq (fun k=>k < wq.heap.size),W'=x.W) _ _ _
      simp only [pick_cons,pick_nil,List.getElem?_cons_zero,List.getElem?_cons_succ,Option.elim_some]
      repeat (gi_big_quiet_step (fail))
      refine wpQuietIn_nil ?_
      clear xi0 xi1 q0 q1 hbq
      refine stage_two 0 9 (by kernel_rfl) rfl rfl ?_ ?_
      ·gi_wp2
       refine stage_post (isSame_below (Below.alloc (below_drewM wq) (Nat.le_refl _) _) (fun k hk=>hk)) ?_
       refine stage_two 4 9 (by kernel_rfl) rfl rfl ?_ ?_
       ·have ho0:(wq.drew.alloc (.cells #[] 30)).ownsRow wq.heap.size 30 2 (.slice (some ⟨wq.heap.size,0,none⟩) 0 0) 0 []:=own_atM (Nat.le_refl _) (heap_alloc_new wq.drew _)
        have hB0:Below wq.heap.size wq (wq.drew.alloc (.cells #[] 30)):=Below.alloc (below_drewM wq) (Nat.le_refl _) _
        have HS1:=Lib.hid (HSA.out _ hB0)
        gi_wp2_with (gi_at_builtin;go_loud (refine wpListIn_append_src _ rfl _ _ 22 rfl wq.heap.size 30 i0 (.agg #[.string ByteArray.empty,.string ByteArray.empty]) 2 32 Tryz.underlying22 hi hz0 hz1 hz2 rfl (by decide) (.slice (some ⟨wq.heap.size,0,none⟩) 0 0) 0 [] rfl ho0 _ k (cellsM (a.take k)) rfl HS1.out (one_cellsM _) (by unfold maxLen;omega) (by omega) hB0.size ?_;intro v1 w3 hown2 hgrow3))
        rw [Nat.zero_add,List.nil_append] at hown2
        have hB2:=grow_belowM hB0 hB0.size ho0 hgrow3
        refine stage_post (isSame_below hB2 (fun k hk=>hk)) ?_
        refine stage_one 9 (by kernel_rfl) rfl ?_
        gi_wp2
        have hB3:Below wq.heap.size wq (w3.alloc (.cells #[.string f,.string d] 30)):=hB2.alloc hB2.size _
        have hown3:=World.ownsRow.alloc hown2 (.cells #[.string f,.string d] 30)
        have h57:(w3.alloc (.cells #[.string f,.string d] 30)).heap[w3.heap.size]?=some (.cells #[.string f,.string d] 30 (0,0)):=heap_alloc_new w3 _
        clear hown2 hgrow3 hB2 ho0 hB0
        generalize w3.alloc (.cells #[.string f,.string d] 30)=W3 at *
        have hN3:wq.heap.size≤W3.heap.size:=hB3.size
        have HN1:=Lib.hid (srcM_one (x:=(f,d)) h57)
        have HB3:=Lib.hid hB3
        clear h57
        refine stage_post (isSame_below HB3.out (fun k hk=>hk)) ?_
        refine stage_one 10 (by kernel_rfl) rfl ?_
        gi_wp2_with (gi_at_builtin;go_loud (refine wpListIn_append_src _ rfl _ _ 22 rfl wq.heap.size 30 i0 (.agg #[.string ByteArray.empty,.string ByteArray.empty]) 2 32 Tryz.underlying22 hi hz0 hz1 hz2 rfl (by decide) v1 k _ rfl hown3 _ 1 [.string f,.string d] rfl HN1.out (one_pairM (f,d)) (by unfold maxLen;omega) (by omega) hN3 ?_;intro v2 w4 hown4 hgrow4))
        have hB4:=grow_belowM HB3.out hN3 hown3 hgrow4
        have hN4:=hB4.size
        have HB4:=Lib.hid hB4
        have HS2:=Lib.hid (HSB.out w4 hB4)
        clear hgrow4 hB4
        refine stage_post (isSame_below HB4.out (fun k hk=>hk)) ?_
        refine stage_one 14 (by kernel_rfl) rfl ?_
        gi_wp2_with (gi_at_builtin;go_loud (refine wpListIn_append_src _ rfl _ _ 22 rfl wq.heap.size 30 i0 (.agg #[.string ByteArray.empty,.string ByteArray.empty]) 2 32 Tryz.underlying22 hi hz0 hz1 hz2 rfl (by decide) v2 (k+1) _ rfl hown4 _ _ _ rfl HS2.out (one_cellsM _) (by unfold maxLen;omega) (by omega) hN4 ?_;intro v3 w5 hown5 hgrow5))
        have HB5:=Lib.hid (grow_belowM HB4.out hN4 hown4 hgrow5)
        obtain ⟨A6,c6,rfl⟩:=slice_shape hown5
        have HF5:=Lib.hid (HQ.out.new (x:=(f,d)) HXI.out HINS.out hk HSX.out HB5.out (by first|exact hown5|(rw [HZ.out,HD2.out];exact hown5)))
        clear hown5 hgrow5 hown4 hown3
        refine stage_post (isSame_below HB5.out (fun k hk=>hk)) ?_
        refine stage_one 15 (by kernel_rfl) rfl ?_
        gi_wp2
        refine stage_last rfl ?_
        refine stage_done (by kernel_rfl) ?_
        gi_wp2
        go_roundw
        case rel=>exact ⟨i+1,A6,c6,_,HLT.out.1,(by first|exact HEL.out _ _|rw [← HEL.out,HZ.out]),by go_num,Lib.hid (by first|(rw [← HEL.out];exact HF5.out)|(rw [← HEL.out,HZ.out];exact HF5.out))⟩
        case measure=>have:=HLT.out.1;simp [intOf];omega
       ·gi_wp2
        refine stage_post (isSame_below (Below.alloc (Below.alloc (below_drewM wq) (Nat.le_refl _) (.cells #[] 30)) (by simp) _) (fun k hk=>hk)) ?_
        refine stage_one 4 (by kernel_rfl) rfl ?_
        have ho0:((wq.drew.alloc (.cells #[] 30)).alloc (.cells #[.string f,.string d] 30)).ownsRow wq.heap.size 30 2 (.slice (some ⟨wq.heap.size,0,none⟩) 0 0) 0 []:=own_atM (Nat.le_refl _) (two_old wq.drew _ _)
        have hB0:Below wq.heap.size wq ((wq.drew.alloc (.cells #[] 30)).alloc (.cells #[.string f,.string d] 30)):=Below.alloc (Below.alloc (below_drewM wq) (Nat.le_refl _) _) (by simp) _
        have HS1:=Lib.hid (HSA.out _ hB0)
        gi_wp2_with (gi_at_builtin;go_loud (refine wpListIn_append_src _ rfl _ _ 22 rfl wq.heap.size 30 i0 (.agg #[.string ByteArray.empty,.string ByteArray.empty]) 2 32 Tryz.underlying22 hi hz0 hz1 hz2 rfl (by decide) (.slice (some ⟨wq.heap.size,0,none⟩) 0 0) 0 [] rfl ho0 _ k (cellsM (a.take k)) rfl HS1.out (one_cellsM _) (by unfold maxLen;omega) (by omega) hB0.size ?_;intro v1 w3 hown2 hgrow3))
        rw [Nat.zero_add,List.nil_append] at hown2
        have hB3:=grow_belowM hB0 hB0.size ho0 hgrow3
        have h57:=(hgrow3.block (wq.heap.size+1) (by simp) (by simp [Value.ownBlock])).trans (two_cur wq.drew (.cells #[] 30) (.cells #[.string f,.string d] 30))
        have hown3:=hown2
        clear hgrow3 hown2 ho0 hB0
        have hN3:wq.heap.size≤w3.heap.size:=hB3.size
        have HN1:=Lib.hid (srcM_one (x:=(f,d)) h57)
        have HB3:=Lib.hid hB3
        clear h57
        refine stage_post (isSame_below HB3.out (fun k hk=>hk)) ?_
        refine stage_one 10 (by kernel_rfl) rfl ?_
        gi_wp2_with (gi_at_builtin;go_loud (refine wpListIn_append_src _ rfl _ _ 22 rfl wq.heap.size 30 i0 (.agg #[.string ByteArray.empty,.string ByteArray.empty]) 2 32 Tryz.underlying22 hi hz0 hz1 hz2 rfl (by decide) v1 k _ rfl hown3 _ 1 [.string f,.string d] rfl HN1.out (one_pairM (f,d)) (by unfold maxLen;omega) (by omega) hN3 ?_;intro v2 w4 hown4 hgrow4))
        have hB4:=grow_belowM HB3.out hN3 hown3 hgrow4
        have hN4:=hB4.size
        have HB4:=Lib.hid hB4
        have HS2:=Lib.hid (HSB.out w4 hB4)
        clear hgrow4 hB4
        refine stage_post (isSame_below HB4.out (fun k hk=>hk)) ?_
        refine stage_one 14 (by kernel_rfl) rfl ?_
        gi_wp2_with (gi_at_builtin;go_loud (refine wpListIn_append_src _ rfl _ _ 22 rfl wq.heap.size 30 i0 (.agg #[.string ByteArray.empty,.string ByteArray.empty]) 2 32 Tryz.underlying22 hi hz0 hz1 hz2 rfl (by decide) v2 (k+1) _ rfl hown4 _ _ _ rfl HS2.out (one_cellsM _) (by unfold maxLen;omega) (by omega) hN4 ?_;intro v3 w5 hown5 hgrow5))
        have HB5:=Lib.hid (grow_belowM HB4.out hN4 hown4 hgrow5)
        obtain ⟨A6,c6,rfl⟩:=slice_shape hown5
        have HF5:=Lib.hid (HQ.out.new (x:=(f,d)) HXI.out HINS.out hk HSX.out HB5.out (by first|exact hown5|(rw [HZ.out,HD2.out];exact hown5)))
        clear hown5 hgrow5 hown4 hown3
        refine stage_post (isSame_below HB5.out (fun k hk=>hk)) ?_
        refine stage_one 15 (by kernel_rfl) rfl ?_
        gi_wp2
        refine stage_last rfl ?_
        refine stage_done (by kernel_rfl) ?_
        gi_wp2
        go_roundw
        case rel=>exact ⟨i+1,A6,c6,_,HLT.out.1,(by first|exact HEL.out _ _|rw [← HEL.out,HZ.out]),by go_num,Lib.hid (by first|(rw [← HEL.out];exact HF5.out)|(rw [← HEL.out,HZ.out];exact HF5.out))⟩
        case measure=>have:=HLT.out.1;simp [intOf];omega
      ·gi_wp2
       refine stage_post (isSame_below (Below.alloc (below_drewM wq) (Nat.le_refl _) _) (fun k hk=>hk)) ?_
       refine stage_one 0 (by kernel_rfl) rfl ?_
       gi_wp2
       refine stage_post (isSame_below (Below.alloc (Below.alloc (below_drewM wq) (Nat.le_refl _) (.cells #[.string f,.string d] 30)) (by simp) _) (fun k hk=>hk)) ?_
       refine stage_one 4 (by kernel_rfl) rfl ?_
       have ho0:((wq.drew.alloc (.cells #[.string f,.string d] 30)).alloc (.cells #[] 30)).ownsRow wq.heap.size 30 2 (.slice (some ⟨wq.heap.size+1,0,none⟩) 0 0) 0 []:=own_atM (Nat.le_succ _) (two_cur wq.drew _ _)
       have hB0:Below wq.heap.size wq ((wq.drew.alloc (.cells #[.string f,.string d] 30)).alloc (.cells #[] 30)):=Below.alloc (Below.alloc (below_drewM wq) (Nat.le_refl _) _) (by simp) _
       have HS1:=Lib.hid (HSA.out _ hB0)
       gi_wp2_with (gi_at_builtin;go_loud (refine wpListIn_append_src _ rfl _ _ 22 rfl wq.heap.size 30 i0 (.agg #[.string ByteArray.empty,.string ByteArray.empty]) 2 32 Tryz.underlying22 hi hz0 hz1 hz2 rfl (by decide) (.slice (some ⟨wq.heap.size+1,0,none⟩) 0 0) 0 [] rfl ho0 _ k (cellsM (a.take k)) rfl HS1.out (one_cellsM _) (by unfold maxLen;omega) (by omega) hB0.size ?_;intro v1 w3 hown2 hgrow3))
       rw [Nat.zero_add,List.nil_append] at hown2
       have hB3:=grow_belowM hB0 hB0.size ho0 hgrow3
       have h57:=(hgrow3.block wq.heap.size (by simp;omega) (by simp [Value.ownBlock])).trans (two_old wq.drew (.cells #[.string f,.string d] 30) (.cells #[] 30))
       have hown3:=hown2
       clear hgrow3 hown2 ho0 hB0
       have hN3:wq.heap.size≤w3.heap.size:=hB3.size
       have HN1:=Lib.hid (srcM_one (x:=(f,d)) h57)
       have HB3:=Lib.hid hB3
       clear h57
       refine stage_post (isSame_below HB3.out (fun k hk=>hk)) ?_
       refine stage_one 10 (by kernel_rfl) rfl ?_
       gi_wp2_with (gi_at_builtin;go_loud (refine wpListIn_append_src _ rfl _ _ 22 rfl wq.heap.size 30 i0 (.agg #[.string ByteArray.empty,.string ByteArray.empty]) 2 32 Tryz.underlying22 hi hz0 hz1 hz2 rfl (by decide) v1 k _ rfl hown3 _ 1 [.string f,.string d] rfl HN1.out (one_pairM (f,d)) (by unfold maxLen;omega) (by omega) hN3 ?_;intro v2 w4 hown4 hgrow4))
       have hB4:=grow_belowM HB3.out hN3 hown3 hgrow4
       have hN4:=hB4.size
       have HB4:=Lib.hid hB4
       have HS2:=Lib.hid (HSB.out w4 hB4)
       clear hgrow4 hB4
       refine stage_post (isSame_below HB4.out (fun k hk=>hk)) ?_
       refine stage_one 14 (by kernel_rfl) rfl ?_
       gi_wp2_with (gi_at_builtin;go_loud (refine wpListIn_append_src _ rfl _ _ 22 rfl wq.heap.size 30 i0 (.agg #[.string ByteArray.empty,.string ByteArray.empty]) 2 32 Tryz.underlying22 hi hz0 hz1 hz2 rfl (by decide) v2 (k+1) _ rfl hown4 _ _ _ rfl HS2.out (one_cellsM _) (by unfold maxLen;omega) (by omega) hN4 ?_;intro v3 w5 hown5 hgrow5))
       have HB5:=Lib.hid (grow_belowM HB4.out hN4 hown4 hgrow5)
       obtain ⟨A6,c6,rfl⟩:=slice_shape hown5
       have HF5:=Lib.hid (HQ.out.new (x:=(f,d)) HXI.out HINS.out hk HSX.out HB5.out (by first|exact hown5|(rw [HZ.out,HD2.out];exact hown5)))
       clear hown5 hgrow5 hown4 hown3
       refine stage_post (isSame_below HB5.out (fun k hk=>hk)) ?_
       refine stage_one 15 (by kernel_rfl) rfl ?_
       gi_wp2
       refine stage_last rfl ?_
       refine stage_done (by kernel_rfl) ?_
       gi_wp2
       go_roundw
       case rel=>exact ⟨i+1,A6,c6,_,HLT.out.1,(by first|exact HEL.out _ _|rw [← HEL.out,HZ.out]),by go_num,Lib.hid (by first|(rw [← HEL.out];exact HF5.out)|(rw [← HEL.out,HZ.out];exact HF5.out))⟩
       case measure=>have:=HLT.out.1;simp [intOf];omega
  ·have hlt':¬ (i:Int) < (ls.length:Int):=by omega
   have HR:=Lib.hid (show mk=.ok (keepX a) by
    have:=HI.out.coll
    rw [List.drop_of_length_le (by omega)] at this
    rw [← HMK.out]
    exact collK_ok this)
   have HWS:=Lib.hid HI.out.nw.below.size
   clear hlt
   gi_wp2
   gi_loopw [9,10] (fun v9 v10 wq=>∃ (k:Nat) (A1:Option Addr) (c1:Nat),k≤a.length∧v9=.slice A1 (keepX (a.take k)).length c1∧v10=.int .i64 (k:Int)∧Hid (OwnM wo.heap.size wq (.slice A1 (keepX (a.take k)).length c1) (keepX (a.take k)))∧Hid (Below wo.heap.size wo wq)) (fun _ v10 _=>a.length - (intOf v10).toNat)
   case atStart=>exact ⟨0,none,0,Nat.zero_le _,rfl,rfl,Lib.hid (OwnM.nil _ _),Lib.hid (Below.refl _ _)⟩
   case round =>
    obtain ⟨k,A1,c1,hk,rfl,rfl,HO,HB⟩:=hrel
    by_cases hka:k < a.length
    ·obtain ⟨y,hy⟩:∃ y,a[k]?=some y:=⟨_,List.getElem?_eq_getElem hka⟩
     have hka2:(k:Int) < (a.length:Int):=by omega
     obtain ⟨g,rfl,hgb,p0,p1⟩:=(HI.out.later HB.out).at hy
     have HKS:=Lib.hid (keepX_snoc hy)
     have HKA:=Lib.hid hka
     have HLK:=Lib.hid (show (keepX (a.take k)).length≤1000 by unfold keepX;have:=List.length_filter_le (fun x:L2=>decide (x.2≠zT)) (a.take k);rw [List.length_take] at this;omega)
     obtain ⟨yf,yd⟩:=y
     dsimp only at p0 p1 HKS
     have TE:=eq_bytes yd zT
     rw [zT_list] at TE
     clear hy hka
     by_cases he:yd=zT
     ·rw [decide_eq_true he] at TE
      rw [if_pos he] at HKS
      clear he
      gi_wp2
      go_roundw
      case rel=>exact ⟨k+1,A1,c1,HKA.out,by rw [HKS.out],by go_num,by rw [HKS.out];exact HO,HB⟩
      case measure=>have:=HKA.out;simp [intOf];omega
     ·rw [decide_eq_false he] at TE
      rw [if_neg he] at HKS
      have HN:=Lib.hid (show ∀ (A:Option Addr) c,(Value.slice A ((keepX (a.take k)).length+1) c)=.slice A (keepX (a.take (k+1))).length c from fun A c=>by rw [HKS.out];simp)
      clear he
      have HO1:=Lib.hid (OwnM.later HO.out (below_alloc (Below.refl _ _) (.cells #[.string yf,.string yd] 30)))
      have HB1:=Lib.hid (below_alloc2 HB.out HB.out.size (.cells #[.string yf,.string yd] 30))
      have HS1:=Lib.hid (srcM_one (x:=(yf,yd)) (heap_alloc_new wr (.cells #[.string yf,.string yd] 30)))
      have hsz:=HB1.out.size
      gi_wp2_with (gi_at_builtin;go_loud (refine wpListIn_append_src _ rfl _ _ 22 rfl wo.heap.size 30 i0 (.agg #[.string ByteArray.empty,.string ByteArray.empty]) 2 32 Tryz.underlying22 hi hz0 hz1 hz2 rfl (by decide) _ _ _ rfl HO1.out _ 1 [.string yf,.string yd] rfl HS1.out (one_pairM (yf,yd)) (by have:=HLK.out;unfold maxLen;omega) (by have:=HLK.out;omega) hsz ?_;intro v1 w4 hown4 hgrow4;obtain ⟨A6,c6,rfl⟩:=slice_shape hown4;have HB4:=Lib.hid (grow_belowM HB1.out HB1.out.size HO1.out hgrow4);have HO4:=Lib.hid hown4;clear hown4 hgrow4))
      go_roundw
      case rel=>exact ⟨k+1,A6,c6,HKA.out,HN.out _ _,by go_num,Lib.hid (by rw [← HN.out,HKS.out];unfold OwnM;rw [List.length_append,cellsM_append];exact HO4.out),HB4⟩
      case measure=>have:=HKA.out;simp [intOf];omega
    ·have hka2:¬ (k:Int) < (a.length:Int):=by omega
     obtain rfl:k=a.length:=by omega
     clear hka
     rw [List.take_length] at HO ⊢
     gi_wp2
     refine bodyPost_ret (results_tmp2 rfl _ _ _) rfl ?_
     rw [HR.out]
     exact ⟨⟨_,rfl,owns_base HO.out HWS.out⟩,(HI.out.nw.later HB.out).below⟩
end S2
end Go.Proofs.YtigapglmipmbeaaGreatDoor
