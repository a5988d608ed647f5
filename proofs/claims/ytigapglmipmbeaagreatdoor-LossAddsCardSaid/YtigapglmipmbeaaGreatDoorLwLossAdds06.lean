/- law 09: made, as a walk (printed by mkmade9.py). How a function hands back results that lie in cells: a struct and an error. limited, plus and above of losses. above: the loss with the greater parts. fold: losses combined, from None on; Add, Sum and Max. loss.Add, Sum and Max. loss.Fits. loss.Group. loss.Holds (printed by mkholds.py). Curves of moments in memory, and the iterator over the orders of a curve. Curves of moments in plain rationals: what Check, Of, Add, Fits, To and Best compute. moment.least, between and the chain's steps, where nothing fails. moment.Check. moment.Check: the walk. moment.both and Add. moment.Add: the walk (printed by mkmadd.py). moment.None. The reference of chapter 10: at. The reference of chapter 10: both. The reference of chapter 10: then. Curves of canonical texts: sums, sizes, what Add and None come to. Comparing curves. moment.Fits: the walk. moment.Of: the walk. moment.To: the walk (printed by mkmto.py). The reference of chapter 10: share and To (printed by mkmref.py). The reference's Pow of a positive number where the result fits. -/
import Derived.Test.YtigapglmipmbeaaGreatDoorLwLossAdds02
import Derived.Test.YtigapglmipmbeaaGreatDoorLwLossAdds05
import Derived.Test.YtigapglmipmbeaaGreatDoorRb10
import Derived.Test.YtigapglmipmbeaaGreatDoorRb03
import Derived.Test.YtigapglmipmbeaaGreatDoorRb07
import Derived.Test.YtigapglmipmbeaaGreatDoorRb08
import Derived.ArgAppend
import Derived.Deep.AppendLies
set_option maxRecDepth 100000
set_option maxHeartbeats 16000000
namespace Go.Proofs.YtigapglmipmbeaaGreatDoor
open Go.RowKit Go.Shelf
open Lim
theorem made9_any (lss:List (List L2)) (v:Value) (w:World) (hv:LLRow w v lss) (hne:lss≠[]) (hr:Res w)
  (hmake:∀ (ls:List L2) (v:Value) (W:World),LRow W v ls→Short ls→Res W→Calls Tryz.prog 26 #[v] W fun e w'=>ResM W.heap.size (makeX ls) e w'∧Below W.heap.size W w') :
  Calls Tryz.prog 66 #[v] w fun e w'=>MadeP (madeD 12 12 24 lss) e w'∧Below w.heap.size w w':=by
 have HV:=Lib.hid hv
 obtain ⟨b,c,rfl,hb,hlen,hcell⟩:=hv
 have HC:=Lib.hid hcell
 have HNE:=Lib.hid hne
 have HMA:=Lib.hid hmake
 have N0:=Lib.hid (NW.refl hr)
 have HRS:=Lib.hid hr
 clear hcell hr hne hmake
 generalize hm:madeD 12 12 24 lss=mk
 have HMK:=Lib.hid hm
 clear hm
 go_enter Tryz.func66,Tryz.ntmps66
 go_wp2
 go_loopw [4,5] (fun v4 v5 wr=>∃ (i:Nat) (A0:Option Addr) (cc:Nat) (us:List (Value × List L2)),i≤lss.length∧v5=.int .i64 (i:Int)∧us.length=i∧v4=.slice A0 i cc∧Hid (wr.ownsRow w.heap.size 31 1 (.slice A0 i cc) i (us.map (·.1)))∧Hid (∀ (j:Nat) x l,us[j]?=some x→lss[j]?=some l→oneM 12 12 24 l=some x.2∧OwnM w.heap.size wr x.1 x.2)∧Hid (NW w wr)) (fun _ v5 _=>lss.length - (intOf v5).toNat)
 case atStart=>exact ⟨0,none,0,[],Nat.zero_le _,rfl,rfl,rfl,Lib.hid (World.ownsRow_nil _ _ _ _),Lib.hid (fun j x l h=>by simp at h),N0⟩
 case round =>
  clear N0
  obtain ⟨i,A0,cc,us,hi0,rfl,hul,rfl,HO,HU,HN⟩:=hrel
  by_cases hlt:i < lss.length
  ·obtain ⟨ls,hls⟩:∃ ls,lss[i]?=some ls:=⟨_,List.getElem?_eq_getElem hlt⟩
   obtain ⟨u,cu,hu⟩:=HC.out i ls hls
   have cu:wr.cell? ⟨b,i,none⟩=some u:=(HN.out.below.cell (p:=⟨b,i,none⟩) hb).trans cu
   have hbr:b < wr.heap.size:=Nat.lt_of_lt_of_le hb HN.out.below.size
   have HR0:=Lib.hid (hu.below HN.out.below)
   obtain ⟨A,cA,rfl,hlA,_⟩:=hu
   have hlt':(i:Int) < (lss.length:Int):=by omega
   have HLS:=Lib.hid (And.intro hls hlt)
   have NA:=Lib.hid (HN.out.alloc (.cells #[.slice A ls.length cA] 22))
   have HLI:=Lib.hid (few9_any [ls] (.slice (some ⟨wr.heap.size,0,none⟩) 1 1) (wr.alloc (.cells #[.slice A ls.length cA] 22))
    (LLRow.ofBlk (vs:=[(.slice A ls.length cA,ls)]) (Blk.new wr 22 #[.slice A ls.length cA]) rfl (by simp) (fun x hx=>by
     simp only [List.mem_cons,List.not_mem_nil,or_false] at hx
     subst hx
     exact HR0.out.below (below_alloc (Below.refl _ _) _))))
   have e1:lightsD 12 12 24 [ls]=lightD 12 12 24 ls:=by unfold lightsD;simp
   rw [e1] at HLI
   clear hls hlt e1
   have TK0:True:=trivial
   cases hl:lightD 12 12 24 ls with
   | false =>
    rw [hl] at HLI
    have HR:=Lib.hid (show mk=none by rw [← HMK.out];exact madeD_none HLS.out.1 (by unfold oneM;rw [hl];rfl))
    clear hl
    go_wp2_with (clear TK0;go_at_call 76;refine HLI.out.mono ?_;rintro e w3 ⟨rfl,hw⟩;subst hw)
    go_ret2
    rw [HR.out]
    exact ⟨rfl,NA.out.below⟩
   | true =>
    rw [hl] at HLI
    obtain ⟨l1,l2⟩:=lightD_iff.1 hl
    have hsh:Short ls:=fun x hx=>⟨Nat.le_trans (l2 x hx).1 (by omega),Nat.le_trans (l2 x hx).2 (by omega)⟩
    have HMC:=Lib.hid (HMA.out ls _ _ ((HR0.out.below (below_alloc (Below.refl _ _) (.cells #[.slice A ls.length cA] 22))).row (by omega)) hsh NA.out.res)
    have HL:=Lib.hid hl
    clear l1 l2 hsh hl
    cases hmk:makeX ls with
    | error m =>
     rw [hmk] at HMC
     change Hid (Calls _ _ _ _ fun e w'=>e=.returned (.tuple #[.slice none 0 0,.int .i64 (m:Int)])∧_) at HMC
     have hz:=ne_zero (makeX_ne hmk)
     have hz2:=ne_zero2 (makeX_ne hmk)
     have HR:=Lib.hid (show mk=none by rw [← HMK.out];exact madeD_none HLS.out.1 (by unfold oneM;rw [HL.out,hmk];rfl))
     clear hmk
     go_wp2_with (first
      | (clear TK0;go_at_call 76;refine HLI.out.mono ?_;rintro e w3 ⟨rfl,hw⟩;subst hw)
      | (go_at_call 26;refine HMC.out.mono ?_;rintro e w4 ⟨rfl,hb⟩;have N4:=Lib.hid (NA.out.later hb);clear hb))
     go_ret2
     rw [HR.out]
     exact ⟨rfl,N4.out.below⟩
    | ok d =>
     rw [hmk] at HMC
     change Hid (Calls _ _ _ _ fun e w'=>(∃ u,e=.returned (.tuple #[u,.int .i64 0])∧OwnM _ w' u d)∧_) at HMC
     have HE2:=Lib.hid (show lightsD 12 12 24 [d]=lightD 12 12 24 d by unfold lightsD;simp)
     have TK1:True:=trivial
     have TK2:True:=trivial
     have HDL:=Lib.hid (show d.length≤1000 from make_len hmk (Nat.le_trans (lightD_iff.1 HL.out).1 (by omega)))
     cases hd:lightD 12 12 24 d with
     | false =>
      have HR:=Lib.hid (show mk=none by rw [← HMK.out];exact madeD_none HLS.out.1 (by unfold oneM;rw [HL.out,hmk];dsimp only;rw [hd];rfl))
      clear hmk
      go_wp2_with ((clear TK0;go_at_call 76;refine HLI.out.mono ?_;rintro e w3 ⟨rfl,hw⟩;subst hw))
      go_wp2_with ((clear TK1;go_at_call 26;refine HMC.out.mono ?_;rintro e w4 ⟨⟨u5,rfl,ho⟩,hb⟩;obtain ⟨A5,c5,rfl⟩:=ho.slice;have N4:=Lib.hid (NA.out.later hb);have HD5:=Lib.hid ho;have HB4:=Lib.hid hb;have HLI2:=Lib.hid (few9_any [d] (.slice (some ⟨w4.heap.size,0,none⟩) 1 1) (w4.alloc (.cells #[.slice A5 d.length c5] 22)) (LLRow.ofBlk (vs:=[(.slice A5 d.length c5,d)]) (Blk.new w4 22 #[.slice A5 d.length c5]) rfl (by simp) (fun x hx=>by
      simp only [List.mem_cons,List.not_mem_nil,or_false] at hx
      subst hx
      exact ((HD5.out.later (below_alloc (Below.refl _ _) _)).row HDL.out).wide)));rw [HE2.out,hd] at HLI2;clear ho hb))
      go_wp2_with ((clear TK2;go_at_call 76;refine HLI2.out.mono ?_;rintro e w5 ⟨rfl,hw⟩;subst hw))
      go_wp2
      go_ret2
      rw [HR.out]
      exact ⟨rfl,(N4.out.alloc _).below⟩
     | true =>
      obtain ⟨i0,hi,hz0,hz1,hz2⟩:=info_parts infoD
      have HONE:=Lib.hid (show oneM 12 12 24 ls=some d from oneM_some.2 ⟨HL.out,hmk,hd⟩)
      clear hmk
      go_wp2_with ((clear TK0;go_at_call 76;refine HLI.out.mono ?_;rintro e w3 ⟨rfl,hw⟩;subst hw))
      go_wp2_with ((clear TK1;go_at_call 26;refine HMC.out.mono ?_;rintro e w4 ⟨⟨u5,rfl,ho⟩,hb⟩;obtain ⟨A5,c5,rfl⟩:=ho.slice;have N4:=Lib.hid (NA.out.later hb);have HD5:=Lib.hid ho;have HB4:=Lib.hid hb;have HLI2:=Lib.hid (few9_any [d] (.slice (some ⟨w4.heap.size,0,none⟩) 1 1) (w4.alloc (.cells #[.slice A5 d.length c5] 22)) (LLRow.ofBlk (vs:=[(.slice A5 d.length c5,d)]) (Blk.new w4 22 #[.slice A5 d.length c5]) rfl (by simp) (fun x hx=>by
      simp only [List.mem_cons,List.not_mem_nil,or_false] at hx
      subst hx
      exact ((HD5.out.later (below_alloc (Below.refl _ _) _)).row HDL.out).wide)));rw [HE2.out,hd] at HLI2;clear ho hb))
      have HB6:=Lib.hid (show Below wr.heap.size wr ((w4.alloc (.cells #[.slice A5 d.length c5] 22)).alloc (.cells #[.slice A5 d.length c5] 31)) from below_alloc (below_alloc ((below_alloc (Below.refl _ _) _).trans (HB4.out.mono (by simp))) _) _)
      have HOL:=Lib.hid (owns_later HO.out HB6.out)
      go_wp2_with (first
       | (clear TK2;go_at_call 76;refine HLI2.out.mono ?_;rintro e w5 ⟨rfl,hw⟩;subst hw)
       | (at_builtin;refine wpList_append_own _ rfl _ _ 46 rfl w.heap.size 31 i0 (.slice none 0 0) 1 24 Tryz.underlying46 hi hz0 hz1 hz2 rfl (by decide) _ _ _ rfl HOL.out ⟨w4.heap.size+1,0,none⟩ 1 1 [.slice A5 d.length c5] rfl rfl (by simpa using cell_one_new (w4.alloc (.cells #[.slice A5 d.length c5] 22)) (.slice A5 d.length c5) 31) (by simp [Value.oneCell']) (by unfold maxLen;omega) (by omega) (by have:=N4.out.below.size;simp;omega) ?_;intro v' w6 hown' hgrow _;obtain ⟨A6,c6,rfl⟩:=slice_shape hown';have HO6:=Lib.hid (And.intro hown' hgrow);clear hown' hgrow))
      go_roundw
      case rel =>
       have hNB:=HB6.out
       refine ⟨i+1,A6,c6,us++[(.slice A5 d.length c5,d)],HLS.out.2,by go_num,by simp [hul],rfl,Lib.hid ?_,Lib.hid ?_,Lib.hid ?_⟩
       ·rw [List.map_append]
        exact HO6.out.1
       ·intro j x l hx hl
        rcases Nat.lt_or_ge j us.length with h|h
        ·rw [List.getElem?_append_left h] at hx
         obtain ⟨r1,r2⟩:=HU.out j x l hx hl
         exact ⟨r1,(r2.later hNB).beside HOL.out (by decide) HO6.out.2⟩
        ·rw [List.getElem?_append_right h] at hx
         obtain rfl:j=us.length:=by
          have:=(List.getElem?_eq_some_iff.1 hx).1
          simp at this
          omega
         simp at hx
         subst hx
         rw [hul,HLS.out.1] at hl
         cases hl
         exact ⟨HONE.out,OwnM.beside (owns_base (HD5.out.later (below_alloc (below_alloc (Below.refl _ _) _) _)) NA.out.below.size) HOL.out (by decide) HO6.out.2⟩
       ·exact grow_nw (HN.out.later hNB) HRS.out HO6.out.2 (fun r e=>(HOL.out.lt r e).1)
      case measure=>have:=HLS.out.2;simp [intOf];omega
  ·have hlt':¬ (i:Int) < (lss.length:Int):=by omega
   have hil:i=lss.length:=by omega
   have hR:mk=some (us.map (·.2)):=by
    rw [← HMK.out]
    refine madeD_some (by simp [hul,hil]) fun j l d hl hd=>?_
    rw [List.getElem?_map] at hd
    cases hx:us[j]? with
    | none=>rw [hx] at hd;cases hd
    | some x =>
     rw [hx] at hd
     cases hd
     exact (HU.out j x l hx hl).1
   have hLL:LLRow wr (.slice A0 i cc) (us.map (·.2)):=by
    have hpos:0 < lss.length:=List.length_pos_iff.2 HNE.out
    rcases HO.out.2 with ⟨e,h0⟩|⟨g,cap,cur,e,hbg,hh,_⟩
    ·omega
    ·simp only [Value.slice.injEq,true_and] at e
     obtain ⟨rfl,rfl⟩:=e
     refine ⟨g,_,by rw [List.length_map,hul],(Array.getElem?_eq_some_iff.1 hh).1,by rw [List.length_map];omega,fun j d hd=>?_⟩
     rw [List.getElem?_map] at hd
     cases hx:us[j]? with
     | none=>rw [hx] at hd;cases hd
     | some x =>
      rw [hx] at hd
      cases hd
      have hj:=(List.getElem?_eq_some_iff.1 hx).1
      obtain ⟨l,hl⟩:∃ l,lss[j]?=some l:=⟨_,List.getElem?_eq_getElem (by omega)⟩
      obtain ⟨r1,r2⟩:=HU.out j x l hx hl
      have hc:=World.ownsRow.cells HO.out (g:=g) rfl j x.1 (by rw [List.getElem?_map,hx];rfl)
      rw [show (⟨g,0,none⟩:Addr).add j=⟨g,j,none⟩ by unfold Addr.add;split<;>simp_all] at hc
      exact ⟨x.1,hc,(r2.row (make_len (oneM_some.1 r1).2.1 (Nat.le_trans (lightD_iff.1 (oneM_some.1 r1).1).1 (by omega)))).wide⟩
   rw [hil] at hLL
   have HF:=Lib.hid (And.intro hR hLL)
   clear hlt hR hLL
   go_wp2
   go_ret2
   rw [HF.out.1]
   exact ⟨⟨_,rfl,HF.out.2⟩,HN.out.below⟩
theorem lsize:(Tryz.prog.info? 63).map (·.size)=some 2:=by kernel_rfl
theorem bsize:(Tryz.prog.info? 183).map (·.size)=some 2:=by kernel_rfl
theorem run_errno {W:World} {e:Nat} {n:Int} (h:Blk W e 32 #[.int .i64 n]):(loadVar 32 ⟨e,0,none⟩).run Tryz.prog W=.ok (.int .i64 n) W:=by
 have hc:=cell0 h
 simp [go_sem,hc]
theorem load_loss {W:World} {g:Nat} {t:TypeId} {u v:Value} (h:Blk W g t #[u,v]):(loadVar 63 ⟨g,0,none⟩).run Tryz.prog W=.ok (.agg #[u,v]) W :=
 run_loadVar_row W g t 63 #[u,v] (0,0) _ h Tryz.underlying63 rfl lsize
theorem load_bound {W:World} {g:Nat} {t:TypeId} {u v:Value} (h:Blk W g t #[u,v]):(loadVar 183 ⟨g,0,none⟩).run Tryz.prog W=.ok (.agg #[u,v]) W :=
 run_loadVar_row W g t 183 #[u,v] (0,0) _ h Tryz.underlying183 rfl bsize
section
variable {fn:Func} {p q u:Tmp} {tmps:Array Value} {W:World} {g e:Nat} {T:TypeId} {x:Value} {n:Int}
theorem run_cell (h:fn.results=#[.cell p T]) (hp:tmps.getD p undef=.pointer (some ⟨g,0,none⟩)) (hg:(loadVar T ⟨g,0,none⟩).run Tryz.prog W=.ok x W):(results fn tmps).run Tryz.prog W=.ok x W:=by
 have hp':tmps[p]?.getD undef=.pointer (some ⟨g,0,none⟩):=by simpa using hp
 simp only [results,h]
 simp [hp',asAddr,hg]
theorem run_cell_tmp (h:fn.results=#[.cell p T,.tmp u]) (hp:tmps.getD p undef=.pointer (some ⟨g,0,none⟩)) (hg:(loadVar T ⟨g,0,none⟩).run Tryz.prog W=.ok x W) :
  (results fn tmps).run Tryz.prog W=.ok (.tuple #[x,tmps.getD u undef]) W:=by
 rw [results_cell_tmp h,hp]
 simp only [asAddr,Sem.run_pure,Result.andThen_ok]
 rw [hg]
 rfl
theorem run_cell_errno (h:fn.results=#[.cell p T,.cell q 32]) (hp:tmps.getD p undef=.pointer (some ⟨g,0,none⟩)) (hg:(loadVar T ⟨g,0,none⟩).run Tryz.prog W=.ok x W)
  (hq:tmps.getD q undef=.pointer (some ⟨e,0,none⟩)) (he:Blk W e 32 #[.int .i64 n]) :
  (results fn tmps).run Tryz.prog W=.ok (.tuple #[x,.int .i64 n]) W:=by
 have h2:=run_errno he
 have hp':tmps[p]?.getD undef=.pointer (some ⟨g,0,none⟩):=by simpa using hp
 have hq':tmps[q]?.getD undef=.pointer (some ⟨e,0,none⟩):=by simpa using hq
 simp only [results,h]
 simp [Sem.run_bind,Result.andThen,hp',hq',asAddr,hg,h2]
theorem run_tmp_errno (h:fn.results=#[.tmp u,.cell q 32]) (hu:tmps.getD u undef=x) (hq:tmps.getD q undef=.pointer (some ⟨e,0,none⟩)) (he:Blk W e 32 #[.int .i64 n]) :
  (results fn tmps).run Tryz.prog W=.ok (.tuple #[x,.int .i64 n]) W:=by
 have h2:=run_errno he
 have hq':tmps[q]?.getD undef=.pointer (some ⟨e,0,none⟩):=by simpa using hq
 have hu':tmps[u]?.getD undef=x:=by simpa using hu
 simp only [results,h]
 simp [Result.andThen,hq',hu',asAddr,h2]
end
def endL:Except Nat LQ→Ending
 | .ok l=>.returned (lossT l)
 | .error n=>.panicked (pan n)
theorem five:(5:Nat)≠0:=by decide
theorem limited_any {f d:ByteArray} {D:Rat} (w:World) (hd:IsT d D) (hr:Res w) :
  Calls Tryz.prog 166 #[.string f,.string d] w fun e w'=>e=.returned (.agg #[.string f,.string (rT (minQ D 1))])∧Below w.heap.size w w':=by
 have HX:=Lib.hid (below_alloc (Below.refl w.heap.size w) (.cells #[.string ⟨#[]⟩,.string ⟨#[]⟩] 183))
 have HK:=Lib.hid (Blk.new w 183 #[.string ⟨#[]⟩,.string ⟨#[]⟩])
 have HM:=Lib.hid (minT (w.alloc (.cells #[.string ⟨#[]⟩,.string ⟨#[]⟩] 183)) hd IsT.one (rT_min hd IsT.one).symm (hr.below HX.out))
 generalize rT (minQ D 1)=m at HM ⊢
 clear hd hr
 go_enter Tryz.func166,Tryz.ntmps166
 go_wp2_with (first
  | (go_at_call 143;refine HM.out.mono ?_;rintro e w1 ⟨rfl,hb⟩;have HB:=Lib.hid (HX.out.trans (hb.mono HX.out.size));have HK1:=Lib.hid (HK.out.below hb HK.out.lt);obtain ⟨p0,p1⟩:=cells2 HK1.out;have z0:=HK1.out.frozen 0;have z1:=HK1.out.frozen 1;clear hb)
  | (go_at_call 165;refine (mustN_ok _ _).mono ?_;rintro e w2 ⟨rfl,hw⟩;subst hw))
 refine bodyPost_ret (run_cell rfl rfl (load_bound ((HK1.out.set_ 0 (.string f)).set_ 1 (.string m)))) rfl ⟨rfl,(HB.out.setCell (Nat.le_refl _) _).setCell (Nat.le_refl _) _⟩
structure At3 (w:World) (t1 t2 t3:TypeId) (c1 c2 c3:Array Value) (W:World):Prop where
 a:Blk W w.heap.size t1 c1
 b:Blk W (w.heap.size+1) t2 c2
 c:Blk W (w.heap.size+1+1) t3 c3
 res:Res W
 below:Below w.heap.size w W
theorem At3.later {w W W':World} {t1 t2 t3:TypeId} {c1 c2 c3:Array Value} (h:At3 w t1 t2 t3 c1 c2 c3 W) (hb:Below W.heap.size W W'):At3 w t1 t2 t3 c1 c2 c3 W' :=
 ⟨h.a.below hb h.a.lt,h.b.below hb h.b.lt,h.c.below hb h.c.lt,h.res.below hb,h.below.trans (hb.mono h.below.size)⟩
theorem At3.new (w:World) (t1 t2 t3:TypeId) (c1 c2 c3:Array Value) (hr:Res w):At3 w t1 t2 t3 c1 c2 c3 (((w.alloc (.cells c1 t1)).alloc (.cells c2 t2)).alloc (.cells c3 t3)):=by
 have b1:=below_alloc (Below.refl w.heap.size w) (.cells c1 t1)
 have b2:=below_alloc b1 (.cells c2 t2)
 have b3:=below_alloc b2 (.cells c3 t3)
 have k1:=Blk.new w t1 c1
 have k2:=Blk.new (w.alloc (.cells c1 t1)) t2 c2
 have k3:=Blk.new ((w.alloc (.cells c1 t1)).alloc (.cells c2 t2)) t3 c3
 have e1:(w.alloc (.cells c1 t1)).heap.size=w.heap.size+1:=by simp
 have e2:((w.alloc (.cells c1 t1)).alloc (.cells c2 t2)).heap.size=w.heap.size+1+1:=by simp
 rw [e1] at k2
 rw [e2] at k3
 exact ⟨(k1.alloc _).alloc _,k2.alloc _,k3,hr.below b3,b3⟩
theorem le2 (n:Nat):n≤n+1+1:=Nat.le_trans (Nat.le_succ n) (Nat.le_succ _)
theorem plus_ok {f d f' d':ByteArray} {a b:LQ} (w:World) (ha:LossIs f d a) (hb:LossIs f' d' b) (h1:fits (a.1*b.1)=true) (h2:fits (a.2+b.2)=true) (hr:Res w) :
  Calls Tryz.prog 162 #[.agg #[.string f,.string d],.agg #[.string f',.string d']] w fun e w'=>e=.returned (.agg #[.string (rT (a.1*b.1)),.string (rT (minQ (a.2+b.2) 1))])∧Below w.heap.size w w':=by
 have H:=Lib.hid (At3.new w 183 183 183 #[.string f,.string d] #[.string f',.string d'] #[.string ⟨#[]⟩,.string ⟨#[]⟩] hr)
 have HM:=Lib.hid (fun w hr=>mulT w ha.f hb.f (isT_rT h1) hr)
 have HA:=Lib.hid (fun w hr=>addT w ha.d hb.d (isT_rT h2) hr)
 have HL:=Lib.hid (fun (w:World) hr=>limited_any (f:=rT (a.1*b.1)) w (isT_rT h2) hr)
 generalize rT (a.1*b.1)=m at *
 generalize rT (a.2+b.2)=s at *
 generalize rT (minQ (a.2+b.2) 1)=l at *
 have TK1:True:=trivial
 clear ha hb h1 h2 hr
 go_enter Tryz.func162,Tryz.ntmps162
 go_wp2_with (first
  | (go_at_call 130;refine (HM.out _ H.out.res).mono ?_;rintro e w1 ⟨rfl,hb⟩;have H1:=Lib.hid (H.out.later hb);obtain ⟨-,p1⟩:=cells2 H1.out.a;obtain ⟨-,q1⟩:=cells2 H1.out.b;clear hb)
  | (clear TK1;go_at_call 165;refine (mustN_ok _ _).mono ?_;rintro e w2 ⟨rfl,hw⟩;subst hw)
  | (go_at_call 107;refine (HA.out _ H1.out.res).mono ?_;rintro e w3 ⟨rfl,hb⟩;have H3:=Lib.hid (H1.out.later hb);clear hb)
  | (go_at_call 165;refine (mustN_ok _ _).mono ?_;rintro e w4 ⟨rfl,hw⟩;subst hw)
  | (go_at_call 166;refine (HL.out _ H3.out.res).mono ?_;rintro e w5 ⟨rfl,hb⟩;have H5:=Lib.hid (H3.out.later hb);obtain ⟨r5,s5⟩:=cells2 H5.out.c;have y5:=H5.out.c.frozen 0;have z5:=H5.out.c.frozen 1;clear hb))
 refine bodyPost_ret (run_cell rfl rfl (load_bound ((H5.out.c.set_ 0 (.string m)).set_ 1 (.string l)))) rfl ⟨rfl,(H5.out.below.setCell (le2 _) _).setCell (le2 _) _⟩
theorem plus_no2 {f d f' d':ByteArray} {a b:LQ} (w:World) (ha:LossIs f d a) (hb:LossIs f' d' b) (h1:fits (a.1*b.1)=true) (h2:fits (a.2+b.2)=false) (hr:Res w) :
  Calls Tryz.prog 162 #[.agg #[.string f,.string d],.agg #[.string f',.string d']] w fun e w'=>e=.panicked (pan 5)∧Below w.heap.size w w':=by
 have H:=Lib.hid (At3.new w 183 183 183 #[.string f,.string d] #[.string f',.string d'] #[.string ⟨#[]⟩,.string ⟨#[]⟩] hr)
 have HM:=Lib.hid (fun w hr=>mulT w ha.f hb.f (isT_rT h1) hr)
 have HA:=Lib.hid (fun w hr=>addO w ha.d hb.d h2 hr)
 generalize rT (a.1*b.1)=m at *
 have TK1:True:=trivial
 clear ha hb h1 h2 hr
 go_enter Tryz.func162,Tryz.ntmps162
 go_wp2_with (first
  | (go_at_call 130;refine (HM.out _ H.out.res).mono ?_;rintro e w1 ⟨rfl,hb⟩;have H1:=Lib.hid (H.out.later hb);obtain ⟨-,p1⟩:=cells2 H1.out.a;obtain ⟨-,q1⟩:=cells2 H1.out.b;clear hb)
  | (clear TK1;go_at_call 165;refine (mustN_ok _ _).mono ?_;rintro e w2 ⟨rfl,hw⟩;subst hw)
  | (go_at_call 107;refine (HA.out _ H1.out.res).mono ?_;rintro e w3 ⟨rfl,hb⟩;have H3:=Lib.hid (H1.out.later hb);clear hb)
  | (go_at_call 165;refine (mustN_no _ 5 _ five).mono ?_;rintro e w4 ⟨rfl,hw⟩;subst hw))
 exact ⟨rfl,rfl,H3.out.below⟩
theorem plus_no1 {f d f' d':ByteArray} {a b:LQ} (w:World) (ha:LossIs f d a) (hb:LossIs f' d' b) (h1:fits (a.1*b.1)=false) (hr:Res w) :
  Calls Tryz.prog 162 #[.agg #[.string f,.string d],.agg #[.string f',.string d']] w fun e w'=>e=.panicked (pan 5)∧Below w.heap.size w w':=by
 have H:=Lib.hid (At3.new w 183 183 183 #[.string f,.string d] #[.string f',.string d'] #[.string ⟨#[]⟩,.string ⟨#[]⟩] hr)
 have HM:=Lib.hid (fun w hr=>mulO w ha.f hb.f h1 hr)
 have TK1:True:=trivial
 clear ha hb h1 hr
 go_enter Tryz.func162,Tryz.ntmps162
 go_wp2_with (first
  | (go_at_call 130;refine (HM.out _ H.out.res).mono ?_;rintro e w1 ⟨rfl,hb⟩;have H1:=Lib.hid (H.out.later hb);obtain ⟨-,p1⟩:=cells2 H1.out.a;obtain ⟨-,q1⟩:=cells2 H1.out.b;clear hb)
  | (go_at_call 165;refine (mustN_no _ 5 _ five).mono ?_;rintro e w2 ⟨rfl,hw⟩;subst hw))
 exact ⟨rfl,rfl,H1.out.below⟩
theorem plus_any {f d f' d':ByteArray} {a b:LQ} (w:World) (ha:LossIs f d a) (hb:LossIs f' d' b) (hr:Res w) :
  Calls Tryz.prog 162 #[.agg #[.string f,.string d],.agg #[.string f',.string d']] w fun e w'=>e=endL (plusL a b)∧Below w.heap.size w w':=by
 cases h1:fits (a.1*b.1)
 ·rw [plusL_no1 h1];exact plus_no1 w ha hb h1 hr
 cases h2:fits (a.2+b.2)
 ·rw [plusL_no2 h1 h2];exact plus_no2 w ha hb h1 h2 hr
 rw [plusL_ok h1 h2]
 exact plus_ok w ha hb h1 h2 hr
theorem same_two {W:World} {S:Nat→Prop} {b:Nat} {t:TypeId} {u v:Value} (h:Blk W b t #[u,v]) (hS:S b):(∀ x:SameAt W S,x.W.cell? ⟨b,0,none⟩=some u)∧∀ x:SameAt W S,x.W.cell? ⟨b,1,none⟩=some v :=
 ⟨fun x=>x.cell hS (cells2 h).1,fun x=>x.cell hS (cells2 h).2⟩
theorem set2_heap {w:World} {b k:Nat} {u v:Value} (h:k≠b):((w.setCell ⟨b,0,none⟩ u).setCell ⟨b,1,none⟩ v).heap[k]?=w.heap[k]? :=
 (Below.heap_setCell _ ⟨b,1,none⟩ _ _ h).trans (Below.heap_setCell _ ⟨b,0,none⟩ _ _ h)
def foldE (op:LQ→LQ→Except Nat LQ):LQ→List LQ→Except Nat LQ
 | a,[]=>.ok a
 | a,x::l=>match op a x with
  | .error n=>.error n
  | .ok b=>foldE op b l
def valL (x:L2):LQ:=(valQ x.1.data.toList,valQ x.2.data.toList)
theorem foldE_at {op:LQ→LQ→Except Nat LQ}:∀ {l:List LQ} {k:Nat} {a b x:LQ},foldE op a (l.take k)=.ok b→l[k]?=some x→foldE op a (l.take (k+1))=op b x
 | [],_,_,_,_,_,h=>by simp at h
 | y::l,0,a,b,x,h,hx=>by
  simp only [List.take_zero,foldE] at h
  cases h
  simp only [List.getElem?_cons_zero,Option.some.injEq] at hx
  subst hx
  simp only [Nat.zero_add,List.take_succ_cons,List.take_zero,foldE]
  cases op a y<;>rfl
 | y::l,k+1,a,b,x,h,hx=>by
  simp only [List.take_succ_cons,foldE] at h ⊢
  cases hy:op a y with
  | error n=>rw [hy] at h;cases h
  | ok c =>
   rw [hy] at h
   dsimp only at h ⊢
   rw [List.getElem?_cons_succ] at hx
   exact foldE_at h hx
theorem foldE_error {op:LQ→LQ→Except Nat LQ}:∀ {l:List LQ} {k:Nat} {a:LQ} {n:Nat},foldE op a (l.take k)=.error n→foldE op a l=.error n
 | [],k,a,n,h=>by simpa using h
 | y::l,0,a,n,h=>by simp [foldE] at h
 | y::l,k+1,a,n,h=>by
  simp only [List.take_succ_cons,foldE] at h ⊢
  cases hy:op a y with
  | error m=>rw [hy] at h;exact h
  | ok c=>rw [hy] at h;exact foldE_error h
def foldR (op:LQ→LQ→Except Nat LQ) (ls:List L2):Except Nat LQ:=if firstL ls≠0 then .error (firstL ls) else foldE op noneL (ls.map valL)
def Combines (F:FuncId) (op:LQ→LQ→Except Nat LQ):Prop :=
 (∀ {f d f' d':ByteArray} {a b:LQ} (w:World),LossIs f d a→LossIs f' d' b→Res w →
  Calls Tryz.prog F #[.agg #[.string f,.string d],.agg #[.string f',.string d']] w fun e w'=>e=endL (op a b)∧Below w.heap.size w w')∧(∀ a b l,OkL a→OkL b→op a b=.ok l→OkL l)∧∀ a b n,op a b=.error n→n≠0
theorem plusL_err {a b:LQ} {n:Nat} (h:plusL a b=.error n):n≠0:=by
 cases h1:fits (a.1*b.1)
 ·rw [plusL_no1 h1] at h;cases h;decide
 cases h2:fits (a.2+b.2)
 ·rw [plusL_no2 h1 h2] at h;cases h;decide
 rw [plusL_ok h1 h2] at h;cases h
theorem combines_plus:Combines 162 plusL:=⟨fun w ha hb hr=>plus_any w ha hb hr,fun _ _ _=>plusL_okL,fun _ _ _=>plusL_err⟩
theorem runs_plus:Runs 162:=runs_of Tryz.func162 (by kernel_rfl) (by kernel_rfl)
theorem none_any (w:World):Calls Tryz.prog 144 #[] w fun e w'=>e=.returned (.agg #[.string ⟨#[49]⟩,.string ⟨#[48]⟩])∧Below w.heap.size w w':=by
 have HX:=Lib.hid (below_alloc (Below.refl w.heap.size w) (.cells #[.string ⟨#[]⟩,.string ⟨#[]⟩] 63))
 have HK:=Lib.hid (Blk.new w 63 #[.string ⟨#[]⟩,.string ⟨#[]⟩])
 go_enter Tryz.func144,Tryz.ntmps144
 go_wp2
 have hk:=(HK.out.set_ 0 (.string ⟨#[49]⟩)).set_ 1 (.string ⟨#[48]⟩)
 first
  | exact bodyPost_ret (run_cell rfl rfl (load_loss hk)) rfl ⟨rfl,(HX.out.setCell (Nat.le_refl _) _).setCell (Nat.le_refl _) _⟩
  | (refine bodyPost_ret (run_cell rfl rfl (load_loss (Blk.new w 63 #[.string ⟨#[49]⟩,.string ⟨#[48]⟩]))) rfl ⟨rfl,below_alloc (Below.refl w.heap.size w) _⟩)
structure FoldAt (w:World) (g6:Nat) (acc:LQ) (W:World):Prop where
 a:Blk W w.heap.size 63 #[.string ⟨#[]⟩,.string ⟨#[]⟩]
 e:Blk W (w.heap.size+1) 32 #[.int .i64 0]
 s:Blk W g6 183 #[.string (rT acc.1),.string (rT acc.2)]
 far:w.heap.size+1 < g6
 res:Res W
 below:Below w.heap.size w W
theorem FoldAt.later {w W W':World} {g6:Nat} {acc:LQ} (h:FoldAt w g6 acc W) (hb:Below W.heap.size W W'):FoldAt w g6 acc W' :=
 ⟨h.a.below hb h.a.lt,h.e.below hb h.e.lt,h.s.below hb h.s.lt,h.far,h.res.below hb,h.below.trans (hb.mono h.below.size)⟩
theorem Blk.two_set {w:World} {b:Nat} {t:TypeId} {u v x y:Value} (h:Blk w b t #[u,v]):Blk ((w.setCell ⟨b,0,none⟩ x).setCell ⟨b,1,none⟩ y) b t #[x,y]:=(h.set_ 0 x).set_ 1 y
theorem Blk.two_far {w:World} {b g:Nat} {t:TypeId} {cs:Array Value} {x y:Value} (h:Blk w g t cs) (hg:g≠b):Blk ((w.setCell ⟨b,0,none⟩ x).setCell ⟨b,1,none⟩ y) g t cs :=
 (h.far (p:=⟨b,0,none⟩) hg x).far (p:=⟨b,1,none⟩) hg y
structure At2 (w:World) (t1 t2:TypeId) (c1 c2:Array Value) (W:World):Prop where
 a:Blk W w.heap.size t1 c1
 b:Blk W (w.heap.size+1) t2 c2
 res:Res W
 below:Below w.heap.size w W
theorem At2.later {w W W':World} {t1 t2:TypeId} {c1 c2:Array Value} (h:At2 w t1 t2 c1 c2 W) (hb:Below W.heap.size W W'):At2 w t1 t2 c1 c2 W' :=
 ⟨h.a.below hb h.a.lt,h.b.below hb h.b.lt,h.res.below hb,h.below.trans (hb.mono h.below.size)⟩
theorem At2.new (w:World) (t1 t2:TypeId) (c1 c2:Array Value) (hr:Res w):At2 w t1 t2 c1 c2 ((w.alloc (.cells c1 t1)).alloc (.cells c2 t2)):=by
 have b1:=below_alloc (Below.refl w.heap.size w) (.cells c1 t1)
 have b2:=below_alloc b1 (.cells c2 t2)
 have k1:=Blk.new w t1 c1
 have k2:=Blk.new (w.alloc (.cells c1 t1)) t2 c2
 have e1:(w.alloc (.cells c1 t1)).heap.size=w.heap.size+1:=by simp
 rw [e1] at k2
 exact ⟨k1.alloc _,k2,hr.below b2,b2⟩
theorem LRow.long {w:World} {v:Value} {ls:List L2} (h:LRow w v ls):∃ A c,v=.slice A ls.length c:=⟨_,_,h.choose_spec.choose_spec.1⟩
theorem fold_no (F:FuncId) (ls:List L2) (v:Value) (w:World) (hv:LRow w v ls) (hs:Short ls) (hr:Res w) (hL:firstL ls≠0) :
  Calls Tryz.prog 161 #[v,.func (.func F) #[] #[]] w fun e w'=>e=.returned (.tuple #[.agg #[.string ⟨#[]⟩,.string ⟨#[]⟩],.int .i64 (firstL ls:Int)])∧Below w.heap.size w w':=by
 have H:=Lib.hid (At2.new w 63 32 #[.string ⟨#[]⟩,.string ⟨#[]⟩] #[.int .i64 0] hr)
 have HV:=Lib.hid (valid_run ls v _ (hv.below H.out.below) hs H.out.res)
 obtain ⟨A,c,rfl⟩:=hv.long
 rw [endV_no hL] at HV
 generalize firstL ls=n at HV
 clear hv hs hr hL
 go_enter_defers Tryz.func161,Tryz.ntmps161
 go_wp2_with (go_at_call 164;refine HV.out.mono ?_;rintro e w1 ⟨rfl,hb⟩;have H1:=Lib.hid (H.out.later hb);clear hb)
 refine door_pan (v:=.tuple #[.agg #[.string ⟨#[]⟩,.string ⟨#[]⟩],.int .i64 (n:Int)]) H1.out.b ?_
 intro W hB hk hbel
 exact ⟨run_cell_errno rfl rfl (load_loss (hk _ _ _ (by omega) H1.out.a)) rfl hB,rfl,hbel _ _ (by omega) H1.out.below⟩
theorem fold_ok (F:FuncId) (op:LQ→LQ→Except Nat LQ) (hF:Combines F op) (hrun:Runs F) (ls:List L2) (v:Value) (w:World) (hv:LRow w v ls) (hs:Short ls) (hr:Res w) (hL:firstL ls=0) :
  Calls Tryz.prog 161 #[v,.func (.func F) #[] #[]] w fun e w'=>e=.returned (resL (foldE op noneL (ls.map valL)))∧Below w.heap.size w w':=by
 have H:=Lib.hid (At2.new w 63 32 #[.string ⟨#[]⟩,.string ⟨#[]⟩] #[.int .i64 0] hr)
 have HV:=Lib.hid (valid_run ls v _ (hv.below H.out.below) hs H.out.res)
 have HLR:=Lib.hid hv
 obtain ⟨A,c,rfl⟩:=hv.long
 obtain ⟨_,_,_,hlen,hcells⟩:=id hv
 have HCE:=Lib.hid hcells
 rw [hL] at HV
 have HF:=Lib.hid hF
 have HR0:=Lib.hid hr
 have HL:=Lib.hid (firstL_zero.1 hL)
 have hrn:=hrun
 unfold Runs at hrn
 clear hv hs hr hL hF hrun hcells
 go_enter_defers Tryz.func161,Tryz.ntmps161
 go_wp2_with (first
  | (go_at_call 164;refine HV.out.mono ?_;rintro e w1 ⟨rfl,hb⟩;rw [endV_ok];have H1:=Lib.hid (H.out.later hb);clear hb)
  | (go_at_call 144;refine (none_any _).mono ?_;rintro e w2 ⟨rfl,hb⟩;have H2:=Lib.hid (H1.out.later hb);clear hb))
 have hlt2:w.heap.size+1 < w2.heap.size:=H2.out.b.lt
 have HFA:=Lib.hid (show FoldAt w w2.heap.size noneL (w2.alloc (.cells #[.string ⟨#[49]⟩,.string ⟨#[48]⟩] 183)) from
  ⟨H2.out.a.alloc _,H2.out.b.alloc _,by
   have e1:(⟨#[49]⟩:ByteArray)=rT 1:=IsT.one.text
   have e0:(⟨#[48]⟩:ByteArray)=rT 0:=IsT.zero.text
   rw [e1,e0]
   exact Blk.new w2 _ _,hlt2,H2.out.res.below (below_alloc (Below.refl _ _) _),below_alloc H2.out.below _⟩)
 generalize w2.alloc (.cells #[.string ⟨#[49]⟩,.string ⟨#[48]⟩] 183)=W2 at *
 generalize w2.heap.size=g6 at *
 clear H H1 H2 HV
 go_loopw [15] (fun v15 wr=>∃ (k:Nat) (acc:LQ),k≤ls.length∧v15=.int .i64 (k:Int)∧Hid (foldE op noneL ((ls.map valL).take k)=.ok acc)∧Hid (OkL acc)∧Hid (FoldAt w g6 acc wr)) (fun v15 _=>ls.length - (intOf v15).toNat)
 case atStart=>exact ⟨0,noneL,Nat.zero_le _,rfl,Lib.hid (by simp [foldE]),Lib.hid okL_none,HFA⟩
 case round =>
  obtain ⟨k,acc,hk,rfl,HE,HO,HA⟩:=hrel
  clear HFA
  obtain ⟨r0,r1⟩:=cells2 HA.out.s
  have hg6:=HA.out.s.lt
  by_cases hlt:k < ls.length
  ·obtain ⟨b,o,rfl,hbw,hcell⟩:=HCE.out (by omega)
   obtain ⟨x,hx⟩:∃ x,ls[k]?=some x:=⟨_,List.getElem?_eq_getElem hlt⟩
   obtain ⟨c0,c1⟩:=hcell k x hx
   rw [← HA.out.below.cell (p:=⟨b,o+k*2,none⟩) hbw] at c0
   rw [← HA.out.below.cell (p:=⟨b,o+k*2+1,none⟩) hbw] at c1
   have hlt':(k:Int) < (ls.length:Int):=by omega
   have hb2:b < wr.heap.size:=Nat.lt_of_lt_of_le hbw HA.out.below.size
   have HX:=Lib.hid (below_alloc (Below.refl wr.heap.size wr) (.cells #[.string x.1,.string x.2] 63))
   have HFC:=Lib.hid (HF.out.1 (wr.alloc (.cells #[.string x.1,.string x.2] 63)) HO.out.is (errL_zero (HL.out x (List.mem_of_getElem? hx))) (HA.out.res.below HX.out))
   have HAT:=Lib.hid (foldE_at HE.out (show (ls.map valL)[k]?=some (valL x) by rw [List.getElem?_map,hx];rfl))
   change Hid (Calls _ _ _ _ fun e w'=>e=endL (op acc (valL x))∧_) at HFC
   have HLT:=Lib.hid (And.intro hlt hlt')
   obtain ⟨f,d⟩:=x
   dsimp only at c0 c1 HX HFC
   cases ho:op acc (valL (f,d)) with
   | error m =>
    rw [ho] at HFC HAT
    have HM:=Lib.hid (foldE_error HAT.out)
    change Hid (Calls _ _ _ _ fun e w'=>e=.panicked (pan m)∧_) at HFC
    clear hcell hx hbw hlt ho HL
    have HF2:=Lib.hid HFC.out
    clear HFC
    go_wp2_with (refine HF2.out.mono ?_;rintro e w3 ⟨rfl,hb⟩;have H3:=Lib.hid (HA.out.later (HX.out.trans (hb.mono HX.out.size)));clear hb)
    refine door_pan (v:=resL (.error m)) H3.out.e ?_
    intro W hB hkk hbel
    refine ⟨run_cell_errno rfl rfl (load_loss (hkk _ _ _ (by omega) H3.out.a)) rfl hB,?_,hbel _ _ (by omega) H3.out.below⟩
    rw [HM.out]
   | ok b' =>
    rw [ho] at HFC HAT
    change Hid (Calls _ _ _ _ fun e w'=>e=.returned (.agg #[.string (rT b'.1),.string (rT b'.2)])∧_) at HFC
    have HOB:=Lib.hid (HF.out.2.1 acc _ b' HO.out (errL_zero (HL.out (f,d) (List.mem_of_getElem? hx))).ok ho)
    clear hcell hx hbw hlt ho
    have HF2:=Lib.hid HFC.out
    clear HFC
    obtain ⟨fb,hfb⟩:∃ y,y=rT b'.1:=⟨_,rfl⟩
    obtain ⟨db,hdb⟩:∃ y,y=rT b'.2:=⟨_,rfl⟩
    rw [← hfb,← hdb] at HF2
    have HFB:=Lib.hid (And.intro hfb hdb)
    clear hfb hdb
    go_wp2_with (refine HF2.out.mono ?_;rintro e w3 ⟨rfl,hb⟩;have H3:=Lib.hid (HA.out.later (HX.out.trans (hb.mono HX.out.size)));obtain ⟨q0,q1⟩:=cells2 H3.out.s;have z0:=H3.out.s.frozen 0;have z1:=H3.out.s.frozen 1;clear hb)
    go_roundw
    case rel =>
     have hb3:=(H3.out.below.setCell (p:=⟨g6,0,none⟩) (show w.heap.size≤g6 by have:=H3.out.far;omega) (.string fb)).setCell (p:=⟨g6,1,none⟩) (show w.heap.size≤g6 by have:=H3.out.far;omega) (.string db)
     exact ⟨k+1,b',HLT.out.1,by go_num,HAT,HOB,Lib.hid ⟨H3.out.a.two_far (by have:=H3.out.far;omega),H3.out.e.two_far (by have:=H3.out.far;omega),by
      rw [← HFB.out.1,← HFB.out.2];exact H3.out.s.two_set,H3.out.far,HR0.out.below hb3,hb3⟩⟩
    case measure=>have:=HLT.out.1;simp [intOf];omega
  ·have hlt':¬ (k:Int) < (ls.length:Int):=by omega
   obtain rfl:k=ls.length:=by omega
   have HE2:=Lib.hid (show foldE op noneL (ls.map valL)=.ok acc by
    have:=HE.out
    rwa [List.take_of_length_le (by simp)] at this)
   obtain ⟨p0,p1⟩:=cells2 HA.out.a
   have z0:=HA.out.a.frozen 0
   have z1:=HA.out.a.frozen 1
   have pe:=cell0 HA.out.e
   have ze:=HA.out.e.frozen 0
   clear hlt
   go_wp2
   have ha2:=(HA.out.a.two_set (x:=.string (rT acc.1)) (y:=.string (rT acc.2))).far (p:=⟨w.heap.size+1,0,none⟩) (by show w.heap.size≠w.heap.size+1;omega) (.int .i64 0)
   have he2:=(HA.out.e.two_far (b:=w.heap.size) (x:=.string (rT acc.1)) (y:=.string (rT acc.2)) (by omega)).set_ 0 (.int .i64 0)
   refine door_ret (v:=resL (.ok acc)) (run_cell_errno rfl rfl (load_loss ha2) rfl he2) ⟨by rw [HE2.out],?_⟩
   exact (((HA.out.below.setCell (Nat.le_refl _) _).setCell (Nat.le_refl _) _).setCell (Nat.le_succ _) _)
theorem fold_any (F:FuncId) (op:LQ→LQ→Except Nat LQ) (hF:Combines F op) (hrun:Runs F) (ls:List L2) (v:Value) (w:World) (hv:LRow w v ls) (hs:Short ls) (hr:Res w) :
  Calls Tryz.prog 161 #[v,.func (.func F) #[] #[]] w fun e w'=>e=.returned (resL (foldR op ls))∧Below w.heap.size w w':=by
 unfold foldR
 by_cases hL:firstL ls=0
 ·rw [if_neg (by omega)];exact fold_ok F op hF hrun ls v w hv hs hr hL
 ·rw [if_pos hL];exact fold_no F ls v w hv hs hr hL
theorem resL_shape (r:Except Nat LQ):∃ (x y:ByteArray) (n:Int),resL r=.tuple #[.agg #[.string x,.string y],.int .i64 n]:=by
 cases r with
 | ok l=>exact ⟨_,_,_,rfl⟩
 | error n=>exact ⟨_,_,_,rfl⟩
theorem short_two {f d f' d':ByteArray} (h1:f.size≤270000) (h2:d.size≤270000) (h3:f'.size≤270000) (h4:d'.size≤270000):Short [(f,d),(f',d')]:=by
 intro x hx
 simp only [List.mem_cons,List.not_mem_nil,or_false] at hx
 rcases hx with rfl|rfl
 ·exact ⟨h1,h2⟩
 ·exact ⟨h3,h4⟩
theorem at3_row {w:World} {f d f' d':ByteArray} {c3:Array Value} {t1 t2 t3:TypeId} {W:World} (H:At3 w t1 t2 t3 #[.string f,.string d] #[.string f',.string d'] c3 W) :
  Below W.heap.size W (W.alloc (.cells #[.string f,.string d,.string f',.string d'] 63))∧LRow (W.alloc (.cells #[.string f,.string d,.string f',.string d'] 63)) (.slice (some ⟨W.heap.size,0,none⟩) 2 2) [(f,d),(f',d')] ∧
   Res (W.alloc (.cells #[.string f,.string d,.string f',.string d'] 63)) :=
 ⟨below_alloc (Below.refl _ _) _,LRow.two (Blk.new W _ _),H.res.below (below_alloc (Below.refl _ _) _)⟩
theorem lossAdd_any (f d f' d':ByteArray) (w:World) (h1:f.size≤270000) (h2:d.size≤270000) (h3:f'.size≤270000) (h4:d'.size≤270000) (hr:Res w) :
  Calls Tryz.prog 69 #[.agg #[.string f,.string d],.agg #[.string f',.string d']] w fun e w'=>e=.returned (resL (foldR plusL [(f,d),(f',d')]))∧Below w.heap.size w w':=by
 have H0:=At3.new w 63 63 63 #[.string f,.string d] #[.string f',.string d'] #[.string ⟨#[]⟩,.string ⟨#[]⟩] hr
 obtain ⟨a1,a2,a3⟩:=at3_row H0
 rw [show (((w.alloc (.cells #[.string f,.string d] 63)).alloc (.cells #[.string f',.string d'] 63)).alloc (.cells #[.string ⟨#[]⟩,.string ⟨#[]⟩] 63)).heap.size=w.heap.size+1+1+1 by simp] at a2
 have HF:=Lib.hid (fold_any 162 plusL combines_plus runs_plus _ _ _ a2 (short_two h1 h2 h3 h4) a3)
 have H1:=Lib.hid (H0.later a1)
 obtain ⟨x,y,n,hx⟩:=resL_shape (foldR plusL [(f,d),(f',d')])
 rw [hx] at HF ⊢
 clear H0 a1 a2 a3 h1 h2 h3 h4 hr hx
 go_enter Tryz.func69,Tryz.ntmps69
 go_wp2_with (go_at_call 161;refine HF.out.mono ?_;rintro e w1 ⟨rfl,hb⟩;have H2:=Lib.hid (H1.out.later hb);obtain ⟨q0,q1⟩:=cells2 H2.out.c;have z0:=H2.out.c.frozen 0;have z1:=H2.out.c.frozen 1;clear hb)
 refine bodyPost_ret (run_cell_tmp rfl rfl (load_loss H2.out.c.two_set)) rfl ⟨rfl,(H2.out.below.setCell (le2 _) _).setCell (le2 _) _⟩
def resB:Except Nat Bool→Value
 | .ok b=>.tuple #[.bool b,.int .i64 0]
 | .error n=>.tuple #[.bool false,.int .i64 (n:Int)]
theorem field_bound (x y:ByteArray) (w:World):(Instr.field 183 (.agg #[.string x,.string y]) 0).run Tryz.prog w=.ok (.agg #[.string x,.string y]) w:=by kernel_rfl
theorem short_one {f d:ByteArray} (h1:f.size≤270000) (h2:d.size≤270000):Short [(f,d)]:=by
 intro x hx
 simp only [List.mem_cons,List.not_mem_nil,or_false] at hx
 rw [hx]
 exact ⟨h1,h2⟩
theorem at3_row1 {w:World} {f d:ByteArray} {c2 c3:Array Value} {t1 t2 t3:TypeId} {W:World} (H:At3 w t1 t2 t3 #[.string f,.string d] c2 c3 W) :
  Below W.heap.size W (W.alloc (.cells #[.string f,.string d] 63))∧LRow (W.alloc (.cells #[.string f,.string d] 63)) (.slice (some ⟨W.heap.size,0,none⟩) 1 1) [(f,d)]∧Res (W.alloc (.cells #[.string f,.string d] 63)) :=
 ⟨below_alloc (Below.refl _ _) _,LRow.one (Blk.new W _ _),H.res.below (below_alloc (Below.refl _ _) _)⟩
theorem firstL_one (f d:ByteArray):firstL [(f,d)]=errL f d:=by
 unfold firstL firstL
 split<;>rename_i h
 ·rfl
 ·simpa using (Classical.not_not.1 h).symm
def groupR (f d:ByteArray) (k:Int):Except Nat LQ:=if errL f d≠0 then .error (errL f d) else if k < 0∨k > 50 then .error 2 else groupL (valL (f,d)) k.toNat
theorem powsum_fits {F:Rat}:∀ {k:Nat} {p s:Rat},powsum F k=.ok (p,s)→fits p=true∧fits s=true
 | 0,p,s,h=>by
  unfold powsum at h
  cases h
  exact ⟨fits_one,fits_zero⟩
 | k+1,p,s,h=>by
  unfold powsum at h
  split at h
  ·cases h
  ·rename_i ps hps
   cases h1:fits (ps.2+ps.1)
   ·rw [ovr_no h1] at h;cases h
   ·rw [ovr_ok h1] at h
    cases h2:fits (ps.1*F)
    ·rw [ovr_no h2] at h;cases h
    ·rw [ovr_ok h2] at h
     cases h
     exact ⟨h2,h1⟩
theorem powsum_no {F:Rat} {n:Nat}:∀ {k j:Nat},k≤j→powsum F k=.error n→powsum F j=.error n
 | k,j,hk,h=>by
  obtain ⟨i,rfl⟩:=Nat.exists_eq_add_of_le hk
  induction i with
  | zero=>exact h
  | succ i ih =>
   have:=ih (Nat.le_add_right _ _)
   show powsum F (k+i+1)=_
   unfold powsum
   rw [this]
theorem powsum_no1 {F p s:Rat} {k:Nat} (h:powsum F k=.ok (p,s)) (hf:fits (s+p)=false):powsum F (k+1)=.error 5:=by
 unfold powsum
 rw [h]
 dsimp only
 rw [ovr_no hf]
theorem powsum_no2 {F p s:Rat} {k:Nat} (h:powsum F k=.ok (p,s)) (hf:fits (s+p)=true) (hg:fits (p*F)=false):powsum F (k+1)=.error 5:=by
 unfold powsum
 rw [h]
 dsimp only
 rw [ovr_ok hf]
 dsimp only
 rw [ovr_no hg]
theorem powsum_ok {F p s:Rat} {k:Nat} (h:powsum F k=.ok (p,s)) (hf:fits (s+p)=true) (hg:fits (p*F)=true):powsum F (k+1)=.ok (p*F,s+p):=by
 unfold powsum
 rw [h]
 dsimp only
 rw [ovr_ok hf]
 dsimp only
 rw [ovr_ok hg]
theorem group_no {l:LQ} {k n:Nat} (h:powsum l.1 k=.error n):groupL l k=.error n:=by
 unfold groupL;rw [h]
theorem group_err (f d:ByteArray) (k:Int) (w:World) (h1:f.size≤270000) (h2:d.size≤270000) (hr:Res w) (hL:errL f d≠0) :
  Calls Tryz.prog 71 #[.agg #[.string f,.string d],.int .i64 k] w fun e w'=>e=.returned (resL (.error (errL f d)))∧Below w.heap.size w w':=by
 have H0:=At3.new w 63 63 32 #[.string f,.string d] #[.string ⟨#[]⟩,.string ⟨#[]⟩] #[.int .i64 0] hr
 obtain ⟨a1,a2,a3⟩:=at3_row1 H0
 rw [show (((w.alloc (.cells #[.string f,.string d] 63)).alloc (.cells #[.string ⟨#[]⟩,.string ⟨#[]⟩] 63)).alloc (.cells #[.int .i64 0] 32)).heap.size=w.heap.size+1+1+1 by simp] at a2
 have HV:=Lib.hid (valid_run _ _ _ a2 (short_one h1 h2) a3)
 rw [firstL_one] at HV
 have H1:=Lib.hid (H0.later a1)
 rw [endV_no hL] at HV
 generalize errL f d=n at HV
 clear H0 a1 a2 a3 h1 h2 hr hL
 go_enter_defers Tryz.func71,Tryz.ntmps71
 go_wp2_with (go_at_call 164;refine HV.out.mono ?_;rintro e w1 ⟨rfl,hb⟩;have H2:=Lib.hid (H1.out.later hb);clear hb)
 refine door_pan (v:=resL (.error n)) H2.out.c ?_
 intro W hB hk hbel
 exact ⟨run_cell_errno rfl rfl (load_loss (hk _ _ _ (by omega) H2.out.b)) rfl hB,rfl,hbel _ _ (le2 _) H2.out.below⟩
theorem group_low (f d:ByteArray) (k:Int) (w:World) (h1:f.size≤270000) (h2:d.size≤270000) (hr:Res w) (hL:errL f d=0) (hk:k < 0) :
  Calls Tryz.prog 71 #[.agg #[.string f,.string d],.int .i64 k] w fun e w'=>e=.returned (resL (.error 2))∧Below w.heap.size w w':=by
 have H0:=At3.new w 63 63 32 #[.string f,.string d] #[.string ⟨#[]⟩,.string ⟨#[]⟩] #[.int .i64 0] hr
 obtain ⟨a1,a2,a3⟩:=at3_row1 H0
 rw [show (((w.alloc (.cells #[.string f,.string d] 63)).alloc (.cells #[.string ⟨#[]⟩,.string ⟨#[]⟩] 63)).alloc (.cells #[.int .i64 0] 32)).heap.size=w.heap.size+1+1+1 by simp] at a2
 have HV:=Lib.hid (valid_run _ _ _ a2 (short_one h1 h2) a3)
 rw [firstL_one] at HV
 have H1:=Lib.hid (H0.later a1)
 rw [hL] at HV
 have g1:decide (k < 0)=true:=decide_eq_true hk
 clear H0 a1 a2 a3 h1 h2 hr hL hk
 go_enter_defers Tryz.func71,Tryz.ntmps71
 go_wp2_with (go_at_call 164;refine HV.out.mono ?_;rintro e w1 ⟨rfl,hb⟩;rw [endV_ok];have H2:=Lib.hid (H1.out.later hb);obtain ⟨q0,q1⟩:=cells2 H2.out.b;have y0:=H2.out.b.frozen 0;have y1:=H2.out.b.frozen 1;have ce:=cell0 H2.out.c;have ze:=H2.out.c.frozen 0;obtain ⟨p0,p1⟩:=cells2 H2.out.a;clear hb)
 refine door_ret (v:=resL (.error 2)) (run_cell_errno rfl rfl (load_loss (H2.out.b.two_set.far (p:=⟨w.heap.size+1+1,0,none⟩) (by show w.heap.size+1≠w.heap.size+1+1;omega) (.int .i64 2))) rfl ((H2.out.c.two_far (by omega)).set_ 0 (.int .i64 2))) ⟨rfl,?_⟩
 exact ((H2.out.below.setCell (Nat.le_succ _) _).setCell (Nat.le_succ _) _).setCell (le2 _) _
theorem group_high (f d:ByteArray) (k:Int) (w:World) (h1:f.size≤270000) (h2:d.size≤270000) (hr:Res w) (hL:errL f d=0) (hk:50 < k) :
  Calls Tryz.prog 71 #[.agg #[.string f,.string d],.int .i64 k] w fun e w'=>e=.returned (resL (.error 2))∧Below w.heap.size w w':=by
 have H0:=At3.new w 63 63 32 #[.string f,.string d] #[.string ⟨#[]⟩,.string ⟨#[]⟩] #[.int .i64 0] hr
 obtain ⟨a1,a2,a3⟩:=at3_row1 H0
 rw [show (((w.alloc (.cells #[.string f,.string d] 63)).alloc (.cells #[.string ⟨#[]⟩,.string ⟨#[]⟩] 63)).alloc (.cells #[.int .i64 0] 32)).heap.size=w.heap.size+1+1+1 by simp] at a2
 have HV:=Lib.hid (valid_run _ _ _ a2 (short_one h1 h2) a3)
 rw [firstL_one] at HV
 have H1:=Lib.hid (H0.later a1)
 rw [hL] at HV
 have g1:decide (k < 0)=false:=decide_eq_false (by omega)
 have g2:decide (50 < k)=true:=decide_eq_true hk
 clear H0 a1 a2 a3 h1 h2 hr hL hk
 go_enter_defers Tryz.func71,Tryz.ntmps71
 go_wp2_with (go_at_call 164;refine HV.out.mono ?_;rintro e w1 ⟨rfl,hb⟩;rw [endV_ok];have H2:=Lib.hid (H1.out.later hb);obtain ⟨q0,q1⟩:=cells2 H2.out.b;have y0:=H2.out.b.frozen 0;have y1:=H2.out.b.frozen 1;have ce:=cell0 H2.out.c;have ze:=H2.out.c.frozen 0;obtain ⟨p0,p1⟩:=cells2 H2.out.a;clear hb)
 refine door_ret (v:=resL (.error 2)) (run_cell_errno rfl rfl (load_loss (H2.out.b.two_set.far (p:=⟨w.heap.size+1+1,0,none⟩) (by show w.heap.size+1≠w.heap.size+1+1;omega) (.int .i64 2))) rfl ((H2.out.c.two_far (by omega)).set_ 0 (.int .i64 2))) ⟨rfl,?_⟩
 exact ((H2.out.below.setCell (Nat.le_succ _) _).setCell (Nat.le_succ _) _).setCell (le2 _) _
theorem group_run (f d:ByteArray) (K:Nat) (w:World) (h1:f.size≤270000) (h2:d.size≤270000) (hr:Res w) (l:LQ) (hl:LossIs f d l) (hK:K≤50) :
  Calls Tryz.prog 71 #[.agg #[.string f,.string d],.int .i64 (K:Int)] w fun e w'=>e=.returned (resL (groupL l K))∧Below w.heap.size w w':=by
 have H0:=At3.new w 63 63 32 #[.string f,.string d] #[.string ⟨#[]⟩,.string ⟨#[]⟩] #[.int .i64 0] hr
 obtain ⟨a1,a2,a3⟩:=at3_row1 H0
 rw [show (((w.alloc (.cells #[.string f,.string d] 63)).alloc (.cells #[.string ⟨#[]⟩,.string ⟨#[]⟩] 63)).alloc (.cells #[.int .i64 0] 32)).heap.size=w.heap.size+1+1+1 by simp] at a2
 have HV:=Lib.hid (valid_run _ _ _ a2 (short_one h1 h2) a3)
 rw [firstL_one] at HV
 have H1:=Lib.hid (H0.later a1)
 rw [hl.err] at HV
 have HLI:=Lib.hid hl
 clear H0 a1 a2 a3 h1 h2 hl
 have HR0:=Lib.hid hr
 clear hr
 have g1:decide ((K:Int) < 0)=false:=decide_eq_false (by omega)
 have g2:decide (50 < (K:Int))=false:=decide_eq_false (by omega)
 go_enter_defers Tryz.func71,Tryz.ntmps71
 go_wp2_with (go_at_call 164;refine HV.out.mono ?_;rintro e w1 ⟨rfl,hb⟩;rw [endV_ok];have H2:=Lib.hid (H1.out.later hb);obtain ⟨q0,q1⟩:=cells2 H2.out.b;have y0:=H2.out.b.frozen 0;have y1:=H2.out.b.frozen 1;have ce:=cell0 H2.out.c;have ze:=H2.out.c.frozen 0;obtain ⟨p0,p1⟩:=cells2 H2.out.a;clear hb)
 clear p0 p1 q0 q1 y0 y1 ce ze HV H1
 go_loopw [6,7,19] (fun v6 v7 v19 wr=>∃ (j:Nat) (p s:Rat),j≤K∧v19=.int .i64 (j:Int)∧v6=.string (rT p)∧v7=.string (rT s)∧Hid (powsum l.1 j=.ok (p,s))∧Hid (At3 w 63 63 32 #[.string f,.string d] #[.string ⟨#[]⟩,.string ⟨#[]⟩] #[.int .i64 0] wr)) (fun _ _ v19 _=>K - (intOf v19).toNat)
 case atStart=>exact ⟨0,1,0,Nat.zero_le _,rfl,by rw [← IsT.one.text],by rw [← IsT.zero.text],Lib.hid rfl,H2⟩
 case round =>
  obtain ⟨j,p,s,hj,rfl,rfl,rfl,HP,H⟩:=hrel
  clear H2 g1 g2
  obtain ⟨hfp,hfs⟩:=powsum_fits HP.out
  obtain ⟨p0,p1⟩:=cells2 H.out.a
  by_cases hlt:j < K
  ·have hlt':(j:Int) < (K:Int):=by omega
   have HLT:=Lib.hid hlt
   have TK1:True:=trivial
   cases h1:fits (s+p) with
   | false =>
    have HA:=Lib.hid (fun w hr=>addO w (isT_rT hfs) (isT_rT hfp) h1 hr)
    have HN:=Lib.hid (group_no (powsum_no (show j+1≤K by omega) (powsum_no1 HP.out h1)))
    generalize rT p=tp at *
    generalize rT s=ts at *
    clear hfp hfs h1 hlt hK
    go_wp2_with (first
     | (go_at_call 107;refine (HA.out _ H.out.res).mono ?_;rintro e w3 ⟨rfl,hb⟩;have H3:=Lib.hid (H.out.later hb);clear hb)
     | (go_at_call 165;refine (mustN_no _ 5 _ five).mono ?_;rintro e w4 ⟨rfl,hw⟩;subst hw))
    refine door_pan (v:=resL (.error 5)) H3.out.c ?_
    intro W hB hk hbel
    exact ⟨run_cell_errno rfl rfl (load_loss (hk _ _ _ (by omega) H3.out.b)) rfl hB,by rw [HN.out],hbel _ _ (le2 _) H3.out.below⟩
   | true =>
    have HA:=Lib.hid (fun w hr=>addT w (isT_rT hfs) (isT_rT hfp) (isT_rT h1) hr)
    cases h2:fits (p*l.1) with
    | false =>
     have HM:=Lib.hid (fun w hr=>mulO w (isT_rT hfp) HLI.out.f h2 hr)
     have HN:=Lib.hid (group_no (powsum_no (show j+1≤K by omega) (powsum_no2 HP.out h1 h2)))
     generalize rT p=tp at *
     generalize rT s=ts at *
     generalize rT (s+p)=tsp at *
     clear hfp hfs h1 h2 hlt hK
     go_wp2_with (first
      | (go_at_call 107;refine (HA.out _ H.out.res).mono ?_;rintro e w3 ⟨rfl,hb⟩;have H3:=Lib.hid (H.out.later hb);obtain ⟨p0',p1'⟩:=cells2 H3.out.a;clear hb)
      | (clear TK1;go_at_call 165;refine (mustN_ok _ _).mono ?_;rintro e w4 ⟨rfl,hw⟩;subst hw)
      | (go_at_call 130;refine (HM.out _ H3.out.res).mono ?_;rintro e w5 ⟨rfl,hb⟩;have H5:=Lib.hid (H3.out.later hb);clear hb)
      | (go_at_call 165;refine (mustN_no _ 5 _ five).mono ?_;rintro e w6 ⟨rfl,hw⟩;subst hw))
     refine door_pan (v:=resL (.error 5)) H5.out.c ?_
     intro W hB hk hbel
     exact ⟨run_cell_errno rfl rfl (load_loss (hk _ _ _ (by omega) H5.out.b)) rfl hB,by rw [HN.out],hbel _ _ (le2 _) H5.out.below⟩
    | true =>
     have HM:=Lib.hid (fun w hr=>mulT w (isT_rT hfp) HLI.out.f (isT_rT h2) hr)
     have HN:=Lib.hid (powsum_ok HP.out h1 h2)
     obtain ⟨tp,htp⟩:∃ y,y=rT p:=⟨_,rfl⟩
     obtain ⟨ts,hts⟩:∃ y,y=rT s:=⟨_,rfl⟩
     obtain ⟨tsp,htsp⟩:∃ y,y=rT (s+p):=⟨_,rfl⟩
     obtain ⟨tpf,htpf⟩:∃ y,y=rT (p*l.1):=⟨_,rfl⟩
     rw [← htp,← hts,← htsp] at HA
     rw [← htp,← htpf] at HM
     rw [← htp,← hts]
     have HT:=Lib.hid (And.intro htsp htpf)
     clear hfp hfs h1 h2 hlt htp hts htsp htpf
     go_wp2_with (first
      | (go_at_call 107;refine (HA.out _ H.out.res).mono ?_;rintro e w3 ⟨rfl,hb⟩;have H3:=Lib.hid (H.out.later hb);obtain ⟨p0',p1'⟩:=cells2 H3.out.a;clear hb)
      | (clear TK1;go_at_call 165;refine (mustN_ok _ _).mono ?_;rintro e w4 ⟨rfl,hw⟩;subst hw)
      | (go_at_call 130;refine (HM.out _ H3.out.res).mono ?_;rintro e w5 ⟨rfl,hb⟩;have H5:=Lib.hid (H3.out.later hb);clear hb)
      | (go_at_call 165;refine (mustN_ok _ _).mono ?_;rintro e w6 ⟨rfl,hw⟩;subst hw))
     go_roundw
     case rel=>exact ⟨j+1,p*l.1,s+p,HLT.out,by go_num,by rw [HT.out.2],by rw [HT.out.1],HN,H5⟩
     case measure=>have:=HLT.out;simp [intOf];omega
  ·have hlt':¬ (j:Int) < (K:Int):=by omega
   obtain rfl:j=K:=by omega
   obtain ⟨q0,q1⟩:=cells2 H.out.b
   cases h1:fits (l.2*s) with
   | false =>
    have HM:=Lib.hid (fun w hr=>mulO w HLI.out.d (isT_rT hfs) h1 hr)
    have HN:=Lib.hid (show groupL l j=.error 5 by unfold groupL;rw [HP.out];dsimp only;rw [ovr_no h1])
    generalize rT p=tp at *
    generalize rT s=ts at *
    clear hfp hfs h1 hlt hK
    go_wp2_with (first
     | (go_at_call 130;refine (HM.out _ H.out.res).mono ?_;rintro e w3 ⟨rfl,hb⟩;have H3:=Lib.hid (H.out.later hb);clear hb)
     | (go_at_call 165;refine (mustN_no _ 5 _ five).mono ?_;rintro e w4 ⟨rfl,hw⟩;subst hw))
    refine door_pan (v:=resL (.error 5)) H3.out.c ?_
    intro W hB hk hbel
    exact ⟨run_cell_errno rfl rfl (load_loss (hk _ _ _ (by omega) H3.out.b)) rfl hB,by rw [HN.out],hbel _ _ (le2 _) H3.out.below⟩
   | true =>
    have HM:=Lib.hid (fun w hr=>mulT w HLI.out.d (isT_rT hfs) (isT_rT h1) hr)
    have HLim:=Lib.hid (fun (w:World) hr=>limited_any (f:=rT p) w (isT_rT h1) hr)
    have HN:=Lib.hid (show groupL l j=.ok (p,minQ (l.2*s) 1) by unfold groupL;rw [HP.out];dsimp only;rw [ovr_ok h1])
    obtain ⟨tp,htp⟩:∃ y,y=rT p:=⟨_,rfl⟩
    obtain ⟨ts,hts⟩:∃ y,y=rT s:=⟨_,rfl⟩
    obtain ⟨tm,htm⟩:∃ y,y=rT (l.2*s):=⟨_,rfl⟩
    obtain ⟨tl,htl⟩:∃ y,y=rT (minQ (l.2*s) 1):=⟨_,rfl⟩
    rw [← hts,← htm] at HM
    rw [← htp,← htm,← htl] at HLim
    rw [← htp,← hts]
    have HT:=Lib.hid (And.intro htp htl)
    have TK1:True:=trivial
    have hfd:=field_bound
    clear hfp hfs h1 hlt hK htp hts htm htl
    go_wp2_with (first
     | (go_at_call 130;refine (HM.out _ H.out.res).mono ?_;rintro e w3 ⟨rfl,hb⟩;have H3:=Lib.hid (H.out.later hb);clear hb)
     | (go_at_call 165;refine (mustN_ok _ _).mono ?_;rintro e w4 ⟨rfl,hw⟩;subst hw)
     | (go_at_call 166;refine (HLim.out _ H3.out.res).mono ?_;rintro e w5 ⟨rfl,hb⟩;have H5:=Lib.hid (H3.out.later hb);obtain ⟨r0,r1⟩:=cells2 H5.out.b;have y0:=H5.out.b.frozen 0;have y1:=H5.out.b.frozen 1;have ce:=cell0 H5.out.c;have ze:=H5.out.c.frozen 0;clear hb))
    have hb2:=(H5.out.b.two_set (x:=.string tp) (y:=.string tl)).far (p:=⟨w.heap.size+1+1,0,none⟩) (by show w.heap.size+1≠w.heap.size+1+1;omega) (.int .i64 0)
    have hc2:=(H5.out.c.two_far (b:=w.heap.size+1) (x:=.string tp) (y:=.string tl) (by omega)).set_ 0 (.int .i64 0)
    refine door_ret (v:=.tuple #[.agg #[.string tp,.string tl],.int .i64 0]) (run_cell_errno rfl rfl (load_loss hb2) rfl hc2) ⟨?_,?_⟩
    ·rw [HN.out,HT.out.1,HT.out.2];rfl
    ·exact ((H5.out.below.setCell (Nat.le_succ _) _).setCell (Nat.le_succ _) _).setCell (le2 _) _
theorem lossGroup_any (f d:ByteArray) (k:Int) (w:World) (h1:f.size≤270000) (h2:d.size≤270000) (hr:Res w) :
  Calls Tryz.prog 71 #[.agg #[.string f,.string d],.int .i64 k] w fun e w'=>e=.returned (resL (groupR f d k))∧Below w.heap.size w w':=by
 unfold groupR
 by_cases hL:errL f d=0
 ·rw [if_neg (by omega)]
  by_cases hk:k < 0
  ·rw [if_pos (.inl hk)];exact group_low f d k w h1 h2 hr hL hk
  by_cases hk2:k > 50
  ·rw [if_pos (.inr hk2)];exact group_high f d k w h1 h2 hr hL hk2
  rw [if_neg (by omega)]
  have:=group_run f d k.toNat w h1 h2 hr _ (errL_zero hL) (by omega)
  rwa [Int.toNat_of_nonneg (by omega)] at this
 ·rw [if_pos hL]
  exact group_err f d k w h1 h2 hr hL
theorem deltaX_ne {p q:List L2} {f:ByteArray} {n:Nat} (h:deltaX p q f=.error n):n≠0:=by
 unfold deltaX at h
 split at h
 ·cases h;assumption
 ·split at h
  ·cases h;assumption
  ·exact foldX_ne (fun _ _ h=>partX_ne h) h
theorem foldX_okE {α:Type} {g:α→XE}:∀ {l:List α} {s t:ByteArray},errQ s.data.toList=0→foldX g s l=.ok t→errQ t.data.toList=0
 | [],s,t,hs,h=>by cases h;exact hs
 | x::l,s,t,hs,h=>by
  unfold foldX at h
  split at h
  ·cases h
  ·split at h
   ·cases h
   ·rename_i u hu
    exact foldX_okE (plX_ok hu) h
theorem deltaX_okE {p q:List L2} {f t:ByteArray} (h:deltaX p q f=.ok t):errQ t.data.toList=0:=by
 unfold deltaX at h
 split at h
 ·cases h
 ·split at h
  ·cases h
  ·exact foldX_okE err_zT h
def holdsR (f d:ByteArray) (p q:List L2):Except Nat Bool:=if errL f d≠0 then .error (errL f d) else match deltaX p q f with
 | .error n=>.error n
 | .ok x=>match deltaX q p f with
  | .error n=>.error n
  | .ok y=>.ok (decide (cmpQ (valQ x.data.toList) (valQ d.data.toList)≤0)&&decide (cmpQ (valQ y.data.toList) (valQ d.data.toList)≤0))
theorem at2_row1 {w:World} {f d:ByteArray} {c2:Array Value} {t1 t2:TypeId} {W:World} (H:At2 w t1 t2 #[.string f,.string d] c2 W) :
  Below W.heap.size W (W.alloc (.cells #[.string f,.string d] 63))∧LRow (W.alloc (.cells #[.string f,.string d] 63)) (.slice (some ⟨W.heap.size,0,none⟩) 1 1) [(f,d)]∧Res (W.alloc (.cells #[.string f,.string d] 63)) :=
 ⟨below_alloc (Below.refl _ _) _,LRow.one (Blk.new W _ _),H.res.below (below_alloc (Below.refl _ _) _)⟩
theorem holds_no (f d:ByteArray) (p q:List L2) (vp vq:Value) (w:World) (hp:LRow w vp p) (hq:LRow w vq q) (_sp:Short p) (_sq:Short q) (h1:f.size≤270000) (h2:d.size≤270000) (hr:Res w) (hL:errL f d≠0) :
  Calls Tryz.prog 86 #[.agg #[.string f,.string d],vp,vq] w fun e w'=>e=.returned (.tuple #[.bool false,.int .i64 (errL f d:Int)])∧Below w.heap.size w w':=by
 have H0:=At2.new w 63 32 #[.string f,.string d] #[.int .i64 0] hr
 obtain ⟨a1,a2,a3⟩:=at2_row1 H0
 rw [show ((w.alloc (.cells #[.string f,.string d] 63)).alloc (.cells #[.int .i64 0] 32)).heap.size=w.heap.size+1+1 by simp] at a2
 have HV:=Lib.hid (valid_run _ _ _ a2 (short_one h1 h2) a3)
 rw [firstL_one] at HV
 have H1:=Lib.hid (H0.later a1)
 obtain ⟨A,ca,rfl,_,_⟩:=id hp
 obtain ⟨B,cb,rfl,_,_⟩:=id hq
 rw [endV_no hL] at HV
 generalize errL f d=n at HV
 clear H0 a1 a2 a3 h1 h2 hr hL hp hq
 go_enter_defers Tryz.func86,Tryz.ntmps86
 go_wp2_with (go_at_call 164;refine HV.out.mono ?_;rintro e w1 ⟨rfl,hb⟩;have H2:=Lib.hid (H1.out.later hb);clear hb)
 refine door_pan (v:=.tuple #[.bool false,.int .i64 (n:Int)]) H2.out.b ?_
 intro W hB hk hbel
 exact ⟨run_tmp_errno rfl rfl rfl hB,rfl,hbel _ _ (Nat.le_succ _) H2.out.below⟩
theorem holds_x (f d:ByteArray) (p q:List L2) (vp vq:Value) (w:World) (hp:LRow w vp p) (hq:LRow w vq q) (sp:Short p) (sq:Short q) (h1:f.size≤270000) (h2:d.size≤270000) (hr:Res w) {n:Nat} (hL:errL f d=0) (hx:deltaX p q f=.error n) :
  Calls Tryz.prog 86 #[.agg #[.string f,.string d],vp,vq] w fun e w'=>e=.returned (.tuple #[.bool false,.int .i64 (n:Int)])∧Below w.heap.size w w':=by
 have H0:=At2.new w 63 32 #[.string f,.string d] #[.int .i64 0] hr
 obtain ⟨a1,a2,a3⟩:=at2_row1 H0
 rw [show ((w.alloc (.cells #[.string f,.string d] 63)).alloc (.cells #[.int .i64 0] 32)).heap.size=w.heap.size+1+1 by simp] at a2
 have HV:=Lib.hid (valid_run _ _ _ a2 (short_one h1 h2) a3)
 rw [firstL_one] at HV
 have H1:=Lib.hid (H0.later a1)
 obtain ⟨A,ca,rfl,_,_⟩:=id hp
 obtain ⟨B,cb,rfl,_,_⟩:=id hq
 rw [hL] at HV
 have HP:=Lib.hid (fun W (hb:Below w.heap.size w W) (hr:Res W)=>ddelta_any p q _ _ f W (hp.below hb) (hq.below hb) sp sq h1 hr)
 rw [hx] at HP
 change Hid (∀ W (_:Below w.heap.size w W) (_:Res W),Calls _ _ _ _ fun e w'=>e=.returned (.tuple #[.string ⟨#[]⟩,.int .i64 (n:Int)])∧_) at HP
 have HN:=Lib.hid (deltaX_ne hx)
 clear H0 a1 a2 a3 h1 h2 hr hL hp hq sp sq hx
 have TK0:True:=trivial
 have TK1:True:=trivial
 have TK2:True:=trivial
 have TK3:True:=trivial
 have TK4:True:=trivial
 have TK5:True:=trivial
 go_enter_defers Tryz.func86,Tryz.ntmps86
 go_wp2_with (clear TK0;go_at_call 164;refine HV.out.mono ?_;rintro e w1 ⟨rfl,hb⟩;rw [endV_ok];have H2:=Lib.hid (H1.out.later hb);obtain ⟨p2,q2⟩:=cells2 H2.out.a;have ce2:=cell0 H2.out.b;have ze2:=H2.out.b.frozen 0;clear hb)
 go_wp2_with (clear TK1;go_at_call 45;refine (HP.out _ H2.out.below H2.out.res).mono ?_;rintro e w2 ⟨rfl,hb⟩;have H3:=Lib.hid (H2.out.later hb);obtain ⟨p3,q3⟩:=cells2 H3.out.a;have ce3:=cell0 H3.out.b;have ze3:=H3.out.b.frozen 0;clear hb)
 go_wp2_with (clear TK2;go_at_call 165;refine (mustN_no _ _ _ HN.out).mono ?_;rintro e w9 ⟨rfl,hw⟩;subst hw)
 refine door_pan (v:=.tuple #[.bool false,.int .i64 (n:Int)]) H3.out.b ?_
 intro W hB hk hbel
 exact ⟨run_tmp_errno rfl rfl rfl hB,rfl,hbel _ _ (Nat.le_succ _) H3.out.below⟩
theorem holds_y (f d:ByteArray) (p q:List L2) (vp vq:Value) (w:World) (hp:LRow w vp p) (hq:LRow w vq q) (sp:Short p) (sq:Short q) (h1:f.size≤270000) (h2:d.size≤270000) (hr:Res w) {n:Nat} {x:ByteArray} (hL:errL f d=0) (hx:deltaX p q f=.ok x) (hy:deltaX q p f=.error n) :
  Calls Tryz.prog 86 #[.agg #[.string f,.string d],vp,vq] w fun e w'=>e=.returned (.tuple #[.bool false,.int .i64 (n:Int)])∧Below w.heap.size w w':=by
 have H0:=At2.new w 63 32 #[.string f,.string d] #[.int .i64 0] hr
 obtain ⟨a1,a2,a3⟩:=at2_row1 H0
 rw [show ((w.alloc (.cells #[.string f,.string d] 63)).alloc (.cells #[.int .i64 0] 32)).heap.size=w.heap.size+1+1 by simp] at a2
 have HV:=Lib.hid (valid_run _ _ _ a2 (short_one h1 h2) a3)
 rw [firstL_one] at HV
 have H1:=Lib.hid (H0.later a1)
 obtain ⟨A,ca,rfl,_,_⟩:=id hp
 obtain ⟨B,cb,rfl,_,_⟩:=id hq
 rw [hL] at HV
 have HP:=Lib.hid (fun W (hb:Below w.heap.size w W) (hr:Res W)=>ddelta_any p q _ _ f W (hp.below hb) (hq.below hb) sp sq h1 hr)
 rw [hx] at HP
 change Hid (∀ W (_:Below w.heap.size w W) (_:Res W),Calls _ _ _ _ fun e w'=>e=.returned (.tuple #[.string x,.int .i64 0])∧_) at HP
 have HQ:=Lib.hid (fun W (hb:Below w.heap.size w W) (hr:Res W)=>ddelta_any q p _ _ f W (hq.below hb) (hp.below hb) sq sp h1 hr)
 rw [hy] at HQ
 change Hid (∀ W (_:Below w.heap.size w W) (_:Res W),Calls _ _ _ _ fun e w'=>e=.returned (.tuple #[.string ⟨#[]⟩,.int .i64 (n:Int)])∧_) at HQ
 have HN:=Lib.hid (deltaX_ne hy)
 clear H0 a1 a2 a3 h1 h2 hr hL hp hq sp sq hx hy
 have TK0:True:=trivial
 have TK1:True:=trivial
 have TK2:True:=trivial
 have TK3:True:=trivial
 have TK4:True:=trivial
 have TK5:True:=trivial
 go_enter_defers Tryz.func86,Tryz.ntmps86
 go_wp2_with (clear TK0;go_at_call 164;refine HV.out.mono ?_;rintro e w1 ⟨rfl,hb⟩;rw [endV_ok];have H2:=Lib.hid (H1.out.later hb);obtain ⟨p2,q2⟩:=cells2 H2.out.a;have ce2:=cell0 H2.out.b;have ze2:=H2.out.b.frozen 0;clear hb)
 go_wp2_with (clear TK1;go_at_call 45;refine (HP.out _ H2.out.below H2.out.res).mono ?_;rintro e w2 ⟨rfl,hb⟩;have H3:=Lib.hid (H2.out.later hb);obtain ⟨p3,q3⟩:=cells2 H3.out.a;have ce3:=cell0 H3.out.b;have ze3:=H3.out.b.frozen 0;clear hb)
 go_wp2_with (clear TK2;go_at_call 165;refine (mustN_ok _ _).mono ?_;rintro e w9 ⟨rfl,hw⟩;subst hw)
 go_wp2_with (clear TK3;go_at_call 45;refine (HQ.out _ H3.out.below H3.out.res).mono ?_;rintro e w3 ⟨rfl,hb⟩;have H4:=Lib.hid (H3.out.later hb);obtain ⟨p4,q4⟩:=cells2 H4.out.a;have ce4:=cell0 H4.out.b;have ze4:=H4.out.b.frozen 0;clear hb)
 go_wp2_with (clear TK4;go_at_call 165;refine (mustN_no _ _ _ HN.out).mono ?_;rintro e w9 ⟨rfl,hw⟩;subst hw)
 refine door_pan (v:=.tuple #[.bool false,.int .i64 (n:Int)]) H4.out.b ?_
 intro W hB hk hbel
 exact ⟨run_tmp_errno rfl rfl rfl hB,rfl,hbel _ _ (Nat.le_succ _) H4.out.below⟩
theorem holds_f (f d:ByteArray) (p q:List L2) (vp vq:Value) (w:World) (hp:LRow w vp p) (hq:LRow w vq q) (sp:Short p) (sq:Short q) (h1:f.size≤270000) (h2:d.size≤270000) (hr:Res w) {x y:ByteArray} (hL:errL f d=0) (hx:deltaX p q f=.ok x) (hy:deltaX q p f=.ok y) (d1:decide (cmpQ (valQ x.data.toList) (valQ d.data.toList)≤0)=false) :
  Calls Tryz.prog 86 #[.agg #[.string f,.string d],vp,vq] w fun e w'=>e=.returned (.tuple #[.bool false,.int .i64 0])∧Below w.heap.size w w':=by
 have H0:=At2.new w 63 32 #[.string f,.string d] #[.int .i64 0] hr
 obtain ⟨a1,a2,a3⟩:=at2_row1 H0
 rw [show ((w.alloc (.cells #[.string f,.string d] 63)).alloc (.cells #[.int .i64 0] 32)).heap.size=w.heap.size+1+1 by simp] at a2
 have HV:=Lib.hid (valid_run _ _ _ a2 (short_one h1 h2) a3)
 rw [firstL_one] at HV
 have H1:=Lib.hid (H0.later a1)
 obtain ⟨A,ca,rfl,_,_⟩:=id hp
 obtain ⟨B,cb,rfl,_,_⟩:=id hq
 rw [hL] at HV
 have HP:=Lib.hid (fun W (hb:Below w.heap.size w W) (hr:Res W)=>ddelta_any p q _ _ f W (hp.below hb) (hq.below hb) sp sq h1 hr)
 rw [hx] at HP
 change Hid (∀ W (_:Below w.heap.size w W) (_:Res W),Calls _ _ _ _ fun e w'=>e=.returned (.tuple #[.string x,.int .i64 0])∧_) at HP
 have HQ:=Lib.hid (fun W (hb:Below w.heap.size w W) (hr:Res W)=>ddelta_any q p _ _ f W (hq.below hb) (hp.below hb) sq sp h1 hr)
 rw [hy] at HQ
 change Hid (∀ W (_:Below w.heap.size w W) (_:Res W),Calls _ _ _ _ fun e w'=>e=.returned (.tuple #[.string y,.int .i64 0])∧_) at HQ
 have HC1:=Lib.hid (fun w hr=>lorder_any w (IsT.of (deltaX_okE hx)) (errL_zero hL).d hr)
 dsimp only at HC1
 generalize cmpQ (valQ x.data.toList) (valQ d.data.toList)=x1 at *
 clear H0 a1 a2 a3 h1 h2 hr hL hp hq sp sq hx hy
 have TK0:True:=trivial
 have TK1:True:=trivial
 have TK2:True:=trivial
 have TK3:True:=trivial
 have TK4:True:=trivial
 have TK5:True:=trivial
 go_enter_defers Tryz.func86,Tryz.ntmps86
 go_wp2_with (clear TK0;go_at_call 164;refine HV.out.mono ?_;rintro e w1 ⟨rfl,hb⟩;rw [endV_ok];have H2:=Lib.hid (H1.out.later hb);obtain ⟨p2,q2⟩:=cells2 H2.out.a;have ce2:=cell0 H2.out.b;have ze2:=H2.out.b.frozen 0;clear hb)
 go_wp2_with (clear TK1;go_at_call 45;refine (HP.out _ H2.out.below H2.out.res).mono ?_;rintro e w2 ⟨rfl,hb⟩;have H3:=Lib.hid (H2.out.later hb);obtain ⟨p3,q3⟩:=cells2 H3.out.a;have ce3:=cell0 H3.out.b;have ze3:=H3.out.b.frozen 0;clear hb)
 go_wp2_with (clear TK2;go_at_call 165;refine (mustN_ok _ _).mono ?_;rintro e w9 ⟨rfl,hw⟩;subst hw)
 go_wp2_with (clear TK3;go_at_call 45;refine (HQ.out _ H3.out.below H3.out.res).mono ?_;rintro e w3 ⟨rfl,hb⟩;have H4:=Lib.hid (H3.out.later hb);obtain ⟨p4,q4⟩:=cells2 H4.out.a;have ce4:=cell0 H4.out.b;have ze4:=H4.out.b.frozen 0;clear hb)
 go_wp2_with (clear TK4;go_at_call 165;refine (mustN_ok _ _).mono ?_;rintro e w9 ⟨rfl,hw⟩;subst hw)
 go_wp2_with (clear TK5;go_at_call 169;refine (HC1.out _ H4.out.res).mono ?_;rintro e w4 ⟨rfl,hb⟩;have H5:=Lib.hid (H4.out.later hb);obtain ⟨p5,q5⟩:=cells2 H5.out.a;have ce5:=cell0 H5.out.b;have ze5:=H5.out.b.frozen 0;clear hb)
 refine door_ret (v:=.tuple #[.bool false,.int .i64 0]) (run_tmp_errno rfl rfl rfl (H5.out.b.set_ 0 (.int .i64 0))) ⟨rfl,H5.out.below.setCell (Nat.le_succ _) _⟩
theorem holds_tt (f d:ByteArray) (p q:List L2) (vp vq:Value) (w:World) (hp:LRow w vp p) (hq:LRow w vq q) (sp:Short p) (sq:Short q) (h1:f.size≤270000) (h2:d.size≤270000) (hr:Res w) {x y:ByteArray} (hL:errL f d=0) (hx:deltaX p q f=.ok x) (hy:deltaX q p f=.ok y) (d1:decide (cmpQ (valQ x.data.toList) (valQ d.data.toList)≤0)=true) (d2:decide (cmpQ (valQ y.data.toList) (valQ d.data.toList)≤0)=true) :
  Calls Tryz.prog 86 #[.agg #[.string f,.string d],vp,vq] w fun e w'=>e=.returned (.tuple #[.bool true,.int .i64 0])∧Below w.heap.size w w':=by
 have H0:=At2.new w 63 32 #[.string f,.string d] #[.int .i64 0] hr
 obtain ⟨a1,a2,a3⟩:=at2_row1 H0
 rw [show ((w.alloc (.cells #[.string f,.string d] 63)).alloc (.cells #[.int .i64 0] 32)).heap.size=w.heap.size+1+1 by simp] at a2
 have HV:=Lib.hid (valid_run _ _ _ a2 (short_one h1 h2) a3)
 rw [firstL_one] at HV
 have H1:=Lib.hid (H0.later a1)
 obtain ⟨A,ca,rfl,_,_⟩:=id hp
 obtain ⟨B,cb,rfl,_,_⟩:=id hq
 rw [hL] at HV
 have HP:=Lib.hid (fun W (hb:Below w.heap.size w W) (hr:Res W)=>ddelta_any p q _ _ f W (hp.below hb) (hq.below hb) sp sq h1 hr)
 rw [hx] at HP
 change Hid (∀ W (_:Below w.heap.size w W) (_:Res W),Calls _ _ _ _ fun e w'=>e=.returned (.tuple #[.string x,.int .i64 0])∧_) at HP
 have HQ:=Lib.hid (fun W (hb:Below w.heap.size w W) (hr:Res W)=>ddelta_any q p _ _ f W (hq.below hb) (hp.below hb) sq sp h1 hr)
 rw [hy] at HQ
 change Hid (∀ W (_:Below w.heap.size w W) (_:Res W),Calls _ _ _ _ fun e w'=>e=.returned (.tuple #[.string y,.int .i64 0])∧_) at HQ
 have HC1:=Lib.hid (fun w hr=>lorder_any w (IsT.of (deltaX_okE hx)) (errL_zero hL).d hr)
 have HC2:=Lib.hid (fun w hr=>lorder_any w (IsT.of (deltaX_okE hy)) (errL_zero hL).d hr)
 dsimp only at HC1
 generalize cmpQ (valQ x.data.toList) (valQ d.data.toList)=x1 at *
 dsimp only at HC2
 generalize cmpQ (valQ y.data.toList) (valQ d.data.toList)=x2 at *
 clear H0 a1 a2 a3 h1 h2 hr hL hp hq sp sq hx hy
 have TK0:True:=trivial
 have TK1:True:=trivial
 have TK2:True:=trivial
 have TK3:True:=trivial
 have TK4:True:=trivial
 have TK5:True:=trivial
 go_enter_defers Tryz.func86,Tryz.ntmps86
 go_wp2_with (clear TK0;go_at_call 164;refine HV.out.mono ?_;rintro e w1 ⟨rfl,hb⟩;rw [endV_ok];have H2:=Lib.hid (H1.out.later hb);obtain ⟨p2,q2⟩:=cells2 H2.out.a;have ce2:=cell0 H2.out.b;have ze2:=H2.out.b.frozen 0;clear hb)
 go_wp2_with (clear TK1;go_at_call 45;refine (HP.out _ H2.out.below H2.out.res).mono ?_;rintro e w2 ⟨rfl,hb⟩;have H3:=Lib.hid (H2.out.later hb);obtain ⟨p3,q3⟩:=cells2 H3.out.a;have ce3:=cell0 H3.out.b;have ze3:=H3.out.b.frozen 0;clear hb)
 go_wp2_with (clear TK2;go_at_call 165;refine (mustN_ok _ _).mono ?_;rintro e w9 ⟨rfl,hw⟩;subst hw)
 go_wp2_with (clear TK3;go_at_call 45;refine (HQ.out _ H3.out.below H3.out.res).mono ?_;rintro e w3 ⟨rfl,hb⟩;have H4:=Lib.hid (H3.out.later hb);obtain ⟨p4,q4⟩:=cells2 H4.out.a;have ce4:=cell0 H4.out.b;have ze4:=H4.out.b.frozen 0;clear hb)
 go_wp2_with (clear TK4;go_at_call 165;refine (mustN_ok _ _).mono ?_;rintro e w9 ⟨rfl,hw⟩;subst hw)
 go_wp2_with (clear TK5;go_at_call 169;refine (HC1.out _ H4.out.res).mono ?_;rintro e w4 ⟨rfl,hb⟩;have H5:=Lib.hid (H4.out.later hb);obtain ⟨p5,q5⟩:=cells2 H5.out.a;have ce5:=cell0 H5.out.b;have ze5:=H5.out.b.frozen 0;clear hb)
 go_wp2_with (go_at_call 169;refine (HC2.out _ H5.out.res).mono ?_;rintro e w5 ⟨rfl,hb⟩;have H6:=Lib.hid (H5.out.later hb);obtain ⟨p6,q6⟩:=cells2 H6.out.a;have ce6:=cell0 H6.out.b;have ze6:=H6.out.b.frozen 0;clear hb)
 refine door_ret (v:=.tuple #[.bool true,.int .i64 0]) (run_tmp_errno rfl rfl rfl (H6.out.b.set_ 0 (.int .i64 0))) ⟨rfl,H6.out.below.setCell (Nat.le_succ _) _⟩
theorem holds_tf (f d:ByteArray) (p q:List L2) (vp vq:Value) (w:World) (hp:LRow w vp p) (hq:LRow w vq q) (sp:Short p) (sq:Short q) (h1:f.size≤270000) (h2:d.size≤270000) (hr:Res w) {x y:ByteArray} (hL:errL f d=0) (hx:deltaX p q f=.ok x) (hy:deltaX q p f=.ok y) (d1:decide (cmpQ (valQ x.data.toList) (valQ d.data.toList)≤0)=true) (d2:decide (cmpQ (valQ y.data.toList) (valQ d.data.toList)≤0)=false) :
  Calls Tryz.prog 86 #[.agg #[.string f,.string d],vp,vq] w fun e w'=>e=.returned (.tuple #[.bool false,.int .i64 0])∧Below w.heap.size w w':=by
 have H0:=At2.new w 63 32 #[.string f,.string d] #[.int .i64 0] hr
 obtain ⟨a1,a2,a3⟩:=at2_row1 H0
 rw [show ((w.alloc (.cells #[.string f,.string d] 63)).alloc (.cells #[.int .i64 0] 32)).heap.size=w.heap.size+1+1 by simp] at a2
 have HV:=Lib.hid (valid_run _ _ _ a2 (short_one h1 h2) a3)
 rw [firstL_one] at HV
 have H1:=Lib.hid (H0.later a1)
 obtain ⟨A,ca,rfl,_,_⟩:=id hp
 obtain ⟨B,cb,rfl,_,_⟩:=id hq
 rw [hL] at HV
 have HP:=Lib.hid (fun W (hb:Below w.heap.size w W) (hr:Res W)=>ddelta_any p q _ _ f W (hp.below hb) (hq.below hb) sp sq h1 hr)
 rw [hx] at HP
 change Hid (∀ W (_:Below w.heap.size w W) (_:Res W),Calls _ _ _ _ fun e w'=>e=.returned (.tuple #[.string x,.int .i64 0])∧_) at HP
 have HQ:=Lib.hid (fun W (hb:Below w.heap.size w W) (hr:Res W)=>ddelta_any q p _ _ f W (hq.below hb) (hp.below hb) sq sp h1 hr)
 rw [hy] at HQ
 change Hid (∀ W (_:Below w.heap.size w W) (_:Res W),Calls _ _ _ _ fun e w'=>e=.returned (.tuple #[.string y,.int .i64 0])∧_) at HQ
 have HC1:=Lib.hid (fun w hr=>lorder_any w (IsT.of (deltaX_okE hx)) (errL_zero hL).d hr)
 have HC2:=Lib.hid (fun w hr=>lorder_any w (IsT.of (deltaX_okE hy)) (errL_zero hL).d hr)
 dsimp only at HC1
 generalize cmpQ (valQ x.data.toList) (valQ d.data.toList)=x1 at *
 dsimp only at HC2
 generalize cmpQ (valQ y.data.toList) (valQ d.data.toList)=x2 at *
 clear H0 a1 a2 a3 h1 h2 hr hL hp hq sp sq hx hy
 have TK0:True:=trivial
 have TK1:True:=trivial
 have TK2:True:=trivial
 have TK3:True:=trivial
 have TK4:True:=trivial
 have TK5:True:=trivial
 go_enter_defers Tryz.func86,Tryz.ntmps86
 go_wp2_with (clear TK0;go_at_call 164;refine HV.out.mono ?_;rintro e w1 ⟨rfl,hb⟩;rw [endV_ok];have H2:=Lib.hid (H1.out.later hb);obtain ⟨p2,q2⟩:=cells2 H2.out.a;have ce2:=cell0 H2.out.b;have ze2:=H2.out.b.frozen 0;clear hb)
 go_wp2_with (clear TK1;go_at_call 45;refine (HP.out _ H2.out.below H2.out.res).mono ?_;rintro e w2 ⟨rfl,hb⟩;have H3:=Lib.hid (H2.out.later hb);obtain ⟨p3,q3⟩:=cells2 H3.out.a;have ce3:=cell0 H3.out.b;have ze3:=H3.out.b.frozen 0;clear hb)
 go_wp2_with (clear TK2;go_at_call 165;refine (mustN_ok _ _).mono ?_;rintro e w9 ⟨rfl,hw⟩;subst hw)
 go_wp2_with (clear TK3;go_at_call 45;refine (HQ.out _ H3.out.below H3.out.res).mono ?_;rintro e w3 ⟨rfl,hb⟩;have H4:=Lib.hid (H3.out.later hb);obtain ⟨p4,q4⟩:=cells2 H4.out.a;have ce4:=cell0 H4.out.b;have ze4:=H4.out.b.frozen 0;clear hb)
 go_wp2_with (clear TK4;go_at_call 165;refine (mustN_ok _ _).mono ?_;rintro e w9 ⟨rfl,hw⟩;subst hw)
 go_wp2_with (clear TK5;go_at_call 169;refine (HC1.out _ H4.out.res).mono ?_;rintro e w4 ⟨rfl,hb⟩;have H5:=Lib.hid (H4.out.later hb);obtain ⟨p5,q5⟩:=cells2 H5.out.a;have ce5:=cell0 H5.out.b;have ze5:=H5.out.b.frozen 0;clear hb)
 go_wp2_with (go_at_call 169;refine (HC2.out _ H5.out.res).mono ?_;rintro e w5 ⟨rfl,hb⟩;have H6:=Lib.hid (H5.out.later hb);obtain ⟨p6,q6⟩:=cells2 H6.out.a;have ce6:=cell0 H6.out.b;have ze6:=H6.out.b.frozen 0;clear hb)
 refine door_ret (v:=.tuple #[.bool false,.int .i64 0]) (run_tmp_errno rfl rfl rfl (H6.out.b.set_ 0 (.int .i64 0))) ⟨rfl,H6.out.below.setCell (Nat.le_succ _) _⟩
theorem lossHolds_any (f d:ByteArray) (p q:List L2) (vp vq:Value) (w:World) (hp:LRow w vp p) (hq:LRow w vq q) (sp:Short p) (sq:Short q) (h1:f.size≤270000) (h2:d.size≤270000) (hr:Res w) :
  Calls Tryz.prog 86 #[.agg #[.string f,.string d],vp,vq] w fun e w'=>e=.returned (resB (holdsR f d p q))∧Below w.heap.size w w':=by
 unfold holdsR
 by_cases hL:errL f d=0
 ·rw [if_neg (by omega)]
  cases hx:deltaX p q f with
  | error n=>exact holds_x f d p q vp vq w hp hq sp sq h1 h2 hr hL hx
  | ok x =>
   dsimp only
   cases hy:deltaX q p f with
   | error n=>exact holds_y f d p q vp vq w hp hq sp sq h1 h2 hr hL hx hy
   | ok y =>
    dsimp only
    cases d1:decide (cmpQ (valQ x.data.toList) (valQ d.data.toList)≤0)
    ·exact holds_f f d p q vp vq w hp hq sp sq h1 h2 hr hL hx hy d1
    ·cases d2:decide (cmpQ (valQ y.data.toList) (valQ d.data.toList)≤0)
     ·exact holds_tf f d p q vp vq w hp hq sp sq h1 h2 hr hL hx hy d1 d2
     ·exact holds_tt f d p q vp vq w hp hq sp sq h1 h2 hr hL hx hy d1 d2
 ·rw [if_pos hL]
  exact holds_no f d p q vp vq w hp hq sp sq h1 h2 hr hL
abbrev CT:=Nat→ByteArray
def cvA (c:CT):Array Value:=#[.string (c 0),.string (c 1),.string (c 2),.string (c 3),.string (c 4),.string (c 5),.string (c 6),.string (c 7)]
def upd (c:CT) (k:Nat) (x:ByteArray):CT:=fun j=>if j=k then x else c j
theorem cvA_set (c:CT) {k:Nat} (hk:k < 8) (x:ByteArray):(cvA c).setIfInBounds k (.string x)=cvA (upd c k x):=by
 match k,hk with
 | 0,_=>rfl
 | 1,_=>rfl
 | 2,_=>rfl
 | 3,_=>rfl
 | 4,_=>rfl
 | 5,_=>rfl
 | 6,_=>rfl
 | 7,_=>rfl
theorem cvA_get (c:CT) {k:Nat} (hk:k < 8):(cvA c)[k]?=some (.string (c k)):=by
 match k,hk with
 | 0,_=>rfl
 | 1,_=>rfl
 | 2,_=>rfl
 | 3,_=>rfl
 | 4,_=>rfl
 | 5,_=>rfl
 | 6,_=>rfl
 | 7,_=>rfl
theorem cvA_ext {c c':CT} (h:∀ k,k < 8→c k=c' k):cvA c=cvA c':=by
 unfold cvA
 rw [h 0 (by omega),h 1 (by omega),h 2 (by omega),h 3 (by omega),h 4 (by omega),h 5 (by omega),h 6 (by omega),h 7 (by omega)]
def CBlk (W:World) (g:Nat) (c:CT):Prop:=Blk W g 59 (cvA c)
section
variable {W W':World} {g:Nat} {c:CT}
theorem CBlk.lt (h:CBlk W g c):g < W.heap.size:=Blk.lt h
theorem CBlk.cell (h:CBlk W g c) {k:Nat} (hk:k < 8):W.cell? ⟨g,k,none⟩=some (.string (c k)):=by
 rw [Blk.cell h,cvA_get c hk]
theorem CBlk.frozen (h:CBlk W g c) (i:Nat):W.frozen? ⟨g,i,none⟩=false:=Blk.frozen h i
end
end Go.Proofs.YtigapglmipmbeaaGreatDoor
namespace Go.Proofs.YtigapglmipmbeaaGreatDoor
open Go.RowKit Go.Shelf
open Lim
attribute [local go_sem] Oper.semAt_some
def olds7 (c:CT):List Value:=[.string (c 0),.string (c 1),.string (c 2),.string (c 3),.string (c 4),.string (c 5),.string (c 6)]
theorem cells_olds {W:World} {g:Nat} {c:CT} (h:CBlk W g c):∀ j u,(olds7 c)[j]?=some u→W.cell? ((⟨g,0,none⟩:Addr).add j)=some u:=by
 intro j u hj
 have hlt:j < 7:=(List.getElem?_eq_some_iff.1 hj).1
 have e:(⟨g,0,none⟩:Addr).add j=⟨g,j,none⟩:=by unfold Addr.add;split<;>simp_all
 rw [e,h.cell (by omega)]
 match j,hlt,hj with
 | 0,_,hj=>exact hj
 | 1,_,hj=>exact hj
 | 2,_,hj=>exact hj
 | 3,_,hj=>exact hj
 | 4,_,hj=>exact hj
 | 5,_,hj=>exact hj
 | 6,_,hj=>exact hj
def RowT (W:World) (g:Nat) (c:CT):Prop:=∀ k,k < 8→W.cell? ⟨g,k,none⟩=some (.string (c k))
theorem rowT_of {W:World} {base e g cap:Nat} {c:CT} (h:W.ownsRow base e 1 (.slice (some ⟨g,0,none⟩) (7+1) cap) (7+1) (olds7 c++[.string (c 7)])):RowT W g c:=by
 intro k hk
 have h2:=h.cells (g:=g) rfl k (.string (c k)) (by
  match k,hk with
  | 0,_=>rfl
  | 1,_=>rfl
  | 2,_=>rfl
  | 3,_=>rfl
  | 4,_=>rfl
  | 5,_=>rfl
  | 6,_=>rfl
  | 7,_=>rfl)
 rwa [show (⟨g,0,none⟩:Addr).add k=⟨g,k,none⟩ by unfold Addr.add;split<;>simp_all] at h2
theorem eight (c:CT) {k:Nat} (hk:k < 8):[c 0,c 1,c 2,c 3,c 4,c 5,c 6,c 7][k]?=some (c k):=by
 match k,hk with
 | 0,_=>rfl
 | 1,_=>rfl
 | 2,_=>rfl
 | 3,_=>rfl
 | 4,_=>rfl
 | 5,_=>rfl
 | 6,_=>rfl
 | 7,_=>rfl
abbrev cv (c:CT):Value:=.agg #[.string (c 0),.string (c 1),.string (c 2),.string (c 3),.string (c 4),.string (c 5),.string (c 6),.string (c 7)]
end Go.Proofs.YtigapglmipmbeaaGreatDoor
namespace Go.Proofs.YtigapglmipmbeaaGreatDoor
open Go.RowKit Go.Shelf
open Lim
def txt (m:Nat→Rat):CT:=fun i=>rT (m i)
section
variable {a b:CT} {m n:Nat→Rat} {j k:Nat}
end
end Go.Proofs.YtigapglmipmbeaaGreatDoor
namespace Go.Proofs.YtigapglmipmbeaaGreatDoor
open Go.RowKit Go.Shelf
open Lim
attribute [local go_sem] Oper.semAt_some
namespace S2
end S2
end Go.Proofs.YtigapglmipmbeaaGreatDoor
namespace Go.Proofs.YtigapglmipmbeaaGreatDoor
open Go.RowKit Go.Shelf
open Lim
end Go.Proofs.YtigapglmipmbeaaGreatDoor
