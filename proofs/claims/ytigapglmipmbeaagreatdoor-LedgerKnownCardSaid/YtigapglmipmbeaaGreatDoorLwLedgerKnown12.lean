/- The reference's Write. The reference's Write of a rational number, two, Order (printed by mkrwq.py). The reference's Add, Mul, Sub, Div (printed by mkradd.py). The reference's Order of rational numbers, Cmp, Min, Max (printed by mkrord.py). The reference's Power of natural numbers; odd. The reference's functions of one number: Neg, Abs, Inv, Sign (printed by mkrone.py). Powers that are too great. The reference's Pow of rational numbers (printed by mkrpw.py). The reference's functions of two numbers, on texts of numbers. The reference's losses (printed by mklref.py). The reference's sums and comparisons of losses (printed by mklref2.py). The reference's Group and Late (printed by mklref3.py). Texts of given numbers, by reckoning; the examples of losses in plain rationals. The examples of losses that each statement asks first. The examples of law 33: example, spent, awake (printed by mkleda.py). ledger.New's errors of the chapter's examples (printed by mklede.py). The ledger: the errors of valid, try, Reserve and Fits (printed by mkledf.py). The ledger: try of two names; try and Reserve of b; Fits and Reserve with an error (printed by mkledh.py). -/
import Derived.Test.YtigapglmipmbeaaGreatDoorLwLedgerKnown06
import Derived.Test.YtigapglmipmbeaaGreatDoorLwLedgerKnown11
import Derived.Test.YtigapglmipmbeaaGreatDoorLwLedgerKnown08
import Derived.Test.YtigapglmipmbeaaGreatDoorLwLedgerKnown07
import Derived.Laws.Bits128
import Derived.Test.YtigapglmipmbeaaGreatDoorLwLedgerKnown09
set_option maxRecDepth 100000
set_option maxHeartbeats 16000000
namespace Go.Proofs.YtigapglmipmbeaaGreatDoor
open Go.RowKit Go.Shelf
open Lim
section
variable {w:World} {g:Nat} {t:TypeId} {P S:List Value} {v:Value}
end
end Go.Proofs.YtigapglmipmbeaaGreatDoor
namespace Go.Proofs.YtigapglmipmbeaaGreatDoor
open Go.RowKit Go.Shelf
open Lim
attribute [local go_sem] Oper.semAt_some
end Go.Proofs.YtigapglmipmbeaaGreatDoor
namespace Go.Proofs.YtigapglmipmbeaaGreatDoor
open Go.RowKit Go.Shelf
open Lim
section
variable {a b c:ByteArray} {p q:Rat} (w:World)
end
theorem firstL_two (x y:L2):firstL [x,y]=if errL x.1 x.2≠0 then errL x.1 x.2 else errL y.1 y.2:=by
 unfold firstL
 congr 1
 obtain ⟨f,d⟩:=y
 exact firstL_one f d
theorem foldR_two {op:LQ→LQ→Except Nat LQ} (hop:∀ a,OkL a→op noneL a=.ok a) {x y:L2} (h:firstL [x,y]=0):foldR op [x,y]=op (valL x) (valL y):=by
 unfold foldR
 rw [if_neg (by omega)]
 have hx:=(errL_zero (firstL_zero.1 h x (by simp))).ok
 simp only [List.map_cons,List.map_nil,foldE]
 rw [show op noneL (valL x)=.ok (valL x) from hop _ hx]
 dsimp only
 cases op (valL x) (valL y)<;>rfl
def litB (m:Bool) (ln ld l:List UInt8) (q:Rat):Bool :=
 NForm ln&&NForm ld&&decide (dv ld≠0)&&decide ((dv ln).gcd (dv ld)=1)&&(!m || decide (dv ln≠0))&&decide (ln.length≤100)&&decide (ld.length≤100) &&
  decide (mkQ m (dv ln) (dv ld)=q)&&decide ((if m then [45] else [])++ln++(if dv ld=1 then [] else 47::ld)=l)
theorem isT_lit (m:Bool) (ln ld:List UInt8) {l:List UInt8} {q:Rat} (h:litB m ln ld l q=true):IsT ⟨l.toArray⟩ q∧Sz 100 q:=by
 unfold litB at h
 simp only [Bool.and_eq_true,decide_eq_true_eq,Bool.or_eq_true,Bool.not_eq_true'] at h
 obtain ⟨⟨⟨⟨⟨⟨⟨⟨h1,h2⟩,h3⟩,h4⟩,h5⟩,h6⟩,h7⟩,h8⟩,h9⟩:=h
 have e1:=NForm.eq h1
 have e2:=NForm.eq h2
 have hm:m=true→dv ln≠0:=fun hm=>by
  rcases h5 with h5|h5
  ·rw [hm] at h5;cases h5
  ·exact h5
 obtain ⟨p1,p2,p3⟩:=mkQ_low (m:=m) h3 h4
 have hs:Sz 100 q:=by
  rw [← h8,sz_iff (by decide),p1,p2,← Lib.decDigits_length,← Lib.decDigits_length,e1,e2]
  exact ⟨h6,h7⟩
 refine ⟨⟨?_,hs.mono (by decide)⟩,hs⟩
 rw [← h8,text_q h3 h4 hm,e1,e2,h9]
theorem fits_lit {q:Rat} (h:decide (nm q < 10 ^ 60∧q.den < 10 ^ 60)=true):fits q=true :=
 have h2:nm q < 10 ^ 60∧q.den < 10 ^ 60:=of_decide_eq_true h
 fits_sz.2 (Sz.mono (j:=60) h2 (by decide))
theorem t_3_2:IsT ⟨#[51,47,50]⟩ (3/2):=(isT_lit false [51] [50] (by decide +kernel)).1
theorem t_1_10:IsT ⟨#[49,47,49,48]⟩ (1/10):=(isT_lit false [49] [49,48] (by decide +kernel)).1
theorem valL_is {f d:ByteArray} {l:LQ} (h:LossIs f d l):valL (f,d)=l:=by
 unfold valL
 rw [h.f.val,h.d.val]
theorem firstL_is {f d f' d':ByteArray} {a b:LQ} (ha:LossIs f d a) (hb:LossIs f' d' b):firstL [(f,d),(f',d')]=0:=by
 rw [firstL_two];dsimp only;rw [ha.err,hb.err];rfl
theorem addX {f d f' d' x y:ByteArray} {a b:LQ} (ha:LossIs f d a) (hb:LossIs f' d' b) (hx:IsT x (a.1*b.1)) (h2:fits (a.2+b.2)=true) (hy:IsT y (minQ (a.2+b.2) 1)) :
  resL (foldR plusL [(f,d),(f',d')])=.tuple #[.agg #[.string x,.string y],.int .i64 0]:=by
 rw [foldR_two (fun a ha=>plusL_none ha) (firstL_is ha hb),valL_is ha,valL_is hb,plusL_ok hx.fits h2]
 unfold resL lossT
 dsimp only
 rw [← hx.text,← hy.text]
theorem lateX {f d u x:ByteArray} {l:LQ} {q:Rat} (hl:LossIs f d l) (hu:IsT u q) (h0:0≤q) (h1:q≤1) (f1:fits (l.1+1)=true) (f2:fits ((l.1+1)*q)=true) (f3:fits (l.2+(l.1+1)*q)=true) (hx:IsT x (minQ (l.2+(l.1+1)*q) 1)) :
  resL (lateR f d u)=.tuple #[.agg #[.string f,.string x],.int .i64 0]:=by
 unfold lateR
 rw [if_neg (by rw [hl.err];decide),if_neg (by rw [hu.err];decide),hu.val,if_neg,valL_is hl]
 ·unfold lateL
  rw [ovr_ok f1]
  dsimp only
  rw [ovr_ok f2]
  dsimp only
  rw [ovr_ok f3]
  unfold resL lossT
  dsimp only
  rw [← hx.text,← hl.f.text]
 ·rw [cmpQ_lt,cmpQ_gt]
  intro h
  rcases h with h|h<;>grind
theorem t_2:IsT ⟨#[50]⟩ 2:=(isT_lit false [50] [49] (by decide +kernel)).1
theorem exb:LossIs ⟨#[50]⟩ ⟨#[48]⟩ (2,0):=⟨t_2,IsT.zero,by decide +kernel,by decide +kernel,by decide +kernel⟩
end Go.Proofs.YtigapglmipmbeaaGreatDoor
namespace Go.Proofs.YtigapglmipmbeaaGreatDoor
open Go.RowKit Go.Shelf
open Lim
attribute [local go_sem] Oper.semAt_some wide_fn
theorem lx_1:LossIs ⟨#[49]⟩ ⟨#[48]⟩ (1,0):=⟨IsT.one,IsT.zero,by decide +kernel,by decide +kernel,by decide +kernel⟩
theorem lx_4:LossIs ⟨#[52]⟩ ⟨#[49,47,49,48]⟩ (4,1/10):=⟨(isT_lit false [52] [49] (by decide +kernel)).1,t_1_10,by decide +kernel,by decide +kernel,by decide +kernel⟩
theorem lx_3:LossIs ⟨#[51]⟩ ⟨#[49,47,50]⟩ (3,1/2):=⟨(isT_lit false [51] [49] (by decide +kernel)).1,(isT_lit false [49] [50] (by decide +kernel)).1,by decide +kernel,by decide +kernel,by decide +kernel⟩
theorem lx_late:resL (lateR ⟨#[50]⟩ ⟨#[48]⟩ ⟨#[48]⟩)=.tuple #[.agg #[.string ⟨#[50]⟩,.string ⟨#[48]⟩],.int .i64 0] :=
 lateX exb IsT.zero (by decide +kernel) (by decide +kernel) (fits_lit (by decide +kernel)) (fits_lit (by decide +kernel)) (fits_lit (by decide +kernel))
  (by rw [show minQ (((2,0):LQ).2+(((2,0):LQ).1+1)*0) 1=0 by decide +kernel];exact IsT.zero)
theorem lx_add:resL (foldR plusL [(⟨#[49]⟩,⟨#[48]⟩),(⟨#[50]⟩,⟨#[48]⟩)])=.tuple #[.agg #[.string ⟨#[50]⟩,.string ⟨#[48]⟩],.int .i64 0] :=
 addX lx_1 exb (by rw [show ((1,0):LQ).1*((2,0):LQ).1=2 by decide +kernel];exact t_2)
  (fits_lit (by decide +kernel)) (by rw [show minQ (((1,0):LQ).2+((2,0):LQ).2) 1=0 by decide +kernel];exact IsT.zero)
theorem lx_fits:resB (fitsR [(⟨#[50]⟩,⟨#[48]⟩),(⟨#[52]⟩,⟨#[49,47,49,48]⟩)] (valL (⟨#[50]⟩,⟨#[48]⟩)) (valL (⟨#[52]⟩,⟨#[49,47,49,48]⟩)))=.tuple #[.bool true,.int .i64 0]:=by
 unfold fitsR
 rw [if_neg (by rw [firstL_is exb lx_4];decide),valL_is exb,valL_is lx_4,show fitsL (2,0) (4,1/10)=true by decide +kernel]
 rfl
theorem gexample_any (w:World) (hr:Res w) :
  Calls Tryz.prog 87 #[] w fun e w'=>(∃ g,e=.returned (.pointer (some ⟨g,0,none⟩))∧w.heap.size≤g∧Led w' g (St.dir ⟨#[52]⟩ ⟨#[49,47,49,48]⟩ ⟨#[49]⟩ ⟨#[48]⟩ 0) (St.cur ⟨#[51]⟩ ⟨#[49,47,50]⟩ noneT 2 0))∧Below w.heap.size w w':=by
 have HB:=Lib.hid (below_alloc (Below.refl w.heap.size w) (.cells #[.string ⟨#[97]⟩,.string ⟨#[52]⟩,.string ⟨#[49,47,49,48]⟩,.int .i64 0,.string ⟨#[98]⟩,.string ⟨#[51]⟩,.string ⟨#[49,47,50]⟩,.int .i64 2] 104))
 have HN:=Lib.hid (gnew2 ⟨#[52]⟩ ⟨#[49,47,49,48]⟩ ⟨#[51]⟩ ⟨#[49,47,50]⟩ (by decide) (by decide) (by decide) (by decide) lx_4.err lx_3.err w.heap.size 2 _ (hr.below HB.out) (Blk.new w 104 #[.string ⟨#[97]⟩,.string ⟨#[52]⟩,.string ⟨#[49,47,49,48]⟩,.int .i64 0,.string ⟨#[98]⟩,.string ⟨#[51]⟩,.string ⟨#[49,47,50]⟩,.int .i64 2]))
 clear hr
 go_enter Tryz.func87,Tryz.ntmps87
 go_wp2_with (go_at_call 92;refine HN.out.mono ?_;rintro e w1 ⟨⟨g,rfl,hg,hl⟩,hb⟩;have HL:=Lib.hid hl;have HG:=Lib.hid (Nat.le_trans HB.out.size hg);have HC:=Lib.hid (HB.out.trans (hb.mono HB.out.size));clear hb hg hl)
 go_ret
 exact ⟨⟨g,rfl,HG.out,HL.out⟩,HC.out⟩
theorem gspentq (p:Value) (s f d:ByteArray) (w:World)
  (HS:Hid (Calls Tryz.prog 94 #[p,.string s] w fun e w'=>e=.returned (.tuple #[.agg #[.string f,.string d],.bool true])∧Below w.heap.size w w')) :
  Calls Tryz.prog 89 #[p,.string s,.string f,.string d] w fun e w'=>e=.returned (.bool true)∧Below w.heap.size w w':=by
 go_enter Tryz.func89,Tryz.ntmps89
 go_wp2_with (go_at_call 94;refine HS.out.mono ?_;rintro e w1 ⟨rfl,hb⟩;have HB:=Lib.hid hb;have K:=Blk.new w1 63 #[.string f,.string d];obtain ⟨b0,b1⟩:=cells2 K;have bl:=K.lt;clear hb K)
 go_ret
 exact ⟨rfl,below_alloc HB.out _⟩
theorem gawake_any (w:World) (hr:Res w):Calls Tryz.prog 93 #[] w fun e w'=>e=.returned (.bool true)∧Below w.heap.size w w':=by
 have HR:=Lib.hid hr
 have HE:=Lib.hid (gexample_any w hr)
 have HV:=Lib.hid (fun (W:World) (hr:Res W)=>gvalid_ok ⟨#[50]⟩ ⟨#[48]⟩ W (by decide) (by decide) t_2.err IsT.zero.err exb.err hr)
 have HLT:=Lib.hid (fun (W:World) (hr:Res W)=>lossLate_any ⟨#[50]⟩ ⟨#[48]⟩ ⟨#[48]⟩ W (by decide) (by decide) (by decide) hr (fun _ _=>by rw [valL_is exb,IsT.zero.val];exact ⟨fits_lit (by decide +kernel),fits_lit (by decide +kernel),fits_lit (by decide +kernel)⟩))
 have HAD:=Lib.hid (fun (W:World) (hr:Res W)=>lossAdd_any ⟨#[49]⟩ ⟨#[48]⟩ ⟨#[50]⟩ ⟨#[48]⟩ W (by decide) (by decide) (by decide) (by decide) hr)
 have HFT:=Lib.hid (fun (W:World) (hr:Res W)=>lossFits_any ⟨#[50]⟩ ⟨#[48]⟩ ⟨#[52]⟩ ⟨#[49,47,49,48]⟩ W (by decide) (by decide) (by decide) (by decide) hr)
 rw [lx_late] at HLT
 rw [lx_add] at HAD
 rw [lx_fits] at HFT
 have HAF:=Lib.hid (fun (W:World) (hr:Res W)=>dafter_any ⟨#[52]⟩ ⟨#[49,47,49,48]⟩ ⟨#[49]⟩ ⟨#[48]⟩ ⟨#[50]⟩ ⟨#[48]⟩ ⟨#[50]⟩ ⟨#[48]⟩ ⟨#[50]⟩ ⟨#[48]⟩ 0 true W hr (by omega) (by omega) HLT HAD HFT)
 change Hid (∀ W,Res W→Calls _ _ _ _ fun e w'=>e=.returned (.tuple #[(St.dir ⟨#[52]⟩ ⟨#[49,47,49,48]⟩ ⟨#[50]⟩ ⟨#[48]⟩ 1).val,.bool true])∧_) at HAF
 clear hr HLT HAD HFT
 have TS0:True:=trivial
 have TS1:True:=trivial
 go_enter Tryz.func93,Tryz.ntmps93
 go_wp2_with (go_at_call 87;refine HE.out.mono ?_;rintro e w1 ⟨⟨g,rfl,hg,hl⟩,hb⟩;have HL:=Lib.hid hl;have HG:=Lib.hid hg;have N1:=Lib.hid ((NW.refl HR.out).later hb);have HB1:=Lib.hid (below_alloc (Below.refl w1.heap.size w1) (.cells #[.string ⟨#[97]⟩] 9));clear hb hg hl)
 go_wp2_with (go_at_call 88;refine (gres_a g w1.heap.size 1 ⟨#[50]⟩ ⟨#[48]⟩ ⟨#[52]⟩ ⟨#[49,47,49,48]⟩ ⟨#[49]⟩ ⟨#[48]⟩ ⟨#[50]⟩ ⟨#[48]⟩ 0 1 (St.cur ⟨#[51]⟩ ⟨#[49,47,50]⟩ noneT 2 0) _ (N1.out.res.below HB1.out) (HL.out.later HB1.out) ((Blk.new w1 9 #[.string ⟨#[97]⟩]).cell 0) (Blk.new w1 9 #[.string ⟨#[97]⟩]).lt HV HAF).mono ?_;rintro e w2 ⟨rfl,hl2,hb2⟩;have HL2:=Lib.hid hl2;have hb3:=(N1.out.below.trans (HB1.out.mono N1.out.below.size)).trans (hb2.mono HG.out);have N2:=Lib.hid (show NW w w2 from ⟨hb3,HR.out.below hb3⟩);clear hb2 hb3 hl2)
 go_wp2_with (first
  | (clear TS0;go_at_call 89;refine (gspentq _ ⟨#[97]⟩ ⟨#[50]⟩ ⟨#[48]⟩ _ (Lib.hid (gspent_a g ⟨#[52]⟩ ⟨#[49,47,49,48]⟩ ⟨#[50]⟩ ⟨#[48]⟩ 1 (St.cur ⟨#[51]⟩ ⟨#[49,47,50]⟩ noneT 2 0) _ HL2.out))).mono ?_;rintro e w3 ⟨rfl,hb⟩;have HL2:=Lib.hid (HL2.out.later hb);have N2:=Lib.hid (N2.out.later hb);clear hb)
  | (clear TS1;go_at_call 89;refine (gspentq _ ⟨#[98]⟩ ⟨#[49]⟩ ⟨#[48]⟩ _ (Lib.hid (gspent_b g (St.dir ⟨#[52]⟩ ⟨#[49,47,49,48]⟩ ⟨#[50]⟩ ⟨#[48]⟩ 1) ⟨#[51]⟩ ⟨#[49,47,50]⟩ noneT 2 _ HL2.out))).mono ?_;rintro e w4 ⟨rfl,hb⟩;have HL2:=Lib.hid (HL2.out.later hb);have N2:=Lib.hid (N2.out.later hb);clear hb)
  | (go_at_call 90;refine (gcharges_a g ⟨#[52]⟩ ⟨#[49,47,49,48]⟩ ⟨#[50]⟩ ⟨#[48]⟩ 1 (St.cur ⟨#[51]⟩ ⟨#[49,47,50]⟩ noneT 2 0) _ HL2.out).mono ?_;rintro e w5 ⟨rfl,hb⟩;have N2:=Lib.hid (N2.out.later hb);clear hb))
 go_ret
 exact ⟨rfl,N2.out.below⟩
theorem has_a1:Maps.has ixD1 kA=true:=by rfl
def kE:Lit:=.string []
theorem keyE:keyOf Tryz.prog 9 (.string ⟨#[]⟩)=some kE:=WideMaps.keyOf_string_mk Tryz.underlying9 (by decide)
theorem has_e0:Maps.has (DataW.map []:DataW Unit) kE=false:=by rfl
theorem gnew_dup (lf0 ld0:ByteArray) (y0:lf0.size≤270000) (z0:ld0.size≤270000) (e0:errL lf0 ld0=0) (lf1 ld1:ByteArray) (y1:lf1.size≤270000) (z1:ld1.size≤270000) (e1:errL lf1 ld1=0) (gb c:Nat) (w:World) (hr:Res w) (hk:Blk w gb 104 #[.string ⟨#[97]⟩,.string lf0,.string ld0,.int .i64 0,.string ⟨#[97]⟩,.string lf1,.string ld1,.int .i64 0]) :
  Calls Tryz.prog 92 #[.slice (some ⟨gb,0,none⟩) 2 c] w fun e w'=>e=.returned (.tuple #[.pointer none,.int .i64 8])∧Below w.heap.size w w':=by
 have HCL:=Lib.hid (gclone_ac gb 2 c [.string ⟨#[97]⟩,.string lf0,.string ld0,.int .i64 0,.string ⟨#[97]⟩,.string lf1,.string ld1,.int .i64 0] w hk.lt rfl (by omega) (fun j u hj=>(hk.cell j).trans (by simpa using hj)) (fun u hu=>by simp only [List.mem_cons,List.not_mem_nil,or_false] at hu;rcases hu with rfl|rfl|rfl|rfl|rfl|rfl|rfl|rfl<;>rfl))
 have HC0:=Lib.hid (fun (W:World) (hr:Res W)=>lcheck_any lf0 ld0 W y0 z0 hr)
 rw [e0] at HC0
 have HC1:=Lib.hid (fun (W:World) (hr:Res W)=>lcheck_any lf1 ld1 W y1 z1 hr)
 rw [e1] at HC1
 clear y0 z0 e0 y1 z1 e1
 have HK:=Lib.hid hk
 have HR:=Lib.hid hr
 have hmm:=@run_makeMap Tryz.prog
 have hmx:Tryz.prog.follows .mixedOrders=true:=by kernel_rfl
 clear hk hr
 go_enter Tryz.func92,Tryz.ntmps92
 go_wp2_with (go_at_call 181;refine HCL.out.mono ?_;rintro e w1 ⟨⟨v1,rfl,hv1⟩,hb⟩;have HV:=Lib.hid hv1;have HB1:=Lib.hid hb;obtain ⟨A1,c1,rfl⟩:=slice_shape hv1;clear hb hv1)
 have NI:=NewI.start HR.out HK.out HB1.out (A:=A1) (n:=2) (c:=c1)
 generalize (w1.alloc (.map #[] 0)).alloc (.cells #[.slice A1 2 c1,.map (some w1.heap.size),.slice none 0 0] 111)=W0 at *
 generalize w1.heap.size+1=g at *
 generalize w1.heap.size=mb at *
 have NI:=Lib.hid NI
 clear hmm HCL HV HB1
 obtain ⟨i0,hi,hz0,hz1,hz2⟩:=info_parts infoAI
 refine wp_loop_rounds 3 ?_
 rw [rounds_succ]
 have a0:W0.cell? ⟨gb,0,none⟩=some (.string ⟨#[97]⟩):=NI.out.ka.cell 0
 have a1:W0.cell? ⟨gb,1,none⟩=some (.string lf0):=NI.out.ka.cell 1
 have a2:W0.cell? ⟨gb,2,none⟩=some (.string ld0):=NI.out.ka.cell 2
 have a3:W0.cell? ⟨gb,3,none⟩=some (.int .i64 0):=NI.out.ka.cell 3
 have al:=NI.out.ka.lt
 go_wp2
 have K:=Blk.new W0 104 #[.string ⟨#[97]⟩,.string lf0,.string ld0,.int .i64 0]
 have N2:=NI.out.alloc (.cells #[.string ⟨#[97]⟩,.string lf0,.string ld0,.int .i64 0] 104)
 generalize W0.alloc (.cells #[.string ⟨#[97]⟩,.string lf0,.string ld0,.int .i64 0] 104)=X0 at *
 generalize W0.heap.size=t0 at *
 clear a0 a1 a2 a3 al NI
 have NI:=Lib.hid N2
 have KT:=Lib.hid K
 clear N2 K
 have v0:∀ x:SameAt X0 (fun k=>k < X0.heap.size),x.W.cell? ⟨g,1,none⟩=some (.map (some mb)):=fun x=>x.cell NI.out.kg.lt (NI.out.kg.cell 1)
 have v1:∀ x:SameAt X0 (fun k=>k < X0.heap.size),x.W.cell? ⟨t0,0,none⟩=some (.string ⟨#[97]⟩):=fun x=>x.cell KT.out.lt (KT.out.cell 0)
 refine wpIn_wide.1 (wpIn_stage (n:=3) (IsSame X0 (fun k=>k < X0.heap.size)) [0,1,2,3,4,5,7,8,9,10,11] [] hmx (by kernel_rfl) (isSame_of fun _ _=>rfl) ?_)
 change wpStage _ _ _ _ _ _ _ _ (6+6) _ _ _
 refine stage_reads [0,1,2,3,4,5] 6 _ _ (by kernel_rfl) ?_
 change wpQuietIn _ _ _ _ (fun W'=>∃ x:SameAt X0 (fun k=>k < X0.heap.size),W'=x.W) _ _ _
 simp only [pick_cons,pick_nil,List.getElem?_cons_zero,List.getElem?_cons_succ,Option.elim_some]
 repeat (gi_big_quiet_step (fail))
 refine wpQuietIn_nil ?_
 clear v0 v1
 refine stage_one 6 (by kernel_rfl) rfl ?_
 refine wpListIn_lookup_own_ok_int _ rfl _ _ 108 rfl 9 3 .i64 lawN Tryz.underlying108 Tryz.underlying3 (zeroN _) mb 0 (DataW.map []:DataW Unit) rfl NI.out.mp.drew _ _ rfl keyA ?_
 intro ci hat hwc
 rw [has_a0]
 clear hat hwc
 gi_wp2
 refine stage_post (isSame_of fun _ _=>rfl) ?_
 change wpStage _ _ _ _ _ _ _ _ (0+5) _ _ _
 refine stage_reads [7,8,9,10,11] 0 _ _ (by kernel_rfl) ?_
 change wpQuietIn _ _ _ _ (fun W'=>∃ x:SameAt X0 (fun k=>k < X0.heap.size),W'=x.W) _ _ _
 simp only [pick_cons,pick_nil,List.getElem?_cons_zero,List.getElem?_cons_succ,Option.elim_some]
 repeat (gi_big_quiet_step (fail))
 refine wpQuietIn_nil ?_
 refine stage_done (by kernel_rfl) ?_
 have NI:=Lib.hid (NI.out.later (below_drewM X0))
 have KT:=Lib.hid (Blk.below KT.out (below_drewM X0) KT.out.lt)
 generalize X0.drew=Y0 at *
 have e0:Y0.cell? ⟨t0,0,none⟩=some (.string ⟨#[97]⟩):=KT.out.cell 0
 have e1:Y0.cell? ⟨t0,1,none⟩=some (.string lf0):=KT.out.cell 1
 have e2:Y0.cell? ⟨t0,2,none⟩=some (.string ld0):=KT.out.cell 2
 have e3:Y0.cell? ⟨t0,3,none⟩=some (.int .i64 0):=KT.out.cell 3
 have el:=KT.out.lt
 go_wp2_with (go_at_call 182;refine (HC0.out _ NI.out.nw.res).mono ?_;rintro e w3 ⟨rfl,hb⟩;have NI:=Lib.hid (NI.out.later hb);have KT:=Lib.hid (Blk.below KT.out hb KT.out.lt);clear hb e0 e1 e2 e3 el;have e0:w3.cell? ⟨t0,0,none⟩=some (.string ⟨#[97]⟩):=KT.out.cell 0;have e1:w3.cell? ⟨t0,1,none⟩=some (.string lf0):=KT.out.cell 1;have e2:w3.cell? ⟨t0,2,none⟩=some (.string ld0):=KT.out.cell 2;have e3:w3.cell? ⟨t0,3,none⟩=some (.int .i64 0):=KT.out.cell 3;have el:=KT.out.lt)
 clear e0 e1 e2 e3 el
 have v0:∀ x:SameAt w3 (fun k=>k < w3.heap.size),x.W.cell? ⟨g,1,none⟩=some (.map (some mb)):=fun x=>x.cell NI.out.kg.lt (NI.out.kg.cell 1)
 have v1:∀ x:SameAt w3 (fun k=>k < w3.heap.size),x.W.cell? ⟨t0,0,none⟩=some (.string ⟨#[97]⟩):=fun x=>x.cell KT.out.lt (KT.out.cell 0)
 refine wpIn_wide.1 (wpIn_stage (n:=3) (IsSame w3 (fun k=>k < w3.heap.size)) [0,1,2,3,4,5,6] [7] hmx (by kernel_rfl) (isSame_of fun _ _=>rfl) ?_)
 change wpStage _ _ _ _ _ _ _ _ (1+7) _ _ _
 refine stage_reads [0,1,2,3,4,5,6] 1 _ _ (by kernel_rfl) ?_
 change wpQuietIn _ _ _ _ (fun W'=>∃ x:SameAt w3 (fun k=>k < w3.heap.size),W'=x.W) _ _ _
 simp only [pick_cons,pick_nil,List.getElem?_cons_zero,List.getElem?_cons_succ,Option.elim_some]
 repeat (gi_big_quiet_step (fail))
 refine wpQuietIn_nil ?_
 clear v0 v1
 refine stage_one 7 (by kernel_rfl) rfl ?_
 refine wpListIn_mapUpdate_own _ rfl _ _ _ 108 rfl 9 3 lawN Tryz.underlying108 (plainElem Tryz.prog 3) mb 0 (DataW.map []:DataW Unit) rfl NI.out.mp.drew (by unfold maxLen;omega) _ _ _ rfl rfl keyA _ [] (plainElem_int Tryz.underlying3 (by decide)) ?_
 intro w4 hown4 hgrow4
 gi_wp2
 refine stage_last rfl ?_
 refine stage_done (by kernel_rfl) ?_
 have NI:=Lib.hid (NI.out.later (below_drewM w3))
 have KT:=Lib.hid (Blk.below KT.out (below_drewM w3) KT.out.lt)
 have KT:=Lib.hid (Blk.grown KT.out hgrow4 (fun e=>map_ne NI.out.mp KT.out (Option.some.inj e)))
 have NI:=Lib.hid (NI.out.put HR.out hown4 hgrow4)
 clear hown4 hgrow4
 have e3:w4.cell? ⟨t0,3,none⟩=some (.int .i64 0):=KT.out.cell 3
 have el:=KT.out.lt
 go_wp2
 clear e3 el
 have KG4:=Lib.hid NI.out.kg
 have KT4:=KT
 have sg:∀ k,k=g∨k=t0→k < w4.heap.size:=fun k hk=>by rcases hk with rfl|rfl<;>first|exact NI.out.kg.lt|exact KT.out.lt
 have v0:∀ x:SameAt w4 (fun k=>k=g∨k=t0),x.W.cell? ⟨g,2,none⟩=some (.slice none 0 0):=fun x=>x.cell (.inl rfl) (NI.out.kg.cell 2)
 have u0:∀ x:SameAt w4 (fun k=>k=g∨k=t0),x.W.cell? ⟨t0,0,none⟩=some (.string ⟨#[97]⟩):=fun x=>x.cell (.inr rfl) (KT.out.cell 0)
 have u1:∀ x:SameAt w4 (fun k=>k=g∨k=t0),x.W.cell? ⟨t0,1,none⟩=some (.string lf0):=fun x=>x.cell (.inr rfl) (KT.out.cell 1)
 have u2:∀ x:SameAt w4 (fun k=>k=g∨k=t0),x.W.cell? ⟨t0,2,none⟩=some (.string ld0):=fun x=>x.cell (.inr rfl) (KT.out.cell 2)
 have u3:∀ x:SameAt w4 (fun k=>k=g∨k=t0),x.W.cell? ⟨t0,3,none⟩=some (.int .i64 0):=fun x=>x.cell (.inr rfl) (KT.out.cell 3)
 refine wpIn_wide.1 (wpIn_stage (n:=3) (IsSame w4 (fun k=>k=g∨k=t0)) [0,1,2,3,4,5,6,8] [14] hmx (by kernel_rfl) (isSame_of fun _ _=>rfl) ?_)
 change wpStage _ _ _ _ _ _ _ _ (8+7) _ _ _
 refine stage_reads [0,1,2,3,4,5,6] 8 _ _ (by kernel_rfl) ?_
 change wpQuietIn _ _ _ _ (fun W'=>∃ x:SameAt w4 (fun k=>k=g∨k=t0),W'=x.W) _ _ _
 simp only [pick_cons,pick_nil,List.getElem?_cons_zero,List.getElem?_cons_succ,Option.elim_some]
 repeat (gi_big_quiet_step (fail))
 refine wpQuietIn_nil ?_
 clear v0 u0 u1 u2 u3
 refine stage_one 7 (by kernel_rfl) rfl ?_
 gi_wp2_with (gi_at_call 144;refine (callsIn_wide.2 (none_any _)).mono ?_;rintro e w5 ⟨rfl,hb⟩;have HB:=Lib.hid (show Below w4.heap.size w4 w5 from (below_drewM w4).trans hb);clear hb)
 refine stage_post (isSame_below HB.out sg) ?_
 change wpStage _ _ _ _ _ _ _ _ (6+1) _ _ _
 refine stage_reads [8] 6 _ _ (by kernel_rfl) ?_
 change wpQuietIn _ _ _ _ (fun W'=>∃ x:SameAt w4 (fun k=>k=g∨k=t0),W'=x.W) _ _ _
 simp only [pick_cons,pick_nil,List.getElem?_cons_zero,List.getElem?_cons_succ,Option.elim_some]
 repeat (gi_big_quiet_step (fail))
 refine wpQuietIn_nil ?_
 refine stage_one 9 (by kernel_rfl) rfl ?_
 gi_wp2
 refine stage_post (isSame_below HB.out sg) ?_
 refine stage_one 10 (by kernel_rfl) rfl ?_
 gi_wp2
 have HB6:=Lib.hid (below_alloc HB.out (.cells #[(St.dir lf0 ld0 ⟨#[49]⟩ ⟨#[48]⟩ 0).val] 199))
 have NI:=Lib.hid (NI.out.later HB6.out)
 have KT:=Lib.hid (Blk.below KT.out HB6.out KT.out.lt)
 have HN1:=Lib.hid (show Src (w5.alloc (.cells #[(St.dir lf0 ld0 ⟨#[49]⟩ ⟨#[48]⟩ 0).val] 199)) 1 (.slice (some ⟨w5.heap.size,0,none⟩) 1 1) 1 [(St.dir lf0 ld0 ⟨#[49]⟩ ⟨#[48]⟩ 0).val] from src_one (heap_alloc_new w5 _))
 refine stage_post (isSame_below HB6.out sg) ?_
 refine stage_one 11 (by kernel_rfl) rfl ?_
 change wpListIn _ _ _ _ _ _ _ (w5.alloc (.cells #[(St.dir lf0 ld0 ⟨#[49]⟩ ⟨#[48]⟩ 0).val] 199))
 generalize w5.alloc (.cells #[(St.dir lf0 ld0 ⟨#[49]⟩ ⟨#[48]⟩ 0).val] 199)=w6 at *
 refine wpListIn_append_src _ rfl _ _ 109 rfl w.heap.size 199 i0 .nilIface 1 16 Tryz.underlying109 hi hz0 hz1 hz2 rfl (by decide) (.slice none 0 0) 0 [] rfl NI.out.row _ 1 [(St.dir lf0 ld0 ⟨#[49]⟩ ⟨#[48]⟩ 0).val] rfl HN1.out (fun u hu=>by simp only [List.mem_singleton] at hu;subst hu;exact St.one _) (by unfold maxLen;omega) (by omega) NI.out.nw.below.size ?_
 intro v7 w7 hown7 hgrow7
 gi_wp2
 have kg7:=NI.out.kg.grown hgrow7 NI.out.ne_row.2.1
 have HK7:=Lib.hid kg7
 have HT7:=Lib.hid (Blk.grown KT.out hgrow7 (fun e=>row_neL NI.out.row e.symm KT.out (by decide) rfl))
 have q2:w7.cell? ⟨g,2,none⟩=some (.slice none 0 0):=kg7.cell 2
 have qf:=kg7.frozen 2
 have ql:=kg7.lt
 have HP:=Lib.hid (NI.out.push HR.out hgrow7 hown7)
 obtain ⟨RB0,rd0,rfl⟩:=slice_shape hown7
 clear hown7 hgrow7 kg7
 refine stage_post (isSame_of (fun k hk=>hk.elim (fun e=>by rw [e];exact (show w7.heap[_]?=_ from HK7.out).trans (show w4.heap[_]?=_ from KG4.out).symm) (fun e=>by rw [e];exact (show w7.heap[_]?=_ from HT7.out).trans (show w4.heap[_]?=_ from KT4.out).symm))) ?_
 refine stage_one 12 (by kernel_rfl) rfl ?_
 gi_wp2
 refine stage_post (isSame_of (fun k hk=>hk.elim (fun e=>by rw [e];exact (show w7.heap[_]?=_ from HK7.out).trans (show w4.heap[_]?=_ from KG4.out).symm) (fun e=>by rw [e];exact (show w7.heap[_]?=_ from HT7.out).trans (show w4.heap[_]?=_ from KT4.out).symm))) ?_
 refine stage_one 13 (by kernel_rfl) rfl ?_
 gi_wp2
 refine stage_post (isSame_of (fun k hk=>hk.elim (fun e=>by rw [e];exact (show w7.heap[_]?=_ from HK7.out).trans (show w4.heap[_]?=_ from KG4.out).symm) (fun e=>by rw [e];exact (show w7.heap[_]?=_ from HT7.out).trans (show w4.heap[_]?=_ from KT4.out).symm))) ?_
 refine stage_one 14 (by kernel_rfl) rfl ?_
 gi_wp2
 refine stage_last rfl ?_
 refine stage_done (by kernel_rfl) ?_
 clear NI KT HB HB6 HN1 HK7 HT7 KG4 KT4 q2 qf ql sg
 have NI:=HP
 clear HP
 generalize w7.setCell ⟨g,2,none⟩ (.slice RB0 1 rd0)=W1 at *
 go_wp2
 rw [rounds_succ]
 have a0:W1.cell? ⟨gb,4,none⟩=some (.string ⟨#[97]⟩):=NI.out.ka.cell 4
 have a1:W1.cell? ⟨gb,5,none⟩=some (.string lf1):=NI.out.ka.cell 5
 have a2:W1.cell? ⟨gb,6,none⟩=some (.string ld1):=NI.out.ka.cell 6
 have a3:W1.cell? ⟨gb,7,none⟩=some (.int .i64 0):=NI.out.ka.cell 7
 have al:=NI.out.ka.lt
 go_wp2
 have K:=Blk.new W1 104 #[.string ⟨#[97]⟩,.string lf1,.string ld1,.int .i64 0]
 have N2:=NI.out.alloc (.cells #[.string ⟨#[97]⟩,.string lf1,.string ld1,.int .i64 0] 104)
 generalize W1.alloc (.cells #[.string ⟨#[97]⟩,.string lf1,.string ld1,.int .i64 0] 104)=X1 at *
 generalize W1.heap.size=t1 at *
 clear a0 a1 a2 a3 al NI
 have NI:=Lib.hid N2
 have KT:=Lib.hid K
 clear N2 K
 have v0:∀ x:SameAt X1 (fun k=>k < X1.heap.size),x.W.cell? ⟨g,1,none⟩=some (.map (some mb)):=fun x=>x.cell NI.out.kg.lt (NI.out.kg.cell 1)
 have v1:∀ x:SameAt X1 (fun k=>k < X1.heap.size),x.W.cell? ⟨t1,0,none⟩=some (.string ⟨#[97]⟩):=fun x=>x.cell KT.out.lt (KT.out.cell 0)
 refine wpIn_wide.1 (wpIn_stage (n:=3) (IsSame X1 (fun k=>k < X1.heap.size)) [0,1,2,3,4,5,7,8,9,10,11] [] hmx (by kernel_rfl) (isSame_of fun _ _=>rfl) ?_)
 change wpStage _ _ _ _ _ _ _ _ (6+6) _ _ _
 refine stage_reads [0,1,2,3,4,5] 6 _ _ (by kernel_rfl) ?_
 change wpQuietIn _ _ _ _ (fun W'=>∃ x:SameAt X1 (fun k=>k < X1.heap.size),W'=x.W) _ _ _
 simp only [pick_cons,pick_nil,List.getElem?_cons_zero,List.getElem?_cons_succ,Option.elim_some]
 repeat (gi_big_quiet_step (fail))
 refine wpQuietIn_nil ?_
 clear v0 v1
 refine stage_one 6 (by kernel_rfl) rfl ?_
 refine wpListIn_lookup_own_ok_int _ rfl _ _ 108 rfl 9 3 .i64 lawN Tryz.underlying108 Tryz.underlying3 (zeroN _) mb 1 ixD1 rfl NI.out.mp.drew _ _ rfl keyA ?_
 intro ci hat hwc
 rw [has_a1]
 clear hat hwc
 gi_wp2
 refine stage_post (isSame_of fun _ _=>rfl) ?_
 change wpStage _ _ _ _ _ _ _ _ (0+5) _ _ _
 refine stage_reads [7,8,9,10,11] 0 _ _ (by kernel_rfl) ?_
 change wpQuietIn _ _ _ _ (fun W'=>∃ x:SameAt X1 (fun k=>k < X1.heap.size),W'=x.W) _ _ _
 simp only [pick_cons,pick_nil,List.getElem?_cons_zero,List.getElem?_cons_succ,Option.elim_some]
 repeat (gi_big_quiet_step (fail))
 refine wpQuietIn_nil ?_
 refine stage_done (by kernel_rfl) ?_
 have NI:=Lib.hid (NI.out.later (below_drewM X1))
 have KT:=Lib.hid (Blk.below KT.out (below_drewM X1) KT.out.lt)
 generalize X1.drew=Y1 at *
 have e0:Y1.cell? ⟨t1,0,none⟩=some (.string ⟨#[97]⟩):=KT.out.cell 0
 have e1:Y1.cell? ⟨t1,1,none⟩=some (.string lf1):=KT.out.cell 1
 have e2:Y1.cell? ⟨t1,2,none⟩=some (.string ld1):=KT.out.cell 2
 have e3:Y1.cell? ⟨t1,3,none⟩=some (.int .i64 0):=KT.out.cell 3
 have el:=KT.out.lt
 go_wp2_with (go_at_call 182;refine (HC1.out _ NI.out.nw.res).mono ?_;rintro e w3 ⟨rfl,hb⟩;have NI:=Lib.hid (NI.out.later hb);have KT:=Lib.hid (Blk.below KT.out hb KT.out.lt);clear hb e0 e1 e2 e3 el;have e0:w3.cell? ⟨t1,0,none⟩=some (.string ⟨#[97]⟩):=KT.out.cell 0;have e1:w3.cell? ⟨t1,1,none⟩=some (.string lf1):=KT.out.cell 1;have e2:w3.cell? ⟨t1,2,none⟩=some (.string ld1):=KT.out.cell 2;have e3:w3.cell? ⟨t1,3,none⟩=some (.int .i64 0):=KT.out.cell 3;have el:=KT.out.lt)
 go_ret2
 exact ⟨rfl,NI.out.nw.below⟩
theorem gnew_name (lf0 ld0:ByteArray) (y0:lf0.size≤270000) (z0:ld0.size≤270000) (e0:errL lf0 ld0=0) (gb c:Nat) (w:World) (hr:Res w) (hk:Blk w gb 104 #[.string ⟨#[]⟩,.string lf0,.string ld0,.int .i64 0]) :
  Calls Tryz.prog 92 #[.slice (some ⟨gb,0,none⟩) 1 c] w fun e w'=>e=.returned (.tuple #[.pointer none,.int .i64 19])∧Below w.heap.size w w':=by
 have HCL:=Lib.hid (gclone_ac gb 1 c [.string ⟨#[]⟩,.string lf0,.string ld0,.int .i64 0] w hk.lt rfl (by omega) (fun j u hj=>(hk.cell j).trans (by simpa using hj)) (fun u hu=>by simp only [List.mem_cons,List.not_mem_nil,or_false] at hu;rcases hu with rfl|rfl|rfl|rfl<;>rfl))
 have HC0:=Lib.hid (fun (W:World) (hr:Res W)=>lcheck_any lf0 ld0 W y0 z0 hr)
 rw [e0] at HC0
 clear y0 z0 e0
 have HK:=Lib.hid hk
 have HR:=Lib.hid hr
 have hmm:=@run_makeMap Tryz.prog
 have hmx:Tryz.prog.follows .mixedOrders=true:=by kernel_rfl
 clear hk hr
 go_enter Tryz.func92,Tryz.ntmps92
 go_wp2_with (go_at_call 181;refine HCL.out.mono ?_;rintro e w1 ⟨⟨v1,rfl,hv1⟩,hb⟩;have HV:=Lib.hid hv1;have HB1:=Lib.hid hb;obtain ⟨A1,c1,rfl⟩:=slice_shape hv1;clear hb hv1)
 have NI:=NewI.start HR.out HK.out HB1.out (A:=A1) (n:=1) (c:=c1)
 generalize (w1.alloc (.map #[] 0)).alloc (.cells #[.slice A1 1 c1,.map (some w1.heap.size),.slice none 0 0] 111)=W0 at *
 generalize w1.heap.size+1=g at *
 generalize w1.heap.size=mb at *
 have NI:=Lib.hid NI
 clear hmm HCL HV HB1
 obtain ⟨i0,hi,hz0,hz1,hz2⟩:=info_parts infoAI
 refine wp_loop_rounds 2 ?_
 rw [rounds_succ]
 have a0:W0.cell? ⟨gb,0,none⟩=some (.string ⟨#[]⟩):=NI.out.ka.cell 0
 have a1:W0.cell? ⟨gb,1,none⟩=some (.string lf0):=NI.out.ka.cell 1
 have a2:W0.cell? ⟨gb,2,none⟩=some (.string ld0):=NI.out.ka.cell 2
 have a3:W0.cell? ⟨gb,3,none⟩=some (.int .i64 0):=NI.out.ka.cell 3
 have al:=NI.out.ka.lt
 go_wp2
 have K:=Blk.new W0 104 #[.string ⟨#[]⟩,.string lf0,.string ld0,.int .i64 0]
 have N2:=NI.out.alloc (.cells #[.string ⟨#[]⟩,.string lf0,.string ld0,.int .i64 0] 104)
 generalize W0.alloc (.cells #[.string ⟨#[]⟩,.string lf0,.string ld0,.int .i64 0] 104)=X0 at *
 generalize W0.heap.size=t0 at *
 clear a0 a1 a2 a3 al NI
 have NI:=Lib.hid N2
 have KT:=Lib.hid K
 clear N2 K
 have v0:∀ x:SameAt X0 (fun k=>k < X0.heap.size),x.W.cell? ⟨g,1,none⟩=some (.map (some mb)):=fun x=>x.cell NI.out.kg.lt (NI.out.kg.cell 1)
 have v1:∀ x:SameAt X0 (fun k=>k < X0.heap.size),x.W.cell? ⟨t0,0,none⟩=some (.string ⟨#[]⟩):=fun x=>x.cell KT.out.lt (KT.out.cell 0)
 refine wpIn_wide.1 (wpIn_stage (n:=3) (IsSame X0 (fun k=>k < X0.heap.size)) [0,1,2,3,4,5,7,8,9,10,11] [] hmx (by kernel_rfl) (isSame_of fun _ _=>rfl) ?_)
 change wpStage _ _ _ _ _ _ _ _ (6+6) _ _ _
 refine stage_reads [0,1,2,3,4,5] 6 _ _ (by kernel_rfl) ?_
 change wpQuietIn _ _ _ _ (fun W'=>∃ x:SameAt X0 (fun k=>k < X0.heap.size),W'=x.W) _ _ _
 simp only [pick_cons,pick_nil,List.getElem?_cons_zero,List.getElem?_cons_succ,Option.elim_some]
 repeat (gi_big_quiet_step (fail))
 refine wpQuietIn_nil ?_
 clear v0 v1
 refine stage_one 6 (by kernel_rfl) rfl ?_
 refine wpListIn_lookup_own_ok_int _ rfl _ _ 108 rfl 9 3 .i64 lawN Tryz.underlying108 Tryz.underlying3 (zeroN _) mb 0 (DataW.map []:DataW Unit) rfl NI.out.mp.drew _ _ rfl keyE ?_
 intro ci hat hwc
 rw [has_e0]
 clear hat hwc
 gi_wp2
 refine stage_post (isSame_of fun _ _=>rfl) ?_
 change wpStage _ _ _ _ _ _ _ _ (0+5) _ _ _
 refine stage_reads [7,8,9,10,11] 0 _ _ (by kernel_rfl) ?_
 change wpQuietIn _ _ _ _ (fun W'=>∃ x:SameAt X0 (fun k=>k < X0.heap.size),W'=x.W) _ _ _
 simp only [pick_cons,pick_nil,List.getElem?_cons_zero,List.getElem?_cons_succ,Option.elim_some]
 repeat (gi_big_quiet_step (fail))
 refine wpQuietIn_nil ?_
 refine stage_done (by kernel_rfl) ?_
 have NI:=Lib.hid (NI.out.later (below_drewM X0))
 have KT:=Lib.hid (Blk.below KT.out (below_drewM X0) KT.out.lt)
 generalize X0.drew=Y0 at *
 have e0:Y0.cell? ⟨t0,0,none⟩=some (.string ⟨#[]⟩):=KT.out.cell 0
 have e1:Y0.cell? ⟨t0,1,none⟩=some (.string lf0):=KT.out.cell 1
 have e2:Y0.cell? ⟨t0,2,none⟩=some (.string ld0):=KT.out.cell 2
 have e3:Y0.cell? ⟨t0,3,none⟩=some (.int .i64 0):=KT.out.cell 3
 have el:=KT.out.lt
 go_wp2_with (go_at_call 182;refine (HC0.out _ NI.out.nw.res).mono ?_;rintro e w3 ⟨rfl,hb⟩;have NI:=Lib.hid (NI.out.later hb);have KT:=Lib.hid (Blk.below KT.out hb KT.out.lt);clear hb e0 e1 e2 e3 el;have e0:w3.cell? ⟨t0,0,none⟩=some (.string ⟨#[]⟩):=KT.out.cell 0;have e1:w3.cell? ⟨t0,1,none⟩=some (.string lf0):=KT.out.cell 1;have e2:w3.cell? ⟨t0,2,none⟩=some (.string ld0):=KT.out.cell 2;have e3:w3.cell? ⟨t0,3,none⟩=some (.int .i64 0):=KT.out.cell 3;have el:=KT.out.lt)
 go_ret2
 exact ⟨rfl,NI.out.nw.below⟩
theorem gnew_order (lf0 ld0:ByteArray) (y0:lf0.size≤270000) (z0:ld0.size≤270000) (e0:errL lf0 ld0=0) (gb c:Nat) (w:World) (hr:Res w) (hk:Blk w gb 104 #[.string ⟨#[97]⟩,.string lf0,.string ld0,.int .i64 1]) :
  Calls Tryz.prog 92 #[.slice (some ⟨gb,0,none⟩) 1 c] w fun e w'=>e=.returned (.tuple #[.pointer none,.int .i64 2])∧Below w.heap.size w w':=by
 have HCL:=Lib.hid (gclone_ac gb 1 c [.string ⟨#[97]⟩,.string lf0,.string ld0,.int .i64 1] w hk.lt rfl (by omega) (fun j u hj=>(hk.cell j).trans (by simpa using hj)) (fun u hu=>by simp only [List.mem_cons,List.not_mem_nil,or_false] at hu;rcases hu with rfl|rfl|rfl|rfl<;>rfl))
 have HC0:=Lib.hid (fun (W:World) (hr:Res W)=>lcheck_any lf0 ld0 W y0 z0 hr)
 rw [e0] at HC0
 clear y0 z0 e0
 have HK:=Lib.hid hk
 have HR:=Lib.hid hr
 have hmm:=@run_makeMap Tryz.prog
 have hmx:Tryz.prog.follows .mixedOrders=true:=by kernel_rfl
 clear hk hr
 go_enter Tryz.func92,Tryz.ntmps92
 go_wp2_with (go_at_call 181;refine HCL.out.mono ?_;rintro e w1 ⟨⟨v1,rfl,hv1⟩,hb⟩;have HV:=Lib.hid hv1;have HB1:=Lib.hid hb;obtain ⟨A1,c1,rfl⟩:=slice_shape hv1;clear hb hv1)
 have NI:=NewI.start HR.out HK.out HB1.out (A:=A1) (n:=1) (c:=c1)
 generalize (w1.alloc (.map #[] 0)).alloc (.cells #[.slice A1 1 c1,.map (some w1.heap.size),.slice none 0 0] 111)=W0 at *
 generalize w1.heap.size+1=g at *
 generalize w1.heap.size=mb at *
 have NI:=Lib.hid NI
 clear hmm HCL HV HB1
 obtain ⟨i0,hi,hz0,hz1,hz2⟩:=info_parts infoAI
 refine wp_loop_rounds 2 ?_
 rw [rounds_succ]
 have a0:W0.cell? ⟨gb,0,none⟩=some (.string ⟨#[97]⟩):=NI.out.ka.cell 0
 have a1:W0.cell? ⟨gb,1,none⟩=some (.string lf0):=NI.out.ka.cell 1
 have a2:W0.cell? ⟨gb,2,none⟩=some (.string ld0):=NI.out.ka.cell 2
 have a3:W0.cell? ⟨gb,3,none⟩=some (.int .i64 1):=NI.out.ka.cell 3
 have al:=NI.out.ka.lt
 go_wp2
 have K:=Blk.new W0 104 #[.string ⟨#[97]⟩,.string lf0,.string ld0,.int .i64 1]
 have N2:=NI.out.alloc (.cells #[.string ⟨#[97]⟩,.string lf0,.string ld0,.int .i64 1] 104)
 generalize W0.alloc (.cells #[.string ⟨#[97]⟩,.string lf0,.string ld0,.int .i64 1] 104)=X0 at *
 generalize W0.heap.size=t0 at *
 clear a0 a1 a2 a3 al NI
 have NI:=Lib.hid N2
 have KT:=Lib.hid K
 clear N2 K
 have v0:∀ x:SameAt X0 (fun k=>k < X0.heap.size),x.W.cell? ⟨g,1,none⟩=some (.map (some mb)):=fun x=>x.cell NI.out.kg.lt (NI.out.kg.cell 1)
 have v1:∀ x:SameAt X0 (fun k=>k < X0.heap.size),x.W.cell? ⟨t0,0,none⟩=some (.string ⟨#[97]⟩):=fun x=>x.cell KT.out.lt (KT.out.cell 0)
 refine wpIn_wide.1 (wpIn_stage (n:=3) (IsSame X0 (fun k=>k < X0.heap.size)) [0,1,2,3,4,5,7,8,9,10,11] [] hmx (by kernel_rfl) (isSame_of fun _ _=>rfl) ?_)
 change wpStage _ _ _ _ _ _ _ _ (6+6) _ _ _
 refine stage_reads [0,1,2,3,4,5] 6 _ _ (by kernel_rfl) ?_
 change wpQuietIn _ _ _ _ (fun W'=>∃ x:SameAt X0 (fun k=>k < X0.heap.size),W'=x.W) _ _ _
 simp only [pick_cons,pick_nil,List.getElem?_cons_zero,List.getElem?_cons_succ,Option.elim_some]
 repeat (gi_big_quiet_step (fail))
 refine wpQuietIn_nil ?_
 clear v0 v1
 refine stage_one 6 (by kernel_rfl) rfl ?_
 refine wpListIn_lookup_own_ok_int _ rfl _ _ 108 rfl 9 3 .i64 lawN Tryz.underlying108 Tryz.underlying3 (zeroN _) mb 0 (DataW.map []:DataW Unit) rfl NI.out.mp.drew _ _ rfl keyA ?_
 intro ci hat hwc
 rw [has_a0]
 clear hat hwc
 gi_wp2
 refine stage_post (isSame_of fun _ _=>rfl) ?_
 change wpStage _ _ _ _ _ _ _ _ (0+5) _ _ _
 refine stage_reads [7,8,9,10,11] 0 _ _ (by kernel_rfl) ?_
 change wpQuietIn _ _ _ _ (fun W'=>∃ x:SameAt X0 (fun k=>k < X0.heap.size),W'=x.W) _ _ _
 simp only [pick_cons,pick_nil,List.getElem?_cons_zero,List.getElem?_cons_succ,Option.elim_some]
 repeat (gi_big_quiet_step (fail))
 refine wpQuietIn_nil ?_
 refine stage_done (by kernel_rfl) ?_
 have NI:=Lib.hid (NI.out.later (below_drewM X0))
 have KT:=Lib.hid (Blk.below KT.out (below_drewM X0) KT.out.lt)
 generalize X0.drew=Y0 at *
 have e0:Y0.cell? ⟨t0,0,none⟩=some (.string ⟨#[97]⟩):=KT.out.cell 0
 have e1:Y0.cell? ⟨t0,1,none⟩=some (.string lf0):=KT.out.cell 1
 have e2:Y0.cell? ⟨t0,2,none⟩=some (.string ld0):=KT.out.cell 2
 have e3:Y0.cell? ⟨t0,3,none⟩=some (.int .i64 1):=KT.out.cell 3
 have el:=KT.out.lt
 go_wp2_with (go_at_call 182;refine (HC0.out _ NI.out.nw.res).mono ?_;rintro e w3 ⟨rfl,hb⟩;have NI:=Lib.hid (NI.out.later hb);have KT:=Lib.hid (Blk.below KT.out hb KT.out.lt);clear hb e0 e1 e2 e3 el;have e0:w3.cell? ⟨t0,0,none⟩=some (.string ⟨#[97]⟩):=KT.out.cell 0;have e1:w3.cell? ⟨t0,1,none⟩=some (.string lf0):=KT.out.cell 1;have e2:w3.cell? ⟨t0,2,none⟩=some (.string ld0):=KT.out.cell 2;have e3:w3.cell? ⟨t0,3,none⟩=some (.int .i64 1):=KT.out.cell 3;have el:=KT.out.lt)
 go_ret2
 exact ⟨rfl,NI.out.nw.below⟩
theorem gnew_range (lf0 ld0:ByteArray) (y0:lf0.size≤270000) (z0:ld0.size≤270000) (e0:errL lf0 ld0=2) (gb c:Nat) (w:World) (hr:Res w) (hk:Blk w gb 104 #[.string ⟨#[97]⟩,.string lf0,.string ld0,.int .i64 0]) :
  Calls Tryz.prog 92 #[.slice (some ⟨gb,0,none⟩) 1 c] w fun e w'=>e=.returned (.tuple #[.pointer none,.int .i64 2])∧Below w.heap.size w w':=by
 have HCL:=Lib.hid (gclone_ac gb 1 c [.string ⟨#[97]⟩,.string lf0,.string ld0,.int .i64 0] w hk.lt rfl (by omega) (fun j u hj=>(hk.cell j).trans (by simpa using hj)) (fun u hu=>by simp only [List.mem_cons,List.not_mem_nil,or_false] at hu;rcases hu with rfl|rfl|rfl|rfl<;>rfl))
 have HC0:=Lib.hid (fun (W:World) (hr:Res W)=>lcheck_any lf0 ld0 W y0 z0 hr)
 rw [e0] at HC0
 clear y0 z0 e0
 have HK:=Lib.hid hk
 have HR:=Lib.hid hr
 have hmm:=@run_makeMap Tryz.prog
 have hmx:Tryz.prog.follows .mixedOrders=true:=by kernel_rfl
 clear hk hr
 go_enter Tryz.func92,Tryz.ntmps92
 go_wp2_with (go_at_call 181;refine HCL.out.mono ?_;rintro e w1 ⟨⟨v1,rfl,hv1⟩,hb⟩;have HV:=Lib.hid hv1;have HB1:=Lib.hid hb;obtain ⟨A1,c1,rfl⟩:=slice_shape hv1;clear hb hv1)
 have NI:=NewI.start HR.out HK.out HB1.out (A:=A1) (n:=1) (c:=c1)
 generalize (w1.alloc (.map #[] 0)).alloc (.cells #[.slice A1 1 c1,.map (some w1.heap.size),.slice none 0 0] 111)=W0 at *
 generalize w1.heap.size+1=g at *
 generalize w1.heap.size=mb at *
 have NI:=Lib.hid NI
 clear hmm HCL HV HB1
 obtain ⟨i0,hi,hz0,hz1,hz2⟩:=info_parts infoAI
 refine wp_loop_rounds 2 ?_
 rw [rounds_succ]
 have a0:W0.cell? ⟨gb,0,none⟩=some (.string ⟨#[97]⟩):=NI.out.ka.cell 0
 have a1:W0.cell? ⟨gb,1,none⟩=some (.string lf0):=NI.out.ka.cell 1
 have a2:W0.cell? ⟨gb,2,none⟩=some (.string ld0):=NI.out.ka.cell 2
 have a3:W0.cell? ⟨gb,3,none⟩=some (.int .i64 0):=NI.out.ka.cell 3
 have al:=NI.out.ka.lt
 go_wp2
 have K:=Blk.new W0 104 #[.string ⟨#[97]⟩,.string lf0,.string ld0,.int .i64 0]
 have N2:=NI.out.alloc (.cells #[.string ⟨#[97]⟩,.string lf0,.string ld0,.int .i64 0] 104)
 generalize W0.alloc (.cells #[.string ⟨#[97]⟩,.string lf0,.string ld0,.int .i64 0] 104)=X0 at *
 generalize W0.heap.size=t0 at *
 clear a0 a1 a2 a3 al NI
 have NI:=Lib.hid N2
 have KT:=Lib.hid K
 clear N2 K
 have v0:∀ x:SameAt X0 (fun k=>k < X0.heap.size),x.W.cell? ⟨g,1,none⟩=some (.map (some mb)):=fun x=>x.cell NI.out.kg.lt (NI.out.kg.cell 1)
 have v1:∀ x:SameAt X0 (fun k=>k < X0.heap.size),x.W.cell? ⟨t0,0,none⟩=some (.string ⟨#[97]⟩):=fun x=>x.cell KT.out.lt (KT.out.cell 0)
 refine wpIn_wide.1 (wpIn_stage (n:=3) (IsSame X0 (fun k=>k < X0.heap.size)) [0,1,2,3,4,5,7,8,9,10,11] [] hmx (by kernel_rfl) (isSame_of fun _ _=>rfl) ?_)
 change wpStage _ _ _ _ _ _ _ _ (6+6) _ _ _
 refine stage_reads [0,1,2,3,4,5] 6 _ _ (by kernel_rfl) ?_
 change wpQuietIn _ _ _ _ (fun W'=>∃ x:SameAt X0 (fun k=>k < X0.heap.size),W'=x.W) _ _ _
 simp only [pick_cons,pick_nil,List.getElem?_cons_zero,List.getElem?_cons_succ,Option.elim_some]
 repeat (gi_big_quiet_step (fail))
 refine wpQuietIn_nil ?_
 clear v0 v1
 refine stage_one 6 (by kernel_rfl) rfl ?_
 refine wpListIn_lookup_own_ok_int _ rfl _ _ 108 rfl 9 3 .i64 lawN Tryz.underlying108 Tryz.underlying3 (zeroN _) mb 0 (DataW.map []:DataW Unit) rfl NI.out.mp.drew _ _ rfl keyA ?_
 intro ci hat hwc
 rw [has_a0]
 clear hat hwc
 gi_wp2
 refine stage_post (isSame_of fun _ _=>rfl) ?_
 change wpStage _ _ _ _ _ _ _ _ (0+5) _ _ _
 refine stage_reads [7,8,9,10,11] 0 _ _ (by kernel_rfl) ?_
 change wpQuietIn _ _ _ _ (fun W'=>∃ x:SameAt X0 (fun k=>k < X0.heap.size),W'=x.W) _ _ _
 simp only [pick_cons,pick_nil,List.getElem?_cons_zero,List.getElem?_cons_succ,Option.elim_some]
 repeat (gi_big_quiet_step (fail))
 refine wpQuietIn_nil ?_
 refine stage_done (by kernel_rfl) ?_
 have NI:=Lib.hid (NI.out.later (below_drewM X0))
 have KT:=Lib.hid (Blk.below KT.out (below_drewM X0) KT.out.lt)
 generalize X0.drew=Y0 at *
 have e0:Y0.cell? ⟨t0,0,none⟩=some (.string ⟨#[97]⟩):=KT.out.cell 0
 have e1:Y0.cell? ⟨t0,1,none⟩=some (.string lf0):=KT.out.cell 1
 have e2:Y0.cell? ⟨t0,2,none⟩=some (.string ld0):=KT.out.cell 2
 have e3:Y0.cell? ⟨t0,3,none⟩=some (.int .i64 0):=KT.out.cell 3
 have el:=KT.out.lt
 go_wp2_with (go_at_call 182;refine (HC0.out _ NI.out.nw.res).mono ?_;rintro e w3 ⟨rfl,hb⟩;have NI:=Lib.hid (NI.out.later hb);have KT:=Lib.hid (Blk.below KT.out hb KT.out.lt);clear hb e0 e1 e2 e3 el;have e0:w3.cell? ⟨t0,0,none⟩=some (.string ⟨#[97]⟩):=KT.out.cell 0;have e1:w3.cell? ⟨t0,1,none⟩=some (.string lf0):=KT.out.cell 1;have e2:w3.cell? ⟨t0,2,none⟩=some (.string ld0):=KT.out.cell 2;have e3:w3.cell? ⟨t0,3,none⟩=some (.int .i64 0):=KT.out.cell 3;have el:=KT.out.lt)
 go_ret2
 exact ⟨rfl,NI.out.nw.below⟩
def kC:Lit:=.string [99]
theorem has_c:Maps.has ixD kC=false:=by rfl
theorem ixD_c:ixD.atKey kC (.lit (.int .i64 0))=.lit (.int .i64 0):=by rfl
theorem keyC:keyOf Tryz.prog 9 (.string ⟨#[99]⟩)=some kC:=WideMaps.keyOf_string_mk Tryz.underlying9 (by decide)
theorem gindex_bb (b c:Nat) (w:World) (h:w.cell? ⟨b,0,none⟩=some (.string ⟨#[98]⟩)) (_hl:b < w.heap.size):Calls Tryz.prog 121 #[.slice (some ⟨b,0,none⟩) 1 c,.string ⟨#[98]⟩] w fun e w'=>e=.returned (.int .i64 (0))∧w'=w:=by
 go_enter Tryz.func121,Tryz.ntmps121
 go_wp2
 refine wp_loop_rounds 2 ?_
 rw [rounds_succ]
 go_wp2
 go_ret
 exact ⟨rfl,rfl⟩
theorem gcontains_bb (b c:Nat) (w:World) (h:w.cell? ⟨b,0,none⟩=some (.string ⟨#[98]⟩)) (hl:b < w.heap.size):Calls Tryz.prog 239 #[.slice (some ⟨b,0,none⟩) 1 c,.string ⟨#[98]⟩] w fun e w'=>e=.returned (.bool true)∧w'=w:=by
 go_enter Tryz.func239,Tryz.ntmps239
 go_wp2_with (go_at_call 121;refine (gindex_bb b c _ h hl).mono ?_;rintro e w1 ⟨rfl,rfl⟩)
 go_ret
 exact ⟨rfl,rfl⟩
theorem gindex_ab (b c:Nat) (w:World) (h:w.cell? ⟨b,0,none⟩=some (.string ⟨#[97]⟩)) (_hl:b < w.heap.size):Calls Tryz.prog 121 #[.slice (some ⟨b,0,none⟩) 1 c,.string ⟨#[98]⟩] w fun e w'=>e=.returned (.int .i64 (-1))∧w'=w:=by
 go_enter Tryz.func121,Tryz.ntmps121
 go_wp2
 refine wp_loop_rounds 2 ?_
 rw [rounds_succ]
 go_wp2
 rw [rounds_succ]
 go_wp2
 go_ret
 exact ⟨rfl,rfl⟩
theorem gcontains_ab (b c:Nat) (w:World) (h:w.cell? ⟨b,0,none⟩=some (.string ⟨#[97]⟩)) (hl:b < w.heap.size):Calls Tryz.prog 239 #[.slice (some ⟨b,0,none⟩) 1 c,.string ⟨#[98]⟩] w fun e w'=>e=.returned (.bool false)∧w'=w:=by
 go_enter Tryz.func239,Tryz.ntmps239
 go_wp2_with (go_at_call 121;refine (gindex_ab b c _ h hl).mono ?_;rintro e w1 ⟨rfl,rfl⟩)
 go_ret
 exact ⟨rfl,rfl⟩
theorem gvalid_range (f l:ByteArray) (w:World) (h1:f.size≤270000) (h2:l.size≤270000) (ef:errQ f.data.toList=0) (el:errQ l.data.toList=0) (e2:errL f l=2) (hr:Res w) :
  Calls Tryz.prog 238 #[.agg #[.string f,.string l]] w fun e w'=>e=.returned (.int .i64 2)∧Below w.heap.size w w':=by
 have H0:=Lib.hid (VAt.new (w:=w) (t1:=97) (t2:=23) (c1:=#[.string f,.string l]) (c2:=#[.string f,.string l]) hr)
 have HCF:=Lib.hid (fun (W:World) (hr:Res W)=>ratCheck_any f W h1 hr)
 have HCL:=Lib.hid (fun (W:World) (hr:Res W)=>ratCheck_any l W h2 hr)
 have HLC:=Lib.hid (fun (W:World) (hr:Res W)=>lcheck_any f l W h1 h2 hr)
 rw [ef] at HCF
 rw [el] at HCL
 rw [e2] at HLC
 clear h1 h2 ef el e2 hr
 obtain ⟨p0,p1⟩:=cells2 H0.out.b0
 obtain ⟨q0,q1⟩:=cells2 H0.out.b1
 have pl:=H0.out.b0.lt
 have ql:=H0.out.b1.lt
 have TK0:True:=trivial
 have TK1:True:=trivial
 go_enter Tryz.func238,Tryz.ntmps238
 go_wp2
 refine wp_loop_rounds 3 ?_
 rw [rounds_succ]
 go_wp2_with (clear TK0;go_at_call 138;refine (HCF.out _ H0.out.nw.res).mono ?_;rintro e w1 ⟨rfl,hb⟩;have H1:=Lib.hid (H0.out.later hb);clear hb p0 p1 pl q0 q1 ql;obtain ⟨p0,p1⟩:=cells2 H1.out.b0;obtain ⟨q0,q1⟩:=cells2 H1.out.b1;have pl:=H1.out.b0.lt;have ql:=H1.out.b1.lt)
 rw [rounds_succ]
 go_wp2_with (clear TK1;go_at_call 138;refine (HCL.out _ H1.out.nw.res).mono ?_;rintro e w2 ⟨rfl,hb⟩;have H2:=Lib.hid (H1.out.later hb);clear hb p0 p1 pl q0 q1 ql;obtain ⟨p0,p1⟩:=cells2 H2.out.b0;obtain ⟨q0,q1⟩:=cells2 H2.out.b1;have pl:=H2.out.b0.lt;have ql:=H2.out.b1.lt)
 rw [rounds_succ]
 go_wp2_with (go_at_call 182;refine (HLC.out _ H2.out.nw.res).mono ?_;rintro e w3 ⟨rfl,hb⟩;have H3:=Lib.hid (H2.out.later hb);clear hb p0 p1 pl q0 q1 ql)
 go_ret
 exact ⟨rfl,H3.out.nw.below⟩
theorem gvalid_form (f l:ByteArray) (w:World) (h1:f.size≤270000) (_h2:l.size≤270000) (ef:errQ f.data.toList=3) (hr:Res w) :
  Calls Tryz.prog 238 #[.agg #[.string f,.string l]] w fun e w'=>e=.returned (.int .i64 3)∧Below w.heap.size w w':=by
 have H0:=Lib.hid (VAt.new (w:=w) (t1:=97) (t2:=23) (c1:=#[.string f,.string l]) (c2:=#[.string f,.string l]) hr)
 have HCF:=Lib.hid (fun (W:World) (hr:Res W)=>ratCheck_any f W h1 hr)
 rw [ef] at HCF
 clear h1 ef hr
 obtain ⟨p0,p1⟩:=cells2 H0.out.b0
 obtain ⟨q0,q1⟩:=cells2 H0.out.b1
 have pl:=H0.out.b0.lt
 have ql:=H0.out.b1.lt
 have TK0:True:=trivial
 go_enter Tryz.func238,Tryz.ntmps238
 go_wp2
 refine wp_loop_rounds 3 ?_
 rw [rounds_succ]
 go_wp2_with (clear TK0;go_at_call 138;refine (HCF.out _ H0.out.nw.res).mono ?_;rintro e w1 ⟨rfl,hb⟩;have H1:=Lib.hid (H0.out.later hb);clear hb p0 p1 pl q0 q1 ql;obtain ⟨p0,p1⟩:=cells2 H1.out.b0;obtain ⟨q0,q1⟩:=cells2 H1.out.b1;have pl:=H1.out.b0.lt;have ql:=H1.out.b1.lt)
 go_ret
 exact ⟨rfl,H1.out.nw.below⟩
theorem gtry_bad2 (g:Nat) (nm:Value) (f l:ByteArray) (s0 s1:St) (w:World) (hr:Res w) (h:Led w g s0 s1) (HV:Hid (∀ W,Res W→Calls Tryz.prog 238 #[.agg #[.string f,.string l]] W fun e w'=>e=.returned (.int .i64 2)∧Below W.heap.size W w')) :
  Calls Tryz.prog 179 #[.pointer (some ⟨g,0,none⟩),nm,.agg #[.string f,.string l]] w fun e w'=>e=.returned (.tuple #[.slice none 0 0,.int .i64 2])∧Below w.heap.size w w':=by
 have HB0:=Lib.hid (below_alloc (Below.refl w.heap.size w) (.cells #[.string f,.string l] 97))
 have K:=Blk.new w 97 #[.string f,.string l]
 obtain ⟨b0,b1⟩:=cells2 K
 have bl:=K.lt
 have HN:=Lib.hid (gnone_led g s0 s1 _ (h.later HB0.out))
 have HR:=Lib.hid (hr.below HB0.out)
 clear hr h K
 go_enter Tryz.func179,Tryz.ntmps179
 go_wp2_with (first
  | (go_at_call 184;refine HN.out.mono ?_;rintro e w1 ⟨rfl,rfl⟩)
  | (go_at_call 238;refine (HV.out _ HR.out).mono ?_;rintro e w2 ⟨rfl,hb⟩;have HC:=Lib.hid (HB0.out.trans (hb.mono HB0.out.size));clear hb))
 go_ret2
 exact ⟨rfl,HC.out⟩
theorem gtry_bad3 (g:Nat) (nm:Value) (f l:ByteArray) (s0 s1:St) (w:World) (hr:Res w) (h:Led w g s0 s1) (HV:Hid (∀ W,Res W→Calls Tryz.prog 238 #[.agg #[.string f,.string l]] W fun e w'=>e=.returned (.int .i64 3)∧Below W.heap.size W w')) :
  Calls Tryz.prog 179 #[.pointer (some ⟨g,0,none⟩),nm,.agg #[.string f,.string l]] w fun e w'=>e=.returned (.tuple #[.slice none 0 0,.int .i64 3])∧Below w.heap.size w w':=by
 have HB0:=Lib.hid (below_alloc (Below.refl w.heap.size w) (.cells #[.string f,.string l] 97))
 have K:=Blk.new w 97 #[.string f,.string l]
 obtain ⟨b0,b1⟩:=cells2 K
 have bl:=K.lt
 have HN:=Lib.hid (gnone_led g s0 s1 _ (h.later HB0.out))
 have HR:=Lib.hid (hr.below HB0.out)
 clear hr h K
 go_enter Tryz.func179,Tryz.ntmps179
 go_wp2_with (first
  | (go_at_call 184;refine HN.out.mono ?_;rintro e w1 ⟨rfl,rfl⟩)
  | (go_at_call 238;refine (HV.out _ HR.out).mono ?_;rintro e w2 ⟨rfl,hb⟩;have HC:=Lib.hid (HB0.out.trans (hb.mono HB0.out.size));clear hb))
 go_ret2
 exact ⟨rfl,HC.out⟩
theorem gtry_unknown (g nb nc:Nat) (f l:ByteArray) (s0 s1:St) (w:World) (hr:Res w) (h:Led w g s0 s1) (hn:w.cell? ⟨nb,0,none⟩=some (.string ⟨#[99]⟩)) (hl:nb < w.heap.size)
  (HV:Hid (∀ W,Res W→Calls Tryz.prog 238 #[.agg #[.string f,.string l]] W fun e w'=>e=.returned (.int .i64 0)∧Below W.heap.size W w')) :
  Calls Tryz.prog 179 #[.pointer (some ⟨g,0,none⟩),.slice (some ⟨nb,0,none⟩) 1 nc,.agg #[.string f,.string l]] w fun e w'=>e=.returned (.tuple #[.slice none 0 0,.int .i64 7])∧Below w.heap.size w w':=by
 have N:=Lib.hid (TI.new (f:=f) (l:=l) hr h hn hl)
 have HN:=Lib.hid (fun W (hW:Led W g s0 s1)=>gnone_led g _ _ W hW)
 have hmx:Tryz.prog.follows .mixedOrders=true:=by kernel_rfl
 clear hr h hn hl
 obtain ⟨b0,b1⟩:=cells2 N.out.kc
 have bl:=N.out.kc.lt
 go_enter Tryz.func179,Tryz.ntmps179
 go_wp2_with (first
  | (go_at_call 184;refine (HN.out _ N.out.led).mono ?_;rintro e w1 ⟨rfl,rfl⟩)
  | (go_at_call 238;refine (HV.out _ N.out.nw.res).mono ?_;rintro e w2 ⟨rfl,hb⟩;have N:=Lib.hid (N.out.later hb);clear hb b0 b1 bl;obtain ⟨qA,qn,qc,mb,qv,kg,hm,hw⟩:=N.out.led;have p1:w2.cell? ⟨g,1,none⟩=some (.map (some mb)):=kg.cell 1;have p2:w2.cell? ⟨g,2,none⟩=some qv:=kg.cell 2;have HM:=Lib.hid hm;have HW:=Lib.hid hw;have pn:=N.out.nm;have pl:=N.out.nl;have gl:=kg.lt;clear kg hm hw))
 refine wp_loop_rounds 2 ?_
 rw [rounds_succ]
 go_wp2_with (first
  | (at_lookup;refine wpList_lookup_own_ok_int _ rfl _ _ 108 rfl 9 3 .i64 lawN Tryz.underlying108 Tryz.underlying3 (zeroN _) mb 2 ixD rfl HM.out _ _ rfl keyC ?_;intro ci hat hwc;rw [ixD_c] at hat;simp only [DataW.lit.injEq,Lit.int.injEq,true_and] at hat;subst hat;rw [has_c];clear hwc)
  | (go_at_call 239;refine (gcontains0 _ _ _ _).mono ?_;rintro e w3 ⟨rfl,h3⟩;replace h3:=h3.symm;subst h3))
 go_ret2
 exact ⟨rfl,N.out.nw.below⟩
theorem gtry_over (g nb nc:Nat) (f l:ByteArray) (lf ld f0 d0 f2 d2:ByteArray) (n m:Int) (s1:St) (w:World) (hr:Res w) (h:Led w g (St.dir lf ld f0 d0 n) s1) (hn:w.cell? ⟨nb,0,none⟩=some (.string ⟨#[97]⟩)) (hl:nb < w.heap.size)
  (HV:Hid (∀ W,Res W→Calls Tryz.prog 238 #[.agg #[.string f,.string l]] W fun e w'=>e=.returned (.int .i64 0)∧Below W.heap.size W w'))
  (HA:Hid (∀ W,Res W→Calls Tryz.prog 378 #[.agg #[.string lf,.string ld,.string f0,.string d0,.int .i64 n],.agg #[.string f,.string l]] W fun e w'=>e=.returned (.tuple #[(St.dir lf ld f2 d2 m).val,.bool false])∧Below W.heap.size W w')) :
  Calls Tryz.prog 179 #[.pointer (some ⟨g,0,none⟩),.slice (some ⟨nb,0,none⟩) 1 nc,.agg #[.string f,.string l]] w fun e w'=>e=.returned (.tuple #[.slice none 0 0,.int .i64 14])∧Below w.heap.size w w':=by
 have N:=Lib.hid (TI.new (f:=f) (l:=l) hr h hn hl)
 have HN:=Lib.hid (fun W (hW:Led W g (St.dir lf ld f0 d0 n) s1)=>gnone_led g _ _ W hW)
 have hmx:Tryz.prog.follows .mixedOrders=true:=by kernel_rfl
 have ME:=@meth_da
 clear hr h hn hl
 obtain ⟨b0,b1⟩:=cells2 N.out.kc
 have bl:=N.out.kc.lt
 go_enter Tryz.func179,Tryz.ntmps179
 go_wp2_with (first
  | (go_at_call 184;refine (HN.out _ N.out.led).mono ?_;rintro e w1 ⟨rfl,rfl⟩)
  | (go_at_call 238;refine (HV.out _ N.out.nw.res).mono ?_;rintro e w2 ⟨rfl,hb⟩;have N:=Lib.hid (N.out.later hb);clear hb b0 b1 bl;obtain ⟨qA,qn,qc,mb,qv,kg,hm,hw⟩:=N.out.led;have p1:w2.cell? ⟨g,1,none⟩=some (.map (some mb)):=kg.cell 1;have p2:w2.cell? ⟨g,2,none⟩=some qv:=kg.cell 2;have HM:=Lib.hid hm;have HW:=Lib.hid hw;have pn:=N.out.nm;have pl:=N.out.nl;have gl:=kg.lt;clear kg hm hw))
 refine wp_loop_rounds 2 ?_
 rw [rounds_succ]
 go_wp2_with (first
  | (at_lookup;refine wpList_lookup_own_ok_int _ rfl _ _ 108 rfl 9 3 .i64 lawN Tryz.underlying108 Tryz.underlying3 (zeroN _) mb 2 ixD rfl HM.out _ _ rfl keyA ?_;intro ci hat hwc;rw [ixD_a] at hat;simp only [DataW.lit.injEq,Lit.int.injEq,true_and] at hat;subst hat;rw [has_a];clear hwc)
  | (go_at_call 239;refine (gcontains0 _ _ _ _).mono ?_;rintro e w3 ⟨rfl,h3⟩;replace h3:=h3.symm;subst h3))
 rw [rounds_succ]
 have HCL:=Lib.hid (show ∃ sb sc,qv=.slice (some ⟨sb,0,none⟩) 2 sc∧sb < w2.heap.size∧w2.cell? ⟨sb,0,none⟩=some (St.dir lf ld f0 d0 n).val∧w2.cell? ⟨sb,1,none⟩=some (s1).val from by obtain ⟨a,b,h1,_,h2,h3,h4⟩:=row_two HW.out;exact ⟨a,b,h1,h2,h3,h4⟩)
 obtain ⟨sb,sc,rfl,hs1,hs2,hs3⟩:=HCL.out
 have HKL:=Lib.hid (gclone_st sb 2 sc [(St.dir lf ld f0 d0 n).val,(s1).val] w2 hs1 rfl (by omega) (fun j u hj=>by match j,hj with|0,hj=>(simp at hj;subst hj;exact hs2)|1,hj=>(simp at hj;subst hj;exact hs3)) (fun u hu=>by simp only [List.mem_cons,List.not_mem_nil,or_false] at hu;rcases hu with rfl|rfl<;>exact St.one _))
 clear hs1 hs2 hs3 HCL
 go_wp2_with (go_at_call 185;refine HKL.out.mono ?_;rintro e w4 ⟨⟨v4,rfl,hv4⟩,hb⟩;obtain ⟨cb,cc,rfl,hcb,hcl,k0,k1⟩:=row_two hv4;have HV4:=Lib.hid (Go.Joins.ownsRow_le hv4 N.out.nw.below.size);have HCB:=Lib.hid (Nat.le_trans N.out.nw.below.size hcb);have N:=Lib.hid (N.out.later hb);clear hb hv4 hcb HM HW HKL p1 p2 pn pl gl;obtain ⟨qA,qn,qc,mb,qv,kg,hm,hw⟩:=N.out.led;have p1:w4.cell? ⟨g,1,none⟩=some (.map (some mb)):=kg.cell 1;have p2:w4.cell? ⟨g,2,none⟩=some qv:=kg.cell 2;have HM:=Lib.hid hm;have HW:=Lib.hid hw;have pn:=N.out.nm;have pl:=N.out.nl;have gl:=kg.lt;clear kg hm hw)
 refine wp_loop_rounds 2 ?_
 rw [rounds_succ]
 go_wp2_with (at_lookup;refine wpList_lookup_own_int _ rfl _ _ 108 rfl 9 3 .i64 lawN Tryz.underlying108 Tryz.underlying3 (zeroN _) mb 2 ixD rfl HM.out _ _ rfl keyA ?_;intro ci hat hwc;rw [ixD_a] at hat;simp only [DataW.lit.injEq,Lit.int.injEq,true_and] at hat;subst hat;clear hwc)
 generalize hW5:w4=W5 at *
 clear hW5 p1 p2 pn pl gl HM HW
 unfold St.val at k0
 have v0:∀ x:SameAt W5 (fun k=>k < W5.heap.size),x.W.cell? ⟨cb,0,none⟩=some _:=fun x=>x.cell hcl k0
 have v1:∀ x:SameAt W5 (fun k=>k < W5.heap.size),x.W.cell? ⟨w.heap.size,0,none⟩=some (.string f):=fun x=>x.cell N.out.kc.lt (N.out.kc.cell 0)
 have v2:∀ x:SameAt W5 (fun k=>k < W5.heap.size),x.W.cell? ⟨w.heap.size,1,none⟩=some (.string l):=fun x=>x.cell N.out.kc.lt (N.out.kc.cell 1)
 refine wpIn_wide.1 (wpIn_stage (n:=3) (IsSame W5 (fun k=>k < W5.heap.size)) [0,1,2,3,4,6,7,8,9,10] [] hmx (by kernel_rfl) (isSame_of fun _ _=>rfl) ?_)
 change wpStage _ _ _ _ _ _ _ _ (6+5) _ _ _
 refine stage_reads [0,1,2,3,4] 6 _ _ (by kernel_rfl) ?_
 change wpQuietIn _ _ _ _ (fun W'=>∃ x:SameAt W5 (fun k=>k < W5.heap.size),W'=x.W) _ _ _
 simp only [pick_cons,pick_nil,List.getElem?_cons_zero,List.getElem?_cons_succ,Option.elim_some]
 repeat (gi_big_quiet_step (fail))
 refine wpQuietIn_nil ?_
 clear v0 v1 v2
 refine stage_one 5 (by kernel_rfl) rfl ?_
 gi_wp2_with (gi_at_call 378;refine (callsIn_wide.2 (HA.out _ (N.out.nw.res.below (below_drewM W5)))).mono ?_;rintro e w6 ⟨rfl,hb⟩;have HB6:=Lib.hid (show Below W5.heap.size W5 w6 from (below_drewM W5).trans hb);clear hb)
 refine stage_post (isSame_below HB6.out (fun k hk=>hk)) ?_
 change wpStage _ _ _ _ _ _ _ _ (0+5) _ _ _
 refine stage_reads [6,7,8,9,10] 0 _ _ (by kernel_rfl) ?_
 change wpQuietIn _ _ _ _ (fun W'=>∃ x:SameAt W5 (fun k=>k < W5.heap.size),W'=x.W) _ _ _
 simp only [pick_cons,pick_nil,List.getElem?_cons_zero,List.getElem?_cons_succ,Option.elim_some]
 repeat (gi_big_quiet_step (fail))
 refine wpQuietIn_nil ?_
 refine stage_done (by kernel_rfl) ?_
 have N:=Lib.hid (N.out.later HB6.out)
 clear HB6
 go_wp2
 go_ret2
 exact ⟨rfl,N.out.nw.below⟩
theorem gtry_double (g nb:Nat) (f l:ByteArray) (s0 s1:St) (w:World) (hr:Res w) (h:Led w g s0 s1) (hn:w.cell? ⟨nb,0,none⟩=some (.string ⟨#[98]⟩)) (hn1:w.cell? ⟨nb,1,none⟩=some (.string ⟨#[98]⟩)) (hl:nb < w.heap.size)
  (HV:Hid (∀ W,Res W→Calls Tryz.prog 238 #[.agg #[.string f,.string l]] W fun e w'=>e=.returned (.int .i64 0)∧Below W.heap.size W w')) :
  Calls Tryz.prog 179 #[.pointer (some ⟨g,0,none⟩),.slice (some ⟨nb,0,none⟩) 2 2,.agg #[.string f,.string l]] w fun e w'=>e=.returned (.tuple #[.slice none 0 0,.int .i64 8])∧Below w.heap.size w w':=by
 have N:=Lib.hid (TI.new (f:=f) (l:=l) hr h hn hl)
 have HN:=Lib.hid (fun W (hW:Led W g s0 s1)=>gnone_led g _ _ W hW)
 have hmx:Tryz.prog.follows .mixedOrders=true:=by kernel_rfl
 have HX:=Lib.hid (fun (W:World) (hb:Below w.heap.size w W)=>(hb.cell (p:=⟨nb,1,none⟩) hl).trans hn1)
 clear hr h hn hn1 hl
 obtain ⟨b0,b1⟩:=cells2 N.out.kc
 have bl:=N.out.kc.lt
 go_enter Tryz.func179,Tryz.ntmps179
 go_wp2_with (first
  | (go_at_call 184;refine (HN.out _ N.out.led).mono ?_;rintro e w1 ⟨rfl,rfl⟩)
  | (go_at_call 238;refine (HV.out _ N.out.nw.res).mono ?_;rintro e w2 ⟨rfl,hb⟩;have N:=Lib.hid (N.out.later hb);clear hb b0 b1 bl;obtain ⟨qA,qn,qc,mb,qv,kg,hm,hw⟩:=N.out.led;have p1:w2.cell? ⟨g,1,none⟩=some (.map (some mb)):=kg.cell 1;have p2:w2.cell? ⟨g,2,none⟩=some qv:=kg.cell 2;have HM:=Lib.hid hm;have HW:=Lib.hid hw;have pn:=N.out.nm;have pl:=N.out.nl;have gl:=kg.lt;clear kg hm hw))
 have pn1:=HX.out _ N.out.nw.below
 refine wp_loop_rounds 3 ?_
 rw [rounds_succ]
 go_wp2_with (first
  | (at_lookup;refine wpList_lookup_own_ok_int _ rfl _ _ 108 rfl 9 3 .i64 lawN Tryz.underlying108 Tryz.underlying3 (zeroN _) mb 2 ixD rfl HM.out _ _ rfl keyB ?_;intro ci hat hwc;rw [ixD_b] at hat;simp only [DataW.lit.injEq,Lit.int.injEq,true_and] at hat;subst hat;rw [has_b];clear hwc)
  | (go_at_call 239;refine (gcontains0 _ _ _ _).mono ?_;rintro e w3 ⟨rfl,h3⟩;replace h3:=h3.symm;subst h3))
 rw [rounds_succ]
 go_wp2_with (first
  | (at_lookup;refine wpList_lookup_own_ok_int _ rfl _ _ 108 rfl 9 3 .i64 lawN Tryz.underlying108 Tryz.underlying3 (zeroN _) mb 2 ixD rfl HM.out _ _ rfl keyB ?_;intro ci hat hwc;rw [ixD_b] at hat;simp only [DataW.lit.injEq,Lit.int.injEq,true_and] at hat;subst hat;rw [has_b];clear hwc)
  | (go_at_call 239;refine (gcontains_bb _ _ _ pn pl).mono ?_;rintro e w3 ⟨rfl,h3⟩;replace h3:=h3.symm;subst h3))
 go_ret2
 exact ⟨rfl,N.out.nw.below⟩
theorem gtry_over2 (g nb:Nat) (f l:ByteArray) (lf ld f0 d0 f2 d2:ByteArray) (n m:Int) (s1:St) (w:World) (hr:Res w) (h:Led w g (St.dir lf ld f0 d0 n) s1) (hn:w.cell? ⟨nb,0,none⟩=some (.string ⟨#[97]⟩)) (hn1:w.cell? ⟨nb,1,none⟩=some (.string ⟨#[98]⟩)) (hl:nb < w.heap.size)
  (HV:Hid (∀ W,Res W→Calls Tryz.prog 238 #[.agg #[.string f,.string l]] W fun e w'=>e=.returned (.int .i64 0)∧Below W.heap.size W w'))
  (HA:Hid (∀ W,Res W→Calls Tryz.prog 378 #[.agg #[.string lf,.string ld,.string f0,.string d0,.int .i64 n],.agg #[.string f,.string l]] W fun e w'=>e=.returned (.tuple #[(St.dir lf ld f2 d2 m).val,.bool false])∧Below W.heap.size W w')) :
  Calls Tryz.prog 179 #[.pointer (some ⟨g,0,none⟩),.slice (some ⟨nb,0,none⟩) 2 2,.agg #[.string f,.string l]] w fun e w'=>e=.returned (.tuple #[.slice none 0 0,.int .i64 14])∧Below w.heap.size w w':=by
 have N:=Lib.hid (TI.new (f:=f) (l:=l) hr h hn hl)
 have HN:=Lib.hid (fun W (hW:Led W g (St.dir lf ld f0 d0 n) s1)=>gnone_led g _ _ W hW)
 have hmx:Tryz.prog.follows .mixedOrders=true:=by kernel_rfl
 have ME:=@meth_da
 have HX:=Lib.hid (fun (W:World) (hb:Below w.heap.size w W)=>(hb.cell (p:=⟨nb,1,none⟩) hl).trans hn1)
 clear hr h hn hn1 hl
 obtain ⟨b0,b1⟩:=cells2 N.out.kc
 have bl:=N.out.kc.lt
 go_enter Tryz.func179,Tryz.ntmps179
 go_wp2_with (first
  | (go_at_call 184;refine (HN.out _ N.out.led).mono ?_;rintro e w1 ⟨rfl,rfl⟩)
  | (go_at_call 238;refine (HV.out _ N.out.nw.res).mono ?_;rintro e w2 ⟨rfl,hb⟩;have N:=Lib.hid (N.out.later hb);clear hb b0 b1 bl;obtain ⟨qA,qn,qc,mb,qv,kg,hm,hw⟩:=N.out.led;have p1:w2.cell? ⟨g,1,none⟩=some (.map (some mb)):=kg.cell 1;have p2:w2.cell? ⟨g,2,none⟩=some qv:=kg.cell 2;have HM:=Lib.hid hm;have HW:=Lib.hid hw;have pn:=N.out.nm;have pl:=N.out.nl;have gl:=kg.lt;clear kg hm hw))
 have pn1:=HX.out _ N.out.nw.below
 refine wp_loop_rounds 3 ?_
 rw [rounds_succ]
 go_wp2_with (first
  | (at_lookup;refine wpList_lookup_own_ok_int _ rfl _ _ 108 rfl 9 3 .i64 lawN Tryz.underlying108 Tryz.underlying3 (zeroN _) mb 2 ixD rfl HM.out _ _ rfl keyA ?_;intro ci hat hwc;rw [ixD_a] at hat;simp only [DataW.lit.injEq,Lit.int.injEq,true_and] at hat;subst hat;rw [has_a];clear hwc)
  | (go_at_call 239;refine (gcontains0 _ _ _ _).mono ?_;rintro e w3 ⟨rfl,h3⟩;replace h3:=h3.symm;subst h3))
 rw [rounds_succ]
 go_wp2_with (first
  | (at_lookup;refine wpList_lookup_own_ok_int _ rfl _ _ 108 rfl 9 3 .i64 lawN Tryz.underlying108 Tryz.underlying3 (zeroN _) mb 2 ixD rfl HM.out _ _ rfl keyB ?_;intro ci hat hwc;rw [ixD_b] at hat;simp only [DataW.lit.injEq,Lit.int.injEq,true_and] at hat;subst hat;rw [has_b];clear hwc)
  | (go_at_call 239;refine (gcontains_ab _ _ _ pn pl).mono ?_;rintro e w3 ⟨rfl,h3⟩;replace h3:=h3.symm;subst h3))
 clear pn1
 rw [rounds_succ]
 have HCL:=Lib.hid (show ∃ sb sc,qv=.slice (some ⟨sb,0,none⟩) 2 sc∧sb < w2.heap.size∧w2.cell? ⟨sb,0,none⟩=some (St.dir lf ld f0 d0 n).val∧w2.cell? ⟨sb,1,none⟩=some (s1).val from by obtain ⟨a,b,h1,_,h2,h3,h4⟩:=row_two HW.out;exact ⟨a,b,h1,h2,h3,h4⟩)
 obtain ⟨sb,sc,rfl,hs1,hs2,hs3⟩:=HCL.out
 have HKL:=Lib.hid (gclone_st sb 2 sc [(St.dir lf ld f0 d0 n).val,(s1).val] w2 hs1 rfl (by omega) (fun j u hj=>by match j,hj with|0,hj=>(simp at hj;subst hj;exact hs2)|1,hj=>(simp at hj;subst hj;exact hs3)) (fun u hu=>by simp only [List.mem_cons,List.not_mem_nil,or_false] at hu;rcases hu with rfl|rfl<;>exact St.one _))
 clear hs1 hs2 hs3 HCL
 go_wp2_with (go_at_call 185;refine HKL.out.mono ?_;rintro e w4 ⟨⟨v4,rfl,hv4⟩,hb⟩;obtain ⟨cb,cc,rfl,hcb,hcl,k0,k1⟩:=row_two hv4;have HV4:=Lib.hid (Go.Joins.ownsRow_le hv4 N.out.nw.below.size);have HCB:=Lib.hid (Nat.le_trans N.out.nw.below.size hcb);have N:=Lib.hid (N.out.later hb);clear hb hv4 hcb HM HW HKL p1 p2 pn pl gl;obtain ⟨qA,qn,qc,mb,qv,kg,hm,hw⟩:=N.out.led;have p1:w4.cell? ⟨g,1,none⟩=some (.map (some mb)):=kg.cell 1;have p2:w4.cell? ⟨g,2,none⟩=some qv:=kg.cell 2;have HM:=Lib.hid hm;have HW:=Lib.hid hw;have pn:=N.out.nm;have pl:=N.out.nl;have gl:=kg.lt;clear kg hm hw)
 refine wp_loop_rounds 3 ?_
 rw [rounds_succ]
 go_wp2_with (at_lookup;refine wpList_lookup_own_int _ rfl _ _ 108 rfl 9 3 .i64 lawN Tryz.underlying108 Tryz.underlying3 (zeroN _) mb 2 ixD rfl HM.out _ _ rfl keyA ?_;intro ci hat hwc;rw [ixD_a] at hat;simp only [DataW.lit.injEq,Lit.int.injEq,true_and] at hat;subst hat;clear hwc)
 generalize hW5:w4=W5 at *
 clear hW5 p1 p2 pn pl gl HM HW
 unfold St.val at k0
 have v0:∀ x:SameAt W5 (fun k=>k < W5.heap.size),x.W.cell? ⟨cb,0,none⟩=some _:=fun x=>x.cell hcl k0
 have v1:∀ x:SameAt W5 (fun k=>k < W5.heap.size),x.W.cell? ⟨w.heap.size,0,none⟩=some (.string f):=fun x=>x.cell N.out.kc.lt (N.out.kc.cell 0)
 have v2:∀ x:SameAt W5 (fun k=>k < W5.heap.size),x.W.cell? ⟨w.heap.size,1,none⟩=some (.string l):=fun x=>x.cell N.out.kc.lt (N.out.kc.cell 1)
 refine wpIn_wide.1 (wpIn_stage (n:=3) (IsSame W5 (fun k=>k < W5.heap.size)) [0,1,2,3,4,6,7,8,9,10] [] hmx (by kernel_rfl) (isSame_of fun _ _=>rfl) ?_)
 change wpStage _ _ _ _ _ _ _ _ (6+5) _ _ _
 refine stage_reads [0,1,2,3,4] 6 _ _ (by kernel_rfl) ?_
 change wpQuietIn _ _ _ _ (fun W'=>∃ x:SameAt W5 (fun k=>k < W5.heap.size),W'=x.W) _ _ _
 simp only [pick_cons,pick_nil,List.getElem?_cons_zero,List.getElem?_cons_succ,Option.elim_some]
 repeat (gi_big_quiet_step (fail))
 refine wpQuietIn_nil ?_
 clear v0 v1 v2
 refine stage_one 5 (by kernel_rfl) rfl ?_
 gi_wp2_with (gi_at_call 378;refine (callsIn_wide.2 (HA.out _ (N.out.nw.res.below (below_drewM W5)))).mono ?_;rintro e w6 ⟨rfl,hb⟩;have HB6:=Lib.hid (show Below W5.heap.size W5 w6 from (below_drewM W5).trans hb);clear hb)
 refine stage_post (isSame_below HB6.out (fun k hk=>hk)) ?_
 change wpStage _ _ _ _ _ _ _ _ (0+5) _ _ _
 refine stage_reads [6,7,8,9,10] 0 _ _ (by kernel_rfl) ?_
 change wpQuietIn _ _ _ _ (fun W'=>∃ x:SameAt W5 (fun k=>k < W5.heap.size),W'=x.W) _ _ _
 simp only [pick_cons,pick_nil,List.getElem?_cons_zero,List.getElem?_cons_succ,Option.elim_some]
 repeat (gi_big_quiet_step (fail))
 refine wpQuietIn_nil ?_
 refine stage_done (by kernel_rfl) ?_
 have N:=Lib.hid (N.out.later HB6.out)
 clear HB6
 go_wp2
 go_ret2
 exact ⟨rfl,N.out.nw.below⟩
theorem gfits_err (p nm:Value) (f l:ByteArray) (k:Int) (w:World)
  (HT:Hid (Calls Tryz.prog 179 #[p,nm,.agg #[.string f,.string l]] (w.alloc (.cells #[.string f,.string l] 97)) fun e w'=>e=.returned (.tuple #[.slice none 0 0,.int .i64 k])∧Below (w.alloc (.cells #[.string f,.string l] 97)).heap.size (w.alloc (.cells #[.string f,.string l] 97)) w')) :
  Calls Tryz.prog 91 #[p,nm,.agg #[.string f,.string l]] w fun e w'=>e=.returned (.int .i64 k)∧Below w.heap.size w w':=by
 have B:=Blk.new w 97 #[.string f,.string l]
 obtain ⟨b0,b1⟩:=cells2 B
 have bl:=B.lt
 have HB0:=Lib.hid (below_alloc (Below.refl w.heap.size w) (.cells #[.string f,.string l] 97))
 clear B
 go_enter Tryz.func91,Tryz.ntmps91
 go_wp2_with (go_at_call 179;refine HT.out.mono ?_;rintro e w1 ⟨rfl,hb⟩;have HC:=Lib.hid (HB0.out.trans (hb.mono HB0.out.size));clear hb)
 go_ret
 exact ⟨rfl,HC.out⟩
theorem gres_err (p nm:Value) (f l:ByteArray) (w:World)
  (HT:Hid (Calls Tryz.prog 179 #[p,nm,.agg #[.string f,.string l]] (w.alloc (.cells #[.string f,.string l] 97)) fun e w'=>e=.returned (.tuple #[.slice none 0 0,.int .i64 14])∧Below (w.alloc (.cells #[.string f,.string l] 97)).heap.size (w.alloc (.cells #[.string f,.string l] 97)) w')) :
  Calls Tryz.prog 88 #[p,nm,.agg #[.string f,.string l]] w fun e w'=>e=.returned (.int .i64 14)∧Below w.heap.size w w':=by
 have B:=Blk.new w 97 #[.string f,.string l]
 obtain ⟨b0,b1⟩:=cells2 B
 have bl:=B.lt
 have HB0:=Lib.hid (below_alloc (Below.refl w.heap.size w) (.cells #[.string f,.string l] 97))
 clear B
 go_enter Tryz.func88,Tryz.ntmps88
 go_wp2_with (go_at_call 179;refine HT.out.mono ?_;rintro e w1 ⟨rfl,hb⟩;have HC:=Lib.hid (HB0.out.trans (hb.mono HB0.out.size));clear hb)
 go_ret
 exact ⟨rfl,HC.out⟩
theorem gtry_b (g nb nc:Nat) (f l:ByteArray) (lf ld:ByteArray) (c t:CT) (n m:Int) (s0:St) (w:World) (hr:Res w) (h:Led w g s0 (St.cur lf ld c 2 n)) (hn:w.cell? ⟨nb,0,none⟩=some (.string ⟨#[98]⟩)) (hl:nb < w.heap.size)
  (HV:Hid (∀ W,Res W→Calls Tryz.prog 238 #[.agg #[.string f,.string l]] W fun e w'=>e=.returned (.int .i64 0)∧Below W.heap.size W w'))
  (HA:Hid (∀ W,Res W→Calls Tryz.prog 382 #[.agg #[.string lf,.string ld,.string (c 0),.string (c 1),.string (c 2),.string (c 3),.string (c 4),.string (c 5),.string (c 6),.string (c 7),.int .i64 2,.int .i64 n],.agg #[.string f,.string l]] W fun e w'=>e=.returned (.tuple #[(St.cur lf ld t 2 m).val,.bool true])∧Below W.heap.size W w')) :
  Calls Tryz.prog 179 #[.pointer (some ⟨g,0,none⟩),.slice (some ⟨nb,0,none⟩) 1 nc,.agg #[.string f,.string l]] w fun e w'=>(∃ v,e=.returned (.tuple #[v,.int .i64 0])∧w'.ownsRow w.heap.size 199 1 v 2 [(s0).val,(St.cur lf ld t 2 m).val])∧Below w.heap.size w w':=by
 have N:=Lib.hid (TI.new (f:=f) (l:=l) hr h hn hl)
 have HN:=Lib.hid (fun W (hW:Led W g s0 (St.cur lf ld c 2 n))=>gnone_led g _ _ W hW)
 have hmx:Tryz.prog.follows .mixedOrders=true:=by kernel_rfl
 have ME:=@meth_ca
 clear hr h hn hl
 obtain ⟨b0,b1⟩:=cells2 N.out.kc
 have bl:=N.out.kc.lt
 go_enter Tryz.func179,Tryz.ntmps179
 go_wp2_with (first
  | (go_at_call 184;refine (HN.out _ N.out.led).mono ?_;rintro e w1 ⟨rfl,rfl⟩)
  | (go_at_call 238;refine (HV.out _ N.out.nw.res).mono ?_;rintro e w2 ⟨rfl,hb⟩;have N:=Lib.hid (N.out.later hb);clear hb b0 b1 bl;obtain ⟨qA,qn,qc,mb,qv,kg,hm,hw⟩:=N.out.led;have p1:w2.cell? ⟨g,1,none⟩=some (.map (some mb)):=kg.cell 1;have p2:w2.cell? ⟨g,2,none⟩=some qv:=kg.cell 2;have HM:=Lib.hid hm;have HW:=Lib.hid hw;have pn:=N.out.nm;have pl:=N.out.nl;have gl:=kg.lt;clear kg hm hw))
 refine wp_loop_rounds 2 ?_
 rw [rounds_succ]
 go_wp2_with (first
  | (at_lookup;refine wpList_lookup_own_ok_int _ rfl _ _ 108 rfl 9 3 .i64 lawN Tryz.underlying108 Tryz.underlying3 (zeroN _) mb 2 ixD rfl HM.out _ _ rfl keyB ?_;intro ci hat hwc;rw [ixD_b] at hat;simp only [DataW.lit.injEq,Lit.int.injEq,true_and] at hat;subst hat;rw [has_b];clear hwc)
  | (go_at_call 239;refine (gcontains0 _ _ _ _).mono ?_;rintro e w3 ⟨rfl,h3⟩;replace h3:=h3.symm;subst h3))
 rw [rounds_succ]
 have HCL:=Lib.hid (show ∃ sb sc,qv=.slice (some ⟨sb,0,none⟩) 2 sc∧sb < w2.heap.size∧w2.cell? ⟨sb,0,none⟩=some (s0).val∧w2.cell? ⟨sb,1,none⟩=some (St.cur lf ld c 2 n).val from by obtain ⟨a,b,h1,_,h2,h3,h4⟩:=row_two HW.out;exact ⟨a,b,h1,h2,h3,h4⟩)
 obtain ⟨sb,sc,rfl,hs1,hs2,hs3⟩:=HCL.out
 have HKL:=Lib.hid (gclone_st sb 2 sc [(s0).val,(St.cur lf ld c 2 n).val] w2 hs1 rfl (by omega) (fun j u hj=>by match j,hj with|0,hj=>(simp at hj;subst hj;exact hs2)|1,hj=>(simp at hj;subst hj;exact hs3)) (fun u hu=>by simp only [List.mem_cons,List.not_mem_nil,or_false] at hu;rcases hu with rfl|rfl<;>exact St.one _))
 clear hs1 hs2 hs3 HCL
 go_wp2_with (go_at_call 185;refine HKL.out.mono ?_;rintro e w4 ⟨⟨v4,rfl,hv4⟩,hb⟩;obtain ⟨cb,cc,rfl,hcb,hcl,k0,k1⟩:=row_two hv4;have HV4:=Lib.hid (Go.Joins.ownsRow_le hv4 N.out.nw.below.size);have HCB:=Lib.hid (Nat.le_trans N.out.nw.below.size hcb);have N:=Lib.hid (N.out.later hb);clear hb hv4 hcb HM HW HKL p1 p2 pn pl gl;obtain ⟨qA,qn,qc,mb,qv,kg,hm,hw⟩:=N.out.led;have p1:w4.cell? ⟨g,1,none⟩=some (.map (some mb)):=kg.cell 1;have p2:w4.cell? ⟨g,2,none⟩=some qv:=kg.cell 2;have HM:=Lib.hid hm;have HW:=Lib.hid hw;have pn:=N.out.nm;have pl:=N.out.nl;have gl:=kg.lt;clear kg hm hw)
 refine wp_loop_rounds 2 ?_
 rw [rounds_succ]
 go_wp2_with (at_lookup;refine wpList_lookup_own_int _ rfl _ _ 108 rfl 9 3 .i64 lawN Tryz.underlying108 Tryz.underlying3 (zeroN _) mb 2 ixD rfl HM.out _ _ rfl keyB ?_;intro ci hat hwc;rw [ixD_b] at hat;simp only [DataW.lit.injEq,Lit.int.injEq,true_and] at hat;subst hat;clear hwc)
 generalize hW5:w4=W5 at *
 clear hW5 p1 p2 pn pl gl HM HW
 unfold St.val at k1
 have v0:∀ x:SameAt W5 (fun k=>k < W5.heap.size),x.W.cell? ⟨cb,1,none⟩=some _:=fun x=>x.cell hcl k1
 have v1:∀ x:SameAt W5 (fun k=>k < W5.heap.size),x.W.cell? ⟨w.heap.size,0,none⟩=some (.string f):=fun x=>x.cell N.out.kc.lt (N.out.kc.cell 0)
 have v2:∀ x:SameAt W5 (fun k=>k < W5.heap.size),x.W.cell? ⟨w.heap.size,1,none⟩=some (.string l):=fun x=>x.cell N.out.kc.lt (N.out.kc.cell 1)
 refine wpIn_wide.1 (wpIn_stage (n:=3) (IsSame W5 (fun k=>k < W5.heap.size)) [0,1,2,3,4,6,7,8,9,10] [] hmx (by kernel_rfl) (isSame_of fun _ _=>rfl) ?_)
 change wpStage _ _ _ _ _ _ _ _ (6+5) _ _ _
 refine stage_reads [0,1,2,3,4] 6 _ _ (by kernel_rfl) ?_
 change wpQuietIn _ _ _ _ (fun W'=>∃ x:SameAt W5 (fun k=>k < W5.heap.size),W'=x.W) _ _ _
 simp only [pick_cons,pick_nil,List.getElem?_cons_zero,List.getElem?_cons_succ,Option.elim_some]
 repeat (gi_big_quiet_step (fail))
 refine wpQuietIn_nil ?_
 clear v0 v1 v2
 refine stage_one 5 (by kernel_rfl) rfl ?_
 gi_wp2_with (gi_at_call 382;refine (callsIn_wide.2 (HA.out _ (N.out.nw.res.below (below_drewM W5)))).mono ?_;rintro e w6 ⟨rfl,hb⟩;have HB6:=Lib.hid (show Below W5.heap.size W5 w6 from (below_drewM W5).trans hb);clear hb)
 refine stage_post (isSame_below HB6.out (fun k hk=>hk)) ?_
 change wpStage _ _ _ _ _ _ _ _ (0+5) _ _ _
 refine stage_reads [6,7,8,9,10] 0 _ _ (by kernel_rfl) ?_
 change wpQuietIn _ _ _ _ (fun W'=>∃ x:SameAt W5 (fun k=>k < W5.heap.size),W'=x.W) _ _ _
 simp only [pick_cons,pick_nil,List.getElem?_cons_zero,List.getElem?_cons_succ,Option.elim_some]
 repeat (gi_big_quiet_step (fail))
 refine wpQuietIn_nil ?_
 refine stage_done (by kernel_rfl) ?_
 have HV6:=Lib.hid (own_later HV4.out HB6.out)
 have N:=Lib.hid (N.out.later HB6.out)
 have hl6:cb < w6.heap.size:=Nat.lt_of_lt_of_le hcl HB6.out.size
 have hc6:w6.cell? ⟨cb,1,none⟩=some (St.cur lf ld c 2 n).val:=(World.ownsRow.cellAt HV6.out 1 (by omega))
 have hf6:w6.frozen? ⟨cb,1,none⟩=false:=World.ownsRow.frozenAt HV6.out 1
 unfold St.val at hc6 ⊢
 go_wp2
 rw [rounds_succ]
 go_wp2
 go_ret2
 obtain ⟨r1,r2⟩:=World.ownsRow.stored HV6.out 1 (St.cur lf ld t 2 m).val
 exact ⟨⟨_,rfl,r1⟩,N.out.nw.below.setCell (p:=⟨cb,1,none⟩) HCB.out _⟩
end Go.Proofs.YtigapglmipmbeaaGreatDoor
