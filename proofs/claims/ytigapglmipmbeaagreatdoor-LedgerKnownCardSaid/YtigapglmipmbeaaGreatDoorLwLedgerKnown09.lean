/- limited, plus and above of losses. above: the loss with the greater parts. The order and the sums of losses, in plain rationals. fold: losses combined, from None on; Add, Sum and Max. loss.Add, Sum and Max. loss.Fits. loss.Group. The door of a function that defers ends, inside the wide fence. loss.Late, where no number on the way is too long. Curves of moments in memory, and the iterator over the orders of a curve. Curves of moments in plain rationals: what Check, Of, Add, Fits, To and Best compute. moment.least, between and the chain's steps, where nothing fails. moment.Check. -/
import Derived.Test.YtigapglmipmbeaaGreatDoorLwLedgerKnown08
import Derived.Test.YtigapglmipmbeaaGreatDoorLwLedgerKnown02
import Derived.Test.YtigapglmipmbeaaGreatDoorLwLedgerKnown06
import Derived.RecoverIn
import Derived.TacticsInMore
import Derived.Test.YtigapglmipmbeaaGreatDoorLwLedgerKnown03
import Derived.Test.YtigapglmipmbeaaGreatDoorLwLedgerKnown07
import Derived.ArgAppend
set_option maxRecDepth 100000
set_option maxHeartbeats 16000000
namespace Go.Proofs.YtigapglmipmbeaaGreatDoor
open Go.RowKit Go.Shelf
open Lim
def endL:Except Nat LQ→Ending
 | .ok l=>.returned (lossT l)
 | .error n=>.panicked (pan n)
theorem five:(5:Nat)≠0:=by decide
theorem limited_any {f d:ByteArray} {D:Rat} (w:World) (hd:IsT d D) (hr:Res w) :
  Calls Tryz.prog 166 #[.string f,.string d] w fun e w'=>e=.returned (.agg #[.string f,.string (rT (minQ D 1))])∧Below w.heap.size w w':=by
 have HX:=Lib.hid (below_alloc (Below.refl w.heap.size w) (.cells #[.string ⟨#[]⟩,.string ⟨#[]⟩] 183))
 have HK:=Lib.hid (Blk.new w 183 #[.string ⟨#[]⟩,.string ⟨#[]⟩])
 have HM:=Lib.hid (minT (w.alloc (.cells #[.string ⟨#[]⟩,.string ⟨#[]⟩] 183)) hd IsT.one (rT_min hd IsT.one).symm (hr.below HX.out))
 generalize rT (minQ D 1)=m at HM ⊢
 clear hd hr
 go_enter Tryz.func166,Tryz.ntmps166
 go_wp2_with (first
  | (go_at_call 143;refine HM.out.mono ?_;rintro e w1 ⟨rfl,hb⟩;have HB:=Lib.hid (HX.out.trans (hb.mono HX.out.size));have HK1:=Lib.hid (HK.out.below hb HK.out.lt);obtain ⟨p0,p1⟩:=cells2 HK1.out;have z0:=HK1.out.frozen 0;have z1:=HK1.out.frozen 1;clear hb)
  | (go_at_call 165;refine (mustN_ok _ _).mono ?_;rintro e w2 ⟨rfl,hw⟩;subst hw))
 refine bodyPost_ret (run_cell rfl rfl (load_bound ((HK1.out.set_ 0 (.string f)).set_ 1 (.string m)))) rfl ⟨rfl,(HB.out.setCell (Nat.le_refl _) _).setCell (Nat.le_refl _) _⟩
structure At3 (w:World) (t1 t2 t3:TypeId) (c1 c2 c3:Array Value) (W:World):Prop where
 a:Blk W w.heap.size t1 c1
 b:Blk W (w.heap.size+1) t2 c2
 c:Blk W (w.heap.size+1+1) t3 c3
 res:Res W
 below:Below w.heap.size w W
theorem At3.later {w W W':World} {t1 t2 t3:TypeId} {c1 c2 c3:Array Value} (h:At3 w t1 t2 t3 c1 c2 c3 W) (hb:Below W.heap.size W W'):At3 w t1 t2 t3 c1 c2 c3 W' :=
 ⟨h.a.below hb h.a.lt,h.b.below hb h.b.lt,h.c.below hb h.c.lt,h.res.below hb,h.below.trans (hb.mono h.below.size)⟩
theorem At3.new (w:World) (t1 t2 t3:TypeId) (c1 c2 c3:Array Value) (hr:Res w):At3 w t1 t2 t3 c1 c2 c3 (((w.alloc (.cells c1 t1)).alloc (.cells c2 t2)).alloc (.cells c3 t3)):=by
 have b1:=below_alloc (Below.refl w.heap.size w) (.cells c1 t1)
 have b2:=below_alloc b1 (.cells c2 t2)
 have b3:=below_alloc b2 (.cells c3 t3)
 have k1:=Blk.new w t1 c1
 have k2:=Blk.new (w.alloc (.cells c1 t1)) t2 c2
 have k3:=Blk.new ((w.alloc (.cells c1 t1)).alloc (.cells c2 t2)) t3 c3
 have e1:(w.alloc (.cells c1 t1)).heap.size=w.heap.size+1:=by simp
 have e2:((w.alloc (.cells c1 t1)).alloc (.cells c2 t2)).heap.size=w.heap.size+1+1:=by simp
 rw [e1] at k2
 rw [e2] at k3
 exact ⟨(k1.alloc _).alloc _,k2.alloc _,k3,hr.below b3,b3⟩
theorem le2 (n:Nat):n≤n+1+1:=Nat.le_trans (Nat.le_succ n) (Nat.le_succ _)
theorem plus_ok {f d f' d':ByteArray} {a b:LQ} (w:World) (ha:LossIs f d a) (hb:LossIs f' d' b) (h1:fits (a.1*b.1)=true) (h2:fits (a.2+b.2)=true) (hr:Res w) :
  Calls Tryz.prog 162 #[.agg #[.string f,.string d],.agg #[.string f',.string d']] w fun e w'=>e=.returned (.agg #[.string (rT (a.1*b.1)),.string (rT (minQ (a.2+b.2) 1))])∧Below w.heap.size w w':=by
 have H:=Lib.hid (At3.new w 183 183 183 #[.string f,.string d] #[.string f',.string d'] #[.string ⟨#[]⟩,.string ⟨#[]⟩] hr)
 have HM:=Lib.hid (fun w hr=>mulT w ha.f hb.f (isT_rT h1) hr)
 have HA:=Lib.hid (fun w hr=>addT w ha.d hb.d (isT_rT h2) hr)
 have HL:=Lib.hid (fun (w:World) hr=>limited_any (f:=rT (a.1*b.1)) w (isT_rT h2) hr)
 generalize rT (a.1*b.1)=m at *
 generalize rT (a.2+b.2)=s at *
 generalize rT (minQ (a.2+b.2) 1)=l at *
 have TK1:True:=trivial
 clear ha hb h1 h2 hr
 go_enter Tryz.func162,Tryz.ntmps162
 go_wp2_with (first
  | (go_at_call 130;refine (HM.out _ H.out.res).mono ?_;rintro e w1 ⟨rfl,hb⟩;have H1:=Lib.hid (H.out.later hb);obtain ⟨-,p1⟩:=cells2 H1.out.a;obtain ⟨-,q1⟩:=cells2 H1.out.b;clear hb)
  | (clear TK1;go_at_call 165;refine (mustN_ok _ _).mono ?_;rintro e w2 ⟨rfl,hw⟩;subst hw)
  | (go_at_call 107;refine (HA.out _ H1.out.res).mono ?_;rintro e w3 ⟨rfl,hb⟩;have H3:=Lib.hid (H1.out.later hb);clear hb)
  | (go_at_call 165;refine (mustN_ok _ _).mono ?_;rintro e w4 ⟨rfl,hw⟩;subst hw)
  | (go_at_call 166;refine (HL.out _ H3.out.res).mono ?_;rintro e w5 ⟨rfl,hb⟩;have H5:=Lib.hid (H3.out.later hb);obtain ⟨r5,s5⟩:=cells2 H5.out.c;have y5:=H5.out.c.frozen 0;have z5:=H5.out.c.frozen 1;clear hb))
 refine bodyPost_ret (run_cell rfl rfl (load_bound ((H5.out.c.set_ 0 (.string m)).set_ 1 (.string l)))) rfl ⟨rfl,(H5.out.below.setCell (le2 _) _).setCell (le2 _) _⟩
theorem plus_no2 {f d f' d':ByteArray} {a b:LQ} (w:World) (ha:LossIs f d a) (hb:LossIs f' d' b) (h1:fits (a.1*b.1)=true) (h2:fits (a.2+b.2)=false) (hr:Res w) :
  Calls Tryz.prog 162 #[.agg #[.string f,.string d],.agg #[.string f',.string d']] w fun e w'=>e=.panicked (pan 5)∧Below w.heap.size w w':=by
 have H:=Lib.hid (At3.new w 183 183 183 #[.string f,.string d] #[.string f',.string d'] #[.string ⟨#[]⟩,.string ⟨#[]⟩] hr)
 have HM:=Lib.hid (fun w hr=>mulT w ha.f hb.f (isT_rT h1) hr)
 have HA:=Lib.hid (fun w hr=>addO w ha.d hb.d h2 hr)
 generalize rT (a.1*b.1)=m at *
 have TK1:True:=trivial
 clear ha hb h1 h2 hr
 go_enter Tryz.func162,Tryz.ntmps162
 go_wp2_with (first
  | (go_at_call 130;refine (HM.out _ H.out.res).mono ?_;rintro e w1 ⟨rfl,hb⟩;have H1:=Lib.hid (H.out.later hb);obtain ⟨-,p1⟩:=cells2 H1.out.a;obtain ⟨-,q1⟩:=cells2 H1.out.b;clear hb)
  | (clear TK1;go_at_call 165;refine (mustN_ok _ _).mono ?_;rintro e w2 ⟨rfl,hw⟩;subst hw)
  | (go_at_call 107;refine (HA.out _ H1.out.res).mono ?_;rintro e w3 ⟨rfl,hb⟩;have H3:=Lib.hid (H1.out.later hb);clear hb)
  | (go_at_call 165;refine (mustN_no _ 5 _ five).mono ?_;rintro e w4 ⟨rfl,hw⟩;subst hw))
 exact ⟨rfl,rfl,H3.out.below⟩
theorem plus_no1 {f d f' d':ByteArray} {a b:LQ} (w:World) (ha:LossIs f d a) (hb:LossIs f' d' b) (h1:fits (a.1*b.1)=false) (hr:Res w) :
  Calls Tryz.prog 162 #[.agg #[.string f,.string d],.agg #[.string f',.string d']] w fun e w'=>e=.panicked (pan 5)∧Below w.heap.size w w':=by
 have H:=Lib.hid (At3.new w 183 183 183 #[.string f,.string d] #[.string f',.string d'] #[.string ⟨#[]⟩,.string ⟨#[]⟩] hr)
 have HM:=Lib.hid (fun w hr=>mulO w ha.f hb.f h1 hr)
 have TK1:True:=trivial
 clear ha hb h1 hr
 go_enter Tryz.func162,Tryz.ntmps162
 go_wp2_with (first
  | (go_at_call 130;refine (HM.out _ H.out.res).mono ?_;rintro e w1 ⟨rfl,hb⟩;have H1:=Lib.hid (H.out.later hb);obtain ⟨-,p1⟩:=cells2 H1.out.a;obtain ⟨-,q1⟩:=cells2 H1.out.b;clear hb)
  | (go_at_call 165;refine (mustN_no _ 5 _ five).mono ?_;rintro e w2 ⟨rfl,hw⟩;subst hw))
 exact ⟨rfl,rfl,H1.out.below⟩
theorem plus_any {f d f' d':ByteArray} {a b:LQ} (w:World) (ha:LossIs f d a) (hb:LossIs f' d' b) (hr:Res w) :
  Calls Tryz.prog 162 #[.agg #[.string f,.string d],.agg #[.string f',.string d']] w fun e w'=>e=endL (plusL a b)∧Below w.heap.size w w':=by
 cases h1:fits (a.1*b.1)
 ·rw [plusL_no1 h1];exact plus_no1 w ha hb h1 hr
 cases h2:fits (a.2+b.2)
 ·rw [plusL_no2 h1 h2];exact plus_no2 w ha hb h1 h2 hr
 rw [plusL_ok h1 h2]
 exact plus_ok w ha hb h1 h2 hr
theorem same_two {W:World} {S:Nat→Prop} {b:Nat} {t:TypeId} {u v:Value} (h:Blk W b t #[u,v]) (hS:S b):(∀ x:SameAt W S,x.W.cell? ⟨b,0,none⟩=some u)∧∀ x:SameAt W S,x.W.cell? ⟨b,1,none⟩=some v :=
 ⟨fun x=>x.cell hS (cells2 h).1,fun x=>x.cell hS (cells2 h).2⟩
theorem set2_heap {w:World} {b k:Nat} {u v:Value} (h:k≠b):((w.setCell ⟨b,0,none⟩ u).setCell ⟨b,1,none⟩ v).heap[k]?=w.heap[k]? :=
 (Below.heap_setCell _ ⟨b,1,none⟩ _ _ h).trans (Below.heap_setCell _ ⟨b,0,none⟩ _ _ h)
def foldE (op:LQ→LQ→Except Nat LQ):LQ→List LQ→Except Nat LQ
 | a,[]=>.ok a
 | a,x::l=>match op a x with
  | .error n=>.error n
  | .ok b=>foldE op b l
def valL (x:L2):LQ:=(valQ x.1.data.toList,valQ x.2.data.toList)
theorem foldE_at {op:LQ→LQ→Except Nat LQ}:∀ {l:List LQ} {k:Nat} {a b x:LQ},foldE op a (l.take k)=.ok b→l[k]?=some x→foldE op a (l.take (k+1))=op b x
 | [],_,_,_,_,_,h=>by simp at h
 | y::l,0,a,b,x,h,hx=>by
  simp only [List.take_zero,foldE] at h
  cases h
  simp only [List.getElem?_cons_zero,Option.some.injEq] at hx
  subst hx
  simp only [Nat.zero_add,List.take_succ_cons,List.take_zero,foldE]
  cases op a y<;>rfl
 | y::l,k+1,a,b,x,h,hx=>by
  simp only [List.take_succ_cons,foldE] at h ⊢
  cases hy:op a y with
  | error n=>rw [hy] at h;cases h
  | ok c =>
   rw [hy] at h
   dsimp only at h ⊢
   rw [List.getElem?_cons_succ] at hx
   exact foldE_at h hx
theorem foldE_error {op:LQ→LQ→Except Nat LQ}:∀ {l:List LQ} {k:Nat} {a:LQ} {n:Nat},foldE op a (l.take k)=.error n→foldE op a l=.error n
 | [],k,a,n,h=>by simpa using h
 | y::l,0,a,n,h=>by simp [foldE] at h
 | y::l,k+1,a,n,h=>by
  simp only [List.take_succ_cons,foldE] at h ⊢
  cases hy:op a y with
  | error m=>rw [hy] at h;exact h
  | ok c=>rw [hy] at h;exact foldE_error h
def foldR (op:LQ→LQ→Except Nat LQ) (ls:List L2):Except Nat LQ:=if firstL ls≠0 then .error (firstL ls) else foldE op noneL (ls.map valL)
def Combines (F:FuncId) (op:LQ→LQ→Except Nat LQ):Prop :=
 (∀ {f d f' d':ByteArray} {a b:LQ} (w:World),LossIs f d a→LossIs f' d' b→Res w →
  Calls Tryz.prog F #[.agg #[.string f,.string d],.agg #[.string f',.string d']] w fun e w'=>e=endL (op a b)∧Below w.heap.size w w')∧(∀ a b l,OkL a→OkL b→op a b=.ok l→OkL l)∧∀ a b n,op a b=.error n→n≠0
theorem plusL_err {a b:LQ} {n:Nat} (h:plusL a b=.error n):n≠0:=by
 cases h1:fits (a.1*b.1)
 ·rw [plusL_no1 h1] at h;cases h;decide
 cases h2:fits (a.2+b.2)
 ·rw [plusL_no2 h1 h2] at h;cases h;decide
 rw [plusL_ok h1 h2] at h;cases h
theorem combines_plus:Combines 162 plusL:=⟨fun w ha hb hr=>plus_any w ha hb hr,fun _ _ _=>plusL_okL,fun _ _ _=>plusL_err⟩
theorem runs_plus:Runs 162:=runs_of Tryz.func162 (by kernel_rfl) (by kernel_rfl)
theorem none_any (w:World):Calls Tryz.prog 144 #[] w fun e w'=>e=.returned (.agg #[.string ⟨#[49]⟩,.string ⟨#[48]⟩])∧Below w.heap.size w w':=by
 have HX:=Lib.hid (below_alloc (Below.refl w.heap.size w) (.cells #[.string ⟨#[]⟩,.string ⟨#[]⟩] 63))
 have HK:=Lib.hid (Blk.new w 63 #[.string ⟨#[]⟩,.string ⟨#[]⟩])
 go_enter Tryz.func144,Tryz.ntmps144
 go_wp2
 have hk:=(HK.out.set_ 0 (.string ⟨#[49]⟩)).set_ 1 (.string ⟨#[48]⟩)
 first
  | exact bodyPost_ret (run_cell rfl rfl (load_loss hk)) rfl ⟨rfl,(HX.out.setCell (Nat.le_refl _) _).setCell (Nat.le_refl _) _⟩
  | (refine bodyPost_ret (run_cell rfl rfl (load_loss (Blk.new w 63 #[.string ⟨#[49]⟩,.string ⟨#[48]⟩]))) rfl ⟨rfl,below_alloc (Below.refl w.heap.size w) _⟩)
structure FoldAt (w:World) (g6:Nat) (acc:LQ) (W:World):Prop where
 a:Blk W w.heap.size 63 #[.string ⟨#[]⟩,.string ⟨#[]⟩]
 e:Blk W (w.heap.size+1) 32 #[.int .i64 0]
 s:Blk W g6 183 #[.string (rT acc.1),.string (rT acc.2)]
 far:w.heap.size+1 < g6
 res:Res W
 below:Below w.heap.size w W
theorem FoldAt.later {w W W':World} {g6:Nat} {acc:LQ} (h:FoldAt w g6 acc W) (hb:Below W.heap.size W W'):FoldAt w g6 acc W' :=
 ⟨h.a.below hb h.a.lt,h.e.below hb h.e.lt,h.s.below hb h.s.lt,h.far,h.res.below hb,h.below.trans (hb.mono h.below.size)⟩
theorem Blk.two_set {w:World} {b:Nat} {t:TypeId} {u v x y:Value} (h:Blk w b t #[u,v]):Blk ((w.setCell ⟨b,0,none⟩ x).setCell ⟨b,1,none⟩ y) b t #[x,y]:=(h.set_ 0 x).set_ 1 y
theorem Blk.two_far {w:World} {b g:Nat} {t:TypeId} {cs:Array Value} {x y:Value} (h:Blk w g t cs) (hg:g≠b):Blk ((w.setCell ⟨b,0,none⟩ x).setCell ⟨b,1,none⟩ y) g t cs :=
 (h.far (p:=⟨b,0,none⟩) hg x).far (p:=⟨b,1,none⟩) hg y
structure At2 (w:World) (t1 t2:TypeId) (c1 c2:Array Value) (W:World):Prop where
 a:Blk W w.heap.size t1 c1
 b:Blk W (w.heap.size+1) t2 c2
 res:Res W
 below:Below w.heap.size w W
theorem At2.later {w W W':World} {t1 t2:TypeId} {c1 c2:Array Value} (h:At2 w t1 t2 c1 c2 W) (hb:Below W.heap.size W W'):At2 w t1 t2 c1 c2 W' :=
 ⟨h.a.below hb h.a.lt,h.b.below hb h.b.lt,h.res.below hb,h.below.trans (hb.mono h.below.size)⟩
theorem At2.new (w:World) (t1 t2:TypeId) (c1 c2:Array Value) (hr:Res w):At2 w t1 t2 c1 c2 ((w.alloc (.cells c1 t1)).alloc (.cells c2 t2)):=by
 have b1:=below_alloc (Below.refl w.heap.size w) (.cells c1 t1)
 have b2:=below_alloc b1 (.cells c2 t2)
 have k1:=Blk.new w t1 c1
 have k2:=Blk.new (w.alloc (.cells c1 t1)) t2 c2
 have e1:(w.alloc (.cells c1 t1)).heap.size=w.heap.size+1:=by simp
 rw [e1] at k2
 exact ⟨k1.alloc _,k2,hr.below b2,b2⟩
theorem LRow.long {w:World} {v:Value} {ls:List L2} (h:LRow w v ls):∃ A c,v=.slice A ls.length c:=⟨_,_,h.choose_spec.choose_spec.1⟩
theorem fold_no (F:FuncId) (ls:List L2) (v:Value) (w:World) (hv:LRow w v ls) (hs:Short ls) (hr:Res w) (hL:firstL ls≠0) :
  Calls Tryz.prog 161 #[v,.func (.func F) #[] #[]] w fun e w'=>e=.returned (.tuple #[.agg #[.string ⟨#[]⟩,.string ⟨#[]⟩],.int .i64 (firstL ls:Int)])∧Below w.heap.size w w':=by
 have H:=Lib.hid (At2.new w 63 32 #[.string ⟨#[]⟩,.string ⟨#[]⟩] #[.int .i64 0] hr)
 have HV:=Lib.hid (valid_run ls v _ (hv.below H.out.below) hs H.out.res)
 obtain ⟨A,c,rfl⟩:=hv.long
 rw [endV_no hL] at HV
 generalize firstL ls=n at HV
 clear hv hs hr hL
 go_enter_defers Tryz.func161,Tryz.ntmps161
 go_wp2_with (go_at_call 164;refine HV.out.mono ?_;rintro e w1 ⟨rfl,hb⟩;have H1:=Lib.hid (H.out.later hb);clear hb)
 refine door_pan (v:=.tuple #[.agg #[.string ⟨#[]⟩,.string ⟨#[]⟩],.int .i64 (n:Int)]) H1.out.b ?_
 intro W hB hk hbel
 exact ⟨run_cell_errno rfl rfl (load_loss (hk _ _ _ (by omega) H1.out.a)) rfl hB,rfl,hbel _ _ (by omega) H1.out.below⟩
theorem fold_ok (F:FuncId) (op:LQ→LQ→Except Nat LQ) (hF:Combines F op) (hrun:Runs F) (ls:List L2) (v:Value) (w:World) (hv:LRow w v ls) (hs:Short ls) (hr:Res w) (hL:firstL ls=0) :
  Calls Tryz.prog 161 #[v,.func (.func F) #[] #[]] w fun e w'=>e=.returned (resL (foldE op noneL (ls.map valL)))∧Below w.heap.size w w':=by
 have H:=Lib.hid (At2.new w 63 32 #[.string ⟨#[]⟩,.string ⟨#[]⟩] #[.int .i64 0] hr)
 have HV:=Lib.hid (valid_run ls v _ (hv.below H.out.below) hs H.out.res)
 have HLR:=Lib.hid hv
 obtain ⟨A,c,rfl⟩:=hv.long
 obtain ⟨_,_,_,hlen,hcells⟩:=id hv
 have HCE:=Lib.hid hcells
 rw [hL] at HV
 have HF:=Lib.hid hF
 have HR0:=Lib.hid hr
 have HL:=Lib.hid (firstL_zero.1 hL)
 have hrn:=hrun
 unfold Runs at hrn
 clear hv hs hr hL hF hrun hcells
 go_enter_defers Tryz.func161,Tryz.ntmps161
 go_wp2_with (first
  | (go_at_call 164;refine HV.out.mono ?_;rintro e w1 ⟨rfl,hb⟩;rw [endV_ok];have H1:=Lib.hid (H.out.later hb);clear hb)
  | (go_at_call 144;refine (none_any _).mono ?_;rintro e w2 ⟨rfl,hb⟩;have H2:=Lib.hid (H1.out.later hb);clear hb))
 have hlt2:w.heap.size+1 < w2.heap.size:=H2.out.b.lt
 have HFA:=Lib.hid (show FoldAt w w2.heap.size noneL (w2.alloc (.cells #[.string ⟨#[49]⟩,.string ⟨#[48]⟩] 183)) from
  ⟨H2.out.a.alloc _,H2.out.b.alloc _,by
   have e1:(⟨#[49]⟩:ByteArray)=rT 1:=IsT.one.text
   have e0:(⟨#[48]⟩:ByteArray)=rT 0:=IsT.zero.text
   rw [e1,e0]
   exact Blk.new w2 _ _,hlt2,H2.out.res.below (below_alloc (Below.refl _ _) _),below_alloc H2.out.below _⟩)
 generalize w2.alloc (.cells #[.string ⟨#[49]⟩,.string ⟨#[48]⟩] 183)=W2 at *
 generalize w2.heap.size=g6 at *
 clear H H1 H2 HV
 go_loopw [15] (fun v15 wr=>∃ (k:Nat) (acc:LQ),k≤ls.length∧v15=.int .i64 (k:Int)∧Hid (foldE op noneL ((ls.map valL).take k)=.ok acc)∧Hid (OkL acc)∧Hid (FoldAt w g6 acc wr)) (fun v15 _=>ls.length - (intOf v15).toNat)
 case atStart=>exact ⟨0,noneL,Nat.zero_le _,rfl,Lib.hid (by simp [foldE]),Lib.hid okL_none,HFA⟩
 case round =>
  obtain ⟨k,acc,hk,rfl,HE,HO,HA⟩:=hrel
  clear HFA
  obtain ⟨r0,r1⟩:=cells2 HA.out.s
  have hg6:=HA.out.s.lt
  by_cases hlt:k < ls.length
  ·obtain ⟨b,o,rfl,hbw,hcell⟩:=HCE.out (by omega)
   obtain ⟨x,hx⟩:∃ x,ls[k]?=some x:=⟨_,List.getElem?_eq_getElem hlt⟩
   obtain ⟨c0,c1⟩:=hcell k x hx
   rw [← HA.out.below.cell (p:=⟨b,o+k*2,none⟩) hbw] at c0
   rw [← HA.out.below.cell (p:=⟨b,o+k*2+1,none⟩) hbw] at c1
   have hlt':(k:Int) < (ls.length:Int):=by omega
   have hb2:b < wr.heap.size:=Nat.lt_of_lt_of_le hbw HA.out.below.size
   have HX:=Lib.hid (below_alloc (Below.refl wr.heap.size wr) (.cells #[.string x.1,.string x.2] 63))
   have HFC:=Lib.hid (HF.out.1 (wr.alloc (.cells #[.string x.1,.string x.2] 63)) HO.out.is (errL_zero (HL.out x (List.mem_of_getElem? hx))) (HA.out.res.below HX.out))
   have HAT:=Lib.hid (foldE_at HE.out (show (ls.map valL)[k]?=some (valL x) by rw [List.getElem?_map,hx];rfl))
   change Hid (Calls _ _ _ _ fun e w'=>e=endL (op acc (valL x))∧_) at HFC
   have HLT:=Lib.hid (And.intro hlt hlt')
   obtain ⟨f,d⟩:=x
   dsimp only at c0 c1 HX HFC
   cases ho:op acc (valL (f,d)) with
   | error m =>
    rw [ho] at HFC HAT
    have HM:=Lib.hid (foldE_error HAT.out)
    change Hid (Calls _ _ _ _ fun e w'=>e=.panicked (pan m)∧_) at HFC
    clear hcell hx hbw hlt ho HL
    have HF2:=Lib.hid HFC.out
    clear HFC
    go_wp2_with (refine HF2.out.mono ?_;rintro e w3 ⟨rfl,hb⟩;have H3:=Lib.hid (HA.out.later (HX.out.trans (hb.mono HX.out.size)));clear hb)
    refine door_pan (v:=resL (.error m)) H3.out.e ?_
    intro W hB hkk hbel
    refine ⟨run_cell_errno rfl rfl (load_loss (hkk _ _ _ (by omega) H3.out.a)) rfl hB,?_,hbel _ _ (by omega) H3.out.below⟩
    rw [HM.out]
   | ok b' =>
    rw [ho] at HFC HAT
    change Hid (Calls _ _ _ _ fun e w'=>e=.returned (.agg #[.string (rT b'.1),.string (rT b'.2)])∧_) at HFC
    have HOB:=Lib.hid (HF.out.2.1 acc _ b' HO.out (errL_zero (HL.out (f,d) (List.mem_of_getElem? hx))).ok ho)
    clear hcell hx hbw hlt ho
    have HF2:=Lib.hid HFC.out
    clear HFC
    obtain ⟨fb,hfb⟩:∃ y,y=rT b'.1:=⟨_,rfl⟩
    obtain ⟨db,hdb⟩:∃ y,y=rT b'.2:=⟨_,rfl⟩
    rw [← hfb,← hdb] at HF2
    have HFB:=Lib.hid (And.intro hfb hdb)
    clear hfb hdb
    go_wp2_with (refine HF2.out.mono ?_;rintro e w3 ⟨rfl,hb⟩;have H3:=Lib.hid (HA.out.later (HX.out.trans (hb.mono HX.out.size)));obtain ⟨q0,q1⟩:=cells2 H3.out.s;have z0:=H3.out.s.frozen 0;have z1:=H3.out.s.frozen 1;clear hb)
    go_roundw
    case rel =>
     have hb3:=(H3.out.below.setCell (p:=⟨g6,0,none⟩) (show w.heap.size≤g6 by have:=H3.out.far;omega) (.string fb)).setCell (p:=⟨g6,1,none⟩) (show w.heap.size≤g6 by have:=H3.out.far;omega) (.string db)
     exact ⟨k+1,b',HLT.out.1,by go_num,HAT,HOB,Lib.hid ⟨H3.out.a.two_far (by have:=H3.out.far;omega),H3.out.e.two_far (by have:=H3.out.far;omega),by
      rw [← HFB.out.1,← HFB.out.2];exact H3.out.s.two_set,H3.out.far,HR0.out.below hb3,hb3⟩⟩
    case measure=>have:=HLT.out.1;simp [intOf];omega
  ·have hlt':¬ (k:Int) < (ls.length:Int):=by omega
   obtain rfl:k=ls.length:=by omega
   have HE2:=Lib.hid (show foldE op noneL (ls.map valL)=.ok acc by
    have:=HE.out
    rwa [List.take_of_length_le (by simp)] at this)
   obtain ⟨p0,p1⟩:=cells2 HA.out.a
   have z0:=HA.out.a.frozen 0
   have z1:=HA.out.a.frozen 1
   have pe:=cell0 HA.out.e
   have ze:=HA.out.e.frozen 0
   clear hlt
   go_wp2
   have ha2:=(HA.out.a.two_set (x:=.string (rT acc.1)) (y:=.string (rT acc.2))).far (p:=⟨w.heap.size+1,0,none⟩) (by show w.heap.size≠w.heap.size+1;omega) (.int .i64 0)
   have he2:=(HA.out.e.two_far (b:=w.heap.size) (x:=.string (rT acc.1)) (y:=.string (rT acc.2)) (by omega)).set_ 0 (.int .i64 0)
   refine door_ret (v:=resL (.ok acc)) (run_cell_errno rfl rfl (load_loss ha2) rfl he2) ⟨by rw [HE2.out],?_⟩
   exact (((HA.out.below.setCell (Nat.le_refl _) _).setCell (Nat.le_refl _) _).setCell (Nat.le_succ _) _)
theorem fold_any (F:FuncId) (op:LQ→LQ→Except Nat LQ) (hF:Combines F op) (hrun:Runs F) (ls:List L2) (v:Value) (w:World) (hv:LRow w v ls) (hs:Short ls) (hr:Res w) :
  Calls Tryz.prog 161 #[v,.func (.func F) #[] #[]] w fun e w'=>e=.returned (resL (foldR op ls))∧Below w.heap.size w w':=by
 unfold foldR
 by_cases hL:firstL ls=0
 ·rw [if_neg (by omega)];exact fold_ok F op hF hrun ls v w hv hs hr hL
 ·rw [if_pos hL];exact fold_no F ls v w hv hs hr hL
theorem resL_shape (r:Except Nat LQ):∃ (x y:ByteArray) (n:Int),resL r=.tuple #[.agg #[.string x,.string y],.int .i64 n]:=by
 cases r with
 | ok l=>exact ⟨_,_,_,rfl⟩
 | error n=>exact ⟨_,_,_,rfl⟩
theorem short_two {f d f' d':ByteArray} (h1:f.size≤270000) (h2:d.size≤270000) (h3:f'.size≤270000) (h4:d'.size≤270000):Short [(f,d),(f',d')]:=by
 intro x hx
 simp only [List.mem_cons,List.not_mem_nil,or_false] at hx
 rcases hx with rfl|rfl
 ·exact ⟨h1,h2⟩
 ·exact ⟨h3,h4⟩
theorem at3_row {w:World} {f d f' d':ByteArray} {c3:Array Value} {t1 t2 t3:TypeId} {W:World} (H:At3 w t1 t2 t3 #[.string f,.string d] #[.string f',.string d'] c3 W) :
  Below W.heap.size W (W.alloc (.cells #[.string f,.string d,.string f',.string d'] 63))∧LRow (W.alloc (.cells #[.string f,.string d,.string f',.string d'] 63)) (.slice (some ⟨W.heap.size,0,none⟩) 2 2) [(f,d),(f',d')] ∧
   Res (W.alloc (.cells #[.string f,.string d,.string f',.string d'] 63)) :=
 ⟨below_alloc (Below.refl _ _) _,LRow.two (Blk.new W _ _),H.res.below (below_alloc (Below.refl _ _) _)⟩
theorem lossAdd_any (f d f' d':ByteArray) (w:World) (h1:f.size≤270000) (h2:d.size≤270000) (h3:f'.size≤270000) (h4:d'.size≤270000) (hr:Res w) :
  Calls Tryz.prog 69 #[.agg #[.string f,.string d],.agg #[.string f',.string d']] w fun e w'=>e=.returned (resL (foldR plusL [(f,d),(f',d')]))∧Below w.heap.size w w':=by
 have H0:=At3.new w 63 63 63 #[.string f,.string d] #[.string f',.string d'] #[.string ⟨#[]⟩,.string ⟨#[]⟩] hr
 obtain ⟨a1,a2,a3⟩:=at3_row H0
 rw [show (((w.alloc (.cells #[.string f,.string d] 63)).alloc (.cells #[.string f',.string d'] 63)).alloc (.cells #[.string ⟨#[]⟩,.string ⟨#[]⟩] 63)).heap.size=w.heap.size+1+1+1 by simp] at a2
 have HF:=Lib.hid (fold_any 162 plusL combines_plus runs_plus _ _ _ a2 (short_two h1 h2 h3 h4) a3)
 have H1:=Lib.hid (H0.later a1)
 obtain ⟨x,y,n,hx⟩:=resL_shape (foldR plusL [(f,d),(f',d')])
 rw [hx] at HF ⊢
 clear H0 a1 a2 a3 h1 h2 h3 h4 hr hx
 go_enter Tryz.func69,Tryz.ntmps69
 go_wp2_with (go_at_call 161;refine HF.out.mono ?_;rintro e w1 ⟨rfl,hb⟩;have H2:=Lib.hid (H1.out.later hb);obtain ⟨q0,q1⟩:=cells2 H2.out.c;have z0:=H2.out.c.frozen 0;have z1:=H2.out.c.frozen 1;clear hb)
 refine bodyPost_ret (run_cell_tmp rfl rfl (load_loss H2.out.c.two_set)) rfl ⟨rfl,(H2.out.below.setCell (le2 _) _).setCell (le2 _) _⟩
def resB:Except Nat Bool→Value
 | .ok b=>.tuple #[.bool b,.int .i64 0]
 | .error n=>.tuple #[.bool false,.int .i64 (n:Int)]
def fitsR (ls:List L2) (a b:LQ):Except Nat Bool:=if firstL ls≠0 then .error (firstL ls) else .ok (fitsL a b)
theorem fits_no (f d f' d':ByteArray) (w:World) (h1:f.size≤270000) (h2:d.size≤270000) (h3:f'.size≤270000) (h4:d'.size≤270000) (hr:Res w) (hL:firstL [(f,d),(f',d')]≠0) :
  Calls Tryz.prog 381 #[.agg #[.string f,.string d],.agg #[.string f',.string d']] w fun e w'=>e=.returned (.tuple #[.bool false,.int .i64 (firstL [(f,d),(f',d')]:Int)])∧Below w.heap.size w w':=by
 have H0:=At3.new w 63 63 32 #[.string f,.string d] #[.string f',.string d'] #[.int .i64 0] hr
 obtain ⟨a1,a2,a3⟩:=at3_row H0
 rw [show (((w.alloc (.cells #[.string f,.string d] 63)).alloc (.cells #[.string f',.string d'] 63)).alloc (.cells #[.int .i64 0] 32)).heap.size=w.heap.size+1+1+1 by simp] at a2
 have HV:=Lib.hid (valid_run _ _ _ a2 (short_two h1 h2 h3 h4) a3)
 have H1:=Lib.hid (H0.later a1)
 rw [endV_no hL] at HV
 generalize firstL [(f,d),(f',d')]=n at HV
 clear H0 a1 a2 a3 h1 h2 h3 h4 hr hL
 go_enter_defers Tryz.func381,Tryz.ntmps381
 go_wp2_with (go_at_call 164;refine HV.out.mono ?_;rintro e w1 ⟨rfl,hb⟩;have H2:=Lib.hid (H1.out.later hb);clear hb)
 refine door_pan (v:=.tuple #[.bool false,.int .i64 (n:Int)]) H2.out.c ?_
 intro W hB hk hbel
 exact ⟨run_tmp_errno rfl rfl rfl hB,rfl,hbel _ _ (le2 _) H2.out.below⟩
theorem fits_tt (f d f' d':ByteArray) (w:World) (h1:f.size≤270000) (h2:d.size≤270000) (h3:f'.size≤270000) (h4:d'.size≤270000) (hr:Res w) (a b:LQ) (ha:LossIs f d a) (hb:LossIs f' d' b) (d1:decide (cmpQ a.1 b.1≤0)=true) (d2:decide (cmpQ a.2 b.2≤0)=true) :
  Calls Tryz.prog 381 #[.agg #[.string f,.string d],.agg #[.string f',.string d']] w fun e w'=>e=.returned (.tuple #[.bool true,.int .i64 0])∧Below w.heap.size w w':=by
 have H0:=At3.new w 63 63 32 #[.string f,.string d] #[.string f',.string d'] #[.int .i64 0] hr
 obtain ⟨a1,a2,a3⟩:=at3_row H0
 rw [show (((w.alloc (.cells #[.string f,.string d] 63)).alloc (.cells #[.string f',.string d'] 63)).alloc (.cells #[.int .i64 0] 32)).heap.size=w.heap.size+1+1+1 by simp] at a2
 have HV:=Lib.hid (valid_run _ _ _ a2 (short_two h1 h2 h3 h4) a3)
 have H1:=Lib.hid (H0.later a1)
 rw [show firstL [(f,d),(f',d')]=0 by rw [firstL_zero];intro x hx;simp only [List.mem_cons,List.not_mem_nil,or_false] at hx;rcases hx with rfl|rfl;exact ha.err;exact hb.err] at HV
 have HC1:=Lib.hid (fun w hr=>lorder_any w ha.f hb.f hr)
 have HC2:=Lib.hid (fun w hr=>lorder_any w ha.d hb.d hr)
 generalize cmpQ a.1 b.1=x1 at *
 generalize cmpQ a.2 b.2=x2 at *
 have TK1:True:=trivial
 clear H0 a1 a2 a3 h1 h2 h3 h4 hr ha hb
 go_enter_defers Tryz.func381,Tryz.ntmps381
 go_wp2_with (first
  | (go_at_call 164;refine HV.out.mono ?_;rintro e w1 ⟨rfl,hb⟩;rw [endV_ok];have H2:=Lib.hid (H1.out.later hb);obtain ⟨p0,p1⟩:=cells2 H2.out.a;obtain ⟨q0,q1⟩:=cells2 H2.out.b;have ce2:=cell0 H2.out.c;have ze2:=H2.out.c.frozen 0;clear hb)
  | (clear TK1;go_at_call 169;refine (HC1.out _ H2.out.res).mono ?_;rintro e w2 ⟨rfl,hb⟩;have H3:=Lib.hid (H2.out.later hb);obtain ⟨-,r1⟩:=cells2 H3.out.a;obtain ⟨-,s1⟩:=cells2 H3.out.b;have ce3:=cell0 H3.out.c;have ze3:=H3.out.c.frozen 0;clear hb)
  | (go_at_call 169;refine (HC2.out _ H3.out.res).mono ?_;rintro e w3 ⟨rfl,hb⟩;have H4:=Lib.hid (H3.out.later hb);have ce4:=cell0 H4.out.c;have ze4:=H4.out.c.frozen 0;clear hb))
 refine door_ret (v:=.tuple #[.bool true,.int .i64 0]) (run_tmp_errno rfl rfl rfl (H4.out.c.set_ 0 (.int .i64 0))) ⟨rfl,H4.out.below.setCell (le2 _) _⟩
theorem fits_tf (f d f' d':ByteArray) (w:World) (h1:f.size≤270000) (h2:d.size≤270000) (h3:f'.size≤270000) (h4:d'.size≤270000) (hr:Res w) (a b:LQ) (ha:LossIs f d a) (hb:LossIs f' d' b) (d1:decide (cmpQ a.1 b.1≤0)=true) (d2:decide (cmpQ a.2 b.2≤0)=false) :
  Calls Tryz.prog 381 #[.agg #[.string f,.string d],.agg #[.string f',.string d']] w fun e w'=>e=.returned (.tuple #[.bool false,.int .i64 0])∧Below w.heap.size w w':=by
 have H0:=At3.new w 63 63 32 #[.string f,.string d] #[.string f',.string d'] #[.int .i64 0] hr
 obtain ⟨a1,a2,a3⟩:=at3_row H0
 rw [show (((w.alloc (.cells #[.string f,.string d] 63)).alloc (.cells #[.string f',.string d'] 63)).alloc (.cells #[.int .i64 0] 32)).heap.size=w.heap.size+1+1+1 by simp] at a2
 have HV:=Lib.hid (valid_run _ _ _ a2 (short_two h1 h2 h3 h4) a3)
 have H1:=Lib.hid (H0.later a1)
 rw [show firstL [(f,d),(f',d')]=0 by rw [firstL_zero];intro x hx;simp only [List.mem_cons,List.not_mem_nil,or_false] at hx;rcases hx with rfl|rfl;exact ha.err;exact hb.err] at HV
 have HC1:=Lib.hid (fun w hr=>lorder_any w ha.f hb.f hr)
 have HC2:=Lib.hid (fun w hr=>lorder_any w ha.d hb.d hr)
 generalize cmpQ a.1 b.1=x1 at *
 generalize cmpQ a.2 b.2=x2 at *
 have TK1:True:=trivial
 clear H0 a1 a2 a3 h1 h2 h3 h4 hr ha hb
 go_enter_defers Tryz.func381,Tryz.ntmps381
 go_wp2_with (first
  | (go_at_call 164;refine HV.out.mono ?_;rintro e w1 ⟨rfl,hb⟩;rw [endV_ok];have H2:=Lib.hid (H1.out.later hb);obtain ⟨p0,p1⟩:=cells2 H2.out.a;obtain ⟨q0,q1⟩:=cells2 H2.out.b;have ce2:=cell0 H2.out.c;have ze2:=H2.out.c.frozen 0;clear hb)
  | (clear TK1;go_at_call 169;refine (HC1.out _ H2.out.res).mono ?_;rintro e w2 ⟨rfl,hb⟩;have H3:=Lib.hid (H2.out.later hb);obtain ⟨-,r1⟩:=cells2 H3.out.a;obtain ⟨-,s1⟩:=cells2 H3.out.b;have ce3:=cell0 H3.out.c;have ze3:=H3.out.c.frozen 0;clear hb)
  | (go_at_call 169;refine (HC2.out _ H3.out.res).mono ?_;rintro e w3 ⟨rfl,hb⟩;have H4:=Lib.hid (H3.out.later hb);have ce4:=cell0 H4.out.c;have ze4:=H4.out.c.frozen 0;clear hb))
 refine door_ret (v:=.tuple #[.bool false,.int .i64 0]) (run_tmp_errno rfl rfl rfl (H4.out.c.set_ 0 (.int .i64 0))) ⟨rfl,H4.out.below.setCell (le2 _) _⟩
theorem fits_f (f d f' d':ByteArray) (w:World) (h1:f.size≤270000) (h2:d.size≤270000) (h3:f'.size≤270000) (h4:d'.size≤270000) (hr:Res w) (a b:LQ) (ha:LossIs f d a) (hb:LossIs f' d' b) (d1:decide (cmpQ a.1 b.1≤0)=false) :
  Calls Tryz.prog 381 #[.agg #[.string f,.string d],.agg #[.string f',.string d']] w fun e w'=>e=.returned (.tuple #[.bool false,.int .i64 0])∧Below w.heap.size w w':=by
 have H0:=At3.new w 63 63 32 #[.string f,.string d] #[.string f',.string d'] #[.int .i64 0] hr
 obtain ⟨a1,a2,a3⟩:=at3_row H0
 rw [show (((w.alloc (.cells #[.string f,.string d] 63)).alloc (.cells #[.string f',.string d'] 63)).alloc (.cells #[.int .i64 0] 32)).heap.size=w.heap.size+1+1+1 by simp] at a2
 have HV:=Lib.hid (valid_run _ _ _ a2 (short_two h1 h2 h3 h4) a3)
 have H1:=Lib.hid (H0.later a1)
 rw [show firstL [(f,d),(f',d')]=0 by rw [firstL_zero];intro x hx;simp only [List.mem_cons,List.not_mem_nil,or_false] at hx;rcases hx with rfl|rfl;exact ha.err;exact hb.err] at HV
 have HC1:=Lib.hid (fun w hr=>lorder_any w ha.f hb.f hr)
 have HC2:=Lib.hid (fun w hr=>lorder_any w ha.d hb.d hr)
 generalize cmpQ a.1 b.1=x1 at *
 generalize cmpQ a.2 b.2=x2 at *
 have TK1:True:=trivial
 clear H0 a1 a2 a3 h1 h2 h3 h4 hr ha hb
 go_enter_defers Tryz.func381,Tryz.ntmps381
 go_wp2_with (first
  | (go_at_call 164;refine HV.out.mono ?_;rintro e w1 ⟨rfl,hb⟩;rw [endV_ok];have H2:=Lib.hid (H1.out.later hb);obtain ⟨p0,p1⟩:=cells2 H2.out.a;obtain ⟨q0,q1⟩:=cells2 H2.out.b;have ce2:=cell0 H2.out.c;have ze2:=H2.out.c.frozen 0;clear hb)
  | (clear TK1;go_at_call 169;refine (HC1.out _ H2.out.res).mono ?_;rintro e w2 ⟨rfl,hb⟩;have H3:=Lib.hid (H2.out.later hb);obtain ⟨-,r1⟩:=cells2 H3.out.a;obtain ⟨-,s1⟩:=cells2 H3.out.b;have ce3:=cell0 H3.out.c;have ze3:=H3.out.c.frozen 0;clear hb))
 refine door_ret (v:=.tuple #[.bool false,.int .i64 0]) (run_tmp_errno rfl rfl rfl (H3.out.c.set_ 0 (.int .i64 0))) ⟨rfl,H3.out.below.setCell (le2 _) _⟩
theorem lossFits_any (f d f' d':ByteArray) (w:World) (h1:f.size≤270000) (h2:d.size≤270000) (h3:f'.size≤270000) (h4:d'.size≤270000) (hr:Res w) :
  Calls Tryz.prog 381 #[.agg #[.string f,.string d],.agg #[.string f',.string d']] w fun e w'=>e=.returned (resB (fitsR [(f,d),(f',d')] (valL (f,d)) (valL (f',d'))))∧Below w.heap.size w w':=by
 unfold fitsR
 by_cases hL:firstL [(f,d),(f',d')]=0
 ·rw [if_neg (by omega)]
  have h0:=firstL_zero.1 hL
  have ha:=errL_zero (h0 (f,d) (by simp))
  have hb:=errL_zero (h0 (f',d') (by simp))
  unfold fitsL
  cases d1:decide (cmpQ (valL (f,d)).1 (valL (f',d')).1≤0)
  ·exact fits_f f d f' d' w h1 h2 h3 h4 hr _ _ ha hb d1
  ·cases d2:decide (cmpQ (valL (f,d)).2 (valL (f',d')).2≤0)
   ·exact fits_tf f d f' d' w h1 h2 h3 h4 hr _ _ ha hb d1 d2
   ·exact fits_tt f d f' d' w h1 h2 h3 h4 hr _ _ ha hb d1 d2
 ·rw [if_pos hL]
  exact fits_no f d f' d' w h1 h2 h3 h4 hr hL
theorem field_bound (x y:ByteArray) (w:World):(Instr.field 183 (.agg #[.string x,.string y]) 0).run Tryz.prog w=.ok (.agg #[.string x,.string y]) w:=by kernel_rfl
theorem short_one {f d:ByteArray} (h1:f.size≤270000) (h2:d.size≤270000):Short [(f,d)]:=by
 intro x hx
 simp only [List.mem_cons,List.not_mem_nil,or_false] at hx
 rw [hx]
 exact ⟨h1,h2⟩
theorem at3_row1 {w:World} {f d:ByteArray} {c2 c3:Array Value} {t1 t2 t3:TypeId} {W:World} (H:At3 w t1 t2 t3 #[.string f,.string d] c2 c3 W) :
  Below W.heap.size W (W.alloc (.cells #[.string f,.string d] 63))∧LRow (W.alloc (.cells #[.string f,.string d] 63)) (.slice (some ⟨W.heap.size,0,none⟩) 1 1) [(f,d)]∧Res (W.alloc (.cells #[.string f,.string d] 63)) :=
 ⟨below_alloc (Below.refl _ _) _,LRow.one (Blk.new W _ _),H.res.below (below_alloc (Below.refl _ _) _)⟩
theorem firstL_one (f d:ByteArray):firstL [(f,d)]=errL f d:=by
 unfold firstL firstL
 split<;>rename_i h
 ·rfl
 ·simpa using (Classical.not_not.1 h).symm
theorem ends_idleI (n:Nat) (p:Addr) (w:World) :
  CallsDIn Fence.wide n Tryz.prog 163 #[.pointer (some p)] .returning w fun e u' w'=>e=.returned (.tuple #[])∧u'=.returning∧w'=w:=by
 refine callsDIn_of_wpSIn Tryz.func163 rfl trivial fun c₀ cs hu=>?_
 apply wpSIn_seq
 apply wpSIn_region
 simp [wpOpsSIn,go_sem,recoverD,hu,Tryz.ntmps163,Exit.thenS,Array.replicate_succ,Array.replicate_zero]
 refine wpSIn_of_wpIn rfl ?_
 gi_wp2
 cases c₀
 simp_all [bodyPostS,results,Tryz.results163]
section
variable {fn:Func} {tmps:Array Value} {R:Ending→World→Prop} {b n:Nat} {w:World}
theorem door_retI {v:Value} (hr:(results fn tmps).run Tryz.prog w=.ok v w) (hR:R (.returned v) w) :
  LeavesIn Fence.wide n Tryz.prog fn tmps R [{ target:=Target.fn (Fn.func 163) #[],args:=#[.pointer (some ⟨b,0,none⟩)] }] .returning w:=by
 refine leavesIn_cons (f:=163) (args:=#[.pointer (some ⟨b,0,none⟩)]) (by simp) (fun h=>by cases h) (by simp [go_sem]) (fun _ _=>trivial) ?_
 refine (ends_idleI _ _ _).mono ?_
 rintro e u' w'' ⟨rfl,rfl,rfl⟩
 exact ⟨v,hr,hR⟩
end
def lateR (f d u:ByteArray):Except Nat LQ:=if errL f d≠0 then .error (errL f d) else if errQ u.data.toList≠0 then .error (errQ u.data.toList) else
 if cmpQ (valQ u.data.toList) 0 < 0∨cmpQ (valQ u.data.toList) 1 > 0 then .error 2 else lateL (valL (f,d)) (valQ u.data.toList)
theorem late_err1 (f d u:ByteArray) (w:World) (h1:f.size≤270000) (h2:d.size≤270000) (_h3:u.size≤270000) (hr:Res w) (hL:errL f d≠0) :
  Calls Tryz.prog 74 #[.agg #[.string f,.string d],.string u] w fun e w'=>e=.returned (resL (.error (errL f d)))∧Below w.heap.size w w':=by
 have H0:=At3.new w 63 63 32 #[.string f,.string d] #[.string ⟨#[]⟩,.string ⟨#[]⟩] #[.int .i64 0] hr
 obtain ⟨a1,a2,a3⟩:=at3_row1 H0
 rw [show (((w.alloc (.cells #[.string f,.string d] 63)).alloc (.cells #[.string ⟨#[]⟩,.string ⟨#[]⟩] 63)).alloc (.cells #[.int .i64 0] 32)).heap.size=w.heap.size+1+1+1 by simp] at a2
 have HV:=Lib.hid (valid_run _ _ _ a2 (short_one h1 h2) a3)
 rw [firstL_one] at HV
 have H1:=Lib.hid (H0.later a1)
 rw [endV_no hL] at HV
 generalize errL f d=n at HV
 clear H0 a1 a2 a3 h1 h2 hr hL
 go_enter_defers Tryz.func74,Tryz.ntmps74
 go_wp2_with (go_at_call 164;refine HV.out.mono ?_;rintro e w1 ⟨rfl,hb⟩;have H2:=Lib.hid (H1.out.later hb);clear hb)
 refine door_pan (v:=resL (.error n)) H2.out.c ?_
 intro W hB hk hbel
 exact ⟨run_cell_errno rfl rfl (load_loss (hk _ _ _ (by omega) H2.out.b)) rfl hB,rfl,hbel _ _ (le2 _) H2.out.below⟩
theorem late_err2 (f d u:ByteArray) (w:World) (h1:f.size≤270000) (h2:d.size≤270000) (h3:u.size≤270000) (hr:Res w) (hL:errL f d=0) (hU:errQ u.data.toList≠0) :
  Calls Tryz.prog 74 #[.agg #[.string f,.string d],.string u] w fun e w'=>e=.returned (resL (.error (errQ u.data.toList)))∧Below w.heap.size w w':=by
 have H0:=At3.new w 63 63 32 #[.string f,.string d] #[.string ⟨#[]⟩,.string ⟨#[]⟩] #[.int .i64 0] hr
 obtain ⟨a1,a2,a3⟩:=at3_row1 H0
 rw [show (((w.alloc (.cells #[.string f,.string d] 63)).alloc (.cells #[.string ⟨#[]⟩,.string ⟨#[]⟩] 63)).alloc (.cells #[.int .i64 0] 32)).heap.size=w.heap.size+1+1+1 by simp] at a2
 have HV:=Lib.hid (valid_run _ _ _ a2 (short_one h1 h2) a3)
 rw [firstL_one] at HV
 have H1:=Lib.hid (H0.later a1)
 rw [hL] at HV
 have HCK:=Lib.hid (fun w hr=>ratCheck_any u w h3 hr)
 have HN:=Lib.hid hU
 generalize errQ u.data.toList=n at HCK HN
 clear H0 a1 a2 a3 h1 h2 h3 hr hL hU
 go_enter_defers Tryz.func74,Tryz.ntmps74
 go_wp2_with (first
  | (go_at_call 164;refine HV.out.mono ?_;rintro e w1 ⟨rfl,hb⟩;rw [endV_ok];have H2:=Lib.hid (H1.out.later hb);clear hb)
  | (go_at_call 138;refine (HCK.out _ H2.out.res).mono ?_;rintro e w2 ⟨rfl,hb⟩;have H3:=Lib.hid (H2.out.later hb);clear hb)
  | (go_at_call 168;refine (mustI_no _ _ _ HN.out).mono ?_;rintro e w3 ⟨rfl,hw⟩;subst hw))
 refine door_pan (v:=resL (.error n)) H3.out.c ?_
 intro W hB hk hbel
 exact ⟨run_cell_errno rfl rfl (load_loss (hk _ _ _ (by omega) H3.out.b)) rfl hB,rfl,hbel _ _ (le2 _) H3.out.below⟩
theorem late_rng1 (f d u:ByteArray) (w:World) (h1:f.size≤270000) (h2:d.size≤270000) (_h3:u.size≤270000) (hr:Res w) (hL:errL f d=0) (hU:IsT u (valQ u.data.toList)) (c1:cmpQ (valQ u.data.toList) 0 < 0) :
  Calls Tryz.prog 74 #[.agg #[.string f,.string d],.string u] w fun e w'=>e=.returned (resL (.error 2))∧Below w.heap.size w w':=by
 have H0:=At3.new w 63 63 32 #[.string f,.string d] #[.string ⟨#[]⟩,.string ⟨#[]⟩] #[.int .i64 0] hr
 obtain ⟨a1,a2,a3⟩:=at3_row1 H0
 rw [show (((w.alloc (.cells #[.string f,.string d] 63)).alloc (.cells #[.string ⟨#[]⟩,.string ⟨#[]⟩] 63)).alloc (.cells #[.int .i64 0] 32)).heap.size=w.heap.size+1+1+1 by simp] at a2
 have HV:=Lib.hid (valid_run _ _ _ a2 (short_one h1 h2) a3)
 rw [firstL_one] at HV
 have H1:=Lib.hid (H0.later a1)
 rw [hL] at HV
 have HCK:=Lib.hid (fun w hr=>checkT (p:=valQ u.data.toList) w hU hr)
 have HC1:=Lib.hid (fun w hr=>lorder_any w hU IsT.zero hr)
 have HC2:=Lib.hid (fun w hr=>lorder_any w hU IsT.one hr)
 generalize cmpQ (valQ u.data.toList) 0=x1 at *
 generalize cmpQ (valQ u.data.toList) 1=x2 at *
 have g1:decide (x1 < 0)=true:=decide_eq_true c1
 have TK1:True:=trivial
 clear H0 a1 a2 a3 h1 h2 hr hL hU c1
 go_enter_defers Tryz.func74,Tryz.ntmps74
 go_wp2_with (first
  | (go_at_call 164;refine HV.out.mono ?_;rintro e w1 ⟨rfl,hb⟩;rw [endV_ok];have H2:=Lib.hid (H1.out.later hb);clear hb)
  | (go_at_call 138;refine (HCK.out _ H2.out.res).mono ?_;rintro e w2 ⟨rfl,hb⟩;have H3:=Lib.hid (H2.out.later hb);clear hb)
  | (go_at_call 168;refine (mustI_ok _ _).mono ?_;rintro e w3 ⟨rfl,hw⟩;subst hw)
  | (clear TK1;go_at_call 169;refine (HC1.out _ H3.out.res).mono ?_;rintro e w4 ⟨rfl,hb⟩;have H4:=Lib.hid (H3.out.later hb);obtain ⟨q0,q1⟩:=cells2 H4.out.b;have y0:=H4.out.b.frozen 0;have y1:=H4.out.b.frozen 1;have ce:=cell0 H4.out.c;have ze:=H4.out.c.frozen 0;obtain ⟨p0,p1⟩:=cells2 H4.out.a;clear hb))
 have hb2:=((H4.out.b.set_ 0 (.string ⟨#[]⟩)).set_ 1 (.string ⟨#[]⟩)).far (p:=⟨w.heap.size+1+1,0,none⟩) (by show w.heap.size+1≠w.heap.size+1+1;omega) (.int .i64 2)
 have hc2:=(H4.out.c.two_far (b:=w.heap.size+1) (x:=.string ⟨#[]⟩) (y:=.string ⟨#[]⟩) (by omega)).set_ 0 (.int .i64 2)
 refine door_ret (v:=resL (.error 2)) (run_cell_errno rfl rfl (load_loss hb2) rfl hc2) ⟨rfl,?_⟩
 exact ((H4.out.below.setCell (Nat.le_succ _) _).setCell (Nat.le_succ _) _).setCell (le2 _) _
theorem late_rng2 (f d u:ByteArray) (w:World) (h1:f.size≤270000) (h2:d.size≤270000) (_h3:u.size≤270000) (hr:Res w) (hL:errL f d=0) (hU:IsT u (valQ u.data.toList)) (c1:¬ cmpQ (valQ u.data.toList) 0 < 0) (c2:cmpQ (valQ u.data.toList) 1 > 0) :
  Calls Tryz.prog 74 #[.agg #[.string f,.string d],.string u] w fun e w'=>e=.returned (resL (.error 2))∧Below w.heap.size w w':=by
 have H0:=At3.new w 63 63 32 #[.string f,.string d] #[.string ⟨#[]⟩,.string ⟨#[]⟩] #[.int .i64 0] hr
 obtain ⟨a1,a2,a3⟩:=at3_row1 H0
 rw [show (((w.alloc (.cells #[.string f,.string d] 63)).alloc (.cells #[.string ⟨#[]⟩,.string ⟨#[]⟩] 63)).alloc (.cells #[.int .i64 0] 32)).heap.size=w.heap.size+1+1+1 by simp] at a2
 have HV:=Lib.hid (valid_run _ _ _ a2 (short_one h1 h2) a3)
 rw [firstL_one] at HV
 have H1:=Lib.hid (H0.later a1)
 rw [hL] at HV
 have HCK:=Lib.hid (fun w hr=>checkT (p:=valQ u.data.toList) w hU hr)
 have HC1:=Lib.hid (fun w hr=>lorder_any w hU IsT.zero hr)
 have HC2:=Lib.hid (fun w hr=>lorder_any w hU IsT.one hr)
 generalize cmpQ (valQ u.data.toList) 0=x1 at *
 generalize cmpQ (valQ u.data.toList) 1=x2 at *
 have g1:decide (x1 < 0)=false:=decide_eq_false c1
 have g2:decide (0 < x2)=true:=decide_eq_true c2
 have TK1:True:=trivial
 clear H0 a1 a2 a3 h1 h2 hr hL hU c1 c2
 go_enter_defers Tryz.func74,Tryz.ntmps74
 go_wp2_with (first
  | (go_at_call 164;refine HV.out.mono ?_;rintro e w1 ⟨rfl,hb⟩;rw [endV_ok];have H2:=Lib.hid (H1.out.later hb);clear hb)
  | (go_at_call 138;refine (HCK.out _ H2.out.res).mono ?_;rintro e w2 ⟨rfl,hb⟩;have H3:=Lib.hid (H2.out.later hb);clear hb)
  | (go_at_call 168;refine (mustI_ok _ _).mono ?_;rintro e w3 ⟨rfl,hw⟩;subst hw)
  | (clear TK1;go_at_call 169;refine (HC1.out _ H3.out.res).mono ?_;rintro e w4 ⟨rfl,hb⟩;have H4:=Lib.hid (H3.out.later hb);clear hb)
  | (go_at_call 169;refine (HC2.out _ H4.out.res).mono ?_;rintro e w5 ⟨rfl,hb⟩;have H5:=Lib.hid (H4.out.later hb);obtain ⟨q0,q1⟩:=cells2 H5.out.b;have y0:=H5.out.b.frozen 0;have y1:=H5.out.b.frozen 1;have ce:=cell0 H5.out.c;have ze:=H5.out.c.frozen 0;obtain ⟨p0,p1⟩:=cells2 H5.out.a;clear hb))
 have hb2:=((H5.out.b.set_ 0 (.string ⟨#[]⟩)).set_ 1 (.string ⟨#[]⟩)).far (p:=⟨w.heap.size+1+1,0,none⟩) (by show w.heap.size+1≠w.heap.size+1+1;omega) (.int .i64 2)
 have hc2:=(H5.out.c.two_far (b:=w.heap.size+1) (x:=.string ⟨#[]⟩) (y:=.string ⟨#[]⟩) (by omega)).set_ 0 (.int .i64 2)
 refine door_ret (v:=resL (.error 2)) (run_cell_errno rfl rfl (load_loss hb2) rfl hc2) ⟨rfl,?_⟩
 exact ((H5.out.below.setCell (Nat.le_succ _) _).setCell (Nat.le_succ _) _).setCell (le2 _) _
theorem late_ok (f d u:ByteArray) (w:World) (h1:f.size≤270000) (h2:d.size≤270000) (_h3:u.size≤270000) (hr:Res w) (l:LQ) (q:Rat) (hl:LossIs f d l) (hU:IsT u q) (c1:¬ cmpQ q 0 < 0) (c2:¬ cmpQ q 1 > 0) (f1:fits (l.1+1)=true) (f2:fits ((l.1+1)*q)=true) (f3:fits (l.2+(l.1+1)*q)=true) :
  Calls Tryz.prog 74 #[.agg #[.string f,.string d],.string u] w fun e w'=>e=.returned (.tuple #[.agg #[.string f,.string (rT (minQ (l.2+(l.1+1)*q) 1))],.int .i64 0])∧Below w.heap.size w w':=by
 have H0:=At3.new w 63 63 32 #[.string f,.string d] #[.string ⟨#[]⟩,.string ⟨#[]⟩] #[.int .i64 0] hr
 obtain ⟨a1,a2,a3⟩:=at3_row1 H0
 rw [show (((w.alloc (.cells #[.string f,.string d] 63)).alloc (.cells #[.string ⟨#[]⟩,.string ⟨#[]⟩] 63)).alloc (.cells #[.int .i64 0] 32)).heap.size=w.heap.size+1+1+1 by simp] at a2
 have HV:=Lib.hid (valid_run _ _ _ a2 (short_one h1 h2) a3)
 rw [firstL_one] at HV
 have H1:=Lib.hid (H0.later a1)
 rw [hl.err] at HV
 have HCK:=Lib.hid (fun w hr=>checkT w hU hr)
 have HC1:=Lib.hid (fun w hr=>lorder_any w hU IsT.zero hr)
 have HC2:=Lib.hid (fun w hr=>lorder_any w hU IsT.one hr)
 have HA1:=Lib.hid (fun w hr=>addT w hl.f IsT.one (isT_rT f1) hr)
 have HM1:=Lib.hid (fun w hr=>mulT w (isT_rT f1) hU (isT_rT f2) hr)
 have HA2:=Lib.hid (fun w hr=>addT w hl.d (isT_rT f2) (isT_rT f3) hr)
 have HLim:=Lib.hid (fun (w:World) hr=>limited_any (f:=f) w (isT_rT f3) hr)
 have hfd:=field_bound
 generalize cmpQ q 0=x1 at *
 generalize cmpQ q 1=x2 at *
 generalize rT (l.1+1)=t1 at *
 generalize rT (minQ (l.2+(l.1+1)*q) 1)=t4 at *
 generalize rT (l.2+(l.1+1)*q)=t3 at *
 generalize rT ((l.1+1)*q)=t2 at *
 have g1:decide (x1 < 0)=false:=decide_eq_false c1
 have g2:decide (0 < x2)=false:=decide_eq_false c2
 have TK1:True:=trivial
 have TK2:True:=trivial
 have TK3:True:=trivial
 clear H0 a1 a2 a3 h1 h2 hr hl hU c1 c2 f1 f2 f3
 refine (callsIn_wide (n:=3)).1 ?_
 have h1:1≤3:=by omega
 have hmx:Tryz.prog.follows .mixedOrders=true:=by kernel_rfl
 refine callsIn_of_wp_defers Tryz.func74 rfl trivial ?_ rfl
 simp only [Tryz.ntmps74,List.size_toArray,List.length_cons,List.length_nil,Nat.reduceAdd,Nat.reduceSub,Array.replicate_succ,Array.replicate_zero,List.push_toArray,List.append_toArray,List.nil_append,List.cons_append]
 gi_upto_region 7 with (first
  | (refine ⟨trivial,?_⟩;gi_at_call 164;refine (callsIn_wide.2 (HV.out)).mono ?_;rintro e w2 ⟨rfl,hb⟩;have H2:=Lib.hid (H1.out.later hb);clear hb)
  | (refine ⟨trivial,?_⟩;gi_at_call 138;refine (callsIn_wide.2 (HCK.out _ H2.out.res)).mono ?_;rintro e w3 ⟨rfl,hb⟩;have H3:=Lib.hid (H2.out.later hb);clear hb)
  | (refine ⟨trivial,?_⟩;gi_at_call 168;refine (callsIn_wide.2 (mustI_ok _ _)).mono ?_;rintro e w9 ⟨rfl,hw⟩;subst hw)
  | (clear TK1;refine ⟨trivial,?_⟩;gi_at_call 169;refine (callsIn_wide.2 (HC1.out _ H3.out.res)).mono ?_;rintro e w4 ⟨rfl,hb⟩;have H4:=Lib.hid (H3.out.later hb);clear hb)
  | (refine ⟨trivial,?_⟩;gi_at_call 169;refine (callsIn_wide.2 (HC2.out _ H4.out.res)).mono ?_;rintro e w5 ⟨rfl,hb⟩;have H5:=Lib.hid (H4.out.later hb);obtain ⟨p0,p1⟩:=cells2 H5.out.a;clear hb)
  | (refine ⟨trivial,?_⟩;gi_at_call 107;refine (callsIn_wide.2 (HA1.out _ H5.out.res)).mono ?_;rintro e w6 ⟨rfl,hb⟩;have H6:=Lib.hid (H5.out.later hb);clear hb)
  | (clear TK2;refine ⟨trivial,?_⟩;gi_at_call 165;refine (callsIn_wide.2 (mustN_ok _ _)).mono ?_;rintro e w8 ⟨rfl,hw⟩;subst hw)
  | (refine ⟨trivial,?_⟩;gi_at_call 130;refine (callsIn_wide.2 (HM1.out _ H6.out.res)).mono ?_;rintro e w7 ⟨rfl,hb⟩;have H7:=Lib.hid (H6.out.later hb);clear hb)
  | (clear TK3;refine ⟨trivial,?_⟩;gi_at_call 165;refine (callsIn_wide.2 (mustN_ok _ _)).mono ?_;rintro e w8 ⟨rfl,hw⟩;subst hw))
 clear p0 p1
 have H:=H7.out
 have hla:=H.a.lt
 obtain ⟨x0,x1⟩:=same_two (S:=fun k=>k < w8.heap.size∧k≠w.heap.size+1∧k≠w.heap.size+1+1) H.a ⟨hla,by omega,by omega⟩
 clear H hla
 have HRD:=Lib.hid (H7.out.res.below (below_drew (Below.refl w8.heap.size w8)))
 refine wpIn_stage (IsSame w8 (fun k=>k < w8.heap.size∧k≠w.heap.size+1∧k≠w.heap.size+1+1)) [0,1,2,3,4,6,7,10] [] hmx (by kernel_rfl) (isSame_of fun _ _=>rfl) ?_
 change wpStage _ _ _ _ _ _ _ _ (8+5) _ _ _
 refine stage_reads [0,1,2,3,4] 8 _ _ (by kernel_rfl) ?_
 change wpQuietIn _ _ _ _ (fun W'=>∃ x:SameAt w8 (fun k=>k < w8.heap.size∧k≠w.heap.size+1∧k≠w.heap.size+1+1),W'=x.W) _ _ _
 simp only [pick_cons,pick_nil,List.getElem?_cons_zero,List.getElem?_cons_succ,Option.elim_some]
 repeat (gi_big_quiet_step (fail))
 refine wpQuietIn_nil ?_
 refine stage_one 5 (by kernel_rfl) rfl ?_
 gi_wp2
 refine ⟨trivial,?_⟩
 refine (callsIn_wide.2 (HA2.out _ HRD.out)).mono ?_
 rintro e w10 ⟨rfl,hb⟩
 have HB1:=Lib.hid (show Below w8.heap.size w8 w10 from below_undrew hb)
 clear hb
 gi_wp2
 refine stage_post (isSame_below HB1.out (fun k hk=>hk.1)) ?_
 change wpStage _ _ _ _ _ _ _ _ (5+2) _ _ _
 refine stage_reads [6,7] 5 _ _ (by kernel_rfl) ?_
 change wpQuietIn _ _ _ _ (fun W'=>∃ x:SameAt w8 (fun k=>k < w8.heap.size∧k≠w.heap.size+1∧k≠w.heap.size+1+1),W'=x.W) _ _ _
 simp only [pick_cons,pick_nil,List.getElem?_cons_zero,List.getElem?_cons_succ,Option.elim_some]
 repeat (gi_big_quiet_step (fail))
 refine wpQuietIn_nil ?_
 refine stage_one 8 (by kernel_rfl) rfl ?_
 gi_wp2
 refine ⟨trivial,?_⟩
 refine (callsIn_wide.2 (mustN_ok _ _)).mono ?_
 rintro e w11 ⟨rfl,hw⟩
 subst hw
 gi_wp2
 refine stage_post (isSame_below HB1.out (fun k hk=>hk.1)) ?_
 refine stage_one 9 (by kernel_rfl) rfl ?_
 gi_wp2
 refine ⟨trivial,?_⟩
 refine (callsIn_wide.2 (HLim.out _ (H7.out.res.below HB1.out))).mono ?_
 rintro e w12 ⟨rfl,hb⟩
 have HB2:=Lib.hid (HB1.out.trans (hb.mono HB1.out.size))
 clear hb
 gi_wp2
 refine stage_post (isSame_below HB2.out (fun k hk=>hk.1)) ?_
 change wpStage _ _ _ _ _ _ _ _ (2+1) _ _ _
 refine stage_reads [10] 2 _ _ (by kernel_rfl) ?_
 change wpQuietIn _ _ _ _ (fun W'=>∃ x:SameAt w8 (fun k=>k < w8.heap.size∧k≠w.heap.size+1∧k≠w.heap.size+1+1),W'=x.W) _ _ _
 simp only [pick_cons,pick_nil,List.getElem?_cons_zero,List.getElem?_cons_succ,Option.elim_some]
 repeat (gi_big_quiet_step (fail))
 refine wpQuietIn_nil ?_
 have H12:=Lib.hid (H7.out.later HB2.out)
 obtain ⟨r0,r1⟩:=cells2 H12.out.b
 have y0:=H12.out.b.frozen 0
 have y1:=H12.out.b.frozen 1
 have ce:=cell0 H12.out.c
 have ze:=H12.out.c.frozen 0
 refine stage_one 11 (by kernel_rfl) rfl ?_
 gi_wp2
 refine stage_post (isSame_of fun k hk=>(set2_heap hk.2.1).trans (HB2.out.block k hk.1)) ?_
 refine stage_one 12 (by kernel_rfl) rfl ?_
 gi_wp2
 refine stage_post (isSame_of fun k hk=>(Below.heap_setCell _ ⟨w.heap.size+1+1,0,none⟩ _ _ hk.2.2).trans ((set2_heap hk.2.1).trans (HB2.out.block k hk.1))) ?_
 refine stage_done (by kernel_rfl) ?_
 gi_wp2
 have hb2:=(H12.out.b.two_set (x:=.string f) (y:=.string t4)).far (p:=⟨w.heap.size+1+1,0,none⟩) (by show w.heap.size+1≠w.heap.size+1+1;omega) (.int .i64 0)
 have hc2:=(H12.out.c.two_far (b:=w.heap.size+1) (x:=.string f) (y:=.string t4) (by omega)).set_ 0 (.int .i64 0)
 refine door_retI (v:=.tuple #[.agg #[.string f,.string t4],.int .i64 0]) (run_cell_errno rfl rfl (load_loss hb2) rfl hc2) ⟨rfl,?_⟩
 exact ((H12.out.below.setCell (Nat.le_succ _) _).setCell (Nat.le_succ _) _).setCell (le2 _) _
theorem lossLate_any (f d u:ByteArray) (w:World) (h1:f.size≤270000) (h2:d.size≤270000) (h3:u.size≤270000) (hr:Res w) (hfit:errL f d=0→errQ u.data.toList=0→fits ((valL (f,d)).1+1)=true∧fits (((valL (f,d)).1+1)*valQ u.data.toList)=true∧fits ((valL (f,d)).2+((valL (f,d)).1+1)*valQ u.data.toList)=true) :
  Calls Tryz.prog 74 #[.agg #[.string f,.string d],.string u] w fun e w'=>e=.returned (resL (lateR f d u))∧Below w.heap.size w w':=by
 unfold lateR
 by_cases hL:errL f d=0
 ·rw [if_neg (by omega)]
  by_cases hU:errQ u.data.toList=0
  ·rw [if_neg (by omega)]
   by_cases c1:cmpQ (valQ u.data.toList) 0 < 0
   ·rw [if_pos (.inl c1)];exact late_rng1 f d u w h1 h2 h3 hr hL (IsT.of hU) c1
   by_cases c2:cmpQ (valQ u.data.toList) 1 > 0
   ·rw [if_pos (.inr c2)];exact late_rng2 f d u w h1 h2 h3 hr hL (IsT.of hU) c1 c2
   rw [if_neg (by omega)]
   obtain ⟨f1,f2,f3⟩:=hfit hL hU
   have hl:=errL_zero hL
   have hx:=late_ok f d u w h1 h2 h3 hr (valL (f,d)) _ hl (IsT.of hU) c1 c2 f1 f2 f3
   have e:resL (lateL (valL (f,d)) (valQ u.data.toList))=.tuple #[.agg #[.string f,.string (rT (minQ ((valL (f,d)).2+((valL (f,d)).1+1)*valQ u.data.toList) 1))],.int .i64 0]:=by
    have hf:f=rT (valL (f,d)).1:=hl.f.text
    unfold lateL
    rw [ovr_ok f1]
    dsimp only
    rw [ovr_ok f2]
    dsimp only
    rw [ovr_ok f3]
    show Value.tuple #[lossT _,_]=_
    unfold lossT
    dsimp only
    rw [← hf]
   rw [e]
   exact hx
  ·rw [if_pos hU];exact late_err2 f d u w h1 h2 h3 hr hL hU
 ·rw [if_pos hL];exact late_err1 f d u w h1 h2 h3 hr hL
abbrev CT:=Nat→ByteArray
def cvA (c:CT):Array Value:=#[.string (c 0),.string (c 1),.string (c 2),.string (c 3),.string (c 4),.string (c 5),.string (c 6),.string (c 7)]
def upd (c:CT) (k:Nat) (x:ByteArray):CT:=fun j=>if j=k then x else c j
theorem cvA_set (c:CT) {k:Nat} (hk:k < 8) (x:ByteArray):(cvA c).setIfInBounds k (.string x)=cvA (upd c k x):=by
 match k,hk with
 | 0,_=>rfl
 | 1,_=>rfl
 | 2,_=>rfl
 | 3,_=>rfl
 | 4,_=>rfl
 | 5,_=>rfl
 | 6,_=>rfl
 | 7,_=>rfl
theorem cvA_get (c:CT) {k:Nat} (hk:k < 8):(cvA c)[k]?=some (.string (c k)):=by
 match k,hk with
 | 0,_=>rfl
 | 1,_=>rfl
 | 2,_=>rfl
 | 3,_=>rfl
 | 4,_=>rfl
 | 5,_=>rfl
 | 6,_=>rfl
 | 7,_=>rfl
theorem cvA_ext {c c':CT} (h:∀ k,k < 8→c k=c' k):cvA c=cvA c':=by
 unfold cvA
 rw [h 0 (by omega),h 1 (by omega),h 2 (by omega),h 3 (by omega),h 4 (by omega),h 5 (by omega),h 6 (by omega),h 7 (by omega)]
def CBlk (W:World) (g:Nat) (c:CT):Prop:=Blk W g 59 (cvA c)
section
variable {W W':World} {g:Nat} {c:CT}
theorem CBlk.lt (h:CBlk W g c):g < W.heap.size:=Blk.lt h
theorem CBlk.new (w:World) (c:CT):CBlk (w.alloc (.cells #[.string (c 0),.string (c 1),.string (c 2),.string (c 3),.string (c 4),.string (c 5),.string (c 6),.string (c 7)] 59)) w.heap.size c:=Blk.new w _ _
theorem CBlk.alloc (h:CBlk W g c) (o:Obj):CBlk (W.alloc o) g c:=Blk.alloc h o
theorem CBlk.below {B:Nat} (h:CBlk W g c) (hb:Below B W W') (hg:g < B):CBlk W' g c:=Blk.below h hb hg
theorem CBlk.later (h:CBlk W g c) (hb:Below W.heap.size W W'):CBlk W' g c:=Blk.below h hb h.lt
theorem CBlk.cell (h:CBlk W g c) {k:Nat} (hk:k < 8):W.cell? ⟨g,k,none⟩=some (.string (c k)):=by
 rw [Blk.cell h,cvA_get c hk]
theorem CBlk.cells (h:CBlk W g c):W.cell? ⟨g,0,none⟩=some (.string (c 0))∧W.cell? ⟨g,1,none⟩=some (.string (c 1))∧W.cell? ⟨g,2,none⟩=some (.string (c 2))∧W.cell? ⟨g,3,none⟩=some (.string (c 3)) ∧
  W.cell? ⟨g,4,none⟩=some (.string (c 4))∧W.cell? ⟨g,5,none⟩=some (.string (c 5))∧W.cell? ⟨g,6,none⟩=some (.string (c 6))∧W.cell? ⟨g,7,none⟩=some (.string (c 7)) :=
 ⟨h.cell (by omega),h.cell (by omega),h.cell (by omega),h.cell (by omega),h.cell (by omega),h.cell (by omega),h.cell (by omega),h.cell (by omega)⟩
theorem CBlk.set_ (h:CBlk W g c) {k:Nat} (hk:k < 8) (x:ByteArray):CBlk (W.setCell ⟨g,k,none⟩ (.string x)) g (upd c k x):=by
 have:=Blk.set_ h k (.string x)
 rwa [cvA_set c hk] at this
theorem CBlk.frozen (h:CBlk W g c) (i:Nat):W.frozen? ⟨g,i,none⟩=false:=Blk.frozen h i
theorem csize:(Tryz.prog.info? 59).map (·.size)=some 8:=by kernel_rfl
theorem load_curve (h:CBlk W g c):(loadVar 59 ⟨g,0,none⟩).run Tryz.prog W=.ok (.agg (cvA c)) W :=
 run_loadVar_row W g 59 59 (cvA c) (0,0) _ h Tryz.underlying59 rfl csize
end
theorem index7_0 (a0 a1 a2 a3 a4 a5 a6:ByteArray) (w:World):(Instr.index 57 (.agg #[.string a0,.string a1,.string a2,.string a3,.string a4,.string a5,.string a6]) (.int .i64 0)).run Tryz.prog w=.ok (.string a0) w:=by kernel_rfl
theorem index7_1 (a0 a1 a2 a3 a4 a5 a6:ByteArray) (w:World):(Instr.index 57 (.agg #[.string a0,.string a1,.string a2,.string a3,.string a4,.string a5,.string a6]) (.int .i64 1)).run Tryz.prog w=.ok (.string a1) w:=by kernel_rfl
theorem index7_2 (a0 a1 a2 a3 a4 a5 a6:ByteArray) (w:World):(Instr.index 57 (.agg #[.string a0,.string a1,.string a2,.string a3,.string a4,.string a5,.string a6]) (.int .i64 2)).run Tryz.prog w=.ok (.string a2) w:=by kernel_rfl
theorem index7_3 (a0 a1 a2 a3 a4 a5 a6:ByteArray) (w:World):(Instr.index 57 (.agg #[.string a0,.string a1,.string a2,.string a3,.string a4,.string a5,.string a6]) (.int .i64 3)).run Tryz.prog w=.ok (.string a3) w:=by kernel_rfl
theorem index7_4 (a0 a1 a2 a3 a4 a5 a6:ByteArray) (w:World):(Instr.index 57 (.agg #[.string a0,.string a1,.string a2,.string a3,.string a4,.string a5,.string a6]) (.int .i64 4)).run Tryz.prog w=.ok (.string a4) w:=by kernel_rfl
theorem index7_5 (a0 a1 a2 a3 a4 a5 a6:ByteArray) (w:World):(Instr.index 57 (.agg #[.string a0,.string a1,.string a2,.string a3,.string a4,.string a5,.string a6]) (.int .i64 5)).run Tryz.prog w=.ok (.string a5) w:=by kernel_rfl
theorem index7_6 (a0 a1 a2 a3 a4 a5 a6:ByteArray) (w:World):(Instr.index 57 (.agg #[.string a0,.string a1,.string a2,.string a3,.string a4,.string a5,.string a6]) (.int .i64 6)).run Tryz.prog w=.ok (.string a6) w:=by kernel_rfl
theorem index7 (c:CT) {k:Nat} (hk:k < 7) (w:World):(Instr.index 57 (.agg #[.string (c 0),.string (c 1),.string (c 2),.string (c 3),.string (c 4),.string (c 5),.string (c 6)]) (.int .i64 (k:Int))).run Tryz.prog w=.ok (.string (c k)) w:=by
 match k,hk with
 | 0,_=>exact index7_0 _ _ _ _ _ _ _ w
 | 1,_=>exact index7_1 _ _ _ _ _ _ _ w
 | 2,_=>exact index7_2 _ _ _ _ _ _ _ w
 | 3,_=>exact index7_3 _ _ _ _ _ _ _ w
 | 4,_=>exact index7_4 _ _ _ _ _ _ _ w
 | 5,_=>exact index7_5 _ _ _ _ _ _ _ w
 | 6,_=>exact index7_6 _ _ _ _ _ _ _ w
def NextO (pre:List Nat) (x:Nat):Prop:=pre=List.range x∧x < 7
theorem orders_seq (F:Fence) (n:Nat) (hF:F.fn 230) (hro:F.round=none) (hn:1≤n) (g:Nat) (c:CT) :
  SeqOrd F n Tryz.prog 230 #[.pointer (some ⟨g,0,none⟩)] (fun i:Nat=>#[Value.int .i64 ((i:Int)+2),Value.string (c i)]) NextO (fun xs=>xs=List.range 7) (fun W=>CBlk W g c):=by
 intro l J Jx W hG _ _ hY h0
 refine callsIn_of_wp Tryz.func230 rfl hF ?_ hro
 simp only [Tryz.ntmps230,List.size_toArray,List.length_cons,List.length_nil,Nat.reduceAdd,Nat.reduceSub,Array.replicate_succ,Array.replicate_zero,List.push_toArray,List.append_toArray,List.nil_append,List.cons_append]
 obtain ⟨c0,c1,c2,c3,c4,c5,c6,-⟩:=(hG _ _ h0).cells
 have HY:=Lib.hid hY
 clear hG hY
 gi_wp2
 clear c0 c1 c2 c3 c4 c5 c6
 gi_loopw [7] (fun v7 wr=>∃ (k:Nat),k≤7∧v7=.int .i64 (k:Int)∧J (List.range k) wr) (fun v7 _=>7 - (intOf v7).toNat)
 case atStart=>exact ⟨0,by omega,rfl,h0⟩
 case round =>
  obtain ⟨k,hk,rfl,hJs⟩:=hrel
  clear h0
  rcases Nat.lt_or_ge k 7 with hlt|hge
  ·have hix:=index7 c hlt
   have hnx:NextO (List.range k) k:=⟨rfl,hlt⟩
   obtain ⟨fn,tmps,assign,body,hy,hR⟩:=HY.out (List.range k) k wr hJs hnx
   have hlt':(k:Int) < 7:=by omega
   gi_wp2
   refine hR.mono ?_
   rintro e W3 (⟨rfl,hJ3⟩|⟨rfl,hJx3⟩)
   ·gi_wp2
    go_roundw
    case rel=>exact ⟨k+1,by omega,by go_num,by rw [List.range_succ];exact hJ3⟩
    case measure=>simp [intOf];omega
   ·gi_wp2
    refine bodyPost_ret (results_none rfl _ _ _) rfl ?_
    exact ⟨⟨_,rfl⟩,.inr ⟨_,_,hnx,hJx3⟩⟩
  ·obtain rfl:k=7:=by omega
   gi_wp2
   go_end0
   exact ⟨⟨_,rfl⟩,.inl ⟨_,rfl,hJs⟩⟩
theorem orders_in (F:Fence) (n:Nat) (hF:F.fn 151) (hro:F.round=none) (c:CT) (w:World) :
  CallsIn F n Tryz.prog 151 #[.agg #[.string (c 0),.string (c 1),.string (c 2),.string (c 3),.string (c 4),.string (c 5),.string (c 6),.string (c 7)]] w fun e w'=>e=.returned (.func (.func 230) #[] #[.pointer (some ⟨w.heap.size,0,none⟩)]) ∧
   w'=w.alloc (.cells #[.string (c 0),.string (c 1),.string (c 2),.string (c 3),.string (c 4),.string (c 5),.string (c 6),.string (c 7)] 59):=by
 refine callsIn_of_wp Tryz.func151 rfl hF ?_ hro
 simp only [Tryz.ntmps151,List.size_toArray,List.length_cons,List.length_nil,Nat.reduceAdd,Nat.reduceSub,Array.replicate_succ,Array.replicate_zero,List.push_toArray,List.append_toArray,List.nil_append,List.cons_append]
 gi_wp2
 go_ret
 exact ⟨rfl,rfl⟩
theorem eg_orders:∀ args w,(callFunc 230 args).run Tryz.prog w=.ok (.enter 230 args) w:=enters_of Tryz.func230 (by kernel_rfl) rfl
abbrev CQ:=List Rat × Rat
def firstQ:List ByteArray→Nat
 | []=>0
 | a::l=>if errQ a.data.toList≠0 then errQ a.data.toList else firstQ l
def errU (l:ByteArray):Nat:=if cmpQ (valQ l.data.toList) 0 < 0∨cmpQ (valQ l.data.toList) 1 > 0 then 2 else 0
def lowQ (ms:List ByteArray):Bool:=ms.any fun m=>decide (cmpQ (valQ m.data.toList) 1 < 0)
def errC (ms:List ByteArray) (l:ByteArray):Nat :=
 if firstQ (ms++[l])≠0 then firstQ (ms++[l]) else if lowQ ms then 2 else errU l
theorem firstQ_zero {L:List ByteArray}:firstQ L=0↔∀ a∈L,errQ a.data.toList=0:=by
 induction L with
 | nil=>simp [firstQ]
 | cons a L ih =>
  unfold firstQ
  by_cases h:errQ a.data.toList=0
  ·rw [if_neg (by omega),ih];simp [h]
  ·rw [if_pos h];simp [h]
theorem errU_zero {l:ByteArray}:errU l=0↔0≤valQ l.data.toList∧valQ l.data.toList≤1:=by
 have a1:=cmpQ_lt (valQ l.data.toList) 0
 have a2:=cmpQ_gt (valQ l.data.toList) 1
 unfold errU
 split
 ·rename_i h
  constructor
  ·intro h2;cases h2
  ·intro h2
   rcases h with h|h
   ·have:=a1.1 h;grind
   ·have:=a2.1 h;grind
 ·rename_i h
  constructor
  ·intro _
   exact ⟨Rat.not_lt.1 (fun h2=>h (.inl (a1.2 h2))),Rat.not_lt.1 (fun h2=>h (.inr (a2.2 h2)))⟩
  ·intro _;rfl
theorem lowQ_false {ms:List ByteArray}:lowQ ms=false↔∀ m∈ms,1≤valQ m.data.toList:=by
 unfold lowQ
 rw [List.any_eq_false]
 constructor
 ·intro h m hm
  have:=h m hm
  rw [decide_eq_true_iff,cmpQ_lt] at this
  exact Rat.not_lt.1 this
 ·intro h m hm
  rw [decide_eq_true_iff,cmpQ_lt]
  exact Rat.not_lt.2 (h m hm)
structure CurveIs (ms:List ByteArray) (l:ByteArray) (c:CQ):Prop where
 len:ms.length=7
 same:c.1.length=7
 m:∀ (i:Nat) a q,ms[i]?=some a→c.1[i]?=some q→IsT a q∧1≤q
 l:IsT l c.2
 zero:0≤c.2
 top:c.2≤1
structure OkC (c:CQ):Prop where
 len:c.1.length=7
 m:∀ q∈c.1,fits q=true∧1≤q
 l:fits c.2=true
 zero:0≤c.2
 top:c.2≤1
def valC (ms:List ByteArray) (l:ByteArray):CQ:=(ms.map fun m=>valQ m.data.toList,valQ l.data.toList)
theorem errC_zero {ms:List ByteArray} {l:ByteArray} (hl:ms.length=7) (h:errC ms l=0):CurveIs ms l (valC ms l):=by
 unfold errC at h
 by_cases h1:firstQ (ms++[l])=0
 ·rw [if_neg (by omega)] at h
  have h1':=firstQ_zero.1 h1
  by_cases h2:lowQ ms=true
  ·rw [if_pos h2] at h;cases h
  ·rw [if_neg h2] at h
   have h2':=lowQ_false.1 (by simpa using h2)
   have h3:=errU_zero.1 h
   refine ⟨hl,by simpa [valC] using hl,?_,IsT.of (h1' l (by simp)),h3.1,h3.2⟩
   intro i a q ha hq
   unfold valC at hq
   rw [List.getElem?_map,ha] at hq
   cases hq
   have hm:=List.mem_of_getElem? ha
   exact ⟨IsT.of (h1' a (by simp [hm])),h2' a hm⟩
 ·rw [if_pos h1] at h;exact absurd h h1
theorem CurveIs.ok {ms:List ByteArray} {l:ByteArray} {c:CQ} (h:CurveIs ms l c):OkC c:=by
 refine ⟨h.same,fun q hq=>?_,h.l.fits,h.zero,h.top⟩
 obtain ⟨i,hi⟩:=List.getElem?_of_mem hq
 have hlt:i < ms.length:=by
  have:=(List.getElem?_eq_some_iff.1 hi).1
  have:=h.len;have:=h.same
  omega
 have:=h.m i _ q (List.getElem?_eq_getElem hlt) hi
 exact ⟨this.1.fits,this.2⟩
theorem CurveIs.texts {ms:List ByteArray} {l:ByteArray} {c:CQ} (h:CurveIs ms l c):ms=c.1.map rT∧l=rT c.2:=by
 refine ⟨?_,h.l.text⟩
 apply List.ext_getElem?
 intro i
 rw [List.getElem?_map]
 by_cases hi:i < 7
 ·have h1:i < ms.length:=by rw [h.len];exact hi
  have h2:i < c.1.length:=by rw [h.same];exact hi
  rw [List.getElem?_eq_getElem h1,List.getElem?_eq_getElem h2]
  have:=h.m i _ _ (List.getElem?_eq_getElem h1) (List.getElem?_eq_getElem h2)
  rw [this.1.text]
  rfl
 ·rw [List.getElem?_eq_none (by rw [h.len];omega),List.getElem?_eq_none (by rw [h.same];omega)]
  rfl
theorem CurveIs.err {ms:List ByteArray} {l:ByteArray} {c:CQ} (h:CurveIs ms l c):errC ms l=0:=by
 have hm:∀ a∈ms,errQ a.data.toList=0∧1≤valQ a.data.toList:=by
  intro a ha
  obtain ⟨i,hi⟩:=List.getElem?_of_mem ha
  have hlt:i < c.1.length:=by
   have:=(List.getElem?_eq_some_iff.1 hi).1
   have:=h.len;have:=h.same
   omega
  have:=h.m i a _ hi (List.getElem?_eq_getElem hlt)
  exact ⟨this.1.err,by rw [this.1.val];exact this.2⟩
 have h1:firstQ (ms++[l])=0:=by
  rw [firstQ_zero]
  intro a ha
  rcases List.mem_append.1 ha with h2|h2
  ·exact (hm a h2).1
  ·rw [List.mem_singleton.1 h2];exact h.l.err
 unfold errC
 rw [if_neg (by omega),lowQ_false.2 (fun a ha=>(hm a ha).2),if_neg (by decide)]
 exact errU_zero.2 (by rw [h.l.val];exact ⟨h.zero,h.top⟩)
theorem set_same {w:World} {g:Nat} {t:TypeId} {v:Value} (h:Blk w g t #[v]):w.setCell ⟨g,0,none⟩ v=w:=by
 have h2:(w.setCell ⟨g,0,none⟩ v).heap=w.heap:=by
  apply Array.ext_getElem?
  intro i
  by_cases e:i=g
  ·subst e
   have h1:Blk (w.setCell ⟨i,0,none⟩ v) i t #[v]:=h.set_ 0 v
   exact Eq.trans h1 (Eq.symm h)
  ·exact Below.heap_setCell w ⟨g,0,none⟩ v i e
 obtain ⟨heap,tape,drawn,os,output⟩:=w
 unfold World.setCell at h2 ⊢
 dsimp only at h2 ⊢
 rw [h2]
theorem mleast_any {a:ByteArray} {p:Rat} (w:World) (ha:IsT a p) (hr:Res w) :
  Calls Tryz.prog 139 #[.string a] w fun e w'=>e=.returned (.bool (decide (0≤cmpQ p 1)))∧Below w.heap.size w w':=by
 have HC:=Lib.hid (cmpT w ha IsT.one rfl hr)
 generalize cmpQ p 1=k at HC ⊢
 clear ha hr
 go_enter Tryz.func139,Tryz.ntmps139
 go_wp2_with (go_at_call 116;refine HC.out.mono ?_;rintro e w1 ⟨rfl,hb1⟩;have HB:=Lib.hid hb1;clear hb1)
 go_ret
 exact ⟨rfl,HB.out⟩
theorem sgQ_cmp (p:Rat):sgQ p < 0↔cmpQ p 0 < 0:=by
 have e1:cmpQ p 0 < 0↔p.num < 0:=by
  rw [cmpQ_cross,show (0:Rat).num=0 from rfl,show (0:Rat).den=1 from rfl]
  simp only [Int.zero_mul,Int.natCast_one,Int.mul_one]
  split
  ·rename_i h;exact ⟨fun _=>h,fun _=>by omega⟩
  ·rename_i h
   constructor
   ·intro h2;split at h2<;>omega
   ·intro h2;exact absurd h2 h
 rw [e1]
 unfold sgQ nm ng
 by_cases h0:p.num=0
 ·rw [h0];simp
 ·rw [if_neg (by omega)]
  by_cases h:p.num < 0
  ·rw [decide_eq_true h];simp [h]
  ·rw [decide_eq_false h];simp [h]
theorem between_any {a:ByteArray} {p:Rat} (w:World) (ha:IsT a p) (hr:Res w) :
  Calls Tryz.prog 158 #[.string a] w fun e w'=>e=.returned (.int .i64 (errU a:Int))∧Below w.heap.size w w':=by
 have HS:=Lib.hid (ratSign_any a w ha.size hr)
 have HC:=Lib.hid (fun w hr=>cmpT w ha IsT.one rfl hr)
 have HR:=Lib.hid hr
 unfold oneI at HS
 rw [if_neg (by rw [ha.err];decide)] at HS
 have e0:errU a=if sgQ p < 0∨cmpQ p 1 > 0 then 2 else 0:=by
  unfold errU
  rw [ha.val]
  simp only [sgQ_cmp]
 rw [ha.val] at HS
 rw [e0]
 unfold resI at HS
 dsimp only at HS
 rw [show (((0:Nat):Int))=0 from rfl] at HS
 generalize cmpQ p 1=k at *
 generalize sgQ p=s at *
 clear ha hr e0
 by_cases h1:s < 0
 ·rw [if_pos (.inl h1)]
  have d1:decide (s < 0)=true:=decide_eq_true h1
  clear h1
  go_enter Tryz.func158,Tryz.ntmps158
  go_wp2_with (first
   | (go_at_call 187;refine HS.out.mono ?_;rintro e w1 ⟨rfl,hb⟩;have HB1:=Lib.hid hb;have HR1:=Lib.hid (HR.out.below hb);clear hb)
   | (go_at_call 116;refine (HC.out _ HR1.out).mono ?_;rintro e w2 ⟨rfl,hb⟩;have HB2:=Lib.hid (HB1.out.trans (hb.mono HB1.out.size));clear hb))
  go_ret
  exact ⟨rfl,HB2.out⟩
 ·have d1:decide (s < 0)=false:=decide_eq_false h1
  by_cases h2:0 < k
  ·rw [if_pos (.inr h2)]
   have d2:decide (0 < k)=true:=decide_eq_true h2
   clear h1 h2
   go_enter Tryz.func158,Tryz.ntmps158
   go_wp2_with (first
    | (go_at_call 187;refine HS.out.mono ?_;rintro e w1 ⟨rfl,hb⟩;have HB1:=Lib.hid hb;have HR1:=Lib.hid (HR.out.below hb);clear hb)
    | (go_at_call 116;refine (HC.out _ HR1.out).mono ?_;rintro e w2 ⟨rfl,hb⟩;have HB2:=Lib.hid (HB1.out.trans (hb.mono HB1.out.size));clear hb))
   go_ret
   exact ⟨rfl,HB2.out⟩
  ·rw [if_neg (by rintro (h|h);exact h1 h;exact h2 h)]
   have d2:decide (0 < k)=false:=decide_eq_false h2
   clear h1 h2
   go_enter Tryz.func158,Tryz.ntmps158
   go_wp2_with (first
    | (go_at_call 187;refine HS.out.mono ?_;rintro e w1 ⟨rfl,hb⟩;have HB1:=Lib.hid hb;have HR1:=Lib.hid (HR.out.below hb);clear hb)
    | (go_at_call 116;refine (HC.out _ HR1.out).mono ?_;rintro e w2 ⟨rfl,hb⟩;have HB2:=Lib.hid (HB1.out.trans (hb.mono HB1.out.size));clear hb))
   go_ret
   exact ⟨rfl,HB2.out⟩
def Step (F:FuncId) (a b r:ByteArray):Prop:=∀ w,Res w→Calls Tryz.prog F #[.string a,.string b] w fun e w'=>e=.returned (.tuple #[.string r,.int .i64 0])∧Below w.heap.size w w'
theorem do_ok (F:FuncId) (hrun:Runs F) {a b r:ByteArray} (h:Nat) (w:World) (hk:Blk w h 157 #[.int .i64 0]) (hr:Res w) (hF:Step F a b r) :
  Calls Tryz.prog 140 #[.pointer (some ⟨h,0,none⟩),.func (.func F) #[] #[],.string a,.string b] w fun e w'=>e=.returned (.string r)∧Below w.heap.size w w':=by
 have c0:=cell0 hk
 have HK:=Lib.hid hk
 have HF:=Lib.hid (hF w hr)
 have hrn:=hrun
 unfold Runs at hrn
 clear hk hr hF hrun
 go_enter Tryz.func140,Tryz.ntmps140
 go_wp2
 refine HF.out.mono ?_
 rintro e w1 ⟨rfl,hb⟩
 have HK1:=Lib.hid (HK.out.below hb HK.out.lt)
 have HB:=Lib.hid hb
 have c1:=cell0 HK1.out
 have z1:=HK1.out.frozen 0
 clear hb c0
 go_wp2
 go_ret
 rw [set_same HK1.out]
 exact ⟨rfl,HB.out⟩
theorem pow_ok {a r:ByteArray} {p:Rat} {n:Int} (h:Nat) (w:World) (hk:Blk w h 157 #[.int .i64 0]) (ha:IsT a p) (h0:¬ (n < 0∧p=0)) (hc:IsT r (p ^ n)) (h1:-9223372036854775808≤n) (h2:n≤9223372036854775807) (hr:Res w) :
  Calls Tryz.prog 141 #[.pointer (some ⟨h,0,none⟩),.string a,.int .i64 n] w fun e w'=>e=.returned (.string r)∧Below w.heap.size w w':=by
 have c0:=cell0 hk
 have HK:=Lib.hid hk
 have HF:=Lib.hid (powT w ha h0 hc h1 h2 hr)
 clear hk hr ha h0 hc h1 h2
 go_enter Tryz.func141,Tryz.ntmps141
 go_wp2_with (go_at_call 135;refine HF.out.mono ?_;rintro e w1 ⟨rfl,hb⟩;have HK1:=Lib.hid (HK.out.below hb HK.out.lt);have HB:=Lib.hid hb;have c1:=cell0 HK1.out;have z1:=HK1.out.frozen 0;clear hb c0)
 go_ret
 rw [set_same HK1.out]
 exact ⟨rfl,HB.out⟩
theorem wpListIn_append_grows {F:Fence} {n:Nat} {P:Program} (w:World) {ops:Array Oper} {rest:List Oper} {o:Oper} {a:Act} {Q:Exit→Act→World→Prop}
  (hg:o.guard=none) (s x:Operand) (t:TypeId) (hop:o.op=Op.call { callee:=Callee.builtin Builtin.append,args:=#[s,x],argTypes:=#[t,t] })
  (e:TypeId) (i:TypeInfo) (z:Value) (size bytes:Nat) (h1:P.underlying t=some (.slice e)) (h2:P.info? e=some i) (h3:i.zero=some z) (h4:i.size=size) (h5:i.bytes=bytes) (h6:z.cells.size=size) (h7:0 < size)
  (b:Addr) (k cap:Nat) (olds:List Value) (hs:a.eval s=.slice (some b) k cap) (hlo:olds.length=k*size) (holds:∀ j u,olds[j]?=some u→w.cell? (b.add j)=some u)
  (ad:Addr) (m c:Nat) (news:List Value) (hx:a.eval x=.slice (some ad) m c) (hn:news.length=m*size) (hc:∀ j u,news[j]?=some u→w.cell? (ad.add j)=some u)
  (hfull:cap < k+m) (b1:k+m≤maxLen) (b2:(k+m)*bytes≤140737488355328)
  (hK:∀ v' w',w'.ownsRow w.heap.size e size v' (k+m) (olds++news)→w.grownBy w' none→wpListIn F n P ops Q rest (a.put o.dst v') w') :
  wpListIn F n P ops Q (o::rest) a w:=by
 refine wpListIn_plain hg fun K hK'=>?_
 obtain ⟨v',w',hrun,r1,r2⟩:=run_append_arg_grows (P:=P) w t o.type e i z size bytes h1 h2 h3 h4 h5 h6 h7 b k cap olds hlo holds ad m c news hn hc hfull b1 b2
 unfold Oper.wpIn
 refine ⟨?_,?_⟩
 ·simp [Oper.about,hop,resolve,Target.leads,Sem.run_pure]
 ·rw [Oper.semAt_plain F _ _ (by rw [hop];intro c hc';cases hc')]
  simp [execOp,hop,resolve,invoke,builtin,hs,hx,hrun,Result.andThen]
  exact hK' _ _ (hK v' w' r1 r2)
end Go.Proofs.YtigapglmipmbeaaGreatDoor
