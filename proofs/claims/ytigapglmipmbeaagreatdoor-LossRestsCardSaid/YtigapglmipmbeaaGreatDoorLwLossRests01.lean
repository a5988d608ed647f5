/- Functions of rat on numbers whose result does not fit. How a function hands back results that lie in cells: a struct and an error. limited, plus and above of losses. above: the loss with the greater parts. fold: losses combined, from None on; Add, Sum and Max. loss.Add, Sum and Max. loss.Fits. Texts of given numbers, by reckoning; the examples of losses in plain rationals. The reference's Write. rat: Parts, Int; the natural numbers' reference: both, number, Mul, Gcd. loss.sampled, Alpha, Beta and Half, where no number on the way is too long. What Alpha, Beta and Half return for good parameters, and where a parameter is out of its range. -/
import Derived.Test.YtigapglmipmbeaaGreatDoorRb10
import Derived.Test.YtigapglmipmbeaaGreatDoorRb03
import Derived.Test.YtigapglmipmbeaaGreatDoorRb07
set_option maxRecDepth 100000
set_option maxHeartbeats 16000000
namespace Go.Proofs.YtigapglmipmbeaaGreatDoor
open Go.RowKit Go.Shelf
open Lim
theorem out_O {r:Rat} (h:fits r=false):resN (outQ r)=.tuple #[.string ⟨#[]⟩,.int .i64 5]:=by
 rw [out_ovr,ovr_no h];rfl
section
variable {a b:ByteArray} {p q:Rat} (w:World)
theorem addO (ha:IsT a p) (hb:IsT b q) (hf:fits (p+q)=false) (hr:Res w) :
  Calls Tryz.prog 107 #[.string a,.string b] w fun e w'=>e=.returned (.tuple #[.string ⟨#[]⟩,.int .i64 5])∧Below w.heap.size w w':=by
 refine (ratAdd_any a b w ha.size hb.size hr).mono ?_
 rintro e w' ⟨rfl,h⟩
 rw [two_T ha hb,out_O hf]
 exact ⟨rfl,h⟩
theorem mulO (ha:IsT a p) (hb:IsT b q) (hf:fits (p*q)=false) (hr:Res w) :
  Calls Tryz.prog 130 #[.string a,.string b] w fun e w'=>e=.returned (.tuple #[.string ⟨#[]⟩,.int .i64 5])∧Below w.heap.size w w':=by
 refine (ratMul_any a b w ha.size hb.size hr).mono ?_
 rintro e w' ⟨rfl,h⟩
 rw [two_T ha hb,out_O hf]
 exact ⟨rfl,h⟩
end
theorem lsize:(Tryz.prog.info? 63).map (·.size)=some 2:=by kernel_rfl
theorem bsize:(Tryz.prog.info? 183).map (·.size)=some 2:=by kernel_rfl
theorem run_errno {W:World} {e:Nat} {n:Int} (h:Blk W e 32 #[.int .i64 n]):(loadVar 32 ⟨e,0,none⟩).run Tryz.prog W=.ok (.int .i64 n) W:=by
 have hc:=cell0 h
 simp [go_sem,hc]
theorem load_loss {W:World} {g:Nat} {t:TypeId} {u v:Value} (h:Blk W g t #[u,v]):(loadVar 63 ⟨g,0,none⟩).run Tryz.prog W=.ok (.agg #[u,v]) W :=
 run_loadVar_row W g t 63 #[u,v] (0,0) _ h Tryz.underlying63 rfl lsize
theorem load_bound {W:World} {g:Nat} {t:TypeId} {u v:Value} (h:Blk W g t #[u,v]):(loadVar 183 ⟨g,0,none⟩).run Tryz.prog W=.ok (.agg #[u,v]) W :=
 run_loadVar_row W g t 183 #[u,v] (0,0) _ h Tryz.underlying183 rfl bsize
section
variable {fn:Func} {p q u:Tmp} {tmps:Array Value} {W:World} {g e:Nat} {T:TypeId} {x:Value} {n:Int}
theorem run_cell (h:fn.results=#[.cell p T]) (hp:tmps.getD p undef=.pointer (some ⟨g,0,none⟩)) (hg:(loadVar T ⟨g,0,none⟩).run Tryz.prog W=.ok x W):(results fn tmps).run Tryz.prog W=.ok x W:=by
 have hp':tmps[p]?.getD undef=.pointer (some ⟨g,0,none⟩):=by simpa using hp
 simp only [results,h]
 simp [hp',asAddr,hg]
theorem run_cell_tmp (h:fn.results=#[.cell p T,.tmp u]) (hp:tmps.getD p undef=.pointer (some ⟨g,0,none⟩)) (hg:(loadVar T ⟨g,0,none⟩).run Tryz.prog W=.ok x W) :
  (results fn tmps).run Tryz.prog W=.ok (.tuple #[x,tmps.getD u undef]) W:=by
 rw [results_cell_tmp h,hp]
 simp only [asAddr,Sem.run_pure,Result.andThen_ok]
 rw [hg]
 rfl
theorem run_cell_errno (h:fn.results=#[.cell p T,.cell q 32]) (hp:tmps.getD p undef=.pointer (some ⟨g,0,none⟩)) (hg:(loadVar T ⟨g,0,none⟩).run Tryz.prog W=.ok x W)
  (hq:tmps.getD q undef=.pointer (some ⟨e,0,none⟩)) (he:Blk W e 32 #[.int .i64 n]) :
  (results fn tmps).run Tryz.prog W=.ok (.tuple #[x,.int .i64 n]) W:=by
 have h2:=run_errno he
 have hp':tmps[p]?.getD undef=.pointer (some ⟨g,0,none⟩):=by simpa using hp
 have hq':tmps[q]?.getD undef=.pointer (some ⟨e,0,none⟩):=by simpa using hq
 simp only [results,h]
 simp [Sem.run_bind,Result.andThen,hp',hq',asAddr,hg,h2]
theorem run_tmp_errno (h:fn.results=#[.tmp u,.cell q 32]) (hu:tmps.getD u undef=x) (hq:tmps.getD q undef=.pointer (some ⟨e,0,none⟩)) (he:Blk W e 32 #[.int .i64 n]) :
  (results fn tmps).run Tryz.prog W=.ok (.tuple #[x,.int .i64 n]) W:=by
 have h2:=run_errno he
 have hq':tmps[q]?.getD undef=.pointer (some ⟨e,0,none⟩):=by simpa using hq
 have hu':tmps[u]?.getD undef=x:=by simpa using hu
 simp only [results,h]
 simp [Result.andThen,hq',hu',asAddr,h2]
end
def endL:Except Nat LQ→Ending
 | .ok l=>.returned (lossT l)
 | .error n=>.panicked (pan n)
theorem five:(5:Nat)≠0:=by decide
theorem limited_any {f d:ByteArray} {D:Rat} (w:World) (hd:IsT d D) (hr:Res w) :
  Calls Tryz.prog 166 #[.string f,.string d] w fun e w'=>e=.returned (.agg #[.string f,.string (rT (minQ D 1))])∧Below w.heap.size w w':=by
 have HX:=Lib.hid (below_alloc (Below.refl w.heap.size w) (.cells #[.string ⟨#[]⟩,.string ⟨#[]⟩] 183))
 have HK:=Lib.hid (Blk.new w 183 #[.string ⟨#[]⟩,.string ⟨#[]⟩])
 have HM:=Lib.hid (minT (w.alloc (.cells #[.string ⟨#[]⟩,.string ⟨#[]⟩] 183)) hd IsT.one (rT_min hd IsT.one).symm (hr.below HX.out))
 generalize rT (minQ D 1)=m at HM ⊢
 clear hd hr
 go_enter Tryz.func166,Tryz.ntmps166
 go_wp2_with (first
  | (go_at_call 143;refine HM.out.mono ?_;rintro e w1 ⟨rfl,hb⟩;have HB:=Lib.hid (HX.out.trans (hb.mono HX.out.size));have HK1:=Lib.hid (HK.out.below hb HK.out.lt);obtain ⟨p0,p1⟩:=cells2 HK1.out;have z0:=HK1.out.frozen 0;have z1:=HK1.out.frozen 1;clear hb)
  | (go_at_call 165;refine (mustN_ok _ _).mono ?_;rintro e w2 ⟨rfl,hw⟩;subst hw))
 refine bodyPost_ret (run_cell rfl rfl (load_bound ((HK1.out.set_ 0 (.string f)).set_ 1 (.string m)))) rfl ⟨rfl,(HB.out.setCell (Nat.le_refl _) _).setCell (Nat.le_refl _) _⟩
structure At3 (w:World) (t1 t2 t3:TypeId) (c1 c2 c3:Array Value) (W:World):Prop where
 a:Blk W w.heap.size t1 c1
 b:Blk W (w.heap.size+1) t2 c2
 c:Blk W (w.heap.size+1+1) t3 c3
 res:Res W
 below:Below w.heap.size w W
theorem At3.later {w W W':World} {t1 t2 t3:TypeId} {c1 c2 c3:Array Value} (h:At3 w t1 t2 t3 c1 c2 c3 W) (hb:Below W.heap.size W W'):At3 w t1 t2 t3 c1 c2 c3 W' :=
 ⟨h.a.below hb h.a.lt,h.b.below hb h.b.lt,h.c.below hb h.c.lt,h.res.below hb,h.below.trans (hb.mono h.below.size)⟩
theorem At3.new (w:World) (t1 t2 t3:TypeId) (c1 c2 c3:Array Value) (hr:Res w):At3 w t1 t2 t3 c1 c2 c3 (((w.alloc (.cells c1 t1)).alloc (.cells c2 t2)).alloc (.cells c3 t3)):=by
 have b1:=below_alloc (Below.refl w.heap.size w) (.cells c1 t1)
 have b2:=below_alloc b1 (.cells c2 t2)
 have b3:=below_alloc b2 (.cells c3 t3)
 have k1:=Blk.new w t1 c1
 have k2:=Blk.new (w.alloc (.cells c1 t1)) t2 c2
 have k3:=Blk.new ((w.alloc (.cells c1 t1)).alloc (.cells c2 t2)) t3 c3
 have e1:(w.alloc (.cells c1 t1)).heap.size=w.heap.size+1:=by simp
 have e2:((w.alloc (.cells c1 t1)).alloc (.cells c2 t2)).heap.size=w.heap.size+1+1:=by simp
 rw [e1] at k2
 rw [e2] at k3
 exact ⟨(k1.alloc _).alloc _,k2.alloc _,k3,hr.below b3,b3⟩
theorem le2 (n:Nat):n≤n+1+1:=Nat.le_trans (Nat.le_succ n) (Nat.le_succ _)
theorem plus_ok {f d f' d':ByteArray} {a b:LQ} (w:World) (ha:LossIs f d a) (hb:LossIs f' d' b) (h1:fits (a.1*b.1)=true) (h2:fits (a.2+b.2)=true) (hr:Res w) :
  Calls Tryz.prog 162 #[.agg #[.string f,.string d],.agg #[.string f',.string d']] w fun e w'=>e=.returned (.agg #[.string (rT (a.1*b.1)),.string (rT (minQ (a.2+b.2) 1))])∧Below w.heap.size w w':=by
 have H:=Lib.hid (At3.new w 183 183 183 #[.string f,.string d] #[.string f',.string d'] #[.string ⟨#[]⟩,.string ⟨#[]⟩] hr)
 have HM:=Lib.hid (fun w hr=>mulT w ha.f hb.f (isT_rT h1) hr)
 have HA:=Lib.hid (fun w hr=>addT w ha.d hb.d (isT_rT h2) hr)
 have HL:=Lib.hid (fun (w:World) hr=>limited_any (f:=rT (a.1*b.1)) w (isT_rT h2) hr)
 generalize rT (a.1*b.1)=m at *
 generalize rT (a.2+b.2)=s at *
 generalize rT (minQ (a.2+b.2) 1)=l at *
 have TK1:True:=trivial
 clear ha hb h1 h2 hr
 go_enter Tryz.func162,Tryz.ntmps162
 go_wp2_with (first
  | (go_at_call 130;refine (HM.out _ H.out.res).mono ?_;rintro e w1 ⟨rfl,hb⟩;have H1:=Lib.hid (H.out.later hb);obtain ⟨-,p1⟩:=cells2 H1.out.a;obtain ⟨-,q1⟩:=cells2 H1.out.b;clear hb)
  | (clear TK1;go_at_call 165;refine (mustN_ok _ _).mono ?_;rintro e w2 ⟨rfl,hw⟩;subst hw)
  | (go_at_call 107;refine (HA.out _ H1.out.res).mono ?_;rintro e w3 ⟨rfl,hb⟩;have H3:=Lib.hid (H1.out.later hb);clear hb)
  | (go_at_call 165;refine (mustN_ok _ _).mono ?_;rintro e w4 ⟨rfl,hw⟩;subst hw)
  | (go_at_call 166;refine (HL.out _ H3.out.res).mono ?_;rintro e w5 ⟨rfl,hb⟩;have H5:=Lib.hid (H3.out.later hb);obtain ⟨r5,s5⟩:=cells2 H5.out.c;have y5:=H5.out.c.frozen 0;have z5:=H5.out.c.frozen 1;clear hb))
 refine bodyPost_ret (run_cell rfl rfl (load_bound ((H5.out.c.set_ 0 (.string m)).set_ 1 (.string l)))) rfl ⟨rfl,(H5.out.below.setCell (le2 _) _).setCell (le2 _) _⟩
theorem plus_no2 {f d f' d':ByteArray} {a b:LQ} (w:World) (ha:LossIs f d a) (hb:LossIs f' d' b) (h1:fits (a.1*b.1)=true) (h2:fits (a.2+b.2)=false) (hr:Res w) :
  Calls Tryz.prog 162 #[.agg #[.string f,.string d],.agg #[.string f',.string d']] w fun e w'=>e=.panicked (pan 5)∧Below w.heap.size w w':=by
 have H:=Lib.hid (At3.new w 183 183 183 #[.string f,.string d] #[.string f',.string d'] #[.string ⟨#[]⟩,.string ⟨#[]⟩] hr)
 have HM:=Lib.hid (fun w hr=>mulT w ha.f hb.f (isT_rT h1) hr)
 have HA:=Lib.hid (fun w hr=>addO w ha.d hb.d h2 hr)
 generalize rT (a.1*b.1)=m at *
 have TK1:True:=trivial
 clear ha hb h1 h2 hr
 go_enter Tryz.func162,Tryz.ntmps162
 go_wp2_with (first
  | (go_at_call 130;refine (HM.out _ H.out.res).mono ?_;rintro e w1 ⟨rfl,hb⟩;have H1:=Lib.hid (H.out.later hb);obtain ⟨-,p1⟩:=cells2 H1.out.a;obtain ⟨-,q1⟩:=cells2 H1.out.b;clear hb)
  | (clear TK1;go_at_call 165;refine (mustN_ok _ _).mono ?_;rintro e w2 ⟨rfl,hw⟩;subst hw)
  | (go_at_call 107;refine (HA.out _ H1.out.res).mono ?_;rintro e w3 ⟨rfl,hb⟩;have H3:=Lib.hid (H1.out.later hb);clear hb)
  | (go_at_call 165;refine (mustN_no _ 5 _ five).mono ?_;rintro e w4 ⟨rfl,hw⟩;subst hw))
 exact ⟨rfl,rfl,H3.out.below⟩
theorem plus_no1 {f d f' d':ByteArray} {a b:LQ} (w:World) (ha:LossIs f d a) (hb:LossIs f' d' b) (h1:fits (a.1*b.1)=false) (hr:Res w) :
  Calls Tryz.prog 162 #[.agg #[.string f,.string d],.agg #[.string f',.string d']] w fun e w'=>e=.panicked (pan 5)∧Below w.heap.size w w':=by
 have H:=Lib.hid (At3.new w 183 183 183 #[.string f,.string d] #[.string f',.string d'] #[.string ⟨#[]⟩,.string ⟨#[]⟩] hr)
 have HM:=Lib.hid (fun w hr=>mulO w ha.f hb.f h1 hr)
 have TK1:True:=trivial
 clear ha hb h1 hr
 go_enter Tryz.func162,Tryz.ntmps162
 go_wp2_with (first
  | (go_at_call 130;refine (HM.out _ H.out.res).mono ?_;rintro e w1 ⟨rfl,hb⟩;have H1:=Lib.hid (H.out.later hb);obtain ⟨-,p1⟩:=cells2 H1.out.a;obtain ⟨-,q1⟩:=cells2 H1.out.b;clear hb)
  | (go_at_call 165;refine (mustN_no _ 5 _ five).mono ?_;rintro e w2 ⟨rfl,hw⟩;subst hw))
 exact ⟨rfl,rfl,H1.out.below⟩
theorem plus_any {f d f' d':ByteArray} {a b:LQ} (w:World) (ha:LossIs f d a) (hb:LossIs f' d' b) (hr:Res w) :
  Calls Tryz.prog 162 #[.agg #[.string f,.string d],.agg #[.string f',.string d']] w fun e w'=>e=endL (plusL a b)∧Below w.heap.size w w':=by
 cases h1:fits (a.1*b.1)
 ·rw [plusL_no1 h1];exact plus_no1 w ha hb h1 hr
 cases h2:fits (a.2+b.2)
 ·rw [plusL_no2 h1 h2];exact plus_no2 w ha hb h1 h2 hr
 rw [plusL_ok h1 h2]
 exact plus_ok w ha hb h1 h2 hr
theorem same_two {W:World} {S:Nat→Prop} {b:Nat} {t:TypeId} {u v:Value} (h:Blk W b t #[u,v]) (hS:S b):(∀ x:SameAt W S,x.W.cell? ⟨b,0,none⟩=some u)∧∀ x:SameAt W S,x.W.cell? ⟨b,1,none⟩=some v :=
 ⟨fun x=>x.cell hS (cells2 h).1,fun x=>x.cell hS (cells2 h).2⟩
theorem set2_heap {w:World} {b k:Nat} {u v:Value} (h:k≠b):((w.setCell ⟨b,0,none⟩ u).setCell ⟨b,1,none⟩ v).heap[k]?=w.heap[k]? :=
 (Below.heap_setCell _ ⟨b,1,none⟩ _ _ h).trans (Below.heap_setCell _ ⟨b,0,none⟩ _ _ h)
def foldE (op:LQ→LQ→Except Nat LQ):LQ→List LQ→Except Nat LQ
 | a,[]=>.ok a
 | a,x::l=>match op a x with
  | .error n=>.error n
  | .ok b=>foldE op b l
def valL (x:L2):LQ:=(valQ x.1.data.toList,valQ x.2.data.toList)
theorem foldE_at {op:LQ→LQ→Except Nat LQ}:∀ {l:List LQ} {k:Nat} {a b x:LQ},foldE op a (l.take k)=.ok b→l[k]?=some x→foldE op a (l.take (k+1))=op b x
 | [],_,_,_,_,_,h=>by simp at h
 | y::l,0,a,b,x,h,hx=>by
  simp only [List.take_zero,foldE] at h
  cases h
  simp only [List.getElem?_cons_zero,Option.some.injEq] at hx
  subst hx
  simp only [Nat.zero_add,List.take_succ_cons,List.take_zero,foldE]
  cases op a y<;>rfl
 | y::l,k+1,a,b,x,h,hx=>by
  simp only [List.take_succ_cons,foldE] at h ⊢
  cases hy:op a y with
  | error n=>rw [hy] at h;cases h
  | ok c =>
   rw [hy] at h
   dsimp only at h ⊢
   rw [List.getElem?_cons_succ] at hx
   exact foldE_at h hx
theorem foldE_error {op:LQ→LQ→Except Nat LQ}:∀ {l:List LQ} {k:Nat} {a:LQ} {n:Nat},foldE op a (l.take k)=.error n→foldE op a l=.error n
 | [],k,a,n,h=>by simpa using h
 | y::l,0,a,n,h=>by simp [foldE] at h
 | y::l,k+1,a,n,h=>by
  simp only [List.take_succ_cons,foldE] at h ⊢
  cases hy:op a y with
  | error m=>rw [hy] at h;exact h
  | ok c=>rw [hy] at h;exact foldE_error h
def foldR (op:LQ→LQ→Except Nat LQ) (ls:List L2):Except Nat LQ:=if firstL ls≠0 then .error (firstL ls) else foldE op noneL (ls.map valL)
def Combines (F:FuncId) (op:LQ→LQ→Except Nat LQ):Prop :=
 (∀ {f d f' d':ByteArray} {a b:LQ} (w:World),LossIs f d a→LossIs f' d' b→Res w →
  Calls Tryz.prog F #[.agg #[.string f,.string d],.agg #[.string f',.string d']] w fun e w'=>e=endL (op a b)∧Below w.heap.size w w')∧(∀ a b l,OkL a→OkL b→op a b=.ok l→OkL l)∧∀ a b n,op a b=.error n→n≠0
theorem plusL_err {a b:LQ} {n:Nat} (h:plusL a b=.error n):n≠0:=by
 cases h1:fits (a.1*b.1)
 ·rw [plusL_no1 h1] at h;cases h;decide
 cases h2:fits (a.2+b.2)
 ·rw [plusL_no2 h1 h2] at h;cases h;decide
 rw [plusL_ok h1 h2] at h;cases h
theorem combines_plus:Combines 162 plusL:=⟨fun w ha hb hr=>plus_any w ha hb hr,fun _ _ _=>plusL_okL,fun _ _ _=>plusL_err⟩
theorem runs_plus:Runs 162:=runs_of Tryz.func162 (by kernel_rfl) (by kernel_rfl)
theorem none_any (w:World):Calls Tryz.prog 144 #[] w fun e w'=>e=.returned (.agg #[.string ⟨#[49]⟩,.string ⟨#[48]⟩])∧Below w.heap.size w w':=by
 have HX:=Lib.hid (below_alloc (Below.refl w.heap.size w) (.cells #[.string ⟨#[]⟩,.string ⟨#[]⟩] 63))
 have HK:=Lib.hid (Blk.new w 63 #[.string ⟨#[]⟩,.string ⟨#[]⟩])
 go_enter Tryz.func144,Tryz.ntmps144
 go_wp2
 have hk:=(HK.out.set_ 0 (.string ⟨#[49]⟩)).set_ 1 (.string ⟨#[48]⟩)
 first
  | exact bodyPost_ret (run_cell rfl rfl (load_loss hk)) rfl ⟨rfl,(HX.out.setCell (Nat.le_refl _) _).setCell (Nat.le_refl _) _⟩
  | (refine bodyPost_ret (run_cell rfl rfl (load_loss (Blk.new w 63 #[.string ⟨#[49]⟩,.string ⟨#[48]⟩]))) rfl ⟨rfl,below_alloc (Below.refl w.heap.size w) _⟩)
structure FoldAt (w:World) (g6:Nat) (acc:LQ) (W:World):Prop where
 a:Blk W w.heap.size 63 #[.string ⟨#[]⟩,.string ⟨#[]⟩]
 e:Blk W (w.heap.size+1) 32 #[.int .i64 0]
 s:Blk W g6 183 #[.string (rT acc.1),.string (rT acc.2)]
 far:w.heap.size+1 < g6
 res:Res W
 below:Below w.heap.size w W
theorem FoldAt.later {w W W':World} {g6:Nat} {acc:LQ} (h:FoldAt w g6 acc W) (hb:Below W.heap.size W W'):FoldAt w g6 acc W' :=
 ⟨h.a.below hb h.a.lt,h.e.below hb h.e.lt,h.s.below hb h.s.lt,h.far,h.res.below hb,h.below.trans (hb.mono h.below.size)⟩
theorem Blk.two_set {w:World} {b:Nat} {t:TypeId} {u v x y:Value} (h:Blk w b t #[u,v]):Blk ((w.setCell ⟨b,0,none⟩ x).setCell ⟨b,1,none⟩ y) b t #[x,y]:=(h.set_ 0 x).set_ 1 y
theorem Blk.two_far {w:World} {b g:Nat} {t:TypeId} {cs:Array Value} {x y:Value} (h:Blk w g t cs) (hg:g≠b):Blk ((w.setCell ⟨b,0,none⟩ x).setCell ⟨b,1,none⟩ y) g t cs :=
 (h.far (p:=⟨b,0,none⟩) hg x).far (p:=⟨b,1,none⟩) hg y
structure At2 (w:World) (t1 t2:TypeId) (c1 c2:Array Value) (W:World):Prop where
 a:Blk W w.heap.size t1 c1
 b:Blk W (w.heap.size+1) t2 c2
 res:Res W
 below:Below w.heap.size w W
theorem At2.later {w W W':World} {t1 t2:TypeId} {c1 c2:Array Value} (h:At2 w t1 t2 c1 c2 W) (hb:Below W.heap.size W W'):At2 w t1 t2 c1 c2 W' :=
 ⟨h.a.below hb h.a.lt,h.b.below hb h.b.lt,h.res.below hb,h.below.trans (hb.mono h.below.size)⟩
theorem At2.new (w:World) (t1 t2:TypeId) (c1 c2:Array Value) (hr:Res w):At2 w t1 t2 c1 c2 ((w.alloc (.cells c1 t1)).alloc (.cells c2 t2)):=by
 have b1:=below_alloc (Below.refl w.heap.size w) (.cells c1 t1)
 have b2:=below_alloc b1 (.cells c2 t2)
 have k1:=Blk.new w t1 c1
 have k2:=Blk.new (w.alloc (.cells c1 t1)) t2 c2
 have e1:(w.alloc (.cells c1 t1)).heap.size=w.heap.size+1:=by simp
 rw [e1] at k2
 exact ⟨k1.alloc _,k2,hr.below b2,b2⟩
theorem LRow.long {w:World} {v:Value} {ls:List L2} (h:LRow w v ls):∃ A c,v=.slice A ls.length c:=⟨_,_,h.choose_spec.choose_spec.1⟩
theorem fold_no (F:FuncId) (ls:List L2) (v:Value) (w:World) (hv:LRow w v ls) (hs:Short ls) (hr:Res w) (hL:firstL ls≠0) :
  Calls Tryz.prog 161 #[v,.func (.func F) #[] #[]] w fun e w'=>e=.returned (.tuple #[.agg #[.string ⟨#[]⟩,.string ⟨#[]⟩],.int .i64 (firstL ls:Int)])∧Below w.heap.size w w':=by
 have H:=Lib.hid (At2.new w 63 32 #[.string ⟨#[]⟩,.string ⟨#[]⟩] #[.int .i64 0] hr)
 have HV:=Lib.hid (valid_run ls v _ (hv.below H.out.below) hs H.out.res)
 obtain ⟨A,c,rfl⟩:=hv.long
 rw [endV_no hL] at HV
 generalize firstL ls=n at HV
 clear hv hs hr hL
 go_enter_defers Tryz.func161,Tryz.ntmps161
 go_wp2_with (go_at_call 164;refine HV.out.mono ?_;rintro e w1 ⟨rfl,hb⟩;have H1:=Lib.hid (H.out.later hb);clear hb)
 refine door_pan (v:=.tuple #[.agg #[.string ⟨#[]⟩,.string ⟨#[]⟩],.int .i64 (n:Int)]) H1.out.b ?_
 intro W hB hk hbel
 exact ⟨run_cell_errno rfl rfl (load_loss (hk _ _ _ (by omega) H1.out.a)) rfl hB,rfl,hbel _ _ (by omega) H1.out.below⟩
theorem fold_ok (F:FuncId) (op:LQ→LQ→Except Nat LQ) (hF:Combines F op) (hrun:Runs F) (ls:List L2) (v:Value) (w:World) (hv:LRow w v ls) (hs:Short ls) (hr:Res w) (hL:firstL ls=0) :
  Calls Tryz.prog 161 #[v,.func (.func F) #[] #[]] w fun e w'=>e=.returned (resL (foldE op noneL (ls.map valL)))∧Below w.heap.size w w':=by
 have H:=Lib.hid (At2.new w 63 32 #[.string ⟨#[]⟩,.string ⟨#[]⟩] #[.int .i64 0] hr)
 have HV:=Lib.hid (valid_run ls v _ (hv.below H.out.below) hs H.out.res)
 have HLR:=Lib.hid hv
 obtain ⟨A,c,rfl⟩:=hv.long
 obtain ⟨_,_,_,hlen,hcells⟩:=id hv
 have HCE:=Lib.hid hcells
 rw [hL] at HV
 have HF:=Lib.hid hF
 have HR0:=Lib.hid hr
 have HL:=Lib.hid (firstL_zero.1 hL)
 have hrn:=hrun
 unfold Runs at hrn
 clear hv hs hr hL hF hrun hcells
 go_enter_defers Tryz.func161,Tryz.ntmps161
 go_wp2_with (first
  | (go_at_call 164;refine HV.out.mono ?_;rintro e w1 ⟨rfl,hb⟩;rw [endV_ok];have H1:=Lib.hid (H.out.later hb);clear hb)
  | (go_at_call 144;refine (none_any _).mono ?_;rintro e w2 ⟨rfl,hb⟩;have H2:=Lib.hid (H1.out.later hb);clear hb))
 have hlt2:w.heap.size+1 < w2.heap.size:=H2.out.b.lt
 have HFA:=Lib.hid (show FoldAt w w2.heap.size noneL (w2.alloc (.cells #[.string ⟨#[49]⟩,.string ⟨#[48]⟩] 183)) from
  ⟨H2.out.a.alloc _,H2.out.b.alloc _,by
   have e1:(⟨#[49]⟩:ByteArray)=rT 1:=IsT.one.text
   have e0:(⟨#[48]⟩:ByteArray)=rT 0:=IsT.zero.text
   rw [e1,e0]
   exact Blk.new w2 _ _,hlt2,H2.out.res.below (below_alloc (Below.refl _ _) _),below_alloc H2.out.below _⟩)
 generalize w2.alloc (.cells #[.string ⟨#[49]⟩,.string ⟨#[48]⟩] 183)=W2 at *
 generalize w2.heap.size=g6 at *
 clear H H1 H2 HV
 go_loopw [15] (fun v15 wr=>∃ (k:Nat) (acc:LQ),k≤ls.length∧v15=.int .i64 (k:Int)∧Hid (foldE op noneL ((ls.map valL).take k)=.ok acc)∧Hid (OkL acc)∧Hid (FoldAt w g6 acc wr)) (fun v15 _=>ls.length - (intOf v15).toNat)
 case atStart=>exact ⟨0,noneL,Nat.zero_le _,rfl,Lib.hid (by simp [foldE]),Lib.hid okL_none,HFA⟩
 case round =>
  obtain ⟨k,acc,hk,rfl,HE,HO,HA⟩:=hrel
  clear HFA
  obtain ⟨r0,r1⟩:=cells2 HA.out.s
  have hg6:=HA.out.s.lt
  by_cases hlt:k < ls.length
  ·obtain ⟨b,o,rfl,hbw,hcell⟩:=HCE.out (by omega)
   obtain ⟨x,hx⟩:∃ x,ls[k]?=some x:=⟨_,List.getElem?_eq_getElem hlt⟩
   obtain ⟨c0,c1⟩:=hcell k x hx
   rw [← HA.out.below.cell (p:=⟨b,o+k*2,none⟩) hbw] at c0
   rw [← HA.out.below.cell (p:=⟨b,o+k*2+1,none⟩) hbw] at c1
   have hlt':(k:Int) < (ls.length:Int):=by omega
   have hb2:b < wr.heap.size:=Nat.lt_of_lt_of_le hbw HA.out.below.size
   have HX:=Lib.hid (below_alloc (Below.refl wr.heap.size wr) (.cells #[.string x.1,.string x.2] 63))
   have HFC:=Lib.hid (HF.out.1 (wr.alloc (.cells #[.string x.1,.string x.2] 63)) HO.out.is (errL_zero (HL.out x (List.mem_of_getElem? hx))) (HA.out.res.below HX.out))
   have HAT:=Lib.hid (foldE_at HE.out (show (ls.map valL)[k]?=some (valL x) by rw [List.getElem?_map,hx];rfl))
   change Hid (Calls _ _ _ _ fun e w'=>e=endL (op acc (valL x))∧_) at HFC
   have HLT:=Lib.hid (And.intro hlt hlt')
   obtain ⟨f,d⟩:=x
   dsimp only at c0 c1 HX HFC
   cases ho:op acc (valL (f,d)) with
   | error m =>
    rw [ho] at HFC HAT
    have HM:=Lib.hid (foldE_error HAT.out)
    change Hid (Calls _ _ _ _ fun e w'=>e=.panicked (pan m)∧_) at HFC
    clear hcell hx hbw hlt ho HL
    have HF2:=Lib.hid HFC.out
    clear HFC
    go_wp2_with (refine HF2.out.mono ?_;rintro e w3 ⟨rfl,hb⟩;have H3:=Lib.hid (HA.out.later (HX.out.trans (hb.mono HX.out.size)));clear hb)
    refine door_pan (v:=resL (.error m)) H3.out.e ?_
    intro W hB hkk hbel
    refine ⟨run_cell_errno rfl rfl (load_loss (hkk _ _ _ (by omega) H3.out.a)) rfl hB,?_,hbel _ _ (by omega) H3.out.below⟩
    rw [HM.out]
   | ok b' =>
    rw [ho] at HFC HAT
    change Hid (Calls _ _ _ _ fun e w'=>e=.returned (.agg #[.string (rT b'.1),.string (rT b'.2)])∧_) at HFC
    have HOB:=Lib.hid (HF.out.2.1 acc _ b' HO.out (errL_zero (HL.out (f,d) (List.mem_of_getElem? hx))).ok ho)
    clear hcell hx hbw hlt ho
    have HF2:=Lib.hid HFC.out
    clear HFC
    obtain ⟨fb,hfb⟩:∃ y,y=rT b'.1:=⟨_,rfl⟩
    obtain ⟨db,hdb⟩:∃ y,y=rT b'.2:=⟨_,rfl⟩
    rw [← hfb,← hdb] at HF2
    have HFB:=Lib.hid (And.intro hfb hdb)
    clear hfb hdb
    go_wp2_with (refine HF2.out.mono ?_;rintro e w3 ⟨rfl,hb⟩;have H3:=Lib.hid (HA.out.later (HX.out.trans (hb.mono HX.out.size)));obtain ⟨q0,q1⟩:=cells2 H3.out.s;have z0:=H3.out.s.frozen 0;have z1:=H3.out.s.frozen 1;clear hb)
    go_roundw
    case rel =>
     have hb3:=(H3.out.below.setCell (p:=⟨g6,0,none⟩) (show w.heap.size≤g6 by have:=H3.out.far;omega) (.string fb)).setCell (p:=⟨g6,1,none⟩) (show w.heap.size≤g6 by have:=H3.out.far;omega) (.string db)
     exact ⟨k+1,b',HLT.out.1,by go_num,HAT,HOB,Lib.hid ⟨H3.out.a.two_far (by have:=H3.out.far;omega),H3.out.e.two_far (by have:=H3.out.far;omega),by
      rw [← HFB.out.1,← HFB.out.2];exact H3.out.s.two_set,H3.out.far,HR0.out.below hb3,hb3⟩⟩
    case measure=>have:=HLT.out.1;simp [intOf];omega
  ·have hlt':¬ (k:Int) < (ls.length:Int):=by omega
   obtain rfl:k=ls.length:=by omega
   have HE2:=Lib.hid (show foldE op noneL (ls.map valL)=.ok acc by
    have:=HE.out
    rwa [List.take_of_length_le (by simp)] at this)
   obtain ⟨p0,p1⟩:=cells2 HA.out.a
   have z0:=HA.out.a.frozen 0
   have z1:=HA.out.a.frozen 1
   have pe:=cell0 HA.out.e
   have ze:=HA.out.e.frozen 0
   clear hlt
   go_wp2
   have ha2:=(HA.out.a.two_set (x:=.string (rT acc.1)) (y:=.string (rT acc.2))).far (p:=⟨w.heap.size+1,0,none⟩) (by show w.heap.size≠w.heap.size+1;omega) (.int .i64 0)
   have he2:=(HA.out.e.two_far (b:=w.heap.size) (x:=.string (rT acc.1)) (y:=.string (rT acc.2)) (by omega)).set_ 0 (.int .i64 0)
   refine door_ret (v:=resL (.ok acc)) (run_cell_errno rfl rfl (load_loss ha2) rfl he2) ⟨by rw [HE2.out],?_⟩
   exact (((HA.out.below.setCell (Nat.le_refl _) _).setCell (Nat.le_refl _) _).setCell (Nat.le_succ _) _)
theorem fold_any (F:FuncId) (op:LQ→LQ→Except Nat LQ) (hF:Combines F op) (hrun:Runs F) (ls:List L2) (v:Value) (w:World) (hv:LRow w v ls) (hs:Short ls) (hr:Res w) :
  Calls Tryz.prog 161 #[v,.func (.func F) #[] #[]] w fun e w'=>e=.returned (resL (foldR op ls))∧Below w.heap.size w w':=by
 unfold foldR
 by_cases hL:firstL ls=0
 ·rw [if_neg (by omega)];exact fold_ok F op hF hrun ls v w hv hs hr hL
 ·rw [if_pos hL];exact fold_no F ls v w hv hs hr hL
theorem resL_shape (r:Except Nat LQ):∃ (x y:ByteArray) (n:Int),resL r=.tuple #[.agg #[.string x,.string y],.int .i64 n]:=by
 cases r with
 | ok l=>exact ⟨_,_,_,rfl⟩
 | error n=>exact ⟨_,_,_,rfl⟩
theorem short_two {f d f' d':ByteArray} (h1:f.size≤270000) (h2:d.size≤270000) (h3:f'.size≤270000) (h4:d'.size≤270000):Short [(f,d),(f',d')]:=by
 intro x hx
 simp only [List.mem_cons,List.not_mem_nil,or_false] at hx
 rcases hx with rfl|rfl
 ·exact ⟨h1,h2⟩
 ·exact ⟨h3,h4⟩
theorem at3_row {w:World} {f d f' d':ByteArray} {c3:Array Value} {t1 t2 t3:TypeId} {W:World} (H:At3 w t1 t2 t3 #[.string f,.string d] #[.string f',.string d'] c3 W) :
  Below W.heap.size W (W.alloc (.cells #[.string f,.string d,.string f',.string d'] 63))∧LRow (W.alloc (.cells #[.string f,.string d,.string f',.string d'] 63)) (.slice (some ⟨W.heap.size,0,none⟩) 2 2) [(f,d),(f',d')] ∧
   Res (W.alloc (.cells #[.string f,.string d,.string f',.string d'] 63)) :=
 ⟨below_alloc (Below.refl _ _) _,LRow.two (Blk.new W _ _),H.res.below (below_alloc (Below.refl _ _) _)⟩
theorem lossAdd_any (f d f' d':ByteArray) (w:World) (h1:f.size≤270000) (h2:d.size≤270000) (h3:f'.size≤270000) (h4:d'.size≤270000) (hr:Res w) :
  Calls Tryz.prog 69 #[.agg #[.string f,.string d],.agg #[.string f',.string d']] w fun e w'=>e=.returned (resL (foldR plusL [(f,d),(f',d')]))∧Below w.heap.size w w':=by
 have H0:=At3.new w 63 63 63 #[.string f,.string d] #[.string f',.string d'] #[.string ⟨#[]⟩,.string ⟨#[]⟩] hr
 obtain ⟨a1,a2,a3⟩:=at3_row H0
 rw [show (((w.alloc (.cells #[.string f,.string d] 63)).alloc (.cells #[.string f',.string d'] 63)).alloc (.cells #[.string ⟨#[]⟩,.string ⟨#[]⟩] 63)).heap.size=w.heap.size+1+1+1 by simp] at a2
 have HF:=Lib.hid (fold_any 162 plusL combines_plus runs_plus _ _ _ a2 (short_two h1 h2 h3 h4) a3)
 have H1:=Lib.hid (H0.later a1)
 obtain ⟨x,y,n,hx⟩:=resL_shape (foldR plusL [(f,d),(f',d')])
 rw [hx] at HF ⊢
 clear H0 a1 a2 a3 h1 h2 h3 h4 hr hx
 go_enter Tryz.func69,Tryz.ntmps69
 go_wp2_with (go_at_call 161;refine HF.out.mono ?_;rintro e w1 ⟨rfl,hb⟩;have H2:=Lib.hid (H1.out.later hb);obtain ⟨q0,q1⟩:=cells2 H2.out.c;have z0:=H2.out.c.frozen 0;have z1:=H2.out.c.frozen 1;clear hb)
 refine bodyPost_ret (run_cell_tmp rfl rfl (load_loss H2.out.c.two_set)) rfl ⟨rfl,(H2.out.below.setCell (le2 _) _).setCell (le2 _) _⟩
theorem lossSum_any (ls:List L2) (v:Value) (w:World) (hv:LRow w v ls) (hs:Short ls) (hr:Res w) :
  Calls Tryz.prog 77 #[v] w fun e w'=>e=.returned (resL (foldR plusL ls))∧Below w.heap.size w w':=by
 have HX:=Lib.hid (below_alloc (Below.refl w.heap.size w) (.cells #[.string ⟨#[]⟩,.string ⟨#[]⟩] 63))
 have HK:=Lib.hid (Blk.new w 63 #[.string ⟨#[]⟩,.string ⟨#[]⟩])
 have HF:=Lib.hid (fold_any 162 plusL combines_plus runs_plus ls v _ (hv.below HX.out) hs (hr.below HX.out))
 obtain ⟨x,y,n,hx⟩:=resL_shape (foldR plusL ls)
 rw [hx] at HF ⊢
 clear hv hs hr hx
 go_enter Tryz.func77,Tryz.ntmps77
 go_wp2_with (go_at_call 161;refine HF.out.mono ?_;rintro e w1 ⟨rfl,hb⟩;have HB:=Lib.hid (HX.out.trans (hb.mono HX.out.size));have HK1:=Lib.hid (HK.out.below hb HK.out.lt);obtain ⟨q0,q1⟩:=cells2 HK1.out;have z0:=HK1.out.frozen 0;have z1:=HK1.out.frozen 1;clear hb)
 refine bodyPost_ret (run_cell_tmp rfl rfl (load_loss HK1.out.two_set)) rfl ⟨rfl,(HB.out.setCell (Nat.le_refl _) _).setCell (Nat.le_refl _) _⟩
def resB:Except Nat Bool→Value
 | .ok b=>.tuple #[.bool b,.int .i64 0]
 | .error n=>.tuple #[.bool false,.int .i64 (n:Int)]
def litB (m:Bool) (ln ld l:List UInt8) (q:Rat):Bool :=
 NForm ln&&NForm ld&&decide (dv ld≠0)&&decide ((dv ln).gcd (dv ld)=1)&&(!m || decide (dv ln≠0))&&decide (ln.length≤100)&&decide (ld.length≤100) &&
  decide (mkQ m (dv ln) (dv ld)=q)&&decide ((if m then [45] else [])++ln++(if dv ld=1 then [] else 47::ld)=l)
theorem isT_lit (m:Bool) (ln ld:List UInt8) {l:List UInt8} {q:Rat} (h:litB m ln ld l q=true):IsT ⟨l.toArray⟩ q∧Sz 100 q:=by
 unfold litB at h
 simp only [Bool.and_eq_true,decide_eq_true_eq,Bool.or_eq_true,Bool.not_eq_true'] at h
 obtain ⟨⟨⟨⟨⟨⟨⟨⟨h1,h2⟩,h3⟩,h4⟩,h5⟩,h6⟩,h7⟩,h8⟩,h9⟩:=h
 have e1:=NForm.eq h1
 have e2:=NForm.eq h2
 have hm:m=true→dv ln≠0:=fun hm=>by
  rcases h5 with h5|h5
  ·rw [hm] at h5;cases h5
  ·exact h5
 obtain ⟨p1,p2,p3⟩:=mkQ_low (m:=m) h3 h4
 have hs:Sz 100 q:=by
  rw [← h8,sz_iff (by decide),p1,p2,← Lib.decDigits_length,← Lib.decDigits_length,e1,e2]
  exact ⟨h6,h7⟩
 refine ⟨⟨?_,hs.mono (by decide)⟩,hs⟩
 rw [← h8,text_q h3 h4 hm,e1,e2,h9]
theorem fits_lit {q:Rat} (h:decide (nm q < 10 ^ 60∧q.den < 10 ^ 60)=true):fits q=true :=
 have h2:nm q < 10 ^ 60∧q.den < 10 ^ 60:=of_decide_eq_true h
 fits_sz.2 (Sz.mono (j:=60) h2 (by decide))
theorem t_3_2:IsT ⟨#[51,47,50]⟩ (3/2):=(isT_lit false [51] [50] (by decide +kernel)).1
theorem t_1_10:IsT ⟨#[49,47,49,48]⟩ (1/10):=(isT_lit false [49] [49,48] (by decide +kernel)).1
theorem padk_left (k x:Nat):padk (k+1) x=UInt8.ofNat (48+x / 10 ^ k % 10)::padk k x:=by
 induction k generalizing x with
 | zero=>simp [padk]
 | succ k ih =>
  rw [padk,ih,padk,Nat.div_div_eq_div_mul,Nat.pow_succ,Nat.mul_comm 10]
  rfl
section
variable {w:World} {g:Nat} {t:TypeId} {P S:List Value} {v:Value}
theorem mid_get (h:Blk w g t (P++(v::S)).toArray) {n:Nat} (hn:n=P.length):w.cell? ⟨g,n,none⟩=some v:=by
 subst hn
 rw [h.cell,List.getElem?_toArray,List.getElem?_append_right (Nat.le_refl _),Nat.sub_self]
 rfl
theorem mid_set (h:Blk w g t (P++(v::S)).toArray) {n:Nat} (hn:n=P.length) (v':Value):Blk (w.setCell ⟨g,n,none⟩ v') g t (P++(v'::S)).toArray:=by
 subst hn
 have h2:=h.set_ P.length v'
 rw [List.setIfInBounds_toArray,List.set_append_right _ _ (Nat.le_refl _),Nat.sub_self,List.set_cons_zero] at h2
 exact h2
end
theorem Tryz.infoB:(Tryz.prog.info? 5).map (fun i=>(i.zero,i.size,i.bytes))=some (some (.int .u8 0),1,1):=by kernel_rfl
theorem run_makeB {P:Program} {t e:TypeId} {i:TypeInfo} {z:Value} (ht:P.underlying t=some (.slice e)) (hi:P.info? e=some i) (hz:i.zero=some z) (hsz:i.size=1) (hby:i.bytes=1)
  {n:Nat} (hn:n≤1000000) {C:Int} (hC:C=(n:Int)) (w:World) :
  (Instr.makeSlice t (.int .i64 C) (.int .i64 C)).run P w=.ok (.slice (some ⟨w.heap.size,0,none⟩) n n) (w.alloc (.cells (madeCells z.cells n) e)):=by
 subst hC
 have hb:(i.bytes:Int)*(n:Int)≤281474976710656:=by rw [hby];omega
 have hr:=run_make (P:=P) w t e i z ht hi hz .i64 .i64 n n (by omega) (by omega) hb (by omega)
 simp only [Int.toNat_natCast,hsz,Nat.mul_one] at hr
 exact hr
theorem bytes_zeros (n:Nat):madeCells #[.int .u8 0] n=(Lib.byteCells (List.replicate n 0)).toArray:=by
 apply Array.toList_inj.1
 rw [toList_madeCells_one];simp [Lib.byteCells]
theorem rwrite_any (x:Nat) (vx:Value) (w:World) (hx:IsNatI w vx x) (hlx:(toL x).length≤40000) :
  Calls Tryz.prog 228 #[vx] w fun e w'=>e=.returned (.string ⟨(Lib.decDigits x).toArray⟩)∧Below w.heap.size w w':=by
 obtain ⟨A,c,rfl,hc,hcm,hra⟩:=hx
 by_cases h0:x=0
 ·subst h0
  have hl:(toL 0).length=0:=by rw [toL_zero];rfl
  have hs:(⟨(Lib.decDigits 0).toArray⟩:ByteArray)=⟨#[48]⟩:=by rw [Lib.decDigits_one (by omega)];rfl
  rw [hl,hs]
  clear hl hra hs
  go_enter Tryz.func228,Tryz.ntmps228
  go_wp2
  go_ret
  exact ⟨rfl,Below.refl _ _⟩
 ·have hl:0 < (toL x).length:=toL_len_pos.2 h0
  obtain ⟨i0,hi,hz0,hz1,hz2⟩:=info_parts Tryz.infoB
  have hmk:=fun W=>run_makeB (P:=Tryz.prog) Tryz.underlying123 hi hz0 hz1 hz2 (n:=9*(toL x).length) (by omega) (C:=9*((toL x).length:Int)) (by omega) W
  obtain ⟨b,o,rfl,hb,hcell⟩:=hra (by rw [I64_length];omega)
  have HC:=Lib.hid (fun i (hi:i < (toL x).length)=>hcell i _ (I64_get hi))
  have hne:(((toL x).length:Int)==0)=false:=by rw [beq_eq_false_iff_ne];omega
  have HXS:=Lib.hid (sm_toL x)
  have HDV:=Lib.hid (dv_wrAll_all (n:=x))
  clear hcell hra h0
  go_enter Tryz.func228,Tryz.ntmps228
  go_wp2
  clear hmk
  have hblk0:Blk (w.alloc (.cells (madeCells #[.int .u8 0] (9*(toL x).length)) 5)) w.heap.size 5 (Lib.byteCells (wrAll (toL x) 0++List.replicate (9*((toL x).length - 0)) 0)).toArray:=by
   have:wrAll (toL x) 0++List.replicate (9*((toL x).length - 0)) 0=List.replicate (9*(toL x).length) 0:=rfl
   rw [this,← bytes_zeros];exact Blk.new _ _ _
  have hBB:Below w.heap.size w (w.alloc (.cells (madeCells #[.int .u8 0] (9*(toL x).length)) 5)):=(Below.refl _ _).alloc (Nat.le_refl _) _
  generalize w.alloc (.cells (madeCells #[.int .u8 0] (9*(toL x).length)) 5)=W1 at *
  go_loopw [4] (fun si wr=>∃ i:Nat,i≤(toL x).length∧si=.int .i64 (i:Int)∧Blk wr w.heap.size 5 (Lib.byteCells (wrAll (toL x) i++List.replicate (9*((toL x).length - i)) 0)).toArray∧Below w.heap.size w wr) (fun si _=>(toL x).length - (intOf si).toNat)
  case atStart=>exact ⟨0,Nat.zero_le _,rfl,hblk0,hBB⟩
  case round =>
   obtain ⟨i,hi',rfl,hblk,hB⟩:=hrel
   clear hblk0 hBB
   by_cases hlt:i < (toL x).length
   ·have hcx:=(hB.cell (p:=⟨b,o+((toL x).length - 1 - i),none⟩) hb).trans (HC.out ((toL x).length - 1 - i) (by omega))
    have hx0:=HXS.out.get ((toL x).length - 1 - i)
    have HWS:=Lib.hid (wrAll_succ (toL x) i)
    have hi2:((toL x).length:Int) - 1 - (i:Int)=(((toL x).length - 1 - i:Nat):Int):=by omega
    have hi3:(toL x).length - 1 - i < (toL x).length:=by omega
    generalize (toL x)[(toL x).length - 1 - i]?.getD 0=x0 at *
    rw [B_val] at hx0
    have HB:=Lib.hid hB
    have HBK:=Lib.hid hblk
    clear hblk hB
    obtain ⟨wo,rfl⟩:∃ wo,wo=wr:=⟨_,rfl⟩
    go_wp2
    go_loopw [5,6] (fun sn sk wr=>∃ j n:Nat,j≤9∧n=x0 / 10 ^ j∧sn=.int .i64 (n:Int)∧sk=.int .i64 (8 - (j:Int))∧Blk wr w.heap.size 5 (Lib.byteCells (wrAll (toL x) i++(List.replicate (9 - j) 0++(padk j x0++List.replicate (9*((toL x).length - 1 - i)) 0)))).toArray∧Below w.heap.size w wr) (fun _ sk _=>(intOf sk+1).toNat)
    case atStart =>
     refine ⟨0,x0,Nat.zero_le _,by simp,rfl,rfl,?_,HB.out⟩
     have e:List.replicate (9 - 0) 0++(padk 0 x0++List.replicate (9*((toL x).length - 1 - i)) 0)=List.replicate (9*((toL x).length - i)) (0:UInt8):=by
      show List.replicate 9 0++([]++List.replicate (9*((toL x).length - 1 - i)) 0)=_
      rw [List.nil_append,List.replicate_append_replicate]
      congr 1
      omega
     rw [e]
     exact HBK.out
    case round =>
     obtain ⟨j,n,hj,hn,rfl,rfl,hblk,hB⟩:=hrel
     have hnx:n≤x0:=by rw [hn];exact Nat.div_le_self _ _
     have HN:=Lib.hid hn
     have HB2:=Lib.hid hB
     by_cases hj9:j=9
     ·subst hj9
      have hlast:9*((toL x).length - 1 - i)=9*((toL x).length - (i+1)):=by omega
      have HBL:=Lib.hid (show Blk wr w.heap.size 5 (Lib.byteCells (wrAll (toL x) (i+1)++List.replicate (9*((toL x).length - (i+1))) 0)).toArray from by
       rw [HWS.out,List.append_assoc,← hlast]
       exact hblk)
      clear hn hblk hB hlast hcx
      go_wp2
      go_roundw
      case rel=>exact ⟨i+1,hlt,by go_num,HBL.out,HB2.out⟩
      case measure=>simp [intOf];omega
     ·obtain ⟨k,hk⟩:∃ k,j+k=8:=⟨8 - j,by omega⟩
      have hkI:(8:Int) - (j:Int)=(k:Int):=by omega
      have hPl:(Lib.byteCells (wrAll (toL x) i++List.replicate k 0)).length=9*i+k:=by rw [Lib.byteCells_length,List.length_append,wrAll_length,List.length_replicate]
      have hform:Lib.byteCells (wrAll (toL x) i++(List.replicate (9 - j) 0++(padk j x0++List.replicate (9*((toL x).length - 1 - i)) 0))) =
        Lib.byteCells (wrAll (toL x) i++List.replicate k 0)++(.int .u8 0::Lib.byteCells (padk j x0++List.replicate (9*((toL x).length - 1 - i)) 0)):=by
       rw [show 9 - j=k+1 by omega,List.replicate_succ']
       simp [Lib.byteCells]
      rw [hform] at hblk
      have hst1:=mid_get hblk hPl.symm
      have hst2:=hblk.frozen (9*i+k)
      have HSET:=Lib.hid (fun v=>mid_set hblk hPl.symm v)
      have hlen9:9*i+k < 9*(toL x).length:=by omega
      clear hn hblk hB hform hPl hj9 hcx
      rw [hkI]
      go_wp2
      have hd:=Nat.mod_lt n (show 0 < 10 by omega)
      go_roundw
      case rel =>
       refine ⟨j+1,n / 10,by omega,?_,int_eq (by omega),int_eq (by omega),?_,HB2.out.setCell (p:=⟨w.heap.size,9*i+k,none⟩) (Nat.le_refl _) _⟩
       ·rw [HN.out,Nat.div_div_eq_div_mul,Nat.pow_succ]
       ·have h2:=HSET.out (.int .u8 (((48+n % 10:Nat)):Int))
        have e:Lib.byteCells (wrAll (toL x) i++(List.replicate (9 - (j+1)) 0++(padk (j+1) x0++List.replicate (9*((toL x).length - 1 - i)) 0))) =
          Lib.byteCells (wrAll (toL x) i++List.replicate k 0)++(.int .u8 (((48+n % 10:Nat)):Int)::Lib.byteCells (padk j x0++List.replicate (9*((toL x).length - 1 - i)) 0)):=by
         rw [show 9 - (j+1)=k by omega,padk_left,← HN.out]
         have ht:=toNat_ofNat hd
         simp only [Lib.byteCells,List.map_append,List.map_cons,List.cons_append,List.append_assoc,ht]
        rw [e]
        exact h2
      case measure=>simp [intOf]
   ·obtain rfl:i=(toL x).length:=by omega
    have hrow:Lib.byteCells (wrAll (toL x) (toL x).length++List.replicate (9*((toL x).length - (toL x).length)) 0)=Lib.byteCells (wrAll (toL x) (toL x).length):=by
     rw [Nat.sub_self];simp
    rw [hrow] at hblk
    have HB:=Lib.hid hB
    have HBK:=Lib.hid hblk
    have HLN:=Lib.hid (wrAll_length (toL x) (toL x).length)
    have HDG:=Lib.hid (wrAll_dg (toL x) (toL x).length)
    clear hblk hB hrow
    obtain ⟨wq,rfl⟩:∃ wq,wq=wr:=⟨_,rfl⟩
    go_wp2
    go_loopw [3] (fun sb w3=>∃ (k:Nat) (r:List UInt8),wrAll (toL x) (toL x).length=List.replicate k 48++r∧r≠[]∧sb=.slice (some ⟨w.heap.size,k,none⟩) r.length r.length∧w3=wq) (fun sb _=>match sb with|.slice _ n _=>n|_=>0)
    case atStart=>exact ⟨0,wrAll (toL x) (toL x).length,rfl,fun e=>by have:=HLN.out;rw [e] at this;simp at this;omega,by rw [HLN.out],rfl⟩
    case round =>
     obtain ⟨k,r,hkr,hrn,rfl,rfl⟩:=hrel
     have hsum:k+r.length=9*(toL x).length:=by
      have:=congrArg List.length hkr
      rw [HLN.out,List.length_append,List.length_replicate] at this
      omega
     have hrow:∀ j (hj:j < r.length),wr.cell? ((⟨w.heap.size,k,none⟩:Addr).add j)=some (.int .u8 ((r[j]'hj).toNat:Int)):=by
      intro j hj
      have h2:=HBK.out
      rw [hkr] at h2
      rw [Lib.add_plain,h2.cell,List.getElem?_toArray,Lib.byteCells,List.getElem?_map,List.getElem?_append_right (by rw [List.length_replicate];omega),List.length_replicate,show k+j - k=j by omega,List.getElem?_eq_getElem hj]
      rfl
     have HRN:=Lib.hid hrn
     have HKR:=Lib.hid hkr
     have HDONE:=Lib.hid (fun h=>strip_done (HDG.out) hkr hrn h)
     rw [HDV.out] at HDONE
     have HCV:=Lib.hid (run_convert_bytes_back (P:=Tryz.prog) wr 123 9 5 ⟨w.heap.size,k,none⟩ r.length r Tryz.underlying123 Tryz.underlying5 Tryz.underlying9 hrow)
     by_cases h1:1 < r.length
     ·have h1':(1:Int) < (r.length:Int):=by omega
      obtain ⟨ch,r',rfl⟩:=List.exists_cons_of_ne_nil hrn
      have hc0:=hrow 0 (by simp)
      rw [Lib.add_plain,Nat.add_zero] at hc0
      simp only [List.getElem_cons_zero] at hc0
      have hblt:w.heap.size < wr.heap.size:=HBK.out.lt
      clear hrow hkr hrn
      by_cases hch:ch=48
      ·have hcb:((ch.toNat:Int)==48)=true:=by rw [hch];rfl
       have hci:(ch.toNat:Int)=48:=by rw [hch];rfl
       have HCH:=Lib.hid hch
       clear hch
       have hrl:(ch::r').length=r'.length+1:=rfl
       rw [hrl] at h1 h1' hsum
       generalize hzz:(ch::r').length=zz at *
       go_wp2
       go_roundw
       case rel =>
        have hne':r'≠[]:=fun e=>by rw [e] at h1;simp at h1
        refine ⟨k+1,r',?_,hne',?_,trivial⟩
        ·rw [HKR.out,List.replicate_succ',List.append_assoc,HCH.out];rfl
        ·rw [if_neg hne']
       case measure=>simp [← hzz]
      ·have hcb:((ch.toNat:Int)==48)=false:=by
        rw [beq_eq_false_iff_ne]
        intro e
        apply hch
        apply UInt8.toNat_inj.1
        show ch.toNat=48
        omega
       have hci:¬ (ch.toNat:Int)=48:=by
        intro e
        apply hch
        apply UInt8.toNat_inj.1
        show ch.toNat=48
        omega
       have HR:=Lib.hid (HDONE.out (.inr (by rw [List.head?_cons];intro e;injection e with e;exact hch e)))
       have hcv:=HCV.out
       clear hch
       generalize hzz:(ch::r').length=zz at *
       go_wp2
       go_ret
       exact ⟨by first|rfl|(rw [← HR.out];rfl)|(rw [HR.out];rfl),HB.out⟩
     ·have h1':¬ (1:Int) < (r.length:Int):=by omega
      have hr1:r.length=1:=by have:=List.length_pos_iff.2 hrn;omega
      have HR:=Lib.hid (HDONE.out (.inl hr1))
      have hcv:=HCV.out
      clear hrow hkr hrn hr1
      generalize hzz:r.length=zz at *
      go_wp2
      go_ret
      exact ⟨by first|rfl|(rw [← HR.out];rfl)|(rw [HR.out];rfl),HB.out⟩
theorem ratInt_any (n:Int) (w:World) (hr:Res w) (h0:-9223372036854775808≤n) (h1:n≤9223372036854775807) :
  Calls Tryz.prog 142 #[.int .i64 n] w fun e w'=>e=.returned (.string ⟨(Lib.itoa n).toArray⟩)∧Below w.heap.size w w':=by
 have HC:=Lib.hid (Tryz.strconv_Itoa n h0 h1 w hr.tab)
 generalize Lib.itoa n=l at *
 clear hr
 go_enter Tryz.func142,Tryz.ntmps142
 go_wp2_with (go_at_call 218;refine HC.out.mono ?_;rintro e w1 ⟨rfl,k,os,rfl⟩)
 go_ret
 exact ⟨rfl,Lib.below_grow _ _ (Nat.le_refl _) _ _⟩
theorem itoa_text (n:Int):Lib.itoa n=ratText (n:Rat):=by
 unfold Lib.itoa ratText ng nm
 rw [Rat.num_intCast,Rat.den_intCast]
 by_cases h:n < 0
 ·simp [h]
 ·have:n.toNat=n.natAbs:=by omega
  simp [h,this]
theorem intT {c:ByteArray} (n:Int) (w:World) (hc:IsT c (n:Rat)) (hr:Res w) (h0:-9223372036854775808≤n) (h1:n≤9223372036854775807) :
  Calls Tryz.prog 142 #[.int .i64 n] w fun e w'=>e=.returned (.string c)∧Below w.heap.size w w':=by
 refine (ratInt_any n w hr h0 h1).mono ?_
 rintro e w' ⟨rfl,h⟩
 refine ⟨?_,h⟩
 rw [itoa_text,← hc.1]
theorem samp_err (f:ByteArray) (s:Int) (fv:Value) (w:World) (h1:f.size≤270000) (he:errQ f.data.toList≠0) (hr:Res w) :
  Calls Tryz.prog 172 #[.int .i64 s,.string f,fv] w fun e w'=>e=.returned (.tuple #[.string ⟨#[]⟩,.int .i64 (errQ f.data.toList:Int)])∧Below w.heap.size w w':=by
 have HK:=Lib.hid (Blk.new w 32 #[.int .i64 0])
 have HB:=Lib.hid (below_alloc (Below.refl w.heap.size w) (.cells #[.int .i64 0] 32))
 have HR:=Lib.hid (hr.below HB.out)
 have HC:=Lib.hid (fun w hr=>ratCheck_any f w h1 hr)
 have HN:=Lib.hid he
 generalize errQ f.data.toList=n at HC HN ⊢
 clear h1 hr he
 go_enter_defers Tryz.func172,Tryz.ntmps172
 go_wp2_with (first
  | (go_at_call 138;refine (HC.out _ HR.out).mono ?_;rintro e w1 ⟨rfl,hb⟩;have HK1:=Lib.hid (HK.out.below hb HK.out.lt);have HB1:=Lib.hid (HB.out.trans (hb.mono HB.out.size));have HR1:=Lib.hid (HR.out.below hb);clear hb)
  | (go_at_call 168;refine (mustI_no _ _ _ HN.out).mono ?_;rintro e w2 ⟨rfl,hw⟩;subst hw))
 refine door_pan (v:=.tuple #[.string ⟨#[]⟩,.int .i64 (n:Int)]) HK1.out ?_
 intro W hB hk hbel
 exact ⟨run_tmp_errno rfl rfl rfl hB,rfl,hbel _ _ (Nat.le_refl _) HB1.out⟩
theorem samp_rng1 (f:ByteArray) (s:Int) (fv:Value) (w:World) (F:Rat) (hf:IsT f F) (d1:decide (cmpQ F 1≤0)=true) (hr:Res w) :
  Calls Tryz.prog 172 #[.int .i64 s,.string f,fv] w fun e w'=>e=.returned (.tuple #[.string ⟨#[]⟩,.int .i64 2])∧Below w.heap.size w w':=by
 have HK:=Lib.hid (Blk.new w 32 #[.int .i64 0])
 have HB:=Lib.hid (below_alloc (Below.refl w.heap.size w) (.cells #[.int .i64 0] 32))
 have HR:=Lib.hid (hr.below HB.out)
 have HC:=Lib.hid (fun w hr=>checkT w hf hr)
 have HO:=Lib.hid (fun w hr=>lorder_any w hf IsT.one hr)
 generalize cmpQ F 1=x at *
 clear hf hr
 go_enter_defers Tryz.func172,Tryz.ntmps172
 go_wp2_with (first
  | (go_at_call 138;refine (HC.out _ HR.out).mono ?_;rintro e w1 ⟨rfl,hb⟩;have HK1:=Lib.hid (HK.out.below hb HK.out.lt);have HB1:=Lib.hid (HB.out.trans (hb.mono HB.out.size));have HR1:=Lib.hid (HR.out.below hb);clear hb)
  | (go_at_call 168;refine (mustI_ok _ _).mono ?_;rintro e w9 ⟨rfl,hw⟩;subst hw)
  | (go_at_call 169;refine (HO.out _ HR1.out).mono ?_;rintro e w2 ⟨rfl,hb⟩;have HK2:=Lib.hid (HK1.out.below hb HK1.out.lt);have HB2:=Lib.hid (HB1.out.trans (hb.mono HB1.out.size));have HR2:=Lib.hid (HR1.out.below hb);have ce:=cell0 HK2.out;have ze:=HK2.out.frozen 0;clear hb))
 exact door_ret (v:=.tuple #[.string ⟨#[]⟩,.int .i64 2]) (run_tmp_errno rfl rfl rfl (HK2.out.set_ 0 (.int .i64 2))) ⟨rfl,HB2.out.setCell (Nat.le_refl _) _⟩
theorem samp_rng2 (f:ByteArray) (s:Int) (fv:Value) (w:World) (F:Rat) (hf:IsT f F) (d1:decide (cmpQ F 1≤0)=false) (hs:s < 1) (hr:Res w) :
  Calls Tryz.prog 172 #[.int .i64 s,.string f,fv] w fun e w'=>e=.returned (.tuple #[.string ⟨#[]⟩,.int .i64 2])∧Below w.heap.size w w':=by
 have HK:=Lib.hid (Blk.new w 32 #[.int .i64 0])
 have HB:=Lib.hid (below_alloc (Below.refl w.heap.size w) (.cells #[.int .i64 0] 32))
 have HR:=Lib.hid (hr.below HB.out)
 have HC:=Lib.hid (fun w hr=>checkT w hf hr)
 have HO:=Lib.hid (fun w hr=>lorder_any w hf IsT.one hr)
 generalize cmpQ F 1=x at *
 have d2:decide (s < 1)=true:=decide_eq_true hs
 clear hs
 clear hf hr
 go_enter_defers Tryz.func172,Tryz.ntmps172
 go_wp2_with (first
  | (go_at_call 138;refine (HC.out _ HR.out).mono ?_;rintro e w1 ⟨rfl,hb⟩;have HK1:=Lib.hid (HK.out.below hb HK.out.lt);have HB1:=Lib.hid (HB.out.trans (hb.mono HB.out.size));have HR1:=Lib.hid (HR.out.below hb);clear hb)
  | (go_at_call 168;refine (mustI_ok _ _).mono ?_;rintro e w9 ⟨rfl,hw⟩;subst hw)
  | (go_at_call 169;refine (HO.out _ HR1.out).mono ?_;rintro e w2 ⟨rfl,hb⟩;have HK2:=Lib.hid (HK1.out.below hb HK1.out.lt);have HB2:=Lib.hid (HB1.out.trans (hb.mono HB1.out.size));have HR2:=Lib.hid (HR1.out.below hb);have ce:=cell0 HK2.out;have ze:=HK2.out.frozen 0;clear hb))
 exact door_ret (v:=.tuple #[.string ⟨#[]⟩,.int .i64 2]) (run_tmp_errno rfl rfl rfl (HK2.out.set_ 0 (.int .i64 2))) ⟨rfl,HB2.out.setCell (Nat.le_refl _) _⟩
theorem samp_rng3 (f:ByteArray) (s:Int) (fv:Value) (w:World) (F:Rat) (hf:IsT f F) (d1:decide (cmpQ F 1≤0)=false) (hs:1000000 < s) (hr:Res w) :
  Calls Tryz.prog 172 #[.int .i64 s,.string f,fv] w fun e w'=>e=.returned (.tuple #[.string ⟨#[]⟩,.int .i64 2])∧Below w.heap.size w w':=by
 have HK:=Lib.hid (Blk.new w 32 #[.int .i64 0])
 have HB:=Lib.hid (below_alloc (Below.refl w.heap.size w) (.cells #[.int .i64 0] 32))
 have HR:=Lib.hid (hr.below HB.out)
 have HC:=Lib.hid (fun w hr=>checkT w hf hr)
 have HO:=Lib.hid (fun w hr=>lorder_any w hf IsT.one hr)
 generalize cmpQ F 1=x at *
 have d2:decide (s < 1)=false:=decide_eq_false (by omega)
 have d3:decide (1000000 < s)=true:=decide_eq_true hs
 clear hs
 clear hf hr
 go_enter_defers Tryz.func172,Tryz.ntmps172
 go_wp2_with (first
  | (go_at_call 138;refine (HC.out _ HR.out).mono ?_;rintro e w1 ⟨rfl,hb⟩;have HK1:=Lib.hid (HK.out.below hb HK.out.lt);have HB1:=Lib.hid (HB.out.trans (hb.mono HB.out.size));have HR1:=Lib.hid (HR.out.below hb);clear hb)
  | (go_at_call 168;refine (mustI_ok _ _).mono ?_;rintro e w9 ⟨rfl,hw⟩;subst hw)
  | (go_at_call 169;refine (HO.out _ HR1.out).mono ?_;rintro e w2 ⟨rfl,hb⟩;have HK2:=Lib.hid (HK1.out.below hb HK1.out.lt);have HB2:=Lib.hid (HB1.out.trans (hb.mono HB1.out.size));have HR2:=Lib.hid (HR1.out.below hb);have ce:=cell0 HK2.out;have ze:=HK2.out.frozen 0;clear hb))
 exact door_ret (v:=.tuple #[.string ⟨#[]⟩,.int .i64 2]) (run_tmp_errno rfl rfl rfl (HK2.out.set_ 0 (.int .i64 2))) ⟨rfl,HB2.out.setCell (Nat.le_refl _) _⟩
theorem samp_ok (FN:FuncId) (hrun:Runs FN) (caps:Array Value) (f st rv:ByteArray) (s:Int) (w:World) (F:Rat) (hf:IsT f F) (hst:IsT st (s:Rat)) (d1:decide (cmpQ F 1≤0)=false) (hs:1≤s) (hs2:s≤1000000) (hr:Res w)
  (hF:∀ w',Below w.heap.size w w'→Res w'→Calls Tryz.prog FN (#[.string st]++caps) w' fun e w''=>e=.returned (.string rv)∧Below w'.heap.size w' w'') :
  Calls Tryz.prog 172 #[.int .i64 s,.string f,.func (.func FN) #[] caps] w fun e w'=>e=.returned (.tuple #[.string rv,.int .i64 0])∧Below w.heap.size w w':=by
 have HK:=Lib.hid (Blk.new w 32 #[.int .i64 0])
 have HB:=Lib.hid (below_alloc (Below.refl w.heap.size w) (.cells #[.int .i64 0] 32))
 have HR:=Lib.hid (hr.below HB.out)
 have HC:=Lib.hid (fun w hr=>checkT w hf hr)
 have HO:=Lib.hid (fun w hr=>lorder_any w hf IsT.one hr)
 have HI:=Lib.hid (fun w hr=>intT s w hst hr (by omega) (by omega))
 have HF:=Lib.hid hF
 generalize cmpQ F 1=x at *
 have d2:decide (s < 1)=false:=decide_eq_false (by omega)
 have d3:decide (1000000 < s)=false:=decide_eq_false (by omega)
 have hrn:=hrun
 unfold Runs at hrn
 clear hf hr hF hrun hst hs hs2
 go_enter_defers Tryz.func172,Tryz.ntmps172
 go_wp2_with (first
  | (go_at_call 138;refine (HC.out _ HR.out).mono ?_;rintro e w1 ⟨rfl,hb⟩;have HK1:=Lib.hid (HK.out.below hb HK.out.lt);have HB1:=Lib.hid (HB.out.trans (hb.mono HB.out.size));have HR1:=Lib.hid (HR.out.below hb);clear hb)
  | (go_at_call 168;refine (mustI_ok _ _).mono ?_;rintro e w9 ⟨rfl,hw⟩;subst hw)
  | (go_at_call 169;refine (HO.out _ HR1.out).mono ?_;rintro e w2 ⟨rfl,hb⟩;have HK2:=Lib.hid (HK1.out.below hb HK1.out.lt);have HB2:=Lib.hid (HB1.out.trans (hb.mono HB1.out.size));have HR2:=Lib.hid (HR1.out.below hb);clear hb)
  | (go_at_call 142;refine (HI.out _ HR2.out).mono ?_;rintro e w3 ⟨rfl,hb⟩;have HK3:=Lib.hid (HK2.out.below hb HK2.out.lt);have HB3:=Lib.hid (HB2.out.trans (hb.mono HB2.out.size));have HR3:=Lib.hid (HR2.out.below hb);clear hb))
 refine (HF.out _ HB3.out HR3.out).mono ?_
 rintro e w4 ⟨rfl,hb⟩
 have HK4:=Lib.hid (HK3.out.below hb HK3.out.lt);have HB4:=Lib.hid (HB3.out.trans (hb.mono HB3.out.size));have HR4:=Lib.hid (HR3.out.below hb);have ce:=cell0 HK4.out;have ze:=HK4.out.frozen 0;clear hb
 go_wp2
 exact door_ret (v:=.tuple #[.string rv,.int .i64 0]) (run_tmp_errno rfl rfl rfl (HK4.out.set_ 0 (.int .i64 0))) ⟨rfl,HB4.out.setCell (Nat.le_refl _) _⟩
theorem t_two:IsT ⟨#[50]⟩ 2:=(isT_lit false [50] [49] (by decide +kernel)).1
theorem alpha1_one {f:ByteArray} {F:Rat} (g:Nat) (w:World) (hf:IsT f F) (h0:F≠0) (hi:fits F⁻¹=true) (hk:Blk w g 23 #[.string f]) (hr:Res w) :
  Calls Tryz.prog 173 #[.string ⟨#[49]⟩,.pointer (some ⟨g,0,none⟩)] w fun e w'=>e=.returned (.string (rT F⁻¹))∧Below w.heap.size w w':=by
 have HK:=Lib.hid hk
 have HB:=Lib.hid (Below.refl w.heap.size w)
 have HR:=Lib.hid hr
 have ce:=cell0 hk
 have HI:=Lib.hid (fun w hr=>invT w hf (isT_rT hi) h0 hr)
 generalize rT F⁻¹=r at *
 clear hf h0 hi hr hk
 go_enter Tryz.func173,Tryz.ntmps173
 go_wp2_with (first
  | (go_at_call 174;refine (HI.out _ HR.out).mono ?_;rintro e w1 ⟨rfl,hb⟩;have HK1:=Lib.hid (HK.out.below hb HK.out.lt);have HB1:=Lib.hid (HB.out.trans (hb.mono HB.out.size));have HR1:=Lib.hid (HR.out.below hb);have ce1:=cell0 HK1.out;clear hb)
  | (go_at_call 165;refine (mustN_ok _ _).mono ?_;rintro e w9 ⟨rfl,hw⟩;subst hw))
 go_ret
 exact ⟨rfl,HB1.out⟩
theorem alpha1_more {f st:ByteArray} {F S:Rat} (g:Nat) (w:World) (hf:IsT f F) (hst:IsT st S) (hne:(st.toList==[49])=false) (f1:fits (S*F)=true) (f2:fits (S*F+F)=true) (f3:fits (S*F+F+-1)=true) (f4:fits (S*F*(S*F+F+-1)⁻¹)=true) (h0:S*F+F+-1≠0) (hk:Blk w g 23 #[.string f]) (hr:Res w) :
  Calls Tryz.prog 173 #[.string st,.pointer (some ⟨g,0,none⟩)] w fun e w'=>e=.returned (.string (rT (S*F*(S*F+F+-1)⁻¹)))∧Below w.heap.size w w':=by
 have HK:=Lib.hid hk
 have HB:=Lib.hid (Below.refl w.heap.size w)
 have HR:=Lib.hid hr
 have ce:=cell0 hk
 have HM:=Lib.hid (fun w hr=>mulT w hst hf (isT_rT f1) hr)
 have HA:=Lib.hid (fun w hr=>addT w (isT_rT f1) hf (isT_rT f2) hr)
 have HS:=Lib.hid (fun w hr=>subT w (isT_rT f2) IsT.one (isT_rT f3) hr)
 have HD:=Lib.hid (fun w hr=>divT w (isT_rT f1) (isT_rT f3) (isT_rT f4) h0 hr)
 generalize rT (S*F*(S*F+F+-1)⁻¹)=r4 at *
 generalize rT (S*F+F+-1)=r3 at *
 generalize rT (S*F+F)=r2 at *
 generalize rT (S*F)=r1 at *
 clear hf hst h0 f1 f2 f3 f4 hr hk
 go_enter Tryz.func173,Tryz.ntmps173
 go_wp2_with (first
  | (go_at_call 130;refine (HM.out _ HR.out).mono ?_;rintro e w1 ⟨rfl,hb⟩;have HK1:=Lib.hid (HK.out.below hb HK.out.lt);have HB1:=Lib.hid (HB.out.trans (hb.mono HB.out.size));have HR1:=Lib.hid (HR.out.below hb);have ce1:=cell0 HK1.out;clear hb)
  | (go_at_call 107;refine (HA.out _ HR1.out).mono ?_;rintro e w2 ⟨rfl,hb⟩;have HK2:=Lib.hid (HK1.out.below hb HK1.out.lt);have HB2:=Lib.hid (HB1.out.trans (hb.mono HB1.out.size));have HR2:=Lib.hid (HR1.out.below hb);have ce2:=cell0 HK2.out;clear hb)
  | (go_at_call 117;refine (HS.out _ HR2.out).mono ?_;rintro e w3 ⟨rfl,hb⟩;have HK3:=Lib.hid (HK2.out.below hb HK2.out.lt);have HB3:=Lib.hid (HB2.out.trans (hb.mono HB2.out.size));have HR3:=Lib.hid (HR2.out.below hb);have ce3:=cell0 HK3.out;clear hb)
  | (go_at_call 133;refine (HD.out _ HR3.out).mono ?_;rintro e w4 ⟨rfl,hb⟩;have HK4:=Lib.hid (HK3.out.below hb HK3.out.lt);have HB4:=Lib.hid (HB3.out.trans (hb.mono HB3.out.size));have HR4:=Lib.hid (HR3.out.below hb);have ce4:=cell0 HK4.out;clear hb)
  | (go_at_call 165;refine (mustN_ok _ _).mono ?_;rintro e w9 ⟨rfl,hw⟩;subst hw))
 go_ret
 exact ⟨rfl,HB4.out⟩
theorem half1_any {f:ByteArray} {F:Rat} (st:ByteArray) (g:Nat) (w:World) (hf:IsT f F) (f1:fits (2*F)=true) (f2:fits (F+1)=true) (f3:fits (2*F*(F+1)⁻¹)=true) (h0:F+1≠0) (hk:Blk w g 23 #[.string f]) (hr:Res w) :
  Calls Tryz.prog 178 #[.string st,.pointer (some ⟨g,0,none⟩)] w fun e w'=>e=.returned (.string (rT (2*F*(F+1)⁻¹)))∧Below w.heap.size w w':=by
 have HK:=Lib.hid hk
 have HB:=Lib.hid (Below.refl w.heap.size w)
 have HR:=Lib.hid hr
 have ce:=cell0 hk
 have HM:=Lib.hid (fun w hr=>mulT w t_two hf (isT_rT f1) hr)
 have HA:=Lib.hid (fun w hr=>addT w hf IsT.one (isT_rT f2) hr)
 have HD:=Lib.hid (fun w hr=>divT w (isT_rT f1) (isT_rT f2) (isT_rT f3) h0 hr)
 generalize rT (2*F*(F+1)⁻¹)=r3 at *
 generalize rT (F+1)=r2 at *
 generalize rT (2*F)=r1 at *
 clear hf h0 f1 f2 f3 hr hk
 go_enter Tryz.func178,Tryz.ntmps178
 go_wp2_with (first
  | (go_at_call 130;refine (HM.out _ HR.out).mono ?_;rintro e w1 ⟨rfl,hb⟩;have HK1:=Lib.hid (HK.out.below hb HK.out.lt);have HB1:=Lib.hid (HB.out.trans (hb.mono HB.out.size));have HR1:=Lib.hid (HR.out.below hb);have ce1:=cell0 HK1.out;clear hb)
  | (go_at_call 107;refine (HA.out _ HR1.out).mono ?_;rintro e w2 ⟨rfl,hb⟩;have HK2:=Lib.hid (HK1.out.below hb HK1.out.lt);have HB2:=Lib.hid (HB1.out.trans (hb.mono HB1.out.size));have HR2:=Lib.hid (HR1.out.below hb);have ce2:=cell0 HK2.out;clear hb)
  | (go_at_call 133;refine (HD.out _ HR2.out).mono ?_;rintro e w3 ⟨rfl,hb⟩;have HK3:=Lib.hid (HK2.out.below hb HK2.out.lt);have HB3:=Lib.hid (HB2.out.trans (hb.mono HB2.out.size));have HR3:=Lib.hid (HR2.out.below hb);have ce3:=cell0 HK3.out;clear hb)
  | (go_at_call 165;refine (mustN_ok _ _).mono ?_;rintro e w9 ⟨rfl,hw⟩;subst hw))
 go_ret
 exact ⟨rfl,HB3.out⟩
theorem beta1_any {f st:ByteArray} {F S:Rat} (g:Nat) (w:World) (hf:IsT f F) (hst:IsT st S) (f1:fits (S+S)=true) (f2:fits ((S+S)*F)=true) (f3:fits (F+-1)=true) (f4:fits ((F+-1)*((S+S)*F)⁻¹)=true) (f5:fits (1+(F+-1)*((S+S)*F)⁻¹)=true) (h0:(S+S)*F≠0) (hk:Blk w g 23 #[.string f]) (hr:Res w) :
  Calls Tryz.prog 177 #[.string st,.pointer (some ⟨g,0,none⟩)] w fun e w'=>e=.returned (.string (rT (1+(F+-1)*((S+S)*F)⁻¹)))∧Below w.heap.size w w':=by
 have HK:=Lib.hid hk
 have HB:=Lib.hid (Below.refl w.heap.size w)
 have HR:=Lib.hid hr
 have ce:=cell0 hk
 have HA:=Lib.hid (fun w hr=>addT w hst hst (isT_rT f1) hr)
 have HM:=Lib.hid (fun w hr=>mulT w (isT_rT f1) hf (isT_rT f2) hr)
 have HS:=Lib.hid (fun w hr=>subT w hf IsT.one (isT_rT f3) hr)
 have HD:=Lib.hid (fun w hr=>divT w (isT_rT f3) (isT_rT f2) (isT_rT f4) h0 hr)
 have HE:=Lib.hid (fun w hr=>addT w IsT.one (isT_rT f4) (isT_rT f5) hr)
 generalize rT (1+(F+-1)*((S+S)*F)⁻¹)=r5 at *
 generalize rT ((F+-1)*((S+S)*F)⁻¹)=r4 at *
 generalize rT (F+-1)=r3 at *
 generalize rT ((S+S)*F)=r2 at *
 generalize rT (S+S)=r1 at *
 clear hf hst h0 f1 f2 f3 f4 f5 hr
 have hmx:Tryz.prog.follows .mixedOrders=true:=by kernel_rfl
 have x0:∀ x:SameAt w (fun k=>k < w.heap.size),x.W.cell? ⟨g,0,none⟩=some (.string f):=fun x=>x.cell hk.lt ce
 clear hk
 go_enter Tryz.func177,Tryz.ntmps177
 go_wp2
 refine wpIn_wide.1 (wpIn_stage (n:=3) (IsSame w (fun k=>k < w.heap.size)) [0,1,3,4,6,8,9] [] hmx (by kernel_rfl) (isSame_of fun _ _=>rfl) ?_)
 change wpStage _ _ _ _ _ _ _ _ (9+3) _ _ _
 refine stage_reads [0,1,6] 9 _ _ (by kernel_rfl) ?_
 change wpQuietIn _ _ _ _ (fun W'=>∃ x:SameAt w (fun k=>k < w.heap.size),W'=x.W) _ _ _
 simp only [pick_cons,pick_nil,List.getElem?_cons_zero,List.getElem?_cons_succ,Option.elim_some]
 repeat (gi_big_quiet_step (fail))
 refine wpQuietIn_nil ?_
 refine stage_one 2 (by kernel_rfl) rfl ?_
 gi_wp2
 refine ⟨trivial,?_⟩
 refine (callsIn_wide.2 (HA.out _ (HR.out.below (below_drew (Below.refl _ _))))).mono ?_
 rintro e w1 ⟨rfl,hb⟩
 have HB1:=Lib.hid (show Below w.heap.size w w1 from below_undrew hb)
 clear hb
 gi_wp2
 refine stage_post (isSame_below HB1.out (fun k hk=>hk)) ?_
 change wpStage _ _ _ _ _ _ _ _ (6+2) _ _ _
 refine stage_reads [3,4] 6 _ _ (by kernel_rfl) ?_
 change wpQuietIn _ _ _ _ (fun W'=>∃ x:SameAt w (fun k=>k < w.heap.size),W'=x.W) _ _ _
 simp only [pick_cons,pick_nil,List.getElem?_cons_zero,List.getElem?_cons_succ,Option.elim_some]
 repeat (gi_big_quiet_step (fail))
 refine wpQuietIn_nil ?_
 refine stage_one 5 (by kernel_rfl) rfl ?_
 gi_wp2
 refine ⟨trivial,?_⟩
 refine (callsIn_wide.2 (mustN_ok _ _)).mono ?_
 rintro e w9 ⟨rfl,hw⟩
 subst hw
 gi_wp2
 refine stage_post (isSame_below HB1.out (fun k hk=>hk)) ?_
 refine stage_one 7 (by kernel_rfl) rfl ?_
 gi_wp2
 refine ⟨trivial,?_⟩
 refine (callsIn_wide.2 (HM.out _ (HR.out.below HB1.out))).mono ?_
 rintro e w2 ⟨rfl,hb⟩
 have HB2:=Lib.hid (HB1.out.trans (hb.mono HB1.out.size))
 clear hb
 gi_wp2
 refine stage_post (isSame_below HB2.out (fun k hk=>hk)) ?_
 change wpStage _ _ _ _ _ _ _ _ (2+2) _ _ _
 refine stage_reads [8,9] 2 _ _ (by kernel_rfl) ?_
 change wpQuietIn _ _ _ _ (fun W'=>∃ x:SameAt w (fun k=>k < w.heap.size),W'=x.W) _ _ _
 simp only [pick_cons,pick_nil,List.getElem?_cons_zero,List.getElem?_cons_succ,Option.elim_some]
 repeat (gi_big_quiet_step (fail))
 refine wpQuietIn_nil ?_
 refine stage_one 10 (by kernel_rfl) rfl ?_
 gi_wp2
 refine ⟨trivial,?_⟩
 refine (callsIn_wide.2 (mustN_ok _ _)).mono ?_
 rintro e w9 ⟨rfl,hw⟩
 subst hw
 gi_wp2
 refine stage_post (isSame_below HB2.out (fun k hk=>hk)) ?_
 refine stage_one 11 (by kernel_rfl) rfl ?_
 gi_wp2
 refine stage_post (isSame_below HB2.out (fun k hk=>hk)) ?_
 refine stage_done (by kernel_rfl) ?_
 have HK2:=Lib.hid (HK.out.below HB2.out HK.out.lt)
 have HR2:=Lib.hid (HR.out.below HB2.out)
 have ce2:=cell0 HK2.out
 go_wp2_with (first
  | (go_at_call 117;refine (HS.out _ HR2.out).mono ?_;rintro e w3 ⟨rfl,hb⟩;have HK3:=Lib.hid (HK2.out.below hb HK2.out.lt);have HB3:=Lib.hid (HB2.out.trans (hb.mono HB2.out.size));have HR3:=Lib.hid (HR2.out.below hb);have ce3:=cell0 HK3.out;clear hb)
  | (go_at_call 133;refine (HD.out _ HR3.out).mono ?_;rintro e w4 ⟨rfl,hb⟩;have HK4:=Lib.hid (HK3.out.below hb HK3.out.lt);have HB4:=Lib.hid (HB3.out.trans (hb.mono HB3.out.size));have HR4:=Lib.hid (HR3.out.below hb);have ce4:=cell0 HK4.out;clear hb)
  | (go_at_call 107;refine (HE.out _ HR4.out).mono ?_;rintro e w5 ⟨rfl,hb⟩;have HK5:=Lib.hid (HK4.out.below hb HK4.out.lt);have HB5:=Lib.hid (HB4.out.trans (hb.mono HB4.out.size));have HR5:=Lib.hid (HR4.out.below hb);have ce5:=cell0 HK5.out;clear hb)
  | (go_at_call 165;refine (mustN_ok _ _).mono ?_;rintro e w9 ⟨rfl,hw⟩;subst hw))
 go_ret
 exact ⟨rfl,HB5.out⟩
theorem runs_alpha1:Runs 173:=runs_of Tryz.func173 (by kernel_rfl) (by kernel_rfl)
theorem runs_beta1:Runs 177:=runs_of Tryz.func177 (by kernel_rfl) (by kernel_rfl)
theorem runs_half1:Runs 178:=runs_of Tryz.func178 (by kernel_rfl) (by kernel_rfl)
theorem alpha_door (f rv:ByteArray) (k:Int) (s:Int) (w:World) (hr:Res w)
  (hS:∀ w',Below w.heap.size w w'→Res w'→Blk w' w.heap.size 23 #[.string f]→Calls Tryz.prog 172 #[.int .i64 s,.string f,.func (.func 173) #[] #[.pointer (some ⟨w.heap.size,0,none⟩)]] w' fun e w''=>e=.returned (.tuple #[.string rv,.int .i64 k])∧Below w'.heap.size w' w'') :
  Calls Tryz.prog 80 #[.int .i64 s,.string f] w fun e w'=>e=.returned (.tuple #[.string rv,.int .i64 k])∧Below w.heap.size w w':=by
 have HK:=Lib.hid (Blk.new w 23 #[.string f])
 have HB:=Lib.hid (below_alloc (Below.refl w.heap.size w) (.cells #[.string f] 23))
 have HC:=Lib.hid (hS _ HB.out (hr.below HB.out) HK.out)
 have ce:=cell0 HK.out
 clear hr hS
 go_enter Tryz.func80,Tryz.ntmps80
 go_wp2_with (go_at_call 172;refine HC.out.mono ?_;rintro e w1 ⟨rfl,hb⟩;have HB1:=Lib.hid (HB.out.trans (hb.mono HB.out.size));clear hb)
 exact bodyPost_ret (results_tmp2 rfl _ _ _) rfl ⟨rfl,HB1.out⟩
theorem beta_door (f rv:ByteArray) (k:Int) (s:Int) (w:World) (hr:Res w)
  (hS:∀ w',Below w.heap.size w w'→Res w'→Blk w' w.heap.size 23 #[.string f]→Calls Tryz.prog 172 #[.int .i64 s,.string f,.func (.func 177) #[] #[.pointer (some ⟨w.heap.size,0,none⟩)]] w' fun e w''=>e=.returned (.tuple #[.string rv,.int .i64 k])∧Below w'.heap.size w' w'') :
  Calls Tryz.prog 82 #[.int .i64 s,.string f] w fun e w'=>e=.returned (.tuple #[.string rv,.int .i64 k])∧Below w.heap.size w w':=by
 have HK:=Lib.hid (Blk.new w 23 #[.string f])
 have HB:=Lib.hid (below_alloc (Below.refl w.heap.size w) (.cells #[.string f] 23))
 have HC:=Lib.hid (hS _ HB.out (hr.below HB.out) HK.out)
 have ce:=cell0 HK.out
 clear hr hS
 go_enter Tryz.func82,Tryz.ntmps82
 go_wp2_with (go_at_call 172;refine HC.out.mono ?_;rintro e w1 ⟨rfl,hb⟩;have HB1:=Lib.hid (HB.out.trans (hb.mono HB.out.size));clear hb)
 exact bodyPost_ret (results_tmp2 rfl _ _ _) rfl ⟨rfl,HB1.out⟩
theorem half_door (f rv:ByteArray) (k:Int) (w:World) (hr:Res w)
  (hS:∀ w',Below w.heap.size w w'→Res w'→Blk w' w.heap.size 23 #[.string f]→Calls Tryz.prog 172 #[.int .i64 1,.string f,.func (.func 178) #[] #[.pointer (some ⟨w.heap.size,0,none⟩)]] w' fun e w''=>e=.returned (.tuple #[.string rv,.int .i64 k])∧Below w'.heap.size w' w'') :
  Calls Tryz.prog 84 #[.string f] w fun e w'=>e=.returned (.tuple #[.string rv,.int .i64 k])∧Below w.heap.size w w':=by
 have HK:=Lib.hid (Blk.new w 23 #[.string f])
 have HB:=Lib.hid (below_alloc (Below.refl w.heap.size w) (.cells #[.string f] 23))
 have HC:=Lib.hid (hS _ HB.out (hr.below HB.out) HK.out)
 have ce:=cell0 HK.out
 clear hr hS
 go_enter Tryz.func84,Tryz.ntmps84
 go_wp2_with (go_at_call 172;refine HC.out.mono ?_;rintro e w1 ⟨rfl,hb⟩;have HB1:=Lib.hid (HB.out.trans (hb.mono HB.out.size));clear hb)
 exact bodyPost_ret (results_tmp2 rfl _ _ _) rfl ⟨rfl,HB1.out⟩
theorem sz_ofInt {s:Int} {k:Nat} (hk:0 < k) (h:s.natAbs < 10 ^ k):Sz k (s:Rat):=by
 refine ⟨by unfold nm;rw [Rat.num_intCast];exact h,?_⟩
 rw [Rat.den_intCast]
 exact Nat.one_lt_pow (by omega) (by decide)
theorem IsT.not_one {a:ByteArray} {q:Rat} (h:IsT a q) (h1:q≠1):(a.toList==[49])=false:=by
 rw [beq_eq_false_iff_ne]
 intro e
 apply h1
 rw [Lib.toList_data] at e
 exact h.inj ⟨by rw [← IsT.one.1];exact ByteArray.ext (Array.toList_inj.1 e),Sz.one.mono (by decide)⟩
theorem low_cmp {F:Rat} (h:1 < F):decide (cmpQ F 1≤0)=false:=decide_eq_false (fun h2=>by have:=(cmpQ_le F 1).1 h2;grind)
section
variable {f:ByteArray} {F:Rat} (w:World)
theorem lossAlpha_one (hf:IsT f F) (hF:1 < F) (hi:fits F⁻¹=true) (hr:Res w) :
  Calls Tryz.prog 80 #[.int .i64 1,.string f] w fun e w'=>e=.returned (.tuple #[.string (rT F⁻¹),.int .i64 0])∧Below w.heap.size w w' :=
 alpha_door f _ _ 1 w hr (fun w' _ hr' hk=>samp_ok 173 runs_alpha1 _ f ⟨#[49]⟩ _ 1 w' F hf (by simpa using IsT.one) (low_cmp hF) (by omega) (by omega) hr'
  (fun w'' hb hr''=>alpha1_one w.heap.size w'' hf (by grind) hi (hk.below hb hk.lt) hr''))
theorem lossAlpha_more {s:Int} (hs:2≤s) (hs2:s≤1000000) (hf:IsT f F) (hF:1 < F) (f0:fits (s:Rat)=true) (f1:fits ((s:Rat)*F)=true) (f2:fits ((s:Rat)*F+F)=true) (f3:fits ((s:Rat)*F+F+-1)=true) (f4:fits ((s:Rat)*F*((s:Rat)*F+F+-1)⁻¹)=true) (h0:(s:Rat)*F+F+-1≠0) (hr:Res w) :
  Calls Tryz.prog 80 #[.int .i64 s,.string f] w fun e w'=>e=.returned (.tuple #[.string (rT ((s:Rat)*F*((s:Rat)*F+F+-1)⁻¹)),.int .i64 0])∧Below w.heap.size w w' :=
 have hne:(s:Rat)≠1:=fun e=>by
  have:s=1:=by exact_mod_cast e
  omega
 alpha_door f _ _ s w hr (fun w' _ hr' hk=>samp_ok 173 runs_alpha1 _ f (rT (s:Rat)) _ s w' F hf (isT_rT f0) (low_cmp hF) (by omega) hs2 hr'
  (fun w'' hb hr''=>alpha1_more w.heap.size w'' hf (isT_rT f0) ((isT_rT f0).not_one hne) f1 f2 f3 f4 h0 (hk.below hb hk.lt) hr''))
theorem lossBeta_ok {s:Int} (hs:1≤s) (hs2:s≤1000000) (hf:IsT f F) (hF:1 < F) (f0:fits (s:Rat)=true) (f1:fits ((s:Rat)+(s:Rat))=true) (f2:fits (((s:Rat)+(s:Rat))*F)=true) (f3:fits (F+-1)=true) (f4:fits ((F+-1)*(((s:Rat)+(s:Rat))*F)⁻¹)=true) (f5:fits (1+(F+-1)*(((s:Rat)+(s:Rat))*F)⁻¹)=true) (h0:((s:Rat)+(s:Rat))*F≠0) (hr:Res w) :
  Calls Tryz.prog 82 #[.int .i64 s,.string f] w fun e w'=>e=.returned (.tuple #[.string (rT (1+(F+-1)*(((s:Rat)+(s:Rat))*F)⁻¹)),.int .i64 0])∧Below w.heap.size w w' :=
 beta_door f _ _ s w hr (fun w' _ hr' hk=>samp_ok 177 runs_beta1 _ f (rT (s:Rat)) _ s w' F hf (isT_rT f0) (low_cmp hF) hs hs2 hr'
  (fun w'' hb hr''=>beta1_any w.heap.size w'' hf (isT_rT f0) f1 f2 f3 f4 f5 h0 (hk.below hb hk.lt) hr''))
theorem lossHalf_ok (hf:IsT f F) (hF:1 < F) (f1:fits (2*F)=true) (f2:fits (F+1)=true) (f3:fits (2*F*(F+1)⁻¹)=true) (hr:Res w) :
  Calls Tryz.prog 84 #[.string f] w fun e w'=>e=.returned (.tuple #[.string (rT (2*F*(F+1)⁻¹)),.int .i64 0])∧Below w.heap.size w w' :=
 half_door f _ _ w hr (fun w' _ hr' hk=>samp_ok 178 runs_half1 _ f ⟨#[49]⟩ _ 1 w' F hf (by simpa using IsT.one) (low_cmp hF) (by omega) (by omega) hr'
  (fun w'' hb hr''=>half1_any ⟨#[49]⟩ w.heap.size w'' hf f1 f2 f3 (by grind) (hk.below hb hk.lt) hr''))
theorem samp_rng {s:Int} (fv:Value) (hf:IsT f F) (h:cmpQ F 1≤0∨s < 1∨s > 1000000) (hr:Res w) :
  Calls Tryz.prog 172 #[.int .i64 s,.string f,fv] w fun e w'=>e=.returned (.tuple #[.string ⟨#[]⟩,.int .i64 2])∧Below w.heap.size w w':=by
 by_cases h1:cmpQ F 1≤0
 ·exact samp_rng1 f s fv w F hf (decide_eq_true h1) hr
 ·by_cases h2:s < 1
  ·exact samp_rng2 f s fv w F hf (decide_eq_false h1) h2 hr
  ·exact samp_rng3 f s fv w F hf (decide_eq_false h1) (by omega) hr
theorem lossAlpha_rng {s:Int} (hf:IsT f F) (h:cmpQ F 1≤0∨s < 1∨s > 1000000) (hr:Res w) :
  Calls Tryz.prog 80 #[.int .i64 s,.string f] w fun e w'=>e=.returned (.tuple #[.string ⟨#[]⟩,.int .i64 2])∧Below w.heap.size w w' :=
 alpha_door f _ _ s w hr (fun w' _ hr' _=>samp_rng w' _ hf h hr')
theorem lossBeta_rng {s:Int} (hf:IsT f F) (h:cmpQ F 1≤0∨s < 1∨s > 1000000) (hr:Res w) :
  Calls Tryz.prog 82 #[.int .i64 s,.string f] w fun e w'=>e=.returned (.tuple #[.string ⟨#[]⟩,.int .i64 2])∧Below w.heap.size w w' :=
 beta_door f _ _ s w hr (fun w' _ hr' _=>samp_rng w' _ hf h hr')
end
end Go.Proofs.YtigapglmipmbeaaGreatDoor
