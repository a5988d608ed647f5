/- made, as a walk (printed by mkdmade.py). A region that draws its order and only reads and calls what lays blocks of its own: one walk. Appending a slice that is read to a slice of the call's own; what the reference's collect keeps. dist: slices.Clone of masses, scaled (printed by mkdprog.py). dist: slices.Index of strings, Push (printed by mkdprog.py). kit.Own of masses and strings; Point (printed by mkdmk.py). loss.Group. loss.Holds (printed by mkholds.py). The reference's sums and comparisons of losses (printed by mklref2.py). The reference 08: Check, both, find, At, within, Same (printed by mkdref.py). A long region's order check, reckoned without an array of what has come: quick for the kernel. Curves of moments in memory, and the iterator over the orders of a curve. Curves of moments in plain rationals: what Check, Of, Add, Fits, To and Best compute. moment.least, between and the chain's steps, where nothing fails. moment.Check. moment.Check: the walk. moment.both and Add. moment.Add: the walk (printed by mkmadd.py). moment.None. The reference of chapter 10: at. The reference of chapter 10: both. The reference of chapter 10: then. Curves of canonical texts: sums, sizes, what Add and None come to. Comparing curves. moment.Fits: the walk. moment.Of: the walk. moment.To: the walk (printed by mkmto.py). -/
import Derived.Test.YtigapglmipmbeaaGreatDoorLwLossRests05
import Derived.Test.YtigapglmipmbeaaGreatDoorRb01
import Derived.BigQuiet
import Derived.Below
import Derived.OwnWalkIn
import Derived.Sort.BigQuietIn
import Derived.Sort.QuietIn
import Derived.Test.YtigapglmipmbeaaGreatDoorLwLossRests01
import Derived.Test.YtigapglmipmbeaaGreatDoorLwLossRests04
import Derived.Test.YtigapglmipmbeaaGreatDoorRb03
import Derived.Test.YtigapglmipmbeaaGreatDoorRb10
import Derived.Test.YtigapglmipmbeaaGreatDoorRb08
import Derived.ArgAppend
import Derived.Deep.AppendLies
set_option maxRecDepth 100000
set_option maxHeartbeats 16000000
namespace Go.Proofs.YtigapglmipmbeaaGreatDoor
open Go.RowKit Go.Shelf
open Lim
end Go.Proofs.YtigapglmipmbeaaGreatDoor
namespace Go.Proofs.YtigapglmipmbeaaGreatDoor
open Go.RowKit
structure LaterW (w:World) where
 W:World
 h:Below w.heap.size w W
instance (w:World):Nonempty (LaterW w):=⟨⟨w,Below.refl _ _⟩⟩
end Go.Proofs.YtigapglmipmbeaaGreatDoor
namespace Go.Proofs.YtigapglmipmbeaaGreatDoor
open Go.RowKit Go.Shelf
open Lim
def Src (w:World) (size:Nat) (sv:Value) (m:Nat) (news:List Value):Prop :=
 news.length=m*size∧((∃ c,sv=.slice none 0 c∧m=0)∨∃ ad c,sv=.slice (some ad) m c∧∀ j u,news[j]?=some u→w.cell? (ad.add j)=some u)
theorem run_append_empty {P:Program} (w:World) (base:Nat) (t ty e:TypeId) (i:TypeInfo) (size:Nat) (ht:P.underlying t=some (.slice e)) (hi:P.info? e=some i) (hsize:i.size=size)
  (v:Value) (n:Nat) (xs:List Value) (hown:w.ownsRow base e size v n xs) (c:Nat):(Builtin.append_ #[t,t] ty #[v,.slice none 0 c]).run P w=.ok v w:=by
 subst hsize
 rcases hown.2 with ⟨rfl,rfl⟩|⟨g,cap,cur,rfl,hbg,hg,hnc,hcm,hcs,htake⟩
 ·simp [Builtin.append_,run_underlying ht,sizeOf,typeInfo,hi,Builtin.lenOf,Builtin.firstCells]
 ·simp [Builtin.append_,run_underlying ht,sizeOf,typeInfo,hi,Builtin.lenOf,Builtin.firstCells,loadCells,hnc,storeCells]
theorem wpListIn_append_src {F:Fence} {n:Nat} {P:Program} (w:World) {ops:Array Oper} {rest:List Oper} {o:Oper} {a:Act} {Q:Exit→Act→World→Prop}
  (hg:o.guard=none) (s x:Operand) (t:TypeId) (hop:o.op=Op.call { callee:=Callee.builtin Builtin.append,args:=#[s,x],argTypes:=#[t,t] })
  (base:Nat) (e:TypeId) (i:TypeInfo) (z:Value) (size bytes:Nat) (h1:P.underlying t=some (.slice e)) (h2:P.info? e=some i) (h3:i.zero=some z) (h4:i.size=size) (h5:i.bytes=bytes) (h6:z.cells.size=size) (h7:0 < size)
  (v:Value) (k:Nat) (xs:List Value) (hs:a.eval s=v) (hown:w.ownsRow base e size v k xs) (sv:Value) (m:Nat) (news:List Value) (hx:a.eval x=sv) (hsrc:Src w size sv m news)
  (h1c:∀ u∈news,u.oneCell'=true) (b1:k+m≤maxLen) (b2:(k+m)*bytes≤140737488355328) (b3:base≤w.heap.size)
  (hK:∀ v' w',w'.ownsRow base e size v' (k+m) (xs++news)→w.grownBy w' v.ownBlock→wpListIn F n P ops Q rest (a.put o.dst v') w') :
  wpListIn F n P ops Q (o::rest) a w:=by
 rcases hsrc with ⟨hl,⟨c,rfl,rfl⟩|⟨ad,c,rfl,hc⟩⟩
 ·have hn:news=[]:=List.eq_nil_of_length_eq_zero (by simpa using hl)
  subst hn
  refine wpListIn_plain hg fun K hK'=>?_
  have hrun:=run_append_empty (P:=P) w base t o.type e i size h1 h2 h4 v k xs hown c
  unfold Oper.wpIn
  refine ⟨?_,?_⟩
  ·simp [Oper.about,hop,resolve,Target.leads,Sem.run_pure]
  ·rw [Oper.semAt_plain F _ _ (by rw [hop];intro c hc';cases hc')]
   simp [execOp,hop,resolve,invoke,builtin,hs,hx,hrun,Result.andThen]
   exact hK' _ _ (hK v w (by simpa using hown) ⟨rfl,rfl,rfl,Nat.le_refl _,fun _ _ _=>rfl⟩)
 ·exact wpListIn_append_own w hg s x t hop base e i z size bytes h1 h2 h3 h4 h5 h6 h7 v k xs hs hown ad m c news hx hl hc h1c b1 b2 b3 fun v' w' r1 r2 _=>hK v' w' r1 r2
theorem wide_fn (f:FuncId):Fence.wide.fn f↔True:=iff_of_true trivial trivial
theorem LaterW.at {w:World} {b o:Nat} {u:Value} (hb:b < w.heap.size) (h:w.cell? ⟨b,o,none⟩=some u):∀ z:LaterW w,z.W.cell? ⟨b,o,none⟩=some u:=fun z=>(z.h.cell (p:=⟨b,o,none⟩) hb).trans h
theorem addr_add0 (g j i:Nat):((⟨g,j,none⟩:Addr).add i)=⟨g,j+i,none⟩:=by unfold Addr.add;split<;>simp_all
theorem one_cellsM (l:List L2):∀ u∈cellsM l,u.oneCell'=true:=fun u hu=>by
 unfold cellsM at hu
 obtain ⟨x,_,hx⟩:=List.mem_flatMap.1 hu
 simp only [List.mem_cons,List.not_mem_nil,or_false] at hx
 rcases hx with rfl|rfl<;>rfl
theorem srcM_zero {W:World} {A:Option Addr} {c:Nat}:Src W 2 (.slice A 0 c) 0 []:=by
 refine ⟨rfl,?_⟩
 cases A with
 | none=>exact .inl ⟨c,rfl,rfl⟩
 | some a=>exact .inr ⟨a,c,rfl,fun j u h=>by simp at h⟩
theorem below_drewM (w:World):Below w.heap.size w w.drew:=⟨rfl,rfl,rfl,Nat.le_refl _,fun _ _=>rfl⟩
section
variable {w W W':World} {ls a:List L2} {i:Nat} {v:Value}
end
end Go.Proofs.YtigapglmipmbeaaGreatDoor
namespace Go.Proofs.YtigapglmipmbeaaGreatDoor
open Go.RowKit Go.Shelf
open Lim
attribute [local go_sem] Oper.semAt_some
theorem LRow.src {w:World} {b o n c:Nat} {ls:List L2} (h:LRow w (.slice (some ⟨b,o,none⟩) n c) ls) (h0:0 < ls.length):∀ j u,(cellsM ls)[j]?=some u→w.cell? ((⟨b,o,none⟩:Addr).add j)=some u:=by
 obtain ⟨A,c',e,_,hc⟩:=h
 simp only [Value.slice.injEq] at e
 obtain ⟨b',o',e2,_,hcell⟩:=hc h0
 rw [← e.1] at e2
 simp only [Option.some.injEq,Addr.mk.injEq] at e2
 obtain ⟨rfl,rfl,_⟩:=e2
 intro j u hu
 have hj:j < ls.length*2:=by rw [← cellsM_length];exact (List.getElem?_eq_some_iff.1 hu).1
 obtain ⟨x,hx⟩:∃ x,ls[j / 2]?=some x:=⟨_,List.getElem?_eq_getElem (by omega)⟩
 obtain ⟨c0,c1⟩:=hcell _ _ hx
 obtain ⟨m0,m1⟩:=cellsM_at hx
 rw [addr_add0]
 rcases Nat.mod_two_eq_zero_or_one j with h|h
 ·rw [show j / 2*2=j by omega] at c0 m0
  rw [m0] at hu;cases hu;exact c0
 ·rw [show o+j / 2*2+1=o+j by omega] at c1
  rw [show j / 2*2+1=j by omega] at m1
  rw [m1] at hu;cases hu;exact c1
theorem LRow.ofPos {w:World} {v:Value} {ls:List L2} (h:LRow w v ls) (h0:0 < ls.length):∃ b o c,v=.slice (some ⟨b,o,none⟩) ls.length c:=by
 obtain ⟨A,c,e,_,hc⟩:=h
 obtain ⟨b,o,rfl,_,_⟩:=hc h0
 exact ⟨b,o,c,e⟩
theorem srcM_row {w:World} {v:Value} {ls:List L2} (h:LRow w v ls):Src w 2 v ls.length (cellsM ls):=by
 rcases Nat.eq_zero_or_pos ls.length with h0|h0
 ·obtain ⟨A,c,rfl,_,_⟩:=h
  have e:ls=[]:=List.eq_nil_of_length_eq_zero h0
  subst e
  exact srcM_zero
 ·obtain ⟨b,o,c,rfl⟩:=h.ofPos h0
  exact ⟨cellsM_length ls,.inr ⟨_,_,rfl,h.src h0⟩⟩
end Go.Proofs.YtigapglmipmbeaaGreatDoor
namespace Go.Proofs.YtigapglmipmbeaaGreatDoor
open Go.RowKit Go.Shelf
open Lim
theorem field_bound (x y:ByteArray) (w:World):(Instr.field 183 (.agg #[.string x,.string y]) 0).run Tryz.prog w=.ok (.agg #[.string x,.string y]) w:=by kernel_rfl
theorem short_one {f d:ByteArray} (h1:f.size≤270000) (h2:d.size≤270000):Short [(f,d)]:=by
 intro x hx
 simp only [List.mem_cons,List.not_mem_nil,or_false] at hx
 rw [hx]
 exact ⟨h1,h2⟩
theorem at3_row1 {w:World} {f d:ByteArray} {c2 c3:Array Value} {t1 t2 t3:TypeId} {W:World} (H:At3 w t1 t2 t3 #[.string f,.string d] c2 c3 W) :
  Below W.heap.size W (W.alloc (.cells #[.string f,.string d] 63))∧LRow (W.alloc (.cells #[.string f,.string d] 63)) (.slice (some ⟨W.heap.size,0,none⟩) 1 1) [(f,d)]∧Res (W.alloc (.cells #[.string f,.string d] 63)) :=
 ⟨below_alloc (Below.refl _ _) _,LRow.one (Blk.new W _ _),H.res.below (below_alloc (Below.refl _ _) _)⟩
theorem firstL_one (f d:ByteArray):firstL [(f,d)]=errL f d:=by
 unfold firstL firstL
 split<;>rename_i h
 ·rfl
 ·simpa using (Classical.not_not.1 h).symm
def groupR (f d:ByteArray) (k:Int):Except Nat LQ:=if errL f d≠0 then .error (errL f d) else if k < 0∨k > 50 then .error 2 else groupL (valL (f,d)) k.toNat
theorem powsum_fits {F:Rat}:∀ {k:Nat} {p s:Rat},powsum F k=.ok (p,s)→fits p=true∧fits s=true
 | 0,p,s,h=>by
  unfold powsum at h
  cases h
  exact ⟨fits_one,fits_zero⟩
 | k+1,p,s,h=>by
  unfold powsum at h
  split at h
  ·cases h
  ·rename_i ps hps
   cases h1:fits (ps.2+ps.1)
   ·rw [ovr_no h1] at h;cases h
   ·rw [ovr_ok h1] at h
    cases h2:fits (ps.1*F)
    ·rw [ovr_no h2] at h;cases h
    ·rw [ovr_ok h2] at h
     cases h
     exact ⟨h2,h1⟩
theorem powsum_no {F:Rat} {n:Nat}:∀ {k j:Nat},k≤j→powsum F k=.error n→powsum F j=.error n
 | k,j,hk,h=>by
  obtain ⟨i,rfl⟩:=Nat.exists_eq_add_of_le hk
  induction i with
  | zero=>exact h
  | succ i ih =>
   have:=ih (Nat.le_add_right _ _)
   show powsum F (k+i+1)=_
   unfold powsum
   rw [this]
theorem powsum_no1 {F p s:Rat} {k:Nat} (h:powsum F k=.ok (p,s)) (hf:fits (s+p)=false):powsum F (k+1)=.error 5:=by
 unfold powsum
 rw [h]
 dsimp only
 rw [ovr_no hf]
theorem powsum_no2 {F p s:Rat} {k:Nat} (h:powsum F k=.ok (p,s)) (hf:fits (s+p)=true) (hg:fits (p*F)=false):powsum F (k+1)=.error 5:=by
 unfold powsum
 rw [h]
 dsimp only
 rw [ovr_ok hf]
 dsimp only
 rw [ovr_no hg]
theorem powsum_ok {F p s:Rat} {k:Nat} (h:powsum F k=.ok (p,s)) (hf:fits (s+p)=true) (hg:fits (p*F)=true):powsum F (k+1)=.ok (p*F,s+p):=by
 unfold powsum
 rw [h]
 dsimp only
 rw [ovr_ok hf]
 dsimp only
 rw [ovr_ok hg]
theorem group_no {l:LQ} {k n:Nat} (h:powsum l.1 k=.error n):groupL l k=.error n:=by
 unfold groupL;rw [h]
theorem group_err (f d:ByteArray) (k:Int) (w:World) (h1:f.size≤270000) (h2:d.size≤270000) (hr:Res w) (hL:errL f d≠0) :
  Calls Tryz.prog 71 #[.agg #[.string f,.string d],.int .i64 k] w fun e w'=>e=.returned (resL (.error (errL f d)))∧Below w.heap.size w w':=by
 have H0:=At3.new w 63 63 32 #[.string f,.string d] #[.string ⟨#[]⟩,.string ⟨#[]⟩] #[.int .i64 0] hr
 obtain ⟨a1,a2,a3⟩:=at3_row1 H0
 rw [show (((w.alloc (.cells #[.string f,.string d] 63)).alloc (.cells #[.string ⟨#[]⟩,.string ⟨#[]⟩] 63)).alloc (.cells #[.int .i64 0] 32)).heap.size=w.heap.size+1+1+1 by simp] at a2
 have HV:=Lib.hid (valid_run _ _ _ a2 (short_one h1 h2) a3)
 rw [firstL_one] at HV
 have H1:=Lib.hid (H0.later a1)
 rw [endV_no hL] at HV
 generalize errL f d=n at HV
 clear H0 a1 a2 a3 h1 h2 hr hL
 go_enter_defers Tryz.func71,Tryz.ntmps71
 go_wp2_with (go_at_call 164;refine HV.out.mono ?_;rintro e w1 ⟨rfl,hb⟩;have H2:=Lib.hid (H1.out.later hb);clear hb)
 refine door_pan (v:=resL (.error n)) H2.out.c ?_
 intro W hB hk hbel
 exact ⟨run_cell_errno rfl rfl (load_loss (hk _ _ _ (by omega) H2.out.b)) rfl hB,rfl,hbel _ _ (le2 _) H2.out.below⟩
theorem group_low (f d:ByteArray) (k:Int) (w:World) (h1:f.size≤270000) (h2:d.size≤270000) (hr:Res w) (hL:errL f d=0) (hk:k < 0) :
  Calls Tryz.prog 71 #[.agg #[.string f,.string d],.int .i64 k] w fun e w'=>e=.returned (resL (.error 2))∧Below w.heap.size w w':=by
 have H0:=At3.new w 63 63 32 #[.string f,.string d] #[.string ⟨#[]⟩,.string ⟨#[]⟩] #[.int .i64 0] hr
 obtain ⟨a1,a2,a3⟩:=at3_row1 H0
 rw [show (((w.alloc (.cells #[.string f,.string d] 63)).alloc (.cells #[.string ⟨#[]⟩,.string ⟨#[]⟩] 63)).alloc (.cells #[.int .i64 0] 32)).heap.size=w.heap.size+1+1+1 by simp] at a2
 have HV:=Lib.hid (valid_run _ _ _ a2 (short_one h1 h2) a3)
 rw [firstL_one] at HV
 have H1:=Lib.hid (H0.later a1)
 rw [hL] at HV
 have g1:decide (k < 0)=true:=decide_eq_true hk
 clear H0 a1 a2 a3 h1 h2 hr hL hk
 go_enter_defers Tryz.func71,Tryz.ntmps71
 go_wp2_with (go_at_call 164;refine HV.out.mono ?_;rintro e w1 ⟨rfl,hb⟩;rw [endV_ok];have H2:=Lib.hid (H1.out.later hb);obtain ⟨q0,q1⟩:=cells2 H2.out.b;have y0:=H2.out.b.frozen 0;have y1:=H2.out.b.frozen 1;have ce:=cell0 H2.out.c;have ze:=H2.out.c.frozen 0;obtain ⟨p0,p1⟩:=cells2 H2.out.a;clear hb)
 refine door_ret (v:=resL (.error 2)) (run_cell_errno rfl rfl (load_loss (H2.out.b.two_set.far (p:=⟨w.heap.size+1+1,0,none⟩) (by show w.heap.size+1≠w.heap.size+1+1;omega) (.int .i64 2))) rfl ((H2.out.c.two_far (by omega)).set_ 0 (.int .i64 2))) ⟨rfl,?_⟩
 exact ((H2.out.below.setCell (Nat.le_succ _) _).setCell (Nat.le_succ _) _).setCell (le2 _) _
theorem group_high (f d:ByteArray) (k:Int) (w:World) (h1:f.size≤270000) (h2:d.size≤270000) (hr:Res w) (hL:errL f d=0) (hk:50 < k) :
  Calls Tryz.prog 71 #[.agg #[.string f,.string d],.int .i64 k] w fun e w'=>e=.returned (resL (.error 2))∧Below w.heap.size w w':=by
 have H0:=At3.new w 63 63 32 #[.string f,.string d] #[.string ⟨#[]⟩,.string ⟨#[]⟩] #[.int .i64 0] hr
 obtain ⟨a1,a2,a3⟩:=at3_row1 H0
 rw [show (((w.alloc (.cells #[.string f,.string d] 63)).alloc (.cells #[.string ⟨#[]⟩,.string ⟨#[]⟩] 63)).alloc (.cells #[.int .i64 0] 32)).heap.size=w.heap.size+1+1+1 by simp] at a2
 have HV:=Lib.hid (valid_run _ _ _ a2 (short_one h1 h2) a3)
 rw [firstL_one] at HV
 have H1:=Lib.hid (H0.later a1)
 rw [hL] at HV
 have g1:decide (k < 0)=false:=decide_eq_false (by omega)
 have g2:decide (50 < k)=true:=decide_eq_true hk
 clear H0 a1 a2 a3 h1 h2 hr hL hk
 go_enter_defers Tryz.func71,Tryz.ntmps71
 go_wp2_with (go_at_call 164;refine HV.out.mono ?_;rintro e w1 ⟨rfl,hb⟩;rw [endV_ok];have H2:=Lib.hid (H1.out.later hb);obtain ⟨q0,q1⟩:=cells2 H2.out.b;have y0:=H2.out.b.frozen 0;have y1:=H2.out.b.frozen 1;have ce:=cell0 H2.out.c;have ze:=H2.out.c.frozen 0;obtain ⟨p0,p1⟩:=cells2 H2.out.a;clear hb)
 refine door_ret (v:=resL (.error 2)) (run_cell_errno rfl rfl (load_loss (H2.out.b.two_set.far (p:=⟨w.heap.size+1+1,0,none⟩) (by show w.heap.size+1≠w.heap.size+1+1;omega) (.int .i64 2))) rfl ((H2.out.c.two_far (by omega)).set_ 0 (.int .i64 2))) ⟨rfl,?_⟩
 exact ((H2.out.below.setCell (Nat.le_succ _) _).setCell (Nat.le_succ _) _).setCell (le2 _) _
theorem group_run (f d:ByteArray) (K:Nat) (w:World) (h1:f.size≤270000) (h2:d.size≤270000) (hr:Res w) (l:LQ) (hl:LossIs f d l) (hK:K≤50) :
  Calls Tryz.prog 71 #[.agg #[.string f,.string d],.int .i64 (K:Int)] w fun e w'=>e=.returned (resL (groupL l K))∧Below w.heap.size w w':=by
 have H0:=At3.new w 63 63 32 #[.string f,.string d] #[.string ⟨#[]⟩,.string ⟨#[]⟩] #[.int .i64 0] hr
 obtain ⟨a1,a2,a3⟩:=at3_row1 H0
 rw [show (((w.alloc (.cells #[.string f,.string d] 63)).alloc (.cells #[.string ⟨#[]⟩,.string ⟨#[]⟩] 63)).alloc (.cells #[.int .i64 0] 32)).heap.size=w.heap.size+1+1+1 by simp] at a2
 have HV:=Lib.hid (valid_run _ _ _ a2 (short_one h1 h2) a3)
 rw [firstL_one] at HV
 have H1:=Lib.hid (H0.later a1)
 rw [hl.err] at HV
 have HLI:=Lib.hid hl
 clear H0 a1 a2 a3 h1 h2 hl
 have HR0:=Lib.hid hr
 clear hr
 have g1:decide ((K:Int) < 0)=false:=decide_eq_false (by omega)
 have g2:decide (50 < (K:Int))=false:=decide_eq_false (by omega)
 go_enter_defers Tryz.func71,Tryz.ntmps71
 go_wp2_with (go_at_call 164;refine HV.out.mono ?_;rintro e w1 ⟨rfl,hb⟩;rw [endV_ok];have H2:=Lib.hid (H1.out.later hb);obtain ⟨q0,q1⟩:=cells2 H2.out.b;have y0:=H2.out.b.frozen 0;have y1:=H2.out.b.frozen 1;have ce:=cell0 H2.out.c;have ze:=H2.out.c.frozen 0;obtain ⟨p0,p1⟩:=cells2 H2.out.a;clear hb)
 clear p0 p1 q0 q1 y0 y1 ce ze HV H1
 go_loopw [6,7,19] (fun v6 v7 v19 wr=>∃ (j:Nat) (p s:Rat),j≤K∧v19=.int .i64 (j:Int)∧v6=.string (rT p)∧v7=.string (rT s)∧Hid (powsum l.1 j=.ok (p,s))∧Hid (At3 w 63 63 32 #[.string f,.string d] #[.string ⟨#[]⟩,.string ⟨#[]⟩] #[.int .i64 0] wr)) (fun _ _ v19 _=>K - (intOf v19).toNat)
 case atStart=>exact ⟨0,1,0,Nat.zero_le _,rfl,by rw [← IsT.one.text],by rw [← IsT.zero.text],Lib.hid rfl,H2⟩
 case round =>
  obtain ⟨j,p,s,hj,rfl,rfl,rfl,HP,H⟩:=hrel
  clear H2 g1 g2
  obtain ⟨hfp,hfs⟩:=powsum_fits HP.out
  obtain ⟨p0,p1⟩:=cells2 H.out.a
  by_cases hlt:j < K
  ·have hlt':(j:Int) < (K:Int):=by omega
   have HLT:=Lib.hid hlt
   have TK1:True:=trivial
   cases h1:fits (s+p) with
   | false =>
    have HA:=Lib.hid (fun w hr=>addO w (isT_rT hfs) (isT_rT hfp) h1 hr)
    have HN:=Lib.hid (group_no (powsum_no (show j+1≤K by omega) (powsum_no1 HP.out h1)))
    generalize rT p=tp at *
    generalize rT s=ts at *
    clear hfp hfs h1 hlt hK
    go_wp2_with (first
     | (go_at_call 107;refine (HA.out _ H.out.res).mono ?_;rintro e w3 ⟨rfl,hb⟩;have H3:=Lib.hid (H.out.later hb);clear hb)
     | (go_at_call 165;refine (mustN_no _ 5 _ five).mono ?_;rintro e w4 ⟨rfl,hw⟩;subst hw))
    refine door_pan (v:=resL (.error 5)) H3.out.c ?_
    intro W hB hk hbel
    exact ⟨run_cell_errno rfl rfl (load_loss (hk _ _ _ (by omega) H3.out.b)) rfl hB,by rw [HN.out],hbel _ _ (le2 _) H3.out.below⟩
   | true =>
    have HA:=Lib.hid (fun w hr=>addT w (isT_rT hfs) (isT_rT hfp) (isT_rT h1) hr)
    cases h2:fits (p*l.1) with
    | false =>
     have HM:=Lib.hid (fun w hr=>mulO w (isT_rT hfp) HLI.out.f h2 hr)
     have HN:=Lib.hid (group_no (powsum_no (show j+1≤K by omega) (powsum_no2 HP.out h1 h2)))
     generalize rT p=tp at *
     generalize rT s=ts at *
     generalize rT (s+p)=tsp at *
     clear hfp hfs h1 h2 hlt hK
     go_wp2_with (first
      | (go_at_call 107;refine (HA.out _ H.out.res).mono ?_;rintro e w3 ⟨rfl,hb⟩;have H3:=Lib.hid (H.out.later hb);obtain ⟨p0',p1'⟩:=cells2 H3.out.a;clear hb)
      | (clear TK1;go_at_call 165;refine (mustN_ok _ _).mono ?_;rintro e w4 ⟨rfl,hw⟩;subst hw)
      | (go_at_call 130;refine (HM.out _ H3.out.res).mono ?_;rintro e w5 ⟨rfl,hb⟩;have H5:=Lib.hid (H3.out.later hb);clear hb)
      | (go_at_call 165;refine (mustN_no _ 5 _ five).mono ?_;rintro e w6 ⟨rfl,hw⟩;subst hw))
     refine door_pan (v:=resL (.error 5)) H5.out.c ?_
     intro W hB hk hbel
     exact ⟨run_cell_errno rfl rfl (load_loss (hk _ _ _ (by omega) H5.out.b)) rfl hB,by rw [HN.out],hbel _ _ (le2 _) H5.out.below⟩
    | true =>
     have HM:=Lib.hid (fun w hr=>mulT w (isT_rT hfp) HLI.out.f (isT_rT h2) hr)
     have HN:=Lib.hid (powsum_ok HP.out h1 h2)
     obtain ⟨tp,htp⟩:∃ y,y=rT p:=⟨_,rfl⟩
     obtain ⟨ts,hts⟩:∃ y,y=rT s:=⟨_,rfl⟩
     obtain ⟨tsp,htsp⟩:∃ y,y=rT (s+p):=⟨_,rfl⟩
     obtain ⟨tpf,htpf⟩:∃ y,y=rT (p*l.1):=⟨_,rfl⟩
     rw [← htp,← hts,← htsp] at HA
     rw [← htp,← htpf] at HM
     rw [← htp,← hts]
     have HT:=Lib.hid (And.intro htsp htpf)
     clear hfp hfs h1 h2 hlt htp hts htsp htpf
     go_wp2_with (first
      | (go_at_call 107;refine (HA.out _ H.out.res).mono ?_;rintro e w3 ⟨rfl,hb⟩;have H3:=Lib.hid (H.out.later hb);obtain ⟨p0',p1'⟩:=cells2 H3.out.a;clear hb)
      | (clear TK1;go_at_call 165;refine (mustN_ok _ _).mono ?_;rintro e w4 ⟨rfl,hw⟩;subst hw)
      | (go_at_call 130;refine (HM.out _ H3.out.res).mono ?_;rintro e w5 ⟨rfl,hb⟩;have H5:=Lib.hid (H3.out.later hb);clear hb)
      | (go_at_call 165;refine (mustN_ok _ _).mono ?_;rintro e w6 ⟨rfl,hw⟩;subst hw))
     go_roundw
     case rel=>exact ⟨j+1,p*l.1,s+p,HLT.out,by go_num,by rw [HT.out.2],by rw [HT.out.1],HN,H5⟩
     case measure=>have:=HLT.out;simp [intOf];omega
  ·have hlt':¬ (j:Int) < (K:Int):=by omega
   obtain rfl:j=K:=by omega
   obtain ⟨q0,q1⟩:=cells2 H.out.b
   cases h1:fits (l.2*s) with
   | false =>
    have HM:=Lib.hid (fun w hr=>mulO w HLI.out.d (isT_rT hfs) h1 hr)
    have HN:=Lib.hid (show groupL l j=.error 5 by unfold groupL;rw [HP.out];dsimp only;rw [ovr_no h1])
    generalize rT p=tp at *
    generalize rT s=ts at *
    clear hfp hfs h1 hlt hK
    go_wp2_with (first
     | (go_at_call 130;refine (HM.out _ H.out.res).mono ?_;rintro e w3 ⟨rfl,hb⟩;have H3:=Lib.hid (H.out.later hb);clear hb)
     | (go_at_call 165;refine (mustN_no _ 5 _ five).mono ?_;rintro e w4 ⟨rfl,hw⟩;subst hw))
    refine door_pan (v:=resL (.error 5)) H3.out.c ?_
    intro W hB hk hbel
    exact ⟨run_cell_errno rfl rfl (load_loss (hk _ _ _ (by omega) H3.out.b)) rfl hB,by rw [HN.out],hbel _ _ (le2 _) H3.out.below⟩
   | true =>
    have HM:=Lib.hid (fun w hr=>mulT w HLI.out.d (isT_rT hfs) (isT_rT h1) hr)
    have HLim:=Lib.hid (fun (w:World) hr=>limited_any (f:=rT p) w (isT_rT h1) hr)
    have HN:=Lib.hid (show groupL l j=.ok (p,minQ (l.2*s) 1) by unfold groupL;rw [HP.out];dsimp only;rw [ovr_ok h1])
    obtain ⟨tp,htp⟩:∃ y,y=rT p:=⟨_,rfl⟩
    obtain ⟨ts,hts⟩:∃ y,y=rT s:=⟨_,rfl⟩
    obtain ⟨tm,htm⟩:∃ y,y=rT (l.2*s):=⟨_,rfl⟩
    obtain ⟨tl,htl⟩:∃ y,y=rT (minQ (l.2*s) 1):=⟨_,rfl⟩
    rw [← hts,← htm] at HM
    rw [← htp,← htm,← htl] at HLim
    rw [← htp,← hts]
    have HT:=Lib.hid (And.intro htp htl)
    have TK1:True:=trivial
    have hfd:=field_bound
    clear hfp hfs h1 hlt hK htp hts htm htl
    go_wp2_with (first
     | (go_at_call 130;refine (HM.out _ H.out.res).mono ?_;rintro e w3 ⟨rfl,hb⟩;have H3:=Lib.hid (H.out.later hb);clear hb)
     | (go_at_call 165;refine (mustN_ok _ _).mono ?_;rintro e w4 ⟨rfl,hw⟩;subst hw)
     | (go_at_call 166;refine (HLim.out _ H3.out.res).mono ?_;rintro e w5 ⟨rfl,hb⟩;have H5:=Lib.hid (H3.out.later hb);obtain ⟨r0,r1⟩:=cells2 H5.out.b;have y0:=H5.out.b.frozen 0;have y1:=H5.out.b.frozen 1;have ce:=cell0 H5.out.c;have ze:=H5.out.c.frozen 0;clear hb))
    have hb2:=(H5.out.b.two_set (x:=.string tp) (y:=.string tl)).far (p:=⟨w.heap.size+1+1,0,none⟩) (by show w.heap.size+1≠w.heap.size+1+1;omega) (.int .i64 0)
    have hc2:=(H5.out.c.two_far (b:=w.heap.size+1) (x:=.string tp) (y:=.string tl) (by omega)).set_ 0 (.int .i64 0)
    refine door_ret (v:=.tuple #[.agg #[.string tp,.string tl],.int .i64 0]) (run_cell_errno rfl rfl (load_loss hb2) rfl hc2) ⟨?_,?_⟩
    ·rw [HN.out,HT.out.1,HT.out.2];rfl
    ·exact ((H5.out.below.setCell (Nat.le_succ _) _).setCell (Nat.le_succ _) _).setCell (le2 _) _
theorem lossGroup_any (f d:ByteArray) (k:Int) (w:World) (h1:f.size≤270000) (h2:d.size≤270000) (hr:Res w) :
  Calls Tryz.prog 71 #[.agg #[.string f,.string d],.int .i64 k] w fun e w'=>e=.returned (resL (groupR f d k))∧Below w.heap.size w w':=by
 unfold groupR
 by_cases hL:errL f d=0
 ·rw [if_neg (by omega)]
  by_cases hk:k < 0
  ·rw [if_pos (.inl hk)];exact group_low f d k w h1 h2 hr hL hk
  by_cases hk2:k > 50
  ·rw [if_pos (.inr hk2)];exact group_high f d k w h1 h2 hr hL hk2
  rw [if_neg (by omega)]
  have:=group_run f d k.toNat w h1 h2 hr _ (errL_zero hL) (by omega)
  rwa [Int.toNat_of_nonneg (by omega)] at this
 ·rw [if_pos hL]
  exact group_err f d k w h1 h2 hr hL
theorem deltaX_ne {p q:List L2} {f:ByteArray} {n:Nat} (h:deltaX p q f=.error n):n≠0:=by
 unfold deltaX at h
 split at h
 ·cases h;assumption
 ·split at h
  ·cases h;assumption
  ·exact foldX_ne (fun _ _ h=>partX_ne h) h
theorem foldX_okE {α:Type} {g:α→XE}:∀ {l:List α} {s t:ByteArray},errQ s.data.toList=0→foldX g s l=.ok t→errQ t.data.toList=0
 | [],s,t,hs,h=>by cases h;exact hs
 | x::l,s,t,hs,h=>by
  unfold foldX at h
  split at h
  ·cases h
  ·split at h
   ·cases h
   ·rename_i u hu
    exact foldX_okE (plX_ok hu) h
theorem deltaX_okE {p q:List L2} {f t:ByteArray} (h:deltaX p q f=.ok t):errQ t.data.toList=0:=by
 unfold deltaX at h
 split at h
 ·cases h
 ·split at h
  ·cases h
  ·exact foldX_okE err_zT h
def holdsR (f d:ByteArray) (p q:List L2):Except Nat Bool:=if errL f d≠0 then .error (errL f d) else match deltaX p q f with
 | .error n=>.error n
 | .ok x=>match deltaX q p f with
  | .error n=>.error n
  | .ok y=>.ok (decide (cmpQ (valQ x.data.toList) (valQ d.data.toList)≤0)&&decide (cmpQ (valQ y.data.toList) (valQ d.data.toList)≤0))
theorem at2_row1 {w:World} {f d:ByteArray} {c2:Array Value} {t1 t2:TypeId} {W:World} (H:At2 w t1 t2 #[.string f,.string d] c2 W) :
  Below W.heap.size W (W.alloc (.cells #[.string f,.string d] 63))∧LRow (W.alloc (.cells #[.string f,.string d] 63)) (.slice (some ⟨W.heap.size,0,none⟩) 1 1) [(f,d)]∧Res (W.alloc (.cells #[.string f,.string d] 63)) :=
 ⟨below_alloc (Below.refl _ _) _,LRow.one (Blk.new W _ _),H.res.below (below_alloc (Below.refl _ _) _)⟩
theorem holds_no (f d:ByteArray) (p q:List L2) (vp vq:Value) (w:World) (hp:LRow w vp p) (hq:LRow w vq q) (_sp:Short p) (_sq:Short q) (h1:f.size≤270000) (h2:d.size≤270000) (hr:Res w) (hL:errL f d≠0) :
  Calls Tryz.prog 86 #[.agg #[.string f,.string d],vp,vq] w fun e w'=>e=.returned (.tuple #[.bool false,.int .i64 (errL f d:Int)])∧Below w.heap.size w w':=by
 have H0:=At2.new w 63 32 #[.string f,.string d] #[.int .i64 0] hr
 obtain ⟨a1,a2,a3⟩:=at2_row1 H0
 rw [show ((w.alloc (.cells #[.string f,.string d] 63)).alloc (.cells #[.int .i64 0] 32)).heap.size=w.heap.size+1+1 by simp] at a2
 have HV:=Lib.hid (valid_run _ _ _ a2 (short_one h1 h2) a3)
 rw [firstL_one] at HV
 have H1:=Lib.hid (H0.later a1)
 obtain ⟨A,ca,rfl,_,_⟩:=id hp
 obtain ⟨B,cb,rfl,_,_⟩:=id hq
 rw [endV_no hL] at HV
 generalize errL f d=n at HV
 clear H0 a1 a2 a3 h1 h2 hr hL hp hq
 go_enter_defers Tryz.func86,Tryz.ntmps86
 go_wp2_with (go_at_call 164;refine HV.out.mono ?_;rintro e w1 ⟨rfl,hb⟩;have H2:=Lib.hid (H1.out.later hb);clear hb)
 refine door_pan (v:=.tuple #[.bool false,.int .i64 (n:Int)]) H2.out.b ?_
 intro W hB hk hbel
 exact ⟨run_tmp_errno rfl rfl rfl hB,rfl,hbel _ _ (Nat.le_succ _) H2.out.below⟩
theorem holds_x (f d:ByteArray) (p q:List L2) (vp vq:Value) (w:World) (hp:LRow w vp p) (hq:LRow w vq q) (sp:Short p) (sq:Short q) (h1:f.size≤270000) (h2:d.size≤270000) (hr:Res w) {n:Nat} (hL:errL f d=0) (hx:deltaX p q f=.error n) :
  Calls Tryz.prog 86 #[.agg #[.string f,.string d],vp,vq] w fun e w'=>e=.returned (.tuple #[.bool false,.int .i64 (n:Int)])∧Below w.heap.size w w':=by
 have H0:=At2.new w 63 32 #[.string f,.string d] #[.int .i64 0] hr
 obtain ⟨a1,a2,a3⟩:=at2_row1 H0
 rw [show ((w.alloc (.cells #[.string f,.string d] 63)).alloc (.cells #[.int .i64 0] 32)).heap.size=w.heap.size+1+1 by simp] at a2
 have HV:=Lib.hid (valid_run _ _ _ a2 (short_one h1 h2) a3)
 rw [firstL_one] at HV
 have H1:=Lib.hid (H0.later a1)
 obtain ⟨A,ca,rfl,_,_⟩:=id hp
 obtain ⟨B,cb,rfl,_,_⟩:=id hq
 rw [hL] at HV
 have HP:=Lib.hid (fun W (hb:Below w.heap.size w W) (hr:Res W)=>ddelta_any p q _ _ f W (hp.below hb) (hq.below hb) sp sq h1 hr)
 rw [hx] at HP
 change Hid (∀ W (_:Below w.heap.size w W) (_:Res W),Calls _ _ _ _ fun e w'=>e=.returned (.tuple #[.string ⟨#[]⟩,.int .i64 (n:Int)])∧_) at HP
 have HN:=Lib.hid (deltaX_ne hx)
 clear H0 a1 a2 a3 h1 h2 hr hL hp hq sp sq hx
 have TK0:True:=trivial
 have TK1:True:=trivial
 have TK2:True:=trivial
 have TK3:True:=trivial
 have TK4:True:=trivial
 have TK5:True:=trivial
 go_enter_defers Tryz.func86,Tryz.ntmps86
 go_wp2_with (clear TK0;go_at_call 164;refine HV.out.mono ?_;rintro e w1 ⟨rfl,hb⟩;rw [endV_ok];have H2:=Lib.hid (H1.out.later hb);obtain ⟨p2,q2⟩:=cells2 H2.out.a;have ce2:=cell0 H2.out.b;have ze2:=H2.out.b.frozen 0;clear hb)
 go_wp2_with (clear TK1;go_at_call 45;refine (HP.out _ H2.out.below H2.out.res).mono ?_;rintro e w2 ⟨rfl,hb⟩;have H3:=Lib.hid (H2.out.later hb);obtain ⟨p3,q3⟩:=cells2 H3.out.a;have ce3:=cell0 H3.out.b;have ze3:=H3.out.b.frozen 0;clear hb)
 go_wp2_with (clear TK2;go_at_call 165;refine (mustN_no _ _ _ HN.out).mono ?_;rintro e w9 ⟨rfl,hw⟩;subst hw)
 refine door_pan (v:=.tuple #[.bool false,.int .i64 (n:Int)]) H3.out.b ?_
 intro W hB hk hbel
 exact ⟨run_tmp_errno rfl rfl rfl hB,rfl,hbel _ _ (Nat.le_succ _) H3.out.below⟩
theorem holds_y (f d:ByteArray) (p q:List L2) (vp vq:Value) (w:World) (hp:LRow w vp p) (hq:LRow w vq q) (sp:Short p) (sq:Short q) (h1:f.size≤270000) (h2:d.size≤270000) (hr:Res w) {n:Nat} {x:ByteArray} (hL:errL f d=0) (hx:deltaX p q f=.ok x) (hy:deltaX q p f=.error n) :
  Calls Tryz.prog 86 #[.agg #[.string f,.string d],vp,vq] w fun e w'=>e=.returned (.tuple #[.bool false,.int .i64 (n:Int)])∧Below w.heap.size w w':=by
 have H0:=At2.new w 63 32 #[.string f,.string d] #[.int .i64 0] hr
 obtain ⟨a1,a2,a3⟩:=at2_row1 H0
 rw [show ((w.alloc (.cells #[.string f,.string d] 63)).alloc (.cells #[.int .i64 0] 32)).heap.size=w.heap.size+1+1 by simp] at a2
 have HV:=Lib.hid (valid_run _ _ _ a2 (short_one h1 h2) a3)
 rw [firstL_one] at HV
 have H1:=Lib.hid (H0.later a1)
 obtain ⟨A,ca,rfl,_,_⟩:=id hp
 obtain ⟨B,cb,rfl,_,_⟩:=id hq
 rw [hL] at HV
 have HP:=Lib.hid (fun W (hb:Below w.heap.size w W) (hr:Res W)=>ddelta_any p q _ _ f W (hp.below hb) (hq.below hb) sp sq h1 hr)
 rw [hx] at HP
 change Hid (∀ W (_:Below w.heap.size w W) (_:Res W),Calls _ _ _ _ fun e w'=>e=.returned (.tuple #[.string x,.int .i64 0])∧_) at HP
 have HQ:=Lib.hid (fun W (hb:Below w.heap.size w W) (hr:Res W)=>ddelta_any q p _ _ f W (hq.below hb) (hp.below hb) sq sp h1 hr)
 rw [hy] at HQ
 change Hid (∀ W (_:Below w.heap.size w W) (_:Res W),Calls _ _ _ _ fun e w'=>e=.returned (.tuple #[.string ⟨#[]⟩,.int .i64 (n:Int)])∧_) at HQ
 have HN:=Lib.hid (deltaX_ne hy)
 clear H0 a1 a2 a3 h1 h2 hr hL hp hq sp sq hx hy
 have TK0:True:=trivial
 have TK1:True:=trivial
 have TK2:True:=trivial
 have TK3:True:=trivial
 have TK4:True:=trivial
 have TK5:True:=trivial
 go_enter_defers Tryz.func86,Tryz.ntmps86
 go_wp2_with (clear TK0;go_at_call 164;refine HV.out.mono ?_;rintro e w1 ⟨rfl,hb⟩;rw [endV_ok];have H2:=Lib.hid (H1.out.later hb);obtain ⟨p2,q2⟩:=cells2 H2.out.a;have ce2:=cell0 H2.out.b;have ze2:=H2.out.b.frozen 0;clear hb)
 go_wp2_with (clear TK1;go_at_call 45;refine (HP.out _ H2.out.below H2.out.res).mono ?_;rintro e w2 ⟨rfl,hb⟩;have H3:=Lib.hid (H2.out.later hb);obtain ⟨p3,q3⟩:=cells2 H3.out.a;have ce3:=cell0 H3.out.b;have ze3:=H3.out.b.frozen 0;clear hb)
 go_wp2_with (clear TK2;go_at_call 165;refine (mustN_ok _ _).mono ?_;rintro e w9 ⟨rfl,hw⟩;subst hw)
 go_wp2_with (clear TK3;go_at_call 45;refine (HQ.out _ H3.out.below H3.out.res).mono ?_;rintro e w3 ⟨rfl,hb⟩;have H4:=Lib.hid (H3.out.later hb);obtain ⟨p4,q4⟩:=cells2 H4.out.a;have ce4:=cell0 H4.out.b;have ze4:=H4.out.b.frozen 0;clear hb)
 go_wp2_with (clear TK4;go_at_call 165;refine (mustN_no _ _ _ HN.out).mono ?_;rintro e w9 ⟨rfl,hw⟩;subst hw)
 refine door_pan (v:=.tuple #[.bool false,.int .i64 (n:Int)]) H4.out.b ?_
 intro W hB hk hbel
 exact ⟨run_tmp_errno rfl rfl rfl hB,rfl,hbel _ _ (Nat.le_succ _) H4.out.below⟩
theorem holds_f (f d:ByteArray) (p q:List L2) (vp vq:Value) (w:World) (hp:LRow w vp p) (hq:LRow w vq q) (sp:Short p) (sq:Short q) (h1:f.size≤270000) (h2:d.size≤270000) (hr:Res w) {x y:ByteArray} (hL:errL f d=0) (hx:deltaX p q f=.ok x) (hy:deltaX q p f=.ok y) (d1:decide (cmpQ (valQ x.data.toList) (valQ d.data.toList)≤0)=false) :
  Calls Tryz.prog 86 #[.agg #[.string f,.string d],vp,vq] w fun e w'=>e=.returned (.tuple #[.bool false,.int .i64 0])∧Below w.heap.size w w':=by
 have H0:=At2.new w 63 32 #[.string f,.string d] #[.int .i64 0] hr
 obtain ⟨a1,a2,a3⟩:=at2_row1 H0
 rw [show ((w.alloc (.cells #[.string f,.string d] 63)).alloc (.cells #[.int .i64 0] 32)).heap.size=w.heap.size+1+1 by simp] at a2
 have HV:=Lib.hid (valid_run _ _ _ a2 (short_one h1 h2) a3)
 rw [firstL_one] at HV
 have H1:=Lib.hid (H0.later a1)
 obtain ⟨A,ca,rfl,_,_⟩:=id hp
 obtain ⟨B,cb,rfl,_,_⟩:=id hq
 rw [hL] at HV
 have HP:=Lib.hid (fun W (hb:Below w.heap.size w W) (hr:Res W)=>ddelta_any p q _ _ f W (hp.below hb) (hq.below hb) sp sq h1 hr)
 rw [hx] at HP
 change Hid (∀ W (_:Below w.heap.size w W) (_:Res W),Calls _ _ _ _ fun e w'=>e=.returned (.tuple #[.string x,.int .i64 0])∧_) at HP
 have HQ:=Lib.hid (fun W (hb:Below w.heap.size w W) (hr:Res W)=>ddelta_any q p _ _ f W (hq.below hb) (hp.below hb) sq sp h1 hr)
 rw [hy] at HQ
 change Hid (∀ W (_:Below w.heap.size w W) (_:Res W),Calls _ _ _ _ fun e w'=>e=.returned (.tuple #[.string y,.int .i64 0])∧_) at HQ
 have HC1:=Lib.hid (fun w hr=>lorder_any w (IsT.of (deltaX_okE hx)) (errL_zero hL).d hr)
 dsimp only at HC1
 generalize cmpQ (valQ x.data.toList) (valQ d.data.toList)=x1 at *
 clear H0 a1 a2 a3 h1 h2 hr hL hp hq sp sq hx hy
 have TK0:True:=trivial
 have TK1:True:=trivial
 have TK2:True:=trivial
 have TK3:True:=trivial
 have TK4:True:=trivial
 have TK5:True:=trivial
 go_enter_defers Tryz.func86,Tryz.ntmps86
 go_wp2_with (clear TK0;go_at_call 164;refine HV.out.mono ?_;rintro e w1 ⟨rfl,hb⟩;rw [endV_ok];have H2:=Lib.hid (H1.out.later hb);obtain ⟨p2,q2⟩:=cells2 H2.out.a;have ce2:=cell0 H2.out.b;have ze2:=H2.out.b.frozen 0;clear hb)
 go_wp2_with (clear TK1;go_at_call 45;refine (HP.out _ H2.out.below H2.out.res).mono ?_;rintro e w2 ⟨rfl,hb⟩;have H3:=Lib.hid (H2.out.later hb);obtain ⟨p3,q3⟩:=cells2 H3.out.a;have ce3:=cell0 H3.out.b;have ze3:=H3.out.b.frozen 0;clear hb)
 go_wp2_with (clear TK2;go_at_call 165;refine (mustN_ok _ _).mono ?_;rintro e w9 ⟨rfl,hw⟩;subst hw)
 go_wp2_with (clear TK3;go_at_call 45;refine (HQ.out _ H3.out.below H3.out.res).mono ?_;rintro e w3 ⟨rfl,hb⟩;have H4:=Lib.hid (H3.out.later hb);obtain ⟨p4,q4⟩:=cells2 H4.out.a;have ce4:=cell0 H4.out.b;have ze4:=H4.out.b.frozen 0;clear hb)
 go_wp2_with (clear TK4;go_at_call 165;refine (mustN_ok _ _).mono ?_;rintro e w9 ⟨rfl,hw⟩;subst hw)
 go_wp2_with (clear TK5;go_at_call 169;refine (HC1.out _ H4.out.res).mono ?_;rintro e w4 ⟨rfl,hb⟩;have H5:=Lib.hid (H4.out.later hb);obtain ⟨p5,q5⟩:=cells2 H5.out.a;have ce5:=cell0 H5.out.b;have ze5:=H5.out.b.frozen 0;clear hb)
 refine door_ret (v:=.tuple #[.bool false,.int .i64 0]) (run_tmp_errno rfl rfl rfl (H5.out.b.set_ 0 (.int .i64 0))) ⟨rfl,H5.out.below.setCell (Nat.le_succ _) _⟩
theorem holds_tt (f d:ByteArray) (p q:List L2) (vp vq:Value) (w:World) (hp:LRow w vp p) (hq:LRow w vq q) (sp:Short p) (sq:Short q) (h1:f.size≤270000) (h2:d.size≤270000) (hr:Res w) {x y:ByteArray} (hL:errL f d=0) (hx:deltaX p q f=.ok x) (hy:deltaX q p f=.ok y) (d1:decide (cmpQ (valQ x.data.toList) (valQ d.data.toList)≤0)=true) (d2:decide (cmpQ (valQ y.data.toList) (valQ d.data.toList)≤0)=true) :
  Calls Tryz.prog 86 #[.agg #[.string f,.string d],vp,vq] w fun e w'=>e=.returned (.tuple #[.bool true,.int .i64 0])∧Below w.heap.size w w':=by
 have H0:=At2.new w 63 32 #[.string f,.string d] #[.int .i64 0] hr
 obtain ⟨a1,a2,a3⟩:=at2_row1 H0
 rw [show ((w.alloc (.cells #[.string f,.string d] 63)).alloc (.cells #[.int .i64 0] 32)).heap.size=w.heap.size+1+1 by simp] at a2
 have HV:=Lib.hid (valid_run _ _ _ a2 (short_one h1 h2) a3)
 rw [firstL_one] at HV
 have H1:=Lib.hid (H0.later a1)
 obtain ⟨A,ca,rfl,_,_⟩:=id hp
 obtain ⟨B,cb,rfl,_,_⟩:=id hq
 rw [hL] at HV
 have HP:=Lib.hid (fun W (hb:Below w.heap.size w W) (hr:Res W)=>ddelta_any p q _ _ f W (hp.below hb) (hq.below hb) sp sq h1 hr)
 rw [hx] at HP
 change Hid (∀ W (_:Below w.heap.size w W) (_:Res W),Calls _ _ _ _ fun e w'=>e=.returned (.tuple #[.string x,.int .i64 0])∧_) at HP
 have HQ:=Lib.hid (fun W (hb:Below w.heap.size w W) (hr:Res W)=>ddelta_any q p _ _ f W (hq.below hb) (hp.below hb) sq sp h1 hr)
 rw [hy] at HQ
 change Hid (∀ W (_:Below w.heap.size w W) (_:Res W),Calls _ _ _ _ fun e w'=>e=.returned (.tuple #[.string y,.int .i64 0])∧_) at HQ
 have HC1:=Lib.hid (fun w hr=>lorder_any w (IsT.of (deltaX_okE hx)) (errL_zero hL).d hr)
 have HC2:=Lib.hid (fun w hr=>lorder_any w (IsT.of (deltaX_okE hy)) (errL_zero hL).d hr)
 dsimp only at HC1
 generalize cmpQ (valQ x.data.toList) (valQ d.data.toList)=x1 at *
 dsimp only at HC2
 generalize cmpQ (valQ y.data.toList) (valQ d.data.toList)=x2 at *
 clear H0 a1 a2 a3 h1 h2 hr hL hp hq sp sq hx hy
 have TK0:True:=trivial
 have TK1:True:=trivial
 have TK2:True:=trivial
 have TK3:True:=trivial
 have TK4:True:=trivial
 have TK5:True:=trivial
 go_enter_defers Tryz.func86,Tryz.ntmps86
 go_wp2_with (clear TK0;go_at_call 164;refine HV.out.mono ?_;rintro e w1 ⟨rfl,hb⟩;rw [endV_ok];have H2:=Lib.hid (H1.out.later hb);obtain ⟨p2,q2⟩:=cells2 H2.out.a;have ce2:=cell0 H2.out.b;have ze2:=H2.out.b.frozen 0;clear hb)
 go_wp2_with (clear TK1;go_at_call 45;refine (HP.out _ H2.out.below H2.out.res).mono ?_;rintro e w2 ⟨rfl,hb⟩;have H3:=Lib.hid (H2.out.later hb);obtain ⟨p3,q3⟩:=cells2 H3.out.a;have ce3:=cell0 H3.out.b;have ze3:=H3.out.b.frozen 0;clear hb)
 go_wp2_with (clear TK2;go_at_call 165;refine (mustN_ok _ _).mono ?_;rintro e w9 ⟨rfl,hw⟩;subst hw)
 go_wp2_with (clear TK3;go_at_call 45;refine (HQ.out _ H3.out.below H3.out.res).mono ?_;rintro e w3 ⟨rfl,hb⟩;have H4:=Lib.hid (H3.out.later hb);obtain ⟨p4,q4⟩:=cells2 H4.out.a;have ce4:=cell0 H4.out.b;have ze4:=H4.out.b.frozen 0;clear hb)
 go_wp2_with (clear TK4;go_at_call 165;refine (mustN_ok _ _).mono ?_;rintro e w9 ⟨rfl,hw⟩;subst hw)
 go_wp2_with (clear TK5;go_at_call 169;refine (HC1.out _ H4.out.res).mono ?_;rintro e w4 ⟨rfl,hb⟩;have H5:=Lib.hid (H4.out.later hb);obtain ⟨p5,q5⟩:=cells2 H5.out.a;have ce5:=cell0 H5.out.b;have ze5:=H5.out.b.frozen 0;clear hb)
 go_wp2_with (go_at_call 169;refine (HC2.out _ H5.out.res).mono ?_;rintro e w5 ⟨rfl,hb⟩;have H6:=Lib.hid (H5.out.later hb);obtain ⟨p6,q6⟩:=cells2 H6.out.a;have ce6:=cell0 H6.out.b;have ze6:=H6.out.b.frozen 0;clear hb)
 refine door_ret (v:=.tuple #[.bool true,.int .i64 0]) (run_tmp_errno rfl rfl rfl (H6.out.b.set_ 0 (.int .i64 0))) ⟨rfl,H6.out.below.setCell (Nat.le_succ _) _⟩
theorem holds_tf (f d:ByteArray) (p q:List L2) (vp vq:Value) (w:World) (hp:LRow w vp p) (hq:LRow w vq q) (sp:Short p) (sq:Short q) (h1:f.size≤270000) (h2:d.size≤270000) (hr:Res w) {x y:ByteArray} (hL:errL f d=0) (hx:deltaX p q f=.ok x) (hy:deltaX q p f=.ok y) (d1:decide (cmpQ (valQ x.data.toList) (valQ d.data.toList)≤0)=true) (d2:decide (cmpQ (valQ y.data.toList) (valQ d.data.toList)≤0)=false) :
  Calls Tryz.prog 86 #[.agg #[.string f,.string d],vp,vq] w fun e w'=>e=.returned (.tuple #[.bool false,.int .i64 0])∧Below w.heap.size w w':=by
 have H0:=At2.new w 63 32 #[.string f,.string d] #[.int .i64 0] hr
 obtain ⟨a1,a2,a3⟩:=at2_row1 H0
 rw [show ((w.alloc (.cells #[.string f,.string d] 63)).alloc (.cells #[.int .i64 0] 32)).heap.size=w.heap.size+1+1 by simp] at a2
 have HV:=Lib.hid (valid_run _ _ _ a2 (short_one h1 h2) a3)
 rw [firstL_one] at HV
 have H1:=Lib.hid (H0.later a1)
 obtain ⟨A,ca,rfl,_,_⟩:=id hp
 obtain ⟨B,cb,rfl,_,_⟩:=id hq
 rw [hL] at HV
 have HP:=Lib.hid (fun W (hb:Below w.heap.size w W) (hr:Res W)=>ddelta_any p q _ _ f W (hp.below hb) (hq.below hb) sp sq h1 hr)
 rw [hx] at HP
 change Hid (∀ W (_:Below w.heap.size w W) (_:Res W),Calls _ _ _ _ fun e w'=>e=.returned (.tuple #[.string x,.int .i64 0])∧_) at HP
 have HQ:=Lib.hid (fun W (hb:Below w.heap.size w W) (hr:Res W)=>ddelta_any q p _ _ f W (hq.below hb) (hp.below hb) sq sp h1 hr)
 rw [hy] at HQ
 change Hid (∀ W (_:Below w.heap.size w W) (_:Res W),Calls _ _ _ _ fun e w'=>e=.returned (.tuple #[.string y,.int .i64 0])∧_) at HQ
 have HC1:=Lib.hid (fun w hr=>lorder_any w (IsT.of (deltaX_okE hx)) (errL_zero hL).d hr)
 have HC2:=Lib.hid (fun w hr=>lorder_any w (IsT.of (deltaX_okE hy)) (errL_zero hL).d hr)
 dsimp only at HC1
 generalize cmpQ (valQ x.data.toList) (valQ d.data.toList)=x1 at *
 dsimp only at HC2
 generalize cmpQ (valQ y.data.toList) (valQ d.data.toList)=x2 at *
 clear H0 a1 a2 a3 h1 h2 hr hL hp hq sp sq hx hy
 have TK0:True:=trivial
 have TK1:True:=trivial
 have TK2:True:=trivial
 have TK3:True:=trivial
 have TK4:True:=trivial
 have TK5:True:=trivial
 go_enter_defers Tryz.func86,Tryz.ntmps86
 go_wp2_with (clear TK0;go_at_call 164;refine HV.out.mono ?_;rintro e w1 ⟨rfl,hb⟩;rw [endV_ok];have H2:=Lib.hid (H1.out.later hb);obtain ⟨p2,q2⟩:=cells2 H2.out.a;have ce2:=cell0 H2.out.b;have ze2:=H2.out.b.frozen 0;clear hb)
 go_wp2_with (clear TK1;go_at_call 45;refine (HP.out _ H2.out.below H2.out.res).mono ?_;rintro e w2 ⟨rfl,hb⟩;have H3:=Lib.hid (H2.out.later hb);obtain ⟨p3,q3⟩:=cells2 H3.out.a;have ce3:=cell0 H3.out.b;have ze3:=H3.out.b.frozen 0;clear hb)
 go_wp2_with (clear TK2;go_at_call 165;refine (mustN_ok _ _).mono ?_;rintro e w9 ⟨rfl,hw⟩;subst hw)
 go_wp2_with (clear TK3;go_at_call 45;refine (HQ.out _ H3.out.below H3.out.res).mono ?_;rintro e w3 ⟨rfl,hb⟩;have H4:=Lib.hid (H3.out.later hb);obtain ⟨p4,q4⟩:=cells2 H4.out.a;have ce4:=cell0 H4.out.b;have ze4:=H4.out.b.frozen 0;clear hb)
 go_wp2_with (clear TK4;go_at_call 165;refine (mustN_ok _ _).mono ?_;rintro e w9 ⟨rfl,hw⟩;subst hw)
 go_wp2_with (clear TK5;go_at_call 169;refine (HC1.out _ H4.out.res).mono ?_;rintro e w4 ⟨rfl,hb⟩;have H5:=Lib.hid (H4.out.later hb);obtain ⟨p5,q5⟩:=cells2 H5.out.a;have ce5:=cell0 H5.out.b;have ze5:=H5.out.b.frozen 0;clear hb)
 go_wp2_with (go_at_call 169;refine (HC2.out _ H5.out.res).mono ?_;rintro e w5 ⟨rfl,hb⟩;have H6:=Lib.hid (H5.out.later hb);obtain ⟨p6,q6⟩:=cells2 H6.out.a;have ce6:=cell0 H6.out.b;have ze6:=H6.out.b.frozen 0;clear hb)
 refine door_ret (v:=.tuple #[.bool false,.int .i64 0]) (run_tmp_errno rfl rfl rfl (H6.out.b.set_ 0 (.int .i64 0))) ⟨rfl,H6.out.below.setCell (Nat.le_succ _) _⟩
theorem lossHolds_any (f d:ByteArray) (p q:List L2) (vp vq:Value) (w:World) (hp:LRow w vp p) (hq:LRow w vq q) (sp:Short p) (sq:Short q) (h1:f.size≤270000) (h2:d.size≤270000) (hr:Res w) :
  Calls Tryz.prog 86 #[.agg #[.string f,.string d],vp,vq] w fun e w'=>e=.returned (resB (holdsR f d p q))∧Below w.heap.size w w':=by
 unfold holdsR
 by_cases hL:errL f d=0
 ·rw [if_neg (by omega)]
  cases hx:deltaX p q f with
  | error n=>exact holds_x f d p q vp vq w hp hq sp sq h1 h2 hr hL hx
  | ok x =>
   dsimp only
   cases hy:deltaX q p f with
   | error n=>exact holds_y f d p q vp vq w hp hq sp sq h1 h2 hr hL hx hy
   | ok y =>
    dsimp only
    cases d1:decide (cmpQ (valQ x.data.toList) (valQ d.data.toList)≤0)
    ·exact holds_f f d p q vp vq w hp hq sp sq h1 h2 hr hL hx hy d1
    ·cases d2:decide (cmpQ (valQ y.data.toList) (valQ d.data.toList)≤0)
     ·exact holds_tf f d p q vp vq w hp hq sp sq h1 h2 hr hL hx hy d1 d2
     ·exact holds_tt f d p q vp vq w hp hq sp sq h1 h2 hr hL hx hy d1 d2
 ·rw [if_pos hL]
  exact holds_no f d p q vp vq w hp hq sp sq h1 h2 hr hL
theorem firstL_two (x y:L2):firstL [x,y]=if errL x.1 x.2≠0 then errL x.1 x.2 else errL y.1 y.2:=by
 unfold firstL
 congr 1
 obtain ⟨f,d⟩:=y
 exact firstL_one f d
theorem rboth_1 (f d f' d':ByteArray) (w:World) (h1:f.size≤270000) (h2:d.size≤270000) (_h3:f'.size≤270000) (_h4:d'.size≤270000) (hr:Res w) (he:errL f d≠0) :
  Calls Tryz.prog 167 #[.agg #[.string f,.string d],.agg #[.string f',.string d']] w fun e w'=>e=.returned (.int .i64 (errL f d:Int))∧Below w.heap.size w w':=by
 have H:=Lib.hid (At2.new w 63 63 #[.string f,.string d] #[.string f',.string d'] hr)
 have HF:=Lib.hid (fun w hr=>refLoss_any f d w h1 h2 hr)
 obtain ⟨z,hz⟩:∃ z:Int,(errL f d:Int)=z:=⟨_,rfl⟩
 rw [hz] at HF ⊢
 have hne:(z==0)=false:=by rw [beq_eq_false_iff_ne];omega
 clear h1 h2 hr he hz
 go_enter Tryz.func167,Tryz.ntmps167
 go_wp2_with (go_at_call 145;refine (HF.out _ H.out.res).mono ?_;rintro e w1 ⟨rfl,hb⟩;have H1:=Lib.hid (H.out.later hb);obtain ⟨p0,p1⟩:=cells2 H1.out.b;clear hb)
 go_ret
 exact ⟨rfl,H1.out.below⟩
theorem rboth_2 (f d f' d':ByteArray) (w:World) (h1:f.size≤270000) (h2:d.size≤270000) (h3:f'.size≤270000) (h4:d'.size≤270000) (hr:Res w) (he:errL f d=0) :
  Calls Tryz.prog 167 #[.agg #[.string f,.string d],.agg #[.string f',.string d']] w fun e w'=>e=.returned (.int .i64 (errL f' d':Int))∧Below w.heap.size w w':=by
 have H:=Lib.hid (At2.new w 63 63 #[.string f,.string d] #[.string f',.string d'] hr)
 have HF:=Lib.hid (fun w hr=>refLoss_any f d w h1 h2 hr)
 have HG:=Lib.hid (fun w hr=>refLoss_any f' d' w h3 h4 hr)
 rw [he] at HF
 obtain ⟨z,hz⟩:∃ z:Int,(errL f' d':Int)=z:=⟨_,rfl⟩
 rw [hz] at HG ⊢
 have TK1:True:=trivial
 clear h1 h2 h3 h4 hr he hz
 go_enter Tryz.func167,Tryz.ntmps167
 go_wp2_with (first
  | (clear TK1;go_at_call 145;refine (HF.out _ H.out.res).mono ?_;rintro e w1 ⟨rfl,hb⟩;have H1:=Lib.hid (H.out.later hb);obtain ⟨p0,p1⟩:=cells2 H1.out.b;clear hb)
  | (go_at_call 145;refine (HG.out _ H1.out.res).mono ?_;rintro e w2 ⟨rfl,hb⟩;have H2:=Lib.hid (H1.out.later hb);clear hb))
 go_ret
 exact ⟨rfl,H2.out.below⟩
theorem rboth_any (f d f' d':ByteArray) (w:World) (h1:f.size≤270000) (h2:d.size≤270000) (h3:f'.size≤270000) (h4:d'.size≤270000) (hr:Res w) :
  Calls Tryz.prog 167 #[.agg #[.string f,.string d],.agg #[.string f',.string d']] w fun e w'=>e=.returned (.int .i64 (firstL [(f,d),(f',d')]:Int))∧Below w.heap.size w w':=by
 rw [firstL_two]
 dsimp only
 by_cases he:errL f d=0
 ·rw [if_neg (by omega)];exact rboth_2 f d f' d' w h1 h2 h3 h4 hr he
 ·rw [if_pos he];exact rboth_1 f d f' d' w h1 h2 h3 h4 hr he
theorem rlimited_any {f d:ByteArray} {D:Rat} (w:World) (hd:IsT d D) (hr:Res w) :
  Calls Tryz.prog 237 #[.string f,.string d] w fun e w'=>e=.returned (.agg #[.string f,.string (rT (minQ D 1))])∧Below w.heap.size w w':=by
 have H:=Lib.hid (At1.new w 63 #[.string ⟨#[]⟩,.string ⟨#[]⟩] hr)
 have HM:=Lib.hid (fun w=>rminT w hd IsT.one)
 generalize rT (minQ D 1)=m at HM ⊢
 clear hd hr
 go_enter Tryz.func237,Tryz.ntmps237
 go_wp2_with (go_at_call 270;refine (HM.out _).mono ?_;rintro e w1 ⟨rfl,hb⟩;have H1:=Lib.hid (H.out.later hb);obtain ⟨p0,p1⟩:=cells2 H1.out.a;have z0:=H1.out.a.frozen 0;have z1:=H1.out.a.frozen 1;clear hb)
 refine bodyPost_ret (run_cell rfl rfl (load_loss H1.out.a.two_set)) rfl ⟨rfl,(H1.out.below.setCell (Nat.le_refl _) _).setCell (Nat.le_refl _) _⟩
theorem build_zero (w:World):(Instr.build 63 #[]).run Tryz.prog w=.ok (.agg #[.string ⟨#[]⟩,.string ⟨#[]⟩]) w:=by kernel_rfl
theorem rAdd_err (f d f' d':ByteArray) (w:World) (h1:f.size≤270000) (h2:d.size≤270000) (h3:f'.size≤270000) (h4:d'.size≤270000) (hr:Res w) (he:firstL [(f,d),(f',d')]≠0) :
  Calls Tryz.prog 171 #[.agg #[.string f,.string d],.agg #[.string f',.string d']] w fun e w'=>e=.returned (.tuple #[.agg #[.string ⟨#[]⟩,.string ⟨#[]⟩],.int .i64 (firstL [(f,d),(f',d')]:Int)])∧Below w.heap.size w w':=by
 have H:=Lib.hid (At3.new w 63 63 63 #[.string f,.string d] #[.string f',.string d'] #[.string ⟨#[]⟩,.string ⟨#[]⟩] hr)
 have HBO:=Lib.hid (fun w hr=>rboth_any f d f' d' w h1 h2 h3 h4 hr)
 have HZ:=build_zero
 obtain ⟨z,hz⟩:∃ z:Int,(firstL [(f,d),(f',d')]:Int)=z:=⟨_,rfl⟩
 rw [hz] at HBO ⊢
 have hne:(z==0)=false:=by rw [beq_eq_false_iff_ne];omega
 clear h1 h2 h3 h4 hr he hz
 go_enter Tryz.func171,Tryz.ntmps171
 go_wp2_with (go_at_call 167;refine (HBO.out _ H.out.res).mono ?_;rintro e w1 ⟨rfl,hb⟩;have H1:=Lib.hid (H.out.later hb);obtain ⟨r0,r1⟩:=cells2 H1.out.c;have y0:=H1.out.c.frozen 0;have y1:=H1.out.c.frozen 1;obtain ⟨p0,p1⟩:=cells2 H1.out.a;obtain ⟨q0,q1⟩:=cells2 H1.out.b;clear hb)
 refine bodyPost_ret (run_cell_tmp rfl rfl (load_loss ((H1.out.c.set_ 0 (.string ⟨#[]⟩)).set_ 1 (.string ⟨#[]⟩)))) rfl ⟨rfl,(H1.out.below.setCell (le2 _) _).setCell (le2 _) _⟩
theorem rAdd_ok (f d f' d':ByteArray) (w:World) (h1:f.size≤270000) (h2:d.size≤270000) (h3:f'.size≤270000) (h4:d'.size≤270000) (hr:Res w) (a b:LQ) (ha:LossIs f d a) (hb:LossIs f' d' b) (g1:fits (a.1*b.1)=true) (g2:fits (a.2+b.2)=true) :
  Calls Tryz.prog 171 #[.agg #[.string f,.string d],.agg #[.string f',.string d']] w fun e w'=>e=.returned (.tuple #[.agg #[.string (rT (a.1*b.1)),.string (rT (minQ (a.2+b.2) 1))],.int .i64 0])∧Below w.heap.size w w':=by
 have H:=Lib.hid (At3.new w 63 63 63 #[.string f,.string d] #[.string f',.string d'] #[.string ⟨#[]⟩,.string ⟨#[]⟩] hr)
 have HBO:=Lib.hid (fun w hr=>rboth_any f d f' d' w h1 h2 h3 h4 hr)
 have HZ:=build_zero
 rw [show firstL [(f,d),(f',d')]=0 by rw [firstL_two];dsimp only;rw [ha.err,hb.err];rfl] at HBO
 have HM:=Lib.hid (fun w=>rmulT w ha.f hb.f (isT_rT g1))
 have HA:=Lib.hid (fun w=>raddT w ha.d hb.d (isT_rT g2))
 generalize rT (a.1*b.1)=m at *
 have HL:=Lib.hid (fun (w:World) hr=>rlimited_any (f:=m) w (isT_rT g2) hr)
 generalize rT (a.2+b.2)=s at *
 generalize rT (minQ (a.2+b.2) 1)=l at *
 clear h1 h2 h3 h4 hr ha hb g1 g2
 go_enter Tryz.func171,Tryz.ntmps171
 go_wp2_with (first
  | (go_at_call 167;refine (HBO.out _ H.out.res).mono ?_;rintro e w1 ⟨rfl,hb⟩;have H1:=Lib.hid (H.out.later hb);obtain ⟨r0,r1⟩:=cells2 H1.out.c;have y0:=H1.out.c.frozen 0;have y1:=H1.out.c.frozen 1;obtain ⟨p0,p1⟩:=cells2 H1.out.a;obtain ⟨q0,q1⟩:=cells2 H1.out.b;clear hb)
  | (go_at_call 149;refine (HM.out _).mono ?_;rintro e w2 ⟨rfl,hb⟩;have H2:=Lib.hid (H1.out.later hb);obtain ⟨r0,r1⟩:=cells2 H2.out.c;have y0:=H2.out.c.frozen 0;have y1:=H2.out.c.frozen 1;obtain ⟨p0,p1⟩:=cells2 H2.out.a;obtain ⟨q0,q1⟩:=cells2 H2.out.b;clear hb)
  | (go_at_call 59;refine (HA.out _).mono ?_;rintro e w3 ⟨rfl,hb⟩;have H3:=Lib.hid (H2.out.later hb);obtain ⟨r0,r1⟩:=cells2 H3.out.c;have y0:=H3.out.c.frozen 0;have y1:=H3.out.c.frozen 1;obtain ⟨p0,p1⟩:=cells2 H3.out.a;obtain ⟨q0,q1⟩:=cells2 H3.out.b;clear hb)
  | (go_at_call 237;refine (HL.out _ H3.out.res).mono ?_;rintro e w4 ⟨rfl,hb⟩;have H4:=Lib.hid (H3.out.later hb);obtain ⟨r0,r1⟩:=cells2 H4.out.c;have y0:=H4.out.c.frozen 0;have y1:=H4.out.c.frozen 1;obtain ⟨p0,p1⟩:=cells2 H4.out.a;obtain ⟨q0,q1⟩:=cells2 H4.out.b;clear hb))
 refine bodyPost_ret (run_cell_tmp rfl rfl (load_loss ((H4.out.c.set_ 0 (.string m)).set_ 1 (.string l)))) rfl ⟨rfl,(H4.out.below.setCell (le2 _) _).setCell (le2 _) _⟩
theorem rAdd_no2 (f d f' d':ByteArray) (w:World) (h1:f.size≤270000) (h2:d.size≤270000) (h3:f'.size≤270000) (h4:d'.size≤270000) (hr:Res w) (a b:LQ) (ha:LossIs f d a) (hb:LossIs f' d' b) (g1:fits (a.1*b.1)=true) (g2:fits (a.2+b.2)=false) :
  Calls Tryz.prog 171 #[.agg #[.string f,.string d],.agg #[.string f',.string d']] w fun e w'=>e=.returned (.tuple #[.agg #[.string ⟨#[]⟩,.string ⟨#[]⟩],.int .i64 5])∧Below w.heap.size w w':=by
 have H:=Lib.hid (At3.new w 63 63 63 #[.string f,.string d] #[.string f',.string d'] #[.string ⟨#[]⟩,.string ⟨#[]⟩] hr)
 have HBO:=Lib.hid (fun w hr=>rboth_any f d f' d' w h1 h2 h3 h4 hr)
 have HZ:=build_zero
 rw [show firstL [(f,d),(f',d')]=0 by rw [firstL_two];dsimp only;rw [ha.err,hb.err];rfl] at HBO
 have HM:=Lib.hid (fun w=>rmulT w ha.f hb.f (isT_rT g1))
 have HA:=Lib.hid (fun w=>raddO w ha.d hb.d g2)
 generalize rT (a.1*b.1)=m at *
 clear h1 h2 h3 h4 hr ha hb g1 g2
 go_enter Tryz.func171,Tryz.ntmps171
 go_wp2_with (first
  | (go_at_call 167;refine (HBO.out _ H.out.res).mono ?_;rintro e w1 ⟨rfl,hb⟩;have H1:=Lib.hid (H.out.later hb);obtain ⟨r0,r1⟩:=cells2 H1.out.c;have y0:=H1.out.c.frozen 0;have y1:=H1.out.c.frozen 1;obtain ⟨p0,p1⟩:=cells2 H1.out.a;obtain ⟨q0,q1⟩:=cells2 H1.out.b;clear hb)
  | (go_at_call 149;refine (HM.out _).mono ?_;rintro e w2 ⟨rfl,hb⟩;have H2:=Lib.hid (H1.out.later hb);obtain ⟨r0,r1⟩:=cells2 H2.out.c;have y0:=H2.out.c.frozen 0;have y1:=H2.out.c.frozen 1;obtain ⟨p0,p1⟩:=cells2 H2.out.a;obtain ⟨q0,q1⟩:=cells2 H2.out.b;clear hb)
  | (go_at_call 59;refine (HA.out _).mono ?_;rintro e w3 ⟨rfl,hb⟩;have H3:=Lib.hid (H2.out.later hb);obtain ⟨r0,r1⟩:=cells2 H3.out.c;have y0:=H3.out.c.frozen 0;have y1:=H3.out.c.frozen 1;obtain ⟨p0,p1⟩:=cells2 H3.out.a;obtain ⟨q0,q1⟩:=cells2 H3.out.b;clear hb))
 refine bodyPost_ret (run_cell_tmp rfl rfl (load_loss ((H3.out.c.set_ 0 (.string ⟨#[]⟩)).set_ 1 (.string ⟨#[]⟩)))) rfl ⟨rfl,(H3.out.below.setCell (le2 _) _).setCell (le2 _) _⟩
theorem rAdd_no1 (f d f' d':ByteArray) (w:World) (h1:f.size≤270000) (h2:d.size≤270000) (h3:f'.size≤270000) (h4:d'.size≤270000) (hr:Res w) (a b:LQ) (ha:LossIs f d a) (hb:LossIs f' d' b) (g1:fits (a.1*b.1)=false) :
  Calls Tryz.prog 171 #[.agg #[.string f,.string d],.agg #[.string f',.string d']] w fun e w'=>e=.returned (.tuple #[.agg #[.string ⟨#[]⟩,.string ⟨#[]⟩],.int .i64 5])∧Below w.heap.size w w':=by
 have H:=Lib.hid (At3.new w 63 63 63 #[.string f,.string d] #[.string f',.string d'] #[.string ⟨#[]⟩,.string ⟨#[]⟩] hr)
 have HBO:=Lib.hid (fun w hr=>rboth_any f d f' d' w h1 h2 h3 h4 hr)
 have HZ:=build_zero
 rw [show firstL [(f,d),(f',d')]=0 by rw [firstL_two];dsimp only;rw [ha.err,hb.err];rfl] at HBO
 have HM:=Lib.hid (fun w=>rmulO w ha.f hb.f g1)
 clear h1 h2 h3 h4 hr ha hb g1
 go_enter Tryz.func171,Tryz.ntmps171
 go_wp2_with (first
  | (go_at_call 167;refine (HBO.out _ H.out.res).mono ?_;rintro e w1 ⟨rfl,hb⟩;have H1:=Lib.hid (H.out.later hb);obtain ⟨r0,r1⟩:=cells2 H1.out.c;have y0:=H1.out.c.frozen 0;have y1:=H1.out.c.frozen 1;obtain ⟨p0,p1⟩:=cells2 H1.out.a;obtain ⟨q0,q1⟩:=cells2 H1.out.b;clear hb)
  | (go_at_call 149;refine (HM.out _).mono ?_;rintro e w2 ⟨rfl,hb⟩;have H2:=Lib.hid (H1.out.later hb);obtain ⟨r0,r1⟩:=cells2 H2.out.c;have y0:=H2.out.c.frozen 0;have y1:=H2.out.c.frozen 1;obtain ⟨p0,p1⟩:=cells2 H2.out.a;obtain ⟨q0,q1⟩:=cells2 H2.out.b;clear hb))
 refine bodyPost_ret (run_cell_tmp rfl rfl (load_loss ((H2.out.c.set_ 0 (.string ⟨#[]⟩)).set_ 1 (.string ⟨#[]⟩)))) rfl ⟨rfl,(H2.out.below.setCell (le2 _) _).setCell (le2 _) _⟩
theorem foldR_two {op:LQ→LQ→Except Nat LQ} (hop:∀ a,OkL a→op noneL a=.ok a) {x y:L2} (h:firstL [x,y]=0):foldR op [x,y]=op (valL x) (valL y):=by
 unfold foldR
 rw [if_neg (by omega)]
 have hx:=(errL_zero (firstL_zero.1 h x (by simp))).ok
 simp only [List.map_cons,List.map_nil,foldE]
 rw [show op noneL (valL x)=.ok (valL x) from hop _ hx]
 dsimp only
 cases op (valL x) (valL y)<;>rfl
theorem refLossAdd_any (f d f' d':ByteArray) (w:World) (h1:f.size≤270000) (h2:d.size≤270000) (h3:f'.size≤270000) (h4:d'.size≤270000) (hr:Res w) :
  Calls Tryz.prog 171 #[.agg #[.string f,.string d],.agg #[.string f',.string d']] w fun e w'=>e=.returned (resL (foldR plusL [(f,d),(f',d')]))∧Below w.heap.size w w':=by
 by_cases he:firstL [(f,d),(f',d')]=0
 ·rw [foldR_two (fun a ha=>plusL_none ha) he]
  have ha:=errL_zero (firstL_zero.1 he (f,d) (by simp))
  have hb:=errL_zero (firstL_zero.1 he (f',d') (by simp))
  cases g1:fits ((valL (f,d)).1*(valL (f',d')).1)
  ·rw [plusL_no1 g1];exact rAdd_no1 f d f' d' w h1 h2 h3 h4 hr _ _ ha hb g1
  cases g2:fits ((valL (f,d)).2+(valL (f',d')).2)
  ·rw [plusL_no2 g1 g2];exact rAdd_no2 f d f' d' w h1 h2 h3 h4 hr _ _ ha hb g1 g2
  rw [plusL_ok g1 g2]
  exact rAdd_ok f d f' d' w h1 h2 h3 h4 hr _ _ ha hb g1 g2
 ·unfold foldR
  rw [if_pos he]
  exact rAdd_err f d f' d' w h1 h2 h3 h4 hr he
end Go.Proofs.YtigapglmipmbeaaGreatDoor
namespace Go.Proofs.YtigapglmipmbeaaGreatDoor
open Go.RowKit Go.Shelf
open Lim
attribute [local go_sem] Oper.semAt_some
theorem rdcheck_any (ls:List L2) (v:Value) (w:World) (hv:LRow w v ls) (hs:Short ls) (hr:Res w) :
  Calls Tryz.prog 37 #[v] w fun e w'=>e=.returned (.int .i64 (chkD ls:Int))∧Below w.heap.size w w':=by
 have HV:=Lib.hid hv
 obtain ⟨A,c,rfl,hlen,hcells⟩:=hv
 have HS:=Lib.hid hs
 have H0:=Lib.hid (NW.refl hr)
 clear hr hcells hs
 go_enter Tryz.func37,Tryz.ntmps37
 go_wp2
 go_loopw [3] (fun v3 wr=>∃ k:Nat,k≤ls.length∧v3=.int .i64 (k:Int)∧Hid (chkL none ls=chkL (keyAt ls k) (ls.drop k))∧Hid (NW w wr)) (fun v3 _=>ls.length - (intOf v3).toNat)
 case atStart=>exact ⟨0,Nat.zero_le _,rfl,Lib.hid (by simp [keyAt]),H0⟩
 case round =>
  clear H0
  obtain ⟨k,hk,rfl,HE,HN⟩:=hrel
  by_cases hlt:k < ls.length
  ·obtain ⟨x,hx⟩:∃ x,ls[k]?=some x:=⟨_,List.getElem?_eq_getElem hlt⟩
   obtain ⟨b,o,c',e',hb2,c0,c1⟩:=HV.out.at HN.out.below hx
   simp only [Value.slice.injEq,true_and] at e'
   obtain ⟨rfl,rfl⟩:=e'
   have hlt':(k:Int) < (ls.length:Int):=by omega
   have hsx:=(HS.out x (List.mem_of_getElem? hx)).2
   have HD:=Lib.hid (drop_of hx)
   have HLT:=Lib.hid (And.intro hlt hlt')
   have HXK:=Lib.hid hx
   obtain ⟨f,d⟩:=x
   dsimp only at c0 c1 HD HXK hsx
   clear hx hlt
   by_cases h0:errQ d.data.toList=0
   ·have HSG:=Lib.hid (retRSign_ok hsx h0)
    by_cases h2:0 < valQ d.data.toList
    ·have d1:decide (sgQ (valQ d.data.toList)≤0)=false:=decide_eq_false (fun h=>by have:=(sg_gt _).2 h2;omega)
     have h1:posE d=0:=posE_zero.2 ⟨h0,by grind⟩
     have HH:=Lib.hid (And.intro h1 h2)
     clear h0 h1 h2 hsx
     generalize sgQ (valQ d.data.toList)=sg at *
     rcases Nat.eq_zero_or_pos k with hk0|hk0
     ·have HR:=Lib.hid (show chkL none ls=chkL (keyAt ls (k+1)) (ls.drop (k+1)) by
       rw [HE.out,HD.out,keyAt_succ HXK.out,hk0]
       exact chkL_go (x:=(f,d)) HH.out.1 HH.out.2 rfl)
      have d0:decide (0 < (k:Int))=false:=decide_eq_false (by omega)
      have d0n:decide (0 < k)=false:=decide_eq_false (by omega)
      clear hk0
      go_wp2_with (go_at_call 110;refine (HSG.out _ HN.out.res).mono ?_;rintro e w3 ⟨rfl,hb⟩;have H3:=Lib.hid (HN.out.later hb);have hb3:=Nat.lt_of_lt_of_le hb2 hb.size;clear hb)
      go_quiet (fail)
      have H4:=Lib.hid (fun n=>H3.out.drewN n)
      go_wp2
      go_roundw
      case rel=>exact ⟨k+1,HLT.out.1,by go_num,HR,H4.out _⟩
      case measure=>have:=HLT.out.1;simp [intOf];omega
     ·obtain ⟨j,hj⟩:∃ j,k=j+1:=⟨k - 1,by omega⟩
      have hjl:(j:Int) < (ls.length:Int):=by have:=HLT.out.1;omega
      obtain ⟨y,hy⟩:∃ y,ls[j]?=some y:=⟨_,List.getElem?_eq_getElem (by omega)⟩
      have e1:(k:Int) - 1=(j:Int):=by omega
      have d0:decide (0 < (k:Int))=true:=decide_eq_true (by omega)
      have d0n:decide (0 < k)=true:=decide_eq_true (by omega)
      have HKJ:=Lib.hid hj
      clear hk0 hj
      have HYK:=Lib.hid hy
      cases h3:ltK y.1 f with
      | true =>
       have HR:=Lib.hid (show chkL none ls=chkL (keyAt ls (k+1)) (ls.drop (k+1)) by
        rw [HE.out,HD.out,keyAt_succ HXK.out,HKJ.out,keyAt_succ hy]
        exact chkL_go (x:=(f,d)) HH.out.1 HH.out.2 (by show (!ltK y.1 f)=false;rw [h3];rfl))
       have TL:=lt_bytes y.1 f
       rw [h3] at TL
       clear h3 hy
       go_wp2_with (go_at_call 110;refine (HSG.out _ HN.out.res).mono ?_;rintro e w3 ⟨rfl,hb⟩;have H3:=Lib.hid (HN.out.later hb);have hb3:=Nat.lt_of_lt_of_le hb2 hb.size;obtain ⟨hb4,q0,q1⟩:=HV.out.cell2 H3.out.below HXK.out;obtain ⟨hb5,p0,p1⟩:=HV.out.cell2 H3.out.below HYK.out;clear hb)
       go_quiet (fail)
       have H4:=Lib.hid (fun n=>H3.out.drewN n)
       go_wp2
       go_roundw
       case rel=>exact ⟨k+1,HLT.out.1,by go_num,HR,H4.out _⟩
       case measure=>have:=HLT.out.1;simp [intOf];omega
      | false =>
       have HR:=Lib.hid (show chkL none ls=9 by
        rw [HE.out,HD.out,HKJ.out,keyAt_succ hy]
        exact chkL_ord (x:=(f,d)) HH.out.1 HH.out.2 (by show (!ltK y.1 f)=true;rw [h3];rfl))
       have TL:=lt_bytes y.1 f
       rw [h3] at TL
       clear h3 hy
       go_wp2_with (go_at_call 110;refine (HSG.out _ HN.out.res).mono ?_;rintro e w3 ⟨rfl,hb⟩;have H3:=Lib.hid (HN.out.later hb);have hb3:=Nat.lt_of_lt_of_le hb2 hb.size;obtain ⟨hb4,q0,q1⟩:=HV.out.cell2 H3.out.below HXK.out;obtain ⟨hb5,p0,p1⟩:=HV.out.cell2 H3.out.below HYK.out;clear hb)
       go_quiet (fail)
       have H4:=Lib.hid (fun n=>H3.out.drewN n)
       go_wp2
       go_ret
       refine ⟨?_,(H4.out _).below⟩
       unfold chkD
       rw [HR.out]
       rfl
    ·have d1:decide (sgQ (valQ d.data.toList)≤0)=true:=decide_eq_true (Classical.byContradiction fun h=>h2 ((sg_gt _).1 (by omega)))
     have HR:=Lib.hid (show chkL none ls=2 by
      rw [HE.out,HD.out]
      by_cases h1:posE d=0
      ·exact chkL_low (x:=(f,d)) h1 h2
      ·rw [chkL_err (x:=(f,d)) h1]
       show posE d=2
       unfold posE at h1 ⊢
       rw [if_neg (by simpa using h0)] at h1 ⊢
       split
       ·rfl
       ·rename_i h4;rw [if_neg h4] at h1;exact absurd rfl h1)
     generalize sgQ (valQ d.data.toList)=sg at *
     clear h0 h2 hsx
     go_wp2_with (go_at_call 110;refine (HSG.out _ HN.out.res).mono ?_;rintro e w3 ⟨rfl,hb⟩;have H3:=Lib.hid (HN.out.later hb);have hb3:=Nat.lt_of_lt_of_le hb2 hb.size;clear hb)
     go_ret
     refine ⟨?_,H3.out.below⟩
     unfold chkD
     rw [HR.out]
     rfl
   ·have HSG:=Lib.hid (retRSign_err hsx h0)
    have HR:=Lib.hid (show chkL none ls=errQ d.data.toList∧chkL none ls≠0 by
     rw [HE.out,HD.out,chkL_err (x:=(f,d)) (by show posE d≠0;rw [posE_err h0];exact h0)]
     show posE d=_∧posE d≠0
     rw [posE_err h0]
     exact ⟨rfl,h0⟩)
    have hm:=ne_zero h0
    clear h0 hsx
    go_wp2_with (go_at_call 110;refine (HSG.out _ HN.out.res).mono ?_;rintro e w3 ⟨rfl,hb⟩;have H3:=Lib.hid (HN.out.later hb);have hb3:=Nat.lt_of_lt_of_le hb2 hb.size;clear hb)
    go_ret
    refine ⟨?_,H3.out.below⟩
    unfold chkD
    rw [if_pos HR.out.2,HR.out.1]
    rfl
  ·have hlt':¬ (k:Int) < (ls.length:Int):=by omega
   obtain rfl:k=ls.length:=by omega
   have h0:chkL none ls=0:=by
    have:=HE.out
    rw [List.drop_length] at this
    exact this
   have HQ:=Lib.hid (show chkD ls=chkS (foldX (fun x:L2=>.ok x.2) zT ls) by unfold chkD;rw [h0];rfl)
   have HER:=Lib.hid (errs_of h0)
   clear h0 hlt hk HE
   go_wp2
   go_loopw [6,8] (fun v6 v8 wq=>∃ (k:Nat) (s:ByteArray),k≤ls.length∧v8=.int .i64 (k:Int)∧v6=.string s∧Hid (errQ s.data.toList=0∧foldX (fun x:L2=>(.ok x.2:XE)) zT ls=foldX (fun x:L2=>.ok x.2) s (ls.drop k))∧Hid (NW w wq)) (fun _ v8 _=>ls.length - (intOf v8).toNat)
   case atStart=>exact ⟨0,zT,Nat.zero_le _,rfl,rfl,Lib.hid ⟨err_zT,by simp⟩,HN⟩
   case round =>
    clear HN hlt'
    obtain ⟨k,s,hk,rfl,rfl,HE,HN⟩:=hrel
    by_cases hlt:k < ls.length
    ·obtain ⟨x,hx⟩:∃ x,ls[k]?=some x:=⟨_,List.getElem?_eq_getElem hlt⟩
     obtain ⟨b,o,c',e',hb2,c0,c1⟩:=HV.out.at HN.out.below hx
     simp only [Value.slice.injEq,true_and] at e'
     obtain ⟨rfl,rfl⟩:=e'
     have hlt':(k:Int) < (ls.length:Int):=by omega
     have HD:=Lib.hid (drop_of hx)
     have HLT:=Lib.hid (And.intro hlt hlt')
     have HA:=Lib.hid (retRPlX (size_ok HE.out.1) (HS.out x (List.mem_of_getElem? hx)).2)
     obtain ⟨f,d⟩:=x
     dsimp only at c0 c1 HD HA
     clear hx hlt
     cases ha:plX s d with
     | error n =>
      have HR:=Lib.hid (show foldX (fun x:L2=>(.ok x.2:XE)) zT ls=.error n by rw [HE.out.2,HD.out];exact foldX_err2 rfl ha)
      have hm:=ne_zero (exQ_err ha)
      rw [ha] at HA
      change Hid (Ret _ _ (.tuple #[.string ⟨#[]⟩,.int .i64 (n:Int)])) at HA
      clear ha
      go_wp2_with (go_at_call 59;refine (HA.out _ HN.out.res).mono ?_;rintro e w3 ⟨rfl,hb⟩;have H3:=Lib.hid (HN.out.later hb);clear hb)
      go_ret
      rw [HQ.out,HR.out]
      exact ⟨rfl,H3.out.below⟩
     | ok t =>
      have HR:=Lib.hid (show errQ t.data.toList=0∧foldX (fun x:L2=>(.ok x.2:XE)) zT ls=foldX (fun x:L2=>.ok x.2) t (ls.drop (k+1)) from ⟨plX_ok ha,by rw [HE.out.2,HD.out];exact foldX_ok rfl ha⟩)
      rw [ha] at HA
      change Hid (Ret _ _ (.tuple #[.string t,.int .i64 0])) at HA
      clear ha
      go_wp2_with (go_at_call 59;refine (HA.out _ HN.out.res).mono ?_;rintro e w3 ⟨rfl,hb⟩;have H3:=Lib.hid (HN.out.later hb);clear hb)
      go_roundw
      case rel=>exact ⟨k+1,t,HLT.out.1,by go_num,rfl,HR,H3⟩
      case measure=>have:=HLT.out.1;simp [intOf];omega
    ·have hlt':¬ (k:Int) < (ls.length:Int):=by omega
     obtain rfl:k=ls.length:=by omega
     have HR:=Lib.hid (show foldX (fun x:L2=>(.ok x.2:XE)) zT ls=.ok s by
      have:=HE.out.2
      rwa [List.drop_length] at this)
     have TE:=eq_bytes s oT
     rw [oT_list] at TE
     rw [HR.out,chkS_ok] at HQ
     clear hlt
     by_cases h1:s=oT
     ·rw [decide_eq_true h1] at TE
      rw [if_pos h1] at HQ
      clear h1
      go_wp2
      go_ret
      rw [HQ.out]
      exact ⟨rfl,HN.out.below⟩
     ·rw [decide_eq_false h1] at TE
      rw [if_neg h1] at HQ
      clear h1
      go_wp2
      go_ret
      rw [HQ.out]
      exact ⟨rfl,HN.out.below⟩
theorem rdboth_any (p q:List L2) (vp vq:Value) (w:World) (hp:LRow w vp p) (hq:LRow w vq q) (sp:Short p) (sq:Short q) (hr:Res w) :
  Calls Tryz.prog 114 #[vp,vq] w fun e w'=>e=.returned (.int .i64 (chk2 p q:Int))∧Below w.heap.size w w':=by
 have N0:=Lib.hid (NW.refl hr)
 have TKA:True:=trivial
 have HP:=Lib.hid (rdcheck_any p vp w hp sp hr)
 have HQ:=Lib.hid (fun W (hW:NW w W)=>rdcheck_any q vq W (hq.below hW.below) sq hW.res)
 clear hp hq sp sq hr
 by_cases h0:chkD p=0
 ·have HR:=Lib.hid (show chk2 p q=chkD q from if_neg (by simpa using h0))
  rw [h0] at HP
  change Hid (Calls _ _ _ _ fun e w'=>e=.returned (.int .i64 0)∧_) at HP
  clear h0
  go_enter Tryz.func114,Tryz.ntmps114
  go_wp2_with (first
   | (clear TKA;go_at_call 37;refine HP.out.mono ?_;rintro e w1 ⟨rfl,hb⟩;have N1:=Lib.hid (N0.out.later hb);clear hb)
   | (go_at_call 37;refine (HQ.out _ N1.out).mono ?_;rintro e w2 ⟨rfl,hb⟩;have N2:=Lib.hid (N1.out.later hb);clear hb))
  go_ret
  rw [HR.out]
  exact ⟨rfl,N2.out.below⟩
 ·have HR:=Lib.hid (show chk2 p q=chkD p from if_pos h0)
  have hm:=ne_zero h0
  clear h0
  go_enter Tryz.func114,Tryz.ntmps114
  go_wp2_with (clear TKA;go_at_call 37;refine HP.out.mono ?_;rintro e w1 ⟨rfl,hb⟩;have N1:=Lib.hid (N0.out.later hb);clear hb)
  go_ret
  rw [HR.out]
  exact ⟨rfl,N1.out.below⟩
theorem atT_hit {x:L2} {l:List L2} {k:ByteArray} (h:x.1=k):atT (x::l) k=x.2∧hasT (x::l) k=true:=by unfold atT hasT;rw [if_pos h,if_pos h];exact ⟨rfl,rfl⟩
theorem atT_miss {x:L2} {l:List L2} {k:ByteArray} (h:x.1≠k):atT (x::l) k=atT l k∧hasT (x::l) k=hasT l k:=by
 constructor
 ·conv=>lhs;unfold atT
  rw [if_neg h]
 ·conv=>lhs;unfold hasT
  rw [if_neg h]
theorem rdfind_any (ls:List L2) (v:Value) (key:ByteArray) (w:World) (hv:LRow w v ls) :
  Calls Tryz.prog 126 #[v,.string key] w fun e w'=>e=.returned (.tuple #[.string (atT ls key),.bool (hasT ls key)])∧w'=w:=by
 have HV:=Lib.hid hv
 obtain ⟨A,c,rfl,hlen,hcells⟩:=hv
 clear hcells
 go_enter Tryz.func126,Tryz.ntmps126
 go_wp2
 go_loopw [6] (fun v6 wr=>∃ k:Nat,k≤ls.length∧v6=.int .i64 (k:Int)∧Hid (atT ls key=atT (ls.drop k) key∧hasT ls key=hasT (ls.drop k) key)∧wr=w) (fun v6 _=>ls.length - (intOf v6).toNat)
 case atStart=>exact ⟨0,Nat.zero_le _,rfl,Lib.hid (by simp),rfl⟩
 case round =>
  obtain ⟨k,hk,rfl,HE,rfl⟩:=hrel
  by_cases hlt:k < ls.length
  ·obtain ⟨x,hx⟩:∃ x,ls[k]?=some x:=⟨_,List.getElem?_eq_getElem hlt⟩
   obtain ⟨b,o,c',e',hb2,c0,c1⟩:=HV.out.at (Below.refl _ _) hx
   simp only [Value.slice.injEq,true_and] at e'
   obtain ⟨rfl,rfl⟩:=e'
   have hlt':(k:Int) < (ls.length:Int):=by omega
   have HD:=Lib.hid (drop_of hx)
   have HLT:=Lib.hid (And.intro hlt hlt')
   obtain ⟨f,d⟩:=x
   dsimp only at c0 c1 HD
   have TE:=eq_bytes f key
   clear hx hlt
   by_cases h1:f=key
   ·rw [decide_eq_true h1] at TE
    have HR:=Lib.hid (show atT ls key=d∧hasT ls key=true by rw [HE.out.1,HE.out.2,HD.out];exact atT_hit h1)
    clear h1
    go_wp2
    go_ret2
    rw [HR.out.1,HR.out.2]
    exact ⟨rfl,rfl⟩
   ·rw [decide_eq_false h1] at TE
    have HR:=Lib.hid (show atT ls key=atT (ls.drop (k+1)) key∧hasT ls key=hasT (ls.drop (k+1)) key by rw [HE.out.1,HE.out.2,HD.out];exact atT_miss h1)
    clear h1
    go_wp2
    go_roundw
    case rel=>exact ⟨k+1,HLT.out.1,by go_num,HR,trivial⟩
    case measure=>have:=HLT.out.1;simp [intOf];omega
  ·have hlt':¬ (k:Int) < (ls.length:Int):=by omega
   obtain rfl:k=ls.length:=by omega
   have HR:=Lib.hid (show atT ls key=zT∧hasT ls key=false by
    have:=HE.out
    rw [List.drop_length] at this
    exact this)
   clear hlt
   go_wp2
   go_ret2
   rw [HR.out.1,HR.out.2]
   exact ⟨rfl,rfl⟩
theorem rdAt_any (ls:List L2) (v:Value) (key:ByteArray) (w:World) (hv:LRow w v ls) :
  Calls Tryz.prog 39 #[v,.string key] w fun e w'=>e=.returned (.string (atT ls key))∧w'=w:=by
 have HF:=Lib.hid (rdfind_any ls v key w hv)
 clear hv
 go_enter Tryz.func39,Tryz.ntmps39
 go_wp2_with (go_at_call 126;refine HF.out.mono ?_;rintro e w1 ⟨rfl,rfl⟩)
 go_ret
 exact ⟨rfl,rfl⟩
end Go.Proofs.YtigapglmipmbeaaGreatDoor
namespace Go.Proofs.YtigapglmipmbeaaGreatDoor
open Go.RowKit
end Go.Proofs.YtigapglmipmbeaaGreatDoor
namespace Go.Proofs.YtigapglmipmbeaaGreatDoor
open Go.RowKit Go.Shelf
open Lim
abbrev CT:=Nat→ByteArray
def cvA (c:CT):Array Value:=#[.string (c 0),.string (c 1),.string (c 2),.string (c 3),.string (c 4),.string (c 5),.string (c 6),.string (c 7)]
def upd (c:CT) (k:Nat) (x:ByteArray):CT:=fun j=>if j=k then x else c j
theorem cvA_set (c:CT) {k:Nat} (hk:k < 8) (x:ByteArray):(cvA c).setIfInBounds k (.string x)=cvA (upd c k x):=by
 match k,hk with
 | 0,_=>rfl
 | 1,_=>rfl
 | 2,_=>rfl
 | 3,_=>rfl
 | 4,_=>rfl
 | 5,_=>rfl
 | 6,_=>rfl
 | 7,_=>rfl
theorem cvA_get (c:CT) {k:Nat} (hk:k < 8):(cvA c)[k]?=some (.string (c k)):=by
 match k,hk with
 | 0,_=>rfl
 | 1,_=>rfl
 | 2,_=>rfl
 | 3,_=>rfl
 | 4,_=>rfl
 | 5,_=>rfl
 | 6,_=>rfl
 | 7,_=>rfl
theorem cvA_ext {c c':CT} (h:∀ k,k < 8→c k=c' k):cvA c=cvA c':=by
 unfold cvA
 rw [h 0 (by omega),h 1 (by omega),h 2 (by omega),h 3 (by omega),h 4 (by omega),h 5 (by omega),h 6 (by omega),h 7 (by omega)]
def CBlk (W:World) (g:Nat) (c:CT):Prop:=Blk W g 59 (cvA c)
section
variable {W W':World} {g:Nat} {c:CT}
theorem CBlk.lt (h:CBlk W g c):g < W.heap.size:=Blk.lt h
theorem CBlk.cell (h:CBlk W g c) {k:Nat} (hk:k < 8):W.cell? ⟨g,k,none⟩=some (.string (c k)):=by
 rw [Blk.cell h,cvA_get c hk]
theorem CBlk.frozen (h:CBlk W g c) (i:Nat):W.frozen? ⟨g,i,none⟩=false:=Blk.frozen h i
end
end Go.Proofs.YtigapglmipmbeaaGreatDoor
namespace Go.Proofs.YtigapglmipmbeaaGreatDoor
open Go.RowKit Go.Shelf
open Lim
attribute [local go_sem] Oper.semAt_some
def olds7 (c:CT):List Value:=[.string (c 0),.string (c 1),.string (c 2),.string (c 3),.string (c 4),.string (c 5),.string (c 6)]
theorem cells_olds {W:World} {g:Nat} {c:CT} (h:CBlk W g c):∀ j u,(olds7 c)[j]?=some u→W.cell? ((⟨g,0,none⟩:Addr).add j)=some u:=by
 intro j u hj
 have hlt:j < 7:=(List.getElem?_eq_some_iff.1 hj).1
 have e:(⟨g,0,none⟩:Addr).add j=⟨g,j,none⟩:=by unfold Addr.add;split<;>simp_all
 rw [e,h.cell (by omega)]
 match j,hlt,hj with
 | 0,_,hj=>exact hj
 | 1,_,hj=>exact hj
 | 2,_,hj=>exact hj
 | 3,_,hj=>exact hj
 | 4,_,hj=>exact hj
 | 5,_,hj=>exact hj
 | 6,_,hj=>exact hj
def RowT (W:World) (g:Nat) (c:CT):Prop:=∀ k,k < 8→W.cell? ⟨g,k,none⟩=some (.string (c k))
theorem rowT_of {W:World} {base e g cap:Nat} {c:CT} (h:W.ownsRow base e 1 (.slice (some ⟨g,0,none⟩) (7+1) cap) (7+1) (olds7 c++[.string (c 7)])):RowT W g c:=by
 intro k hk
 have h2:=h.cells (g:=g) rfl k (.string (c k)) (by
  match k,hk with
  | 0,_=>rfl
  | 1,_=>rfl
  | 2,_=>rfl
  | 3,_=>rfl
  | 4,_=>rfl
  | 5,_=>rfl
  | 6,_=>rfl
  | 7,_=>rfl)
 rwa [show (⟨g,0,none⟩:Addr).add k=⟨g,k,none⟩ by unfold Addr.add;split<;>simp_all] at h2
theorem eight (c:CT) {k:Nat} (hk:k < 8):[c 0,c 1,c 2,c 3,c 4,c 5,c 6,c 7][k]?=some (c k):=by
 match k,hk with
 | 0,_=>rfl
 | 1,_=>rfl
 | 2,_=>rfl
 | 3,_=>rfl
 | 4,_=>rfl
 | 5,_=>rfl
 | 6,_=>rfl
 | 7,_=>rfl
abbrev cv (c:CT):Value:=.agg #[.string (c 0),.string (c 1),.string (c 2),.string (c 3),.string (c 4),.string (c 5),.string (c 6),.string (c 7)]
end Go.Proofs.YtigapglmipmbeaaGreatDoor
namespace Go.Proofs.YtigapglmipmbeaaGreatDoor
open Go.RowKit Go.Shelf
open Lim
section
variable {a b:CT} {m n:Nat→Rat} {j k:Nat}
end
end Go.Proofs.YtigapglmipmbeaaGreatDoor
namespace Go.Proofs.YtigapglmipmbeaaGreatDoor
open Go.RowKit Go.Shelf
open Lim
attribute [local go_sem] Oper.semAt_some
end Go.Proofs.YtigapglmipmbeaaGreatDoor
