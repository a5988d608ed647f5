/- loss.Late, where no number on the way is too long. The reference's Group and Late (printed by mklref3.py). The examples of losses that each statement asks first. The statements' lives and light (printed by mkllives.py). LossRests, as a walk (printed by mkrests2.py). Opening and shutting an argument that is a loss. Slices of structs with slices in them, in memory: how they read, how they are built, what keeps them. Plain words, no program. Opening arguments: lists of masses, of losses, of strings. Opening arguments: lists of losses. Facts of the program that each card asks. -/
import Derived.Test.YtigapglmipmbeaaGreatDoorLwLossRests07
import Derived.Test.YtigapglmipmbeaaGreatDoorLwLossRests01
import Derived.Test.YtigapglmipmbeaaGreatDoorLwLossRests06
import Derived.Test.YtigapglmipmbeaaGreatDoorLwLossRests05
import Derived.Test.YtigapglmipmbeaaGreatDoorRb10
import Derived.ProofKit
import Derived.OpenShut
import Derived.ShutString
import Derived.ChangeOld
import Derived.ChangeSame
import Derived.Test.YtigapglmipmbeaaGreatDoorProg
import Derived.WalkKit
import Derived.Handy
import Derived.Lib.Hide
import Derived.BigQuiet
import Derived.Maps.OwnSet
import Derived.Maps.StringElems
import Derived.Maps.AppendAt
import Derived.WalkLawsBesides
import Derived.WalkSpells
import Derived.ChangeSlices
import Derived.Deep.Slices
import Derived.Lib.SmallJoins
import Derived.Test.YtigapglmipmbeaaGreatDoorCards
import Derived.Test.YtigapglmipmbeaaGreatDoorTie
import Derived.KernelRfl
import Derived.SevenTiedAt
set_option maxRecDepth 100000
set_option maxHeartbeats 16000000
namespace Go.Proofs.YtigapglmipmbeaaGreatDoor
open Go.RowKit Go.Shelf
open Lim
def lateR (f d u:ByteArray):Except Nat LQ:=if errL f d≠0 then .error (errL f d) else if errQ u.data.toList≠0 then .error (errQ u.data.toList) else
 if cmpQ (valQ u.data.toList) 0 < 0∨cmpQ (valQ u.data.toList) 1 > 0 then .error 2 else lateL (valL (f,d)) (valQ u.data.toList)
theorem late_err1 (f d u:ByteArray) (w:World) (h1:f.size≤270000) (h2:d.size≤270000) (_h3:u.size≤270000) (hr:Res w) (hL:errL f d≠0) :
  Calls Tryz.prog 74 #[.agg #[.string f,.string d],.string u] w fun e w'=>e=.returned (resL (.error (errL f d)))∧Below w.heap.size w w':=by
 have H0:=At3.new w 63 63 32 #[.string f,.string d] #[.string ⟨#[]⟩,.string ⟨#[]⟩] #[.int .i64 0] hr
 obtain ⟨a1,a2,a3⟩:=at3_row1 H0
 rw [show (((w.alloc (.cells #[.string f,.string d] 63)).alloc (.cells #[.string ⟨#[]⟩,.string ⟨#[]⟩] 63)).alloc (.cells #[.int .i64 0] 32)).heap.size=w.heap.size+1+1+1 by simp] at a2
 have HV:=Lib.hid (valid_run _ _ _ a2 (short_one h1 h2) a3)
 rw [firstL_one] at HV
 have H1:=Lib.hid (H0.later a1)
 rw [endV_no hL] at HV
 generalize errL f d=n at HV
 clear H0 a1 a2 a3 h1 h2 hr hL
 go_enter_defers Tryz.func74,Tryz.ntmps74
 go_wp2_with (go_at_call 164;refine HV.out.mono ?_;rintro e w1 ⟨rfl,hb⟩;have H2:=Lib.hid (H1.out.later hb);clear hb)
 refine door_pan (v:=resL (.error n)) H2.out.c ?_
 intro W hB hk hbel
 exact ⟨run_cell_errno rfl rfl (load_loss (hk _ _ _ (by omega) H2.out.b)) rfl hB,rfl,hbel _ _ (le2 _) H2.out.below⟩
theorem late_err2 (f d u:ByteArray) (w:World) (h1:f.size≤270000) (h2:d.size≤270000) (h3:u.size≤270000) (hr:Res w) (hL:errL f d=0) (hU:errQ u.data.toList≠0) :
  Calls Tryz.prog 74 #[.agg #[.string f,.string d],.string u] w fun e w'=>e=.returned (resL (.error (errQ u.data.toList)))∧Below w.heap.size w w':=by
 have H0:=At3.new w 63 63 32 #[.string f,.string d] #[.string ⟨#[]⟩,.string ⟨#[]⟩] #[.int .i64 0] hr
 obtain ⟨a1,a2,a3⟩:=at3_row1 H0
 rw [show (((w.alloc (.cells #[.string f,.string d] 63)).alloc (.cells #[.string ⟨#[]⟩,.string ⟨#[]⟩] 63)).alloc (.cells #[.int .i64 0] 32)).heap.size=w.heap.size+1+1+1 by simp] at a2
 have HV:=Lib.hid (valid_run _ _ _ a2 (short_one h1 h2) a3)
 rw [firstL_one] at HV
 have H1:=Lib.hid (H0.later a1)
 rw [hL] at HV
 have HCK:=Lib.hid (fun w hr=>ratCheck_any u w h3 hr)
 have HN:=Lib.hid hU
 generalize errQ u.data.toList=n at HCK HN
 clear H0 a1 a2 a3 h1 h2 h3 hr hL hU
 go_enter_defers Tryz.func74,Tryz.ntmps74
 go_wp2_with (first
  | (go_at_call 164;refine HV.out.mono ?_;rintro e w1 ⟨rfl,hb⟩;rw [endV_ok];have H2:=Lib.hid (H1.out.later hb);clear hb)
  | (go_at_call 138;refine (HCK.out _ H2.out.res).mono ?_;rintro e w2 ⟨rfl,hb⟩;have H3:=Lib.hid (H2.out.later hb);clear hb)
  | (go_at_call 168;refine (mustI_no _ _ _ HN.out).mono ?_;rintro e w3 ⟨rfl,hw⟩;subst hw))
 refine door_pan (v:=resL (.error n)) H3.out.c ?_
 intro W hB hk hbel
 exact ⟨run_cell_errno rfl rfl (load_loss (hk _ _ _ (by omega) H3.out.b)) rfl hB,rfl,hbel _ _ (le2 _) H3.out.below⟩
theorem late_rng1 (f d u:ByteArray) (w:World) (h1:f.size≤270000) (h2:d.size≤270000) (_h3:u.size≤270000) (hr:Res w) (hL:errL f d=0) (hU:IsT u (valQ u.data.toList)) (c1:cmpQ (valQ u.data.toList) 0 < 0) :
  Calls Tryz.prog 74 #[.agg #[.string f,.string d],.string u] w fun e w'=>e=.returned (resL (.error 2))∧Below w.heap.size w w':=by
 have H0:=At3.new w 63 63 32 #[.string f,.string d] #[.string ⟨#[]⟩,.string ⟨#[]⟩] #[.int .i64 0] hr
 obtain ⟨a1,a2,a3⟩:=at3_row1 H0
 rw [show (((w.alloc (.cells #[.string f,.string d] 63)).alloc (.cells #[.string ⟨#[]⟩,.string ⟨#[]⟩] 63)).alloc (.cells #[.int .i64 0] 32)).heap.size=w.heap.size+1+1+1 by simp] at a2
 have HV:=Lib.hid (valid_run _ _ _ a2 (short_one h1 h2) a3)
 rw [firstL_one] at HV
 have H1:=Lib.hid (H0.later a1)
 rw [hL] at HV
 have HCK:=Lib.hid (fun w hr=>checkT (p:=valQ u.data.toList) w hU hr)
 have HC1:=Lib.hid (fun w hr=>lorder_any w hU IsT.zero hr)
 have HC2:=Lib.hid (fun w hr=>lorder_any w hU IsT.one hr)
 generalize cmpQ (valQ u.data.toList) 0=x1 at *
 generalize cmpQ (valQ u.data.toList) 1=x2 at *
 have g1:decide (x1 < 0)=true:=decide_eq_true c1
 have TK1:True:=trivial
 clear H0 a1 a2 a3 h1 h2 hr hL hU c1
 go_enter_defers Tryz.func74,Tryz.ntmps74
 go_wp2_with (first
  | (go_at_call 164;refine HV.out.mono ?_;rintro e w1 ⟨rfl,hb⟩;rw [endV_ok];have H2:=Lib.hid (H1.out.later hb);clear hb)
  | (go_at_call 138;refine (HCK.out _ H2.out.res).mono ?_;rintro e w2 ⟨rfl,hb⟩;have H3:=Lib.hid (H2.out.later hb);clear hb)
  | (go_at_call 168;refine (mustI_ok _ _).mono ?_;rintro e w3 ⟨rfl,hw⟩;subst hw)
  | (clear TK1;go_at_call 169;refine (HC1.out _ H3.out.res).mono ?_;rintro e w4 ⟨rfl,hb⟩;have H4:=Lib.hid (H3.out.later hb);obtain ⟨q0,q1⟩:=cells2 H4.out.b;have y0:=H4.out.b.frozen 0;have y1:=H4.out.b.frozen 1;have ce:=cell0 H4.out.c;have ze:=H4.out.c.frozen 0;obtain ⟨p0,p1⟩:=cells2 H4.out.a;clear hb))
 have hb2:=((H4.out.b.set_ 0 (.string ⟨#[]⟩)).set_ 1 (.string ⟨#[]⟩)).far (p:=⟨w.heap.size+1+1,0,none⟩) (by show w.heap.size+1≠w.heap.size+1+1;omega) (.int .i64 2)
 have hc2:=(H4.out.c.two_far (b:=w.heap.size+1) (x:=.string ⟨#[]⟩) (y:=.string ⟨#[]⟩) (by omega)).set_ 0 (.int .i64 2)
 refine door_ret (v:=resL (.error 2)) (run_cell_errno rfl rfl (load_loss hb2) rfl hc2) ⟨rfl,?_⟩
 exact ((H4.out.below.setCell (Nat.le_succ _) _).setCell (Nat.le_succ _) _).setCell (le2 _) _
theorem late_rng2 (f d u:ByteArray) (w:World) (h1:f.size≤270000) (h2:d.size≤270000) (_h3:u.size≤270000) (hr:Res w) (hL:errL f d=0) (hU:IsT u (valQ u.data.toList)) (c1:¬ cmpQ (valQ u.data.toList) 0 < 0) (c2:cmpQ (valQ u.data.toList) 1 > 0) :
  Calls Tryz.prog 74 #[.agg #[.string f,.string d],.string u] w fun e w'=>e=.returned (resL (.error 2))∧Below w.heap.size w w':=by
 have H0:=At3.new w 63 63 32 #[.string f,.string d] #[.string ⟨#[]⟩,.string ⟨#[]⟩] #[.int .i64 0] hr
 obtain ⟨a1,a2,a3⟩:=at3_row1 H0
 rw [show (((w.alloc (.cells #[.string f,.string d] 63)).alloc (.cells #[.string ⟨#[]⟩,.string ⟨#[]⟩] 63)).alloc (.cells #[.int .i64 0] 32)).heap.size=w.heap.size+1+1+1 by simp] at a2
 have HV:=Lib.hid (valid_run _ _ _ a2 (short_one h1 h2) a3)
 rw [firstL_one] at HV
 have H1:=Lib.hid (H0.later a1)
 rw [hL] at HV
 have HCK:=Lib.hid (fun w hr=>checkT (p:=valQ u.data.toList) w hU hr)
 have HC1:=Lib.hid (fun w hr=>lorder_any w hU IsT.zero hr)
 have HC2:=Lib.hid (fun w hr=>lorder_any w hU IsT.one hr)
 generalize cmpQ (valQ u.data.toList) 0=x1 at *
 generalize cmpQ (valQ u.data.toList) 1=x2 at *
 have g1:decide (x1 < 0)=false:=decide_eq_false c1
 have g2:decide (0 < x2)=true:=decide_eq_true c2
 have TK1:True:=trivial
 clear H0 a1 a2 a3 h1 h2 hr hL hU c1 c2
 go_enter_defers Tryz.func74,Tryz.ntmps74
 go_wp2_with (first
  | (go_at_call 164;refine HV.out.mono ?_;rintro e w1 ⟨rfl,hb⟩;rw [endV_ok];have H2:=Lib.hid (H1.out.later hb);clear hb)
  | (go_at_call 138;refine (HCK.out _ H2.out.res).mono ?_;rintro e w2 ⟨rfl,hb⟩;have H3:=Lib.hid (H2.out.later hb);clear hb)
  | (go_at_call 168;refine (mustI_ok _ _).mono ?_;rintro e w3 ⟨rfl,hw⟩;subst hw)
  | (clear TK1;go_at_call 169;refine (HC1.out _ H3.out.res).mono ?_;rintro e w4 ⟨rfl,hb⟩;have H4:=Lib.hid (H3.out.later hb);clear hb)
  | (go_at_call 169;refine (HC2.out _ H4.out.res).mono ?_;rintro e w5 ⟨rfl,hb⟩;have H5:=Lib.hid (H4.out.later hb);obtain ⟨q0,q1⟩:=cells2 H5.out.b;have y0:=H5.out.b.frozen 0;have y1:=H5.out.b.frozen 1;have ce:=cell0 H5.out.c;have ze:=H5.out.c.frozen 0;obtain ⟨p0,p1⟩:=cells2 H5.out.a;clear hb))
 have hb2:=((H5.out.b.set_ 0 (.string ⟨#[]⟩)).set_ 1 (.string ⟨#[]⟩)).far (p:=⟨w.heap.size+1+1,0,none⟩) (by show w.heap.size+1≠w.heap.size+1+1;omega) (.int .i64 2)
 have hc2:=(H5.out.c.two_far (b:=w.heap.size+1) (x:=.string ⟨#[]⟩) (y:=.string ⟨#[]⟩) (by omega)).set_ 0 (.int .i64 2)
 refine door_ret (v:=resL (.error 2)) (run_cell_errno rfl rfl (load_loss hb2) rfl hc2) ⟨rfl,?_⟩
 exact ((H5.out.below.setCell (Nat.le_succ _) _).setCell (Nat.le_succ _) _).setCell (le2 _) _
theorem late_ok (f d u:ByteArray) (w:World) (h1:f.size≤270000) (h2:d.size≤270000) (_h3:u.size≤270000) (hr:Res w) (l:LQ) (q:Rat) (hl:LossIs f d l) (hU:IsT u q) (c1:¬ cmpQ q 0 < 0) (c2:¬ cmpQ q 1 > 0) (f1:fits (l.1+1)=true) (f2:fits ((l.1+1)*q)=true) (f3:fits (l.2+(l.1+1)*q)=true) :
  Calls Tryz.prog 74 #[.agg #[.string f,.string d],.string u] w fun e w'=>e=.returned (.tuple #[.agg #[.string f,.string (rT (minQ (l.2+(l.1+1)*q) 1))],.int .i64 0])∧Below w.heap.size w w':=by
 have H0:=At3.new w 63 63 32 #[.string f,.string d] #[.string ⟨#[]⟩,.string ⟨#[]⟩] #[.int .i64 0] hr
 obtain ⟨a1,a2,a3⟩:=at3_row1 H0
 rw [show (((w.alloc (.cells #[.string f,.string d] 63)).alloc (.cells #[.string ⟨#[]⟩,.string ⟨#[]⟩] 63)).alloc (.cells #[.int .i64 0] 32)).heap.size=w.heap.size+1+1+1 by simp] at a2
 have HV:=Lib.hid (valid_run _ _ _ a2 (short_one h1 h2) a3)
 rw [firstL_one] at HV
 have H1:=Lib.hid (H0.later a1)
 rw [hl.err] at HV
 have HCK:=Lib.hid (fun w hr=>checkT w hU hr)
 have HC1:=Lib.hid (fun w hr=>lorder_any w hU IsT.zero hr)
 have HC2:=Lib.hid (fun w hr=>lorder_any w hU IsT.one hr)
 have HA1:=Lib.hid (fun w hr=>addT w hl.f IsT.one (isT_rT f1) hr)
 have HM1:=Lib.hid (fun w hr=>mulT w (isT_rT f1) hU (isT_rT f2) hr)
 have HA2:=Lib.hid (fun w hr=>addT w hl.d (isT_rT f2) (isT_rT f3) hr)
 have HLim:=Lib.hid (fun (w:World) hr=>limited_any (f:=f) w (isT_rT f3) hr)
 have hfd:=field_bound
 generalize cmpQ q 0=x1 at *
 generalize cmpQ q 1=x2 at *
 generalize rT (l.1+1)=t1 at *
 generalize rT (minQ (l.2+(l.1+1)*q) 1)=t4 at *
 generalize rT (l.2+(l.1+1)*q)=t3 at *
 generalize rT ((l.1+1)*q)=t2 at *
 have g1:decide (x1 < 0)=false:=decide_eq_false c1
 have g2:decide (0 < x2)=false:=decide_eq_false c2
 have TK1:True:=trivial
 have TK2:True:=trivial
 have TK3:True:=trivial
 clear H0 a1 a2 a3 h1 h2 hr hl hU c1 c2 f1 f2 f3
 refine (callsIn_wide (n:=3)).1 ?_
 have h1:1≤3:=by omega
 have hmx:Tryz.prog.follows .mixedOrders=true:=by kernel_rfl
 refine callsIn_of_wp_defers Tryz.func74 rfl trivial ?_ rfl
 simp only [Tryz.ntmps74,List.size_toArray,List.length_cons,List.length_nil,Nat.reduceAdd,Nat.reduceSub,Array.replicate_succ,Array.replicate_zero,List.push_toArray,List.append_toArray,List.nil_append,List.cons_append]
 gi_upto_region 7 with (first
  | (refine ⟨trivial,?_⟩;gi_at_call 164;refine (callsIn_wide.2 (HV.out)).mono ?_;rintro e w2 ⟨rfl,hb⟩;have H2:=Lib.hid (H1.out.later hb);clear hb)
  | (refine ⟨trivial,?_⟩;gi_at_call 138;refine (callsIn_wide.2 (HCK.out _ H2.out.res)).mono ?_;rintro e w3 ⟨rfl,hb⟩;have H3:=Lib.hid (H2.out.later hb);clear hb)
  | (refine ⟨trivial,?_⟩;gi_at_call 168;refine (callsIn_wide.2 (mustI_ok _ _)).mono ?_;rintro e w9 ⟨rfl,hw⟩;subst hw)
  | (clear TK1;refine ⟨trivial,?_⟩;gi_at_call 169;refine (callsIn_wide.2 (HC1.out _ H3.out.res)).mono ?_;rintro e w4 ⟨rfl,hb⟩;have H4:=Lib.hid (H3.out.later hb);clear hb)
  | (refine ⟨trivial,?_⟩;gi_at_call 169;refine (callsIn_wide.2 (HC2.out _ H4.out.res)).mono ?_;rintro e w5 ⟨rfl,hb⟩;have H5:=Lib.hid (H4.out.later hb);obtain ⟨p0,p1⟩:=cells2 H5.out.a;clear hb)
  | (refine ⟨trivial,?_⟩;gi_at_call 107;refine (callsIn_wide.2 (HA1.out _ H5.out.res)).mono ?_;rintro e w6 ⟨rfl,hb⟩;have H6:=Lib.hid (H5.out.later hb);clear hb)
  | (clear TK2;refine ⟨trivial,?_⟩;gi_at_call 165;refine (callsIn_wide.2 (mustN_ok _ _)).mono ?_;rintro e w8 ⟨rfl,hw⟩;subst hw)
  | (refine ⟨trivial,?_⟩;gi_at_call 130;refine (callsIn_wide.2 (HM1.out _ H6.out.res)).mono ?_;rintro e w7 ⟨rfl,hb⟩;have H7:=Lib.hid (H6.out.later hb);clear hb)
  | (clear TK3;refine ⟨trivial,?_⟩;gi_at_call 165;refine (callsIn_wide.2 (mustN_ok _ _)).mono ?_;rintro e w8 ⟨rfl,hw⟩;subst hw))
 clear p0 p1
 have H:=H7.out
 have hla:=H.a.lt
 obtain ⟨x0,x1⟩:=same_two (S:=fun k=>k < w8.heap.size∧k≠w.heap.size+1∧k≠w.heap.size+1+1) H.a ⟨hla,by omega,by omega⟩
 clear H hla
 have HRD:=Lib.hid (H7.out.res.below (below_drew (Below.refl w8.heap.size w8)))
 refine wpIn_stage (IsSame w8 (fun k=>k < w8.heap.size∧k≠w.heap.size+1∧k≠w.heap.size+1+1)) [0,1,2,3,4,6,7,10] [] hmx (by kernel_rfl) (isSame_of fun _ _=>rfl) ?_
 change wpStage _ _ _ _ _ _ _ _ (8+5) _ _ _
 refine stage_reads [0,1,2,3,4] 8 _ _ (by kernel_rfl) ?_
 change wpQuietIn _ _ _ _ (fun W'=>∃ x:SameAt w8 (fun k=>k < w8.heap.size∧k≠w.heap.size+1∧k≠w.heap.size+1+1),W'=x.W) _ _ _
 simp only [pick_cons,pick_nil,List.getElem?_cons_zero,List.getElem?_cons_succ,Option.elim_some]
 repeat (gi_big_quiet_step (fail))
 refine wpQuietIn_nil ?_
 refine stage_one 5 (by kernel_rfl) rfl ?_
 gi_wp2
 refine ⟨trivial,?_⟩
 refine (callsIn_wide.2 (HA2.out _ HRD.out)).mono ?_
 rintro e w10 ⟨rfl,hb⟩
 have HB1:=Lib.hid (show Below w8.heap.size w8 w10 from below_undrew hb)
 clear hb
 gi_wp2
 refine stage_post (isSame_below HB1.out (fun k hk=>hk.1)) ?_
 change wpStage _ _ _ _ _ _ _ _ (5+2) _ _ _
 refine stage_reads [6,7] 5 _ _ (by kernel_rfl) ?_
 change wpQuietIn _ _ _ _ (fun W'=>∃ x:SameAt w8 (fun k=>k < w8.heap.size∧k≠w.heap.size+1∧k≠w.heap.size+1+1),W'=x.W) _ _ _
 simp only [pick_cons,pick_nil,List.getElem?_cons_zero,List.getElem?_cons_succ,Option.elim_some]
 repeat (gi_big_quiet_step (fail))
 refine wpQuietIn_nil ?_
 refine stage_one 8 (by kernel_rfl) rfl ?_
 gi_wp2
 refine ⟨trivial,?_⟩
 refine (callsIn_wide.2 (mustN_ok _ _)).mono ?_
 rintro e w11 ⟨rfl,hw⟩
 subst hw
 gi_wp2
 refine stage_post (isSame_below HB1.out (fun k hk=>hk.1)) ?_
 refine stage_one 9 (by kernel_rfl) rfl ?_
 gi_wp2
 refine ⟨trivial,?_⟩
 refine (callsIn_wide.2 (HLim.out _ (H7.out.res.below HB1.out))).mono ?_
 rintro e w12 ⟨rfl,hb⟩
 have HB2:=Lib.hid (HB1.out.trans (hb.mono HB1.out.size))
 clear hb
 gi_wp2
 refine stage_post (isSame_below HB2.out (fun k hk=>hk.1)) ?_
 change wpStage _ _ _ _ _ _ _ _ (2+1) _ _ _
 refine stage_reads [10] 2 _ _ (by kernel_rfl) ?_
 change wpQuietIn _ _ _ _ (fun W'=>∃ x:SameAt w8 (fun k=>k < w8.heap.size∧k≠w.heap.size+1∧k≠w.heap.size+1+1),W'=x.W) _ _ _
 simp only [pick_cons,pick_nil,List.getElem?_cons_zero,List.getElem?_cons_succ,Option.elim_some]
 repeat (gi_big_quiet_step (fail))
 refine wpQuietIn_nil ?_
 have H12:=Lib.hid (H7.out.later HB2.out)
 obtain ⟨r0,r1⟩:=cells2 H12.out.b
 have y0:=H12.out.b.frozen 0
 have y1:=H12.out.b.frozen 1
 have ce:=cell0 H12.out.c
 have ze:=H12.out.c.frozen 0
 refine stage_one 11 (by kernel_rfl) rfl ?_
 gi_wp2
 refine stage_post (isSame_of fun k hk=>(set2_heap hk.2.1).trans (HB2.out.block k hk.1)) ?_
 refine stage_one 12 (by kernel_rfl) rfl ?_
 gi_wp2
 refine stage_post (isSame_of fun k hk=>(Below.heap_setCell _ ⟨w.heap.size+1+1,0,none⟩ _ _ hk.2.2).trans ((set2_heap hk.2.1).trans (HB2.out.block k hk.1))) ?_
 refine stage_done (by kernel_rfl) ?_
 gi_wp2
 have hb2:=(H12.out.b.two_set (x:=.string f) (y:=.string t4)).far (p:=⟨w.heap.size+1+1,0,none⟩) (by show w.heap.size+1≠w.heap.size+1+1;omega) (.int .i64 0)
 have hc2:=(H12.out.c.two_far (b:=w.heap.size+1) (x:=.string f) (y:=.string t4) (by omega)).set_ 0 (.int .i64 0)
 refine door_retI (v:=.tuple #[.agg #[.string f,.string t4],.int .i64 0]) (run_cell_errno rfl rfl (load_loss hb2) rfl hc2) ⟨rfl,?_⟩
 exact ((H12.out.below.setCell (Nat.le_succ _) _).setCell (Nat.le_succ _) _).setCell (le2 _) _
theorem lossLate_any (f d u:ByteArray) (w:World) (h1:f.size≤270000) (h2:d.size≤270000) (h3:u.size≤270000) (hr:Res w) (hfit:errL f d=0→errQ u.data.toList=0→fits ((valL (f,d)).1+1)=true∧fits (((valL (f,d)).1+1)*valQ u.data.toList)=true∧fits ((valL (f,d)).2+((valL (f,d)).1+1)*valQ u.data.toList)=true) :
  Calls Tryz.prog 74 #[.agg #[.string f,.string d],.string u] w fun e w'=>e=.returned (resL (lateR f d u))∧Below w.heap.size w w':=by
 unfold lateR
 by_cases hL:errL f d=0
 ·rw [if_neg (by omega)]
  by_cases hU:errQ u.data.toList=0
  ·rw [if_neg (by omega)]
   by_cases c1:cmpQ (valQ u.data.toList) 0 < 0
   ·rw [if_pos (.inl c1)];exact late_rng1 f d u w h1 h2 h3 hr hL (IsT.of hU) c1
   by_cases c2:cmpQ (valQ u.data.toList) 1 > 0
   ·rw [if_pos (.inr c2)];exact late_rng2 f d u w h1 h2 h3 hr hL (IsT.of hU) c1 c2
   rw [if_neg (by omega)]
   obtain ⟨f1,f2,f3⟩:=hfit hL hU
   have hl:=errL_zero hL
   have hx:=late_ok f d u w h1 h2 h3 hr (valL (f,d)) _ hl (IsT.of hU) c1 c2 f1 f2 f3
   have e:resL (lateL (valL (f,d)) (valQ u.data.toList))=.tuple #[.agg #[.string f,.string (rT (minQ ((valL (f,d)).2+((valL (f,d)).1+1)*valQ u.data.toList) 1))],.int .i64 0]:=by
    have hf:f=rT (valL (f,d)).1:=hl.f.text
    unfold lateL
    rw [ovr_ok f1]
    dsimp only
    rw [ovr_ok f2]
    dsimp only
    rw [ovr_ok f3]
    show Value.tuple #[lossT _,_]=_
    unfold lossT
    dsimp only
    rw [← hf]
   rw [e]
   exact hx
  ·rw [if_pos hU];exact late_err2 f d u w h1 h2 h3 hr hL hU
 ·rw [if_pos hL];exact late_err1 f d u w h1 h2 h3 hr hL
theorem valL_is {f d:ByteArray} {l:LQ} (h:LossIs f d l):valL (f,d)=l:=by
 unfold valL
 rw [h.f.val,h.d.val]
theorem firstL_is {f d f' d':ByteArray} {a b:LQ} (ha:LossIs f d a) (hb:LossIs f' d' b):firstL [(f,d),(f',d')]=0:=by
 rw [firstL_two];dsimp only;rw [ha.err,hb.err];rfl
theorem addX {f d f' d' x y:ByteArray} {a b:LQ} (ha:LossIs f d a) (hb:LossIs f' d' b) (hx:IsT x (a.1*b.1)) (h2:fits (a.2+b.2)=true) (hy:IsT y (minQ (a.2+b.2) 1)) :
  resL (foldR plusL [(f,d),(f',d')])=.tuple #[.agg #[.string x,.string y],.int .i64 0]:=by
 rw [foldR_two (fun a ha=>plusL_none ha) (firstL_is ha hb),valL_is ha,valL_is hb,plusL_ok hx.fits h2]
 unfold resL lossT
 dsimp only
 rw [← hx.text,← hy.text]
theorem groupX {f d x y:ByteArray} {l:LQ} {k:Nat} {p s:Rat} (hl:LossIs f d l) (hk:k≤50) (hp:powsum l.1 k=.ok (p,s)) (hx:IsT x p) (h2:fits (l.2*s)=true) (hy:IsT y (minQ (l.2*s) 1)) :
  resL (groupR f d (k:Int))=.tuple #[.agg #[.string x,.string y],.int .i64 0]:=by
 unfold groupR
 rw [if_neg (by rw [hl.err];decide),if_neg (by omega),valL_is hl,Int.toNat_natCast]
 unfold groupL
 rw [hp]
 dsimp only
 rw [ovr_ok h2]
 unfold resL lossT
 dsimp only
 rw [← hx.text,← hy.text]
theorem lateX {f d u x:ByteArray} {l:LQ} {q:Rat} (hl:LossIs f d l) (hu:IsT u q) (h0:0≤q) (h1:q≤1) (f1:fits (l.1+1)=true) (f2:fits ((l.1+1)*q)=true) (f3:fits (l.2+(l.1+1)*q)=true) (hx:IsT x (minQ (l.2+(l.1+1)*q) 1)) :
  resL (lateR f d u)=.tuple #[.agg #[.string f,.string x],.int .i64 0]:=by
 unfold lateR
 rw [if_neg (by rw [hl.err];decide),if_neg (by rw [hu.err];decide),hu.val,if_neg,valL_is hl]
 ·unfold lateL
  rw [ovr_ok f1]
  dsimp only
  rw [ovr_ok f2]
  dsimp only
  rw [ovr_ok f3]
  unfold resL lossT
  dsimp only
  rw [← hx.text,← hl.f.text]
 ·rw [cmpQ_lt,cmpQ_gt]
  intro h
  rcases h with h|h<;>grind
theorem exa:LossIs ⟨#[51,47,50]⟩ ⟨#[49,47,49,48]⟩ (3/2,1/10):=⟨t_3_2,t_1_10,by decide +kernel,by decide +kernel,by decide +kernel⟩
theorem t_2:IsT ⟨#[50]⟩ 2:=(isT_lit false [50] [49] (by decide +kernel)).1
theorem exb:LossIs ⟨#[50]⟩ ⟨#[48]⟩ (2,0):=⟨t_2,IsT.zero,by decide +kernel,by decide +kernel,by decide +kernel⟩
theorem ex_add:resL (foldR plusL [(⟨#[51,47,50]⟩,⟨#[49,47,49,48]⟩),(⟨#[50]⟩,⟨#[48]⟩)])=.tuple #[.agg #[.string ⟨#[51]⟩,.string ⟨#[49,47,49,48]⟩],.int .i64 0] :=
 addX exa exb (by rw [show ((3/2,1/10):LQ).1*((2,0):LQ).1=3 by decide +kernel];exact (isT_lit false [51] [49] (by decide +kernel)).1)
  (fits_lit (by decide +kernel)) (by rw [show minQ (((3/2,1/10):LQ).2+((2,0):LQ).2) 1=1/10 by decide +kernel];exact t_1_10)
theorem pow2:powsum (3/2) 2=.ok (9/4,5/2):=by
 have h0:powsum (3/2) 0=.ok (1,0):=rfl
 have h1:=powsum_ok (p:=1) (s:=0) h0 (fits_lit (by decide +kernel)) (fits_lit (by decide +kernel))
 have h2:=powsum_ok h1 (fits_lit (by decide +kernel)) (fits_lit (by decide +kernel))
 rw [show (1*(3/2)*(3/2):Rat)=9/4 by decide +kernel,show (0+1+1*(3/2):Rat)=5/2 by decide +kernel] at h2
 exact h2
theorem ex_group:resL (groupR ⟨#[51,47,50]⟩ ⟨#[49,47,49,48]⟩ 2)=.tuple #[.agg #[.string ⟨#[57,47,52]⟩,.string ⟨#[49,47,52]⟩],.int .i64 0] :=
 groupX (k:=2) exa (by decide) pow2 (isT_lit false [57] [52] (by decide +kernel)).1 (fits_lit (by decide +kernel))
  (by rw [show minQ (((3/2,1/10):LQ).2*(5/2)) 1=1/4 by decide +kernel];exact (isT_lit false [49] [52] (by decide +kernel)).1)
theorem t_1_100:IsT ⟨#[49,47,49,48,48]⟩ (1/100):=(isT_lit false [49] [49,48,48] (by decide +kernel)).1
theorem ex_late:resL (lateR ⟨#[50]⟩ ⟨#[48]⟩ ⟨#[49,47,49,48,48]⟩)=.tuple #[.agg #[.string ⟨#[50]⟩,.string ⟨#[51,47,49,48,48]⟩],.int .i64 0] :=
 lateX exb t_1_100 (by decide +kernel) (by decide +kernel) (fits_lit (by decide +kernel)) (fits_lit (by decide +kernel)) (fits_lit (by decide +kernel))
  (by rw [show minQ (((2,0):LQ).2+(((2,0):LQ).1+1)*(1/100)) 1=3/100 by decide +kernel];exact (isT_lit false [51] [49,48,48] (by decide +kernel)).1)
def Held (W:World) (L:List (Nat × ByteArray × ByteArray)):Prop:=∀ x∈L,Blk W x.1 63 #[.string x.2.1,.string x.2.2]
theorem Held.later {W W':World} {L:List (Nat × ByteArray × ByteArray)} (h:Held W L) (hb:Below W.heap.size W W'):Held W' L:=fun x hx=>(h x hx).below hb (h x hx).lt
theorem Held.push {W:World} {L:List (Nat × ByteArray × ByteArray)} (h:Held W L) (x y:ByteArray):Held (W.alloc (.cells #[.string x,.string y] 63)) ((W.heap.size,x,y)::L):=by
 intro z hz
 rcases List.mem_cons.1 hz with rfl|hz
 ·exact Blk.new W _ _
 ·exact (h z hz).alloc _
theorem Held.at {W:World} {L:List (Nat × ByteArray × ByteArray)} (h:Held W L) {b:Nat} {x y:ByteArray} (hm:(b,x,y)∈L):W.cell? ⟨b,0,none⟩=some (.string x)∧W.cell? ⟨b,1,none⟩=some (.string y)∧b < W.heap.size :=
 ⟨(cells2 (h _ hm)).1,(cells2 (h _ hm)).2,(h _ hm).lt⟩
theorem llives_any (w:World) (hr:Res w):Calls Tryz.prog 65 #[] w fun e w'=>e=.returned (.bool true)∧Below w.heap.size w w':=by
 have H0:=At2.new w 63 63 #[.string ⟨#[51,47,50]⟩,.string ⟨#[49,47,49,48]⟩] #[.string ⟨#[50]⟩,.string ⟨#[48]⟩] hr
 have D0:=Lib.hid (show Held ((w.alloc (.cells #[.string ⟨#[51,47,50]⟩,.string ⟨#[49,47,49,48]⟩] 63)).alloc (.cells #[.string ⟨#[50]⟩,.string ⟨#[48]⟩] 63)) [(w.heap.size,⟨#[51,47,50]⟩,⟨#[49,47,49,48]⟩),(w.heap.size+1,⟨#[50]⟩,⟨#[48]⟩)] from by
  intro x hx
  simp only [List.mem_cons,List.not_mem_nil,or_false] at hx
  rcases hx with rfl|rfl
  ·exact H0.a
  ·exact H0.b)
 have B0:=Lib.hid H0.below
 have R0:=Lib.hid H0.res
 have HA:=Lib.hid (fun (w:World) hr=>lossAdd_any ⟨#[51,47,50]⟩ ⟨#[49,47,49,48]⟩ ⟨#[50]⟩ ⟨#[48]⟩ w (by decide) (by decide) (by decide) (by decide) hr)
 have HG:=Lib.hid (fun (w:World) hr=>lossGroup_any ⟨#[51,47,50]⟩ ⟨#[49,47,49,48]⟩ 2 w (by decide) (by decide) hr)
 have HT:=Lib.hid (fun (w:World) hr=>lossLate_any ⟨#[50]⟩ ⟨#[48]⟩ ⟨#[49,47,49,48,48]⟩ w (by decide) (by decide) (by decide) hr (fun _ _=>by rw [valL_is exb,t_1_100.val];exact ⟨fits_lit (by decide +kernel),fits_lit (by decide +kernel),fits_lit (by decide +kernel)⟩))
 rw [ex_add] at HA
 rw [ex_group] at HG
 rw [ex_late] at HT
 clear H0 hr
 go_enter Tryz.func65,Tryz.ntmps65
 go_wp2_with (first
  | (go_at_call 69;refine (HA.out _ R0.out).mono ?_;rintro e w1 ⟨rfl,hb⟩;have D1:=Lib.hid (D0.out.later hb);have B1:=Lib.hid (B0.out.trans (hb.mono B0.out.size));have R1:=Lib.hid (R0.out.below hb);obtain ⟨c1_0a,c1_0b,c1_0l⟩:=D1.out.at (b:=w.heap.size) (x:=⟨#[51,47,50]⟩) (y:=⟨#[49,47,49,48]⟩) (by simp);obtain ⟨c1_1a,c1_1b,c1_1l⟩:=D1.out.at (b:=w.heap.size+1) (x:=⟨#[50]⟩) (y:=⟨#[48]⟩) (by simp);clear hb)
  | (go_at_call 71;refine (HG.out _ (R1.out.below (below_alloc (Below.refl _ _) _))).mono ?_;rintro e w2 ⟨rfl,hb⟩;have D2:=Lib.hid (Held.later (D1.out.push ⟨#[51]⟩ ⟨#[49,47,49,48]⟩) hb);have B2:=Lib.hid ((below_alloc B1.out (.cells #[.string ⟨#[51]⟩,.string ⟨#[49,47,49,48]⟩] 63)).trans (hb.mono (below_alloc B1.out (.cells #[.string ⟨#[51]⟩,.string ⟨#[49,47,49,48]⟩] 63)).size));have R2:=Lib.hid (Res.below ((R1.out.below (below_alloc (Below.refl _ _) (.cells #[.string ⟨#[51]⟩,.string ⟨#[49,47,49,48]⟩] 63)))) hb);obtain ⟨c2_0a,c2_0b,c2_0l⟩:=D2.out.at (b:=w.heap.size) (x:=⟨#[51,47,50]⟩) (y:=⟨#[49,47,49,48]⟩) (by simp);obtain ⟨c2_1a,c2_1b,c2_1l⟩:=D2.out.at (b:=w.heap.size+1) (x:=⟨#[50]⟩) (y:=⟨#[48]⟩) (by simp);obtain ⟨c2_2a,c2_2b,c2_2l⟩:=D2.out.at (b:=w1.heap.size) (x:=⟨#[51]⟩) (y:=⟨#[49,47,49,48]⟩) (by simp);clear hb)
  | (go_at_call 74;refine (HT.out _ (R2.out.below (below_alloc (Below.refl _ _) _))).mono ?_;rintro e w3 ⟨rfl,hb⟩;have D3:=Lib.hid (Held.later (D2.out.push ⟨#[57,47,52]⟩ ⟨#[49,47,52]⟩) hb);have B3:=Lib.hid ((below_alloc B2.out (.cells #[.string ⟨#[57,47,52]⟩,.string ⟨#[49,47,52]⟩] 63)).trans (hb.mono (below_alloc B2.out (.cells #[.string ⟨#[57,47,52]⟩,.string ⟨#[49,47,52]⟩] 63)).size));have R3:=Lib.hid (Res.below ((R2.out.below (below_alloc (Below.refl _ _) (.cells #[.string ⟨#[57,47,52]⟩,.string ⟨#[49,47,52]⟩] 63)))) hb);obtain ⟨c3_0a,c3_0b,c3_0l⟩:=D3.out.at (b:=w.heap.size) (x:=⟨#[51,47,50]⟩) (y:=⟨#[49,47,49,48]⟩) (by simp);obtain ⟨c3_1a,c3_1b,c3_1l⟩:=D3.out.at (b:=w.heap.size+1) (x:=⟨#[50]⟩) (y:=⟨#[48]⟩) (by simp);obtain ⟨c3_2a,c3_2b,c3_2l⟩:=D3.out.at (b:=w1.heap.size) (x:=⟨#[51]⟩) (y:=⟨#[49,47,49,48]⟩) (by simp);obtain ⟨c3_3a,c3_3b,c3_3l⟩:=D3.out.at (b:=w2.heap.size) (x:=⟨#[57,47,52]⟩) (y:=⟨#[49,47,52]⟩) (by simp);clear hb))
 go_ret
 exact ⟨rfl,below_alloc B3.out _⟩
end Go.Proofs.YtigapglmipmbeaaGreatDoor
namespace Go.Proofs.YtigapglmipmbeaaGreatDoor
open Go.RowKit Go.Shelf
open Lim
attribute [local go_sem] Oper.semAt_some
theorem alphaV_tup (s:Int) (f:ByteArray):∃ (t:ByteArray) (k:Int),alphaV s f=.tuple #[.string t,.int .i64 k]:=by
 unfold alphaV
 split
 ·exact ⟨_,_,rfl⟩
 ·split<;>exact ⟨_,_,rfl⟩
theorem betaV_tup (s:Int) (f:ByteArray):∃ (t:ByteArray) (k:Int),betaV s f=.tuple #[.string t,.int .i64 k]:=by
 unfold betaV
 split<;>exact ⟨_,_,rfl⟩
theorem halfV_tup (f:ByteArray):∃ (t:ByteArray) (k:Int),halfV f=.tuple #[.string t,.int .i64 k]:=by
 unfold halfV
 split<;>exact ⟨_,_,rfl⟩
theorem resB_tup (r:Except Nat Bool):∃ (b:Bool) (k:Int),resB r=.tuple #[.bool b,.int .i64 k]:=by
 cases r<;>exact ⟨_,_,rfl⟩
theorem lossRests_any (l p q:List L2) (vl vp vq:Value) (s:Int) (f:ByteArray) (w:World) (hl:LRowW w vl l) (hp:LRowW w vp p) (hq:LRowW w vq q) (hs0:-9223372036854775808≤s) (hs1:s≤9223372036854775807) (_hf:f.size≤maxLen) (hr:Res w) :
  Calls Tryz.prog 11 #[vl,vp,vq,.int .i64 s,.string f] w fun e w'=>e=.returned (.bool true)∧Below w.heap.size w w':=by
 have N0:=Lib.hid (NW.refl hr)
 have HLV:=Lib.hid (fun (w:World) hr=>llives_any w hr)
 have HFW:=Lib.hid (fun (W:World) (hW:NW w W)=>few9_any [p,q] (.slice (some ⟨W.heap.size,0,none⟩) 2 2) (W.alloc (.cells #[vp,vq] 22))
  (LLRow.ofBlk (vs:=[(vp,p),(vq,q)]) (Blk.new W 22 #[vp,vq]) rfl (by simp) (fun x hx=>by
   have hbw:=below_alloc hW.below (.cells #[vp,vq] 22)
   simp only [List.mem_cons,List.not_mem_nil,or_false] at hx
   rcases hx with rfl|rfl
   ·exact hp.below hbw
   ·exact hq.below hbw)))
 obtain ⟨A,c,rfl,hll,_⟩:=id hl
 obtain ⟨A',c',rfl,_,_⟩:=id hp
 obtain ⟨A'',c'',rfl,_,_⟩:=id hq
 unfold maxLen at hll _hf
 have HP:=Lib.hid hp
 have HQ:=Lib.hid hq
 have HLL:=Lib.hid hl
 clear hl hp hq hr
 have TK0:True:=trivial
 have TK1:True:=trivial
 have TK2:True:=trivial
 by_cases h8:l.length≤8
 ·have d8:decide (8 < (l.length:Int))=false:=decide_eq_false (by omega)
  have d8n:decide (8 < l.length)=false:=decide_eq_false (by omega)
  have rl:=fun (W:World) (hW:NW w W)=>(HLL.out.below hW.below).row (by omega)
  have HLI:=Lib.hid (fun (W:World) (hW:NW w W)=>lightL9_any l _ W (rl W hW))
  cases hli:lightS l with
  | false =>
   rw [hli] at HLI
   clear hli rl h8
   go_enter Tryz.func11,Tryz.ntmps11
   go_wp2_with ((clear TK0;go_at_call 65;refine (HLV.out _ N0.out.res).mono ?_;rintro e w1 ⟨rfl,hb⟩;have N1:=Lib.hid (N0.out.later hb);clear hb))
   go_wp2_with ((clear TK1;go_at_call 75;refine (HLI.out _ N1.out).mono ?_;rintro e w2 ⟨rfl,hw⟩;have N2:=Lib.hid (show NW w w2 by rw [hw];exact N1.out);clear hw))
   go_wp2
   go_ret
   exact ⟨rfl,N2.out.below⟩
  | true =>
   rw [hli] at HLI
   cases hfw:lightsD 12 12 24 [p,q] with
   | false =>
    rw [hfw] at HFW
    clear hli rl h8 hfw
    go_enter Tryz.func11,Tryz.ntmps11
    go_wp2_with ((clear TK0;go_at_call 65;refine (HLV.out _ N0.out.res).mono ?_;rintro e w1 ⟨rfl,hb⟩;have N1:=Lib.hid (N0.out.later hb);clear hb))
    go_wp2_with ((clear TK1;go_at_call 75;refine (HLI.out _ N1.out).mono ?_;rintro e w2 ⟨rfl,hw⟩;have N2:=Lib.hid (show NW w w2 by rw [hw];exact N1.out);clear hw))
    go_wp2_with ((clear TK2;go_at_call 76;refine (HFW.out _ N2.out).mono ?_;rintro e w3 ⟨rfl,hw⟩;have N3:=Lib.hid (show NW w w3 by rw [hw];exact N2.out.alloc _);clear hw))
    go_wp2
    go_ret
    exact ⟨rfl,N3.out.below⟩
   | true =>
    rw [hfw] at HFW
    by_cases h100:f.size≤100
    ·have t1:decide (100 < (f.size:Int))=false:=decide_eq_false (by omega)
     have t1n:decide (100 < f.size)=false:=decide_eq_false (by omega)
     have hall:∀ ls∈[p,q],ls.length≤12∧∀ x∈ls,x.1.size≤12∧x.2.size≤24:=fun ls h=>lightD_iff.1 (List.all_eq_true.1 hfw ls h)
     obtain ⟨lp,sp⟩:=hall p (by simp)
     obtain ⟨lq,sq⟩:=hall q (by simp)
     have shp:Short p:=fun x hx=>⟨Nat.le_trans (sp x hx).1 (by omega),Nat.le_trans (sp x hx).2 (by omega)⟩
     have shq:Short q:=fun x hx=>⟨Nat.le_trans (sq x hx).1 (by omega),Nat.le_trans (sq x hx).2 (by omega)⟩
     have hls:=lightS_iff.1 hli
     have shl:Short l:=fun x hx=>⟨Nat.le_trans (hls x hx).1 (by omega),Nat.le_trans (hls x hx).2 (by omega)⟩
     have rp:=fun (W:World) (hW:NW w W)=>(HP.out.below hW.below).row (by omega)
     have rq:=fun (W:World) (hW:NW w W)=>(HQ.out.below hW.below).row (by omega)
     have HRL:=Lib.hid (rl w N0.out)
     have HSL:=Lib.hid shl
     have HOW:=Lib.hid (fun W (hW:NW w W)=>ownL_any l _ W (rl W hW) hW.res)
     have HSM:=Lib.hid (fun u W (hu:LRow W u l) (hW:NW w W)=>lossSum_any l u W hu shl hW.res)
     have HSR:=Lib.hid (fun W (hW:NW w W)=>refLossSum_any l _ W (rl W hW) shl hW.res)
     have HA1:=Lib.hid (fun W (hW:NW w W)=>lossAlpha_any W s h100 hW.res)
     have HA2:=Lib.hid (fun W (hW:NW w W)=>ralpha_any s f W hs0 hs1 h100 hW.res)
     have HB1:=Lib.hid (fun W (hW:NW w W)=>lossBeta_any W s h100 hW.res)
     have HB2:=Lib.hid (fun W (hW:NW w W)=>rbeta_any s f W hs0 hs1 h100 hW.res)
     have HH1:=Lib.hid (fun W (hW:NW w W)=>lossHalf_any W h100 hW.res)
     have HH2:=Lib.hid (fun W (hW:NW w W)=>rhalf_any f W h100 hW.res)
     have HO1:=Lib.hid (fun x (hx:x∈l) W (hW:NW w W)=>lossHolds_any x.1 x.2 p q _ _ W (rp W hW) (rq W hW) shp shq (shl x hx).1 (shl x hx).2 hW.res)
     have HO2:=Lib.hid (fun x (hx:x∈l) W (hW:NW w W)=>refLossHolds_any x.1 x.2 p q _ _ W (rp W hW) (rq W hW) shp shq (shl x hx).1 (shl x hx).2 hW.res)
     obtain ⟨x0,x1,xn,e0⟩:=resL_shape (foldR plusL l)
     obtain ⟨a0,an,e1⟩:=alphaV_tup s f
     obtain ⟨b0,bn,e2⟩:=betaV_tup s f
     obtain ⟨g0,gn,e3⟩:=halfV_tup f
     rw [e0] at HSM HSR
     rw [e1] at HA1 HA2
     rw [e2] at HB1 HB2
     rw [e3] at HH1 HH2
     clear e0 e1 e2 e3 hli hfw h100 hall lp sp lq sq shp shq hls shl rp rq rl h8
     go_enter Tryz.func11,Tryz.ntmps11
     go_wp2_with ((clear TK0;go_at_call 65;refine (HLV.out _ N0.out.res).mono ?_;rintro e w1 ⟨rfl,hb⟩;have N1:=Lib.hid (N0.out.later hb);clear hb))
     go_wp2_with ((clear TK1;go_at_call 75;refine (HLI.out _ N1.out).mono ?_;rintro e w2 ⟨rfl,hw⟩;have N2:=Lib.hid (show NW w w2 by rw [hw];exact N1.out);clear hw))
     go_wp2_with ((clear TK2;go_at_call 76;refine (HFW.out _ N2.out).mono ?_;rintro e w3 ⟨rfl,hw⟩;have N3:=Lib.hid (show NW w w3 by rw [hw];exact N2.out.alloc _);clear hw))
     go_wp2_with ((go_at_call 78;refine (HOW.out _ N3.out).mono ?_;rintro e w4 ⟨⟨u,rfl,ho⟩,hb⟩;have XU:=Lib.hid (ho);obtain ⟨AU,cU,rfl,_,_⟩:=ho;have N4:=Lib.hid (N3.out.later hb);clear hb))
     go_wp2_with ((go_at_call 77;refine (HSM.out _ _ XU.out N4.out).mono ?_;rintro e w5 ⟨rfl,hb⟩;have N5:=Lib.hid (N4.out.later hb);clear hb))
     have K1:=Lib.hid (Blk.new w5 63 #[.string x0,.string x1])
     have M1:=Lib.hid (N5.out.alloc (.cells #[.string x0,.string x1] 63))
     generalize w5.heap.size=r1 at *
     generalize w5.alloc (.cells #[.string x0,.string x1] 63)=wA at *
     go_wp2_with ((go_at_call 79;refine (HSR.out _ M1.out).mono ?_;rintro e wB ⟨rfl,hb⟩;have M2:=Lib.hid (M1.out.later hb);have K1:=Lib.hid (K1.out.below hb K1.out.lt);clear hb))
     have K2:=Lib.hid (Blk.new wB 63 #[.string x0,.string x1])
     have K1:=Lib.hid (K1.out.alloc (.cells #[.string x0,.string x1] 63))
     have N6:=Lib.hid (M2.out.alloc (.cells #[.string x0,.string x1] 63))
     generalize wB.heap.size=r2 at *
     generalize wB.alloc (.cells #[.string x0,.string x1] 63)=w6 at *
     go_wp2_with ((go_at_call 80;refine (HA1.out _ N6.out).mono ?_;rintro e w7 ⟨rfl,hb⟩;have K1:=Lib.hid (K1.out.below hb K1.out.lt);have K2:=Lib.hid (K2.out.below hb K2.out.lt);have N7:=Lib.hid (N6.out.later hb);clear hb))
     go_wp2_with ((go_at_call 81;refine (HA2.out _ N7.out).mono ?_;rintro e w8 ⟨rfl,hb⟩;have K1:=Lib.hid (K1.out.below hb K1.out.lt);have K2:=Lib.hid (K2.out.below hb K2.out.lt);have N8:=Lib.hid (N7.out.later hb);clear hb))
     go_wp2_with ((go_at_call 82;refine (HB1.out _ N8.out).mono ?_;rintro e w9 ⟨rfl,hb⟩;have K1:=Lib.hid (K1.out.below hb K1.out.lt);have K2:=Lib.hid (K2.out.below hb K2.out.lt);have N9:=Lib.hid (N8.out.later hb);clear hb))
     go_wp2_with ((go_at_call 83;refine (HB2.out _ N9.out).mono ?_;rintro e w10 ⟨rfl,hb⟩;have K1:=Lib.hid (K1.out.below hb K1.out.lt);have K2:=Lib.hid (K2.out.below hb K2.out.lt);have N10:=Lib.hid (N9.out.later hb);clear hb))
     go_wp2_with ((go_at_call 84;refine (HH1.out _ N10.out).mono ?_;rintro e w11 ⟨rfl,hb⟩;have K1:=Lib.hid (K1.out.below hb K1.out.lt);have K2:=Lib.hid (K2.out.below hb K2.out.lt);have N11:=Lib.hid (N10.out.later hb);clear hb))
     go_wp2_with ((go_at_call 85;refine (HH2.out _ N11.out).mono ?_;rintro e w12 ⟨rfl,hb⟩;have K1:=Lib.hid (K1.out.below hb K1.out.lt);have K2:=Lib.hid (K2.out.below hb K2.out.lt);obtain ⟨p0,p1⟩:=cells2 K1.out;obtain ⟨p2,p3⟩:=cells2 K2.out;have N12:=Lib.hid (N11.out.later hb);clear hb))
     clear p0 p1 p2 p3 K1 K2
     go_loopw [27] (fun v27 wr=>∃ k:Nat,k≤l.length∧v27=.int .i64 (k:Int)∧Hid (NW w wr)) (fun v27 _=>l.length - (intOf v27).toNat)
     case atStart=>exact ⟨0,Nat.zero_le _,rfl,N12⟩
     case round =>
      clear N12
      obtain ⟨k,hk,rfl,HN⟩:=hrel
      by_cases hlt:k < l.length
      ·obtain ⟨x,hx⟩:∃ x,l[k]?=some x:=⟨_,List.getElem?_eq_getElem hlt⟩
       obtain ⟨b1,o1,c1',e1,hb1,q0,q1⟩:=HRL.out.at HN.out.below hx
       simp only [Value.slice.injEq,true_and] at e1
       obtain ⟨rfl,rfl⟩:=e1
       have hlt':(k:Int) < (l.length:Int):=by omega
       have HX:=Lib.hid (And.intro hx hlt)
       have HC1:=Lib.hid (HO1.out x (List.mem_of_getElem? hx))
       have HC2:=Lib.hid (HO2.out x (List.mem_of_getElem? hx))
       obtain ⟨bo,bk,er⟩:=resB_tup (holdsR x.1 x.2 p q)
       rw [er] at HC1 HC2
       obtain ⟨xf,xd⟩:=x
       dsimp only at q0 q1 HC1 HC2
       clear hx hlt er
       go_wp2_with ((go_at_call 86;refine (HC1.out _ HN.out).mono ?_;clear q0 q1;rintro e w9 ⟨rfl,hb⟩;have M1:=Lib.hid (HN.out.later hb);obtain ⟨_,q0,q1⟩:=HRL.out.cell2 M1.out.below HX.out.1;dsimp only at q0 q1;clear hb))
       go_wp2_with ((go_at_call 55;refine (HC2.out _ M1.out).mono ?_;clear q0 q1;rintro e wA ⟨rfl,hb⟩;have M2:=Lib.hid (M1.out.later hb);clear hb))
       go_roundw
       case rel=>exact ⟨k+1,HX.out.2,by go_num,M2⟩
       case measure=>have:=HX.out.2;simp [intOf];omega
      ·have hlt':¬ (k:Int) < (l.length:Int):=by omega
       clear hlt
       go_wp2
       go_ret
       exact ⟨rfl,HN.out.below⟩
    ·have t1:decide (100 < (f.size:Int))=true:=decide_eq_true (by omega)
     have t1n:decide (100 < f.size)=true:=decide_eq_true (by omega)
     clear hli rl h8 hfw h100
     go_enter Tryz.func11,Tryz.ntmps11
     go_wp2_with ((clear TK0;go_at_call 65;refine (HLV.out _ N0.out.res).mono ?_;rintro e w1 ⟨rfl,hb⟩;have N1:=Lib.hid (N0.out.later hb);clear hb))
     go_wp2_with ((clear TK1;go_at_call 75;refine (HLI.out _ N1.out).mono ?_;rintro e w2 ⟨rfl,hw⟩;have N2:=Lib.hid (show NW w w2 by rw [hw];exact N1.out);clear hw))
     go_wp2_with ((clear TK2;go_at_call 76;refine (HFW.out _ N2.out).mono ?_;rintro e w3 ⟨rfl,hw⟩;have N3:=Lib.hid (show NW w w3 by rw [hw];exact N2.out.alloc _);clear hw))
     go_wp2
     go_ret
     exact ⟨rfl,N3.out.below⟩
 ·have d8:decide (8 < (l.length:Int))=true:=decide_eq_true (by omega)
  have d8n:decide (8 < l.length)=true:=decide_eq_true (by omega)
  clear h8
  go_enter Tryz.func11,Tryz.ntmps11
  go_wp2_with ((clear TK0;go_at_call 65;refine (HLV.out _ N0.out.res).mono ?_;rintro e w1 ⟨rfl,hb⟩;have N1:=Lib.hid (N0.out.later hb);clear hb))
  go_wp2
  go_ret
  exact ⟨rfl,N1.out.below⟩
end Go.Proofs.YtigapglmipmbeaaGreatDoor
namespace Go.Proofs.YtigapglmipmbeaaGreatDoor
open Go.ChangeShapes Go.WideShapes Go.ChangeAt Go.RowKit
section
variable {H:Type} {enc:TypeId × Value→H}
end
end Go.Proofs.YtigapglmipmbeaaGreatDoor
namespace Go.Proofs.YtigapglmipmbeaaGreatDoor
open Go.RowKit
structure Kind (α:Type) where
 ty:TypeId
 k:Nat
 is:(C:TypeId→Nat→Prop)→World→List Value→α→Prop
 inner:List TypeId
 len:∀ {C w l x},is C w l x→l.length=k
 keep:∀ {C C':TypeId→Nat→Prop} {w w':World} {l x},is C w l x→(∀ E b,E∈inner→b < w.heap.size→C E b→C' E b∧w'.heap[b]?=w.heap[b]?)→is C' w' l x
def SRow {α:Type} (K:Kind α) (C:TypeId→Nat→Prop) (w:World) (v:Value) (xs:List α):Prop :=
 ∃ A c,v=.slice A xs.length c∧xs.length≤c∧c≤maxLen∧(0 < xs.length→∃ b o,A=some ⟨b,o,none⟩∧C K.ty b∧b < w.heap.size ∧
  ∀ (j:Nat) (x:α),xs[j]?=some x→∃ l,K.is C w l x∧∀ (i:Nat) (u:Value),l[i]?=some u→w.cell? ⟨b,o+j*K.k+i,none⟩=some u)
section
variable {α:Type} {K:Kind α} {C C':TypeId→Nat→Prop} {w w':World} {v:Value} {xs:List α}
theorem SRow.keep (h:SRow K C w v xs) (hk:∀ E b,E∈K.ty::K.inner→b < w.heap.size→C E b→C' E b∧w'.heap[b]?=w.heap[b]?):SRow K C' w' v xs:=by
 obtain ⟨A,c,e,h1,h2,h3⟩:=h
 refine ⟨A,c,e,h1,h2,fun h0=>?_⟩
 obtain ⟨b,o,eA,hC,hb,hx⟩:=h3 h0
 obtain ⟨hC',hs⟩:=hk K.ty b (by simp) hb hC
 have hb':b < w'.heap.size:=by
  have:w'.heap[b]?=some w.heap[b]:=hs.trans (Array.getElem?_eq_getElem hb)
  exact (Array.getElem?_eq_some_iff.1 this).1
 refine ⟨b,o,eA,hC',hb',fun j x hj=>?_⟩
 obtain ⟨l,hl,hc⟩:=hx j x hj
 exact ⟨l,K.keep hl fun E b hE=>hk E b (List.mem_cons_of_mem _ hE),fun i u hi=>(World.cell?_of_block hs).trans (hc i u hi)⟩
theorem SRow.nil (K:Kind α) (C:TypeId→Nat→Prop) (w:World):SRow K C w (.slice none 0 0) []:=⟨none,0,rfl,Nat.le_refl _,Nat.zero_le _,fun h=>absurd h (by simp)⟩
theorem SRow.take {A:Option Addr} {c:Nat} (h:SRow K C w (.slice A xs.length c) xs) {n:Nat} (hn:n≤xs.length):SRow K C w (.slice A n c) (xs.take n):=by
 obtain ⟨A',c',e,h1,h2,h3⟩:=h
 simp only [Value.slice.injEq,true_and] at e
 obtain ⟨rfl,rfl⟩:=e
 have hl:(xs.take n).length=n:=by simp;omega
 refine ⟨A,c,by rw [hl],by omega,h2,fun h0=>?_⟩
 obtain ⟨b,o,eA,hC,hb,hx⟩:=h3 (by omega)
 refine ⟨b,o,eA,hC,hb,fun j x hj=>hx j x ?_⟩
 rw [List.getElem?_take] at hj
 split at hj
 ·exact hj
 ·cases hj
end
def Own (base:Nat) (w:World) (E:TypeId) (b:Nat):Prop:=base≤b∧∃ cur,w.heap[b]?=some (.cells cur E (0,0))
def Any (_:TypeId) (_:Nat):Prop:=True
section
variable {α:Type} {K:Kind α} {base:Nat} {w w':World} {v v':Value} {xs:List α}
theorem own_keep {base:Nat} {w w':World} {row:Option Nat} (hg:w.grownBy w' row) {E:TypeId} {b:Nat} (hE:∀ r,row=some r→∀ cur,w.heap[r]?≠some (.cells cur E (0,0))) (h:Own base w E b):Own base w' E b∧w'.heap[b]?=w.heap[b]?:=by
 obtain ⟨hb,cur,hc⟩:=h
 have hs:w'.heap[b]?=w.heap[b]?:=hg.block b (Array.getElem?_eq_some_iff.1 hc).1 fun e=>hE b e.symm cur hc
 exact ⟨⟨hb,cur,hs.trans hc⟩,hs⟩
end
open Go.ChangeShapes
section
variable {H:Type} {enc:TypeId × Value→H} {w:World} {base:Nat} {sp:Nat→Bool} {held:Bool} {fuel:Nat}
theorem open_kind {α:Type} {K:Kind α} {T:TypeId} (hu:Tryz.prog.underlying T=some (.slice K.ty)) (hk:Tryz.prog.cellsOf K.ty=K.k) (hk0:0 < K.k)
  (hel:∀ n cs y,DataW.trod enc Tryz.prog w base sp held n K.ty cs=some y→∃ x,K.is Any w cs x) {cs:List Value} {y:DataW H × List MemPlace} (h:DataW.trod enc Tryz.prog w base sp held fuel T cs=some y) :
  ∃ v xs,cs=[v]∧SRow K Any w v xs:=by
 rcases Go.Deep.open_slice hu h with ⟨hcs,_⟩|⟨a,len,cap,m,n,D,Pl,hcs,_,hl,hm,hmm,_,hx⟩
 ·exact ⟨_,[],hcs,SRow.nil K Any w⟩
 ·have hlm:len≤m:=by rw [hmm];split<;>omega
  have each:∀ i,i < len→∃ z:Option α × List Value,∃ x,z.1=some x∧K.is Any w z.2 x∧∀ j,j < K.k→w.cell? (a.add (i*K.k+j))=z.2[j]?:=by
   intro i hi
   obtain ⟨cs',h1,h2⟩:=hx i (by omega)
   rw [hk] at h1
   obtain ⟨_,hlen,hcell⟩:=World.cells?_some h1
   obtain ⟨x,hi'⟩:=hel _ _ _ h2
   exact ⟨(some x,cs'),x,rfl,hi',fun j hj=>by rw [← Go.Deep.add_add];exact hcell j hj⟩
  obtain ⟨f,hf⟩:=Go.Deep.choose_lt each
  by_cases h0:0 < len
  case neg =>
   obtain rfl:len=0:=by omega
   exact ⟨_,[],hcs,some a,cap,rfl,Nat.zero_le _,hm,fun h=>absurd h (by simp)⟩
  have hne:∃ g:Nat→α,∀ i,i < len→(f i).1=some (g i):=by
   obtain ⟨x0,e0,_⟩:=hf 0 h0
   refine ⟨fun i=>(f i).1.getD x0,fun i hi=>?_⟩
   obtain ⟨x,e,_⟩:=hf i hi
   simp [e]
  obtain ⟨g,hg⟩:=hne
  refine ⟨_,(List.range len).map g,hcs,some a,cap,by simp,by simpa using hl,hm,fun _=>?_⟩
  have hcl:∀ i,i < len→∀ j u,(f i).2[j]?=some u→w.cell? (a.add (i*K.k+j))=some u:=fun i hi j u hu=>by
   obtain ⟨x,e,hi',hc⟩:=hf i hi
   have:=K.len hi'
   have hj:j < K.k:=by have:=(List.getElem?_eq_some_iff.1 hu).1;omega
   rw [hc j hj,hu]
  obtain ⟨b,o,spot⟩:=a
  have h00:∃ u,(f 0).2[0]?=some u:=by
   obtain ⟨x,e,hi',hc⟩:=hf 0 h0
   have:=K.len hi'
   exact ⟨_,List.getElem?_eq_getElem (by omega)⟩
  obtain ⟨u0,hu0⟩:=h00
  have hc0:=hcl 0 h0 0 u0 hu0
  have hspot:spot=none:=by simpa [Addr.add] using World.cell?_spot hc0
  subst hspot
  have hlt:=World.block_lt_of_cell? w _ hc0
  refine ⟨b,o,rfl,trivial,by simpa [Addr.add] using hlt,fun j x hj=>?_⟩
  have hjl:j < len:=by have:=(List.getElem?_eq_some_iff.1 hj).1;simpa using this
  obtain ⟨x',e,hi',_⟩:=hf j hjl
  have ex:x=x':=by
   rw [List.getElem?_map,List.getElem?_range hjl] at hj
   simp only [Option.map_some,Option.some.injEq] at hj
   have:=hg j hjl
   rw [e] at this
   simp only [Option.some.injEq] at this
   rw [← hj,← this]
  subst ex
  refine ⟨(f j).2,hi',fun i u hu=>?_⟩
  have:=hcl j hjl i u hu
  unfold Addr.add at this
  split at this
  ·simp_all
  ·rw [show o+j*K.k+i=o+(j*K.k+i) by omega]
   exact this
end
end Go.Proofs.YtigapglmipmbeaaGreatDoor
namespace Go.Proofs.YtigapglmipmbeaaGreatDoor
open Go.RowKit Go.ChangeShapes Go.WideShapes Go.ChangeAt
def pairK (t:TypeId):Kind L2 where
 ty:=t
 k:=2
 is:=fun _ _ l x=>l=[.string x.1,.string x.2]∧x.1.size≤maxLen∧x.2.size≤maxLen
 inner:=[]
 len:=fun h=>by rw [h.1];rfl
 keep:=fun h _=>h
theorem cellsMass:Tryz.prog.cellsOf 30=2:=by kernel_rfl
theorem cellsNumD:Tryz.prog.cellsOf 23=1:=by kernel_rfl
theorem cellsStrD:Tryz.prog.cellsOf 9=1:=by kernel_rfl
theorem laidOutD:laidOutB Tryz.prog=true:=by kernel_rfl
section
variable {H:Type} {enc:TypeId × Value→H} {w:World} {base:Nat} {sp:Nat→Bool} {held:Bool} {fuel:Nat}
theorem open_mass1 (n:Nat) (cs:List Value) (y:DataW H × List MemPlace) (h:DataW.trod enc Tryz.prog w base sp held n 30 cs=some y):∃ x,(pairK 30).is Any w cs x:=by
 obtain ⟨y0,y1,n',_,hl,g0,g1⟩:=trod_struct2 Tryz.underlying30 h
 rw [cellsMass] at hl
 match cs,hl with
 | [c0,c1],_ =>
  simp [cellsStrD,cellsNumD] at g0 g1
  obtain ⟨a,e0,_,z0⟩:=DataW.trod_string Tryz.underlying9 g0
  obtain ⟨b,e1,_,z1⟩:=DataW.trod_string Tryz.underlying23 g1
  simp only [List.cons.injEq,and_true] at e0 e1
  subst e0 e1
  exact ⟨(a,b),rfl,z0,z1⟩
theorem row_of_kind {t:TypeId} {v:Value} {ls:List L2} (h:SRow (pairK t) Any w v ls):LRowW w v ls∧∀ x∈ls,x.1.size≤maxLen∧x.2.size≤maxLen:=by
 obtain ⟨A,c,e,h1,h2,h3⟩:=h
 refine ⟨⟨A,c,e,by omega,fun h0=>?_⟩,fun x hx=>?_⟩
 ·obtain ⟨b,o,eA,_,hb,hx⟩:=h3 h0
  refine ⟨b,o,eA,hb,fun j x hj=>?_⟩
  obtain ⟨l,⟨hl,_⟩,hc⟩:=hx j x hj
  subst hl
  exact ⟨hc 0 _ rfl,hc 1 _ rfl⟩
 ·obtain ⟨j,hj⟩:=List.getElem?_of_mem hx
  obtain ⟨b,o,_,_,_,hx⟩:=h3 (by have:=(List.getElem?_eq_some_iff.1 hj).1;omega)
  obtain ⟨l,⟨_,hs⟩,_⟩:=hx j x hj
  exact hs
theorem open_masses {a0:Option Addr} {len0 cap0:Nat} {d:DataW H} {p:List MemPlace} (h:DataW.Trod enc Tryz.prog w base sp held 22 (.slice a0 len0 cap0) d p) :
  ∃ ls,LRowW w (.slice a0 len0 cap0) ls∧∀ x∈ls,x.1.size≤maxLen∧x.2.size≤maxLen:=by
 obtain ⟨f,hf⟩:=h
 obtain ⟨v',ls,e,hr⟩:=open_kind (K:=pairK 30) Tryz.underlying22 cellsMass (by decide) open_mass1 hf
 simp [Value.cells] at e
 subst e
 exact ⟨ls,row_of_kind hr⟩
theorem trod_below {v:Value} {t:TypeId} {d:DataW H} {p:List MemPlace} (h:DataW.Trod enc Tryz.prog w base sp held t v d p):∀ x∈p,x.block < w.heap.size:=by
 obtain ⟨m,hm⟩:=h
 exact DataW.trod_lt m _ _ _ hm
end
theorem cellsLossN:Tryz.prog.cellsOf 63=2:=by kernel_rfl
section
variable {H:Type} {enc:TypeId × Value→H} {w:World} {base:Nat} {sp:Nat→Bool} {held:Bool} {fuel:Nat}
theorem open_lossN1 (n:Nat) (cs:List Value) (y:DataW H × List MemPlace) (h:DataW.trod enc Tryz.prog w base sp held n 63 cs=some y):∃ x,(pairK 63).is Any w cs x:=by
 obtain ⟨y0,y1,n',_,hl,g0,g1⟩:=trod_struct2 Tryz.underlying63 h
 rw [cellsLossN] at hl
 match cs,hl with
 | [c0,c1],_ =>
  simp [cellsNumD] at g0 g1
  obtain ⟨a,e0,_,z0⟩:=DataW.trod_string Tryz.underlying23 g0
  obtain ⟨b,e1,_,z1⟩:=DataW.trod_string Tryz.underlying23 g1
  simp only [List.cons.injEq,and_true] at e0 e1
  subst e0 e1
  exact ⟨(a,b),rfl,z0,z1⟩
theorem open_losses {a0:Option Addr} {len0 cap0:Nat} {d:DataW H} {p:List MemPlace} (h:DataW.Trod enc Tryz.prog w base sp held 88 (.slice a0 len0 cap0) d p) :
  ∃ ls,LRowW w (.slice a0 len0 cap0) ls∧∀ x∈ls,x.1.size≤maxLen∧x.2.size≤maxLen:=by
 obtain ⟨f,hf⟩:=h
 obtain ⟨v',ls,e,hr⟩:=open_kind (K:=pairK 63) Tryz.underlying88 cellsLossN (by decide) open_lossN1 hf
 simp [Value.cells] at e
 subst e
 exact ⟨ls,row_of_kind hr⟩
end
end Go.Proofs.YtigapglmipmbeaaGreatDoor
namespace Go.Proofs.YtigapglmipmbeaaGreatDoor
open Go
theorem enters {P : Program} {rest : List (List Char)} (h : behindMainWord (wordsSigns P.initOrder.toList) = "cut".toList :: rest) (h1 : P.laysLater = false) (h2 : P.bearsReflect = false) (h3 : P.doorFits [] = true) : P.mayEnter = true := by
 have e : stripLifts liftWords ("cut".toList :: rest) = ([], "cut".toList :: rest) := by kernel_rfl
 unfold Program.mayEnter
 rw [h]
 dsimp only
 rw [e]
 simp [h1,h2,h3]
theorem cons_of_head {α:Type} {l:List α} {x:α} (h:l.head?=some x):l=x::l.tail:=by
 cases l with
 | nil=>cases h
 | cons y t=>cases h;rfl
theorem doorFitsF:Tryz.prog.doorFits []=true:=by kernel_rfl
theorem headWordF : (behindMainWord (wordsSigns Tryz.prog.initOrder.toList)).head? = some "cut".toList := by kernel_rfl
theorem laysLaterF:Tryz.prog.laysLater=false:=by kernel_rfl
theorem bearsReflectF:Tryz.prog.bearsReflect=false:=by kernel_rfl
theorem mayEnterF:Tryz.prog.mayEnter=true:=enters (cons_of_head headWordF) laysLaterF bearsReflectF doorFitsF
theorem mainIsF : Tryz.prog.mainIs = some (true, "5395951699d0e7c088c16c506ed30de6925104505e2026abbc93d9abbfe2aced".toList) := by kernel_rfl
theorem looksF:true=Tryz.prog.looks []:=by kernel_rfl
end Go.Proofs.YtigapglmipmbeaaGreatDoor
