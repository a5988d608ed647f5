/- The reference's Group and Late (printed by mklref3.py). Texts of given numbers, by reckoning; the examples of losses in plain rationals. The examples of losses that each statement asks first. The statements' lives and light (printed by mkllives.py). Opening and shutting an argument that is a loss. -/
import Derived.Test.YtbfhonhjejeaiaaGreatDoorRb14
import Derived.Test.YtbfhonhjejeaiaaGreatDoorRb10
import Derived.ProofKit
import Derived.OpenShut
import Derived.ShutString
import Derived.ChangeOld
import Derived.ChangeSame
namespace Go.Proofs.YtbfhonhjejeaiaaGreatDoor
open Go.RowKit Go.Shelf
open Lim

set_option maxRecDepth 100000 in
set_option maxHeartbeats 4000000 in
theorem rgroup_err (f d : ByteArray) (k : Int) (w : World) (h1 : f.size ≤ 270000) (h2 : d.size ≤ 270000) (hr : Res w) (he : errL f d ≠ 0) :
    Calls Tryz.prog 22 #[.agg #[.string f, .string d], .int .i64 k] w fun e w' => e = .returned (resL (.error (errL f d))) ∧ Below w.heap.size w w' := by
  have H := Lib.hid (At2.new w 24 24 #[.string f, .string d] #[.string ⟨#[]⟩, .string ⟨#[]⟩] hr)
  have HCK := Lib.hid (fun w hr => refLoss_any f d w h1 h2 hr)
  have HZ := build_zero
  unfold resL
  obtain ⟨z, hz⟩ : ∃ z : Int, (errL f d : Int) = z := ⟨_, rfl⟩
  rw [hz] at HCK
  dsimp only
  rw [hz]
  have hne : (z == 0) = false := by rw [beq_eq_false_iff_ne]; omega
  clear h1 h2 hr he hz
  go_enter Tryz.func22, Tryz.ntmps22
  go_wp2_with (go_at_call 26; refine (HCK.out _ H.out.res).mono ?_; rintro e w1 ⟨rfl, hb⟩; have H1 := Lib.hid (H.out.later hb); obtain ⟨r0, r1⟩ := cells2 H1.out.b; have y0 := H1.out.b.frozen 0; have y1 := H1.out.b.frozen 1; obtain ⟨p0, p1⟩ := cells2 H1.out.a; clear hb)
  refine bodyPost_ret (run_cell_tmp rfl rfl (load_loss ((H1.out.b.set_ 0 (.string ⟨#[]⟩)).set_ 1 (.string ⟨#[]⟩)))) rfl ⟨?_, (H1.out.below.setCell (Nat.le_succ _) _).setCell (Nat.le_succ _) _⟩
  rfl
set_option maxRecDepth 100000 in
set_option maxHeartbeats 4000000 in
theorem rgroup_low (f d : ByteArray) (k : Int) (w : World) (h1 : f.size ≤ 270000) (h2 : d.size ≤ 270000) (hr : Res w) (he : errL f d = 0) (hk : k < 0) :
    Calls Tryz.prog 22 #[.agg #[.string f, .string d], .int .i64 k] w fun e w' => e = .returned (resL (.error 2)) ∧ Below w.heap.size w w' := by
  have H := Lib.hid (At2.new w 24 24 #[.string f, .string d] #[.string ⟨#[]⟩, .string ⟨#[]⟩] hr)
  have HCK := Lib.hid (fun w hr => refLoss_any f d w h1 h2 hr)
  have HZ := build_zero
  rw [he] at HCK
  have g1 : decide (k < 0) = true := decide_eq_true hk
  clear h1 h2 hr he hk
  go_enter Tryz.func22, Tryz.ntmps22
  go_wp2_with (go_at_call 26; refine (HCK.out _ H.out.res).mono ?_; rintro e w1 ⟨rfl, hb⟩; have H1 := Lib.hid (H.out.later hb); obtain ⟨r0, r1⟩ := cells2 H1.out.b; have y0 := H1.out.b.frozen 0; have y1 := H1.out.b.frozen 1; obtain ⟨p0, p1⟩ := cells2 H1.out.a; clear hb)
  refine bodyPost_ret (run_cell_tmp rfl rfl (load_loss ((H1.out.b.set_ 0 (.string ⟨#[]⟩)).set_ 1 (.string ⟨#[]⟩)))) rfl ⟨?_, (H1.out.below.setCell (Nat.le_succ _) _).setCell (Nat.le_succ _) _⟩
  rfl
set_option maxRecDepth 100000 in
set_option maxHeartbeats 4000000 in
theorem rgroup_high (f d : ByteArray) (k : Int) (w : World) (h1 : f.size ≤ 270000) (h2 : d.size ≤ 270000) (hr : Res w) (he : errL f d = 0) (hk : 50 < k) :
    Calls Tryz.prog 22 #[.agg #[.string f, .string d], .int .i64 k] w fun e w' => e = .returned (resL (.error 2)) ∧ Below w.heap.size w w' := by
  have H := Lib.hid (At2.new w 24 24 #[.string f, .string d] #[.string ⟨#[]⟩, .string ⟨#[]⟩] hr)
  have HCK := Lib.hid (fun w hr => refLoss_any f d w h1 h2 hr)
  have HZ := build_zero
  rw [he] at HCK
  have g1 : decide (k < 0) = false := decide_eq_false (by omega)
  have g2 : decide (50 < k) = true := decide_eq_true hk
  clear h1 h2 hr he hk
  go_enter Tryz.func22, Tryz.ntmps22
  go_wp2_with (go_at_call 26; refine (HCK.out _ H.out.res).mono ?_; rintro e w1 ⟨rfl, hb⟩; have H1 := Lib.hid (H.out.later hb); obtain ⟨r0, r1⟩ := cells2 H1.out.b; have y0 := H1.out.b.frozen 0; have y1 := H1.out.b.frozen 1; obtain ⟨p0, p1⟩ := cells2 H1.out.a; clear hb)
  refine bodyPost_ret (run_cell_tmp rfl rfl (load_loss ((H1.out.b.set_ 0 (.string ⟨#[]⟩)).set_ 1 (.string ⟨#[]⟩)))) rfl ⟨?_, (H1.out.below.setCell (Nat.le_succ _) _).setCell (Nat.le_succ _) _⟩
  rfl
set_option maxRecDepth 100000 in
set_option maxHeartbeats 4000000 in
theorem rgroup_run (f d : ByteArray) (K : Nat) (w : World) (h1 : f.size ≤ 270000) (h2 : d.size ≤ 270000) (hr : Res w) (l : LQ) (hl : LossIs f d l) (hK : K ≤ 50) :
    Calls Tryz.prog 22 #[.agg #[.string f, .string d], .int .i64 (K : Int)] w fun e w' => e = .returned (resL (groupL l K)) ∧ Below w.heap.size w w' := by
  have H := Lib.hid (At2.new w 24 24 #[.string f, .string d] #[.string ⟨#[]⟩, .string ⟨#[]⟩] hr)
  have HCK := Lib.hid (fun w hr => refLoss_any f d w h1 h2 hr)
  have HZ := build_zero
  rw [hl.err] at HCK
  have HLI := Lib.hid hl
  clear h1 h2 hl hr
  have g1 : decide ((K : Int) < 0) = false := decide_eq_false (by omega)
  have g2 : decide (50 < (K : Int)) = false := decide_eq_false (by omega)
  go_enter Tryz.func22, Tryz.ntmps22
  go_wp2_with (go_at_call 26; refine (HCK.out _ H.out.res).mono ?_; rintro e w1 ⟨rfl, hb⟩; have H1 := Lib.hid (H.out.later hb); obtain ⟨r0, r1⟩ := cells2 H1.out.b; have y0 := H1.out.b.frozen 0; have y1 := H1.out.b.frozen 1; obtain ⟨p0, p1⟩ := cells2 H1.out.a; clear hb)
  clear p0 p1 r0 r1 y0 y1 HCK H
  go_loopw [7, 8, 9, 10] (fun v7 v8 v9 v10 wr => ∃ (j : Nat) (p s : Rat), j ≤ K ∧ v10 = .int .i64 (j : Int) ∧ v7 = .string (rT p) ∧ v8 = .string (rT s) ∧ v9 = .int .i64 0 ∧ Hid (powsum l.1 j = .ok (p, s)) ∧ Hid (At2 w 24 24 #[.string f, .string d] #[.string ⟨#[]⟩, .string ⟨#[]⟩] wr)) (fun _ _ _ v10 _ => K - (intOf v10).toNat)
  case atStart => exact ⟨0, 1, 0, Nat.zero_le _, rfl, by rw [← IsT.one.text], by rw [← IsT.zero.text], rfl, Lib.hid rfl, H1⟩
  case round =>
    clear H1
    obtain ⟨j, p, s, hj, rfl, rfl, rfl, rfl, HP, H1⟩ := hrel
    clear g1 g2
    obtain ⟨hfp, hfs⟩ := powsum_fits HP.out
    obtain ⟨p0, p1⟩ := cells2 H1.out.a
    by_cases hlt : j < K
    · have hlt' : (j : Int) < (K : Int) := by omega
      have HLT := Lib.hid hlt
      cases h1 : fits (s + p) with
      | false =>
        have HA := Lib.hid (fun w => raddO w (isT_rT hfs) (isT_rT hfp) h1)
        have HN := Lib.hid (group_no (powsum_no (show j + 1 ≤ K by omega) (powsum_no1 HP.out h1)))
        generalize rT p = tp at *
        generalize rT s = ts at *
        clear hfp hfs h1 hlt
        go_wp2_with (go_at_call 68; refine (HA.out _).mono ?_; rintro e w3 ⟨rfl, hb⟩; have H3 := Lib.hid (H1.out.later hb); obtain ⟨r0, r1⟩ := cells2 H3.out.b; have y0 := H3.out.b.frozen 0; have y1 := H3.out.b.frozen 1; obtain ⟨p0, p1⟩ := cells2 H3.out.a; clear hb)
        refine bodyPost_ret (run_cell_tmp rfl rfl (load_loss ((H3.out.b.set_ 0 (.string ⟨#[]⟩)).set_ 1 (.string ⟨#[]⟩)))) rfl ⟨?_, (H3.out.below.setCell (Nat.le_succ _) _).setCell (Nat.le_succ _) _⟩
        rw [HN.out]; rfl
      | true =>
        have HA := Lib.hid (fun w => raddT w (isT_rT hfs) (isT_rT hfp) (isT_rT h1))
        cases h2 : fits (p * l.1) with
        | false =>
          have HM := Lib.hid (fun w => rmulO w (isT_rT hfp) HLI.out.f h2)
          have HN := Lib.hid (group_no (powsum_no (show j + 1 ≤ K by omega) (powsum_no2 HP.out h1 h2)))
          generalize rT p = tp at *
          generalize rT s = ts at *
          generalize rT (s + p) = tsp at *
          clear hfp hfs h1 h2 hlt
          go_wp2_with (first
            | (go_at_call 68; refine (HA.out _).mono ?_; rintro e w3 ⟨rfl, hb⟩; have H3 := Lib.hid (H1.out.later hb); obtain ⟨r0, r1⟩ := cells2 H3.out.b; have y0 := H3.out.b.frozen 0; have y1 := H3.out.b.frozen 1; obtain ⟨p0, p1⟩ := cells2 H3.out.a; clear hb)
            | (go_at_call 34; refine (HM.out _).mono ?_; rintro e w5 ⟨rfl, hb⟩; have H5 := Lib.hid (H3.out.later hb); obtain ⟨r0, r1⟩ := cells2 H5.out.b; have y0 := H5.out.b.frozen 0; have y1 := H5.out.b.frozen 1; obtain ⟨p0, p1⟩ := cells2 H5.out.a; clear hb))
          refine bodyPost_ret (run_cell_tmp rfl rfl (load_loss ((H5.out.b.set_ 0 (.string ⟨#[]⟩)).set_ 1 (.string ⟨#[]⟩)))) rfl ⟨?_, (H5.out.below.setCell (Nat.le_succ _) _).setCell (Nat.le_succ _) _⟩
          rw [HN.out]; rfl
        | true =>
          have HM := Lib.hid (fun w => rmulT w (isT_rT hfp) HLI.out.f (isT_rT h2))
          have HN := Lib.hid (powsum_ok HP.out h1 h2)
          obtain ⟨tp, htp⟩ : ∃ y, y = rT p := ⟨_, rfl⟩
          obtain ⟨ts, hts⟩ : ∃ y, y = rT s := ⟨_, rfl⟩
          obtain ⟨tsp, htsp⟩ : ∃ y, y = rT (s + p) := ⟨_, rfl⟩
          obtain ⟨tpf, htpf⟩ : ∃ y, y = rT (p * l.1) := ⟨_, rfl⟩
          rw [← htp, ← hts, ← htsp] at HA
          rw [← htp, ← htpf] at HM
          rw [← htp, ← hts]
          have HT := Lib.hid (And.intro htsp htpf)
          clear hfp hfs h1 h2 hlt htp hts htsp htpf
          go_wp2_with (first
            | (go_at_call 68; refine (HA.out _).mono ?_; rintro e w3 ⟨rfl, hb⟩; have H3 := Lib.hid (H1.out.later hb); obtain ⟨r0, r1⟩ := cells2 H3.out.b; have y0 := H3.out.b.frozen 0; have y1 := H3.out.b.frozen 1; obtain ⟨p0, p1⟩ := cells2 H3.out.a; clear hb)
            | (go_at_call 34; refine (HM.out _).mono ?_; rintro e w5 ⟨rfl, hb⟩; have H5 := Lib.hid (H3.out.later hb); obtain ⟨r0, r1⟩ := cells2 H5.out.b; have y0 := H5.out.b.frozen 0; have y1 := H5.out.b.frozen 1; obtain ⟨p0, p1⟩ := cells2 H5.out.a; clear hb))
          go_roundw
          case rel => exact ⟨j + 1, p * l.1, s + p, HLT.out, by go_num, by rw [HT.out.2], by rw [HT.out.1], rfl, HN, H5⟩
          case measure => have := HLT.out; simp [intOf]; omega
    · have hlt' : ¬ (j : Int) < (K : Int) := by omega
      obtain rfl : j = K := by omega
      cases h1 : fits (l.2 * s) with
      | false =>
        have HM := Lib.hid (fun w => rmulO w HLI.out.d (isT_rT hfs) h1)
        have HN := Lib.hid (show groupL l j = .error 5 by unfold groupL; rw [HP.out]; dsimp only; rw [ovr_no h1])
        generalize rT p = tp at *
        generalize rT s = ts at *
        clear hfp hfs h1 hlt hK
        go_wp2_with (go_at_call 34; refine (HM.out _).mono ?_; rintro e w3 ⟨rfl, hb⟩; have H3 := Lib.hid (H1.out.later hb); obtain ⟨r0, r1⟩ := cells2 H3.out.b; have y0 := H3.out.b.frozen 0; have y1 := H3.out.b.frozen 1; obtain ⟨p0, p1⟩ := cells2 H3.out.a; clear hb)
        refine bodyPost_ret (run_cell_tmp rfl rfl (load_loss ((H3.out.b.set_ 0 (.string ⟨#[]⟩)).set_ 1 (.string ⟨#[]⟩)))) rfl ⟨?_, (H3.out.below.setCell (Nat.le_succ _) _).setCell (Nat.le_succ _) _⟩
        rw [HN.out]; rfl
      | true =>
        have HM := Lib.hid (fun w => rmulT w HLI.out.d (isT_rT hfs) (isT_rT h1))
        have HLim := Lib.hid (fun (w : World) hr => rlimited_any (f := rT p) w (isT_rT h1) hr)
        have HN := Lib.hid (show groupL l j = .ok (p, minQ (l.2 * s) 1) by unfold groupL; rw [HP.out]; dsimp only; rw [ovr_ok h1])
        obtain ⟨tp, htp⟩ : ∃ y, y = rT p := ⟨_, rfl⟩
        obtain ⟨ts, hts⟩ : ∃ y, y = rT s := ⟨_, rfl⟩
        obtain ⟨tm, htm⟩ : ∃ y, y = rT (l.2 * s) := ⟨_, rfl⟩
        obtain ⟨tl, htl⟩ : ∃ y, y = rT (minQ (l.2 * s) 1) := ⟨_, rfl⟩
        rw [← hts, ← htm] at HM
        rw [← htp, ← htm, ← htl] at HLim
        rw [← htp, ← hts]
        have HT := Lib.hid (And.intro htp htl)
        clear hfp hfs h1 hlt hK htp hts htm htl
        go_wp2_with (first
          | (go_at_call 34; refine (HM.out _).mono ?_; rintro e w3 ⟨rfl, hb⟩; have H3 := Lib.hid (H1.out.later hb); obtain ⟨r0, r1⟩ := cells2 H3.out.b; have y0 := H3.out.b.frozen 0; have y1 := H3.out.b.frozen 1; obtain ⟨p0, p1⟩ := cells2 H3.out.a; clear hb)
          | (go_at_call 69; refine (HLim.out _ H3.out.res).mono ?_; rintro e w5 ⟨rfl, hb⟩; have H5 := Lib.hid (H3.out.later hb); obtain ⟨r0, r1⟩ := cells2 H5.out.b; have y0 := H5.out.b.frozen 0; have y1 := H5.out.b.frozen 1; obtain ⟨p0, p1⟩ := cells2 H5.out.a; clear hb))
        refine bodyPost_ret (run_cell_tmp rfl rfl (load_loss ((H5.out.b.set_ 0 (.string tp)).set_ 1 (.string tl)))) rfl ⟨?_, (H5.out.below.setCell (Nat.le_succ _) _).setCell (Nat.le_succ _) _⟩
        rw [HN.out, HT.out.1, HT.out.2]; rfl
/-- The reference's Group. -/
theorem refLossGroup_any (f d : ByteArray) (k : Int) (w : World) (h1 : f.size ≤ 270000) (h2 : d.size ≤ 270000) (hr : Res w) :
    Calls Tryz.prog 22 #[.agg #[.string f, .string d], .int .i64 k] w fun e w' => e = .returned (resL (groupR f d k)) ∧ Below w.heap.size w w' := by
  unfold groupR
  by_cases hL : errL f d = 0
  · rw [if_neg (by omega)]
    by_cases hk : k < 0
    · rw [if_pos (.inl hk)]; exact rgroup_low f d k w h1 h2 hr hL hk
    by_cases hk2 : k > 50
    · rw [if_pos (.inr hk2)]; exact rgroup_high f d k w h1 h2 hr hL hk2
    rw [if_neg (by omega)]
    have := rgroup_run f d k.toNat w h1 h2 hr _ (errL_zero hL) (by omega)
    rwa [Int.toNat_of_nonneg (by omega)] at this
  · rw [if_pos hL]
    exact rgroup_err f d k w h1 h2 hr hL
set_option maxRecDepth 100000 in
set_option maxHeartbeats 4000000 in
theorem rlate_err1 (f d u : ByteArray) (w : World) (h1 : f.size ≤ 270000) (h2 : d.size ≤ 270000) (_h3 : u.size ≤ 270000) (hr : Res w) (he : errL f d ≠ 0) :
    Calls Tryz.prog 24 #[.agg #[.string f, .string d], .string u] w fun e w' => e = .returned (resL (.error (errL f d))) ∧ Below w.heap.size w w' := by
  have H := Lib.hid (At2.new w 24 24 #[.string f, .string d] #[.string ⟨#[]⟩, .string ⟨#[]⟩] hr)
  have HCK := Lib.hid (fun w hr => refLoss_any f d w h1 h2 hr)
  have HZ := build_zero
  unfold resL
  obtain ⟨z, hz⟩ : ∃ z : Int, (errL f d : Int) = z := ⟨_, rfl⟩
  rw [hz] at HCK
  dsimp only
  rw [hz]
  have hne : (z == 0) = false := by rw [beq_eq_false_iff_ne]; omega
  clear h1 h2 hr he hz
  go_enter Tryz.func24, Tryz.ntmps24
  go_wp2_with (go_at_call 26; refine (HCK.out _ H.out.res).mono ?_; rintro e w1 ⟨rfl, hb⟩; have H1 := Lib.hid (H.out.later hb); obtain ⟨r0, r1⟩ := cells2 H1.out.b; have y0 := H1.out.b.frozen 0; have y1 := H1.out.b.frozen 1; obtain ⟨p0, p1⟩ := cells2 H1.out.a; clear hb)
  refine bodyPost_ret (run_cell_tmp rfl rfl (load_loss ((H1.out.b.set_ 0 (.string ⟨#[]⟩)).set_ 1 (.string ⟨#[]⟩)))) rfl ⟨?_, (H1.out.below.setCell (Nat.le_succ _) _).setCell (Nat.le_succ _) _⟩
  rfl
set_option maxRecDepth 100000 in
set_option maxHeartbeats 4000000 in
theorem rlate_err2 (f d u : ByteArray) (w : World) (h1 : f.size ≤ 270000) (h2 : d.size ≤ 270000) (h3 : u.size ≤ 270000) (hr : Res w) (he : errL f d = 0) (hu : errQ u.data.toList ≠ 0) :
    Calls Tryz.prog 24 #[.agg #[.string f, .string d], .string u] w fun e w' => e = .returned (resL (.error (errQ u.data.toList))) ∧ Below w.heap.size w w' := by
  have H := Lib.hid (At2.new w 24 24 #[.string f, .string d] #[.string ⟨#[]⟩, .string ⟨#[]⟩] hr)
  have HCK := Lib.hid (fun w hr => refLoss_any f d w h1 h2 hr)
  have HZ := build_zero
  have HU := Lib.hid (fun w => refCheck_any u w h3)
  rw [he] at HCK
  unfold resL
  obtain ⟨z, hz⟩ : ∃ z : Int, (errQ u.data.toList : Int) = z := ⟨_, rfl⟩
  rw [hz] at HU
  dsimp only
  rw [hz]
  have hne : (z == 0) = false := by rw [beq_eq_false_iff_ne]; omega
  clear h1 h2 h3 hr he hz hu
  go_enter Tryz.func24, Tryz.ntmps24
  go_wp2_with (first
    | (go_at_call 26; refine (HCK.out _ H.out.res).mono ?_; rintro e w1 ⟨rfl, hb⟩; have H1 := Lib.hid (H.out.later hb); obtain ⟨r0, r1⟩ := cells2 H1.out.b; have y0 := H1.out.b.frozen 0; have y1 := H1.out.b.frozen 1; obtain ⟨p0, p1⟩ := cells2 H1.out.a; clear hb)
    | (go_at_call 82; refine (HU.out _).mono ?_; rintro e w2 ⟨rfl, hb⟩; have H2 := Lib.hid (H1.out.later hb); obtain ⟨r0, r1⟩ := cells2 H2.out.b; have y0 := H2.out.b.frozen 0; have y1 := H2.out.b.frozen 1; obtain ⟨p0, p1⟩ := cells2 H2.out.a; clear hb))
  refine bodyPost_ret (run_cell_tmp rfl rfl (load_loss ((H2.out.b.set_ 0 (.string ⟨#[]⟩)).set_ 1 (.string ⟨#[]⟩)))) rfl ⟨?_, (H2.out.below.setCell (Nat.le_succ _) _).setCell (Nat.le_succ _) _⟩
  rfl
set_option maxRecDepth 100000 in
set_option maxHeartbeats 4000000 in
theorem rlate_rng1 (f d u : ByteArray) (w : World) (h1 : f.size ≤ 270000) (h2 : d.size ≤ 270000) (h3 : u.size ≤ 270000) (hr : Res w) (he : errL f d = 0) (U : Rat) (hu : IsT u U) (b1 : decide (cmpQ 0 U ≤ 0) = false) :
    Calls Tryz.prog 24 #[.agg #[.string f, .string d], .string u] w fun e w' => e = .returned (resL (.error 2)) ∧ Below w.heap.size w w' := by
  have H := Lib.hid (At2.new w 24 24 #[.string f, .string d] #[.string ⟨#[]⟩, .string ⟨#[]⟩] hr)
  have HCK := Lib.hid (fun w hr => refLoss_any f d w h1 h2 hr)
  have HZ := build_zero
  have HU := Lib.hid (fun w => refCheck_any u w h3)
  rw [he] at HCK
  rw [hu.err] at HU
  have HA1 := Lib.hid (fun w => rat_any w IsT.zero hu)
  rw [b1] at HA1
  have TK1 : True := trivial
  clear h1 h2 h3 hr he hu b1
  go_enter Tryz.func24, Tryz.ntmps24
  go_wp2_with (first
    | (go_at_call 26; refine (HCK.out _ H.out.res).mono ?_; rintro e w1 ⟨rfl, hb⟩; have H1 := Lib.hid (H.out.later hb); obtain ⟨r0, r1⟩ := cells2 H1.out.b; have y0 := H1.out.b.frozen 0; have y1 := H1.out.b.frozen 1; obtain ⟨p0, p1⟩ := cells2 H1.out.a; clear hb)
    | (go_at_call 82; refine (HU.out _).mono ?_; rintro e w2 ⟨rfl, hb⟩; have H2 := Lib.hid (H1.out.later hb); obtain ⟨r0, r1⟩ := cells2 H2.out.b; have y0 := H2.out.b.frozen 0; have y1 := H2.out.b.frozen 1; obtain ⟨p0, p1⟩ := cells2 H2.out.a; clear hb)
    | (clear TK1; go_at_call 75; refine (HA1.out _).mono ?_; rintro e w3 ⟨rfl, hb⟩; have H3 := Lib.hid (H2.out.later hb); obtain ⟨r0, r1⟩ := cells2 H3.out.b; have y0 := H3.out.b.frozen 0; have y1 := H3.out.b.frozen 1; obtain ⟨p0, p1⟩ := cells2 H3.out.a; clear hb))
  refine bodyPost_ret (run_cell_tmp rfl rfl (load_loss ((H3.out.b.set_ 0 (.string ⟨#[]⟩)).set_ 1 (.string ⟨#[]⟩)))) rfl ⟨?_, (H3.out.below.setCell (Nat.le_succ _) _).setCell (Nat.le_succ _) _⟩
  rfl
set_option maxRecDepth 100000 in
set_option maxHeartbeats 4000000 in
theorem rlate_rng2 (f d u : ByteArray) (w : World) (h1 : f.size ≤ 270000) (h2 : d.size ≤ 270000) (h3 : u.size ≤ 270000) (hr : Res w) (he : errL f d = 0) (U : Rat) (hu : IsT u U) (b1 : decide (cmpQ 0 U ≤ 0) = true) (b2 : decide (cmpQ U 1 ≤ 0) = false) :
    Calls Tryz.prog 24 #[.agg #[.string f, .string d], .string u] w fun e w' => e = .returned (resL (.error 2)) ∧ Below w.heap.size w w' := by
  have H := Lib.hid (At2.new w 24 24 #[.string f, .string d] #[.string ⟨#[]⟩, .string ⟨#[]⟩] hr)
  have HCK := Lib.hid (fun w hr => refLoss_any f d w h1 h2 hr)
  have HZ := build_zero
  have HU := Lib.hid (fun w => refCheck_any u w h3)
  rw [he] at HCK
  rw [hu.err] at HU
  have HA1 := Lib.hid (fun w => rat_any w IsT.zero hu)
  rw [b1] at HA1
  have HA2 := Lib.hid (fun w => rat_any w hu IsT.one)
  rw [b2] at HA2
  have TK1 : True := trivial
  clear h1 h2 h3 hr he hu b1 b2
  go_enter Tryz.func24, Tryz.ntmps24
  go_wp2_with (first
    | (go_at_call 26; refine (HCK.out _ H.out.res).mono ?_; rintro e w1 ⟨rfl, hb⟩; have H1 := Lib.hid (H.out.later hb); obtain ⟨r0, r1⟩ := cells2 H1.out.b; have y0 := H1.out.b.frozen 0; have y1 := H1.out.b.frozen 1; obtain ⟨p0, p1⟩ := cells2 H1.out.a; clear hb)
    | (go_at_call 82; refine (HU.out _).mono ?_; rintro e w2 ⟨rfl, hb⟩; have H2 := Lib.hid (H1.out.later hb); obtain ⟨r0, r1⟩ := cells2 H2.out.b; have y0 := H2.out.b.frozen 0; have y1 := H2.out.b.frozen 1; obtain ⟨p0, p1⟩ := cells2 H2.out.a; clear hb)
    | (clear TK1; go_at_call 75; refine (HA1.out _).mono ?_; rintro e w3 ⟨rfl, hb⟩; have H3 := Lib.hid (H2.out.later hb); obtain ⟨r0, r1⟩ := cells2 H3.out.b; have y0 := H3.out.b.frozen 0; have y1 := H3.out.b.frozen 1; obtain ⟨p0, p1⟩ := cells2 H3.out.a; clear hb)
    | (go_at_call 75; refine (HA2.out _).mono ?_; rintro e w4 ⟨rfl, hb⟩; have H4 := Lib.hid (H3.out.later hb); obtain ⟨r0, r1⟩ := cells2 H4.out.b; have y0 := H4.out.b.frozen 0; have y1 := H4.out.b.frozen 1; obtain ⟨p0, p1⟩ := cells2 H4.out.a; clear hb))
  refine bodyPost_ret (run_cell_tmp rfl rfl (load_loss ((H4.out.b.set_ 0 (.string ⟨#[]⟩)).set_ 1 (.string ⟨#[]⟩)))) rfl ⟨?_, (H4.out.below.setCell (Nat.le_succ _) _).setCell (Nat.le_succ _) _⟩
  rfl
set_option maxRecDepth 100000 in
set_option maxHeartbeats 4000000 in
theorem rlate_ok (f d u : ByteArray) (w : World) (h1 : f.size ≤ 270000) (h2 : d.size ≤ 270000) (h3 : u.size ≤ 270000) (hr : Res w) (l : LQ) (q : Rat) (hl : LossIs f d l) (hu : IsT u q) (b1 : decide (cmpQ 0 q ≤ 0) = true) (b2 : decide (cmpQ q 1 ≤ 0) = true) (f1 : fits (l.1 + 1) = true) (f2 : fits ((l.1 + 1) * q) = true) (f3 : fits (l.2 + (l.1 + 1) * q) = true) :
    Calls Tryz.prog 24 #[.agg #[.string f, .string d], .string u] w fun e w' => e = .returned (.tuple #[.agg #[.string f, .string (rT (minQ (l.2 + (l.1 + 1) * q) 1))], .int .i64 0]) ∧ Below w.heap.size w w' := by
  have H := Lib.hid (At2.new w 24 24 #[.string f, .string d] #[.string ⟨#[]⟩, .string ⟨#[]⟩] hr)
  have HCK := Lib.hid (fun w hr => refLoss_any f d w h1 h2 hr)
  have HZ := build_zero
  have HU := Lib.hid (fun w => refCheck_any u w h3)
  rw [hl.err] at HCK
  rw [hu.err] at HU
  have HA1 := Lib.hid (fun w => rat_any w IsT.zero hu)
  rw [b1] at HA1
  have HA2 := Lib.hid (fun w => rat_any w hu IsT.one)
  rw [b2] at HA2
  have HB1 := Lib.hid (fun w => raddT w hl.f IsT.one (isT_rT f1))
  have HM := Lib.hid (fun w => rmulT w (isT_rT f1) hu (isT_rT f2))
  have HB2 := Lib.hid (fun w => raddT w hl.d (isT_rT f2) (isT_rT f3))
  have HL := Lib.hid (fun (w : World) hr => rlimited_any (f := f) w (isT_rT f3) hr)
  generalize rT (l.1 + 1) = t1 at *
  generalize rT (minQ (l.2 + (l.1 + 1) * q) 1) = t4 at *
  generalize rT (l.2 + (l.1 + 1) * q) = t3 at *
  generalize rT ((l.1 + 1) * q) = t2 at *
  have TK1 : True := trivial
  have TK2 : True := trivial
  clear h1 h2 h3 hr hl hu b1 b2 f1 f2 f3
  go_enter Tryz.func24, Tryz.ntmps24
  go_wp2_with (first
    | (go_at_call 26; refine (HCK.out _ H.out.res).mono ?_; rintro e w1 ⟨rfl, hb⟩; have H1 := Lib.hid (H.out.later hb); obtain ⟨r0, r1⟩ := cells2 H1.out.b; have y0 := H1.out.b.frozen 0; have y1 := H1.out.b.frozen 1; obtain ⟨p0, p1⟩ := cells2 H1.out.a; clear hb)
    | (go_at_call 82; refine (HU.out _).mono ?_; rintro e w2 ⟨rfl, hb⟩; have H2 := Lib.hid (H1.out.later hb); obtain ⟨r0, r1⟩ := cells2 H2.out.b; have y0 := H2.out.b.frozen 0; have y1 := H2.out.b.frozen 1; obtain ⟨p0, p1⟩ := cells2 H2.out.a; clear hb)
    | (clear TK1; go_at_call 75; refine (HA1.out _).mono ?_; rintro e w3 ⟨rfl, hb⟩; have H3 := Lib.hid (H2.out.later hb); obtain ⟨r0, r1⟩ := cells2 H3.out.b; have y0 := H3.out.b.frozen 0; have y1 := H3.out.b.frozen 1; obtain ⟨p0, p1⟩ := cells2 H3.out.a; clear hb)
    | (go_at_call 75; refine (HA2.out _).mono ?_; rintro e w4 ⟨rfl, hb⟩; have H4 := Lib.hid (H3.out.later hb); obtain ⟨r0, r1⟩ := cells2 H4.out.b; have y0 := H4.out.b.frozen 0; have y1 := H4.out.b.frozen 1; obtain ⟨p0, p1⟩ := cells2 H4.out.a; clear hb)
    | (clear TK2; go_at_call 68; refine (HB1.out _).mono ?_; rintro e w5 ⟨rfl, hb⟩; have H5 := Lib.hid (H4.out.later hb); obtain ⟨r0, r1⟩ := cells2 H5.out.b; have y0 := H5.out.b.frozen 0; have y1 := H5.out.b.frozen 1; obtain ⟨p0, p1⟩ := cells2 H5.out.a; clear hb)
    | (go_at_call 34; refine (HM.out _).mono ?_; rintro e w6 ⟨rfl, hb⟩; have H6 := Lib.hid (H5.out.later hb); obtain ⟨r0, r1⟩ := cells2 H6.out.b; have y0 := H6.out.b.frozen 0; have y1 := H6.out.b.frozen 1; obtain ⟨p0, p1⟩ := cells2 H6.out.a; clear hb)
    | (go_at_call 68; refine (HB2.out _).mono ?_; rintro e w7 ⟨rfl, hb⟩; have H7 := Lib.hid (H6.out.later hb); obtain ⟨r0, r1⟩ := cells2 H7.out.b; have y0 := H7.out.b.frozen 0; have y1 := H7.out.b.frozen 1; obtain ⟨p0, p1⟩ := cells2 H7.out.a; clear hb)
    | (go_at_call 69; refine (HL.out _ H7.out.res).mono ?_; rintro e w8 ⟨rfl, hb⟩; have H8 := Lib.hid (H7.out.later hb); obtain ⟨r0, r1⟩ := cells2 H8.out.b; have y0 := H8.out.b.frozen 0; have y1 := H8.out.b.frozen 1; obtain ⟨p0, p1⟩ := cells2 H8.out.a; clear hb))
  refine bodyPost_ret (run_cell_tmp rfl rfl (load_loss ((H8.out.b.set_ 0 (.string f)).set_ 1 (.string t4)))) rfl ⟨?_, (H8.out.below.setCell (Nat.le_succ _) _).setCell (Nat.le_succ _) _⟩
  rfl
/-- The reference's Late of numbers whose sums and products are not too long. -/
theorem refLossLate_any (f d u : ByteArray) (w : World) (h1 : f.size ≤ 270000) (h2 : d.size ≤ 270000) (h3 : u.size ≤ 270000) (hr : Res w) (hfit : errL f d = 0 → errQ u.data.toList = 0 → fits ((valL (f, d)).1 + 1) = true ∧ fits (((valL (f, d)).1 + 1) * valQ u.data.toList) = true ∧ fits ((valL (f, d)).2 + ((valL (f, d)).1 + 1) * valQ u.data.toList) = true) :
    Calls Tryz.prog 24 #[.agg #[.string f, .string d], .string u] w fun e w' => e = .returned (resL (lateR f d u)) ∧ Below w.heap.size w w' := by
  unfold lateR
  by_cases hL : errL f d = 0
  · rw [if_neg (by omega)]
    by_cases hU : errQ u.data.toList = 0
    · rw [if_neg (by omega)]
      by_cases c1 : cmpQ (valQ u.data.toList) 0 < 0
      · rw [if_pos (.inl c1)]; exact rlate_rng1 f d u w h1 h2 h3 hr hL _ (IsT.of hU) (by rw [le_swap, decide_eq_true c1]; rfl)
      by_cases c2 : cmpQ (valQ u.data.toList) 1 > 0
      · rw [if_pos (.inr c2)]; exact rlate_rng2 f d u w h1 h2 h3 hr hL _ (IsT.of hU) (by rw [le_swap, decide_eq_false c1]; rfl) (by rw [le_gt, decide_eq_true c2]; rfl)
      rw [if_neg (by omega)]
      obtain ⟨f1, f2, f3⟩ := hfit hL hU
      have hl := errL_zero hL
      have hx := rlate_ok f d u w h1 h2 h3 hr (valL (f, d)) _ hl (IsT.of hU) (by rw [le_swap, decide_eq_false c1]; rfl) (by rw [le_gt, decide_eq_false c2]; rfl) f1 f2 f3
      have e : resL (lateL (valL (f, d)) (valQ u.data.toList)) = .tuple #[.agg #[.string f, .string (rT (minQ ((valL (f, d)).2 + ((valL (f, d)).1 + 1) * valQ u.data.toList) 1))], .int .i64 0] := by
        have hf : f = rT (valL (f, d)).1 := hl.f.text
        unfold lateL
        rw [ovr_ok f1]
        dsimp only
        rw [ovr_ok f2]
        dsimp only
        rw [ovr_ok f3]
        show Value.tuple #[lossT _, _] = _
        unfold lossT
        dsimp only
        rw [← hf]
      rw [e]
      exact hx
    · rw [if_pos hU]; exact rlate_err2 f d u w h1 h2 h3 hr hL hU
  · rw [if_pos hL]; exact rlate_err1 f d u w h1 h2 h3 hr hL
end Go.Proofs.YtbfhonhjejeaiaaGreatDoor
namespace Go.Proofs.YtbfhonhjejeaiaaGreatDoor
open Go.RowKit Go.Shelf
open Lim

/-- What is to be reckoned for a given text to be the text of a given number: the digits of its parts. -/
def litB (m : Bool) (ln ld l : List UInt8) (q : Rat) : Bool :=
  NForm ln && NForm ld && decide (dv ld ≠ 0) && decide ((dv ln).gcd (dv ld) = 1) && (!m || decide (dv ln ≠ 0)) && decide (ln.length ≤ 100) && decide (ld.length ≤ 100) &&
    decide (mkQ m (dv ln) (dv ld) = q) && decide ((if m then [45] else []) ++ ln ++ (if dv ld = 1 then [] else 47 :: ld) = l)
theorem isT_lit (m : Bool) (ln ld : List UInt8) {l : List UInt8} {q : Rat} (h : litB m ln ld l q = true) : IsT ⟨l.toArray⟩ q ∧ Sz 100 q := by
  unfold litB at h
  simp only [Bool.and_eq_true, decide_eq_true_eq, Bool.or_eq_true, Bool.not_eq_true'] at h
  obtain ⟨⟨⟨⟨⟨⟨⟨⟨h1, h2⟩, h3⟩, h4⟩, h5⟩, h6⟩, h7⟩, h8⟩, h9⟩ := h
  have e1 := NForm.eq h1
  have e2 := NForm.eq h2
  have hm : m = true → dv ln ≠ 0 := fun hm => by
    rcases h5 with h5 | h5
    · rw [hm] at h5; cases h5
    · exact h5
  obtain ⟨p1, p2, p3⟩ := mkQ_low (m := m) h3 h4
  have hs : Sz 100 q := by
    rw [← h8, sz_iff (by decide), p1, p2, ← Lib.decDigits_length, ← Lib.decDigits_length, e1, e2]
    exact ⟨h6, h7⟩
  refine ⟨⟨?_, hs.mono (by decide)⟩, hs⟩
  rw [← h8, text_q h3 h4 hm, e1, e2, h9]
theorem fits_lit {q : Rat} (h : decide (nm q < 10 ^ 60 ∧ q.den < 10 ^ 60) = true) : fits q = true :=
  have h2 : nm q < 10 ^ 60 ∧ q.den < 10 ^ 60 := of_decide_eq_true h
  fits_sz.2 (Sz.mono (j := 60) h2 (by decide))
theorem t_2_3 : IsT ⟨#[50, 47, 51]⟩ (2/3) := (isT_lit false [50] [51] (by decide +kernel)).1
theorem t_3_2 : IsT ⟨#[51, 47, 50]⟩ (3/2) := (isT_lit false [51] [50] (by decide +kernel)).1
theorem t_1_10 : IsT ⟨#[49, 47, 49, 48]⟩ (1/10) := (isT_lit false [49] [49, 48] (by decide +kernel)).1
end Go.Proofs.YtbfhonhjejeaiaaGreatDoor
namespace Go.Proofs.YtbfhonhjejeaiaaGreatDoor
open Go.RowKit Go.Shelf
open Lim

theorem valL_is {f d : ByteArray} {l : LQ} (h : LossIs f d l) : valL (f, d) = l := by
  unfold valL
  rw [h.f.val, h.d.val]
theorem firstL_is {f d f' d' : ByteArray} {a b : LQ} (ha : LossIs f d a) (hb : LossIs f' d' b) : firstL [(f, d), (f', d')] = 0 := by
  rw [firstL_two]; dsimp only; rw [ha.err, hb.err]; rfl
theorem addX {f d f' d' x y : ByteArray} {a b : LQ} (ha : LossIs f d a) (hb : LossIs f' d' b) (hx : IsT x (a.1 * b.1)) (h2 : fits (a.2 + b.2) = true) (hy : IsT y (minQ (a.2 + b.2) 1)) :
    resL (foldR plusL [(f, d), (f', d')]) = .tuple #[.agg #[.string x, .string y], .int .i64 0] := by
  rw [foldR_two (fun a ha => plusL_none ha) (firstL_is ha hb), valL_is ha, valL_is hb, plusL_ok hx.fits h2]
  unfold resL lossT
  dsimp only
  rw [← hx.text, ← hy.text]
theorem groupX {f d x y : ByteArray} {l : LQ} {k : Nat} {p s : Rat} (hl : LossIs f d l) (hk : k ≤ 50) (hp : powsum l.1 k = .ok (p, s)) (hx : IsT x p) (h2 : fits (l.2 * s) = true) (hy : IsT y (minQ (l.2 * s) 1)) :
    resL (groupR f d (k : Int)) = .tuple #[.agg #[.string x, .string y], .int .i64 0] := by
  unfold groupR
  rw [if_neg (by rw [hl.err]; decide), if_neg (by omega), valL_is hl, Int.toNat_natCast]
  unfold groupL
  rw [hp]
  dsimp only
  rw [ovr_ok h2]
  unfold resL lossT
  dsimp only
  rw [← hx.text, ← hy.text]
theorem lateX {f d u x : ByteArray} {l : LQ} {q : Rat} (hl : LossIs f d l) (hu : IsT u q) (h0 : 0 ≤ q) (h1 : q ≤ 1) (f1 : fits (l.1 + 1) = true) (f2 : fits ((l.1 + 1) * q) = true) (f3 : fits (l.2 + (l.1 + 1) * q) = true) (hx : IsT x (minQ (l.2 + (l.1 + 1) * q) 1)) :
    resL (lateR f d u) = .tuple #[.agg #[.string f, .string x], .int .i64 0] := by
  unfold lateR
  rw [if_neg (by rw [hl.err]; decide), if_neg (by rw [hu.err]; decide), hu.val, if_neg, valL_is hl]
  · unfold lateL
    rw [ovr_ok f1]
    dsimp only
    rw [ovr_ok f2]
    dsimp only
    rw [ovr_ok f3]
    unfold resL lossT
    dsimp only
    rw [← hx.text, ← hl.f.text]
  · rw [cmpQ_lt, cmpQ_gt]
    intro h
    rcases h with h | h <;> grind
theorem exa : LossIs ⟨#[51, 47, 50]⟩ ⟨#[49, 47, 49, 48]⟩ (3/2, 1/10) := ⟨t_3_2, t_1_10, by decide +kernel, by decide +kernel, by decide +kernel⟩
theorem t_2 : IsT ⟨#[50]⟩ 2 := (isT_lit false [50] [49] (by decide +kernel)).1
theorem exb : LossIs ⟨#[50]⟩ ⟨#[48]⟩ (2, 0) := ⟨t_2, IsT.zero, by decide +kernel, by decide +kernel, by decide +kernel⟩
theorem ex_add : resL (foldR plusL [(⟨#[51, 47, 50]⟩, ⟨#[49, 47, 49, 48]⟩), (⟨#[50]⟩, ⟨#[48]⟩)]) = .tuple #[.agg #[.string ⟨#[51]⟩, .string ⟨#[49, 47, 49, 48]⟩], .int .i64 0] :=
  addX exa exb (by rw [show ((3/2, 1/10) : LQ).1 * ((2, 0) : LQ).1 = 3 by decide +kernel]; exact (isT_lit false [51] [49] (by decide +kernel)).1)
    (fits_lit (by decide +kernel)) (by rw [show minQ (((3/2, 1/10) : LQ).2 + ((2, 0) : LQ).2) 1 = 1/10 by decide +kernel]; exact t_1_10)
theorem pow2 : powsum (3/2) 2 = .ok (9/4, 5/2) := by
  have h0 : powsum (3/2) 0 = .ok (1, 0) := rfl
  have h1 := powsum_ok (p := 1) (s := 0) h0 (fits_lit (by decide +kernel)) (fits_lit (by decide +kernel))
  have h2 := powsum_ok h1 (fits_lit (by decide +kernel)) (fits_lit (by decide +kernel))
  rw [show (1 * (3/2) * (3/2) : Rat) = 9/4 by decide +kernel, show (0 + 1 + 1 * (3/2) : Rat) = 5/2 by decide +kernel] at h2
  exact h2
theorem ex_group : resL (groupR ⟨#[51, 47, 50]⟩ ⟨#[49, 47, 49, 48]⟩ 2) = .tuple #[.agg #[.string ⟨#[57, 47, 52]⟩, .string ⟨#[49, 47, 52]⟩], .int .i64 0] :=
  groupX (k := 2) exa (by decide) pow2 (isT_lit false [57] [52] (by decide +kernel)).1 (fits_lit (by decide +kernel))
    (by rw [show minQ (((3/2, 1/10) : LQ).2 * (5/2)) 1 = 1/4 by decide +kernel]; exact (isT_lit false [49] [52] (by decide +kernel)).1)
theorem t_1_100 : IsT ⟨#[49, 47, 49, 48, 48]⟩ (1/100) := (isT_lit false [49] [49, 48, 48] (by decide +kernel)).1
theorem ex_late : resL (lateR ⟨#[50]⟩ ⟨#[48]⟩ ⟨#[49, 47, 49, 48, 48]⟩) = .tuple #[.agg #[.string ⟨#[50]⟩, .string ⟨#[51, 47, 49, 48, 48]⟩], .int .i64 0] :=
  lateX exb t_1_100 (by decide +kernel) (by decide +kernel) (fits_lit (by decide +kernel)) (fits_lit (by decide +kernel)) (fits_lit (by decide +kernel))
    (by rw [show minQ (((2, 0) : LQ).2 + (((2, 0) : LQ).1 + 1) * (1/100)) 1 = 3/100 by decide +kernel]; exact (isT_lit false [51] [49, 48, 48] (by decide +kernel)).1)
/-- Struct values in blocks of their own. -/
def Held (W : World) (L : List (Nat × ByteArray × ByteArray)) : Prop := ∀ x ∈ L, Blk W x.1 24 #[.string x.2.1, .string x.2.2]
theorem Held.nil (W : World) : Held W [] := fun x hx => by cases hx
theorem Held.later {W W' : World} {L : List (Nat × ByteArray × ByteArray)} (h : Held W L) (hb : Below W.heap.size W W') : Held W' L := fun x hx => (h x hx).below hb (h x hx).lt
theorem Held.push {W : World} {L : List (Nat × ByteArray × ByteArray)} (h : Held W L) (x y : ByteArray) : Held (W.alloc (.cells #[.string x, .string y] 24)) ((W.heap.size, x, y) :: L) := by
  intro z hz
  rcases List.mem_cons.1 hz with rfl | hz
  · exact Blk.new W _ _
  · exact (h z hz).alloc _
theorem Held.at {W : World} {L : List (Nat × ByteArray × ByteArray)} (h : Held W L) {b : Nat} {x y : ByteArray} (hm : (b, x, y) ∈ L) : W.cell? ⟨b, 0, none⟩ = some (.string x) ∧ W.cell? ⟨b, 1, none⟩ = some (.string y) ∧ b < W.heap.size :=
  ⟨(cells2 (h _ hm)).1, (cells2 (h _ hm)).2, (h _ hm).lt⟩
end Go.Proofs.YtbfhonhjejeaiaaGreatDoor
namespace Go.Proofs.YtbfhonhjejeaiaaGreatDoor
open Go.RowKit Go.Shelf
open Lim

set_option maxRecDepth 100000 in
set_option maxHeartbeats 4000000 in
theorem llives_any (w : World) (hr : Res w) : Calls Tryz.prog 13 #[] w fun e w' => e = .returned (.bool true) ∧ Below w.heap.size w w' := by
  have H0 := At2.new w 24 24 #[.string ⟨#[51, 47, 50]⟩, .string ⟨#[49, 47, 49, 48]⟩] #[.string ⟨#[50]⟩, .string ⟨#[48]⟩] hr
  have D0 := Lib.hid (show Held ((w.alloc (.cells #[.string ⟨#[51, 47, 50]⟩, .string ⟨#[49, 47, 49, 48]⟩] 24)).alloc (.cells #[.string ⟨#[50]⟩, .string ⟨#[48]⟩] 24)) [(w.heap.size, ⟨#[51, 47, 50]⟩, ⟨#[49, 47, 49, 48]⟩), (w.heap.size + 1, ⟨#[50]⟩, ⟨#[48]⟩)] from by
    intro x hx
    simp only [List.mem_cons, List.not_mem_nil, or_false] at hx
    rcases hx with rfl | rfl
    · exact H0.a
    · exact H0.b)
  have B0 := Lib.hid H0.below
  have R0 := Lib.hid H0.res
  have HA := Lib.hid (fun (w : World) hr => lossAdd_any ⟨#[51, 47, 50]⟩ ⟨#[49, 47, 49, 48]⟩ ⟨#[50]⟩ ⟨#[48]⟩ w (by decide) (by decide) (by decide) (by decide) hr)
  have HG := Lib.hid (fun (w : World) hr => lossGroup_any ⟨#[51, 47, 50]⟩ ⟨#[49, 47, 49, 48]⟩ 2 w (by decide) (by decide) hr)
  have HT := Lib.hid (fun (w : World) hr => lossLate_any ⟨#[50]⟩ ⟨#[48]⟩ ⟨#[49, 47, 49, 48, 48]⟩ w (by decide) (by decide) (by decide) hr (fun _ _ => by rw [valL_is exb, t_1_100.val]; exact ⟨fits_lit (by decide +kernel), fits_lit (by decide +kernel), fits_lit (by decide +kernel)⟩))
  rw [ex_add] at HA
  rw [ex_group] at HG
  rw [ex_late] at HT
  clear H0 hr
  go_enter Tryz.func13, Tryz.ntmps13
  go_wp2_with (first
    | (go_at_call 15; refine (HA.out _ R0.out).mono ?_; rintro e w1 ⟨rfl, hb⟩; have D1 := Lib.hid (D0.out.later hb); have B1 := Lib.hid (B0.out.trans (hb.mono B0.out.size)); have R1 := Lib.hid (R0.out.below hb); obtain ⟨c1_0a, c1_0b, c1_0l⟩ := D1.out.at (b := w.heap.size) (x := ⟨#[51, 47, 50]⟩) (y := ⟨#[49, 47, 49, 48]⟩) (by simp); obtain ⟨c1_1a, c1_1b, c1_1l⟩ := D1.out.at (b := w.heap.size + 1) (x := ⟨#[50]⟩) (y := ⟨#[48]⟩) (by simp); clear hb)
    | (go_at_call 21; refine (HG.out _ (R1.out.below (below_alloc (Below.refl _ _) _))).mono ?_; rintro e w2 ⟨rfl, hb⟩; have D2 := Lib.hid (Held.later (D1.out.push ⟨#[51]⟩ ⟨#[49, 47, 49, 48]⟩) hb); have B2 := Lib.hid ((below_alloc B1.out (.cells #[.string ⟨#[51]⟩, .string ⟨#[49, 47, 49, 48]⟩] 24)).trans (hb.mono (below_alloc B1.out (.cells #[.string ⟨#[51]⟩, .string ⟨#[49, 47, 49, 48]⟩] 24)).size)); have R2 := Lib.hid (Res.below ((R1.out.below (below_alloc (Below.refl _ _) (.cells #[.string ⟨#[51]⟩, .string ⟨#[49, 47, 49, 48]⟩] 24)))) hb); obtain ⟨c2_0a, c2_0b, c2_0l⟩ := D2.out.at (b := w.heap.size) (x := ⟨#[51, 47, 50]⟩) (y := ⟨#[49, 47, 49, 48]⟩) (by simp); obtain ⟨c2_1a, c2_1b, c2_1l⟩ := D2.out.at (b := w.heap.size + 1) (x := ⟨#[50]⟩) (y := ⟨#[48]⟩) (by simp); obtain ⟨c2_2a, c2_2b, c2_2l⟩ := D2.out.at (b := w1.heap.size) (x := ⟨#[51]⟩) (y := ⟨#[49, 47, 49, 48]⟩) (by simp); clear hb)
    | (go_at_call 23; refine (HT.out _ (R2.out.below (below_alloc (Below.refl _ _) _))).mono ?_; rintro e w3 ⟨rfl, hb⟩; have D3 := Lib.hid (Held.later (D2.out.push ⟨#[57, 47, 52]⟩ ⟨#[49, 47, 52]⟩) hb); have B3 := Lib.hid ((below_alloc B2.out (.cells #[.string ⟨#[57, 47, 52]⟩, .string ⟨#[49, 47, 52]⟩] 24)).trans (hb.mono (below_alloc B2.out (.cells #[.string ⟨#[57, 47, 52]⟩, .string ⟨#[49, 47, 52]⟩] 24)).size)); have R3 := Lib.hid (Res.below ((R2.out.below (below_alloc (Below.refl _ _) (.cells #[.string ⟨#[57, 47, 52]⟩, .string ⟨#[49, 47, 52]⟩] 24)))) hb); obtain ⟨c3_0a, c3_0b, c3_0l⟩ := D3.out.at (b := w.heap.size) (x := ⟨#[51, 47, 50]⟩) (y := ⟨#[49, 47, 49, 48]⟩) (by simp); obtain ⟨c3_1a, c3_1b, c3_1l⟩ := D3.out.at (b := w.heap.size + 1) (x := ⟨#[50]⟩) (y := ⟨#[48]⟩) (by simp); obtain ⟨c3_2a, c3_2b, c3_2l⟩ := D3.out.at (b := w1.heap.size) (x := ⟨#[51]⟩) (y := ⟨#[49, 47, 49, 48]⟩) (by simp); obtain ⟨c3_3a, c3_3b, c3_3l⟩ := D3.out.at (b := w2.heap.size) (x := ⟨#[57, 47, 52]⟩) (y := ⟨#[49, 47, 52]⟩) (by simp); clear hb))
  go_ret
  exact ⟨rfl, below_alloc B3.out _⟩
/-- Whether losses are short. -/
def lightL2 (ls : List L2) : Bool := ls.all fun x => decide (x.1.size ≤ 100) && decide (x.2.size ≤ 100)
theorem lightL2_of {ls : List L2} (h : ∀ (j : Nat) x, j < ls.length → ls[j]? = some x → x.1.size ≤ 100 ∧ x.2.size ≤ 100) : lightL2 ls = true := by
  unfold lightL2
  rw [List.all_eq_true]
  intro x hx
  obtain ⟨j, hj⟩ := List.getElem?_of_mem hx
  have := h j x (List.getElem?_eq_some_iff.1 hj).1 hj
  simp [this.1, this.2]
theorem lightL2_not {ls : List L2} {j : Nat} {x : L2} (hj : ls[j]? = some x) (h : ¬ (x.1.size ≤ 100 ∧ x.2.size ≤ 100)) : lightL2 ls = false := by
  unfold lightL2
  rw [List.all_eq_false]
  refine ⟨x, List.mem_of_getElem? hj, ?_⟩
  simp only [Bool.and_eq_true, decide_eq_true_eq]
  exact h
set_option maxRecDepth 100000 in
set_option maxHeartbeats 4000000 in
theorem llight_any (ls : List L2) (v : Value) (w : World) (hv : LRow w v ls) :
    Calls Tryz.prog 14 #[v] w fun e w' => e = .returned (.bool (lightL2 ls)) ∧ w' = w := by
  obtain ⟨A, c, rfl⟩ := hv.long
  obtain ⟨_, _, _, hlen, hcells⟩ := id hv
  have HCE := Lib.hid hcells
  clear hv hcells
  go_enter Tryz.func14, Tryz.ntmps14
  go_wp2
  go_loopw [3] (fun v3 wr => ∃ k : Nat, k ≤ ls.length ∧ v3 = .int .i64 (k : Int) ∧ Hid (∀ (j : Nat) x, j < k → ls[j]? = some x → x.1.size ≤ 100 ∧ x.2.size ≤ 100) ∧ wr = w) (fun v3 _ => ls.length - (intOf v3).toNat)
  case atStart => exact ⟨0, Nat.zero_le _, rfl, Lib.hid (fun j x h => absurd h (by omega)), rfl⟩
  case round =>
    obtain ⟨k, hk, rfl, HE, rfl⟩ := hrel
    by_cases hlt : k < ls.length
    · obtain ⟨b, o, rfl, hbw, hcell⟩ := HCE.out (by omega)
      obtain ⟨x, hx⟩ : ∃ x, ls[k]? = some x := ⟨_, List.getElem?_eq_getElem hlt⟩
      obtain ⟨c0, c1⟩ := hcell k x hx
      obtain ⟨f, d⟩ := x
      dsimp only at c0 c1
      have hlt' : (k : Int) < (ls.length : Int) := by omega
      have HX := Lib.hid (And.intro hx hlt)
      clear hcell hx hlt
      by_cases g1 : f.size ≤ 100
      · by_cases g2 : d.size ≤ 100
        · have d1 : decide (100 < (f.size : Int)) = false := decide_eq_false (by omega)
          have d2 : decide (100 < (d.size : Int)) = false := decide_eq_false (by omega)
          have HS := Lib.hid (And.intro g1 g2)
          clear g1 g2
          go_wp2
          go_roundw
          case rel => exact ⟨k + 1, HX.out.2, by go_num, Lib.hid (fun j x hj hxj => by
            rcases Nat.lt_or_ge j k with h | h
            · exact HE.out j x h hxj
            · obtain rfl : j = k := by omega
              rw [HX.out.1] at hxj
              cases hxj
              exact HS.out), trivial⟩
          case measure => have := HX.out.2; simp [intOf]; omega
        · have d1 : decide (100 < (f.size : Int)) = false := decide_eq_false (by omega)
          have d2 : decide (100 < (d.size : Int)) = true := decide_eq_true (by omega)
          have HS := Lib.hid (lightL2_not HX.out.1 (fun h => g2 h.2))
          clear g1 g2
          go_wp2
          go_ret
          exact ⟨by rw [HS.out]; rfl, rfl⟩
      · have d1 : decide (100 < (f.size : Int)) = true := decide_eq_true (by omega)
        have HS := Lib.hid (lightL2_not HX.out.1 (fun h => g1 h.1))
        clear g1
        go_wp2
        go_ret
        exact ⟨by rw [HS.out]; rfl, rfl⟩
    · have hlt' : ¬ (k : Int) < (ls.length : Int) := by omega
      have HS := Lib.hid (lightL2_of (fun j x hj hx => HE.out j x (by omega) hx))
      go_wp2
      go_ret
      exact ⟨by rw [HS.out]; rfl, rfl⟩
end Go.Proofs.YtbfhonhjejeaiaaGreatDoor
namespace Go.Proofs.YtbfhonhjejeaiaaGreatDoor
open Go.ChangeShapes Go.WideShapes Go.ChangeAt Go.RowKit

theorem cellsLoss : Tryz.prog.cellsOf 24 = 2 := by kernel_rfl
theorem cellsNum : Tryz.prog.cellsOf 22 = 1 := by kernel_rfl
section
variable {H : Type} {enc : TypeId × Value → H}
set_option maxRecDepth 100000 in
theorem open_loss {W : World} {base b2 : Nat} {sp : Nat → Bool} {held : Bool} {v : Value} {d : DataW H} {p : List MemPlace} (hok : Value.okWide Tryz.prog W .any base 24 v) (h : DataW.Trod enc Tryz.prog W b2 sp held 24 v d p) :
    ∃ f g : ByteArray, v = .agg #[.string f, .string g] ∧ d = .agg [.lit (.string f.data.toList), .lit (.string g.data.toList)] ∧ p = [] ∧ f.size ≤ maxLen ∧ g.size ≤ maxLen := by
  obtain ⟨cs, rfl, hsz⟩ := okWide_struct Tryz.underlying24 hok
  rw [cellsLoss] at hsz
  obtain ⟨l⟩ := cs
  match l, hsz with
  | [c0, c1], _ =>
    obtain ⟨fuel, hf⟩ := h
    obtain ⟨y0, y1, m, hx, _, hy0, hy1⟩ := trod_struct2 Tryz.underlying24 hf
    obtain ⟨a, e0, rfl, wa⟩ := DataW.trod_string Tryz.underlying22 hy0
    obtain ⟨b, e1, rfl, wb⟩ := DataW.trod_string Tryz.underlying22 hy1
    simp [Value.cells, cellsNum] at e0 e1
    subst e0 e1
    simp only [Prod.mk.injEq] at hx
    obtain ⟨rfl, rfl⟩ := hx
    exact ⟨a, b, rfl, rfl, rfl, wa, wb⟩
set_option maxRecDepth 100000 in
theorem shut_loss {W : World} {b2 : Nat} {sp : Nat → Bool} {held : Bool} {f g : ByteArray} (hf : f.size ≤ maxLen) (hg : g.size ≤ maxLen) :
    DataW.Trod enc Tryz.prog W b2 sp held 24 (.agg #[.string f, .string g]) (.agg [.lit (.string f.data.toList), .lit (.string g.data.toList)]) [] := ⟨2, by
  have f0 : DataW.trod enc Tryz.prog W b2 sp held 1 22 [.string f] = some (.lit (.string f.data.toList), []) := by simp [DataW.trod, Tryz.underlying22, hf]
  have f1 : DataW.trod enc Tryz.prog W b2 sp held 1 22 [.string g] = some (.lit (.string g.data.toList), []) := by simp [DataW.trod, Tryz.underlying22, hg]
  have := trod_struct2_mk (enc := enc) (w := W) (base := b2) (spare := sp) (held := held) (n := 1) (cs := [.string f, .string g]) Tryz.underlying24 (by simp [cellsLoss]) (by simpa [cellsNum] using f0) (by simpa [cellsNum] using f1)
  simpa [Value.cells] using this⟩
end
end Go.Proofs.YtbfhonhjejeaiaaGreatDoor
