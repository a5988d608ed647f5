/- The reference 08: Moment (printed by mkdref.py). DistMeasures, as a walk (printed by mkdlaw1.py). Opening and shutting an argument that is a loss. Slices of structs with slices in them, in memory: how they read, how they are built, what keeps them. Plain words, no program. Opening arguments: lists of masses, of losses, of strings. Facts of the program that each card asks. -/
import Derived.Test.YtigapglmipmbeaaGreatDoorLwDistMeasures05
import Derived.Test.YtigapglmipmbeaaGreatDoorLwDistMeasures01
import Derived.Test.YtigapglmipmbeaaGreatDoorRb10
import Derived.ProofKit
import Derived.OpenShut
import Derived.ShutString
import Derived.ChangeOld
import Derived.ChangeSame
import Derived.Test.YtigapglmipmbeaaGreatDoorProg
import Derived.WalkKit
import Derived.Handy
import Derived.Lib.Hide
import Derived.BigQuiet
import Derived.Maps.OwnSet
import Derived.Maps.StringElems
import Derived.Maps.AppendAt
import Derived.WalkLawsBesides
import Derived.WalkSpells
import Derived.ChangeSlices
import Derived.Deep.Slices
import Derived.Lib.SmallJoins
import Derived.Test.YtigapglmipmbeaaGreatDoorCards
import Derived.Test.YtigapglmipmbeaaGreatDoorTie
import Derived.KernelRfl
import Derived.SevenTiedAt
namespace Go.Proofs.YtigapglmipmbeaaGreatDoor
open Go.RowKit Go.Shelf
open Lim

attribute [local go_sem] Oper.semAt_some

set_option maxRecDepth 100000 in
set_option maxHeartbeats 8000000 in
/-- The reference's Moment, of short numbers. -/
theorem rdmoment_any (p q : List L2) (vp vq : Value) (n : Int) (j : Nat) (w : World) (hp : LRow w vp p) (hq : LRow w vq q) (sp : Short p) (sq : Short q) (kp : ∀ x ∈ p, x.2.size ≤ j) (kq : ∀ x ∈ q, x.2.size ≤ j) (hj : j * 8 + 1 ≤ maxD) (hr : Res w) :
    Calls Tryz.prog 104 #[vp, vq, .int .i64 n] w fun e w' => e = .returned (momV p q n) ∧ Below w.heap.size w w' := by
  have N0 := Lib.hid (NW.refl hr)
  have HC := Lib.hid (rdboth_any p q vp vq w hp hq sp sq hr)
  have HVP := Lib.hid hp
  have HVQ := Lib.hid hq
  have HSH := Lib.hid (And.intro sp sq)
  have HWI := Lib.hid (fun W (hW : NW w W) => rdwithin_any p q vp vq W (hp.below hW.below) (hq.below hW.below))
  obtain ⟨A, c, rfl, hlen, hcells⟩ := hp
  obtain ⟨A', c', rfl, hlen', hcells'⟩ := hq
  clear hcells hcells' sp sq hr
  by_cases h0 : chk2 p q = 0
  · rw [h0] at HC
    change Hid (Calls _ _ _ _ fun e w' => e = .returned (.int .i64 0) ∧ _) at HC
    by_cases h1 : n < 1
    · have HR := Lib.hid (show momV p q n = .tuple #[.string ⟨#[]⟩, .bool false, .int .i64 2] by unfold momV; rw [if_neg (by simpa using h0), if_pos (.inl h1)])
      have d1 : decide (n < 1) = true := decide_eq_true h1
      clear h0 h1
      go_enter Tryz.func104, Tryz.ntmps104
      go_wp2_with (go_at_call 114; refine (HC.out).mono ?_; rintro e w1 ⟨rfl, hb⟩; have N1 := Lib.hid (N0.out.later hb); clear hb)
      go_ret3
      rw [HR.out]
      exact ⟨rfl, N1.out.below⟩
    · have d1 : decide (n < 1) = false := decide_eq_false h1
      by_cases h2 : 8 < n
      · have HR := Lib.hid (show momV p q n = .tuple #[.string ⟨#[]⟩, .bool false, .int .i64 2] by unfold momV; rw [if_neg (by simpa using h0), if_pos (.inr h2)])
        have d2 : decide (8 < n) = true := decide_eq_true h2
        clear h0 h1 h2
        go_enter Tryz.func104, Tryz.ntmps104
        go_wp2_with (go_at_call 114; refine (HC.out).mono ?_; rintro e w1 ⟨rfl, hb⟩; have N1 := Lib.hid (N0.out.later hb); clear hb)
        go_ret3
        rw [HR.out]
        exact ⟨rfl, N1.out.below⟩
      · have d2 : decide (8 < n) = false := decide_eq_false h2
        have HR0 := Lib.hid (show momV p q n = if inX p q = false then .tuple #[.string ⟨#[]⟩, .bool false, .int .i64 0] else resF (foldX (powsX n q) zT p) by unfold momV; rw [if_neg (by simpa using h0), if_neg (by omega)])
        have hc0 := chk2_both h0
        cases hi : inX p q with
        | false =>
          have HR := Lib.hid (show momV p q n = .tuple #[.string ⟨#[]⟩, .bool false, .int .i64 0] by rw [HR0.out, if_pos hi])
          rw [hi] at HWI
          clear h0 h1 h2 hi hc0
          go_enter Tryz.func104, Tryz.ntmps104
          go_wp2_with (first
            | (go_at_call 114; refine HC.out.mono ?_; rintro e w1 ⟨rfl, hb⟩; have N1 := Lib.hid (N0.out.later hb); clear hb)
            | (go_at_call 159; refine (HWI.out _ N1.out).mono ?_; rintro e w2 ⟨rfl, hw⟩; have N2 := Lib.hid (show NW w w2 by rw [hw]; exact N1.out); clear hw))
          go_ret3
          rw [HR.out]
          exact ⟨rfl, N2.out.below⟩
        | true =>
          have HR := Lib.hid (show momV p q n = resF (foldX (powsX n q) zT p) by rw [HR0.out, if_neg (by rw [hi]; decide)])
          rw [hi] at HWI
          have HPT0 := Lib.hid (show ∀ x ∈ p, Ret 186 #[.string x.2, .string (atT q x.1), .int .i64 n] (resX (powsX n q x)) from fun x hx => by
            obtain ⟨y, hy, _, e2⟩ := atT_mem (inX_iff.1 hi x hx)
            have hpx := (chkD_zero hc0.1).1.plus _ (List.mem_map_of_mem hx)
            have hqy := (chkD_zero hc0.2).1.plus _ (List.mem_map_of_mem hy)
            have ho := (chkD_zero hc0.1).2.1 x hx
            have hoy := (chkD_zero hc0.2).2.1 y hy
            rw [← e2] at hoy
            have hqy2 : 0 < valQ (atT q x.1).data.toList := by rw [e2]; exact hqy
            have kpx : Sz j (valX x) := sz_of_text ho (by rw [← size_list]; exact kp x hx)
            have kqy : Sz j (valQ (atT q x.1).data.toList) := sz_of_text hoy (by rw [← size_list, e2]; exact kq y hy)
            rw [powsX_px]
            exact rpart_any (IsT.of ho) (IsT.of hoy) hpx hqy2 kpx kqy hj (by omega) (by omega))
          clear h0 h1 h2 hi hc0 kp kq hj
          go_enter Tryz.func104, Tryz.ntmps104
          go_wp2_with (first
            | (go_at_call 114; refine HC.out.mono ?_; rintro e w1 ⟨rfl, hb⟩; have N1 := Lib.hid (N0.out.later hb); clear hb)
            | (go_at_call 159; refine (HWI.out _ N1.out).mono ?_; rintro e w2 ⟨rfl, hw⟩; have N2 := Lib.hid (show NW w w2 by rw [hw]; exact N1.out); clear hw))
          go_loopw [10, 11] (fun v10 v11 wr => ∃ (k : Nat) (s : ByteArray), k ≤ p.length ∧ v11 = .int .i64 (k : Int) ∧ v10 = .string s ∧ Hid (errQ s.data.toList = 0 ∧ foldX (powsX n q) zT p = foldX (powsX n q) s (p.drop k)) ∧ Hid (NW w wr)) (fun _ v11 _ => p.length - (intOf v11).toNat)
          case atStart => exact ⟨0, zT, Nat.zero_le _, rfl, rfl, Lib.hid ⟨err_zT, by simp⟩, N2⟩
          case round =>
            clear N0 N1 N2 HC HWI HR0
            obtain ⟨k, s, hk, rfl, rfl, HE, HN⟩ := hrel
            by_cases hlt : k < p.length
            · obtain ⟨x, hx⟩ : ∃ x, p[k]? = some x := ⟨_, List.getElem?_eq_getElem hlt⟩
              obtain ⟨b, o, c2, e', hb2, c0, c1⟩ := HVP.out.at HN.out.below hx
              simp only [Value.slice.injEq, true_and] at e'
              obtain ⟨rfl, rfl⟩ := e'
              have hlt' : (k : Int) < (p.length : Int) := by omega
              have z0 : ∀ z : LaterW wr, z.W.cell? ⟨b, o + k * 2, none⟩ = some (.string x.1) := fun z => (z.h.cell (p := ⟨b, o + k * 2, none⟩) hb2).trans c0
              have z1 : ∀ z : LaterW wr, z.W.cell? ⟨b, o + k * 2 + 1, none⟩ = some (.string x.2) := fun z => (z.h.cell (p := ⟨b, o + k * 2 + 1, none⟩) hb2).trans c1
              have HAT := Lib.hid (fun W (hW : Below wr.heap.size wr W) => rdAt_any q _ x.1 W ((HVQ.out.below HN.out.below).below hW))
              have HPT := Lib.hid (HPT0.out x (List.mem_of_getElem? hx))
              have HP0 := Lib.hid (show foldX (powsX n q) zT p = foldX (powsX n q) s (x :: p.drop (k + 1)) by rw [HE.out.2, drop_of hx])
              have HLT := Lib.hid (And.intro hlt hlt')
              cases hd : powsX n q x with
              | error m =>
                have HR2 := Lib.hid (show foldX (powsX n q) zT p = .error m by rw [HP0.out]; exact foldX_err hd)
                have hm := ne_zero (powsX_ne hd)
                rw [hd] at HPT
                change Hid (Ret _ _ (.tuple #[.string ⟨#[]⟩, .int .i64 (m : Int)])) at HPT
                obtain ⟨y, d⟩ := x
                dsimp only at c0 c1 z0 z1 HAT HPT
                clear hx hlt c0 c1 hd HPT0
                go_wp2
                refine wp_region_fast (by kernel_rfl) (by kernel_rfl) (by kernel_rfl) ?_
                repeat (go_big_quiet_step (first
                  | (go_at_call 39; refine (HAT.out _ (LaterW.h _)).mono ?_; rintro e w99 ⟨rfl, rfl⟩; exact ⟨rfl, ⟨_, rfl⟩⟩)
                  | (go_at_call 186; refine (HPT.out _ (HN.out.res.below (LaterW.h _))).mono ?_; rintro e w99 ⟨rfl, hb9⟩; exact ⟨rfl, ⟨⟨w99, (LaterW.h _).trans (hb9.mono (LaterW.h _).size)⟩, rfl⟩⟩)))
                refine wpQuiet_nil ?_
                rintro _ ⟨z, rfl⟩
                have N3 := Lib.hid (HN.out.later z.h)
                go_wp2
                go_ret3
                rw [HR.out, HR2.out]
                exact ⟨rfl, N3.out.below⟩
              | ok t =>
                rw [hd] at HPT
                change Hid (Ret _ _ (.tuple #[.string t, .int .i64 0])) at HPT
                have HPE := Lib.hid hd
                have HAD := Lib.hid (retRPlX (size_ok HE.out.1) (size_ok (powsX_fine hd)))
                obtain ⟨y, d⟩ := x
                dsimp only at c0 c1 z0 z1 HAT HPT
                clear hx hlt c0 c1 hd
                cases ha : plX s t with
                | error m =>
                  rw [ha] at HAD
                  have HR2 := Lib.hid (show foldX (powsX n q) zT p = .error m by rw [HP0.out]; exact foldX_err2 HPE.out ha)
                  have hz := ne_zero (exQ_err ha)
                  change Hid (Ret _ _ (.tuple #[.string ⟨#[]⟩, .int .i64 (m : Int)])) at HAD
                  clear ha HPT0
                  go_wp2
                  refine wp_region_fast (by kernel_rfl) (by kernel_rfl) (by kernel_rfl) ?_
                  repeat (go_big_quiet_step (first
                    | (go_at_call 39; refine (HAT.out _ (LaterW.h _)).mono ?_; rintro e w99 ⟨rfl, rfl⟩; exact ⟨rfl, ⟨_, rfl⟩⟩)
                    | (go_at_call 186; refine (HPT.out _ (HN.out.res.below (LaterW.h _))).mono ?_; rintro e w99 ⟨rfl, hb9⟩; exact ⟨rfl, ⟨⟨w99, (LaterW.h _).trans (hb9.mono (LaterW.h _).size)⟩, rfl⟩⟩)))
                  refine wpQuiet_nil ?_
                  rintro _ ⟨z, rfl⟩
                  have N3 := Lib.hid (HN.out.later z.h)
                  go_wp2_with (go_at_call 59; refine (HAD.out _ N3.out.res).mono ?_; rintro e w5 ⟨rfl, hb⟩; have N5 := Lib.hid (N3.out.later hb); clear hb)
                  go_ret3
                  rw [HR.out, HR2.out]
                  exact ⟨rfl, N5.out.below⟩
                | ok u =>
                  rw [ha] at HAD
                  have HR2 := Lib.hid (show foldX (powsX n q) zT p = foldX (powsX n q) u (p.drop (k + 1)) by rw [HP0.out]; exact foldX_ok HPE.out ha)
                  change Hid (Ret _ _ (.tuple #[.string u, .int .i64 0])) at HAD
                  have HER := Lib.hid (plX_ok ha)
                  clear ha
                  go_wp2
                  refine wp_region_fast (by kernel_rfl) (by kernel_rfl) (by kernel_rfl) ?_
                  repeat (go_big_quiet_step (first
                    | (go_at_call 39; refine (HAT.out _ (LaterW.h _)).mono ?_; rintro e w99 ⟨rfl, rfl⟩; exact ⟨rfl, ⟨_, rfl⟩⟩)
                    | (go_at_call 186; refine (HPT.out _ (HN.out.res.below (LaterW.h _))).mono ?_; rintro e w99 ⟨rfl, hb9⟩; exact ⟨rfl, ⟨⟨w99, (LaterW.h _).trans (hb9.mono (LaterW.h _).size)⟩, rfl⟩⟩)))
                  refine wpQuiet_nil ?_
                  rintro _ ⟨z, rfl⟩
                  have N3 := Lib.hid (HN.out.later z.h)
                  go_wp2_with (go_at_call 59; refine (HAD.out _ N3.out.res).mono ?_; rintro e w5 ⟨rfl, hb⟩; have N5 := Lib.hid (N3.out.later hb); clear hb)
                  go_roundw
                  case rel => exact ⟨k + 1, u, HLT.out.1, by go_num, rfl, Lib.hid ⟨HER.out, HR2.out⟩, N5⟩
                  case measure => have := HLT.out.1; simp [intOf]; omega
            · have hlt' : ¬ (k : Int) < (p.length : Int) := by omega
              obtain rfl : k = p.length := by omega
              have HR2 := Lib.hid (show foldX (powsX n q) zT p = .ok s by
                have := HE.out.2
                rwa [List.drop_length] at this)
              clear hlt
              go_wp2
              go_ret3
              rw [HR.out, HR2.out]
              exact ⟨rfl, HN.out.below⟩
  · have HR := Lib.hid (show momV p q n = .tuple #[.string ⟨#[]⟩, .bool false, .int .i64 (chk2 p q : Int)] by unfold momV; rw [if_pos h0])
    have hm := ne_zero h0
    clear h0
    go_enter Tryz.func104, Tryz.ntmps104
    go_wp2_with (go_at_call 114; refine (HC.out).mono ?_; rintro e w1 ⟨rfl, hb⟩; have N1 := Lib.hid (N0.out.later hb); clear hb)
    go_ret3
    rw [HR.out]
    exact ⟨rfl, N1.out.below⟩
end Go.Proofs.YtigapglmipmbeaaGreatDoor
namespace Go.Proofs.YtigapglmipmbeaaGreatDoor
open Go.RowKit Go.Shelf
open Lim

theorem facV_tup (p q : List L2) : ∃ a b c, facV p q = .tuple #[.string a, .bool b, .int .i64 c] := by
  unfold facV
  split
  · exact ⟨_, _, _, rfl⟩
  · split
    · exact ⟨_, _, _, rfl⟩
    · cases mostX q zT p
      · exact ⟨_, _, _, rfl⟩
      · exact ⟨_, _, _, rfl⟩
theorem momV_tup (p q : List L2) (n : Int) : ∃ a b c, momV p q n = .tuple #[.string a, .bool b, .int .i64 c] := by
  unfold momV
  split
  · exact ⟨_, _, _, rfl⟩
  · split
    · exact ⟨_, _, _, rfl⟩
    · split
      · exact ⟨_, _, _, rfl⟩
      · cases foldX (powsX n q) zT p
        · exact ⟨_, _, _, rfl⟩
        · exact ⟨_, _, _, rfl⟩
set_option maxRecDepth 100000 in
set_option maxHeartbeats 16000000 in
/-- DistMeasures. -/
theorem distMeasures_any (p q : List L2) (vp vq : Value) (f : ByteArray) (n : Int) (w : World) (hp : LRowW w vp p) (hq : LRowW w vq q) (hf : f.size ≤ maxLen) (hn1 : -9223372036854775808 ≤ n) (hn2 : n ≤ 9223372036854775807) (hr : Res w) :
    Calls Tryz.prog 17 #[vp, vq, .string f, .int .i64 n] w fun e w' => e = .returned (.bool true) ∧ Below w.heap.size w w' := by
  have N0 := Lib.hid (NW.refl hr)
  have HLV := Lib.hid (fun (w : World) hr => dlives_any w hr)
  have HLI := Lib.hid (fun (W : World) (hW : NW w W) => light8_any [p, q] (.slice (some ⟨W.heap.size, 0, none⟩) 2 2) (W.alloc (.cells #[vp, vq] 22))
    (LLRow.ofBlk (vs := [(vp, p), (vq, q)]) (Blk.new W 22 #[vp, vq]) rfl (by simp) (fun x hx => by
      have hb := below_alloc hW.below (.cells #[vp, vq] 22)
      simp only [List.mem_cons, List.not_mem_nil, or_false] at hx
      rcases hx with rfl | rfl
      · exact hp.below hb
      · exact hq.below hb)))
  obtain ⟨A, c, rfl, _, _⟩ := id hp
  obtain ⟨A', c', rfl, _, _⟩ := id hq
  have HP := Lib.hid hp
  have HQ := Lib.hid hq
  clear hp hq hr
  cases hl : lightsD 16 12 24 [p, q] with
  | false =>
    rw [hl] at HLI
    clear hl
    have TK0 : True := trivial
    have TK1 : True := trivial
    go_enter Tryz.func17, Tryz.ntmps17
    go_wp2_with ((clear TK0; go_at_call 21; refine (HLV.out _ N0.out.res).mono ?_; rintro e w1 ⟨rfl, hb⟩; have N1 := Lib.hid (N0.out.later hb); clear hb))
    go_wp2_with ((clear TK1; go_at_call 22; refine (HLI.out _ N1.out).mono ?_; rintro e w2 ⟨rfl, hw⟩; have N2 := Lib.hid (show NW w w2 by rw [hw]; exact N1.out.alloc _); clear hw))
    go_wp2
    go_ret
    exact ⟨rfl, N2.out.below⟩
  | true =>
    rw [hl] at HLI
    by_cases h24 : f.size ≤ 24
    · have t1 : decide (24 < (f.size : Int)) = false := decide_eq_false (by omega)
      have t1n : decide (24 < f.size) = false := decide_eq_false (by omega)
      have hall : ∀ ls ∈ [p, q], ls.length ≤ 16 ∧ ∀ x ∈ ls, x.1.size ≤ 12 ∧ x.2.size ≤ 24 := fun ls h => lightD_iff.1 (List.all_eq_true.1 hl ls h)
      obtain ⟨lp, sp⟩ := hall p (by simp)
      obtain ⟨lq, sq⟩ := hall q (by simp)
      have shp : Short p := fun x hx => ⟨Nat.le_trans (sp x hx).1 (by omega), Nat.le_trans (sp x hx).2 (by omega)⟩
      have shq : Short q := fun x hx => ⟨Nat.le_trans (sq x hx).1 (by omega), Nat.le_trans (sq x hx).2 (by omega)⟩
      have hf2 : f.size ≤ 270000 := by omega
      have rp := fun (W : World) (hW : NW w W) => (HP.out.below hW.below).row (by omega)
      have rq := fun (W : World) (hW : NW w W) => (HQ.out.below hW.below).row (by omega)
      have HD := Lib.hid (fun W (hW : NW w W) => ddelta_any p q _ _ f W (rp W hW) (rq W hW) shp shq hf2 hW.res)
      have HD2 := Lib.hid (fun W (hW : NW w W) => rddelta_any p q _ _ f W (rp W hW) (rq W hW) shp shq hf2 hW.res)
      have HI := Lib.hid (fun W (hW : NW w W) => ddistance_any p q _ _ W (rp W hW) (rq W hW) shp shq hW.res)
      have HI2 := Lib.hid (fun W (hW : NW w W) => rddistance_any p q _ _ W (rp W hW) (rq W hW) shp shq hW.res)
      have HF := Lib.hid (fun W (hW : NW w W) => dfactor_any p q _ _ W (rp W hW) (rq W hW) shp shq hW.res)
      have HF2 := Lib.hid (fun W (hW : NW w W) => rdfactor_any p q _ _ W (rp W hW) (rq W hW) shp shq hW.res)
      have HM := Lib.hid (fun W (hW : NW w W) => dmoment_any p q _ _ n W (rp W hW) (rq W hW) shp shq hW.res)
      have HM2 := Lib.hid (fun W (hW : NW w W) => rdmoment_any p q _ _ n 24 W (rp W hW) (rq W hW) shp shq (fun x hx => (sp x hx).2) (fun x hx => (sq x hx).2) (by decide) hW.res)
      obtain ⟨a1, a2, e1⟩ := resX_tup (deltaX p q f)
      obtain ⟨b1, b2, e2⟩ := resX_tup (deltaX p q oT)
      obtain ⟨c1, c2, c3, e3⟩ := facV_tup p q
      obtain ⟨d1, d2, d3, e4⟩ := momV_tup p q n
      rw [e1] at HD HD2
      rw [e2] at HI HI2
      rw [e3] at HF HF2
      rw [e4] at HM HM2
      clear e1 e2 e3 e4 hl hall lp sp lq sq shp shq hf2 rp rq h24
      have TK0 : True := trivial
      have TK1 : True := trivial
      have TK2 : True := trivial
      have TK3 : True := trivial
      have TK4 : True := trivial
      have TK5 : True := trivial
      have TK6 : True := trivial
      have TK7 : True := trivial
      have TK8 : True := trivial
      have TK9 : True := trivial
      go_enter Tryz.func17, Tryz.ntmps17
      go_wp2_with ((clear TK0; go_at_call 21; refine (HLV.out _ N0.out.res).mono ?_; rintro e w1 ⟨rfl, hb⟩; have N1 := Lib.hid (N0.out.later hb); clear hb))
      go_wp2_with ((clear TK1; go_at_call 22; refine (HLI.out _ N1.out).mono ?_; rintro e w2 ⟨rfl, hw⟩; have N2 := Lib.hid (show NW w w2 by rw [hw]; exact N1.out.alloc _); clear hw))
      go_wp2_with ((clear TK2; go_at_call 45; refine (HD.out _ N2.out).mono ?_; rintro e w3 ⟨rfl, hb⟩; have N3 := Lib.hid (N2.out.later hb); clear hb))
      go_wp2_with ((clear TK3; go_at_call 102; refine (HD2.out _ N3.out).mono ?_; rintro e w4 ⟨rfl, hb⟩; have N4 := Lib.hid (N3.out.later hb); clear hb))
      go_wp2_with ((clear TK4; go_at_call 46; refine (HI.out _ N4.out).mono ?_; rintro e w5 ⟨rfl, hb⟩; have N5 := Lib.hid (N4.out.later hb); clear hb))
      go_wp2_with ((clear TK5; go_at_call 103; refine (HI2.out _ N5.out).mono ?_; rintro e w6 ⟨rfl, hb⟩; have N6 := Lib.hid (N5.out.later hb); clear hb))
      go_wp2_with ((clear TK6; go_at_call 47; refine (HF.out _ N6.out).mono ?_; rintro e w7 ⟨rfl, hb⟩; have N7 := Lib.hid (N6.out.later hb); clear hb))
      go_wp2_with ((clear TK7; go_at_call 63; refine (HF2.out _ N7.out).mono ?_; rintro e w8 ⟨rfl, hb⟩; have N8 := Lib.hid (N7.out.later hb); clear hb))
      go_wp2_with ((clear TK8; go_at_call 48; refine (HM.out _ N8.out).mono ?_; rintro e w9 ⟨rfl, hb⟩; have N9 := Lib.hid (N8.out.later hb); clear hb))
      go_wp2_with ((clear TK9; go_at_call 104; refine (HM2.out _ N9.out).mono ?_; rintro e w10 ⟨rfl, hb⟩; have N10 := Lib.hid (N9.out.later hb); clear hb))
      go_wp2
      go_ret
      exact ⟨rfl, N10.out.below⟩
    · have t1 : decide (24 < (f.size : Int)) = true := decide_eq_true (by omega)
      have t1n : decide (24 < f.size) = true := decide_eq_true (by omega)
      clear hl h24
      have TK0 : True := trivial
      have TK1 : True := trivial
      go_enter Tryz.func17, Tryz.ntmps17
      go_wp2_with ((clear TK0; go_at_call 21; refine (HLV.out _ N0.out.res).mono ?_; rintro e w1 ⟨rfl, hb⟩; have N1 := Lib.hid (N0.out.later hb); clear hb))
      go_wp2_with ((clear TK1; go_at_call 22; refine (HLI.out _ N1.out).mono ?_; rintro e w2 ⟨rfl, hw⟩; have N2 := Lib.hid (show NW w w2 by rw [hw]; exact N1.out.alloc _); clear hw))
      go_wp2
      go_ret
      exact ⟨rfl, N2.out.below⟩
end Go.Proofs.YtigapglmipmbeaaGreatDoor
namespace Go.Proofs.YtigapglmipmbeaaGreatDoor
open Go.ChangeShapes Go.WideShapes Go.ChangeAt Go.RowKit

section
variable {H : Type} {enc : TypeId × Value → H}
end
end Go.Proofs.YtigapglmipmbeaaGreatDoor
namespace Go.Proofs.YtigapglmipmbeaaGreatDoor
open Go.RowKit

/-- A kind of elements: its type, its number of cells, how its cells hold a datum (the slices in it lie in blocks that C allows), the types of those slices' elements. -/
structure Kind (α : Type) where
  ty : TypeId
  k : Nat
  is : (C : TypeId → Nat → Prop) → World → List Value → α → Prop
  inner : List TypeId
  len : ∀ {C w l x}, is C w l x → l.length = k
  keep : ∀ {C C' : TypeId → Nat → Prop} {w w' : World} {l x}, is C w l x → (∀ E b, E ∈ inner → b < w.heap.size → C E b → C' E b ∧ w'.heap[b]? = w.heap[b]?) → is C' w' l x

/-- A slice that reads as xs. -/
def SRow {α : Type} (K : Kind α) (C : TypeId → Nat → Prop) (w : World) (v : Value) (xs : List α) : Prop :=
  ∃ A c, v = .slice A xs.length c ∧ xs.length ≤ c ∧ c ≤ maxLen ∧ (0 < xs.length → ∃ b o, A = some ⟨b, o, none⟩ ∧ C K.ty b ∧ b < w.heap.size ∧
    ∀ (j : Nat) (x : α), xs[j]? = some x → ∃ l, K.is C w l x ∧ ∀ (i : Nat) (u : Value), l[i]? = some u → w.cell? ⟨b, o + j * K.k + i, none⟩ = some u)

section
variable {α : Type} {K : Kind α} {C C' : TypeId → Nat → Prop} {w w' : World} {v : Value} {xs : List α}

theorem SRow.keep (h : SRow K C w v xs) (hk : ∀ E b, E ∈ K.ty :: K.inner → b < w.heap.size → C E b → C' E b ∧ w'.heap[b]? = w.heap[b]?) : SRow K C' w' v xs := by
  obtain ⟨A, c, e, h1, h2, h3⟩ := h
  refine ⟨A, c, e, h1, h2, fun h0 => ?_⟩
  obtain ⟨b, o, eA, hC, hb, hx⟩ := h3 h0
  obtain ⟨hC', hs⟩ := hk K.ty b (by simp) hb hC
  have hb' : b < w'.heap.size := by
    have : w'.heap[b]? = some w.heap[b] := hs.trans (Array.getElem?_eq_getElem hb)
    exact (Array.getElem?_eq_some_iff.1 this).1
  refine ⟨b, o, eA, hC', hb', fun j x hj => ?_⟩
  obtain ⟨l, hl, hc⟩ := hx j x hj
  exact ⟨l, K.keep hl fun E b hE => hk E b (List.mem_cons_of_mem _ hE), fun i u hi => (World.cell?_of_block hs).trans (hc i u hi)⟩
theorem SRow.nil (K : Kind α) (C : TypeId → Nat → Prop) (w : World) : SRow K C w (.slice none 0 0) [] := ⟨none, 0, rfl, Nat.le_refl _, Nat.zero_le _, fun h => absurd h (by simp)⟩
theorem SRow.take {A : Option Addr} {c : Nat} (h : SRow K C w (.slice A xs.length c) xs) {n : Nat} (hn : n ≤ xs.length) : SRow K C w (.slice A n c) (xs.take n) := by
  obtain ⟨A', c', e, h1, h2, h3⟩ := h
  simp only [Value.slice.injEq, true_and] at e
  obtain ⟨rfl, rfl⟩ := e
  have hl : (xs.take n).length = n := by simp; omega
  refine ⟨A, c, by rw [hl], by omega, h2, fun h0 => ?_⟩
  obtain ⟨b, o, eA, hC, hb, hx⟩ := h3 (by omega)
  refine ⟨b, o, eA, hC, hb, fun j x hj => hx j x ?_⟩
  rw [List.getElem?_take] at hj
  split at hj
  · exact hj
  · cases hj
end

/-- Blocks that the call made: from base on, of the elements' type. -/
def Own (base : Nat) (w : World) (E : TypeId) (b : Nat) : Prop := base ≤ b ∧ ∃ cur, w.heap[b]? = some (.cells cur E (0, 0))
/-- Any block. -/
def Any (_ : TypeId) (_ : Nat) : Prop := True

section
variable {α : Type} {K : Kind α} {base : Nat} {w w' : World} {v v' : Value} {xs : List α}
theorem own_keep {base : Nat} {w w' : World} {row : Option Nat} (hg : w.grownBy w' row) {E : TypeId} {b : Nat} (hE : ∀ r, row = some r → ∀ cur, w.heap[r]? ≠ some (.cells cur E (0, 0))) (h : Own base w E b) : Own base w' E b ∧ w'.heap[b]? = w.heap[b]? := by
  obtain ⟨hb, cur, hc⟩ := h
  have hs : w'.heap[b]? = w.heap[b]? := hg.block b (Array.getElem?_eq_some_iff.1 hc).1 fun e => hE b e.symm cur hc
  exact ⟨⟨hb, cur, hs.trans hc⟩, hs⟩
end
/-! ### Opening an argument -/
open Go.ChangeShapes
section
variable {H : Type} {enc : TypeId × Value → H} {w : World} {base : Nat} {sp : Nat → Bool} {held : Bool} {fuel : Nat}
theorem open_kind {α : Type} {K : Kind α} {T : TypeId} (hu : Tryz.prog.underlying T = some (.slice K.ty)) (hk : Tryz.prog.cellsOf K.ty = K.k) (hk0 : 0 < K.k)
    (hel : ∀ n cs y, DataW.trod enc Tryz.prog w base sp held n K.ty cs = some y → ∃ x, K.is Any w cs x) {cs : List Value} {y : DataW H × List MemPlace} (h : DataW.trod enc Tryz.prog w base sp held fuel T cs = some y) :
    ∃ v xs, cs = [v] ∧ SRow K Any w v xs := by
  rcases Go.Deep.open_slice hu h with ⟨hcs, _⟩ | ⟨a, len, cap, m, n, D, Pl, hcs, _, hl, hm, hmm, _, hx⟩
  · exact ⟨_, [], hcs, SRow.nil K Any w⟩
  · have hlm : len ≤ m := by rw [hmm]; split <;> omega
    have each : ∀ i, i < len → ∃ z : Option α × List Value, ∃ x, z.1 = some x ∧ K.is Any w z.2 x ∧ ∀ j, j < K.k → w.cell? (a.add (i * K.k + j)) = z.2[j]? := by
      intro i hi
      obtain ⟨cs', h1, h2⟩ := hx i (by omega)
      rw [hk] at h1
      obtain ⟨_, hlen, hcell⟩ := World.cells?_some h1
      obtain ⟨x, hi'⟩ := hel _ _ _ h2
      exact ⟨(some x, cs'), x, rfl, hi', fun j hj => by rw [← Go.Deep.add_add]; exact hcell j hj⟩
    obtain ⟨f, hf⟩ := Go.Deep.choose_lt each
    by_cases h0 : 0 < len
    case neg =>
      obtain rfl : len = 0 := by omega
      exact ⟨_, [], hcs, some a, cap, rfl, Nat.zero_le _, hm, fun h => absurd h (by simp)⟩
    have hne : ∃ g : Nat → α, ∀ i, i < len → (f i).1 = some (g i) := by
      obtain ⟨x0, e0, _⟩ := hf 0 h0
      refine ⟨fun i => (f i).1.getD x0, fun i hi => ?_⟩
      obtain ⟨x, e, _⟩ := hf i hi
      simp [e]
    obtain ⟨g, hg⟩ := hne
    refine ⟨_, (List.range len).map g, hcs, some a, cap, by simp, by simpa using hl, hm, fun _ => ?_⟩
    have hcl : ∀ i, i < len → ∀ j u, (f i).2[j]? = some u → w.cell? (a.add (i * K.k + j)) = some u := fun i hi j u hu => by
      obtain ⟨x, e, hi', hc⟩ := hf i hi
      have := K.len hi'
      have hj : j < K.k := by have := (List.getElem?_eq_some_iff.1 hu).1; omega
      rw [hc j hj, hu]
    obtain ⟨b, o, spot⟩ := a
    have h00 : ∃ u, (f 0).2[0]? = some u := by
      obtain ⟨x, e, hi', hc⟩ := hf 0 h0
      have := K.len hi'
      exact ⟨_, List.getElem?_eq_getElem (by omega)⟩
    obtain ⟨u0, hu0⟩ := h00
    have hc0 := hcl 0 h0 0 u0 hu0
    have hspot : spot = none := by simpa [Addr.add] using World.cell?_spot hc0
    subst hspot
    have hlt := World.block_lt_of_cell? w _ hc0
    refine ⟨b, o, rfl, trivial, by simpa [Addr.add] using hlt, fun j x hj => ?_⟩
    have hjl : j < len := by have := (List.getElem?_eq_some_iff.1 hj).1; simpa using this
    obtain ⟨x', e, hi', _⟩ := hf j hjl
    have ex : x = x' := by
      rw [List.getElem?_map, List.getElem?_range hjl] at hj
      simp only [Option.map_some, Option.some.injEq] at hj
      have := hg j hjl
      rw [e] at this
      simp only [Option.some.injEq] at this
      rw [← hj, ← this]
    subst ex
    refine ⟨(f j).2, hi', fun i u hu => ?_⟩
    have := hcl j hjl i u hu
    unfold Addr.add at this
    split at this
    · simp_all
    · rw [show o + j * K.k + i = o + (j * K.k + i) by omega]
      exact this
end
end Go.Proofs.YtigapglmipmbeaaGreatDoor
namespace Go.Proofs.YtigapglmipmbeaaGreatDoor
open Go.RowKit Go.ChangeShapes Go.WideShapes Go.ChangeAt

def pairK (t : TypeId) : Kind L2 where
  ty := t
  k := 2
  is := fun _ _ l x => l = [.string x.1, .string x.2] ∧ x.1.size ≤ maxLen ∧ x.2.size ≤ maxLen
  inner := []
  len := fun h => by rw [h.1]; rfl
  keep := fun h _ => h
theorem cellsMass : Tryz.prog.cellsOf 30 = 2 := by kernel_rfl
theorem cellsNumD : Tryz.prog.cellsOf 23 = 1 := by kernel_rfl
theorem cellsStrD : Tryz.prog.cellsOf 9 = 1 := by kernel_rfl
theorem laidOutD : laidOutB Tryz.prog = true := by kernel_rfl
section
variable {H : Type} {enc : TypeId × Value → H} {w : World} {base : Nat} {sp : Nat → Bool} {held : Bool} {fuel : Nat}
set_option maxRecDepth 100000 in
theorem open_mass1 (n : Nat) (cs : List Value) (y : DataW H × List MemPlace) (h : DataW.trod enc Tryz.prog w base sp held n 30 cs = some y) : ∃ x, (pairK 30).is Any w cs x := by
  obtain ⟨y0, y1, n', _, hl, g0, g1⟩ := trod_struct2 Tryz.underlying30 h
  rw [cellsMass] at hl
  match cs, hl with
  | [c0, c1], _ =>
    simp [cellsStrD, cellsNumD] at g0 g1
    obtain ⟨a, e0, _, z0⟩ := DataW.trod_string Tryz.underlying9 g0
    obtain ⟨b, e1, _, z1⟩ := DataW.trod_string Tryz.underlying23 g1
    simp only [List.cons.injEq, and_true] at e0 e1
    subst e0 e1
    exact ⟨(a, b), rfl, z0, z1⟩
theorem row_of_kind {t : TypeId} {v : Value} {ls : List L2} (h : SRow (pairK t) Any w v ls) : LRowW w v ls ∧ ∀ x ∈ ls, x.1.size ≤ maxLen ∧ x.2.size ≤ maxLen := by
  obtain ⟨A, c, e, h1, h2, h3⟩ := h
  refine ⟨⟨A, c, e, by omega, fun h0 => ?_⟩, fun x hx => ?_⟩
  · obtain ⟨b, o, eA, _, hb, hx⟩ := h3 h0
    refine ⟨b, o, eA, hb, fun j x hj => ?_⟩
    obtain ⟨l, ⟨hl, _⟩, hc⟩ := hx j x hj
    subst hl
    exact ⟨hc 0 _ rfl, hc 1 _ rfl⟩
  · obtain ⟨j, hj⟩ := List.getElem?_of_mem hx
    obtain ⟨b, o, _, _, _, hx⟩ := h3 (by have := (List.getElem?_eq_some_iff.1 hj).1; omega)
    obtain ⟨l, ⟨_, hs⟩, _⟩ := hx j x hj
    exact hs
theorem open_masses {a0 : Option Addr} {len0 cap0 : Nat} {d : DataW H} {p : List MemPlace} (h : DataW.Trod enc Tryz.prog w base sp held 22 (.slice a0 len0 cap0) d p) :
    ∃ ls, LRowW w (.slice a0 len0 cap0) ls ∧ ∀ x ∈ ls, x.1.size ≤ maxLen ∧ x.2.size ≤ maxLen := by
  obtain ⟨f, hf⟩ := h
  obtain ⟨v', ls, e, hr⟩ := open_kind (K := pairK 30) Tryz.underlying22 cellsMass (by decide) open_mass1 hf
  simp [Value.cells] at e
  subst e
  exact ⟨ls, row_of_kind hr⟩
theorem trod_below {v : Value} {t : TypeId} {d : DataW H} {p : List MemPlace} (h : DataW.Trod enc Tryz.prog w base sp held t v d p) : ∀ x ∈ p, x.block < w.heap.size := by
  obtain ⟨m, hm⟩ := h
  exact DataW.trod_lt m _ _ _ hm
end
end Go.Proofs.YtigapglmipmbeaaGreatDoor
namespace Go.Proofs.YtigapglmipmbeaaGreatDoor
open Go

theorem enters {P : Program} {rest : List (List Char)} (h : behindMainWord (wordsSigns P.initOrder.toList) = "cut".toList :: rest) (h1 : P.laysLater = false) (h2 : P.bearsReflect = false) (h3 : P.doorFits [] = true) : P.mayEnter = true := by
  have e : stripLifts liftWords ("cut".toList :: rest) = ([], "cut".toList :: rest) := by kernel_rfl
  unfold Program.mayEnter
  rw [h]
  dsimp only
  rw [e]
  simp [h1, h2, h3]
theorem cons_of_head {α : Type} {l : List α} {x : α} (h : l.head? = some x) : l = x :: l.tail := by
  cases l with
  | nil => cases h
  | cons y t => cases h; rfl
theorem doorFitsF : Tryz.prog.doorFits [] = true := by kernel_rfl
theorem headWordF : (behindMainWord (wordsSigns Tryz.prog.initOrder.toList)).head? = some "cut".toList := by kernel_rfl
theorem laysLaterF : Tryz.prog.laysLater = false := by kernel_rfl
theorem bearsReflectF : Tryz.prog.bearsReflect = false := by kernel_rfl
theorem mayEnterF : Tryz.prog.mayEnter = true := enters (cons_of_head headWordF) laysLaterF bearsReflectF doorFitsF
theorem mainIsF : Tryz.prog.mainIs = some (true, "5395951699d0e7c088c16c506ed30de6925104505e2026abbc93d9abbfe2aced".toList) := by kernel_rfl
theorem looksF : true = Tryz.prog.looks [] := by kernel_rfl
end Go.Proofs.YtigapglmipmbeaaGreatDoor
