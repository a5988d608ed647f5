/- dist: Delta, Distance, Factor, Moment (printed by mkmeas.py). -/
import Derived.Test.YtigapglmipmbeaaGreatDoorRb11
namespace Go.Proofs.YtigapglmipmbeaaGreatDoor
open Go.RowKit Go.Shelf
open Lim

attribute [local go_sem] Oper.semAt_some

theorem nw_num {w : World} {g : Nat} {t : TypeId} {u : Value} (h : Blk w g t #[u]) : ∀ W, NW w W → W.cell? ⟨g, 0, none⟩ = some u ∧ g < W.heap.size := fun W hW => by
  have h2 := h.below hW.below h.lt
  exact ⟨by rw [h2.cell]; rfl, h2.lt⟩
theorem nw_mass {w : World} {g : Nat} {t : TypeId} {u v : Value} (h : Blk w g t #[u, v]) : ∀ W, NW w W → W.cell? ⟨g, 0, none⟩ = some u ∧ W.cell? ⟨g, 1, none⟩ = some v ∧ g < W.heap.size := fun W hW => by
  have h2 := h.below hW.below h.lt
  exact ⟨(cells2 h2).1, (cells2 h2).2, h2.lt⟩
theorem zT_small : zT.size ≤ 270000 := by decide
theorem oT_small : oT.size ≤ 270000 := by decide
theorem Short.atT {k : ByteArray} : ∀ {ls : List L2}, Short ls → (atT ls k).size ≤ 270000
  | [], _ => zT_small
  | x :: l, h => by
    unfold Go.Proofs.YtigapglmipmbeaaGreatDoor.atT
    split
    · exact (h x (by simp)).2
    · exact Short.atT fun y hy => h y (by simp [hy])
theorem NW.trans {w W W' : World} (h : NW w W) (h' : NW W W') : NW w W' := ⟨h.below.trans (h'.below.mono h.below.size), h'.res⟩
theorem chk2_both {a b : List L2} (h : chk2 a b = 0) : chkD a = 0 ∧ chkD b = 0 := by
  unfold chk2 at h
  split at h
  · rename_i h1; exact absurd h h1
  · rename_i h1; exact ⟨Classical.byContradiction h1, h⟩
theorem resX_tup (r : XE) : ∃ c0 c1, resX r = .tuple #[.string c0, .int .i64 c1] := by
  cases r
  · exact ⟨_, _, rfl⟩
  · exact ⟨_, _, rfl⟩
set_option maxRecDepth 100000 in
set_option maxHeartbeats 8000000 in
theorem delta1_any (x : L2) (k : Int) (gq gf : Nat) (q : List L2) (vq : Value) (f : ByteArray) (w : World) (hgq : Blk w gq 31 #[vq]) (hgf : Blk w gf 23 #[.string f]) (hv : LRow w vq q) (hasc : AscK q) (hsq : Short q) (hf : f.size ≤ 270000) (hx : x.2.size ≤ 270000) (hr : Res w) :
    Calls Tryz.prog 128 #[.int .i64 k, .agg #[.string x.1, .string x.2], .pointer (some ⟨gq, 0, none⟩), .pointer (some ⟨gf, 0, none⟩)] w fun e w' => e = .returned (resX (partX f q x)) ∧ Below w.heap.size w w' := by
  have HX := Lib.hid (show NW w (w.alloc (.cells #[.string x.1, .string x.2] 30)) from (NW.refl hr).alloc _)
  have K0 : Blk (w.alloc (.cells #[.string x.1, .string x.2] 30)) (w.heap.size) 30 #[.string x.1, .string x.2] := by
    have := Blk.new w 30 #[.string x.1, .string x.2]
    exact this
  have N0 := Lib.hid (NW.refl HX.out.res)
  have HF := Lib.hid (dfind_any q vq x.1 _ (hv.below HX.out.below) hasc)
  have HM := Lib.hid (nw_mass K0)
  have HO := Lib.hid (hsq.atT (k := x.1))
  have HG := Lib.hid (nw_num (hgf.below HX.out.below hgf.lt))
  have x0 := (nw_num (hgq.below HX.out.below hgq.lt) _ N0.out).1
  have xl := (nw_num (hgq.below HX.out.below hgq.lt) _ N0.out).2
  have HPX := Lib.hid (show ∀ r, partX f q x = r → resX (partX f q x) = resX r from fun r h => by rw [h])
  have HML := Lib.hid (retMulX hf HO.out)
  have HXS := Lib.hid hx
  obtain ⟨A', c', rfl, _, _⟩ := id hv
  obtain ⟨y, d⟩ := x
  dsimp only at HX HF HM HO x0 xl HML HXS N0
  clear hv hgq hgf hr hasc hsq hf hx K0
  cases hm : mulX f (atT q y) with
  | error n =>
    have HR := Lib.hid (HPX.out (.error n) (by unfold partX; dsimp only; rw [hm]))
    have hz := ne_zero (exQ_err hm)
    rw [hm] at HML
    change Hid (Ret _ _ (.tuple #[.string ⟨#[]⟩, .int .i64 (n : Int)])) at HML
    clear hm
    go_enter Tryz.func128, Tryz.ntmps128
    go_wp2_with (first
      | (go_at_call 129; refine (HF.out).mono ?_; rintro e w1 ⟨rfl, hb⟩; have N1 := Lib.hid (N0.out.later hb); clear hb; obtain ⟨g0, gl⟩ := HG.out _ N1.out)
      | (go_at_call 130; refine (HML.out _ N1.out.res).mono ?_; rintro e w2 ⟨rfl, hb⟩; have N2 := Lib.hid (N1.out.later hb); clear hb; obtain ⟨m0, m1, ml⟩ := HM.out _ N2.out))
    go_ret2
    rw [HR.out]
    exact ⟨rfl, HX.out.below.trans (N2.out.below.mono HX.out.below.size)⟩
  | ok s =>
    rw [hm] at HML
    change Hid (Ret _ _ (.tuple #[.string s, .int .i64 0])) at HML
    have HSB := Lib.hid (retSubX HXS.out (size_ok (mulX_ok hm)))
    cases hs : subX d s with
    | error n =>
      have HR := Lib.hid (HPX.out (.error n) (by unfold partX; dsimp only; rw [hm]; dsimp only; rw [hs]))
      have hz := ne_zero (exQ_err hs)
      rw [hs] at HSB
      change Hid (Ret _ _ (.tuple #[.string ⟨#[]⟩, .int .i64 (n : Int)])) at HSB
      clear hm hs
      go_enter Tryz.func128, Tryz.ntmps128
      go_wp2_with (first
        | (go_at_call 129; refine (HF.out).mono ?_; rintro e w1 ⟨rfl, hb⟩; have N1 := Lib.hid (N0.out.later hb); clear hb; obtain ⟨g0, gl⟩ := HG.out _ N1.out)
        | (go_at_call 130; refine (HML.out _ N1.out.res).mono ?_; rintro e w2 ⟨rfl, hb⟩; have N2 := Lib.hid (N1.out.later hb); clear hb; obtain ⟨m0, m1, ml⟩ := HM.out _ N2.out)
        | (go_at_call 117; refine (HSB.out _ N2.out.res).mono ?_; rintro e w3 ⟨rfl, hb⟩; have N3 := Lib.hid (N2.out.later hb); clear hb))
      go_ret2
      rw [HR.out]
      exact ⟨rfl, HX.out.below.trans (N3.out.below.mono HX.out.below.size)⟩
    | ok r =>
      rw [hs] at HSB
      change Hid (Ret _ _ (.tuple #[.string r, .int .i64 0])) at HSB
      have HMX := Lib.hid (retMaxX zT_small (size_ok (subX_ok hs)))
      change Hid (Ret _ #[.string ⟨#[48]⟩, .string r] _) at HMX
      have HR := Lib.hid (HPX.out (maxX zT r) (by unfold partX; dsimp only; rw [hm]; dsimp only; rw [hs]))
      obtain ⟨c0, c1, hc⟩ := resX_tup (maxX zT r)
      rw [hc] at HR HMX
      clear hm hs hc
      go_enter Tryz.func128, Tryz.ntmps128
      go_wp2_with (first
        | (go_at_call 129; refine (HF.out).mono ?_; rintro e w1 ⟨rfl, hb⟩; have N1 := Lib.hid (N0.out.later hb); clear hb; obtain ⟨g0, gl⟩ := HG.out _ N1.out)
        | (go_at_call 130; refine (HML.out _ N1.out.res).mono ?_; rintro e w2 ⟨rfl, hb⟩; have N2 := Lib.hid (N1.out.later hb); clear hb; obtain ⟨m0, m1, ml⟩ := HM.out _ N2.out)
        | (go_at_call 117; refine (HSB.out _ N2.out.res).mono ?_; rintro e w3 ⟨rfl, hb⟩; have N3 := Lib.hid (N2.out.later hb); clear hb)
        | (go_at_call 131; refine (HMX.out _ N3.out.res).mono ?_; rintro e w4 ⟨rfl, hb⟩; have N4 := Lib.hid (N3.out.later hb); clear hb))
      go_ret2
      rw [HR.out]
      exact ⟨rfl, HX.out.below.trans (N4.out.below.mono HX.out.below.size)⟩
theorem runs_delta1 : Runs 128 := runs_of Tryz.func128 (by kernel_rfl) (by kernel_rfl)
theorem partX_ne {f : ByteArray} {q : List L2} {x : L2} {n : Nat} (h : partX f q x = .error n) : n ≠ 0 := by
  unfold partX at h
  split at h
  · rename_i h1; cases h; exact exQ_err h1
  · split at h
    · rename_i h1; cases h; exact exQ_err h1
    · unfold maxX at h
      split at h
      · rename_i h1; cases h; exact h1
      · split at h
        · rename_i h1; cases h; exact h1
        · cases h
theorem partX_fine {f : ByteArray} {q : List L2} {x : L2} {s : ByteArray} (h : partX f q x = .ok s) : errQ s.data.toList = 0 := by
  unfold partX at h
  split at h
  · cases h
  · split at h
    · cases h
    · rename_i h1
      unfold maxX at h
      split at h
      · cases h
      · split at h
        · cases h
        · cases h
          split
          · exact subX_ok h1
          · exact err_zT
set_option maxRecDepth 100000 in
set_option maxHeartbeats 8000000 in
/-- dist.Delta. -/
theorem ddelta_any (p q : List L2) (vp vq : Value) (f : ByteArray) (w : World) (hp : LRow w vp p) (hq : LRow w vq q) (sp : Short p) (sq : Short q) (hf : f.size ≤ 270000) (hr : Res w) :
    Calls Tryz.prog 45 #[vp, vq, .string f] w fun e w' => e = .returned (resX (deltaX p q f)) ∧ Below w.heap.size w w' := by
  have HX := Lib.hid (show NW w (((w.alloc (.cells #[vq] 31)).alloc (.cells #[.string f] 23)).alloc (.cells #[vp, vq] 31)) from (((NW.refl hr).alloc _).alloc _).alloc _)
  have K0 : Blk (((w.alloc (.cells #[vq] 31)).alloc (.cells #[.string f] 23)).alloc (.cells #[vp, vq] 31)) (w.heap.size) 31 #[vq] := by
    have := Blk.new w 31 #[vq]
    exact ((this.alloc _).alloc _)
  have K1 : Blk (((w.alloc (.cells #[vq] 31)).alloc (.cells #[.string f] 23)).alloc (.cells #[vp, vq] 31)) (w.heap.size + 1) 23 #[.string f] := by
    have := Blk.new (w.alloc (.cells #[vq] 31)) 23 #[.string f]
    simp only [World.size_alloc] at this
    exact (this.alloc _)
  have K2 : Blk (((w.alloc (.cells #[vq] 31)).alloc (.cells #[.string f] 23)).alloc (.cells #[vp, vq] 31)) (w.heap.size + 1 + 1) 31 #[vp, vq] := by
    have := Blk.new ((w.alloc (.cells #[vq] 31)).alloc (.cells #[.string f] 23)) 31 #[vp, vq]
    simp only [World.size_alloc] at this
    exact this
  have N0 := Lib.hid (NW.refl HX.out.res)
  have hpx := hp.below HX.out.below
  have hqx := hq.below HX.out.below
  have HC := Lib.hid (dchecked_any p q vp vq _ _ K2 hpx hqx sp sq HX.out.res)
  have B1 := Lib.hid (nw_num K1)
  have x0 := (nw_num (K0) _ N0.out).1
  have HP := Lib.hid (positive_any hf)
  obtain ⟨A, c, rfl, hlen, hcells⟩ := id hp
  obtain ⟨A', c', rfl, hlen', hcells'⟩ := id hq
  by_cases h0 : chk2 p q = 0
  · have HR0 := Lib.hid (show deltaX p q f = if posE f ≠ 0 then .error (posE f) else foldX (partX f q) zT p by unfold deltaX; rw [if_neg (by simpa using h0)])
    rw [h0] at HC
    change Hid (Calls _ _ _ _ fun e w' => e = .returned (.int .i64 0) ∧ _) at HC
    by_cases h1 : posE f = 0
    · have HR := Lib.hid (show deltaX p q f = foldX (partX f q) zT p by rw [HR0.out, if_neg (by simpa using h1)])
      rw [h1] at HP
      change Hid (Ret _ _ (.tuple #[.bool (posB f), .int .i64 0])) at HP
      have ha := ascK_chk (chk2_both h0).2
      have HFD := Lib.hid (fun W (hW : NW _ W) =>
        dfold_any 128 #[.pointer (some ⟨w.heap.size, 0, none⟩), .pointer (some ⟨w.heap.size + 1, 0, none⟩)] runs_delta1 (partX f q) p _ W (hpx.below hW.below) hW.res (fun x n h => partX_ne h) (fun x hx s h => partX_fine h)
          (fun k x hx W2 hW2 hr2 => delta1_any x k _ _ q _ f W2 ((K0.below hW.below K0.lt).below hW2 (K0.below hW.below K0.lt).lt) ((K1.below hW.below K1.lt).below hW2 (K1.below hW.below K1.lt).lt) ((hqx.below hW.below).below hW2) ha sq hf (sp x (List.mem_of_getElem? hx)).2 hr2))
      obtain ⟨r0, r1, hc⟩ := resX_tup (foldX (partX f q) zT p)
      rw [hc] at HFD
      have HR2 := Lib.hid (show resX (deltaX p q f) = .tuple #[.string r0, .int .i64 r1] by rw [HR.out, hc])
      clear K0 K1 K2 hpx hqx hp hq sp sq hf hr h0 h1 ha hc hcells hcells'
      go_enter Tryz.func45, Tryz.ntmps45
      go_wp2_with (first
        | (go_at_call 112; refine (HC.out).mono ?_; rintro e w1 ⟨rfl, hb⟩; have N1 := Lib.hid (N0.out.later hb); clear hb; obtain ⟨f0, fl⟩ := B1.out _ N1.out)
        | (go_at_call 106; refine (HP.out _ N1.out.res).mono ?_; rintro e w2 ⟨rfl, hb⟩; have N2 := Lib.hid (N1.out.later hb); clear hb)
        | (go_at_call 122; refine (HFD.out _ N2.out).mono ?_; rintro e w3 ⟨rfl, hb⟩; have N3 := Lib.hid (N2.out.later hb); clear hb))
      go_ret2
      rw [HR2.out]
      exact ⟨rfl, HX.out.below.trans (N3.out.below.mono HX.out.below.size)⟩
    · have HR := Lib.hid (show deltaX p q f = .error (posE f) by rw [HR0.out, if_pos h1])
      have hm := ne_zero h1
      clear K0 K1 K2 hpx hqx hp hq sp sq hf hr h0 h1 hcells hcells'
      go_enter Tryz.func45, Tryz.ntmps45
      go_wp2_with (first
        | (go_at_call 112; refine (HC.out).mono ?_; rintro e w1 ⟨rfl, hb⟩; have N1 := Lib.hid (N0.out.later hb); clear hb; obtain ⟨f0, fl⟩ := B1.out _ N1.out)
        | (go_at_call 106; refine (HP.out _ N1.out.res).mono ?_; rintro e w2 ⟨rfl, hb⟩; have N2 := Lib.hid (N1.out.later hb); clear hb))
      go_ret2
      rw [HR.out]
      exact ⟨rfl, HX.out.below.trans (N2.out.below.mono HX.out.below.size)⟩
  · have HR := Lib.hid (show deltaX p q f = .error (chk2 p q) by unfold deltaX; rw [if_pos h0])
    have hm := ne_zero h0
    clear K0 K1 K2 hpx hqx hp hq sp sq hf hr h0 hcells hcells'
    go_enter Tryz.func45, Tryz.ntmps45
    go_wp2_with (go_at_call 112; refine (HC.out).mono ?_; rintro e w1 ⟨rfl, hb⟩; have N1 := Lib.hid (N0.out.later hb); clear hb)
    go_ret2
    rw [HR.out]
    exact ⟨rfl, HX.out.below.trans (N1.out.below.mono HX.out.below.size)⟩
set_option maxRecDepth 100000 in
set_option maxHeartbeats 8000000 in
/-- dist.Distance. -/
theorem ddistance_any (p q : List L2) (vp vq : Value) (w : World) (hp : LRow w vp p) (hq : LRow w vq q) (sp : Short p) (sq : Short q) (hr : Res w) :
    Calls Tryz.prog 46 #[vp, vq] w fun e w' => e = .returned (resX (deltaX p q oT)) ∧ Below w.heap.size w w' := by
  have HD := Lib.hid (ddelta_any p q vp vq oT w hp hq sp sq oT_small hr)
  have N0 := Lib.hid (NW.refl hr)
  obtain ⟨r0, r1, hc⟩ := resX_tup (deltaX p q oT)
  rw [hc] at HD
  change Hid (Calls _ _ #[vp, vq, .string ⟨#[49]⟩] _ _) at HD
  rw [hc]
  clear hp hq sp sq hr hc
  go_enter Tryz.func46, Tryz.ntmps46
  go_wp2_with (go_at_call 45; refine (HD.out).mono ?_; rintro e w1 ⟨rfl, hb⟩; have N1 := Lib.hid (N0.out.later hb); clear hb)
  go_ret2
  exact ⟨rfl, N1.out.below⟩
set_option maxRecDepth 100000 in
set_option maxHeartbeats 8000000 in
theorem moment1_any (x : L2) (k : Int) (gq gf : Nat) (q : List L2) (vq : Value) (n : Int) (w : World) (hgq : Blk w gq 31 #[vq]) (hgf : Blk w gf 3 #[.int .i64 n]) (hv : LRow w vq q) (hasc : AscK q) (hsq : Short q) (hn1 : 1 ≤ n) (hn8 : n ≤ 8) (hx : x.2.size ≤ 270000) (hr : Res w) :
    Calls Tryz.prog 134 #[.int .i64 k, .agg #[.string x.1, .string x.2], .pointer (some ⟨gq, 0, none⟩), .pointer (some ⟨gf, 0, none⟩)] w fun e w' => e = .returned (resX (powsX n q x)) ∧ Below w.heap.size w w' := by
  have HX := Lib.hid (show NW w (w.alloc (.cells #[.string x.1, .string x.2] 30)) from (NW.refl hr).alloc _)
  have K0 : Blk (w.alloc (.cells #[.string x.1, .string x.2] 30)) (w.heap.size) 30 #[.string x.1, .string x.2] := by
    have := Blk.new w 30 #[.string x.1, .string x.2]
    exact this
  have N0 := Lib.hid (NW.refl HX.out.res)
  have HF := Lib.hid (dfind_any q vq x.1 _ (hv.below HX.out.below) hasc)
  have HM := Lib.hid (nw_mass K0)
  have HO := Lib.hid (hsq.atT (k := x.1))
  have HG := Lib.hid (nw_num (hgf.below HX.out.below hgf.lt))
  have x0 := (nw_num (hgq.below HX.out.below hgq.lt) _ N0.out).1
  have xl := (nw_num (hgq.below HX.out.below hgq.lt) _ N0.out).2
  have HPX := Lib.hid (show ∀ r, powsX n q x = r → resX (powsX n q x) = resX r from fun r h => by rw [h])
  have HPA := Lib.hid (retPowX hx n (by omega) (by omega))
  have HPB := Lib.hid (retPowX HO.out (n - 1) (by omega) (by omega))
  obtain ⟨y, d⟩ := x
  dsimp only at HX HF HM HO x0 xl HPA HPB N0
  have TKA : True := trivial
  clear hv hgq hgf hr hasc hsq hx K0
  cases ha : powX d n with
  | error z =>
    have HR := Lib.hid (HPX.out (.error z) (by unfold powsX; dsimp only; rw [ha]))
    have hz := ne_zero (exQ_err ha)
    rw [ha] at HPA
    change Hid (Ret _ _ (.tuple #[.string ⟨#[]⟩, .int .i64 (z : Int)])) at HPA
    clear ha
    go_enter Tryz.func134, Tryz.ntmps134
    go_wp2_with (first
      | (go_at_call 129; refine (HF.out).mono ?_; rintro e w1 ⟨rfl, hb⟩; have N1 := Lib.hid (N0.out.later hb); clear hb; obtain ⟨g0, gl⟩ := HG.out _ N1.out; obtain ⟨m0, m1, ml⟩ := HM.out _ N1.out)
      | (go_at_call 135; refine (HPA.out _ N1.out.res).mono ?_; rintro e w2 ⟨rfl, hb⟩; have N2 := Lib.hid (N1.out.later hb); clear hb; clear g0 gl m0 m1 ml TKA; obtain ⟨g0, gl⟩ := HG.out _ N2.out))
    go_ret2
    rw [HR.out]
    exact ⟨rfl, HX.out.below.trans (N2.out.below.mono HX.out.below.size)⟩
  | ok s =>
    rw [ha] at HPA
    change Hid (Ret _ _ (.tuple #[.string s, .int .i64 0])) at HPA
    cases hb : powX (atT q y) (n - 1) with
    | error z =>
      have HR := Lib.hid (HPX.out (.error z) (by unfold powsX; dsimp only; rw [ha]; dsimp only; rw [hb]))
      have hz := ne_zero (exQ_err hb)
      rw [hb] at HPB
      change Hid (Ret _ _ (.tuple #[.string ⟨#[]⟩, .int .i64 (z : Int)])) at HPB
      clear ha hb
      go_enter Tryz.func134, Tryz.ntmps134
      go_wp2_with (first
        | (go_at_call 129; refine (HF.out).mono ?_; rintro e w1 ⟨rfl, hb⟩; have N1 := Lib.hid (N0.out.later hb); clear hb; obtain ⟨g0, gl⟩ := HG.out _ N1.out; obtain ⟨m0, m1, ml⟩ := HM.out _ N1.out)
        | (go_at_call 135; clear TKA; refine (HPA.out _ N1.out.res).mono ?_; rintro e w2 ⟨rfl, hb⟩; have N2 := Lib.hid (N1.out.later hb); clear hb g0 gl m0 m1 ml; obtain ⟨g0, gl⟩ := HG.out _ N2.out)
        | (go_at_call 135; refine (HPB.out _ N2.out.res).mono ?_; rintro e w3 ⟨rfl, hb⟩; have N3 := Lib.hid (N2.out.later hb); clear hb))
      go_ret2
      rw [HR.out]
      exact ⟨rfl, HX.out.below.trans (N3.out.below.mono HX.out.below.size)⟩
    | ok t =>
      rw [hb] at HPB
      change Hid (Ret _ _ (.tuple #[.string t, .int .i64 0])) at HPB
      have HDV := Lib.hid (retDivX (size_ok (powX_ok ha)) (size_ok (powX_ok hb)))
      have HR := Lib.hid (HPX.out (divX s t) (by unfold powsX; dsimp only; rw [ha]; dsimp only; rw [hb]))
      obtain ⟨r0, r1, hc⟩ := resX_tup (divX s t)
      rw [hc] at HR HDV
      clear ha hb hc
      go_enter Tryz.func134, Tryz.ntmps134
      go_wp2_with (first
        | (go_at_call 129; refine (HF.out).mono ?_; rintro e w1 ⟨rfl, hb⟩; have N1 := Lib.hid (N0.out.later hb); clear hb; obtain ⟨g0, gl⟩ := HG.out _ N1.out; obtain ⟨m0, m1, ml⟩ := HM.out _ N1.out)
        | (go_at_call 135; clear TKA; refine (HPA.out _ N1.out.res).mono ?_; rintro e w2 ⟨rfl, hb⟩; have N2 := Lib.hid (N1.out.later hb); clear hb g0 gl m0 m1 ml; obtain ⟨g0, gl⟩ := HG.out _ N2.out)
        | (go_at_call 135; refine (HPB.out _ N2.out.res).mono ?_; rintro e w3 ⟨rfl, hb⟩; have N3 := Lib.hid (N2.out.later hb); clear hb)
        | (go_at_call 133; refine (HDV.out _ N3.out.res).mono ?_; rintro e w4 ⟨rfl, hb⟩; have N4 := Lib.hid (N3.out.later hb); clear hb))
      go_ret2
      rw [HR.out]
      exact ⟨rfl, HX.out.below.trans (N4.out.below.mono HX.out.below.size)⟩
theorem runs_moment1 : Runs 134 := runs_of Tryz.func134 (by kernel_rfl) (by kernel_rfl)
theorem powsX_ne {n : Int} {q : List L2} {x : L2} {z : Nat} (h : powsX n q x = .error z) : z ≠ 0 := by
  unfold powsX at h
  split at h
  · rename_i h1; cases h; exact exQ_err h1
  · split at h
    · rename_i h1; cases h; exact exQ_err h1
    · exact exQ_err h
theorem powsX_fine {n : Int} {q : List L2} {x : L2} {s : ByteArray} (h : powsX n q x = .ok s) : errQ s.data.toList = 0 := by
  unfold powsX at h
  split at h
  · cases h
  · split at h
    · cases h
    · exact divX_ok h
set_option maxRecDepth 100000 in
set_option maxHeartbeats 8000000 in
/-- dist.Moment. -/
theorem dmoment_any (p q : List L2) (vp vq : Value) (n : Int) (w : World) (hp : LRow w vp p) (hq : LRow w vq q) (sp : Short p) (sq : Short q) (hr : Res w) :
    Calls Tryz.prog 48 #[vp, vq, .int .i64 n] w fun e w' => e = .returned (momV p q n) ∧ Below w.heap.size w w' := by
  have HX := Lib.hid (show NW w (((w.alloc (.cells #[vq] 31)).alloc (.cells #[.int .i64 n] 3)).alloc (.cells #[vp, vq] 31)) from (((NW.refl hr).alloc _).alloc _).alloc _)
  have K0 : Blk (((w.alloc (.cells #[vq] 31)).alloc (.cells #[.int .i64 n] 3)).alloc (.cells #[vp, vq] 31)) (w.heap.size) 31 #[vq] := by
    have := Blk.new w 31 #[vq]
    exact ((this.alloc _).alloc _)
  have K1 : Blk (((w.alloc (.cells #[vq] 31)).alloc (.cells #[.int .i64 n] 3)).alloc (.cells #[vp, vq] 31)) (w.heap.size + 1) 3 #[.int .i64 n] := by
    have := Blk.new (w.alloc (.cells #[vq] 31)) 3 #[.int .i64 n]
    simp only [World.size_alloc] at this
    exact (this.alloc _)
  have K2 : Blk (((w.alloc (.cells #[vq] 31)).alloc (.cells #[.int .i64 n] 3)).alloc (.cells #[vp, vq] 31)) (w.heap.size + 1 + 1) 31 #[vp, vq] := by
    have := Blk.new ((w.alloc (.cells #[vq] 31)).alloc (.cells #[.int .i64 n] 3)) 31 #[vp, vq]
    simp only [World.size_alloc] at this
    exact this
  have N0 := Lib.hid (NW.refl HX.out.res)
  have hpx := hp.below HX.out.below
  have hqx := hq.below HX.out.below
  have HC := Lib.hid (dchecked_any p q vp vq _ _ K2 hpx hqx sp sq HX.out.res)
  have B0 := Lib.hid (nw_num K0)
  have B1 := Lib.hid (nw_num K1)
  have x0 := (nw_num K0 _ N0.out).1
  obtain ⟨A, c, rfl, hlen, hcells⟩ := id hp
  obtain ⟨A', c', rfl, hlen', hcells'⟩ := id hq
  by_cases h0 : chk2 p q = 0
  · rw [h0] at HC
    change Hid (Calls _ _ _ _ fun e w' => e = .returned (.int .i64 0) ∧ _) at HC
    have ha := ascK_chk (chk2_both h0).2
    by_cases h1 : n < 1
    · have HR := Lib.hid (show momV p q n = .tuple #[.string ⟨#[]⟩, .bool false, .int .i64 2] by unfold momV; rw [if_neg (by simpa using h0), if_pos (.inl h1)])
      have d1 : decide (n < 1) = true := decide_eq_true h1
      clear K0 K1 K2 hpx hqx hp hq sp sq hr h0 hcells hcells' h1 ha
      go_enter Tryz.func48, Tryz.ntmps48
      go_wp2_with (go_at_call 112; refine (HC.out).mono ?_; rintro e w1 ⟨rfl, hb⟩; have N1 := Lib.hid (N0.out.later hb); clear hb; obtain ⟨f0, fl⟩ := B1.out _ N1.out; obtain ⟨v0, vl⟩ := B0.out _ N1.out)
      go_ret3
      rw [HR.out]
      exact ⟨rfl, HX.out.below.trans (N1.out.below.mono HX.out.below.size)⟩
    · have d1 : decide (n < 1) = false := decide_eq_false h1
      by_cases h2 : 8 < n
      · have HR := Lib.hid (show momV p q n = .tuple #[.string ⟨#[]⟩, .bool false, .int .i64 2] by unfold momV; rw [if_neg (by simpa using h0), if_pos (.inr h2)])
        have d2 : decide (8 < n) = true := decide_eq_true h2
        clear K0 K1 K2 hpx hqx hp hq sp sq hr h0 hcells hcells' h1 h2 ha
        go_enter Tryz.func48, Tryz.ntmps48
        go_wp2_with (go_at_call 112; refine (HC.out).mono ?_; rintro e w1 ⟨rfl, hb⟩; have N1 := Lib.hid (N0.out.later hb); clear hb; obtain ⟨f0, fl⟩ := B1.out _ N1.out; obtain ⟨v0, vl⟩ := B0.out _ N1.out)
        go_ret3
        rw [HR.out]
        exact ⟨rfl, HX.out.below.trans (N1.out.below.mono HX.out.below.size)⟩
      · have d2 : decide (8 < n) = false := decide_eq_false h2
        have HR0 := Lib.hid (show momV p q n = if inX p q = false then .tuple #[.string ⟨#[]⟩, .bool false, .int .i64 0] else resF (foldX (powsX n q) zT p) by unfold momV; rw [if_neg (by simpa using h0), if_neg (by omega)])
        have HWI := Lib.hid (fun W (hW : NW _ W) => dwithin_any p q _ _ W (hpx.below hW.below) (hqx.below hW.below) ha hW.res)
        cases hi : inX p q with
        | false =>
          have HR := Lib.hid (show momV p q n = .tuple #[.string ⟨#[]⟩, .bool false, .int .i64 0] by rw [HR0.out, if_pos hi])
          rw [hi] at HWI
          clear K0 K1 K2 hpx hqx hp hq sp sq hr h0 hcells hcells' h1 h2 ha hi
          go_enter Tryz.func48, Tryz.ntmps48
          go_wp2_with (first
            | (go_at_call 112; refine (HC.out).mono ?_; rintro e w1 ⟨rfl, hb⟩; have N1 := Lib.hid (N0.out.later hb); clear hb; obtain ⟨f0, fl⟩ := B1.out _ N1.out; obtain ⟨v0, vl⟩ := B0.out _ N1.out)
            | (go_at_call 132; refine (HWI.out _ N1.out).mono ?_; rintro e w2 ⟨rfl, hb⟩; have N2 := Lib.hid (N1.out.later hb); clear hb))
          go_ret3
          rw [HR.out]
          exact ⟨rfl, HX.out.below.trans (N2.out.below.mono HX.out.below.size)⟩
        | true =>
          have HR := Lib.hid (show momV p q n = resF (foldX (powsX n q) zT p) by rw [HR0.out, if_neg (by rw [hi]; decide)])
          rw [hi] at HWI
          have HFD := Lib.hid (fun W (hW : NW _ W) =>
            dfold_any 134 #[.pointer (some ⟨w.heap.size, 0, none⟩), .pointer (some ⟨w.heap.size + 1, 0, none⟩)] runs_moment1 (powsX n q) p _ W (hpx.below hW.below) hW.res (fun x n h => powsX_ne h) (fun x hx s h => powsX_fine h)
              (fun k x hx W2 hW2 hr2 => moment1_any x k _ _ q _ n W2 ((K0.below hW.below K0.lt).below hW2 (K0.below hW.below K0.lt).lt) ((K1.below hW.below K1.lt).below hW2 (K1.below hW.below K1.lt).lt) ((hqx.below hW.below).below hW2) ha sq (by omega) (by omega) (sp x (List.mem_of_getElem? hx)).2 hr2))
          cases hf : foldX (powsX n q) zT p with
          | error z =>
            rw [hf] at HFD HR
            change Hid (∀ W, _ → Calls _ _ _ _ fun e w' => e = .returned (.tuple #[.string ⟨#[]⟩, .int .i64 (z : Int)]) ∧ _) at HFD
            have hm := ne_zero (foldX_ne (fun x m h => powsX_ne h) hf)
            clear K0 K1 K2 hpx hqx hp hq sp sq hr h0 hcells hcells' h1 h2 ha hi hf
            go_enter Tryz.func48, Tryz.ntmps48
            go_wp2_with (first
              | (go_at_call 112; refine (HC.out).mono ?_; rintro e w1 ⟨rfl, hb⟩; have N1 := Lib.hid (N0.out.later hb); clear hb; obtain ⟨f0, fl⟩ := B1.out _ N1.out; obtain ⟨v0, vl⟩ := B0.out _ N1.out)
              | (go_at_call 132; refine (HWI.out _ N1.out).mono ?_; rintro e w2 ⟨rfl, hb⟩; have N2 := Lib.hid (N1.out.later hb); clear hb)
              | (go_at_call 122; refine (HFD.out _ N2.out).mono ?_; rintro e w3 ⟨rfl, hb⟩; have N3 := Lib.hid (N2.out.later hb); clear hb))
            go_ret3
            rw [HR.out]
            exact ⟨rfl, HX.out.below.trans (N3.out.below.mono HX.out.below.size)⟩
          | ok s =>
            rw [hf] at HFD HR
            change Hid (∀ W, _ → Calls _ _ _ _ fun e w' => e = .returned (.tuple #[.string s, .int .i64 0]) ∧ _) at HFD
            clear K0 K1 K2 hpx hqx hp hq sp sq hr h0 hcells hcells' h1 h2 ha hi hf
            go_enter Tryz.func48, Tryz.ntmps48
            go_wp2_with (first
              | (go_at_call 112; refine (HC.out).mono ?_; rintro e w1 ⟨rfl, hb⟩; have N1 := Lib.hid (N0.out.later hb); clear hb; obtain ⟨f0, fl⟩ := B1.out _ N1.out; obtain ⟨v0, vl⟩ := B0.out _ N1.out)
              | (go_at_call 132; refine (HWI.out _ N1.out).mono ?_; rintro e w2 ⟨rfl, hb⟩; have N2 := Lib.hid (N1.out.later hb); clear hb)
              | (go_at_call 122; refine (HFD.out _ N2.out).mono ?_; rintro e w3 ⟨rfl, hb⟩; have N3 := Lib.hid (N2.out.later hb); clear hb))
            go_ret3
            rw [HR.out]
            exact ⟨rfl, HX.out.below.trans (N3.out.below.mono HX.out.below.size)⟩
  · have HR := Lib.hid (show momV p q n = .tuple #[.string ⟨#[]⟩, .bool false, .int .i64 (chk2 p q : Int)] by unfold momV; rw [if_pos h0])
    have hm := ne_zero h0
    clear K0 K1 K2 hpx hqx hp hq sp sq hr h0 hcells hcells'
    go_enter Tryz.func48, Tryz.ntmps48
    go_wp2_with (go_at_call 112; refine (HC.out).mono ?_; rintro e w1 ⟨rfl, hb⟩; have N1 := Lib.hid (N0.out.later hb); clear hb)
    go_ret3
    rw [HR.out]
    exact ⟨rfl, HX.out.below.trans (N1.out.below.mono HX.out.below.size)⟩
set_option maxRecDepth 100000 in
set_option maxHeartbeats 8000000 in
/-- dist.Factor. -/
theorem dfactor_any (p q : List L2) (vp vq : Value) (w : World) (hp : LRow w vp p) (hq : LRow w vq q) (sp : Short p) (sq : Short q) (hr : Res w) :
    Calls Tryz.prog 47 #[vp, vq] w fun e w' => e = .returned (facV p q) ∧ Below w.heap.size w w' := by
  have HX := Lib.hid (show NW w (w.alloc (.cells #[vp, vq] 31)) from (NW.refl hr).alloc _)
  have K0 : Blk (w.alloc (.cells #[vp, vq] 31)) (w.heap.size) 31 #[vp, vq] := by
    have := Blk.new w 31 #[vp, vq]
    exact this
  have N0 := Lib.hid (NW.refl HX.out.res)
  have hpx := hp.below HX.out.below
  have hqx := hq.below HX.out.below
  have HC := Lib.hid (dchecked_any p q vp vq _ _ K0 hpx hqx sp sq HX.out.res)
  obtain ⟨A, c, rfl, hlen, hcells⟩ := id hp
  obtain ⟨A', c', rfl, hlen', hcells'⟩ := id hq
  by_cases h0 : chk2 p q = 0
  · rw [h0] at HC
    change Hid (Calls _ _ _ _ fun e w' => e = .returned (.int .i64 0) ∧ _) at HC
    have ha := ascK_chk (chk2_both h0).2
    have HR0 := Lib.hid (show facV p q = if inX p q = false then .tuple #[.string ⟨#[]⟩, .bool false, .int .i64 0] else resF (mostX q zT p) by unfold facV; rw [if_neg (by simpa using h0)])
    have HWI := Lib.hid (fun W (hW : NW _ W) => dwithin_any p q _ _ W (hpx.below hW.below) (hqx.below hW.below) ha hW.res)
    cases hi : inX p q with
    | false =>
      have HR := Lib.hid (show facV p q = .tuple #[.string ⟨#[]⟩, .bool false, .int .i64 0] by rw [HR0.out, if_pos hi])
      rw [hi] at HWI
      clear K0 hpx hqx hp hq sp sq hr h0 hcells hcells' ha hi
      go_enter Tryz.func47, Tryz.ntmps47
      go_wp2_with (first
        | (go_at_call 112; refine (HC.out).mono ?_; rintro e w1 ⟨rfl, hb⟩; have N1 := Lib.hid (N0.out.later hb); clear hb)
        | (go_at_call 132; refine (HWI.out _ N1.out).mono ?_; rintro e w2 ⟨rfl, hb⟩; have N2 := Lib.hid (N1.out.later hb); clear hb))
      go_ret3
      rw [HR.out]
      exact ⟨rfl, HX.out.below.trans (N2.out.below.mono HX.out.below.size)⟩
    | true =>
      have HR := Lib.hid (show facV p q = resF (mostX q zT p) by rw [HR0.out, if_neg (by rw [hi]; decide)])
      rw [hi] at HWI
      have HPX := Lib.hid hpx
      have HFI := Lib.hid (fun W (hW : NW _ W) k => dfind_any q _ k W (hqx.below hW.below) ha)
      have HSH := Lib.hid (And.intro sp sq)
      clear K0 hpx hqx hp hq sp sq hr h0 hcells hcells' ha hi
      go_enter Tryz.func47, Tryz.ntmps47
      go_wp2_with (first
        | (go_at_call 112; refine HC.out.mono ?_; rintro e w1 ⟨rfl, hb⟩; have N1 := Lib.hid (N0.out.later hb); clear hb)
        | (go_at_call 132; refine (HWI.out _ N1.out).mono ?_; rintro e w2 ⟨rfl, hb⟩; have N2 := Lib.hid (N1.out.later hb); clear hb))
      go_loopw [8, 30] (fun v8 v30 wr => ∃ (k : Nat) (s : ByteArray), k ≤ p.length ∧ v30 = .int .i64 (k : Int) ∧ v8 = .string s ∧ Hid (errQ s.data.toList = 0 ∧ mostX q zT p = mostX q s (p.drop k)) ∧ Hid (NW (w.alloc (.cells #[(.slice A p.length c), (.slice A' q.length c')] 31)) wr)) (fun _ v30 _ => p.length - (intOf v30).toNat)
      case atStart => exact ⟨0, zT, Nat.zero_le _, rfl, rfl, Lib.hid ⟨err_zT, by simp⟩, N2⟩
      case round =>
        clear N0 N1 N2 HC HWI HR0
        obtain ⟨k, s, hk, rfl, rfl, HE, HN⟩ := hrel
        by_cases hlt : k < p.length
        · obtain ⟨x, hx⟩ : ∃ x, p[k]? = some x := ⟨_, List.getElem?_eq_getElem hlt⟩
          obtain ⟨b, o, c2, e', hb2, c0, c1⟩ := HPX.out.at HN.out.below hx
          simp only [Value.slice.injEq, true_and] at e'
          obtain ⟨rfl, rfl⟩ := e'
          have hlt' : (k : Int) < (p.length : Int) := by omega
          have HA := Lib.hid (HN.out.alloc (.cells #[.string x.1, .string x.2] 30))
          have HM := Lib.hid (nw_mass (Blk.new wr 30 #[.string x.1, .string x.2]))
          have NA := Lib.hid (NW.refl HA.out.res)
          have HDV := Lib.hid (retDivX (HSH.out.1 x (List.mem_of_getElem? hx)).2 (HSH.out.2.atT (k := x.1)))
          have HD := Lib.hid (drop_of hx)
          have HLT := Lib.hid (And.intro hlt hlt')
          have HFK := Lib.hid (HFI.out _ HA.out x.1)
          obtain ⟨y, d⟩ := x
          dsimp only at c0 c1 HA HM NA HDV HFK
          clear hx hlt
          cases hd : divX d (atT q y) with
          | error z =>
            have HR2 := Lib.hid (show mostX q zT p = .error z by rw [HE.out.2, HD.out]; unfold mostX; dsimp only; rw [hd])
            have hm := ne_zero (exQ_err hd)
            rw [hd] at HDV
            change Hid (Ret _ _ (.tuple #[.string ⟨#[]⟩, .int .i64 (z : Int)])) at HDV
            clear hd
            go_wp2_with (first
              | (go_at_call 129; refine HFK.out.mono ?_; rintro e w3 ⟨rfl, hb⟩; have N3 := Lib.hid (NA.out.later hb); clear hb; obtain ⟨m0, m1, ml⟩ := HM.out _ N3.out)
              | (go_at_call 133; refine (HDV.out _ N3.out.res).mono ?_; rintro e w4 ⟨rfl, hb⟩; have N4 := Lib.hid (N3.out.later hb); clear hb))
            go_ret3
            rw [HR.out, HR2.out]
            exact ⟨rfl, ((HX.out.trans HA.out).trans N4.out).below⟩
          | ok t =>
            rw [hd] at HDV
            change Hid (Ret _ _ (.tuple #[.string t, .int .i64 0])) at HDV
            have hmx := maxX_val HE.out.1 (divX_ok hd)
            have HMX := Lib.hid (retMaxX (size_ok HE.out.1) (size_ok (divX_ok hd)))
            rw [hmx] at HMX
            have HR2 := Lib.hid (show mostX q zT p = mostX q (if cmpQ (valQ s.data.toList) (valQ t.data.toList) < 0 then t else s) (p.drop (k + 1)) by
              rw [HE.out.2, HD.out]
              conv => lhs; unfold mostX
              dsimp only
              rw [hd])
            have HER := Lib.hid (show errQ (if cmpQ (valQ s.data.toList) (valQ t.data.toList) < 0 then t else s).data.toList = 0 by split; exact divX_ok hd; exact HE.out.1)
            generalize (if cmpQ (valQ s.data.toList) (valQ t.data.toList) < 0 then t else s) = u at *
            change Hid (Ret _ _ (.tuple #[.string u, .int .i64 0])) at HMX
            clear hd hmx
            go_wp2_with (first
              | (go_at_call 129; refine HFK.out.mono ?_; rintro e w3 ⟨rfl, hb⟩; have N3 := Lib.hid (NA.out.later hb); clear hb; obtain ⟨m0, m1, ml⟩ := HM.out _ N3.out)
              | (go_at_call 133; refine (HDV.out _ N3.out.res).mono ?_; rintro e w4 ⟨rfl, hb⟩; have N4 := Lib.hid (N3.out.later hb); clear hb)
              | (go_at_call 131; refine (HMX.out _ N4.out.res).mono ?_; rintro e w5 ⟨rfl, hb⟩; have N5 := Lib.hid (N4.out.later hb); clear hb))
            go_roundw
            case rel => exact ⟨k + 1, u, HLT.out.1, by go_num, rfl, Lib.hid ⟨HER.out, HR2.out⟩, Lib.hid (HA.out.trans N5.out)⟩
            case measure => have := HLT.out.1; simp [intOf]; omega
        · have hlt' : ¬ (k : Int) < (p.length : Int) := by omega
          obtain rfl : k = p.length := by omega
          have HR2 := Lib.hid (show mostX q zT p = .ok s by
            have := HE.out.2
            rwa [List.drop_length] at this)
          clear hlt
          go_wp2
          go_ret3
          rw [HR.out, HR2.out]
          exact ⟨rfl, HX.out.below.trans (HN.out.below.mono HX.out.below.size)⟩
  · have HR := Lib.hid (show facV p q = .tuple #[.string ⟨#[]⟩, .bool false, .int .i64 (chk2 p q : Int)] by unfold facV; rw [if_pos h0])
    have hm := ne_zero h0
    have hm2 := ne_zero2 h0
    clear K0 hpx hqx hp hq sp sq hr h0 hcells hcells'
    go_enter Tryz.func47, Tryz.ntmps47
    go_wp2_with (go_at_call 112; refine (HC.out).mono ?_; rintro e w1 ⟨rfl, hb⟩; have N1 := Lib.hid (N0.out.later hb); clear hb)
    go_ret3
    rw [HR.out]
    exact ⟨rfl, HX.out.below.trans (N1.out.below.mono HX.out.below.size)⟩
end Go.Proofs.YtigapglmipmbeaaGreatDoor
