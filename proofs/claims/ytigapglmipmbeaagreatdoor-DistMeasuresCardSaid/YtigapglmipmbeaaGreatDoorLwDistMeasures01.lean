/- How a function hands back results that lie in cells: a struct and an error. Curves of moments in memory, and the iterator over the orders of a curve. Curves of moments in plain rationals: what Check, Of, Add, Fits, To and Best compute. moment.least, between and the chain's steps, where nothing fails. moment.Check. moment.Check: the walk. moment.both and Add. moment.Add: the walk (printed by mkmadd.py). moment.None. The reference of chapter 10: at. The reference of chapter 10: both. The reference of chapter 10: then. Curves of canonical texts: sums, sizes, what Add and None come to. Comparing curves. moment.Fits: the walk. moment.Of: the walk. limited, plus and above of losses. above: the loss with the greater parts. fold: losses combined, from None on; Add, Sum and Max. moment.To: the walk (printed by mkmto.py). The reference of chapter 10: share and To (printed by mkmref.py). The reference's Pow of a positive number where the result fits. The reference 08: Delta, Distance, Factor, part, Moment (printed by mkdref.py). The reference 08: Moment (printed by mkdref.py). DistMeasures, as a walk (printed by mkdlaw1.py). -/
import Derived.Test.YtigapglmipmbeaaGreatDoorRb10
import Derived.Test.YtigapglmipmbeaaGreatDoorRb03
import Derived.Test.YtigapglmipmbeaaGreatDoorRb16
import Derived.Test.YtigapglmipmbeaaGreatDoorRb08
import Derived.ArgAppend
import Derived.Deep.AppendLies
import Derived.Test.YtigapglmipmbeaaGreatDoorRb07
import Derived.Test.YtigapglmipmbeaaGreatDoorRb17
import Derived.Test.YtigapglmipmbeaaGreatDoorRb15
import Derived.Test.YtigapglmipmbeaaGreatDoorRb12
import Derived.Test.YtigapglmipmbeaaGreatDoorRb13
namespace Go.Proofs.YtigapglmipmbeaaGreatDoor
open Go.RowKit Go.Shelf
open Lim
section
variable {fn : Func} {p q u : Tmp} {tmps : Array Value} {W : World} {g e : Nat} {T : TypeId} {x : Value} {n : Int}
end
end Go.Proofs.YtigapglmipmbeaaGreatDoor
namespace Go.Proofs.YtigapglmipmbeaaGreatDoor
open Go.RowKit Go.Shelf
open Lim
abbrev CT := Nat → ByteArray
def cvA (c : CT) : Array Value := #[.string (c 0), .string (c 1), .string (c 2), .string (c 3), .string (c 4), .string (c 5), .string (c 6), .string (c 7)]
def upd (c : CT) (k : Nat) (x : ByteArray) : CT := fun j => if j = k then x else c j
theorem cvA_set (c : CT) {k : Nat} (hk : k < 8) (x : ByteArray) : (cvA c).setIfInBounds k (.string x) = cvA (upd c k x) := by
  match k, hk with
  | 0, _ => rfl
  | 1, _ => rfl
  | 2, _ => rfl
  | 3, _ => rfl
  | 4, _ => rfl
  | 5, _ => rfl
  | 6, _ => rfl
  | 7, _ => rfl
theorem cvA_get (c : CT) {k : Nat} (hk : k < 8) : (cvA c)[k]? = some (.string (c k)) := by
  match k, hk with
  | 0, _ => rfl
  | 1, _ => rfl
  | 2, _ => rfl
  | 3, _ => rfl
  | 4, _ => rfl
  | 5, _ => rfl
  | 6, _ => rfl
  | 7, _ => rfl
theorem cvA_ext {c c' : CT} (h : ∀ k, k < 8 → c k = c' k) : cvA c = cvA c' := by
  unfold cvA
  rw [h 0 (by omega), h 1 (by omega), h 2 (by omega), h 3 (by omega), h 4 (by omega), h 5 (by omega), h 6 (by omega), h 7 (by omega)]
def CBlk (W : World) (g : Nat) (c : CT) : Prop := Blk W g 59 (cvA c)
section
variable {W W' : World} {g : Nat} {c : CT}
theorem CBlk.lt (h : CBlk W g c) : g < W.heap.size := Blk.lt h
theorem CBlk.cell (h : CBlk W g c) {k : Nat} (hk : k < 8) : W.cell? ⟨g, k, none⟩ = some (.string (c k)) := by
  rw [Blk.cell h, cvA_get c hk]
theorem CBlk.frozen (h : CBlk W g c) (i : Nat) : W.frozen? ⟨g, i, none⟩ = false := Blk.frozen h i
end
end Go.Proofs.YtigapglmipmbeaaGreatDoor
namespace Go.Proofs.YtigapglmipmbeaaGreatDoor
open Go.RowKit Go.Shelf
open Lim
end Go.Proofs.YtigapglmipmbeaaGreatDoor
namespace Go.Proofs.YtigapglmipmbeaaGreatDoor
open Go.RowKit Go.Shelf
open Lim
end Go.Proofs.YtigapglmipmbeaaGreatDoor
namespace Go.Proofs.YtigapglmipmbeaaGreatDoor
open Go.RowKit Go.Shelf
open Lim
end Go.Proofs.YtigapglmipmbeaaGreatDoor
namespace Go.Proofs.YtigapglmipmbeaaGreatDoor
open Go.RowKit Go.Shelf
open Lim
attribute [local go_sem] Oper.semAt_some
def olds7 (c : CT) : List Value := [.string (c 0), .string (c 1), .string (c 2), .string (c 3), .string (c 4), .string (c 5), .string (c 6)]
theorem cells_olds {W : World} {g : Nat} {c : CT} (h : CBlk W g c) : ∀ j u, (olds7 c)[j]? = some u → W.cell? ((⟨g, 0, none⟩ : Addr).add j) = some u := by
  intro j u hj
  have hlt : j < 7 := (List.getElem?_eq_some_iff.1 hj).1
  have e : (⟨g, 0, none⟩ : Addr).add j = ⟨g, j, none⟩ := by unfold Addr.add; split <;> simp_all
  rw [e, h.cell (by omega)]
  match j, hlt, hj with
  | 0, _, hj => exact hj
  | 1, _, hj => exact hj
  | 2, _, hj => exact hj
  | 3, _, hj => exact hj
  | 4, _, hj => exact hj
  | 5, _, hj => exact hj
  | 6, _, hj => exact hj
def RowT (W : World) (g : Nat) (c : CT) : Prop := ∀ k, k < 8 → W.cell? ⟨g, k, none⟩ = some (.string (c k))
theorem rowT_of {W : World} {base e g cap : Nat} {c : CT} (h : W.ownsRow base e 1 (.slice (some ⟨g, 0, none⟩) (7 + 1) cap) (7 + 1) (olds7 c ++ [.string (c 7)])) : RowT W g c := by
  intro k hk
  have h2 := h.cells (g := g) rfl k (.string (c k)) (by
    match k, hk with
    | 0, _ => rfl
    | 1, _ => rfl
    | 2, _ => rfl
    | 3, _ => rfl
    | 4, _ => rfl
    | 5, _ => rfl
    | 6, _ => rfl
    | 7, _ => rfl)
  rwa [show (⟨g, 0, none⟩ : Addr).add k = ⟨g, k, none⟩ by unfold Addr.add; split <;> simp_all] at h2
theorem eight (c : CT) {k : Nat} (hk : k < 8) : [c 0, c 1, c 2, c 3, c 4, c 5, c 6, c 7][k]? = some (c k) := by
  match k, hk with
  | 0, _ => rfl
  | 1, _ => rfl
  | 2, _ => rfl
  | 3, _ => rfl
  | 4, _ => rfl
  | 5, _ => rfl
  | 6, _ => rfl
  | 7, _ => rfl
end Go.Proofs.YtigapglmipmbeaaGreatDoor
namespace Go.Proofs.YtigapglmipmbeaaGreatDoor
open Go.RowKit Go.Shelf
open Lim
attribute [local go_sem] Oper.semAt_some
abbrev cv (c : CT) : Value := .agg #[.string (c 0), .string (c 1), .string (c 2), .string (c 3), .string (c 4), .string (c 5), .string (c 6), .string (c 7)]
end Go.Proofs.YtigapglmipmbeaaGreatDoor
namespace Go.Proofs.YtigapglmipmbeaaGreatDoor
open Go.RowKit Go.Shelf
open Lim
attribute [local go_sem] Oper.semAt_some
end Go.Proofs.YtigapglmipmbeaaGreatDoor
namespace Go.Proofs.YtigapglmipmbeaaGreatDoor
open Go.RowKit Go.Shelf
open Lim
end Go.Proofs.YtigapglmipmbeaaGreatDoor
namespace Go.Proofs.YtigapglmipmbeaaGreatDoor
open Go.RowKit Go.Shelf
open Lim
end Go.Proofs.YtigapglmipmbeaaGreatDoor
namespace Go.Proofs.YtigapglmipmbeaaGreatDoor
open Go.RowKit Go.Shelf
open Lim
end Go.Proofs.YtigapglmipmbeaaGreatDoor
namespace Go.Proofs.YtigapglmipmbeaaGreatDoor
open Go.RowKit Go.Shelf
open Lim
end Go.Proofs.YtigapglmipmbeaaGreatDoor
namespace Go.Proofs.YtigapglmipmbeaaGreatDoor
open Go.RowKit Go.Shelf
open Lim
section
variable {a b : CT} {m n : Nat → Rat} {j k : Nat}
end
end Go.Proofs.YtigapglmipmbeaaGreatDoor
namespace Go.Proofs.YtigapglmipmbeaaGreatDoor
open Go.RowKit Go.Shelf
open Lim
end Go.Proofs.YtigapglmipmbeaaGreatDoor
namespace Go.Proofs.YtigapglmipmbeaaGreatDoor
open Go.RowKit Go.Shelf
open Lim
attribute [local go_sem] Oper.semAt_some
end Go.Proofs.YtigapglmipmbeaaGreatDoor
namespace Go.Proofs.YtigapglmipmbeaaGreatDoor
open Go.RowKit Go.Shelf
open Lim
attribute [local go_sem] Oper.semAt_some
end Go.Proofs.YtigapglmipmbeaaGreatDoor
namespace Go.Proofs.YtigapglmipmbeaaGreatDoor
open Go.RowKit Go.Shelf
open Lim
end Go.Proofs.YtigapglmipmbeaaGreatDoor
namespace Go.Proofs.YtigapglmipmbeaaGreatDoor
open Go.RowKit Go.Shelf
open Lim
end Go.Proofs.YtigapglmipmbeaaGreatDoor
namespace Go.Proofs.YtigapglmipmbeaaGreatDoor
open Go.RowKit Go.Shelf
open Lim
end Go.Proofs.YtigapglmipmbeaaGreatDoor
namespace Go.Proofs.YtigapglmipmbeaaGreatDoor
open Go.RowKit Go.Shelf
open Lim
attribute [local go_sem] Oper.semAt_some
end Go.Proofs.YtigapglmipmbeaaGreatDoor
namespace Go.Proofs.YtigapglmipmbeaaGreatDoor
open Go.RowKit Go.Shelf
open Lim
attribute [local go_sem] Oper.semAt_some
namespace S2
end S2
end Go.Proofs.YtigapglmipmbeaaGreatDoor
namespace Go.Proofs.YtigapglmipmbeaaGreatDoor
open Go.RowKit Go.Shelf
open Lim
theorem refPow_key {c : ByteArray} (q : Rat) (M : Nat) (hc : IsT c (q ^ M)) : decide (Lib.nDigits (nm q ^ M) ≤ 4000) = true ∧ decide (Lib.nDigits (q.den ^ M) ≤ 4000) = true ∧
    ∀ b : Bool, b = ng (q ^ M) → ∀ v w, IsPartsI w v b (nm q ^ M) (q.den ^ M) → Calls Tryz.prog 153 #[v] w fun e w' => e = .returned (.tuple #[.string ⟨(outQ (q ^ M)).1.toArray⟩, .int .i64 ((outQ (q ^ M)).2 : Int)]) ∧ Below w.heap.size w w' := by
  obtain ⟨p1, p2, _⟩ := pow_parts q M
  have hs := (sz_iff (by decide)).1 hc.2
  rw [← p1, ← p2]
  refine ⟨decide_eq_true hs.1, decide_eq_true hs.2, fun b hb v w hv => ?_⟩
  subst hb
  have e1 := limbs_of_nd hs.1 (show 4000 ≤ 9 * 445 by omega)
  have e2 := limbs_of_nd hs.2 (show 4000 ≤ 9 * 445 by omega)
  exact rwriteQ_any (q ^ M) v w hv (by omega) (by omega)
theorem ng_pos {p : Rat} (h : 0 < p) : ng p = false := by
  unfold ng
  have := Rat.num_nonneg.2 (show 0 ≤ p by grind)
  exact decide_eq_false (by omega)
theorem retPowS {a c : ByteArray} {p : Rat} {n : Int} (ha : IsT a p) (hp : 0 < p) (hc : IsT c (p ^ n)) (h1 : -1000 ≤ n) (h2 : n ≤ 1000) : Ret 240 #[.string a, .int .i64 n] (.tuple #[.string c, .int .i64 0]) := fun w _ => by
  have sq := sz_max ha.err
  rw [ha.val] at sq
  have hb := ng_pos hp
  have h0 : p ≠ 0 := by grind
  have ho := out_T hc
  unfold resN at ho
  by_cases hneg : n < 0
  · obtain ⟨M, rfl⟩ : ∃ M : Nat, n = -(M : Int) := ⟨n.natAbs, by omega⟩
    have e : p ^ (-(M : Int)) = p⁻¹ ^ M := by rw [Rat.zpow_neg, Rat.zpow_natCast, inv_pow]
    rw [e] at hc ho
    obtain ⟨k1, k2, k3⟩ := refPow_key p⁻¹ M hc
    obtain ⟨_, _, p3⟩ := pow_parts p⁻¹ M
    obtain ⟨i1, _, _⟩ := inv_parts h0
    rw [i1, hb] at p3
    rw [← ho]
    exact refpow_neg_f_yes a p M w ha.size ha.err ha.val hb h0 (by omega) (by omega) k1 k2 _ (k3 _ (by rw [p3]; rfl)) sq
  · obtain ⟨M, rfl⟩ : ∃ M : Nat, n = (M : Int) := ⟨n.toNat, by omega⟩
    rw [Rat.zpow_natCast] at hc ho
    obtain ⟨k1, k2, k3⟩ := refPow_key p M hc
    obtain ⟨_, _, p3⟩ := pow_parts p M
    rw [hb] at p3
    rw [← ho]
    exact refpow_pos_f_yes a p M w ha.size ha.err ha.val hb (by omega) k1 k2 _ (k3 _ (by rw [p3]; rfl)) sq
end Go.Proofs.YtigapglmipmbeaaGreatDoor
namespace Go.Proofs.YtigapglmipmbeaaGreatDoor
open Go.RowKit Go.Shelf
open Lim
attribute [local go_sem] Oper.semAt_some
theorem plX_zero {s : ByteArray} (h : errQ s.data.toList = 0) : plX s zT = .ok s := by
  rw [plX_val h err_zT, val_zT, Rat.add_zero, ovT_fit (IsT.of h).fits, ← ok_rT h]
theorem maxX_pos {s : ByteArray} (h : errQ s.data.toList = 0) (h0 : 0 < valQ s.data.toList) : maxX zT s = .ok s := by
  rw [maxX_val err_zT h, val_zT, if_pos]
  unfold cmpQ; rw [if_pos h0]; decide
theorem maxX_neg {s : ByteArray} (h : errQ s.data.toList = 0) (h0 : ¬ 0 < valQ s.data.toList) : maxX zT s = .ok zT := by
  rw [maxX_val err_zT h, val_zT, if_neg]
  unfold cmpQ; rw [if_neg h0]; split <;> decide
set_option maxRecDepth 100000 in
set_option maxHeartbeats 8000000 in
theorem rddelta_any (p q : List L2) (vp vq : Value) (f : ByteArray) (w : World) (hp : LRow w vp p) (hq : LRow w vq q) (sp : Short p) (sq : Short q) (hf : f.size ≤ 270000) (hr : Res w) :
    Calls Tryz.prog 102 #[vp, vq, .string f] w fun e w' => e = .returned (resX (deltaX p q f)) ∧ Below w.heap.size w w' := by
  have N0 := Lib.hid (NW.refl hr)
  have HC := Lib.hid (rdboth_any p q vp vq w hp hq sp sq hr)
  have HVP := Lib.hid hp
  have HVQ := Lib.hid hq
  have HSH := Lib.hid (And.intro sp sq)
  have HFS := Lib.hid hf
  obtain ⟨A, c, rfl, hlen, hcells⟩ := hp
  obtain ⟨A', c', rfl, hlen', hcells'⟩ := hq
  clear hcells hcells' sp sq hr
  by_cases h0 : chk2 p q = 0
  · have HR0 := Lib.hid (show deltaX p q f = if posE f ≠ 0 then .error (posE f) else foldX (partX f q) zT p by unfold deltaX; rw [if_neg (by simpa using h0)])
    rw [h0] at HC
    change Hid (Calls _ _ _ _ fun e w' => e = .returned (.int .i64 0) ∧ _) at HC
    clear h0
    by_cases h1 : errQ f.data.toList = 0
    · have HSG := Lib.hid (retRSign_ok hf h1)
      by_cases h2 : valQ f.data.toList < 0
      · have d1 : decide (sgQ (valQ f.data.toList) < 0) = true := decide_eq_true ((sg_lt _).2 h2)
        have HR := Lib.hid (show deltaX p q f = .error 2 by
          have : posE f = 2 := by unfold posE; rw [if_neg (by simpa using h1), if_pos h2]
          rw [HR0.out, this]; rfl)
        clear h1 h2 hf
        generalize sgQ (valQ f.data.toList) = sg at *
        go_enter Tryz.func102, Tryz.ntmps102
        go_wp2_with (first
          | (go_at_call 114; refine (HC.out).mono ?_; rintro e w1 ⟨rfl, hb⟩; have N1 := Lib.hid (N0.out.later hb); clear hb)
          | (go_at_call 110; refine (HSG.out _ N1.out.res).mono ?_; rintro e w2 ⟨rfl, hb⟩; have N2 := Lib.hid (N1.out.later hb); clear hb))
        go_ret2
        rw [HR.out]
        exact ⟨rfl, N2.out.below⟩
      · have d1 : decide (sgQ (valQ f.data.toList) < 0) = false := decide_eq_false (fun h => h2 ((sg_lt _).1 h))
        have HR := Lib.hid (show deltaX p q f = foldX (partX f q) zT p by
          have : posE f = 0 := by unfold posE; rw [if_neg (by simpa using h1), if_neg h2]
          rw [HR0.out, this]; rfl)
        clear h1 h2 hf
        generalize sgQ (valQ f.data.toList) = sg at *
        go_enter Tryz.func102, Tryz.ntmps102
        go_wp2_with (first
          | (go_at_call 114; refine HC.out.mono ?_; rintro e w1 ⟨rfl, hb⟩; have N1 := Lib.hid (N0.out.later hb); clear hb)
          | (go_at_call 110; refine (HSG.out _ N1.out.res).mono ?_; rintro e w2 ⟨rfl, hb⟩; have N2 := Lib.hid (N1.out.later hb); clear hb))
        go_loopw [11, 12] (fun v11 v12 wr => ∃ (k : Nat) (s : ByteArray), k ≤ p.length ∧ v12 = .int .i64 (k : Int) ∧ v11 = .string s ∧ Hid (errQ s.data.toList = 0 ∧ foldX (partX f q) zT p = foldX (partX f q) s (p.drop k)) ∧ Hid (NW w wr)) (fun _ v12 _ => p.length - (intOf v12).toNat)
        case atStart => exact ⟨0, zT, Nat.zero_le _, rfl, rfl, Lib.hid ⟨err_zT, by simp⟩, N2⟩
        case round =>
          clear N0 N1 N2 HC HSG HR0
          obtain ⟨k, s, hk, rfl, rfl, HE, HN⟩ := hrel
          by_cases hlt : k < p.length
          · obtain ⟨x, hx⟩ : ∃ x, p[k]? = some x := ⟨_, List.getElem?_eq_getElem hlt⟩
            obtain ⟨b, o, c2, e', hb2, c0, c1⟩ := HVP.out.at HN.out.below hx
            simp only [Value.slice.injEq, true_and] at e'
            obtain ⟨rfl, rfl⟩ := e'
            have hlt' : (k : Int) < (p.length : Int) := by omega
            have HM := Lib.hid (fun W (hW : NW w W) => HVP.out.cell2 hW.below hx)
            have HAT := Lib.hid (rdAt_any q _ x.1 wr (HVQ.out.below HN.out.below))
            have HML := Lib.hid (retRMulX HFS.out (HSH.out.2.atT (k := x.1)))
            have HXS := Lib.hid (HSH.out.1 x (List.mem_of_getElem? hx)).2
            have HD := Lib.hid (drop_of hx)
            have HLT := Lib.hid (And.intro hlt hlt')
            have HP0 := Lib.hid (show foldX (partX f q) zT p = foldX (partX f q) s (x :: p.drop (k + 1)) by rw [HE.out.2, drop_of hx])
            obtain ⟨y, d⟩ := x
            dsimp only at c0 c1 HM HAT HML HXS HD HP0
            clear hx hlt
            cases hm : mulX f (atT q y) with
            | error n =>
              have HR2 := Lib.hid (show foldX (partX f q) zT p = .error n by rw [HP0.out]; exact foldX_err (x := (y, d)) (by unfold partX; dsimp only; rw [hm]))
              have hz := ne_zero (exQ_err hm)
              rw [hm] at HML
              change Hid (Ret _ _ (.tuple #[.string ⟨#[]⟩, .int .i64 (n : Int)])) at HML
              clear hm
              go_wp2_with (first
                | (go_at_call 39; refine HAT.out.mono ?_; rintro e w3 ⟨rfl, rfl⟩)
                | (go_at_call 149; refine (HML.out _ HN.out.res).mono ?_; rintro e w4 ⟨rfl, hb⟩; have N4 := Lib.hid (HN.out.later hb); clear hb; obtain ⟨hb4, q0, q1⟩ := HM.out _ N4.out))
              go_ret2
              rw [HR.out, HR2.out]
              exact ⟨rfl, N4.out.below⟩
            | ok m =>
              rw [hm] at HML
              change Hid (Ret _ _ (.tuple #[.string m, .int .i64 0])) at HML
              have HSB := Lib.hid (retRSubX HXS.out (size_ok (mulX_ok hm)))
              cases hs : subX d m with
              | error n =>
                have HR2 := Lib.hid (show foldX (partX f q) zT p = .error n by rw [HP0.out]; exact foldX_err (x := (y, d)) (by unfold partX; dsimp only; rw [hm]; dsimp only; rw [hs]))
                have hz := ne_zero (exQ_err hs)
                rw [hs] at HSB
                change Hid (Ret _ _ (.tuple #[.string ⟨#[]⟩, .int .i64 (n : Int)])) at HSB
                clear hm hs
                go_wp2_with (first
                | (go_at_call 39; refine HAT.out.mono ?_; rintro e w3 ⟨rfl, rfl⟩)
                | (go_at_call 149; refine (HML.out _ HN.out.res).mono ?_; rintro e w4 ⟨rfl, hb⟩; have N4 := Lib.hid (HN.out.later hb); clear hb; obtain ⟨hb4, q0, q1⟩ := HM.out _ N4.out)
                | (go_at_call 61; refine (HSB.out _ N4.out.res).mono ?_; rintro e w5 ⟨rfl, hb⟩; have N5 := Lib.hid (N4.out.later hb); clear hb))
                go_ret2
                rw [HR.out, HR2.out]
                exact ⟨rfl, N5.out.below⟩
              | ok t =>
                rw [hs] at HSB
                change Hid (Ret _ _ (.tuple #[.string t, .int .i64 0])) at HSB
                have HSG := Lib.hid (retRSign_ok (size_ok (subX_ok hs)) (subX_ok hs))
                by_cases h0 : 0 < valQ t.data.toList
                · have d1 : decide (0 < sgQ (valQ t.data.toList)) = true := decide_eq_true ((sg_gt _).2 h0)
                  have HPE := Lib.hid (show partX f q (y, d) = .ok t by unfold partX; dsimp only; rw [hm]; dsimp only; rw [hs]; exact maxX_pos (subX_ok hs) h0)
                  have HAD := Lib.hid (retRPlX (size_ok HE.out.1) (size_ok (subX_ok hs)))
                  clear hm hs h0
                  generalize sgQ (valQ t.data.toList) = sg at *
                  cases ha : plX s t with
                  | error n =>
                    rw [ha] at HAD
                    have HR2 := Lib.hid (show foldX (partX f q) zT p = .error n by rw [HP0.out]; exact foldX_err2 HPE.out ha)
                    have hz := ne_zero (exQ_err ha)
                    change Hid (Ret _ _ (.tuple #[.string ⟨#[]⟩, .int .i64 (n : Int)])) at HAD
                    clear ha
                    go_wp2_with (first
                | (go_at_call 39; refine HAT.out.mono ?_; rintro e w3 ⟨rfl, rfl⟩)
                | (go_at_call 149; refine (HML.out _ HN.out.res).mono ?_; rintro e w4 ⟨rfl, hb⟩; have N4 := Lib.hid (HN.out.later hb); clear hb; obtain ⟨hb4, q0, q1⟩ := HM.out _ N4.out)
                | (go_at_call 61; refine (HSB.out _ N4.out.res).mono ?_; rintro e w5 ⟨rfl, hb⟩; have N5 := Lib.hid (N4.out.later hb); clear hb)
                | (go_at_call 110; refine (HSG.out _ N5.out.res).mono ?_; rintro e w6 ⟨rfl, hb⟩; have N6 := Lib.hid (N5.out.later hb); clear hb)
                | (go_at_call 59; refine (HAD.out _ N6.out.res).mono ?_; rintro e w7 ⟨rfl, hb⟩; have N7 := Lib.hid (N6.out.later hb); clear hb))
                    go_ret2
                    rw [HR.out, HR2.out]
                    exact ⟨rfl, N7.out.below⟩
                  | ok u =>
                    rw [ha] at HAD
                    have HR2 := Lib.hid (show foldX (partX f q) zT p = foldX (partX f q) u (p.drop (k + 1)) by rw [HP0.out]; exact foldX_ok HPE.out ha)
                    change Hid (Ret _ _ (.tuple #[.string u, .int .i64 0])) at HAD
                    have HER := Lib.hid (plX_ok ha)
                    clear ha
                    go_wp2_with (first
                | (go_at_call 39; refine HAT.out.mono ?_; rintro e w3 ⟨rfl, rfl⟩)
                | (go_at_call 149; refine (HML.out _ HN.out.res).mono ?_; rintro e w4 ⟨rfl, hb⟩; have N4 := Lib.hid (HN.out.later hb); clear hb; obtain ⟨hb4, q0, q1⟩ := HM.out _ N4.out)
                | (go_at_call 61; refine (HSB.out _ N4.out.res).mono ?_; rintro e w5 ⟨rfl, hb⟩; have N5 := Lib.hid (N4.out.later hb); clear hb)
                | (go_at_call 110; refine (HSG.out _ N5.out.res).mono ?_; rintro e w6 ⟨rfl, hb⟩; have N6 := Lib.hid (N5.out.later hb); clear hb)
                | (go_at_call 59; refine (HAD.out _ N6.out.res).mono ?_; rintro e w7 ⟨rfl, hb⟩; have N7 := Lib.hid (N6.out.later hb); clear hb))
                    go_roundw
                    case rel => exact ⟨k + 1, u, HLT.out.1, by go_num, rfl, Lib.hid ⟨HER.out, HR2.out⟩, N7⟩
                    case measure => have := HLT.out.1; simp [intOf]; omega
                · have d1 : decide (0 < sgQ (valQ t.data.toList)) = false := decide_eq_false (fun h => h0 ((sg_gt _).1 h))
                  have HR2 := Lib.hid (show foldX (partX f q) zT p = foldX (partX f q) s (p.drop (k + 1)) by
                    rw [HP0.out]
                    exact foldX_ok (x := (y, d)) (p := zT) (by unfold partX; dsimp only; rw [hm]; dsimp only; rw [hs]; exact maxX_neg (subX_ok hs) h0) (plX_zero HE.out.1))
                  clear hm hs h0
                  generalize sgQ (valQ t.data.toList) = sg at *
                  go_wp2_with (first
                | (go_at_call 39; refine HAT.out.mono ?_; rintro e w3 ⟨rfl, rfl⟩)
                | (go_at_call 149; refine (HML.out _ HN.out.res).mono ?_; rintro e w4 ⟨rfl, hb⟩; have N4 := Lib.hid (HN.out.later hb); clear hb; obtain ⟨hb4, q0, q1⟩ := HM.out _ N4.out)
                | (go_at_call 61; refine (HSB.out _ N4.out.res).mono ?_; rintro e w5 ⟨rfl, hb⟩; have N5 := Lib.hid (N4.out.later hb); clear hb)
                | (go_at_call 110; refine (HSG.out _ N5.out.res).mono ?_; rintro e w6 ⟨rfl, hb⟩; have N6 := Lib.hid (N5.out.later hb); clear hb))
                  go_roundw
                  case rel => exact ⟨k + 1, s, HLT.out.1, by go_num, rfl, Lib.hid ⟨HE.out.1, HR2.out⟩, N6⟩
                  case measure => have := HLT.out.1; simp [intOf]; omega
          · have hlt' : ¬ (k : Int) < (p.length : Int) := by omega
            obtain rfl : k = p.length := by omega
            have HR2 := Lib.hid (show foldX (partX f q) zT p = .ok s by
              have := HE.out.2
              rwa [List.drop_length] at this)
            clear hlt
            go_wp2
            go_ret2
            rw [HR.out, HR2.out]
            exact ⟨rfl, HN.out.below⟩
    · have HSG := Lib.hid (retRSign_err hf h1)
      have hm := ne_zero h1
      have HR := Lib.hid (show deltaX p q f = .error (errQ f.data.toList) by
        rw [HR0.out, posE_err h1, if_pos h1])
      clear h1 hf
      go_enter Tryz.func102, Tryz.ntmps102
      go_wp2_with (first
        | (go_at_call 114; refine (HC.out).mono ?_; rintro e w1 ⟨rfl, hb⟩; have N1 := Lib.hid (N0.out.later hb); clear hb)
        | (go_at_call 110; refine (HSG.out _ N1.out.res).mono ?_; rintro e w2 ⟨rfl, hb⟩; have N2 := Lib.hid (N1.out.later hb); clear hb))
      go_ret2
      rw [HR.out]
      exact ⟨rfl, N2.out.below⟩
  · have HR := Lib.hid (show deltaX p q f = .error (chk2 p q) by unfold deltaX; rw [if_pos h0])
    have hm := ne_zero h0
    clear h0 hf
    go_enter Tryz.func102, Tryz.ntmps102
    go_wp2_with (go_at_call 114; refine (HC.out).mono ?_; rintro e w1 ⟨rfl, hb⟩; have N1 := Lib.hid (N0.out.later hb); clear hb)
    go_ret2
    rw [HR.out]
    exact ⟨rfl, N1.out.below⟩
set_option maxRecDepth 100000 in
set_option maxHeartbeats 8000000 in
theorem rddistance_any (p q : List L2) (vp vq : Value) (w : World) (hp : LRow w vp p) (hq : LRow w vq q) (sp : Short p) (sq : Short q) (hr : Res w) :
    Calls Tryz.prog 103 #[vp, vq] w fun e w' => e = .returned (resX (deltaX p q oT)) ∧ Below w.heap.size w w' := by
  have HD := Lib.hid (rddelta_any p q vp vq oT w hp hq sp sq oT_small hr)
  have N0 := Lib.hid (NW.refl hr)
  obtain ⟨r0, r1, hc⟩ := resX_tup (deltaX p q oT)
  rw [hc] at HD
  change Hid (Calls _ _ #[vp, vq, .string ⟨#[49]⟩] _ _) at HD
  rw [hc]
  clear hp hq sp sq hr hc
  go_enter Tryz.func103, Tryz.ntmps103
  go_wp2_with (go_at_call 102; refine (HD.out).mono ?_; rintro e w1 ⟨rfl, hb⟩; have N1 := Lib.hid (N0.out.later hb); clear hb)
  go_ret2
  exact ⟨rfl, N1.out.below⟩
def pxX (a b : ByteArray) (n : Int) : XE := match powX a n with
  | .error e => .error e
  | .ok x => match powX b (n - 1) with
    | .error e => .error e
    | .ok y => divX x y
theorem powsX_px (n : Int) (q : List L2) (m : L2) : powsX n q m = pxX m.2 (atT q m.1) n := rfl
set_option maxRecDepth 100000 in
set_option maxHeartbeats 8000000 in
theorem rpart_any {a b : ByteArray} {n : Int} {p q : Rat} {k : Nat} (ha : IsT a p) (hb : IsT b q) (hp : 0 < p) (hq : 0 < q) (sa : Sz k p) (sb : Sz k q) (hk : k * 8 + 1 ≤ maxD) (hn1 : 1 ≤ n) (hn8 : n ≤ 8) :
    Ret 186 #[.string a, .string b, .int .i64 n] (resX (pxX a b n)) := fun w hr => by
  obtain ⟨m, rfl⟩ : ∃ m : Nat, n = ((m + 1 : Nat) : Int) := ⟨(n - 1).toNat, by omega⟩
  have f1 : fits (p ^ (m + 1)) = true := fits_sz.2 ((sa.pow (m + 1)).mono (by
    have : k * (m + 1) ≤ k * 8 := Nat.mul_le_mul_left _ (by omega)
    omega))
  have f2 : fits (q ^ m) = true := fits_sz.2 ((sb.pow m).mono (by
    have : k * m ≤ k * 8 := Nat.mul_le_mul_left _ (by omega)
    omega))
  have e1 := powX_val ha.err (m + 1)
  have e2 := powX_val hb.err m
  rw [ha.val, ovT_fit f1] at e1
  rw [hb.val, ovT_fit f2] at e2
  have em : ((m + 1 : Nat) : Int) - 1 = (m : Int) := by omega
  have hv : pxX a b ((m + 1 : Nat) : Int) = divX (rT (p ^ (m + 1))) (rT (q ^ m)) := by
    unfold pxX
    rw [e1]
    dsimp only
    rw [em, e2]
  rw [hv]
  clear hv
  have HPA := Lib.hid (retPowS (n := ((m + 1 : Nat) : Int)) ha hp (by rw [Rat.zpow_natCast]; exact isT_rT f1) (by omega) (by omega))
  have HPB := Lib.hid (retPowS (n := (m : Int)) hb hq (by rw [Rat.zpow_natCast]; exact isT_rT f2) (by omega) (by omega))
  have HDV := Lib.hid (retRDivX (isT_rT f1).size (isT_rT f2).size)
  have N0 := Lib.hid (NW.refl hr)
  have TKA : True := trivial
  have hem := Lib.hid em
  obtain ⟨r0, r1, hc⟩ := resX_tup (divX (rT (p ^ (m + 1))) (rT (q ^ m)))
  rw [hc] at HDV ⊢
  rw [← em] at HPB
  clear f1 f2 e1 e2 hc hp hq sa sb hr ha hb hem em
  generalize rT (p ^ (m + 1)) = s at *
  generalize rT (q ^ m) = t at *
  generalize ((m + 1 : Nat) : Int) = n at *
  go_enter Tryz.func186, Tryz.ntmps186
  go_wp2_with (first
    | (clear TKA; go_at_call 240; refine (HPA.out _ N0.out.res).mono ?_; rintro e w1 ⟨rfl, hb⟩; have N1 := Lib.hid (N0.out.later hb); clear hb)
    | (go_at_call 240; refine (HPB.out _ N1.out.res).mono ?_; rintro e w2 ⟨rfl, hb⟩; have N2 := Lib.hid (N1.out.later hb); clear hb)
    | (go_at_call 160; refine (HDV.out _ N2.out.res).mono ?_; rintro e w3 ⟨rfl, hb⟩; have N3 := Lib.hid (N2.out.later hb); clear hb))
  go_ret2
  exact ⟨rfl, N3.out.below⟩
set_option maxRecDepth 100000 in
set_option maxHeartbeats 8000000 in
theorem rdfactor_any (p q : List L2) (vp vq : Value) (w : World) (hp : LRow w vp p) (hq : LRow w vq q) (sp : Short p) (sq : Short q) (hr : Res w) :
    Calls Tryz.prog 63 #[vp, vq] w fun e w' => e = .returned (facV p q) ∧ Below w.heap.size w w' := by
  have N0 := Lib.hid (NW.refl hr)
  have HC := Lib.hid (rdboth_any p q vp vq w hp hq sp sq hr)
  have HVP := Lib.hid hp
  have HVQ := Lib.hid hq
  have HSH := Lib.hid (And.intro sp sq)
  have HWI := Lib.hid (fun W (hW : NW w W) => rdwithin_any p q vp vq W (hp.below hW.below) (hq.below hW.below))
  obtain ⟨A, c, rfl, hlen, hcells⟩ := hp
  obtain ⟨A', c', rfl, hlen', hcells'⟩ := hq
  clear hcells hcells' sp sq hr
  by_cases h0 : chk2 p q = 0
  · rw [h0] at HC
    change Hid (Calls _ _ _ _ fun e w' => e = .returned (.int .i64 0) ∧ _) at HC
    have HR0 := Lib.hid (show facV p q = if inX p q = false then .tuple #[.string ⟨#[]⟩, .bool false, .int .i64 0] else resF (mostX q zT p) by unfold facV; rw [if_neg (by simpa using h0)])
    clear h0
    cases hi : inX p q with
    | false =>
      have HR := Lib.hid (show facV p q = .tuple #[.string ⟨#[]⟩, .bool false, .int .i64 0] by rw [HR0.out, if_pos hi])
      rw [hi] at HWI
      clear hi
      go_enter Tryz.func63, Tryz.ntmps63
      go_wp2_with (first
        | (go_at_call 114; refine HC.out.mono ?_; rintro e w1 ⟨rfl, hb⟩; have N1 := Lib.hid (N0.out.later hb); clear hb)
        | (go_at_call 159; refine (HWI.out _ N1.out).mono ?_; rintro e w2 ⟨rfl, hw⟩; have N2 := Lib.hid (show NW w w2 by rw [hw]; exact N1.out); clear hw))
      go_ret3
      rw [HR.out]
      exact ⟨rfl, N2.out.below⟩
    | true =>
      have HR := Lib.hid (show facV p q = resF (mostX q zT p) by rw [HR0.out, if_neg (by rw [hi]; decide)])
      rw [hi] at HWI
      clear hi
      go_enter Tryz.func63, Tryz.ntmps63
      go_wp2_with (first
        | (go_at_call 114; refine HC.out.mono ?_; rintro e w1 ⟨rfl, hb⟩; have N1 := Lib.hid (N0.out.later hb); clear hb)
        | (go_at_call 159; refine (HWI.out _ N1.out).mono ?_; rintro e w2 ⟨rfl, hw⟩; have N2 := Lib.hid (show NW w w2 by rw [hw]; exact N1.out); clear hw))
      go_loopw [8, 9] (fun v8 v9 wr => ∃ (k : Nat) (s : ByteArray), k ≤ p.length ∧ v9 = .int .i64 (k : Int) ∧ v8 = .string s ∧ Hid (errQ s.data.toList = 0 ∧ mostX q zT p = mostX q s (p.drop k)) ∧ Hid (NW w wr)) (fun _ v9 _ => p.length - (intOf v9).toNat)
      case atStart => exact ⟨0, zT, Nat.zero_le _, rfl, rfl, Lib.hid ⟨err_zT, by simp⟩, N2⟩
      case round =>
        clear N0 N1 N2 HC HWI HR0
        obtain ⟨k, s, hk, rfl, rfl, HE, HN⟩ := hrel
        by_cases hlt : k < p.length
        · obtain ⟨x, hx⟩ : ∃ x, p[k]? = some x := ⟨_, List.getElem?_eq_getElem hlt⟩
          obtain ⟨b, o, c2, e', hb2, c0, c1⟩ := HVP.out.at HN.out.below hx
          simp only [Value.slice.injEq, true_and] at e'
          obtain ⟨rfl, rfl⟩ := e'
          have hlt' : (k : Int) < (p.length : Int) := by omega
          have z0 : ∀ z : LaterW wr, z.W.cell? ⟨b, o + k * 2, none⟩ = some (.string x.1) := fun z => (z.h.cell (p := ⟨b, o + k * 2, none⟩) hb2).trans c0
          have z1 : ∀ z : LaterW wr, z.W.cell? ⟨b, o + k * 2 + 1, none⟩ = some (.string x.2) := fun z => (z.h.cell (p := ⟨b, o + k * 2 + 1, none⟩) hb2).trans c1
          have HAT := Lib.hid (fun W (hW : Below wr.heap.size wr W) => rdAt_any q _ x.1 W ((HVQ.out.below HN.out.below).below hW))
          have HDV := Lib.hid (retRDivX (HSH.out.1 x (List.mem_of_getElem? hx)).2 (HSH.out.2.atT (k := x.1)))
          have HD := Lib.hid (drop_of hx)
          have HLT := Lib.hid (And.intro hlt hlt')
          obtain ⟨y, d⟩ := x
          dsimp only at c0 c1 z0 z1 HAT HDV HD
          clear hx hlt c0 c1
          cases hd : divX d (atT q y) with
          | error m =>
            have HR2 := Lib.hid (show mostX q zT p = .error m by rw [HE.out.2, HD.out]; unfold mostX; dsimp only; rw [hd])
            have hm := ne_zero (exQ_err hd)
            rw [hd] at HDV
            change Hid (Ret _ _ (.tuple #[.string ⟨#[]⟩, .int .i64 (m : Int)])) at HDV
            clear hd
            go_wp2
            refine wp_region_fast (by kernel_rfl) (by kernel_rfl) (by kernel_rfl) ?_
            repeat (go_big_quiet_step (first
              | (go_at_call 39; refine (HAT.out _ (LaterW.h _)).mono ?_; rintro e w99 ⟨rfl, rfl⟩; exact ⟨rfl, ⟨_, rfl⟩⟩)
              | (go_at_call 160; refine (HDV.out _ (HN.out.res.below (LaterW.h _))).mono ?_; rintro e w99 ⟨rfl, hb9⟩; exact ⟨rfl, ⟨⟨w99, (LaterW.h _).trans (hb9.mono (LaterW.h _).size)⟩, rfl⟩⟩)))
            refine wpQuiet_nil ?_
            rintro _ ⟨z, rfl⟩
            have N3 := Lib.hid (HN.out.later z.h)
            go_wp2
            go_ret3
            rw [HR.out, HR2.out]
            exact ⟨rfl, N3.out.below⟩
          | ok t =>
            rw [hd] at HDV
            change Hid (Ret _ _ (.tuple #[.string t, .int .i64 0])) at HDV
            have hmx := maxX_val HE.out.1 (divX_ok hd)
            have HMX := Lib.hid (retRMaxX (size_ok HE.out.1) (size_ok (divX_ok hd)))
            rw [hmx] at HMX
            have HR2 := Lib.hid (show mostX q zT p = mostX q (if cmpQ (valQ s.data.toList) (valQ t.data.toList) < 0 then t else s) (p.drop (k + 1)) by
              rw [HE.out.2, HD.out]
              conv => lhs; unfold mostX
              dsimp only
              rw [hd])
            have HER := Lib.hid (show errQ (if cmpQ (valQ s.data.toList) (valQ t.data.toList) < 0 then t else s).data.toList = 0 by split; exact divX_ok hd; exact HE.out.1)
            generalize (if cmpQ (valQ s.data.toList) (valQ t.data.toList) < 0 then t else s) = u at *
            change Hid (Ret _ _ (.tuple #[.string u, .int .i64 0])) at HMX
            clear hd hmx
            go_wp2
            refine wp_region_fast (by kernel_rfl) (by kernel_rfl) (by kernel_rfl) ?_
            repeat (go_big_quiet_step (first
              | (go_at_call 39; refine (HAT.out _ (LaterW.h _)).mono ?_; rintro e w99 ⟨rfl, rfl⟩; exact ⟨rfl, ⟨_, rfl⟩⟩)
              | (go_at_call 160; refine (HDV.out _ (HN.out.res.below (LaterW.h _))).mono ?_; rintro e w99 ⟨rfl, hb9⟩; exact ⟨rfl, ⟨⟨w99, (LaterW.h _).trans (hb9.mono (LaterW.h _).size)⟩, rfl⟩⟩)))
            refine wpQuiet_nil ?_
            rintro _ ⟨z, rfl⟩
            have N3 := Lib.hid (HN.out.later z.h)
            go_wp2_with (go_at_call 57; refine (HMX.out _ N3.out.res).mono ?_; rintro e w5 ⟨rfl, hb⟩; have N5 := Lib.hid (N3.out.later hb); clear hb)
            go_roundw
            case rel => exact ⟨k + 1, u, HLT.out.1, by go_num, rfl, Lib.hid ⟨HER.out, HR2.out⟩, N5⟩
            case measure => have := HLT.out.1; simp [intOf]; omega
        · have hlt' : ¬ (k : Int) < (p.length : Int) := by omega
          obtain rfl : k = p.length := by omega
          have HR2 := Lib.hid (show mostX q zT p = .ok s by
            have := HE.out.2
            rwa [List.drop_length] at this)
          clear hlt
          go_wp2
          go_ret3
          rw [HR.out, HR2.out]
          exact ⟨rfl, HN.out.below⟩
  · have HR := Lib.hid (show facV p q = .tuple #[.string ⟨#[]⟩, .bool false, .int .i64 (chk2 p q : Int)] by unfold facV; rw [if_pos h0])
    have hm := ne_zero h0
    have hm2 := ne_zero2 h0
    clear h0
    go_enter Tryz.func63, Tryz.ntmps63
    go_wp2_with (go_at_call 114; refine (HC.out).mono ?_; rintro e w1 ⟨rfl, hb⟩; have N1 := Lib.hid (N0.out.later hb); clear hb)
    go_ret3
    rw [HR.out]
    exact ⟨rfl, N1.out.below⟩
end Go.Proofs.YtigapglmipmbeaaGreatDoor
namespace Go.Proofs.YtigapglmipmbeaaGreatDoor
open Go.RowKit Go.Shelf
open Lim
attribute [local go_sem] Oper.semAt_some
set_option maxRecDepth 100000 in
set_option maxHeartbeats 8000000 in
theorem rdmoment_any (p q : List L2) (vp vq : Value) (n : Int) (j : Nat) (w : World) (hp : LRow w vp p) (hq : LRow w vq q) (sp : Short p) (sq : Short q) (kp : ∀ x ∈ p, x.2.size ≤ j) (kq : ∀ x ∈ q, x.2.size ≤ j) (hj : j * 8 + 1 ≤ maxD) (hr : Res w) :
    Calls Tryz.prog 104 #[vp, vq, .int .i64 n] w fun e w' => e = .returned (momV p q n) ∧ Below w.heap.size w w' := by
  have N0 := Lib.hid (NW.refl hr)
  have HC := Lib.hid (rdboth_any p q vp vq w hp hq sp sq hr)
  have HVP := Lib.hid hp
  have HVQ := Lib.hid hq
  have HSH := Lib.hid (And.intro sp sq)
  have HWI := Lib.hid (fun W (hW : NW w W) => rdwithin_any p q vp vq W (hp.below hW.below) (hq.below hW.below))
  obtain ⟨A, c, rfl, hlen, hcells⟩ := hp
  obtain ⟨A', c', rfl, hlen', hcells'⟩ := hq
  clear hcells hcells' sp sq hr
  by_cases h0 : chk2 p q = 0
  · rw [h0] at HC
    change Hid (Calls _ _ _ _ fun e w' => e = .returned (.int .i64 0) ∧ _) at HC
    by_cases h1 : n < 1
    · have HR := Lib.hid (show momV p q n = .tuple #[.string ⟨#[]⟩, .bool false, .int .i64 2] by unfold momV; rw [if_neg (by simpa using h0), if_pos (.inl h1)])
      have d1 : decide (n < 1) = true := decide_eq_true h1
      clear h0 h1
      go_enter Tryz.func104, Tryz.ntmps104
      go_wp2_with (go_at_call 114; refine (HC.out).mono ?_; rintro e w1 ⟨rfl, hb⟩; have N1 := Lib.hid (N0.out.later hb); clear hb)
      go_ret3
      rw [HR.out]
      exact ⟨rfl, N1.out.below⟩
    · have d1 : decide (n < 1) = false := decide_eq_false h1
      by_cases h2 : 8 < n
      · have HR := Lib.hid (show momV p q n = .tuple #[.string ⟨#[]⟩, .bool false, .int .i64 2] by unfold momV; rw [if_neg (by simpa using h0), if_pos (.inr h2)])
        have d2 : decide (8 < n) = true := decide_eq_true h2
        clear h0 h1 h2
        go_enter Tryz.func104, Tryz.ntmps104
        go_wp2_with (go_at_call 114; refine (HC.out).mono ?_; rintro e w1 ⟨rfl, hb⟩; have N1 := Lib.hid (N0.out.later hb); clear hb)
        go_ret3
        rw [HR.out]
        exact ⟨rfl, N1.out.below⟩
      · have d2 : decide (8 < n) = false := decide_eq_false h2
        have HR0 := Lib.hid (show momV p q n = if inX p q = false then .tuple #[.string ⟨#[]⟩, .bool false, .int .i64 0] else resF (foldX (powsX n q) zT p) by unfold momV; rw [if_neg (by simpa using h0), if_neg (by omega)])
        have hc0 := chk2_both h0
        cases hi : inX p q with
        | false =>
          have HR := Lib.hid (show momV p q n = .tuple #[.string ⟨#[]⟩, .bool false, .int .i64 0] by rw [HR0.out, if_pos hi])
          rw [hi] at HWI
          clear h0 h1 h2 hi hc0
          go_enter Tryz.func104, Tryz.ntmps104
          go_wp2_with (first
            | (go_at_call 114; refine HC.out.mono ?_; rintro e w1 ⟨rfl, hb⟩; have N1 := Lib.hid (N0.out.later hb); clear hb)
            | (go_at_call 159; refine (HWI.out _ N1.out).mono ?_; rintro e w2 ⟨rfl, hw⟩; have N2 := Lib.hid (show NW w w2 by rw [hw]; exact N1.out); clear hw))
          go_ret3
          rw [HR.out]
          exact ⟨rfl, N2.out.below⟩
        | true =>
          have HR := Lib.hid (show momV p q n = resF (foldX (powsX n q) zT p) by rw [HR0.out, if_neg (by rw [hi]; decide)])
          rw [hi] at HWI
          have HPT0 := Lib.hid (show ∀ x ∈ p, Ret 186 #[.string x.2, .string (atT q x.1), .int .i64 n] (resX (powsX n q x)) from fun x hx => by
            obtain ⟨y, hy, _, e2⟩ := atT_mem (inX_iff.1 hi x hx)
            have hpx := (chkD_zero hc0.1).1.plus _ (List.mem_map_of_mem hx)
            have hqy := (chkD_zero hc0.2).1.plus _ (List.mem_map_of_mem hy)
            have ho := (chkD_zero hc0.1).2.1 x hx
            have hoy := (chkD_zero hc0.2).2.1 y hy
            rw [← e2] at hoy
            have hqy2 : 0 < valQ (atT q x.1).data.toList := by rw [e2]; exact hqy
            have kpx : Sz j (valX x) := sz_of_text ho (by rw [← size_list]; exact kp x hx)
            have kqy : Sz j (valQ (atT q x.1).data.toList) := sz_of_text hoy (by rw [← size_list, e2]; exact kq y hy)
            rw [powsX_px]
            exact rpart_any (IsT.of ho) (IsT.of hoy) hpx hqy2 kpx kqy hj (by omega) (by omega))
          clear h0 h1 h2 hi hc0 kp kq hj
          go_enter Tryz.func104, Tryz.ntmps104
          go_wp2_with (first
            | (go_at_call 114; refine HC.out.mono ?_; rintro e w1 ⟨rfl, hb⟩; have N1 := Lib.hid (N0.out.later hb); clear hb)
            | (go_at_call 159; refine (HWI.out _ N1.out).mono ?_; rintro e w2 ⟨rfl, hw⟩; have N2 := Lib.hid (show NW w w2 by rw [hw]; exact N1.out); clear hw))
          go_loopw [10, 11] (fun v10 v11 wr => ∃ (k : Nat) (s : ByteArray), k ≤ p.length ∧ v11 = .int .i64 (k : Int) ∧ v10 = .string s ∧ Hid (errQ s.data.toList = 0 ∧ foldX (powsX n q) zT p = foldX (powsX n q) s (p.drop k)) ∧ Hid (NW w wr)) (fun _ v11 _ => p.length - (intOf v11).toNat)
          case atStart => exact ⟨0, zT, Nat.zero_le _, rfl, rfl, Lib.hid ⟨err_zT, by simp⟩, N2⟩
          case round =>
            clear N0 N1 N2 HC HWI HR0
            obtain ⟨k, s, hk, rfl, rfl, HE, HN⟩ := hrel
            by_cases hlt : k < p.length
            · obtain ⟨x, hx⟩ : ∃ x, p[k]? = some x := ⟨_, List.getElem?_eq_getElem hlt⟩
              obtain ⟨b, o, c2, e', hb2, c0, c1⟩ := HVP.out.at HN.out.below hx
              simp only [Value.slice.injEq, true_and] at e'
              obtain ⟨rfl, rfl⟩ := e'
              have hlt' : (k : Int) < (p.length : Int) := by omega
              have z0 : ∀ z : LaterW wr, z.W.cell? ⟨b, o + k * 2, none⟩ = some (.string x.1) := fun z => (z.h.cell (p := ⟨b, o + k * 2, none⟩) hb2).trans c0
              have z1 : ∀ z : LaterW wr, z.W.cell? ⟨b, o + k * 2 + 1, none⟩ = some (.string x.2) := fun z => (z.h.cell (p := ⟨b, o + k * 2 + 1, none⟩) hb2).trans c1
              have HAT := Lib.hid (fun W (hW : Below wr.heap.size wr W) => rdAt_any q _ x.1 W ((HVQ.out.below HN.out.below).below hW))
              have HPT := Lib.hid (HPT0.out x (List.mem_of_getElem? hx))
              have HP0 := Lib.hid (show foldX (powsX n q) zT p = foldX (powsX n q) s (x :: p.drop (k + 1)) by rw [HE.out.2, drop_of hx])
              have HLT := Lib.hid (And.intro hlt hlt')
              cases hd : powsX n q x with
              | error m =>
                have HR2 := Lib.hid (show foldX (powsX n q) zT p = .error m by rw [HP0.out]; exact foldX_err hd)
                have hm := ne_zero (powsX_ne hd)
                rw [hd] at HPT
                change Hid (Ret _ _ (.tuple #[.string ⟨#[]⟩, .int .i64 (m : Int)])) at HPT
                obtain ⟨y, d⟩ := x
                dsimp only at c0 c1 z0 z1 HAT HPT
                clear hx hlt c0 c1 hd HPT0
                go_wp2
                refine wp_region_fast (by kernel_rfl) (by kernel_rfl) (by kernel_rfl) ?_
                repeat (go_big_quiet_step (first
                  | (go_at_call 39; refine (HAT.out _ (LaterW.h _)).mono ?_; rintro e w99 ⟨rfl, rfl⟩; exact ⟨rfl, ⟨_, rfl⟩⟩)
                  | (go_at_call 186; refine (HPT.out _ (HN.out.res.below (LaterW.h _))).mono ?_; rintro e w99 ⟨rfl, hb9⟩; exact ⟨rfl, ⟨⟨w99, (LaterW.h _).trans (hb9.mono (LaterW.h _).size)⟩, rfl⟩⟩)))
                refine wpQuiet_nil ?_
                rintro _ ⟨z, rfl⟩
                have N3 := Lib.hid (HN.out.later z.h)
                go_wp2
                go_ret3
                rw [HR.out, HR2.out]
                exact ⟨rfl, N3.out.below⟩
              | ok t =>
                rw [hd] at HPT
                change Hid (Ret _ _ (.tuple #[.string t, .int .i64 0])) at HPT
                have HPE := Lib.hid hd
                have HAD := Lib.hid (retRPlX (size_ok HE.out.1) (size_ok (powsX_fine hd)))
                obtain ⟨y, d⟩ := x
                dsimp only at c0 c1 z0 z1 HAT HPT
                clear hx hlt c0 c1 hd
                cases ha : plX s t with
                | error m =>
                  rw [ha] at HAD
                  have HR2 := Lib.hid (show foldX (powsX n q) zT p = .error m by rw [HP0.out]; exact foldX_err2 HPE.out ha)
                  have hz := ne_zero (exQ_err ha)
                  change Hid (Ret _ _ (.tuple #[.string ⟨#[]⟩, .int .i64 (m : Int)])) at HAD
                  clear ha HPT0
                  go_wp2
                  refine wp_region_fast (by kernel_rfl) (by kernel_rfl) (by kernel_rfl) ?_
                  repeat (go_big_quiet_step (first
                    | (go_at_call 39; refine (HAT.out _ (LaterW.h _)).mono ?_; rintro e w99 ⟨rfl, rfl⟩; exact ⟨rfl, ⟨_, rfl⟩⟩)
                    | (go_at_call 186; refine (HPT.out _ (HN.out.res.below (LaterW.h _))).mono ?_; rintro e w99 ⟨rfl, hb9⟩; exact ⟨rfl, ⟨⟨w99, (LaterW.h _).trans (hb9.mono (LaterW.h _).size)⟩, rfl⟩⟩)))
                  refine wpQuiet_nil ?_
                  rintro _ ⟨z, rfl⟩
                  have N3 := Lib.hid (HN.out.later z.h)
                  go_wp2_with (go_at_call 59; refine (HAD.out _ N3.out.res).mono ?_; rintro e w5 ⟨rfl, hb⟩; have N5 := Lib.hid (N3.out.later hb); clear hb)
                  go_ret3
                  rw [HR.out, HR2.out]
                  exact ⟨rfl, N5.out.below⟩
                | ok u =>
                  rw [ha] at HAD
                  have HR2 := Lib.hid (show foldX (powsX n q) zT p = foldX (powsX n q) u (p.drop (k + 1)) by rw [HP0.out]; exact foldX_ok HPE.out ha)
                  change Hid (Ret _ _ (.tuple #[.string u, .int .i64 0])) at HAD
                  have HER := Lib.hid (plX_ok ha)
                  clear ha
                  go_wp2
                  refine wp_region_fast (by kernel_rfl) (by kernel_rfl) (by kernel_rfl) ?_
                  repeat (go_big_quiet_step (first
                    | (go_at_call 39; refine (HAT.out _ (LaterW.h _)).mono ?_; rintro e w99 ⟨rfl, rfl⟩; exact ⟨rfl, ⟨_, rfl⟩⟩)
                    | (go_at_call 186; refine (HPT.out _ (HN.out.res.below (LaterW.h _))).mono ?_; rintro e w99 ⟨rfl, hb9⟩; exact ⟨rfl, ⟨⟨w99, (LaterW.h _).trans (hb9.mono (LaterW.h _).size)⟩, rfl⟩⟩)))
                  refine wpQuiet_nil ?_
                  rintro _ ⟨z, rfl⟩
                  have N3 := Lib.hid (HN.out.later z.h)
                  go_wp2_with (go_at_call 59; refine (HAD.out _ N3.out.res).mono ?_; rintro e w5 ⟨rfl, hb⟩; have N5 := Lib.hid (N3.out.later hb); clear hb)
                  go_roundw
                  case rel => exact ⟨k + 1, u, HLT.out.1, by go_num, rfl, Lib.hid ⟨HER.out, HR2.out⟩, N5⟩
                  case measure => have := HLT.out.1; simp [intOf]; omega
            · have hlt' : ¬ (k : Int) < (p.length : Int) := by omega
              obtain rfl : k = p.length := by omega
              have HR2 := Lib.hid (show foldX (powsX n q) zT p = .ok s by
                have := HE.out.2
                rwa [List.drop_length] at this)
              clear hlt
              go_wp2
              go_ret3
              rw [HR.out, HR2.out]
              exact ⟨rfl, HN.out.below⟩
  · have HR := Lib.hid (show momV p q n = .tuple #[.string ⟨#[]⟩, .bool false, .int .i64 (chk2 p q : Int)] by unfold momV; rw [if_pos h0])
    have hm := ne_zero h0
    clear h0
    go_enter Tryz.func104, Tryz.ntmps104
    go_wp2_with (go_at_call 114; refine (HC.out).mono ?_; rintro e w1 ⟨rfl, hb⟩; have N1 := Lib.hid (N0.out.later hb); clear hb)
    go_ret3
    rw [HR.out]
    exact ⟨rfl, N1.out.below⟩
end Go.Proofs.YtigapglmipmbeaaGreatDoor
namespace Go.Proofs.YtigapglmipmbeaaGreatDoor
open Go.RowKit Go.Shelf
open Lim
theorem facV_tup (p q : List L2) : ∃ a b c, facV p q = .tuple #[.string a, .bool b, .int .i64 c] := by
  unfold facV
  split
  · exact ⟨_, _, _, rfl⟩
  · split
    · exact ⟨_, _, _, rfl⟩
    · cases mostX q zT p
      · exact ⟨_, _, _, rfl⟩
      · exact ⟨_, _, _, rfl⟩
theorem momV_tup (p q : List L2) (n : Int) : ∃ a b c, momV p q n = .tuple #[.string a, .bool b, .int .i64 c] := by
  unfold momV
  split
  · exact ⟨_, _, _, rfl⟩
  · split
    · exact ⟨_, _, _, rfl⟩
    · split
      · exact ⟨_, _, _, rfl⟩
      · cases foldX (powsX n q) zT p
        · exact ⟨_, _, _, rfl⟩
        · exact ⟨_, _, _, rfl⟩
set_option maxRecDepth 100000 in
set_option maxHeartbeats 16000000 in
theorem distMeasures_any (p q : List L2) (vp vq : Value) (f : ByteArray) (n : Int) (w : World) (hp : LRowW w vp p) (hq : LRowW w vq q) (hf : f.size ≤ maxLen) (hn1 : -9223372036854775808 ≤ n) (hn2 : n ≤ 9223372036854775807) (hr : Res w) :
    Calls Tryz.prog 17 #[vp, vq, .string f, .int .i64 n] w fun e w' => e = .returned (.bool true) ∧ Below w.heap.size w w' := by
  have N0 := Lib.hid (NW.refl hr)
  have HLV := Lib.hid (fun (w : World) hr => dlives_any w hr)
  have HLI := Lib.hid (fun (W : World) (hW : NW w W) => light8_any [p, q] (.slice (some ⟨W.heap.size, 0, none⟩) 2 2) (W.alloc (.cells #[vp, vq] 22))
    (LLRow.ofBlk (vs := [(vp, p), (vq, q)]) (Blk.new W 22 #[vp, vq]) rfl (by simp) (fun x hx => by
      have hb := below_alloc hW.below (.cells #[vp, vq] 22)
      simp only [List.mem_cons, List.not_mem_nil, or_false] at hx
      rcases hx with rfl | rfl
      · exact hp.below hb
      · exact hq.below hb)))
  obtain ⟨A, c, rfl, _, _⟩ := id hp
  obtain ⟨A', c', rfl, _, _⟩ := id hq
  have HP := Lib.hid hp
  have HQ := Lib.hid hq
  clear hp hq hr
  cases hl : lightsD 16 12 24 [p, q] with
  | false =>
    rw [hl] at HLI
    clear hl
    have TK0 : True := trivial
    have TK1 : True := trivial
    go_enter Tryz.func17, Tryz.ntmps17
    go_wp2_with ((clear TK0; go_at_call 21; refine (HLV.out _ N0.out.res).mono ?_; rintro e w1 ⟨rfl, hb⟩; have N1 := Lib.hid (N0.out.later hb); clear hb))
    go_wp2_with ((clear TK1; go_at_call 22; refine (HLI.out _ N1.out).mono ?_; rintro e w2 ⟨rfl, hw⟩; have N2 := Lib.hid (show NW w w2 by rw [hw]; exact N1.out.alloc _); clear hw))
    go_wp2
    go_ret
    exact ⟨rfl, N2.out.below⟩
  | true =>
    rw [hl] at HLI
    by_cases h24 : f.size ≤ 24
    · have t1 : decide (24 < (f.size : Int)) = false := decide_eq_false (by omega)
      have t1n : decide (24 < f.size) = false := decide_eq_false (by omega)
      have hall : ∀ ls ∈ [p, q], ls.length ≤ 16 ∧ ∀ x ∈ ls, x.1.size ≤ 12 ∧ x.2.size ≤ 24 := fun ls h => lightD_iff.1 (List.all_eq_true.1 hl ls h)
      obtain ⟨lp, sp⟩ := hall p (by simp)
      obtain ⟨lq, sq⟩ := hall q (by simp)
      have shp : Short p := fun x hx => ⟨Nat.le_trans (sp x hx).1 (by omega), Nat.le_trans (sp x hx).2 (by omega)⟩
      have shq : Short q := fun x hx => ⟨Nat.le_trans (sq x hx).1 (by omega), Nat.le_trans (sq x hx).2 (by omega)⟩
      have hf2 : f.size ≤ 270000 := by omega
      have rp := fun (W : World) (hW : NW w W) => (HP.out.below hW.below).row (by omega)
      have rq := fun (W : World) (hW : NW w W) => (HQ.out.below hW.below).row (by omega)
      have HD := Lib.hid (fun W (hW : NW w W) => ddelta_any p q _ _ f W (rp W hW) (rq W hW) shp shq hf2 hW.res)
      have HD2 := Lib.hid (fun W (hW : NW w W) => rddelta_any p q _ _ f W (rp W hW) (rq W hW) shp shq hf2 hW.res)
      have HI := Lib.hid (fun W (hW : NW w W) => ddistance_any p q _ _ W (rp W hW) (rq W hW) shp shq hW.res)
      have HI2 := Lib.hid (fun W (hW : NW w W) => rddistance_any p q _ _ W (rp W hW) (rq W hW) shp shq hW.res)
      have HF := Lib.hid (fun W (hW : NW w W) => dfactor_any p q _ _ W (rp W hW) (rq W hW) shp shq hW.res)
      have HF2 := Lib.hid (fun W (hW : NW w W) => rdfactor_any p q _ _ W (rp W hW) (rq W hW) shp shq hW.res)
      have HM := Lib.hid (fun W (hW : NW w W) => dmoment_any p q _ _ n W (rp W hW) (rq W hW) shp shq hW.res)
      have HM2 := Lib.hid (fun W (hW : NW w W) => rdmoment_any p q _ _ n 24 W (rp W hW) (rq W hW) shp shq (fun x hx => (sp x hx).2) (fun x hx => (sq x hx).2) (by decide) hW.res)
      obtain ⟨a1, a2, e1⟩ := resX_tup (deltaX p q f)
      obtain ⟨b1, b2, e2⟩ := resX_tup (deltaX p q oT)
      obtain ⟨c1, c2, c3, e3⟩ := facV_tup p q
      obtain ⟨d1, d2, d3, e4⟩ := momV_tup p q n
      rw [e1] at HD HD2
      rw [e2] at HI HI2
      rw [e3] at HF HF2
      rw [e4] at HM HM2
      clear e1 e2 e3 e4 hl hall lp sp lq sq shp shq hf2 rp rq h24
      have TK0 : True := trivial
      have TK1 : True := trivial
      have TK2 : True := trivial
      have TK3 : True := trivial
      have TK4 : True := trivial
      have TK5 : True := trivial
      have TK6 : True := trivial
      have TK7 : True := trivial
      have TK8 : True := trivial
      have TK9 : True := trivial
      go_enter Tryz.func17, Tryz.ntmps17
      go_wp2_with ((clear TK0; go_at_call 21; refine (HLV.out _ N0.out.res).mono ?_; rintro e w1 ⟨rfl, hb⟩; have N1 := Lib.hid (N0.out.later hb); clear hb))
      go_wp2_with ((clear TK1; go_at_call 22; refine (HLI.out _ N1.out).mono ?_; rintro e w2 ⟨rfl, hw⟩; have N2 := Lib.hid (show NW w w2 by rw [hw]; exact N1.out.alloc _); clear hw))
      go_wp2_with ((clear TK2; go_at_call 45; refine (HD.out _ N2.out).mono ?_; rintro e w3 ⟨rfl, hb⟩; have N3 := Lib.hid (N2.out.later hb); clear hb))
      go_wp2_with ((clear TK3; go_at_call 102; refine (HD2.out _ N3.out).mono ?_; rintro e w4 ⟨rfl, hb⟩; have N4 := Lib.hid (N3.out.later hb); clear hb))
      go_wp2_with ((clear TK4; go_at_call 46; refine (HI.out _ N4.out).mono ?_; rintro e w5 ⟨rfl, hb⟩; have N5 := Lib.hid (N4.out.later hb); clear hb))
      go_wp2_with ((clear TK5; go_at_call 103; refine (HI2.out _ N5.out).mono ?_; rintro e w6 ⟨rfl, hb⟩; have N6 := Lib.hid (N5.out.later hb); clear hb))
      go_wp2_with ((clear TK6; go_at_call 47; refine (HF.out _ N6.out).mono ?_; rintro e w7 ⟨rfl, hb⟩; have N7 := Lib.hid (N6.out.later hb); clear hb))
      go_wp2_with ((clear TK7; go_at_call 63; refine (HF2.out _ N7.out).mono ?_; rintro e w8 ⟨rfl, hb⟩; have N8 := Lib.hid (N7.out.later hb); clear hb))
      go_wp2_with ((clear TK8; go_at_call 48; refine (HM.out _ N8.out).mono ?_; rintro e w9 ⟨rfl, hb⟩; have N9 := Lib.hid (N8.out.later hb); clear hb))
      go_wp2_with ((clear TK9; go_at_call 104; refine (HM2.out _ N9.out).mono ?_; rintro e w10 ⟨rfl, hb⟩; have N10 := Lib.hid (N9.out.later hb); clear hb))
      go_wp2
      go_ret
      exact ⟨rfl, N10.out.below⟩
    · have t1 : decide (24 < (f.size : Int)) = true := decide_eq_true (by omega)
      have t1n : decide (24 < f.size) = true := decide_eq_true (by omega)
      clear hl h24
      have TK0 : True := trivial
      have TK1 : True := trivial
      go_enter Tryz.func17, Tryz.ntmps17
      go_wp2_with ((clear TK0; go_at_call 21; refine (HLV.out _ N0.out.res).mono ?_; rintro e w1 ⟨rfl, hb⟩; have N1 := Lib.hid (N0.out.later hb); clear hb))
      go_wp2_with ((clear TK1; go_at_call 22; refine (HLI.out _ N1.out).mono ?_; rintro e w2 ⟨rfl, hw⟩; have N2 := Lib.hid (show NW w w2 by rw [hw]; exact N1.out.alloc _); clear hw))
      go_wp2
      go_ret
      exact ⟨rfl, N2.out.below⟩
end Go.Proofs.YtigapglmipmbeaaGreatDoor
